/- errors.As, told. -/
import Derived.Test.YtkomeflgnikflaaDoorTy
import Derived.Test.YtkomeflgnikflaaDoorAs
import Derived.Test.YtkomeflgnikflaaDoorVx10
namespace Go.Proofs.YtkomeflgnikflaaDoor
open Go Go.Vw Go.Proofs
theorem meets_errAs (i : Nat) (n o : Int) : Meets Tryd.prog 50 [.iface 82 (.leaf (.int .i64 n)), .iface 87 (.addr i 0)] [(i, [.leaf (.int .i64 o)])] [i] (.leaf (.bool true)) [(i, [.leaf (.int .i64 n)])] := by
  refine meets_as Tryd.call50 (fun e t old w hc hf hk => ?_) i n o
  have hg : w.cell? ⟨0, 0, none⟩ = some (.iface 117 (.agg #[.pointer (some ⟨1, 28, none⟩)])) := hk 0 [.iface 117 (.agg #[.pointer (some ⟨1, 28, none⟩)])] ⟨by kernel_rfl, 117, 28, by kernel_rfl, of_decide_eq_true (by kernel_rfl), by kernel_rfl, by kernel_rfl⟩ 0 _ rfl
  refine (as_hit e t old w hg hc hf).mono ?_
  rintro ev w' ⟨rfl, rfl⟩
  refine ⟨rfl, _, ?_, rfl⟩
  exact (((Keeps.alloc _ _ _).trans (Keeps.alloc _ _ _) (fun _ _ h => h)).trans (Keeps.alloc _ _ _) (fun _ _ h => h)).trans (Keeps.alloc _ _ _) (fun _ _ h => h)
end Go.Proofs.YtkomeflgnikflaaDoor

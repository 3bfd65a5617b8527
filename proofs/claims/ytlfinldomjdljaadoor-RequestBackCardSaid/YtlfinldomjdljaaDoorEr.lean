/- errors.As, told. -/
import Derived.Test.YtlfinldomjdljaaDoorTy
import Derived.Test.YtlfinldomjdljaaDoorAs
import Derived.Test.YtlfinldomjdljaaDoorVx10
namespace Go.Proofs.YtlfinldomjdljaaDoor
open Go Go.Vw Go.Proofs
theorem meets_errAs (i : Nat) (n o : Int) : Meets Tryd.prog 34 [.iface 67 (.leaf (.int .i64 n)), .iface 77 (.addr i 0)] [(i, [.leaf (.int .i64 o)])] [i] (.leaf (.bool true)) [(i, [.leaf (.int .i64 n)])] := by
  refine meets_as Tryd.call34 (fun e t old w hc hf hk => ?_) i n o
  have hg : w.cell? ⟨0, 0, none⟩ = some (.iface 95 (.agg #[.pointer (some ⟨1, 41, none⟩)])) := hk 0 [.iface 95 (.agg #[.pointer (some ⟨1, 41, none⟩)])] ⟨by kernel_rfl, 95, 41, by kernel_rfl, of_decide_eq_true (by kernel_rfl), by kernel_rfl, by kernel_rfl⟩ 0 _ rfl
  refine (as_hit e t old w hg hc hf).mono ?_
  rintro ev w' ⟨rfl, rfl⟩
  refine ⟨rfl, _, ?_, rfl⟩
  exact (((Keeps.alloc _ _ _).trans (Keeps.alloc _ _ _) (fun _ _ h => h)).trans (Keeps.alloc _ _ _) (fun _ _ h => h)).trans (Keeps.alloc _ _ _) (fun _ _ h => h)
end Go.Proofs.YtlfinldomjdljaaDoor

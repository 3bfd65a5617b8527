import Derived.Test.YtbppcnhfeobefaaDoorTy
import Derived.Test.YtbppcnhfeobefaaDoorAs
import Derived.Test.YtbppcnhfeobefaaDoorEnVx8
set_option linter.unusedVariables false
set_option linter.unusedSimpArgs false
namespace Go.Proofs.YtbppcnhfeobefaaDoor
open Go Go.Vw Go.Proofs
theorem meets_errAs (i : Nat) (n o : Int) : Meets Tryd.prog 88 [.iface 149 (.leaf (.int .i64 n)), .iface 161 (.addr i 0)] [(i, [.leaf (.int .i64 o)])] [i] (.leaf (.bool true)) [(i, [.leaf (.int .i64 n)])] := by
  refine meets_as Tryd.call88 (fun e t old w hc hf hk => ?_) i n o
  have hg : w.cell? ⟨0, 0, none⟩ = some (.iface 238 (.agg #[.pointer (some ⟨4, 26, none⟩)])) := hk 0 [.iface 238 (.agg #[.pointer (some ⟨4, 26, none⟩)])] ⟨by kernel_rfl, 238, 26, by kernel_rfl, of_decide_eq_true (by kernel_rfl), by kernel_rfl, by kernel_rfl⟩ 0 _ rfl
  refine (as_hit e t old w hg hc hf).mono ?_
  rintro ev w' ⟨rfl, rfl⟩
  refine ⟨rfl, _, ?_, rfl⟩
  exact (((Keeps.alloc _ _ _).trans (Keeps.alloc _ _ _) (fun _ _ h => h)).trans (Keeps.alloc _ _ _) (fun _ _ h => h)).trans (Keeps.alloc _ _ _) (fun _ _ h => h)
end Go.Proofs.YtbppcnhfeobefaaDoor

import Derived.Test.YtdlnppcndcfikaaDoorTy
import Derived.Test.YtdlnppcndcfikaaDoorAs
import Derived.Test.YtdlnppcndcfikaaDoorEnVx8
set_option linter.unusedVariables false
set_option linter.unusedSimpArgs false
namespace Go.Proofs.YtdlnppcndcfikaaDoor
open Go Go.Vw Go.Proofs
theorem meets_errAs (i : Nat) (n o : Int) : Meets Tryd.prog 34 [.iface 65 (.leaf (.int .i64 n)), .iface 69 (.addr i 0)] [(i, [.leaf (.int .i64 o)])] [i] (.leaf (.bool true)) [(i, [.leaf (.int .i64 n)])] := by
  refine meets_as Tryd.call34 (fun e t old w hc hf hk => ?_) i n o
  have hg : w.cell? ⟨0, 0, none⟩ = some (.iface 105 (.agg #[.pointer (some ⟨1, 27, none⟩)])) := hk 0 [.iface 105 (.agg #[.pointer (some ⟨1, 27, none⟩)])] ⟨by kernel_rfl, 105, 27, by kernel_rfl, of_decide_eq_true (by kernel_rfl), by kernel_rfl, by kernel_rfl⟩ 0 _ rfl
  refine (as_hit e t old w hg hc hf).mono ?_
  rintro ev w' ⟨rfl, rfl⟩
  refine ⟨rfl, _, ?_, rfl⟩
  exact (((Keeps.alloc _ _ _).trans (Keeps.alloc _ _ _) (fun _ _ h => h)).trans (Keeps.alloc _ _ _) (fun _ _ h => h)).trans (Keeps.alloc _ _ _) (fun _ _ h => h)
end Go.Proofs.YtdlnppcndcfikaaDoor

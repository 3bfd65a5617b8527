import Derived.Test.YtdlnppcndcfikaaDoorP6
import Derived.Test.YtdlnppcndcfikaaDoorG9
set_option linter.unusedVariables false
set_option linter.unusedSimpArgs false
namespace Go.Proofs.YtdlnppcndcfikaaDoor
open Go Go.Vw Go.Proofs
theorem sure34 : bursarylaw34_sure = true := by kernel_rfl
theorem guard34 {k n : Nat} (h : (decide ((k : Int) > 200)) = false) (h2 : (decide ((n : Int) > 12)) = false) : k ≤ 200 ∧ n ≤ 12 :=
  ⟨by have := of_decide_eq_false h; omega, by have := of_decide_eq_false h2; omega⟩
end Go.Proofs.YtdlnppcndcfikaaDoor

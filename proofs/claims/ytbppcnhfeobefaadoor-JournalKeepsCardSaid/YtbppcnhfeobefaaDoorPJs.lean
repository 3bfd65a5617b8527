import Derived.Test.YtbppcnhfeobefaaDoorJ6
set_option linter.unusedVariables false
namespace Go.Proofs.YtbppcnhfeobefaaDoor
open Go Go.Vw Go.Proofs
theorem sure15 : b5_sure = true := by kernel_rfl
end Go.Proofs.YtbppcnhfeobefaaDoor

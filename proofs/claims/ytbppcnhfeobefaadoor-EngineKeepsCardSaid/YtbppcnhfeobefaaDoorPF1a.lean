import Derived.Test.YtbppcnhfeobefaaDoorPE5
set_option linter.unusedVariables false
set_option linter.unusedSimpArgs false
namespace Go.Proofs.YtbppcnhfeobefaaDoor
open Go Go.Vw Go.Proofs
theorem sure30_true : bursarylaw30_sure = true := by kernel_rfl
end Go.Proofs.YtbppcnhfeobefaaDoor

import Derived.Test.YtbppcnhfeobefaaDoorH8
set_option linter.unusedVariables false
set_option linter.unusedSimpArgs false
namespace Go.Proofs.YtbppcnhfeobefaaDoor
open Go Go.Vw Go.Proofs
end Go.Proofs.YtbppcnhfeobefaaDoor

import Derived.Test.YtbppcnhfeobefaaDoorH2
set_option linter.unusedVariables false
namespace Go.Proofs.YtbppcnhfeobefaaDoor
open Go Go.Vw Go.Proofs
end Go.Proofs.YtbppcnhfeobefaaDoor

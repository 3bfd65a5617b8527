import Derived.Test.YtbppcnhfeobefaaDoorF1
set_option linter.unusedVariables false
namespace Go.Proofs.YtbppcnhfeobefaaDoor
open Go Go.Vw Go.Proofs
end Go.Proofs.YtbppcnhfeobefaaDoor

import Derived.Test.YtbppcnhfeobefabDoorG3
set_option linter.unusedVariables false
set_option linter.unusedSimpArgs false
namespace Go.Proofs.YtbppcnhfeobefabDoor
open Go Go.Vw Go.Proofs
end Go.Proofs.YtbppcnhfeobefabDoor

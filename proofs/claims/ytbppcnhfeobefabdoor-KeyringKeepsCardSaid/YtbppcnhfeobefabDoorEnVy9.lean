import Derived.Test.YtbppcnhfeobefabDoorEnVy0
set_option linter.unusedVariables false
set_option linter.unusedSimpArgs false
namespace Go.Vw
open Go Go.RowKit
variable {α : Type} {g : α → List T} {m : Nat}
end Go.Vw

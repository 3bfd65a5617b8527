/- What all rows of this seat lean on: the program's own facts; the variable errors.errorType, as it is laid. -/
import Derived.Test.YtdlnppcndcfikaaVr
import Derived.Test.YtdlnppcndcfikaaRows
import Derived.ProofKit
import Derived.OpenShut
import Derived.Deep.DeepHandedRow
import Derived.LaidHandle
import Derived.LaidLaws
import Derived.JoinedCond
import Derived.SizedLaws
namespace Go.Proofs.Ytdlnppcndcfikaa
set_option linter.unusedVariables false
set_option linter.unusedSimpArgs false
open Go Go.Vw Go.ChangeShapes Go.WideShapes Go.RowKit Go.ChangeAt
theorem own : ownKnob Try.prog.godebug = none := by kernel_rfl
theorem laidOut : laidOutB Try.prog = true := by kernel_rfl
theorem held {W : World} : ∀ b cs, Known Try.prog b cs → b < W.heap.size ∧ CellsAt W b 0 cs := fun b cs h => by
  have : Try.prog.globalNamed "errors.errorType" = none := by kernel_rfl
  rw [h.1] at this; cases this
noncomputable def laidWorld (os : Os) : World := World.holding Try.prog os ⟨#[], #[], []⟩
theorem laidWorld_met (os : Os) (args : Array Value) : laidMetH Try.prog [] ((laidWorld os).forCall (fun _ _ => 0) ⟨#[], args, []⟩).memory := laidMet_nil _ _
end Go.Proofs.Ytdlnppcndcfikaa

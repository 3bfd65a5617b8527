/-
  DERIVED. GIVEN WITH THE SEED: THE CARDS: each row of YtlfinldomjdljaaDoorRows.lean that lists a variable, with what it lists TIED to the program's text (the seventh form; the later family's looks); each row that meets fmt, with fmt's text TOLD by the authors' own Lean function (tested against real Go, not proved from fmt's source: count such statements apart). THE CARD IS WHAT COUNTS. Prove the row's statement (the work); the ties are given (YtlfinldomjdljaaDoorTie.lean); close each card by the builder's one call (the guide's Derived/Test/ToyasCard.lean, 'card_holds'). Laid BY PROGRAM, IN A SANDBOX (cutbox-door.mjs). By AI agents, Wed Nov 11 2026. No macro, syntax, notation, axiom, sorry.
-/
import Derived.Test.YtlfinldomjdljaaDoorRows
import GoSem.ClaimSeven
namespace Go.Proofs.YtlfinldomjdljaaDoor
namespace Rows

/-- THE TIED CARD OF 'bursarylaw32.RequestNames'. -/
def requestNamesCard : Claim7 := { stood := { row := requestNamesRow, standIns := [], harness := (true, "9f5a2985e754f02f060547e2bf73da7c9ede4123838c743842ca6bb28ff1951c"), looks := true }, kinds := [], alts := [], laidByText := true, laidKinds := [.handle], laidTests := true, laidLooks := .later }
def RequestNamesCardSaid : Prop := Claim7.holds Tryd.pinned (.plain (OpenSpec.ofChange requestNamesSpec)) requestNamesCard

/-- THE TIED CARD OF 'bursarylaw32.RequestForms'. -/
def requestFormsCard : Claim7 := { stood := { row := requestFormsRow, standIns := [], harness := (true, "9f5a2985e754f02f060547e2bf73da7c9ede4123838c743842ca6bb28ff1951c"), looks := true }, kinds := [], alts := [], laidByText := true, laidKinds := [.handle], laidTests := true, laidLooks := .later }
def RequestFormsCardSaid : Prop := Claim7.holds Tryd.pinned (.plain (OpenSpec.ofChange requestFormsSpec)) requestFormsCard

/-- THE TIED CARD OF 'bursarylaw32.RequestBack'. -/
def requestBackCard : Claim7 := { stood := { row := requestBackRow, standIns := [], harness := (true, "9f5a2985e754f02f060547e2bf73da7c9ede4123838c743842ca6bb28ff1951c"), looks := true }, kinds := [], alts := [], laidByText := true, laidKinds := [.handle], laidTests := true, laidLooks := .later }
def RequestBackCardSaid : Prop := Claim7.holds Tryd.pinned (.plain (OpenSpec.ofChange requestBackSpec)) requestBackCard

/-- THE SECOND FORM's CARD OF 'bursarylaw32.RequestNames'. -/
def requestNamesUptoCard : Claim7 := { stood := { row := requestNamesUptoRow, standIns := [], harness := (true, "9f5a2985e754f02f060547e2bf73da7c9ede4123838c743842ca6bb28ff1951c"), looks := true }, kinds := [], alts := [], laidByText := true, laidKinds := [.handle], laidTests := true, laidLooks := .later }
def RequestNamesUptoCardSaid : Prop := Claim7.holds Tryd.pinned (.plain (OpenSpec.upto requestNamesSpec)) requestNamesUptoCard

/-- THE SECOND FORM's CARD OF 'bursarylaw32.RequestForms'. -/
def requestFormsUptoCard : Claim7 := { stood := { row := requestFormsUptoRow, standIns := [], harness := (true, "9f5a2985e754f02f060547e2bf73da7c9ede4123838c743842ca6bb28ff1951c"), looks := true }, kinds := [], alts := [], laidByText := true, laidKinds := [.handle], laidTests := true, laidLooks := .later }
def RequestFormsUptoCardSaid : Prop := Claim7.holds Tryd.pinned (.plain (OpenSpec.upto requestFormsSpec)) requestFormsUptoCard

/-- THE SECOND FORM's CARD OF 'bursarylaw32.RequestBack'. -/
def requestBackUptoCard : Claim7 := { stood := { row := requestBackUptoRow, standIns := [], harness := (true, "9f5a2985e754f02f060547e2bf73da7c9ede4123838c743842ca6bb28ff1951c"), looks := true }, kinds := [], alts := [], laidByText := true, laidKinds := [.handle], laidTests := true, laidLooks := .later }
def RequestBackUptoCardSaid : Prop := Claim7.holds Tryd.pinned (.plain (OpenSpec.upto requestBackSpec)) requestBackUptoCard
end Rows
end Go.Proofs.YtlfinldomjdljaaDoor

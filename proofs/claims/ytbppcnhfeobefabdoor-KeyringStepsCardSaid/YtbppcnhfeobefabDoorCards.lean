/-
  DERIVED. GIVEN WITH THE SEED: THE CARDS: each row of YtbppcnhfeobefabDoorRows.lean that lists a variable, with what it lists TIED to the program's text (the seventh form; the later family's looks); each row that meets fmt, with fmt's text TOLD by the authors' own Lean function (tested against real Go, not proved from fmt's source: count such statements apart). THE CARD IS WHAT COUNTS. Prove the row's statement (the work); the ties are given (YtbppcnhfeobefabDoorTie.lean); close each card by the builder's one call (the guide's Derived/Test/ToyasCard.lean, 'card_holds'). Laid BY PROGRAM, IN A SANDBOX (cutbox-door.mjs). By AI agents, Wed Nov 11 2026. No macro, syntax, notation, axiom, sorry.
-/
import Derived.Test.YtbppcnhfeobefabDoorRows
import GoSem.ClaimSeven
namespace Go.Proofs.YtbppcnhfeobefabDoor
namespace Rows

/-- THE TIED CARD OF 'bursarylaw16.TableNames'. -/
def tableNamesCard : Claim7 := { stood := { row := tableNamesRow, standIns := [], harness := (true, "6baef5130e2f3ddc2d374d035f67c238ec4fd20d98a1058056f10a23eaa90232"), looks := true }, kinds := [], alts := [], laidByText := true, laidKinds := [.handle], laidTests := true, laidLooks := .later }
def TableNamesCardSaid : Prop := Claim7.holds Tryd.pinned (.plain (OpenSpec.ofChange tableNamesSpec)) tableNamesCard

/-- THE TIED CARD OF 'bursarylaw16.TableSteps'. -/
def tableStepsCard : Claim7 := { stood := { row := tableStepsRow, standIns := [], harness := (true, "6baef5130e2f3ddc2d374d035f67c238ec4fd20d98a1058056f10a23eaa90232"), looks := true }, kinds := [], alts := [], laidByText := true, laidKinds := [.handle], laidTests := true, laidLooks := .later }
def TableStepsCardSaid : Prop := Claim7.holds Tryd.pinned (.plain (OpenSpec.ofChange tableStepsSpec)) tableStepsCard

/-- THE TIED CARD OF 'bursarylaw16.TableForms'. -/
def tableFormsCard : Claim7 := { stood := { row := tableFormsRow, standIns := [], harness := (true, "6baef5130e2f3ddc2d374d035f67c238ec4fd20d98a1058056f10a23eaa90232"), looks := true }, kinds := [], alts := [], laidByText := true, laidKinds := [.handle], laidTests := true, laidLooks := .later }
def TableFormsCardSaid : Prop := Claim7.holds Tryd.pinned (.plain (OpenSpec.ofChange tableFormsSpec)) tableFormsCard

/-- THE TIED CARD OF 'bursarylaw16.TableBack'. -/
def tableBackCard : Claim7 := { stood := { row := tableBackRow, standIns := [], harness := (true, "6baef5130e2f3ddc2d374d035f67c238ec4fd20d98a1058056f10a23eaa90232"), looks := true }, kinds := [], alts := [], laidByText := true, laidKinds := [.handle], laidTests := true, laidLooks := .later }
def TableBackCardSaid : Prop := Claim7.holds Tryd.pinned (.plain (OpenSpec.ofChange tableBackSpec)) tableBackCard

/-- THE TIED CARD OF 'bursarylaw19.KeyringCuts'. -/
def keyringCutsCard : Claim7 := { stood := { row := keyringCutsRow, standIns := [], harness := (true, "6baef5130e2f3ddc2d374d035f67c238ec4fd20d98a1058056f10a23eaa90232"), looks := true }, kinds := [], alts := [], laidByText := true, laidKinds := [.handle], laidTests := true, laidLooks := .later }
def KeyringCutsCardSaid : Prop := Claim7.holds Tryd.pinned (.plain (OpenSpec.ofChange keyringCutsSpec)) keyringCutsCard

/-- THE TIED CARD OF 'bursarylaw19.KeyringSteps'. -/
def keyringStepsCard : Claim7 := { stood := { row := keyringStepsRow, standIns := [], harness := (true, "6baef5130e2f3ddc2d374d035f67c238ec4fd20d98a1058056f10a23eaa90232"), looks := true }, kinds := [], alts := [], laidByText := true, laidKinds := [.handle], laidTests := true, laidLooks := .later }
def KeyringStepsCardSaid : Prop := Claim7.holds Tryd.pinned (.plain (OpenSpec.ofChange keyringStepsSpec)) keyringStepsCard

/-- THE TIED CARD OF 'bursarylaw19.KeyringKeeps'. -/
def keyringKeepsCard : Claim7 := { stood := { row := keyringKeepsRow, standIns := [], harness := (true, "6baef5130e2f3ddc2d374d035f67c238ec4fd20d98a1058056f10a23eaa90232"), looks := true }, kinds := [], alts := [], laidByText := true, laidKinds := [.handle], laidTests := true, laidLooks := .later }
def KeyringKeepsCardSaid : Prop := Claim7.holds Tryd.pinned (.plain (OpenSpec.ofChange keyringKeepsSpec)) keyringKeepsCard

/-- THE SECOND FORM's CARD OF 'bursarylaw16.TableNames'. -/
def tableNamesUptoCard : Claim7 := { stood := { row := tableNamesUptoRow, standIns := [], harness := (true, "6baef5130e2f3ddc2d374d035f67c238ec4fd20d98a1058056f10a23eaa90232"), looks := true }, kinds := [], alts := [], laidByText := true, laidKinds := [.handle], laidTests := true, laidLooks := .later }
def TableNamesUptoCardSaid : Prop := Claim7.holds Tryd.pinned (.plain (OpenSpec.upto tableNamesSpec)) tableNamesUptoCard

/-- THE SECOND FORM's CARD OF 'bursarylaw16.TableSteps'. -/
def tableStepsUptoCard : Claim7 := { stood := { row := tableStepsUptoRow, standIns := [], harness := (true, "6baef5130e2f3ddc2d374d035f67c238ec4fd20d98a1058056f10a23eaa90232"), looks := true }, kinds := [], alts := [], laidByText := true, laidKinds := [.handle], laidTests := true, laidLooks := .later }
def TableStepsUptoCardSaid : Prop := Claim7.holds Tryd.pinned (.plain (OpenSpec.upto tableStepsSpec)) tableStepsUptoCard

/-- THE SECOND FORM's CARD OF 'bursarylaw16.TableForms'. -/
def tableFormsUptoCard : Claim7 := { stood := { row := tableFormsUptoRow, standIns := [], harness := (true, "6baef5130e2f3ddc2d374d035f67c238ec4fd20d98a1058056f10a23eaa90232"), looks := true }, kinds := [], alts := [], laidByText := true, laidKinds := [.handle], laidTests := true, laidLooks := .later }
def TableFormsUptoCardSaid : Prop := Claim7.holds Tryd.pinned (.plain (OpenSpec.upto tableFormsSpec)) tableFormsUptoCard

/-- THE SECOND FORM's CARD OF 'bursarylaw16.TableBack'. -/
def tableBackUptoCard : Claim7 := { stood := { row := tableBackUptoRow, standIns := [], harness := (true, "6baef5130e2f3ddc2d374d035f67c238ec4fd20d98a1058056f10a23eaa90232"), looks := true }, kinds := [], alts := [], laidByText := true, laidKinds := [.handle], laidTests := true, laidLooks := .later }
def TableBackUptoCardSaid : Prop := Claim7.holds Tryd.pinned (.plain (OpenSpec.upto tableBackSpec)) tableBackUptoCard

/-- THE SECOND FORM's CARD OF 'bursarylaw19.KeyringCuts'. -/
def keyringCutsUptoCard : Claim7 := { stood := { row := keyringCutsUptoRow, standIns := [], harness := (true, "6baef5130e2f3ddc2d374d035f67c238ec4fd20d98a1058056f10a23eaa90232"), looks := true }, kinds := [], alts := [], laidByText := true, laidKinds := [.handle], laidTests := true, laidLooks := .later }
def KeyringCutsUptoCardSaid : Prop := Claim7.holds Tryd.pinned (.plain (OpenSpec.upto keyringCutsSpec)) keyringCutsUptoCard

/-- THE SECOND FORM's CARD OF 'bursarylaw19.KeyringSteps'. -/
def keyringStepsUptoCard : Claim7 := { stood := { row := keyringStepsUptoRow, standIns := [], harness := (true, "6baef5130e2f3ddc2d374d035f67c238ec4fd20d98a1058056f10a23eaa90232"), looks := true }, kinds := [], alts := [], laidByText := true, laidKinds := [.handle], laidTests := true, laidLooks := .later }
def KeyringStepsUptoCardSaid : Prop := Claim7.holds Tryd.pinned (.plain (OpenSpec.upto keyringStepsSpec)) keyringStepsUptoCard

/-- THE SECOND FORM's CARD OF 'bursarylaw19.KeyringKeeps'. -/
def keyringKeepsUptoCard : Claim7 := { stood := { row := keyringKeepsUptoRow, standIns := [], harness := (true, "6baef5130e2f3ddc2d374d035f67c238ec4fd20d98a1058056f10a23eaa90232"), looks := true }, kinds := [], alts := [], laidByText := true, laidKinds := [.handle], laidTests := true, laidLooks := .later }
def KeyringKeepsUptoCardSaid : Prop := Claim7.holds Tryd.pinned (.plain (OpenSpec.upto keyringKeepsSpec)) keyringKeepsUptoCard
end Rows
end Go.Proofs.YtbppcnhfeobefabDoor

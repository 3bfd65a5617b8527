/-
  DERIVED. GIVEN WITH THE SEED: THE CARDS: each row of YtbppcnhfeobefaaDoorRows.lean that lists a variable, with what it lists TIED to the program's text (the seventh form; the later family's looks); each row that meets fmt, with fmt's text TOLD by the authors' own Lean function (tested against real Go, not proved from fmt's source: count such statements apart). THE CARD IS WHAT COUNTS. Prove the row's statement (the work); the ties are given (YtbppcnhfeobefaaDoorTie.lean); close each card by the builder's one call (the guide's Derived/Test/ToyasCard.lean, 'card_holds'). Laid BY PROGRAM, IN A SANDBOX (cutbox-door.mjs). By AI agents, Wed Nov 11 2026. No macro, syntax, notation, axiom, sorry.
-/
import Derived.Test.YtbppcnhfeobefaaDoorRows
import GoSem.ClaimSeven
namespace Go.Proofs.YtbppcnhfeobefaaDoor
namespace Rows

/-- THE TIED CARD OF 'bursarylaw13.DiskKeeps'. -/
def diskKeepsCard : Claim7 := { stood := { row := diskKeepsRow, standIns := [], harness := (true, "300964b97e6eac397d2cf95ce1cc8b51b7880a529f0738d6c5490bcf1770c762"), looks := true }, kinds := [], alts := [], laidByText := true, laidKinds := [.handle], laidTests := true, laidLooks := .later }
def DiskKeepsCardSaid : Prop := Claim7.holds Tryd.pinned (.plain (OpenSpec.ofChange diskKeepsSpec)) diskKeepsCard

/-- THE TIED CARD OF 'bursarylaw13.DiskDown'. -/
def diskDownCard : Claim7 := { stood := { row := diskDownRow, standIns := [], harness := (true, "300964b97e6eac397d2cf95ce1cc8b51b7880a529f0738d6c5490bcf1770c762"), looks := true }, kinds := [], alts := [], laidByText := true, laidKinds := [.handle], laidTests := true, laidLooks := .later }
def DiskDownCardSaid : Prop := Claim7.holds Tryd.pinned (.plain (OpenSpec.ofChange diskDownSpec)) diskDownCard

/-- THE TIED CARD OF 'bursarylaw13.DiskRuns'. -/
def diskRunsCard : Claim7 := { stood := { row := diskRunsRow, standIns := [], harness := (true, "300964b97e6eac397d2cf95ce1cc8b51b7880a529f0738d6c5490bcf1770c762"), looks := true }, kinds := [], alts := [], laidByText := true, laidKinds := [.handle], laidTests := true, laidLooks := .later }
def DiskRunsCardSaid : Prop := Claim7.holds Tryd.pinned (.plain (OpenSpec.ofChange diskRunsSpec)) diskRunsCard

/-- THE TIED CARD OF 'bursarylaw30.EngineCas'. -/
def engineCasCard : Claim7 := { stood := { row := engineCasRow, standIns := [], harness := (true, "300964b97e6eac397d2cf95ce1cc8b51b7880a529f0738d6c5490bcf1770c762"), looks := true }, kinds := [], alts := [], laidByText := true, laidKinds := [.handle], laidTests := true, laidLooks := .later }
def EngineCasCardSaid : Prop := Claim7.holds Tryd.pinned (.plain (OpenSpec.ofChange engineCasSpec)) engineCasCard

/-- THE TIED CARD OF 'bursarylaw30.EngineSteps'. -/
def engineStepsCard : Claim7 := { stood := { row := engineStepsRow, standIns := [], harness := (true, "300964b97e6eac397d2cf95ce1cc8b51b7880a529f0738d6c5490bcf1770c762"), looks := true }, kinds := [], alts := [], laidByText := true, laidKinds := [.handle], laidTests := true, laidLooks := .later }
def EngineStepsCardSaid : Prop := Claim7.holds Tryd.pinned (.plain (OpenSpec.ofChange engineStepsSpec)) engineStepsCard

/-- THE TIED CARD OF 'bursarylaw30.EngineKeeps'. -/
def engineKeepsCard : Claim7 := { stood := { row := engineKeepsRow, standIns := [], harness := (true, "300964b97e6eac397d2cf95ce1cc8b51b7880a529f0738d6c5490bcf1770c762"), looks := true }, kinds := [], alts := [], laidByText := true, laidKinds := [.handle], laidTests := true, laidLooks := .later }
def EngineKeepsCardSaid : Prop := Claim7.holds Tryd.pinned (.plain (OpenSpec.ofChange engineKeepsSpec)) engineKeepsCard

/-- THE TIED CARD OF 'bursarylaw30.EngineForms'. -/
def engineFormsCard : Claim7 := { stood := { row := engineFormsRow, standIns := [], harness := (true, "300964b97e6eac397d2cf95ce1cc8b51b7880a529f0738d6c5490bcf1770c762"), looks := true }, kinds := [], alts := [], laidByText := true, laidKinds := [.handle], laidTests := true, laidLooks := .later }
def EngineFormsCardSaid : Prop := Claim7.holds Tryd.pinned (.plain (OpenSpec.ofChange engineFormsSpec)) engineFormsCard

/-- THE TIED CARD OF 'bursarylaw15.JournalKeeps'. -/
def journalKeepsCard : Claim7 := { stood := { row := journalKeepsRow, standIns := [], harness := (true, "300964b97e6eac397d2cf95ce1cc8b51b7880a529f0738d6c5490bcf1770c762"), looks := true }, kinds := [], alts := [], laidByText := true, laidKinds := [.handle], laidTests := true, laidLooks := .later }
def JournalKeepsCardSaid : Prop := Claim7.holds Tryd.pinned (.plain (OpenSpec.ofChange journalKeepsSpec)) journalKeepsCard

/-- THE TIED CARD OF 'bursarylaw15.JournalRuns'. -/
def journalRunsCard : Claim7 := { stood := { row := journalRunsRow, standIns := [], harness := (true, "300964b97e6eac397d2cf95ce1cc8b51b7880a529f0738d6c5490bcf1770c762"), looks := true }, kinds := [], alts := [], laidByText := true, laidKinds := [.handle], laidTests := true, laidLooks := .later }
def JournalRunsCardSaid : Prop := Claim7.holds Tryd.pinned (.plain (OpenSpec.ofChange journalRunsSpec)) journalRunsCard

/-- THE TIED CARD OF 'bursarylaw04.SharecodeForms'. -/
def sharecodeFormsCard : Claim7 := { stood := { row := sharecodeFormsRow, standIns := [], harness := (true, "300964b97e6eac397d2cf95ce1cc8b51b7880a529f0738d6c5490bcf1770c762"), looks := true }, kinds := [], alts := [], laidByText := true, laidKinds := [.data, .handle, .pinned], laidTests := true, laidLooks := .later }
def SharecodeFormsCardSaid : Prop := Claim7.holds Tryd.pinned (.plain (OpenSpec.ofChange sharecodeFormsSpec)) sharecodeFormsCard

/-- THE TIED CARD OF 'bursarylaw04.SharecodeBack'. -/
def sharecodeBackCard : Claim7 := { stood := { row := sharecodeBackRow, standIns := [], harness := (true, "300964b97e6eac397d2cf95ce1cc8b51b7880a529f0738d6c5490bcf1770c762"), looks := true }, kinds := [], alts := [], laidByText := true, laidKinds := [.data, .handle, .pinned], laidTests := true, laidLooks := .later }
def SharecodeBackCardSaid : Prop := Claim7.holds Tryd.pinned (.plain (OpenSpec.ofChange sharecodeBackSpec)) sharecodeBackCard

/-- THE SECOND FORM's CARD OF 'bursarylaw13.DiskKeeps'. -/
def diskKeepsUptoCard : Claim7 := { stood := { row := diskKeepsUptoRow, standIns := [], harness := (true, "300964b97e6eac397d2cf95ce1cc8b51b7880a529f0738d6c5490bcf1770c762"), looks := true }, kinds := [], alts := [], laidByText := true, laidKinds := [.handle], laidTests := true, laidLooks := .later }
def DiskKeepsUptoCardSaid : Prop := Claim7.holds Tryd.pinned (.plain (OpenSpec.upto diskKeepsSpec)) diskKeepsUptoCard

/-- THE SECOND FORM's CARD OF 'bursarylaw13.DiskDown'. -/
def diskDownUptoCard : Claim7 := { stood := { row := diskDownUptoRow, standIns := [], harness := (true, "300964b97e6eac397d2cf95ce1cc8b51b7880a529f0738d6c5490bcf1770c762"), looks := true }, kinds := [], alts := [], laidByText := true, laidKinds := [.handle], laidTests := true, laidLooks := .later }
def DiskDownUptoCardSaid : Prop := Claim7.holds Tryd.pinned (.plain (OpenSpec.upto diskDownSpec)) diskDownUptoCard

/-- THE SECOND FORM's CARD OF 'bursarylaw13.DiskRuns'. -/
def diskRunsUptoCard : Claim7 := { stood := { row := diskRunsUptoRow, standIns := [], harness := (true, "300964b97e6eac397d2cf95ce1cc8b51b7880a529f0738d6c5490bcf1770c762"), looks := true }, kinds := [], alts := [], laidByText := true, laidKinds := [.handle], laidTests := true, laidLooks := .later }
def DiskRunsUptoCardSaid : Prop := Claim7.holds Tryd.pinned (.plain (OpenSpec.upto diskRunsSpec)) diskRunsUptoCard

/-- THE SECOND FORM's CARD OF 'bursarylaw30.EngineCas'. -/
def engineCasUptoCard : Claim7 := { stood := { row := engineCasUptoRow, standIns := [], harness := (true, "300964b97e6eac397d2cf95ce1cc8b51b7880a529f0738d6c5490bcf1770c762"), looks := true }, kinds := [], alts := [], laidByText := true, laidKinds := [.handle], laidTests := true, laidLooks := .later }
def EngineCasUptoCardSaid : Prop := Claim7.holds Tryd.pinned (.plain (OpenSpec.upto engineCasSpec)) engineCasUptoCard

/-- THE SECOND FORM's CARD OF 'bursarylaw30.EngineSteps'. -/
def engineStepsUptoCard : Claim7 := { stood := { row := engineStepsUptoRow, standIns := [], harness := (true, "300964b97e6eac397d2cf95ce1cc8b51b7880a529f0738d6c5490bcf1770c762"), looks := true }, kinds := [], alts := [], laidByText := true, laidKinds := [.handle], laidTests := true, laidLooks := .later }
def EngineStepsUptoCardSaid : Prop := Claim7.holds Tryd.pinned (.plain (OpenSpec.upto engineStepsSpec)) engineStepsUptoCard

/-- THE SECOND FORM's CARD OF 'bursarylaw30.EngineKeeps'. -/
def engineKeepsUptoCard : Claim7 := { stood := { row := engineKeepsUptoRow, standIns := [], harness := (true, "300964b97e6eac397d2cf95ce1cc8b51b7880a529f0738d6c5490bcf1770c762"), looks := true }, kinds := [], alts := [], laidByText := true, laidKinds := [.handle], laidTests := true, laidLooks := .later }
def EngineKeepsUptoCardSaid : Prop := Claim7.holds Tryd.pinned (.plain (OpenSpec.upto engineKeepsSpec)) engineKeepsUptoCard

/-- THE SECOND FORM's CARD OF 'bursarylaw30.EngineForms'. -/
def engineFormsUptoCard : Claim7 := { stood := { row := engineFormsUptoRow, standIns := [], harness := (true, "300964b97e6eac397d2cf95ce1cc8b51b7880a529f0738d6c5490bcf1770c762"), looks := true }, kinds := [], alts := [], laidByText := true, laidKinds := [.handle], laidTests := true, laidLooks := .later }
def EngineFormsUptoCardSaid : Prop := Claim7.holds Tryd.pinned (.plain (OpenSpec.upto engineFormsSpec)) engineFormsUptoCard

/-- THE SECOND FORM's CARD OF 'bursarylaw15.JournalKeeps'. -/
def journalKeepsUptoCard : Claim7 := { stood := { row := journalKeepsUptoRow, standIns := [], harness := (true, "300964b97e6eac397d2cf95ce1cc8b51b7880a529f0738d6c5490bcf1770c762"), looks := true }, kinds := [], alts := [], laidByText := true, laidKinds := [.handle], laidTests := true, laidLooks := .later }
def JournalKeepsUptoCardSaid : Prop := Claim7.holds Tryd.pinned (.plain (OpenSpec.upto journalKeepsSpec)) journalKeepsUptoCard

/-- THE SECOND FORM's CARD OF 'bursarylaw15.JournalRuns'. -/
def journalRunsUptoCard : Claim7 := { stood := { row := journalRunsUptoRow, standIns := [], harness := (true, "300964b97e6eac397d2cf95ce1cc8b51b7880a529f0738d6c5490bcf1770c762"), looks := true }, kinds := [], alts := [], laidByText := true, laidKinds := [.handle], laidTests := true, laidLooks := .later }
def JournalRunsUptoCardSaid : Prop := Claim7.holds Tryd.pinned (.plain (OpenSpec.upto journalRunsSpec)) journalRunsUptoCard

/-- THE SECOND FORM's CARD OF 'bursarylaw04.SharecodeForms'. -/
def sharecodeFormsUptoCard : Claim7 := { stood := { row := sharecodeFormsUptoRow, standIns := [], harness := (true, "300964b97e6eac397d2cf95ce1cc8b51b7880a529f0738d6c5490bcf1770c762"), looks := true }, kinds := [], alts := [], laidByText := true, laidKinds := [.data, .handle, .pinned], laidTests := true, laidLooks := .later }
def SharecodeFormsUptoCardSaid : Prop := Claim7.holds Tryd.pinned (.plain (OpenSpec.upto sharecodeFormsSpec)) sharecodeFormsUptoCard

/-- THE SECOND FORM's CARD OF 'bursarylaw04.SharecodeBack'. -/
def sharecodeBackUptoCard : Claim7 := { stood := { row := sharecodeBackUptoRow, standIns := [], harness := (true, "300964b97e6eac397d2cf95ce1cc8b51b7880a529f0738d6c5490bcf1770c762"), looks := true }, kinds := [], alts := [], laidByText := true, laidKinds := [.data, .handle, .pinned], laidTests := true, laidLooks := .later }
def SharecodeBackUptoCardSaid : Prop := Claim7.holds Tryd.pinned (.plain (OpenSpec.upto sharecodeBackSpec)) sharecodeBackUptoCard
end Rows
end Go.Proofs.YtbppcnhfeobefaaDoor

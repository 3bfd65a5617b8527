/-
  DERIVED. GIVEN WITH THE SEED: THE CARDS: each row of YtmedboagdnpkbaaDoorRows.lean that lists a variable, with what it lists TIED to the program's text (the seventh form; the later family's looks); each row that meets fmt, with fmt's text TOLD by the authors' own Lean function (tested against real Go, not proved from fmt's source: count such statements apart). THE CARD IS WHAT COUNTS. Prove the row's statement (the work); the ties are given (YtmedboagdnpkbaaDoorTie.lean); close each card by the builder's one call (the guide's Derived/Test/ToyasCard.lean, 'card_holds'). Laid BY PROGRAM, IN A SANDBOX (cutbox-door.mjs). By AI agents, Wed Nov 11 2026. No macro, syntax, notation, axiom, sorry.
-/
import Derived.Test.YtmedboagdnpkbaaDoorRows
import GoSem.ClaimSeven
namespace Go.Proofs.YtmedboagdnpkbaaDoor
namespace Rows

/-- THE TIED CARD OF 'bursarylaw27.ClockOnward'. -/
def clockOnwardCard : Claim7 := { stood := { row := clockOnwardRow, standIns := [], harness := (true, "12b8c8fc1493b2a9537982247b54da6bfce7d7bcf8c84e90f0131731951c0e5c"), looks := true }, kinds := [], alts := [], laidByText := true, laidKinds := [.handle], laidTests := true, laidLooks := .later }
def ClockOnwardCardSaid : Prop := Claim7.holds Tryd.pinned (.plain (OpenSpec.ofChange clockOnwardSpec)) clockOnwardCard

/-- THE TIED CARD OF 'bursarylaw27.ClockExact'. -/
def clockExactCard : Claim7 := { stood := { row := clockExactRow, standIns := [], harness := (true, "12b8c8fc1493b2a9537982247b54da6bfce7d7bcf8c84e90f0131731951c0e5c"), looks := true }, kinds := [], alts := [], laidByText := true, laidKinds := [.handle], laidTests := true, laidLooks := .later }
def ClockExactCardSaid : Prop := Claim7.holds Tryd.pinned (.plain (OpenSpec.ofChange clockExactSpec)) clockExactCard

/-- THE TIED CARD OF 'bursarylaw27.ClockRenews'. -/
def clockRenewsCard : Claim7 := { stood := { row := clockRenewsRow, standIns := [], harness := (true, "12b8c8fc1493b2a9537982247b54da6bfce7d7bcf8c84e90f0131731951c0e5c"), looks := true }, kinds := [], alts := [], laidByText := true, laidKinds := [.handle], laidTests := true, laidLooks := .later }
def ClockRenewsCardSaid : Prop := Claim7.holds Tryd.pinned (.plain (OpenSpec.ofChange clockRenewsSpec)) clockRenewsCard

/-- THE TIED CARD OF 'bursarylaw21.ConfigSteps'. -/
def configStepsCard : Claim7 := { stood := { row := configStepsRow, standIns := [], harness := (true, "12b8c8fc1493b2a9537982247b54da6bfce7d7bcf8c84e90f0131731951c0e5c"), looks := true }, kinds := [], alts := [], laidByText := true, laidKinds := [.handle], laidTests := true, laidLooks := .later }
def ConfigStepsCardSaid : Prop := Claim7.holds Tryd.pinned (.plain (OpenSpec.ofChange configStepsSpec)) configStepsCard

/-- THE TIED CARD OF 'bursarylaw21.ConfigBack'. -/
def configBackCard : Claim7 := { stood := { row := configBackRow, standIns := [], harness := (true, "12b8c8fc1493b2a9537982247b54da6bfce7d7bcf8c84e90f0131731951c0e5c"), looks := true }, kinds := [], alts := [], laidByText := true, laidKinds := [.handle], laidTests := true, laidLooks := .later }
def ConfigBackCardSaid : Prop := Claim7.holds Tryd.pinned (.plain (OpenSpec.ofChange configBackSpec)) configBackCard

/-- THE TIED CARD OF 'bursarylaw18.NonceOnce'. -/
def nonceOnceCard : Claim7 := { stood := { row := nonceOnceRow, standIns := [], harness := (true, "12b8c8fc1493b2a9537982247b54da6bfce7d7bcf8c84e90f0131731951c0e5c"), looks := true }, kinds := [], alts := [], laidByText := true, laidKinds := [.handle], laidTests := true, laidLooks := .later }
def NonceOnceCardSaid : Prop := Claim7.holds Tryd.pinned (.plain (OpenSpec.ofChange nonceOnceSpec)) nonceOnceCard

/-- THE TIED CARD OF 'bursarylaw14.FrameForms'. -/
def frameFormsCard : Claim7 := { stood := { row := frameFormsRow, standIns := [], harness := (true, "12b8c8fc1493b2a9537982247b54da6bfce7d7bcf8c84e90f0131731951c0e5c"), looks := true }, kinds := [], alts := [], laidByText := true, laidKinds := [.handle], laidTests := true, laidLooks := .later }
def FrameFormsCardSaid : Prop := Claim7.holds Tryd.pinned (.plain (OpenSpec.ofChange frameFormsSpec)) frameFormsCard

/-- THE SECOND FORM's CARD OF 'bursarylaw27.ClockOnward'. -/
def clockOnwardUptoCard : Claim7 := { stood := { row := clockOnwardUptoRow, standIns := [], harness := (true, "12b8c8fc1493b2a9537982247b54da6bfce7d7bcf8c84e90f0131731951c0e5c"), looks := true }, kinds := [], alts := [], laidByText := true, laidKinds := [.handle], laidTests := true, laidLooks := .later }
def ClockOnwardUptoCardSaid : Prop := Claim7.holds Tryd.pinned (.plain (OpenSpec.upto clockOnwardSpec)) clockOnwardUptoCard

/-- THE SECOND FORM's CARD OF 'bursarylaw27.ClockExact'. -/
def clockExactUptoCard : Claim7 := { stood := { row := clockExactUptoRow, standIns := [], harness := (true, "12b8c8fc1493b2a9537982247b54da6bfce7d7bcf8c84e90f0131731951c0e5c"), looks := true }, kinds := [], alts := [], laidByText := true, laidKinds := [.handle], laidTests := true, laidLooks := .later }
def ClockExactUptoCardSaid : Prop := Claim7.holds Tryd.pinned (.plain (OpenSpec.upto clockExactSpec)) clockExactUptoCard

/-- THE SECOND FORM's CARD OF 'bursarylaw27.ClockRenews'. -/
def clockRenewsUptoCard : Claim7 := { stood := { row := clockRenewsUptoRow, standIns := [], harness := (true, "12b8c8fc1493b2a9537982247b54da6bfce7d7bcf8c84e90f0131731951c0e5c"), looks := true }, kinds := [], alts := [], laidByText := true, laidKinds := [.handle], laidTests := true, laidLooks := .later }
def ClockRenewsUptoCardSaid : Prop := Claim7.holds Tryd.pinned (.plain (OpenSpec.upto clockRenewsSpec)) clockRenewsUptoCard

/-- THE SECOND FORM's CARD OF 'bursarylaw21.ConfigSteps'. -/
def configStepsUptoCard : Claim7 := { stood := { row := configStepsUptoRow, standIns := [], harness := (true, "12b8c8fc1493b2a9537982247b54da6bfce7d7bcf8c84e90f0131731951c0e5c"), looks := true }, kinds := [], alts := [], laidByText := true, laidKinds := [.handle], laidTests := true, laidLooks := .later }
def ConfigStepsUptoCardSaid : Prop := Claim7.holds Tryd.pinned (.plain (OpenSpec.upto configStepsSpec)) configStepsUptoCard

/-- THE SECOND FORM's CARD OF 'bursarylaw21.ConfigBack'. -/
def configBackUptoCard : Claim7 := { stood := { row := configBackUptoRow, standIns := [], harness := (true, "12b8c8fc1493b2a9537982247b54da6bfce7d7bcf8c84e90f0131731951c0e5c"), looks := true }, kinds := [], alts := [], laidByText := true, laidKinds := [.handle], laidTests := true, laidLooks := .later }
def ConfigBackUptoCardSaid : Prop := Claim7.holds Tryd.pinned (.plain (OpenSpec.upto configBackSpec)) configBackUptoCard

/-- THE SECOND FORM's CARD OF 'bursarylaw18.NonceOnce'. -/
def nonceOnceUptoCard : Claim7 := { stood := { row := nonceOnceUptoRow, standIns := [], harness := (true, "12b8c8fc1493b2a9537982247b54da6bfce7d7bcf8c84e90f0131731951c0e5c"), looks := true }, kinds := [], alts := [], laidByText := true, laidKinds := [.handle], laidTests := true, laidLooks := .later }
def NonceOnceUptoCardSaid : Prop := Claim7.holds Tryd.pinned (.plain (OpenSpec.upto nonceOnceSpec)) nonceOnceUptoCard

/-- THE SECOND FORM's CARD OF 'bursarylaw14.FrameForms'. -/
def frameFormsUptoCard : Claim7 := { stood := { row := frameFormsUptoRow, standIns := [], harness := (true, "12b8c8fc1493b2a9537982247b54da6bfce7d7bcf8c84e90f0131731951c0e5c"), looks := true }, kinds := [], alts := [], laidByText := true, laidKinds := [.handle], laidTests := true, laidLooks := .later }
def FrameFormsUptoCardSaid : Prop := Claim7.holds Tryd.pinned (.plain (OpenSpec.upto frameFormsSpec)) frameFormsUptoCard
end Rows
end Go.Proofs.YtmedboagdnpkbaaDoor

/-
  DERIVED. GIVEN WITH THE SEED: THE CARDS: each row of YtkomeflgnikflaaDoorRows.lean that lists a variable, with what it lists TIED to the program's text (the seventh form; the later family's looks); each row that meets fmt, with fmt's text TOLD by the authors' own Lean function (tested against real Go, not proved from fmt's source: count such statements apart). THE CARD IS WHAT COUNTS. Prove the row's statement (the work); the ties are given (YtkomeflgnikflaaDoorTie.lean); close each card by the builder's one call (the guide's Derived/Test/ToyasCard.lean, 'card_holds'). Laid BY PROGRAM, IN A SANDBOX (cutbox-door.mjs). By AI agents, Wed Nov 11 2026. No macro, syntax, notation, axiom, sorry.
-/
import Derived.Test.YtkomeflgnikflaaDoorRows
import GoSem.ClaimSeven
namespace Go.Proofs.YtkomeflgnikflaaDoor
namespace Rows

/-- THE TIED CARD OF 'bursarylaw14.FrameForms'. -/
def frameFormsCard : Claim7 := { stood := { row := frameFormsRow, standIns := [], harness := (true, "daf108b7d0e3f6e451e570b65377828a47a9f23e5221562f0f67b144bd2cc7fc"), looks := true }, kinds := [], alts := [], laidByText := true, laidKinds := [.handle], laidTests := true, laidLooks := .later }
def FrameFormsCardSaid : Prop := Claim7.holds Tryd.pinned (.plain (OpenSpec.ofChange frameFormsSpec)) frameFormsCard

/-- THE TIED CARD OF 'bursarylaw14.FrameBack'. -/
def frameBackCard : Claim7 := { stood := { row := frameBackRow, standIns := [], harness := (true, "daf108b7d0e3f6e451e570b65377828a47a9f23e5221562f0f67b144bd2cc7fc"), looks := true }, kinds := [], alts := [], laidByText := true, laidKinds := [.handle], laidTests := true, laidLooks := .later }
def FrameBackCardSaid : Prop := Claim7.holds Tryd.pinned (.plain (OpenSpec.ofChange frameBackSpec)) frameBackCard

/-- THE TIED CARD OF 'bursarylaw14.FrameMixed'. -/
def frameMixedCard : Claim7 := { stood := { row := frameMixedRow, standIns := [], harness := (true, "daf108b7d0e3f6e451e570b65377828a47a9f23e5221562f0f67b144bd2cc7fc"), looks := true }, kinds := [], alts := [], laidByText := true, laidKinds := [.handle], laidTests := true, laidLooks := .later }
def FrameMixedCardSaid : Prop := Claim7.holds Tryd.pinned (.plain (OpenSpec.ofChange frameMixedSpec)) frameMixedCard

/-- THE TIED CARD OF 'bursarylaw18.NonceBytes'. -/
def nonceBytesCard : Claim7 := { stood := { row := nonceBytesRow, standIns := [], harness := (true, "daf108b7d0e3f6e451e570b65377828a47a9f23e5221562f0f67b144bd2cc7fc"), looks := true }, kinds := [], alts := [], laidByText := true, laidKinds := [.handle], laidTests := true, laidLooks := .later }
def NonceBytesCardSaid : Prop := Claim7.holds Tryd.pinned (.plain (OpenSpec.ofChange nonceBytesSpec)) nonceBytesCard

/-- THE TIED CARD OF 'bursarylaw18.NonceRuns'. -/
def nonceRunsCard : Claim7 := { stood := { row := nonceRunsRow, standIns := [], harness := (true, "daf108b7d0e3f6e451e570b65377828a47a9f23e5221562f0f67b144bd2cc7fc"), looks := true }, kinds := [], alts := [], laidByText := true, laidKinds := [.handle], laidTests := true, laidLooks := .later }
def NonceRunsCardSaid : Prop := Claim7.holds Tryd.pinned (.plain (OpenSpec.ofChange nonceRunsSpec)) nonceRunsCard

/-- THE TIED CARD OF 'bursarylaw31.WireForms'. -/
def wireFormsCard : Claim7 := { stood := { row := wireFormsRow, standIns := [], harness := (true, "daf108b7d0e3f6e451e570b65377828a47a9f23e5221562f0f67b144bd2cc7fc"), looks := true }, kinds := [], alts := [], laidByText := true, laidKinds := [.handle], laidTests := true, laidLooks := .later }
def WireFormsCardSaid : Prop := Claim7.holds Tryd.pinned (.plain (OpenSpec.ofChange wireFormsSpec)) wireFormsCard

/-- THE TIED CARD OF 'bursarylaw31.WireBack'. -/
def wireBackCard : Claim7 := { stood := { row := wireBackRow, standIns := [], harness := (true, "daf108b7d0e3f6e451e570b65377828a47a9f23e5221562f0f67b144bd2cc7fc"), looks := true }, kinds := [], alts := [], laidByText := true, laidKinds := [.handle], laidTests := true, laidLooks := .later }
def WireBackCardSaid : Prop := Claim7.holds Tryd.pinned (.plain (OpenSpec.ofChange wireBackSpec)) wireBackCard

/-- THE TIED CARD OF 'bursarylaw31.WireRoom'. -/
def wireRoomCard : Claim7 := { stood := { row := wireRoomRow, standIns := [], harness := (true, "daf108b7d0e3f6e451e570b65377828a47a9f23e5221562f0f67b144bd2cc7fc"), looks := true }, kinds := [], alts := [], laidByText := true, laidKinds := [.handle], laidTests := true, laidLooks := .later }
def WireRoomCardSaid : Prop := Claim7.holds Tryd.pinned (.plain (OpenSpec.ofChange wireRoomSpec)) wireRoomCard

/-- THE SECOND FORM's CARD OF 'bursarylaw14.FrameForms'. -/
def frameFormsUptoCard : Claim7 := { stood := { row := frameFormsUptoRow, standIns := [], harness := (true, "daf108b7d0e3f6e451e570b65377828a47a9f23e5221562f0f67b144bd2cc7fc"), looks := true }, kinds := [], alts := [], laidByText := true, laidKinds := [.handle], laidTests := true, laidLooks := .later }
def FrameFormsUptoCardSaid : Prop := Claim7.holds Tryd.pinned (.plain (OpenSpec.upto frameFormsSpec)) frameFormsUptoCard

/-- THE SECOND FORM's CARD OF 'bursarylaw14.FrameBack'. -/
def frameBackUptoCard : Claim7 := { stood := { row := frameBackUptoRow, standIns := [], harness := (true, "daf108b7d0e3f6e451e570b65377828a47a9f23e5221562f0f67b144bd2cc7fc"), looks := true }, kinds := [], alts := [], laidByText := true, laidKinds := [.handle], laidTests := true, laidLooks := .later }
def FrameBackUptoCardSaid : Prop := Claim7.holds Tryd.pinned (.plain (OpenSpec.upto frameBackSpec)) frameBackUptoCard

/-- THE SECOND FORM's CARD OF 'bursarylaw14.FrameMixed'. -/
def frameMixedUptoCard : Claim7 := { stood := { row := frameMixedUptoRow, standIns := [], harness := (true, "daf108b7d0e3f6e451e570b65377828a47a9f23e5221562f0f67b144bd2cc7fc"), looks := true }, kinds := [], alts := [], laidByText := true, laidKinds := [.handle], laidTests := true, laidLooks := .later }
def FrameMixedUptoCardSaid : Prop := Claim7.holds Tryd.pinned (.plain (OpenSpec.upto frameMixedSpec)) frameMixedUptoCard

/-- THE SECOND FORM's CARD OF 'bursarylaw18.NonceBytes'. -/
def nonceBytesUptoCard : Claim7 := { stood := { row := nonceBytesUptoRow, standIns := [], harness := (true, "daf108b7d0e3f6e451e570b65377828a47a9f23e5221562f0f67b144bd2cc7fc"), looks := true }, kinds := [], alts := [], laidByText := true, laidKinds := [.handle], laidTests := true, laidLooks := .later }
def NonceBytesUptoCardSaid : Prop := Claim7.holds Tryd.pinned (.plain (OpenSpec.upto nonceBytesSpec)) nonceBytesUptoCard

/-- THE SECOND FORM's CARD OF 'bursarylaw18.NonceRuns'. -/
def nonceRunsUptoCard : Claim7 := { stood := { row := nonceRunsUptoRow, standIns := [], harness := (true, "daf108b7d0e3f6e451e570b65377828a47a9f23e5221562f0f67b144bd2cc7fc"), looks := true }, kinds := [], alts := [], laidByText := true, laidKinds := [.handle], laidTests := true, laidLooks := .later }
def NonceRunsUptoCardSaid : Prop := Claim7.holds Tryd.pinned (.plain (OpenSpec.upto nonceRunsSpec)) nonceRunsUptoCard

/-- THE SECOND FORM's CARD OF 'bursarylaw31.WireForms'. -/
def wireFormsUptoCard : Claim7 := { stood := { row := wireFormsUptoRow, standIns := [], harness := (true, "daf108b7d0e3f6e451e570b65377828a47a9f23e5221562f0f67b144bd2cc7fc"), looks := true }, kinds := [], alts := [], laidByText := true, laidKinds := [.handle], laidTests := true, laidLooks := .later }
def WireFormsUptoCardSaid : Prop := Claim7.holds Tryd.pinned (.plain (OpenSpec.upto wireFormsSpec)) wireFormsUptoCard

/-- THE SECOND FORM's CARD OF 'bursarylaw31.WireBack'. -/
def wireBackUptoCard : Claim7 := { stood := { row := wireBackUptoRow, standIns := [], harness := (true, "daf108b7d0e3f6e451e570b65377828a47a9f23e5221562f0f67b144bd2cc7fc"), looks := true }, kinds := [], alts := [], laidByText := true, laidKinds := [.handle], laidTests := true, laidLooks := .later }
def WireBackUptoCardSaid : Prop := Claim7.holds Tryd.pinned (.plain (OpenSpec.upto wireBackSpec)) wireBackUptoCard

/-- THE SECOND FORM's CARD OF 'bursarylaw31.WireRoom'. -/
def wireRoomUptoCard : Claim7 := { stood := { row := wireRoomUptoRow, standIns := [], harness := (true, "daf108b7d0e3f6e451e570b65377828a47a9f23e5221562f0f67b144bd2cc7fc"), looks := true }, kinds := [], alts := [], laidByText := true, laidKinds := [.handle], laidTests := true, laidLooks := .later }
def WireRoomUptoCardSaid : Prop := Claim7.holds Tryd.pinned (.plain (OpenSpec.upto wireRoomSpec)) wireRoomUptoCard
end Rows
end Go.Proofs.YtkomeflgnikflaaDoor

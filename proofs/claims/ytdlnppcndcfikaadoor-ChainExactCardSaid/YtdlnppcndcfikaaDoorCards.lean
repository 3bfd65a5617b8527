/-
  DERIVED. GIVEN WITH THE SEED: THE CARDS: each row of YtdlnppcndcfikaaDoorRows.lean that lists a variable, with what it lists TIED to the program's text (the seventh form; the later family's looks); each row that meets fmt, with fmt's text TOLD by the authors' own Lean function (tested against real Go, not proved from fmt's source: count such statements apart). THE CARD IS WHAT COUNTS. Prove the row's statement (the work); the ties are given (YtdlnppcndcfikaaDoorTie.lean); close each card by the builder's one call (the guide's Derived/Test/ToyasCard.lean, 'card_holds'). Laid BY PROGRAM, IN A SANDBOX (cutbox-door.mjs). By AI agents, Wed Nov 11 2026. No macro, syntax, notation, axiom, sorry.
-/
import Derived.Test.YtdlnppcndcfikaaDoorRows
import GoSem.ClaimSeven
namespace Go.Proofs.YtdlnppcndcfikaaDoor
namespace Rows

/-- THE TIED CARD OF 'bursarylaw07.HkdfKeys'. -/
def hkdfKeysCard : Claim7 := { stood := { row := hkdfKeysRow, standIns := [], harness := (true, "89ff32d066fa2c9d6df74f423b3ca4cc4c8ba077237c3fb68f4862cf6b013f33"), looks := true }, kinds := [], alts := [], laidByText := true, laidKinds := [.handle], laidTests := true, laidLooks := .later }
def HkdfKeysCardSaid : Prop := Claim7.holds Tryd.pinned (.plain (OpenSpec.ofChange hkdfKeysSpec)) hkdfKeysCard

/-- THE TIED CARD OF 'bursarylaw07.HkdfMore'. -/
def hkdfMoreCard : Claim7 := { stood := { row := hkdfMoreRow, standIns := [], harness := (true, "89ff32d066fa2c9d6df74f423b3ca4cc4c8ba077237c3fb68f4862cf6b013f33"), looks := true }, kinds := [], alts := [], laidByText := true, laidKinds := [.handle], laidTests := true, laidLooks := .later }
def HkdfMoreCardSaid : Prop := Claim7.holds Tryd.pinned (.plain (OpenSpec.ofChange hkdfMoreSpec)) hkdfMoreCard

/-- THE TIED CARD OF 'bursarylaw34.ChainExact'. -/
def chainExactCard : Claim7 := { stood := { row := chainExactRow, standIns := [], harness := (true, "89ff32d066fa2c9d6df74f423b3ca4cc4c8ba077237c3fb68f4862cf6b013f33"), looks := true }, kinds := [], alts := [], laidByText := true, laidKinds := [.handle], laidTests := true, laidLooks := .later }
def ChainExactCardSaid : Prop := Claim7.holds Tryd.pinned (.plain (OpenSpec.ofChange chainExactSpec)) chainExactCard

/-- THE TIED CARD OF 'bursarylaw34.ChainGoes'. -/
def chainGoesCard : Claim7 := { stood := { row := chainGoesRow, standIns := [], harness := (true, "89ff32d066fa2c9d6df74f423b3ca4cc4c8ba077237c3fb68f4862cf6b013f33"), looks := true }, kinds := [], alts := [], laidByText := true, laidKinds := [.handle], laidTests := true, laidLooks := .later }
def ChainGoesCardSaid : Prop := Claim7.holds Tryd.pinned (.plain (OpenSpec.ofChange chainGoesSpec)) chainGoesCard

/-- THE TIED CARD OF 'bursarylaw34.ChainCuts'. -/
def chainCutsCard : Claim7 := { stood := { row := chainCutsRow, standIns := [], harness := (true, "89ff32d066fa2c9d6df74f423b3ca4cc4c8ba077237c3fb68f4862cf6b013f33"), looks := true }, kinds := [], alts := [], laidByText := true, laidKinds := [.handle], laidTests := true, laidLooks := .later }
def ChainCutsCardSaid : Prop := Claim7.holds Tryd.pinned (.plain (OpenSpec.ofChange chainCutsSpec)) chainCutsCard

/-- THE TIED CARD OF 'bursarylaw34.ChainApart'. -/
def chainApartCard : Claim7 := { stood := { row := chainApartRow, standIns := [], harness := (true, "89ff32d066fa2c9d6df74f423b3ca4cc4c8ba077237c3fb68f4862cf6b013f33"), looks := true }, kinds := [], alts := [], laidByText := true, laidKinds := [.handle], laidTests := true, laidLooks := .later }
def ChainApartCardSaid : Prop := Claim7.holds Tryd.pinned (.plain (OpenSpec.ofChange chainApartSpec)) chainApartCard

/-- THE SECOND FORM's CARD OF 'bursarylaw07.HkdfKeys'. -/
def hkdfKeysUptoCard : Claim7 := { stood := { row := hkdfKeysUptoRow, standIns := [], harness := (true, "89ff32d066fa2c9d6df74f423b3ca4cc4c8ba077237c3fb68f4862cf6b013f33"), looks := true }, kinds := [], alts := [], laidByText := true, laidKinds := [.handle], laidTests := true, laidLooks := .later }
def HkdfKeysUptoCardSaid : Prop := Claim7.holds Tryd.pinned (.plain (OpenSpec.upto hkdfKeysSpec)) hkdfKeysUptoCard

/-- THE SECOND FORM's CARD OF 'bursarylaw07.HkdfMore'. -/
def hkdfMoreUptoCard : Claim7 := { stood := { row := hkdfMoreUptoRow, standIns := [], harness := (true, "89ff32d066fa2c9d6df74f423b3ca4cc4c8ba077237c3fb68f4862cf6b013f33"), looks := true }, kinds := [], alts := [], laidByText := true, laidKinds := [.handle], laidTests := true, laidLooks := .later }
def HkdfMoreUptoCardSaid : Prop := Claim7.holds Tryd.pinned (.plain (OpenSpec.upto hkdfMoreSpec)) hkdfMoreUptoCard

/-- THE SECOND FORM's CARD OF 'bursarylaw34.ChainExact'. -/
def chainExactUptoCard : Claim7 := { stood := { row := chainExactUptoRow, standIns := [], harness := (true, "89ff32d066fa2c9d6df74f423b3ca4cc4c8ba077237c3fb68f4862cf6b013f33"), looks := true }, kinds := [], alts := [], laidByText := true, laidKinds := [.handle], laidTests := true, laidLooks := .later }
def ChainExactUptoCardSaid : Prop := Claim7.holds Tryd.pinned (.plain (OpenSpec.upto chainExactSpec)) chainExactUptoCard

/-- THE SECOND FORM's CARD OF 'bursarylaw34.ChainGoes'. -/
def chainGoesUptoCard : Claim7 := { stood := { row := chainGoesUptoRow, standIns := [], harness := (true, "89ff32d066fa2c9d6df74f423b3ca4cc4c8ba077237c3fb68f4862cf6b013f33"), looks := true }, kinds := [], alts := [], laidByText := true, laidKinds := [.handle], laidTests := true, laidLooks := .later }
def ChainGoesUptoCardSaid : Prop := Claim7.holds Tryd.pinned (.plain (OpenSpec.upto chainGoesSpec)) chainGoesUptoCard

/-- THE SECOND FORM's CARD OF 'bursarylaw34.ChainCuts'. -/
def chainCutsUptoCard : Claim7 := { stood := { row := chainCutsUptoRow, standIns := [], harness := (true, "89ff32d066fa2c9d6df74f423b3ca4cc4c8ba077237c3fb68f4862cf6b013f33"), looks := true }, kinds := [], alts := [], laidByText := true, laidKinds := [.handle], laidTests := true, laidLooks := .later }
def ChainCutsUptoCardSaid : Prop := Claim7.holds Tryd.pinned (.plain (OpenSpec.upto chainCutsSpec)) chainCutsUptoCard

/-- THE SECOND FORM's CARD OF 'bursarylaw34.ChainApart'. -/
def chainApartUptoCard : Claim7 := { stood := { row := chainApartUptoRow, standIns := [], harness := (true, "89ff32d066fa2c9d6df74f423b3ca4cc4c8ba077237c3fb68f4862cf6b013f33"), looks := true }, kinds := [], alts := [], laidByText := true, laidKinds := [.handle], laidTests := true, laidLooks := .later }
def ChainApartUptoCardSaid : Prop := Claim7.holds Tryd.pinned (.plain (OpenSpec.upto chainApartSpec)) chainApartUptoCard
end Rows
end Go.Proofs.YtdlnppcndcfikaaDoor

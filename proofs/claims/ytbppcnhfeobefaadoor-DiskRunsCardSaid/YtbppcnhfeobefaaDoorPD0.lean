import Derived.Test.YtbppcnhfeobefaaDoorD6
import Derived.Test.YtbppcnhfeobefaaDoorEnVy8
set_option linter.unusedVariables false
set_option linter.unusedSimpArgs false
namespace Go.Proofs.YtbppcnhfeobefaaDoor
open Go Go.Vw Go.Proofs
abbrev Wr : Type := Int × List UInt8
def okD (m : Nat) (d0 : List (List UInt8)) (d1 : List Wr) (d2 : Int) : Prop :=
  d0.length ≤ 3000 ∧ d1.length ≤ m ∧ (∀ j : Nat, j < d1.length → 0 ≤ (d1.getD j (0, [])).1 ∧ (d1.getD j (0, [])).1 < (d0.length : Int)) ∧ (∀ j : Nat, (d0.getD j []).length ≤ 64) ∧ (∀ j : Nat, (d1.getD j (0, [])).2.length ≤ 64) ∧ 0 ≤ d2 ∧ d2 ≤ 9223372036854775807
theorem okD_mono {m m' : Nat} {d0 : List (List UInt8)} {d1 : List Wr} {d2 : Int} (h : okD m d0 d1 d2) (hm : m ≤ m') : okD m' d0 d1 d2 := ⟨h.1, Nat.le_trans h.2.1 hm, h.2.2⟩
end Go.Proofs.YtbppcnhfeobefaaDoor

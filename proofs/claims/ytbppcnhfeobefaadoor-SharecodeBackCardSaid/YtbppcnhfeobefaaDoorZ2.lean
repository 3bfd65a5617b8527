import Derived.Test.YtbppcnhfeobefaaDoorZ1
set_option linter.unusedVariables false
set_option linter.unusedSimpArgs false
namespace Go.Proofs.YtbppcnhfeobefaaDoor
open Go Go.Vw Go.Proofs
noncomputable def bursaryref04_digit_k1  : Int :=
  (-1)
noncomputable def bursaryref04_digit_l1 (c : UInt8) : Nat → Int → Lo Unit Int
  | 0, _ => .brk default
  | ml1 + 1, i1 =>
    bif decide (i1 < 16) then
      bif ([48, 49, 50, 51, 52, 53, 54, 55, 56, 57, 97, 98, 99, 100, 101, 102].getD i1.toNat 0) == c then
        Lo.ret i1
      else
        bursaryref04_digit_l1 c ml1 (i1 + 1)
    else
      Lo.brk ()
noncomputable def bursaryref04_digit (c : UInt8) : Int :=
  Lo.el (bursaryref04_digit_l1 c ((16 - (0 : Int)).toNat + 1) 0) (fun z : Unit => bursaryref04_digit_k1)
def dig (c : UInt8) : Int := if 48 ≤ c.toNat ∧ c.toNat ≤ 57 then (c.toNat : Int) - 48 else if 97 ≤ c.toNat ∧ c.toNat ≤ 102 then (c.toNat : Int) - 87 else -1
theorem digit_all : (List.range 256).all (fun n => bursaryref04_digit (UInt8.ofNat n) == dig (UInt8.ofNat n)) = true := by kernel_rfl
theorem digit_eq (c : UInt8) : bursaryref04_digit c = dig c := by
  have h := List.all_eq_true.1 digit_all c.toNat (List.mem_range.2 (by have := c.toNat_lt; omega))
  have e : UInt8.ofNat c.toNat = c := by simp
  simpa [e] using h
theorem digit_fact (c : UInt8) : -1 ≤ bursaryref04_digit c ∧ bursaryref04_digit c ≤ 15 := by
  rw [digit_eq, dig]; split
  · omega
  · split <;> omega
attribute [irreducible] bursaryref04_digit_k1 bursaryref04_digit_l1 bursaryref04_digit
def unh : List UInt8 → Option (List UInt8)
  | a :: b :: r => if dig a < 0 ∨ dig b < 0 then none else (unh r).map (u8i (16 * dig a + dig b) :: ·)
  | _ => some []
end Go.Proofs.YtbppcnhfeobefaaDoor

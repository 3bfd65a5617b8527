/- Go's operations on numbers of 8, 16, 32, 64 bits are Lean's own. Written by a program of this session (mkbits.py). -/
import Derived.Test.YtdlnppcndcfikaaVx4
namespace Go.Vw
set_option linter.unusedVariables false
set_option linter.unusedSimpArgs false
open Go Go.RowKit
section
variable (a b : UInt8)
theorem lt8 : (a.toNat : Int) < 256 ∧ 0 ≤ (a.toNat : Int) := by
  have := a.toNat_lt
  omega
theorem add8 : (.leaf (.int .u8 (IntKind.u8.wrap ((a.toNat : Int) + (b.toNat : Int)))) : T) = t8 (a + b) := by
  congr 2
  all_goals
    rw [wrap8, UInt8.toNat_add]
    all_goals omega
theorem sub8 : (.leaf (.int .u8 (IntKind.u8.wrap ((a.toNat : Int) - (b.toNat : Int)))) : T) = t8 (a - b) := by
  congr 2
  all_goals
    rw [wrap8, UInt8.toNat_sub]
    have := lt8 a
    have := lt8 b
    omega
theorem mul8 : (.leaf (.int .u8 (IntKind.u8.wrap ((a.toNat : Int) * (b.toNat : Int)))) : T) = t8 (a * b) := by
  congr 2
  all_goals
    rw [wrap8, UInt8.toNat_mul, Int.natCast_emod, Int.natCast_mul]
    all_goals rfl
theorem quo8 : (.leaf (.int .u8 (IntKind.u8.wrap ((a.toNat : Int).tdiv (b.toNat : Int)))) : T) = t8 (a / b) := by
  congr 2
  all_goals
    have h := lt8 (a / b)
    rw [UInt8.toNat_div] at h
    rw [wrap8, UInt8.toNat_div, Int.tdiv_eq_ediv_of_nonneg (by omega), ← Int.natCast_ediv]
    exact Int.emod_eq_of_lt h.2 h.1
theorem rem8 : (.leaf (.int .u8 ((a.toNat : Int).tmod (b.toNat : Int))) : T) = t8 (a % b) := by
  congr 2
  all_goals
    rw [UInt8.toNat_mod, Int.tmod_eq_emod_of_nonneg (by omega), ← Int.natCast_emod]
theorem and8 : (.leaf (.int .u8 (IntKind.u8.wrap (((BitVec.ofInt (IntKind.bits .u8) (a.toNat : Int) &&& BitVec.ofInt (IntKind.bits .u8) (b.toNat : Int)).toNat : Int)))) : T) = t8 (a &&& b) := by
  congr 2
  all_goals
    have e : ∀ c : UInt8, BitVec.ofInt (IntKind.bits .u8) (c.toNat : Int) = c.toBitVec := fun c => by
      apply BitVec.eq_of_toNat_eq
      rw [BitVec.toNat_ofInt]
      have h := lt8 c
      show ((c.toNat : Int) % ((2 ^ 8 : Nat) : Int)).toNat = c.toNat
      have e2 : ((2 ^ 8 : Nat) : Int) = 256 := by decide
      rw [e2]
      omega
    have h := lt8 (a &&& b)
    rw [wrap8, e, e]
    exact Int.emod_eq_of_lt h.2 h.1
theorem or8 : (.leaf (.int .u8 (IntKind.u8.wrap (((BitVec.ofInt (IntKind.bits .u8) (a.toNat : Int) ||| BitVec.ofInt (IntKind.bits .u8) (b.toNat : Int)).toNat : Int)))) : T) = t8 (a ||| b) := by
  congr 2
  all_goals
    have e : ∀ c : UInt8, BitVec.ofInt (IntKind.bits .u8) (c.toNat : Int) = c.toBitVec := fun c => by
      apply BitVec.eq_of_toNat_eq
      rw [BitVec.toNat_ofInt]
      have h := lt8 c
      show ((c.toNat : Int) % ((2 ^ 8 : Nat) : Int)).toNat = c.toNat
      have e2 : ((2 ^ 8 : Nat) : Int) = 256 := by decide
      rw [e2]
      omega
    have h := lt8 (a ||| b)
    rw [wrap8, e, e]
    exact Int.emod_eq_of_lt h.2 h.1
theorem xor8 : (.leaf (.int .u8 (IntKind.u8.wrap (((BitVec.ofInt (IntKind.bits .u8) (a.toNat : Int) ^^^ BitVec.ofInt (IntKind.bits .u8) (b.toNat : Int)).toNat : Int)))) : T) = t8 (a ^^^ b) := by
  congr 2
  all_goals
    have e : ∀ c : UInt8, BitVec.ofInt (IntKind.bits .u8) (c.toNat : Int) = c.toBitVec := fun c => by
      apply BitVec.eq_of_toNat_eq
      rw [BitVec.toNat_ofInt]
      have h := lt8 c
      show ((c.toNat : Int) % ((2 ^ 8 : Nat) : Int)).toNat = c.toNat
      have e2 : ((2 ^ 8 : Nat) : Int) = 256 := by decide
      rw [e2]
      omega
    have h := lt8 (a ^^^ b)
    rw [wrap8, e, e]
    exact Int.emod_eq_of_lt h.2 h.1
theorem not8 : (.leaf (.int .u8 (IntKind.u8.wrap (((BitVec.ofInt (IntKind.bits .u8) (if (IntKind.u8).signed = true then -1 else IntKind.u8.max) ^^^ BitVec.ofInt (IntKind.bits .u8) (a.toNat : Int)).toNat : Int)))) : T) = t8 (~~~a) := by
  congr 2
  all_goals
    have e : ∀ c : UInt8, BitVec.ofInt (IntKind.bits .u8) (c.toNat : Int) = c.toBitVec := fun c => by
      apply BitVec.eq_of_toNat_eq
      rw [BitVec.toNat_ofInt]
      have h := lt8 c
      show ((c.toNat : Int) % ((2 ^ 8 : Nat) : Int)).toNat = c.toNat
      have e2 : ((2 ^ 8 : Nat) : Int) = 256 := by decide
      rw [e2]
      omega
    have e2 : BitVec.ofInt (IntKind.bits .u8) (if (IntKind.u8).signed = true then -1 else IntKind.u8.max) = BitVec.allOnes 8 := by rfl
    have e3 : ((~~~a : UInt8).toBitVec) = BitVec.allOnes 8 ^^^ a.toBitVec := by rw [BitVec.xor_comm, BitVec.xor_allOnes]; rfl
    have h := lt8 (~~~a)
    rw [wrap8, e, e2]
    have e4 : (BitVec.allOnes 8 ^^^ a.toBitVec).toNat = (~~~a).toNat := by rw [← e3]; rfl
    show (((BitVec.allOnes 8 ^^^ a.toBitVec).toNat : Nat) : Int) % 256 = _
    rw [e4]
    exact Int.emod_eq_of_lt h.2 h.1
def shl8 (a : UInt8) (k : Int) : UInt8 := UInt8.ofNat (a.toNat * 2 ^ k.toNat)
def shr8 (a : UInt8) (k : Int) : UInt8 := UInt8.ofNat (a.toNat / 2 ^ k.toNat)
theorem shlT8 (k : Int) : (.leaf (.int .u8 (IntKind.u8.wrap ((a.toNat : Int) * 2 ^ (min k.toNat (IntKind.bits .u8))))) : T) = t8 (shl8 a k) := by
  congr 2
  all_goals
    simp only [IntKind.bits]
    unfold shl8
    rw [wrap8, UInt8.toNat_ofNat']
    have e0 : ∀ x : Nat, ((x % 2 ^ 8 : Nat) : Int) = (x : Int) % 256 := fun x => by rw [Int.natCast_emod]; rfl
    rw [e0]
    rcases Nat.le_total k.toNat 8 with h | h
    · rw [Nat.min_eq_left h, Int.natCast_mul, Int.natCast_pow]; rfl
    · rw [Nat.min_eq_right h]
      obtain ⟨d, hd⟩ := Nat.exists_eq_add_of_le h
      have e1 : a.toNat * 2 ^ k.toNat = (a.toNat * 2 ^ d) * 256 := by rw [hd, Nat.pow_add, Nat.mul_comm (2 ^ 8), ← Nat.mul_assoc]
      rw [e1, Int.natCast_mul]
      generalize (a.toNat * 2 ^ d : Nat) = z
      have e2 : (2 : Int) ^ 8 = 256 := by decide
      rw [e2]
      omega
theorem shrT8 (k : Int) : (.leaf (.int .u8 ((a.toNat : Int).fdiv (2 ^ (min k.toNat (IntKind.bits .u8))))) : T) = t8 (shr8 a k) := by
  congr 2
  all_goals
    simp only [IntKind.bits]
    unfold shr8
    rw [UInt8.toNat_ofNat']
    have ha := a.toNat_lt
    have hq : a.toNat / 2 ^ k.toNat < 2 ^ 8 := Nat.lt_of_le_of_lt (Nat.div_le_self _ _) ha
    rw [Nat.mod_eq_of_lt hq]
    have e : ∀ j : Nat, (a.toNat : Int).fdiv (2 ^ j) = ((a.toNat / 2 ^ j : Nat) : Int) := fun j => by
      have h2 : (0 : Int) ≤ 2 ^ j := Int.pow_nonneg (by decide)
      rw [Int.fdiv_eq_ediv_of_nonneg _ h2, Int.natCast_ediv, Int.natCast_pow]
      rfl
    rcases Nat.le_total k.toNat 8 with h | h
    · rw [Nat.min_eq_left h, e]
    · rw [Nat.min_eq_right h, e, Nat.div_eq_of_lt ha, Nat.div_eq_of_lt (Nat.lt_of_lt_of_le ha (Nat.pow_le_pow_right (by decide) h))]
theorem ltB8 : tb (decide ((a.toNat : Int) < (b.toNat : Int))) = tb (decide (a < b)) := by
  refine eb ?_
  rw [decide_eq_decide]
  simp only [GT.gt, GE.ge, UInt8.lt_iff_toNat_lt]
  omega
theorem leB8 : tb (decide ((a.toNat : Int) ≤ (b.toNat : Int))) = tb (decide (a ≤ b)) := by
  refine eb ?_
  rw [decide_eq_decide]
  simp only [GT.gt, GE.ge, UInt8.le_iff_toNat_le]
  omega
theorem gtB8 : tb (decide ((a.toNat : Int) > (b.toNat : Int))) = tb (decide (a > b)) := by
  refine eb ?_
  rw [decide_eq_decide]
  simp only [GT.gt, GE.ge, UInt8.lt_iff_toNat_lt]
  omega
theorem geB8 : tb (decide ((a.toNat : Int) ≥ (b.toNat : Int))) = tb (decide (a ≥ b)) := by
  refine eb ?_
  rw [decide_eq_decide]
  simp only [GT.gt, GE.ge, UInt8.le_iff_toNat_le]
  omega
theorem eqB8 : tb ((a.toNat : Int) == (b.toNat : Int)) = tb (a == b) := by
  refine eb ?_
  rw [Bool.eq_iff_iff]
  simp only [beq_iff_eq, bne_iff_ne, ne_eq, ← UInt8.toNat_inj]
  omega
theorem neB8 : tb ((a.toNat : Int) != (b.toNat : Int)) = tb (a != b) := by
  refine eb ?_
  rw [Bool.eq_iff_iff]
  simp only [beq_iff_eq, bne_iff_ne, ne_eq, ← UInt8.toNat_inj]
  omega
theorem cv8_8 : (.leaf (.int .u8 (IntKind.u8.wrap (a.toNat : Int))) : T) = t8 a := by
  congr 2
  all_goals
    rw [wrap8]
    have h := lt8 a
    exact Int.emod_eq_of_lt h.2 h.1
theorem cv8_16 : (.leaf (.int .u16 (IntKind.u16.wrap (a.toNat : Int))) : T) = t16 a.toUInt16 := by
  congr 2
  all_goals
    rw [wrap16, UInt8.toNat_toUInt16]
    have h := lt8 a
    all_goals omega
theorem cv8_32 : (.leaf (.int .u32 (IntKind.u32.wrap (a.toNat : Int))) : T) = t32 a.toUInt32 := by
  congr 2
  all_goals
    rw [wrap32', UInt8.toNat_toUInt32]
    have h := lt8 a
    all_goals omega
theorem cv8_64 : (.leaf (.int .u64 (IntKind.u64.wrap (a.toNat : Int))) : T) = t64 a.toUInt64 := by
  congr 2
  all_goals
    rw [wrap64', UInt8.toNat_toUInt64]
    have h := lt8 a
    all_goals omega
theorem cv8_i : ti (IntKind.i64.wrap (a.toNat : Int)) = ti (a.toNat : Int) := by
  exact iw _ (by have := lt8 a; omega)
theorem cvi_8 (x : Int) : (.leaf (.int .u8 (IntKind.u8.wrap x)) : T) = t8 (u8i x) := by
  congr 2
  all_goals
    rw [wrap8]
    unfold u8i
    rw [UInt8.toNat_ofNat']
    have h1 := Int.emod_nonneg x (show (256 : Int) ≠ 0 by decide)
    have h2 := Int.emod_lt_of_pos x (show (0 : Int) < 256 by decide)
    omega
theorem min8 : (.leaf (.int .u8 (if (b.toNat : Int) < (a.toNat : Int) then (b.toNat : Int) else (a.toNat : Int))) : T) = t8 (if b < a then b else a) := by
  have e : ((b.toNat : Int) < (a.toNat : Int)) ↔ b < a := by rw [UInt8.lt_iff_toNat_lt]; omega
  congr 2
  by_cases h : b < a
  · rw [if_pos h, if_pos (e.2 h)]
  · rw [if_neg h, if_neg (fun q => h (e.1 q))]
theorem max8 : (.leaf (.int .u8 (if (b.toNat : Int) > (a.toNat : Int) then (b.toNat : Int) else (a.toNat : Int))) : T) = t8 (if b > a then b else a) := by
  have e : ((b.toNat : Int) > (a.toNat : Int)) ↔ b > a := by simp only [GT.gt]; rw [UInt8.lt_iff_toNat_lt]; omega
  congr 2
  by_cases h : b > a
  · rw [if_pos h, if_pos (e.2 h)]
  · rw [if_neg h, if_neg (fun q => h (e.1 q))]
end
section
variable (a b : UInt16)
theorem lt16 : (a.toNat : Int) < 65536 ∧ 0 ≤ (a.toNat : Int) := by
  have := a.toNat_lt
  omega
theorem add16 : (.leaf (.int .u16 (IntKind.u16.wrap ((a.toNat : Int) + (b.toNat : Int)))) : T) = t16 (a + b) := by
  congr 2
  all_goals
    rw [wrap16, UInt16.toNat_add]
    all_goals omega
theorem sub16 : (.leaf (.int .u16 (IntKind.u16.wrap ((a.toNat : Int) - (b.toNat : Int)))) : T) = t16 (a - b) := by
  congr 2
  all_goals
    rw [wrap16, UInt16.toNat_sub]
    have := lt16 a
    have := lt16 b
    omega
theorem mul16 : (.leaf (.int .u16 (IntKind.u16.wrap ((a.toNat : Int) * (b.toNat : Int)))) : T) = t16 (a * b) := by
  congr 2
  all_goals
    rw [wrap16, UInt16.toNat_mul, Int.natCast_emod, Int.natCast_mul]
    all_goals rfl
theorem quo16 : (.leaf (.int .u16 (IntKind.u16.wrap ((a.toNat : Int).tdiv (b.toNat : Int)))) : T) = t16 (a / b) := by
  congr 2
  all_goals
    have h := lt16 (a / b)
    rw [UInt16.toNat_div] at h
    rw [wrap16, UInt16.toNat_div, Int.tdiv_eq_ediv_of_nonneg (by omega), ← Int.natCast_ediv]
    exact Int.emod_eq_of_lt h.2 h.1
theorem rem16 : (.leaf (.int .u16 ((a.toNat : Int).tmod (b.toNat : Int))) : T) = t16 (a % b) := by
  congr 2
  all_goals
    rw [UInt16.toNat_mod, Int.tmod_eq_emod_of_nonneg (by omega), ← Int.natCast_emod]
theorem and16 : (.leaf (.int .u16 (IntKind.u16.wrap (((BitVec.ofInt (IntKind.bits .u16) (a.toNat : Int) &&& BitVec.ofInt (IntKind.bits .u16) (b.toNat : Int)).toNat : Int)))) : T) = t16 (a &&& b) := by
  congr 2
  all_goals
    have e : ∀ c : UInt16, BitVec.ofInt (IntKind.bits .u16) (c.toNat : Int) = c.toBitVec := fun c => by
      apply BitVec.eq_of_toNat_eq
      rw [BitVec.toNat_ofInt]
      have h := lt16 c
      show ((c.toNat : Int) % ((2 ^ 16 : Nat) : Int)).toNat = c.toNat
      have e2 : ((2 ^ 16 : Nat) : Int) = 65536 := by decide
      rw [e2]
      omega
    have h := lt16 (a &&& b)
    rw [wrap16, e, e]
    exact Int.emod_eq_of_lt h.2 h.1
theorem or16 : (.leaf (.int .u16 (IntKind.u16.wrap (((BitVec.ofInt (IntKind.bits .u16) (a.toNat : Int) ||| BitVec.ofInt (IntKind.bits .u16) (b.toNat : Int)).toNat : Int)))) : T) = t16 (a ||| b) := by
  congr 2
  all_goals
    have e : ∀ c : UInt16, BitVec.ofInt (IntKind.bits .u16) (c.toNat : Int) = c.toBitVec := fun c => by
      apply BitVec.eq_of_toNat_eq
      rw [BitVec.toNat_ofInt]
      have h := lt16 c
      show ((c.toNat : Int) % ((2 ^ 16 : Nat) : Int)).toNat = c.toNat
      have e2 : ((2 ^ 16 : Nat) : Int) = 65536 := by decide
      rw [e2]
      omega
    have h := lt16 (a ||| b)
    rw [wrap16, e, e]
    exact Int.emod_eq_of_lt h.2 h.1
theorem xor16 : (.leaf (.int .u16 (IntKind.u16.wrap (((BitVec.ofInt (IntKind.bits .u16) (a.toNat : Int) ^^^ BitVec.ofInt (IntKind.bits .u16) (b.toNat : Int)).toNat : Int)))) : T) = t16 (a ^^^ b) := by
  congr 2
  all_goals
    have e : ∀ c : UInt16, BitVec.ofInt (IntKind.bits .u16) (c.toNat : Int) = c.toBitVec := fun c => by
      apply BitVec.eq_of_toNat_eq
      rw [BitVec.toNat_ofInt]
      have h := lt16 c
      show ((c.toNat : Int) % ((2 ^ 16 : Nat) : Int)).toNat = c.toNat
      have e2 : ((2 ^ 16 : Nat) : Int) = 65536 := by decide
      rw [e2]
      omega
    have h := lt16 (a ^^^ b)
    rw [wrap16, e, e]
    exact Int.emod_eq_of_lt h.2 h.1
theorem not16 : (.leaf (.int .u16 (IntKind.u16.wrap (((BitVec.ofInt (IntKind.bits .u16) (if (IntKind.u16).signed = true then -1 else IntKind.u16.max) ^^^ BitVec.ofInt (IntKind.bits .u16) (a.toNat : Int)).toNat : Int)))) : T) = t16 (~~~a) := by
  congr 2
  all_goals
    have e : ∀ c : UInt16, BitVec.ofInt (IntKind.bits .u16) (c.toNat : Int) = c.toBitVec := fun c => by
      apply BitVec.eq_of_toNat_eq
      rw [BitVec.toNat_ofInt]
      have h := lt16 c
      show ((c.toNat : Int) % ((2 ^ 16 : Nat) : Int)).toNat = c.toNat
      have e2 : ((2 ^ 16 : Nat) : Int) = 65536 := by decide
      rw [e2]
      omega
    have e2 : BitVec.ofInt (IntKind.bits .u16) (if (IntKind.u16).signed = true then -1 else IntKind.u16.max) = BitVec.allOnes 16 := by rfl
    have e3 : ((~~~a : UInt16).toBitVec) = BitVec.allOnes 16 ^^^ a.toBitVec := by rw [BitVec.xor_comm, BitVec.xor_allOnes]; rfl
    have h := lt16 (~~~a)
    rw [wrap16, e, e2]
    have e4 : (BitVec.allOnes 16 ^^^ a.toBitVec).toNat = (~~~a).toNat := by rw [← e3]; rfl
    show (((BitVec.allOnes 16 ^^^ a.toBitVec).toNat : Nat) : Int) % 65536 = _
    rw [e4]
    exact Int.emod_eq_of_lt h.2 h.1
def shl16 (a : UInt16) (k : Int) : UInt16 := UInt16.ofNat (a.toNat * 2 ^ k.toNat)
def shr16 (a : UInt16) (k : Int) : UInt16 := UInt16.ofNat (a.toNat / 2 ^ k.toNat)
theorem shlT16 (k : Int) : (.leaf (.int .u16 (IntKind.u16.wrap ((a.toNat : Int) * 2 ^ (min k.toNat (IntKind.bits .u16))))) : T) = t16 (shl16 a k) := by
  congr 2
  all_goals
    simp only [IntKind.bits]
    unfold shl16
    rw [wrap16, UInt16.toNat_ofNat']
    have e0 : ∀ x : Nat, ((x % 2 ^ 16 : Nat) : Int) = (x : Int) % 65536 := fun x => by rw [Int.natCast_emod]; rfl
    rw [e0]
    rcases Nat.le_total k.toNat 16 with h | h
    · rw [Nat.min_eq_left h, Int.natCast_mul, Int.natCast_pow]; rfl
    · rw [Nat.min_eq_right h]
      obtain ⟨d, hd⟩ := Nat.exists_eq_add_of_le h
      have e1 : a.toNat * 2 ^ k.toNat = (a.toNat * 2 ^ d) * 65536 := by rw [hd, Nat.pow_add, Nat.mul_comm (2 ^ 16), ← Nat.mul_assoc]
      rw [e1, Int.natCast_mul]
      generalize (a.toNat * 2 ^ d : Nat) = z
      have e2 : (2 : Int) ^ 16 = 65536 := by decide
      rw [e2]
      omega
theorem shrT16 (k : Int) : (.leaf (.int .u16 ((a.toNat : Int).fdiv (2 ^ (min k.toNat (IntKind.bits .u16))))) : T) = t16 (shr16 a k) := by
  congr 2
  all_goals
    simp only [IntKind.bits]
    unfold shr16
    rw [UInt16.toNat_ofNat']
    have ha := a.toNat_lt
    have hq : a.toNat / 2 ^ k.toNat < 2 ^ 16 := Nat.lt_of_le_of_lt (Nat.div_le_self _ _) ha
    rw [Nat.mod_eq_of_lt hq]
    have e : ∀ j : Nat, (a.toNat : Int).fdiv (2 ^ j) = ((a.toNat / 2 ^ j : Nat) : Int) := fun j => by
      have h2 : (0 : Int) ≤ 2 ^ j := Int.pow_nonneg (by decide)
      rw [Int.fdiv_eq_ediv_of_nonneg _ h2, Int.natCast_ediv, Int.natCast_pow]
      rfl
    rcases Nat.le_total k.toNat 16 with h | h
    · rw [Nat.min_eq_left h, e]
    · rw [Nat.min_eq_right h, e, Nat.div_eq_of_lt ha, Nat.div_eq_of_lt (Nat.lt_of_lt_of_le ha (Nat.pow_le_pow_right (by decide) h))]
theorem ltB16 : tb (decide ((a.toNat : Int) < (b.toNat : Int))) = tb (decide (a < b)) := by
  refine eb ?_
  rw [decide_eq_decide]
  simp only [GT.gt, GE.ge, UInt16.lt_iff_toNat_lt]
  omega
theorem leB16 : tb (decide ((a.toNat : Int) ≤ (b.toNat : Int))) = tb (decide (a ≤ b)) := by
  refine eb ?_
  rw [decide_eq_decide]
  simp only [GT.gt, GE.ge, UInt16.le_iff_toNat_le]
  omega
theorem gtB16 : tb (decide ((a.toNat : Int) > (b.toNat : Int))) = tb (decide (a > b)) := by
  refine eb ?_
  rw [decide_eq_decide]
  simp only [GT.gt, GE.ge, UInt16.lt_iff_toNat_lt]
  omega
theorem geB16 : tb (decide ((a.toNat : Int) ≥ (b.toNat : Int))) = tb (decide (a ≥ b)) := by
  refine eb ?_
  rw [decide_eq_decide]
  simp only [GT.gt, GE.ge, UInt16.le_iff_toNat_le]
  omega
theorem eqB16 : tb ((a.toNat : Int) == (b.toNat : Int)) = tb (a == b) := by
  refine eb ?_
  rw [Bool.eq_iff_iff]
  simp only [beq_iff_eq, bne_iff_ne, ne_eq, ← UInt16.toNat_inj]
  omega
theorem neB16 : tb ((a.toNat : Int) != (b.toNat : Int)) = tb (a != b) := by
  refine eb ?_
  rw [Bool.eq_iff_iff]
  simp only [beq_iff_eq, bne_iff_ne, ne_eq, ← UInt16.toNat_inj]
  omega
theorem cv16_8 : (.leaf (.int .u8 (IntKind.u8.wrap (a.toNat : Int))) : T) = t8 a.toUInt8 := by
  congr 2
  all_goals
    rw [wrap8, UInt16.toNat_toUInt8]
    have h := lt16 a
    all_goals omega
theorem cv16_16 : (.leaf (.int .u16 (IntKind.u16.wrap (a.toNat : Int))) : T) = t16 a := by
  congr 2
  all_goals
    rw [wrap16]
    have h := lt16 a
    exact Int.emod_eq_of_lt h.2 h.1
theorem cv16_32 : (.leaf (.int .u32 (IntKind.u32.wrap (a.toNat : Int))) : T) = t32 a.toUInt32 := by
  congr 2
  all_goals
    rw [wrap32', UInt16.toNat_toUInt32]
    have h := lt16 a
    all_goals omega
theorem cv16_64 : (.leaf (.int .u64 (IntKind.u64.wrap (a.toNat : Int))) : T) = t64 a.toUInt64 := by
  congr 2
  all_goals
    rw [wrap64', UInt16.toNat_toUInt64]
    have h := lt16 a
    all_goals omega
theorem cv16_i : ti (IntKind.i64.wrap (a.toNat : Int)) = ti (a.toNat : Int) := by
  exact iw _ (by have := lt16 a; omega)
theorem cvi_16 (x : Int) : (.leaf (.int .u16 (IntKind.u16.wrap x)) : T) = t16 (u16i x) := by
  congr 2
  all_goals
    rw [wrap16]
    unfold u16i
    rw [UInt16.toNat_ofNat']
    have h1 := Int.emod_nonneg x (show (65536 : Int) ≠ 0 by decide)
    have h2 := Int.emod_lt_of_pos x (show (0 : Int) < 65536 by decide)
    omega
theorem min16 : (.leaf (.int .u16 (if (b.toNat : Int) < (a.toNat : Int) then (b.toNat : Int) else (a.toNat : Int))) : T) = t16 (if b < a then b else a) := by
  have e : ((b.toNat : Int) < (a.toNat : Int)) ↔ b < a := by rw [UInt16.lt_iff_toNat_lt]; omega
  congr 2
  by_cases h : b < a
  · rw [if_pos h, if_pos (e.2 h)]
  · rw [if_neg h, if_neg (fun q => h (e.1 q))]
theorem max16 : (.leaf (.int .u16 (if (b.toNat : Int) > (a.toNat : Int) then (b.toNat : Int) else (a.toNat : Int))) : T) = t16 (if b > a then b else a) := by
  have e : ((b.toNat : Int) > (a.toNat : Int)) ↔ b > a := by simp only [GT.gt]; rw [UInt16.lt_iff_toNat_lt]; omega
  congr 2
  by_cases h : b > a
  · rw [if_pos h, if_pos (e.2 h)]
  · rw [if_neg h, if_neg (fun q => h (e.1 q))]
end
section
variable (a b : UInt32)
theorem lt32 : (a.toNat : Int) < 4294967296 ∧ 0 ≤ (a.toNat : Int) := by
  have := a.toNat_lt
  omega
theorem add32 : (.leaf (.int .u32 (IntKind.u32.wrap ((a.toNat : Int) + (b.toNat : Int)))) : T) = t32 (a + b) := by
  congr 2
  all_goals
    rw [wrap32', UInt32.toNat_add]
    all_goals omega
theorem sub32 : (.leaf (.int .u32 (IntKind.u32.wrap ((a.toNat : Int) - (b.toNat : Int)))) : T) = t32 (a - b) := by
  congr 2
  all_goals
    rw [wrap32', UInt32.toNat_sub]
    have := lt32 a
    have := lt32 b
    omega
theorem mul32 : (.leaf (.int .u32 (IntKind.u32.wrap ((a.toNat : Int) * (b.toNat : Int)))) : T) = t32 (a * b) := by
  congr 2
  all_goals
    rw [wrap32', UInt32.toNat_mul, Int.natCast_emod, Int.natCast_mul]
    all_goals rfl
theorem quo32 : (.leaf (.int .u32 (IntKind.u32.wrap ((a.toNat : Int).tdiv (b.toNat : Int)))) : T) = t32 (a / b) := by
  congr 2
  all_goals
    have h := lt32 (a / b)
    rw [UInt32.toNat_div] at h
    rw [wrap32', UInt32.toNat_div, Int.tdiv_eq_ediv_of_nonneg (by omega), ← Int.natCast_ediv]
    exact Int.emod_eq_of_lt h.2 h.1
theorem rem32 : (.leaf (.int .u32 ((a.toNat : Int).tmod (b.toNat : Int))) : T) = t32 (a % b) := by
  congr 2
  all_goals
    rw [UInt32.toNat_mod, Int.tmod_eq_emod_of_nonneg (by omega), ← Int.natCast_emod]
theorem and32 : (.leaf (.int .u32 (IntKind.u32.wrap (((BitVec.ofInt (IntKind.bits .u32) (a.toNat : Int) &&& BitVec.ofInt (IntKind.bits .u32) (b.toNat : Int)).toNat : Int)))) : T) = t32 (a &&& b) := by
  congr 2
  all_goals
    have e : ∀ c : UInt32, BitVec.ofInt (IntKind.bits .u32) (c.toNat : Int) = c.toBitVec := fun c => by
      apply BitVec.eq_of_toNat_eq
      rw [BitVec.toNat_ofInt]
      have h := lt32 c
      show ((c.toNat : Int) % ((2 ^ 32 : Nat) : Int)).toNat = c.toNat
      have e2 : ((2 ^ 32 : Nat) : Int) = 4294967296 := by decide
      rw [e2]
      omega
    have h := lt32 (a &&& b)
    rw [wrap32', e, e]
    exact Int.emod_eq_of_lt h.2 h.1
theorem or32 : (.leaf (.int .u32 (IntKind.u32.wrap (((BitVec.ofInt (IntKind.bits .u32) (a.toNat : Int) ||| BitVec.ofInt (IntKind.bits .u32) (b.toNat : Int)).toNat : Int)))) : T) = t32 (a ||| b) := by
  congr 2
  all_goals
    have e : ∀ c : UInt32, BitVec.ofInt (IntKind.bits .u32) (c.toNat : Int) = c.toBitVec := fun c => by
      apply BitVec.eq_of_toNat_eq
      rw [BitVec.toNat_ofInt]
      have h := lt32 c
      show ((c.toNat : Int) % ((2 ^ 32 : Nat) : Int)).toNat = c.toNat
      have e2 : ((2 ^ 32 : Nat) : Int) = 4294967296 := by decide
      rw [e2]
      omega
    have h := lt32 (a ||| b)
    rw [wrap32', e, e]
    exact Int.emod_eq_of_lt h.2 h.1
theorem xor32 : (.leaf (.int .u32 (IntKind.u32.wrap (((BitVec.ofInt (IntKind.bits .u32) (a.toNat : Int) ^^^ BitVec.ofInt (IntKind.bits .u32) (b.toNat : Int)).toNat : Int)))) : T) = t32 (a ^^^ b) := by
  congr 2
  all_goals
    have e : ∀ c : UInt32, BitVec.ofInt (IntKind.bits .u32) (c.toNat : Int) = c.toBitVec := fun c => by
      apply BitVec.eq_of_toNat_eq
      rw [BitVec.toNat_ofInt]
      have h := lt32 c
      show ((c.toNat : Int) % ((2 ^ 32 : Nat) : Int)).toNat = c.toNat
      have e2 : ((2 ^ 32 : Nat) : Int) = 4294967296 := by decide
      rw [e2]
      omega
    have h := lt32 (a ^^^ b)
    rw [wrap32', e, e]
    exact Int.emod_eq_of_lt h.2 h.1
theorem not32 : (.leaf (.int .u32 (IntKind.u32.wrap (((BitVec.ofInt (IntKind.bits .u32) (if (IntKind.u32).signed = true then -1 else IntKind.u32.max) ^^^ BitVec.ofInt (IntKind.bits .u32) (a.toNat : Int)).toNat : Int)))) : T) = t32 (~~~a) := by
  congr 2
  all_goals
    have e : ∀ c : UInt32, BitVec.ofInt (IntKind.bits .u32) (c.toNat : Int) = c.toBitVec := fun c => by
      apply BitVec.eq_of_toNat_eq
      rw [BitVec.toNat_ofInt]
      have h := lt32 c
      show ((c.toNat : Int) % ((2 ^ 32 : Nat) : Int)).toNat = c.toNat
      have e2 : ((2 ^ 32 : Nat) : Int) = 4294967296 := by decide
      rw [e2]
      omega
    have e2 : BitVec.ofInt (IntKind.bits .u32) (if (IntKind.u32).signed = true then -1 else IntKind.u32.max) = BitVec.allOnes 32 := by rfl
    have e3 : ((~~~a : UInt32).toBitVec) = BitVec.allOnes 32 ^^^ a.toBitVec := by rw [BitVec.xor_comm, BitVec.xor_allOnes]; rfl
    have h := lt32 (~~~a)
    rw [wrap32', e, e2]
    have e4 : (BitVec.allOnes 32 ^^^ a.toBitVec).toNat = (~~~a).toNat := by rw [← e3]; rfl
    show (((BitVec.allOnes 32 ^^^ a.toBitVec).toNat : Nat) : Int) % 4294967296 = _
    rw [e4]
    exact Int.emod_eq_of_lt h.2 h.1
def shl32 (a : UInt32) (k : Int) : UInt32 := UInt32.ofNat (a.toNat * 2 ^ k.toNat)
def shr32 (a : UInt32) (k : Int) : UInt32 := UInt32.ofNat (a.toNat / 2 ^ k.toNat)
theorem shlT32 (k : Int) : (.leaf (.int .u32 (IntKind.u32.wrap ((a.toNat : Int) * 2 ^ (min k.toNat (IntKind.bits .u32))))) : T) = t32 (shl32 a k) := by
  congr 2
  all_goals
    simp only [IntKind.bits]
    unfold shl32
    rw [wrap32', UInt32.toNat_ofNat']
    have e0 : ∀ x : Nat, ((x % 2 ^ 32 : Nat) : Int) = (x : Int) % 4294967296 := fun x => by rw [Int.natCast_emod]; rfl
    rw [e0]
    rcases Nat.le_total k.toNat 32 with h | h
    · rw [Nat.min_eq_left h, Int.natCast_mul, Int.natCast_pow]; rfl
    · rw [Nat.min_eq_right h]
      obtain ⟨d, hd⟩ := Nat.exists_eq_add_of_le h
      have e1 : a.toNat * 2 ^ k.toNat = (a.toNat * 2 ^ d) * 4294967296 := by rw [hd, Nat.pow_add, Nat.mul_comm (2 ^ 32), ← Nat.mul_assoc]
      rw [e1, Int.natCast_mul]
      generalize (a.toNat * 2 ^ d : Nat) = z
      have e2 : (2 : Int) ^ 32 = 4294967296 := by decide
      rw [e2]
      omega
theorem shrT32 (k : Int) : (.leaf (.int .u32 ((a.toNat : Int).fdiv (2 ^ (min k.toNat (IntKind.bits .u32))))) : T) = t32 (shr32 a k) := by
  congr 2
  all_goals
    simp only [IntKind.bits]
    unfold shr32
    rw [UInt32.toNat_ofNat']
    have ha := a.toNat_lt
    have hq : a.toNat / 2 ^ k.toNat < 2 ^ 32 := Nat.lt_of_le_of_lt (Nat.div_le_self _ _) ha
    rw [Nat.mod_eq_of_lt hq]
    have e : ∀ j : Nat, (a.toNat : Int).fdiv (2 ^ j) = ((a.toNat / 2 ^ j : Nat) : Int) := fun j => by
      have h2 : (0 : Int) ≤ 2 ^ j := Int.pow_nonneg (by decide)
      rw [Int.fdiv_eq_ediv_of_nonneg _ h2, Int.natCast_ediv, Int.natCast_pow]
      rfl
    rcases Nat.le_total k.toNat 32 with h | h
    · rw [Nat.min_eq_left h, e]
    · rw [Nat.min_eq_right h, e, Nat.div_eq_of_lt ha, Nat.div_eq_of_lt (Nat.lt_of_lt_of_le ha (Nat.pow_le_pow_right (by decide) h))]
theorem ltB32 : tb (decide ((a.toNat : Int) < (b.toNat : Int))) = tb (decide (a < b)) := by
  refine eb ?_
  rw [decide_eq_decide]
  simp only [GT.gt, GE.ge, UInt32.lt_iff_toNat_lt]
  omega
theorem leB32 : tb (decide ((a.toNat : Int) ≤ (b.toNat : Int))) = tb (decide (a ≤ b)) := by
  refine eb ?_
  rw [decide_eq_decide]
  simp only [GT.gt, GE.ge, UInt32.le_iff_toNat_le]
  omega
theorem gtB32 : tb (decide ((a.toNat : Int) > (b.toNat : Int))) = tb (decide (a > b)) := by
  refine eb ?_
  rw [decide_eq_decide]
  simp only [GT.gt, GE.ge, UInt32.lt_iff_toNat_lt]
  omega
theorem geB32 : tb (decide ((a.toNat : Int) ≥ (b.toNat : Int))) = tb (decide (a ≥ b)) := by
  refine eb ?_
  rw [decide_eq_decide]
  simp only [GT.gt, GE.ge, UInt32.le_iff_toNat_le]
  omega
theorem eqB32 : tb ((a.toNat : Int) == (b.toNat : Int)) = tb (a == b) := by
  refine eb ?_
  rw [Bool.eq_iff_iff]
  simp only [beq_iff_eq, bne_iff_ne, ne_eq, ← UInt32.toNat_inj]
  omega
theorem neB32 : tb ((a.toNat : Int) != (b.toNat : Int)) = tb (a != b) := by
  refine eb ?_
  rw [Bool.eq_iff_iff]
  simp only [beq_iff_eq, bne_iff_ne, ne_eq, ← UInt32.toNat_inj]
  omega
theorem cv32_8 : (.leaf (.int .u8 (IntKind.u8.wrap (a.toNat : Int))) : T) = t8 a.toUInt8 := by
  congr 2
  all_goals
    rw [wrap8, UInt32.toNat_toUInt8]
    have h := lt32 a
    all_goals omega
theorem cv32_16 : (.leaf (.int .u16 (IntKind.u16.wrap (a.toNat : Int))) : T) = t16 a.toUInt16 := by
  congr 2
  all_goals
    rw [wrap16, UInt32.toNat_toUInt16]
    have h := lt32 a
    all_goals omega
theorem cv32_32 : (.leaf (.int .u32 (IntKind.u32.wrap (a.toNat : Int))) : T) = t32 a := by
  congr 2
  all_goals
    rw [wrap32']
    have h := lt32 a
    exact Int.emod_eq_of_lt h.2 h.1
theorem cv32_64 : (.leaf (.int .u64 (IntKind.u64.wrap (a.toNat : Int))) : T) = t64 a.toUInt64 := by
  congr 2
  all_goals
    rw [wrap64', UInt32.toNat_toUInt64]
    have h := lt32 a
    all_goals omega
theorem cv32_i : ti (IntKind.i64.wrap (a.toNat : Int)) = ti (a.toNat : Int) := by
  exact iw _ (by have := lt32 a; omega)
theorem cvi_32 (x : Int) : (.leaf (.int .u32 (IntKind.u32.wrap x)) : T) = t32 (u32i x) := by
  congr 2
  all_goals
    rw [wrap32']
    unfold u32i
    rw [UInt32.toNat_ofNat']
    have h1 := Int.emod_nonneg x (show (4294967296 : Int) ≠ 0 by decide)
    have h2 := Int.emod_lt_of_pos x (show (0 : Int) < 4294967296 by decide)
    omega
theorem min32 : (.leaf (.int .u32 (if (b.toNat : Int) < (a.toNat : Int) then (b.toNat : Int) else (a.toNat : Int))) : T) = t32 (if b < a then b else a) := by
  have e : ((b.toNat : Int) < (a.toNat : Int)) ↔ b < a := by rw [UInt32.lt_iff_toNat_lt]; omega
  congr 2
  by_cases h : b < a
  · rw [if_pos h, if_pos (e.2 h)]
  · rw [if_neg h, if_neg (fun q => h (e.1 q))]
theorem max32 : (.leaf (.int .u32 (if (b.toNat : Int) > (a.toNat : Int) then (b.toNat : Int) else (a.toNat : Int))) : T) = t32 (if b > a then b else a) := by
  have e : ((b.toNat : Int) > (a.toNat : Int)) ↔ b > a := by simp only [GT.gt]; rw [UInt32.lt_iff_toNat_lt]; omega
  congr 2
  by_cases h : b > a
  · rw [if_pos h, if_pos (e.2 h)]
  · rw [if_neg h, if_neg (fun q => h (e.1 q))]
end
section
variable (a b : UInt64)
theorem lt64 : (a.toNat : Int) < 18446744073709551616 ∧ 0 ≤ (a.toNat : Int) := by
  have := a.toNat_lt
  omega
theorem add64 : (.leaf (.int .u64 (IntKind.u64.wrap ((a.toNat : Int) + (b.toNat : Int)))) : T) = t64 (a + b) := by
  congr 2
  all_goals
    rw [wrap64', UInt64.toNat_add]
    all_goals omega
theorem sub64 : (.leaf (.int .u64 (IntKind.u64.wrap ((a.toNat : Int) - (b.toNat : Int)))) : T) = t64 (a - b) := by
  congr 2
  all_goals
    rw [wrap64', UInt64.toNat_sub]
    have := lt64 a
    have := lt64 b
    omega
theorem mul64 : (.leaf (.int .u64 (IntKind.u64.wrap ((a.toNat : Int) * (b.toNat : Int)))) : T) = t64 (a * b) := by
  congr 2
  all_goals
    rw [wrap64', UInt64.toNat_mul, Int.natCast_emod, Int.natCast_mul]
    all_goals rfl
theorem quo64 : (.leaf (.int .u64 (IntKind.u64.wrap ((a.toNat : Int).tdiv (b.toNat : Int)))) : T) = t64 (a / b) := by
  congr 2
  all_goals
    have h := lt64 (a / b)
    rw [UInt64.toNat_div] at h
    rw [wrap64', UInt64.toNat_div, Int.tdiv_eq_ediv_of_nonneg (by omega), ← Int.natCast_ediv]
    exact Int.emod_eq_of_lt h.2 h.1
theorem rem64 : (.leaf (.int .u64 ((a.toNat : Int).tmod (b.toNat : Int))) : T) = t64 (a % b) := by
  congr 2
  all_goals
    rw [UInt64.toNat_mod, Int.tmod_eq_emod_of_nonneg (by omega), ← Int.natCast_emod]
theorem and64 : (.leaf (.int .u64 (IntKind.u64.wrap (((BitVec.ofInt (IntKind.bits .u64) (a.toNat : Int) &&& BitVec.ofInt (IntKind.bits .u64) (b.toNat : Int)).toNat : Int)))) : T) = t64 (a &&& b) := by
  congr 2
  all_goals
    have e : ∀ c : UInt64, BitVec.ofInt (IntKind.bits .u64) (c.toNat : Int) = c.toBitVec := fun c => by
      apply BitVec.eq_of_toNat_eq
      rw [BitVec.toNat_ofInt]
      have h := lt64 c
      show ((c.toNat : Int) % ((2 ^ 64 : Nat) : Int)).toNat = c.toNat
      have e2 : ((2 ^ 64 : Nat) : Int) = 18446744073709551616 := by decide
      rw [e2]
      omega
    have h := lt64 (a &&& b)
    rw [wrap64', e, e]
    exact Int.emod_eq_of_lt h.2 h.1
theorem or64 : (.leaf (.int .u64 (IntKind.u64.wrap (((BitVec.ofInt (IntKind.bits .u64) (a.toNat : Int) ||| BitVec.ofInt (IntKind.bits .u64) (b.toNat : Int)).toNat : Int)))) : T) = t64 (a ||| b) := by
  congr 2
  all_goals
    have e : ∀ c : UInt64, BitVec.ofInt (IntKind.bits .u64) (c.toNat : Int) = c.toBitVec := fun c => by
      apply BitVec.eq_of_toNat_eq
      rw [BitVec.toNat_ofInt]
      have h := lt64 c
      show ((c.toNat : Int) % ((2 ^ 64 : Nat) : Int)).toNat = c.toNat
      have e2 : ((2 ^ 64 : Nat) : Int) = 18446744073709551616 := by decide
      rw [e2]
      omega
    have h := lt64 (a ||| b)
    rw [wrap64', e, e]
    exact Int.emod_eq_of_lt h.2 h.1
theorem xor64 : (.leaf (.int .u64 (IntKind.u64.wrap (((BitVec.ofInt (IntKind.bits .u64) (a.toNat : Int) ^^^ BitVec.ofInt (IntKind.bits .u64) (b.toNat : Int)).toNat : Int)))) : T) = t64 (a ^^^ b) := by
  congr 2
  all_goals
    have e : ∀ c : UInt64, BitVec.ofInt (IntKind.bits .u64) (c.toNat : Int) = c.toBitVec := fun c => by
      apply BitVec.eq_of_toNat_eq
      rw [BitVec.toNat_ofInt]
      have h := lt64 c
      show ((c.toNat : Int) % ((2 ^ 64 : Nat) : Int)).toNat = c.toNat
      have e2 : ((2 ^ 64 : Nat) : Int) = 18446744073709551616 := by decide
      rw [e2]
      omega
    have h := lt64 (a ^^^ b)
    rw [wrap64', e, e]
    exact Int.emod_eq_of_lt h.2 h.1
theorem not64 : (.leaf (.int .u64 (IntKind.u64.wrap (((BitVec.ofInt (IntKind.bits .u64) (if (IntKind.u64).signed = true then -1 else IntKind.u64.max) ^^^ BitVec.ofInt (IntKind.bits .u64) (a.toNat : Int)).toNat : Int)))) : T) = t64 (~~~a) := by
  congr 2
  all_goals
    have e : ∀ c : UInt64, BitVec.ofInt (IntKind.bits .u64) (c.toNat : Int) = c.toBitVec := fun c => by
      apply BitVec.eq_of_toNat_eq
      rw [BitVec.toNat_ofInt]
      have h := lt64 c
      show ((c.toNat : Int) % ((2 ^ 64 : Nat) : Int)).toNat = c.toNat
      have e2 : ((2 ^ 64 : Nat) : Int) = 18446744073709551616 := by decide
      rw [e2]
      omega
    have e2 : BitVec.ofInt (IntKind.bits .u64) (if (IntKind.u64).signed = true then -1 else IntKind.u64.max) = BitVec.allOnes 64 := by rfl
    have e3 : ((~~~a : UInt64).toBitVec) = BitVec.allOnes 64 ^^^ a.toBitVec := by rw [BitVec.xor_comm, BitVec.xor_allOnes]; rfl
    have h := lt64 (~~~a)
    rw [wrap64', e, e2]
    have e4 : (BitVec.allOnes 64 ^^^ a.toBitVec).toNat = (~~~a).toNat := by rw [← e3]; rfl
    show (((BitVec.allOnes 64 ^^^ a.toBitVec).toNat : Nat) : Int) % 18446744073709551616 = _
    rw [e4]
    exact Int.emod_eq_of_lt h.2 h.1
def shl64 (a : UInt64) (k : Int) : UInt64 := UInt64.ofNat (a.toNat * 2 ^ k.toNat)
def shr64 (a : UInt64) (k : Int) : UInt64 := UInt64.ofNat (a.toNat / 2 ^ k.toNat)
theorem shlT64 (k : Int) : (.leaf (.int .u64 (IntKind.u64.wrap ((a.toNat : Int) * 2 ^ (min k.toNat (IntKind.bits .u64))))) : T) = t64 (shl64 a k) := by
  congr 2
  all_goals
    simp only [IntKind.bits]
    unfold shl64
    rw [wrap64', UInt64.toNat_ofNat']
    have e0 : ∀ x : Nat, ((x % 2 ^ 64 : Nat) : Int) = (x : Int) % 18446744073709551616 := fun x => by rw [Int.natCast_emod]; rfl
    rw [e0]
    rcases Nat.le_total k.toNat 64 with h | h
    · rw [Nat.min_eq_left h, Int.natCast_mul, Int.natCast_pow]; rfl
    · rw [Nat.min_eq_right h]
      obtain ⟨d, hd⟩ := Nat.exists_eq_add_of_le h
      have e1 : a.toNat * 2 ^ k.toNat = (a.toNat * 2 ^ d) * 18446744073709551616 := by rw [hd, Nat.pow_add, Nat.mul_comm (2 ^ 64), ← Nat.mul_assoc]
      rw [e1, Int.natCast_mul]
      generalize (a.toNat * 2 ^ d : Nat) = z
      have e2 : (2 : Int) ^ 64 = 18446744073709551616 := by decide
      rw [e2]
      omega
theorem shrT64 (k : Int) : (.leaf (.int .u64 ((a.toNat : Int).fdiv (2 ^ (min k.toNat (IntKind.bits .u64))))) : T) = t64 (shr64 a k) := by
  congr 2
  all_goals
    simp only [IntKind.bits]
    unfold shr64
    rw [UInt64.toNat_ofNat']
    have ha := a.toNat_lt
    have hq : a.toNat / 2 ^ k.toNat < 2 ^ 64 := Nat.lt_of_le_of_lt (Nat.div_le_self _ _) ha
    rw [Nat.mod_eq_of_lt hq]
    have e : ∀ j : Nat, (a.toNat : Int).fdiv (2 ^ j) = ((a.toNat / 2 ^ j : Nat) : Int) := fun j => by
      have h2 : (0 : Int) ≤ 2 ^ j := Int.pow_nonneg (by decide)
      rw [Int.fdiv_eq_ediv_of_nonneg _ h2, Int.natCast_ediv, Int.natCast_pow]
      rfl
    rcases Nat.le_total k.toNat 64 with h | h
    · rw [Nat.min_eq_left h, e]
    · rw [Nat.min_eq_right h, e, Nat.div_eq_of_lt ha, Nat.div_eq_of_lt (Nat.lt_of_lt_of_le ha (Nat.pow_le_pow_right (by decide) h))]
theorem ltB64 : tb (decide ((a.toNat : Int) < (b.toNat : Int))) = tb (decide (a < b)) := by
  refine eb ?_
  rw [decide_eq_decide]
  simp only [GT.gt, GE.ge, UInt64.lt_iff_toNat_lt]
  omega
theorem leB64 : tb (decide ((a.toNat : Int) ≤ (b.toNat : Int))) = tb (decide (a ≤ b)) := by
  refine eb ?_
  rw [decide_eq_decide]
  simp only [GT.gt, GE.ge, UInt64.le_iff_toNat_le]
  omega
theorem gtB64 : tb (decide ((a.toNat : Int) > (b.toNat : Int))) = tb (decide (a > b)) := by
  refine eb ?_
  rw [decide_eq_decide]
  simp only [GT.gt, GE.ge, UInt64.lt_iff_toNat_lt]
  omega
theorem geB64 : tb (decide ((a.toNat : Int) ≥ (b.toNat : Int))) = tb (decide (a ≥ b)) := by
  refine eb ?_
  rw [decide_eq_decide]
  simp only [GT.gt, GE.ge, UInt64.le_iff_toNat_le]
  omega
theorem eqB64 : tb ((a.toNat : Int) == (b.toNat : Int)) = tb (a == b) := by
  refine eb ?_
  rw [Bool.eq_iff_iff]
  simp only [beq_iff_eq, bne_iff_ne, ne_eq, ← UInt64.toNat_inj]
  omega
theorem neB64 : tb ((a.toNat : Int) != (b.toNat : Int)) = tb (a != b) := by
  refine eb ?_
  rw [Bool.eq_iff_iff]
  simp only [beq_iff_eq, bne_iff_ne, ne_eq, ← UInt64.toNat_inj]
  omega
theorem cv64_8 : (.leaf (.int .u8 (IntKind.u8.wrap (a.toNat : Int))) : T) = t8 a.toUInt8 := by
  congr 2
  all_goals
    rw [wrap8, UInt64.toNat_toUInt8]
    have h := lt64 a
    all_goals omega
theorem cv64_16 : (.leaf (.int .u16 (IntKind.u16.wrap (a.toNat : Int))) : T) = t16 a.toUInt16 := by
  congr 2
  all_goals
    rw [wrap16, UInt64.toNat_toUInt16]
    have h := lt64 a
    all_goals omega
theorem cv64_32 : (.leaf (.int .u32 (IntKind.u32.wrap (a.toNat : Int))) : T) = t32 a.toUInt32 := by
  congr 2
  all_goals
    rw [wrap32', UInt64.toNat_toUInt32]
    have h := lt64 a
    all_goals omega
theorem cv64_64 : (.leaf (.int .u64 (IntKind.u64.wrap (a.toNat : Int))) : T) = t64 a := by
  congr 2
  all_goals
    rw [wrap64']
    have h := lt64 a
    exact Int.emod_eq_of_lt h.2 h.1
theorem cvi_64 (x : Int) : (.leaf (.int .u64 (IntKind.u64.wrap x)) : T) = t64 (u64i x) := by
  congr 2
  all_goals
    rw [wrap64']
    unfold u64i
    rw [UInt64.toNat_ofNat']
    have h1 := Int.emod_nonneg x (show (18446744073709551616 : Int) ≠ 0 by decide)
    have h2 := Int.emod_lt_of_pos x (show (0 : Int) < 18446744073709551616 by decide)
    omega
theorem min64 : (.leaf (.int .u64 (if (b.toNat : Int) < (a.toNat : Int) then (b.toNat : Int) else (a.toNat : Int))) : T) = t64 (if b < a then b else a) := by
  have e : ((b.toNat : Int) < (a.toNat : Int)) ↔ b < a := by rw [UInt64.lt_iff_toNat_lt]; omega
  congr 2
  by_cases h : b < a
  · rw [if_pos h, if_pos (e.2 h)]
  · rw [if_neg h, if_neg (fun q => h (e.1 q))]
theorem max64 : (.leaf (.int .u64 (if (b.toNat : Int) > (a.toNat : Int) then (b.toNat : Int) else (a.toNat : Int))) : T) = t64 (if b > a then b else a) := by
  have e : ((b.toNat : Int) > (a.toNat : Int)) ↔ b > a := by simp only [GT.gt]; rw [UInt64.lt_iff_toNat_lt]; omega
  congr 2
  by_cases h : b > a
  · rw [if_pos h, if_pos (e.2 h)]
  · rw [if_neg h, if_neg (fun q => h (e.1 q))]
end
end Go.Vw

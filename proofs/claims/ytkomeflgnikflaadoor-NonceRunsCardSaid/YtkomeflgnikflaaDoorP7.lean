/- Nonce, run: the plain law. -/
import Derived.Test.YtkomeflgnikflaaDoorP6
namespace Go.Proofs.YtkomeflgnikflaaDoor
open Go Go.Vw Go.Proofs
theorem take_eq (a b c : UInt64) : nonce_Counter_Take a b c = bif decide (a ≥ b) then (0, 2, (a, b, c)) else (a, 0, (a + 1, b, c)) := by
  rw [nonce_Counter_Take, nonce_Counter_Take_l1]
  cases decide (a ≥ b) <;> rfl
theorem ext_eq (a b c : UInt64) : nonce_Counter_Extend a b c = bif b == c then (0, 8, (a, b, c)) else (if c < b + 16 then c else b + 16, 0, (a, if c < b + 16 then c else b + 16, c)) := by
  rw [nonce_Counter_Extend, nonce_Counter_Extend_l1]
  cases b == c <;> rfl
theorem n16 : UInt64.toNat 16 = 16 := rfl
theorem n1 : UInt64.toNat 1 = 1 := rfl
theorem lim : UInt64.toNat 281474976710656 = 281474976710656 := rfl
theorem add16 {b : UInt64} (h : b.toNat ≤ 281474976710656) : (b + 16).toNat = b.toNat + 16 := by rw [UInt64.toNat_add, n16]; omega
theorem add1 {b : UInt64} (h : b.toNat ≤ 281474976710656) : (b + 1).toNat = b.toNat + 1 := by rw [UInt64.toNat_add, n1]; omega
theorem ref_loop (c : UInt64) (hc : c.toNat ≤ 281474976710656) : ∀ (m : Nat) (i : Int) (x : UInt64), 0 ≤ i → i ≤ 16 → x.toNat ≤ c.toNat → (16 - i).toNat < m → ∃ r, bursaryref18_Extend_l1 c m i x = .brk r ∧ r.toNat = min c.toNat (x.toNat + (16 - i).toNat) := by
  intro m
  induction m with
  | zero => intro i x _ _ _ hm; exact absurd hm (Nat.not_lt_zero _)
  | succ m ih =>
    intro i x h0 h1 hx hm
    rw [bursaryref18_Extend_l1]
    cases hg : (decide (i < 16)) && (decide (x < c)) with
    | false =>
      refine ⟨x, rfl, ?_⟩
      rcases Bool.and_eq_false_iff.1 hg with h | h
      · have := of_decide_eq_false h; omega
      · have h := of_decide_eq_false h
        rw [UInt64.lt_iff_toNat_lt] at h; omega
    | true =>
      obtain ⟨g1, g2⟩ := Bool.and_eq_true_iff.1 hg
      have g1 := of_decide_eq_true g1
      have g2 := of_decide_eq_true g2
      rw [UInt64.lt_iff_toNat_lt] at g2
      have e : (x + 1).toNat = x.toNat + 1 := add1 (by omega)
      obtain ⟨r, h2, h3⟩ := ih (i + 1) (x + 1) (by omega) (by omega) (by omega) (by omega)
      exact ⟨r, h2, by rw [h3, e]; omega⟩
theorem refext {a b c : UInt64} (h : b.toNat ≤ c.toNat) (hc : c.toNat ≤ 281474976710656) : bursaryref18_Extend a b c = bif b == c then ((a, b, c), 8) else ((a, if c < b + 16 then c else b + 16, c), 0) := by
  rw [bursaryref18_Extend]
  obtain ⟨r, h1, h2⟩ := ref_loop c hc ((16 - (0 : Int)).toNat + 1) 0 b (by omega) (by omega) h (by omega)
  rw [h1]
  have e : r = if c < b + 16 then c else b + 16 := by
    apply UInt64.toNat_inj.1
    have e16 := add16 (b := b) (by omega)
    split
    · rename_i hl; rw [UInt64.lt_iff_toNat_lt] at hl; omega
    · rename_i hl; rw [UInt64.lt_iff_toNat_lt] at hl; omega
  rw [e]
  cases b == c <;> rfl
theorem reftake {a b c : UInt64} (h : a.toNat ≤ b.toNat) : bursaryref18_Take a b c = bif decide (a ≥ b) then ((a, b, c), 0, 2) else ((a + 1, b, c), a, 0) := by
  have : (a == b) = decide (a ≥ b) := by
    rw [Bool.eq_iff_iff, beq_iff_eq, decide_eq_true_eq]
    constructor
    · intro e; subst e; exact UInt64.le_refl _
    · intro e
      apply UInt64.toNat_inj.1
      have : b.toNat ≤ a.toNat := UInt64.le_iff_toNat_le.1 e
      omega
  rw [bursaryref18_Take, this]
theorem bneS {α : Type} [BEq α] [LawfulBEq α] (x : α) : (x != x) = false := by simp
theorem runs_loop (l : List Bool) : ∀ (m : Nat) (i : Int) (a b c : UInt64), 0 ≤ i → a.toNat ≤ b.toNat → b.toNat ≤ c.toNat → c.toNat ≤ 281474976710656 → ((l.length : Int) - i).toNat < m →
    Lo.el (bursarylaw18_NonceRuns_l1 l m i a b c a b c) (fun z => bursarylaw18_NonceRuns_k1 z.1 z.2.1 z.2.2.1 z.2.2.2.1 z.2.2.2.2.1 z.2.2.2.2.2) = true := by
  intro m
  induction m with
  | zero => intro i a b c _ _ _ _ hm; exact absurd hm (Nat.not_lt_zero _)
  | succ m ih =>
    intro i a b c h0 hab hbc hc hm
    rw [bursarylaw18_NonceRuns_l1]
    cases hg : (decide (i < (l.length : Int))) && (decide (i < 200)) with
    | false => exact sure18
    | true =>
      have g1 := of_decide_eq_true (Bool.and_eq_true_iff.1 hg).1
      rw [cond_true]
      simp only [bnd_eq, nonce_Counter_Mark, nonce_Counter_Left]
      cases l.getD i.toNat false with
      | true =>
        rw [cond_true, ext_eq, refext hbc hc]
        cases hb : b == c with
        | true =>
          simp only [cond_true, bneS, id]
          exact ih (i + 1) a b c (by omega) hab hbc hc (by omega)
        | false =>
          have hM : ((if c < b + 16 then c else b + 16) : UInt64).toNat ≤ c.toNat ∧ b.toNat ≤ ((if c < b + 16 then c else b + 16) : UInt64).toNat := by
            have e16 := add16 (b := b) (by omega)
            split
            · omega
            · rename_i hl; rw [UInt64.lt_iff_toNat_lt] at hl; omega
          generalize (if c < b + 16 then c else b + 16 : UInt64) = M at hM
          simp only [cond_false, bneS, id]
          exact ih (i + 1) a M c (by omega) (by omega) (by omega) hc (by omega)
      | false =>
        rw [cond_false, take_eq, reftake hab]
        cases ha : decide (a ≥ b) with
        | true =>
          simp only [cond_true, bneS, id]
          exact ih (i + 1) a b c (by omega) hab hbc hc (by omega)
        | false =>
          have h := of_decide_eq_false ha
          have h' : a.toNat < b.toNat := by
            have : ¬ b.toNat ≤ a.toNat := fun e => h (UInt64.le_iff_toNat_le.2 e)
            omega
          have e : (a + 1).toNat = a.toNat + 1 := add1 (by omega)
          simp only [cond_false, bneS, id]
          exact ih (i + 1) (a + 1) b c (by omega) (by omega) hbc hc (by omega)
theorem nonceRuns_true (a b : UInt64) (l : List Bool) : bursarylaw18_NonceRuns a b l = true := by
  rw [bursarylaw18_NonceRuns]
  simp only [bnd_eq]
  rw [bytes_ref, bytes_ref, parse_bytes]
  have e0 : ((id nil_Take.2 != 1) || ((id nil_Extend.2 != 1) || ((nil_Mark != 0) || ((nil_Left != 0) || (nonce_Bytes a.toUInt32 b != nonce_Bytes a.toUInt32 b))))) = false := by
    rw [bneS]; rfl
  rw [e0, cond_false]
  have e1 : ((!(decide ((0 : Int) = 0))) || ((b.toUInt32 != b.toUInt32) || (a != a))) = false := by rw [bneS, bneS]; rfl
  show (bif (!(decide ((0 : Int) = 0))) || ((b.toUInt32 != b.toUInt32) || (a != a)) then _ else _) = true
  rw [e1, cond_false]
  have hmay : bursaryref18_May a b = !((decide (a > b)) || (decide (b > 281474976710656))) := by
    rw [bursaryref18_May]
    have q1 : decide (a ≤ b) = !(decide (a > b)) := by
      rw [Bool.eq_iff_iff, decide_eq_true_eq, Bool.not_eq_true', decide_eq_false_iff_not]
      show a ≤ b ↔ ¬ b < a
      rw [UInt64.le_iff_toNat_le, UInt64.lt_iff_toNat_lt]; omega
    have q2 : decide (b ≤ 281474976710656) = !(decide (b > 281474976710656)) := by
      rw [Bool.eq_iff_iff, decide_eq_true_eq, Bool.not_eq_true', decide_eq_false_iff_not]
      show b ≤ 281474976710656 ↔ ¬ 281474976710656 < b
      rw [UInt64.le_iff_toNat_le, UInt64.lt_iff_toNat_lt]; omega
    rw [q1, q2, Bool.not_or]
  rw [hmay, nonce_New]
  cases hq : (decide (a > b)) || (decide (b > 281474976710656)) with
  | true =>
    rw [sure18]; rfl
  | false =>
    obtain ⟨h1, h2⟩ := Bool.or_eq_false_iff.1 hq
    have h1 := of_decide_eq_false h1
    have h2 := of_decide_eq_false h2
    have h1 : a.toNat ≤ b.toNat := by
      have : ¬ b.toNat < a.toNat := fun e => h1 (UInt64.lt_iff_toNat_lt.2 e)
      omega
    have h2 : b.toNat ≤ 281474976710656 := by
      have : ¬ 281474976710656 < b.toNat := fun e => h2 (UInt64.lt_iff_toNat_lt.2 (by rw [lim]; exact e))
      omega
    exact runs_loop l _ 0 a a b (by omega) (Nat.le_refl _) h1 h2 (by omega)
end Go.Proofs.YtkomeflgnikflaaDoor

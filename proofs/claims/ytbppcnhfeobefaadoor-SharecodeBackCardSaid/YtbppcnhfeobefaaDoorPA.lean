import Derived.Test.YtbppcnhfeobefaaDoorZ3
set_option linter.unusedVariables false
set_option linter.unusedSimpArgs false
namespace Go.Proofs.YtbppcnhfeobefaaDoor
open Go Go.Vw Go.Proofs
def okS (a : UInt8) (c : List UInt8) : Prop := a ≠ 0 ∧ 1 ≤ c.length ∧ c.length ≤ 64
instance (a : UInt8) (c : List UInt8) : Decidable (okS a c) := by unfold okS; infer_instance
def encS (a : UInt8) (g : UInt32) (c : List UInt8) : List UInt8 := 115 :: 104 :: (shr32 g 24).toUInt8 :: (shr32 g 16).toUInt8 :: (shr32 g 8).toUInt8 :: g.toUInt8 :: a :: u8i (c.length : Int) :: c
theorem check_eq (a : UInt8) (g : UInt32) (c : List UInt8) : sharecode_check a g c = if okS a c then 0 else 4 := by
  rw [sharecode_check]
  by_cases h : okS a c
  · rw [if_pos h]
    obtain ⟨h1, h2, h3⟩ := h
    have : ((a == 0) || ((decide ((c.length : Int) < 1)) || (decide ((c.length : Int) > 64)))) = false := by
      simp only [Bool.or_eq_false_iff, beq_eq_false_iff_ne, decide_eq_false_iff_not]
      exact ⟨h1, by omega, by omega⟩
    rw [this, cond_false]
  · rw [if_neg h]
    have : ((a == 0) || ((decide ((c.length : Int) < 1)) || (decide ((c.length : Int) > 64)))) = true := by
      cases e : ((a == 0) || ((decide ((c.length : Int) < 1)) || (decide ((c.length : Int) > 64)))) with
      | true => rfl
      | false =>
        simp only [Bool.or_eq_false_iff, beq_eq_false_iff_ne, decide_eq_false_iff_not] at e
        exact absurd ⟨e.1, by omega, by omega⟩ h
    rw [this, cond_true]
theorem enc_eq (a : UInt8) (g : UInt32) (c : List UInt8) : sharecode_Encode a g c = if okS a c then (encS a g c, 0) else ([], 4) := by
  rw [encode_eq, check_eq]
  by_cases h : okS a c
  · simp only [if_pos h]; rfl
  · simp only [if_neg h]; rfl
theorem encS_len (a : UInt8) (g : UInt32) (c : List UInt8) : (encS a g c).length = 8 + c.length := by simp [encS]; omega
theorem encode_fact2 (a : UInt8) (g : UInt32) (c : List UInt8) : (sharecode_Encode a g c).1.length ≤ 72 ∧ ((sharecode_Encode a g c).2 = 0 → 9 ≤ (sharecode_Encode a g c).1.length) := by
  rw [enc_eq]; split
  · rename_i h; have := h.2; rw [encS_len]; omega
  · simp
-- hexadecimal digits
def hx (c : UInt8) : List UInt8 := [hexas.getD (shr8 c 4).toNat 0, hexas.getD (c &&& 15).toNat 0]
def hexs (l : List UInt8) : List UInt8 := l.flatMap hx
theorem hexs_len (l : List UInt8) : (hexs l).length = 2 * l.length := by
  induction l with
  | nil => rfl
  | cons a l ih => rw [hexs, List.flatMap_cons, List.length_append, ← hexs, ih]; simp [hx]; omega
theorem flat_get {β : Type} (h : UInt8 → List β) (l : List UInt8) : (List.range l.length).flatMap (fun k => h (l.getD k 0)) = l.flatMap h := by
  induction l with
  | nil => rfl
  | cons a l ih =>
    rw [List.length_cons, List.range_succ_eq_map, List.flatMap_cons, List.flatMap_map, List.flatMap_cons, ← ih]; rfl
theorem text_eq (a : UInt8) (g : UInt32) (c : List UInt8) : sharecode_Text a g c = if okS a c then (hexs (encS a g c), 0) else ([], 4) := by
  rw [sharecode_Text, enc_eq, bnd_eq]
  by_cases h : okS a c
  · rw [if_pos h, if_pos h]
    show _root_.cond false _ _ = _
    rw [cond_false, appLoop (f := sharecode_Text_l1 (encS a g c, 0)) (n := ((encS a g c).length : Int)) (g := fun i => hx ((encS a g c).getD i.toNat 0)) (fun m i o _ => by rw [sharecode_Text_l1]; rfl) _ _ _ (by omega) (Nat.lt_succ_self _)]
    show sharecode_Text_k1 ([] ++ _) = _
    rw [sharecode_Text_k1, List.nil_append, Int.sub_zero, Int.toNat_natCast]
    simp only [Int.zero_add, Int.toNat_natCast]
    rw [flat_get]; rfl
  · rw [if_neg h, if_neg h]; rfl
theorem text_fact (a : UInt8) (g : UInt32) (c : List UInt8) : (sharecode_Text a g c).1.length ≤ 144 := by
  rw [text_eq]; split
  · rename_i h; have := h.2.2; rw [hexs_len, encS_len]; omega
  · simp
theorem ofN (c : UInt8) : UInt8.ofNat c.toNat = c := by simp
theorem all8 {p : Nat → Bool} (h : (List.range 256).all p = true) (c : UInt8) : p c.toNat = true := List.all_eq_true.1 h c.toNat (List.mem_range.2 (by have := c.toNat_lt; omega))
def gen4 (b : List UInt8) : UInt32 := 256 * (256 * (256 * (256 * 0 + (b.getD 2 0).toUInt32) + (b.getD 3 0).toUInt32) + (b.getD 4 0).toUInt32) + (b.getD 5 0).toUInt32
def okB (b : List UInt8) : Prop := 9 ≤ b.length ∧ b.getD 0 0 = 115 ∧ b.getD 1 0 = 104 ∧ b.getD 6 0 ≠ 0 ∧ (b.getD 7 0).toNat ≤ 64 ∧ b.length = 8 + (b.getD 7 0).toNat
instance (b : List UInt8) : Decidable (okB b) := by unfold okB; infer_instance
noncomputable def dcd (b : List UInt8) : (UInt8 × UInt32 × List UInt8) × Int := if okB b then ((b.getD 6 0, gen4 b, b.drop 8), 0) else ((0, 0, []), 4)
theorem dec_eq (b : List UInt8) : sharecode_Decode b = dcd b := by
  rw [sharecode_Decode, dcd]
  by_cases h : b.length < 8 ∨ b.getD 0 0 ≠ 115 ∨ b.getD 1 0 ≠ 104 ∨ (b.getD 7 0).toNat + 8 ≠ b.length
  · have hn : ¬ okB b := fun q => by
      obtain ⟨h1, h2, h3, h4, h5, h6⟩ := q
      rcases h with h | h | h | h
      · omega
      · exact h h2
      · exact h h3
      · omega
    have e : ((decide ((b.length : Int) < 8)) || (((slc b 0 2) != [115, 104]) || (((b.getD 7 0).toNat : Int) != ((b.length : Int) - 8)))) = true := by
      rw [← Bool.not_eq_false]
      intro e
      simp only [Bool.or_eq_false_iff, decide_eq_false_iff_not, bne_eq_false_iff_eq] at e
      obtain ⟨h1, h2, h3⟩ := e
      have g0 := slc_getD b 0 2 0 0
      have g1 := slc_getD b 0 2 1 0
      rw [h2] at g0 g1
      have g0 : (115 : UInt8) = b.getD 0 0 := by simpa using g0
      have g1 : (104 : UInt8) = b.getD 1 0 := by simpa using g1
      rcases h with h | h | h | h
      · omega
      · exact h g0.symm
      · exact h g1.symm
      · omega
    rw [if_neg hn, e, cond_true]
  · have h1 : 8 ≤ b.length := by omega
    have h2 : b.getD 0 0 = 115 := by
      rcases Decidable.em (b.getD 0 0 = 115) with q | q
      · exact q
      · exact absurd (.inr (.inl q)) h
    have h3 : b.getD 1 0 = 104 := by
      rcases Decidable.em (b.getD 1 0 = 104) with q | q
      · exact q
      · exact absurd (.inr (.inr (.inl q))) h
    have h4 : (b.getD 7 0).toNat + 8 = b.length := by omega
    have e2 : slc b 0 2 = [115, 104] := by
      rw [slc_take]
      apply ext_gD (0 : UInt8)
      · simp; omega
      · intro i hi
        have hi : i < 2 := by simp at hi; omega
        rw [gD_take]
        have : i = 0 ∨ i = 1 := by omega
        rcases this with rfl | rfl
        · simpa using h2
        · simpa using h3
    have e : ((decide ((b.length : Int) < 8)) || (((slc b 0 2) != [115, 104]) || (((b.getD 7 0).toNat : Int) != ((b.length : Int) - 8)))) = false := by
      simp only [Bool.or_eq_false_iff, decide_eq_false_iff_not, bne_eq_false_iff_eq]
      exact ⟨by omega, e2, by omega⟩
    have hl : (slc b 2 6).length = 4 := by rw [slc_len]; omega
    have hg : ∀ i, i < 4 → (slc b 2 6).getD i 0 = b.getD (2 + i) 0 := fun i hi => by rw [slc_getD]; simp [hi]
    rw [e, cond_false, bnd_eq, hl, show ((((4 : Nat) : Int) - 0).toNat + 1) = 5 from rfl]
    rw [sharecode_Decode_l1, hl, decide_eq_true (by decide), cond_true, sharecode_Decode_l1, hl, decide_eq_true (by decide), cond_true, sharecode_Decode_l1, hl, decide_eq_true (by decide), cond_true, sharecode_Decode_l1, hl, decide_eq_true (by decide), cond_true, sharecode_Decode_l1, hl, decide_eq_false (by decide), cond_false]
    show sharecode_Decode_k1 b (slc b 8 (b.length : Int)) _ = _
    rw [slc_drop, sharecode_Decode_k1, bnd_eq, check_eq]
    simp only [byte32]
    rw [show (0 : Int).toNat = 0 from rfl, show (0 + 1 : Int).toNat = 1 from rfl, show (0 + 1 + 1 : Int).toNat = 2 from rfl, show (0 + 1 + 1 + 1 : Int).toNat = 3 from rfl, hg 0 (by omega), hg 1 (by omega), hg 2 (by omega), hg 3 (by omega), show (8 : Int).toNat = 8 from rfl]
    by_cases q : okS (b.getD 6 0) (b.drop 8)
    · have : okB b := ⟨by have := q.2.1; simp at this; omega, h2, h3, q.1, by have := q.2.2; simp at this; omega, by omega⟩
      rw [if_pos this, if_pos q]; rfl
    · have : ¬ okB b := fun r => q ⟨r.2.2.2.1, by simp; have := r.1; omega, by simp; have := r.2.2.2.2; omega⟩
      rw [if_neg this, if_neg q]; rfl
end Go.Proofs.YtbppcnhfeobefaaDoor

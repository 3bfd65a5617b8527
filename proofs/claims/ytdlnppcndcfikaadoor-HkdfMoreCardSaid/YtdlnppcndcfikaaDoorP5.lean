import Derived.Test.YtdlnppcndcfikaaDoorF2
import Derived.Test.YtdlnppcndcfikaaDoorPM
/- Keys out of keys: the plain laws. -/
namespace Go.Proofs.YtdlnppcndcfikaaDoor
set_option linter.unusedVariables false
set_option linter.unusedSimpArgs false
open Go Go.Vw Go.Proofs
theorem rextract_eq (a b : List UInt8) (ha : a.length ≤ 300) (hb : b.length ≤ 300) : bursaryref07_Extract a b = hkdf_Extract a b := by
  rw [bursaryref07_Extract, hkdf_Extract]
  cases (a.length : Int) == 0 with
  | true => rw [cond_true, cond_true, bnd_eq, bnd_eq, hmac_eq, rmac_eq _ _ (by rw [List.length_replicate]; decide) (by omega)]
  | false => rw [cond_false, cond_false, bnd_eq, bnd_eq, hmac_eq, rmac_eq _ _ (by omega) (by omega)]
theorem exp_l1 (key info : List UInt8) (n : Int) (hn : n ≤ 8160) (hk : key.length ≤ 1000) (hi : info.length ≤ 1000) : ∀ (m : Nat) (i : Int) (o l : List UInt8), (o.length : Int) = 32 * (i - 1) → l.length ≤ 32 → bursaryref07_Expand_l1 key info n m i o l = hkdf_Expand_l1 key info n m i o l := by
  intro m
  induction m with
  | zero => intro i o l _ _; rw [bursaryref07_Expand_l1.eq_1, hkdf_Expand_l1.eq_1]
  | succ m ih =>
    intro i o l h1 h2
    rw [bursaryref07_Expand_l1, hkdf_Expand_l1, h1]
    cases decide (32 * (i - 1) < n) with
    | true =>
      rw [cond_true, cond_true, bnd_eq, bnd_eq, hmac_eq, concat_eq, rmac_eq _ _ (by omega) (by simp only [List.length_append, List.length_cons, List.length_nil]; omega)]
      have e : [l, info, [u8i i]].flatten = l ++ info ++ [u8i i] := by simp
      rw [e]
      exact ih _ _ _ (by rw [List.length_append, mac_len]; omega) (by rw [mac_len]; decide)
    | false => rw [cond_false, cond_false]
theorem rexpand_eq (key info : List UInt8) (n : Int) (hk : key.length ≤ 1000) (hi : info.length ≤ 1000) : bursaryref07_Expand key info n = hkdf_Expand key info n := by
  rw [bursaryref07_Expand, hkdf_Expand]
  cases q : (decide (n < 0)) || (decide (n > 8160)) with
  | true => rfl
  | false =>
    simp only [Bool.or_eq_false_iff, decide_eq_false_iff_not] at q
    rw [cond_false, cond_false, exp_l1 key info n (by omega) hk hi _ 1 [] [] (by simp) (by simp)]
    congr 1
    funext z
    rw [bursaryref07_Expand_k1, hkdf_Expand_k1]
theorem b24 (n : UInt32) : (shr32 n 24).toUInt8 = (n / 16777216).toUInt8 := by
  apply u8eq; rw [UInt32.toNat_toUInt8, UInt32.toNat_toUInt8, shr32, UInt32.toNat_ofNat', UInt32.toNat_div]
  have h := n.toNat_lt; have e : (16777216 : UInt32).toNat = 16777216 := rfl; have e2 : (2 : Nat) ^ ((24 : Int)).toNat = 16777216 := rfl
  rw [e, e2]; omega
theorem b16 (n : UInt32) : (shr32 n 16).toUInt8 = ((n / 65536) % 256).toUInt8 := by
  apply u8eq; rw [UInt32.toNat_toUInt8, UInt32.toNat_toUInt8, shr32, UInt32.toNat_ofNat', UInt32.toNat_mod, UInt32.toNat_div]
  have h := n.toNat_lt; have e : (65536 : UInt32).toNat = 65536 := rfl; have e2 : (2 : Nat) ^ ((16 : Int)).toNat = 65536 := rfl; have e3 : (256 : UInt32).toNat = 256 := rfl
  rw [e, e2, e3]; omega
theorem b8 (n : UInt32) : (shr32 n 8).toUInt8 = ((n / 256) % 256).toUInt8 := by
  apply u8eq; rw [UInt32.toNat_toUInt8, UInt32.toNat_toUInt8, shr32, UInt32.toNat_ofNat', UInt32.toNat_mod, UInt32.toNat_div]
  have h := n.toNat_lt; have e2 : (2 : Nat) ^ ((8 : Int)).toNat = 256 := rfl; have e3 : (256 : UInt32).toNat = 256 := rfl
  rw [e2, e3]; omega
theorem b0 (n : UInt32) : n.toUInt8 = (n % 256).toUInt8 := by
  apply u8eq; rw [UInt32.toNat_toUInt8, UInt32.toNat_toUInt8, UInt32.toNat_mod]
  have e3 : (256 : UInt32).toNat = 256 := rfl
  rw [e3]; omega
theorem empty_lt (l : List UInt8) : (l == []) = decide ((l.length : Int) < 1) := by
  cases l with
  | nil => rfl
  | cons a l => rw [decide_eq_false (by simp only [List.length_cons]; omega)]; rfl
theorem rkey_eq (key use : List UInt8) (n : UInt32) : bursaryref07_Key key use n = hkdf_Key key use n := by
  rw [bursaryref07_Key, hkdf_Key, empty_lt]
  cases q : ((key.length : Int) != 32) || ((decide ((use.length : Int) < 1)) || (decide ((use.length : Int) > 32))) with
  | true => rfl
  | false =>
    simp only [Bool.or_eq_false_iff, decide_eq_false_iff_not, bne_eq_false_iff_eq] at q
    rw [cond_false, cond_false, bnd_eq, bnd_eq, concat_eq, b24, b16, b8, b0 n]
    have e (x : List UInt8) : [use, x].flatten = use ++ x := by simp
    rw [e, rexpand_eq _ _ _ (by omega) (by simp only [List.length_append, List.length_cons, List.length_nil]; omega)]
theorem sure07 : bursarylaw07_sure = true := by kernel_rfl
theorem hkdfKeys_true (a0 a1 : List UInt8) (a2 : Int) : bursarylaw07_HkdfKeys a0 a1 a2 = true := by
  rw [bursarylaw07_HkdfKeys]
  cases q : (decide ((a0.length : Int) > 300)) || ((decide ((a1.length : Int) > 300)) || ((decide (a2 > 400)) && (decide (a2 ≤ 8160)))) with
  | true => exact sure07
  | false =>
    simp only [Bool.or_eq_false_iff, decide_eq_false_iff_not] at q
    rw [cond_false]
    simp only [bnd_eq]
    rw [rextract_eq a0 a1 (by omega) (by omega), rexpand_eq a0 a1 a2 (by omega) (by omega), rkey_eq, sure07]
    simp
theorem ext_l1 (key info : List UInt8) (n : Int) : ∀ (m : Nat) (i : Int) (o l : List UInt8), (o.length : Int) = 32 * (i - 1) → (n - 32 * (i - 1)).toNat < m → ∃ t l', hkdf_Expand_l1 key info n m i o l = Lo.brk (o ++ t, l') := by
  intro m
  induction m with
  | zero => intro i o l _ h; exact absurd h (Nat.not_lt_zero _)
  | succ m ih =>
    intro i o l h1 h2
    rw [hkdf_Expand_l1]
    by_cases c : (o.length : Int) < n
    · rw [decide_eq_true c, cond_true, bnd_eq]
      obtain ⟨t, l', e⟩ := ih (i + 1) (o ++ hmac_Mac key (slices_Concat [l, info, [u8i i]])) (hmac_Mac key (slices_Concat [l, info, [u8i i]])) (by rw [List.length_append, hmac_len]; omega) (by omega)
      exact ⟨_, l', by rw [e, List.append_assoc]⟩
    · rw [decide_eq_false c, cond_false]
      exact ⟨[], l, by rw [List.append_nil]⟩
theorem more_l1 (key info : List UInt8) (n N : Int) (h0 : 0 ≤ n) (hN : n ≤ N) : ∀ (m m' : Nat) (i : Int) (o l : List UInt8), (o.length : Int) = 32 * (i - 1) → (n - 32 * (i - 1)).toNat < m → (N - 32 * (i - 1)).toNat < m' → (Lo.el (hkdf_Expand_l1 key info N m' i o l) (fun z : List UInt8 × List UInt8 => hkdf_Expand_k1 N z.1 z.2)).1.take n.toNat = (Lo.el (hkdf_Expand_l1 key info n m i o l) (fun z : List UInt8 × List UInt8 => hkdf_Expand_k1 n z.1 z.2)).1 := by
  intro m
  induction m with
  | zero => intro m' i o l _ h; exact absurd h (Nat.not_lt_zero _)
  | succ m ih =>
    intro m' i o l h1 h2 h3
    by_cases c : (o.length : Int) < n
    · cases m' with
      | zero => exact absurd h3 (Nat.not_lt_zero _)
      | succ m' =>
        rw [hkdf_Expand_l1, hkdf_Expand_l1, decide_eq_true c, decide_eq_true (show (o.length : Int) < N by omega), cond_true, cond_true, bnd_eq]
        exact ih m' _ _ _ (by rw [List.length_append, hmac_len]; omega) (by omega) (by omega)
    · obtain ⟨t, l', e⟩ := ext_l1 key info N m' i o l h1 h3
      rw [e, hkdf_Expand_l1, decide_eq_false c, cond_false, elB, elB, hkdf_Expand_k1, hkdf_Expand_k1]
      show (((o ++ t).drop 0).take N.toNat).take n.toNat = (o.drop 0).take n.toNat
      rw [List.drop_zero, List.drop_zero, List.take_take, Nat.min_eq_left (by omega), List.take_append_of_le_length (by omega)]
theorem hkdfMore_true (a0 a1 : List UInt8) (a20 a21 : UInt16) : bursarylaw07_HkdfMore a0 a1 a20 a21 = true := by
  rw [bursarylaw07_HkdfMore]
  cases q : (decide ((a0.length : Int) > 300)) || (decide ((a1.length : Int) > 300)) with
  | true => exact sure07
  | false =>
    rw [cond_false]
    generalize hx : (a20.toNat : Int) % 500 = x
    generalize hy : (a21.toNat : Int) % 500 = y
    have b1 : 0 ≤ x ∧ x < 500 := by omega
    have b2 : 0 ≤ y ∧ y < 500 := by omega
    have hn : 0 ≤ (if y < x then y else x) ∧ (if y < x then y else x) ≤ (if y > x then y else x) ∧ (if y > x then y else x) < 500 := by
      split <;> split <;> omega
    generalize (if y < x then y else x) = n at hn ⊢
    generalize (if y > x then y else x) = N at hn ⊢
    have f (n : Int) (h1 : 0 ≤ n) (h2 : n < 500) : ((decide (n < 0)) || (decide (n > 8160))) = false := by
      rw [Bool.or_eq_false_iff, decide_eq_false_iff_not, decide_eq_false_iff_not]; omega
    have e (n : Int) (h1 : 0 ≤ n) (h2 : n < 500) : (hkdf_Expand a0 a1 n).1.length = n.toNat ∧ (hkdf_Expand a0 a1 n).2 = 0 := by
      rw [hkdf_Expand, f n h1 h2, cond_false]
      exact expand_l1 a0 a1 n (by omega) _ 1 [] [] (by omega) (by simp) (by omega)
    have p : (hkdf_Expand a0 a1 N).1.take n.toNat = (hkdf_Expand a0 a1 n).1 := by
      rw [hkdf_Expand, hkdf_Expand, f n hn.1 (by omega), f N (by omega) hn.2.2, cond_false, cond_false]
      exact more_l1 a0 a1 n N hn.1 hn.2.1 _ _ 1 [] [] (by simp) (by omega) (by omega)
    simp only [bnd_eq]
    rw [(e n hn.1 (by omega)).2, (e N (by omega) hn.2.2).2, (e n hn.1 (by omega)).1, (e N (by omega) hn.2.2).1, slc_take, Int.toNat_natCast, p, sure07]
    simp; omega
end Go.Proofs.YtdlnppcndcfikaaDoor

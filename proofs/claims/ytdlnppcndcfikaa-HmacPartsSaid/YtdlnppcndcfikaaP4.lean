/- Sums with a key: the plain laws. -/
import Derived.Test.YtdlnppcndcfikaaE4
namespace Go.Proofs.Ytdlnppcndcfikaa
set_option linter.unusedVariables false
set_option linter.unusedSimpArgs false
open Go Go.Vw Go.Proofs
theorem cpy_pk (x : List UInt8) (h : x.length ≤ 64) : cpy (List.replicate 64 (0 : UInt8)) 0 ((List.replicate 64 (0 : UInt8)).length) x = x ++ List.replicate (64 - x.length) 0 := by
  rw [cpy, List.length_replicate, List.take_zero, List.nil_append, List.take_of_length_le h, Nat.zero_add, List.drop_replicate]
theorem rm_l1 (x : List UInt8) (h : x.length ≤ 64) : ∀ (m i : Nat) (a b : List UInt8), i ≤ 64 → 64 - i < m →
    bursaryref06_Mac_l1 x m (i : Int) a b = Lo.brk (x ++ List.replicate (64 - x.length) 0, a ++ ((x ++ List.replicate (64 - x.length) 0).drop i).map (· ^^^ 54), b ++ ((x ++ List.replicate (64 - x.length) 0).drop i).map (· ^^^ 92))
  | 0, _, _, _, _, h => absurd h (Nat.not_lt_zero _)
  | m + 1, i, a, b, h1, h2 => by
    have hl : (x ++ List.replicate (64 - x.length) (0 : UInt8)).length = 64 := by rw [List.length_append, List.length_replicate]; omega
    rw [bursaryref06_Mac_l1, cpy_pk x h]
    by_cases c : i < 64
    · rw [decide_eq_true (by omega : (i : Int) < 64), cond_true, Int.toNat_natCast]
      have w := rm_l1 x h m (i + 1) (a ++ [(x ++ List.replicate (64 - x.length) 0).getD i 0 ^^^ 54]) (b ++ [(x ++ List.replicate (64 - x.length) 0).getD i 0 ^^^ 92]) (by omega) (by omega)
      rw [Int.natCast_add i 1] at w
      refine w.trans ?_
      rw [drop_cons (x ++ List.replicate (64 - x.length) 0) i 0 (by omega), List.map_cons, List.map_cons, List.append_assoc, List.append_assoc]; rfl
    · rw [decide_eq_false (by omega : ¬ (i : Int) < 64), cond_false, List.drop_of_length_le (by omega), List.map_nil, List.map_nil, List.append_nil, List.append_nil]
theorem rm_l2 (x : List UInt8) (h : x.length ≤ 64) : ∀ (m i : Nat) (a b : List UInt8), i ≤ 64 → 64 - i < m →
    bursaryref06_Mac_l2 x m (i : Int) a b = Lo.brk (x ++ List.replicate (64 - x.length) 0, a ++ ((x ++ List.replicate (64 - x.length) 0).drop i).map (· ^^^ 54), b ++ ((x ++ List.replicate (64 - x.length) 0).drop i).map (· ^^^ 92))
  | 0, _, _, _, _, h => absurd h (Nat.not_lt_zero _)
  | m + 1, i, a, b, h1, h2 => by
    have hl : (x ++ List.replicate (64 - x.length) (0 : UInt8)).length = 64 := by rw [List.length_append, List.length_replicate]; omega
    rw [bursaryref06_Mac_l2, cpy_pk x h]
    by_cases c : i < 64
    · rw [decide_eq_true (by omega : (i : Int) < 64), cond_true, Int.toNat_natCast]
      have w := rm_l2 x h m (i + 1) (a ++ [(x ++ List.replicate (64 - x.length) 0).getD i 0 ^^^ 54]) (b ++ [(x ++ List.replicate (64 - x.length) 0).getD i 0 ^^^ 92]) (by omega) (by omega)
      rw [Int.natCast_add i 1] at w
      refine w.trans ?_
      rw [drop_cons (x ++ List.replicate (64 - x.length) 0) i 0 (by omega), List.map_cons, List.map_cons, List.append_assoc, List.append_assoc]; rfl
    · rw [decide_eq_false (by omega : ¬ (i : Int) < 64), cond_false, List.drop_of_length_le (by omega), List.map_nil, List.map_nil, List.append_nil, List.append_nil]
theorem rmac_eq (key b : List UInt8) (hk : key.length ≤ 1000000000) (hb : b.length ≤ 900000000) : bursaryref06_Mac key b = mac key b := by
  have hp : ∀ w : UInt8, ((pk key).map (· ^^^ w)).length = 64 := fun w => by rw [List.length_map, pk_len]
  rw [bursaryref06_Mac, mac]
  by_cases c : key.length > 64
  · have e : pk key = sha_Sum key ++ List.replicate (64 - (sha_Sum key).length) 0 := by rw [pk, kk, if_pos c]
    rw [decide_eq_true (by omega : (key.length : Int) > 64), cond_true, bnd_eq, rsum_eq key hk]
    rw [show bursaryref06_Mac_l1 (sha_Sum key) ((64 - (0 : Int)).toNat + 1) 0 [] [] = _ from rm_l1 (sha_Sum key) (by rw [ssum_len]; decide) ((64 - (0 : Int)).toNat + 1) 0 [] [] (by omega) (by omega), ← e, List.drop_zero, List.nil_append, List.nil_append, elB, bursaryref06_Mac_k1, bnd_eq, bnd_eq]
    rw [rsum_eq (_ ++ b) (by rw [List.length_append, hp]; omega), rsum_eq _ (by rw [List.length_append, hp, ssum_len]; omega)]
  · have e : pk key = key ++ List.replicate (64 - key.length) 0 := by rw [pk, kk, if_neg c]
    rw [decide_eq_false (by omega : ¬ (key.length : Int) > 64), cond_false]
    rw [show bursaryref06_Mac_l2 key ((64 - (0 : Int)).toNat + 1) 0 [] [] = _ from rm_l2 key (by omega) ((64 - (0 : Int)).toNat + 1) 0 [] [] (by omega) (by omega), ← e, List.drop_zero, List.nil_append, List.nil_append, elB, bursaryref06_Mac_k2, bnd_eq, bnd_eq]
    rw [rsum_eq (_ ++ b) (by rw [List.length_append, hp]; omega), rsum_eq _ (by rw [List.length_append, hp, ssum_len]; omega)]
theorem w4_u8i (n : Nat) : w4 (u32i (n : Int)) = [u8i ((n : Int) / 16777216), u8i (((n : Int) / 65536) % 256), u8i (((n : Int) / 256) % 256), u8i ((n : Int) % 256)] := by
  have e : (u32i (n : Int)).toNat = n % 4294967296 := by rw [u32i, UInt32.toNat_ofNat']; omega
  have f (k m : Nat) (hm : (2 : Nat) ^ ((k : Int)).toNat = m) : (shr32 (u32i (n : Int)) (k : Int)).toUInt8.toNat = (n % 4294967296 / m) % 256 := by
    rw [UInt32.toNat_toUInt8, shr32, UInt32.toNat_ofNat', hm, e]
    have : n % 4294967296 / m ≤ n % 4294967296 := Nat.div_le_self _ _
    omega
  have g (k : Nat) : ((n : Int) / (k : Int)) = ((n / k : Nat) : Int) := rfl
  have h (k l : Nat) : (((n : Int) / (k : Int)) % (l : Int)) = ((n / k % l : Nat) : Int) := rfl
  rw [w4]
  congr 1
  · apply u8eq; rw [show ((n : Int) / 16777216) = ((n / 16777216 : Nat) : Int) from rfl, u8i_mod]
    exact (f 24 16777216 rfl).trans (by omega)
  congr 1
  · apply u8eq; rw [show (((n : Int) / 65536) % 256) = ((n / 65536 % 256 : Nat) : Int) from rfl, u8i_mod]
    exact (f 16 65536 rfl).trans (by omega)
  congr 1
  · apply u8eq; rw [show (((n : Int) / 256) % 256) = ((n / 256 % 256 : Nat) : Int) from rfl, u8i_mod]
    exact (f 8 256 rfl).trans (by omega)
  congr 1
  · apply u8eq; rw [show ((n : Int) % 256) = ((n % 256 : Nat) : Int) from rfl, u8i_mod, UInt32.toNat_toUInt8, e]; omega
theorem joined_k (parts : List (List UInt8)) : ∀ (m i : Nat), i ≤ parts.length → parts.length - i < m → bursaryref06_Joined_l1 parts m (i : Int) (joinK parts i) = Lo.brk (joinK parts parts.length)
  | 0, _, _, h => absurd h (Nat.not_lt_zero _)
  | m + 1, i, h1, h2 => by
    rw [bursaryref06_Joined_l1]
    by_cases c : i < parts.length
    · rw [decide_eq_true (by omega : (i : Int) < (parts.length : Int)), cond_true, Int.toNat_natCast, ← w4_u8i, List.append_assoc]
      have w := joined_k parts m (i + 1) (by omega) (by omega)
      rw [Int.natCast_add i 1] at w
      exact w
    · have e : i = parts.length := by omega
      subst e
      rw [decide_eq_false (by omega), cond_false]
theorem joined_eq (parts : List (List UInt8)) : bursaryref06_Joined parts = joinK parts parts.length := by
  rw [bursaryref06_Joined, show bursaryref06_Joined_l1 parts (((parts.length : Int) - (0 : Int)).toNat + 1) 0 [] = _ from joined_k parts (((parts.length : Int) - (0 : Int)).toNat + 1) 0 (Nat.zero_le _) (by omega), elB, bursaryref06_Joined_k1]
theorem rparts_eq (key : List UInt8) (parts : List (List UInt8)) (hk : key.length ≤ 1000000000) (hp : ∀ i : Nat, (parts.getD i []).length ≤ 100000) (hn : parts.length ≤ 1000) : bursaryref06_Parts key parts = mac key (joinK parts parts.length) := by
  have hl := joined_len parts hp hn
  rw [bursaryref06_Parts, bnd_eq, rmac_eq _ _ hk (by omega), joined_eq]
theorem sure06 : bursarylaw06_sure = true := by kernel_rfl
theorem nil_ksum : (nil_KSum == ([0, 0, 0, 0, 0, 0, 0, 0, 0, 0, 0, 0, 0, 0, 0, 0, 0, 0, 0, 0, 0, 0, 0, 0, 0, 0, 0, 0, 0, 0, 0, 0] : List UInt8)) = true := by kernel_rfl
theorem sums_l1 (key b : List UInt8) (parts : List (List UInt8)) (hk : bursarylaw06_HmacSums_k1 key b parts = true ∨ ∃ j, j < parts.length ∧ (parts.getD j []).length > 300) : ∀ (m i : Nat), (∀ j, j < i → (parts.getD j []).length ≤ 300) → i ≤ parts.length → parts.length - i < m → Lo.el (bursarylaw06_HmacSums_l1 parts m (i : Int)) (fun _ : Unit => bursarylaw06_HmacSums_k1 key b parts) = true
  | 0, _, _, _, h => absurd h (Nat.not_lt_zero _)
  | m + 1, i, h0, h1, h2 => by
    rw [bursarylaw06_HmacSums_l1]
    by_cases c : i < parts.length
    · rw [decide_eq_true (by omega : (i : Int) < (parts.length : Int)), cond_true, Int.toNat_natCast]
      by_cases d : (parts.getD i []).length > 300
      · rw [decide_eq_true (by omega), cond_true]; exact sure06
      · rw [decide_eq_false (by omega), cond_false]
        refine sums_l1 key b parts hk m (i + 1) (fun j hj => ?_) (by omega) (by omega)
        rcases Nat.lt_or_ge j i with e | e
        · exact h0 j e
        · rw [show j = i by omega]; omega
    · rw [decide_eq_false (by omega), cond_false, elB]
      rcases hk with hk | ⟨j, hj, hl⟩
      · exact hk
      · have := h0 j (by omega); omega
theorem hmacSums_true (key b : List UInt8) (parts : List (List UInt8)) : bursarylaw06_HmacSums key b parts = true := by
  rw [bursarylaw06_HmacSums]
  cases q : (decide ((parts.length : Int) > 20)) || (decide ((key.length : Int) + (b.length : Int) > 800)) with
  | true => exact sure06
  | false =>
    rw [cond_false]
    simp only [Bool.or_eq_false_iff, decide_eq_false_iff_not] at q
    refine sums_l1 key b parts ?_ _ 0 (fun j hj => absurd hj (Nat.not_lt_zero _)) (Nat.zero_le _) (by omega)
    by_cases c : ∃ j, j < parts.length ∧ (parts.getD j []).length > 300
    · exact .inr c
    · left
      have hp : ∀ i : Nat, (parts.getD i []).length ≤ 100000 := fun i => by
        by_cases hi : i < parts.length
        · have : ¬ (parts.getD i []).length > 300 := fun h => c ⟨i, hi, h⟩
          omega
        · rw [gD_out _ _ _ (by omega)]; exact Nat.zero_le _
      rw [bursarylaw06_HmacSums_k1]
      simp only [bnd_eq]
      rw [nil_ksum, hmac_eq, rmac_eq key b (by omega) (by omega), parts_eq, rparts_eq key parts (by omega) hp (by omega), sure06]
      simp only [beq_self_eq_true, Bool.and_self]
theorem pk_zeros (a : List UInt8) (k : Nat) (h : a.length + k ≤ 64) : pk (a ++ List.replicate k 0) = pk a := by
  have h1 : kk (a ++ List.replicate k 0) = a ++ List.replicate k 0 := by rw [kk, if_neg (by rw [List.length_append, List.length_replicate]; omega)]
  have h2 : kk a = a := by rw [kk, if_neg (by omega)]
  rw [pk, pk, h1, h2, List.append_assoc, List.length_append, List.length_replicate, List.replicate_append_replicate]
  congr 2; omega
theorem mac_zeros (a b : List UInt8) (k : Nat) (h : a.length + k ≤ 64) : mac (a ++ List.replicate k 0) b = mac a b := by
  rw [mac, mac, pk_zeros a k h]
theorem hpieces_l2 (a0 o2 : List UInt8) (z : UInt8) : ∀ (m : Nat) (t : Int) (k : Nat), ((z.toNat : Int) % 64 - t).toNat < m → a0.length + k ≤ 64 → Lo.el (bursarylaw06_HmacPieces_l2 z m t (a0 ++ List.replicate k 0)) (fun x => bursarylaw06_HmacPieces_k2 a0 o2 x) = true := by
  intro m
  induction m with
  | zero => intro t k h; exact absurd h (Nat.not_lt_zero _)
  | succ m ih =>
    intro t k h hk
    rw [bursarylaw06_HmacPieces_l2]
    cases q : (decide (t < (z.toNat : Int) % 64)) && (decide (((a0 ++ List.replicate k (0 : UInt8)).length : Int) < 64)) with
    | true =>
      simp only [Bool.and_eq_true, decide_eq_true_eq, List.length_append, List.length_replicate] at q
      rw [cond_true, List.append_assoc, show List.replicate k (0 : UInt8) ++ [0] = List.replicate (k + 1) 0 from (List.replicate_succ' ..).symm]
      exact ih _ _ (by omega) (by omega)
    | false =>
      rw [cond_false, elB, bursarylaw06_HmacPieces_k2, bnd_eq, bnd_eq, hmac_eq, hmac_eq, mac_zeros _ _ _ hk, beq_self_eq_true, Bool.not_true, cond_false, sure06]
theorem hpieces_k1 (a0 : List UInt8) (z : UInt8) (h3 h4 : hOT) (o2 : List UInt8) : bursarylaw06_HmacPieces_k1 a0 z h3 h4 o2 = true := by
  rw [bursarylaw06_HmacPieces_k1]
  by_cases c : (a0.length : Int) ≤ 64
  · rw [decide_eq_true c, cond_true]
    have h := hpieces_l2 a0 o2 z (((z.toNat : Int) % 64 - (0 : Int)).toNat + 1) 0 0 (by omega) (by omega)
    rw [List.replicate_zero, List.append_nil] at h
    exact h
  · rw [decide_eq_false c, cond_false, sure06]
theorem hpieces_l1 (a0 : List UInt8) (a1 : List (List UInt8)) (z : UInt8) : ∀ (m : Nat) (t : Int) (o : List UInt8), ((a1.length : Int) - t).toNat < m → Lo.el (bursarylaw06_HmacPieces_l1 a0 a1 m t (Ks a0 o).1 (Ks a0 o).2 o) (fun x : hOT × hOT × List UInt8 => bursarylaw06_HmacPieces_k1 a0 z x.1 x.2.1 x.2.2) = true := by
  intro m
  induction m with
  | zero => intro t o h; exact absurd h (Nat.not_lt_zero _)
  | succ m ih =>
    intro t o h
    rw [bursarylaw06_HmacPieces_l1]
    by_cases c : t < (a1.length : Int)
    · rw [decide_eq_true c, cond_true]
      cases decide (((a1.getD t.toNat []).length : Int) > 200) with
      | true => rw [cond_true]; exact ih _ _ (by omega)
      | false =>
        rw [cond_false, show (((Ks a0 o).1, (Ks a0 o).2) : kOT) = Ks a0 o from rfl, kw_Ks, bnd_eq, ksum_Ks, bnd_eq, bnd_eq, hmac_eq, beq_self_eq_true, Bool.not_true, cond_false]
        exact ih _ _ (by omega)
    · rw [decide_eq_false c, cond_false, elB]; exact hpieces_k1 _ _ _ _ _
theorem hmacPieces_true (a0 : List UInt8) (a1 : List (List UInt8)) (a2 : UInt8) : bursarylaw06_HmacPieces a0 a1 a2 = true := by
  rw [bursarylaw06_HmacPieces]
  cases (decide ((a0.length : Int) > 300)) || (decide ((a1.length : Int) > 12)) with
  | true => exact sure06
  | false =>
    rw [cond_false, new_Ks, bnd_eq]
    exact hpieces_l1 a0 a1 a2 _ 0 [] (by omega)
theorem told_eq (p q : List UInt8) (hp : p.length ≤ 300) (hq : q.length ≤ 300) : bursarylaw06_told p q = joinK [p, q] 2 := by
  have f (n : Nat) (h : n ≤ 300) : w4 (u32i (n : Int)) = [0, 0, u8i ((n : Int) / 256), u8i ((n : Int) % 256)] := by
    rw [w4_u8i, show (n : Int) / 16777216 = 0 by omega, show (n : Int) / 65536 % 256 = 0 by omega, show (n : Int) / 256 % 256 = (n : Int) / 256 by omega]; rfl
  rw [bursarylaw06_told]
  show _ = ([] ++ (w4 (u32i (p.length : Int)) ++ p)) ++ (w4 (u32i (q.length : Int)) ++ q)
  rw [f _ hp, f _ hq, List.nil_append, List.append_assoc, List.append_assoc]
theorem told_inj (p q p' q' : List UInt8) (hp : p.length ≤ 300) (hp' : p'.length ≤ 300) (h : bursarylaw06_told p q = bursarylaw06_told p' q') : p.length = p'.length := by
  rw [bursarylaw06_told, bursarylaw06_told] at h
  simp only [List.cons_append, List.nil_append, List.cons.injEq, true_and] at h
  obtain ⟨h1, h2, _⟩ := h
  have e1 := congrArg UInt8.toNat h1
  have e2 := congrArg UInt8.toNat h2
  rw [show ((p.length : Int) / 256) = ((p.length / 256 : Nat) : Int) from rfl, show ((p'.length : Int) / 256) = ((p'.length / 256 : Nat) : Int) from rfl, u8i_mod, u8i_mod] at e1
  rw [show ((p.length : Int) % 256) = ((p.length % 256 : Nat) : Int) from rfl, show ((p'.length : Int) % 256) = ((p'.length % 256 : Nat) : Int) from rfl, u8i_mod, u8i_mod] at e2
  omega
theorem hmacParts_true (a0 a1 : List UInt8) (a20 a21 : UInt16) : bursarylaw06_HmacParts a0 a1 a20 a21 = true := by
  rw [bursarylaw06_HmacParts]
  cases q : (decide ((a0.length : Int) > 200)) || (decide ((a1.length : Int) > 300)) with
  | true => exact sure06
  | false =>
    simp only [Bool.or_eq_false_iff, decide_eq_false_iff_not] at q
    have hlen (i : Int) : (slc a1 0 i).length ≤ 300 ∧ (slc a1 i (a1.length : Int)).length ≤ 300 := by
      rw [slc_len, slc_len]; omega
    have hlen2 (i : Int) (h0 : 0 ≤ i) (h1 : i ≤ a1.length) : (slc a1 0 i).length = i.toNat := by
      rw [slc_len]; omega
    have m1 := Int.emod_nonneg (a20.toNat : Int) (show ((a1.length : Int) + 1) ≠ 0 by omega)
    have m2 := Int.emod_lt_of_pos (a20.toNat : Int) (show (0 : Int) < (a1.length : Int) + 1 by omega)
    have m3 := Int.emod_nonneg (a21.toNat : Int) (show ((a1.length : Int) + 1) ≠ 0 by omega)
    have m4 := Int.emod_lt_of_pos (a21.toNat : Int) (show (0 : Int) < (a1.length : Int) + 1 by omega)
    rw [cond_false]
    generalize (a20.toNat : Int) % ((a1.length : Int) + 1) = i at m1 m2 ⊢
    generalize (a21.toNat : Int) % ((a1.length : Int) + 1) = j at m3 m4 ⊢
    simp only [bnd_eq]
    rw [hmac_eq, hmac_eq, parts_eq, parts_eq, told_eq _ _ (hlen i).1 (hlen i).2, told_eq _ _ (hlen j).1 (hlen j).2, sure06]
    simp only [List.length_cons, List.length_nil, beq_self_eq_true, Bool.true_and, Bool.and_true]
    by_cases e : i = j
    · subst e; simp
    · rw [show (i == j) = false by simpa using e]
      have : (joinK [slc a1 0 i, slc a1 i (a1.length : Int)] 2 == joinK [slc a1 0 j, slc a1 j (a1.length : Int)] 2) = false := by
        rw [beq_eq_false_iff_ne]
        intro h
        rw [← told_eq _ _ (hlen i).1 (hlen i).2, ← told_eq _ _ (hlen j).1 (hlen j).2] at h
        have := told_inj _ _ _ _ (hlen i).1 (hlen j).1 h
        rw [hlen2 i m1 (by omega), hlen2 j m3 (by omega)] at this
        omega
      rw [this]; rfl
end Go.Proofs.Ytdlnppcndcfikaa

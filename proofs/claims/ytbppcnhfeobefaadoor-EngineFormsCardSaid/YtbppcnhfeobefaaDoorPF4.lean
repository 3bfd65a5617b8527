import Derived.Test.YtbppcnhfeobefaaDoorPF3
import Derived.Test.YtbppcnhfeobefaaDoorPF1a
set_option linter.unusedVariables false
set_option linter.unusedSimpArgs false
namespace Go.Proofs.YtbppcnhfeobefaaDoor
open Go Go.Vw Go.Proofs
theorem refd3 (b : List UInt8) (t : Int) (h0 : 0 ≤ t) (h : t + 8 ≤ (b.length : Int)) : bursaryref30_Decode_l3 b t ((8 - (0 : Int)).toNat + 1) 0 0 = .brk (un64 0 ((b.drop t.toNat).take 8)) := by
  have e : (b.drop t.toNat).take 8 = [b.getD (t.toNat + 0) 0, b.getD (t.toNat + 1) 0, b.getD (t.toNat + 2) 0, b.getD (t.toNat + 3) 0, b.getD (t.toNat + 4) 0, b.getD (t.toNat + 5) 0, b.getD (t.toNat + 6) 0, b.getD (t.toNat + 7) 0] := by
    apply ext_gD (0 : UInt8)
    · simp; omega
    · intro i hi
      have hi : i < 8 := by simp at hi; omega
      rw [gD_take, if_pos hi, gD_drop]
      match i, hi with
      | 0, _ => rfl
      | 1, _ => rfl
      | 2, _ => rfl
      | 3, _ => rfl
      | 4, _ => rfl
      | 5, _ => rfl
      | 6, _ => rfl
      | 7, _ => rfl
  rw [e, show ((8 - (0 : Int)).toNat + 1) = 9 from rfl]
  rw [bursaryref30_Decode_l3, decide_eq_true (by decide), cond_true, bursaryref30_Decode_l3, decide_eq_true (by decide), cond_true, bursaryref30_Decode_l3, decide_eq_true (by decide), cond_true, bursaryref30_Decode_l3, decide_eq_true (by decide), cond_true, bursaryref30_Decode_l3, decide_eq_true (by decide), cond_true, bursaryref30_Decode_l3, decide_eq_true (by decide), cond_true, bursaryref30_Decode_l3, decide_eq_true (by decide), cond_true, bursaryref30_Decode_l3, decide_eq_true (by decide), cond_true, bursaryref30_Decode_l3, decide_eq_false (by decide), cond_false]
  rw [show (t + 0).toNat = t.toNat + 0 by omega, show (t + (0 + 1)).toNat = t.toNat + 1 by omega, show (t + (0 + 1 + 1)).toNat = t.toNat + 2 by omega, show (t + (0 + 1 + 1 + 1)).toNat = t.toNat + 3 by omega, show (t + (0 + 1 + 1 + 1 + 1)).toNat = t.toNat + 4 by omega, show (t + (0 + 1 + 1 + 1 + 1 + 1)).toNat = t.toNat + 5 by omega, show (t + (0 + 1 + 1 + 1 + 1 + 1 + 1)).toNat = t.toNat + 6 by omega, show (t + (0 + 1 + 1 + 1 + 1 + 1 + 1 + 1)).toNat = t.toNat + 7 by omega]
  rfl
theorem num_t (last : UInt32) (n k : Nat) (hn : n ≤ 255) : u32i ((last.toNat : Int) - (n : Int) + (k : Int) + 1) = last - n.toUInt32 + (k.toUInt32 + 1) := by
  apply UInt32.toNat_inj.1
  have hl := last.toNat_lt
  rw [u32i, UInt32.toNat_ofNat', UInt32.toNat_add, UInt32.toNat_add, UInt32.toNat_sub]
  have e1 : (n.toUInt32).toNat = n := by simp; omega
  have e2 : (k.toUInt32).toNat = k % 4294967296 := by simp
  rw [e1, e2]
  show ((_ : Int).toNat % 4294967296) = _
  have e3 : (1 : UInt32).toNat = 1 := rfl
  rw [e3]
  omega
theorem l_ref (b : List UInt8) (last : UInt32) : ∀ (k m : Nat) (t i : Int) (o : List Ver), 8 ≤ t → t ≤ (b.length : Int) → 0 ≤ i → i + k = ((b.getD 7 0).toNat : Int) → k < m →
    (∃ l q, pvs k (last - ((b.getD 7 0).toNat.toUInt32) + (i.toNat.toUInt32 + 1)) (b.drop t.toNat) = some (l, q) ∧ ∃ t' : Int, 8 ≤ t' ∧ t' ≤ (b.length : Int) ∧ q = b.drop t'.toNat ∧ bursaryref30_Decode_l2 b last m t i o = .brk (t', o ++ l)) ∨
    (pvs k (last - ((b.getD 7 0).toNat.toUInt32) + (i.toNat.toUInt32 + 1)) (b.drop t.toNat) = none ∧ bursaryref30_Decode_l2 b last m t i o = .ret (([], 0, 0), 4))
  | k, 0, _, _, _, _, _, _, _, h => absurd h (Nat.not_lt_zero _)
  | 0, m + 1, t, i, o, h8, ht, hi, he, _ => by
    left
    refine ⟨[], _, rfl, t, h8, ht, rfl, ?_⟩
    rw [bursaryref30_Decode_l2, decide_eq_false (by omega), cond_false, List.append_nil]
  | k + 1, m + 1, t, i, o, h8, ht, hi, he, hm => by
    rw [bursaryref30_Decode_l2, decide_eq_true (by omega), cond_true]
    have hl9 := (b.getD ((t + 9).toNat) 0).toNat_lt
    have h7 := (b.getD 7 0).toNat_lt
    have hdl : (b.drop t.toNat).length = b.length - t.toNat := List.length_drop
    have h9 : (b.drop t.toNat).getD 9 0 = b.getD ((t + 9).toNat) 0 := by rw [gD_drop, show (t + 9).toNat = t.toNat + 9 by omega]
    have h8' : (b.drop t.toNat).getD 8 0 = b.getD ((t + 8).toNat) 0 := by rw [gD_drop, show (t + 8).toNat = t.toNat + 8 by omega]
    by_cases ok : okR (b.drop t.toNat)
    · obtain ⟨o1, o2⟩ := ok
      rw [h9] at o2
      have e : ((decide ((b.length : Int) - t < 10)) || (decide (((b.length : Int) - t) - 10 < ((b.getD ((t + 9).toNat) 0).toNat : Int)))) = false := by
        simp only [Bool.or_eq_false_iff, decide_eq_false_iff_not]
        exact ⟨by omega, by omega⟩
      rw [e, cond_false, refd3 b t (by omega) (by omega)]
      show _ ∨ _
      rw [pvs, if_pos ⟨o1, by rw [h9]; exact o2⟩]
      have ev : ((u32i ((last.toNat : Int) - ((b.getD 7 0).toNat : Int) + i + 1), slc b (t + 10) (t + 10 + ((b.getD ((t + 9).toNat) 0).toNat : Int)), un64 0 ((b.drop t.toNat).take 8), ((b.getD ((t + 8).toNat) 0).toNat : Int)) : Ver) = nxtV (last - ((b.getD 7 0).toNat.toUInt32) + (i.toNat.toUInt32 + 1)) (b.drop t.toNat) := by
        have hn := num_t last (b.getD 7 0).toNat i.toNat (by omega)
        rw [show ((i.toNat : Nat) : Int) = i by omega] at hn
        rw [hn, nxtV, h8', h9, List.drop_drop, slc]
        rw [show (t + 10).toNat = t.toNat + 10 by omega, show (t + 10 + ((b.getD ((t + 9).toNat) 0).toNat : Int)).toNat - (t.toNat + 10) = (b.getD ((t + 9).toNat) 0).toNat by omega]
      have hk := l_ref b last k m (t + 10 + ((b.getD ((t + 9).toNat) 0).toNat : Int)) (i + 1) (o ++ [nxtV (last - ((b.getD 7 0).toNat.toUInt32) + (i.toNat.toUInt32 + 1)) (b.drop t.toNat)]) (by omega) (by omega) (by omega) (by omega) (by omega)
      have ed : (b.drop t.toNat).drop (10 + ((b.drop t.toNat).getD 9 0).toNat) = b.drop (t + 10 + ((b.getD ((t + 9).toNat) 0).toNat : Int)).toNat := by
        rw [h9, List.drop_drop]; congr 1; omega
      have en : last - ((b.getD 7 0).toNat.toUInt32) + (i.toNat.toUInt32 + 1) + 1 = last - ((b.getD 7 0).toNat.toUInt32) + ((i + 1).toNat.toUInt32 + 1) := by
        rw [UInt32.add_assoc, show (i + 1).toNat = i.toNat + 1 by omega]
        congr 2
        apply UInt32.toNat_inj.1; simp
      rw [ed, en]
      show (∃ l q, _ ∧ ∃ t' : Int, _ ∧ _ ∧ _ ∧ Lo.el (Lo.brk (un64 0 ((b.drop t.toNat).take 8))) _ = _) ∨ (_ ∧ Lo.el (Lo.brk (un64 0 ((b.drop t.toNat).take 8))) _ = _)
      simp only [Lo.el]
      rw [ev]
      rcases hk with ⟨l, q, h1, t', h2, h3, h4, h5⟩ | ⟨h1, h2⟩
      · left; rw [h1]; exact ⟨_, q, rfl, t', h2, h3, h4, by rw [h5, List.append_assoc]; rfl⟩
      · right; rw [h1]; exact ⟨rfl, h2⟩
    · right
      rw [pvs, if_neg ok]
      have e : ((decide ((b.length : Int) - t < 10)) || (decide (((b.length : Int) - t) - 10 < ((b.getD ((t + 9).toNat) 0).toNat : Int)))) = true := by
        rw [← Bool.not_eq_false]
        intro e
        simp only [Bool.or_eq_false_iff, decide_eq_false_iff_not] at e
        exact ok ⟨by omega, by rw [h9]; omega⟩
      rw [e, cond_true]; exact ⟨rfl, rfl⟩
theorem refd1 (b : List UInt8) (h : 8 ≤ b.length) : bursaryref30_Decode_l1 b ((7 - (3 : Int)).toNat + 1) 3 0 = .brk ((un64 0 ((b.drop 3).take 4)).toUInt32) := by
  have e : (b.drop 3).take 4 = [b.getD 3 0, b.getD 4 0, b.getD 5 0, b.getD 6 0] := by
    apply ext_gD (0 : UInt8)
    · simp; omega
    · intro i hi
      have hi : i < 4 := by simp at hi; omega
      rw [gD_take, if_pos hi, gD_drop]
      match i, hi with
      | 0, _ => rfl
      | 1, _ => rfl
      | 2, _ => rfl
      | 3, _ => rfl
  rw [e, show ((7 - (3 : Int)).toNat + 1) = 5 from rfl]
  rw [bursaryref30_Decode_l1, decide_eq_true (by decide), cond_true, bursaryref30_Decode_l1, decide_eq_true (by decide), cond_true, bursaryref30_Decode_l1, decide_eq_true (by decide), cond_true, bursaryref30_Decode_l1, decide_eq_true (by decide), cond_true, bursaryref30_Decode_l1, decide_eq_false (by decide), cond_false]
  show Lo.brk (256 * (256 * (256 * (256 * 0 + (b.getD 3 0).toUInt32) + (b.getD 4 0).toUInt32) + (b.getD 5 0).toUInt32) + (b.getD 6 0).toUInt32) = Lo.brk ((256 * (256 * (256 * (256 * 0 + (b.getD 3 0).toUInt64) + (b.getD 4 0).toUInt64) + (b.getD 5 0).toUInt64) + (b.getD 6 0).toUInt64 : UInt64).toUInt32)
  congr 1
  simp only [UInt64.toUInt32_add, UInt64.toUInt32_mul, UInt8.toUInt32_toUInt64]
  rfl
theorem dec_ref (b : List UInt8) : bursaryref30_Decode b = dcE b := by
  rw [bursaryref30_Decode, dcE]
  by_cases h : 8 ≤ b.length ∧ b.getD 0 0 = 115 ∧ b.getD 1 0 = 101
  · have e : ((decide ((b.length : Int) < 8)) || (((b.getD 0 0) != 115) || ((b.getD 1 0) != 101))) = false := by
      simp only [Bool.or_eq_false_iff, decide_eq_false_iff_not, bne_eq_false_iff_eq]; exact ⟨by omega, h.2.1, h.2.2⟩
    rw [if_pos h, e, cond_false, refd1 b h.1]
    show bursaryref30_Decode_k1 b _ = _
    rw [bursaryref30_Decode_k1]
    rcases l_ref b ((un64 0 ((b.drop 3).take 4)).toUInt32) (b.getD 7 0).toNat ((((b.getD 7 0).toNat : Int) - (0 : Int)).toNat + 1) 8 0 [] (by omega) (by have := h.1; omega) (Int.le_refl 0) (by omega) (by omega) with ⟨l, q, h1, t', h2, h3, h4, h5⟩ | ⟨h1, h2⟩
    · have h1' : pvs (b.getD 7 0).toNat ((un64 0 ((b.drop 3).take 4)).toUInt32 - ((b.getD 7 0).toNat.toUInt32) + 1) (b.drop 8) = some (l, q) := h1
      rw [h1', h5]
      show bursaryref30_Decode_k2 b _ t' ([] ++ l) = if _ then _ else _
      rw [bursaryref30_Decode_k2, bnd_eq, List.nil_append]
      rcases check_or l ((un64 0 ((b.drop 3).take 4)).toUInt32) ((b.getD 2 0).toNat : Int) with ⟨c1, c2⟩ | ⟨c1, c2⟩
      · rw [c1, mayS_yes c2]
        by_cases hq : q = []
        · have : t' = (b.length : Int) := by
            rw [hq] at h4
            have := congrArg List.length h4
            rw [List.length_drop] at this; simp at this; omega
          rw [if_pos ⟨hq, rfl⟩, this, show (((b.length : Int) != (b.length : Int)) || (!true)) = false by simp, cond_false]
        · have : t' ≠ (b.length : Int) := by
            intro e; apply hq; rw [h4, e]; simp
          rw [if_neg (fun x => hq x.1), show ((t' != (b.length : Int)) || (!true)) = true by simp; exact this, cond_true]
      · rw [c1, mayS_no c2, if_neg (fun x => by have := x.2; cases this), show ((t' != (b.length : Int)) || (!false)) = true by simp, cond_true]
    · have h1' : pvs (b.getD 7 0).toNat ((un64 0 ((b.drop 3).take 4)).toUInt32 - ((b.getD 7 0).toNat.toUInt32) + 1) (b.drop 8) = none := h1
      rw [h1', h2]; rfl
  · have e : ((decide ((b.length : Int) < 8)) || (((b.getD 0 0) != 115) || ((b.getD 1 0) != 101))) = true := by
      rw [← Bool.not_eq_false]
      intro e
      simp only [Bool.or_eq_false_iff, decide_eq_false_iff_not, bne_eq_false_iff_eq] at e
      exact h ⟨by omega, e.2.1, e.2.2⟩
    rw [if_neg h, e, cond_true]
theorem pvs_enc : ∀ (l : List Ver) (N : UInt32) (tail : List UInt8), (∀ i, i < l.length → okV (l.getD i (0, [], 0, 0)) ∧ (l.getD i (0, [], 0, 0)).1 = N + i.toUInt32) → pvs l.length N (l.flatMap ver ++ tail) = some (l, tail)
  | [], _, _, _ => rfl
  | v :: l, N, tail, h => by
    obtain ⟨hv, hN⟩ := h 0 (by simp)
    have hv' : okV v := hv
    have hN' : v.1 = N := by have e : v.1 = N + (0 : Nat).toUInt32 := hN; rw [e]; apply UInt32.toNat_inj.1; simp
    obtain ⟨s1, s2, s3, _⟩ := hv'
    have hlen : (u8i (v.2.1.length : Int)).toNat = v.2.1.length := u8i_nat _ (by omega)
    have hst : ((u8i v.2.2.2).toNat : Int) = v.2.2.2 := by
      obtain ⟨n, hn⟩ := Int.eq_ofNat_of_zero_le s1
      rw [hn, u8i_nat n (by omega)]
    have er : (v :: l).flatMap ver ++ tail = be64 v.2.2.1 ++ (u8i v.2.2.2 :: u8i (v.2.1.length : Int) :: (v.2.1 ++ (l.flatMap ver ++ tail))) := by
      rw [List.flatMap_cons, ver]; simp
    rw [er]
    generalize hR : l.flatMap ver ++ tail = R
    have h9 : (be64 v.2.2.1 ++ (u8i v.2.2.2 :: u8i (v.2.1.length : Int) :: (v.2.1 ++ R))).getD 9 0 = u8i (v.2.1.length : Int) := rfl
    have h8 : (be64 v.2.2.1 ++ (u8i v.2.2.2 :: u8i (v.2.1.length : Int) :: (v.2.1 ++ R))).getD 8 0 = u8i v.2.2.2 := rfl
    have ht : (be64 v.2.2.1 ++ (u8i v.2.2.2 :: u8i (v.2.1.length : Int) :: (v.2.1 ++ R))).take 8 = be64 v.2.2.1 := rfl
    have hd : (be64 v.2.2.1 ++ (u8i v.2.2.2 :: u8i (v.2.1.length : Int) :: (v.2.1 ++ R))).drop 10 = v.2.1 ++ R := rfl
    have hll : (be64 v.2.2.1 ++ (u8i v.2.2.2 :: u8i (v.2.1.length : Int) :: (v.2.1 ++ R))).length = 10 + (v.2.1.length + R.length) := by simp [be64]; omega
    have ok : okR (be64 v.2.2.1 ++ (u8i v.2.2.2 :: u8i (v.2.1.length : Int) :: (v.2.1 ++ R))) := ⟨by rw [hll]; omega, by rw [h9, hlen, hll]; omega⟩
    rw [List.length_cons, pvs, if_pos ok, h9, hlen, ← List.drop_drop, hd, List.drop_left, ← hR]
    rw [pvs_enc l (N + 1) tail (fun i hi => by
      obtain ⟨a, b⟩ := h (i + 1) (by simp; omega)
      refine ⟨a, ?_⟩
      have b' : (l.getD i (0, [], 0, 0)).1 = N + (i + 1).toUInt32 := b
      rw [b', UInt32.add_assoc]; congr 1; apply UInt32.toNat_inj.1; simp; omega)]
    show some (nxtV N _ :: l, tail) = _
    have : nxtV N (be64 v.2.2.1 ++ (u8i v.2.2.2 :: u8i (v.2.1.length : Int) :: (v.2.1 ++ (l.flatMap ver ++ tail)))) = v := by
      rw [hR, nxtV, h9, h8, ht, hd, hlen, List.take_left, un_be, hst, ← hN']
    rw [this]
theorem un_be32 (a : UInt32) : (un64 0 (be32 a)).toUInt32 = a := by
  show ((256 * (256 * (256 * (256 * 0 + ((shr32 a 24).toUInt8).toUInt64) + ((shr32 a 16).toUInt8).toUInt64) + ((shr32 a 8).toUInt8).toUInt64) + ((shr32 a 0).toUInt8).toUInt64 : UInt64).toUInt32) = a
  simp only [UInt64.toUInt32_add, UInt64.toUInt32_mul, UInt8.toUInt32_toUInt64]
  apply UInt32.toNat_inj.1
  have h1 := shr8_32 a (k := 24) (m := 16777216) rfl
  have h2 := shr8_32 a (k := 16) (m := 65536) rfl
  have h3 := shr8_32 a (k := 8) (m := 256) rfl
  have h4 := shr8_32 a (k := 0) (m := 1) rfl
  have hg := a.toNat_lt
  simp only [UInt32.toNat_add, UInt32.toNat_mul, UInt8.toNat_toUInt32, h1, h2, h3, h4]
  show (256 * ((256 * ((256 * ((256 * 0 % 4294967296 + a.toNat / 16777216 % 256) % 4294967296) % 4294967296 + a.toNat / 65536 % 256) % 4294967296) % 4294967296 + a.toNat / 256 % 256) % 4294967296) % 4294967296 + a.toNat / 1 % 256) % 4294967296 = a.toNat
  omega
theorem back30 (l : List Ver) (a : UInt32) (b : Int) (ok : okE l a b) (tail : List UInt8) : dcE (encE l a b ++ tail) = if tail = [] then ((l, a, b), 0) else (([], 0, 0), 4) := by
  have h8 := okE_len ok
  have hb : ((u8i b).toNat : Int) = b := by
    obtain ⟨n, hn⟩ := Int.eq_ofNat_of_zero_le (show 0 ≤ b by have := ok.1; omega)
    rw [hn, u8i_nat n (by have := ok.1; omega)]
  have hl : (u8i (l.length : Int)).toNat = l.length := u8i_nat _ (by omega)
  have e0 : encE l a b ++ tail = 115 :: 101 :: u8i b :: (shr32 a 24).toUInt8 :: (shr32 a 16).toUInt8 :: (shr32 a 8).toUInt8 :: (shr32 a 0).toUInt8 :: u8i (l.length : Int) :: (l.flatMap ver ++ tail) := by simp [encE, be32]
  rw [e0]
  generalize hB : (115 :: 101 :: u8i b :: (shr32 a 24).toUInt8 :: (shr32 a 16).toUInt8 :: (shr32 a 8).toUInt8 :: (shr32 a 0).toUInt8 :: u8i (l.length : Int) :: (l.flatMap ver ++ tail) : List UInt8) = B
  have h0 : B.getD 0 0 = 115 := by rw [← hB]; rfl
  have h1 : B.getD 1 0 = 101 := by rw [← hB]; rfl
  have h2 : B.getD 2 0 = u8i b := by rw [← hB]; rfl
  have h7 : B.getD 7 0 = u8i (l.length : Int) := by rw [← hB]; rfl
  have h3 : (B.drop 3).take 4 = be32 a := by rw [← hB]; rfl
  have hd8 : B.drop 8 = l.flatMap ver ++ tail := by rw [← hB]; rfl
  have hlB : 8 ≤ B.length := by rw [← hB]; simp
  rw [dcE, if_pos ⟨hlB, h0, h1⟩, h7, h3, hd8, h2]
  rw [un_be32, hl, hb, pvs_enc l _ tail (fun i hi => by
    obtain ⟨c1, c2⟩ := ok.2.2 i hi
    refine ⟨c1, ?_⟩
    apply UInt32.toNat_inj.1
    have hla := a.toNat_lt
    have hle := ok.2.1.1
    have e1 : (l.length.toUInt32).toNat = l.length := by simp; omega
    have e2 : (i.toUInt32).toNat = i := by simp; omega
    rw [c2, UInt32.toNat_add, UInt32.toNat_add, UInt32.toNat_sub, e1, e2]
    have e3 : (1 : UInt32).toNat = 1 := rfl
    rw [e3]; omega)]
  simp only []
  rw [check_yes ok]
  by_cases h : tail = []
  · rw [if_pos ⟨h, rfl⟩, if_pos h]
  · rw [if_neg (fun x => h x.1), if_neg h]
theorem forms30_true (l : List Ver) (a : UInt32) (b : Int) (x : List UInt8) : bursarylaw30_EngineForms l a b x = true := by
  rw [bursarylaw30_EngineForms, bnd_eq]
  cases (bursarylaw30_bigSecret l a b) || (decide ((x.length : Int) > 2000)) with
  | true => rw [cond_true, sure30_true]
  | false =>
    rw [cond_false, give_eq]
    simp only [bnd_eq, dec_eng, dec_ref, isS_self, id_eq, sure30_true]
    rcases enc_eq30 l a b with ⟨ok, e⟩ | ⟨no, e⟩
    · rcases refenc30 l a b with ⟨_, r⟩ | ⟨no, _⟩
      · have h1 := back30 l a b ok []
        have h2 := back30 l a b ok [0]
        rw [List.append_nil] at h1
        rw [if_pos rfl] at h1
        rw [if_neg (by simp)] at h2
        simp only [e, r, h1, List.nil_append, h2, isS_self]
        simp
      · exact absurd ok no
    · rcases refenc30 l a b with ⟨ok, _⟩ | ⟨_, r⟩
      · exact absurd ok no
      · simp only [e, r]; simp
end Go.Proofs.YtbppcnhfeobefaaDoor

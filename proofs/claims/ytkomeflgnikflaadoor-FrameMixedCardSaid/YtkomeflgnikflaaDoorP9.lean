/- Records over sectors: the plain laws, the rest: the reference's record out of sectors; a record comes back. -/
import Derived.Test.YtkomeflgnikflaaDoorP8
namespace Go.Proofs.YtkomeflgnikflaaDoor
open Go Go.Vw Go.Proofs
theorem rj_l2 (l : List (List UInt8)) (i : Int) (hs : (l.getD i.toNat []).length = 64) : ∀ (m : Nat) (t : Int) (o : List UInt8), 8 ≤ t → t ≤ 64 → (64 - t).toNat < m → o.length ≤ zz l →
    ((∀ k : Nat, t ≤ k → k < 64 → (zz l : Int) ≤ o.length + (k - t) → (l.getD i.toNat []).getD k 0 = 0) ∧ bursaryref14_Join_l2 l i m t o = .brk (o ++ ((l.getD i.toNat []).drop t.toNat).take (zz l - o.length))) ∨
    ((∃ k : Nat, t ≤ k ∧ k < 64 ∧ (zz l : Int) ≤ o.length + (k - t) ∧ (l.getD i.toNat []).getD k 0 ≠ 0) ∧ bursaryref14_Join_l2 l i m t o = .ret (.ret (0, [], 0, 4))) := by
  intro m
  induction m with
  | zero => intro t o _ _ h; exact absurd h (Nat.not_lt_zero _)
  | succ m ih =>
    intro t o h8 h64 hm ho
    rw [bursaryref14_Join_l2]
    have ez : (((l.getD 0 []).getD 6 0).toNat : Int) * 256 + (((l.getD 0 []).getD 7 0).toNat : Int) = (zz l : Int) := by unfold zz; omega
    rw [ez]
    by_cases c : t < 64
    · rw [decide_eq_true c, cond_true]
      have ed : (l.getD i.toNat []).drop t.toNat = (l.getD i.toNat []).getD t.toNat 0 :: (l.getD i.toNat []).drop (t.toNat + 1) := drop_cons _ _ 0 (by rw [hs]; omega)
      have e1 : (t + 1).toNat = t.toNat + 1 := by omega
      by_cases d : (o.length : Int) < zz l
      · rw [decide_eq_true d, cond_true]
        rcases ih (t + 1) (o ++ [(l.getD i.toNat []).getD t.toNat 0]) (by omega) (by omega) (by omega) (by rw [List.length_append]; simp only [List.length_singleton]; omega) with ⟨a, b⟩ | ⟨⟨k, k1, k2, k3, k4⟩, b⟩
        · refine .inl ⟨fun k h1 h2 h3 => ?_, ?_⟩
          · rw [List.length_append] at a; simp only [List.length_singleton] at a
            exact a k (by omega) h2 (by omega)
          · rw [b, ed, e1, List.length_append, List.append_assoc]
            congr 2
            have e3 : zz l - o.length = (zz l - (o.length + 1)) + 1 := by omega
            rw [e3, List.take_succ_cons]
            rfl
        · rw [List.length_append] at k3; simp only [List.length_singleton] at k3
          exact .inr ⟨⟨k, by omega, k2, by omega, k4⟩, b⟩
      · rw [decide_eq_false d, cond_false]
        by_cases e : (l.getD i.toNat []).getD t.toNat 0 = 0
        · rw [show (((l.getD i.toNat []).getD t.toNat 0) != 0) = false by simpa using e, cond_false]
          rcases ih (t + 1) o (by omega) (by omega) (by omega) ho with ⟨a, b⟩ | ⟨⟨k, k1, k2, k3, k4⟩, b⟩
          · refine .inl ⟨fun k h1 h2 h3 => ?_, ?_⟩
            · by_cases w : t = k
              · subst w; rwa [Int.toNat_natCast] at e
              · exact a k (by omega) h2 (by omega)
            · rw [b, show zz l - o.length = 0 by omega, List.take_zero, List.take_zero]
          · exact .inr ⟨⟨k, by omega, k2, by omega, k4⟩, b⟩
        · rw [show (((l.getD i.toNat []).getD t.toNat 0) != 0) = true by simpa using e, cond_true]
          exact .inr ⟨⟨t.toNat, by omega, by omega, by omega, e⟩, rfl⟩
    · rw [decide_eq_false c, cond_false]
      refine .inl ⟨fun k h1 h2 _ => absurd h2 (by omega), ?_⟩
      rw [List.drop_of_length_le (by rw [hs]; omega), List.take_nil, List.append_nil]
def hdOk (l : List (List UInt8)) (i : Nat) : Prop := (l.getD i []).length = 64 ∧ slc (l.getD i []) 0 4 = slc (l.getD 0 []) 0 4 ∧ ((l.getD i []).getD 4 0).toNat = i ∧ ((l.getD i []).getD 5 0).toNat = nn l ∧ slc (l.getD i []) 6 8 = slc (l.getD 0 []) 6 8
def zOk (l : List (List UInt8)) (i : Nat) : Prop := ∀ k : Nat, 8 ≤ k → k < 64 → zz l ≤ 56 * i + (k - 8) → (l.getD i []).getD k 0 = 0
theorem rj_l1 (l : List (List UInt8)) : ∀ (m i : Nat), i ≤ nn l → nn l - i < m → (∀ j, j < i → (l.getD j []).length = 64) →
    ((∀ j : Nat, i ≤ j → j < nn l → hdOk l j ∧ zOk l j) ∧ bursaryref14_Join_l1 l m i ((flat l i).take (zz l)) = .brk (bb l)) ∨
    ((∃ j : Nat, i ≤ j ∧ j < nn l ∧ ¬ (hdOk l j ∧ zOk l j)) ∧ bursaryref14_Join_l1 l m i ((flat l i).take (zz l)) = .ret (0, [], 0, 4)) := by
  intro m
  induction m with
  | zero => intro i _ h; exact absurd h (Nat.not_lt_zero _)
  | succ m ih =>
    intro i hi hm h64
    rw [bursaryref14_Join_l1]
    have en : (((l.getD 0 []).getD 5 0).toNat : Int) = (nn l : Int) := rfl
    rw [en, Int.toNat_natCast]
    by_cases c : i < nn l
    · rw [decide_eq_true (show (i : Int) < (nn l : Int) by omega), cond_true]
      cases d : (((l.getD i []).length : Int) != 64) || (((slc (l.getD i []) 0 4) != (slc (l.getD 0 []) 0 4)) || (((((l.getD i []).getD 4 0).toNat : Int) != (i : Int)) || (((((l.getD i []).getD 5 0).toNat : Int) != (nn l : Int)) || ((slc (l.getD i []) 6 8) != (slc (l.getD 0 []) 6 8))))) with
      | true =>
        rw [cond_true]
        refine .inr ⟨⟨i, Nat.le_refl _, c, fun h => ?_⟩, rfl⟩
        obtain ⟨⟨a1, a2, a3, a4, a5⟩, _⟩ := h
        rw [a1, a2, a3, a4, a5] at d
        simp at d
      | false =>
        rw [cond_false]
        simp only [Bool.or_eq_false_iff, bne_eq_false_iff_eq] at d
        have hd : hdOk l i := ⟨by omega, d.2.1, by omega, by omega, d.2.2.2.2⟩
        have hf := flat_length l i h64
        have ho : ((flat l i).take (zz l)).length = min (zz l) (56 * i) := by rw [List.length_take, hf]
        have hn : (l.getD ((i : Int)).toNat []).length = 64 := by rw [Int.toNat_natCast]; exact hd.1
        rcases rj_l2 l i hn ((64 - (8 : Int)).toNat + 1) 8 ((flat l i).take (zz l)) (by omega) (by omega) (by omega) (by omega) with ⟨a, b⟩ | ⟨⟨k, k1, k2, k3, k4⟩, b⟩
        · have hz : zOk l i := fun k h1 h2 h3 => by
            rw [Int.toNat_natCast] at a
            exact a k (by omega) h2 (by omega)
          rw [b]
          have eo : (flat l i).take (zz l) ++ ((l.getD ((i : Int)).toNat []).drop (8 : Int).toNat).take (zz l - ((flat l i).take (zz l)).length) = (flat l (i + 1)).take (zz l) := by
            rw [Int.toNat_natCast, ho, flat, flat, flat_succ, List.take_append]
            congr 2
            show _ = _ - (flat l i).length
            rw [hf]; omega
          rw [eo]
          simp only [Lo.el]
          rcases ih (i + 1) (by omega) (by omega) (fun j hj => by
            by_cases w : j = i
            · subst w; exact hd.1
            · exact h64 j (by omega)) with ⟨a', b'⟩ | ⟨⟨j, j1, j2, j3⟩, b'⟩
          · refine .inl ⟨fun j h1 h2 => ?_, b'⟩
            by_cases w : j = i
            · subst w; exact ⟨hd, hz⟩
            · exact a' j (by omega) h2
          · exact .inr ⟨⟨j, by omega, j2, j3⟩, b'⟩
        · rw [b]
          simp only [Lo.el]
          refine .inr ⟨⟨i, Nat.le_refl _, c, fun h => ?_⟩, trivial⟩
          rw [Int.toNat_natCast] at k4
          exact k4 (h.2 k (by omega) k2 (by omega))
    · rw [decide_eq_false (show ¬ (i : Int) < (nn l : Int) by omega), cond_false]
      have e : i = nn l := by omega
      exact .inl ⟨fun j h1 h2 => absurd h2 (by omega), by rw [e]; rfl⟩
theorem sq_nat (l : List (List UInt8)) (h : (l.getD 0 []).length = 64) : (sq l).toNat = num4 ((l.getD 0 []).getD 0 0) ((l.getD 0 []).getD 1 0) ((l.getD 0 []).getD 2 0) ((l.getD 0 []).getD 3 0) := by
  rw [sq, frame_Seq, h, show (((64 : Nat) : Int) != 64) = false from rfl, cond_false]
  exact num4_or _ _ _ _
theorem slc_at {a b : List UInt8} {lo hi : Int} (h : slc a lo hi = slc b lo hi) (k : Nat) (h1 : lo.toNat ≤ k) (h2 : k < hi.toNat) : a.getD k 0 = b.getD k 0 := by
  have := congrArg (fun x => List.getD x (k - lo.toNat) 0) h
  simp only [slc_getD] at this
  rwa [if_pos (by omega), if_pos (by omega), show lo.toNat + (k - lo.toNat) = k by omega] at this
theorem all_iff (l : List (List UInt8)) (h0 : (l.getD 0 []).length = 64) (hn : nn l ≠ 0) (hs : (nn l : Int) = frame_Sectors (zz l)) : (∀ j : Nat, 0 ≤ j → j < nn l → hdOk l j ∧ zOk l j) ↔ AllIn l := by
  have hz : zz l < 65536 := by unfold zz; have := ((l.getD 0 []).getD 6 0).toNat_lt; have := ((l.getD 0 []).getD 7 0).toNat_lt; omega
  have hnn : nn l < 256 := by unfold nn; exact UInt8.toNat_lt _
  constructor
  · intro h i hi
    have h64 : ∀ i, i < nn l → (l.getD i []).length = 64 := fun i hi => (h i (by omega) hi).1.1
    have hb := bb_length l h64 hn hs
    obtain ⟨⟨a1, a2, a3, a4, a5⟩, z⟩ := h i (by omega) hi
    have q := sq_nat l h0
    unfold num4 at q
    have b0 := ((l.getD 0 []).getD 0 0).toNat_lt
    have b1 := ((l.getD 0 []).getD 1 0).toNat_lt
    have b2 := ((l.getD 0 []).getD 2 0).toNat_lt
    have b3 := ((l.getD 0 []).getD 3 0).toNat_lt
    have b7 := ((l.getD 0 []).getD 7 0).toNat_lt
    refine ext_gD 0 (by rw [a1, sct_length]) (fun k hk => ?_)
    rw [a1] at hk
    by_cases c : k < 8
    · match k, c with
      | 0, _ => rw [slc_at a2 0 (by decide) (by decide), sct0]; apply u8eq; rw [s32 _ p24, q]; omega
      | 1, _ => rw [slc_at a2 1 (by decide) (by decide), sct1]; apply u8eq; rw [s32 _ p16, q]; omega
      | 2, _ => rw [slc_at a2 2 (by decide) (by decide), sct2]; apply u8eq; rw [s32 _ p8, q]; omega
      | 3, _ => rw [slc_at a2 3 (by decide) (by decide), sct3]; apply u8eq; rw [UInt32.toNat_toUInt8, q]; omega
      | 4, _ => rw [sct4]; apply u8eq; rw [u8i_nat _ (by omega), a3]
      | 5, _ => rw [sct5]; apply u8eq; rw [u8i_nat _ hnn, a4]
      | 6, _ => rw [slc_at a5 6 (by decide) (by decide), sct6, hb]; apply u8eq; rw [show ((zz l : Nat) : Int) / 256 = ((zz l / 256 : Nat) : Int) from rfl, u8i_nat _ (by omega)]; unfold zz; omega
      | 7, _ => rw [slc_at a5 7 (by decide) (by decide), sct7, hb]; apply u8eq; rw [u8i_mod]; unfold zz; omega
      | n + 8, h => exact absurd h (by omega)
    · rw [sct_hi _ _ _ _ _ (by omega) hk (by omega), Int.toNat_natCast]
      by_cases d : 56 * i + (k - 8) < zz l
      · rw [bb, gD_take, if_pos d, flat_get l _ i (k - 8) h64 hi (by omega)]
        congr 1; omega
      · rw [gD_out (bb l) _ _ (by omega), z k (by omega) hk (by omega)]
  · intro h i _ hi
    have h64 : ∀ i, i < nn l → (l.getD i []).length = 64 := fun i hi => by rw [h i hi, sct_length]
    have hb := bb_length l h64 hn hs
    have hi0 := h 0 (by omega)
    have hii := h i hi
    refine ⟨⟨h64 i hi, ?_, ?_, ?_, ?_⟩, fun k h1 h2 h3 => ?_⟩
    · rw [slc_take, slc_take]
      refine ext_gD 0 (by rw [List.length_take, List.length_take, h64 i hi, h0]) (fun k hk => ?_)
      rw [List.length_take] at hk
      have hk : k < 4 := by have : (4 : Int).toNat = 4 := rfl; omega
      rw [gD_take, gD_take, if_pos (show k < (4 : Int).toNat from hk), if_pos (show k < (4 : Int).toNat from hk)]
      match k, hk with
      | 0, _ => rw [hii, hi0, sct0, sct0]
      | 1, _ => rw [hii, hi0, sct1, sct1]
      | 2, _ => rw [hii, hi0, sct2, sct2]
      | 3, _ => rw [hii, hi0, sct3, sct3]
      | n + 4, h => exact absurd h (by omega)
    · rw [hii, sct4, u8i_nat _ (by omega)]
    · rw [hii, sct5, u8i_nat _ hnn]
    · refine ext_gD 0 (by rw [slc_len, slc_len, h64 i hi, h0]) (fun k hk => ?_)
      rw [slc_len] at hk
      have hk : k < 2 := by have : (8 : Int).toNat - (6 : Int).toNat = 2 := rfl; omega
      rw [slc_getD, slc_getD, if_pos (show k < (8 : Int).toNat - (6 : Int).toNat from hk), if_pos (show k < (8 : Int).toNat - (6 : Int).toNat from hk)]
      match k, hk with
      | 0, _ => show (l.getD i []).getD 6 0 = (l.getD 0 []).getD 6 0; rw [hii, hi0, sct6, sct6]
      | 1, _ => show (l.getD i []).getD 7 0 = (l.getD 0 []).getD 7 0; rw [hii, hi0, sct7, sct7]
      | n + 2, h => exact absurd h (by omega)
    · rw [hii, sct_hi _ _ _ _ _ h1 h2 (by omega), gD_out]
      rw [hb, Int.toNat_natCast]; omega
theorem join_ref (l : List (List UInt8)) : bursaryref14_Join l = frame_Join l := by
  rw [bursaryref14_Join]
  cases c : ((l.length : Int) == 0) || (((l.getD 0 []).length : Int) != 64) with
  | true =>
    rw [cond_true, join_bad l (.inl ?_)]
    by_cases h : l.length = 0
    · exact .inl h
    · by_cases h2 : (l.getD 0 []).length = 64
      · rw [h2] at c; simp at c; rw [c] at h; exact absurd rfl h
      · exact .inr (.inl h2)
  | false =>
    rw [cond_false, bnd_eq, bnd_eq]
    simp only [Bool.or_eq_false_iff, beq_eq_false_iff_ne, bne_eq_false_iff_eq] at c
    have h0 : (l.getD 0 []).length = 64 := by omega
    rw [← seq_eq, ← sectors_ref]
    have ez : (((l.getD 0 []).getD 6 0).toNat : Int) * 256 + (((l.getD 0 []).getD 7 0).toNat : Int) = (zz l : Int) := by unfold zz; omega
    have en : (((l.getD 0 []).getD 5 0).toNat : Int) = (nn l : Int) := rfl
    rw [ez, en, show (frame_Seq (l.getD 0 [])).1 = sq l from rfl]
    cases d : (sq l == 0) || (((nn l : Int) == 0) || (((nn l : Int) != frame_Sectors (zz l)) || (decide ((l.length : Int) < (nn l : Int))))) with
    | true =>
      rw [cond_true, join_bad l (.inl ?_)]
      simp only [Bool.or_eq_true, beq_iff_eq, bne_iff_ne, decide_eq_true_eq] at d
      rcases d with d | d | d | d
      · exact .inr (.inr (.inl d))
      · exact .inr (.inr (.inr (.inl (by omega))))
      · exact .inr (.inr (.inr (.inr (.inl d))))
      · exact .inr (.inr (.inr (.inr (.inr (by omega)))))
    | false =>
      rw [cond_false]
      simp only [Bool.or_eq_false_iff, beq_eq_false_iff_ne, bne_eq_false_iff_eq, decide_eq_false_iff_not] at d
      obtain ⟨d1, d2, d3, d4⟩ := d
      have hall := all_iff l h0 (by omega) d3
      have e0 : ([] : List UInt8) = (flat l 0).take (zz l) := by simp [flat]
      rcases rj_l1 l (((nn l : Int) - 0).toNat + 1) 0 (by omega) (by omega) (fun j hj => absurd hj (Nat.not_lt_zero _)) with ⟨a, b⟩ | ⟨⟨j, j1, j2, j3⟩, b⟩
      · rw [show ((0 : Nat) : Int) = 0 from rfl, ← e0] at b
        rw [b, join_good l (fun h => ?_) (hall.1 a)]
        · rfl
        · rcases h with h | h | h | h | h | h
          · omega
          · exact h h0
          · exact d1 h
          · omega
          · exact h d3
          · omega
      · rw [show ((0 : Nat) : Int) = 0 from rfl, ← e0] at b
        rw [b, join_bad l (.inr (fun h => j3 (hall.2 h j j1 j2)))]
        rfl
theorem frameForms_true (a0 : UInt32) (a1 : List UInt8) (a2 : List (List UInt8)) : bursarylaw14_FrameForms a0 a1 a2 = true := by
  rw [bursarylaw14_FrameForms, bnd_eq]
  cases c : bif decide ((a1.length : Int) > 900) then (decide ((a1.length : Int) ≤ 14280)) || (!(bursarylaw14_small a2)) else !(bursarylaw14_small a2) with
  | true => rw [cond_true, sure14]
  | false =>
    rw [cond_false, bnd_eq, bnd_eq, bnd_eq, bnd_eq, split_ref, join_ref]
    rcases cmpLoop (f := bursarylaw14_FrameForms_l1 a2) (n := (a2.length : Int)) (p := fun i => ((frame_Seq (a2.getD i [])).1 != (bursaryref14_Seq (a2.getD i [])).1) || ((id (frame_Seq (a2.getD i [])).2) != (bursaryref14_Seq (a2.getD i [])).2)) (r := false) (fun m i _ => by rw [bursarylaw14_FrameForms_l1, bnd_eq, bnd_eq, bnd_eq]) _ 0 (by omega) (Nat.lt_succ_self _) with ⟨q, e⟩ | ⟨⟨j, h1, h2, q⟩, e⟩
    · rw [e]
      show bursarylaw14_FrameForms_k1 a0 _ _ _ _ = true
      rw [bursarylaw14_FrameForms_k1, bnd_eq, bnd_eq, bnd_eq, bnd_eq, bnd_eq, lists_self, sectors_ref, sure14]
      simp
    · rw [seq_eq] at q; simp at q
/-! ## a record comes back -/
theorem back (s : UInt32) (b : List UInt8) (more : List (List UInt8)) (h : (frame_Split s b).2 = 0) : frame_Join ((frame_Split s b).1 ++ more) = (s, b, ((frame_Split s b).1.length : Int), 0) ∧ ((frame_Split s b).1.length : Int) = frame_Sectors (b.length : Int) ∧ frame_Join (slc (frame_Split s b).1 0 (((frame_Split s b).1.length : Int) - 1)) = (0, [], 0, 4) := by
  have hf := sectors_fact (b.length : Int)
  rw [split_eq] at h ⊢
  cases c : (s == 0) || (frame_Sectors (b.length : Int) == 0) with
  | true => rw [c, cond_true] at h; exact absurd h (by simp)
  | false =>
    rw [cond_false]
    simp only [Bool.or_eq_false_iff, beq_eq_false_iff_ne] at c
    obtain ⟨c1, c2⟩ := c
    generalize hS : frame_Sectors (b.length : Int) = S at *
    obtain ⟨n, rfl⟩ := Int.eq_ofNat_of_zero_le hf.1
    rw [Int.toNat_natCast]
    have el : (List.map (fun i : Nat => sct s b (n : Int) i) (List.range n)).length = n := by simp
    generalize hx : (List.map (fun i : Nat => sct s b (n : Int) i) (List.range n)) = x at *
    show frame_Join (x ++ more) = (s, b, (x.length : Int), 0) ∧ _ ∧ frame_Join (slc x 0 ((x.length : Int) - 1)) = _
    have gx : ∀ i, i < n → x.getD i [] = sct s b n i := fun i hi => by rw [← hx, gD_range, if_pos hi]
    have gl : ∀ i, i < n → (x ++ more).getD i [] = sct s b n i := fun i hi => by rw [gD_app, if_pos (by omega), gx i hi]
    have hn : n ≠ 0 := by omega
    have g0 := gl 0 (by omega)
    have z5 : nn (x ++ more) = n := by rw [nn, g0, sct5, u8i_nat _ (by omega)]
    have z6 : zz (x ++ more) = b.length := by
      rw [zz, g0, sct6, sct7, show ((b.length : Nat) : Int) / 256 = ((b.length / 256 : Nat) : Int) from rfl, u8i_mod, u8i_mod]; omega
    have zs : sq (x ++ more) = s := by rw [sq, g0, sct_seq]
    have h64 : ∀ i, i < n → ((x ++ more).getD i []).length = 64 := fun i hi => by rw [gl i hi, sct_length]
    have hr := sectors_room (b.length : Int) (by rw [hS]; omega)
    rw [hS] at hr
    have zb : bb (x ++ more) = b := by
      have hfl := flat_length (x ++ more) n h64
      rw [bb, z5, z6]
      refine ext_gD 0 (by rw [List.length_take, hfl]; omega) (fun k hk => ?_)
      rw [List.length_take, hfl] at hk
      rw [gD_take, if_pos (by omega), show k = 56 * (k / 56) + k % 56 by omega, flat_get _ n (k / 56) (k % 56) h64 (by omega) (by omega), gl _ (by omega), sct_hi _ _ _ _ _ (by omega) (by omega) (by omega), Int.toNat_natCast]
      congr 1; omega
    refine ⟨?_, (by show ((x.length : Nat) : Int) = (n : Int); omega), ?_⟩
    · rw [join_good, zs, zb, z5, el]
      · rintro (q | q | q | q | q | q)
        · rw [List.length_append] at q; omega
        · exact q (h64 0 (by omega))
        · rw [zs] at q; exact c1 q
        · omega
        · rw [z5, z6, hS] at q; exact q rfl
        · rw [List.length_append] at q; omega
      · intro i hi
        rw [z5] at hi
        rw [zs, zb, z5, gl i hi]
    · apply join_bad
      left
      rw [slc_take]
      by_cases w : n = 1
      · left; rw [List.length_take]; omega
      · right; right; right; right; right
        have : ((x.take ((x.length : Int) - 1).toNat).getD 0 []) = sct s b n 0 := by rw [gD_take, if_pos (by omega), gx 0 (by omega)]; rfl
        rw [nn, this, sct5, u8i_nat _ (by omega), List.length_take]; omega
theorem frameBack_true (a0 : UInt32) (a1 : List UInt8) (a2 : List (List UInt8)) : bursarylaw14_FrameBack a0 a1 a2 = true := by
  rw [bursarylaw14_FrameBack, bnd_eq]
  cases c : (a0 == 0) || ((decide ((a1.length : Int) > 900)) || (!(bursarylaw14_small a2))) with
  | true => rw [cond_true, sure14]
  | false =>
    rw [cond_false, bnd_eq]
    simp only [Bool.or_eq_false_iff, beq_eq_false_iff_ne, decide_eq_false_iff_not] at c
    have hp := sectors_pos (a1.length : Int) (by omega) (by omega)
    have h0 : (frame_Split a0 a1).2 = 0 := by
      rw [split_eq, show ((a0 == 0) || (frame_Sectors (a1.length : Int) == 0)) = false by simp [c.1]; omega, cond_false]
    obtain ⟨b1, b2, b3⟩ := back a0 a1 a2 h0
    rw [h0, show ((!(decide ((0 : Int) = 0))) || (((frame_Split a0 a1).1.length : Int) == 0)) = false by simp; intro h; rw [h] at b2; simp at b2; omega, cond_false]
    rw [List.nil_append, b1, b3]
    simp only [bnd_eq, b2, sure14]
    simp
end Go.Proofs.YtkomeflgnikflaaDoor

/- Sectors of two records, mixed: the plain law. -/
import Derived.Test.YtkomeflgnikflaaDoorP9
namespace Go.Proofs.YtkomeflgnikflaaDoor
open Go Go.Vw Go.Proofs
def wb (a2 : List Bool) (j : Nat) : Bool := (decide ((j : Int) < (a2.length : Int))) && (a2.getD j false)
theorem fm_l1 (y : List (List UInt8) × Int) : ∀ (m : Nat) (o : List (List UInt8)), ((y.1.length : Int) - o.length).toNat < m → bursarylaw14_FrameMixed_l1 y m o = .brk (o ++ List.replicate (y.1.length - o.length) (List.replicate 64 0)) := by
  intro m
  induction m with
  | zero => intro o h; exact absurd h (Nat.not_lt_zero _)
  | succ m ih =>
    intro o h
    rw [bursarylaw14_FrameMixed_l1]
    by_cases c : (o.length : Int) < y.1.length
    · rw [decide_eq_true c, cond_true, ih _ (by rw [List.length_append]; simp only [List.length_singleton]; omega), List.length_append, List.append_assoc]
      simp only [List.length_singleton]
      rw [show y.1.length - o.length = (y.1.length - (o.length + 1)) + 1 by omega, List.replicate_succ]
      rfl
    · rw [decide_eq_false c, cond_false, show y.1.length - o.length = 0 by omega]
      simp
theorem fm_l2 (a2 : List Bool) (y : List (List UInt8) × Int) : ∀ (m : Nat) (c i : Int) (o : List (List UInt8)), 0 ≤ i → i ≤ y.1.length → ((y.1.length : Int) - i).toNat < m → y.1.length ≤ o.length →
    ∃ c' o', bursarylaw14_FrameMixed_l2 a2 y m c i o = .brk (c', o') ∧ o'.length = o.length ∧ (∀ j : Nat, o'.getD j [] = if i ≤ j ∧ j < y.1.length ∧ wb a2 j = true then y.1.getD j [] else o.getD j []) ∧ c' ≤ c + (y.1.length - i) ∧ (c' = c + (y.1.length - i) ↔ ∀ j : Nat, i ≤ j → j < y.1.length → wb a2 j = true) := by
  intro m
  induction m with
  | zero => intro c i o _ _ h; exact absurd h (Nat.not_lt_zero _)
  | succ m ih =>
    intro c i o h0 h1 hm hl
    rw [bursarylaw14_FrameMixed_l2]
    by_cases d : i < (y.1.length : Int)
    · rw [decide_eq_true d, cond_true]
      have ei : ((i.toNat : Nat) : Int) = i := by omega
      cases w : (decide (i < (a2.length : Int))) && (a2.getD i.toNat false) with
      | true =>
        rw [cond_true]
        have wi : wb a2 i.toNat = true := by unfold wb; rw [ei]; exact w
        obtain ⟨c', o', e1, e2, e3, e4, e5⟩ := ih (c + 1) (i + 1) (o.set i.toNat (y.1.getD i.toNat [])) (by omega) (by omega) (by omega) (by simpa using hl)
        refine ⟨c', o', e1, by simpa using e2, fun j => ?_, by omega, ?_⟩
        · rw [e3 j, gD_set]
          by_cases q : i.toNat = j
          · subst q
            rw [if_neg (by omega), if_pos ⟨rfl, by omega⟩, if_pos ⟨by omega, by omega, wi⟩]
          · rw [if_neg (show ¬ (i.toNat = j ∧ j < o.length) by omega)]
            by_cases q2 : i ≤ j
            · have : i + 1 ≤ j := by omega
              simp only [this, q2, true_and]
            · have : ¬ i + 1 ≤ j := by omega
              simp only [this, q2, false_and]
        · rw [show c + ((y.1.length : Int) - i) = c + 1 + (y.1.length - (i + 1)) by omega, e5]
          refine ⟨fun h j h1 h2 => ?_, fun h j h1 h2 => h j (by omega) h2⟩
          by_cases q : i.toNat = j
          · subst q; exact wi
          · exact h j (by omega) h2
      | false =>
        rw [cond_false]
        have wi : wb a2 i.toNat = false := by unfold wb; rw [ei]; exact w
        obtain ⟨c', o', e1, e2, e3, e4, e5⟩ := ih c (i + 1) o (by omega) (by omega) (by omega) hl
        refine ⟨c', o', e1, e2, fun j => ?_, by omega, ?_⟩
        · rw [e3 j]
          by_cases q : i.toNat = j
          · subst q
            rw [if_neg (by omega), if_neg (by rw [wi]; simp)]
          · by_cases q2 : i ≤ j
            · have : i + 1 ≤ j := by omega
              simp only [this, q2, true_and]
            · have : ¬ i + 1 ≤ j := by omega
              simp only [this, q2, false_and]
        · refine ⟨fun h => absurd h (by omega), fun h => ?_⟩
          have := h i.toNat (by omega) (by omega)
          rw [wi] at this; exact absurd this (by simp)
    · rw [decide_eq_false d, cond_false]
      refine ⟨c, o, rfl, rfl, fun j => ?_, by omega, fun _ j h1 h2 => absurd h2 (by omega), fun _ => by omega⟩
      rw [if_neg (by omega)]
theorem fm_l3 (a2 : List Bool) (x y : List (List UInt8) × Int) : ∀ (m : Nat) (c i : Int), 0 ≤ i → ((y.1.length : Int) - i).toNat < m →
    ∃ c', bursarylaw14_FrameMixed_l3 a2 x y m c i = .brk c' ∧ c ≤ c' ∧ (c' = c ↔ ∀ j : Nat, i ≤ j → j < y.1.length → j < x.1.length → wb a2 j = false) := by
  intro m
  induction m with
  | zero => intro c i _ h; exact absurd h (Nat.not_lt_zero _)
  | succ m ih =>
    intro c i h0 hm
    rw [bursarylaw14_FrameMixed_l3, bnd_eq]
    cases d : (decide (i < (y.1.length : Int))) && (decide (i < (x.1.length : Int))) with
    | true =>
      rw [cond_true]
      simp only [Bool.and_eq_true, decide_eq_true_eq] at d
      have ei : ((i.toNat : Nat) : Int) = i := by omega
      cases w : (decide (i < (a2.length : Int))) && (a2.getD i.toNat false) with
      | true =>
        rw [cond_true]
        have wi : wb a2 i.toNat = true := by unfold wb; rw [ei]; exact w
        obtain ⟨c', e1, e2, e3⟩ := ih (c + 1) (i + 1) (by omega) (by omega)
        refine ⟨c', e1, by omega, fun h => absurd h (by omega), fun h => ?_⟩
        have := h i.toNat (by omega) (by omega) (by omega)
        rw [wi] at this; exact absurd this (by simp)
      | false =>
        rw [cond_false]
        have wi : wb a2 i.toNat = false := by unfold wb; rw [ei]; exact w
        obtain ⟨c', e1, e2, e3⟩ := ih c (i + 1) (by omega) (by omega)
        refine ⟨c', e1, by omega, ?_⟩
        rw [e3]
        refine ⟨fun h j h1 h2 h3 => ?_, fun h j h1 h2 h3 => h j (by omega) h2 h3⟩
        by_cases q : i.toNat = j
        · subst q; exact wi
        · exact h j (by omega) h2 h3
    | false =>
      rw [cond_false]
      refine ⟨c, rfl, Int.le_refl _, fun _ j h1 h2 h3 => ?_, fun _ => rfl⟩
      simp only [Bool.and_eq_false_iff, decide_eq_false_iff_not] at d
      omega
theorem split_form (s : UInt32) (b : List UInt8) (hs : s ≠ 0) (hb : b.length ≤ 900) : ∃ n : Nat, 1 ≤ n ∧ n ≤ 255 ∧ frame_Sectors (b.length : Int) = n ∧ (frame_Split s b).2 = 0 ∧ (frame_Split s b).1.length = n ∧ ∀ i, i < n → (frame_Split s b).1.getD i [] = sct s b n i := by
  have hp := sectors_pos (b.length : Int) (by omega) (by omega)
  have hf := sectors_fact (b.length : Int)
  obtain ⟨n, hn⟩ := Int.eq_ofNat_of_zero_le hf.1
  rw [split_eq, show ((s == 0) || (frame_Sectors (b.length : Int) == 0)) = false by simp [hs]; omega, cond_false, hn]
  refine ⟨n, by omega, by omega, rfl, rfl, by simp, fun i hi => ?_⟩
  show (List.map _ _).getD i [] = _
  rw [gD_range, if_pos (by omega)]
theorem take_drop_eq (l p : List (List UInt8)) (hl : p.length ≤ l.length) (h : ∀ i, i < p.length → l.getD i [] = p.getD i []) : l = p ++ l.drop p.length := by
  refine ext_gD [] (by rw [List.length_append, List.length_drop]; omega) (fun i _ => ?_)
  rw [gD_app]
  split
  · rename_i q; exact h i q
  · rw [gD_drop]; congr 1; omega
theorem b3_5 (a : List UInt8) (n i : Int) : (sct 5 a n i).getD 3 0 = 5 := by rw [sct3]; rfl
theorem b3_6 (a : List UInt8) (n i : Int) : (sct 6 a n i).getD 3 0 = 6 := by rw [sct3]; rfl
theorem frameMixed_true (a0 a1 : List UInt8) (a2 : List Bool) : bursarylaw14_FrameMixed a0 a1 a2 = true := by
  rw [bursarylaw14_FrameMixed]
  cases c : (decide ((a0.length : Int) > 900)) || (decide ((a1.length : Int) > 900)) with
  | true => rw [cond_true, sure14]
  | false =>
    rw [cond_false, bnd_eq, bnd_eq]
    simp only [Bool.or_eq_false_iff, decide_eq_false_iff_not] at c
    obtain ⟨nx, x1, x2, x3, x4, x5, x6⟩ := split_form 5 a0 (by decide) (by omega)
    obtain ⟨ny, y1, y2, y3, y4, y5, y6⟩ := split_form 6 a1 (by decide) (by omega)
    have backx := fun more => back 5 a0 more x4
    have backy := fun more => back 6 a1 more y4
    generalize frame_Split 5 a0 = x at *
    generalize frame_Split 6 a1 = y at *
    rw [x4, y4, show ((!(decide ((0 : Int) = 0))) || ((!(decide ((0 : Int) = 0))) || (((x.1.length : Int) == 0) || ((y.1.length : Int) == 0)))) = false by rw [x5, y5]; simp; omega, cond_false]
    rw [List.nil_append, fm_l1 _ _ _ (by omega)]
    show bursarylaw14_FrameMixed_k1 a0 a1 a2 x y _ = true
    rw [bursarylaw14_FrameMixed_k1]
    have hl0 : (x.1 ++ List.replicate (y.1.length - x.1.length) (List.replicate 64 (0 : UInt8))).length = nx + (ny - nx) := by rw [List.length_append, List.length_replicate, x5, y5]
    obtain ⟨cm, l, e1, e2, e3, e4, e5⟩ := fm_l2 a2 y (((y.1.length : Int) - (0 : Int)).toNat + 1) 0 0 (x.1 ++ List.replicate (y.1.length - x.1.length) (List.replicate 64 (0 : UInt8))) (by omega) (by omega) (by omega) (by rw [hl0, y5]; omega)
    rw [e1]
    show bursarylaw14_FrameMixed_k2 a0 a1 a2 x y cm l = true
    rw [bursarylaw14_FrameMixed_k2]
    obtain ⟨ov, g1, g2, g3⟩ := fm_l3 a2 x y (((y.1.length : Int) - (0 : Int)).toNat + 1) 0 0 (by omega) (by omega)
    rw [g1]
    show bursarylaw14_FrameMixed_k3 a0 a1 y cm l ov = true
    rw [bursarylaw14_FrameMixed_k3, bnd_eq, sure14]
    rw [hl0] at e2
    rw [y5] at e3 e4 e5 g3
    rw [x5] at g3
    -- what stands where
    have at_new : ∀ j : Nat, j < ny → wb a2 j = true → l.getD j [] = sct 6 a1 ny j := fun j h1 h2 => by
      rw [e3 j, if_pos ⟨by omega, h1, h2⟩, y6 j h1]
    have at_old : ∀ j : Nat, ¬ (j < ny ∧ wb a2 j = true) → j < nx → l.getD j [] = sct 5 a0 nx j := fun j h1 h2 => by
      rw [e3 j, if_neg (fun q => h1 ⟨q.2.1, q.2.2⟩), gD_app, if_pos (by omega), x6 j h2]
    have at_none : ∀ j : Nat, ¬ (j < ny ∧ wb a2 j = true) → nx ≤ j → (l.getD j []).getD 3 0 = 0 := fun j h1 h2 => by
      rw [e3 j, if_neg (fun q => h1 ⟨q.2.1, q.2.2⟩), gD_app, if_neg (by omega), gD_rep]
      split <;> rfl
    rw [y5]
    by_cases q : cm = ny
    · rw [show (cm == (ny : Int)) = true by simpa using q, cond_true]
      have hall := e5.1 (by omega)
      have el := take_drop_eq l y.1 (by omega) (fun i hi => by rw [at_new i (by omega) (hall i (by omega) (by omega)), y6 i (by omega)])
      rw [el, (backy _).1]
      simp
    · rw [show (cm == (ny : Int)) = false by simpa using q, cond_false]
      by_cases r : ov = 0
      · rw [show (ov == (0 : Int)) = true by simpa using r, cond_true]
        have hall := g3.1 r
        have el := take_drop_eq l x.1 (by omega) (fun i hi => by
          rw [at_old i (fun h => by rw [hall i (by omega) h.1 (by omega)] at h; simp at h) (by omega), x6 i (by omega)])
        rw [el, (backx _).1]
        simp
      · rw [show (ov == (0 : Int)) = false by simpa using r, cond_false]
        have hj : frame_Join l = (0, [], 0, 4) := by
          apply join_bad
          right
          intro ha
          by_cases w0 : 0 < ny ∧ wb a2 0 = true
          · have h0 := at_new 0 w0.1 w0.2
            have s6 : sq l = 6 := by rw [sq, h0, sct_seq]
            have n6 : nn l = ny := by rw [nn, h0, sct5, u8i_nat _ (by omega)]
            refine q ?_
            have := e5.2 (fun j _ h2 => by
              cases w : wb a2 j with
              | true => rfl
              | false =>
                have h3 := ha j (by omega)
                have h4 := congrArg (fun s => List.getD s 3 0) h3
                simp only [s6, b3_6] at h4
                by_cases k : j < nx
                · rw [at_old j (by rw [w]; simp) k, b3_5] at h4; exact absurd h4 (by decide)
                · rw [at_none j (by rw [w]; simp) (by omega)] at h4; exact absurd h4 (by decide))
            omega
          · have h0 := at_old 0 w0 (by omega)
            have s5 : sq l = 5 := by rw [sq, h0, sct_seq]
            have n5 : nn l = nx := by rw [nn, h0, sct5, u8i_nat _ (by omega)]
            refine r (g3.2 (fun j _ h2 h3 => ?_))
            cases w : wb a2 j with
            | false => rfl
            | true =>
              have h4 := ha j (by omega)
              have h5 := congrArg (fun s => List.getD s 3 0) h4
              simp only [s5, b3_5] at h5
              rw [at_new j h2 w, b3_6] at h5; exact absurd h5 (by decide)
        rw [hj]
        simp [bnd_eq]
end Go.Proofs.YtkomeflgnikflaaDoor

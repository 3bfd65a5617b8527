import Derived.Test.YtbppcnhfeobefaaDoorPD5
import Derived.Test.YtbppcnhfeobefaaDoorH10
set_option linter.unusedVariables false
set_option linter.unusedSimpArgs false
namespace Go.Proofs.YtbppcnhfeobefaaDoor
open Go Go.Vw Go.Proofs
theorem gset (s : Sc) (i : Nat) (x : List UInt8) (j : Nat) (hj : j < s.length) : (s.set i x).getD j [] = if i = j then x else s.getD j [] := by
  rw [List.getD_eq_getElem?_getD, List.getElem?_set, List.getD_eq_getElem?_getD]
  by_cases h : i = j
  · subst h; rw [if_pos rfl, if_pos rfl, if_pos hj]; rfl
  · rw [if_neg h, if_neg h]
theorem appW_get : ∀ (w : List Wr) (s : Sc) (j : Nat), (∀ x ∈ w, 0 ≤ x.1) → j < s.length → (appW s w).getD j [] = lastW (j : Int) w (s.getD j [])
  | [], _, _, _, _ => rfl
  | x :: w, s, j, h, hj => by
    have hx := h x List.mem_cons_self
    show (appW (set1 s x) w).getD j [] = lastW (j : Int) w (bif x.1 == (j : Int) then x.2 else s.getD j [])
    rw [appW_get w (set1 s x) j (fun y hy => h y (List.mem_cons_of_mem _ hy)) (by rw [set1_len]; exact hj)]
    congr 1
    show (s.set x.1.toNat x.2).getD j [] = _
    rw [gset _ _ _ _ hj]
    by_cases q : x.1 = (j : Int)
    · rw [if_pos (by omega), q, BEq.rfl, cond_true]
    · rw [if_neg (by omega), beq_false_of_ne q, cond_false]
theorem crW_snoc (keep : List Bool) (x : Wr) : ∀ (w : List Wr) (i : Nat) (s : Sc), crW keep i (w ++ [x]) s = bif keep.getD (i + w.length) false then set1 (crW keep i w s) x else crW keep i w s
  | [], i, s => by show (bif keep.getD i false then set1 s x else s) = _; rw [List.length_nil, Nat.add_zero]; rfl
  | y :: w, i, s => by
    show crW keep (i + 1) (w ++ [x]) _ = bif keep.getD (i + (w.length + 1)) false then _ else _
    rw [crW_snoc keep x w, show i + 1 + w.length = i + (w.length + 1) by omega]; rfl
noncomputable def wS (o : List UInt8) (j : Nat) : List UInt8 := bursarylaw13_sector [o.getD j 0]
theorem wS_set (o : List UInt8) (i : Nat) (v : UInt8) (j : Nat) (hj : j < o.length) : wS (o.set i v) j = if i = j then bursarylaw13_sector [v] else wS o j := by
  unfold wS
  rw [List.getD_eq_getElem?_getD, List.getElem?_set]
  by_cases h : i = j
  · subst h; rw [if_pos rfl, if_pos rfl, if_pos hj]; rfl
  · rw [if_neg h, if_neg h, List.getD_eq_getElem?_getD]
theorem idx_eq (b : UInt8) : ((((b % 8).toNat : Nat) : Int)).toNat = ((b.toNat : Int) % 8).toNat := by
  rw [UInt8.toNat_mod, show (8 : UInt8).toNat = 8 from rfl]; omega
theorem keeps_l1 (a0 : List UInt8) (S : Sc) (hS : S.length = 8) (e : Int) : ∀ (m : Nat) (t : Int) (w : List Wr) (o : List UInt8), 0 ≤ t → ((a0.length : Int) - t).toNat < m → o.length = 8 → (∀ x ∈ w, 0 ≤ x.1) → (∀ j : Nat, j < 8 → lastW (j : Int) w zS = wS o j) →
    ∃ w' o', bursarylaw13_DiskKeeps_l1 a0 ((S, [], 0, false), e) m t 0 false w o = .brk (0, false, w', o') ∧ o'.length = 8 ∧ (∀ x ∈ w', 0 ≤ x.1) ∧ (∀ j : Nat, j < 8 → lastW (j : Int) w' zS = wS o' j) := by
  intro m
  induction m with
  | zero => intro t w o _ h; omega
  | succ m ih =>
    intro t w o h0 hm ho hx hw
    rw [bursarylaw13_DiskKeeps_l1]
    by_cases hi : t < (a0.length : Int)
    · rw [decide_eq_true hi, cond_true, bnd_eq, bnd_eq]
      dsimp only
      rw [write_go (inR_mk (n := 8) hS (by omega) (by omega) (sec_len _)) rfl]
      have hi8 : ((a0.getD t.toNat 0).toNat : Int) % 8 < 8 ∧ 0 ≤ ((a0.getD t.toNat 0).toNat : Int) % 8 := by omega
      obtain ⟨w1, o1, e1, e2, e3, e4⟩ := ih (t + 1) (w ++ [(((a0.getD t.toNat 0).toNat : Int) % 8, bursarylaw13_sector [u8i (t + 1)])]) (o.set ((((a0.getD t.toNat 0) % 8).toNat : Int).toNat) (u8i (t + 1))) (by omega) (by omega) (by rw [List.length_set]; exact ho) (fun x hq => by
        rcases List.mem_append.1 hq with hq | hq
        · exact hx x hq
        · rw [List.mem_singleton.1 hq]; exact hi8.2) (fun j hj => by
        rw [lastW_snoc, wS_set _ _ _ _ (by omega), idx_eq]
        by_cases q : ((a0.getD t.toNat 0).toNat : Int) % 8 = (j : Int)
        · rw [if_pos (by omega), q, BEq.rfl, cond_true]
        · rw [if_neg (by omega), beq_false_of_ne q, cond_false]; exact hw j hj)
      exact ⟨w1, o1, e1, e2, e3, e4⟩
    · rw [decide_eq_false hi, cond_false]
      exact ⟨w, o, rfl, ho, hx, hw⟩
theorem keeps_l2 (a1 : List UInt8) (a2 : List Bool) (S : Sc) (hS : S.length = 8) (e : Int) (z : List Wr) (y : Int × Bool) : ∀ (m : Nat) (t : Int) (o : List UInt8) (w : List Wr), 0 ≤ t → t ≤ (a1.length : Int) → ((a1.length : Int) - t).toNat < m → o.length = 8 → (w.length : Int) = t → (∀ j : Nat, j < 8 → (crW a2 0 w S).getD j [] = wS o j) →
    ∃ o' w', bursarylaw13_DiskKeeps_l2 a1 a2 (e, (S, z, y)) m t 0 false o w = .brk (0, false, o', w') ∧ o'.length = 8 ∧ (w'.length : Int) = a1.length ∧ (∀ j : Nat, j < 8 → (crW a2 0 w' S).getD j [] = wS o' j) := by
  intro m
  induction m with
  | zero => intro t w o _ _ h; omega
  | succ m ih =>
    intro t o w h0 h1 hm ho hl hw
    rw [bursarylaw13_DiskKeeps_l2]
    by_cases hi : t < (a1.length : Int)
    · rw [decide_eq_true hi, cond_true, bnd_eq, bnd_eq]
      dsimp only
      rw [write_go (inR_mk (n := 8) hS (by omega) (by omega) (sec_len _)) rfl]
      have hi8 : ((a1.getD t.toNat 0).toNat : Int) % 8 < 8 ∧ 0 ≤ ((a1.getD t.toNat 0).toNat : Int) % 8 := by omega
      have hll : ((w ++ [(((a1.getD t.toNat 0).toNat : Int) % 8, bursarylaw13_sector [u8i (100 + t)])]).length : Int) = t + 1 := by rw [List.length_append]; simp; omega
      have hkk : (decide (t < (a2.length : Int)) && a2.getD t.toNat false) = a2.getD (0 + w.length) false := by
        rw [show 0 + w.length = t.toNat by omega]
        by_cases q : t < (a2.length : Int)
        · rw [decide_eq_true q, Bool.true_and]
        · rw [decide_eq_false q, Bool.false_and, gD_out _ _ _ (by omega)]
      rw [show decide ((0 : Int) = 0) = true from rfl, Bool.not_true, cond_false, hkk]
      have hc := crW_snoc a2 (((a1.getD t.toNat 0).toNat : Int) % 8, bursarylaw13_sector [u8i (100 + t)]) w 0 S
      cases hk : a2.getD (0 + w.length) false with
      | true =>
        rw [hk, cond_true] at hc
        rw [cond_true]
        exact ih (t + 1) _ _ (by omega) (by omega) (by omega) (by rw [List.length_set]; exact ho) hll (fun j hj => by
          rw [hc, wS_set _ _ _ _ (by omega), idx_eq]
          show ((crW a2 0 w S).set _ _).getD j [] = _
          rw [gset _ _ _ _ (by rw [crW_len, hS]; exact hj), hw j hj])
      | false =>
        rw [hk, cond_false] at hc
        rw [cond_false]
        exact ih (t + 1) _ _ (by omega) (by omega) (by omega) ho hll (fun j hj => by rw [hc]; exact hw j hj)
    · rw [decide_eq_false hi, cond_false]
      exact ⟨o, w, rfl, ho, by omega, hw⟩
theorem keeps_l3 (o : List UInt8) (S : Sc) (hS : S.length = 8) (hw : ∀ j : Nat, j < 8 → S.getD j [] = wS o j) : ∀ (m : Nat) (t : Int), 0 ≤ t → (8 - t).toNat < m →
    bursarylaw13_DiskKeeps_l3 o (S, [], 0, false) m t = .brk () := by
  intro m
  induction m with
  | zero => intro t _ h; omega
  | succ m ih =>
    intro t h0 hm
    rw [bursarylaw13_DiskKeeps_l3]
    by_cases hi : t < 8
    · rw [decide_eq_true hi, cond_true, bnd_eq, bnd_eq]
      dsimp only
      rw [read_go h0 (by rw [hS]; exact hi)]
      show (bif (false || (S.getD t.toNat [] != wS o t.toNat)) then _ else _) = _
      rw [hw _ (by omega), bne_self_eq_false]
      exact ih (t + 1) (by omega) (by omega)
    · rw [decide_eq_false hi, cond_false]
theorem sec0 : bursarylaw13_sector [0] = zS := by rw [bursarylaw13_sector]; rfl
theorem keeps_true (a0 a1 : List UInt8) (a2 : List Bool) : bursarylaw13_DiskKeeps a0 a1 a2 = true := by
  rw [bursarylaw13_DiskKeeps, bnd_eq, new_eq]
  have hr : (List.replicate (Int.toNat 8) zS).length = 8 := List.length_replicate
  have hz : ∀ j : Nat, j < 8 → (List.replicate (Int.toNat 8) zS).getD j [] = zS := fun j hj => by
    rw [gD_rep, if_pos (show j < Int.toNat 8 from hj)]
  generalize List.replicate (Int.toNat 8) zS = S at hr hz ⊢
  show (bif (false || (decide ((a0.length : Int) > 40) || decide ((a1.length : Int) > 40))) then bursarylaw13_sure else _) = true
  rw [Bool.false_or]
  cases decide ((a0.length : Int) > 40) || decide ((a1.length : Int) > 40) with
  | true => exact sure_true
  | false =>
    rw [cond_false]
    obtain ⟨w, o, e1, e2, e3, e4⟩ := keeps_l1 a0 S hr 0 (((a0.length : Int) - (0 : Int)).toNat + 1) 0 [] [0, 0, 0, 0, 0, 0, 0, 0] (Int.le_refl 0) (Nat.lt_succ_self _) rfl (fun x hx => absurd hx List.not_mem_nil) (fun j hj => by
      show zS = bursarylaw13_sector [_]
      rw [show ([0, 0, 0, 0, 0, 0, 0, 0] : List UInt8).getD j 0 = 0 by
        rcases j with _ | _ | _ | _ | _ | _ | _ | _ | j <;> first | rfl | omega, sec0])
    dsimp only
    rw [e1]
    show bursarylaw13_DiskKeeps_k1 a1 a2 ((S, [], 0, false), 0) 0 false w o = true
    rw [bursarylaw13_DiskKeeps_k1, bnd_eq]
    dsimp only
    rw [sync_go rfl]
    have hr2 : (appW S w).length = 8 := by rw [appW_len]; exact hr
    have hg2 : ∀ j : Nat, j < 8 → (appW S w).getD j [] = wS o j := fun j hj => by
      rw [appW_get w S j e3 (by omega), hz j hj]; exact e4 j hj
    generalize appW S w = S2 at hr2 hg2 ⊢
    rw [show decide ((0 : Int) = 0) = true from rfl, Bool.not_true, cond_false]
    obtain ⟨o2, w2, f1, f2, f3, f4⟩ := keeps_l2 a1 a2 S2 hr2 0 [] (stA 0, false) (((a1.length : Int) - (0 : Int)).toNat + 1) 0 o [] (Int.le_refl 0) (by omega) (Nat.lt_succ_self _) e2 rfl hg2
    show Lo.el (bursarylaw13_DiskKeeps_l2 a1 a2 (0, (S2, [], (stA 0, false))) _ 0 0 false o []) _ = true
    rw [f1]
    show bursarylaw13_DiskKeeps_k2 a1 a2 (0, (S2, [], (stA 0, false))) 0 false o2 w2 = true
    rw [bursarylaw13_DiskKeeps_k2, f3, bne_self_eq_false, cond_false, bnd_eq]
    dsimp only
    rw [crash_eq, keeps_l3 o2 (crW a2 0 w2 S2) (by rw [crW_len]; exact hr2) f4 _ 0 (Int.le_refl 0) (by decide)]
    show bursarylaw13_DiskKeeps_k3 (crW a2 0 w2 S2, [], 0, false) = true
    rw [bursarylaw13_DiskKeeps_k3, sure_true]; rfl
end Go.Proofs.YtbppcnhfeobefaaDoor

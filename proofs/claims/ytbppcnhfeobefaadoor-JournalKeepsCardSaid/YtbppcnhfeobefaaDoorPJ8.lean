import Derived.Test.YtbppcnhfeobefaaDoorFP9
import Derived.Test.YtbppcnhfeobefaaDoorPJs
import Derived.Test.YtbppcnhfeobefaaDoorJ7
set_option linter.unusedVariables false
namespace Go.Proofs.YtbppcnhfeobefaaDoor
open Go Go.Vw Go.Proofs
theorem seq64 {x : List UInt8} (h : x.length = 64) : (fr_Seq x).2 = 0 := by
 rw [fr_Seq, show ((x.length : Int) != 64) = false by rw [h]; rfl]; rfl
theorem secs_all {s : Sc} {N : Nat} (a : Int) (h : s.length = N) (h0 : 0 < N) : j_sectors s [] a false 0 (N : Int) = (s, 0, ((), (), (), ())) := by
 rw [secs_ok s [] a 0 (N : Int) (Int.le_refl 0) (by omega) (by omega)]
 have : (List.range ((N : Int) - 0).toNat).map (fun k : Nat => cur s [] (0 + (k : Int))) = s := by
  refine ext_gD [] (by rw [List.length_map, List.length_range]; omega) (fun i hi => ?_)
  rw [List.length_map, List.length_range] at hi
  rw [getD_range, if_pos hi]
  show s.getD (0 + (i : Int)).toNat [] = _
  rw [show (0 + (i : Int)).toNat = i by omega]
 rw [this]
theorem seen_l1 (s : Sc) (y : Int × (Unit × Unit × Unit × Unit)) (h64 : ∀ i : Nat, i < s.length → (s.getD i []).length = 64) : ∀ (m i : Nat) (M : UInt32), i ≤ s.length → s.length - i < m →
  ∃ M' : UInt32, j_Seen_l1 (s, y) m M (i : Int) = .brk M' ∧ M.toNat ≤ M'.toNat ∧ ∀ j : Nat, i ≤ j → j < s.length → sn (s.getD j []) ≤ M'.toNat := by
 intro m
 induction m with
 | zero => intro i M _ h; omega
 | succ m ih =>
  intro i M h1 h2
  rw [j_Seen_l1]
  by_cases q : i < s.length
  ·dsimp only
   rw [decide_eq_true (show (i : Int) < (s.length : Int) by omega), cond_true, bnd_eq, Int.toNat_natCast, seq64 (h64 i q), show decide ((0 : Int) = 0) = true from rfl, Bool.not_true, cond_false, show (i : Int) + 1 = ((i + 1 : Nat) : Int) by omega]
   obtain ⟨M', e1, e2, e3⟩ := ih (i + 1) (if (fr_Seq (s.getD i [])).1 > M then (fr_Seq (s.getD i [])).1 else M) (by omega) (by omega)
   refine ⟨M', e1, ?_, fun j hj hj2 => ?_⟩
   ·split at e2
    ·rename_i c
     have c : M < (fr_Seq (s.getD i [])).1 := c
     have := UInt32.lt_iff_toNat_lt.1 c; omega
    ·exact e2
   ·by_cases c : j = i
    ·subst c
     unfold sn
     split at e2
     ·exact e2
     ·rename_i c
      have : ¬ M.toNat < (fr_Seq (s.getD j [])).1.toNat := fun d => c (UInt32.lt_iff_toNat_lt.2 d)
      omega
    ·exact e3 j (by omega) hj2
  ·dsimp only
   rw [decide_eq_false (show ¬ (i : Int) < (s.length : Int) by omega), cond_false]
   exact ⟨M, rfl, Nat.le_refl _, fun j hj hj2 => by omega⟩
theorem seen_spec {s : Sc} (a : Int) (hl : s.length = 40) (h64 : ∀ i : Nat, i < 40 → (s.getD i []).length = 64) : ∃ M : UInt32, j_Seen s [] a false 0 40 = (M, 0, ((), (), (), ())) ∧ ∀ j : Nat, j < 40 → sn (s.getD j []) ≤ M.toNat := by
 obtain ⟨M, e1, _, e3⟩ := seen_l1 s (0, ((), (), (), ())) (fun i hi => h64 i (by omega)) (((s.length : Int) - (0 : Int)).toNat + 1) 0 0 (Nat.zero_le _) (by omega)
 refine ⟨M, ?_, fun j hj => e3 j (Nat.zero_le _) (by omega)⟩
 rw [j_Seen, bnd_eq, show (40 : Int) = ((40 : Nat) : Int) from rfl, secs_all a hl (by decide)]
 dsimp only
 rw [show decide ((0 : Int) = 0) = true from rfl, Bool.not_true, cond_false]
 rw [show (0 : Int) = ((0 : Nat) : Int) from rfl] at e1 ⊢
 rw [e1]
 show j_Seen_k1 M = _
 rw [j_Seen_k1]; rfl
theorem recs_of {s : Sc} {p : Nat} {lr : UInt32} {last : Nat} {R : List Rec} (h : Inv s p lr last R) : j_records s = (R, (p : Int)) := by
 rw [j_records]
 have := rch_run s R 0 0 p lr h.2.2.1 h.2.2.2.1 (Nat.zero_le _) (((s.length : Int) - (0 : Int)).toNat + 1) [] (by omega)
 rw [List.nil_append] at this
 exact this
theorem mxl_le {s : Sc} {p : Nat} {lr : UInt32} {last : Nat} {R : List Rec} (h : Inv s p lr last R) (M : UInt32) : lr.toNat ≤ (mxl R M).toNat ∧ M.toNat ≤ (mxl R M).toNat := by
 obtain ⟨_, _, c⟩ := rch_asc s R 0 0 p lr h.2.2.1
 unfold mxl
 rcases c with ⟨rfl, rfl⟩ | ⟨c1, c2⟩
 ·exact ⟨Nat.zero_le _, Nat.le_refl _⟩
 ·rw [decide_eq_true (show (R.length : Int) > 0 by omega), cond_true, show ((R.length : Int) - 1).toNat = R.length - 1 by omega, c2]
  split
  ·rename_i d
   have d : M < lr := d
   have := UInt32.lt_iff_toNat_lt.1 d; exact ⟨Nat.le_refl _, by omega⟩
  ·rename_i d
   have : ¬ M.toNat < lr.toNat := fun e => d (UInt32.lt_iff_toNat_lt.2 e)
   exact ⟨by omega, Nat.le_refl _⟩
theorem look_l2 (x : (Unit × Int × Int × UInt32) × List Rec × Int × (Unit × Unit × Unit × Unit)) (hR : ∀ n : Nat, n + 1 < x.2.1.length → (x.2.1.getD n zR2).1.toNat < (x.2.1.getD (n + 1) zR2).1.toNat) : ∀ (m i : Nat), x.2.1.length - i < m →
  b5K_l2 x (x.2.1.map Prod.snd) m (i : Int) = .brk () := by
 intro m
 induction m with
 | zero => intro i h; omega
 | succ m ih =>
  intro i hm
  rw [b5K_l2]
  by_cases q : i < x.2.1.length
  ·have e1 : (x.2.1.map Prod.snd).getD i [] = (x.2.1.getD i zR2).2 := by
    rw [List.getD_eq_getElem?_getD, List.getElem?_map, List.getD_eq_getElem?_getD, List.getElem?_eq_getElem q]; rfl
   rw [decide_eq_true (show (i : Int) < (x.2.1.length : Int) by omega), cond_true, Int.toNat_natCast, e1, bne_self_eq_false, Bool.false_or]
   have e2 : ((decide ((i : Int) > 0)) && (decide (((x.2.1.getD i zR2).1) ≤ ((x.2.1.getD (((i : Int) - 1).toNat) zR2).1)))) = false := by
    cases i with
    | zero => rfl
    | succ i =>
     have := hR i q
     rw [show (((i + 1 : Nat) : Int) - 1).toNat = i by omega, decide_eq_false (show ¬ ((x.2.1.getD (i + 1) zR2).1 ≤ (x.2.1.getD i zR2).1) from fun c => by have := UInt32.le_iff_toNat_le.1 c; omega), Bool.and_false]
   rw [e2, cond_false, show (i : Int) + 1 = ((i + 1 : Nat) : Int) by omega]
   exact ih (i + 1) (by omega)
  ·rw [decide_eq_false (show ¬ (i : Int) < (x.2.1.length : Int) by omega), cond_false]
theorem look_l23 (x : (Unit × Int × Int × UInt32) × List Rec × Int × (Unit × Unit × Unit × Unit)) (o : Sc) : ∀ (m : Nat) (i : Int), b5K_l3 x o m i = b5K_l2 x o m i := by
 intro m
 induction m with
 | zero => intro i; rw [b5K_l3, b5K_l2]
 | succ m ih => intro i; rw [b5K_l3, b5K_l2, ih]
theorem app_cases {s : Sc} {p : Nat} {lr : UInt32} {last : UInt32} {R : List Rec} (h : Inv s p lr last.toNat R) (hp : p ≤ 40) (a : Int) (ha : 0 ≤ a) (b : List UInt8) (hb : b.length ≤ 300) :
  (jJAppend ((s, [], a, false), (p : Int), 40, last) b = (6, ((s, [], a, false), (p : Int), 40, last))) ∨
  (∃ (s' : Sc) (p' : Nat) (a' : Int), jJAppend ((s, [], a, false), (p : Int), 40, last) b = (0, ((s', [], a', false), (p' : Int), 40, last + 1)) ∧ 0 ≤ a' ∧ p' ≤ 40 ∧ Inv s' p' (last + 1) (last + 1).toNat (R ++ [(last + 1, b)])) ∨
  (∃ (w : List Wr) (a' : Int), jJAppend ((s, [], a, false), (p : Int), 40, last) b = (23, ((s, w, a', true), (p : Int), 40, last)) ∧ ∀ keep : List Bool, ∃ (p' : Nat) (lr' : UInt32) (R' : List Rec), p' ≤ 40 ∧ (R' = R ∨ R' = R ++ [(last + 1, b)]) ∧ Inv (crW keep 0 w s) p' lr' (last + 1).toNat R') := by
 rw [append_eq _ _ (by show (0 : Int) ≤ (p : Int); omega) (by show (40 : Int) ≤ (s.length : Int); rw [h.1]; decide)]
 dsimp only
 rw [decide_eq_false (show ¬ (b.length : Int) > 14280 by omega), cond_false]
 cases hf : (last == 4294967295) || (decide ((40 : Int) - (p : Int) < fr_Sectors (b.length : Int))) with
 | true => exact .inl rfl
 | false =>
  rw [cond_false]
  obtain ⟨f1, f2⟩ := Bool.or_eq_false_iff.1 hf
  have f2 := of_decide_eq_false f2
  have hq := u32_next f1
  obtain ⟨e1, e2, e3⟩ := sp_ok (last + 1) b (u32_ne f1) (by omega)
  obtain ⟨k, k1, k2, k3, k6⟩ := wrA_spec (SP (last + 1) b) (p : Int) [] a
  have hA : ∀ l (p : Int) w (a : Int) d, 0 ≤ a → 0 ≤ (wrA p l w a d).2.2.1 := by
   intro l
   induction l with
   | nil => intro p w a d h; exact h
   | cons x l ih =>
    intro p w a d h
    have hs : 0 ≤ stA a := by unfold stA; split <;> omega
    rw [wrA]
    cases stD a d with
    | true => exact hs
    | false => exact ih _ _ _ _ hs
  have hA := hA (SP (last + 1) b) (p : Int) [] a false ha
  rw [List.nil_append] at k2
  generalize wrA (p : Int) (SP (last + 1) b) [] a false = r at k2 k3 k6 hA ⊢
  have hcr : ∀ keep : List Bool, ∃ (p' : Nat) (lr' : UInt32) (R' : List Rec), p' ≤ 40 ∧ (R' = R ∨ R' = R ++ [(last + 1, b)]) ∧ Inv (crW keep 0 r.2.1 s) p' lr' (last + 1).toNat R' := fun keep => by
   rw [k2]
   rcases inv_crash h (q := last + 1) (b := b) (by omega) (by omega) (by omega) keep k k1 with c | c
   ·exact ⟨_, _, _, by omega, .inr rfl, c⟩
   ·exact ⟨_, _, _, hp, .inl rfl, c⟩
  cases hr : r.1 with
  | false => 
   exact .inr (.inr ⟨r.2.1, r.2.2.1, by rw [cond_false, k6 hr], hcr⟩)
  | true =>
   obtain ⟨k4, k5⟩ := k3 hr
   cases hd : stD r.2.2.1 r.2.2.2 with
   | true => exact .inr (.inr ⟨r.2.1, stA r.2.2.1, rfl, hcr⟩)
   | false =>
    refine .inr (.inl ⟨appW s r.2.1, p + (SP (last + 1) b).length, stA r.2.2.1, ?_, by unfold stA; split <;> omega, by omega, ?_⟩)
    ·rw [cond_true, cond_false]
     congr 3
     omega
    ·rw [k2, k4, List.take_length]; exact inv_app h (by omega) (by omega) (by omega)
end Go.Proofs.YtbppcnhfeobefaaDoor
namespace Go.Proofs.YtbppcnhfeobefaaDoor
open Go Go.Vw Go.Proofs
theorem bnd_cut {φ β : Type} {F : φ} {K : φ → β} {P : β → Prop} (Q : φ → Prop) (h : Q F) (hK : ∀ f, Q f → P (K f)) : P (bnd F K) := hK F h
theorem arm5 {s : Sc} {w : List Wr} {a : Int} {d : Bool} {n : Int} (h : 0 ≤ n) : dDArm s w a d n = (0, ((), (), n, d)) := by
 rw [dDArm, decide_eq_false (show ¬ n < 0 by omega), cond_false]
theorem jkeeps_l1 (a0 : List (Int × Int × List UInt8 × List Bool)) : ∀ (m : Nat) (t : Int) (a : Int) (s : Sc) (p : Nat) (lr last : UInt32) (R : List Rec), Inv s p lr last.toNat R → 0 ≤ a → p ≤ 40 → 0 ≤ t → ((a0.length : Int) - t).toNat < m →
  ∃ r, b5K_l1 a0 m t a false s [] (p : Int) 40 last (R.map Prod.snd) = .brk r := by
 intro m
 induction m with
 | zero => intro t a s p lr last R _ _ _ _ h; omega
 | succ m ih =>
  intro t a s p lr last R hI ha hp h0 hm
  rw [b5K_l1]
  by_cases hi : t < (a0.length : Int)
  ·rw [decide_eq_true hi, Bool.true_and]
   cases decide (t < 20) with
   | false => rw [cond_false]; exact ⟨_, rfl⟩
   | true =>
    rw [cond_true]
    generalize aX a0 t = x
    cases hx : (decide ((x.2.2.1.length : Int) > 300)) || (decide ((x.2.2.2.length : Int) > 100)) with
    | true => rw [cond_true]; exact ih (t + 1) a s p lr last R hI ha hp (by omega) (by omega)
    | false =>
     have hB : x.2.2.1.length ≤ 300 := by have := of_decide_eq_false (Bool.or_eq_false_iff.1 hx).1; omega
     rw [cond_false]
     cases (Int.tmod x.1 3) == 0 with
     | true =>
      rw [cond_true, bnd_eq, arm5 (by omega)]
      dsimp only
      rw [show decide ((0 : Int) = 0) = true from rfl, Bool.not_true, cond_false]
      generalize hA : 1 + (((u64i x.2.1) % 8).toNat : Int) = A
      have hA0 : 0 ≤ A := by omega
      rcases app_cases hI hp A hA0 x.2.2.1 hB with e | ⟨s2, p2, a2, e, ha2, hp2, hI2⟩ | ⟨w2, a2, e, hcr⟩
      ·rw [bnd_eq, e]
       refine bnd_cut (P := fun z => ∃ r, z = Lo.brk r) (fun f => ∃ r, f (R.map Prod.snd) = Lo.brk r) ?_ ?_
       ·dsimp only
        rw [bnd_eq, bnd_eq, show ((id (6 : Int)) != 23) = true from rfl, cond_true, show ((id (6 : Int)) != 6) = false from rfl, Bool.and_false, cond_false]
        exact ih (t + 1) A s p lr last R hI hA0 hp (by omega) (by omega)
       ·intro f hf
        dsimp only
        rw [show decide ((6 : Int) = 0) = false from rfl, cond_false]; exact hf
      ·rw [bnd_eq, e]
       refine bnd_cut (P := fun z => ∃ r, z = Lo.brk r) (fun f => ∃ r, f (R.map Prod.snd ++ [x.2.2.1]) = Lo.brk r) ?_ ?_
       ·dsimp only
        rw [bnd_eq, bnd_eq, show ((id (0 : Int)) != 23) = true from rfl, cond_true, show decide ((0 : Int) = 0) = true from rfl, Bool.not_true, Bool.false_and, cond_false]
        have := ih (t + 1) a2 s2 p2 (last + 1) (last + 1) _ hI2 ha2 hp2 (by omega) (by omega)
        rw [List.map_append] at this
        exact this
       ·intro f hf
        dsimp only
        rw [show decide ((0 : Int) = 0) = true from rfl, cond_true]; exact hf
      ·rw [bnd_eq, e]
       refine bnd_cut (P := fun z => ∃ r, z = Lo.brk r) (fun f => ∃ r, f (R.map Prod.snd) = Lo.brk r) ?_ ?_
       ·dsimp only
        rw [bnd_eq, show ((id (23 : Int)) != 23) = false from rfl, cond_false, bnd_eq, crash_eq]
        obtain ⟨p3, lr3, R3, hp3, hR3, hI3⟩ := hcr x.2.2.2
        dsimp only
        obtain ⟨M, hM, hM2⟩ := seen_spec 0 hI3.1 hI3.2.1
        have hsec : j_sectors (crW x.2.2.2 0 w2 s) [] 0 false 0 40 = (crW x.2.2.2 0 w2 s, 0, ((), (), (), ())) := secs_all (N := 40) 0 hI3.1 (by decide)
        have hml := mxl_le hI3 M
        have hI4 := inv_last hI3 (L := (mxl R3 M).toNat) (fun i hi => Nat.le_trans (hM2 i hi) hml.2) hml.1
        have hasc := (rch_asc _ R3 0 0 p3 lr3 hI3.2.2.1).2.1
        rw [bnd_eq, hM, hsec]
        dsimp only
        rw [show decide ((0 : Int) = 0) = true from rfl, cond_true, bnd_eq, open_eq, hsec]
        dsimp only
        rw [recs_of hI3, Int.zero_add]
        dsimp only
        rw [show decide ((0 : Int) = 0) = true from rfl, Bool.not_true, Bool.false_or, Bool.false_or]
        have hlen : R3.length = R.length ∨ R3.length = R.length + 1 := by rcases hR3 with c | c <;> rw [c] <;> simp
        rw [List.length_map, decide_eq_false (show ¬ (R3.length : Int) < (R.length : Int) by omega), decide_eq_false (show ¬ (R3.length : Int) > (R.length : Int) + 1 by omega), Bool.or_false, cond_false]
        refine bnd_cut (P := fun z => ∃ r, z = Lo.brk r) (fun f => ∃ r, f (R3.map Prod.snd) = Lo.brk r) ?_ ?_
        ·skip
         have hlk : b5K_l2 (((), (p3 : Int), 40, mxl R3 M), R3, 0, ((), (), (), ())) (R3.map Prod.snd) (((R3.length : Int) - (0 : Int)).toNat + 1) 0 = .brk () := look_l2 (((), (p3 : Int), 40, mxl R3 M), R3, 0, ((), (), (), ())) hasc _ 0 (by show R3.length - 0 < _; omega)
         rw [hlk]
         exact ih (t + 1) 0 _ p3 lr3 (mxl R3 M) R3 hI4 (Int.le_refl 0) hp3 (by omega) (by omega)
        ·intro f hf
         rcases hR3 with c | c
         ·rw [c] at hf ⊢
          rw [decide_eq_false (show ¬ (R.length : Int) > (R.length : Int) by omega), cond_false]; exact hf
         ·rw [decide_eq_true (show (R3.length : Int) > (R.length : Int) by rw [c]; simp; omega), cond_true]
          rw [c, List.map_append] at hf; exact hf
       ·intro f hf
        dsimp only
        rw [show decide ((23 : Int) = 0) = false from rfl, cond_false]; exact hf
     | false =>
      rw [cond_false]
      rcases app_cases hI hp a ha x.2.2.1 hB with e | ⟨s2, p2, a2, e, ha2, hp2, hI2⟩ | ⟨w2, a2, e, hcr⟩
      ·rw [bnd_eq, e]
       refine bnd_cut (P := fun z => ∃ r, z = Lo.brk r) (fun f => ∃ r, f (R.map Prod.snd) = Lo.brk r) ?_ ?_
       ·dsimp only
        rw [bnd_eq, bnd_eq, show ((id (6 : Int)) != 23) = true from rfl, cond_true, show ((id (6 : Int)) != 6) = false from rfl, Bool.and_false, cond_false]
        exact ih (t + 1) a s p lr last R hI ha hp (by omega) (by omega)
       ·intro f hf
        dsimp only
        rw [show decide ((6 : Int) = 0) = false from rfl, cond_false]; exact hf
      ·rw [bnd_eq, e]
       refine bnd_cut (P := fun z => ∃ r, z = Lo.brk r) (fun f => ∃ r, f (R.map Prod.snd ++ [x.2.2.1]) = Lo.brk r) ?_ ?_
       ·dsimp only
        rw [bnd_eq, bnd_eq, show ((id (0 : Int)) != 23) = true from rfl, cond_true, show decide ((0 : Int) = 0) = true from rfl, Bool.not_true, Bool.false_and, cond_false]
        have := ih (t + 1) a2 s2 p2 (last + 1) (last + 1) _ hI2 ha2 hp2 (by omega) (by omega)
        rw [List.map_append] at this
        exact this
       ·intro f hf
        dsimp only
        rw [show decide ((0 : Int) = 0) = true from rfl, cond_true]; exact hf
      ·rw [bnd_eq, e]
       refine bnd_cut (P := fun z => ∃ r, z = Lo.brk r) (fun f => ∃ r, f (R.map Prod.snd) = Lo.brk r) ?_ ?_
       ·dsimp only
        rw [bnd_eq, show ((id (23 : Int)) != 23) = false from rfl, cond_false, bnd_eq, crash_eq]
        obtain ⟨p3, lr3, R3, hp3, hR3, hI3⟩ := hcr x.2.2.2
        dsimp only
        obtain ⟨M, hM, hM2⟩ := seen_spec 0 hI3.1 hI3.2.1
        have hsec : j_sectors (crW x.2.2.2 0 w2 s) [] 0 false 0 40 = (crW x.2.2.2 0 w2 s, 0, ((), (), (), ())) := secs_all (N := 40) 0 hI3.1 (by decide)
        have hml := mxl_le hI3 M
        have hI4 := inv_last hI3 (L := (mxl R3 M).toNat) (fun i hi => Nat.le_trans (hM2 i hi) hml.2) hml.1
        have hasc := (rch_asc _ R3 0 0 p3 lr3 hI3.2.2.1).2.1
        rw [bnd_eq, hM, hsec]
        dsimp only
        rw [show decide ((0 : Int) = 0) = true from rfl, cond_true, bnd_eq, open_eq, hsec]
        dsimp only
        rw [recs_of hI3, Int.zero_add]
        dsimp only
        rw [show decide ((0 : Int) = 0) = true from rfl, Bool.not_true, Bool.false_or, Bool.false_or]
        have hlen : R3.length = R.length ∨ R3.length = R.length + 1 := by rcases hR3 with c | c <;> rw [c] <;> simp
        rw [List.length_map, decide_eq_false (show ¬ (R3.length : Int) < (R.length : Int) by omega), decide_eq_false (show ¬ (R3.length : Int) > (R.length : Int) + 1 by omega), Bool.or_false, cond_false]
        refine bnd_cut (P := fun z => ∃ r, z = Lo.brk r) (fun f => ∃ r, f (R3.map Prod.snd) = Lo.brk r) ?_ ?_
        ·skip
         rw [look_l23]
         have hlk : b5K_l2 (((), (p3 : Int), 40, mxl R3 M), R3, 0, ((), (), (), ())) (R3.map Prod.snd) (((R3.length : Int) - (0 : Int)).toNat + 1) 0 = .brk () := look_l2 (((), (p3 : Int), 40, mxl R3 M), R3, 0, ((), (), (), ())) hasc _ 0 (by show R3.length - 0 < _; omega)
         rw [hlk]
         exact ih (t + 1) 0 _ p3 lr3 (mxl R3 M) R3 hI4 (Int.le_refl 0) hp3 (by omega) (by omega)
        ·intro f hf
         rcases hR3 with c | c
         ·rw [c] at hf ⊢
          rw [decide_eq_false (show ¬ (R.length : Int) > (R.length : Int) by omega), cond_false]; exact hf
         ·rw [decide_eq_true (show (R3.length : Int) > (R.length : Int) by rw [c]; simp; omega), cond_true]
          rw [c, List.map_append] at hf; exact hf
       ·intro f hf
        dsimp only
        rw [show decide ((23 : Int) = 0) = false from rfl, cond_false]; exact hf
  ·rw [decide_eq_false hi, Bool.false_and, cond_false]; exact ⟨_, rfl⟩
theorem jkeeps_true (a0 : List (Int × Int × List UInt8 × List Bool)) : b5K a0 = true := by
 rw [b5K, bnd_eq, new_eq]
 have hr : (List.replicate (Int.toNat 40) zS).length = 40 := List.length_replicate
 have hz : ∀ i : Nat, i < 40 → (List.replicate (Int.toNat 40) zS).getD i [] = zS := fun i hi => by rw [gD_rep, if_pos (show i < Int.toNat 40 from hi)]
 have hsn : sn zS = 0 := by unfold sn; rw [fr_Seq]; rfl
 have hI : Inv (List.replicate (Int.toNat 40) zS) 0 0 (0 : UInt32).toNat [] := by
  refine ⟨hr, fun i hi => by rw [hz i hi]; exact List.length_replicate, ⟨rfl, rfl⟩, ?_, Nat.le_refl _, fun i hi => by rw [hz i hi, hsn]; exact Nat.le_refl _, fun i _ hi => .inr (by rw [hz i hi, hsn])⟩
  intro q b n h
  obtain ⟨k1, k2, k3, k4, k5⟩ := jn_of _ _ _ _ h
  have k6 := k5 0 (by omega)
  rw [drop_gD, hz _ (by omega)] at k6
  have := congrArg sn k6
  rw [hsn, sn_sct] at this
  rw [← this]; exact Nat.le_refl _
 generalize List.replicate (Int.toNat 40) zS = S at hr hI ⊢
 dsimp only
 rw [show decide ((0 : Int) = 0) = true from rfl, Bool.not_true, cond_false, hr]
 rw [show (decide ((0 : Nat) < 0)) = false from rfl, show (decide ((0 : Nat) ≥ 40)) = false from rfl, show (decide ((40 : Int) > ((40 : Nat) : Int))) = false from rfl, Bool.or_false, Bool.or_false, cond_false, cond_false, bnd_eq, start_ok]
 dsimp only
 rw [show decide ((0 : Int) = 0) = true from rfl, Bool.not_true, cond_false]
 obtain ⟨r, e⟩ := jkeeps_l1 a0 (((a0.length : Int) - (0 : Int)).toNat + 1) 0 0 S 0 0 0 [] hI (Int.le_refl 0) (Nat.zero_le _) (Int.le_refl 0) (Nat.lt_succ_self _)
 rw [List.map_nil, show (((0 : Nat) : Int)) = 0 from rfl] at e
 rw [e]
 show b5K_k1 _ _ _ _ _ _ _ _ = true
 rw [b5K_k1, sure15]
end Go.Proofs.YtbppcnhfeobefaaDoor

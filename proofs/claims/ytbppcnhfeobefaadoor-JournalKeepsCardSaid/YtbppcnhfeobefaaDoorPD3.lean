import Derived.Test.YtbppcnhfeobefaaDoorIt2
import Derived.Test.YtbppcnhfeobefaaDoorH4b
import Derived.Test.YtbppcnhfeobefaaDoorH5
import Derived.Test.YtbppcnhfeobefaaDoorH7
set_option linter.unusedVariables false
namespace Go.Proofs.YtbppcnhfeobefaaDoor
open Go Go.Vw Go.Proofs
abbrev Sc : Type := tLB
def stA (a : Int) : Int := if a > 0 then a - 1 else a
def stD (a : Int) (d : Bool) : Bool := d || (a == 1)
theorem step_eq (d0 : Sc) (d1 : List Wr) (d2 : Int) (d3 : Bool) : dDstep d0 d1 d2 d3 = (if stD d2 d3 then 23 else 0, ((), (), stA d2, stD d2 d3)) := by
 rw [dDstep]
 unfold stA stD
 by_cases h : d2 > 0
 ·rw [decide_eq_true h, cond_true, if_pos h]
  cases d3 with
  | true => rw [cond_true]; rfl
  | false =>
   rw [cond_false]
   by_cases q : d2 = 1
   ·subst q; rfl
   ·rw [show (d2 - 1 == 0) = false by rw [beq_eq_false_iff_ne]; omega, cond_false, show (d2 == 1) = false by rw [beq_eq_false_iff_ne]; exact q]; rfl
 ·rw [decide_eq_false h, cond_false, if_neg h, show (d2 == 1) = false by rw [beq_eq_false_iff_ne]; omega, Bool.or_false]
  cases d3 <;> rfl
theorem stA_ok {a : Int} (h : 0 ≤ a ∧ a ≤ 9223372036854775807) : 0 ≤ stA a ∧ stA a ≤ 9223372036854775807 := by unfold stA; split <;> omega
def set1 (s : Sc) (x : Wr) : Sc := s.set x.1.toNat x.2
def appW (s : Sc) (w : List Wr) : Sc := w.foldl set1 s
def crW (keep : List Bool) : Nat → List Wr → Sc → Sc
 | _, [], s => s
 | i, x :: w, s => crW keep (i + 1) w (bif keep.getD i false then set1 s x else s)
theorem set1_len (s : Sc) (x : Wr) : (set1 s x).length = s.length := List.length_set
theorem appW_len : ∀ (w : List Wr) (s : Sc), (appW s w).length = s.length
 | [], _ => rfl
 | x :: w, s => by show (appW (set1 s x) w).length = _; rw [appW_len w, set1_len]
theorem crW_len (keep : List Bool) : ∀ (w : List Wr) (i : Nat) (s : Sc), (crW keep i w s).length = s.length
 | [], _, _ => rfl
 | x :: w, i, s => by
  rw [crW, crW_len keep w]
  cases keep.getD i false with
  | true => exact set1_len s x
  | false => rfl
theorem set64 {s : Sc} (h : ∀ j : Nat, (s.getD j []).length ≤ 64) {x : List UInt8} (hx : x.length ≤ 64) (i : Nat) : ∀ j : Nat, ((s.set i x).getD j []).length ≤ 64 := by
 intro j; rw [gD_set]; split
 ·exact hx
 ·exact h j
theorem gw_tail {x : Wr} {w : List Wr} (h : ∀ j : Nat, ((x :: w).getD j (0, [])).2.length ≤ 64) : ∀ j : Nat, (w.getD j (0, [])).2.length ≤ 64 := fun j => h (j + 1)
theorem appW_64 : ∀ (w : List Wr) (s : Sc), (∀ j : Nat, (s.getD j []).length ≤ 64) → (∀ j : Nat, (w.getD j (0, [])).2.length ≤ 64) → ∀ j : Nat, ((appW s w).getD j []).length ≤ 64
 | [], _, h, _ => h
 | x :: w, s, h, hw => appW_64 w (set1 s x) (set64 h (hw 0) _) (gw_tail hw)
theorem crW_64 (keep : List Bool) : ∀ (w : List Wr) (i : Nat) (s : Sc), (∀ j : Nat, (s.getD j []).length ≤ 64) → (∀ j : Nat, (w.getD j (0, [])).2.length ≤ 64) → ∀ j : Nat, ((crW keep i w s).getD j []).length ≤ 64
 | [], _, _, h, _ => h
 | x :: w, i, s, h, hw => by
  rw [crW]
  refine crW_64 keep w (i + 1) _ ?_ (gw_tail hw)
  cases keep.getD i false with
  | true => exact set64 h (hw 0) _
  | false => exact h
theorem sync_l1 (d1 : List Wr) : ∀ (m i : Nat) (o : Sc), i ≤ d1.length → d1.length - i < m → dDSync_l1 d1 m (i : Int) o = .brk (appW o (d1.drop i))
 | 0, _, _, _, h => absurd h (Nat.not_lt_zero _)
 | m + 1, i, o, h1, h2 => by
  rw [dDSync_l1]
  by_cases c : i < d1.length
  ·rw [decide_eq_true (by omega : (i : Int) < (d1.length : Int)), cond_true, Int.toNat_natCast]
   have w := sync_l1 d1 m (i + 1) (set1 o (d1.getD i (0, []))) (by omega) (by omega)
   rw [Int.natCast_add i 1] at w
   refine w.trans ?_
   rw [drop_cons d1 i (0, []) c]; rfl
  ·rw [decide_eq_false (by omega : ¬ (i : Int) < (d1.length : Int)), cond_false, List.drop_of_length_le (by omega)]; rfl
theorem sync_eq (d0 : Sc) (d1 : List Wr) (d2 : Int) (d3 : Bool) : dDSync d0 d1 d2 d3 = bif stD d2 d3 then (23, (d0, d1, stA d2, stD d2 d3)) else (0, (appW d0 d1, [], stA d2, stD d2 d3)) := by
 rw [dDSync, bnd_eq, step_eq]
 cases h : stD d2 d3 with
 | true => rfl
 | false =>
  rw [cond_false]
  show Lo.el (dDSync_l1 d1 _ ((0 : Nat) : Int) d0) _ = _
  rw [sync_l1 d1 _ 0 _ (Nat.zero_le _) (by omega), List.drop_zero]
  show dDSync_k1 _ _ = _
  rw [dDSync_k1]
theorem crash_l1 (d1 : List Wr) (keep : List Bool) : ∀ (m i : Nat) (o : Sc), i ≤ d1.length → d1.length - i < m → dDCrash_l1 d1 keep m (i : Int) o = .brk (crW keep i (d1.drop i) o)
 | 0, _, _, _, h => absurd h (Nat.not_lt_zero _)
 | m + 1, i, o, h1, h2 => by
  rw [dDCrash_l1]
  by_cases c : i < d1.length
  ·rw [decide_eq_true (by omega : (i : Int) < (d1.length : Int)), cond_true, Int.toNat_natCast, drop_cons d1 i (0, []) c, crW]
   have e : ((decide ((i : Int) < (keep.length : Int))) && (keep.getD i false)) = keep.getD i false := by
    by_cases q : i < keep.length
    ·rw [decide_eq_true (by omega : (i : Int) < (keep.length : Int)), Bool.true_and]
    ·rw [gD_out _ _ _ (by omega), Bool.and_false]
   rw [e]
   cases keep.getD i false with
   | true =>
    rw [cond_true, cond_true]
    have w := crash_l1 d1 keep m (i + 1) (set1 o (d1.getD i (0, []))) (by omega) (by omega)
    rw [Int.natCast_add i 1] at w
    exact w
   | false =>
    rw [cond_false, cond_false]
    have w := crash_l1 d1 keep m (i + 1) o (by omega) (by omega)
    rw [Int.natCast_add i 1] at w
    exact w
  ·rw [decide_eq_false (by omega : ¬ (i : Int) < (d1.length : Int)), cond_false, List.drop_of_length_le (by omega)]; rfl
theorem crash_eq (d0 : Sc) (d1 : List Wr) (d2 : Int) (d3 : Bool) (keep : List Bool) : dDCrash d0 d1 d2 d3 keep = (crW keep 0 d1 d0, [], 0, false) := by
 rw [dDCrash]
 show Lo.el (dDCrash_l1 d1 keep _ ((0 : Nat) : Int) d0) _ = _
 rw [crash_l1 d1 keep _ 0 _ (Nat.zero_le _) (by omega), List.drop_zero]
 show dDCrash_k1 _ = _
 rw [dDCrash_k1]
def inR (d0 : Sc) (i : Int) (b : List UInt8) : Bool := ((decide (i ≥ 0)) && (decide (i < (d0.length : Int)))) && ((b.length : Int) == 64)
theorem inR_not (d0 : Sc) (i : Int) (b : List UInt8) : ((!((decide (i ≥ 0)) && (decide (i < (d0.length : Int))))) || ((b.length : Int) != 64)) = !inR d0 i b := by
 unfold inR; simp only [bne]
 generalize ((b.length : Int) == 64) = q
 cases decide (i ≥ 0) <;> cases decide (i < (d0.length : Int)) <;> cases q <;> rfl
theorem write_eq (d0 : Sc) (d1 : List Wr) (d2 : Int) (d3 : Bool) (i : Int) (b : List UInt8) : dDWrite d0 d1 d2 d3 i b = bif inR d0 i b then (bif stD d2 d3 then (23, ((), d1, stA d2, stD d2 d3)) else (0, ((), d1 ++ [(i, b)], stA d2, stD d2 d3))) else (1, ((), d1, d2, d3)) := by
 rw [dDWrite, inR_not]
 cases inR d0 i b with
 | false => rfl
 | true =>
  rw [Bool.not_true, cond_false, cond_true, bnd_eq, step_eq]
  cases h : stD d2 d3 <;> rfl
theorem tamper_eq (d0 : Sc) (d1 : List Wr) (d2 : Int) (d3 : Bool) (i : Int) (b : List UInt8) : dDTamper d0 d1 d2 d3 i b = bif inR d0 i b then (0, (set1 d0 (i, b), d1.filter (fun w => w.1 != i), d2, d3)) else (1, (d0, d1, d2, d3)) := by
 rw [dDTamper, inR_not]
 cases inR d0 i b with
 | false => rfl
 | true => rw [Bool.not_true, cond_false, cond_true, bnd_eq, bnd_eq, del_eq]; rfl
def zS : List UInt8 := List.replicate 64 0
theorem new_l1 (n : Int) (N : Nat) (hN : N = n.toNat) : ∀ (m i : Nat) (o : Sc), o.length = N → i ≤ N → N - i < m → o.take i = List.replicate i zS → new_ok_l1 n m (i : Int) o = .brk (List.replicate N zS)
 | 0, _, _, _, _, h, _ => absurd h (Nat.not_lt_zero _)
 | m + 1, i, o, h0, h1, h2, h3 => by
  rw [new_ok_l1, List.length_replicate]
  by_cases c : i < N
  ·rw [decide_eq_true (by omega : (i : Int) < ((Int.toNat n : Nat) : Int)), cond_true, Int.toNat_natCast]
   have w := new_l1 n N hN m (i + 1) (o.set i zS) (by rw [List.length_set, h0]) (by omega) (by omega)
    (by rw [List.take_add_one, List.take_set_of_le (Nat.le_refl _), h3, List.getElem?_set_self (by omega), List.replicate_succ']; rfl)
   rw [Int.natCast_add i 1] at w
   exact w
  ·rw [decide_eq_false (by omega : ¬ (i : Int) < ((Int.toNat n : Nat) : Int)), cond_false]
   have : i = N := by omega
   subst this
   rw [List.take_of_length_le (by omega)] at h3
   rw [h3]
theorem new_eq (n : Int) : new_ok n = ((List.replicate n.toNat zS, [], 0, false), 0) := by
 rw [new_ok]
 show Lo.el (new_ok_l1 n _ ((0 : Nat) : Int) _) _ = _
 rw [new_l1 n n.toNat rfl _ 0 _ List.length_replicate (Nat.zero_le _) (by rw [List.length_replicate]; omega) rfl]
 show new_ok_k1 _ = _
 rw [new_ok_k1]
def lastW (i : Int) : List Wr → List UInt8 → List UInt8
 | [], b => b
 | x :: w, b => lastW i w (bif x.1 == i then x.2 else b)
theorem lastW_snoc (i : Int) (x : Wr) : ∀ (w : List Wr) (b : List UInt8), lastW i (w ++ [x]) b = bif x.1 == i then x.2 else lastW i w b
 | [], b => rfl
 | y :: w, b => by show lastW i (w ++ [x]) _ = _; rw [lastW_snoc i x w]; rfl
theorem read_rng (d1 : List Wr) (i : Int) (b : List UInt8) : ∀ (n k : Nat), k + n = d1.length →
  rngE (fun _ : Unit => b) (fun z : List UInt8 => z) (rng (fun kk (_ : Unit) => dDRead_rb1 d1 i kk) n k ()) = lastW i (d1.take n) b
 | 0, _, _ => by rw [rng, List.take_zero]; rfl
 | n + 1, k, h => by
  rw [rng, dDRead_rb1]
  have hi : d1.length - 1 - k = n := by omega
  rw [hi]
  have ht : d1.take (n + 1) = d1.take n ++ [d1.getD n ((0, []) : Wr)] := by
   rw [List.take_add_one, List.getD_eq_getElem?_getD, List.getElem?_eq_getElem (by omega)]; rfl
  rw [ht, lastW_snoc]
  cases (d1.getD n ((0, []) : Wr)).1 == i with
  | true => rfl
  | false => rw [cond_false, cond_false]; exact read_rng d1 i b n (k + 1) (by omega)
theorem read_eq (d0 : Sc) (d1 : List Wr) (d2 : Int) (d3 : Bool) (i : Int) : dDRead d0 d1 d2 d3 i = bif !((decide (i ≥ 0)) && (decide (i < (d0.length : Int)))) then ([], 1, ((), (), (), ())) else bif d3 then ([], 23, ((), (), (), ())) else (lastW i d1 (d0.getD i.toNat []), 0, ((), (), (), ())) := by
 rw [dDRead]
 cases !((decide (i ≥ 0)) && (decide (i < (d0.length : Int)))) with
 | true => rfl
 | false =>
  cases d3 with
  | true => rfl
  | false =>
   rw [cond_false, cond_false, cond_false, cond_false]
   have h := read_rng d1 i (d0.getD i.toNat []) d1.length 0 (by omega)
   rw [List.take_length] at h
   rw [← h]
   cases rng (fun kk (_ : Unit) => dDRead_rb1 d1 i kk) d1.length 0 () with
   | inl u => show dDRead_rk1 d0 i = _; rw [dDRead_rk1, bnd_eq]; rfl
   | inr z => show dDRead_rx1 z = _; rw [dDRead_rx1]; rfl
end Go.Proofs.YtbppcnhfeobefaaDoor
namespace Go.Proofs.YtbppcnhfeobefaaDoor
open Go Go.Vw Go.Proofs
variable {m : Nat} {d0 : Sc} {d1 : List Wr} {d2 : Int} {d3 : Bool} {i : Int} {b : List UInt8}
theorem inR_ok (h : inR d0 i b = true) : 0 ≤ i ∧ i < (d0.length : Int) ∧ b.length = 64 := by
 unfold inR at h
 simp only [Bool.and_eq_true, decide_eq_true_eq, beq_iff_eq] at h
 omega
theorem ok_snoc (h : okD m d0 d1 d2) (hi : inR d0 i b = true) : okD (m + 1) d0 (d1 ++ [(i, b)]) d2 := by
 obtain ⟨h1, h2, h3, h4, h5, h6⟩ := h
 obtain ⟨a1, a2, a3⟩ := inR_ok hi
 refine ⟨h1, by rw [List.length_append]; simp; omega, fun j hj => ?_, h4, fun j => ?_, h6⟩
 ·rw [gD_app]
  by_cases q : j < d1.length
  ·rw [if_pos q]; exact h3 j q
  ·rw [List.length_append] at hj; simp at hj
   rw [if_neg q, show j - d1.length = 0 by omega]; exact ⟨a1, a2⟩
 ·rw [gD_app]
  split
  ·exact h5 j
  ·cases hq : j - d1.length with
   | zero => show b.length ≤ 64; omega
   | succ k => show ([] : List UInt8).length ≤ 64; simp
theorem ok_arm (h : okD m d0 d1 d2) : okD m d0 d1 (stA d2) := ⟨h.1, h.2.1, h.2.2.1, h.2.2.2.1, h.2.2.2.2.1, stA_ok h.2.2.2.2.2⟩
theorem okW (h : okD m d0 d1 d2) : okD (m + 1) d0 ((dDWrite d0 d1 d2 d3 i b).2.2.1) ((dDWrite d0 d1 d2 d3 i b).2.2.2.1) := by
 rw [write_eq]
 cases hi : inR d0 i b with
 | false => exact okD_mono h (Nat.le_succ _)
 | true =>
  cases stD d2 d3 with
  | true => exact okD_mono (ok_arm h) (Nat.le_succ _)
  | false => exact ok_snoc (ok_arm h) hi
theorem w_fact (d0 : Sc) (d1 : List Wr) (d2 : Int) (d3 : Bool) (i : Int) (b : List UInt8) : (dDWrite d0 d1 d2 d3 i b).2.2.1.length ≤ d1.length + 1 := by
 rw [write_eq]
 cases inR d0 i b with
 | false => exact Nat.le_succ _
 | true =>
  cases stD d2 d3 with
  | true => exact Nat.le_succ _
  | false => show (d1 ++ [_]).length ≤ _; simp
theorem okW' (h : okD m d0 d1 d2) (hl : d1.length < m) : okD m d0 ((dDWrite d0 d1 d2 d3 i b).2.2.1) ((dDWrite d0 d1 d2 d3 i b).2.2.2.1) := by
 have := okW (d3 := d3) (i := i) (b := b) h
 exact ⟨this.1, by have := w_fact d0 d1 d2 d3 i b; omega, this.2.2⟩
theorem ok_app (h : okD m d0 d1 d2) : okD m (appW d0 d1) [] d2 := ⟨by rw [appW_len]; exact h.1, Nat.zero_le _, fun j hj => absurd hj (Nat.not_lt_zero _), appW_64 _ _ h.2.2.2.1 h.2.2.2.2.1, fun j => by simp, h.2.2.2.2.2⟩
theorem ok_cr (keep : List Bool) (h : okD m d0 d1 d2) : okD m (crW keep 0 d1 d0) [] 0 := ⟨by rw [crW_len]; exact h.1, Nat.zero_le _, fun j hj => absurd hj (Nat.not_lt_zero _), crW_64 _ _ _ _ h.2.2.2.1 h.2.2.2.2.1, fun j => by simp, by decide, by decide⟩
theorem ok_tam (h : okD m d0 d1 d2) (hi : inR d0 i b = true) : okD m (set1 d0 (i, b)) (d1.filter (fun w => w.1 != i)) d2 := by
 obtain ⟨h1, h2, h3, h4, h5, h6⟩ := h
 obtain ⟨a1, a2, a3⟩ := inR_ok hi
 have hmem : ∀ w ∈ d1.filter (fun w => w.1 != i), 0 ≤ w.1 ∧ w.1 < (d0.length : Int) ∧ w.2.length ≤ 64 := fun w hw => by
  obtain ⟨j, hj, rfl⟩ := List.getElem_of_mem (List.mem_filter.1 hw).1
  have q1 := h3 j hj
  have q2 := h5 j
  rw [List.getD_eq_getElem?_getD, List.getElem?_eq_getElem hj] at q1 q2
  exact ⟨q1.1, q1.2, q2⟩
 refine ⟨by rw [set1_len]; exact h1, Nat.le_trans (List.length_filter_le _ _) h2, fun j hj => ?_, set64 h4 (by show b.length ≤ 64; omega) _, fun j => ?_, h6⟩
 ·rw [set1_len, List.getD_eq_getElem?_getD, List.getElem?_eq_getElem hj]
  have := hmem _ (List.getElem_mem hj)
  exact ⟨this.1, this.2.1⟩
 ·by_cases hj : j < (d1.filter (fun w => w.1 != i)).length
  ·rw [List.getD_eq_getElem?_getD, List.getElem?_eq_getElem hj]
   exact (hmem _ (List.getElem_mem hj)).2.2
  ·rw [gD_out _ _ _ (by omega)]; simp
theorem okS (h : okD m d0 d1 d2) : okD m ((dDSync d0 d1 d2 d3).2.1) ((dDSync d0 d1 d2 d3).2.2.1) ((dDSync d0 d1 d2 d3).2.2.2.1) := by
 rw [sync_eq]
 cases stD d2 d3 with
 | true => exact ok_arm h
 | false => exact ok_app (ok_arm h)
theorem s_fact (d0 : Sc) (d1 : List Wr) (d2 : Int) (d3 : Bool) : (dDSync d0 d1 d2 d3).2.1.length = d0.length ∧ (dDSync d0 d1 d2 d3).2.2.1.length ≤ d1.length := by
 rw [sync_eq]
 cases stD d2 d3 with
 | true => exact ⟨rfl, Nat.le_refl _⟩
 | false => exact ⟨appW_len _ _, Nat.zero_le _⟩
theorem okC {keep : List Bool} (h : okD m d0 d1 d2) : okD m ((dDCrash d0 d1 d2 d3 keep).1) ((dDCrash d0 d1 d2 d3 keep).2.1) ((dDCrash d0 d1 d2 d3 keep).2.2.1) := by
 rw [crash_eq]; exact ok_cr keep h
theorem c_fact (d0 : Sc) (d1 : List Wr) (d2 : Int) (d3 : Bool) (keep : List Bool) : (dDCrash d0 d1 d2 d3 keep).1.length = d0.length ∧ (dDCrash d0 d1 d2 d3 keep).2.1.length = 0 := by
 rw [crash_eq]; exact ⟨crW_len _ _ _ _, rfl⟩
theorem okA {n : Int} (h : okD m d0 d1 d2) (hn : n ≤ 9223372036854775807) : okD m d0 d1 ((dDArm d0 d1 d2 d3 n).2.2.2.1) := by
 rw [dDArm]
 by_cases q : n < 0
 ·rw [decide_eq_true q, cond_true]; exact h
 ·rw [decide_eq_false q, cond_false]; exact ⟨h.1, h.2.1, h.2.2.1, h.2.2.2.1, h.2.2.2.2.1, by show 0 ≤ n; omega, hn⟩
theorem okT (h : okD m d0 d1 d2) : okD m ((dDTamper d0 d1 d2 d3 i b).2.1) ((dDTamper d0 d1 d2 d3 i b).2.2.1) ((dDTamper d0 d1 d2 d3 i b).2.2.2.1) := by
 rw [tamper_eq]
 cases hi : inR d0 i b with
 | false => exact h
 | true => exact ok_tam h hi
theorem ok_new (n : Nat) (hn : n ≤ 3000) : okD 0 (List.replicate n zS) [] 0 :=
 ⟨by rw [List.length_replicate]; exact hn, Nat.le_refl _, fun j hj => absurd hj (Nat.not_lt_zero _), fun j => by rw [gD_rep]; split <;> simp [zS], fun j => by simp, by decide, by decide⟩
theorem okN (n : Int) (hn : n ≤ 2048) : okD 0 ((new_ok n).1.1) ((new_ok n).1.2.1) ((new_ok n).1.2.2.1) := by
 rw [new_eq]; exact ok_new _ (by omega)
theorem n_fact (n : Int) : (new_ok n).1.1.length = n.toNat ∧ (new_ok n).1.2.1.length = 0 := by rw [new_eq]; exact ⟨List.length_replicate, rfl⟩
end Go.Proofs.YtbppcnhfeobefaaDoor

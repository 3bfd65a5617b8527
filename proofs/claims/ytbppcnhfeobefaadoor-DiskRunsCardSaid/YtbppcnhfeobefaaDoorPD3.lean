import Derived.Test.YtbppcnhfeobefaaDoorH3
import Derived.Test.YtbppcnhfeobefaaDoorH4c
import Derived.Test.YtbppcnhfeobefaaDoorH5
import Derived.Test.YtbppcnhfeobefaaDoorH6
import Derived.Test.YtbppcnhfeobefaaDoorH7
set_option linter.unusedVariables false
set_option linter.unusedSimpArgs false
namespace Go.Proofs.YtbppcnhfeobefaaDoor
open Go Go.Vw Go.Proofs
abbrev Sc : Type := List (List UInt8)
def stA (a : Int) : Int := if a > 0 then a - 1 else a
def stD (a : Int) (d : Bool) : Bool := d || (a == 1)
theorem step_eq (d0 : Sc) (d1 : List Wr) (d2 : Int) (d3 : Bool) : disk_Disk_step d0 d1 d2 d3 = (if stD d2 d3 then 23 else 0, ((), (), stA d2, stD d2 d3)) := by
  rw [disk_Disk_step]
  unfold stA stD
  by_cases h : d2 > 0
  · rw [decide_eq_true h, cond_true, if_pos h]
    cases d3 with
    | true => rw [cond_true]; rfl
    | false =>
      rw [cond_false]
      by_cases q : d2 = 1
      · subst q; rfl
      · rw [show (d2 - 1 == 0) = false by rw [beq_eq_false_iff_ne]; omega, cond_false, show (d2 == 1) = false by rw [beq_eq_false_iff_ne]; exact q]; rfl
  · rw [decide_eq_false h, cond_false, if_neg h, show (d2 == 1) = false by rw [beq_eq_false_iff_ne]; omega, Bool.or_false]
    cases d3 <;> rfl
theorem rstep_eq (d0 : Sc) (d1 : List Wr) (d2 : Int) (d3 : Bool) (h0 : 0 ≤ d2) : bursaryref13_step d0 d1 d2 d3 = (d0, d1, stA d2, stD d2 d3) := by
  rw [bursaryref13_step]
  unfold stA stD
  have e : (if d2 - 1 > 0 then d2 - 1 else 0) = (if d2 > 0 then d2 - 1 else d2) := by split <;> split <;> omega
  rw [e]
  by_cases q : d2 = 1
  · subst q; rw [show ((1 : Int) == 1) = true from rfl, cond_true, Bool.or_true]
  · rw [show (d2 == 1) = false by rw [beq_eq_false_iff_ne]; exact q, cond_false, Bool.or_false]
theorem stA_ok {a : Int} (h : 0 ≤ a ∧ a ≤ 9223372036854775807) : 0 ≤ stA a ∧ stA a ≤ 9223372036854775807 := by unfold stA; split <;> omega
def set1 (s : Sc) (x : Wr) : Sc := s.set x.1.toNat x.2
def appW (s : Sc) (w : List Wr) : Sc := w.foldl set1 s
def crW (keep : List Bool) : Nat → List Wr → Sc → Sc
  | _, [], s => s
  | i, x :: w, s => crW keep (i + 1) w (bif keep.getD i false then set1 s x else s)
theorem set1_len (s : Sc) (x : Wr) : (set1 s x).length = s.length := List.length_set
theorem appW_len : ∀ (w : List Wr) (s : Sc), (appW s w).length = s.length
  | [], _ => rfl
  | x :: w, s => by show (appW (set1 s x) w).length = _; rw [appW_len w, set1_len]
theorem crW_len (keep : List Bool) : ∀ (w : List Wr) (i : Nat) (s : Sc), (crW keep i w s).length = s.length
  | [], _, _ => rfl
  | x :: w, i, s => by
    rw [crW, crW_len keep w]
    cases keep.getD i false with
    | true => exact set1_len s x
    | false => rfl
theorem set64 {s : Sc} (h : ∀ j : Nat, (s.getD j []).length ≤ 64) {x : List UInt8} (hx : x.length ≤ 64) (i : Nat) : ∀ j : Nat, ((s.set i x).getD j []).length ≤ 64 := by
  intro j; rw [gD_set]; split
  · exact hx
  · exact h j
theorem gw_tail {x : Wr} {w : List Wr} (h : ∀ j : Nat, ((x :: w).getD j (0, [])).2.length ≤ 64) : ∀ j : Nat, (w.getD j (0, [])).2.length ≤ 64 := fun j => h (j + 1)
theorem appW_64 : ∀ (w : List Wr) (s : Sc), (∀ j : Nat, (s.getD j []).length ≤ 64) → (∀ j : Nat, (w.getD j (0, [])).2.length ≤ 64) → ∀ j : Nat, ((appW s w).getD j []).length ≤ 64
  | [], _, h, _ => h
  | x :: w, s, h, hw => appW_64 w (set1 s x) (set64 h (hw 0) _) (gw_tail hw)
theorem crW_64 (keep : List Bool) : ∀ (w : List Wr) (i : Nat) (s : Sc), (∀ j : Nat, (s.getD j []).length ≤ 64) → (∀ j : Nat, (w.getD j (0, [])).2.length ≤ 64) → ∀ j : Nat, ((crW keep i w s).getD j []).length ≤ 64
  | [], _, _, h, _ => h
  | x :: w, i, s, h, hw => by
    rw [crW]
    refine crW_64 keep w (i + 1) _ ?_ (gw_tail hw)
    cases keep.getD i false with
    | true => exact set64 h (hw 0) _
    | false => exact h
theorem crW_out (keep : List Bool) : ∀ (w : List Wr) (i : Nat) (s : Sc), keep.length ≤ i → crW keep i w s = s
  | [], _, _, _ => rfl
  | x :: w, i, s, h => by
    rw [crW, gD_out _ _ _ h, cond_false, crW_out keep w (i + 1) s (by omega)]
theorem sync_l1 (d1 : List Wr) : ∀ (m i : Nat) (o : Sc), i ≤ d1.length → d1.length - i < m → disk_Disk_Sync_l1 d1 m (i : Int) o = .brk (appW o (d1.drop i))
  | 0, _, _, _, h => absurd h (Nat.not_lt_zero _)
  | m + 1, i, o, h1, h2 => by
    rw [disk_Disk_Sync_l1]
    by_cases c : i < d1.length
    · rw [decide_eq_true (by omega : (i : Int) < (d1.length : Int)), cond_true, Int.toNat_natCast]
      have w := sync_l1 d1 m (i + 1) (set1 o (d1.getD i (0, []))) (by omega) (by omega)
      rw [Int.natCast_add i 1] at w
      refine w.trans ?_
      rw [drop_cons d1 i (0, []) c]; rfl
    · rw [decide_eq_false (by omega : ¬ (i : Int) < (d1.length : Int)), cond_false, List.drop_of_length_le (by omega)]; rfl
theorem sync_eq (d0 : Sc) (d1 : List Wr) (d2 : Int) (d3 : Bool) : disk_Disk_Sync d0 d1 d2 d3 = bif stD d2 d3 then (23, (d0, d1, stA d2, stD d2 d3)) else (0, (appW d0 d1, [], stA d2, stD d2 d3)) := by
  rw [disk_Disk_Sync, bnd_eq, step_eq]
  cases h : stD d2 d3 with
  | true => rfl
  | false =>
    rw [cond_false]
    show Lo.el (disk_Disk_Sync_l1 d1 _ ((0 : Nat) : Int) d0) _ = _
    rw [sync_l1 d1 _ 0 _ (Nat.zero_le _) (by omega), List.drop_zero]
    show disk_Disk_Sync_k1 _ _ = _
    rw [disk_Disk_Sync_k1]
theorem with_eq (l : Sc) (i : Int) (b : List UInt8) : bursaryref13_with l i b = set1 l (i, b) := by rw [bursaryref13_with]; rfl
theorem rsync_l1 (x1 : Sc × List Wr × Int × Bool) : ∀ (m i : Nat) (o : Sc), i ≤ x1.2.1.length → x1.2.1.length - i < m → bursaryref13_Sync_l1 x1 m (i : Int) o = .brk (appW o (x1.2.1.drop i))
  | 0, _, _, _, h => absurd h (Nat.not_lt_zero _)
  | m + 1, i, o, h1, h2 => by
    rw [bursaryref13_Sync_l1]
    by_cases c : i < x1.2.1.length
    · rw [decide_eq_true (by omega : (i : Int) < (x1.2.1.length : Int)), cond_true, Int.toNat_natCast, bnd_eq, with_eq]
      have w := rsync_l1 x1 m (i + 1) (set1 o (x1.2.1.getD i (0, []))) (by omega) (by omega)
      rw [Int.natCast_add i 1] at w
      refine w.trans ?_
      rw [drop_cons x1.2.1 i (0, []) c]; rfl
    · rw [decide_eq_false (by omega : ¬ (i : Int) < (x1.2.1.length : Int)), cond_false, List.drop_of_length_le (by omega)]; rfl
theorem rsync_eq (d0 : Sc) (d1 : List Wr) (d2 : Int) (d3 : Bool) (h0 : 0 ≤ d2) : bursaryref13_Sync d0 d1 d2 d3 = bif stD d2 d3 then ((d0, d1, stA d2, stD d2 d3), 23) else ((appW d0 d1, [], stA d2, stD d2 d3), 0) := by
  rw [bursaryref13_Sync, bnd_eq, rstep_eq _ _ _ _ h0]
  cases h : stD d2 d3 with
  | true => rfl
  | false =>
    rw [cond_false]
    show Lo.el (bursaryref13_Sync_l1 (d0, d1, stA d2, false) _ ((0 : Nat) : Int) d0) _ = _
    rw [rsync_l1 (d0, d1, stA d2, false) _ 0 _ (Nat.zero_le _) (by show d1.length - 0 < ((d1.length : Int) - 0).toNat + 1; omega), List.drop_zero]
    show bursaryref13_Sync_k1 _ _ = _
    rw [bursaryref13_Sync_k1]
    rfl
theorem crash_l1 (d1 : List Wr) (keep : List Bool) : ∀ (m i : Nat) (o : Sc), i ≤ d1.length → d1.length - i < m → disk_Disk_Crash_l1 d1 keep m (i : Int) o = .brk (crW keep i (d1.drop i) o)
  | 0, _, _, _, h => absurd h (Nat.not_lt_zero _)
  | m + 1, i, o, h1, h2 => by
    rw [disk_Disk_Crash_l1]
    by_cases c : i < d1.length
    · rw [decide_eq_true (by omega : (i : Int) < (d1.length : Int)), cond_true, Int.toNat_natCast, drop_cons d1 i (0, []) c, crW]
      have e : ((decide ((i : Int) < (keep.length : Int))) && (keep.getD i false)) = keep.getD i false := by
        by_cases q : i < keep.length
        · rw [decide_eq_true (by omega : (i : Int) < (keep.length : Int)), Bool.true_and]
        · rw [gD_out _ _ _ (by omega), Bool.and_false]
      rw [e]
      cases keep.getD i false with
      | true =>
        rw [cond_true, cond_true]
        have w := crash_l1 d1 keep m (i + 1) (set1 o (d1.getD i (0, []))) (by omega) (by omega)
        rw [Int.natCast_add i 1] at w
        exact w
      | false =>
        rw [cond_false, cond_false]
        have w := crash_l1 d1 keep m (i + 1) o (by omega) (by omega)
        rw [Int.natCast_add i 1] at w
        exact w
    · rw [decide_eq_false (by omega : ¬ (i : Int) < (d1.length : Int)), cond_false, List.drop_of_length_le (by omega)]; rfl
theorem crash_eq (d0 : Sc) (d1 : List Wr) (d2 : Int) (d3 : Bool) (keep : List Bool) : disk_Disk_Crash d0 d1 d2 d3 keep = (crW keep 0 d1 d0, [], 0, false) := by
  rw [disk_Disk_Crash]
  show Lo.el (disk_Disk_Crash_l1 d1 keep _ ((0 : Nat) : Int) d0) _ = _
  rw [crash_l1 d1 keep _ 0 _ (Nat.zero_le _) (by omega), List.drop_zero]
  show disk_Disk_Crash_k1 _ = _
  rw [disk_Disk_Crash_k1]
theorem rcrash_l1 (d1 : List Wr) (keep : List Bool) : ∀ (m i : Nat) (o : Sc), i ≤ d1.length → d1.length - i < m → bursaryref13_Crash_l1 d1 keep m (i : Int) o = .brk (crW keep i (d1.drop i) o)
  | 0, _, _, _, h => absurd h (Nat.not_lt_zero _)
  | m + 1, i, o, h1, h2 => by
    rw [bursaryref13_Crash_l1]
    by_cases c : i < d1.length ∧ i < keep.length
    · rw [show ((decide ((i : Int) < (d1.length : Int))) && (decide ((i : Int) < (keep.length : Int)))) = true by rw [Bool.and_eq_true, decide_eq_true_eq, decide_eq_true_eq]; omega, cond_true, Int.toNat_natCast, drop_cons d1 i (0, []) c.1, crW]
      cases keep.getD i false with
      | true =>
        rw [cond_true, cond_true, bnd_eq, with_eq]
        have w := rcrash_l1 d1 keep m (i + 1) (set1 o (d1.getD i (0, []))) (by omega) (by omega)
        rw [Int.natCast_add i 1] at w
        exact w
      | false =>
        rw [cond_false, cond_false]
        have w := rcrash_l1 d1 keep m (i + 1) o (by omega) (by omega)
        rw [Int.natCast_add i 1] at w
        exact w
    · rw [show ((decide ((i : Int) < (d1.length : Int))) && (decide ((i : Int) < (keep.length : Int)))) = false by rw [← Bool.not_eq_true, Bool.and_eq_true, decide_eq_true_eq, decide_eq_true_eq]; omega, cond_false]
      by_cases q : i < d1.length
      · rw [crW_out keep _ i o (by omega)]
      · rw [List.drop_of_length_le (by omega)]; rfl
theorem rcrash_eq (d0 : Sc) (d1 : List Wr) (d2 : Int) (d3 : Bool) (keep : List Bool) : bursaryref13_Crash d0 d1 d2 d3 keep = (crW keep 0 d1 d0, [], 0, false) := by
  rw [bursaryref13_Crash]
  show Lo.el (bursaryref13_Crash_l1 d1 keep _ ((0 : Nat) : Int) d0) _ = _
  rw [rcrash_l1 d1 keep _ 0 _ (Nat.zero_le _) (by omega), List.drop_zero]
  show bursaryref13_Crash_k1 _ = _
  rw [bursaryref13_Crash_k1]
def inR (d0 : Sc) (i : Int) (b : List UInt8) : Bool := ((decide (i ≥ 0)) && (decide (i < (d0.length : Int)))) && ((b.length : Int) == 64)
theorem inR_not (d0 : Sc) (i : Int) (b : List UInt8) : ((!((decide (i ≥ 0)) && (decide (i < (d0.length : Int))))) || ((b.length : Int) != 64)) = !inR d0 i b := by
  unfold inR; simp only [bne]
  generalize ((b.length : Int) == 64) = q
  cases decide (i ≥ 0) <;> cases decide (i < (d0.length : Int)) <;> cases q <;> rfl
theorem inR_not' (d0 : Sc) (i : Int) (b : List UInt8) : ((decide (i < 0)) || ((decide (i ≥ (d0.length : Int))) || ((b.length : Int) != 64))) = !inR d0 i b := by
  unfold inR
  have e1 : decide (i < 0) = !decide (i ≥ 0) := by by_cases h : i < 0 <;> simp [h] <;> omega
  have e2 : decide (i ≥ (d0.length : Int)) = !decide (i < (d0.length : Int)) := by by_cases h : i < (d0.length : Int) <;> simp [h] <;> omega
  rw [e1, e2]; simp only [bne]
  generalize ((b.length : Int) == 64) = q
  cases decide (i ≥ 0) <;> cases decide (i < (d0.length : Int)) <;> cases q <;> rfl
theorem write_eq (d0 : Sc) (d1 : List Wr) (d2 : Int) (d3 : Bool) (i : Int) (b : List UInt8) : disk_Disk_Write d0 d1 d2 d3 i b = bif inR d0 i b then (bif stD d2 d3 then (23, ((), d1, stA d2, stD d2 d3)) else (0, ((), d1 ++ [(i, b)], stA d2, stD d2 d3))) else (1, ((), d1, d2, d3)) := by
  rw [disk_Disk_Write, inR_not]
  cases inR d0 i b with
  | false => rfl
  | true =>
    rw [Bool.not_true, cond_false, cond_true, bnd_eq, step_eq]
    cases h : stD d2 d3 <;> rfl
theorem rput_eq (d0 : Sc) (d1 : List Wr) (d2 : Int) (d3 : Bool) (i : Int) (b : List UInt8) (h0 : 0 ≤ d2) : bursaryref13_Put d0 d1 d2 d3 i b = bif inR d0 i b then (bif stD d2 d3 then ((d0, d1, stA d2, stD d2 d3), 23) else ((d0, d1 ++ [(i, b)], stA d2, stD d2 d3), 0)) else ((d0, d1, d2, d3), 1) := by
  rw [bursaryref13_Put, inR_not']
  cases inR d0 i b with
  | false => rfl
  | true =>
    rw [Bool.not_true, cond_false, cond_true, bnd_eq, rstep_eq _ _ _ _ h0]
theorem tamper_eq (d0 : Sc) (d1 : List Wr) (d2 : Int) (d3 : Bool) (i : Int) (b : List UInt8) : disk_Disk_Tamper d0 d1 d2 d3 i b = bif inR d0 i b then (0, (set1 d0 (i, b), d1.filter (fun w => w.1 != i), d2, d3)) else (1, (d0, d1, d2, d3)) := by
  rw [disk_Disk_Tamper, inR_not]
  cases inR d0 i b with
  | false => rfl
  | true => rw [Bool.not_true, cond_false, cond_true, bnd_eq, bnd_eq, del_eq]; rfl
theorem rtam_l1 (d1 : List Wr) (i : Int) : ∀ (m k : Nat) (o : List Wr), k ≤ d1.length → d1.length - k < m → bursaryref13_Tamper_l1 d1 i m (k : Int) o = .brk (o ++ (d1.drop k).filter (fun w => w.1 != i))
  | 0, _, _, _, h => absurd h (Nat.not_lt_zero _)
  | m + 1, k, o, h1, h2 => by
    rw [bursaryref13_Tamper_l1]
    by_cases c : k < d1.length
    · rw [decide_eq_true (by omega : (k : Int) < (d1.length : Int)), cond_true, Int.toNat_natCast, drop_cons d1 k (0, []) c, List.filter_cons]
      cases h : (d1.getD k ((0, []) : Wr)).1 != i with
      | true =>
        rw [cond_true]
        have w := rtam_l1 d1 i m (k + 1) (o ++ [d1.getD k (0, [])]) (by omega) (by omega)
        rw [Int.natCast_add k 1] at w
        refine w.trans ?_
        rw [List.append_assoc]; rfl
      | false =>
        rw [cond_false]
        have w := rtam_l1 d1 i m (k + 1) o (by omega) (by omega)
        rw [Int.natCast_add k 1] at w
        exact w
    · rw [decide_eq_false (by omega : ¬ (k : Int) < (d1.length : Int)), cond_false, List.drop_of_length_le (by omega)]; simp
theorem rtamper_eq (d0 : Sc) (d1 : List Wr) (d2 : Int) (d3 : Bool) (i : Int) (b : List UInt8) : bursaryref13_Tamper d0 d1 d2 d3 i b = bif inR d0 i b then ((set1 d0 (i, b), d1.filter (fun w => w.1 != i), d2, d3), 0) else ((d0, d1, d2, d3), 1) := by
  rw [bursaryref13_Tamper, inR_not']
  cases inR d0 i b with
  | false => rfl
  | true =>
    rw [Bool.not_true, cond_false, cond_true]
    show Lo.el (bursaryref13_Tamper_l1 d1 i _ ((0 : Nat) : Int) []) _ = _
    rw [rtam_l1 d1 i _ 0 _ (Nat.zero_le _) (by omega), List.drop_zero]
    show bursaryref13_Tamper_k1 _ _ _ _ _ _ = _
    rw [bursaryref13_Tamper_k1, bnd_eq, with_eq, List.nil_append]
def zS : List UInt8 := List.replicate 64 0
theorem new_l1 (n : Int) (N : Nat) (hN : N = n.toNat) : ∀ (m i : Nat) (o : Sc), o.length = N → i ≤ N → N - i < m → o.take i = List.replicate i zS → new_ok_l1 n m (i : Int) o = .brk (List.replicate N zS)
  | 0, _, _, _, _, h, _ => absurd h (Nat.not_lt_zero _)
  | m + 1, i, o, h0, h1, h2, h3 => by
    rw [new_ok_l1, List.length_replicate]
    by_cases c : i < N
    · rw [decide_eq_true (by omega : (i : Int) < ((Int.toNat n : Nat) : Int)), cond_true, Int.toNat_natCast]
      have w := new_l1 n N hN m (i + 1) (o.set i zS) (by rw [List.length_set, h0]) (by omega) (by omega)
        (by rw [List.take_add_one, List.take_set_of_le (Nat.le_refl _), h3, List.getElem?_set_self (by omega), List.replicate_succ']; rfl)
      rw [Int.natCast_add i 1] at w
      exact w
    · rw [decide_eq_false (by omega : ¬ (i : Int) < ((Int.toNat n : Nat) : Int)), cond_false]
      have : i = N := by omega
      subst this
      rw [List.take_of_length_le (by omega)] at h3
      rw [h3]
theorem new_eq (n : Int) : new_ok n = ((List.replicate n.toNat zS, [], 0, false), 0) := by
  rw [new_ok]
  show Lo.el (new_ok_l1 n _ ((0 : Nat) : Int) _) _ = _
  rw [new_l1 n n.toNat rfl _ 0 _ List.length_replicate (Nat.zero_le _) (by rw [List.length_replicate]; omega) rfl]
  show new_ok_k1 _ = _
  rw [new_ok_k1]
theorem rnew_eq (n : Int) : bursaryref13_New n = (List.replicate n.toNat zS, [], 0, false) := by
  rw [bursaryref13_New, appLoop (f := bursaryref13_New_l1 n) (n := n) (g := fun _ => [zS]) (fun m i o _ => by rw [bursaryref13_New_l1]; rfl) _ _ _ (Int.le_refl 0) (Nat.lt_succ_self _)]
  show bursaryref13_New_k1 ([] ++ _) = _
  rw [bursaryref13_New_k1, List.nil_append, ← List.map_eq_flatMap, Int.sub_zero]
  have : (List.range n.toNat).map (fun _ => zS) = List.replicate n.toNat zS := by
    apply List.ext_getElem <;> simp
  rw [this]
theorem safe_eq (d0 : Sc) (d1 : List Wr) (d2 : Int) (d3 : Bool) : (disk_Disk_Safe d0 d1 d2 d3).1 = d0.flatten ∧ (disk_Disk_Safe d0 d1 d2 d3).2 = ((), (), (), ()) := by
  rw [disk_Disk_Safe, bnd_eq]; exact ⟨concat_eq d0, rfl⟩
theorem all_eq (d0 : Sc) (d1 : List Wr) (d2 : Int) (d3 : Bool) : bursaryref13_All d0 d1 d2 d3 = d0.flatten := by
  rw [bursaryref13_All, appLoop (f := bursaryref13_All_l1 d0) (n := (d0.length : Int)) (g := fun i => d0.getD i.toNat []) (fun m i o _ => by rw [bursaryref13_All_l1]) _ _ _ (Int.le_refl 0) (Nat.lt_succ_self _)]
  show bursaryref13_All_k1 ([] ++ _) = _
  rw [bursaryref13_All_k1, List.nil_append, ← flat_all, Int.sub_zero, Int.toNat_natCast]
  simp only [Int.zero_add, Int.toNat_natCast]
def lastW (i : Int) : List Wr → List UInt8 → List UInt8
  | [], b => b
  | x :: w, b => lastW i w (bif x.1 == i then x.2 else b)
theorem lastW_snoc (i : Int) (x : Wr) : ∀ (w : List Wr) (b : List UInt8), lastW i (w ++ [x]) b = bif x.1 == i then x.2 else lastW i w b
  | [], b => rfl
  | y :: w, b => by show lastW i (w ++ [x]) _ = _; rw [lastW_snoc i x w]; rfl
theorem read_rng (d1 : List Wr) (i : Int) (b : List UInt8) : ∀ (n k : Nat), k + n = d1.length →
    rngE (fun _ : Unit => b) (fun z : List UInt8 => z) (rng (fun kk (_ : Unit) => disk_Disk_Read_rb1 d1 i kk) n k ()) = lastW i (d1.take n) b
  | 0, _, _ => by rw [rng, List.take_zero]; rfl
  | n + 1, k, h => by
    rw [rng, disk_Disk_Read_rb1]
    have hi : d1.length - 1 - k = n := by omega
    rw [hi]
    have ht : d1.take (n + 1) = d1.take n ++ [d1.getD n ((0, []) : Wr)] := by
      rw [List.take_add_one, List.getD_eq_getElem?_getD, List.getElem?_eq_getElem (by omega)]; rfl
    rw [ht, lastW_snoc]
    cases (d1.getD n ((0, []) : Wr)).1 == i with
    | true => rfl
    | false => rw [cond_false, cond_false]; exact read_rng d1 i b n (k + 1) (by omega)
theorem read_eq (d0 : Sc) (d1 : List Wr) (d2 : Int) (d3 : Bool) (i : Int) : disk_Disk_Read d0 d1 d2 d3 i = bif !((decide (i ≥ 0)) && (decide (i < (d0.length : Int)))) then ([], 1, ((), (), (), ())) else bif d3 then ([], 23, ((), (), (), ())) else (lastW i d1 (d0.getD i.toNat []), 0, ((), (), (), ())) := by
  rw [disk_Disk_Read]
  cases !((decide (i ≥ 0)) && (decide (i < (d0.length : Int)))) with
  | true => rfl
  | false =>
    cases d3 with
    | true => rfl
    | false =>
      rw [cond_false, cond_false, cond_false, cond_false]
      have h := read_rng d1 i (d0.getD i.toNat []) d1.length 0 (by omega)
      rw [List.take_length] at h
      rw [← h]
      cases rng (fun kk (_ : Unit) => disk_Disk_Read_rb1 d1 i kk) d1.length 0 () with
      | inl u => show disk_Disk_Read_rk1 d0 i = _; rw [disk_Disk_Read_rk1, bnd_eq]; rfl
      | inr z => show disk_Disk_Read_rx1 z = _; rw [disk_Disk_Read_rx1]; rfl
theorem rread_l1 (d1 : List Wr) (i : Int) : ∀ (m k : Nat) (b : List UInt8), k ≤ d1.length → d1.length - k < m → bursaryref13_Read_l1 d1 i m b (k : Int) = .brk (lastW i (d1.drop k) b)
  | 0, _, _, _, h => absurd h (Nat.not_lt_zero _)
  | m + 1, k, b, h1, h2 => by
    rw [bursaryref13_Read_l1]
    by_cases c : k < d1.length
    · rw [decide_eq_true (by omega : (k : Int) < (d1.length : Int)), cond_true, Int.toNat_natCast, drop_cons d1 k (0, []) c, bnd_eq]
      have w := rread_l1 d1 i m (k + 1) (bif (d1.getD k ((0, []) : Wr)).1 == i then (d1.getD k ((0, []) : Wr)).2 else b) (by omega) (by omega)
      rw [Int.natCast_add k 1] at w
      exact w
    · rw [decide_eq_false (by omega : ¬ (k : Int) < (d1.length : Int)), cond_false, List.drop_of_length_le (by omega)]; rfl
theorem rread_eq (d0 : Sc) (d1 : List Wr) (d2 : Int) (d3 : Bool) (i : Int) : bursaryref13_Read d0 d1 d2 d3 i = bif !((decide (i ≥ 0)) && (decide (i < (d0.length : Int)))) then ([], 1) else bif d3 then ([], 23) else (lastW i d1 (d0.getD i.toNat []), 0) := by
  rw [bursaryref13_Read]
  have e : ((decide (i < 0)) || (decide (i ≥ (d0.length : Int)))) = !((decide (i ≥ 0)) && (decide (i < (d0.length : Int)))) := by
    rw [Bool.not_and]
    have e1 : decide (i < 0) = !decide (i ≥ 0) := by by_cases h : i < 0 <;> simp [h] <;> omega
    have e2 : decide (i ≥ (d0.length : Int)) = !decide (i < (d0.length : Int)) := by by_cases h : i < (d0.length : Int) <;> simp [h] <;> omega
    rw [e1, e2]
  rw [e]
  cases !((decide (i ≥ 0)) && (decide (i < (d0.length : Int)))) with
  | true => rfl
  | false =>
    cases d3 with
    | true => rfl
    | false =>
      rw [cond_false, cond_false, cond_false, cond_false]
      show Lo.el (bursaryref13_Read_l1 d1 i _ _ ((0 : Nat) : Int)) _ = _
      rw [rread_l1 d1 i _ 0 _ (Nat.zero_le _) (by omega), List.drop_zero]
      show bursaryref13_Read_k1 _ = _
      rw [bursaryref13_Read_k1]
end Go.Proofs.YtbppcnhfeobefaaDoor

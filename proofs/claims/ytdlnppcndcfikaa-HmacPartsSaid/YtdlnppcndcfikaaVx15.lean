/- Lists of aggregates: the cells of all, one behind the other. -/
import Derived.Test.YtdlnppcndcfikaaVx14
namespace Go.Vw
set_option linter.unusedVariables false
set_option linter.unusedSimpArgs false
open Go Go.RowKit
abbrev fl {α : Type} (g : α → List T) (l : List α) : List T := l.flatMap g
section
variable {α : Type} {g : α → List T} {m : Nat}
theorem fl_len (hm : ∀ x, (g x).length = m) (l : List α) : (fl g l).length = l.length * m := by
  induction l with
  | nil => simp
  | cons a l ih => rw [fl, List.flatMap_cons, List.length_append, hm, List.length_cons, Nat.succ_mul]; rw [fl] at ih; omega
theorem fl_drop (hm : ∀ x, (g x).length = m) : ∀ (l : List α) (n : Nat), (fl g l).drop (n * m) = fl g (l.drop n)
  | [], n => by simp
  | a :: l, 0 => by simp
  | a :: l, n + 1 => by
    rw [List.drop_succ_cons, ← fl_drop hm l n, fl, List.flatMap_cons, Nat.succ_mul, Nat.add_comm, ← List.drop_drop, List.drop_left' (hm a)]
theorem fl_take (hm : ∀ x, (g x).length = m) : ∀ (l : List α) (n : Nat), (fl g l).take (n * m) = fl g (l.take n)
  | [], n => by simp
  | a :: l, 0 => by simp
  | a :: l, n + 1 => by
    have e : (n + 1) * m = (g a).length + n * m := by rw [Nat.succ_mul, hm]; omega
    rw [List.take_succ_cons, fl, List.flatMap_cons, e, List.take_length_add_append]
    show g a ++ (fl g l).take (n * m) = _
    rw [fl_take hm l n]; rfl
theorem fl_sub (hm : ∀ x, (g x).length = m) (l : List α) (a b : Nat) : sub (fl g l) (a * m) (b * m) = fl g ((l.drop a).take b) := by
  rw [sub, fl_drop hm, fl_take hm]
theorem fl_at (hm : ∀ x, (g x).length = m) (l : List α) {n : Nat} (h : n < l.length) (d : α) : sub (fl g l) (n * m) m = g (l.getD n d) := by
  have := fl_sub hm l n 1
  rw [Nat.one_mul] at this
  rw [this, drop_cons l n d h]
  simp
theorem fl_part {i : TI} {k n : Nat} {l : List α} {d : α} {v : T} (ha : i.agg = true) (hs : i.size = m) (hm : ∀ x, (g x).length = m) (hk : k = n * m) (h : n < l.length) (hv : v = .agg (g (l.getD n d))) : partOf i (fl g l) k v := by
  subst hk; subst hv
  refine partA ha ?_ ?_
  · rw [hs, fl_len hm, ← Nat.succ_mul]; exact Nat.mul_le_mul_right _ h
  · rw [hs, fl_at hm l h d]
theorem fl_part1 {i : TI} {k n j : Nat} {l : List α} {d : α} {v : T} (ha : i.agg = false) (hm : ∀ x, (g x).length = m) (hk : k = n * m + j) (hj : j < m) (h : n < l.length) (hv : (g (l.getD n d))[j]? = some v) : partOf i (fl g l) k v := by
  subst hk
  refine part1 ha ?_
  have e := fl_at hm l h d
  rw [← e, sub, List.getElem?_take, if_pos hj, List.getElem?_drop] at hv
  exact hv
theorem fl_ids (hg : ∀ x, idsL (g x) = []) (l : List α) : idsL (fl g l) = [] := by
  induction l with
  | nil => rfl
  | cons a l ih =>
    rw [fl, List.flatMap_cons]
    have : ∀ (x y : List T), idsL x = [] → idsL y = [] → idsL (x ++ y) = [] := by
      intro x y hx hy
      induction x with
      | nil => exact hy
      | cons c x ihx =>
        simp only [List.cons_append, idsL, List.append_eq_nil_iff] at hx ⊢
        exact ⟨hx.1, ihx hx.2⟩
    exact this _ _ (hg a) ih
theorem fl_scal (hg : ∀ x, scalL (g x) = true) (l : List α) : scalL (fl g l) = true := by
  induction l with
  | nil => rfl
  | cons a l ih =>
    rw [fl, List.flatMap_cons]
    have : ∀ (x y : List T), scalL x = true → scalL y = true → scalL (x ++ y) = true := by
      intro x y hx hy
      induction x with
      | nil => exact hy
      | cons c x ihx =>
        simp only [List.cons_append, scalL, Bool.and_eq_true] at hx ⊢
        exact ⟨hx.1, ihx hx.2⟩
    exact this _ _ (hg a) ih
theorem fl_noB (hg : ∀ x, noBL (g x) = true) (l : List α) : noBL (fl g l) = true := by
  induction l with
  | nil => rfl
  | cons a l ih =>
    rw [fl, List.flatMap_cons]
    have : ∀ (x y : List T), noBL x = true → noBL y = true → noBL (x ++ y) = true := by
      intro x y hx hy
      induction x with
      | nil => exact hy
      | cons c x ihx =>
        simp only [List.cons_append, noBL, Bool.and_eq_true] at hx ⊢
        exact ⟨hx.1, ihx hx.2⟩
    exact this _ _ (hg a) ih
theorem fl_mem {i : Nat} (l : List α) (hg : ∀ x, idsL (g x) = []) : memN i (idsL (fl g l)) = false := by
  rw [fl_ids hg]; rfl
theorem fl_all (hm : ∀ x, (g x).length = m) (l : List α) : sub (fl g l) 0 (l.length * m) = fl g l := by
  have := fl_sub hm l 0 l.length
  rw [Nat.zero_mul] at this
  rw [this]; simp
theorem fl_app {c : List T} (hm : ∀ x, (g x).length = m) (l l2 : List α) (hc : c = fl g l2) : sub (fl g l) 0 (l.length * m) ++ c = fl g (l ++ l2) := by
  subst hc; rw [fl_all hm, fl, fl, fl, List.flatMap_append]
theorem fl_slc {t : Tag} {a b : Nat} {lo hi : Int} (hm : ∀ x, (g x).length = m) (l : List α) (h : 0 ≤ lo ∧ lo ≤ hi ∧ hi ≤ l.length) (ha : a = lo.toNat) (hb : b = hi.toNat) :
    T.sl m t (b - a) (sub (fl g l) (a * m) ((b - a) * m)) = T.sl m t (slc l lo hi).length (fl g (slc l lo hi)) := by
  subst ha; subst hb
  rw [slc_length l h, fl_sub hm]; rfl
theorem fl_set {k n : Nat} {x : α} {c : List T} (hm : ∀ x, (g x).length = m) (l : List α) (hc : c = g x) (hk : k = n * m) (h : n < l.length) : splice (fl g l) k c = fl g (l.set n x) := by
  subst hc; subst hk
  unfold splice
  have e : n * m + (g x).length = (n + 1) * m := by rw [hm, Nat.succ_mul]
  rw [e, fl_take hm, fl_drop hm, List.set_eq_take_append_cons_drop, if_pos h, fl, fl, fl, List.flatMap_append, List.flatMap_cons, List.append_assoc]
theorem fl_app' {c : List T} {k : Nat} (hm : ∀ x, (g x).length = m) (l l2 : List α) (hk : k = l.length) (hc : c = fl g l2) : sub (fl g l) 0 (k * m) ++ c = fl g (l ++ l2) := by
  subst hk; exact fl_app hm l l2 hc
theorem fl_room (hm : ∀ x, (g x).length = m) {l : List α} {o n : Nat} (h : o + n * m ≤ l.length * m) : o + n * m ≤ (fl g l).length := by rw [fl_len hm]; exact h
end
end Go.Vw

/- Plain lists: what is read at a place; loops that build, loops that compare. -/
import Derived.Test.YtdlnppcndcfikaaVx11
namespace Go.Vw
set_option linter.unusedVariables false
set_option linter.unusedSimpArgs false
open Go
section
variable {α : Type}
theorem gD_app (l l2 : List α) (i : Nat) (d : α) : (l ++ l2).getD i d = if i < l.length then l.getD i d else l2.getD (i - l.length) d := by
  simp only [List.getD_eq_getElem?_getD, List.getElem?_append]
  split <;> rfl
theorem gD_take (l : List α) (n i : Nat) (d : α) : (l.take n).getD i d = if i < n then l.getD i d else d := by
  simp only [List.getD_eq_getElem?_getD, List.getElem?_take]
  split <;> rfl
theorem gD_drop (l : List α) (n i : Nat) (d : α) : (l.drop n).getD i d = l.getD (n + i) d := by
  simp only [List.getD_eq_getElem?_getD, List.getElem?_drop]
theorem gD_out (l : List α) (i : Nat) (d : α) (h : l.length ≤ i) : l.getD i d = d := by
  rw [List.getD_eq_getElem?_getD, List.getElem?_eq_none h]; rfl
theorem gD_set (l : List α) (n i : Nat) (a d : α) : (l.set n a).getD i d = if n = i ∧ i < l.length then a else l.getD i d := by
  simp only [List.getD_eq_getElem?_getD, List.getElem?_set]
  by_cases h : n = i
  · subst h
    by_cases q : n < l.length
    · simp [q]
    · simp [q, List.getElem?_eq_none (Nat.le_of_not_lt q)]
  · simp [h]
theorem gD_rep (n i : Nat) (a d : α) : (List.replicate n a).getD i d = if i < n then a else d := by
  simp only [List.getD_eq_getElem?_getD, List.getElem?_replicate]
  split <;> rfl
theorem gD_map {β : Type} (l : List β) (f : β → α) (i : Nat) (d : α) (e : β) : (l.map f).getD i d = if i < l.length then f (l.getD i e) else d := by
  simp only [List.getD_eq_getElem?_getD, List.getElem?_map]
  by_cases h : i < l.length
  · simp [h]
  · simp [h]
theorem gD_range (n : Nat) (f : Nat → α) (i : Nat) (d : α) : ((List.range n).map f).getD i d = if i < n then f i else d := by
  rw [List.getD_eq_getElem?_getD, List.getElem?_map]
  by_cases h : i < n
  · rw [if_pos h, List.getElem?_range h]; rfl
  · rw [if_neg h, List.getElem?_eq_none (by simpa using h)]; rfl
theorem gD_cpy (l src : List α) (off n i : Nat) (d : α) (h : off ≤ l.length) : (cpy l off n src).getD i d = if off ≤ i ∧ i < off + min n src.length then src.getD (i - off) d else l.getD i d := by
  have e : (l.take off).length = off := by simp; omega
  have e2 : (l.take off ++ src.take n).length = off + min n src.length := by simp; omega
  rw [cpy, gD_app, e2]
  by_cases c : i < off + min n src.length
  · rw [if_pos c, gD_app, e]
    by_cases c2 : i < off
    · rw [if_pos c2, if_neg (by omega), gD_take, if_pos c2]
    · rw [if_neg c2, if_pos ⟨by omega, c⟩, gD_take, if_pos (by omega)]
  · rw [if_neg c, if_neg (by omega), gD_drop, List.length_take]
    congr 1; omega
theorem ext_gD (d : α) {l l2 : List α} (hl : l.length = l2.length) (h : ∀ i, i < l.length → l.getD i d = l2.getD i d) : l = l2 := by
  refine List.ext_getElem hl (fun i h1 h2 => ?_)
  have := h i h1
  rwa [List.getD_eq_getElem?_getD, List.getD_eq_getElem?_getD, List.getElem?_eq_getElem h1, List.getElem?_eq_getElem h2] at this
theorem drop_cons (l : List α) (n : Nat) (d : α) (h : n < l.length) : l.drop n = l.getD n d :: l.drop (n + 1) := by
  rw [List.getD_eq_getElem?_getD, List.getElem?_eq_getElem h]
  exact List.drop_eq_getElem_cons h
theorem slc_drop (l : List α) (lo : Int) : slc l lo (l.length : Int) = l.drop lo.toNat := by
  rw [slc, List.take_of_length_le]; simp
theorem slc_all (l : List α) : slc l 0 (l.length : Int) = l := by
  rw [slc_drop]; rfl
theorem slc_take (l : List α) (hi : Int) : slc l 0 hi = l.take hi.toNat := by
  simp [slc]
end
theorem or_step (a b m i : Nat) (h : 2 ^ i = m) (hb : b < m) : (a * m ||| b) = a * m + b := by
  subst h
  have := Nat.shiftLeft_add_eq_or_of_lt hb a
  rw [Nat.shiftLeft_eq] at this
  exact this.symm
theorem orB8 (a b : UInt8) : orI ((a.toNat : Int) * 256) (b.toNat : Int) = (a.toNat : Int) * 256 + (b.toNat : Int) := by
  have h1 := a.toNat_lt; have h2 := b.toNat_lt
  have := orI_nat (a.toNat * 256) b.toNat (by omega) (by omega)
  rw [or_step _ _ 256 8 (by decide) (by omega)] at this
  exact this
theorem u64i_len (n : Nat) (h : n < 18446744073709551616) : (u64i (n : Int)).toNat = n := by
  rw [u64i, UInt64.toNat_ofNat']; omega
theorem u8i_nat (n : Nat) (h : n < 256) : (u8i (n : Int)).toNat = n := by
  rw [u8i, UInt8.toNat_ofNat']; omega
theorem u8i_mod (n : Nat) : (u8i (n : Int)).toNat = n % 256 := by
  rw [u8i, UInt8.toNat_ofNat']; omega
section
variable {α β ρ : Type}
theorem flat_succ (f : Nat → List α) (n : Nat) : (List.range (n + 1)).flatMap f = (List.range n).flatMap f ++ f n := by
  rw [List.range_succ, List.flatMap_append]; simp
theorem flat_len (f : Nat → List α) (c : Nat) : ∀ n, (∀ i, i < n → (f i).length = c) → ((List.range n).flatMap f).length = c * n := by
  intro n
  induction n with
  | zero => intro _; simp
  | succ n ih =>
    intro h
    rw [flat_succ, List.length_append, ih (fun i hi => h i (by omega)), h n (by omega), Nat.mul_succ]
theorem flat_gD (f : Nat → List α) (c : Nat) (d : α) (i j : Nat) (hj : j < c) : ∀ n, (∀ i, i < n → (f i).length = c) → i < n → ((List.range n).flatMap f).getD (c * i + j) d = (f i).getD j d := by
  intro n
  induction n with
  | zero => intro _ h; exact absurd h (Nat.not_lt_zero _)
  | succ n ih =>
    intro h hi
    have hl := flat_len f c n (fun i hi => h i (by omega))
    rw [flat_succ, gD_app, hl]
    by_cases e : i = n
    · subst e
      rw [if_neg (by omega), show c * i + j - c * i = j by omega]
    · have : c * (i + 1) ≤ c * n := Nat.mul_le_mul_left _ (by omega)
      rw [Nat.mul_succ] at this
      rw [if_pos (by omega), ih (fun i hi => h i (by omega)) (by omega)]
theorem set_le {l : List (List α)} {c k : Nat} {x : List α} (h : ∀ i : Nat, (l.getD i []).length ≤ c) (hx : x.length ≤ c) : ∀ i : Nat, ((l.set k x).getD i []).length ≤ c := by
  intro i; rw [gD_set]; split
  · exact hx
  · exact h i
theorem one_le {c : Nat} {x : List α} (hx : x.length ≤ c) : ∀ i : Nat, (([x] : List (List α)).getD i []).length ≤ c := by
  intro i
  cases i with
  | zero => exact hx
  | succ i => exact Nat.zero_le _
theorem flat_congr (f g : Nat → List α) : ∀ n, (∀ i, i < n → f i = g i) → (List.range n).flatMap f = (List.range n).flatMap g := by
  intro n
  induction n with
  | zero => intro _; rfl
  | succ n ih => intro h; rw [flat_succ, flat_succ, ih (fun i hi => h i (by omega)), h n (by omega)]
/-- A loop that adds to a list at each step. -/
theorem appLoop {f : Nat → Int → List α → Lo (List α) ρ} {n : Int} {g : Int → List α} (hs : ∀ m i o, 0 ≤ i → f (m + 1) i o = _root_.cond (decide (i < n)) (f m (i + 1) (o ++ g i)) (.brk o)) :
    ∀ (m : Nat) (i : Int) (o : List α), 0 ≤ i → (n - i).toNat < m → f m i o = .brk (o ++ (List.range (n - i).toNat).flatMap (fun k : Nat => g (i + k))) := by
  intro m
  induction m with
  | zero => intro i o _ h; exact absurd h (Nat.not_lt_zero _)
  | succ m ih =>
    intro i o h0 h
    rw [hs m i o h0]
    by_cases c : i < n
    · rw [decide_eq_true c, cond_true, ih (i + 1) _ (by omega) (by omega)]
      have e : (n - i).toNat = (n - (i + 1)).toNat + 1 := by omega
      have e2 : ∀ k : Nat, i + 1 + (k : Int) = i + ((k + 1 : Nat) : Int) := by intro k; omega
      rw [e, List.range_succ_eq_map, List.flatMap_cons, List.append_assoc, List.flatMap_map]
      simp only [e2]
      rw [show i + ((0 : Nat) : Int) = i by omega]
    · rw [decide_eq_false c, cond_false, show (n - i).toNat = 0 by omega]
      simp
/-- A loop that leaves at the first place where something is so. -/
theorem cmpLoop {f : Nat → Int → Lo Unit ρ} {n : Int} {p : Nat → Bool} {r : ρ} (hs : ∀ m i, 0 ≤ i → f (m + 1) i = _root_.cond (decide (i < n)) (_root_.cond (p i.toNat) (.ret r) (f m (i + 1))) (.brk ())) :
    ∀ (m : Nat) (i : Int), 0 ≤ i → (n - i).toNat < m → ((∀ j : Nat, i ≤ j → (j : Int) < n → p j = false) ∧ f m i = .brk ()) ∨ ((∃ j : Nat, i ≤ j ∧ (j : Int) < n ∧ p j = true) ∧ f m i = .ret r) := by
  intro m
  induction m with
  | zero => intro i _ h; exact absurd h (Nat.not_lt_zero _)
  | succ m ih =>
    intro i h0 h
    rw [hs m i h0]
    by_cases c : i < n
    · rw [decide_eq_true c, cond_true]
      cases q : p i.toNat with
      | true => rw [cond_true]; exact .inr ⟨⟨i.toNat, by omega, by omega, q⟩, rfl⟩
      | false =>
        rw [cond_false]
        rcases ih (i + 1) (by omega) (by omega) with ⟨a, b⟩ | ⟨⟨j, a, b, e⟩, g⟩
        · refine .inl ⟨fun j h1 h2 => ?_, b⟩
          by_cases w : i = j
          · subst w; rwa [Int.toNat_natCast] at q
          · exact a j (by omega) h2
        · exact .inr ⟨⟨j, by omega, b, e⟩, g⟩
    · rw [decide_eq_false c, cond_false]
      exact .inl ⟨fun j h1 h2 => absurd h2 (by omega), rfl⟩
end
end Go.Vw

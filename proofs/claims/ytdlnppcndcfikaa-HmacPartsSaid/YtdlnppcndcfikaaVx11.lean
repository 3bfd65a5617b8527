/- Whole numbers, or'ed. -/
import Derived.Test.YtdlnppcndcfikaaVx10
namespace Go.Vw
set_option linter.unusedVariables false
set_option linter.unusedSimpArgs false
open Go
theorem orI_nat (a b : Nat) (ha : a < 9223372036854775808) (hb : b < 9223372036854775808) : orI a b = ((a ||| b : Nat) : Int) := by
  have hab : a ||| b < 2 ^ 63 := Nat.or_lt_two_pow (by omega) (by omega)
  have e1 : (BitVec.ofInt 64 (a : Int) ||| BitVec.ofInt 64 (b : Int)).toNat = a ||| b := by
    rw [BitVec.toNat_or, BitVec.toNat_ofInt, BitVec.toNat_ofInt]
    congr 1
    · omega
    · omega
  rw [orI, e1]
  have := iw ((a ||| b : Nat) : Int) (by omega)
  unfold ti at this
  injection this with this
  injection this
theorem orI_nonneg {a b : Int} (ha : 0 ≤ a ∧ a < 9223372036854775808) (hb : 0 ≤ b ∧ b < 9223372036854775808) : 0 ≤ orI a b := by
  obtain ⟨x, rfl⟩ := Int.eq_ofNat_of_zero_le ha.1
  obtain ⟨y, rfl⟩ := Int.eq_ofNat_of_zero_le hb.1
  rw [orI_nat x y (by omega) (by omega)]; omega
theorem b8s_noB (l : List (List UInt8)) : noBL (b8s .shr l) = true := mp_noB l (fun c => by rw [T.noB]; exact u8s_noB c)
@[simp] theorem slc_len {α : Type} (l : List α) (lo hi : Int) : (slc l lo hi).length = min (hi.toNat - lo.toNat) (l.length - lo.toNat) := by simp [slc]
theorem slc_getD {α : Type} (l : List α) (lo hi : Int) (k : Nat) (d : α) : (slc l lo hi).getD k d = if k < hi.toNat - lo.toNat then l.getD (lo.toNat + k) d else d := by
  simp only [slc, List.getD_eq_getElem?_getD, List.getElem?_take, List.getElem?_drop]
  split <;> rfl
theorem shlC (k : Nat) (x c : Int) (hc : (2 : Int) ^ (min k 64) = c) (h : -9223372036854775808 ≤ x * c ∧ x * c < 9223372036854775808) : ti (IntKind.i64.wrap (x * 2 ^ (min k 64))) = ti (x * c) := by
  rw [hc]; exact iw _ h
theorem giveOk {α : Type} {g : α → T} {n : Nat} (l : List α) (h : n = l.length) (hg : ∀ x, (g x).ids = []) : idsL (l.map g) = [] ∧ n * 1 ≤ (l.map g).length :=
  ⟨mp_ids l hg, by simp [h]⟩
theorem giveEq {α : Type} {g : α → T} {n : Nat} (l : List α) (h : n = l.length) : T.sl 1 .shr n (sub (l.map g) 0 (n * 1)) = T.sl 1 .shr l.length (l.map g) := by
  subst h; rw [mp_all]
theorem bnd_eq {α β : Type} (v : α) (F : α → β) : bnd v F = F v := rfl
theorem slc_le {β : Type} {l : List (List β)} {c : Nat} (h : ∀ i : Nat, (l.getD i []).length ≤ c) (lo hi : Int) : ∀ i : Nat, ((slc l lo hi).getD i []).length ≤ c := by
  intro i; rw [slc_getD]; split
  · exact h _
  · exact Nat.zero_le _
theorem app_le {β : Type} {l l2 : List (List β)} {c : Nat} (h : ∀ i : Nat, (l.getD i []).length ≤ c) (h2 : ∀ i : Nat, (l2.getD i []).length ≤ c) : ∀ i : Nat, ((l ++ l2).getD i []).length ≤ c := by
  intro i
  by_cases q : i < l.length
  · have := h i
    simpa only [List.getD_eq_getElem?_getD, List.getElem?_append_left q] using this
  · have := h2 (i - l.length)
    simpa only [List.getD_eq_getElem?_getD, List.getElem?_append_right (Nat.le_of_not_lt q)] using this
theorem get_le {β : Type} {l : List (List β)} {c d : Nat} (h : ∀ i : Nat, (l.getD i []).length ≤ c) (q : c ≤ d) : ∀ i : Nat, (l.getD i []).length ≤ d := fun i => Nat.le_trans (h i) q
end Go.Vw

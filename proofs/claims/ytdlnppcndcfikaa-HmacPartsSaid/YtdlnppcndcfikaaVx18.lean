/- Lists that lead to nothing are flat. -/
import Derived.Test.YtdlnppcndcfikaaVx17
namespace Go.Vw
set_option linter.unusedVariables false
set_option linter.unusedSimpArgs false
open Go Go.RowKit
theorem mp_flat {α : Type} {q : Option (List Nat)} {g : α → T} (h : ∀ x, flatT q (g x) = true) (l : List α) : flatL q (l.map g) = true := by
  induction l with
  | nil => rfl
  | cons a l ih => simp only [List.map_cons, flatL, h a, Bool.true_and]; exact ih
theorem mp_flatA {α : Type} {q : Option (List Nat)} {g : α → T} (h : ∀ x, flatT q (g x) = true) (l : List α) : flatT q (.agg (l.map g)) = true := by simp only [flatT]; exact mp_flat h l
theorem flatL_app {q : Option (List Nat)} : ∀ {a b : List T}, flatL q a = true → flatL q b = true → flatL q (a ++ b) = true
  | [], b, _, h => h
  | x :: a, b, h1, h2 => by
    simp only [flatL, Bool.and_eq_true] at h1
    simp only [List.cons_append, flatL, Bool.and_eq_true]
    exact ⟨h1.1, flatL_app h1.2 h2⟩
theorem fl_flat {α : Type} {q : Option (List Nat)} {g : α → List T} (h : ∀ x, flatL q (g x) = true) (l : List α) : flatL q (fl g l) = true := by
  induction l with
  | nil => rfl
  | cons a l ih => rw [fl, List.flatMap_cons]; exact flatL_app (h a) ih
theorem er_flat {q : Option (List Nat)} (ty : TypeId) (n : Int) : flatT q (er ty n) = true := by unfold er; split <;> rfl
end Go.Vw

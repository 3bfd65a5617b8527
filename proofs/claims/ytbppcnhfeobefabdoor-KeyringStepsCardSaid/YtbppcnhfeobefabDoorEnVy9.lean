import Derived.Test.YtbppcnhfeobefabDoorEnVy0
set_option linter.unusedVariables false
namespace Go.Vw
open Go Go.RowKit
variable {α : Type} {g : α → List T} {m : Nat}
theorem fl_xl {t : Tag} {a b : Nat} (hm : ∀ x, (g x).length = m) (l : List α) (ha : a = 0) (hb : b = l.length) : T.xl m t (b - a) (sub (fl g l) (a * m) ((b - a) * m)) = T.xl m t l.length (fl g l) := by
 subst ha; subst hb; rw [Nat.zero_mul, Nat.sub_zero, fl_all hm]
theorem fl_xapp {c : List T} (l l2 : List α) (hc : c = fl g l2) : fl g l ++ c = fl g (l ++ l2) := by
 subst hc; rw [fl, fl, fl, List.flatMap_append]
end Go.Vw

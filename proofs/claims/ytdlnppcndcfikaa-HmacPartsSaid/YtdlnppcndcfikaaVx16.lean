/- Arrays as lists. -/
import Derived.Test.YtdlnppcndcfikaaVx15
namespace Go.Vw
set_option linter.unusedVariables false
set_option linter.unusedSimpArgs false
open Go Go.RowKit
section
variable {α : Type} {g : α → T}
theorem mp_whole {i : TI} {l : List α} {n : Nat} (ha : i.agg = true) (hs : i.size = n) (hl : l.length = n) : partOf i (l.map g) 0 (.agg (l.map g)) := by
  refine partA ha (by rw [hs, List.length_map, hl]; omega) ?_
  rw [hs, sub, List.drop_zero, List.take_of_length_le (by rw [List.length_map, hl]; exact Nat.le_refl _)]
theorem arr_all {l : List α} {n : Nat} (h : l.length = n) : sub (l.map g) 0 n = l.map g := by
  rw [sub, List.drop_zero, List.take_of_length_le (by rw [List.length_map, h]; exact Nat.le_refl _)]
theorem arr_list {l : List α} {n : Nat} (h : l.length = n) (d : α) : (List.range n).map (fun i => l.getD i d) = l := by
  refine ext_gD d (by simp [h]) (fun i hi => ?_)
  rw [List.length_map, List.length_range] at hi
  rw [gD_range, if_pos hi]
theorem arr_store {l x : List α} (h : x.length = l.length) : splice (l.map g) 0 (x.map g) = x.map g := by
  unfold splice
  rw [List.length_map, Nat.zero_add, List.drop_of_length_le (by rw [List.length_map, h]; exact Nat.le_refl _)]
  simp
end
theorem Go.exitX {E : Env} {Γ : Cx} {f : FuncId} {N : Nat} {S : List Nat} {k : List Item} {σ : St} {α β : Type} {Pf : β → Value → World → Prop} {F : α → β} {a : α} (h : Go E Γ f N S (Pf (F a)) k σ) : Go E Γ f N S (Pf (Lo.el (Lo.brk a) F)) k σ := h
theorem splice_whole {cs v : List T} (h : v.length = cs.length) : splice cs 0 v = v := by
  unfold splice
  rw [Nat.zero_add, List.drop_of_length_le (by rw [h]; exact Nat.le_refl _)]
  simp
theorem eqL_u8 : ∀ (n : Nat) (a b : List UInt8), a.length = n → b.length = n → eqL (rep [.int .u8] n) (u8s a) (u8s b) = some (a == b)
  | 0, [], [], _, _ => rfl
  | n + 1, x :: a, y :: b, h, k => by
    have ih := eqL_u8 n a b (by simpa using h) (by simpa using k)
    show eqL (.int .u8 :: rep [.int .u8] n) (.leaf (.int .u8 x.toNat) :: u8s a) (.leaf (.int .u8 y.toNat) :: u8s b) = _
    have e : ((x.toNat : Int) == (y.toNat : Int)) = (x == y) := by
      rw [Bool.eq_iff_iff]
      simp only [beq_iff_eq]
      constructor
      · intro h; exact u8eq (by omega)
      · rintro rfl; rfl
    rw [eqL, ih]
    simp only [leafEq, decide_true, e, List.cons_beq_cons]
end Go.Vw

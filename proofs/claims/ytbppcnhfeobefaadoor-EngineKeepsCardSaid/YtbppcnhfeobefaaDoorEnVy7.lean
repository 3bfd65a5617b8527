import Derived.Test.YtbppcnhfeobefaaDoorEnVy0
set_option linter.unusedVariables false
set_option linter.unusedSimpArgs false
namespace Go.Vw
open Go Go.RowKit
theorem splice_one (F : List T) {p : Nat} (hp : p < F.length) (x : T) : splice F p [x] = F.set p x := by
  unfold splice
  rw [List.set_eq_take_append_cons_drop, if_pos hp]; simp
theorem splice_set1 (F : List T) (k j m : Nat) (x : T) (hj : j < m) (hk : k + m ≤ F.length) : splice F (k + j) [x] = splice F k ((sub F k m).set j x) := by
  have hsl : (sub F k m).length = m := by simp [sub]; omega
  have htk : (F.take k).length = k := by simp; omega
  have h0 : F.take k ++ (sub F k m ++ F.drop (k + m)) = F := by
    rw [sub, ← List.drop_drop, List.take_append_drop, List.take_append_drop]
  rw [splice_one F (by omega)]
  unfold splice
  rw [List.length_set, hsl, List.append_assoc]
  have h1 : F.set (k + j) x = (F.take k ++ (sub F k m ++ F.drop (k + m))).set (k + j) x := by rw [h0]
  rw [h1, List.set_append_right _ _ (by rw [htk]; omega), htk, Nat.add_sub_cancel_left, List.set_append_left _ _ (by rw [hsl]; exact hj)]
section
variable {α : Type} {m : Nat} {g : α → List T}
theorem fl_setj {k n j : Nat} {x : T} {y : α} {d : α} (hm : ∀ x, (g x).length = m) (l : List α) (hk : k = n * m + j) (hj : j < m) (h : n < l.length) (hy : (g (l.getD n d)).set j x = g y) : splice (fl g l) k [x] = fl g (l.set n y) := by
  subst hk
  rw [splice_set1 (fl g l) (n * m) j m x hj (by rw [fl_len hm, ← Nat.succ_mul]; exact Nat.mul_le_mul_right _ h), fl_at hm l h d, hy, fl_set hm l rfl rfl h]
theorem splice_le {F : List T} {p : Nat} {x y : T} (hp : p < F.length) (h : T.Le x y) (hx : idsL F = [] ∨ ∀ i ∈ y.ids, i ∈ x.ids) : LeC (splice F p [x]) (splice F p [y]) := by
  rw [splice_one F hp, splice_one F hp]
  refine ⟨fun w ok β vs hr => ?_, fun i hi => ?_, by simp⟩
  · have := RepL.reset (fun v hv => h.1 w ok β v hv) (F.set p x) p vs (by rw [List.getElem?_set_self hp]) hr
    rwa [List.set_set] at this
  · have e2 : F.set p y = (F.set p x).set p y := by rw [List.set_set]
    rw [e2] at hi
    rcases ids_set (F.set p x) p i hi with q | q
    · exact q
    · exact RepL.idsub (ts := F.set p x) (i := p) (t := x) (by rw [List.getElem?_set_self hp]) i (h.2 i q)
theorem fl_nilj {k n j : Nat} {y : α} {d : α} {mm : Nat} {tg : Tag} (hm : ∀ x, (g x).length = m) (l : List α) (hk : k = n * m + j) (hj : j < m) (h : n < l.length) (hy : (g (l.getD n d)).set j (.sl mm tg 0 []) = g y) : LeC (splice (fl g l) k [.leaf (.slice none 0 0)]) (fl g (l.set n y)) := by
  rw [← fl_setj hm l hk hj h hy]
  subst hk
  exact splice_le (by rw [fl_len hm]; have := Nat.mul_le_mul_right m h; rw [Nat.succ_mul] at this; omega) (T.Le.nil mm tg) (.inr (fun i hi => by simp [T.ids] at hi))
end
theorem Go.objLe {E : Env} {Γ : Cx} {f : FuncId} {N : Nat} {S : List Nat} {Post : Value → World → Prop} {k : List Item} {L : List (Nat × T)} {H : List (Nat × List T)} (i : Nat) (cs cs' : List T) (hi : look H i = some cs) (h : LeC cs cs')
    (hg : Go E Γ f N S Post k (stL L (ins i cs' H))) : Go E Γ f N S Post k (stL L H) :=
  fun h1 h2 h3 a w ⟨β, hsb⟩ => hg h1 h2 h3 a w ⟨β, by have := hsb.objLeT (i := i) (cs := cs) (cs' := cs') hi h; simpa only [stL, look_ins] using this⟩
theorem Go.objEq {E : Env} {Γ : Cx} {f : FuncId} {N : Nat} {S : List Nat} {Post : Value → World → Prop} {k : List Item} {L : List (Nat × T)} {H : List (Nat × List T)} (i : Nat) (cs cs' : List T) (hi : look H i = some cs) (h : cs = cs')
    (hg : Go E Γ f N S Post k (stL L (ins i cs' H))) : Go E Γ f N S Post k (stL L H) :=
  Go.objLe i cs cs' hi (h ▸ ⟨fun _ _ _ _ r => r, fun _ q => q, rfl⟩) hg
theorem Go.cut {E : Env} {Γ : Cx} {f : FuncId} {N : Nat} {S : List Nat} {Post : Value → World → Prop} {k k0 rest : List Item} {σ : St} {c : Operand} {x y : Code} (n : Nat) (hk : k = k0) (_he : normI n k0 = .code (.cond c x y) :: rest) (h : ∀ kn, kn = normI 20 rest → Go E Γ f N S Post k σ) : Go E Γ f N S Post k σ := h _ rfl
theorem Go.jn {E : Env} {Γ : Cx} {f : FuncId} {N : Nat} {S : List Nat} {k : List Item} {σ : St} {α β : Type} {Pf : β → Value → World → Prop} {v : α} {F : α → β} (h : ∀ x, x = v → Go E Γ f N S (Pf (F x)) k σ) : Go E Γ f N S (Pf (Vw.bnd v F)) k σ := h v rfl
theorem Go.forgetX {E : Env} {Γ : Cx} {f : FuncId} {N : Nat} {S : List Nat} {Post : Value → World → Prop} {k : List Item} {L : List (Nat × T)} {H : List (Nat × List T)} (ps pg is : List Nat) (cds : List Prop) (L' : List (Nat × T)) (H' : List (Nat × List T))
    (hx : drpX ps pg is L H = (cds, L', H')) (hp : AllP cds) (hg : Go E Γ f N S Post k (stL L' H')) : Go E Γ f N S Post k (stL L H) := by
  refine Go.drops is ?_
  have e := drpX_eq (ps := ps) (pg := pg) is L H (by rw [hx]; exact hp)
  rw [hx] at e
  rw [e]; exact hg
end Go.Vw

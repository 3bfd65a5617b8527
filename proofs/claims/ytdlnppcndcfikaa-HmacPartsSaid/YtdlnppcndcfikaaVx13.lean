/- Own slices as results: an object told by its first cells alone. -/
import Derived.Test.YtdlnppcndcfikaaVx12
namespace Go.Vw
set_option linter.unusedVariables false
set_option linter.unusedSimpArgs false
open Go Go.RowKit

theorem own_dom {σ τ : St} (h : ∀ j, σ.h j = none ↔ τ.h j = none) (β : Nat → Real) : own σ β = own τ β := by
  funext b
  apply propext
  constructor
  · rintro ⟨id, c, o, E, e1, e2⟩
    cases e : τ.h id with
    | none => rw [(h id).2 e] at e1; cases e1
    | some c' => exact ⟨id, c', o, E, e, e2⟩
  · rintro ⟨id, c, o, E, e1, e2⟩
    cases e : σ.h id with
    | none => rw [(h id).1 e] at e1; cases e1
    | some c' => exact ⟨id, c', o, E, e, e2⟩
theorem SimB.cutH {Γ : Cx} {σ : St} {β : Nat → Real} {a : Act} {w : World} (hs : SimB Γ σ β a w) {i k : Nat} {cs : List T} (hi : σ.h i = some cs) : SimB Γ { σ with h := upd σ.h i (some (cs.take k)) } β a w := by
  have hd : ∀ j, σ.h j = none ↔ (upd σ.h i (some (cs.take k))) j = none := fun j => by
    simp only [upd]; split
    · rename_i e; subst e; rw [hi]; simp
    · exact Iff.rfl
  have ho : own { σ with h := upd σ.h i (some (cs.take k)) } β = own σ β := (own_dom (τ := { σ with h := upd σ.h i (some (cs.take k)) }) hd β).symm
  have hk : okOf Γ.X { σ with h := upd σ.h i (some (cs.take k)) } β w = okOf Γ.X σ β w := by
    unfold okOf; rw [ho]
  refine ⟨hs.defers, hs.size, hs.keeps, fun t x e => ?_, fun j c e => ?_, fun id id' c c' b o E o' E' e1 e2 e3 e4 => ?_, fun b hb => ?_, fun t x e j hj => ?_, fun j c e l hl => ?_, hs.stab⟩
  · rw [hk]; exact hs.slot t x e
  · rw [hk]
    simp only [upd] at e
    split at e
    · rename_i q; subst q; injection e with e; subst e
      have h := hs.obj _ _ hi
      cases hb : β j with
      | ph => rw [hb] at h; simp only [ObjAt] at h ⊢; subst h; simp
      | real b o E =>
        rw [hb] at h; simp only [ObjAt] at h ⊢
        obtain ⟨c, e, fr, vs, h1, h2, h3, h4, h5, h6⟩ := h
        exact ⟨c, e, fr, vs.take k, h1, h2, by rw [List.length_take]; omega, h4, h5.take k, h6.take k⟩
    · exact hs.obj _ _ e
  · have g : ∀ j c, (upd σ.h i (some (cs.take k))) j = some c → ∃ c', σ.h j = some c' := fun j c e => by
      cases q : σ.h j with
      | none => rw [(hd j).1 q] at e; cases e
      | some c' => exact ⟨c', rfl⟩
    obtain ⟨c1, q1⟩ := g _ _ e1
    obtain ⟨c2, q2⟩ := g _ _ e2
    exact hs.inj id id' c1 c2 b o E o' E' q1 q2 e3 e4
  · rw [ho] at hb; exact hs.ownb b hb
  · exact fun q => hs.wfs t x e j hj ((hd j).2 q)
  · simp only [upd] at e
    have : ∃ c', σ.h j = some c' ∧ l ∈ idsL c' := by
      split at e
      · rename_i q; subst q; injection e with e; subst e; exact ⟨cs, hi, ids_take k l hl⟩
      · exact ⟨c, e, hl⟩
    obtain ⟨c', q1, q2⟩ := this
    exact fun q => hs.wfh j c' q1 l q2 ((hd l).2 q)
theorem Go.cutH {E : Env} {Γ : Cx} {f : FuncId} {N : Nat} {S : List Nat} {Post : Value → World → Prop} {k : List Item} {L : List (Nat × T)} {H : List (Nat × List T)} (i n : Nat) {cs : List T} (new : List T) (hi : look H i = some cs) (hn : cs.take n = new)
    (hg : Go E Γ f N S Post k (stL L (ins i new H))) : Go E Γ f N S Post k (stL L H) := by
  intro h1 h2 h3 a w ⟨β, hs⟩
  refine hg h1 h2 h3 a w ⟨β, ?_⟩
  have := hs.cutH (i := i) (k := n) hi
  rw [hn] at this
  simpa only [stL, look_ins] using this
instance {α β : Type} [Inhabited β] : Inhabited (Lo α β) := ⟨.ret default⟩
theorem flat_all {α : Type} : ∀ (l : List (List α)), (List.range l.length).flatMap (fun k => l.getD k []) = l.flatten := by
  intro l
  induction l with
  | nil => rfl
  | cons a l ih =>
    rw [List.length_cons, List.range_succ_eq_map, List.flatMap_cons, List.flatMap_map, List.flatten_cons, ← ih]
    rfl
theorem nil_le {α : Type} {c : Nat} : ∀ i : Nat, (([] : List (List α)).getD i []).length ≤ c := fun i => by simp
theorem cons_le {α : Type} {x : List α} {l : List (List α)} {c : Nat} (h : x.length ≤ c) (hl : ∀ i : Nat, (l.getD i []).length ≤ c) : ∀ i : Nat, ((x :: l).getD i []).length ≤ c := by
  intro i
  cases i with
  | zero => exact h
  | succ i => exact hl i
/-- A slice that holds nothing is nil, or is not. -/
theorem Meets.nilOr {P : Program} {f : FuncId} {m : Nat} {g : Tag} {A : List T} {H H' : List (Nat × List T)} {S : List Nat} {R : T} (h : ∀ ad cap, Meets P f (.leaf (.slice ad 0 cap) :: A) H S R H') : Meets P f (.sl m g 0 [] :: A) H S R H' := by
  refine fun Γ β vs hP hS hn hvl hβ hlent hs => ?_
  obtain ⟨v, hv1, hv2⟩ := hs.slot 0 _ rfl
  simp only [Rep] at hv2
  obtain ⟨_, ad, cap, rfl, _⟩ := hv2
  refine h ad cap Γ β vs hP hS hn (by simpa using hvl) hβ (hlent.trans rfl) ⟨hs.defers, hs.size, hs.keeps, fun t y e => ?_, hs.obj, hs.inj, hs.ownb, fun t y e => ?_, hs.wfh, hs.stab⟩
  · cases t with
    | zero => simp only [List.getElem?_cons_zero, Option.some.injEq] at e; subst e; exact ⟨_, hv1, by simp only [Rep]⟩
    | succ t => exact hs.slot (t + 1) y (by simpa using e)
  · cases t with
    | zero => simp only [List.getElem?_cons_zero, Option.some.injEq] at e; subst e; simp [T.ids]
    | succ t => exact hs.wfs (t + 1) y (by simpa using e)
theorem RepAt.le {w : World} {ok : Tag → Nat → Prop} {b : Nat} {cs cs' : List T} (h : LeL cs cs') : ∀ o, RepAt w ok b cs o → RepAt w ok b cs' o := by
  induction h with
  | nil => exact fun _ h => h
  | cons h0 _ ih =>
    intro o h
    simp only [RepAt] at h ⊢
    obtain ⟨⟨v, h1, h2⟩, h3⟩ := h
    exact ⟨⟨v, h1, h0.1 _ _ _ _ h2⟩, ih _ h3⟩
theorem LeL.len {cs cs' : List T} (h : LeL cs cs') : cs.length = cs'.length := by
  induction h with
  | nil => rfl
  | cons _ _ ih => simp [ih]
theorem T.Le.cells {m n : Nat} {g : Tag} {cs cs' : List T} (h : LeL cs cs') (hi : idsL cs' = []) : T.Le (.sl m g n cs) (.sl m g n cs') := by
  refine ⟨fun w ok β v hr => ?_, fun i hi => by simp [T.ids] at hi⟩
  simp only [Rep] at hr ⊢
  obtain ⟨⟨h1, h2⟩, ad, cap, h3, h4, h5⟩ := hr
  refine ⟨⟨h.len ▸ h1, hi⟩, ad, cap, h3, h4, h5.imp id ?_⟩
  rintro ⟨b, o, e, hok, hr⟩
  exact ⟨b, o, e, hok, RepAt.le h _ hr⟩
end Go.Vw

import Derived.Test.YtbppcnhfeobefaaDoorEnVx5
import Derived.Laws.LoneSync
set_option linter.unusedVariables false
set_option linter.unusedSimpArgs false
namespace Go.Vw
open Go Go.RowKit
def Ren (ρ : Nat → Nat) (x y : T) : Prop := y.ids = x.ids.map ρ ∧ ∀ (w : World) (ok : Tag → Nat → Prop) (β : Nat → Real) (v : Value), Rep w ok y β v ↔ Rep w ok x (fun i => β (ρ i)) v
def RenL (ρ : Nat → Nat) (x y : List T) : Prop := (idsL y = (idsL x).map ρ ∧ y.length = x.length) ∧ ∀ (w : World) (ok : Tag → Nat → Prop) (β : Nat → Real) (vs : List Value), RepL w ok y β vs ↔ RepL w ok x (fun i => β (ρ i)) vs
section
variable {ρ : Nat → Nat}
theorem Ren.same {x : T} (h : x.ids = []) : Ren ρ x x :=
  ⟨by rw [h]; rfl, fun w ok β v => ⟨Rep.mono (fun _ _ hb => ⟨hb, rfl⟩) x _ _ v (by rw [h]; simp), Rep.mono (fun _ _ hb => ⟨hb, rfl⟩) x _ _ v (by rw [h]; simp)⟩⟩
theorem RenL.same {x : List T} (h : idsL x = []) : RenL ρ x x :=
  ⟨⟨by rw [h]; rfl, rfl⟩, fun w ok β v => ⟨RepL.mono (fun _ _ hb => ⟨hb, rfl⟩) x _ _ v (by rw [h]; simp), RepL.mono (fun _ _ hb => ⟨hb, rfl⟩) x _ _ v (by rw [h]; simp)⟩⟩
theorem Ren.addr {i j : Nat} (h : ρ i = j) (o : Nat) : Ren ρ (.addr i o) (.addr j o) := by
  subst h; exact ⟨rfl, fun w ok β v => by simp only [Rep]⟩
theorem Ren.ref {i j : Nat} (h : ρ i = j) (m o n : Nat) : Ren ρ (.ref i m o n) (.ref j m o n) := by
  subst h; exact ⟨rfl, fun w ok β v => by simp only [Rep]⟩
theorem RenL.nil : RenL ρ [] [] := ⟨⟨rfl, rfl⟩, fun w ok β v => by simp only [RepL]⟩
theorem RenL.cons {x y : T} {xs ys : List T} (h : Ren ρ x y) (t : RenL ρ xs ys) : RenL ρ (x :: xs) (y :: ys) :=
  ⟨⟨by simp only [idsL, List.map_append, h.1, t.1.1], by simp [t.1.2]⟩, fun w ok β vs => by simp only [RepL, h.2, t.2]⟩
theorem Ren.agg {xs ys : List T} (t : RenL ρ xs ys) : Ren ρ (.agg xs) (.agg ys) := ⟨by simp only [T.ids, t.1.1], fun w ok β vs => by simp only [Rep, t.2]⟩
theorem Ren.tup {xs ys : List T} (t : RenL ρ xs ys) : Ren ρ (.tup xs) (.tup ys) := ⟨by simp only [T.ids, t.1.1], fun w ok β vs => by simp only [Rep, t.2]⟩
theorem Ren.iface {x y : T} (ty : TypeId) (h : Ren ρ x y) : Ren ρ (.iface ty x) (.iface ty y) := ⟨by simp only [T.ids, h.1], fun w ok β vs => by simp only [Rep, h.2]⟩
theorem Ren.fn {p p' q q' : List T} (f : Fn) (h : RenL ρ p p') (h' : RenL ρ q q') : Ren ρ (.fn f p q) (.fn f p' q') := ⟨by simp only [T.ids, List.map_append, h.1.1, h'.1.1], fun w ok β vs => by simp only [Rep, h.2, h'.2]⟩
inductive RenA (ρ : Nat → Nat) : List T → List T → Prop
  | nil : RenA ρ [] []
  | cons {x y : T} {xs ys : List T} (h : Ren ρ x y) (t : RenA ρ xs ys) : RenA ρ (x :: xs) (y :: ys)
theorem RenA.len {xs ys : List T} (h : RenA ρ xs ys) : ys.length = xs.length := by
  induction h with
  | nil => rfl
  | cons _ _ ih => simp [ih]
theorem RenA.get {xs ys : List T} (h : RenA ρ xs ys) : ∀ t : Nat, (xs[t]? = none ∧ ys[t]? = none) ∨ ∃ x y, xs[t]? = some x ∧ ys[t]? = some y ∧ Ren ρ x y := by
  induction h with
  | nil => exact fun t => .inl (by simp)
  | cons h _ ih =>
    intro t
    cases t with
    | zero => exact .inr ⟨_, _, rfl, rfl, h⟩
    | succ t => simpa using ih t
inductive RenH (ρ : Nat → Nat) : List (Nat × List T) → List (Nat × List T) → Prop
  | nil : RenH ρ [] []
  | cons {i j : Nat} {cs ds : List T} {H K : List (Nat × List T)} (hi : ρ i = j) (h : RenL ρ cs ds) (t : RenH ρ H K) : RenH ρ ((i, cs) :: H) ((j, ds) :: K)
theorem RenH.fwd {H K : List (Nat × List T)} (h : RenH ρ H K) {ρ' : Nat → Nat} (hl : ∀ i, ρ' (ρ i) = i) : ∀ i cs, look H i = some cs → ∃ ds, look K (ρ i) = some ds ∧ RenL ρ cs ds := by
  induction h with
  | nil => intro i cs e; simp [look] at e
  | @cons i j cs ds H K hi h _ ih =>
    intro i' cs' e
    simp only [look] at e ⊢
    split at e
    · rename_i e'; subst e'; injection e with e; subst e
      rw [if_pos hi.symm]; exact ⟨_, rfl, h⟩
    · rename_i e'
      rw [if_neg (fun hj => e' (by rw [← hi] at hj; have := congrArg ρ' hj; rwa [hl, hl] at this))]
      exact ih i' cs' e
theorem RenH.bwd {H K : List (Nat × List T)} (h : RenH ρ H K) {ρ' : Nat → Nat} (hl : ∀ i, ρ' (ρ i) = i) : ∀ j ds, look K j = some ds → ∃ i cs, j = ρ i ∧ look H i = some cs ∧ RenL ρ cs ds := by
  induction h with
  | nil => intro i cs e; simp [look] at e
  | @cons i j cs ds H K hi h _ ih =>
    intro j' ds' e
    simp only [look] at e
    split at e
    · rename_i e'; subst e'; injection e with e; subst e
      exact ⟨i, cs, hi.symm, by simp [look], h⟩
    · rename_i e'
      obtain ⟨i', cs', rfl, e2, e3⟩ := ih j' ds' e
      refine ⟨i', cs', rfl, ?_, e3⟩
      simp only [look]
      rw [if_neg (fun hj => e' (by rw [← hi, hj]))]
      exact e2
end
structure RenSt (ρ : Nat → Nat) (σ τ : St) : Prop where
  slot : ∀ t, (σ.s t = none ∧ τ.s t = none) ∨ ∃ x y, σ.s t = some x ∧ τ.s t = some y ∧ Ren ρ x y
  fwd : ∀ i cs, σ.h i = some cs → ∃ ds, τ.h (ρ i) = some ds ∧ RenL ρ cs ds
  bwd : ∀ j ds, τ.h j = some ds → ∃ i cs, j = ρ i ∧ σ.h i = some cs ∧ RenL ρ cs ds
section
variable {ρ ρ' : Nat → Nat} {σ τ : St} {β : Nat → Real}
theorem RenSt.own (h : RenSt ρ σ τ) : own σ (fun i => β (ρ i)) = own τ β := by
  funext b
  refine propext ⟨fun ⟨id, cs, o, E, e1, e2⟩ => ?_, fun ⟨id, cs, o, E, e1, e2⟩ => ?_⟩
  · obtain ⟨ds, e3, _⟩ := h.fwd id cs e1
    exact ⟨ρ id, ds, o, E, e3, e2⟩
  · obtain ⟨i, cs', rfl, e3, _⟩ := h.bwd id cs e1
    exact ⟨i, cs', o, E, e3, e2⟩
theorem RenSt.ok (h : RenSt ρ σ τ) (X : Tag → Nat → Prop) (w : World) : okOf X σ (fun i => β (ρ i)) w = okOf X τ β w := by
  funext g b; simp only [okOf, h.own]
theorem RenSt.none (h : RenSt ρ σ τ) (hl : ∀ i, ρ' (ρ i) = i) (i : Nat) : σ.h i ≠ none ↔ τ.h (ρ i) ≠ none := by
  constructor
  · intro e
    cases hc : σ.h i with
    | none => exact absurd hc e
    | some cs => obtain ⟨ds, e3, _⟩ := h.fwd i cs hc; rw [e3]; simp
  · intro e
    cases hc : τ.h (ρ i) with
    | none => exact absurd hc e
    | some ds =>
      obtain ⟨i', cs, e1, e2, _⟩ := h.bwd _ ds hc
      have := congrArg ρ' e1
      rw [hl, hl] at this; subst this; rw [e2]; simp
theorem ObjAt.ren {w : World} {ok : Tag → Nat → Prop} {cs ds : List T} (h : RenL ρ cs ds) (r : Real) : ObjAt w ok β ds r ↔ ObjAt w ok (fun i => β (ρ i)) cs r := by
  have hz := h.1.2
  cases r with
  | ph =>
    simp only [ObjAt]
    constructor
    · intro e; subst e; exact List.length_eq_zero_iff.1 hz.symm
    · intro e; subst e; exact List.length_eq_zero_iff.1 hz
  | real b o E => simp only [ObjAt, h.2, hz]
theorem SimB.ren {Γ Δ : Cx} {a : Act} {w : World} (h : RenSt ρ σ τ) (hl : ∀ i, ρ' (ρ i) = i) (hw0 : Δ.w0 = Γ.w0) (hn : Δ.n = Γ.n) (hlt : Δ.lent = Γ.lent) (hX : Δ.X = Γ.X) (hS : Γ.S = Δ.S.map ρ) (hb : ∀ i ∈ Δ.S, Δ.β0 i = Γ.β0 (ρ i)) (hds : Δ.ds = Γ.ds := by rfl) :
    SimB Γ τ β a w ↔ SimB Δ σ (fun i => β (ρ i)) a w := by
  constructor
  · intro hs
    refine ⟨by rw [hds]; exact hs.defers, by rw [hn]; exact hs.size, by rw [hlt, hw0]; exact hs.keeps, fun t x e => ?_, fun id cs e => ?_, fun i1 i2 c1 c2 b o E o' E' e1 e2 q1 q2 => ?_, fun b hb' => ?_, fun t x e i hi => ?_, fun id cs e i hi => ?_, fun i hi => ?_⟩
    · rcases h.slot t with ⟨e1, _⟩ | ⟨x', y, e1, e2, hr⟩
      · rw [e1] at e; simp at e
      · rw [e1] at e; injection e with e; subst e
        obtain ⟨v, v1, v2⟩ := hs.slot t y e2
        exact ⟨v, v1, by rw [hX, h.ok]; exact (hr.2 _ _ _ _).1 v2⟩
    · obtain ⟨ds, e1, hr⟩ := h.fwd id cs e
      rw [hX, h.ok]; exact (ObjAt.ren hr _).1 (hs.obj _ ds e1)
    · obtain ⟨d1, f1, _⟩ := h.fwd i1 c1 e1
      obtain ⟨d2, f2, _⟩ := h.fwd i2 c2 e2
      have := congrArg ρ' (hs.inj _ _ d1 d2 b o E o' E' f1 f2 q1 q2)
      rwa [hl, hl] at this
    · rw [h.own] at hb'; rw [hw0, hlt]; exact hs.ownb b hb'
    · rcases h.slot t with ⟨e1, _⟩ | ⟨x', y, e1, e2, hr⟩
      · rw [e1] at e; simp at e
      · rw [e1] at e; injection e with e; subst e
        exact (h.none hl i).2 (hs.wfs t y e2 (ρ i) (by rw [hr.1]; exact List.mem_map_of_mem hi))
    · obtain ⟨ds, e1, hr⟩ := h.fwd id cs e
      exact (h.none hl i).2 (hs.wfh _ ds e1 (ρ i) (by rw [hr.1.1]; exact List.mem_map_of_mem hi))
    · rw [hb i hi]; exact hs.stab (ρ i) (by rw [hS]; exact List.mem_map_of_mem hi)
  · intro hs
    refine ⟨by rw [← hds]; exact hs.defers, by rw [← hn]; exact hs.size, by rw [← hlt, ← hw0]; exact hs.keeps, fun t y e => ?_, fun id ds e => ?_, fun i1 i2 c1 c2 b o E o' E' e1 e2 q1 q2 => ?_, fun b hb' => ?_, fun t y e i hi => ?_, fun id ds e i hi => ?_, fun i hi => ?_⟩
    · rcases h.slot t with ⟨_, e1⟩ | ⟨x, y', e1, e2, hr⟩
      · rw [e1] at e; simp at e
      · rw [e2] at e; injection e with e; subst e
        obtain ⟨v, v1, v2⟩ := hs.slot t x e1
        rw [hX, h.ok] at v2
        exact ⟨v, v1, (hr.2 _ _ _ _).2 v2⟩
    · obtain ⟨i, cs, rfl, e1, hr⟩ := h.bwd id ds e
      have := hs.obj i cs e1
      rw [hX, h.ok] at this
      exact (ObjAt.ren hr _).2 this
    · obtain ⟨j1, d1, rfl, f1, _⟩ := h.bwd i1 c1 e1
      obtain ⟨j2, d2, rfl, f2, _⟩ := h.bwd i2 c2 e2
      rw [hs.inj j1 j2 d1 d2 b o E o' E' f1 f2 q1 q2]
    · rw [← h.own] at hb'; rw [← hw0, ← hlt]; exact hs.ownb b hb'
    · rcases h.slot t with ⟨_, e1⟩ | ⟨x, y', e1, e2, hr⟩
      · rw [e1] at e; simp at e
      · rw [e2] at e; injection e with e; subst e
        rw [hr.1] at hi
        obtain ⟨j, hj, rfl⟩ := List.mem_map.1 hi
        exact (h.none hl j).1 (hs.wfs t x e1 j hj)
    · obtain ⟨k, cs, rfl, e1, hr⟩ := h.bwd id ds e
      rw [hr.1.1] at hi
      obtain ⟨j, hj, rfl⟩ := List.mem_map.1 hi
      exact (h.none hl j).1 (hs.wfh k cs e1 j hj)
    · rw [hS] at hi
      obtain ⟨j, hj, rfl⟩ := List.mem_map.1 hi
      rw [← hb j hj]; exact hs.stab j hj
end
theorem Meets.ren {P : Program} {f : FuncId} {A B : List T} {H K H' K' : List (Nat × List T)} {S S1 : List Nat} {R R1 : T} (ρ ρ' : Nat → Nat) (hl : ∀ i, ρ' (ρ i) = i) (hM : Meets P f A H S R H') (hA : RenA ρ A B) (hH : RenH ρ H K) (hS : S.map ρ = S1) (hR : Ren ρ R R1)
    (hH' : RenH ρ H' K') : Meets P f B K S1 R1 K' := by
  subst hS
  intro Γ β vs hP hS' hn hvl hβ hlent hs
  have hst : RenSt ρ ⟨fun t => A[t]?, look H⟩ ⟨fun t => B[t]?, look K⟩ := ⟨hA.get, hH.fwd hl, hH.bwd hl⟩
  have hst' : RenSt ρ (retSt R (look H')) (retSt R1 (look K')) := ⟨fun t => by
    by_cases h0 : t = 0
    · subst h0; exact .inr ⟨R, R1, rfl, rfl, hR⟩
    · exact .inl (by simp [retSt, h0]), hH'.fwd hl, hH'.bwd hl⟩
  subst hβ
  let Δ : Cx := { Γ with S := S, β0 := fun i => Γ.β0 (ρ i) }
  have h2 := (SimB.ren (Γ := Γ) (Δ := Δ) hst hl rfl rfl rfl rfl hS' (fun _ _ => rfl)).1 hs
  refine (hM Δ _ vs hP rfl hn (hvl.trans hA.len) rfl (by rw [hst.own]; exact hlent) h2).mono ?_
  rintro v w' ⟨β2, h3⟩
  have e : (fun i => (fun j => β2 (ρ' j)) (ρ i)) = β2 := by funext i; simp only [hl]
  refine ⟨fun j => β2 (ρ' j), (SimB.ren (Γ := { Γ with n := 1 }) (Δ := { Δ with n := 1 }) (β := fun j => β2 (ρ' j)) hst' hl rfl rfl rfl rfl hS' (fun _ _ => rfl)).2 ?_⟩
  rw [e]; exact h3
def swp (a b i : Nat) : Nat := match Nat.beq i a with | true => b | false => match Nat.beq i b with | true => a | false => i
theorem swp_swp (a b i : Nat) : swp a b (swp a b i) = i := by
  unfold swp
  cases h1 : Nat.beq i a with
  | true =>
    have h1 := Nat.eq_of_beq_eq_true h1; subst h1
    simp only
    cases h2 : Nat.beq b i with
    | true => simp only; exact Nat.eq_of_beq_eq_true h2
    | false => simp [Nat.beq_refl]
  | false =>
    simp only
    cases h2 : Nat.beq i b with
    | true => have h2 := Nat.eq_of_beq_eq_true h2; subst h2; simp [Nat.beq_refl]
    | false => simp only [h1, h2]
def swps : List (Nat × Nat) → Nat → Nat
  | [], i => i
  | (a, b) :: l, i => swps l (swp a b i)
def swpsI : List (Nat × Nat) → Nat → Nat
  | [], i => i
  | (a, b) :: l, i => swp a b (swpsI l i)
theorem swps_inv : ∀ (l : List (Nat × Nat)) (i : Nat), swpsI l (swps l i) = i
  | [], _ => rfl
  | (a, b) :: l, i => by simp only [swps, swpsI, swps_inv l, swp_swp]
theorem Meets.swp {P : Program} {f : FuncId} {A B : List T} {H K H' K' : List (Nat × List T)} {S S1 : List Nat} {R R1 : T} (l : List (Nat × Nat)) (hM : Meets P f A H S R H') (hA : RenA (swps l) A B) (hH : RenH (swps l) H K) (hS : S.map (swps l) = S1)
    (hR : Ren (swps l) R R1) (hH' : RenH (swps l) H' K') : Meets P f B K S1 R1 K' := Meets.ren _ (swpsI l) (swps_inv l) hM hA hH hS hR hH'
end Go.Vw
namespace Go.Vw
open Go Go.RowKit
end Go.Vw
namespace Go.Vw
open Go Go.RowKit
inductive RenQ (ρ : Nat → Nat) : List (Nat × T) → List (Nat × T) → Prop
  | nil : RenQ ρ [] []
  | cons {n : Nat} {x y : T} {xs ys : List (Nat × T)} (h : Ren ρ x y) (t : RenQ ρ xs ys) : RenQ ρ ((n, x) :: xs) ((n, y) :: ys)
theorem RenQ.get {ρ : Nat → Nat} {xs ys : List (Nat × T)} (h : RenQ ρ xs ys) : ∀ t : Nat, (look xs t = none ∧ look ys t = none) ∨ ∃ x y, look xs t = some x ∧ look ys t = some y ∧ Ren ρ x y := by
  induction h with
  | nil => exact fun t => .inl ⟨rfl, rfl⟩
  | cons h _ ih =>
    intro t
    simp only [look]
    split
    · exact .inr ⟨_, _, rfl, rfl, h⟩
    · exact ih t
theorem Go.swp {E : Env} {Γ : Cx} {f : FuncId} {N : Nat} {S : List Nat} {Post : Value → World → Prop} {k : List Item} {L L' : List (Nat × T)} {H H' : List (Nat × List T)} (l : List (Nat × Nat)) (hS : S.map (swps l) = S) (hL : RenQ (swps l) L' L) (hH : RenH (swps l) H' H)
    (hg : Go E Γ f N S Post k (stL L' H')) : Go E Γ f N S Post k (stL L H) := by
  intro h1 h2 h3 a w ⟨β, hs⟩
  have hst : RenSt (swps l) (stL L' H') (stL L H) := ⟨hL.get, hH.fwd (swps_inv l), hH.bwd (swps_inv l)⟩
  have hfix : ∀ i ∈ Γ.S, swps l i = i := by
    rw [h3]
    intro i hi
    obtain ⟨n, hn, e⟩ := List.getElem_of_mem hi
    have := congrArg (fun z => z[n]?) hS
    simp only [List.getElem?_map, List.getElem?_eq_getElem hn, e, Option.map_some, Option.some.injEq] at this
    exact this
  have hs2 := (SimB.ren (Γ := Γ) (Δ := Γ) hst (swps_inv l) rfl rfl rfl rfl (by rw [h3]; exact hS.symm) (fun i hi => by rw [hfix i hi])).1 hs
  exact hg h1 h2 h3 a w ⟨_, hs2⟩
end Go.Vw
namespace Go.Vw
open Go Go.RowKit
theorem SimB.ret {Γ : Cx} {τ : St} {β : Nat → Real} {a : Act} {w : World} {R : T} {H' : List (Nat × List T)} {v : Value} (hs : SimB Γ τ β a w) (hsub : ∀ id cs, look H' id = some cs → τ.h id = some cs) (hi : ∀ i ∈ R.ids, look H' i ≠ none)
    (hw : ∀ id cs, look H' id = some cs → ∀ i ∈ idsL cs, look H' i ≠ none) (hv : Rep w (okOf Γ.X τ β w) R β v) : SimB { Γ with n := 1 } (retSt R (look H')) β ⟨#[v], a.defers⟩ w := by
  have how : ∀ c, own (retSt R (look H')) β c → own τ β c := fun c ⟨id, cs, o, E', q1, q2⟩ => ⟨id, cs, o, E', hsub id cs q1, q2⟩
  have hok : ∀ g c, okOf Γ.X τ β w g c → okOf Γ.X (retSt R (look H')) β w g c ∧ w.heap[c]? = w.heap[c]? := fun g c hc => ⟨⟨hc.1, fun ho => hc.2.1 (how c ho), hc.2.2⟩, rfl⟩
  refine ⟨hs.defers, rfl, hs.keeps, fun t y e => ?_, fun id cs e => (hs.obj id cs (hsub id cs e)).mono hok (fun _ _ _ _ => rfl) (fun _ _ => rfl),
    fun i1 i2 c1 c2 b1 o1 E1 o2 E2 q1 q2 => hs.inj i1 i2 c1 c2 b1 o1 E1 o2 E2 (hsub _ _ q1) (hsub _ _ q2), fun c hc => hs.ownb c (how c hc), fun t y e => ?_, hw, hs.stab⟩
  · simp only [retSt] at e
    split at e
    · rename_i ht; subst ht; injection e with e; subst e
      exact ⟨v, rfl, Rep.mono hok _ _ _ _ (fun _ _ => rfl) hv⟩
    · simp at e
  · simp only [retSt] at e
    split at e
    · injection e with e; subst e; exact hi
    · simp at e
section
variable {P : Program} {f : FuncId} {fn : Func} {i off : Nat} {cs : List T} {n m : Int}
variable (hf : P.funcs[f]? = some fn) (hname : (fn.name == "runtime.NumGoroutine") = false) (hb : fn.body.isNone = true) (hn : Extern.findNext fn = none)
include hf hname hb hn in
include hf hname hb hn in
include hf hname hb hn in
end
end Go.Vw
namespace Go.Vw
open Go Go.RowKit
theorem Go.phn {E : Env} {Γ : Cx} {f : FuncId} {N : Nat} {S : List Nat} {Post : Value → World → Prop} {k : List Item} {L : List (Nat × T)} {H : List (Nat × List T)} (t i m : Nat) {x : T} (ht : look L t = some x) (hx : x = .leaf (.slice none 0 0) ∨ x = .e0) (hi : look H i = none) (hS : memN i S = false)
    (hg : Go E Γ f N S Post k (stL (ins t (.ref i m 0 0) L) (ins i [] H))) : Go E Γ f N S Post k (stL L H) := by
  intro h1 h2 h3 a w ⟨β, hs⟩
  have hp := hs.phantom (id := i) hi (by rw [h3]; exact memN_false hS)
  refine hg h1 h2 h3 a w ⟨reals β i .ph, ?_⟩
  obtain ⟨v, hv1, hv2⟩ := hs.slot t x ht
  have hr : Rep w (okOf Γ.X { stL L H with h := upd (stL L H).h i (some []) } (reals β i .ph) w) (.ref i m 0 0) (reals β i .ph) v := by
    have : reals β i .ph i = .ph := by simp [reals]
    simp only [Rep, this]
    rcases hx with rfl | rfl
    · simp only [Rep] at hv2; exact ⟨trivial, trivial, none, hv2⟩
    · simp only [Rep] at hv2; exact ⟨trivial, trivial, hv2⟩
  have e1 : stL (ins t (.ref i m 0 0) L) (ins i [] H) = { s := upd (look L) t (some (.ref i m 0 0)), h := upd (look H) i (some []) } := by
    simp only [stL, look_ins]
  rw [e1]
  refine ⟨hp.defers, hp.size, hp.keeps, fun u y e => ?_, hp.obj, hp.inj, hp.ownb, fun u y e => ?_, hp.wfh, hp.stab⟩
  · simp only [upd] at e
    split at e
    · rename_i e'; subst e'; injection e with e; subst e; exact ⟨v, hv1, hr⟩
    · exact hp.slot u y e
  · simp only [upd] at e
    split at e
    · injection e with e; subst e; simp [T.ids, upd]
    · exact hp.wfs u y e
def cpy {α : Type} (l : List α) (off n : Nat) (src : List α) : List α := l.take off ++ src.take n ++ l.drop (off + (src.take n).length)
end Go.Vw
namespace Go.Vw
@[simp] theorem cpy_length {α : Type} (l src : List α) (off n : Nat) : (cpy l off n src).length = min off l.length + min n src.length + (l.length - (off + min n src.length)) := by
  simp [cpy]; omega
end Go.Vw
namespace Go.Vw
def prt {α : Type} (l : List α) (off n : Nat) : List α := (l.drop off).take n
@[simp] theorem prt_length {α : Type} (l : List α) (off n : Nat) : (prt l off n).length = min n (l.length - off) := by simp [prt]
end Go.Vw

import Derived.Test.YtbppcnhfeobefaaDoorEnVx5
import Derived.Laws.LoneSync
import Derived.SizedLaws
set_option linter.unusedVariables false
namespace Go.Vw
open Go Go.RowKit
def Ren (ρ : Nat → Nat) (x y : T) : Prop := y.ids = x.ids.map ρ ∧ ∀ (w : World) (ok : Tag → Nat → Prop) (β : Nat → Real) (v : Value), Rep w ok y β v ↔ Rep w ok x (fun i => β (ρ i)) v
def RenL (ρ : Nat → Nat) (x y : List T) : Prop := (idsL y = (idsL x).map ρ ∧ y.length = x.length) ∧ ∀ (w : World) (ok : Tag → Nat → Prop) (β : Nat → Real) (vs : List Value), RepL w ok y β vs ↔ RepL w ok x (fun i => β (ρ i)) vs
section
variable {ρ : Nat → Nat}
theorem Ren.same {x : T} (h : x.ids = []) : Ren ρ x x :=
 ⟨by rw [h]; rfl, fun w ok β v => ⟨Rep.mono (fun _ _ hb => ⟨hb, rfl⟩) x _ _ v (by rw [h]; simp), Rep.mono (fun _ _ hb => ⟨hb, rfl⟩) x _ _ v (by rw [h]; simp)⟩⟩
theorem RenL.same {x : List T} (h : idsL x = []) : RenL ρ x x :=
 ⟨⟨by rw [h]; rfl, rfl⟩, fun w ok β v => ⟨RepL.mono (fun _ _ hb => ⟨hb, rfl⟩) x _ _ v (by rw [h]; simp), RepL.mono (fun _ _ hb => ⟨hb, rfl⟩) x _ _ v (by rw [h]; simp)⟩⟩
theorem Ren.addr {i j : Nat} (h : ρ i = j) (o : Nat) : Ren ρ (.addr i o) (.addr j o) := by
 subst h; exact ⟨rfl, fun w ok β v => by simp only [Rep]⟩
theorem Ren.ref {i j : Nat} (h : ρ i = j) (m o n : Nat) : Ren ρ (.ref i m o n) (.ref j m o n) := by
 subst h; exact ⟨rfl, fun w ok β v => by simp only [Rep]⟩
theorem RenL.nil : RenL ρ [] [] := ⟨⟨rfl, rfl⟩, fun w ok β v => by simp only [RepL]⟩
theorem RenL.cons {x y : T} {xs ys : List T} (h : Ren ρ x y) (t : RenL ρ xs ys) : RenL ρ (x :: xs) (y :: ys) :=
 ⟨⟨by simp only [idsL, List.map_append, h.1, t.1.1], by simp [t.1.2]⟩, fun w ok β vs => by simp only [RepL, h.2, t.2]⟩
theorem Ren.agg {xs ys : List T} (t : RenL ρ xs ys) : Ren ρ (.agg xs) (.agg ys) := ⟨by simp only [T.ids, t.1.1], fun w ok β vs => by simp only [Rep, t.2]⟩
theorem Ren.tup {xs ys : List T} (t : RenL ρ xs ys) : Ren ρ (.tup xs) (.tup ys) := ⟨by simp only [T.ids, t.1.1], fun w ok β vs => by simp only [Rep, t.2]⟩
theorem Ren.iface {x y : T} (ty : TypeId) (h : Ren ρ x y) : Ren ρ (.iface ty x) (.iface ty y) := ⟨by simp only [T.ids, h.1], fun w ok β vs => by simp only [Rep, h.2]⟩
theorem Ren.fn {p p' q q' : List T} (f : Fn) (h : RenL ρ p p') (h' : RenL ρ q q') : Ren ρ (.fn f p q) (.fn f p' q') := ⟨by simp only [T.ids, List.map_append, h.1.1, h'.1.1], fun w ok β vs => by simp only [Rep, h.2, h'.2]⟩
inductive RenA (ρ : Nat → Nat) : List T → List T → Prop
 | nil : RenA ρ [] []
 | cons {x y : T} {xs ys : List T} (h : Ren ρ x y) (t : RenA ρ xs ys) : RenA ρ (x :: xs) (y :: ys)
theorem RenA.len {xs ys : List T} (h : RenA ρ xs ys) : ys.length = xs.length := by
 induction h with
 | nil => rfl
 | cons _ _ ih => simp [ih]
theorem RenA.get {xs ys : List T} (h : RenA ρ xs ys) : ∀ t : Nat, (xs[t]? = none ∧ ys[t]? = none) ∨ ∃ x y, xs[t]? = some x ∧ ys[t]? = some y ∧ Ren ρ x y := by
 induction h with
 | nil => exact fun t => .inl (by simp)
 | cons h _ ih =>
  intro t
  cases t with
  | zero => exact .inr ⟨_, _, rfl, rfl, h⟩
  | succ t => simpa using ih t
inductive RenH (ρ : Nat → Nat) : List (Nat × List T) → List (Nat × List T) → Prop
 | nil : RenH ρ [] []
 | cons {i j : Nat} {cs ds : List T} {H K : List (Nat × List T)} (hi : ρ i = j) (h : RenL ρ cs ds) (t : RenH ρ H K) : RenH ρ ((i, cs) :: H) ((j, ds) :: K)
theorem RenH.fwd {H K : List (Nat × List T)} (h : RenH ρ H K) {ρ' : Nat → Nat} (hl : ∀ i, ρ' (ρ i) = i) : ∀ i cs, look H i = some cs → ∃ ds, look K (ρ i) = some ds ∧ RenL ρ cs ds := by
 induction h with
 | nil => intro i cs e; simp [look] at e
 | @cons i j cs ds H K hi h _ ih =>
  intro i' cs' e
  simp only [look] at e ⊢
  split at e
  ·rename_i e'; subst e'; injection e with e; subst e
   rw [if_pos hi.symm]; exact ⟨_, rfl, h⟩
  ·rename_i e'
   rw [if_neg (fun hj => e' (by rw [← hi] at hj; have := congrArg ρ' hj; rwa [hl, hl] at this))]
   exact ih i' cs' e
theorem RenH.bwd {H K : List (Nat × List T)} (h : RenH ρ H K) {ρ' : Nat → Nat} (hl : ∀ i, ρ' (ρ i) = i) : ∀ j ds, look K j = some ds → ∃ i cs, j = ρ i ∧ look H i = some cs ∧ RenL ρ cs ds := by
 induction h with
 | nil => intro i cs e; simp [look] at e
 | @cons i j cs ds H K hi h _ ih =>
  intro j' ds' e
  simp only [look] at e
  split at e
  ·rename_i e'; subst e'; injection e with e; subst e
   exact ⟨i, cs, hi.symm, by simp [look], h⟩
  ·rename_i e'
   obtain ⟨i', cs', rfl, e2, e3⟩ := ih j' ds' e
   refine ⟨i', cs', rfl, ?_, e3⟩
   simp only [look]
   rw [if_neg (fun hj => e' (by rw [← hi, hj]))]
   exact e2
end
structure RenSt (ρ : Nat → Nat) (σ τ : St) : Prop where
 slot : ∀ t, (σ.s t = none ∧ τ.s t = none) ∨ ∃ x y, σ.s t = some x ∧ τ.s t = some y ∧ Ren ρ x y
 fwd : ∀ i cs, σ.h i = some cs → ∃ ds, τ.h (ρ i) = some ds ∧ RenL ρ cs ds
 bwd : ∀ j ds, τ.h j = some ds → ∃ i cs, j = ρ i ∧ σ.h i = some cs ∧ RenL ρ cs ds
section
variable {ρ ρ' : Nat → Nat} {σ τ : St} {β : Nat → Real}
theorem RenSt.own (h : RenSt ρ σ τ) : own σ (fun i => β (ρ i)) = own τ β := by
 funext b
 refine propext ⟨fun ⟨id, cs, o, E, e1, e2⟩ => ?_, fun ⟨id, cs, o, E, e1, e2⟩ => ?_⟩
 ·obtain ⟨ds, e3, _⟩ := h.fwd id cs e1
  exact ⟨ρ id, ds, o, E, e3, e2⟩
 ·obtain ⟨i, cs', rfl, e3, _⟩ := h.bwd id cs e1
  exact ⟨i, cs', o, E, e3, e2⟩
theorem RenSt.ok (h : RenSt ρ σ τ) (X : Tag → Nat → Prop) (w : World) : okOf X σ (fun i => β (ρ i)) w = okOf X τ β w := by
 funext g b; simp only [okOf, h.own]
theorem RenSt.none (h : RenSt ρ σ τ) (hl : ∀ i, ρ' (ρ i) = i) (i : Nat) : σ.h i ≠ none ↔ τ.h (ρ i) ≠ none := by
 constructor
 ·intro e
  cases hc : σ.h i with
  | none => exact absurd hc e
  | some cs => obtain ⟨ds, e3, _⟩ := h.fwd i cs hc; rw [e3]; simp
 ·intro e
  cases hc : τ.h (ρ i) with
  | none => exact absurd hc e
  | some ds =>
   obtain ⟨i', cs, e1, e2, _⟩ := h.bwd _ ds hc
   have := congrArg ρ' e1
   rw [hl, hl] at this; subst this; rw [e2]; simp
theorem ObjAt.ren {w : World} {ok : Tag → Nat → Prop} {cs ds : List T} (h : RenL ρ cs ds) (r : Real) : ObjAt w ok β ds r ↔ ObjAt w ok (fun i => β (ρ i)) cs r := by
 have hz := h.1.2
 cases r with
 | ph =>
  simp only [ObjAt]
  constructor
  ·intro e; subst e; exact List.length_eq_zero_iff.1 hz.symm
  ·intro e; subst e; exact List.length_eq_zero_iff.1 hz
 | real b o E => simp only [ObjAt, h.2, hz]
theorem SimB.ren {Γ Δ : Cx} {a : Act} {w : World} (h : RenSt ρ σ τ) (hl : ∀ i, ρ' (ρ i) = i) (hw0 : Δ.w0 = Γ.w0) (hn : Δ.n = Γ.n) (hlt : Δ.lent = Γ.lent) (hX : Δ.X = Γ.X) (hS : Γ.S = Δ.S.map ρ) (hb : ∀ i ∈ Δ.S, Δ.β0 i = Γ.β0 (ρ i)) (hds : Δ.ds = Γ.ds := by rfl) :
  SimB Γ τ β a w ↔ SimB Δ σ (fun i => β (ρ i)) a w := by
 constructor
 ·intro hs
  refine ⟨by rw [hds]; exact hs.defers, by rw [hn]; exact hs.size, by rw [hlt, hw0]; exact hs.keeps, fun t x e => ?_, fun id cs e => ?_, fun i1 i2 c1 c2 b o E o' E' e1 e2 q1 q2 => ?_, fun b hb' => ?_, fun t x e i hi => ?_, fun id cs e i hi => ?_, fun i hi => ?_⟩
  ·rcases h.slot t with ⟨e1, _⟩ | ⟨x', y, e1, e2, hr⟩
   ·rw [e1] at e; simp at e
   ·rw [e1] at e; injection e with e; subst e
    obtain ⟨v, v1, v2⟩ := hs.slot t y e2
    exact ⟨v, v1, by rw [hX, h.ok]; exact (hr.2 _ _ _ _).1 v2⟩
  ·obtain ⟨ds, e1, hr⟩ := h.fwd id cs e
   rw [hX, h.ok]; exact (ObjAt.ren hr _).1 (hs.obj _ ds e1)
  ·obtain ⟨d1, f1, _⟩ := h.fwd i1 c1 e1
   obtain ⟨d2, f2, _⟩ := h.fwd i2 c2 e2
   have := congrArg ρ' (hs.inj _ _ d1 d2 b o E o' E' f1 f2 q1 q2)
   rwa [hl, hl] at this
  ·rw [h.own] at hb'; rw [hw0, hlt]; exact hs.ownb b hb'
  ·rcases h.slot t with ⟨e1, _⟩ | ⟨x', y, e1, e2, hr⟩
   ·rw [e1] at e; simp at e
   ·rw [e1] at e; injection e with e; subst e
    exact (h.none hl i).2 (hs.wfs t y e2 (ρ i) (by rw [hr.1]; exact List.mem_map_of_mem hi))
  ·obtain ⟨ds, e1, hr⟩ := h.fwd id cs e
   exact (h.none hl i).2 (hs.wfh _ ds e1 (ρ i) (by rw [hr.1.1]; exact List.mem_map_of_mem hi))
  ·rw [hb i hi]; exact hs.stab (ρ i) (by rw [hS]; exact List.mem_map_of_mem hi)
 ·intro hs
  refine ⟨by rw [← hds]; exact hs.defers, by rw [← hn]; exact hs.size, by rw [← hlt, ← hw0]; exact hs.keeps, fun t y e => ?_, fun id ds e => ?_, fun i1 i2 c1 c2 b o E o' E' e1 e2 q1 q2 => ?_, fun b hb' => ?_, fun t y e i hi => ?_, fun id ds e i hi => ?_, fun i hi => ?_⟩
  ·rcases h.slot t with ⟨_, e1⟩ | ⟨x, y', e1, e2, hr⟩
   ·rw [e1] at e; simp at e
   ·rw [e2] at e; injection e with e; subst e
    obtain ⟨v, v1, v2⟩ := hs.slot t x e1
    rw [hX, h.ok] at v2
    exact ⟨v, v1, (hr.2 _ _ _ _).2 v2⟩
  ·obtain ⟨i, cs, rfl, e1, hr⟩ := h.bwd id ds e
   have := hs.obj i cs e1
   rw [hX, h.ok] at this
   exact (ObjAt.ren hr _).2 this
  ·obtain ⟨j1, d1, rfl, f1, _⟩ := h.bwd i1 c1 e1
   obtain ⟨j2, d2, rfl, f2, _⟩ := h.bwd i2 c2 e2
   rw [hs.inj j1 j2 d1 d2 b o E o' E' f1 f2 q1 q2]
  ·rw [← h.own] at hb'; rw [← hw0, ← hlt]; exact hs.ownb b hb'
  ·rcases h.slot t with ⟨_, e1⟩ | ⟨x, y', e1, e2, hr⟩
   ·rw [e1] at e; simp at e
   ·rw [e2] at e; injection e with e; subst e
    rw [hr.1] at hi
    obtain ⟨j, hj, rfl⟩ := List.mem_map.1 hi
    exact (h.none hl j).1 (hs.wfs t x e1 j hj)
  ·obtain ⟨k, cs, rfl, e1, hr⟩ := h.bwd id ds e
   rw [hr.1.1] at hi
   obtain ⟨j, hj, rfl⟩ := List.mem_map.1 hi
   exact (h.none hl j).1 (hs.wfh k cs e1 j hj)
  ·rw [hS] at hi
   obtain ⟨j, hj, rfl⟩ := List.mem_map.1 hi
   rw [← hb j hj]; exact hs.stab j hj
end
theorem Meets.ren {P : Program} {f : FuncId} {A B : List T} {H K H' K' : List (Nat × List T)} {S S1 : List Nat} {R R1 : T} (ρ ρ' : Nat → Nat) (hl : ∀ i, ρ' (ρ i) = i) (hM : Meets P f A H S R H') (hA : RenA ρ A B) (hH : RenH ρ H K) (hS : S.map ρ = S1) (hR : Ren ρ R R1)
  (hH' : RenH ρ H' K') : Meets P f B K S1 R1 K' := by
 subst hS
 intro Γ β vs hP hS' hn hvl hβ hlent hs
 have hst : RenSt ρ ⟨fun t => A[t]?, look H⟩ ⟨fun t => B[t]?, look K⟩ := ⟨hA.get, hH.fwd hl, hH.bwd hl⟩
 have hst' : RenSt ρ (retSt R (look H')) (retSt R1 (look K')) := ⟨fun t => by
  by_cases h0 : t = 0
  ·subst h0; exact .inr ⟨R, R1, rfl, rfl, hR⟩
  ·exact .inl (by simp [retSt, h0]), hH'.fwd hl, hH'.bwd hl⟩
 subst hβ
 let Δ : Cx := { Γ with S := S, β0 := fun i => Γ.β0 (ρ i) }
 have h2 := (SimB.ren (Γ := Γ) (Δ := Δ) hst hl rfl rfl rfl rfl hS' (fun _ _ => rfl)).1 hs
 refine (hM Δ _ vs hP rfl hn (hvl.trans hA.len) rfl (by rw [hst.own]; exact hlent) h2).mono ?_
 rintro v w' ⟨β2, h3⟩
 have e : (fun i => (fun j => β2 (ρ' j)) (ρ i)) = β2 := by funext i; simp only [hl]
 refine ⟨fun j => β2 (ρ' j), (SimB.ren (Γ := { Γ with n := 1 }) (Δ := { Δ with n := 1 }) (β := fun j => β2 (ρ' j)) hst' hl rfl rfl rfl rfl hS' (fun _ _ => rfl)).2 ?_⟩
 rw [e]; exact h3
def swp (a b i : Nat) : Nat := match Nat.beq i a with | true => b | false => match Nat.beq i b with | true => a | false => i
theorem swp_swp (a b i : Nat) : swp a b (swp a b i) = i := by
 unfold swp
 cases h1 : Nat.beq i a with
 | true =>
  have h1 := Nat.eq_of_beq_eq_true h1; subst h1
  simp only
  cases h2 : Nat.beq b i with
  | true => simp only; exact Nat.eq_of_beq_eq_true h2
  | false => simp [Nat.beq_refl]
 | false =>
  simp only
  cases h2 : Nat.beq i b with
  | true => have h2 := Nat.eq_of_beq_eq_true h2; subst h2; simp [Nat.beq_refl]
  | false => simp only [h1, h2]
def swps : List (Nat × Nat) → Nat → Nat
 | [], i => i
 | (a, b) :: l, i => swps l (swp a b i)
def swpsI : List (Nat × Nat) → Nat → Nat
 | [], i => i
 | (a, b) :: l, i => swp a b (swpsI l i)
theorem swps_inv : ∀ (l : List (Nat × Nat)) (i : Nat), swpsI l (swps l i) = i
 | [], _ => rfl
 | (a, b) :: l, i => by simp only [swps, swpsI, swps_inv l, swp_swp]
theorem Meets.swp {P : Program} {f : FuncId} {A B : List T} {H K H' K' : List (Nat × List T)} {S S1 : List Nat} {R R1 : T} (l : List (Nat × Nat)) (hM : Meets P f A H S R H') (hA : RenA (swps l) A B) (hH : RenH (swps l) H K) (hS : S.map (swps l) = S1)
  (hR : Ren (swps l) R R1) (hH' : RenH (swps l) H' K') : Meets P f B K S1 R1 K' := Meets.ren _ (swpsI l) (swps_inv l) hM hA hH hS hR hH'
end Go.Vw
namespace Go.Vw
open Go Go.RowKit
end Go.Vw
namespace Go.Vw
open Go Go.RowKit
inductive RenQ (ρ : Nat → Nat) : List (Nat × T) → List (Nat × T) → Prop
 | nil : RenQ ρ [] []
 | cons {n : Nat} {x y : T} {xs ys : List (Nat × T)} (h : Ren ρ x y) (t : RenQ ρ xs ys) : RenQ ρ ((n, x) :: xs) ((n, y) :: ys)
theorem RenQ.get {ρ : Nat → Nat} {xs ys : List (Nat × T)} (h : RenQ ρ xs ys) : ∀ t : Nat, (look xs t = none ∧ look ys t = none) ∨ ∃ x y, look xs t = some x ∧ look ys t = some y ∧ Ren ρ x y := by
 induction h with
 | nil => exact fun t => .inl ⟨rfl, rfl⟩
 | cons h _ ih =>
  intro t
  simp only [look]
  split
  ·exact .inr ⟨_, _, rfl, rfl, h⟩
  ·exact ih t
theorem Go.swp {E : Env} {Γ : Cx} {f : FuncId} {N : Nat} {S : List Nat} {Post : Value → World → Prop} {k : List Item} {L L' : List (Nat × T)} {H H' : List (Nat × List T)} (l : List (Nat × Nat)) (hS : S.map (swps l) = S) (hL : RenQ (swps l) L' L) (hH : RenH (swps l) H' H)
  (hg : Go E Γ f N S Post k (stL L' H')) : Go E Γ f N S Post k (stL L H) := by
 intro h1 h2 h3 a w ⟨β, hs⟩
 have hst : RenSt (swps l) (stL L' H') (stL L H) := ⟨hL.get, hH.fwd (swps_inv l), hH.bwd (swps_inv l)⟩
 have hfix : ∀ i ∈ Γ.S, swps l i = i := by
  rw [h3]
  intro i hi
  obtain ⟨n, hn, e⟩ := List.getElem_of_mem hi
  have := congrArg (fun z => z[n]?) hS
  simp only [List.getElem?_map, List.getElem?_eq_getElem hn, e, Option.map_some, Option.some.injEq] at this
  exact this
 have hs2 := (SimB.ren (Γ := Γ) (Δ := Γ) hst (swps_inv l) rfl rfl rfl rfl (by rw [h3]; exact hS.symm) (fun i hi => by rw [hfix i hi])).1 hs
 exact hg h1 h2 h3 a w ⟨_, hs2⟩
end Go.Vw
namespace Go.Vw
open Go Go.RowKit
theorem SimB.ret {Γ : Cx} {τ : St} {β : Nat → Real} {a : Act} {w : World} {R : T} {H' : List (Nat × List T)} {v : Value} (hs : SimB Γ τ β a w) (hsub : ∀ id cs, look H' id = some cs → τ.h id = some cs) (hi : ∀ i ∈ R.ids, look H' i ≠ none)
  (hw : ∀ id cs, look H' id = some cs → ∀ i ∈ idsL cs, look H' i ≠ none) (hv : Rep w (okOf Γ.X τ β w) R β v) : SimB { Γ with n := 1 } (retSt R (look H')) β ⟨#[v], a.defers⟩ w := by
 have how : ∀ c, own (retSt R (look H')) β c → own τ β c := fun c ⟨id, cs, o, E', q1, q2⟩ => ⟨id, cs, o, E', hsub id cs q1, q2⟩
 have hok : ∀ g c, okOf Γ.X τ β w g c → okOf Γ.X (retSt R (look H')) β w g c ∧ w.heap[c]? = w.heap[c]? := fun g c hc => ⟨⟨hc.1, fun ho => hc.2.1 (how c ho), hc.2.2⟩, rfl⟩
 refine ⟨hs.defers, rfl, hs.keeps, fun t y e => ?_, fun id cs e => (hs.obj id cs (hsub id cs e)).mono hok (fun _ _ _ _ => rfl) (fun _ _ => rfl),
  fun i1 i2 c1 c2 b1 o1 E1 o2 E2 q1 q2 => hs.inj i1 i2 c1 c2 b1 o1 E1 o2 E2 (hsub _ _ q1) (hsub _ _ q2), fun c hc => hs.ownb c (how c hc), fun t y e => ?_, hw, hs.stab⟩
 ·simp only [retSt] at e
  split at e
  ·rename_i ht; subst ht; injection e with e; subst e
   exact ⟨v, rfl, Rep.mono hok _ _ _ _ (fun _ _ => rfl) hv⟩
  ·simp at e
 ·simp only [retSt] at e
  split at e
  ·injection e with e; subst e; exact hi
  ·simp at e
section
variable {P : Program} {f : FuncId} {fn : Func} {i off : Nat} {cs : List T} {n m : Int}
variable (hf : P.funcs[f]? = some fn) (hname : (fn.name == "runtime.NumGoroutine") = false) (hb : fn.body.isNone = true) (hn : Extern.findNext fn = none)
include hf hname hb hn in
include hf hname hb hn in
include hf hname hb hn in
end
end Go.Vw
namespace Go.Vw
open Go Go.RowKit
theorem Go.phn {E : Env} {Γ : Cx} {f : FuncId} {N : Nat} {S : List Nat} {Post : Value → World → Prop} {k : List Item} {L : List (Nat × T)} {H : List (Nat × List T)} (t i m : Nat) {x : T} (ht : look L t = some x) (hx : x = .leaf (.slice none 0 0) ∨ x = .e0) (hi : look H i = none) (hS : memN i S = false)
  (hg : Go E Γ f N S Post k (stL (ins t (.ref i m 0 0) L) (ins i [] H))) : Go E Γ f N S Post k (stL L H) := by
 intro h1 h2 h3 a w ⟨β, hs⟩
 have hp := hs.phantom (id := i) hi (by rw [h3]; exact memN_false hS)
 refine hg h1 h2 h3 a w ⟨reals β i .ph, ?_⟩
 obtain ⟨v, hv1, hv2⟩ := hs.slot t x ht
 have hr : Rep w (okOf Γ.X { stL L H with h := upd (stL L H).h i (some []) } (reals β i .ph) w) (.ref i m 0 0) (reals β i .ph) v := by
  have : reals β i .ph i = .ph := by simp [reals]
  simp only [Rep, this]
  rcases hx with rfl | rfl
  ·simp only [Rep] at hv2; exact ⟨trivial, trivial, none, hv2⟩
  ·simp only [Rep] at hv2; exact ⟨trivial, trivial, hv2⟩
 have e1 : stL (ins t (.ref i m 0 0) L) (ins i [] H) = { s := upd (look L) t (some (.ref i m 0 0)), h := upd (look H) i (some []) } := by
  simp only [stL, look_ins]
 rw [e1]
 refine ⟨hp.defers, hp.size, hp.keeps, fun u y e => ?_, hp.obj, hp.inj, hp.ownb, fun u y e => ?_, hp.wfh, hp.stab⟩
 ·simp only [upd] at e
  split at e
  ·rename_i e'; subst e'; injection e with e; subst e; exact ⟨v, hv1, hr⟩
  ·exact hp.slot u y e
 ·simp only [upd] at e
  split at e
  ·injection e with e; subst e; simp [T.ids, upd]
  ·exact hp.wfs u y e
def cpy {α : Type} (l : List α) (off n : Nat) (src : List α) : List α := l.take off ++ src.take n ++ l.drop (off + (src.take n).length)
theorem mp_cpy {α : Type} {g : α → T} (l src : List α) (off n : Nat) {k : Nat} {c : List T} (hc : c = src.map g) (hk : k = min src.length n) : splice (l.map g) off (c.take (k * 1)) = (cpy l off n src).map g := by
 subst hc; subst hk
 have e : (src.map g).take (min src.length n * 1) = (src.take n).map g := by
  rw [Nat.mul_one, List.map_take]
  rw [List.take_eq_take_iff]; simp; omega
 simp only [splice, e, cpy, List.map_append, List.map_take, List.map_drop, List.length_map, List.length_take]
end Go.Vw
namespace Go.Vw
@[simp] theorem cpy_length {α : Type} (l src : List α) (off n : Nat) : (cpy l off n src).length = min off l.length + min n src.length + (l.length - (off + min n src.length)) := by
 simp [cpy]; omega
theorem mp_part {α : Type} {g : α → T} (l : List α) (off n : Nat) : sub (l.map g) off (n * 1) = ((l.drop off).take n).map g := by
 simp [sub, List.map_take, List.map_drop]
end Go.Vw
namespace Go.Vw
def prt {α : Type} (l : List α) (off n : Nat) : List α := (l.drop off).take n
theorem prt_len {α : Type} (l : List α) (off n : Nat) (h : off + n ≤ l.length) : (prt l off n).length = n := by simp [prt]; omega
@[simp] theorem prt_length {α : Type} (l : List α) (off n : Nat) : (prt l off n).length = min n (l.length - off) := by simp [prt]
theorem lend_part {α : Type} {g : α → T} {t : Tag} (l : List α) (off n : Nat) (h : off + n ≤ l.length) : T.sl 1 t n (sub (l.map g) off (n * 1)) = T.sl 1 t (prt l off n).length ((prt l off n).map g) := by
 rw [prt_len l off n h, mp_part]; rfl
end Go.Vw
namespace Go.Vw
open Go
theorem orI_nat (a b : Nat) (ha : a < 9223372036854775808) (hb : b < 9223372036854775808) : orI a b = ((a ||| b : Nat) : Int) := by
 have hab : a ||| b < 2 ^ 63 := Nat.or_lt_two_pow (by omega) (by omega)
 have e1 : (BitVec.ofInt 64 (a : Int) ||| BitVec.ofInt 64 (b : Int)).toNat = a ||| b := by
  rw [BitVec.toNat_or, BitVec.toNat_ofInt, BitVec.toNat_ofInt]
  congr 1
  ·omega
  ·omega
 rw [orI, e1]
 have := iw ((a ||| b : Nat) : Int) (by omega)
 unfold ti at this
 injection this with this
 injection this
theorem orI_nonneg {a b : Int} (ha : 0 ≤ a ∧ a < 9223372036854775808) (hb : 0 ≤ b ∧ b < 9223372036854775808) : 0 ≤ orI a b := by
 obtain ⟨x, rfl⟩ := Int.eq_ofNat_of_zero_le ha.1
 obtain ⟨y, rfl⟩ := Int.eq_ofNat_of_zero_le hb.1
 rw [orI_nat x y (by omega) (by omega)]; omega
theorem b8s_noB (l : List (List UInt8)) : noBL (b8s .shr l) = true := mp_noB l (fun c => by rw [T.noB]; exact u8s_noB c)
@[simp] theorem slc_len {α : Type} (l : List α) (lo hi : Int) : (slc l lo hi).length = min (hi.toNat - lo.toNat) (l.length - lo.toNat) := by simp [slc]
theorem slc_getD {α : Type} (l : List α) (lo hi : Int) (k : Nat) (d : α) : (slc l lo hi).getD k d = if k < hi.toNat - lo.toNat then l.getD (lo.toNat + k) d else d := by
 simp only [slc, List.getD_eq_getElem?_getD, List.getElem?_take, List.getElem?_drop]
 split <;> rfl
theorem shlC (k : Nat) (x c : Int) (hc : (2 : Int) ^ (min k 64) = c) (h : -9223372036854775808 ≤ x * c ∧ x * c < 9223372036854775808) : ti (IntKind.i64.wrap (x * 2 ^ (min k 64))) = ti (x * c) := by
 rw [hc]; exact iw _ h
theorem giveOk {α : Type} {g : α → T} {n : Nat} (l : List α) (h : n = l.length) (hg : ∀ x, (g x).ids = []) : idsL (l.map g) = [] ∧ n * 1 ≤ (l.map g).length :=
 ⟨mp_ids l hg, by simp [h]⟩
theorem giveEq {α : Type} {g : α → T} {n : Nat} (l : List α) (h : n = l.length) : T.sl 1 .shr n (sub (l.map g) 0 (n * 1)) = T.sl 1 .shr l.length (l.map g) := by
 subst h; rw [mp_all]
theorem bnd_eq {α β : Type} (v : α) (F : α → β) : bnd v F = F v := rfl
theorem slc_le {β : Type} {l : List (List β)} {c : Nat} (h : ∀ i : Nat, (l.getD i []).length ≤ c) (lo hi : Int) : ∀ i : Nat, ((slc l lo hi).getD i []).length ≤ c := by
 intro i; rw [slc_getD]; split
 ·exact h _
 ·exact Nat.zero_le _
theorem app_le {β : Type} {l l2 : List (List β)} {c : Nat} (h : ∀ i : Nat, (l.getD i []).length ≤ c) (h2 : ∀ i : Nat, (l2.getD i []).length ≤ c) : ∀ i : Nat, ((l ++ l2).getD i []).length ≤ c := by
 intro i
 by_cases q : i < l.length
 ·have := h i
  simpa only [List.getD_eq_getElem?_getD, List.getElem?_append_left q] using this
 ·have := h2 (i - l.length)
  simpa only [List.getD_eq_getElem?_getD, List.getElem?_append_right (Nat.le_of_not_lt q)] using this
theorem get_le {β : Type} {l : List (List β)} {c d : Nat} (h : ∀ i : Nat, (l.getD i []).length ≤ c) (q : c ≤ d) : ∀ i : Nat, (l.getD i []).length ≤ d := fun i => Nat.le_trans (h i) q
end Go.Vw
namespace Go.Vw
open Go
section
variable {α : Type}
theorem gD_app (l l2 : List α) (i : Nat) (d : α) : (l ++ l2).getD i d = if i < l.length then l.getD i d else l2.getD (i - l.length) d := by
 simp only [List.getD_eq_getElem?_getD, List.getElem?_append]
 split <;> rfl
theorem gD_take (l : List α) (n i : Nat) (d : α) : (l.take n).getD i d = if i < n then l.getD i d else d := by
 simp only [List.getD_eq_getElem?_getD, List.getElem?_take]
 split <;> rfl
theorem gD_drop (l : List α) (n i : Nat) (d : α) : (l.drop n).getD i d = l.getD (n + i) d := by
 simp only [List.getD_eq_getElem?_getD, List.getElem?_drop]
theorem gD_out (l : List α) (i : Nat) (d : α) (h : l.length ≤ i) : l.getD i d = d := by
 rw [List.getD_eq_getElem?_getD, List.getElem?_eq_none h]; rfl
theorem gD_set (l : List α) (n i : Nat) (a d : α) : (l.set n a).getD i d = if n = i ∧ i < l.length then a else l.getD i d := by
 simp only [List.getD_eq_getElem?_getD, List.getElem?_set]
 by_cases h : n = i
 ·subst h
  by_cases q : n < l.length
  ·simp [q]
  ·simp [q, List.getElem?_eq_none (Nat.le_of_not_lt q)]
 ·simp [h]
theorem gD_rep (n i : Nat) (a d : α) : (List.replicate n a).getD i d = if i < n then a else d := by
 simp only [List.getD_eq_getElem?_getD, List.getElem?_replicate]
 split <;> rfl
theorem gD_range (n : Nat) (f : Nat → α) (i : Nat) (d : α) : ((List.range n).map f).getD i d = if i < n then f i else d := by
 rw [List.getD_eq_getElem?_getD, List.getElem?_map]
 by_cases h : i < n
 ·rw [if_pos h, List.getElem?_range h]; rfl
 ·rw [if_neg h, List.getElem?_eq_none (by simpa using h)]; rfl
theorem gD_cpy (l src : List α) (off n i : Nat) (d : α) (h : off ≤ l.length) : (cpy l off n src).getD i d = if off ≤ i ∧ i < off + min n src.length then src.getD (i - off) d else l.getD i d := by
 have e : (l.take off).length = off := by simp; omega
 have e2 : (l.take off ++ src.take n).length = off + min n src.length := by simp; omega
 rw [cpy, gD_app, e2]
 by_cases c : i < off + min n src.length
 ·rw [if_pos c, gD_app, e]
  by_cases c2 : i < off
  ·rw [if_pos c2, if_neg (by omega), gD_take, if_pos c2]
  ·rw [if_neg c2, if_pos ⟨by omega, c⟩, gD_take, if_pos (by omega)]
 ·rw [if_neg c, if_neg (by omega), gD_drop, List.length_take]
  congr 1; omega
theorem ext_gD (d : α) {l l2 : List α} (hl : l.length = l2.length) (h : ∀ i, i < l.length → l.getD i d = l2.getD i d) : l = l2 := by
 refine List.ext_getElem hl (fun i h1 h2 => ?_)
 have := h i h1
 rwa [List.getD_eq_getElem?_getD, List.getD_eq_getElem?_getD, List.getElem?_eq_getElem h1, List.getElem?_eq_getElem h2] at this
theorem drop_cons (l : List α) (n : Nat) (d : α) (h : n < l.length) : l.drop n = l.getD n d :: l.drop (n + 1) := by
 rw [List.getD_eq_getElem?_getD, List.getElem?_eq_getElem h]
 exact List.drop_eq_getElem_cons h
theorem slc_drop (l : List α) (lo : Int) : slc l lo (l.length : Int) = l.drop lo.toNat := by
 rw [slc, List.take_of_length_le]; simp
theorem slc_take (l : List α) (hi : Int) : slc l 0 hi = l.take hi.toNat := by
 simp [slc]
end
theorem or_step (a b m i : Nat) (h : 2 ^ i = m) (hb : b < m) : (a * m ||| b) = a * m + b := by
 subst h
 have := Nat.shiftLeft_add_eq_or_of_lt hb a
 rw [Nat.shiftLeft_eq] at this
 exact this.symm
theorem u8i_nat (n : Nat) (h : n < 256) : (u8i (n : Int)).toNat = n := by
 rw [u8i, UInt8.toNat_ofNat']; omega
theorem u8i_mod (n : Nat) : (u8i (n : Int)).toNat = n % 256 := by
 rw [u8i, UInt8.toNat_ofNat']; omega
section
variable {α β ρ : Type}
theorem flat_succ (f : Nat → List α) (n : Nat) : (List.range (n + 1)).flatMap f = (List.range n).flatMap f ++ f n := by
 rw [List.range_succ, List.flatMap_append]; simp
theorem flat_len (f : Nat → List α) (c : Nat) : ∀ n, (∀ i, i < n → (f i).length = c) → ((List.range n).flatMap f).length = c * n := by
 intro n
 induction n with
 | zero => intro _; simp
 | succ n ih =>
  intro h
  rw [flat_succ, List.length_append, ih (fun i hi => h i (by omega)), h n (by omega), Nat.mul_succ]
theorem flat_gD (f : Nat → List α) (c : Nat) (d : α) (i j : Nat) (hj : j < c) : ∀ n, (∀ i, i < n → (f i).length = c) → i < n → ((List.range n).flatMap f).getD (c * i + j) d = (f i).getD j d := by
 intro n
 induction n with
 | zero => intro _ h; exact absurd h (Nat.not_lt_zero _)
 | succ n ih =>
  intro h hi
  have hl := flat_len f c n (fun i hi => h i (by omega))
  rw [flat_succ, gD_app, hl]
  by_cases e : i = n
  ·subst e
   rw [if_neg (by omega), show c * i + j - c * i = j by omega]
  ·have : c * (i + 1) ≤ c * n := Nat.mul_le_mul_left _ (by omega)
   rw [Nat.mul_succ] at this
   rw [if_pos (by omega), ih (fun i hi => h i (by omega)) (by omega)]
theorem one_le {c : Nat} {x : List α} (hx : x.length ≤ c) : ∀ i : Nat, (([x] : List (List α)).getD i []).length ≤ c := by
 intro i
 cases i with
 | zero => exact hx
 | succ i => exact Nat.zero_le _
theorem flat_congr (f g : Nat → List α) : ∀ n, (∀ i, i < n → f i = g i) → (List.range n).flatMap f = (List.range n).flatMap g := by
 intro n
 induction n with
 | zero => intro _; rfl
 | succ n ih => intro h; rw [flat_succ, flat_succ, ih (fun i hi => h i (by omega)), h n (by omega)]
theorem appLoop {f : Nat → Int → List α → Lo (List α) ρ} {n : Int} {g : Int → List α} (hs : ∀ m i o, 0 ≤ i → f (m + 1) i o = _root_.cond (decide (i < n)) (f m (i + 1) (o ++ g i)) (.brk o)) :
  ∀ (m : Nat) (i : Int) (o : List α), 0 ≤ i → (n - i).toNat < m → f m i o = .brk (o ++ (List.range (n - i).toNat).flatMap (fun k : Nat => g (i + k))) := by
 intro m
 induction m with
 | zero => intro i o _ h; exact absurd h (Nat.not_lt_zero _)
 | succ m ih =>
  intro i o h0 h
  rw [hs m i o h0]
  by_cases c : i < n
  ·rw [decide_eq_true c, cond_true, ih (i + 1) _ (by omega) (by omega)]
   have e : (n - i).toNat = (n - (i + 1)).toNat + 1 := by omega
   have e2 : ∀ k : Nat, i + 1 + (k : Int) = i + ((k + 1 : Nat) : Int) := by intro k; omega
   rw [e, List.range_succ_eq_map, List.flatMap_cons, List.append_assoc, List.flatMap_map]
   simp only [e2]
   rw [show i + ((0 : Nat) : Int) = i by omega]
  ·rw [decide_eq_false c, cond_false, show (n - i).toNat = 0 by omega]
   simp
theorem cmpLoop {f : Nat → Int → Lo Unit ρ} {n : Int} {p : Nat → Bool} {r : ρ} (hs : ∀ m i, 0 ≤ i → f (m + 1) i = _root_.cond (decide (i < n)) (_root_.cond (p i.toNat) (.ret r) (f m (i + 1))) (.brk ())) :
  ∀ (m : Nat) (i : Int), 0 ≤ i → (n - i).toNat < m → ((∀ j : Nat, i ≤ j → (j : Int) < n → p j = false) ∧ f m i = .brk ()) ∨ ((∃ j : Nat, i ≤ j ∧ (j : Int) < n ∧ p j = true) ∧ f m i = .ret r) := by
 intro m
 induction m with
 | zero => intro i _ h; exact absurd h (Nat.not_lt_zero _)
 | succ m ih =>
  intro i h0 h
  rw [hs m i h0]
  by_cases c : i < n
  ·rw [decide_eq_true c, cond_true]
   cases q : p i.toNat with
   | true => rw [cond_true]; exact .inr ⟨⟨i.toNat, by omega, by omega, q⟩, rfl⟩
   | false =>
    rw [cond_false]
    rcases ih (i + 1) (by omega) (by omega) with ⟨a, b⟩ | ⟨⟨j, a, b, e⟩, g⟩
    ·refine .inl ⟨fun j h1 h2 => ?_, b⟩
     by_cases w : i = j
     ·subst w; rwa [Int.toNat_natCast] at q
     ·exact a j (by omega) h2
    ·exact .inr ⟨⟨j, by omega, b, e⟩, g⟩
  ·rw [decide_eq_false c, cond_false]
   exact .inl ⟨fun j h1 h2 => absurd h2 (by omega), rfl⟩
end
end Go.Vw
namespace Go.Vw
open Go Go.RowKit
theorem own_dom {σ τ : St} (h : ∀ j, σ.h j = none ↔ τ.h j = none) (β : Nat → Real) : own σ β = own τ β := by
 funext b
 apply propext
 constructor
 ·rintro ⟨id, c, o, E, e1, e2⟩
  cases e : τ.h id with
  | none => rw [(h id).2 e] at e1; cases e1
  | some c' => exact ⟨id, c', o, E, e, e2⟩
 ·rintro ⟨id, c, o, E, e1, e2⟩
  cases e : σ.h id with
  | none => rw [(h id).1 e] at e1; cases e1
  | some c' => exact ⟨id, c', o, E, e, e2⟩
instance {α β : Type} [Inhabited β] : Inhabited (Lo α β) := ⟨.ret default⟩
theorem Meets.nilOr {P : Program} {f : FuncId} {m : Nat} {g : Tag} {A : List T} {H H' : List (Nat × List T)} {S : List Nat} {R : T} (h : ∀ ad cap, Meets P f (.leaf (.slice ad 0 cap) :: A) H S R H') : Meets P f (.sl m g 0 [] :: A) H S R H' := by
 refine fun Γ β vs hP hS hn hvl hβ hlent hs => ?_
 obtain ⟨v, hv1, hv2⟩ := hs.slot 0 _ rfl
 simp only [Rep] at hv2
 obtain ⟨_, ad, cap, rfl, _⟩ := hv2
 refine h ad cap Γ β vs hP hS hn (by simpa using hvl) hβ (hlent.trans rfl) ⟨hs.defers, hs.size, hs.keeps, fun t y e => ?_, hs.obj, hs.inj, hs.ownb, fun t y e => ?_, hs.wfh, hs.stab⟩
 ·cases t with
  | zero => simp only [List.getElem?_cons_zero, Option.some.injEq] at e; subst e; exact ⟨_, hv1, by simp only [Rep]⟩
  | succ t => exact hs.slot (t + 1) y (by simpa using e)
 ·cases t with
  | zero => simp only [List.getElem?_cons_zero, Option.some.injEq] at e; subst e; simp [T.ids]
  | succ t => exact hs.wfs (t + 1) y (by simpa using e)
theorem RepAt.le {w : World} {ok : Tag → Nat → Prop} {b : Nat} {cs cs' : List T} (h : LeL cs cs') : ∀ o, RepAt w ok b cs o → RepAt w ok b cs' o := by
 induction h with
 | nil => exact fun _ h => h
 | cons h0 _ ih =>
  intro o h
  simp only [RepAt] at h ⊢
  obtain ⟨⟨v, h1, h2⟩, h3⟩ := h
  exact ⟨⟨v, h1, h0.1 _ _ _ _ h2⟩, ih _ h3⟩
theorem LeL.len {cs cs' : List T} (h : LeL cs cs') : cs.length = cs'.length := by
 induction h with
 | nil => rfl
 | cons _ _ ih => simp [ih]
theorem T.Le.cells {m n : Nat} {g : Tag} {cs cs' : List T} (h : LeL cs cs') (hi : idsL cs' = []) : T.Le (.sl m g n cs) (.sl m g n cs') := by
 refine ⟨fun w ok β v hr => ?_, fun i hi => by simp [T.ids] at hi⟩
 simp only [Rep] at hr ⊢
 obtain ⟨⟨h1, h2⟩, ad, cap, h3, h4, h5⟩ := hr
 refine ⟨⟨h.len ▸ h1, hi⟩, ad, cap, h3, h4, h5.imp id ?_⟩
 rintro ⟨b, o, e, hok, hr⟩
 exact ⟨b, o, e, hok, RepAt.le h _ hr⟩
end Go.Vw
namespace Go.Vw
open Go
theorem u32eq {a b : UInt32} (h : a.toNat = b.toNat) : a = b := UInt32.toNat_inj.1 h
theorem q0 : (2 : Nat) ^ Int.toNat 0 = 1 := by decide
theorem q8 : (2 : Nat) ^ Int.toNat 8 = 256 := by decide
end Go.Vw
namespace Go.Vw
open Go Go.RowKit
abbrev fl {α : Type} (g : α → List T) (l : List α) : List T := l.flatMap g
section
variable {α : Type} {g : α → List T} {m : Nat}
theorem fl_len (hm : ∀ x, (g x).length = m) (l : List α) : (fl g l).length = l.length * m := by
 induction l with
 | nil => simp
 | cons a l ih => rw [fl, List.flatMap_cons, List.length_append, hm, List.length_cons, Nat.succ_mul]; rw [fl] at ih; omega
theorem fl_drop (hm : ∀ x, (g x).length = m) : ∀ (l : List α) (n : Nat), (fl g l).drop (n * m) = fl g (l.drop n)
 | [], n => by simp
 | a :: l, 0 => by simp
 | a :: l, n + 1 => by
  rw [List.drop_succ_cons, ← fl_drop hm l n, fl, List.flatMap_cons, Nat.succ_mul, Nat.add_comm, ← List.drop_drop, List.drop_left' (hm a)]
theorem fl_take (hm : ∀ x, (g x).length = m) : ∀ (l : List α) (n : Nat), (fl g l).take (n * m) = fl g (l.take n)
 | [], n => by simp
 | a :: l, 0 => by simp
 | a :: l, n + 1 => by
  have e : (n + 1) * m = (g a).length + n * m := by rw [Nat.succ_mul, hm]; omega
  rw [List.take_succ_cons, fl, List.flatMap_cons, e, List.take_length_add_append]
  show g a ++ (fl g l).take (n * m) = _
  rw [fl_take hm l n]; rfl
theorem fl_sub (hm : ∀ x, (g x).length = m) (l : List α) (a b : Nat) : sub (fl g l) (a * m) (b * m) = fl g ((l.drop a).take b) := by
 rw [sub, fl_drop hm, fl_take hm]
theorem fl_at (hm : ∀ x, (g x).length = m) (l : List α) {n : Nat} (h : n < l.length) (d : α) : sub (fl g l) (n * m) m = g (l.getD n d) := by
 have := fl_sub hm l n 1
 rw [Nat.one_mul] at this
 rw [this, drop_cons l n d h]
 simp
theorem fl_part {i : TI} {k n : Nat} {l : List α} {d : α} {v : T} (ha : i.agg = true) (hs : i.size = m) (hm : ∀ x, (g x).length = m) (hk : k = n * m) (h : n < l.length) (hv : v = .agg (g (l.getD n d))) : partOf i (fl g l) k v := by
 subst hk; subst hv
 refine partA ha ?_ ?_
 ·rw [hs, fl_len hm, ← Nat.succ_mul]; exact Nat.mul_le_mul_right _ h
 ·rw [hs, fl_at hm l h d]
theorem fl_part1 {i : TI} {k n j : Nat} {l : List α} {d : α} {v : T} (ha : i.agg = false) (hm : ∀ x, (g x).length = m) (hk : k = n * m + j) (hj : j < m) (h : n < l.length) (hv : (g (l.getD n d))[j]? = some v) : partOf i (fl g l) k v := by
 subst hk
 refine part1 ha ?_
 have e := fl_at hm l h d
 rw [← e, sub, List.getElem?_take, if_pos hj, List.getElem?_drop] at hv
 exact hv
theorem fl_ids (hg : ∀ x, idsL (g x) = []) (l : List α) : idsL (fl g l) = [] := by
 induction l with
 | nil => rfl
 | cons a l ih =>
  rw [fl, List.flatMap_cons]
  have : ∀ (x y : List T), idsL x = [] → idsL y = [] → idsL (x ++ y) = [] := by
   intro x y hx hy
   induction x with
   | nil => exact hy
   | cons c x ihx =>
    simp only [List.cons_append, idsL, List.append_eq_nil_iff] at hx ⊢
    exact ⟨hx.1, ihx hx.2⟩
  exact this _ _ (hg a) ih
theorem fl_noB (hg : ∀ x, noBL (g x) = true) (l : List α) : noBL (fl g l) = true := by
 induction l with
 | nil => rfl
 | cons a l ih =>
  rw [fl, List.flatMap_cons]
  have : ∀ (x y : List T), noBL x = true → noBL y = true → noBL (x ++ y) = true := by
   intro x y hx hy
   induction x with
   | nil => exact hy
   | cons c x ihx =>
    simp only [List.cons_append, noBL, Bool.and_eq_true] at hx ⊢
    exact ⟨hx.1, ihx hx.2⟩
  exact this _ _ (hg a) ih
theorem fl_mem {i : Nat} (l : List α) (hg : ∀ x, idsL (g x) = []) : memN i (idsL (fl g l)) = false := by
 rw [fl_ids hg]; rfl
theorem fl_all (hm : ∀ x, (g x).length = m) (l : List α) : sub (fl g l) 0 (l.length * m) = fl g l := by
 have := fl_sub hm l 0 l.length
 rw [Nat.zero_mul] at this
 rw [this]; simp
theorem fl_app {c : List T} (hm : ∀ x, (g x).length = m) (l l2 : List α) (hc : c = fl g l2) : sub (fl g l) 0 (l.length * m) ++ c = fl g (l ++ l2) := by
 subst hc; rw [fl_all hm, fl, fl, fl, List.flatMap_append]
theorem fl_app' {c : List T} {k : Nat} (hm : ∀ x, (g x).length = m) (l l2 : List α) (hk : k = l.length) (hc : c = fl g l2) : sub (fl g l) 0 (k * m) ++ c = fl g (l ++ l2) := by
 subst hk; exact fl_app hm l l2 hc
end
end Go.Vw
namespace Go.Vw
open Go Go.RowKit
section
variable {α : Type} {g : α → T}
theorem arr_list {l : List α} {n : Nat} (h : l.length = n) (d : α) : (List.range n).map (fun i => l.getD i d) = l := by
 refine ext_gD d (by simp [h]) (fun i hi => ?_)
 rw [List.length_map, List.length_range] at hi
 rw [gD_range, if_pos hi]
end
theorem Go.exitX {E : Env} {Γ : Cx} {f : FuncId} {N : Nat} {S : List Nat} {k : List Item} {σ : St} {α β : Type} {Pf : β → Value → World → Prop} {F : α → β} {a : α} (h : Go E Γ f N S (Pf (F a)) k σ) : Go E Γ f N S (Pf (Lo.el (Lo.brk a) F)) k σ := h
end Go.Vw
namespace Go.Vw
open Go Go.RowKit
theorem RepL.reset {w : World} {ok : Tag → Nat → Prop} {β : Nat → Real} {x y : T} (hxy : ∀ v, Rep w ok x β v → Rep w ok y β v) : ∀ (cs : List T) (off : Nat) (vs : List Value), cs[off]? = some x → RepL w ok cs β vs → RepL w ok (cs.set off y) β vs
 | [], off, vs, h, _ => by simp at h
 | t :: ts, 0, vs, h, hr => by
  simp only [List.getElem?_cons_zero, Option.some.injEq] at h; subst h
  simp only [List.set_cons_zero, RepL] at hr ⊢
  obtain ⟨v, us, h1, h2, h3⟩ := hr
  exact ⟨v, us, h1, hxy v h2, h3⟩
 | t :: ts, off + 1, vs, h, hr => by
  simp only [List.getElem?_cons_succ] at h
  simp only [List.set_cons_succ, RepL] at hr ⊢
  obtain ⟨v, us, h1, h2, h3⟩ := hr
  exact ⟨v, us, h1, h2, RepL.reset hxy ts off us h h3⟩
theorem ids_set {y : T} : ∀ (cs : List T) (off : Nat), ∀ i ∈ idsL (cs.set off y), i ∈ idsL cs ∨ i ∈ y.ids
 | [], _, i, h => by simp [idsL] at h
 | t :: ts, 0, i, h => by
  simp only [List.set_cons_zero, idsL, List.mem_append] at h ⊢
  rcases h with h | h
  ·exact .inr h
  ·exact .inl (.inr h)
 | t :: ts, off + 1, i, h => by
  simp only [List.set_cons_succ, idsL, List.mem_append] at h ⊢
  rcases h with h | h
  ·exact .inl (.inl h)
  ·rcases ids_set ts off i h with h | h
   ·exact .inl (.inr h)
   ·exact .inr h
theorem SimB.recell {Γ : Cx} {σ : St} {β : Nat → Real} {a : Act} {w : World} (hs : SimB Γ σ β a w) {i off : Nat} {cs : List T} {x y : T} (hi : σ.h i = some cs) (hx : cs[off]? = some x) (hxy : ∀ v, Rep w (okOf Γ.X σ β w) x β v → Rep w (okOf Γ.X σ β w) y β v)
  (hy : ∀ j ∈ y.ids, σ.h j ≠ none) : SimB Γ { σ with h := upd σ.h i (some (cs.set off y)) } β a w := by
 have hd : ∀ j, σ.h j = none ↔ (upd σ.h i (some (cs.set off y))) j = none := fun j => by
  simp only [upd]; split
  ·rename_i e; subst e; rw [hi]; simp
  ·exact Iff.rfl
 have ho : own { σ with h := upd σ.h i (some (cs.set off y)) } β = own σ β := (own_dom (τ := { σ with h := upd σ.h i (some (cs.set off y)) }) hd β).symm
 have hk : okOf Γ.X { σ with h := upd σ.h i (some (cs.set off y)) } β w = okOf Γ.X σ β w := by
  unfold okOf; rw [ho]
 refine ⟨hs.defers, hs.size, hs.keeps, fun t x e => ?_, fun j c e => ?_, fun id id' c c' b o E o' E' e1 e2 e3 e4 => ?_, fun b hb => ?_, fun t x e j hj => ?_, fun j c e l hl => ?_, hs.stab⟩
 ·rw [hk]; exact hs.slot t x e
 ·rw [hk]
  simp only [upd] at e
  split at e
  ·rename_i q; subst q; injection e with e; subst e
   have h := hs.obj _ _ hi
   cases hb : β j with
   | ph => rw [hb] at h; simp only [ObjAt] at h ⊢; subst h; simp
   | real b o E =>
    rw [hb] at h; simp only [ObjAt] at h ⊢
    obtain ⟨c, e, fr, vs, h1, h2, h3, h4, h5, h6⟩ := h
    exact ⟨c, e, fr, vs, h1, h2, by rw [List.length_set]; exact h3, h4, RepL.reset hxy cs off vs hx h5, h6⟩
  ·exact hs.obj _ _ e
 ·have g : ∀ j c, (upd σ.h i (some (cs.set off y))) j = some c → ∃ c', σ.h j = some c' := fun j c e => by
   cases q : σ.h j with
   | none => rw [(hd j).1 q] at e; cases e
   | some c' => exact ⟨c', rfl⟩
  obtain ⟨c1, q1⟩ := g _ _ e1
  obtain ⟨c2, q2⟩ := g _ _ e2
  exact hs.inj id id' c1 c2 b o E o' E' q1 q2 e3 e4
 ·rw [ho] at hb; exact hs.ownb b hb
 ·exact fun q => hs.wfs t x e j hj ((hd j).2 q)
 ·simp only [upd] at e
  split at e
  ·rename_i q; subst q; injection e with e; subst e
   rcases ids_set cs off l hl with h | h
   ·exact fun q => hs.wfh j cs hi l h ((hd l).2 q)
   ·exact fun q => hy l h ((hd l).2 q)
  ·exact fun q => hs.wfh j c e l hl ((hd l).2 q)
theorem Go.phnC {E : Env} {Γ : Cx} {f : FuncId} {N : Nat} {S : List Nat} {Post : Value → World → Prop} {k : List Item} {L : List (Nat × T)} {H : List (Nat × List T)} (i off d m : Nat) {cs : List T} {x : T} (new : List T) (hi : look H i = some cs) (hx : cs[off]? = some x)
  (hn : x = .leaf (.slice none 0 0) ∨ x = .e0) (hd : look H d = none) (hne : Nat.beq i d = false) (hS : memN d S = false) (hnew : cs.set off (.ref d m 0 0) = new)
  (hg : Go E Γ f N S Post k (stL L (ins i new (ins d [] H)))) : Go E Γ f N S Post k (stL L H) := by
 intro h1 h2 h3 a w ⟨β, hs⟩
 have hid : i ≠ d := fun e => by rw [e] at hne; simp at hne
 have hp := hs.phantom (id := d) hd (by rw [h3]; exact memN_false hS)
 have hb : reals β d .ph d = .ph := by simp [reals]
 have hr := hp.recell (i := i) (off := off) (x := x) (y := .ref d m 0 0) (cs := cs) (by simp only [upd, if_neg hid]; exact hi) hx (fun v hv => by
  simp only [Rep, hb]
  rcases hn with rfl | rfl
  ·simp only [Rep] at hv; exact ⟨trivial, trivial, none, hv⟩
  ·simp only [Rep] at hv; exact ⟨trivial, trivial, hv⟩) (fun j hj => by
  simp only [T.ids, List.mem_singleton] at hj; subst hj; simp [upd])
 refine hg h1 h2 h3 a w ⟨reals β d .ph, ?_⟩
 rw [hnew] at hr
 have e1 : stL L (ins i new (ins d [] H)) = { s := look L, h := upd (upd (look H) d (some [])) i (some new) } := by
  simp only [stL, look_ins]
 rw [e1]
 exact hr
def pick {α : Type} (H : List (Nat × α)) : List Nat → List (Nat × α)
 | [] => []
 | k :: ks => match look H k with | some c => (k, c) :: pick H ks | none => pick H ks
theorem look_pick {α : Type} (H : List (Nat × α)) (n : Nat) : ∀ ks : List Nat, look (pick H ks) n = if n ∈ ks then look H n else none
 | [] => rfl
 | k :: ks => by
  rw [pick]
  cases h : look H k with
  | none =>
   simp only [look_pick H n ks, List.mem_cons]
   by_cases e : n = k
   ·subst e; simp [h]
   ·simp [e]
  | some c =>
   simp only [look, List.mem_cons]
   by_cases e : k = n
   ·subst e; simp [h]
   ·rw [if_neg e, look_pick H n ks]
    have : ¬ n = k := fun q => e q.symm
    simp [this]
theorem look_out {α : Type} (n : Nat) (ks : List Nat) (hn : n ∉ ks) : ∀ H : List (Nat × α), (H.all fun p => ks.contains p.1) = true → look H n = none
 | [], _ => rfl
 | (m, x) :: H, h => by
  simp only [List.all_cons, Bool.and_eq_true] at h
  rw [look]
  have : m ≠ n := fun e => hn (by subst e; simpa using h.1)
  rw [if_neg this]
  exact look_out n ks hn H h.2
theorem Go.ord {E : Env} {Γ : Cx} {f : FuncId} {N : Nat} {S : List Nat} {Post : Value → World → Prop} {k : List Item} {L : List (Nat × T)} {H : List (Nat × List T)} (ks : List Nat) (H' : List (Nat × List T)) (hk : (H.all fun p => ks.contains p.1) = true) (hH : pick H ks = H')
  (hg : Go E Γ f N S Post k (stL L H')) : Go E Γ f N S Post k (stL L H) := by
 have e : stL L H = stL L H' := by
  simp only [stL, St.mk.injEq, true_and]
  funext n
  rw [← hH, look_pick]
  by_cases q : n ∈ ks
  ·rw [if_pos q]
  ·rw [if_neg q, look_out n ks q H hk]
 rw [e]; exact hg
end Go.Vw
namespace Go.Vw
open Go Go.RowKit
end Go.Vw
namespace Go.Vw
open Go Go.RowKit
theorem om {p : Prop} (h : p := by first | omega | (simp <;> omega) | (simp at * <;> omega) | (split <;> omega) | (split <;> (first | omega | (simp <;> omega) | (simp at * <;> omega)))) : p := h
theorem sb {p : Prop} (h : p := by first | rfl | (simp only [T.ids, idsL, er_ids, List.append_nil, List.nil_append] <;> rfl)) : p := h
theorem nb {p : Prop} (h : p := by first | rfl | (simp only [T.noB, noBL, er_noB, u8s_noB, b8s_noB, Bool.and_self, Bool.true_and, Bool.and_true]; rfl) | simp only [T.noB, noBL, er_noB, u8s_noB, b8s_noB, Bool.and_self, Bool.true_and, Bool.and_true]) : p := h
theorem kr {p : Prop} (h : p := by as_aux_lemma => kernel_rfl) : p := h
theorem Meets.sw {P : Program} {f : FuncId} {A B : List T} {H K H' K' : List (Nat × List T)} {S S1 : List Nat} {R R1 : T} (l : List (Nat × Nat)) (hM : Meets P f A H S R H')
  (hA : RenA (swps l) A B := by repeat' (first | exact .nil | exact robj1 rfl | exact robj2 rfl | exact robj3 rfl | exact .addr rfl _ | exact .ref rfl _ _ _ | (refine .same ?_; first | exact mp_ids _ (fun _ => rfl) | rfl | exact er_ids _ _ | exact fl_ids (fun _ => rfl) _ | (simp only [T.ids, idsL, er_ids, List.append_nil, List.nil_append]; done)) | refine .cons ?_ ?_ | refine .agg ?_ | refine .tup ?_ | refine .iface _ ?_ | refine .fn _ ?_ ?_))
  (hH : RenH (swps l) H K := by repeat' (first | exact .nil | exact robj1 rfl | exact robj2 rfl | exact robj3 rfl | exact .addr rfl _ | exact .ref rfl _ _ _ | (refine .same ?_; first | exact mp_ids _ (fun _ => rfl) | rfl | exact er_ids _ _ | exact fl_ids (fun _ => rfl) _ | (simp only [T.ids, idsL, er_ids, List.append_nil, List.nil_append]; done)) | refine .cons rfl ?_ ?_ | refine .cons ?_ ?_ | refine .agg ?_ | refine .tup ?_ | refine .iface _ ?_ | refine .fn _ ?_ ?_))
  (hS : S.map (swps l) = S1 := by rfl)
  (hR : Ren (swps l) R R1 := by repeat' (first | exact .nil | exact robj1 rfl | exact robj2 rfl | exact robj3 rfl | exact .addr rfl _ | exact .ref rfl _ _ _ | (refine .same ?_; first | exact mp_ids _ (fun _ => rfl) | rfl | exact er_ids _ _ | exact fl_ids (fun _ => rfl) _ | (simp only [T.ids, idsL, er_ids, List.append_nil, List.nil_append]; done)) | refine .cons ?_ ?_ | refine .agg ?_ | refine .tup ?_ | refine .iface _ ?_ | refine .fn _ ?_ ?_))
  (hH' : RenH (swps l) H' K' := by repeat' (first | exact .nil | exact robj1 rfl | exact robj2 rfl | exact robj3 rfl | exact .addr rfl _ | exact .ref rfl _ _ _ | (refine .same ?_; first | exact mp_ids _ (fun _ => rfl) | rfl | exact er_ids _ _ | exact fl_ids (fun _ => rfl) _ | (simp only [T.ids, idsL, er_ids, List.append_nil, List.nil_append]; done)) | refine .cons rfl ?_ ?_ | refine .cons ?_ ?_ | refine .agg ?_ | refine .tup ?_ | refine .iface _ ?_ | refine .fn _ ?_ ?_)) : Meets P f B K S1 R1 K' := Meets.swp l hM hA hH hS hR hH'
theorem Go.sw {E : Env} {Γ : Cx} {f : FuncId} {N : Nat} {S : List Nat} {Post : Value → World → Prop} {k : List Item} {L L' : List (Nat × T)} {H H' : List (Nat × List T)} (l : List (Nat × Nat))
  (hg : Go E Γ f N S Post k (stL L' H')) (hS : S.map (swps l) = S := by rfl)
  (hL : RenQ (swps l) L' L := by repeat' (first | exact .nil | exact robj1 rfl | exact robj2 rfl | exact robj3 rfl | exact .addr rfl _ | exact .ref rfl _ _ _ | (refine .same ?_; first | exact mp_ids _ (fun _ => rfl) | rfl | exact er_ids _ _ | exact fl_ids (fun _ => rfl) _ | (simp only [T.ids, idsL, er_ids, List.append_nil, List.nil_append]; done)) | refine .cons ?_ ?_ | refine .agg ?_ | refine .tup ?_ | refine .iface _ ?_ | refine .fn _ ?_ ?_))
  (hH : RenH (swps l) H' H := by repeat' (first | exact .nil | exact robj1 rfl | exact robj2 rfl | exact robj3 rfl | exact .addr rfl _ | exact .ref rfl _ _ _ | (refine .same ?_; first | exact mp_ids _ (fun _ => rfl) | rfl | exact er_ids _ _ | exact fl_ids (fun _ => rfl) _ | (simp only [T.ids, idsL, er_ids, List.append_nil, List.nil_append]; done)) | refine .cons rfl ?_ ?_ | refine .cons ?_ ?_ | refine .agg ?_ | refine .tup ?_ | refine .iface _ ?_ | refine .fn _ ?_ ?_)) : Go E Γ f N S Post k (stL L H) := Go.swp l hS hL hH hg
end Go.Vw
namespace Go.Vw
open Go Go.RowKit
def fxa (n : Nat) (l : List UInt8) : List UInt8 := (List.range n).map fun i => l.getD i 0
@[simp] theorem fxa_len (n : Nat) (l : List UInt8) : (fxa n l).length = n := by simp [fxa]
theorem fxa_eq {n : Nat} {l : List UInt8} (h : l.length = n) : fxa n l = l := arr_list h 0
@[simp] theorem fxa_fxa (n : Nat) (l : List UInt8) : fxa n (fxa n l) = fxa n l := fxa_eq (fxa_len n l)
end Go.Vw
namespace Go.Vw
open Go Go.RowKit Go.ChangeShapes Go.WideShapes
theorem addr_add2 (a : Addr) (i j : Nat) : (a.add i).add j = a.add (i + j) := by
 by_cases hi : i = 0
 ·subst hi; by_cases hj : j = 0
  ·subst hj; simp [Addr.add]
  ·simp [Addr.add, hj]
 ·by_cases hj : j = 0
  ·subst hj; simp [Addr.add, hi]
  ·cases h : a.spot <;> simp [Addr.add, hi, hj, h, Nat.add_assoc]
theorem repAt_flat {α : Type} {w : World} {ok : Tag → Nat → Prop} {b m : Nat} {g : α → List T} (hm : ∀ y, (g y).length = m) : ∀ (l : List α) (o : Nat), (∀ i y, l[i]? = some y → RepAt w ok b (g y) (o + i * m)) → RepAt w ok b (fl g l) o
 | [], _, _ => by simp only [fl, List.flatMap_nil, RepAt]
 | y :: l, o, h => by
  have h0 := h 0 y rfl
  have ih := repAt_flat hm l (o + m) fun i z e => by
   have := h (i + 1) z (by simpa using e)
   rw [show o + m + i * m = o + (i + 1) * m by rw [Nat.succ_mul]; omega]; exact this
  have happ : ∀ (xs ys : List T) (o : Nat), RepAt w ok b xs o → RepAt w ok b ys (o + xs.length) → RepAt w ok b (xs ++ ys) o := by
   intro xs
   induction xs with
   | nil => intro ys o _ h2; simpa using h2
   | cons x xs ihx =>
    intro ys o h1 h2
    simp only [RepAt, List.cons_append] at h1 ⊢
    exact ⟨h1.1, ihx ys (o + 1) h1.2 (by rw [show o + 1 + xs.length = o + (x :: xs).length by simp; omega]; exact h2)⟩
  rw [fl, List.flatMap_cons]
  exact happ _ _ _ (by simpa using h0) (by rw [hm]; exact ih)
theorem repAt_of {w : World} {ok : Tag → Nat → Prop} {b : Nat} : ∀ (ts : List T) (cs : List Value) (o : Nat), RepL w ok ts ph cs → (∀ k v, cs[k]? = some v → w.cell? ⟨b, o + k, none⟩ = some v) → RepAt w ok b ts o
 | [], _, _, _, _ => by simp only [RepAt]
 | t :: ts, cs, o, hr, hc => by
  simp only [RepL] at hr
  obtain ⟨v, us, rfl, h1, h2⟩ := hr
  simp only [RepAt]
  refine ⟨⟨v, by simpa using hc 0 v rfl, h1⟩, repAt_of ts us (o + 1) h2 fun k u hu => ?_⟩
  have := hc (k + 1) u (by simpa using hu)
  rw [show o + 1 + k = o + (k + 1) by omega]; exact this
theorem rd_slF {P : Program} {t e : TypeId} {α : Type} {g : α → List T} {side : α → Prop} {m : Nat} (ht : P.underlying t = some (.slice e)) (hc : P.cellsOf e = m) (hm1 : 0 < m) (he : RdC P e g side) (hm : ∀ y, (g y).length = m) (hg : ∀ y, idsL (g y) = []) :
  RdC P t (fun l : List α => [.sl m .shr l.length (fl g l)]) (fun l => l.length ≤ 9223372036854775807 ∧ ∀ y ∈ l, side y) := by
 intro H enc w fuel cs x h
 rcases DataW.trod_slice ht h with ⟨rfl, _⟩ | ⟨a, len, cap, elems, rest, n, rfl, rfl, rfl, _, hlc, hcm, hlen, hel, _⟩
 ·refine ⟨[], rep_one ?_, Nat.zero_le _, fun y hy => by cases hy⟩
  simp only [Rep]
  exact ⟨⟨by simp [fl], by simp [fl, idsL]⟩, none, 0, rfl, by simp, .inl (by simp)⟩
 ·have hget : ∀ i, i < len → ∃ y, (∃ c : List Value, c.length = m ∧ (∀ k v, c[k]? = some v → w.cell? (a.add (i * m + k)) = some v) ∧ RepL w (okW w) (g y) ph c) ∧ side y := by
   intro i hi
   have h1 := hel i hi
   rw [hc] at h1
   rw [List.getElem?_eq_getElem (by omega)] at h1
   obtain ⟨c, hcell, htr⟩ := Option.bind_eq_some_iff.1 h1
   obtain ⟨y, h2, h3⟩ := he htr
   obtain ⟨q1, q2, q3⟩ := World.cells?_some hcell
   refine ⟨y, ⟨c, q2, fun k v hv => ?_, h2⟩, h3⟩
   have hk : k < m := by rw [← q2]; exact (List.getElem?_eq_some_iff.1 hv).1
   have := q3 k hk
   rw [addr_add2] at this
   exact this.trans hv
  obtain ⟨l, hl, hq⟩ := exists_list len hget
  refine ⟨l, rep_one ?_, ?_, fun y hy => ?_⟩
  ·simp only [Rep]
   refine ⟨⟨by rw [fl_len hm], fl_ids hg l⟩, some a, cap, by rw [hl], by omega, ?_⟩
   by_cases h0 : l.length = 0
   ·exact .inl h0
   ·right
    obtain ⟨y0, hy0⟩ : ∃ y0, l[0]? = some y0 := ⟨l[0], List.getElem?_eq_getElem (by omega)⟩
    obtain ⟨⟨c0, hl0, hv0, _⟩, _⟩ := hq 0 y0 hy0
    have hv0 := hv0 0 c0[0] (List.getElem?_eq_getElem (by omega))
    have hsp : a.spot = none := by
     unfold World.cell? at hv0
     split at hv0
     ·split at hv0
      ·simp at hv0
      ·rename_i hns
       cases hsa : a.spot with
       | none => rfl
       | some q => simp [Addr.add, hsa] at hns
     ·simp at hv0
    have hadd : ∀ i, a.add i = ⟨a.block, a.off + i, none⟩ := fun i => by
     cases a with | mk b o s => simp only at hsp; subst hsp; exact addr_add b o i
    have hblk : a.block < w.heap.size := by
     unfold World.cell? at hv0
     rw [hadd] at hv0
     simp only at hv0
     split at hv0
     ·rename_i hb; exact (Array.getElem?_eq_some_iff.1 hb).1
     ·simp at hv0
    refine ⟨a.block, a.off, ?_, hblk, repAt_flat hm l a.off fun i y e => ?_⟩
    ·cases a with | mk b o s => simp only at hsp; subst hsp; rfl
    ·obtain ⟨⟨c, hcl, hv, hr⟩, _⟩ := hq i y e
     refine repAt_of (g y) c (a.off + i * m) hr fun k v hk => ?_
     have := hv k v hk
     rw [hadd] at this
     rw [Nat.add_assoc]; exact this
  ·unfold maxLen at hcm; omega
  ·obtain ⟨i, hi, e⟩ := List.getElem_of_mem hy
   exact (hq i y (by rw [List.getElem?_eq_getElem hi, e])).2
end Go.Vw

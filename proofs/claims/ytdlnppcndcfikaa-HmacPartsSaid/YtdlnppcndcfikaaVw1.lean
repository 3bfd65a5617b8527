/- States that are told, and the worlds that they tell of. -/
import Derived.Test.YtdlnppcndcfikaaVw0
import GoSem.ClaimJoined
namespace Go.Vw
set_option linter.unusedVariables false
set_option linter.unusedSimpArgs false
open Go Go.RowKit

/-- What is known of a frame: its slots, and the objects that are its own. -/
structure St where
  s : Nat → Option T
  h : Nat → Option (List T)

/-- A constant, told. -/
def ofV : Value → T
  | .agg cs => .agg (cs.toList.map .leaf)
  | v => .leaf v

def St.ev (σ : St) : Operand → Option T
  | .tmp t => σ.s t
  | .const v => some (ofV v)
  | .global g => some (.leaf (.pointer (some ⟨g, 0, none⟩)))
  | .func f => some (.fn (.func f) [] [])

def upd {α : Type} (f : Nat → Option α) (n : Nat) (x : Option α) : Nat → Option α := fun m => if m = n then x else f m

/-- Variables of the program that hold the same from its start to its end: the handle of the type 'error'. -/
def Known (P : Program) (b : Nat) (cs : List Value) : Prop :=
  P.globalNamed "errors.errorType" = some b ∧ ∃ rt ty, (P.cutTypes.find? (·.1 == "internal/reflectlite.rtype")).map (·.2) = some rt ∧ ty < P.types.size ∧ P.rowNamed ty [101, 114, 114, 111, 114] = true ∧ cs = [.iface rt (.agg #[typeHandle P ty])]

/-- The call that goes on: the program, the world it began in, which of its blocks it may write (`lent`), which it may not be told of (`X`); the objects that stay where they are (`S`). -/
structure Cx where
  P : Program
  n : Nat
  w0 : World
  lent : Nat → Prop
  X : Tag → Nat → Prop
  X_old : ∀ g b, X g b → b < w0.heap.size ∧ ¬ lent b
  X_sub : ∀ b, X .brw b → X .shr b
  S : List Nat
  β0 : Nat → Real
  held : ∀ b cs, Known P b cs → b < w0.heap.size ∧ ¬ lent b ∧ CellsAt w0 b 0 cs

structure Keeps (lent : Nat → Prop) (w w' : World) : Prop where
  os : w'.os = w.os
  tape : w'.tape = w.tape
  output : w'.output = w.output
  size : w.heap.size ≤ w'.heap.size
  block : ∀ b, b < w.heap.size → ¬ lent b → w'.heap[b]? = w.heap[b]?

theorem Keeps.refl (lent : Nat → Prop) (w : World) : Keeps lent w w := ⟨rfl, rfl, rfl, Nat.le_refl _, fun _ _ _ => rfl⟩

theorem Keeps.trans {l l' : Nat → Prop} {w w' w'' : World} (h : Keeps l w w') (k : Keeps l' w' w'') (hl : ∀ b, b < w.heap.size → l' b → l b) : Keeps l w w'' :=
  ⟨k.os.trans h.os, k.tape.trans h.tape, k.output.trans h.output, Nat.le_trans h.size k.size,
   fun b hb hn => (k.block b (Nat.lt_of_lt_of_le hb h.size) (fun h' => hn (hl b hb h'))).trans (h.block b hb hn)⟩

theorem Keeps.alloc (l : Nat → Prop) (w : World) (o : Obj) : Keeps l w (w.alloc o) :=
  ⟨rfl, rfl, rfl, by simp, fun b hb _ => Below.heap_alloc _ _ _ hb⟩

theorem Keeps.drew (l : Nat → Prop) (w : World) : Keeps l w w.drew := ⟨rfl, rfl, rfl, Nat.le_refl _, fun _ _ _ => rfl⟩

def own (σ : St) (β : Nat → Real) (b : Nat) : Prop := ∃ id cs o E, σ.h id = some cs ∧ β id = .real b o E

def okOf (X : Tag → Nat → Prop) (σ : St) (β : Nat → Real) (w : World) : Tag → Nat → Prop := fun g b => b < w.heap.size ∧ ¬ own σ β b ∧ ¬ X g b

/-- What is frozen of a block lies behind its cells. -/
def NoFrost (w : World) (b n : Nat) : Prop := ∀ c e lo hi, w.heap[b]? = some (.cells c e (lo, hi)) → lo = hi ∨ n ≤ lo
theorem NoFrost.get {w : World} {b n i : Nat} (h : NoFrost w b n) (hi : i < n) : w.frozen? ⟨b, i, none⟩ = false := by
  unfold World.frozen?
  split
  · rename_i c e lo hi' hb
    rcases h _ _ _ _ hb with h | h
    · simp; omega
    · simp; omega
  · rfl

/-- An object's cells lie in its block. -/
def ObjAt (w : World) (ok : Tag → Nat → Prop) (β : Nat → Real) (cs : List T) : Real → Prop
  | .ph => cs = []
  | .real b o E => ∃ c e fr vs, w.heap[b]? = some (.cells c e fr) ∧ o + E ≤ c.size ∧ cs.length ≤ E ∧ NoFrost w b c.size ∧ RepL w ok cs β vs ∧ CellsAt w b o vs

structure SimB (Γ : Cx) (σ : St) (β : Nat → Real) (a : Act) (w : World) : Prop where
  defers : a.defers = []
  size : a.tmps.size = Γ.n
  keeps : Keeps Γ.lent Γ.w0 w
  slot : ∀ t x, σ.s t = some x → ∃ v, a.tmps[t]? = some v ∧ Rep w (okOf Γ.X σ β w) x β v
  obj : ∀ id cs, σ.h id = some cs → ObjAt w (okOf Γ.X σ β w) β cs (β id)
  inj : ∀ id id' cs cs' b o E o' E', σ.h id = some cs → σ.h id' = some cs' → β id = .real b o E → β id' = .real b o' E' → id = id'
  ownb : ∀ b, own σ β b → b < w.heap.size ∧ (Γ.w0.heap.size ≤ b ∨ Γ.lent b)
  wfs : ∀ t x, σ.s t = some x → ∀ i ∈ x.ids, σ.h i ≠ none
  wfh : ∀ id cs, σ.h id = some cs → ∀ i ∈ idsL cs, σ.h i ≠ none
  stab : ∀ i ∈ Γ.S, β i = Γ.β0 i

def Sim (Γ : Cx) (σ : St) (a : Act) (w : World) : Prop := ∃ β, SimB Γ σ β a w

section
variable {Γ : Cx} {σ : St} {β : Nat → Real} {a : Act} {w w' : World}

theorem ofV_rep (ok : Tag → Nat → Prop) (v : Value) : Rep w ok (ofV v) β v := by
  cases v with
  | agg cs => simp only [ofV, Rep]; exact ⟨cs.toList, by simp, RepL.leaves _⟩
  | _ => simp [ofV, Rep]

theorem idsL_leaves (vs : List Value) : idsL (vs.map .leaf) = [] := by
  induction vs with
  | nil => rfl
  | cons v vs ih => simp [idsL, T.ids, ih]

theorem ofV_ids (v : Value) : (ofV v).ids = [] := by
  cases v with
  | agg cs => simp only [ofV, T.ids]; exact idsL_leaves _
  | _ => rfl

theorem SimB.ev (h : SimB Γ σ β a w) {x : Operand} {t : T} (e : σ.ev x = some t) : Rep w (okOf Γ.X σ β w) t β (a.eval x) := by
  cases x with
  | tmp n =>
    obtain ⟨v, h1, h2⟩ := h.slot n t e
    have : a.eval (.tmp n) = v := by simp [Act.eval, Array.getD_eq_getD_getElem?, h1]
    rw [this]; exact h2
  | const v => simp only [St.ev, Option.some.injEq] at e; subst e; exact ofV_rep _ v
  | global g => simp only [St.ev, Option.some.injEq] at e; subst e; simp [Rep, Act.eval]
  | func f => simp only [St.ev, Option.some.injEq] at e; subst e; simp only [Rep, RepL, Act.eval]; exact ⟨[], [], rfl, rfl, rfl⟩

theorem SimB.ev_ids (h : SimB Γ σ β a w) {x : Operand} {t : T} (e : σ.ev x = some t) : ∀ i ∈ t.ids, σ.h i ≠ none := by
  cases x with
  | tmp n => exact h.wfs n t e
  | const v => simp only [St.ev, Option.some.injEq] at e; subst e; simp [ofV_ids]
  | global g => simp only [St.ev, Option.some.injEq] at e; subst e; simp [T.ids]
  | func f => simp only [St.ev, Option.some.injEq] at e; subst e; simp [T.ids, idsL]

theorem ObjAt.mono {ok ok' : Tag → Nat → Prop} {β' : Nat → Real} {cs : List T} {r : Real} (hok : ∀ g b, ok g b → ok' g b ∧ w'.heap[b]? = w.heap[b]?)
    (hr : ∀ b o E, r = .real b o E → w'.heap[b]? = w.heap[b]?) (hi : ∀ i ∈ idsL cs, β' i = β i) (h : ObjAt w ok β cs r) : ObjAt w' ok' β' cs r := by
  cases r with
  | ph => exact h
  | real b o E =>
    have e := hr b o E rfl
    obtain ⟨c, el, fr, vs, h1, h2, h3, h4, h5, h6⟩ := h
    refine ⟨c, el, fr, vs, e.trans h1, h2, h3, fun c' e' lo hi q => h4 c' e' lo hi (e ▸ q), RepL.mono hok cs β β' vs hi h5, fun i v hv => ?_⟩
    · rw [World.cell?_of_block (w := w) e]; exact h6 i v hv

/-- The world grows, or draws: what is told stays. -/
theorem SimB.grow (h : SimB Γ σ β a w) (k : Keeps (fun _ => False) w w') : SimB Γ σ β a w' := by
  have hok : ∀ g b, okOf Γ.X σ β w g b → okOf Γ.X σ β w' g b ∧ w'.heap[b]? = w.heap[b]? := fun g b hb => ⟨⟨Nat.lt_of_lt_of_le hb.1 k.size, hb.2⟩, k.block b hb.1 (by simp)⟩
  refine ⟨h.defers, h.size, h.keeps.trans k (fun _ _ => False.elim), fun t x e => ?_, fun id cs e => ?_, h.inj, fun b hb => ⟨Nat.lt_of_lt_of_le (h.ownb b hb).1 k.size, (h.ownb b hb).2⟩, h.wfs, h.wfh, h.stab⟩
  · obtain ⟨v, h1, h2⟩ := h.slot t x e
    exact ⟨v, h1, Rep.mono hok x β β v (fun _ _ => rfl) h2⟩
  · exact (h.obj id cs e).mono hok (fun b o E hr => k.block b (h.ownb b ⟨id, cs, o, E, e, hr⟩).1 (by simp)) (fun _ _ => rfl)

/-- A slot gets a value. -/
theorem SimB.put (h : SimB Γ σ β a w) {d : Nat} {x : T} {v : Value} (hd : d < Γ.n) (hx : Rep w (okOf Γ.X σ β w) x β v) (hi : ∀ i ∈ x.ids, σ.h i ≠ none) :
    SimB Γ { σ with s := upd σ.s d (some x) } β (a.put (some d) v) w := by
  have ho : own { σ with s := upd σ.s d (some x) } β = own σ β := rfl
  refine ⟨h.defers, by simpa [Act.put] using h.size, h.keeps, fun t y e => ?_, h.obj, h.inj, h.ownb, fun t y e => ?_, h.wfh, h.stab⟩
  · simp only [upd] at e
    split at e
    · rename_i ht; subst ht; injection e with e; subst e
      exact ⟨v, by simp [Act.put, h.size, hd], hx⟩
    · rename_i ht
      obtain ⟨u, h1, h2⟩ := h.slot t y e
      exact ⟨u, by rw [← h1]; simp [Act.put, Array.getElem?_setIfInBounds_ne (Ne.symm ht)], h2⟩
  · simp only [upd] at e
    split at e
    · injection e with e; subst e; exact hi
    · exact h.wfs t y e

/-- A slot is forgotten. -/
theorem SimB.kill (h : SimB Γ σ β a w) (d : Nat) (v : Value) : SimB Γ { σ with s := upd σ.s d none } β (a.put (some d) v) w := by
  refine ⟨h.defers, by simpa [Act.put] using h.size, h.keeps, fun t y e => ?_, h.obj, h.inj, h.ownb, fun t y e => ?_, h.wfh, h.stab⟩
  · simp only [upd] at e
    split at e
    · simp at e
    · rename_i ht
      obtain ⟨u, h1, h2⟩ := h.slot t y e
      exact ⟨u, by rw [← h1]; simp [Act.put, Array.getElem?_setIfInBounds_ne (Ne.symm ht)], h2⟩
  · simp only [upd] at e
    split at e
    · simp at e
    · exact h.wfs t y e

/-- A state that tells less. -/
theorem SimB.weaken (h : SimB Γ σ β a w) {σ' : St} (hs : ∀ t x, σ'.s t = some x → σ.s t = some x) (hh : ∀ id cs, σ'.h id = some cs → σ.h id = some cs)
    (w1 : ∀ t x, σ'.s t = some x → ∀ i ∈ x.ids, σ'.h i ≠ none) (w2 : ∀ id cs, σ'.h id = some cs → ∀ i ∈ idsL cs, σ'.h i ≠ none) : SimB Γ σ' β a w := by
  have how : ∀ b, own σ' β b → own σ β b := fun b ⟨id, cs, o, E, e1, e2⟩ => ⟨id, cs, o, E, hh _ _ e1, e2⟩
  have hok : ∀ g b, okOf Γ.X σ β w g b → okOf Γ.X σ' β w g b ∧ w.heap[b]? = w.heap[b]? := fun g b hb => ⟨⟨hb.1, fun ho => hb.2.1 (how b ho), hb.2.2⟩, rfl⟩
  refine ⟨h.defers, h.size, h.keeps, fun t x e => ?_, fun id cs e => ?_, fun id id' cs cs' b o E o' E' e1 e2 => h.inj id id' cs cs' b o E o' E' (hh _ _ e1) (hh _ _ e2), fun b hb => h.ownb b (how b hb), w1, w2, h.stab⟩
  · obtain ⟨v, h1, h2⟩ := h.slot t x (hs _ _ e)
    exact ⟨v, h1, Rep.mono hok x β β v (fun _ _ => rfl) h2⟩
  · exact (h.obj id cs (hh _ _ e)).mono hok (fun _ _ _ _ => rfl) (fun _ _ => rfl)
end

def St.drop (σ : St) (i : Nat) : St where
  s := fun t => (σ.s t).map (T.purge i)
  h := fun j => if j = i then none else (σ.h j).map (purgeL i)

section
variable {Γ : Cx} {σ : St} {β : Nat → Real} {a : Act} {w w' : World}

theorem ObjAt.purge {ok : Tag → Nat → Prop} {cs : List T} {r : Real} (i : Nat) (h : ObjAt w ok β cs r) : ObjAt w ok β (purgeL i cs) r := by
  cases r with
  | ph => simp only [ObjAt] at h ⊢; subst h; rfl
  | real b o E =>
    obtain ⟨c, el, fr, vs, h1, h2, h3, h4, h5, h6⟩ := h
    exact ⟨c, el, fr, vs, h1, h2, by rw [purgeL_length]; exact h3, h4, RepL.purge i cs β vs h5, h6⟩

/-- An object is forgotten, with all that leads to it. -/
theorem SimB.drop (h : SimB Γ σ β a w) (i : Nat) : SimB Γ (σ.drop i) β a w := by
  have how : ∀ b, own (σ.drop i) β b → own σ β b := by
    rintro b ⟨id, cs, o, E, e1, e2⟩
    simp only [St.drop] at e1
    split at e1
    · simp at e1
    · obtain ⟨cs', e3, _⟩ := Option.map_eq_some_iff.1 e1
      exact ⟨id, cs', o, E, e3, e2⟩
  have hok : ∀ g b, okOf Γ.X σ β w g b → okOf Γ.X (σ.drop i) β w g b ∧ w.heap[b]? = w.heap[b]? := fun g b hb => ⟨⟨hb.1, fun ho => hb.2.1 (how b ho), hb.2.2⟩, rfl⟩
  have hh : ∀ id cs, (σ.drop i).h id = some cs → id ≠ i ∧ ∃ cs', σ.h id = some cs' ∧ cs = purgeL i cs' := by
    intro id cs e
    simp only [St.drop] at e
    split at e
    · simp at e
    · obtain ⟨cs', e3, e4⟩ := Option.map_eq_some_iff.1 e
      exact ⟨by assumption, cs', e3, e4.symm⟩
  have hdom : ∀ j, j ≠ i → σ.h j ≠ none → (σ.drop i).h j ≠ none := by
    intro j hj hn
    simp only [St.drop, if_neg hj]
    simpa using hn
  refine ⟨h.defers, h.size, h.keeps, fun t x e => ?_, fun id cs e => ?_, fun id id' cs cs' b o E o' E' e1 e2 => ?_, fun b hb => h.ownb b (how b hb), fun t x e => ?_, fun id cs e => ?_, h.stab⟩
  · obtain ⟨y, e1, rfl⟩ := Option.map_eq_some_iff.1 e
    obtain ⟨v, h1, h2⟩ := h.slot t y e1
    exact ⟨v, h1, Rep.purge i y β v (Rep.mono hok y β β v (fun _ _ => rfl) h2)⟩
  · obtain ⟨_, cs', e1, rfl⟩ := hh id cs e
    exact ((h.obj id cs' e1).mono hok (fun _ _ _ _ => rfl) (fun _ _ => rfl)).purge i
  · obtain ⟨_, c1, e3, _⟩ := hh _ _ e1
    obtain ⟨_, c2, e4, _⟩ := hh _ _ e2
    exact h.inj id id' c1 c2 b o E o' E' e3 e4
  · obtain ⟨y, e1, rfl⟩ := Option.map_eq_some_iff.1 e
    intro j hj
    obtain ⟨h1, h2⟩ := T.ids_purge i y j hj
    exact hdom j h1 (h.wfs t y e1 j h2)
  · obtain ⟨_, cs', e1, rfl⟩ := hh id cs e
    intro j hj
    obtain ⟨h1, h2⟩ := ids_purgeL i cs' j hj
    exact hdom j h1 (h.wfh id cs' e1 j h2)

def reals (β : Nat → Real) (i : Nat) (r : Real) : Nat → Real := fun j => if j = i then r else β j

/-- A new object. -/
theorem SimB.new (h : SimB Γ σ β a w) {id : Nat} (hid : σ.h id = none) (hS : id ∉ Γ.S) {cs : List T} {c : Array Value} {el : TypeId} {fr : Nat × Nat} {E : Nat} (hE : E ≤ c.size) (hl : cs.length ≤ E)
    (hf : fr.1 = fr.2 ∨ c.size ≤ fr.1) {vs : List Value} (hv : RepL w (okOf Γ.X σ β w) cs β vs) (hc : ∀ (i : Nat) v, vs[i]? = some v → c[i]? = some v) (hi : ∀ i ∈ idsL cs, σ.h i ≠ none) :
    SimB Γ { σ with h := upd σ.h id (some cs) } (reals β id (.real w.heap.size 0 E)) a (w.alloc (.cells c el fr)) := by
  have k : Keeps (fun _ => False) w (w.alloc (.cells c el fr)) := Keeps.alloc _ _ _
  have hnew : (w.alloc (.cells c el fr)).heap[w.heap.size]? = some (.cells c el fr) := by
    show (w.heap.push _)[w.heap.size]? = _
    simp
  have hne : ∀ j, σ.h j ≠ none → j ≠ id := fun j hj e => hj (e ▸ hid)
  have hdom : ∀ j, σ.h j ≠ none → upd σ.h id (some cs) j ≠ none := fun j hj => by simp only [upd, if_neg (hne j hj)]; exact hj
  have how : ∀ b, own { σ with h := upd σ.h id (some cs) } (reals β id (.real w.heap.size 0 E)) b → own σ β b ∨ b = w.heap.size := by
    rintro b ⟨id', cs', o, E', e1, e2⟩
    simp only [upd] at e1
    split at e1
    · rename_i e; subst e; simp [reals] at e2; exact .inr e2.1.symm
    · rename_i e; simp only [reals, if_neg e] at e2; exact .inl ⟨id', cs', o, E', e1, e2⟩
  have hok : ∀ g b, okOf Γ.X σ β w g b → okOf Γ.X { σ with h := upd σ.h id (some cs) } (reals β id (.real w.heap.size 0 E)) (w.alloc (.cells c el fr)) g b ∧ (w.alloc (.cells c el fr)).heap[b]? = w.heap[b]? := fun g b hb =>
    ⟨⟨Nat.lt_of_lt_of_le hb.1 k.size, fun ho => (how b ho).elim hb.2.1 (fun e => by have := hb.1; omega), hb.2.2⟩, k.block b hb.1 (by simp)⟩
  have hβ : ∀ j, σ.h j ≠ none → reals β id (.real w.heap.size 0 E) j = β j := fun j hj => by simp only [reals, if_neg (hne j hj)]
  refine ⟨h.defers, h.size, h.keeps.trans k (fun _ _ => False.elim), fun t x e => ?_, fun id' cs' e => ?_, fun i1 i2 c1 c2 b o E1 o' E2 e1 e2 r1 r2 => ?_, fun b hb => ?_, fun t x e i hi => hdom i (h.wfs t x e i hi), fun id' cs' e i hii => ?_, fun i hi => by simp only [reals, if_neg (show i ≠ id from fun e => hS (e ▸ hi))]; exact h.stab i hi⟩
  · obtain ⟨v, h1, h2⟩ := h.slot t x e
    exact ⟨v, h1, Rep.mono hok x β _ v (fun i hi => hβ i (h.wfs t x e i hi)) h2⟩
  · simp only [upd] at e
    split at e
    · rename_i e'; subst e'; injection e with e; subst e
      simp only [reals, if_true, ObjAt]
      refine ⟨c, el, fr, vs, hnew, by omega, hl, fun c' e' lo hi' q => ?_, RepL.mono hok cs β _ vs (fun i hii => hβ i (hi i hii)) hv, fun i v e => ?_⟩
      · rw [hnew] at q; simp only [Option.some.injEq, Obj.cells.injEq] at q; obtain ⟨rfl, rfl, rfl⟩ := q; exact hf
      · simp only [World.cell?, hnew]; simpa using hc i v e
    · rename_i e'
      simp only [reals, if_neg e']
      exact (h.obj id' cs' e).mono hok (fun b o E hr => k.block b (h.ownb b ⟨id', cs', o, E, e, hr⟩).1 (by simp)) (fun i hii => hβ i (h.wfh id' cs' e i hii))
  · simp only [upd] at e1 e2
    simp only [reals] at r1 r2
    split at e1 <;> split at e2
    · omega
    · rename_i x1 x2; rw [if_pos x1] at r1; rw [if_neg x2] at r2
      have := (h.ownb b ⟨i2, c2, o', E2, e2, r2⟩).1
      injection r1 with r1; omega
    · rename_i x1 x2; rw [if_neg x1] at r1; rw [if_pos x2] at r2
      have := (h.ownb b ⟨i1, c1, o, E1, e1, r1⟩).1
      injection r2 with r2; omega
    · rename_i x1 x2; rw [if_neg x1] at r1; rw [if_neg x2] at r2
      exact h.inj i1 i2 c1 c2 b o E1 o' E2 e1 e2 r1 r2
  · rcases how b hb with hb | rfl
    · exact ⟨Nat.lt_of_lt_of_le (h.ownb b hb).1 k.size, (h.ownb b hb).2⟩
    · exact ⟨by simp, .inl h.keeps.size⟩
  · simp only [upd] at e
    split at e
    · injection e with e; subst e; exact hdom i (hi i hii)
    · exact hdom i (h.wfh id' cs' e i hii)

/-- A new object that has no block: nothing lies in it. -/
theorem SimB.phantom (h : SimB Γ σ β a w) {id : Nat} (hid : σ.h id = none) (hS : id ∉ Γ.S) : SimB Γ { σ with h := upd σ.h id (some []) } (reals β id .ph) a w := by
  have hne : ∀ j, σ.h j ≠ none → j ≠ id := fun j hj e => hj (e ▸ hid)
  have hdom : ∀ j, σ.h j ≠ none → upd σ.h id (some []) j ≠ none := fun j hj => by simp only [upd, if_neg (hne j hj)]; exact hj
  have hβ : ∀ j, σ.h j ≠ none → reals β id .ph j = β j := fun j hj => by simp only [reals, if_neg (hne j hj)]
  have how : ∀ b, own { σ with h := upd σ.h id (some []) } (reals β id .ph) b → own σ β b := by
    rintro b ⟨id', cs', o, E', e1, e2⟩
    simp only [upd] at e1
    split at e1
    · rename_i e; simp [reals, e] at e2
    · rename_i e; simp only [reals, if_neg e] at e2; exact ⟨id', cs', o, E', e1, e2⟩
  have hok : ∀ g b, okOf Γ.X σ β w g b → okOf Γ.X { σ with h := upd σ.h id (some []) } (reals β id .ph) w g b ∧ w.heap[b]? = w.heap[b]? := fun g b hb => ⟨⟨hb.1, fun ho => hb.2.1 (how b ho), hb.2.2⟩, rfl⟩
  refine ⟨h.defers, h.size, h.keeps, fun t x e => ?_, fun id' cs' e => ?_, fun i1 i2 c1 c2 b o E1 o' E2 e1 e2 r1 r2 => ?_, fun b hb => h.ownb b (how b hb), fun t x e i hi => hdom i (h.wfs t x e i hi), fun id' cs' e i hii => ?_, fun i hi => by simp only [reals, if_neg (show i ≠ id from fun e => hS (e ▸ hi))]; exact h.stab i hi⟩
  · obtain ⟨v, h1, h2⟩ := h.slot t x e
    exact ⟨v, h1, Rep.mono hok x β _ v (fun i hi => hβ i (h.wfs t x e i hi)) h2⟩
  · simp only [upd] at e
    split at e
    · rename_i e'; injection e with e; subst e
      simp [reals, e', ObjAt]
    · rename_i e'
      simp only [reals, if_neg e']
      exact (h.obj id' cs' e).mono hok (fun _ _ _ _ => rfl) (fun i hii => hβ i (h.wfh id' cs' e i hii))
  · simp only [upd] at e1 e2
    simp only [reals] at r1 r2
    split at e1 <;> split at e2
    · omega
    · rename_i x1 x2; rw [if_pos x1] at r1; simp at r1
    · rename_i x1 x2; rw [if_pos x2] at r2; simp at r2
    · rename_i x1 x2; rw [if_neg x1] at r1; rw [if_neg x2] at r2
      exact h.inj i1 i2 c1 c2 b o E1 o' E2 e1 e2 r1 r2
  · simp only [upd] at e
    split at e
    · injection e with e; subst e; simp [idsL] at hii
    · exact hdom i (h.wfh id' cs' e i hii)

/-- An object's cells change. -/
theorem SimB.change (h : SimB Γ σ β a w) {id : Nat} {cs cs' : List T} (hid : σ.h id = some cs) {b o E : Nat} (hr : β id = .real b o E) (k : Keeps (fun x => x = b) w w')
    {c : Array Value} {el : TypeId} {fr : Nat × Nat} (hb : w'.heap[b]? = some (.cells c el fr)) (hE : o + E ≤ c.size) (hl : cs'.length ≤ E) (hf : NoFrost w' b c.size)
    {vs : List Value} (hv : RepL w (okOf Γ.X σ β w) cs' β vs) (hc : CellsAt w' b o vs) (hi : ∀ i ∈ idsL cs', σ.h i ≠ none) :
    SimB Γ { σ with h := upd σ.h id (some cs') } β a w' := by
  have hdom : ∀ j, σ.h j ≠ none → upd σ.h id (some cs') j ≠ none := fun j hj => by simp only [upd]; split <;> simp_all
  have how : ∀ b, own { σ with h := upd σ.h id (some cs') } β b → own σ β b := by
    rintro b ⟨id', c1, o', E', e1, e2⟩
    simp only [upd] at e1
    split at e1
    · rename_i e; subst e; exact ⟨id', cs, o', E', hid, e2⟩
    · exact ⟨id', c1, o', E', e1, e2⟩
  have hbo : own σ β b := ⟨id, cs, o, E, hid, hr⟩
  have hok : ∀ g b', okOf Γ.X σ β w g b' → okOf Γ.X { σ with h := upd σ.h id (some cs') } β w' g b' ∧ w'.heap[b']? = w.heap[b']? := fun g b' hb' =>
    ⟨⟨Nat.lt_of_lt_of_le hb'.1 k.size, fun ho => hb'.2.1 (how b' ho), hb'.2.2⟩, k.block b' hb'.1 (fun e => hb'.2.1 (e ▸ hbo))⟩
  refine ⟨h.defers, h.size, ?_, fun t x e => ?_, fun id' c1 e => ?_, fun i1 i2 c1 c2 b1 o1 E1 o' E2 e1 e2 r1 r2 => ?_, fun b' hb' => ?_, fun t x e i hi => hdom i (h.wfs t x e i hi), fun id' c1 e i hii => ?_, h.stab⟩
  · exact h.keeps.trans k (fun x hx e => by subst e; exact (h.ownb _ hbo).2.resolve_left (by omega))
  · obtain ⟨v, h1, h2⟩ := h.slot t x e
    exact ⟨v, h1, Rep.mono hok x β _ v (fun _ _ => rfl) h2⟩
  · simp only [upd] at e
    split at e
    · rename_i e'; subst e'; injection e with e; subst e
      rw [hr]
      exact ⟨c, el, fr, vs, hb, hE, hl, hf, RepL.mono hok cs' β β vs (fun _ _ => rfl) hv, hc⟩
    · rename_i e'
      refine (h.obj id' c1 e).mono hok (fun b1 o1 E1 hr1 => ?_) (fun _ _ => rfl)
      refine k.block b1 (h.ownb b1 ⟨id', c1, o1, E1, e, hr1⟩).1 (fun eb => ?_)
      subst eb
      exact e' (h.inj id' id c1 cs _ o1 E1 o E e hid hr1 hr)
  · simp only [upd] at e1 e2
    have x1 : ∃ c, σ.h i1 = some c := by split at e1 <;> first | (rename_i e; subst e; exact ⟨_, hid⟩) | exact ⟨_, e1⟩
    have x2 : ∃ c, σ.h i2 = some c := by split at e2 <;> first | (rename_i e; subst e; exact ⟨_, hid⟩) | exact ⟨_, e2⟩
    obtain ⟨d1, x1⟩ := x1
    obtain ⟨d2, x2⟩ := x2
    exact h.inj i1 i2 d1 d2 b1 o1 E1 o' E2 x1 x2 r1 r2
  · exact ⟨Nat.lt_of_lt_of_le (h.ownb b' (how b' hb')).1 k.size, (h.ownb b' (how b' hb')).2⟩
  · simp only [upd] at e
    split at e
    · injection e with e; subst e; exact hdom i (hi i hii)
    · exact hdom i (h.wfh id' c1 e i hii)

/-- An object goes on under another name, with other cells in its block; what led to it is forgotten. -/
theorem SimB.retake (h : SimB Γ σ β a w) {id id' : Nat} {cs cs' : List T} (hid : σ.h id = some cs) (hn : id' = id ∨ σ.h id' = none) (hS : id' ∉ Γ.S) {b o E o' E' : Nat} (hr : β id = .real b o E) (k : Keeps (fun x => x = b) w w')
    {c : Array Value} {el : TypeId} {fr : Nat × Nat} (hb : w'.heap[b]? = some (.cells c el fr)) (hE : o' + E' ≤ c.size) (hl : cs'.length ≤ E') (hf : NoFrost w' b c.size)
    {vs : List Value} (hv : RepL w (okOf Γ.X σ β w) cs' β vs) (hc : CellsAt w' b o' vs) (hi : ∀ i ∈ idsL cs', i ≠ id ∧ σ.h i ≠ none) :
    SimB Γ { σ.drop id with h := upd (σ.drop id).h id' (some cs') } (reals β id' (.real b o' E')) a w' := by
  have hd := h.drop id
  have hd' : (σ.drop id).h id' = none := by
    rcases hn with rfl | hn
    · simp [St.drop]
    · simp [St.drop, hn]
  have hne : ∀ j, (σ.drop id).h j ≠ none → j ≠ id' := fun j hj e => hj (e ▸ hd')
  have hβ : ∀ j, (σ.drop id).h j ≠ none → reals β id' (.real b o' E') j = β j := fun j hj => by simp only [reals, if_neg (hne j hj)]
  have hdom : ∀ j, (σ.drop id).h j ≠ none → upd (σ.drop id).h id' (some cs') j ≠ none := fun j hj => by simp only [upd, if_neg (hne j hj)]; exact hj
  have hdropO : ∀ j c, (σ.drop id).h j = some c → j ≠ id ∧ ∃ c', σ.h j = some c' ∧ c = purgeL id c' := by
    intro j c e
    simp only [St.drop] at e
    split at e
    · simp at e
    · obtain ⟨cs', e3, e4⟩ := Option.map_eq_some_iff.1 e
      exact ⟨by assumption, cs', e3, e4.symm⟩
  have hbo : own σ β b := ⟨id, cs, o, E, hid, hr⟩
  have how : ∀ x, own { σ.drop id with h := upd (σ.drop id).h id' (some cs') } (reals β id' (.real b o' E')) x → own σ β x := by
    rintro x ⟨j, c1, o1, E1, e1, e2⟩
    simp only [upd] at e1
    split at e1
    · rename_i e; simp only [reals, if_pos e, Real.real.injEq] at e2; rw [← e2.1]; exact hbo
    · rename_i e; simp only [reals, if_neg e] at e2
      obtain ⟨_, c', e3, _⟩ := hdropO j c1 e1
      exact ⟨j, c', o1, E1, e3, e2⟩
  have hok : ∀ g x, okOf Γ.X σ β w g x → okOf Γ.X { σ.drop id with h := upd (σ.drop id).h id' (some cs') } (reals β id' (.real b o' E')) w' g x ∧ w'.heap[x]? = w.heap[x]? := fun g x hx =>
    ⟨⟨Nat.lt_of_lt_of_le hx.1 k.size, fun ho => hx.2.1 (how x ho), hx.2.2⟩, k.block x hx.1 (fun e => hx.2.1 (e ▸ hbo))⟩
  have hkeep : ∀ j c1 b1 o1 E1, j ≠ id → σ.h j = some c1 → β j = .real b1 o1 E1 → w'.heap[b1]? = w.heap[b1]? := fun j c1 b1 o1 E1 hj e1 e2 =>
    k.block b1 (h.ownb b1 ⟨j, c1, o1, E1, e1, e2⟩).1 (fun eb => hj (by subst eb; exact h.inj j id c1 cs _ o1 E1 o E e1 hid e2 hr))
  have hids : ∀ cs1, (∀ i ∈ idsL cs1, σ.h i ≠ none) → ∀ i ∈ idsL (purgeL id cs1), (σ.drop id).h i ≠ none := by
    intro cs1 hc i hi
    obtain ⟨h1, h2⟩ := ids_purgeL id cs1 i hi
    simp only [St.drop, if_neg h1]
    simpa using hc i h2
  have hi' : ∀ i ∈ idsL cs', (σ.drop id).h i ≠ none := fun i hii => by
    obtain ⟨h1, h2⟩ := hi i hii
    simp only [St.drop, if_neg h1]
    simpa using h2
  refine ⟨h.defers, h.size, ?_, fun t x e => ?_, fun j c1 e => ?_, fun i1 i2 c1 c2 b1 o1 E1 o2 E2 e1 e2 r1 r2 => ?_, fun x hx => ?_, fun t x e i hi => hdom i (hd.wfs t x e i hi), fun j c1 e i hii => ?_, fun i hi => by simp only [reals, if_neg (show i ≠ id' from fun e => hS (e ▸ hi))]; exact h.stab i hi⟩
  · exact h.keeps.trans k (fun x hx e => by subst e; exact (h.ownb _ hbo).2.resolve_left (by omega))
  · obtain ⟨y, e1, rfl⟩ := Option.map_eq_some_iff.1 e
    obtain ⟨v, h1, h2⟩ := h.slot t y e1
    exact ⟨v, h1, Rep.mono hok _ β _ v (fun i hi => hβ i (hd.wfs t _ e i hi)) (Rep.purge id y β v h2)⟩
  · simp only [upd] at e
    split at e
    · rename_i e'; injection e with e; subst e
      simp only [reals, if_pos e']
      exact ⟨c, el, fr, vs, hb, hE, hl, hf, RepL.mono hok cs' β _ vs (fun i hii => hβ i (hi' i hii)) hv, hc⟩
    · rename_i e'
      simp only [reals, if_neg e']
      obtain ⟨hjd, c', e3, rfl⟩ := hdropO j c1 e
      exact ((h.obj j c' e3).purge id).mono hok (fun b1 o1 E1 hr1 => hkeep j c' b1 o1 E1 hjd e3 hr1) (fun i hi => hβ i (hids c' (h.wfh j c' e3) i hi))
  · simp only [upd] at e1 e2
    simp only [reals] at r1 r2
    split at e1 <;> split at e2
    · omega
    · rename_i x1 x2; rw [if_pos x1] at r1; rw [if_neg x2] at r2
      injection r1 with r1; subst r1
      obtain ⟨hne2, c', e3, _⟩ := hdropO i2 c2 e2
      exact absurd (h.inj id i2 cs c' _ o E o2 E2 hid e3 hr r2).symm hne2
    · rename_i x1 x2; rw [if_neg x1] at r1; rw [if_pos x2] at r2
      injection r2 with r2; subst r2
      obtain ⟨hne1, c', e3, _⟩ := hdropO i1 c1 e1
      exact absurd (h.inj i1 id c' cs _ o1 E1 o E e3 hid r1 hr) hne1
    · rename_i x1 x2; rw [if_neg x1] at r1; rw [if_neg x2] at r2
      obtain ⟨_, d1, e3, _⟩ := hdropO i1 c1 e1
      obtain ⟨_, d2, e4, _⟩ := hdropO i2 c2 e2
      exact h.inj i1 i2 d1 d2 b1 o1 E1 o2 E2 e3 e4 r1 r2
  · exact ⟨Nat.lt_of_lt_of_le (h.ownb x (how x hx)).1 k.size, (h.ownb x (how x hx)).2⟩
  · simp only [upd] at e
    split at e
    · injection e with e; subst e; exact hdom i (hi' i hii)
    · exact hdom i (hd.wfh j c1 e i hii)
end

end Go.Vw

import Derived.Below
import Derived.OwnWalk
import Derived.KernelRfl
import GoSem.ClaimJoined
import Derived.Laws.IdiomCopy
import Derived.Laws.Append
import Derived.Laws.BytesString
import Derived.Lib.ConvBytes
set_option linter.unusedVariables false
namespace Go.Vw
open Go Go.RowKit
inductive Tag | shr | brw
deriving DecidableEq
inductive T where
 | dead
 | leaf (v : Value)
 | e0
 | sl (m : Nat) (g : Tag) (n : Nat) (cs : List T)
 | xl (m : Nat) (g : Tag) (n : Nat) (cs : List T)
 | pt (g : Tag) (off : Nat) (cs : List T)
 | agg (cs : List T)
 | tup (cs : List T)
 | iface (t : TypeId) (v : T)
 | fn (f : Fn) (first captured : List T)
 | ref (id m off n : Nat)
 | addr (id off : Nat)
deriving Inhabited
inductive Real | ph | real (b o E : Nat)
deriving Inhabited
mutual
def T.ids : T → List Nat
 | .dead | .leaf _ | .e0 | .sl .. | .xl .. | .pt .. => []
 | .agg cs | .tup cs => idsL cs
 | .iface _ v => v.ids
 | .fn _ p q => idsL p ++ idsL q
 | .ref id _ _ _ | .addr id _ => [id]
def idsL : List T → List Nat
 | [] => []
 | t :: ts => t.ids ++ idsL ts
end
mutual
def Rep (w : World) (ok : Tag → Nat → Prop) : T → (Nat → Real) → Value → Prop
 | .dead, _, _ => True
 | .leaf v, _, x => x = v
 | .e0, _, x => ∃ a, x = .slice a 0 0
 | .sl m g n cs, _, x => (cs.length = n * m ∧ idsL cs = []) ∧ ∃ a cap, x = .slice a n cap ∧ n ≤ cap ∧ (n = 0 ∨ ∃ b o, a = some ⟨b, o, none⟩ ∧ ok g b ∧ RepAt w ok b cs o)
 | .xl m g n cs, _, x => (cs.length = n * m ∧ idsL cs = []) ∧ ∃ a, x = .slice a n n ∧ (n = 0 ∨ ∃ b o, a = some ⟨b, o, none⟩ ∧ ok g b ∧ RepAt w ok b cs o)
 | .pt g off cs, _, x => idsL cs = [] ∧ ∃ b o, x = .pointer (some ⟨b, o + off, none⟩) ∧ ok g b ∧ RepAt w ok b cs o
 | .agg cs, β, x => ∃ vs, x = .agg vs.toArray ∧ RepL w ok cs β vs
 | .tup cs, β, x => ∃ vs, x = .tuple vs.toArray ∧ RepL w ok cs β vs
 | .iface t v, β, x => ∃ y, x = .iface t y ∧ Rep w ok v β y
 | .fn f p q, β, x => ∃ ps qs, x = .func f ps.toArray qs.toArray ∧ RepL w ok p β ps ∧ RepL w ok q β qs
 | .ref id m off n, β, x =>
  match β id with
  | .ph => off = 0 ∧ n = 0 ∧ ∃ a, x = .slice a 0 0
  | .real b o E => ∃ a cap, x = .slice a n cap ∧ n ≤ cap ∧ off + cap * m ≤ E ∧ (cap = 0 ∨ a = some ⟨b, o + off, none⟩)
 | .addr id off, β, x =>
  match β id with
  | .ph => False
  | .real b o _ => x = .pointer (some ⟨b, o + off, none⟩)
def RepL (w : World) (ok : Tag → Nat → Prop) : List T → (Nat → Real) → List Value → Prop
 | [], _, vs => vs = []
 | t :: ts, β, vs => ∃ v us, vs = v :: us ∧ Rep w ok t β v ∧ RepL w ok ts β us
def RepAt (w : World) (ok : Tag → Nat → Prop) (b : Nat) : List T → Nat → Prop
 | [], _ => True
 | t :: ts, o => (∃ v, w.cell? ⟨b, o, none⟩ = some v ∧ Rep w ok t (fun _ => .ph) v) ∧ RepAt w ok b ts (o + 1)
end
section
variable {w w' : World} {ok ok' : Tag → Nat → Prop}
mutual
theorem Rep.mono (hok : ∀ g b, ok g b → ok' g b ∧ w'.heap[b]? = w.heap[b]?) : ∀ (t : T) (β β' : Nat → Real) (x : Value), (∀ i ∈ t.ids, β' i = β i) → Rep w ok t β x → Rep w' ok' t β' x
 | .dead, _, _, _, _, _ => by simp only [Rep]
 | .leaf v, _, _, _, _, h => by simpa only [Rep] using h
 | .e0, _, _, _, _, h => by simpa only [Rep] using h
 | .sl m g n cs, _, _, _, _, h => by
  simp only [Rep] at h ⊢
  obtain ⟨h1, a, cap, h2, h3, h4⟩ := h
  refine ⟨h1, a, cap, h2, h3, h4.imp id ?_⟩
  rintro ⟨b, o, h5, h6, h7⟩
  exact ⟨b, o, h5, (hok g b h6).1, RepAt.mono hok b (hok g b h6).2 cs o h7⟩
 | .xl m g n cs, _, _, _, _, h => by
  simp only [Rep] at h ⊢
  obtain ⟨h1, a, h2, h4⟩ := h
  refine ⟨h1, a, h2, h4.imp id ?_⟩
  rintro ⟨b, o, h5, h6, h7⟩
  exact ⟨b, o, h5, (hok g b h6).1, RepAt.mono hok b (hok g b h6).2 cs o h7⟩
 | .pt g off cs, _, _, _, _, h => by
  simp only [Rep] at h ⊢
  obtain ⟨h0, b, o, h5, h6, h7⟩ := h
  exact ⟨h0, b, o, h5, (hok g b h6).1, RepAt.mono hok b (hok g b h6).2 cs o h7⟩
 | .agg cs, β, β', _, hi, h => by
  simp only [Rep] at h ⊢
  obtain ⟨vs, h1, h2⟩ := h
  exact ⟨vs, h1, RepL.mono hok cs β β' vs (by simpa [T.ids] using hi) h2⟩
 | .tup cs, β, β', _, hi, h => by
  simp only [Rep] at h ⊢
  obtain ⟨vs, h1, h2⟩ := h
  exact ⟨vs, h1, RepL.mono hok cs β β' vs (by simpa [T.ids] using hi) h2⟩
 | .iface t v, β, β', _, hi, h => by
  simp only [Rep] at h ⊢
  obtain ⟨y, h1, h2⟩ := h
  exact ⟨y, h1, Rep.mono hok v β β' y (by simpa [T.ids] using hi) h2⟩
 | .fn f p q, β, β', _, hi, h => by
  simp only [Rep] at h ⊢
  obtain ⟨ps, qs, h1, h2, h3⟩ := h
  simp only [T.ids, List.mem_append] at hi
  exact ⟨ps, qs, h1, RepL.mono hok p β β' ps (fun i h => hi i (.inl h)) h2, RepL.mono hok q β β' qs (fun i h => hi i (.inr h)) h3⟩
 | .ref id m off n, β, β', _, hi, h => by
  have e := hi id (by simp [T.ids])
  simp only [Rep] at h ⊢
  rw [e]; exact h
 | .addr id off, β, β', _, hi, h => by
  have e := hi id (by simp [T.ids])
  simp only [Rep] at h ⊢
  rw [e]; exact h
theorem RepL.mono (hok : ∀ g b, ok g b → ok' g b ∧ w'.heap[b]? = w.heap[b]?) : ∀ (ts : List T) (β β' : Nat → Real) (vs : List Value), (∀ i ∈ idsL ts, β' i = β i) → RepL w ok ts β vs → RepL w' ok' ts β' vs
 | [], _, _, _, _, h => by simpa only [RepL] using h
 | t :: ts, β, β', vs, hi, h => by
  simp only [RepL] at h ⊢
  obtain ⟨v, us, h1, h2, h3⟩ := h
  simp only [idsL, List.mem_append] at hi
  exact ⟨v, us, h1, Rep.mono hok t β β' v (fun i h => hi i (.inl h)) h2, RepL.mono hok ts β β' us (fun i h => hi i (.inr h)) h3⟩
theorem RepAt.mono (hok : ∀ g b, ok g b → ok' g b ∧ w'.heap[b]? = w.heap[b]?) (b : Nat) (hb : w'.heap[b]? = w.heap[b]?) : ∀ (ts : List T) (o : Nat), RepAt w ok b ts o → RepAt w' ok' b ts o
 | [], _, _ => by simp only [RepAt]
 | t :: ts, o, h => by
  simp only [RepAt] at h ⊢
  obtain ⟨⟨v, h1, h2⟩, h3⟩ := h
  refine ⟨⟨v, ?_, Rep.mono hok t _ _ v (fun _ _ => rfl) h2⟩, RepAt.mono hok b hb ts (o + 1) h3⟩
  rw [World.cell?_of_block (w := w) hb]; exact h1
end
end
mutual
def T.purge (i : Nat) : T → T
 | .dead => .dead
 | .leaf v => .leaf v
 | .e0 => .e0
 | .sl m g n cs => .sl m g n cs
 | .xl m g n cs => .xl m g n cs
 | .pt g o cs => .pt g o cs
 | .agg cs => .agg (purgeL i cs)
 | .tup cs => .tup (purgeL i cs)
 | .iface t v => .iface t (v.purge i)
 | .fn f p q => .fn f (purgeL i p) (purgeL i q)
 | .ref id m o n => if id = i then .dead else .ref id m o n
 | .addr id o => if id = i then .dead else .addr id o
def purgeL (i : Nat) : List T → List T
 | [] => []
 | t :: ts => t.purge i :: purgeL i ts
end
mutual
theorem T.ids_purge (i : Nat) : ∀ (t : T), ∀ x ∈ (t.purge i).ids, x ≠ i ∧ x ∈ t.ids
 | .dead | .leaf _ | .e0 | .sl .. | .xl .. | .pt .. => by simp [T.purge, T.ids]
 | .agg cs | .tup cs => by simpa [T.purge, T.ids] using ids_purgeL i cs
 | .iface _ v => by simpa [T.purge, T.ids] using T.ids_purge i v
 | .fn _ p q => by
  simp only [T.purge, T.ids, List.mem_append]
  rintro x (h | h)
  ·exact ⟨(ids_purgeL i p x h).1, .inl (ids_purgeL i p x h).2⟩
  ·exact ⟨(ids_purgeL i q x h).1, .inr (ids_purgeL i q x h).2⟩
 | .ref id _ _ _ | .addr id _ => by
  simp only [T.purge]
  split
  ·simp [T.ids]
  ·rename_i h; simp only [T.ids, List.mem_singleton]; rintro x rfl; exact ⟨h, rfl⟩
theorem ids_purgeL (i : Nat) : ∀ (ts : List T), ∀ x ∈ idsL (purgeL i ts), x ≠ i ∧ x ∈ idsL ts
 | [] => by simp [purgeL, idsL]
 | t :: ts => by
  simp only [purgeL, idsL, List.mem_append]
  rintro x (h | h)
  ·exact ⟨(T.ids_purge i t x h).1, .inl (T.ids_purge i t x h).2⟩
  ·exact ⟨(ids_purgeL i ts x h).1, .inr (ids_purgeL i ts x h).2⟩
end
theorem purgeL_length (i : Nat) (ts : List T) : (purgeL i ts).length = ts.length := by
 induction ts with
 | nil => rfl
 | cons t ts ih => simp [purgeL, ih]
section
variable {w : World} {ok : Tag → Nat → Prop}
mutual
theorem Rep.purge (i : Nat) : ∀ (t : T) (β : Nat → Real) (x : Value), Rep w ok t β x → Rep w ok (t.purge i) β x
 | .dead, _, _, _ => by simp [T.purge, Rep]
 | .leaf _, _, _, h | .e0, _, _, h | .sl .., _, _, h | .xl .., _, _, h | .pt .., _, _, h => by simpa only [T.purge] using h
 | .agg cs, β, _, h => by
  simp only [Rep, T.purge] at h ⊢
  obtain ⟨vs, h1, h2⟩ := h
  exact ⟨vs, h1, RepL.purge i cs β vs h2⟩
 | .tup cs, β, _, h => by
  simp only [Rep, T.purge] at h ⊢
  obtain ⟨vs, h1, h2⟩ := h
  exact ⟨vs, h1, RepL.purge i cs β vs h2⟩
 | .iface t v, β, _, h => by
  simp only [Rep, T.purge] at h ⊢
  obtain ⟨y, h1, h2⟩ := h
  exact ⟨y, h1, Rep.purge i v β y h2⟩
 | .fn f p q, β, _, h => by
  simp only [Rep, T.purge] at h ⊢
  obtain ⟨ps, qs, h1, h2, h3⟩ := h
  exact ⟨ps, qs, h1, RepL.purge i p β ps h2, RepL.purge i q β qs h3⟩
 | .ref id m o n, β, _, h => by
  simp only [T.purge]; split
  ·simp [Rep]
  ·exact h
 | .addr id o, β, _, h => by
  simp only [T.purge]; split
  ·simp [Rep]
  ·exact h
theorem RepL.purge (i : Nat) : ∀ (ts : List T) (β : Nat → Real) (vs : List Value), RepL w ok ts β vs → RepL w ok (purgeL i ts) β vs
 | [], _, _, h => by simpa only [purgeL] using h
 | t :: ts, β, vs, h => by
  simp only [RepL, purgeL] at h ⊢
  obtain ⟨v, us, h1, h2, h3⟩ := h
  exact ⟨v, us, h1, Rep.purge i t β v h2, RepL.purge i ts β us h3⟩
end
end
section
variable {w : World} {ok : Tag → Nat → Prop} {β : Nat → Real}
theorem RepL.length : ∀ {ts : List T} {vs : List Value}, RepL w ok ts β vs → vs.length = ts.length
 | [], vs, h => by simp only [RepL] at h; simp [h]
 | t :: ts, vs, h => by
  simp only [RepL] at h
  obtain ⟨v, us, rfl, _, h3⟩ := h
  simp [RepL.length h3]
theorem RepL.get : ∀ {ts : List T} {vs : List Value} {i : Nat} {t : T}, RepL w ok ts β vs → ts[i]? = some t → ∃ v, vs[i]? = some v ∧ Rep w ok t β v
 | [], _, _, _, _, e => by simp at e
 | t :: ts, vs, i, u, h, e => by
  simp only [RepL] at h
  obtain ⟨v, us, rfl, h2, h3⟩ := h
  cases i with
  | zero => simp at e; subst e; exact ⟨v, rfl, h2⟩
  | succ i => simpa using RepL.get h3 (by simpa using e)
theorem RepL.of_get : ∀ {ts : List T} {vs : List Value}, vs.length = ts.length → (∀ (i : Nat) t v, ts[i]? = some t → vs[i]? = some v → Rep w ok t β v) → RepL w ok ts β vs
 | [], vs, h, _ => by simp only [RepL]; exact List.length_eq_zero_iff.1 (by simpa using h)
 | t :: ts, [], h, _ => by simp at h
 | t :: ts, v :: us, h, hg => by
  simp only [RepL]
  exact ⟨v, us, rfl, hg 0 t v rfl rfl, RepL.of_get (by simpa using h) (fun i t v h1 h2 => hg (i + 1) t v (by simpa using h1) (by simpa using h2))⟩
theorem RepL.append {ts us : List T} {vs xs : List Value} (h : RepL w ok ts β vs) (k : RepL w ok us β xs) : RepL w ok (ts ++ us) β (vs ++ xs) := by
 induction ts generalizing vs with
 | nil => simp only [RepL] at h; subst h; simpa using k
 | cons t ts ih =>
  simp only [RepL] at h
  obtain ⟨v, us', rfl, h2, h3⟩ := h
  simp only [List.cons_append, RepL]
  exact ⟨v, us' ++ xs, rfl, h2, ih h3⟩
theorem RepL.drop {ts : List T} {vs : List Value} (n : Nat) (h : RepL w ok ts β vs) : RepL w ok (ts.drop n) β (vs.drop n) := by
 induction n generalizing ts vs with
 | zero => simpa using h
 | succ n ih =>
  cases ts with
  | nil => simp only [RepL] at h; subst h; simp [RepL]
  | cons t ts =>
   simp only [RepL] at h
   obtain ⟨v, us', rfl, h2, h3⟩ := h
   simpa using ih h3
theorem RepL.take {ts : List T} {vs : List Value} (n : Nat) (h : RepL w ok ts β vs) : RepL w ok (ts.take n) β (vs.take n) := by
 induction n generalizing ts vs with
 | zero => simp [RepL]
 | succ n ih =>
  cases ts with
  | nil => simp only [RepL] at h; subst h; simp [RepL]
  | cons t ts =>
   simp only [RepL] at h
   obtain ⟨v, us', rfl, h2, h3⟩ := h
   simp only [List.take_succ_cons, RepL]
   exact ⟨v, us'.take n, rfl, h2, ih h3⟩
theorem RepL.leaves (vs : List Value) : RepL w ok (vs.map .leaf) β vs := by
 induction vs with
 | nil => simp [RepL]
 | cons v vs ih => simp only [List.map_cons, RepL]; exact ⟨v, vs, rfl, by simp [Rep], ih⟩
theorem RepL.set {ts : List T} {vs : List Value} (i : Nat) {t : T} {v : Value} (h : RepL w ok ts β vs) (ht : Rep w ok t β v) : RepL w ok (ts.set i t) β (vs.set i v) := by
 induction ts generalizing vs i with
 | nil => simp only [RepL] at h; subst h; simp [RepL]
 | cons u ts ih =>
  simp only [RepL] at h
  obtain ⟨x, us', rfl, h2, h3⟩ := h
  cases i with
  | zero => simp only [List.set_cons_zero, RepL]; exact ⟨v, us', rfl, ht, h3⟩
  | succ i => simp only [List.set_cons_succ, RepL]; exact ⟨x, us'.set i v, rfl, h2, ih i h3⟩
theorem RepL.idsub {ts : List T} {i : Nat} {t : T} (h : ts[i]? = some t) : ∀ x ∈ t.ids, x ∈ idsL ts := by
 induction ts generalizing i with
 | nil => simp at h
 | cons u ts ih =>
  intro x hx
  simp only [idsL, List.mem_append]
  cases i with
  | zero => simp at h; subst h; exact .inl hx
  | succ i => exact .inr (ih (by simpa using h) x hx)
def CellsAt (w : World) (b o : Nat) (vs : List Value) : Prop := ∀ i v, vs[i]? = some v → w.cell? ⟨b, o + i, none⟩ = some v
theorem RepAt.open_ {b : Nat} : ∀ {ts : List T} {o : Nat}, RepAt w ok b ts o → ∃ vs, RepL w ok ts (fun _ => .ph) vs ∧ CellsAt w b o vs
 | [], _, _ => ⟨[], by simp [RepL], fun i v h => by simp at h⟩
 | t :: ts, o, h => by
  simp only [RepAt] at h
  obtain ⟨⟨v, h1, h2⟩, h3⟩ := h
  obtain ⟨vs, h4, h5⟩ := RepAt.open_ h3
  refine ⟨v :: vs, by simp only [RepL]; exact ⟨v, vs, rfl, h2, h4⟩, fun i u e => ?_⟩
  cases i with
  | zero => simp at e; subst e; simpa using h1
  | succ i => have := h5 i u (by simpa using e); rw [show o + (i + 1) = o + 1 + i from by omega]; exact this
theorem RepAt.shut {b : Nat} : ∀ {ts : List T} {o : Nat} {vs : List Value}, RepL w ok ts (fun _ => .ph) vs → CellsAt w b o vs → RepAt w ok b ts o
 | [], _, _, _, _ => by simp only [RepAt]
 | t :: ts, o, vs, h, hc => by
  simp only [RepL] at h
  obtain ⟨v, us, rfl, h2, h3⟩ := h
  simp only [RepAt]
  exact ⟨⟨v, by simpa using hc 0 v rfl, h2⟩, RepAt.shut h3 fun i u e => by have := hc (i + 1) u (by simpa using e); rw [show o + 1 + i = o + (i + 1) from by omega]; exact this⟩
theorem CellsAt.drop {b o : Nat} {vs : List Value} (n : Nat) (h : CellsAt w b o vs) : CellsAt w b (o + n) (vs.drop n) := fun i v e => by
 rw [List.getElem?_drop] at e
 rw [Nat.add_assoc]; exact h _ _ e
theorem CellsAt.take {b o : Nat} {vs : List Value} (n : Nat) (h : CellsAt w b o vs) : CellsAt w b o (vs.take n) := fun i v e => by
 rw [List.getElem?_take] at e
 split at e
 ·exact h _ _ e
 ·simp at e
end
end Go.Vw
namespace Go.Vw
open Go Go.RowKit
structure St where
  s : Nat → Option T
  h : Nat → Option (List T)
def ofV : Value → T
  | .agg cs => .agg (cs.toList.map .leaf)
  | v => .leaf v
def St.ev (σ : St) : Operand → Option T
  | .tmp t => σ.s t
  | .const v => some (ofV v)
  | .global g => some (.leaf (.pointer (some ⟨g, 0, none⟩)))
  | .func f => some (.fn (.func f) [] [])
def upd {α : Type} (f : Nat → Option α) (n : Nat) (x : Option α) : Nat → Option α := fun m => if m = n then x else f m
def Known (P : Program) (b : Nat) (cs : List Value) : Prop :=
  P.globalNamed "errors.errorType" = some b ∧ ∃ rt ty, (P.cutTypes.find? (·.1 == "internal/reflectlite.rtype")).map (·.2) = some rt ∧ ty < P.types.size ∧ P.rowNamed ty [101, 114, 114, 111, 114] = true ∧ cs = [.iface rt (.agg #[typeHandle P ty])]
structure Cx where
  P : Program
  n : Nat
  w0 : World
  lent : Nat → Prop
  X : Tag → Nat → Prop
  X_old : ∀ g b, X g b → b < w0.heap.size ∧ ¬ lent b
  X_sub : ∀ b, X .brw b → X .shr b
  S : List Nat
  β0 : Nat → Real
  held : ∀ b cs, Known P b cs → b < w0.heap.size ∧ ¬ lent b ∧ CellsAt w0 b 0 cs
  rd : Option Nat := none
  ds : List Deferred := []
structure Keeps (lent : Nat → Prop) (w w' : World) : Prop where
  os : w'.os = w.os
  tape : w'.tape = w.tape
  output : w'.output = w.output
  size : w.heap.size ≤ w'.heap.size
  block : ∀ b, b < w.heap.size → ¬ lent b → w'.heap[b]? = w.heap[b]?
theorem Keeps.refl (lent : Nat → Prop) (w : World) : Keeps lent w w := ⟨rfl, rfl, rfl, Nat.le_refl _, fun _ _ _ => rfl⟩
theorem Keeps.trans {l l' : Nat → Prop} {w w' w'' : World} (h : Keeps l w w') (k : Keeps l' w' w'') (hl : ∀ b, b < w.heap.size → l' b → l b) : Keeps l w w'' :=
  ⟨k.os.trans h.os, k.tape.trans h.tape, k.output.trans h.output, Nat.le_trans h.size k.size,
   fun b hb hn => (k.block b (Nat.lt_of_lt_of_le hb h.size) (fun h' => hn (hl b hb h'))).trans (h.block b hb hn)⟩
theorem Keeps.alloc (l : Nat → Prop) (w : World) (o : Obj) : Keeps l w (w.alloc o) :=
  ⟨rfl, rfl, rfl, by simp, fun b hb _ => Below.heap_alloc _ _ _ hb⟩
theorem Keeps.drew (l : Nat → Prop) (w : World) : Keeps l w w.drew := ⟨rfl, rfl, rfl, Nat.le_refl _, fun _ _ _ => rfl⟩
def own (σ : St) (β : Nat → Real) (b : Nat) : Prop := ∃ id cs o E, σ.h id = some cs ∧ β id = .real b o E
def okOf (X : Tag → Nat → Prop) (σ : St) (β : Nat → Real) (w : World) : Tag → Nat → Prop := fun g b => b < w.heap.size ∧ ¬ own σ β b ∧ ¬ X g b
def NoFrost (w : World) (b n : Nat) : Prop := ∀ c e lo hi, w.heap[b]? = some (.cells c e (lo, hi)) → lo = hi ∨ n ≤ lo
theorem NoFrost.get {w : World} {b n i : Nat} (h : NoFrost w b n) (hi : i < n) : w.frozen? ⟨b, i, none⟩ = false := by
  unfold World.frozen?
  split
  · rename_i c e lo hi' hb
    rcases h _ _ _ _ hb with h | h
    · simp; omega
    · simp; omega
  · rfl
def ObjAt (w : World) (ok : Tag → Nat → Prop) (β : Nat → Real) (cs : List T) : Real → Prop
  | .ph => cs = []
  | .real b o E => ∃ c e fr vs, w.heap[b]? = some (.cells c e fr) ∧ o + E ≤ c.size ∧ cs.length ≤ E ∧ NoFrost w b c.size ∧ RepL w ok cs β vs ∧ CellsAt w b o vs
structure SimB (Γ : Cx) (σ : St) (β : Nat → Real) (a : Act) (w : World) : Prop where
  defers : a.defers = Γ.ds
  size : a.tmps.size = Γ.n
  keeps : Keeps Γ.lent Γ.w0 w
  slot : ∀ t x, σ.s t = some x → ∃ v, a.tmps[t]? = some v ∧ Rep w (okOf Γ.X σ β w) x β v
  obj : ∀ id cs, σ.h id = some cs → ObjAt w (okOf Γ.X σ β w) β cs (β id)
  inj : ∀ id id' cs cs' b o E o' E', σ.h id = some cs → σ.h id' = some cs' → β id = .real b o E → β id' = .real b o' E' → id = id'
  ownb : ∀ b, own σ β b → b < w.heap.size ∧ (Γ.w0.heap.size ≤ b ∨ Γ.lent b)
  wfs : ∀ t x, σ.s t = some x → ∀ i ∈ x.ids, σ.h i ≠ none
  wfh : ∀ id cs, σ.h id = some cs → ∀ i ∈ idsL cs, σ.h i ≠ none
  stab : ∀ i ∈ Γ.S, β i = Γ.β0 i
def Sim (Γ : Cx) (σ : St) (a : Act) (w : World) : Prop := ∃ β, SimB Γ σ β a w
section
variable {Γ : Cx} {σ : St} {β : Nat → Real} {a : Act} {w w' : World}
theorem ofV_rep (ok : Tag → Nat → Prop) (v : Value) : Rep w ok (ofV v) β v := by
  cases v with
  | agg cs => simp only [ofV, Rep]; exact ⟨cs.toList, by simp, RepL.leaves _⟩
  | _ => simp [ofV, Rep]
theorem idsL_leaves (vs : List Value) : idsL (vs.map .leaf) = [] := by
  induction vs with
  | nil => rfl
  | cons v vs ih => simp [idsL, T.ids, ih]
theorem ofV_ids (v : Value) : (ofV v).ids = [] := by
  cases v with
  | agg cs => simp only [ofV, T.ids]; exact idsL_leaves _
  | _ => rfl
theorem SimB.ev (h : SimB Γ σ β a w) {x : Operand} {t : T} (e : σ.ev x = some t) : Rep w (okOf Γ.X σ β w) t β (a.eval x) := by
  cases x with
  | tmp n =>
    obtain ⟨v, h1, h2⟩ := h.slot n t e
    have : a.eval (.tmp n) = v := by simp [Act.eval, Array.getD_eq_getD_getElem?, h1]
    rw [this]; exact h2
  | const v => simp only [St.ev, Option.some.injEq] at e; subst e; exact ofV_rep _ v
  | global g => simp only [St.ev, Option.some.injEq] at e; subst e; simp [Rep, Act.eval]
  | func f => simp only [St.ev, Option.some.injEq] at e; subst e; simp only [Rep, RepL, Act.eval]; exact ⟨[], [], rfl, rfl, rfl⟩
theorem SimB.ev_ids (h : SimB Γ σ β a w) {x : Operand} {t : T} (e : σ.ev x = some t) : ∀ i ∈ t.ids, σ.h i ≠ none := by
  cases x with
  | tmp n => exact h.wfs n t e
  | const v => simp only [St.ev, Option.some.injEq] at e; subst e; simp [ofV_ids]
  | global g => simp only [St.ev, Option.some.injEq] at e; subst e; simp [T.ids]
  | func f => simp only [St.ev, Option.some.injEq] at e; subst e; simp [T.ids, idsL]
theorem ObjAt.mono {ok ok' : Tag → Nat → Prop} {β' : Nat → Real} {cs : List T} {r : Real} (hok : ∀ g b, ok g b → ok' g b ∧ w'.heap[b]? = w.heap[b]?)
    (hr : ∀ b o E, r = .real b o E → w'.heap[b]? = w.heap[b]?) (hi : ∀ i ∈ idsL cs, β' i = β i) (h : ObjAt w ok β cs r) : ObjAt w' ok' β' cs r := by
  cases r with
  | ph => exact h
  | real b o E =>
    have e := hr b o E rfl
    obtain ⟨c, el, fr, vs, h1, h2, h3, h4, h5, h6⟩ := h
    refine ⟨c, el, fr, vs, e.trans h1, h2, h3, fun c' e' lo hi q => h4 c' e' lo hi (e ▸ q), RepL.mono hok cs β β' vs hi h5, fun i v hv => ?_⟩
    · rw [World.cell?_of_block (w := w) e]; exact h6 i v hv
theorem SimB.grow (h : SimB Γ σ β a w) (k : Keeps (fun _ => False) w w') : SimB Γ σ β a w' := by
  have hok : ∀ g b, okOf Γ.X σ β w g b → okOf Γ.X σ β w' g b ∧ w'.heap[b]? = w.heap[b]? := fun g b hb => ⟨⟨Nat.lt_of_lt_of_le hb.1 k.size, hb.2⟩, k.block b hb.1 (by simp)⟩
  refine ⟨h.defers, h.size, h.keeps.trans k (fun _ _ => False.elim), fun t x e => ?_, fun id cs e => ?_, h.inj, fun b hb => ⟨Nat.lt_of_lt_of_le (h.ownb b hb).1 k.size, (h.ownb b hb).2⟩, h.wfs, h.wfh, h.stab⟩
  · obtain ⟨v, h1, h2⟩ := h.slot t x e
    exact ⟨v, h1, Rep.mono hok x β β v (fun _ _ => rfl) h2⟩
  · exact (h.obj id cs e).mono hok (fun b o E hr => k.block b (h.ownb b ⟨id, cs, o, E, e, hr⟩).1 (by simp)) (fun _ _ => rfl)
theorem SimB.put (h : SimB Γ σ β a w) {d : Nat} {x : T} {v : Value} (hd : d < Γ.n) (hx : Rep w (okOf Γ.X σ β w) x β v) (hi : ∀ i ∈ x.ids, σ.h i ≠ none) :
    SimB Γ { σ with s := upd σ.s d (some x) } β (a.put (some d) v) w := by
  have ho : own { σ with s := upd σ.s d (some x) } β = own σ β := rfl
  refine ⟨h.defers, by simpa [Act.put] using h.size, h.keeps, fun t y e => ?_, h.obj, h.inj, h.ownb, fun t y e => ?_, h.wfh, h.stab⟩
  · simp only [upd] at e
    split at e
    · rename_i ht; subst ht; injection e with e; subst e
      exact ⟨v, by simp [Act.put, h.size, hd], hx⟩
    · rename_i ht
      obtain ⟨u, h1, h2⟩ := h.slot t y e
      exact ⟨u, by rw [← h1]; simp [Act.put, Array.getElem?_setIfInBounds_ne (Ne.symm ht)], h2⟩
  · simp only [upd] at e
    split at e
    · injection e with e; subst e; exact hi
    · exact h.wfs t y e
theorem SimB.weaken (h : SimB Γ σ β a w) {σ' : St} (hs : ∀ t x, σ'.s t = some x → σ.s t = some x) (hh : ∀ id cs, σ'.h id = some cs → σ.h id = some cs)
    (w1 : ∀ t x, σ'.s t = some x → ∀ i ∈ x.ids, σ'.h i ≠ none) (w2 : ∀ id cs, σ'.h id = some cs → ∀ i ∈ idsL cs, σ'.h i ≠ none) : SimB Γ σ' β a w := by
  have how : ∀ b, own σ' β b → own σ β b := fun b ⟨id, cs, o, E, e1, e2⟩ => ⟨id, cs, o, E, hh _ _ e1, e2⟩
  have hok : ∀ g b, okOf Γ.X σ β w g b → okOf Γ.X σ' β w g b ∧ w.heap[b]? = w.heap[b]? := fun g b hb => ⟨⟨hb.1, fun ho => hb.2.1 (how b ho), hb.2.2⟩, rfl⟩
  refine ⟨h.defers, h.size, h.keeps, fun t x e => ?_, fun id cs e => ?_, fun id id' cs cs' b o E o' E' e1 e2 => h.inj id id' cs cs' b o E o' E' (hh _ _ e1) (hh _ _ e2), fun b hb => h.ownb b (how b hb), w1, w2, h.stab⟩
  · obtain ⟨v, h1, h2⟩ := h.slot t x (hs _ _ e)
    exact ⟨v, h1, Rep.mono hok x β β v (fun _ _ => rfl) h2⟩
  · exact (h.obj id cs (hh _ _ e)).mono hok (fun _ _ _ _ => rfl) (fun _ _ => rfl)
end
def St.drop (σ : St) (i : Nat) : St where
  s := fun t => (σ.s t).map (T.purge i)
  h := fun j => if j = i then none else (σ.h j).map (purgeL i)
section
variable {Γ : Cx} {σ : St} {β : Nat → Real} {a : Act} {w w' : World}
theorem ObjAt.purge {ok : Tag → Nat → Prop} {cs : List T} {r : Real} (i : Nat) (h : ObjAt w ok β cs r) : ObjAt w ok β (purgeL i cs) r := by
  cases r with
  | ph => simp only [ObjAt] at h ⊢; subst h; rfl
  | real b o E =>
    obtain ⟨c, el, fr, vs, h1, h2, h3, h4, h5, h6⟩ := h
    exact ⟨c, el, fr, vs, h1, h2, by rw [purgeL_length]; exact h3, h4, RepL.purge i cs β vs h5, h6⟩
theorem SimB.drop (h : SimB Γ σ β a w) (i : Nat) : SimB Γ (σ.drop i) β a w := by
  have how : ∀ b, own (σ.drop i) β b → own σ β b := by
    rintro b ⟨id, cs, o, E, e1, e2⟩
    simp only [St.drop] at e1
    split at e1
    · simp at e1
    · obtain ⟨cs', e3, _⟩ := Option.map_eq_some_iff.1 e1
      exact ⟨id, cs', o, E, e3, e2⟩
  have hok : ∀ g b, okOf Γ.X σ β w g b → okOf Γ.X (σ.drop i) β w g b ∧ w.heap[b]? = w.heap[b]? := fun g b hb => ⟨⟨hb.1, fun ho => hb.2.1 (how b ho), hb.2.2⟩, rfl⟩
  have hh : ∀ id cs, (σ.drop i).h id = some cs → id ≠ i ∧ ∃ cs', σ.h id = some cs' ∧ cs = purgeL i cs' := by
    intro id cs e
    simp only [St.drop] at e
    split at e
    · simp at e
    · obtain ⟨cs', e3, e4⟩ := Option.map_eq_some_iff.1 e
      exact ⟨by assumption, cs', e3, e4.symm⟩
  have hdom : ∀ j, j ≠ i → σ.h j ≠ none → (σ.drop i).h j ≠ none := by
    intro j hj hn
    simp only [St.drop, if_neg hj]
    simpa using hn
  refine ⟨h.defers, h.size, h.keeps, fun t x e => ?_, fun id cs e => ?_, fun id id' cs cs' b o E o' E' e1 e2 => ?_, fun b hb => h.ownb b (how b hb), fun t x e => ?_, fun id cs e => ?_, h.stab⟩
  · obtain ⟨y, e1, rfl⟩ := Option.map_eq_some_iff.1 e
    obtain ⟨v, h1, h2⟩ := h.slot t y e1
    exact ⟨v, h1, Rep.purge i y β v (Rep.mono hok y β β v (fun _ _ => rfl) h2)⟩
  · obtain ⟨_, cs', e1, rfl⟩ := hh id cs e
    exact ((h.obj id cs' e1).mono hok (fun _ _ _ _ => rfl) (fun _ _ => rfl)).purge i
  · obtain ⟨_, c1, e3, _⟩ := hh _ _ e1
    obtain ⟨_, c2, e4, _⟩ := hh _ _ e2
    exact h.inj id id' c1 c2 b o E o' E' e3 e4
  · obtain ⟨y, e1, rfl⟩ := Option.map_eq_some_iff.1 e
    intro j hj
    obtain ⟨h1, h2⟩ := T.ids_purge i y j hj
    exact hdom j h1 (h.wfs t y e1 j h2)
  · obtain ⟨_, cs', e1, rfl⟩ := hh id cs e
    intro j hj
    obtain ⟨h1, h2⟩ := ids_purgeL i cs' j hj
    exact hdom j h1 (h.wfh id cs' e1 j h2)
def reals (β : Nat → Real) (i : Nat) (r : Real) : Nat → Real := fun j => if j = i then r else β j
theorem SimB.new (h : SimB Γ σ β a w) {id : Nat} (hid : σ.h id = none) (hS : id ∉ Γ.S) {cs : List T} {c : Array Value} {el : TypeId} {fr : Nat × Nat} {E : Nat} (hE : E ≤ c.size) (hl : cs.length ≤ E)
    (hf : fr.1 = fr.2 ∨ c.size ≤ fr.1) {vs : List Value} (hv : RepL w (okOf Γ.X σ β w) cs β vs) (hc : ∀ (i : Nat) v, vs[i]? = some v → c[i]? = some v) (hi : ∀ i ∈ idsL cs, σ.h i ≠ none) :
    SimB Γ { σ with h := upd σ.h id (some cs) } (reals β id (.real w.heap.size 0 E)) a (w.alloc (.cells c el fr)) := by
  have k : Keeps (fun _ => False) w (w.alloc (.cells c el fr)) := Keeps.alloc _ _ _
  have hnew : (w.alloc (.cells c el fr)).heap[w.heap.size]? = some (.cells c el fr) := by
    show (w.heap.push _)[w.heap.size]? = _
    simp
  have hne : ∀ j, σ.h j ≠ none → j ≠ id := fun j hj e => hj (e ▸ hid)
  have hdom : ∀ j, σ.h j ≠ none → upd σ.h id (some cs) j ≠ none := fun j hj => by simp only [upd, if_neg (hne j hj)]; exact hj
  have how : ∀ b, own { σ with h := upd σ.h id (some cs) } (reals β id (.real w.heap.size 0 E)) b → own σ β b ∨ b = w.heap.size := by
    rintro b ⟨id', cs', o, E', e1, e2⟩
    simp only [upd] at e1
    split at e1
    · rename_i e; subst e; simp [reals] at e2; exact .inr e2.1.symm
    · rename_i e; simp only [reals, if_neg e] at e2; exact .inl ⟨id', cs', o, E', e1, e2⟩
  have hok : ∀ g b, okOf Γ.X σ β w g b → okOf Γ.X { σ with h := upd σ.h id (some cs) } (reals β id (.real w.heap.size 0 E)) (w.alloc (.cells c el fr)) g b ∧ (w.alloc (.cells c el fr)).heap[b]? = w.heap[b]? := fun g b hb =>
    ⟨⟨Nat.lt_of_lt_of_le hb.1 k.size, fun ho => (how b ho).elim hb.2.1 (fun e => by have := hb.1; omega), hb.2.2⟩, k.block b hb.1 (by simp)⟩
  have hβ : ∀ j, σ.h j ≠ none → reals β id (.real w.heap.size 0 E) j = β j := fun j hj => by simp only [reals, if_neg (hne j hj)]
  refine ⟨h.defers, h.size, h.keeps.trans k (fun _ _ => False.elim), fun t x e => ?_, fun id' cs' e => ?_, fun i1 i2 c1 c2 b o E1 o' E2 e1 e2 r1 r2 => ?_, fun b hb => ?_, fun t x e i hi => hdom i (h.wfs t x e i hi), fun id' cs' e i hii => ?_, fun i hi => by simp only [reals, if_neg (show i ≠ id from fun e => hS (e ▸ hi))]; exact h.stab i hi⟩
  · obtain ⟨v, h1, h2⟩ := h.slot t x e
    exact ⟨v, h1, Rep.mono hok x β _ v (fun i hi => hβ i (h.wfs t x e i hi)) h2⟩
  · simp only [upd] at e
    split at e
    · rename_i e'; subst e'; injection e with e; subst e
      simp only [reals, if_true, ObjAt]
      refine ⟨c, el, fr, vs, hnew, by omega, hl, fun c' e' lo hi' q => ?_, RepL.mono hok cs β _ vs (fun i hii => hβ i (hi i hii)) hv, fun i v e => ?_⟩
      · rw [hnew] at q; simp only [Option.some.injEq, Obj.cells.injEq] at q; obtain ⟨rfl, rfl, rfl⟩ := q; exact hf
      · simp only [World.cell?, hnew]; simpa using hc i v e
    · rename_i e'
      simp only [reals, if_neg e']
      exact (h.obj id' cs' e).mono hok (fun b o E hr => k.block b (h.ownb b ⟨id', cs', o, E, e, hr⟩).1 (by simp)) (fun i hii => hβ i (h.wfh id' cs' e i hii))
  · simp only [upd] at e1 e2
    simp only [reals] at r1 r2
    split at e1 <;> split at e2
    · omega
    · rename_i x1 x2; rw [if_pos x1] at r1; rw [if_neg x2] at r2
      have := (h.ownb b ⟨i2, c2, o', E2, e2, r2⟩).1
      injection r1 with r1; omega
    · rename_i x1 x2; rw [if_neg x1] at r1; rw [if_pos x2] at r2
      have := (h.ownb b ⟨i1, c1, o, E1, e1, r1⟩).1
      injection r2 with r2; omega
    · rename_i x1 x2; rw [if_neg x1] at r1; rw [if_neg x2] at r2
      exact h.inj i1 i2 c1 c2 b o E1 o' E2 e1 e2 r1 r2
  · rcases how b hb with hb | rfl
    · exact ⟨Nat.lt_of_lt_of_le (h.ownb b hb).1 k.size, (h.ownb b hb).2⟩
    · exact ⟨by simp, .inl h.keeps.size⟩
  · simp only [upd] at e
    split at e
    · injection e with e; subst e; exact hdom i (hi i hii)
    · exact hdom i (h.wfh id' cs' e i hii)
theorem SimB.phantom (h : SimB Γ σ β a w) {id : Nat} (hid : σ.h id = none) (hS : id ∉ Γ.S) : SimB Γ { σ with h := upd σ.h id (some []) } (reals β id .ph) a w := by
  have hne : ∀ j, σ.h j ≠ none → j ≠ id := fun j hj e => hj (e ▸ hid)
  have hdom : ∀ j, σ.h j ≠ none → upd σ.h id (some []) j ≠ none := fun j hj => by simp only [upd, if_neg (hne j hj)]; exact hj
  have hβ : ∀ j, σ.h j ≠ none → reals β id .ph j = β j := fun j hj => by simp only [reals, if_neg (hne j hj)]
  have how : ∀ b, own { σ with h := upd σ.h id (some []) } (reals β id .ph) b → own σ β b := by
    rintro b ⟨id', cs', o, E', e1, e2⟩
    simp only [upd] at e1
    split at e1
    · rename_i e; simp [reals, e] at e2
    · rename_i e; simp only [reals, if_neg e] at e2; exact ⟨id', cs', o, E', e1, e2⟩
  have hok : ∀ g b, okOf Γ.X σ β w g b → okOf Γ.X { σ with h := upd σ.h id (some []) } (reals β id .ph) w g b ∧ w.heap[b]? = w.heap[b]? := fun g b hb => ⟨⟨hb.1, fun ho => hb.2.1 (how b ho), hb.2.2⟩, rfl⟩
  refine ⟨h.defers, h.size, h.keeps, fun t x e => ?_, fun id' cs' e => ?_, fun i1 i2 c1 c2 b o E1 o' E2 e1 e2 r1 r2 => ?_, fun b hb => h.ownb b (how b hb), fun t x e i hi => hdom i (h.wfs t x e i hi), fun id' cs' e i hii => ?_, fun i hi => by simp only [reals, if_neg (show i ≠ id from fun e => hS (e ▸ hi))]; exact h.stab i hi⟩
  · obtain ⟨v, h1, h2⟩ := h.slot t x e
    exact ⟨v, h1, Rep.mono hok x β _ v (fun i hi => hβ i (h.wfs t x e i hi)) h2⟩
  · simp only [upd] at e
    split at e
    · rename_i e'; injection e with e; subst e
      simp [reals, e', ObjAt]
    · rename_i e'
      simp only [reals, if_neg e']
      exact (h.obj id' cs' e).mono hok (fun _ _ _ _ => rfl) (fun i hii => hβ i (h.wfh id' cs' e i hii))
  · simp only [upd] at e1 e2
    simp only [reals] at r1 r2
    split at e1 <;> split at e2
    · omega
    · rename_i x1 x2; rw [if_pos x1] at r1; simp at r1
    · rename_i x1 x2; rw [if_pos x2] at r2; simp at r2
    · rename_i x1 x2; rw [if_neg x1] at r1; rw [if_neg x2] at r2
      exact h.inj i1 i2 c1 c2 b o E1 o' E2 e1 e2 r1 r2
  · simp only [upd] at e
    split at e
    · injection e with e; subst e; simp [idsL] at hii
    · exact hdom i (h.wfh id' cs' e i hii)
theorem SimB.change (h : SimB Γ σ β a w) {id : Nat} {cs cs' : List T} (hid : σ.h id = some cs) {b o E : Nat} (hr : β id = .real b o E) (k : Keeps (fun x => x = b) w w')
    {c : Array Value} {el : TypeId} {fr : Nat × Nat} (hb : w'.heap[b]? = some (.cells c el fr)) (hE : o + E ≤ c.size) (hl : cs'.length ≤ E) (hf : NoFrost w' b c.size)
    {vs : List Value} (hv : RepL w (okOf Γ.X σ β w) cs' β vs) (hc : CellsAt w' b o vs) (hi : ∀ i ∈ idsL cs', σ.h i ≠ none) :
    SimB Γ { σ with h := upd σ.h id (some cs') } β a w' := by
  have hdom : ∀ j, σ.h j ≠ none → upd σ.h id (some cs') j ≠ none := fun j hj => by simp only [upd]; split <;> simp_all
  have how : ∀ b, own { σ with h := upd σ.h id (some cs') } β b → own σ β b := by
    rintro b ⟨id', c1, o', E', e1, e2⟩
    simp only [upd] at e1
    split at e1
    · rename_i e; subst e; exact ⟨id', cs, o', E', hid, e2⟩
    · exact ⟨id', c1, o', E', e1, e2⟩
  have hbo : own σ β b := ⟨id, cs, o, E, hid, hr⟩
  have hok : ∀ g b', okOf Γ.X σ β w g b' → okOf Γ.X { σ with h := upd σ.h id (some cs') } β w' g b' ∧ w'.heap[b']? = w.heap[b']? := fun g b' hb' =>
    ⟨⟨Nat.lt_of_lt_of_le hb'.1 k.size, fun ho => hb'.2.1 (how b' ho), hb'.2.2⟩, k.block b' hb'.1 (fun e => hb'.2.1 (e ▸ hbo))⟩
  refine ⟨h.defers, h.size, ?_, fun t x e => ?_, fun id' c1 e => ?_, fun i1 i2 c1 c2 b1 o1 E1 o' E2 e1 e2 r1 r2 => ?_, fun b' hb' => ?_, fun t x e i hi => hdom i (h.wfs t x e i hi), fun id' c1 e i hii => ?_, h.stab⟩
  · exact h.keeps.trans k (fun x hx e => by subst e; exact (h.ownb _ hbo).2.resolve_left (by omega))
  · obtain ⟨v, h1, h2⟩ := h.slot t x e
    exact ⟨v, h1, Rep.mono hok x β _ v (fun _ _ => rfl) h2⟩
  · simp only [upd] at e
    split at e
    · rename_i e'; subst e'; injection e with e; subst e
      rw [hr]
      exact ⟨c, el, fr, vs, hb, hE, hl, hf, RepL.mono hok cs' β β vs (fun _ _ => rfl) hv, hc⟩
    · rename_i e'
      refine (h.obj id' c1 e).mono hok (fun b1 o1 E1 hr1 => ?_) (fun _ _ => rfl)
      refine k.block b1 (h.ownb b1 ⟨id', c1, o1, E1, e, hr1⟩).1 (fun eb => ?_)
      subst eb
      exact e' (h.inj id' id c1 cs _ o1 E1 o E e hid hr1 hr)
  · simp only [upd] at e1 e2
    have x1 : ∃ c, σ.h i1 = some c := by split at e1 <;> first | (rename_i e; subst e; exact ⟨_, hid⟩) | exact ⟨_, e1⟩
    have x2 : ∃ c, σ.h i2 = some c := by split at e2 <;> first | (rename_i e; subst e; exact ⟨_, hid⟩) | exact ⟨_, e2⟩
    obtain ⟨d1, x1⟩ := x1
    obtain ⟨d2, x2⟩ := x2
    exact h.inj i1 i2 d1 d2 b1 o1 E1 o' E2 x1 x2 r1 r2
  · exact ⟨Nat.lt_of_lt_of_le (h.ownb b' (how b' hb')).1 k.size, (h.ownb b' (how b' hb')).2⟩
  · simp only [upd] at e
    split at e
    · injection e with e; subst e; exact hdom i (hi i hii)
    · exact hdom i (h.wfh id' c1 e i hii)
theorem SimB.retake (h : SimB Γ σ β a w) {id id' : Nat} {cs cs' : List T} (hid : σ.h id = some cs) (hn : id' = id ∨ σ.h id' = none) (hS : id' ∉ Γ.S) {b o E o' E' : Nat} (hr : β id = .real b o E) (k : Keeps (fun x => x = b) w w')
    {c : Array Value} {el : TypeId} {fr : Nat × Nat} (hb : w'.heap[b]? = some (.cells c el fr)) (hE : o' + E' ≤ c.size) (hl : cs'.length ≤ E') (hf : NoFrost w' b c.size)
    {vs : List Value} (hv : RepL w (okOf Γ.X σ β w) cs' β vs) (hc : CellsAt w' b o' vs) (hi : ∀ i ∈ idsL cs', i ≠ id ∧ σ.h i ≠ none) :
    SimB Γ { σ.drop id with h := upd (σ.drop id).h id' (some cs') } (reals β id' (.real b o' E')) a w' := by
  have hd := h.drop id
  have hd' : (σ.drop id).h id' = none := by
    rcases hn with rfl | hn
    · simp [St.drop]
    · simp [St.drop, hn]
  have hne : ∀ j, (σ.drop id).h j ≠ none → j ≠ id' := fun j hj e => hj (e ▸ hd')
  have hβ : ∀ j, (σ.drop id).h j ≠ none → reals β id' (.real b o' E') j = β j := fun j hj => by simp only [reals, if_neg (hne j hj)]
  have hdom : ∀ j, (σ.drop id).h j ≠ none → upd (σ.drop id).h id' (some cs') j ≠ none := fun j hj => by simp only [upd, if_neg (hne j hj)]; exact hj
  have hdropO : ∀ j c, (σ.drop id).h j = some c → j ≠ id ∧ ∃ c', σ.h j = some c' ∧ c = purgeL id c' := by
    intro j c e
    simp only [St.drop] at e
    split at e
    · simp at e
    · obtain ⟨cs', e3, e4⟩ := Option.map_eq_some_iff.1 e
      exact ⟨by assumption, cs', e3, e4.symm⟩
  have hbo : own σ β b := ⟨id, cs, o, E, hid, hr⟩
  have how : ∀ x, own { σ.drop id with h := upd (σ.drop id).h id' (some cs') } (reals β id' (.real b o' E')) x → own σ β x := by
    rintro x ⟨j, c1, o1, E1, e1, e2⟩
    simp only [upd] at e1
    split at e1
    · rename_i e; simp only [reals, if_pos e, Real.real.injEq] at e2; rw [← e2.1]; exact hbo
    · rename_i e; simp only [reals, if_neg e] at e2
      obtain ⟨_, c', e3, _⟩ := hdropO j c1 e1
      exact ⟨j, c', o1, E1, e3, e2⟩
  have hok : ∀ g x, okOf Γ.X σ β w g x → okOf Γ.X { σ.drop id with h := upd (σ.drop id).h id' (some cs') } (reals β id' (.real b o' E')) w' g x ∧ w'.heap[x]? = w.heap[x]? := fun g x hx =>
    ⟨⟨Nat.lt_of_lt_of_le hx.1 k.size, fun ho => hx.2.1 (how x ho), hx.2.2⟩, k.block x hx.1 (fun e => hx.2.1 (e ▸ hbo))⟩
  have hkeep : ∀ j c1 b1 o1 E1, j ≠ id → σ.h j = some c1 → β j = .real b1 o1 E1 → w'.heap[b1]? = w.heap[b1]? := fun j c1 b1 o1 E1 hj e1 e2 =>
    k.block b1 (h.ownb b1 ⟨j, c1, o1, E1, e1, e2⟩).1 (fun eb => hj (by subst eb; exact h.inj j id c1 cs _ o1 E1 o E e1 hid e2 hr))
  have hids : ∀ cs1, (∀ i ∈ idsL cs1, σ.h i ≠ none) → ∀ i ∈ idsL (purgeL id cs1), (σ.drop id).h i ≠ none := by
    intro cs1 hc i hi
    obtain ⟨h1, h2⟩ := ids_purgeL id cs1 i hi
    simp only [St.drop, if_neg h1]
    simpa using hc i h2
  have hi' : ∀ i ∈ idsL cs', (σ.drop id).h i ≠ none := fun i hii => by
    obtain ⟨h1, h2⟩ := hi i hii
    simp only [St.drop, if_neg h1]
    simpa using h2
  refine ⟨h.defers, h.size, ?_, fun t x e => ?_, fun j c1 e => ?_, fun i1 i2 c1 c2 b1 o1 E1 o2 E2 e1 e2 r1 r2 => ?_, fun x hx => ?_, fun t x e i hi => hdom i (hd.wfs t x e i hi), fun j c1 e i hii => ?_, fun i hi => by simp only [reals, if_neg (show i ≠ id' from fun e => hS (e ▸ hi))]; exact h.stab i hi⟩
  · exact h.keeps.trans k (fun x hx e => by subst e; exact (h.ownb _ hbo).2.resolve_left (by omega))
  · obtain ⟨y, e1, rfl⟩ := Option.map_eq_some_iff.1 e
    obtain ⟨v, h1, h2⟩ := h.slot t y e1
    exact ⟨v, h1, Rep.mono hok _ β _ v (fun i hi => hβ i (hd.wfs t _ e i hi)) (Rep.purge id y β v h2)⟩
  · simp only [upd] at e
    split at e
    · rename_i e'; injection e with e; subst e
      simp only [reals, if_pos e']
      exact ⟨c, el, fr, vs, hb, hE, hl, hf, RepL.mono hok cs' β _ vs (fun i hii => hβ i (hi' i hii)) hv, hc⟩
    · rename_i e'
      simp only [reals, if_neg e']
      obtain ⟨hjd, c', e3, rfl⟩ := hdropO j c1 e
      exact ((h.obj j c' e3).purge id).mono hok (fun b1 o1 E1 hr1 => hkeep j c' b1 o1 E1 hjd e3 hr1) (fun i hi => hβ i (hids c' (h.wfh j c' e3) i hi))
  · simp only [upd] at e1 e2
    simp only [reals] at r1 r2
    split at e1 <;> split at e2
    · omega
    · rename_i x1 x2; rw [if_pos x1] at r1; rw [if_neg x2] at r2
      injection r1 with r1; subst r1
      obtain ⟨hne2, c', e3, _⟩ := hdropO i2 c2 e2
      exact absurd (h.inj id i2 cs c' _ o E o2 E2 hid e3 hr r2).symm hne2
    · rename_i x1 x2; rw [if_neg x1] at r1; rw [if_pos x2] at r2
      injection r2 with r2; subst r2
      obtain ⟨hne1, c', e3, _⟩ := hdropO i1 c1 e1
      exact absurd (h.inj i1 id c' cs _ o1 E1 o E e3 hid r1 hr) hne1
    · rename_i x1 x2; rw [if_neg x1] at r1; rw [if_neg x2] at r2
      obtain ⟨_, d1, e3, _⟩ := hdropO i1 c1 e1
      obtain ⟨_, d2, e4, _⟩ := hdropO i2 c2 e2
      exact h.inj i1 i2 d1 d2 b1 o1 E1 o2 E2 e3 e4 r1 r2
  · exact ⟨Nat.lt_of_lt_of_le (h.ownb x (how x hx)).1 k.size, (h.ownb x (how x hx)).2⟩
  · simp only [upd] at e
    split at e
    · injection e with e; subst e; exact hdom i (hi' i hii)
    · exact hdom i (hd.wfh j c1 e i hii)
end
theorem SimB.re {Γ Δ : Cx} {σ : St} {β : Nat → Real} {a b : Act} {w : World} (hs : SimB Γ σ β a w) (ht : b.tmps = a.tmps) (hd : b.defers = Δ.ds) (hn : Δ.n = Γ.n) (hw : Δ.w0 = Γ.w0) (hl : Δ.lent = Γ.lent) (hX : Δ.X = Γ.X) (hS : Δ.S = Γ.S) (hβ : Δ.β0 = Γ.β0) : SimB Δ σ β b w :=
  ⟨hd, by rw [ht, hn]; exact hs.size, by rw [hl, hw]; exact hs.keeps, by rw [ht, hX]; exact hs.slot, by rw [hX]; exact hs.obj, hs.inj, by rw [hw, hl]; exact hs.ownb, hs.wfs, hs.wfh, by rw [hS, hβ]; exact hs.stab⟩
end Go.Vw
namespace Go.Vw
open Go Go.RowKit
structure Eff where
 val : T := .tup []
 drops : List Nat := []
 puts : List (Nat × List T) := []
 stay : List Nat := []
def St.drops (σ : St) : List Nat → St
 | [] => σ
 | i :: l => (σ.drop i).drops l
def St.puts (σ : St) : List (Nat × List T) → St
 | [] => σ
 | (i, cs) :: l => St.puts { σ with h := upd σ.h i (some cs) } l
def St.set (σ : St) (d : Option Nat) (x : T) : St :=
 match d with
 | none => σ
 | some d => { σ with s := upd σ.s d (some x) }
def Eff.apply (e : Eff) (σ : St) (d : Option Nat) : St := (((σ.drops e.drops).puts e.puts)).set d e.val
def Acts (P : Program) (o : Oper) (ev : Operand → Option T) (h : Nat → Option (List T)) (reads : List Nat) (e : Eff) : Prop :=
 ∀ (Γ : Cx) (σ : St) (β : Nat → Real) (a : Act) (w : World) (K : Act → World → Prop) (Q : Exit → Act → World → Prop), Γ.P = P → (∀ x ∈ o.op.operands, σ.ev x = ev x) → (∀ i ∈ reads, σ.h i = h i) →
  (∀ p ∈ e.puts, p.1 ∉ e.stay → p.1 ∉ Γ.S ∧ (p.1 ∉ reads → σ.h p.1 = none)) → (∀ d, o.dst = some d → d < Γ.n) → SimB Γ σ β a w → (∀ a' w', Sim Γ (e.apply σ o.dst) a' w' → K a' w') → o.wp P a w K Q
section
variable {P : Program} {o : Oper} {ev : Operand → Option T} {h : Nat → Option (List T)} {reads : List Nat} {e : Eff}
theorem SimB.set {Γ : Cx} {σ : St} {β : Nat → Real} {a : Act} {w : World} (hs : SimB Γ σ β a w) {d : Option Nat} (hd : ∀ n, d = some n → n < Γ.n) {x : T} {v : Value} (hx : Rep w (okOf Γ.X σ β w) x β v) (hi : ∀ i ∈ x.ids, σ.h i ≠ none) :
  SimB Γ (σ.set d x) β (a.put d v) w := by
 cases d with
 | none => exact hs
 | some d => exact hs.put (hd d rfl) hx hi
theorem acts_of (H : ∀ (Γ : Cx) (σ : St) (β : Nat → Real) (a : Act) (w : World), Γ.P = P → (∀ x ∈ o.op.operands, σ.ev x = ev x) → (∀ i ∈ reads, σ.h i = h i) → (∀ p ∈ e.puts, p.1 ∉ e.stay → p.1 ∉ Γ.S ∧ (p.1 ∉ reads → σ.h p.1 = none)) → SimB Γ σ β a w →
   ∃ v w' β', ((execOp a.eval o).run P w = .ok (.value v) w' ∨ (execOp a.eval o).run P w = .ok .skip w' ∧ v = undef) ∧ SimB Γ ((σ.drops e.drops).puts e.puts) β' a w' ∧
    Rep w' (okOf Γ.X ((σ.drops e.drops).puts e.puts) β' w') e.val β' v ∧ ∀ i ∈ e.val.ids, ((σ.drops e.drops).puts e.puts).h i ≠ none) : Acts P o ev h reads e := by
 intro Γ σ β a w K Q hP hev hh hn hd hs hK
 obtain ⟨v, w', β', hrun, hs', hv, hi⟩ := H Γ σ β a w hP hev hh hn hs
 have hK' := hK (a.put o.dst v) w' ⟨β', hs'.set hd hv hi⟩
 unfold Oper.wp
 rcases hrun with hrun | ⟨hrun, rfl⟩ <;> rw [hrun] <;> exact hK'
theorem acts_value {x : T} (H : ∀ (Γ : Cx) (σ : St) (β : Nat → Real) (a : Act) (w : World), Γ.P = P → (∀ x ∈ o.op.operands, σ.ev x = ev x) → (∀ i ∈ reads, σ.h i = h i) → SimB Γ σ β a w →
   ∃ v, (execOp a.eval o).run P w = .ok (.value v) w ∧ Rep w (okOf Γ.X σ β w) x β v ∧ ∀ i ∈ x.ids, σ.h i ≠ none) : Acts P o ev h reads { val := x } := by
 refine acts_of fun Γ σ β a w hP hev hh hn hs => ?_
 obtain ⟨v, h1, h2, h3⟩ := H Γ σ β a w hP hev hh hs
 exact ⟨v, w, β, .inl h1, hs, h2, h3⟩
end
inductive K where
 | no | bool | str | iface | func | other
 | int (k : IntKind)
 | slice (e : TypeId)
 | array (n : Nat) (e : TypeId)
 | struct (fs : List (Nat × TypeId))
 | ptr (e : TypeId)
structure TI where
 k : K := .no
 size : Nat := 1
 bytes : Nat := 8
 zero : List Value := []
def TI.agg (i : TI) : Bool := match i.k with | .array .. | .struct .. => true | _ => false
def kOk (d : TypeDesc) (k : K) : Prop :=
 match k with
 | .no => True
 | .bool => d = .bool
 | .str => d = .string
 | .iface => ∃ ms, d = .interface ms
 | .func => ∃ a b c, d = .func a b c
 | .other => True
 | .int k => d = .int k
 | .slice e => d = .slice e
 | .array n e => d = .array n e
 | .struct fs => ∃ f, d = .struct f ∧ f.toList.map (fun x => (x.offset, x.type)) = fs
 | .ptr e => d = .pointer e
structure TOk (P : Program) (t : TypeId) (i : TI) : Prop where
 info : ∃ j, P.info? t = some j ∧ j.size = i.size ∧ j.bytes = i.bytes ∧ (∃ z, j.zero = some z ∧ z.cells = i.zero.toArray)
 zlen : i.zero.length = i.size
 und : ∃ d, P.underlying t = some d ∧ kOk d i.k ∧ (match d with | .struct _ | .array _ _ => true | _ => false) = i.agg
section
variable {P : Program} {ti : TypeId → TI}
theorem TOk.size {t : TypeId} {i : TI} (h : TOk P t i) (w : World) : (sizeOf t).run P w = .ok i.size w := by
 obtain ⟨j, h1, h2, _⟩ := h.info
 simp [sizeOf, typeInfo, h1, h2]
theorem TOk.isAgg {t : TypeId} {i : TI} (h : TOk P t i) (w : World) : (isAgg t).run P w = .ok i.agg w := by
 obtain ⟨d, h1, h2, h3⟩ := h.und
 simp only [Go.isAgg, Sem.run_bind, run_underlying h1, Result.andThen_ok]
 rw [← h3]
 cases d <;> rfl
end
end Go.Vw
namespace Go.Vw
open Go Go.RowKit
theorem addr_add (b o n : Nat) : (⟨b, o, none⟩ : Addr).add n = ⟨b, o + n, none⟩ := by
 unfold Addr.add; split <;> simp_all
theorem run_v {P : Program} {w w' : World} {s : Sem Value} {v : Value} (h : s.run P w = .ok v w') : ((do pure (.value (← s)) : Sem Next)).run P w = .ok (.value v) w' := by
 simp [h]
section
variable {P : Program} {o : Oper} {ev : Operand → Option T} {h : Nat → Option (List T)} {reads : List Nat} {ti : TypeId → TI}
theorem acts_move {x : Operand} {t : T} (ho : o.op = .move x ∨ o.op = .assign x) (hx : ev x = some t) : Acts P o ev h reads { val := t } := by
 refine acts_value fun Γ σ β a w hP hev hh hs => ?_
 have e : σ.ev x = some t := by rw [hev x (by rcases ho with ho | ho <;> simp [ho, Op.operands]), hx]
 refine ⟨a.eval x, ?_, hs.ev e, hs.ev_ids e⟩
 rcases ho with ho | ho <;> simp [execOp, ho]
theorem acts_pick {c x y : Operand} {b : Bool} {t : T} (ho : o.op = .pick c x y) (hc : ev c = some (.leaf (.bool b))) (hx : ev (if b then x else y) = some t) : Acts P o ev h reads { val := t } := by
 refine acts_value fun Γ σ β a w hP hev hh hs => ?_
 have e1 : σ.ev c = some (.leaf (.bool b)) := by rw [hev c (by simp [ho, Op.operands]), hc]
 have e2 : σ.ev (if b then x else y) = some t := by rw [hev _ (by cases b <;> simp [ho, Op.operands]), hx]
 have hb : a.eval c = .bool b := by simpa [Rep] using hs.ev e1
 refine ⟨a.eval (if b then x else y), ?_, hs.ev e2, hs.ev_ids e2⟩
 cases b <;> simp [execOp, ho, hb, asBool]
theorem acts_leaf {v : Value} (H : ∀ (a : Act) (w : World), (∀ x ∈ o.op.operands, ∀ u, ev x = some (.leaf u) → a.eval x = u) → (execOp a.eval o).run P w = .ok (.value v) w) : Acts P o ev h reads { val := .leaf v } := by
 refine acts_value fun Γ σ β a w hP hev hh hs => ⟨v, H a w fun x hx u e => ?_, by simp [Rep], by simp [T.ids]⟩
 simpa [Rep] using hs.ev (show σ.ev x = some (.leaf u) by rw [hev x hx, e])
def binI (op : BinOp) (k : IntKind) (a b : Int) : Option (Prop × Value) :=
 match op with
 | .add => some (True, .int k (k.wrap (a + b)))
 | .sub => some (True, .int k (k.wrap (a - b)))
 | .mul => some (True, .int k (k.wrap (a * b)))
 | .quo => some (b ≠ 0, .int k (k.wrap (a.tdiv b)))
 | .rem => some (b ≠ 0, .int k (a.tmod b))
 | .and => some (True, .int k (k.wrap (BitVec.ofInt k.bits a &&& BitVec.ofInt k.bits b).toNat))
 | .or => some (True, .int k (k.wrap (BitVec.ofInt k.bits a ||| BitVec.ofInt k.bits b).toNat))
 | .xor => some (True, .int k (k.wrap (BitVec.ofInt k.bits a ^^^ BitVec.ofInt k.bits b).toNat))
 | .andNot => some (True, .int k (k.wrap (BitVec.ofInt k.bits a &&& ~~~BitVec.ofInt k.bits b).toNat))
 | .eql => some (True, .bool (a == b))
 | .neq => some (True, .bool (a != b))
 | .lss => some (True, .bool (decide (a < b)))
 | .leq => some (True, .bool (decide (a ≤ b)))
 | .gtr => some (True, .bool (decide (a > b)))
 | .geq => some (True, .bool (decide (a ≥ b)))
 | .shl => some (0 ≤ b, .int k (k.wrap (a * 2 ^ (min b.toNat k.bits))))
 | .shr => some (0 ≤ b, .int k (a.fdiv (2 ^ (min b.toNat k.bits))))
def isShift : BinOp → Bool | .shl | .shr => true | _ => false
theorem run_binI {op : BinOp} {k k' : IntKind} {a b : Int} {C : Prop} {v : Value} (hk : isShift op = true ∨ k = k') (hb : binI op k a b = some (C, v)) (hC : C) (t : TypeId) (x y : Operand) (w : World) :
  ((do eqGuard op t x y (.int k a) (.int k' b); binOp op t (.int k a) (.int k' b) : Sem Value)).run P w = .ok v w := by
 have hg : (eqGuard op t x y (.int k a) (.int k' b)).run P w = .ok () w := by
  unfold eqGuard
  cases op <;> simp
 rw [Sem.run_bind, hg]
 simp only [Result.andThen_ok]
 cases op <;> simp only [binI, Option.some.injEq, Prod.mk.injEq] at hb <;> obtain ⟨rfl, rfl⟩ := hb <;> simp [isShift] at hk <;> (try subst hk) <;>
  simp_all [binOp, Op.intArith, Op.intDiv, Op.intBits, Op.intCmp, Op.shift]
 all_goals omega
theorem acts_binI {op : BinOp} {t yt : TypeId} {x y : Operand} {k k' : IntKind} {a b : Int} {C : Prop} {v : Value} (ho : o.op = .binOp op t x y yt) (hx : ev x = some (.leaf (.int k a))) (hy : ev y = some (.leaf (.int k' b)))
  (hk : isShift op = true ∨ k = k') (hb : binI op k a b = some (C, v)) (hC : C) : Acts P o ev h reads { val := .leaf v } := by
 refine acts_leaf fun ac w H => ?_
 have e1 := H x (by simp [ho, Op.operands]) _ hx
 have e2 := H y (by simp [ho, Op.operands]) _ hy
 simp only [execOp, ho, e1, e2]
 exact run_v (run_binI hk hb hC t x y w)
def binS (op : BinOp) (a b : ByteArray) : Option (Prop × Value) :=
 match op with
 | .add => some (a.size + b.size < 9223372036854775807, .string (a ++ b))
 | .eql => some (True, .bool (a.toList == b.toList))
 | .neq => some (True, .bool !(a.toList == b.toList))
 | .lss => some (True, .bool (Op.bytesLess a.toList b.toList))
 | .leq => some (True, .bool (Op.bytesLess a.toList b.toList || a.toList == b.toList))
 | .gtr => some (True, .bool !(Op.bytesLess a.toList b.toList || a.toList == b.toList))
 | .geq => some (True, .bool !(Op.bytesLess a.toList b.toList))
 | _ => none
theorem run_binS {op : BinOp} {a b : ByteArray} {C : Prop} {v : Value} (hb : binS op a b = some (C, v)) (hC : C) (t : TypeId) (x y : Operand) (w : World) :
  ((do eqGuard op t x y (.string a) (.string b); binOp op t (.string a) (.string b) : Sem Value)).run P w = .ok v w := by
 have hg : (eqGuard op t x y (.string a) (.string b)).run P w = .ok () w := by
  unfold eqGuard
  cases op <;> simp
 rw [Sem.run_bind, hg]
 simp only [Result.andThen_ok]
 cases op <;> simp only [binS, Option.some.injEq, Prod.mk.injEq, reduceCtorEq] at hb
 case add =>
  obtain ⟨rfl, rfl⟩ := hb
  have : ¬ ((a.size + b.size : Nat) : Int) > IntKind.i64.max := by
   have e : IntKind.i64.max = 9223372036854775807 := by decide
   rw [e]; omega
  simp only [binOp, Op.stringOp, if_neg this]; rfl
 all_goals obtain ⟨rfl, rfl⟩ := hb; simp [binOp, Op.stringOp]
theorem acts_binS {op : BinOp} {t yt : TypeId} {x y : Operand} {a b : ByteArray} {C : Prop} {v : Value} (ho : o.op = .binOp op t x y yt) (hx : ev x = some (.leaf (.string a))) (hy : ev y = some (.leaf (.string b)))
  (hb : binS op a b = some (C, v)) (hC : C) : Acts P o ev h reads { val := .leaf v } := by
 refine acts_leaf fun ac w H => ?_
 have e1 := H x (by simp [ho, Op.operands]) _ hx
 have e2 := H y (by simp [ho, Op.operands]) _ hy
 simp only [execOp, ho, e1, e2]
 exact run_v (run_binS hb hC t x y w)
theorem run_equalB {t : TypeId} (ht : P.underlying t = some .bool) (a b : Bool) (d : Nat) (w : World) : (Op.equalIn (d + 1) t (.bool a) (.bool b)).run P w = .ok (a == b) w := by
 simp only [Op.equalIn, Sem.run_bind, run_underlying ht, Result.andThen_ok, Sem.run_pure]
theorem run_equal_of {t : TypeId} {x y : Value} {r : Bool} {w : World} (h : ∀ d, (Op.equalIn (d + 1) t x y).run P w = .ok r w) : (Op.equal t x y).run P w = .ok r w := h 9999
theorem acts_binB {op : BinOp} {t yt : TypeId} {x y : Operand} {a b : Bool} (ho : o.op = .binOp op t x y yt) (hx : ev x = some (.leaf (.bool a))) (hy : ev y = some (.leaf (.bool b)))
  (ht : ∃ i, TOk P t i ∧ i.k = .bool) (hop : op = .eql ∨ op = .neq) : Acts P o ev h reads { val := .leaf (.bool (if op = .eql then a == b else a != b)) } := by
 refine acts_leaf fun ac w H => ?_
 have e1 := H x (by simp [ho, Op.operands]) _ hx
 have e2 := H y (by simp [ho, Op.operands]) _ hy
 obtain ⟨i, hi, hk⟩ := ht
 obtain ⟨d, h1, h2, _⟩ := hi.und
 rw [hk] at h2; simp only [kOk] at h2; subst h2
 simp only [execOp, ho, e1, e2]
 refine run_v ?_
 have hq := run_equal_of (fun d => run_equalB h1 a b d w)
 have hg : (eqGuard op t x y (.bool a) (.bool b)).run P w = .ok () w := by
  unfold eqGuard
  cases op <;> simp
 rw [Sem.run_bind, hg]
 rcases hop with rfl | rfl <;> simp only [Result.andThen_ok, binOp, Sem.run_bind, hq, Sem.run_pure] <;> rfl
theorem acts_not {t : TypeId} {x : Operand} {b : Bool} (ho : o.op = .unOp .not t x) (hx : ev x = some (.leaf (.bool b))) : Acts P o ev h reads { val := .leaf (.bool !b) } := by
 refine acts_leaf fun ac w H => ?_
 have e1 := H x (by simp [ho, Op.operands]) _ hx
 simp [execOp, ho, e1, Op.unary]
theorem acts_neg {t : TypeId} {x : Operand} {k : IntKind} {n : Int} (ho : o.op = .unOp .neg t x) (hx : ev x = some (.leaf (.int k n))) : Acts P o ev h reads { val := .leaf (.int k (k.wrap (0 - n))) } := by
 refine acts_leaf fun ac w H => ?_
 have e1 := H x (by simp [ho, Op.operands]) _ hx
 simp [execOp, ho, e1, Op.unary, Op.intArith]
theorem acts_com {t : TypeId} {x : Operand} {k : IntKind} {n : Int} (ho : o.op = .unOp .xor t x) (hx : ev x = some (.leaf (.int k n))) :
  Acts P o ev h reads { val := .leaf (.int k (k.wrap (BitVec.ofInt k.bits (if k.signed then -1 else k.max) ^^^ BitVec.ofInt k.bits n).toNat)) } := by
 refine acts_leaf fun ac w H => ?_
 have e1 := H x (by simp [ho, Op.operands]) _ hx
 simp [execOp, ho, e1, Op.unary, Op.intBits]
theorem acts_convI {s d : TypeId} {x : Operand} {k k' : IntKind} {n : Int} (ho : o.op = .convert s d x) (hx : ev x = some (.leaf (.int k n))) (hs : ∃ i k0, TOk P s i ∧ i.k = .int k0) (hd : ∃ i, TOk P d i ∧ i.k = .int k') :
  Acts P o ev h reads { val := .leaf (.int k' (k'.wrap n)) } := by
 refine acts_leaf fun ac w H => ?_
 have e1 := H x (by simp [ho, Op.operands]) _ hx
 obtain ⟨i, k0, hi, hk⟩ := hs
 obtain ⟨d1, h1, h2, _⟩ := hi.und
 rw [hk] at h2; simp only [kOk] at h2; subst h2
 obtain ⟨i', hi', hk'⟩ := hd
 obtain ⟨d2, h3, h4, _⟩ := hi'.und
 rw [hk'] at h4; simp only [kOk] at h4; subst h4
 simp [execOp, ho, e1, convert, run_underlying h1, run_underlying h3, Conv.intToInt]
theorem acts_convS {s d : TypeId} {x : Operand} {b : ByteArray} (ho : o.op = .convert s d x) (hx : ev x = some (.leaf (.string b))) (hs : ∃ i, TOk P s i ∧ i.k = .str) (hd : ∃ i, TOk P d i ∧ i.k = .str) :
  Acts P o ev h reads { val := .leaf (.string b) } := by
 refine acts_leaf fun ac w H => ?_
 have e1 := H x (by simp [ho, Op.operands]) _ hx
 obtain ⟨i, hi, hk⟩ := hs
 obtain ⟨d1, h1, h2, _⟩ := hi.und
 rw [hk] at h2; simp only [kOk] at h2; subst h2
 obtain ⟨i', hi', hk'⟩ := hd
 obtain ⟨d2, h3, h4, _⟩ := hi'.und
 rw [hk'] at h4; simp only [kOk] at h4; subst h4
 simp [execOp, ho, e1, convert, run_underlying h1, run_underlying h3]
def K.concrete : K → Bool | .iface | .other | .no => false | _ => true
theorem acts_makeIface {t : TypeId} {x : Operand} {v : T} (ho : o.op = .makeInterface t x) (hx : ev x = some v) (ht : ∃ i, TOk P t i ∧ i.k.concrete = true) :
  Acts P o ev h reads { val := .iface t v } := by
 refine acts_value fun Γ σ β a w hP hev hh hs => ?_
 have e : σ.ev x = some v := by rw [hev x (by simp [ho, Op.operands]), hx]
 obtain ⟨i, hi, hk⟩ := ht
 obtain ⟨d, h1, h2, _⟩ := hi.und
 refine ⟨.iface t (a.eval x), ?_, by simp only [Rep]; exact ⟨_, rfl, hs.ev e⟩, by simpa [T.ids] using hs.ev_ids e⟩
 simp only [execOp, ho]
 refine run_v ?_
 have hd : ∀ ms, d ≠ .interface ms := by
  rintro ms rfl
  cases hq : i.k <;> rw [hq] at h2 hk <;> simp [kOk, K.concrete] at h2 hk
 simp only [Instr.makeInterface, Sem.run_bind, run_underlying h1, Result.andThen_ok]
 cases d <;> first | rfl | exact absurd rfl (hd _)
theorem acts_extract {x : Operand} {i : Nat} {cs : List T} {t : T} (ho : o.op = .extract x i) (hx : ev x = some (.tup cs)) (hi : cs[i]? = some t) : Acts P o ev h reads { val := t } := by
 refine acts_value fun Γ σ β a w hP hev hh hs => ?_
 have e : σ.ev x = some (.tup cs) := by rw [hev x (by simp [ho, Op.operands]), hx]
 have hr := hs.ev e
 simp only [Rep] at hr
 obtain ⟨vs, h1, h2⟩ := hr
 obtain ⟨v, h3, h4⟩ := h2.get hi
 refine ⟨v, ?_, h4, fun j hj => hs.ev_ids e j (by simpa [T.ids] using RepL.idsub hi j hj)⟩
 simp only [execOp, ho]
 refine run_v ?_
 simp [Instr.extract, h1, h3]
def sub (cs : List T) (off n : Nat) : List T := (cs.drop off).take n
theorem RepL.extract {w : World} {ok : Tag → Nat → Prop} {β : Nat → Real} {cs : List T} {vs : List Value} (off n : Nat) (h : RepL w ok cs β vs) : RepL w ok (sub cs off n) β (vs.toArray.extract off (off + n)).toList := by
 have : (vs.toArray.extract off (off + n)).toList = (vs.drop off).take n := by
  simp [List.extract_eq_take_drop]
 rw [this]
 exact (h.drop off).take n
theorem ids_drop {cs : List T} (n : Nat) : ∀ i ∈ idsL (cs.drop n), i ∈ idsL cs := by
 induction n generalizing cs with
 | zero => simp
 | succ n ih =>
  cases cs with
  | nil => simp
  | cons t ts => intro i hi; simp only [idsL, List.mem_append]; exact .inr (ih i (by simpa using hi))
theorem ids_take {cs : List T} (n : Nat) : ∀ i ∈ idsL (cs.take n), i ∈ idsL cs := by
 induction n generalizing cs with
 | zero => simp [idsL]
 | succ n ih =>
  cases cs with
  | nil => simp
  | cons t ts =>
   intro i hi
   simp only [List.take_succ_cons, idsL, List.mem_append] at hi ⊢
   exact hi.imp id (ih i)
theorem ids_sub {cs : List T} (off n : Nat) : ∀ i ∈ idsL (sub cs off n), i ∈ idsL cs := fun i hi => ids_drop off i (ids_take n i hi)
def partOf (i : TI) (cs : List T) (off : Nat) (t : T) : Prop :=
 if i.agg then off + i.size ≤ cs.length ∧ t = .agg (sub cs off i.size) else cs[off]? = some t
theorem partOf.ids {i : TI} {cs : List T} {off : Nat} {t : T} (h : partOf i cs off t) : ∀ j ∈ t.ids, j ∈ idsL cs := by
 unfold partOf at h
 split at h
 ·obtain ⟨_, rfl⟩ := h; intro j hj; exact ids_sub _ _ j (by simpa [T.ids] using hj)
 ·exact RepL.idsub h
theorem run_part {ty : TypeId} {i : TI} (ht : TOk P ty i) {cs : List T} {off : Nat} {t : T} (hp : partOf i cs off t) {w : World} {ok : Tag → Nat → Prop} {β : Nat → Real} {vs : List Value} (hr : RepL w ok cs β vs) :
  ∃ v, (part ty vs.toArray off).run P w = .ok v w ∧ Rep w ok t β v := by
 unfold partOf at hp
 have ha := ht.isAgg w
 have hz := ht.size w
 split at hp
 ·rename_i hagg
  rw [hagg] at ha
  obtain ⟨h1, rfl⟩ := hp
  refine ⟨.agg (vs.toArray.extract off (off + i.size)), ?_, ?_⟩
  ·simp only [part, Sem.run_bind, ha, Result.andThen_ok, if_true, hz]; rfl
  ·simp only [Rep]; exact ⟨_, by simp, hr.extract off i.size⟩
 ·rename_i hagg
  have hagg' : i.agg = false := by simpa using hagg
  rw [hagg'] at ha
  obtain ⟨v, h3, h4⟩ := hr.get hp
  refine ⟨v, ?_, h4⟩
  simp only [part, Sem.run_bind, ha, Result.andThen_ok]
  simp [h3]
theorem acts_field {s : TypeId} {x : Operand} {f off : Nat} {ft : TypeId} {fs : List (Nat × TypeId)} {cs : List T} {t : T} {i i' : TI} (ho : o.op = .field s x f) (hx : ev x = some (.agg cs)) (hs : TOk P s i) (hk : i.k = .struct fs)
  (hf : fs[f]? = some (off, ft)) (ht : TOk P ft i') (hp : partOf i' cs off t) : Acts P o ev h reads { val := t } := by
 refine acts_value fun Γ σ β a w hP hev hh hsim => ?_
 have e : σ.ev x = some (.agg cs) := by rw [hev x (by simp [ho, Op.operands]), hx]
 have hr := hsim.ev e
 simp only [Rep] at hr
 obtain ⟨vs, h1, h2⟩ := hr
 obtain ⟨d, h3, h4, _⟩ := hs.und
 rw [hk] at h4; simp only [kOk] at h4
 obtain ⟨fl, rfl, h5⟩ := h4
 obtain ⟨v, h6, h7⟩ := run_part ht hp h2
 refine ⟨v, ?_, h7, fun j hj => hsim.ev_ids e j (by simpa [T.ids] using hp.ids j hj)⟩
 have hfl : ∃ g, fl[f]? = some g ∧ g.offset = off ∧ g.type = ft := by
  rw [← h5] at hf
  simp only [List.getElem?_map, Option.map_eq_some_iff, Prod.mk.injEq] at hf
  obtain ⟨g, hg, h8, h9⟩ := hf
  exact ⟨g, by simpa using hg, h8, h9⟩
 obtain ⟨g, hg, rfl, rfl⟩ := hfl
 simp only [execOp, ho]
 refine run_v ?_
 simp [Instr.field, run_underlying h3, hg, h1, asAgg, h6]
theorem acts_indexStr {ty : TypeId} {x y : Operand} {b : ByteArray} {k : IntKind} {n : Int} {i : TI} {c : UInt8} (ho : o.op = .index ty x y) (hx : ev x = some (.leaf (.string b))) (hy : ev y = some (.leaf (.int k n))) (ht : TOk P ty i) (hk : i.k = .str)
  (h0 : 0 ≤ n) (hc : b[n.toNat]? = some c) : Acts P o ev h reads { val := .leaf (.int .u8 c.toNat) } := by
 refine acts_leaf fun ac w H => ?_
 have e1 := H x (by simp [ho, Op.operands]) _ hx
 have e2 := H y (by simp [ho, Op.operands]) _ hy
 obtain ⟨d, h3, h4, _⟩ := ht.und
 rw [hk] at h4; simp only [kOk] at h4; subst h4
 simp only [execOp, ho, e1, e2]
 refine run_v ?_
 simp [Instr.index, asIntOf, run_underlying h3, h0, hc]
theorem acts_indexAgg {ty el : TypeId} {x y : Operand} {cs : List T} {k : IntKind} {n : Int} {N : Nat} {i i' : TI} {t : T} (ho : o.op = .index ty x y) (hx : ev x = some (.agg cs)) (hy : ev y = some (.leaf (.int k n))) (ht : TOk P ty i) (hk : i.k = .array N el)
  (he : TOk P el i') (h0 : 0 ≤ n) (h1 : n < N) (hp : partOf i' cs (n.toNat * i'.size) t) : Acts P o ev h reads { val := t } := by
 refine acts_value fun Γ σ β a w hP hev hh hsim => ?_
 have e : σ.ev x = some (.agg cs) := by rw [hev x (by simp [ho, Op.operands]), hx]
 have e2 : a.eval y = .int k n := by simpa [Rep] using hsim.ev (show σ.ev y = some (.leaf (.int k n)) by rw [hev y (by simp [ho, Op.operands]), hy])
 have hr := hsim.ev e
 simp only [Rep] at hr
 obtain ⟨vs, h3, h4⟩ := hr
 obtain ⟨d, h5, h6, _⟩ := ht.und
 rw [hk] at h6; simp only [kOk] at h6; subst h6
 obtain ⟨v, h7, h8⟩ := run_part he hp h4
 refine ⟨v, ?_, h8, fun j hj => hsim.ev_ids e j (by simpa [T.ids] using hp.ids j hj)⟩
 simp only [execOp, ho]
 refine run_v ?_
 have hz := he.size (P := P) w
 simp [Instr.index, asIntOf, e2, h3, run_underlying h5, h0, h1, hz, h7]
end
end Go.Vw
namespace Go.Vw
open Go Go.RowKit
mutual
def T.scal : T → Bool
 | .leaf v => v.oneCell'
 | .e0 | .sl .. | .pt .. | .iface .. | .fn .. | .ref .. | .addr .. => true
 | .dead | .agg _ | .tup _ | .xl .. => false
def scalL : List T → Bool
 | [] => true
 | t :: ts => t.scal && scalL ts
end
theorem Rep.one {w : World} {ok : Tag → Nat → Prop} {β : Nat → Real} : ∀ {t : T} {v : Value}, Rep w ok t β v → t.scal = true → v.oneCell' = true
 | .leaf u, v, h, hs => by simp only [Rep] at h; subst h; exact hs
 | .e0, _, h, _ => by simp only [Rep] at h; obtain ⟨_, rfl⟩ := h; rfl
 | .sl .., _, h, _ => by simp only [Rep] at h; obtain ⟨_, _, _, rfl, _⟩ := h; rfl
 | .pt .., _, h, _ => by simp only [Rep] at h; obtain ⟨_, _, _, rfl, _⟩ := h; rfl
 | .iface .., _, h, _ => by simp only [Rep] at h; obtain ⟨_, rfl, _⟩ := h; rfl
 | .fn .., _, h, _ => by simp only [Rep] at h; obtain ⟨_, _, rfl, _⟩ := h; rfl
 | .ref id _ _ _, _, h, _ => by
  simp only [Rep] at h
  split at h
  ·obtain ⟨_, _, _, rfl⟩ := h; rfl
  ·obtain ⟨_, _, rfl, _⟩ := h; rfl
 | .addr id _, _, h, _ => by
  simp only [Rep] at h
  split at h
  ·exact h.elim
  ·subst h; rfl
theorem RepL.one {w : World} {ok : Tag → Nat → Prop} {β : Nat → Real} : ∀ {ts : List T} {vs : List Value}, RepL w ok ts β vs → scalL ts = true → ∀ v ∈ vs, v.oneCell' = true
 | [], _, h, _ => by simp only [RepL] at h; subst h; simp
 | t :: ts, _, h, hs => by
  simp only [RepL] at h
  obtain ⟨v, us, rfl, h2, h3⟩ := h
  simp only [scalL, Bool.and_eq_true] at hs
  intro x hx
  rcases List.mem_cons.1 hx with rfl | hx
  ·exact h2.one hs.1
  ·exact h3.one hs.2 x hx
def T.cells : T → List T
 | .agg cs => cs
 | t => [t]
def T.cellOk : T → Bool
 | .agg _ => true
 | t => t.scal
theorem Rep.cells {w : World} {ok : Tag → Nat → Prop} {β : Nat → Real} {t : T} {v : Value} (h : Rep w ok t β v) (hc : t.cellOk = true) : RepL w ok t.cells β v.cells.toList := by
 have key : t.scal = true → t.cells = [t] → RepL w ok t.cells β v.cells.toList := by
  intro hs e
  have h1 := h.one hs
  have : v.cells = #[v] := by cases v <;> simp [Value.cells, Value.oneCell'] at h1 ⊢
  rw [e, this]
  simp only [RepL]
  exact ⟨v, [], rfl, h, rfl⟩
 cases t with
 | agg cs =>
  simp only [Rep] at h
  obtain ⟨vs, rfl, h2⟩ := h
  simpa [T.cells, Value.cells] using h2
 | _ => exact key (by simpa [T.cellOk] using hc) rfl
theorem T.cells_ids (t : T) : ∀ i ∈ idsL t.cells, i ∈ t.ids := by
 cases t <;> simp [T.cells, idsL, T.ids]
section
variable {P : Program} {o : Oper} {ev : Operand → Option T} {h : Nat → Option (List T)} {reads : List Nat} {ti : TypeId → TI}
theorem SimB.newVar {Γ : Cx} {σ : St} {β : Nat → Real} {a : Act} {w : World} (hs : SimB Γ σ β a w) {d : Nat} (hd : σ.h d = none) (hS : d ∉ Γ.S) {cs : List T} {c : Array Value} {el : TypeId} (hr : RepL w (okOf Γ.X σ β w) cs β c.toList) (hi : ∀ i ∈ idsL cs, σ.h i ≠ none) :
  SimB Γ { σ with h := upd σ.h d (some cs) } (reals β d (.real w.heap.size 0 c.size)) a (w.alloc (.cells c el)) :=
 hs.new hd hS (Nat.le_refl _) (by have := hr.length; simp at this; omega) (.inl rfl) hr (fun i v e => by simpa using e) hi
theorem acts_box {t : TypeId} {x : Operand} {d : Nat} {v : T} (ho : o.op = .box t x) (hx : ev x = some v) (hv : v.cellOk = true) (hd : d ∉ reads) : Acts P o ev h reads { val := .addr d 0, puts := [(d, v.cells)] } := by
 refine acts_of fun Γ σ β a w hP hev hh hn hs => ?_
 have e : σ.ev x = some v := by rw [hev x (by simp [ho, Op.operands]), hx]
 have hd' : σ.h d = none := (hn (d, v.cells) (by simp) (by simp)).2 hd
 have hdS := (hn (d, v.cells) (by simp) (by simp)).1
 have hr := (hs.ev e).cells hv
 refine ⟨.pointer (some ⟨w.heap.size, 0, none⟩), w.alloc (.cells (a.eval x).cells t), _, .inl ?_, hs.newVar hd' hdS hr (fun i hi => hs.ev_ids e i (T.cells_ids v i hi)), ?_, ?_⟩
 ·simp only [execOp, ho]
  refine run_v ?_
  simp [Instr.box, newVar, newRow]
 ·simp [Rep, reals]
 ·simp [T.ids, St.puts, St.drops, upd]
theorem acts_alloc {t : TypeId} {i : TI} {d : Nat} (ho : o.op = .alloc t) (ht : TOk P t i) (hd : d ∉ reads) : Acts P o ev h reads { val := .addr d 0, puts := [(d, i.zero.map .leaf)] } := by
 refine acts_of fun Γ σ β a w hP hev hh hn hs => ?_
 have hd' : σ.h d = none := (hn (d, i.zero.map .leaf) (by simp) (by simp)).2 hd
 have hdS := (hn (d, i.zero.map .leaf) (by simp) (by simp)).1
 obtain ⟨j, h1, h2, h3, z, h4, h5⟩ := ht.info
 refine ⟨.pointer (some ⟨w.heap.size, 0, none⟩), w.alloc (.cells z.cells t), _, .inl ?_, hs.newVar hd' hdS (c := z.cells) (by rw [h5]; exact RepL.leaves _) (by simp [idsL_leaves]), ?_, ?_⟩
 ·simp only [execOp, ho]
  refine run_v ?_
  simp [Instr.alloc, zeroValue, typeInfo, h1, h4, newVar, newRow]
 ·simp [Rep, reals]
 ·simp [T.ids, St.puts, St.drops, upd]
theorem load_cells {w : World} {b o : Nat} {vs : List Value} (hc : CellsAt w b o vs) (off n : Nat) (hl : off + n ≤ vs.length) : (loadCells ⟨b, o + off, none⟩ n).run P w = .ok (vs.toArray.extract off (off + n)) w := by
 have hlen : ((vs.drop off).take n).length = n := by simp; omega
 have := run_loadCells_list (P := P) w ⟨b, o + off, none⟩ ((vs.drop off).take n) (fun j v e => by rw [addr_add]; exact (hc.drop off).take n j v e)
 rw [hlen] at this
 rw [this]
 congr 1
 simp [List.extract_eq_take_drop]
theorem load_var_all {ty : TypeId} {i : TI} (ht : TOk P ty i) {cs : List T} {off : Nat} {t : T} (hp : partOf i cs off t) {w : World} {ok : Tag → Nat → Prop} {β : Nat → Real} {vs : List Value} (hr : RepL w ok cs β vs) {b o : Nat} :
  ∃ v, (∀ w2, CellsAt w2 b o vs → (loadVar ty ⟨b, o + off, none⟩).run P w2 = .ok v w2) ∧ Rep w ok t β v := by
 unfold partOf at hp
 split at hp
 ·rename_i hagg
  obtain ⟨h1, rfl⟩ := hp
  refine ⟨.agg (vs.toArray.extract off (off + i.size)), ?_, ?_⟩
  ·intro w2 hc
   have ha := ht.isAgg w2
   have hz := ht.size w2
   rw [hagg] at ha
   simp only [loadVar, Sem.run_bind, ha, Result.andThen_ok, if_true, hz, load_cells hc off i.size (by rw [hr.length]; exact h1)]; rfl
  ·simp only [Rep]; exact ⟨_, by simp, hr.extract off i.size⟩
 ·rename_i hagg
  have hagg' : i.agg = false := by simpa using hagg
  obtain ⟨v, h3, h4⟩ := hr.get hp
  refine ⟨v, ?_, h4⟩
  intro w2 hc
  have ha := ht.isAgg w2
  rw [hagg'] at ha
  simp only [loadVar, Sem.run_bind, ha, Result.andThen_ok, Bool.false_eq_true, if_false, run_load, hc off v h3]
theorem load_var {ty : TypeId} {i : TI} (ht : TOk P ty i) {cs : List T} {off : Nat} {t : T} (hp : partOf i cs off t) {w : World} {ok : Tag → Nat → Prop} {β : Nat → Real} {vs : List Value} (hr : RepL w ok cs β vs) {b o : Nat} (hc : CellsAt w b o vs) :
  ∃ v, (loadVar ty ⟨b, o + off, none⟩).run P w = .ok v w ∧ Rep w ok t β v := by
 obtain ⟨v, h1, h2⟩ := load_var_all ht hp hr
 exact ⟨v, h1 w hc, h2⟩
def SameCells (w w2 : World) : Prop := ∀ (b : Nat) (c : Array Value) (e : TypeId) (fr : Nat × Nat), w.heap[b]? = some (Obj.cells c e fr) → w2.heap[b]? = w.heap[b]?
theorem SameCells.cell {w w2 : World} (h : SameCells w w2) {p : Addr} {v : Value} (hv : w.cell? p = some v) : w2.cell? p = some v := by
 unfold World.cell? at hv
 split at hv
 ·rename_i c e fr hb
  rw [← hv]
  unfold World.cell?
  rw [h _ _ _ _ hb, hb]
 ·simp at hv
theorem SameCells.cells {w w2 : World} (h : SameCells w w2) {b o : Nat} {vs : List Value} (hv : CellsAt w b o vs) : CellsAt w2 b o vs := fun i v e => h.cell (hv i v e)
theorem SameCells.refl (w : World) : SameCells w w := fun _ _ _ _ _ => rfl
theorem Rep.sealed {w : World} {ok : Tag → Nat → Prop} {t : T} {v : Value} {β β' : Nat → Real} (h : Rep w ok t β v) (hi : t.ids = []) : Rep w ok t β' v :=
 Rep.mono (w := w) (ok := ok) (fun g b hb => ⟨hb, rfl⟩) t β β' v (by simp [hi]) h
theorem RepL.sealed {w : World} {ok : Tag → Nat → Prop} {t : List T} {v : List Value} {β β' : Nat → Real} (h : RepL w ok t β v) (hi : idsL t = []) : RepL w ok t β' v :=
 RepL.mono (w := w) (ok := ok) (fun g b hb => ⟨hb, rfl⟩) t β β' v (by simp [hi]) h
theorem obj_open {Γ : Cx} {σ : St} {β : Nat → Real} {a : Act} {w : World} (hs : SimB Γ σ β a w) {id : Nat} {cs : List T} (hid : σ.h id = some cs) {b o E : Nat} (hr : β id = .real b o E) :
  ∃ c e fr vs, w.heap[b]? = some (.cells c e fr) ∧ o + E ≤ c.size ∧ cs.length ≤ E ∧ NoFrost w b c.size ∧ RepL w (okOf Γ.X σ β w) cs β vs ∧ CellsAt w b o vs := by
 have := hs.obj id cs hid
 rw [hr] at this
 exact this
theorem acts_load {ty : TypeId} {i : TI} {x : Operand} {id off : Nat} {cs : List T} {t : T} (ho : o.op = .load ty x) (ht : TOk P ty i) (hx : ev x = some (.addr id off)) (hr : id ∈ reads) (hid : h id = some cs) (hp : partOf i cs off t) :
  Acts P o ev h reads { val := t } := by
 refine acts_value fun Γ σ β a w hP hev hh hs => ?_
 have e : σ.ev x = some (.addr id off) := by rw [hev x (by simp [ho, Op.operands]), hx]
 have hid' : σ.h id = some cs := by rw [hh id hr, hid]
 have hrep := hs.ev e
 simp only [Rep] at hrep
 cases hb : β id with
 | ph => rw [hb] at hrep; exact hrep.elim
 | real b ob E =>
  rw [hb] at hrep
  obtain ⟨c, el, fr, vs, h1, h2, h3, h4, h5, h6⟩ := obj_open hs hid' hb
  obtain ⟨v, h7, h8⟩ := load_var ht hp h5 h6
  refine ⟨v, ?_, h8, fun j hj => hs.wfh id cs hid' j (hp.ids j hj)⟩
  simp only [execOp, ho]
  refine run_v ?_
  simp only [Instr.loadAt, hrep, Instr.sureAddr, Sem.run_bind, Sem.run_pure, Result.andThen_ok, h7]
theorem acts_loadP {ty : TypeId} {i : TI} {x : Operand} {g : Tag} {off : Nat} {cs : List T} {t : T} (ho : o.op = .load ty x) (ht : TOk P ty i) (hx : ev x = some (.pt g off cs)) (hp : partOf i cs off t) :
  Acts P o ev h reads { val := t } := by
 refine acts_value fun Γ σ β a w hP hev hh hs => ?_
 have e : σ.ev x = some (.pt g off cs) := by rw [hev x (by simp [ho, Op.operands]), hx]
 have hrep := hs.ev e
 simp only [Rep] at hrep
 obtain ⟨h0, b, ob, h1, h2, h3⟩ := hrep
 obtain ⟨vs, h5, h6⟩ := h3.open_
 obtain ⟨v, h7, h8⟩ := load_var ht hp h5 h6
 have hi : t.ids = [] := by
  have := hp.ids
  rw [h0] at this
  exact List.eq_nil_iff_forall_not_mem.2 fun j hj => by simpa using this j hj
 refine ⟨v, ?_, h8.sealed hi, by simp [hi]⟩
 simp only [execOp, ho]
 refine run_v ?_
 simp only [Instr.loadAt, h1, Instr.sureAddr, Sem.run_bind, Sem.run_pure, Result.andThen_ok, h7]
def T.isPtr : T → Bool | .addr .. | .pt .. => true | _ => false
theorem acts_nilCheck {x : Operand} {v : T} (ho : o.op = .nilCheck x) (hx : ev x = some v) (hv : v.isPtr = true) : Acts P o ev h reads { val := v } := by
 refine acts_value fun Γ σ β a w hP hev hh hs => ?_
 have e : σ.ev x = some v := by rw [hev x (by simp [ho, Op.operands]), hx]
 have hrep := hs.ev e
 refine ⟨a.eval x, ?_, hrep, hs.ev_ids e⟩
 have : ∃ p, a.eval x = .pointer (some p) := by
  cases v <;> simp [T.isPtr] at hv
  ·simp only [Rep] at hrep; obtain ⟨_, b, ob, h1, _⟩ := hrep; exact ⟨_, h1⟩
  ·simp only [Rep] at hrep
   split at hrep
   ·exact hrep.elim
   ·exact ⟨_, hrep⟩
 obtain ⟨p, hp⟩ := this
 simp [execOp, ho, hp]
theorem acts_fieldAddr {s ft : TypeId} {x : Operand} {f off fo : Nat} {id : Nat} {fs : List (Nat × TypeId)} {i i' : TI} (ho : o.op = .fieldAddr s x f) (hx : ev x = some (.addr id off)) (hs : TOk P s i) (hk : i.k = .struct fs) (hf : fs[f]? = some (fo, ft))
  (ht : TOk P ft i') (hz : i'.size ≠ 0) : Acts P o ev h reads { val := .addr id (off + fo) } := by
 refine acts_value fun Γ σ β a w hP hev hh hsim => ?_
 have e : σ.ev x = some (.addr id off) := by rw [hev x (by simp [ho, Op.operands]), hx]
 have hrep := hsim.ev e
 simp only [Rep] at hrep
 cases hb : β id with
 | ph => rw [hb] at hrep; exact hrep.elim
 | real b ob E =>
  rw [hb] at hrep
  obtain ⟨d, h3, h4, _⟩ := hs.und
  rw [hk] at h4; simp only [kOk] at h4
  obtain ⟨fl, rfl, h5⟩ := h4
  have hfl : ∃ g, fl[f]? = some g ∧ g.offset = fo ∧ g.type = ft := by
   rw [← h5] at hf
   simp only [List.getElem?_map, Option.map_eq_some_iff, Prod.mk.injEq] at hf
   obtain ⟨g, hg, h8, h9⟩ := hf
   exact ⟨g, by simpa using hg, h8, h9⟩
  obtain ⟨g, hg, rfl, rfl⟩ := hfl
  refine ⟨.pointer (some ⟨b, ob + (off + g.offset), none⟩), ?_, by simp [Rep, hb], by simpa [T.ids] using hsim.ev_ids e⟩
  simp only [execOp, ho]
  refine run_v ?_
  have hz' := ht.size w
  simp [Instr.fieldAt, run_underlying h3, hg, hrep, Instr.sureAddr, fieldPlace, hz', hz, addr_add, Nat.add_assoc]
theorem acts_fieldAddrP {s ft : TypeId} {x : Operand} {f off fo : Nat} {g : Tag} {cs : List T} {fs : List (Nat × TypeId)} {i i' : TI} (ho : o.op = .fieldAddr s x f) (hx : ev x = some (.pt g off cs)) (hs : TOk P s i) (hk : i.k = .struct fs) (hf : fs[f]? = some (fo, ft))
  (ht : TOk P ft i') (hz : i'.size ≠ 0) : Acts P o ev h reads { val := .pt g (off + fo) cs } := by
 refine acts_value fun Γ σ β a w hP hev hh hsim => ?_
 have e : σ.ev x = some (.pt g off cs) := by rw [hev x (by simp [ho, Op.operands]), hx]
 have hrep := hsim.ev e
 simp only [Rep] at hrep
 obtain ⟨h0, b, ob, h1, h2, h2'⟩ := hrep
 obtain ⟨d, h3, h4, _⟩ := hs.und
 rw [hk] at h4; simp only [kOk] at h4
 obtain ⟨fl, rfl, h5⟩ := h4
 have hfl : ∃ g, fl[f]? = some g ∧ g.offset = fo ∧ g.type = ft := by
  rw [← h5] at hf
  simp only [List.getElem?_map, Option.map_eq_some_iff, Prod.mk.injEq] at hf
  obtain ⟨g, hg, h8, h9⟩ := hf
  exact ⟨g, by simpa using hg, h8, h9⟩
 obtain ⟨q, hg, rfl, rfl⟩ := hfl
 refine ⟨.pointer (some ⟨b, ob + (off + q.offset), none⟩), ?_, by simp only [Rep]; exact ⟨h0, b, ob, rfl, h2, h2'⟩, by simp [T.ids]⟩
 simp only [execOp, ho]
 refine run_v ?_
 have hz' := ht.size w
 simp [Instr.fieldAt, run_underlying h3, hg, h1, Instr.sureAddr, fieldPlace, hz', hz, addr_add, Nat.add_assoc]
theorem acts_indexArr {ty el : TypeId} {x y : Operand} {id off : Nat} {k : IntKind} {n : Int} {N : Nat} {i i' : TI} (ho : o.op = .indexAddr ty x y) (hx : ev x = some (.addr id off)) (hy : ev y = some (.leaf (.int k n))) (ht : TOk P ty i) (hk : i.k = .array N el)
  (he : TOk P el i') (h0 : 0 ≤ n) (h1 : n < N) : Acts P o ev h reads { val := .addr id (off + n.toNat * i'.size) } := by
 refine acts_value fun Γ σ β a w hP hev hh hsim => ?_
 have e : σ.ev x = some (.addr id off) := by rw [hev x (by simp [ho, Op.operands]), hx]
 have e2 : a.eval y = .int k n := by simpa [Rep] using hsim.ev (show σ.ev y = some (.leaf (.int k n)) by rw [hev y (by simp [ho, Op.operands]), hy])
 have hrep := hsim.ev e
 simp only [Rep] at hrep
 cases hb : β id with
 | ph => rw [hb] at hrep; exact hrep.elim
 | real b ob E =>
  rw [hb] at hrep
  obtain ⟨d, h5, h6, _⟩ := ht.und
  rw [hk] at h6; simp only [kOk] at h6; subst h6
  refine ⟨.pointer (some ⟨b, ob + (off + n.toNat * i'.size), none⟩), ?_, by simp [Rep, hb], by simpa [T.ids] using hsim.ev_ids e⟩
  simp only [execOp, ho]
  refine run_v ?_
  have hz := he.size (P := P) w
  simp [Instr.indexAt, asIntOf, e2, hrep, run_underlying h5, Instr.sureAddr, h0, h1, hz, addr_add, Nat.add_assoc]
theorem acts_indexArrP {ty el : TypeId} {x y : Operand} {g : Tag} {off : Nat} {cs : List T} {k : IntKind} {n : Int} {N : Nat} {i i' : TI} (ho : o.op = .indexAddr ty x y) (hx : ev x = some (.pt g off cs)) (hy : ev y = some (.leaf (.int k n))) (ht : TOk P ty i) (hk : i.k = .array N el)
  (he : TOk P el i') (h0 : 0 ≤ n) (h1 : n < N) : Acts P o ev h reads { val := .pt g (off + n.toNat * i'.size) cs } := by
 refine acts_value fun Γ σ β a w hP hev hh hsim => ?_
 have e : σ.ev x = some (.pt g off cs) := by rw [hev x (by simp [ho, Op.operands]), hx]
 have e2 : a.eval y = .int k n := by simpa [Rep] using hsim.ev (show σ.ev y = some (.leaf (.int k n)) by rw [hev y (by simp [ho, Op.operands]), hy])
 have hrep := hsim.ev e
 simp only [Rep] at hrep
 obtain ⟨h0', b, ob, h1', h2, h2'⟩ := hrep
 obtain ⟨d, h5, h6, _⟩ := ht.und
 rw [hk] at h6; simp only [kOk] at h6; subst h6
 refine ⟨.pointer (some ⟨b, ob + (off + n.toNat * i'.size), none⟩), ?_, by simp only [Rep]; exact ⟨h0', b, ob, rfl, h2, h2'⟩, by simp [T.ids]⟩
 simp only [execOp, ho]
 refine run_v ?_
 have hz := he.size (P := P) w
 simp [Instr.indexAt, asIntOf, e2, h1', run_underlying h5, Instr.sureAddr, h0, h1, hz, addr_add, Nat.add_assoc]
theorem acts_indexRef {ty el : TypeId} {x y : Operand} {id m off N : Nat} {k : IntKind} {n : Int} {i i' : TI} (ho : o.op = .indexAddr ty x y) (hx : ev x = some (.ref id m off N)) (hy : ev y = some (.leaf (.int k n))) (ht : TOk P ty i) (hk : i.k = .slice el)
  (he : TOk P el i') (hm : i'.size = m) (h0 : 0 ≤ n) (h1 : n < N) : Acts P o ev h reads { val := .addr id (off + n.toNat * m) } := by
 refine acts_value fun Γ σ β a w hP hev hh hsim => ?_
 have e : σ.ev x = some (.ref id m off N) := by rw [hev x (by simp [ho, Op.operands]), hx]
 have e2 : a.eval y = .int k n := by simpa [Rep] using hsim.ev (show σ.ev y = some (.leaf (.int k n)) by rw [hev y (by simp [ho, Op.operands]), hy])
 have hrep := hsim.ev e
 simp only [Rep] at hrep
 cases hb : β id with
 | ph => rw [hb] at hrep; obtain ⟨_, rfl, _⟩ := hrep; omega
 | real b ob E =>
  rw [hb] at hrep
  obtain ⟨ad, cap, h3, h4, h4', h4''⟩ := hrep
  have had : ad = some ⟨b, ob + off, none⟩ := h4''.resolve_left (by omega)
  subst had
  obtain ⟨d, h5, h6, _⟩ := ht.und
  rw [hk] at h6; simp only [kOk] at h6; subst h6
  refine ⟨.pointer (some ⟨b, ob + (off + n.toNat * m), none⟩), ?_, by simp [Rep, hb], by simpa [T.ids] using hsim.ev_ids e⟩
  simp only [execOp, ho]
  refine run_v ?_
  have hz := he.size (P := P) w
  rw [hm] at hz
  simp [Instr.indexAt, asIntOf, e2, h3, run_underlying h5, h0, h1, hz, addr_add, Nat.add_assoc]
theorem acts_indexSl {ty el : TypeId} {x y : Operand} {m N : Nat} {g : Tag} {cs : List T} {k : IntKind} {n : Int} {i i' : TI} (ho : o.op = .indexAddr ty x y) (hx : ev x = some (.sl m g N cs)) (hy : ev y = some (.leaf (.int k n))) (ht : TOk P ty i) (hk : i.k = .slice el)
  (he : TOk P el i') (hm : i'.size = m) (h0 : 0 ≤ n) (h1 : n < N) : Acts P o ev h reads { val := .pt g (n.toNat * m) cs } := by
 refine acts_value fun Γ σ β a w hP hev hh hsim => ?_
 have e : σ.ev x = some (.sl m g N cs) := by rw [hev x (by simp [ho, Op.operands]), hx]
 have e2 : a.eval y = .int k n := by simpa [Rep] using hsim.ev (show σ.ev y = some (.leaf (.int k n)) by rw [hev y (by simp [ho, Op.operands]), hy])
 have hrep := hsim.ev e
 simp only [Rep] at hrep
 obtain ⟨⟨h2, h2'⟩, ad, cap, h3, h4, h4'⟩ := hrep
 obtain ⟨b, ob, rfl, h7, h8⟩ := h4'.resolve_left (by omega)
 obtain ⟨d, h5, h6, _⟩ := ht.und
 rw [hk] at h6; simp only [kOk] at h6; subst h6
 refine ⟨.pointer (some ⟨b, ob + n.toNat * m, none⟩), ?_, by simp only [Rep]; exact ⟨h2', b, ob, rfl, h7, h8⟩, by simp [T.ids]⟩
 simp only [execOp, ho]
 refine run_v ?_
 have hz := he.size (P := P) w
 rw [hm] at hz
 simp [Instr.indexAt, asIntOf, e2, h3, run_underlying h5, h0, h1, hz, addr_add]
end
end Go.Vw

/- A small logic for walks: values that are told (T), states that are told (St), what they say of a world (Rep, Sim). -/
import Derived.Below
import Derived.OwnWalk
import Derived.KernelRfl
namespace Go.Vw
set_option linter.unusedVariables false
set_option linter.unusedSimpArgs false
open Go Go.RowKit

inductive Tag | shr | brw
deriving DecidableEq

/-- A value, told: `leaf` is just that value; `sl`, `pt` lead to memory that nobody writes; `ref`, `addr` lead to an object of the state's own. -/
inductive T where
  | dead
  | leaf (v : Value)
  | e0
  | sl (m : Nat) (g : Tag) (n : Nat) (cs : List T)
  | pt (g : Tag) (off : Nat) (cs : List T)
  | agg (cs : List T)
  | tup (cs : List T)
  | iface (t : TypeId) (v : T)
  | fn (f : Fn) (first captured : List T)
  | ref (id m off n : Nat)
  | addr (id off : Nat)
deriving Inhabited

inductive Real | ph | real (b o E : Nat)
deriving Inhabited

def Real.block? : Real → Option Nat | .ph => none | .real b _ _ => some b

mutual
def T.ids : T → List Nat
  | .dead | .leaf _ | .e0 | .sl .. | .pt .. => []
  | .agg cs | .tup cs => idsL cs
  | .iface _ v => v.ids
  | .fn _ p q => idsL p ++ idsL q
  | .ref id _ _ _ | .addr id _ => [id]
def idsL : List T → List Nat
  | [] => []
  | t :: ts => t.ids ++ idsL ts
end


mutual
def Rep (w : World) (ok : Tag → Nat → Prop) : T → (Nat → Real) → Value → Prop
  | .dead, _, _ => True
  | .leaf v, _, x => x = v
  | .e0, _, x => ∃ a, x = .slice a 0 0
  | .sl m g n cs, _, x => (cs.length = n * m ∧ idsL cs = []) ∧ ∃ a cap, x = .slice a n cap ∧ n ≤ cap ∧ (n = 0 ∨ ∃ b o, a = some ⟨b, o, none⟩ ∧ ok g b ∧ RepAt w ok b cs o)
  | .pt g off cs, _, x => idsL cs = [] ∧ ∃ b o, x = .pointer (some ⟨b, o + off, none⟩) ∧ ok g b ∧ RepAt w ok b cs o
  | .agg cs, β, x => ∃ vs, x = .agg vs.toArray ∧ RepL w ok cs β vs
  | .tup cs, β, x => ∃ vs, x = .tuple vs.toArray ∧ RepL w ok cs β vs
  | .iface t v, β, x => ∃ y, x = .iface t y ∧ Rep w ok v β y
  | .fn f p q, β, x => ∃ ps qs, x = .func f ps.toArray qs.toArray ∧ RepL w ok p β ps ∧ RepL w ok q β qs
  | .ref id m off n, β, x =>
    match β id with
    | .ph => off = 0 ∧ n = 0 ∧ ∃ a, x = .slice a 0 0
    | .real b o E => ∃ a cap, x = .slice a n cap ∧ n ≤ cap ∧ off + cap * m ≤ E ∧ (cap = 0 ∨ a = some ⟨b, o + off, none⟩)
  | .addr id off, β, x =>
    match β id with
    | .ph => False
    | .real b o _ => x = .pointer (some ⟨b, o + off, none⟩)
def RepL (w : World) (ok : Tag → Nat → Prop) : List T → (Nat → Real) → List Value → Prop
  | [], _, vs => vs = []
  | t :: ts, β, vs => ∃ v us, vs = v :: us ∧ Rep w ok t β v ∧ RepL w ok ts β us
def RepAt (w : World) (ok : Tag → Nat → Prop) (b : Nat) : List T → Nat → Prop
  | [], _ => True
  | t :: ts, o => (∃ v, w.cell? ⟨b, o, none⟩ = some v ∧ Rep w ok t (fun _ => .ph) v) ∧ RepAt w ok b ts (o + 1)
end

section
variable {w w' : World} {ok ok' : Tag → Nat → Prop}

mutual
/-- What is read stays so, where what it leads to stays. -/
theorem Rep.mono (hok : ∀ g b, ok g b → ok' g b ∧ w'.heap[b]? = w.heap[b]?) : ∀ (t : T) (β β' : Nat → Real) (x : Value), (∀ i ∈ t.ids, β' i = β i) → Rep w ok t β x → Rep w' ok' t β' x
  | .dead, _, _, _, _, _ => by simp only [Rep]
  | .leaf v, _, _, _, _, h => by simpa only [Rep] using h
  | .e0, _, _, _, _, h => by simpa only [Rep] using h
  | .sl m g n cs, _, _, _, _, h => by
    simp only [Rep] at h ⊢
    obtain ⟨h1, a, cap, h2, h3, h4⟩ := h
    refine ⟨h1, a, cap, h2, h3, h4.imp id ?_⟩
    rintro ⟨b, o, h5, h6, h7⟩
    exact ⟨b, o, h5, (hok g b h6).1, RepAt.mono hok b (hok g b h6).2 cs o h7⟩
  | .pt g off cs, _, _, _, _, h => by
    simp only [Rep] at h ⊢
    obtain ⟨h0, b, o, h5, h6, h7⟩ := h
    exact ⟨h0, b, o, h5, (hok g b h6).1, RepAt.mono hok b (hok g b h6).2 cs o h7⟩
  | .agg cs, β, β', _, hi, h => by
    simp only [Rep] at h ⊢
    obtain ⟨vs, h1, h2⟩ := h
    exact ⟨vs, h1, RepL.mono hok cs β β' vs (by simpa [T.ids] using hi) h2⟩
  | .tup cs, β, β', _, hi, h => by
    simp only [Rep] at h ⊢
    obtain ⟨vs, h1, h2⟩ := h
    exact ⟨vs, h1, RepL.mono hok cs β β' vs (by simpa [T.ids] using hi) h2⟩
  | .iface t v, β, β', _, hi, h => by
    simp only [Rep] at h ⊢
    obtain ⟨y, h1, h2⟩ := h
    exact ⟨y, h1, Rep.mono hok v β β' y (by simpa [T.ids] using hi) h2⟩
  | .fn f p q, β, β', _, hi, h => by
    simp only [Rep] at h ⊢
    obtain ⟨ps, qs, h1, h2, h3⟩ := h
    simp only [T.ids, List.mem_append] at hi
    exact ⟨ps, qs, h1, RepL.mono hok p β β' ps (fun i h => hi i (.inl h)) h2, RepL.mono hok q β β' qs (fun i h => hi i (.inr h)) h3⟩
  | .ref id m off n, β, β', _, hi, h => by
    have e := hi id (by simp [T.ids])
    simp only [Rep] at h ⊢
    rw [e]; exact h
  | .addr id off, β, β', _, hi, h => by
    have e := hi id (by simp [T.ids])
    simp only [Rep] at h ⊢
    rw [e]; exact h
theorem RepL.mono (hok : ∀ g b, ok g b → ok' g b ∧ w'.heap[b]? = w.heap[b]?) : ∀ (ts : List T) (β β' : Nat → Real) (vs : List Value), (∀ i ∈ idsL ts, β' i = β i) → RepL w ok ts β vs → RepL w' ok' ts β' vs
  | [], _, _, _, _, h => by simpa only [RepL] using h
  | t :: ts, β, β', vs, hi, h => by
    simp only [RepL] at h ⊢
    obtain ⟨v, us, h1, h2, h3⟩ := h
    simp only [idsL, List.mem_append] at hi
    exact ⟨v, us, h1, Rep.mono hok t β β' v (fun i h => hi i (.inl h)) h2, RepL.mono hok ts β β' us (fun i h => hi i (.inr h)) h3⟩
theorem RepAt.mono (hok : ∀ g b, ok g b → ok' g b ∧ w'.heap[b]? = w.heap[b]?) (b : Nat) (hb : w'.heap[b]? = w.heap[b]?) : ∀ (ts : List T) (o : Nat), RepAt w ok b ts o → RepAt w' ok' b ts o
  | [], _, _ => by simp only [RepAt]
  | t :: ts, o, h => by
    simp only [RepAt] at h ⊢
    obtain ⟨⟨v, h1, h2⟩, h3⟩ := h
    refine ⟨⟨v, ?_, Rep.mono hok t _ _ v (fun _ _ => rfl) h2⟩, RepAt.mono hok b hb ts (o + 1) h3⟩
    rw [World.cell?_of_block (w := w) hb]; exact h1
end
end

mutual
/-- What leads to object `i` is forgotten. -/
def T.purge (i : Nat) : T → T
  | .dead => .dead
  | .leaf v => .leaf v
  | .e0 => .e0
  | .sl m g n cs => .sl m g n cs
  | .pt g o cs => .pt g o cs
  | .agg cs => .agg (purgeL i cs)
  | .tup cs => .tup (purgeL i cs)
  | .iface t v => .iface t (v.purge i)
  | .fn f p q => .fn f (purgeL i p) (purgeL i q)
  | .ref id m o n => if id = i then .dead else .ref id m o n
  | .addr id o => if id = i then .dead else .addr id o
def purgeL (i : Nat) : List T → List T
  | [] => []
  | t :: ts => t.purge i :: purgeL i ts
end

mutual
theorem T.ids_purge (i : Nat) : ∀ (t : T), ∀ x ∈ (t.purge i).ids, x ≠ i ∧ x ∈ t.ids
  | .dead | .leaf _ | .e0 | .sl .. | .pt .. => by simp [T.purge, T.ids]
  | .agg cs | .tup cs => by simpa [T.purge, T.ids] using ids_purgeL i cs
  | .iface _ v => by simpa [T.purge, T.ids] using T.ids_purge i v
  | .fn _ p q => by
    simp only [T.purge, T.ids, List.mem_append]
    rintro x (h | h)
    · exact ⟨(ids_purgeL i p x h).1, .inl (ids_purgeL i p x h).2⟩
    · exact ⟨(ids_purgeL i q x h).1, .inr (ids_purgeL i q x h).2⟩
  | .ref id _ _ _ | .addr id _ => by
    simp only [T.purge]
    split
    · simp [T.ids]
    · rename_i h; simp only [T.ids, List.mem_singleton]; rintro x rfl; exact ⟨h, rfl⟩
theorem ids_purgeL (i : Nat) : ∀ (ts : List T), ∀ x ∈ idsL (purgeL i ts), x ≠ i ∧ x ∈ idsL ts
  | [] => by simp [purgeL, idsL]
  | t :: ts => by
    simp only [purgeL, idsL, List.mem_append]
    rintro x (h | h)
    · exact ⟨(T.ids_purge i t x h).1, .inl (T.ids_purge i t x h).2⟩
    · exact ⟨(ids_purgeL i ts x h).1, .inr (ids_purgeL i ts x h).2⟩
end

theorem purgeL_length (i : Nat) (ts : List T) : (purgeL i ts).length = ts.length := by
  induction ts with
  | nil => rfl
  | cons t ts ih => simp [purgeL, ih]

section
variable {w : World} {ok : Tag → Nat → Prop}
mutual
theorem Rep.purge (i : Nat) : ∀ (t : T) (β : Nat → Real) (x : Value), Rep w ok t β x → Rep w ok (t.purge i) β x
  | .dead, _, _, _ => by simp [T.purge, Rep]
  | .leaf _, _, _, h | .e0, _, _, h | .sl .., _, _, h | .pt .., _, _, h => by simpa only [T.purge] using h
  | .agg cs, β, _, h => by
    simp only [Rep, T.purge] at h ⊢
    obtain ⟨vs, h1, h2⟩ := h
    exact ⟨vs, h1, RepL.purge i cs β vs h2⟩
  | .tup cs, β, _, h => by
    simp only [Rep, T.purge] at h ⊢
    obtain ⟨vs, h1, h2⟩ := h
    exact ⟨vs, h1, RepL.purge i cs β vs h2⟩
  | .iface t v, β, _, h => by
    simp only [Rep, T.purge] at h ⊢
    obtain ⟨y, h1, h2⟩ := h
    exact ⟨y, h1, Rep.purge i v β y h2⟩
  | .fn f p q, β, _, h => by
    simp only [Rep, T.purge] at h ⊢
    obtain ⟨ps, qs, h1, h2, h3⟩ := h
    exact ⟨ps, qs, h1, RepL.purge i p β ps h2, RepL.purge i q β qs h3⟩
  | .ref id m o n, β, _, h => by
    simp only [T.purge]; split
    · simp [Rep]
    · exact h
  | .addr id o, β, _, h => by
    simp only [T.purge]; split
    · simp [Rep]
    · exact h
theorem RepL.purge (i : Nat) : ∀ (ts : List T) (β : Nat → Real) (vs : List Value), RepL w ok ts β vs → RepL w ok (purgeL i ts) β vs
  | [], _, _, h => by simpa only [purgeL] using h
  | t :: ts, β, vs, h => by
    simp only [RepL, purgeL] at h ⊢
    obtain ⟨v, us, h1, h2, h3⟩ := h
    exact ⟨v, us, h1, Rep.purge i t β v h2, RepL.purge i ts β us h3⟩
end
end

section
variable {w : World} {ok : Tag → Nat → Prop} {β : Nat → Real}

theorem RepL.length : ∀ {ts : List T} {vs : List Value}, RepL w ok ts β vs → vs.length = ts.length
  | [], vs, h => by simp only [RepL] at h; simp [h]
  | t :: ts, vs, h => by
    simp only [RepL] at h
    obtain ⟨v, us, rfl, _, h3⟩ := h
    simp [RepL.length h3]

theorem RepL.get : ∀ {ts : List T} {vs : List Value} {i : Nat} {t : T}, RepL w ok ts β vs → ts[i]? = some t → ∃ v, vs[i]? = some v ∧ Rep w ok t β v
  | [], _, _, _, _, e => by simp at e
  | t :: ts, vs, i, u, h, e => by
    simp only [RepL] at h
    obtain ⟨v, us, rfl, h2, h3⟩ := h
    cases i with
    | zero => simp at e; subst e; exact ⟨v, rfl, h2⟩
    | succ i => simpa using RepL.get h3 (by simpa using e)

theorem RepL.of_get : ∀ {ts : List T} {vs : List Value}, vs.length = ts.length → (∀ (i : Nat) t v, ts[i]? = some t → vs[i]? = some v → Rep w ok t β v) → RepL w ok ts β vs
  | [], vs, h, _ => by simp only [RepL]; exact List.length_eq_zero_iff.1 (by simpa using h)
  | t :: ts, [], h, _ => by simp at h
  | t :: ts, v :: us, h, hg => by
    simp only [RepL]
    exact ⟨v, us, rfl, hg 0 t v rfl rfl, RepL.of_get (by simpa using h) (fun i t v h1 h2 => hg (i + 1) t v (by simpa using h1) (by simpa using h2))⟩

theorem RepL.append {ts us : List T} {vs xs : List Value} (h : RepL w ok ts β vs) (k : RepL w ok us β xs) : RepL w ok (ts ++ us) β (vs ++ xs) := by
  induction ts generalizing vs with
  | nil => simp only [RepL] at h; subst h; simpa using k
  | cons t ts ih =>
    simp only [RepL] at h
    obtain ⟨v, us', rfl, h2, h3⟩ := h
    simp only [List.cons_append, RepL]
    exact ⟨v, us' ++ xs, rfl, h2, ih h3⟩

theorem RepL.drop {ts : List T} {vs : List Value} (n : Nat) (h : RepL w ok ts β vs) : RepL w ok (ts.drop n) β (vs.drop n) := by
  induction n generalizing ts vs with
  | zero => simpa using h
  | succ n ih =>
    cases ts with
    | nil => simp only [RepL] at h; subst h; simp [RepL]
    | cons t ts =>
      simp only [RepL] at h
      obtain ⟨v, us', rfl, h2, h3⟩ := h
      simpa using ih h3

theorem RepL.take {ts : List T} {vs : List Value} (n : Nat) (h : RepL w ok ts β vs) : RepL w ok (ts.take n) β (vs.take n) := by
  induction n generalizing ts vs with
  | zero => simp [RepL]
  | succ n ih =>
    cases ts with
    | nil => simp only [RepL] at h; subst h; simp [RepL]
    | cons t ts =>
      simp only [RepL] at h
      obtain ⟨v, us', rfl, h2, h3⟩ := h
      simp only [List.take_succ_cons, RepL]
      exact ⟨v, us'.take n, rfl, h2, ih h3⟩

theorem RepL.leaves (vs : List Value) : RepL w ok (vs.map .leaf) β vs := by
  induction vs with
  | nil => simp [RepL]
  | cons v vs ih => simp only [List.map_cons, RepL]; exact ⟨v, vs, rfl, by simp [Rep], ih⟩

theorem RepL.set {ts : List T} {vs : List Value} (i : Nat) {t : T} {v : Value} (h : RepL w ok ts β vs) (ht : Rep w ok t β v) : RepL w ok (ts.set i t) β (vs.set i v) := by
  induction ts generalizing vs i with
  | nil => simp only [RepL] at h; subst h; simp [RepL]
  | cons u ts ih =>
    simp only [RepL] at h
    obtain ⟨x, us', rfl, h2, h3⟩ := h
    cases i with
    | zero => simp only [List.set_cons_zero, RepL]; exact ⟨v, us', rfl, ht, h3⟩
    | succ i => simp only [List.set_cons_succ, RepL]; exact ⟨x, us'.set i v, rfl, h2, ih i h3⟩

theorem RepL.idsub {ts : List T} {i : Nat} {t : T} (h : ts[i]? = some t) : ∀ x ∈ t.ids, x ∈ idsL ts := by
  induction ts generalizing i with
  | nil => simp at h
  | cons u ts ih =>
    intro x hx
    simp only [idsL, List.mem_append]
    cases i with
    | zero => simp at h; subst h; exact .inl hx
    | succ i => exact .inr (ih (by simpa using h) x hx)

/-- The cells from `o` on of block `b`. -/
def CellsAt (w : World) (b o : Nat) (vs : List Value) : Prop := ∀ i v, vs[i]? = some v → w.cell? ⟨b, o + i, none⟩ = some v

theorem RepAt.open_ {b : Nat} : ∀ {ts : List T} {o : Nat}, RepAt w ok b ts o → ∃ vs, RepL w ok ts (fun _ => .ph) vs ∧ CellsAt w b o vs
  | [], _, _ => ⟨[], by simp [RepL], fun i v h => by simp at h⟩
  | t :: ts, o, h => by
    simp only [RepAt] at h
    obtain ⟨⟨v, h1, h2⟩, h3⟩ := h
    obtain ⟨vs, h4, h5⟩ := RepAt.open_ h3
    refine ⟨v :: vs, by simp only [RepL]; exact ⟨v, vs, rfl, h2, h4⟩, fun i u e => ?_⟩
    cases i with
    | zero => simp at e; subst e; simpa using h1
    | succ i => have := h5 i u (by simpa using e); rw [show o + (i + 1) = o + 1 + i from by omega]; exact this

theorem RepAt.shut {b : Nat} : ∀ {ts : List T} {o : Nat} {vs : List Value}, RepL w ok ts (fun _ => .ph) vs → CellsAt w b o vs → RepAt w ok b ts o
  | [], _, _, _, _ => by simp only [RepAt]
  | t :: ts, o, vs, h, hc => by
    simp only [RepL] at h
    obtain ⟨v, us, rfl, h2, h3⟩ := h
    simp only [RepAt]
    exact ⟨⟨v, by simpa using hc 0 v rfl, h2⟩, RepAt.shut h3 fun i u e => by have := hc (i + 1) u (by simpa using e); rw [show o + 1 + i = o + (i + 1) from by omega]; exact this⟩

theorem CellsAt.drop {b o : Nat} {vs : List Value} (n : Nat) (h : CellsAt w b o vs) : CellsAt w b (o + n) (vs.drop n) := fun i v e => by
  rw [List.getElem?_drop] at e
  rw [Nat.add_assoc]; exact h _ _ e

theorem CellsAt.take {b o : Nat} {vs : List Value} (n : Nat) (h : CellsAt w b o vs) : CellsAt w b o (vs.take n) := fun i v e => by
  rw [List.getElem?_take] at e
  split at e
  · exact h _ _ e
  · simp at e
end

end Go.Vw

import Derived.Test.YtbppcnhfeobefaaDoorEnVx8
import Derived.RangeFuncRecord
import Derived.RangeFuncSeq
import Derived.Lib.Bytealg
import Derived.Lib.SliceRun
import Derived.Deep.RegionLaw
set_option linter.unusedVariables false
namespace Go.Vw
open Go Go.RowKit
theorem SimB.noX {Γ : Cx} {σ : St} {β : Nat → Real} {a : Act} {w : World} (hs : SimB Γ σ β a w) {g : Tag} {b : Nat} (hX : Γ.X g b) : b < w.heap.size ∧ ¬ own σ β b := by
  have hold := Γ.X_old g b hX
  refine ⟨Nat.lt_of_lt_of_le hold.1 hs.keeps.size, fun ho => ?_⟩
  rcases (hs.ownb b ho).2 with h' | h'
  · exact absurd hold.1 (by omega)
  · exact hold.2 h'
theorem SimB.restart {Γ : Cx} {σ : St} {β : Nat → Real} {a : Act} {w w' : World} (hs : SimB Γ σ β a w) (hsz : w.heap.size ≤ w'.heap.size)
    (hsame : ∀ b, b < w.heap.size → w'.heap[b]? = w.heap[b]? ∨ ((∀ g, Γ.X g b) ∧ ∀ cs, ¬ Known Γ.P b cs)) (S' : List Nat) (rd' : Option Nat) (ds' : List Deferred) :
    ∃ Γ' : Cx, (Γ'.P = Γ.P ∧ Γ'.n = Γ.n ∧ Γ'.S = S' ∧ Γ'.w0 = w' ∧ Γ'.lent = own σ β ∧ Γ'.β0 = β ∧ Γ'.rd = rd' ∧ Γ'.ds = ds' ∧ (∀ g b, Γ.X g b → Γ'.X g b) ∧ ∀ g b, w.heap.size ≤ b → b < w'.heap.size → Γ'.X g b) ∧
      SimB Γ' σ β ⟨a.tmps, ds'⟩ w' := by
  have hkeep : ∀ b, own σ β b → w'.heap[b]? = w.heap[b]? := fun b ho => (hsame b (hs.ownb b ho).1).resolve_right fun h => (hs.noX (h.1 .shr)).2 ho
  let X' : Tag → Nat → Prop := fun g b => Γ.X g b ∨ (w.heap.size ≤ b ∧ b < w'.heap.size)
  have hheld : ∀ b cs, Known Γ.P b cs → b < w'.heap.size ∧ ¬ own σ β b ∧ CellsAt w' b 0 cs := fun b cs hk => by
    obtain ⟨h1, h2, h3⟩ := hs.known rfl hk
    refine ⟨Nat.lt_of_lt_of_le h1 hsz, h2, fun i v hv => ?_⟩
    rw [World.cell?_of_block (w := w) ((hsame b h1).resolve_right fun h => h.2 cs hk)]
    exact h3 i v hv
  let Γ' : Cx := { P := Γ.P, n := Γ.n, w0 := w', lent := own σ β, X := X', X_old := fun g b h => h.elim (fun h => ⟨Nat.lt_of_lt_of_le (hs.noX h).1 hsz, (hs.noX h).2⟩) (fun h => ⟨h.2, fun ho => by have := (hs.ownb b ho).1; omega⟩), X_sub := (fun b h => h.imp (Γ.X_sub b) (fun h => h)), S := S', β0 := β, rd := rd', ds := ds', held := hheld }
  have hok : ∀ g b, okOf Γ.X σ β w g b → okOf X' σ β w' g b ∧ w'.heap[b]? = w.heap[b]? := fun g b h =>
    ⟨⟨Nat.lt_of_lt_of_le h.1 hsz, h.2.1, fun hx => hx.elim h.2.2 (fun hx => by have := h.1; omega)⟩, (hsame b h.1).resolve_right fun hx => h.2.2 (hx.1 g)⟩
  refine ⟨Γ', ⟨rfl, rfl, rfl, rfl, rfl, rfl, rfl, rfl, fun g b h => .inl h, fun g b h1 h2 => .inr ⟨h1, h2⟩⟩, rfl, hs.size, Keeps.refl _ _, fun t x e => ?_, fun id cs e => ?_, hs.inj, fun b hb => ⟨Nat.lt_of_lt_of_le (hs.ownb b hb).1 hsz, .inr hb⟩, hs.wfs, hs.wfh, fun _ _ => rfl⟩
  · obtain ⟨v, h1, h2⟩ := hs.slot t x e
    exact ⟨v, h1, Rep.mono hok x β β v (fun _ _ => rfl) h2⟩
  · exact (hs.obj id cs e).mono hok (fun b o E hr => hkeep b ⟨id, cs, o, E, e, hr⟩) (fun _ _ => rfl)
theorem SimB.past {Γ Γ' : Cx} {σ : St} {β : Nat → Real} {a c : Act} {w w' : World} (hs : SimB Γ' σ β a w) (hsz : w.heap.size ≤ w'.heap.size)
    (hsame : ∀ b, b < w.heap.size → w'.heap[b]? = w.heap[b]? ∨ ∀ g, Γ'.X g b) (hk : Keeps Γ.lent Γ.w0 w') (hl : ∀ b, own σ β b → Γ.w0.heap.size ≤ b ∨ Γ.lent b) (hX : ∀ g b, Γ.X g b → Γ'.X g b)
    (hS : ∀ i ∈ Γ.S, β i = Γ.β0 i) (hn : Γ.n = Γ'.n) (ht : c.tmps = a.tmps) (hd : c.defers = Γ.ds) : SimB Γ σ β c w' := by
  have hkeep : ∀ b, own σ β b → w'.heap[b]? = w.heap[b]? := fun b ho => (hsame b (hs.ownb b ho).1).resolve_right fun h => (hs.noX (h .shr)).2 ho
  have hok : ∀ g b, okOf Γ'.X σ β w g b → okOf Γ.X σ β w' g b ∧ w'.heap[b]? = w.heap[b]? := fun g b h =>
    ⟨⟨Nat.lt_of_lt_of_le h.1 hsz, h.2.1, fun hx => h.2.2 (hX g b hx)⟩, (hsame b h.1).resolve_right fun hx => h.2.2 (hx g)⟩
  refine ⟨hd, by rw [ht, hn]; exact hs.size, hk, fun t x e => ?_, fun id cs e => ?_, hs.inj, fun b hb => ⟨Nat.lt_of_lt_of_le (hs.ownb b hb).1 hsz, hl b hb⟩, hs.wfs, hs.wfh, hS⟩
  · obtain ⟨v, h1, h2⟩ := hs.slot t x e
    exact ⟨v, by rw [ht]; exact h1, Rep.mono hok x β β v (fun _ _ => rfl) h2⟩
  · exact (hs.obj id cs e).mono hok (fun b o E hr => hkeep b ⟨id, cs, o, E, e, hr⟩) (fun _ _ => rfl)
theorem SimB.notKnown {Γ : Cx} {σ : St} {β : Nat → Real} {a : Act} {w : World} (hs : SimB Γ σ β a w) {b : Nat} {o : Obj} (hb : w.heap[b]? = some o) (ho : ∀ c e fr, o ≠ .cells c e fr) (cs : List Value) : ¬ Known Γ.P b cs := fun hk => by
  obtain ⟨_, _, h3⟩ := hs.known rfl hk
  obtain ⟨_, rt, ty, _, _, _, rfl⟩ := hk
  have := h3 0 _ rfl
  unfold World.cell? at this
  simp only [Nat.add_zero, hb] at this
  cases o <;> simp at this
  exact ho _ _ _ rfl
def RoundM (P : Program) (f : FuncId) (c : Code) (A : List T) (H : List (Nat × List T)) (S : List Nat) (r : Bool) (H' : List (Nat × List T)) : Prop :=
  ∀ (Γ : Cx) (β : Nat → Real) (vs : List Value) (l : Nat), Γ.P = P → Γ.S = S → Γ.n = vs.length → vs.length = A.length → Γ.rd = some l → Γ.ds = [] → SimB Γ ⟨fun t => A[t]?, look H⟩ β ⟨vs.toArray, []⟩ Γ.w0 →
    ∀ (cs : List Frame) (b : Frame), b.fn = f → b.kind = .normal → b.roundOf = some l →
      ∃ (a' : Act) (w' : World) (k : List Item), Sim { Γ with n := 1 } (retSt (.leaf (.bool r)) (look H')) ⟨#[.bool r], []⟩ w' ∧ Steps P (lone (b.atR ⟨vs.toArray, []⟩ [.code c]) cs Γ.w0) (lone (b.atR a' k) cs w') ∧
        ((r = true ∧ k = []) ∨ (r = false ∧ ∃ k', k = .code .ret :: k'))
def PostB (Γ : Cx) (r : Bool) (H' : List (Nat × List T)) (v : Value) (w' : World) : Prop := v = .bool r ∧ Sim { Γ with n := 1, ds := [] } (retSt (.leaf (.bool r)) (look H')) ⟨#[v], []⟩ w'
def PostY {γ δ : Type} (Γ : Cx) (e1 : γ → List (Nat × List T)) (e2 : δ → List (Nat × List T)) : γ ⊕ δ → Value → World → Prop
  | .inl z => PostB Γ true (e1 z)
  | .inr d => PostB Γ false (e2 d)
def rdB {γ δ : Type} : γ ⊕ δ → Bool | .inl _ => true | .inr _ => false
def rdH {γ δ : Type} (e1 : γ → List (Nat × List T)) (e2 : δ → List (Nat × List T)) : γ ⊕ δ → List (Nat × List T) | .inl z => e1 z | .inr d => e2 d
section
variable {E : Env} {Γ : Cx} {f : FuncId} {N : Nat} {S : List Nat} {k k0 : List Item}
theorem Go.lvB {L : List (Nat × T)} {H : List (Nat × List T)} {H' : List (Nat × List T)} (n : Nat) (ids : List Nat) (r : Bool) {l : Nat} (hrd : Γ.rd = some l) (hk : k = k0) (he : (match r with | true => (match normI n k0 with | [] => true | _ => false) | false => (match normI n k0 with | .code .ret :: _ => true | _ => false)) = true)
    (hH : keepL H ids = H') (hw : AllP (closedL (H'.map (·.1)) H')) : Go E Γ f N S (PostB Γ r H') k (stL L H) := by
  subst hk; subst hH
  refine Go.norm n ?_
  intro h1 h2 h3 a w ⟨β, hs⟩ cs' b hb hkd
  have how : ∀ c, own (retSt (.leaf (.bool r)) (look (keepL H ids))) β c → own (stL L H) β c := fun c ⟨id, cs, o, E', q1, q2⟩ => ⟨id, cs, o, E', look_keepL H ids id cs q1, q2⟩
  have hok : ∀ g c, okOf Γ.X (stL L H) β w g c → okOf Γ.X (retSt (.leaf (.bool r)) (look (keepL H ids))) β w g c ∧ w.heap[c]? = w.heap[c]? := fun g c hc => ⟨⟨hc.1, fun ho => hc.2.1 (how c ho), hc.2.2⟩, rfl⟩
  have hpost : PostB Γ r (keepL H ids) (.bool r) w := by
    refine ⟨rfl, β, rfl, rfl, hs.keeps, fun t y e => ?_, fun id cs e => (hs.obj id cs (look_keepL H ids id cs e)).mono hok (fun _ _ _ _ => rfl) (fun _ _ => rfl),
      fun i1 i2 c1 c2 b1 o1 E1 o2 E2 q1 q2 => hs.inj i1 i2 c1 c2 b1 o1 E1 o2 E2 (look_keepL H ids _ _ q1) (look_keepL H ids _ _ q2), fun c hc => hs.ownb c (how c hc), fun t y e => ?_, fun id cs e i hi => look_of_mem (closedL_ok hw id cs e i hi), hs.stab⟩
    · simp only [retSt] at e
      split at e
      · rename_i ht; subst ht; injection e with e; subst e
        exact ⟨_, rfl, by simp [Rep]⟩
      · simp at e
    · simp only [retSt] at e
      split at e
      · injection e with e; subst e; simp [T.ids]
      · simp at e
  have hro : b.roundOf = some l := hkd.2.trans hrd
  rw [hrd]
  cases r with
  | true =>
    simp only at he
    split at he
    · rename_i e; rw [e]
      exact ⟨.bool true, w, _, hpost, .refl _ _, hb, b, a, [], rfl, hro, hkd.1, .inl ⟨rfl, rfl⟩⟩
    · simp at he
  | false =>
    simp only at he
    split at he
    · rename_i e; rw [e]
      exact ⟨.bool false, w, _, hpost, .refl _ _, hb, b, a, _, rfl, hro, hkd.1, .inr ⟨_, rfl, rfl⟩⟩
    · simp at he
theorem RoundM.enterX {γ δ : Type} {e1 : γ → List (Nat × List T)} {e2 : δ → List (Nat × List T)} {x : γ ⊕ δ} {c : Code} {A : List T} {H : List (Nat × List T)} (hN : A.length = N)
    (h : ∀ (Γ : Cx) (k : List Item) (l : Nat), Γ.rd = some l → k = [.code c] → Go E Γ f N S (PostY Γ e1 e2 x) k (stL (idxL 0 A) H)) :
    RoundM E.P f c A H S (rdB x) (rdH e1 e2 x) := by
  intro Γ β vs l hP hS hn hl hrd hds hs cs b hb hkd hro
  have hst : stL (idxL 0 A) H = ⟨fun t => A[t]?, look H⟩ := by
    simp only [stL, St.mk.injEq, and_true]
    funext t; rw [look_idxL]; simp
  obtain ⟨v, w', fr, p, st, r1, r2⟩ := h Γ _ l hrd rfl hP (by rw [hn, hl, hN]) hS ⟨vs.toArray, []⟩ Γ.w0 ⟨β, by rw [hst]; exact hs⟩ cs b hb ⟨hkd, hro.trans hrd.symm⟩
  rw [hrd] at r2
  obtain ⟨b', a', k, rfl, q1, q2, q3⟩ := r2
  have hfr : b'.atR a' k = b.atR a' k := by
    have hfn : b'.fn = b.fn := by simpa [Frame.atR, hb] using r1
    simp [Frame.atR, hfn, hkd, hro, q1, q2]
  rw [hfr] at st
  cases x with
  | inl z =>
    obtain ⟨rfl, β', p⟩ := p
    refine ⟨a', w', k, ⟨β', p.re rfl hds.symm rfl rfl rfl rfl rfl rfl⟩, st, .inl ⟨rfl, ?_⟩⟩
    rcases q3 with ⟨e, _⟩ | ⟨_, _, e⟩
    · exact e
    · simp at e
  | inr d =>
    obtain ⟨rfl, β', p⟩ := p
    refine ⟨a', w', k, ⟨β', p.re rfl hds.symm rfl rfl rfl rfl rfl rfl⟩, st, .inr ⟨rfl, ?_⟩⟩
    rcases q3 with ⟨_, e⟩ | ⟨k', e, _⟩
    · simp at e
    · exact ⟨k', e⟩
end
def rfBs : Code → List Code
  | .seq a b => rfBs a ++ rfBs b
  | .cond _ a b => rfBs a ++ rfBs b
  | .block _ a => rfBs a
  | .loop a => rfBs a
  | .scope a => rfBs a
  | .rangeFunc _ _ _ b => [b]
  | _ => []
def rfB (fn : Func) (i : Nat) : Code := match fn.body with | some c => (rfBs c)[i]?.getD .skip | none => .skip
def asgOp (o : Oper) : Option (Nat × Nat) :=
  match o.dst, o.op, o.guard with
  | some d, .assign (.tmp p), none => some (d, p)
  | _, _, _ => none
theorem asgOp_ok {o : Oper} {d p : Nat} (h : asgOp o = some (d, p)) : o.dst = some d ∧ o.op = .assign (.tmp p) ∧ o.guard = none := by
  unfold asgOp at h
  split at h
  · rename_i d' p' h1 h2 h3; simp only [Option.some.injEq, Prod.mk.injEq] at h; obtain ⟨rfl, rfl⟩ := h; exact ⟨h1, h2, h3⟩
  · simp at h
def asgOf : Code → Option (List (Nat × Nat))
  | .skip => some []
  | .region _ ops dr => match ops.toList, dr with | [o], false => (asgOp o).map fun x => [x] | _, _ => none
  | .seq a b => match asgOf a, asgOf b with | some x, some y => some (x ++ y) | _, _ => none
  | _ => none
def putAll (tmps : Array Value) : List (Nat × Nat) → Array Value
  | [] => tmps
  | (d, p) :: l => putAll (tmps.setIfInBounds d (tmps.getD p undef)) l
theorem putAll_append (l m : List (Nat × Nat)) : ∀ (tmps : Array Value), putAll tmps (l ++ m) = putAll (putAll tmps l) m := by
  induction l with
  | nil => intro _; rfl
  | cons x l ih => intro t; obtain ⟨d, p⟩ := x; exact ih _
theorem asg_steps {P : Program} {w : World} {cs : List Frame} {b : Frame} : ∀ (c : Code) (l : List (Nat × Nat)), asgOf c = some l → ∀ (a : Act) (k : List Item), Steps P (lone (b.atR a (.code c :: k)) cs w) (lone (b.atR ⟨putAll a.tmps l, a.defers⟩ k) cs w)
  | .skip, l, h, a, k => by
    simp only [asgOf, Option.some.injEq] at h; subst h
    exact .one stepR_skip
  | .seq x y, l, h, a, k => by
    simp only [asgOf] at h
    split at h
    · rename_i l1 l2 e1 e2
      simp only [Option.some.injEq] at h; subst h
      rw [putAll_append]
      exact .head stepR_seq ((asg_steps x l1 e1 a _).trans (asg_steps y l2 e2 ⟨putAll a.tmps l1, a.defers⟩ k))
    · simp at h
  | .region id ops dr, l, h, a, k => by
    simp only [asgOf] at h
    split at h
    · rename_i o e
      obtain ⟨⟨d, p⟩, ho, rfl⟩ := Option.map_eq_some_iff.1 h
      obtain ⟨h1, h2, h3⟩ := asgOp_ok ho
      obtain rfl : ops = #[o] := by cases ops; simp_all
      refine .head stepR_region ?_
      obtain ⟨a', w', hr, st⟩ := region_steps (P := P) (w := w) (R := fun a' w' => a' = ⟨a.tmps.setIfInBounds d (a.tmps.getD p undef), a.defers⟩ ∧ w' = w) (ops := #[o]) (l := [0]) (a := a)
        (by intro o' ho' c; simp at ho'; subst ho'; rw [h2]; simp)
        (by simp only [wpOps, List.getElem?_toArray, List.getElem?_cons_zero, Region.wanted, h3, if_true]
            exact .inl (by simp [Oper.wp, execOp, Oper.upon, Act.eval, Act.put, h1, h2])) b k cs
      obtain ⟨rfl, rfl⟩ := hr
      exact st
    · simp at h
  | .cond .., l, h, _, _ | .block .., l, h, _, _ | .loop .., l, h, _, _ | .rangeFunc .., l, h, _, _ | .exit .., l, h, _, _ | .scope .., l, h, _, _ | .label .., l, h, _, _ | .goto .., l, h, _, _ | .ret, l, h, _, _ | .refuse .., l, h, _, _ => by
    simp [asgOf] at h
end Go.Vw
namespace Go.Vw
open Go Go.RowKit
theorem drops_hq : ∀ (l : List Nat) (σ : St) (j : Nat), (σ.drops l).h j = if j ∈ l then none else (σ.h j).map (purgesL l)
  | [], σ, j => by simp only [St.drops]; cases σ.h j <;> simp [purgesL]
  | i :: l, σ, j => by
    simp only [St.drops]
    rw [drops_hq l]
    simp only [St.drop, List.mem_cons]
    by_cases h : j = i
    · subst h; by_cases h2 : j ∈ l <;> simp [h2]
    · by_cases h2 : j ∈ l
      · simp [h2]
      · simp only [h, h2, or_self, if_false]
        cases σ.h j <;> simp [purgesL]
theorem purges_id : ∀ (l : List Nat) (t : T), (∀ i ∈ l, i ∉ t.ids) → t.purges l = t
  | [], _, _ => rfl
  | i :: l, t, h => by simp only [T.purges]; rw [T.purge_id t (h i (by simp))]; exact purges_id l t fun j hj => h j (by simp [hj])
theorem purgesL_id : ∀ (l : List Nat) (t : List T), (∀ i ∈ l, i ∉ idsL t) → purgesL l t = t
  | [], _, _ => rfl
  | i :: l, t, h => by simp only [purgesL]; rw [purgeL_id t (h i (by simp))]; exact purgesL_id l t fun j hj => h j (by simp [hj])
theorem look_app {α : Type} : ∀ (A B : List (Nat × α)) (j : Nat), look (A ++ B) j = match look A j with | some c => some c | none => look B j
  | [], _, _ => rfl
  | (i, x) :: A, B, j => by
    simp only [List.cons_append, look]
    split
    · rfl
    · exact look_app A B j
theorem mem_of_look {α : Type} {H : List (Nat × α)} {i : Nat} (h : look H i ≠ none) : i ∈ H.map (·.1) := by
  false_or_by_contra
  rename_i h'; exact h (look_none h')
def offL (D : List Nat) : List (Nat × T) → List Prop
  | [] => []
  | (_, t) :: l => (disjN t.ids D = true) :: offL D l
def offH (D : List Nat) : List (Nat × List T) → List Prop
  | [] => []
  | (_, t) :: l => (disjN (idsL t) D = true) :: offH D l
theorem offL_ok {D : List Nat} : ∀ {L : List (Nat × T)}, AllP (offL D L) → ∀ t x, look L t = some x → ∀ i ∈ D, i ∉ x.ids
  | [], _, t, x, h => by simp [look] at h
  | (n, y) :: L, hp, t, x, h => by
    cases hp with
    | cons h1 h2 =>
      simp only [look] at h
      split at h
      · injection h with h; subst h; exact fun i hi hx => disjN_spec h1 i hx hi
      · exact offL_ok h2 t x h
theorem offH_ok {D : List Nat} : ∀ {L : List (Nat × List T)}, AllP (offH D L) → ∀ t x, look L t = some x → ∀ i ∈ D, i ∉ idsL x
  | [], _, t, x, h => by simp [look] at h
  | (n, y) :: L, hp, t, x, h => by
    cases hp with
    | cons h1 h2 =>
      simp only [look] at h
      split at h
      · injection h with h; subst h; exact fun i hi hx => disjN_spec h1 i hx hi
      · exact offH_ok h2 t x h
theorem stL_round {L : List (Nat × T)} {Hr H1 H2 : List (Nat × List T)} {S D : List Nat} (hD : notStay S H1 = D) (hL : AllP (offL D L)) (hH : AllP (offH D Hr)) (h1 : ∀ i, look Hr i ≠ none → look H1 i = none ∧ look H2 i = none) (hS : ∀ i ∈ S, look H2 i ≠ none) (h2 : once H2 = true) :
    ((stL L (Hr ++ H1)).drops (notStay S H1)).puts H2 = stL L (Hr ++ H2) := by
  rw [hD]
  have hs : (((stL L (Hr ++ H1)).drops D).puts H2).s = look L := by
    funext t
    rw [puts_s, drops_s]
    show (look L t).map _ = look L t
    cases e : look L t with
    | none => rfl
    | some x => simp only [Option.map_some]; rw [purges_id D x (offL_ok hL t x e)]
  have hh : (((stL L (Hr ++ H1)).drops D).puts H2).h = look (Hr ++ H2) := by
    funext j
    rw [puts_h, lastP_look h2, drops_hq]
    show (match look H2 j with | some c => some c | none => if j ∈ D then none else (look (Hr ++ H1) j).map _) = look (Hr ++ H2) j
    rw [look_app Hr H1, look_app Hr H2]
    cases e2 : look H2 j with
    | some c =>
      cases er : look Hr j with
      | none => rfl
      | some d => exact absurd e2 (by rw [(h1 j (by rw [er]; simp)).2]; simp)
    | none =>
      cases er : look Hr j with
      | some d =>
        have hj : j ∉ D := by
          rw [← hD]; simp only [notStay, List.mem_filter, not_and]
          intro hm; exact absurd (look_of_mem hm) (by simp [(h1 j (by rw [er]; simp)).1])
        simp only [if_neg hj, Option.map_some]
        rw [purgesL_id D d (offH_ok hH j d er)]
      | none =>
        simp only
        by_cases hj : j ∈ D
        · simp [hj]
        · rw [if_neg hj]
          cases e1 : look H1 j with
          | none => rfl
          | some c =>
            exfalso; apply hj
            rw [← hD]; simp only [notStay, List.mem_filter, Bool.not_eq_true']
            refine ⟨mem_of_look (by rw [e1]; simp), ?_⟩
            cases hc : S.contains j with
            | false => rfl
            | true => exact absurd e2 (hS j (by simpa using hc))
  cases hq : ((stL L (Hr ++ H1)).drops D).puts H2 with
  | mk s h => rw [hq] at hs hh; simp only at hs hh; subst hs; subst hh; rfl
def IterOk (P : Program) (gf : FuncId) (lb : Array Value) (n : Nat) (vals : Nat → Array Value) (Rd : World → Prop) : Prop :=
  ∀ (l : Nat) (J Jx : Nat → World → Prop) (W : World), (∀ k W, J k W → Rd W) → (∀ k W, J k W → J k W.drew) → (∀ k W, Jx k W → Jx k W.drew) → J 0 W →
    (∀ k W, k < n → J k W → YieldAt Fence.wide 0 P l (vals k) W fun e W' => (e = .returned (.bool true) ∧ J (k + 1) W') ∨ (e = .returned (.bool false) ∧ Jx (k + 1) W')) →
    CallsIn Fence.wide 0 P gf (#[.func (.yield l) #[] #[]] ++ lb) W fun e W' => (∃ v, e = .returned v) ∧ (J n W' ∨ ∃ k, k ≤ n ∧ Jx k W')
def rng {γ δ : Type} (bd : Nat → γ → γ ⊕ δ) : Nat → Nat → γ → γ ⊕ δ
  | 0, _, z => .inl z
  | n + 1, k, z => match bd k z with | .inl z' => rng bd n (k + 1) z' | .inr d => .inr d
def rngE {γ δ α : Type} (X1 : γ → α) (X2 : δ → α) : γ ⊕ δ → α | .inl z => X1 z | .inr d => X2 d
def RB (rdi : List Nat) (β : Nat → Real) (b : Nat) : Prop := ∃ i ∈ rdi, ∃ o E, β i = .real b o E
def parL : List Nat → List T → List (Nat × T) → List (Nat × T)
  | p :: ps, t :: ts, L => parL ps ts ((p, t) :: L)
  | _, _, L => L
def mvL : List (Nat × Nat) → List (Nat × T) → List (Nat × T)
  | [], L => L
  | (d, p) :: l, L => mvL l ((d, (look L p).getD .dead) :: L)
def selL (N : Nat) (ns : List Nat) (L : List (Nat × T)) : List T := (List.range N).map fun t => if memN t ns then (look L t).getD .dead else .dead
section
variable {w : World} {ok : Tag → Nat → Prop} {β : Nat → Real}
def RepS (w : World) (ok : Tag → Nat → Prop) (β : Nat → Real) (L : List (Nat × T)) (tmps : Array Value) : Prop := ∀ t x, look L t = some x → ∃ v, tmps[t]? = some v ∧ Rep w ok x β v
theorem RepS.put {L : List (Nat × T)} {tmps : Array Value} (h : RepS w ok β L tmps) {d : Nat} {x : T} {v : Value} (hd : d < tmps.size) (hx : Rep w ok x β v) : RepS w ok β ((d, x) :: L) (tmps.setIfInBounds d v) := by
  intro t y e
  simp only [look] at e
  split at e
  · rename_i q; subst q; injection e with e; subst e; exact ⟨v, by simp [hd], hx⟩
  · rename_i q
    obtain ⟨u, h1, h2⟩ := h t y e
    exact ⟨u, by rw [Array.getElem?_setIfInBounds_ne q]; exact h1, h2⟩
theorem RepS.par : ∀ {ps : List Nat} {ts : List T} {vs : List Value} {L : List (Nat × T)} {tmps : Array Value}, RepS w ok β L tmps → RepL w ok ts β vs → (∀ p ∈ ps, p < tmps.size) → vs.length = ps.length →
    RepS w ok β (parL ps ts L) ((ps.zip vs).foldl (fun t x => t.setIfInBounds x.1 x.2) tmps) ∧ ((ps.zip vs).foldl (fun t x => t.setIfInBounds x.1 x.2) tmps).size = tmps.size
  | [], ts, vs, L, tmps, h, _, _, _ => by simp only [parL, List.zip_nil_left, List.foldl_nil]; exact ⟨h, trivial⟩
  | p :: ps, ts, vs, L, tmps, h, hr, hp, hl => by
    cases vs with
    | nil => simp at hl
    | cons v vs =>
      cases ts with
      | nil => simp only [RepL] at hr; cases hr
      | cons t ts =>
        simp only [RepL] at hr
        obtain ⟨v', us, e, h1, h2⟩ := hr
        injection e with e1 e2; subst e1; subst e2
        have := RepS.par (ps := ps) (h.put (hp p (by simp)) h1) h2 (fun q hq => by simp; exact hp q (by simp [hq])) (by simpa using hl)
        simp only [List.zip_cons_cons, List.foldl_cons, parL, Array.size_setIfInBounds] at this ⊢
        exact this
theorem zipfold (ps : Array Nat) (vs : Array Value) (f : Array Value → Nat × Value → Array Value) (tmps : Array Value) : (ps.zip vs).foldl f tmps = (ps.toList.zip vs.toList).foldl f tmps := by
  rw [← Array.foldl_toList]; simp
theorem RepS.mv : ∀ {l : List (Nat × Nat)} {L : List (Nat × T)} {tmps : Array Value}, RepS w ok β L tmps → (∀ p ∈ l, p.1 < tmps.size) → RepS w ok β (mvL l L) (putAll tmps l) ∧ (putAll tmps l).size = tmps.size
  | [], L, tmps, h, _ => ⟨h, rfl⟩
  | (d, p) :: l, L, tmps, h, hp => by
    have := RepS.mv (l := l) (L := (d, (look L p).getD .dead) :: L) (tmps := tmps.setIfInBounds d (tmps.getD p undef)) (h.put (hp (d, p) (by simp)) (by
      cases e : look L p with
      | none => simp [Rep]
      | some x =>
        obtain ⟨v, h1, h2⟩ := h p x e
        simp only [Option.getD_some]
        rw [Array.getD_eq_getD_getElem?, h1]; exact h2)) (fun q hq => by simp; exact hp q (by simp [hq]))
    simpa [mvL, putAll] using this
theorem RepS.sel {N : Nat} {ns : List Nat} {L : List (Nat × T)} {tmps : Array Value} (h : RepS w ok β L tmps) (hN : tmps.size = N) : RepL w ok (selL N ns L) β tmps.toList := by
  refine RepL.of_get (by simp [selL, hN]) fun i t v e1 e2 => ?_
  simp only [selL, List.getElem?_map] at e1
  cases e3 : (List.range N)[i]? with
  | none => simp [e3] at e1
  | some j =>
    have hj : j = i := by have := List.getElem?_range (n := N) (i := i) (by have := (List.getElem?_eq_some_iff.1 e3).1; simpa using this); rw [this] at e3; injection e3 with e3; exact e3.symm
    subst hj
    simp only [e3, Option.map_some, Option.some.injEq] at e1
    subst e1
    split
    · cases e4 : look L j with
      | none => simp [Rep]
      | some x =>
        obtain ⟨u, h1, h2⟩ := h j x e4
        have : u = v := by have : tmps[j]? = some v := by simpa using e2
                           rw [h1] at this; injection this
        subst this; simpa using h2
    · simp [Rep]
end
theorem putObj_twice (w : World) (l : Nat) (x y : Obj) : (w.putObj l x).putObj l y = w.putObj l y := by
  simp [World.putObj]
end Go.Vw
namespace Go.Vw
open Go Go.RowKit
def chkK (S Sb rdi K1 K2 Kr : List Nat) : Bool :=
 subN Sb K1 && subN Sb K2 && disjN Kr K1 && disjN Kr K2 && (K1 ++ K2).all (fun p => memN p Sb || (!memN p S && !memN p rdi)) && subN rdi Kr
def AsgOk (P : Program) (asg : Code) (F : List (Nat × T) → List (Nat × T)) (G : List (Nat × T) → Prop) (N : Nat) : Prop :=
 ∀ (Γ : Cx) (σ : St) (β : Nat → Real) (a : Act) (W : World) (L : List (Nat × T)) (tm1 : Array Value) (bf : Frame) (cs : List Frame) (k : List Item), Γ.P = P → SimB Γ σ β a W → RepS W (okOf Γ.X σ β W) β L tm1 → tm1.size = N → G L →
  ∃ W' tm2, Keeps (fun _ => False) W W' ∧ RepS W' (okOf Γ.X σ β W') β (F L) tm2 ∧ tm2.size = N ∧ Steps P (lone (bf.atR ⟨tm1, []⟩ (.code asg :: k)) cs W) (lone (bf.atR ⟨tm2, []⟩ k) cs W')
theorem asgOk_moves {P : Program} {asg : Code} {mv : List (Nat × Nat)} {N : Nat} (has : asgOf asg = some mv) (hmv : mv.all (fun p => Nat.blt p.1 N) = true) : AsgOk P asg (mvL mv) (fun _ => True) N := by
 intro Γ σ β a W L tm1 bf cs k _ _ hr hn _
 have h := hr.mv (l := mv) (fun p hp => by have := (List.all_eq_true.1 hmv) p hp; rw [hn]; simpa [Nat.blt_eq] using this)
 exact ⟨W, putAll tm1 mv, Keeps.refl _ _, h.1, h.2.trans hn, asg_steps asg mv has ⟨tm1, []⟩ k⟩
section
variable {γ δ α : Type} {E : Env} {Γ : Cx} {f : FuncId} {N : Nat} {S : List Nat} {k k0 rest : List Item} {enc : α → T × List (Nat × List T)} {L : List (Nat × T)} {Hr : List (Nat × List T)} {z0 : γ}
 {ps : Array Tmp} {asg body : Code} {g : Nat} {gf : FuncId} {caps : List T} {mv : List (Nat × Nat)}
set_option maxHeartbeats 4000000 in
theorem Go.rangeA (m : Nat) (F : List (Nat × T) → List (Nat × T)) (G : List (Nat × T) → Prop) (bd : Nat → γ → γ ⊕ δ) (e1 : γ → List (Nat × List T)) (e2 : δ → List (Nat × List T)) (I : Nat → γ → Prop) (n : Nat) (tp : Nat → List T) (ns Sb rdi D K1 K2 : List Nat) (X1 : γ → α) (X2 : δ → α)
  (hrd : Γ.rd = none) (hk : k = k0) (he : normI m k0 = .code (.rangeFunc (.tmp g) ps asg body) :: rest)
  (hg : look L g = some (.fn (.func gf) [] caps)) (heg : ∀ args w, (callFunc gf args).run E.P w = .ok (.enter gf args) w) (has : AsgOk E.P asg F G N)
  (hps : ps.toList.all (fun p => Nat.blt p N) = true) (hG : ∀ k, k < n → G (parL ps.toList (tp k) L))
  (hit : ∀ (Γ' : Cx) (β' : Nat → Real) (a' : Act) (W : World), Γ'.P = E.P → SimB Γ' (stL L (Hr ++ e1 z0)) β' a' W → ∀ lb : List Value, RepL W (okOf Γ'.X (stL L (Hr ++ e1 z0)) β' W) caps β' lb →
   ∃ vals : Nat → List Value, IterOk E.P gf lb.toArray n (fun k => (vals k).toArray) (fun W' => ∀ b, RB rdi β' b → W'.heap[b]? = W.heap[b]?) ∧ (∀ k, (vals k).length = ps.size) ∧
    ∀ k, k < n → ∀ (z : γ) (Γ2 : Cx) (β2 : Nat → Real) (a2 : Act) (W2 : World), SimB Γ2 (stL L (Hr ++ e1 z)) β2 a2 W2 → (∀ i ∈ rdi, β2 i = β' i) → (∀ b, RB rdi β' b → W2.heap[b]? = W.heap[b]?) →
     RepL W2 (okOf Γ2.X (stL L (Hr ++ e1 z)) β2 W2) (tp k) β2 (vals k))
  (hK1 : ∀ z, (e1 z).map (·.1) = K1) (hK2 : ∀ d, (e2 d).map (·.1) = K2) (hD : K1.filter (fun i => !Sb.contains i) = D) (hchk : chkK S Sb rdi K1 K2 (Hr.map (·.1)) = true)
  (hon1 : ∀ z, once (e1 z) = true) (hon2 : ∀ d, once (e2 d) = true) (hL : AllP (offL D L)) (hH : AllP (offH D Hr)) (hcl : ∀ z, AllP (closedL K1 (e1 z)))
  (hAi : ∀ k, subN (idsL (selL N ns (F (parL ps.toList (tp k) L)))) K1 = true) (h0 : I 0 z0)
  (hb : ∀ k z, k < n → I k z → RoundM E.P f body (selL N ns (F (parL ps.toList (tp k) L))) (e1 z) Sb (rdB (bd k z)) (rdH e1 e2 (bd k z)))
  (hI : ∀ k z z', k < n → I k z → bd k z = .inl z' → I (k + 1) z')
  (h1 : ∀ z, I n z → ∀ (Γ' : Cx) (k' : List Item), Γ'.rd = none → k' = rest → Go E Γ' f N S (PostX Γ' enc (X1 z)) k' (stL L (Hr ++ e1 z)))
  (h2 : ∀ d, rng bd n 0 z0 = .inr d → ∀ (Γ' : Cx) (k' : List Item), Γ'.rd = none → k' = .code .ret :: rest → Go E Γ' f N S (PostX Γ' enc (X2 d)) k' (stL L (Hr ++ e2 d))) :
  Go E Γ f N S (PostX Γ enc (rngE X1 X2 (rng bd n 0 z0))) k (stL L (Hr ++ e1 z0)) := by
 subst hk
 refine Go.norm m ?_
 rw [he]
 intro g1 g2 g3 a w ⟨β, hs⟩ cs b hbf ⟨hkd, hro⟩
 have hro' : b.roundOf = none := hro.trans hrd
 simp only [chkK, Bool.and_eq_true] at hchk
 obtain ⟨⟨⟨⟨⟨c1, c2⟩, c3⟩, c4⟩, c5⟩, c6⟩ := hchk
 have c5' : ∀ p, p ∈ K1 ∨ p ∈ K2 → p ∈ Sb ∨ (p ∉ S ∧ p ∉ rdi) := fun p hp => by
  have := (List.all_eq_true.1 c5) p (by simpa using hp)
  simp only [Bool.or_eq_true, Bool.and_eq_true, Bool.not_eq_true'] at this
  exact this.imp memN_iff.1 fun h => ⟨memN_false h.1, memN_false h.2⟩
 have hdis1 : ∀ i, look Hr i ≠ none → ∀ z, look (e1 z) i = none := fun i hi z => by
  cases hq : look (e1 z) i with
  | none => rfl
  | some c => exact absurd (hK1 z ▸ mem_of_look (by rw [hq]; simp)) (disjN_spec c3 i (mem_of_look hi))
 have hdis2 : ∀ i, look Hr i ≠ none → ∀ z, look (e2 z) i = none := fun i hi z => by
  cases hq : look (e2 z) i with
  | none => rfl
  | some c => exact absurd (hK2 z ▸ mem_of_look (by rw [hq]; simp)) (disjN_spec c4 i (mem_of_look hi))
 have hSb1 : ∀ i ∈ Sb, ∀ z, look (e1 z) i ≠ none := fun i hi z => look_of_mem (by rw [hK1]; exact subN_spec c1 i hi)
 have hSb2 : ∀ i ∈ Sb, ∀ z, look (e2 z) i ≠ none := fun i hi z => look_of_mem (by rw [hK2]; exact subN_spec c2 i hi)
 have hnst : ∀ z, notStay Sb (e1 z) = D := fun z => by rw [notStay, hK1, hD]
 -- the iterator's value
 obtain ⟨gv, hg1, hg2⟩ := hs.slot g _ hg
 simp only [Rep, RepL] at hg2
 obtain ⟨_, lb, rfl, rfl, hlb⟩ := hg2
 have hev : a.eval (.tmp g) = .func (.func gf) #[] lb.toArray := by simp [Act.eval, Array.getD_eq_getD_getElem?, hg1]
 -- the two blocks
 obtain ⟨rec, hrec⟩ : ∃ rec : LoopState → Option Code → Loop, rec = fun st pe => { state := st, pending := pe, fn := f, tmps := a.tmps, params := ps, assign := asg, body, defers := w.heap.size } := ⟨_, rfl⟩
 obtain ⟨W1, hW1⟩ : ∃ W1, (w.alloc (.deferred (some []))).alloc (.loop (rec .ready none)) = W1 := ⟨_, rfl⟩
 have hsz1 : W1.heap.size = w.heap.size + 2 := by rw [← hW1]; simp
 have hw1 : ∀ b, b < w.heap.size → W1.heap[b]? = w.heap[b]? := fun b hb => by
  rw [← hW1]; exact (Below.heap_alloc _ _ _ (by simp; omega)).trans (Below.heap_alloc _ _ _ hb)
 have hL1 : W1.heap[w.heap.size + 1]? = some (.loop (rec .ready none)) := by
  rw [← hW1]; have := World.alloc_heap_new (w.alloc (.deferred (some []))) (.loop (rec .ready none)); rwa [World.size_alloc] at this
 have hD1 : W1.heap[w.heap.size]? = some (.deferred (some [])) := by
  rw [← hW1]; exact (Below.heap_alloc _ _ _ (by simp)).trans (World.alloc_heap_new w _)
 obtain ⟨Γ1, ⟨p1, p2, p3, p4, p5, p6, p7, p8, p9, p10⟩, hs1⟩ := hs.restart (w' := W1) (by omega) (fun b hb => .inl (hw1 b hb)) (S ++ rdi) none []
 have hnl : ∀ b, w.heap.size ≤ b → ¬ Γ1.lent b := fun b hb ho => by rw [p5] at ho; have := (hs.ownb b ho).1; omega
 have hXl : ∀ g b, w.heap.size ≤ b → b < w.heap.size + 2 → Γ1.X g b := fun g b h1 h2 => p10 g b h1 (by omega)
 have ready : ∀ {σ' : St} {β' : Nat → Real} {a' : Act} {W : World}, SimB Γ1 σ' β' a' W → W.heap[w.heap.size + 1]? = some (.loop (rec .ready none)) := fun h => by
  have := h.keeps.block (w.heap.size + 1) (by rw [p4]; omega) (hnl _ (by omega))
  rw [this, p4]; exact hL1
 have hlb1 : RepL W1 (okOf Γ1.X (stL L (Hr ++ e1 z0)) β W1) caps β lb := by
  obtain ⟨gv', k1, k2⟩ := hs1.slot g _ hg
  have : gv' = .func (.func gf) #[] lb.toArray := by
   have k1' : a.tmps[g]? = some gv' := k1
   rw [hg1] at k1'; injection k1' with k1'; exact k1'.symm
  subst this
  simp only [Rep, RepL] at k2
  obtain ⟨_, lb', _, _, k2⟩ := k2
  simp_all
 obtain ⟨vals, hiter, hvl, hpar⟩ := hit Γ1 β _ W1 (p1.trans g1) hs1 lb hlb1
 let J : Nat → World → Prop := fun k W => ∃ z β', I k z ∧ rng bd (n - k) k z = rng bd n 0 z0 ∧ SimB Γ1 (stL L (Hr ++ e1 z)) β' ⟨a.tmps, []⟩ W ∧ ∀ b, RB rdi β b → W.heap[b]? = W1.heap[b]?
 let Jx : Nat → World → Prop := fun _ W => ∃ d β' Wr, rng bd n 0 z0 = .inr d ∧ SimB Γ1 (stL L (Hr ++ e2 d)) β' ⟨a.tmps, []⟩ Wr ∧ W = Wr.putObj (w.heap.size + 1) (.loop (rec .done (some .ret)))
 have hrdi : ∀ {σ' : St} {β' : Nat → Real} {a' : Act} {W : World}, SimB Γ1 σ' β' a' W → ∀ i ∈ rdi, β' i = β i := fun h i hi => by
  have := h.stab i (by rw [p3]; simp [hi]); rw [this, p6]
 -- a round
 have hround : ∀ k W, k < n → J k W → YieldAt Fence.wide 0 E.P (w.heap.size + 1) (vals k).toArray W fun e W' => (e = .returned (.bool true) ∧ J (k + 1) W') ∨ (e = .returned (.bool false) ∧ Jx (k + 1) W') := by
  rintro k W hkn ⟨z, β', hIz, hrz, hsz, hrb⟩
  have hl := ready hsz
  refine ⟨f, _, asg, body, by have := run_yield (P := E.P) (args := (vals k).toArray) hl (by rw [hrec]; simp [hvl]); rw [this, hrec], trivial, fun c cs' _ => ?_⟩
  obtain ⟨bf, hbf'⟩ : ∃ bf : Frame, bf = { (default : Frame) with fn := f, kind := .normal, roundOf := some (w.heap.size + 1) } := ⟨_, rfl⟩
  have hfr : ∀ tmps : Array Value, Frame.round (w.heap.size + 1) f tmps asg body .normal = bf.atR ⟨tmps, []⟩ [.code asg, .beginRound, .code body] := fun tmps => by
   simp [Frame.round, Frame.atR, hbf']
  rw [hfr]
  -- the slots
  have hsize : a.tmps.size = N := hsz.size.trans (p2.trans g2)
  have hrs : RepS W (okOf Γ1.X (stL L (Hr ++ e1 z)) β' W) β' L a.tmps := fun t x e => hsz.slot t x e
  have hpk := hpar k hkn z Γ1 β' _ W hsz (hrdi hsz) hrb
  have hpar1 := hrs.par (ps := ps.toList) hpk (fun p hp => by have := (List.all_eq_true.1 hps) p hp; rw [hsize]; simpa [Nat.blt_eq] using this) (by rw [hvl]; simp)
  rw [show (ps.zip (vals k).toArray).foldl (fun tmps x => tmps.setIfInBounds x.1 x.2) a.tmps = (ps.toList.zip (vals k)).foldl (fun t x => t.setIfInBounds x.1 x.2) a.tmps from by rw [zipfold]]
  generalize (ps.toList.zip (vals k)).foldl (fun t x => t.setIfInBounds x.1 x.2) a.tmps = tm1 at hpar1
  obtain ⟨Wq, tm2, hkq, hA0, hsz2, stA⟩ := has Γ1 _ β' _ W _ tm1 bf (c :: cs') [.beginRound, .code body] (p1.trans g1) hsz hpar1.1 (by rw [hpar1.2, hsize]) (hG k hkn)
  have hA := hA0.sel (N := N) (ns := ns) hsz2
  have hszq := hsz.grow hkq
  have hlq := ready hszq
  have hrbq : ∀ b, RB rdi β b → Wq.heap[b]? = W1.heap[b]? := fun b hRB => by
   obtain ⟨i, hi, o, E', hio⟩ := hRB
   have hib : β' i = .real b o E' := (hrdi hsz i hi).trans hio
   have hir : look Hr i ≠ none := look_of_mem (subN_spec c6 i hi)
   obtain ⟨ci, hci⟩ : ∃ ci, look Hr i = some ci := by cases hq : look Hr i with | none => exact absurd hq hir | some c => exact ⟨c, rfl⟩
   have hih : (stL L (Hr ++ e1 z)).h i = some ci := by show look (Hr ++ e1 z) i = _; rw [look_app, hci]
   exact (hkq.block b (hsz.ownb b ⟨i, ci, o, E', hih, hib⟩).1 (by simp)).trans (hrb b ⟨i, hi, o, E', hio⟩)
  -- the body's own context
  have hcf := call_frame (R := .leaf (.bool (rdB (bd k z)))) (H := e1 z) (H' := rdH e1 e2 (bd k z)) (S := Sb) (M := []) (p1.trans g1) hszq hA (snapL_nil _ _) (snapOkL_nil _ _)
   (fun i cs e => by
    show look (Hr ++ e1 z) i = some cs
    rw [look_app]
    cases hq : look Hr i with
    | none => exact e
    | some d => exact absurd e (by rw [hdis1 i (by rw [hq]; simp)]; simp))
   (fun i cs e j hj => look_of_mem (by rw [hK1]; exact closedL_ok (hcl z) i cs e j hj))
   (fun i hi => look_of_mem (by rw [hK1]; exact subN_spec (hAi k) i hi))
   (by simp) (.inl rfl) (by cases bd k z with | inl z => exact hon1 z | inr d => exact hon2 d)
   (fun i hi => ⟨hSb1 i hi z, by cases bd k z with | inl z => exact hSb1 i hi z | inr d => exact hSb2 i hi d⟩) (by simp)
   (fun p hp hpS => by
    have hpK : p.1 ∈ K1 ∨ p.1 ∈ K2 := by
     cases hq : bd k z with
     | inl z' => rw [hq] at hp; simp only [rdH] at hp; exact .inl (hK1 z' ▸ List.mem_map_of_mem hp)
     | inr d => rw [hq] at hp; simp only [rdH] at hp; exact .inr (hK2 d ▸ List.mem_map_of_mem hp)
    have hq := (c5' p.1 hpK).resolve_left hpS
    refine ⟨by rw [p3]; simp [hq.1, hq.2], fun hnm => ?_⟩
    show look (Hr ++ e1 z) p.1 = none
    have hn1 : p.1 ∉ K1 := fun h => hnm (by simp only [List.append_nil]; rw [hK1]; exact h)
    rw [look_app]
    cases hr : look Hr p.1 with
    | some d =>
     exfalso
     rcases hpK with h | h
     ·exact hn1 h
     ·exact disjN_spec c4 p.1 (mem_of_look (by rw [hr]; simp)) h
    | none => exact look_none (by rw [hK1]; exact hn1))
  obtain ⟨Γc, ⟨k1, k2, k3, k4, k5, k6, k7, k8, k9, k10⟩, hsc, hfin⟩ := hcf
  have hnoc : ∀ b, Γ1.X .shr b → ¬ own ⟨fun t => (selL N ns (F (parL ps.toList (tp k) L)))[t]?, look (e1 z)⟩ β' b := fun b hX ⟨id, cs, o, E', e3, e4⟩ =>
   (hszq.noX hX).2 ⟨id, cs, o, E', by
    show look (Hr ++ e1 z) id = some cs
    rw [look_app]
    cases hq : look Hr id with
    | none => exact e3
    | some d => exact absurd e3 (by show ¬ look (e1 z) id = some cs; rw [hdis1 id (by rw [hq]; simp)]; simp), e4⟩
  have hlW : w.heap.size + 1 < Wq.heap.size := (Array.getElem?_eq_some_iff.1 hlq).1
  obtain ⟨Wb, hWb⟩ : ∃ Wb, Wq.putObj (w.heap.size + 1) (.loop { rec .ready none with state := .busy }) = Wb := ⟨_, rfl⟩
  have hbeg : (Instr.beginRound (w.heap.size + 1)).run E.P Wq = .ok () Wb := by rw [← hWb]; exact run_beginRound hlq (by rw [hrec])
  have hWbo : ∀ b, b ≠ w.heap.size + 1 → Wb.heap[b]? = Wq.heap[b]? := fun b hb => by rw [← hWb]; exact World.putObj_heap_other hb
  have hWbl : Wb.heap[w.heap.size + 1]? = some (.loop { rec .ready none with state := .busy }) := by rw [← hWb]; exact World.putObj_heap_same hlW
  have hWbs : Wb.heap.size = Wq.heap.size := by rw [← hWb]; simp
  have hXc : ∀ g, Γc.X g (w.heap.size + 1) := fun g => k10 g _ (hXl g _ (by omega) (by omega)) hlW (hnoc _ (hXl .shr _ (by omega) (by omega)))
  obtain ⟨Γr, ⟨r1, r2, r3, r4, r5, r6, r7, r8, r9, r10⟩, hsr⟩ := hsc.restart (w' := Wb) (by omega) (fun b hb => by
   by_cases e : b = w.heap.size + 1
   ·subst e; exact .inr ⟨hXc, hsc.notKnown hlq (by simp)⟩
   ·exact .inl (hWbo b e)) Sb (some (w.heap.size + 1)) []
  have hrm := hb k z hkn hIz Γr β' tm2.toList (w.heap.size + 1) (r1.trans k1) r3 (r2.trans k3) k4 r7 r8 (by rw [r4]; exact hsr) (c :: cs') bf (by rw [hbf']) (by rw [hbf']) (by rw [hbf'])
  obtain ⟨a', W3, kk, ⟨β3, hs3⟩, hst, hend⟩ := hrm
  rw [r4] at hst
  have hst : Steps E.P (lone (bf.atR ⟨tm2, []⟩ [.code body]) (c :: cs') Wb) (lone (bf.atR a' kk) (c :: cs') W3) := by simpa using hst
  have hk3 : Keeps Γr.lent Γr.w0 W3 := hs3.keeps
  have hsz3 : Wq.heap.size ≤ W3.heap.size := by have := hk3.size; rw [r4, hWbs] at this; exact this
  have hkeep3 : ∀ b, b < Wq.heap.size → ¬ own ⟨fun t => (selL N ns (F (parL ps.toList (tp k) L)))[t]?, look (e1 z)⟩ β' b → W3.heap[b]? = Wb.heap[b]? := fun b hb ho => by
   have := hk3.block b (by rw [r4, hWbs]; exact hb) (by rw [r5]; exact ho)
   rw [this, r4]
  have hl3 : W3.heap[w.heap.size + 1]? = some (.loop { rec .ready none with state := .busy }) := (hkeep3 _ hlW (hnoc _ (hXl .shr _ (by omega) (by omega)))).trans hWbl
  have hl3s : w.heap.size + 1 < W3.heap.size := (Array.getElem?_eq_some_iff.1 hl3).1
  obtain ⟨W4, hW4⟩ : ∃ W4, W3.putObj (w.heap.size + 1) (.loop (rec .ready none)) = W4 := ⟨_, rfl⟩
  have hW4o : ∀ b, b ≠ w.heap.size + 1 → W4.heap[b]? = W3.heap[b]? := fun b hb => by rw [← hW4]; exact World.putObj_heap_other hb
  have hW4l : W4.heap[w.heap.size + 1]? = some (.loop (rec .ready none)) := by rw [← hW4]; exact World.putObj_heap_same hl3s
  have hW4s : W4.heap.size = W3.heap.size := by rw [← hW4]; simp
  have hkeep4 : ∀ b, b < Wq.heap.size → ¬ own ⟨fun t => (selL N ns (F (parL ps.toList (tp k) L)))[t]?, look (e1 z)⟩ β' b → W4.heap[b]? = Wq.heap[b]? := fun b hb ho => by
   by_cases e : b = w.heap.size + 1
   ·subst e; rw [hW4l, hlq]
   ·rw [hW4o b e, hkeep3 b hb ho, hWbo b e]
  have h4 : Sim { Γc with n := 1 } (retSt (.leaf (.bool (rdB (bd k z)))) (look (rdH e1 e2 (bd k z)))) ⟨#[.bool (rdB (bd k z))], []⟩ W4 := by
   refine ⟨β3, hs3.past (by omega) (fun b _ => ?_) ⟨?_, ?_, ?_, ?_, fun b hb ho => ?_⟩ (fun b ho => ?_) (fun g b hX => r9 g b hX) (fun i hi => ?_) rfl rfl k9.symm⟩
   ·by_cases e : b = w.heap.size + 1
    ·subst e; exact .inr fun g => r9 g _ (hXc g)
    ·exact .inl (hW4o b e)
   ·have := hk3.os; rw [r4] at this; rw [← hW4]; show W3.os = _; rw [this, ← hWb]; show Wq.os = Γc.w0.os; rw [k7]
   ·have := hk3.tape; rw [r4] at this; rw [← hW4]; show W3.tape = _; rw [this, ← hWb]; show Wq.tape = Γc.w0.tape; rw [k7]
   ·have := hk3.output; rw [r4] at this; rw [← hW4]; show W3.output = _; rw [this, ← hWb]; show Wq.output = Γc.w0.output; rw [k7]
   ·show Γc.w0.heap.size ≤ _; rw [k7, hW4s]; exact hsz3
   ·have hb' : b < Wq.heap.size := by have : b < Γc.w0.heap.size := hb; rwa [k7] at this
    show _ = Γc.w0.heap[b]?
    rw [k7]; exact hkeep4 b hb' (by rw [← k6]; exact ho)
   ·have := (hs3.ownb b ho).2
    show Γc.w0.heap.size ≤ b ∨ Γc.lent b
    rw [k7, k6]
    rcases this with h | h
    ·left; have h : Γr.w0.heap.size ≤ b := h; rw [r4, hWbs] at h; exact h
    ·right; have h : Γr.lent b := h; rw [r5] at h; exact h
   ·have hi' : i ∈ Sb := by have : i ∈ Γc.S := hi; rwa [k2] at this
    have := hs3.stab i (by show i ∈ Γr.S; rw [r3]; exact hi')
    show _ = Γc.β0 i
    rw [this]; show Γr.β0 i = _; rw [r6, k5]
  obtain ⟨β4, hs4, _, _⟩ := hfin _ _ h4
  have hrb4 : ∀ b, RB rdi β b → W4.heap[b]? = W1.heap[b]? := fun b hRB => by
   obtain ⟨i, hi, o, E', hio⟩ := hRB
   have hib : β' i = .real b o E' := (hrdi hszq i hi).trans hio
   have hir : look Hr i ≠ none := look_of_mem (subN_spec c6 i hi)
   obtain ⟨ci, hci⟩ : ∃ ci, look Hr i = some ci := by cases hq : look Hr i with | none => exact absurd hq hir | some c => exact ⟨c, rfl⟩
   have hih : (stL L (Hr ++ e1 z)).h i = some ci := by show look (Hr ++ e1 z) i = _; rw [look_app, hci]
   have hbl : b < Wq.heap.size := (hszq.ownb b ⟨i, ci, o, E', hih, hib⟩).1
   rw [hkeep4 b hbl ?_]
   ·exact hrbq b ⟨i, hi, o, E', hio⟩
   ·rintro ⟨j, cj, o2, E2, e3, e4⟩
    have e3' : look (e1 z) j = some cj := e3
    have hjh : (stL L (Hr ++ e1 z)).h j = some cj := by
     show look (Hr ++ e1 z) j = _
     rw [look_app]
     cases hq : look Hr j with
     | none => exact e3'
     | some d => exact absurd e3' (by rw [hdis1 j (by rw [hq]; simp)]; simp)
    have := hszq.inj i j ci cj b o E' o2 E2 hih hjh hib e4
    subst this
    rw [hdis1 i hir] at e3'; cases e3'
  have hpre : Steps E.P (lone (bf.atR ⟨tm1, []⟩ [.code asg, .beginRound, .code body]) (c :: cs') W) (lone (bf.atR a' kk) (c :: cs') W3) :=
   stA.trans (.head (stepR_beginRound (by rw [hbf']) hbeg) hst)
  have hstate : ∀ H2 : List (Nat × List T), (∀ i, look Hr i ≠ none → look H2 i = none) → (∀ i ∈ Sb, look H2 i ≠ none) → once H2 = true → ((stL L (Hr ++ e1 z)).drops (notStay Sb (e1 z))).puts H2 = stL L (Hr ++ H2) := fun H2 q1 q2 q3 =>
   stL_round (hnst z) hL hH (fun i hi => ⟨hdis1 i hi z, q1 i hi⟩) q2 q3
  have hrng : rng bd (n - k) k z = (match bd k z with | .inl z' => rng bd (n - (k + 1)) (k + 1) z' | .inr d => .inr d) := by
   rw [show n - k = (n - (k + 1)) + 1 by omega, rng]
   all_goals (cases bd k z <;> rfl)
  rw [hrng] at hrz
  cases hq : bd k z with
  | inl z' =>
   rw [hq] at hs4 hrz; simp only [rdB, rdH] at hs4
   simp only [hq, rdB] at hend
   obtain ⟨_, rfl⟩ := hend.resolve_right (by simp)
   rw [hstate (e1 z') (fun i hi => hdis1 i hi z') (fun i hi => hSb1 i hi z') (hon1 z')] at hs4
   have hrun := run_endRound (P := E.P) none hl3
   have hend2 : (Instr.endRound (w.heap.size + 1) none).run E.P W3 = .ok (.bool true) W4 := by
    rw [hrun, ← hW4, hrec]; rfl
   refine ⟨.returned (.bool true), W4, .inl ⟨rfl, z', β4, hI k z z' hkn hIz hq, hrz, hs4, hrb4⟩, stepsIn_wide.2 (hpre.trans (.one (stepR_round_end (by rw [hbf']) (by rw [hbf']) hend2)))⟩
  | inr d =>
   rw [hq] at hs4 hrz; simp only [rdB, rdH] at hs4
   simp only [hq, rdB] at hend
   obtain ⟨_, kk', rfl⟩ := hend.resolve_left (by simp)
   rw [hstate (e2 d) (fun i hi => hdis2 i hi d) (fun i hi => hSb2 i hi d) (hon2 d)] at hs4
   have hrun := run_endRound (P := E.P) (some .ret) hl3
   have hend2 : (Instr.endRound (w.heap.size + 1) (some .ret)).run E.P W3 = .ok (.bool false) (W4.putObj (w.heap.size + 1) (.loop (rec .done (some .ret)))) := by
    rw [hrun, ← hW4, putObj_twice, hrec]; rfl
   refine ⟨.returned (.bool false), _, .inr ⟨rfl, d, β4, W4, hrz.symm, hs4, rfl⟩, stepsIn_wide.2 (hpre.trans (.one (stepR_round_ret (by rw [hbf']) (by rw [hbf']) hend2)))⟩
 -- the iterator's call
 have hcall := hiter (w.heap.size + 1) J Jx W1 (fun k W ⟨z, β', _, _, _, h⟩ => h) (fun k W ⟨z, β', q1, q2, q3, q4⟩ => ⟨z, β', q1, q2, q3.grow (Keeps.drew _ W), q4⟩)
  (fun k W ⟨d, β', Wr, q1, q2, q3⟩ => ⟨d, β', Wr.drew, q1, q2.grow (Keeps.drew _ Wr), by rw [q3]; rfl⟩) ⟨z0, β, h0, by simp, hs1, fun _ _ => rfl⟩ hround
 obtain ⟨e, W', fr, ⟨⟨v, rfl⟩, hR⟩, hsteps, hfn, hleave⟩ := (callsIn_wide.1 hcall) (b.atR { a with defers := [{ target := .collected w.heap.size, args := #[] }] ++ a.defers } (.inRangeFunc (w.heap.size + 1) :: rest) :: cs)
 have hsteps : Steps E.P _ _ := hsteps
 have henter := stepR_rangeFunc (P := E.P) (b := b) (a := a) (k := rest) (cs := cs) (w := w) (g := .tmp g) (ps := ps) (assign := asg) (body := body) (l := w.heap.size + 1) (mark := [{ target := .collected w.heap.size, args := #[] }]) (w₁ := W1) (w₁' := W1) (w₂ := W1)
  (d := { target := .fn (.func gf) lb.toArray, args := #[.func (.yield (w.heap.size + 1)) #[] #[]] }) (f := gf) (args := #[.func (.yield (w.heap.size + 1)) #[] #[]] ++ lb.toArray)
  (by rw [← hW1, hrec, hro', hbf]; exact run_enterLoop_outer _ _ _ _ _)
  (by simp only [resolve, hev]; simp [go_sem])
  (by simp [invoke, go_sem, heg])
 have hback : ∀ {jump W2}, (Instr.endLoop (w.heap.size + 1)).run E.P W' = .ok jump W2 → Steps E.P (lone (b.atR a (.code (.rangeFunc (.tmp g) ps asg body) :: rest)) cs w) (lone (b.atR { a with defers := [{ target := .collected w.heap.size, args := #[] }] ++ a.defers } ((jump.map Item.code).toList ++ rest)) cs W2) := fun hend => by
  refine .head henter (hsteps.trans (.head ?_ (.one (stepR_endRangeFunc hend))))
  rw [← finish_atR_inRangeFunc (w.heap.size + 1) v]; exact step_leave_returned hleave
 -- what comes behind
 have fin : ∀ (Hx : List (Nat × List T)) (β' : Nat → Real) (Wr W2 : World) (k' : List Item) (x : α), SimB Γ1 (stL L (Hr ++ Hx)) β' ⟨a.tmps, []⟩ Wr → (∀ b, b ≠ w.heap.size + 1 → W2.heap[b]? = Wr.heap[b]?) → W2.heap.size = Wr.heap.size → W2.os = Wr.os → W2.tape = Wr.tape → W2.output = Wr.output →
   (∀ Γ' : Cx, Γ'.rd = none → Go E Γ' f N S (PostX Γ' enc x) k' (stL L (Hr ++ Hx))) →
   ∃ v w' fr, PostX Γ enc x v w' ∧ Steps E.P (lone (b.atR { a with defers := [{ target := .collected w.heap.size, args := #[] }] ++ a.defers } k') cs W2) (lone fr cs w') ∧ fr.fn = f ∧ Ends E.P Γ.rd Γ.ds fr w' v := by
  intro Hx β' Wr W2 k' x hsx ho hsz2 e1' e2' e3' hgo
  have hlr := ready hsx
  have hlrs : w.heap.size + 1 < Wr.heap.size := (Array.getElem?_eq_some_iff.1 hlr).1
  obtain ⟨Γ2, ⟨r1, r2, r3, r4, r5, r6, r7, r8, r9, r10⟩, hs2⟩ := hsx.restart (w' := W2) (by omega) (fun b hb => by
   by_cases e : b = w.heap.size + 1
   ·subst e; exact .inr ⟨fun g => hXl g _ (by omega) (by omega), hsx.notKnown hlr (by simp)⟩
   ·exact .inl (ho b e)) S none ([{ target := .collected w.heap.size, args := #[] }] ++ Γ.ds)
  have hkW2 : Keeps Γ.lent Γ.w0 W2 := by
   have ka := hs.keeps
   have kb := hsx.keeps
   rw [p4] at kb
   refine ⟨?_, ?_, ?_, by have := ka.size; have := kb.size; omega, fun c hc hnl' => ?_⟩
   ·rw [e1', kb.os, ← hW1]; exact ka.os
   ·rw [e2', kb.tape, ← hW1]; exact ka.tape
   ·rw [e3', kb.output, ← hW1]; exact ka.output
   ·have hcw : c < w.heap.size := Nat.lt_of_lt_of_le hc ka.size
    rw [ho c (by omega), kb.block c (by omega) ?_, hw1 c hcw]
    ·exact ka.block c hc hnl'
    ·rw [p5]; intro ho'
     rcases (hs.ownb c ho').2 with h | h
     ·omega
     ·exact hnl' h
  obtain ⟨v, w2, fr, hp, st, hf2, hends⟩ := hgo Γ2 r7 (r1.trans (p1.trans g1)) (r2.trans (p2.trans g2)) r3 { a with defers := [{ target := .collected w.heap.size, args := #[] }] ++ a.defers } W2 ⟨β', by rw [show a.defers = Γ.ds from hs.defers]; exact hs2⟩ cs b hbf ⟨hkd, hro'.trans r7.symm⟩
  rw [r7, r8] at hends
  obtain ⟨m1, m2, m3, fn, m4, m5⟩ := hends
  obtain ⟨β2, hp2⟩ := hp r7
  have hkp := hp2.keeps
  have hDx : w2.heap[w.heap.size]? = some (.deferred (some [])) := by
   have hnoD : ¬ own (stL L (Hr ++ Hx)) β' w.heap.size := (hsx.noX (hXl .shr _ (Nat.le_refl _) (by omega))).2
   have q1 := hkp.block w.heap.size (by show _ < Γ2.w0.heap.size; rw [r4]; omega) (by show ¬ Γ2.lent _; rw [r5]; exact hnoD)
   rw [q1]; show Γ2.w0.heap[_]? = _
   rw [r4, ho _ (by omega)]
   have q2 := hsx.keeps.block w.heap.size (by rw [p4]; omega) (hnl _ (Nat.le_refl _))
   rw [q2, p4]; exact hD1
  have hDs : w.heap.size < w2.heap.size := (Array.getElem?_eq_some_iff.1 hDx).1
  have stc := step_collected (cs := cs) (fr := fr) (d := { target := .collected w.heap.size, args := #[] }) (ds := Γ.ds) (r := w.heap.size) (calls := []) (by rw [m1]; simp) (by simpa using m2) rfl (run_takeDeferred (P := E.P) hDx)
  refine ⟨v, w2.putObj w.heap.size (.deferred none), { fr with defers := [] ++ Γ.ds }, fun _ => ⟨β2, hp2.past (by simp) (fun c _ => ?_) ⟨?_, ?_, ?_, ?_, fun c hc hnl' => ?_⟩ (fun c ho' => ?_) (fun g c hX => r9 g c (p9 g c hX)) (fun i hi => ?_) rfl rfl rfl⟩, st.trans (.one stc), hf2, ?_⟩
  ·by_cases e : c = w.heap.size
   ·subst e; exact .inr fun g => r9 g _ (hXl g _ (Nat.le_refl _) (by omega))
   ·exact .inl (World.putObj_heap_other e)
  ·show w2.os = _; rw [hkp.os]; show Γ2.w0.os = _; rw [r4]; exact hkW2.os
  ·show w2.tape = _; rw [hkp.tape]; show Γ2.w0.tape = _; rw [r4]; exact hkW2.tape
  ·show w2.output = _; rw [hkp.output]; show Γ2.w0.output = _; rw [r4]; exact hkW2.output
  ·have a1 : Γ2.w0.heap.size ≤ w2.heap.size := hkp.size
   have a2 := hkW2.size
   rw [r4] at a1
   show Γ.w0.heap.size ≤ _; simp; omega
  ·have hc' : c < Γ.w0.heap.size := hc
   have hcw : c < w.heap.size := Nat.lt_of_lt_of_le hc' hs.keeps.size
   have hnl2 : ¬ Γ.lent c := hnl'
   have hcn : ¬ Γ2.lent c := fun h => by
    rw [r5] at h
    rcases (hsx.ownb c h).2 with h | h
    ·rw [p4, hsz1] at h; omega
    ·rw [p5] at h
     rcases (hs.ownb c h).2 with h | h
     ·omega
     ·exact hnl2 h
   show (w2.putObj _ _).heap[c]? = Γ.w0.heap[c]?
   rw [World.putObj_heap_other (by omega)]
   have a1 := hkp.block c (by show c < Γ2.w0.heap.size; rw [r4]; have := hkW2.size; omega) hcn
   rw [a1]; show Γ2.w0.heap[c]? = _
   rw [r4]; exact hkW2.block c hc' hnl2
  ·show Γ.w0.heap.size ≤ c ∨ Γ.lent c
   rcases (hp2.ownb c ho').2 with h | h
   ·left; have h : Γ2.w0.heap.size ≤ c := h; rw [r4] at h; exact Nat.le_trans hkW2.size h
   ·have h : Γ2.lent c := h
    rw [r5] at h
    rcases (hsx.ownb c h).2 with h | h
    ·left; rw [p4, hsz1] at h; have := hs.keeps.size; omega
    ·rw [p5] at h; exact (hs.ownb c h).2
  ·have hiS : i ∈ Γ.S := hi
   rw [g3] at hiS
   have a1 := hp2.stab i (by show i ∈ Γ2.S; rw [r3]; exact hiS)
   show _ = Γ.β0 i
   rw [a1]; show Γ2.β0 i = _
   rw [r6, hsx.stab i (by rw [p3]; simp [hiS]), p6]
   exact hs.stab i hi
  ·rw [hrd]
   refine ⟨m1, by simp, m3, fn, m4, fun w3 h3 => m5 w3 fun c cc ee ff hcc => ?_⟩
   have hne : c ≠ w.heap.size := fun e => by subst e; rw [hDx] at hcc; cases hcc
   have := h3 c cc ee ff (by rw [World.putObj_heap_other hne]; exact hcc)
   rw [this, World.putObj_heap_other hne]
 rcases hR with ⟨z, β', q1, q2, q3, _⟩ | ⟨kk, _, d, β', Wr, q1, q2, q3⟩
 ·rw [Nat.sub_self, rng] at q2
  rw [← q2, rngE]
  have hl := ready q3
  have hend := run_endLoop (P := E.P) hl (by rw [hrec]; simp)
  have hbk := hback hend
  rw [show ((rec .ready none).pending.map Item.code).toList ++ rest = rest from by rw [hrec]; rfl] at hbk
  obtain ⟨v2, w2, fr2, t1, t2, t3, t4⟩ := fin (e1 z) β' W' (W'.putObj (w.heap.size + 1) (.loop { rec .ready none with state := .exhausted })) rest (X1 z) q3 (fun b hb => World.putObj_heap_other hb) (by simp) rfl rfl rfl (fun Γ' hr => h1 z q1 Γ' _ hr rfl)
  exact ⟨v2, w2, fr2, t1, Steps.trans hbk t2, t3, t4⟩
 ·rw [q1, rngE]
  have hl := ready q2
  have hls : w.heap.size + 1 < Wr.heap.size := (Array.getElem?_eq_some_iff.1 hl).1
  subst q3
  have hl' : (Wr.putObj (w.heap.size + 1) (.loop (rec .done (some .ret)))).heap[w.heap.size + 1]? = some (.loop (rec .done (some .ret))) := World.putObj_heap_same hls
  have hend := run_endLoop (P := E.P) hl' (by rw [hrec]; simp)
  rw [putObj_twice] at hend
  have hbk := hback hend
  rw [show ((rec .done (some .ret)).pending.map Item.code).toList ++ rest = .code .ret :: rest from by rw [hrec]; rfl] at hbk
  obtain ⟨v2, w2, fr2, t1, t2, t3, t4⟩ := fin (e2 d) β' Wr (Wr.putObj (w.heap.size + 1) (.loop { rec .done (some .ret) with state := .exhausted })) (.code .ret :: rest) (X2 d) q2 (fun b hb => World.putObj_heap_other hb) (by simp) rfl rfl rfl (fun Γ' hr => h2 d q1 Γ' _ hr rfl)
  exact ⟨v2, w2, fr2, t1, Steps.trans hbk t2, t3, t4⟩
set_option maxHeartbeats 4000000 in
theorem Go.range (m : Nat) (bd : Nat → γ → γ ⊕ δ) (e1 : γ → List (Nat × List T)) (e2 : δ → List (Nat × List T)) (I : Nat → γ → Prop) (n : Nat) (tp : Nat → List T) (ns Sb rdi D K1 K2 : List Nat) (X1 : γ → α) (X2 : δ → α)
  (hrd : Γ.rd = none) (hk : k = k0) (he : normI m k0 = .code (.rangeFunc (.tmp g) ps asg body) :: rest)
  (hg : look L g = some (.fn (.func gf) [] caps)) (heg : ∀ args w, (callFunc gf args).run E.P w = .ok (.enter gf args) w) (has : asgOf asg = some mv)
  (hps : ps.toList.all (fun p => Nat.blt p N) = true) (hmv : mv.all (fun p => Nat.blt p.1 N) = true)
  (hit : ∀ (Γ' : Cx) (β' : Nat → Real) (a' : Act) (W : World), Γ'.P = E.P → SimB Γ' (stL L (Hr ++ e1 z0)) β' a' W → ∀ lb : List Value, RepL W (okOf Γ'.X (stL L (Hr ++ e1 z0)) β' W) caps β' lb →
   ∃ vals : Nat → List Value, IterOk E.P gf lb.toArray n (fun k => (vals k).toArray) (fun W' => ∀ b, RB rdi β' b → W'.heap[b]? = W.heap[b]?) ∧ (∀ k, (vals k).length = ps.size) ∧
    ∀ k, k < n → ∀ (z : γ) (Γ2 : Cx) (β2 : Nat → Real) (a2 : Act) (W2 : World), SimB Γ2 (stL L (Hr ++ e1 z)) β2 a2 W2 → (∀ i ∈ rdi, β2 i = β' i) → (∀ b, RB rdi β' b → W2.heap[b]? = W.heap[b]?) →
     RepL W2 (okOf Γ2.X (stL L (Hr ++ e1 z)) β2 W2) (tp k) β2 (vals k))
  (hK1 : ∀ z, (e1 z).map (·.1) = K1) (hK2 : ∀ d, (e2 d).map (·.1) = K2) (hD : K1.filter (fun i => !Sb.contains i) = D) (hchk : chkK S Sb rdi K1 K2 (Hr.map (·.1)) = true)
  (hon1 : ∀ z, once (e1 z) = true) (hon2 : ∀ d, once (e2 d) = true) (hL : AllP (offL D L)) (hH : AllP (offH D Hr)) (hcl : ∀ z, AllP (closedL K1 (e1 z)))
  (hAi : ∀ k, subN (idsL (selL N ns (mvL mv (parL ps.toList (tp k) L)))) K1 = true) (h0 : I 0 z0)
  (hb : ∀ k z, k < n → I k z → RoundM E.P f body (selL N ns (mvL mv (parL ps.toList (tp k) L))) (e1 z) Sb (rdB (bd k z)) (rdH e1 e2 (bd k z)))
  (hI : ∀ k z z', k < n → I k z → bd k z = .inl z' → I (k + 1) z')
  (h1 : ∀ z, I n z → ∀ (Γ' : Cx) (k' : List Item), Γ'.rd = none → k' = rest → Go E Γ' f N S (PostX Γ' enc (X1 z)) k' (stL L (Hr ++ e1 z)))
  (h2 : ∀ d, rng bd n 0 z0 = .inr d → ∀ (Γ' : Cx) (k' : List Item), Γ'.rd = none → k' = .code .ret :: rest → Go E Γ' f N S (PostX Γ' enc (X2 d)) k' (stL L (Hr ++ e2 d))) :
  Go E Γ f N S (PostX Γ enc (rngE X1 X2 (rng bd n 0 z0))) k (stL L (Hr ++ e1 z0)) := 
 Go.rangeA m (mvL mv) (fun _ => True) bd e1 e2 I n tp ns Sb rdi D K1 K2 X1 X2 hrd hk he hg heg (asgOk_moves has hmv) hps (fun _ _ => True.intro) hit hK1 hK2 hD hchk hon1 hon2 hL hH hcl hAi h0 hb hI h1 h2
end
end Go.Vw
namespace Go.Vw
open Go Go.RowKit
theorem box_open {Γ : Cx} {σ : St} {β : Nat → Real} {a : Act} {w : World} (hs : SimB Γ σ β a w) {i : Nat} {t : T} {v : Value} (hi : σ.h i = some [t]) (hv : Rep w (okOf Γ.X σ β w) (.addr i 0) β v) :
  ∃ b o E' x, β i = .real b o E' ∧ v = .pointer (some ⟨b, o, none⟩) ∧ w.cell? ⟨b, o, none⟩ = some x ∧ Rep w (okOf Γ.X σ β w) t β x := by
 simp only [Rep] at hv
 cases hb : β i with
 | ph => rw [hb] at hv; exact hv.elim
 | real b o E' =>
  rw [hb] at hv
  obtain ⟨c, el, fr, vs, q1, q2, q3, q4, q5, q6⟩ := obj_open hs hi hb
  simp only [RepL] at q5
  obtain ⟨x, _, rfl, q5, rfl⟩ := q5
  exact ⟨b, o, E', x, rfl, by simpa using hv, by simpa using q6 0 x rfl, q5⟩
section
variable {γ δ α : Type} {E : Env} {Γ : Cx} {f : FuncId} {N : Nat} {S : List Nat} {k k0 rest : List Item} {enc : α → T × List (Nat × List T)} {L : List (Nat × T)} {Hr : List (Nat × List T)} {z0 : γ}
 {ps : Nat} {asg body : Code} {g : Nat} {gf : FuncId} {mv : List (Nat × Nat)}
end
end Go.Vw
namespace Go.Vw
open Go Go.RowKit
end Go.Vw
namespace Go.Vw
open Go Go.RowKit
end Go.Vw
namespace Go.Vw
open Go Go.RowKit
end Go.Vw
namespace Go.Vw
open Go Go.RowKit
section
variable {α : Type} {m : Nat} {g : α → List T}
end
theorem Go.objLe {E : Env} {Γ : Cx} {f : FuncId} {N : Nat} {S : List Nat} {Post : Value → World → Prop} {k : List Item} {L : List (Nat × T)} {H : List (Nat × List T)} (i : Nat) (cs cs' : List T) (hi : look H i = some cs) (h : LeC cs cs')
  (hg : Go E Γ f N S Post k (stL L (ins i cs' H))) : Go E Γ f N S Post k (stL L H) :=
 fun h1 h2 h3 a w ⟨β, hsb⟩ => hg h1 h2 h3 a w ⟨β, by have := hsb.objLeT (i := i) (cs := cs) (cs' := cs') hi h; simpa only [stL, look_ins] using this⟩
theorem Go.objEq {E : Env} {Γ : Cx} {f : FuncId} {N : Nat} {S : List Nat} {Post : Value → World → Prop} {k : List Item} {L : List (Nat × T)} {H : List (Nat × List T)} (i : Nat) (cs cs' : List T) (hi : look H i = some cs) (h : cs = cs')
  (hg : Go E Γ f N S Post k (stL L (ins i cs' H))) : Go E Γ f N S Post k (stL L H) :=
 Go.objLe i cs cs' hi (h ▸ ⟨fun _ _ _ _ r => r, fun _ q => q, rfl⟩) hg
theorem Go.cut {E : Env} {Γ : Cx} {f : FuncId} {N : Nat} {S : List Nat} {Post : Value → World → Prop} {k k0 rest : List Item} {σ : St} {c : Operand} {x y : Code} (n : Nat) (hk : k = k0) (_he : normI n k0 = .code (.cond c x y) :: rest) (h : ∀ kn, kn = normI 20 rest → Go E Γ f N S Post k σ) : Go E Γ f N S Post k σ := h _ rfl
theorem Go.jn {E : Env} {Γ : Cx} {f : FuncId} {N : Nat} {S : List Nat} {k : List Item} {σ : St} {α β : Type} {Pf : β → Value → World → Prop} {v : α} {F : α → β} (h : ∀ x, x = v → Go E Γ f N S (Pf (F x)) k σ) : Go E Γ f N S (Pf (Vw.bnd v F)) k σ := h v rfl
theorem Go.forgetX {E : Env} {Γ : Cx} {f : FuncId} {N : Nat} {S : List Nat} {Post : Value → World → Prop} {k : List Item} {L : List (Nat × T)} {H : List (Nat × List T)} (ps pg is : List Nat) (cds : List Prop) (L' : List (Nat × T)) (H' : List (Nat × List T))
  (hx : drpX ps pg is L H = (cds, L', H')) (hp : AllP cds) (hg : Go E Γ f N S Post k (stL L' H')) : Go E Γ f N S Post k (stL L H) := by
 refine Go.drops is ?_
 have e := drpX_eq (ps := ps) (pg := pg) is L H (by rw [hx]; exact hp)
 rw [hx] at e
 rw [e]; exact hg
end Go.Vw

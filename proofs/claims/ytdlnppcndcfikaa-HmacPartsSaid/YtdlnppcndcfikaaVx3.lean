/- Control, told along a pure text; what is given up to be shared; objects by other numbers. -/
import Derived.Test.YtdlnppcndcfikaaVx2
namespace Go.Vw
set_option linter.unusedVariables false
set_option linter.unusedSimpArgs false
open Go Go.RowKit

/-- The result of a pure text, told: its value, and the objects that are handed back. -/
def PostX {α : Type} (Γ : Cx) (enc : α → T × List (Nat × List T)) (x : α) : Value → World → Prop := PostR Γ (enc x).1 (enc x).2

section
variable {E : Env} {Γ : Cx} {f : FuncId} {N : Nat} {S : List Nat} {Post : Value → World → Prop} {k k0 rest : List Item} {σ : St}

/-- A test, and the pure text's. -/
theorem Go.br {α : Type} {Pf : α → Value → World → Prop} {A B : α} {e : Bool} {c : Operand} {x y : Code} (n : Nat) (hk : k = k0) (he : normI n k0 = .code (.cond c x y) :: rest) (hc : σ.ev c = some (.leaf (.bool e)))
    (H1 : e = true → ∀ k', k' = .code x :: rest → Go E Γ f N S (Pf A) k' σ) (H2 : e = false → ∀ k', k' = .code y :: rest → Go E Γ f N S (Pf B) k' σ) : Go E Γ f N S (Pf (_root_.cond e A B)) k σ := by
  cases e with
  | true => exact Go.cond n hk he hc (by simpa using H1 rfl)
  | false => exact Go.cond n hk he hc (by simpa using H2 rfl)

/-- The pure text parts where the walk does not. -/
theorem Go.split {α : Type} {Pf : α → Value → World → Prop} {A B : α} (e : Bool) (H1 : e = true → Go E Γ f N S (Pf A) k σ) (H2 : e = false → Go E Γ f N S (Pf B) k σ) : Go E Γ f N S (Pf (_root_.cond e A B)) k σ := by
  cases e with
  | true => exact H1 rfl
  | false => exact H2 rfl

theorem Go.eqPf {α : Type} {Pf : α → Value → World → Prop} {A B : α} (h : A = B) (H : Go E Γ f N S (Pf B) k σ) : Go E Γ f N S (Pf A) k σ := h ▸ H

/-! ### Results -/

def resX (E : Env) (σ : St) : List ResultVar → Option (List Prop × List T)
  | [] => some ([], [])
  | .tmp t :: rs =>
    match σ.s t, resX E σ rs with
    | some v, some (cs, us) => some (cs, v :: us)
    | _, _ => none
  | .cell a ty :: rs =>
    match (E.ti ty).k.isNo, σ.s a, resX E σ rs with
    | false, some (.addr id off), some (cs, us) =>
      match σ.h id with
      | some c =>
        match (E.ti ty).agg with
        | true => some ((off + (E.ti ty).size ≤ c.length) :: cs, .agg (sub c off (E.ti ty).size) :: us)
        | false => match c[off]? with | some v => some (cs, v :: us) | none => none
      | none => none
    | _, _, _ => none

theorem resX_ok {E : Env} {σ : St} : ∀ {rs : List ResultVar} {cs : List Prop} {vs : List T}, resX E σ rs = some (cs, vs) → AllP cs → resL E σ rs vs
  | [], cs, vs, h, _ => by simp only [resX, Option.some.injEq, Prod.mk.injEq] at h; simp [resL, h.2]
  | .tmp t :: rs, cs, vs, h, hc => by
    simp only [resX] at h
    split at h
    · rename_i v cs' us h1 h2
      simp only [Option.some.injEq, Prod.mk.injEq] at h
      obtain ⟨rfl, rfl⟩ := h
      exact ⟨v, us, rfl, h1, resX_ok h2 hc⟩
    · simp at h
  | .cell a ty :: rs, cs, vs, h, hc => by
    simp only [resX] at h
    split at h
    · rename_i id off cs' us h0 h1 h2
      have hne : (E.ti ty).k ≠ .no := by rintro e; rw [e] at h0; simp [K.isNo] at h0
      split at h
      · rename_i c hcell
        split at h
        · rename_i ha
          simp only [Option.some.injEq, Prod.mk.injEq] at h
          obtain ⟨rfl, rfl⟩ := h
          cases hc with
          | cons hp hc =>
            refine ⟨_, us, rfl, ⟨hne, _, h1, ?_⟩, resX_ok h2 hc⟩
            simp only [loadC]
            refine ⟨c, hcell, ?_⟩
            show partC _ _ _ _
            unfold partC
            rw [ha, condB_true]
            exact ⟨hp, _, rfl, rfl⟩
        · rename_i ha
          split at h
          · rename_i v hv
            simp only [Option.some.injEq, Prod.mk.injEq] at h
            obtain ⟨rfl, rfl⟩ := h
            refine ⟨v, us, rfl, ⟨hne, _, h1, ?_⟩, resX_ok h2 hc⟩
            simp only [loadC]
            refine ⟨c, hcell, ?_⟩
            show partC _ _ _ _
            unfold partC
            rw [ha, condB_false]
            exact ⟨v, hv, rfl⟩
          · simp at h
      · simp at h
    · simp at h

/-- Less is told of a value. -/
def T.Le (a b : T) : Prop := (∀ w ok β v, Rep w ok a β v → Rep w ok b β v) ∧ ∀ i ∈ b.ids, i ∈ a.ids

theorem T.Le.refl (a : T) : T.Le a a := ⟨fun _ _ _ _ h => h, fun _ h => h⟩
theorem T.Le.of_eq {a b : T} (h : a = b) : T.Le a b := h ▸ T.Le.refl a
theorem T.Le.nil (m : Nat) (g : Tag) : T.Le (.leaf (.slice none 0 0)) (.sl m g 0 []) :=
  ⟨fun w ok β v h => by simp only [Rep] at h ⊢; subst h; exact ⟨⟨by simp, by simp [idsL]⟩, none, 0, rfl, by omega, .inl trivial⟩, by simp [T.ids]⟩
theorem T.Le.e0 (m : Nat) (g : Tag) : T.Le .e0 (.sl m g 0 []) :=
  ⟨fun w ok β v h => by simp only [Rep] at h ⊢; obtain ⟨a, rfl⟩ := h; exact ⟨⟨by simp, by simp [idsL]⟩, a, 0, rfl, by omega, .inl trivial⟩, by simp [T.ids]⟩
theorem T.Le.trans {a b c : T} (h : T.Le a b) (k : T.Le b c) : T.Le a c := ⟨fun w ok β v r => k.1 w ok β v (h.1 w ok β v r), fun i hi => h.2 i (k.2 i hi)⟩

inductive LeL : List T → List T → Prop where
  | nil : LeL [] []
  | cons {a b : T} {as bs : List T} (h : T.Le a b) (t : LeL as bs) : LeL (a :: as) (b :: bs)

theorem LeL.rep {as bs : List T} (h : LeL as bs) : (∀ w ok β vs, RepL w ok as β vs → RepL w ok bs β vs) ∧ ∀ i ∈ idsL bs, i ∈ idsL as := by
  induction h with
  | nil => exact ⟨fun _ _ _ _ h => h, fun _ h => h⟩
  | cons h t ih =>
    refine ⟨fun w ok β vs r => ?_, fun i hi => ?_⟩
    · simp only [RepL] at r ⊢
      obtain ⟨v, us, rfl, r1, r2⟩ := r
      exact ⟨v, us, rfl, h.1 _ _ _ _ r1, ih.1 _ _ _ _ r2⟩
    · simp only [idsL, List.mem_append] at hi ⊢
      exact hi.imp (h.2 i) (ih.2 i)
theorem LeL.refl : ∀ (a : List T), LeL a a
  | [] => .nil
  | t :: ts => .cons (T.Le.refl t) (LeL.refl ts)
theorem T.Le.tup {as bs : List T} (h : LeL as bs) : T.Le (.tup as) (.tup bs) :=
  ⟨fun w ok β v r => by simp only [Rep] at r ⊢; obtain ⟨vs, rfl, r⟩ := r; exact ⟨vs, rfl, h.rep.1 _ _ _ _ r⟩, fun i hi => by simp only [T.ids] at hi ⊢; exact h.rep.2 i hi⟩
theorem T.Le.agg {as bs : List T} (h : LeL as bs) : T.Le (.agg as) (.agg bs) :=
  ⟨fun w ok β v r => by simp only [Rep] at r ⊢; obtain ⟨vs, rfl, r⟩ := r; exact ⟨vs, rfl, h.rep.1 _ _ _ _ r⟩, fun i hi => by simp only [T.ids] at hi ⊢; exact h.rep.2 i hi⟩

theorem SimB.slotLe {β : Nat → Real} {a : Act} {w : World} (hs : SimB Γ σ β a w) {t : Nat} {x y : T} (hx : σ.s t = some x) (h : T.Le x y) : SimB Γ { σ with s := upd σ.s t (some y) } β a w := by
  refine ⟨hs.defers, hs.size, hs.keeps, fun u z e => ?_, hs.obj, hs.inj, hs.ownb, fun u z e => ?_, hs.wfh, hs.stab⟩
  · simp only [upd] at e
    split at e
    · rename_i e'; subst e'; injection e with e; subst e
      obtain ⟨v, h1, h2⟩ := hs.slot _ _ hx
      exact ⟨v, h1, h.1 _ _ _ _ h2⟩
    · exact hs.slot u z e
  · simp only [upd] at e
    split at e
    · injection e with e; subst e; exact fun i hi => hs.wfs _ _ hx i (h.2 i hi)
    · exact hs.wfs u z e

theorem Go.le {L : List (Nat × T)} {H : List (Nat × List T)} (t : Nat) (x y : T) (hx : look L t = some x) (h : T.Le x y) (hg : Go E Γ f N S Post k (stL (ins t y L) H)) : Go E Γ f N S Post k (stL L H) :=
  fun h1 h2 h3 a w ⟨β, hsb⟩ => hg h1 h2 h3 a w ⟨β, by have := hsb.slotLe (t := t) (x := x) (y := y) hx h; simpa only [stL, look_ins] using this⟩

def atEnd : List Item → Bool
  | [] => true
  | .code .ret :: _ => true
  | _ => false

theorem atEnd_ok {l : List Item} (h : atEnd l = true) : l = [] ∨ ∃ rest, l = .code .ret :: rest := by
  unfold atEnd at h
  split at h
  · exact .inl rfl
  · exact .inr ⟨_, rfl⟩
  · simp at h

def closedL (ids : List Nat) : List (Nat × List T) → List Prop
  | [] => []
  | (_, cs) :: l => (subN (idsL cs) ids = true) :: closedL ids l

theorem closedL_ok {ids : List Nat} : ∀ {H : List (Nat × List T)}, AllP (closedL ids H) → ∀ id cs, look H id = some cs → ∀ i ∈ idsL cs, i ∈ ids
  | [], _, id, cs, h => by simp [look] at h
  | (j, c) :: l, hp, id, cs, h => by
    cases hp with
    | cons h1 h2 =>
      simp only [look] at h
      split at h
      · injection h with h; subst h; exact subN_spec h1
      · exact closedL_ok h2 id cs h

/-- The function returns. -/
theorem Go.lvx {fn : Func} {L : List (Nat × T)} {H : List (Nat × List T)} {R : T} {H' : List (Nat × List T)} (n : Nat) (ids : List Nat) (cs : List Prop) (vs : List T) (hfn : E.P.funcs[f]? = some fn) (hk : k = k0) (he : atEnd (normI n k0) = true)
    (hr : resX E (stL L H) fn.results.toList = some (cs, vs)) (hc : AllP cs) (hR : T.Le (tupT vs) R) (hH : keepL H ids = H') (hi : subN R.ids (H'.map (·.1)) = true) (hw : AllP (closedL (H'.map (·.1)) H')) : Go E Γ f N S (PostR Γ R H') k (stL L H) := by
  subst hk; subst hH
  refine Go.norm n ?_
  intro h1 h2 h3 a w ⟨β, hs⟩ cs' b hb hkd
  have hres := resX_ok hr hc
  obtain ⟨x, e1, e2, e3⟩ := results_run h1 hs hres
  have e2' := hR.1 _ _ _ _ e2
  have how : ∀ c, own (retSt R (look (keepL H ids))) β c → own (stL L H) β c := fun c ⟨id, cs, o, E', q1, q2⟩ => ⟨id, cs, o, E', look_keepL H ids id cs q1, q2⟩
  have hok : ∀ g c, okOf Γ.X (stL L H) β w g c → okOf Γ.X (retSt R (look (keepL H ids))) β w g c ∧ w.heap[c]? = w.heap[c]? := fun g c hc => ⟨⟨hc.1, fun ho => hc.2.1 (how c ho), hc.2.2⟩, rfl⟩
  have hpost : PostR Γ R (keepL H ids) x w := by
    refine ⟨β, rfl, rfl, hs.keeps, fun t y e => ?_, fun id cs e => (hs.obj id cs (look_keepL H ids id cs e)).mono hok (fun _ _ _ _ => rfl) (fun _ _ => rfl),
      fun i1 i2 c1 c2 b1 o1 E1 o2 E2 q1 q2 => hs.inj i1 i2 c1 c2 b1 o1 E1 o2 E2 (look_keepL H ids _ _ q1) (look_keepL H ids _ _ q2), fun c hc => hs.ownb c (how c hc), fun t y e => ?_, fun id cs e i hi => look_of_mem (closedL_ok hw id cs e i hi), hs.stab⟩
    · simp only [retSt] at e
      split at e
      · rename_i ht; subst ht; injection e with e; subst e
        exact ⟨x, rfl, Rep.mono hok _ β β x (fun _ _ => rfl) e2'⟩
      · simp at e
    · simp only [retSt] at e
      split at e
      · injection e with e; subst e; exact fun i hi' => look_of_mem (subN_spec hi i hi')
      · simp at e
  rcases atEnd_ok he with he | ⟨rest, he⟩ <;> rw [he]
  · exact ⟨x, w, _, hpost, .one step_end, hb, rfl, hs.defers, hkd, fn, by simpa [Frame.at, hb] using hfn, e1⟩
  · exact ⟨x, w, _, hpost, .one step_ret, hb, rfl, hs.defers, hkd, fn, by simpa [Frame.at, hb] using hfn, e1⟩

/-- A function's body, walked along its pure text. -/
theorem Meets.enterX {α : Type} {enc : α → T × List (Nat × List T)} {x : α} {fn : Func} {c : Code} {A : List T} {H : List (Nat × List T)} (hfn : E.P.funcs[f]? = some fn) (hcall : ∀ args w, (callFunc f args).run E.P w = .ok (.enter f args) w) (hbody : fn.body = some c) (hN : max A.length fn.ntmps = N)
    (h : ∀ (Γ : Cx) (k : List Item), k = [.code c] → Go E Γ f N S (PostX Γ enc x) k (stL (idxL 0 A) H)) : Meets E.P f A H S (enc x).1 (enc x).2 :=
  Meets.enter hfn hcall hbody hN h

/-- The round's head is come to anew. -/
theorem Go.back {k1 : List Item} (n : Nat) (hk : k = k0) (he : normI n k0 = k1) (H : ∀ k', k' = k1 → Go E Γ f N S Post k' σ) : Go E Γ f N S Post k σ := by
  subst hk; subst he
  exact Go.norm n (H _ rfl)
end

/-- The arguments may tell more. -/
theorem Meets.leA {P : Program} {f : FuncId} {A B : List T} {H H' : List (Nat × List T)} {S : List Nat} {R : T} (hM : Meets P f B H S R H') (h : LeL A B) : Meets P f A H S R H' := by
  refine fun Γ β vs hP hS hn hvl hβ hlent hs => ?_
  have hl : A.length = B.length := by
    clear hM hlent hs hvl
    induction h with
    | nil => rfl
    | cons _ _ ih => simp [ih]
  have hg : ∀ (t : Nat) (y : T), B[t]? = some y → ∃ x, A[t]? = some x ∧ T.Le x y := by
    clear hM hlent hs hvl hl
    induction h with
    | nil => intro t y e; simp at e
    | cons h0 _ ih =>
      intro t y e
      cases t with
      | zero => simp only [List.getElem?_cons_zero, Option.some.injEq] at e; subst e; exact ⟨_, rfl, h0⟩
      | succ t => simpa using ih t y (by simpa using e)
  refine hM Γ β vs hP hS hn (hvl.trans hl) hβ hlent ⟨hs.defers, hs.size, hs.keeps, fun t y e => ?_, hs.obj, hs.inj, hs.ownb, fun t y e => ?_, hs.wfh, hs.stab⟩
  · obtain ⟨x, e1, e2⟩ := hg t y e
    obtain ⟨v, h1, h2⟩ := hs.slot t x e1
    exact ⟨v, h1, e2.1 _ _ _ _ h2⟩
  · obtain ⟨x, e1, e2⟩ := hg t y e
    exact fun i hi => hs.wfs t x e1 i (e2.2 i hi)
theorem Meets.eqA {P : Program} {f : FuncId} {A B : List T} {H H' : List (Nat × List T)} {S : List Nat} {R : T} (h : A = B) (hM : Meets P f B H S R H') : Meets P f A H S R H' := h ▸ hM

/-! ### What is given up to be shared -/

theorem Go.frz {E : Env} {Γ : Cx} {f : FuncId} {N : Nat} {S : List Nat} {Post : Value → World → Prop} {k : List Item} {L : List (Nat × T)} {H : List (Nat × List T)} (ps pg : List Nat) (t i : Nat) {m o n : Nat} {cs : List T} (new : List T) (cds : List Prop) (L' : List (Nat × T)) (H' : List (Nat × List T))
    (ht : look L t = some (.ref i m o n)) (hi : look H i = some cs) (hc : idsL cs = []) (hl : o + n * m ≤ cs.length) (hn : sub cs o (n * m) = new) (hx : drpX ps pg [i] L H = (cds, L', H')) (hp : AllP cds)
    (hg : Go E Γ f N S Post k (stL (ins t (.sl m .shr n new) L') H')) : Go E Γ f N S Post k (stL L H) :=
  fun h1 h2 h3 a w ⟨β, hsb⟩ => hg h1 h2 h3 a w ⟨β, by
    have := hsb.frz (t := t) (i := i) ht hi hc hl
    have e := drpX_eq (ps := ps) (pg := pg) [i] L H (by rw [hx]; exact hp)
    rw [hx] at e
    simp only [St.drops] at e
    rw [e, hn] at this
    simpa only [stL, look_ins] using this⟩

/-- A result that is the caller's own, given up. -/
theorem Meets.frz {P : Program} {f : FuncId} {A : List T} {H : List (Nat × List T)} {S : List Nat} {d m n : Nat} {cs : List T} (hM : Meets P f A H S (.ref d m 0 n) [(d, cs)]) (hS : S = []) (hc : idsL cs = []) (hl : cs.length = n * m) : Meets P f A H S (.sl m .shr n cs) [] := by
  refine fun Γ β vs hP hS' hn hvl hβ hlent hs => ?_
  refine (hM Γ β vs hP hS' hn hvl hβ hlent hs).mono ?_
  rintro v w' ⟨β', h⟩
  refine ⟨β', ?_⟩
  have := h.frz (t := 0) (i := d) (m := m) (o := 0) (n := n) (cs := cs) rfl (by simp [retSt, look]) hc (by omega)
  have e : sub cs 0 (n * m) = cs := by simp [sub, ← hl]
  rw [e] at this
  have e2 : (⟨upd ((retSt (.ref d m 0 n) (look [(d, cs)])).drop d).s 0 (some (.sl m .shr n cs)), ((retSt (.ref d m 0 n) (look [(d, cs)])).drop d).h⟩ : St) = retSt (.sl m .shr n cs) (look []) := by
    refine St.ext' (fun t => ?_) (fun j => ?_)
    · simp only [retSt, upd, St.drop]; split <;> simp_all
    · simp only [retSt, St.drop, look]; split <;> simp_all [Ne.symm]
  rw [← e2]; exact this
end Go.Vw

import Derived.Test.YtdlnppcndcfikaaDoorEnVx0
import Derived.Lib.Strings
import Derived.OpenShut
import Derived.Carry
import Derived.ChangeShapes
import Derived.WideShapes
set_option linter.unusedVariables false
set_option linter.unusedSimpArgs false
namespace Go.Vw
open Go Go.RowKit
def PostX {α : Type} (Γ : Cx) (enc : α → T × List (Nat × List T)) (x : α) : Value → World → Prop := PostR Γ (enc x).1 (enc x).2
section
variable {E : Env} {Γ : Cx} {f : FuncId} {N : Nat} {S : List Nat} {Post : Value → World → Prop} {k k0 rest : List Item} {σ : St}
theorem Go.br {α : Type} {Pf : α → Value → World → Prop} {A B : α} {e : Bool} {c : Operand} {x y : Code} (n : Nat) (hk : k = k0) (he : normI n k0 = .code (.cond c x y) :: rest) (hc : σ.ev c = some (.leaf (.bool e)))
    (H1 : e = true → ∀ k', k' = .code x :: rest → Go E Γ f N S (Pf A) k' σ) (H2 : e = false → ∀ k', k' = .code y :: rest → Go E Γ f N S (Pf B) k' σ) : Go E Γ f N S (Pf (_root_.cond e A B)) k σ := by
  cases e with
  | true => exact Go.cond n hk he hc (by simpa using H1 rfl)
  | false => exact Go.cond n hk he hc (by simpa using H2 rfl)
theorem Go.split {α : Type} {Pf : α → Value → World → Prop} {A B : α} (e : Bool) (H1 : e = true → Go E Γ f N S (Pf A) k σ) (H2 : e = false → Go E Γ f N S (Pf B) k σ) : Go E Γ f N S (Pf (_root_.cond e A B)) k σ := by
  cases e with
  | true => exact H1 rfl
  | false => exact H2 rfl
theorem Go.eqPf {α : Type} {Pf : α → Value → World → Prop} {A B : α} (h : A = B) (H : Go E Γ f N S (Pf B) k σ) : Go E Γ f N S (Pf A) k σ := h ▸ H
def resX (E : Env) (σ : St) : List ResultVar → Option (List Prop × List T)
  | [] => some ([], [])
  | .tmp t :: rs =>
    match σ.s t, resX E σ rs with
    | some v, some (cs, us) => some (cs, v :: us)
    | _, _ => none
  | .cell a ty :: rs =>
    match (E.ti ty).k.isNo, σ.s a, resX E σ rs with
    | false, some (.addr id off), some (cs, us) =>
      match σ.h id with
      | some c =>
        match (E.ti ty).agg with
        | true => some ((off + (E.ti ty).size ≤ c.length) :: cs, .agg (sub c off (E.ti ty).size) :: us)
        | false => match c[off]? with | some v => some (cs, v :: us) | none => none
      | none => none
    | _, _, _ => none
theorem resX_ok {E : Env} {σ : St} : ∀ {rs : List ResultVar} {cs : List Prop} {vs : List T}, resX E σ rs = some (cs, vs) → AllP cs → resL E σ rs vs
  | [], cs, vs, h, _ => by simp only [resX, Option.some.injEq, Prod.mk.injEq] at h; simp [resL, h.2]
  | .tmp t :: rs, cs, vs, h, hc => by
    simp only [resX] at h
    split at h
    · rename_i v cs' us h1 h2
      simp only [Option.some.injEq, Prod.mk.injEq] at h
      obtain ⟨rfl, rfl⟩ := h
      exact ⟨v, us, rfl, h1, resX_ok h2 hc⟩
    · simp at h
  | .cell a ty :: rs, cs, vs, h, hc => by
    simp only [resX] at h
    split at h
    · rename_i id off cs' us h0 h1 h2
      have hne : (E.ti ty).k ≠ .no := by rintro e; rw [e] at h0; simp [K.isNo] at h0
      split at h
      · rename_i c hcell
        split at h
        · rename_i ha
          simp only [Option.some.injEq, Prod.mk.injEq] at h
          obtain ⟨rfl, rfl⟩ := h
          cases hc with
          | cons hp hc =>
            refine ⟨_, us, rfl, ⟨hne, _, h1, ?_⟩, resX_ok h2 hc⟩
            simp only [loadC]
            refine ⟨c, hcell, ?_⟩
            show partC _ _ _ _
            unfold partC
            rw [ha, condB_true]
            exact ⟨hp, _, rfl, rfl⟩
        · rename_i ha
          split at h
          · rename_i v hv
            simp only [Option.some.injEq, Prod.mk.injEq] at h
            obtain ⟨rfl, rfl⟩ := h
            refine ⟨v, us, rfl, ⟨hne, _, h1, ?_⟩, resX_ok h2 hc⟩
            simp only [loadC]
            refine ⟨c, hcell, ?_⟩
            show partC _ _ _ _
            unfold partC
            rw [ha, condB_false]
            exact ⟨v, hv, rfl⟩
          · simp at h
      · simp at h
    · simp at h
def T.Le (a b : T) : Prop := (∀ w ok β v, Rep w ok a β v → Rep w ok b β v) ∧ ∀ i ∈ b.ids, i ∈ a.ids
theorem T.Le.refl (a : T) : T.Le a a := ⟨fun _ _ _ _ h => h, fun _ h => h⟩
theorem T.Le.of_eq {a b : T} (h : a = b) : T.Le a b := h ▸ T.Le.refl a
theorem T.Le.nil (m : Nat) (g : Tag) : T.Le (.leaf (.slice none 0 0)) (.sl m g 0 []) :=
  ⟨fun w ok β v h => by simp only [Rep] at h ⊢; subst h; exact ⟨⟨by simp, by simp [idsL]⟩, none, 0, rfl, by omega, .inl trivial⟩, by simp [T.ids]⟩
theorem T.Le.e0 (m : Nat) (g : Tag) : T.Le .e0 (.sl m g 0 []) :=
  ⟨fun w ok β v h => by simp only [Rep] at h ⊢; obtain ⟨a, rfl⟩ := h; exact ⟨⟨by simp, by simp [idsL]⟩, a, 0, rfl, by omega, .inl trivial⟩, by simp [T.ids]⟩
theorem T.Le.trans {a b c : T} (h : T.Le a b) (k : T.Le b c) : T.Le a c := ⟨fun w ok β v r => k.1 w ok β v (h.1 w ok β v r), fun i hi => h.2 i (k.2 i hi)⟩
inductive LeL : List T → List T → Prop where
  | nil : LeL [] []
  | cons {a b : T} {as bs : List T} (h : T.Le a b) (t : LeL as bs) : LeL (a :: as) (b :: bs)
theorem LeL.rep {as bs : List T} (h : LeL as bs) : (∀ w ok β vs, RepL w ok as β vs → RepL w ok bs β vs) ∧ ∀ i ∈ idsL bs, i ∈ idsL as := by
  induction h with
  | nil => exact ⟨fun _ _ _ _ h => h, fun _ h => h⟩
  | cons h t ih =>
    refine ⟨fun w ok β vs r => ?_, fun i hi => ?_⟩
    · simp only [RepL] at r ⊢
      obtain ⟨v, us, rfl, r1, r2⟩ := r
      exact ⟨v, us, rfl, h.1 _ _ _ _ r1, ih.1 _ _ _ _ r2⟩
    · simp only [idsL, List.mem_append] at hi ⊢
      exact hi.imp (h.2 i) (ih.2 i)
theorem LeL.refl : ∀ (a : List T), LeL a a
  | [] => .nil
  | t :: ts => .cons (T.Le.refl t) (LeL.refl ts)
theorem T.Le.tup {as bs : List T} (h : LeL as bs) : T.Le (.tup as) (.tup bs) :=
  ⟨fun w ok β v r => by simp only [Rep] at r ⊢; obtain ⟨vs, rfl, r⟩ := r; exact ⟨vs, rfl, h.rep.1 _ _ _ _ r⟩, fun i hi => by simp only [T.ids] at hi ⊢; exact h.rep.2 i hi⟩
theorem T.Le.agg {as bs : List T} (h : LeL as bs) : T.Le (.agg as) (.agg bs) :=
  ⟨fun w ok β v r => by simp only [Rep] at r ⊢; obtain ⟨vs, rfl, r⟩ := r; exact ⟨vs, rfl, h.rep.1 _ _ _ _ r⟩, fun i hi => by simp only [T.ids] at hi ⊢; exact h.rep.2 i hi⟩
theorem SimB.slotLe {β : Nat → Real} {a : Act} {w : World} (hs : SimB Γ σ β a w) {t : Nat} {x y : T} (hx : σ.s t = some x) (h : T.Le x y) : SimB Γ { σ with s := upd σ.s t (some y) } β a w := by
  refine ⟨hs.defers, hs.size, hs.keeps, fun u z e => ?_, hs.obj, hs.inj, hs.ownb, fun u z e => ?_, hs.wfh, hs.stab⟩
  · simp only [upd] at e
    split at e
    · rename_i e'; subst e'; injection e with e; subst e
      obtain ⟨v, h1, h2⟩ := hs.slot _ _ hx
      exact ⟨v, h1, h.1 _ _ _ _ h2⟩
    · exact hs.slot u z e
  · simp only [upd] at e
    split at e
    · injection e with e; subst e; exact fun i hi => hs.wfs _ _ hx i (h.2 i hi)
    · exact hs.wfs u z e
theorem Go.le {L : List (Nat × T)} {H : List (Nat × List T)} (t : Nat) (x y : T) (hx : look L t = some x) (h : T.Le x y) (hg : Go E Γ f N S Post k (stL (ins t y L) H)) : Go E Γ f N S Post k (stL L H) :=
  fun h1 h2 h3 a w ⟨β, hsb⟩ => hg h1 h2 h3 a w ⟨β, by have := hsb.slotLe (t := t) (x := x) (y := y) hx h; simpa only [stL, look_ins] using this⟩
def atEnd : List Item → Bool
  | [] => true
  | .code .ret :: _ => true
  | _ => false
theorem atEnd_ok {l : List Item} (h : atEnd l = true) : l = [] ∨ ∃ rest, l = .code .ret :: rest := by
  unfold atEnd at h
  split at h
  · exact .inl rfl
  · exact .inr ⟨_, rfl⟩
  · simp at h
def closedL (ids : List Nat) : List (Nat × List T) → List Prop
  | [] => []
  | (_, cs) :: l => (subN (idsL cs) ids = true) :: closedL ids l
theorem closedL_ok {ids : List Nat} : ∀ {H : List (Nat × List T)}, AllP (closedL ids H) → ∀ id cs, look H id = some cs → ∀ i ∈ idsL cs, i ∈ ids
  | [], _, id, cs, h => by simp [look] at h
  | (j, c) :: l, hp, id, cs, h => by
    cases hp with
    | cons h1 h2 =>
      simp only [look] at h
      split at h
      · injection h with h; subst h; exact subN_spec h1
      · exact closedL_ok h2 id cs h
theorem Go.lvx {fn : Func} {L : List (Nat × T)} {H : List (Nat × List T)} {R : T} {H' : List (Nat × List T)} (n : Nat) (ids : List Nat) (cs : List Prop) (vs : List T) (hfn : E.P.funcs[f]? = some fn) (hk : k = k0) (he : atEnd (normI n k0) = true)
    (hr : resX E (stL L H) fn.results.toList = some (cs, vs)) (hc : AllP cs) (hR : T.Le (tupT vs) R) (hH : keepL H ids = H') (hi : subN R.ids (H'.map (·.1)) = true) (hw : AllP (closedL (H'.map (·.1)) H')) : Go E Γ f N S (PostR Γ R H') k (stL L H) := by
  subst hk; subst hH
  refine Go.norm n ?_
  intro h1 h2 h3 a w ⟨β, hs⟩ cs' b hb hkd
  have hres := resX_ok hr hc
  obtain ⟨x, e1, e2, e3⟩ := results_run h1 hs hres
  have e2' := hR.1 _ _ _ _ e2
  have how : ∀ c, own (retSt R (look (keepL H ids))) β c → own (stL L H) β c := fun c ⟨id, cs, o, E', q1, q2⟩ => ⟨id, cs, o, E', look_keepL H ids id cs q1, q2⟩
  have hok : ∀ g c, okOf Γ.X (stL L H) β w g c → okOf Γ.X (retSt R (look (keepL H ids))) β w g c ∧ w.heap[c]? = w.heap[c]? := fun g c hc => ⟨⟨hc.1, fun ho => hc.2.1 (how c ho), hc.2.2⟩, rfl⟩
  have hpost : PostR Γ R (keepL H ids) x w := by
    refine ⟨β, rfl, rfl, hs.keeps, fun t y e => ?_, fun id cs e => (hs.obj id cs (look_keepL H ids id cs e)).mono hok (fun _ _ _ _ => rfl) (fun _ _ => rfl),
      fun i1 i2 c1 c2 b1 o1 E1 o2 E2 q1 q2 => hs.inj i1 i2 c1 c2 b1 o1 E1 o2 E2 (look_keepL H ids _ _ q1) (look_keepL H ids _ _ q2), fun c hc => hs.ownb c (how c hc), fun t y e => ?_, fun id cs e i hi => look_of_mem (closedL_ok hw id cs e i hi), hs.stab⟩
    · simp only [retSt] at e
      split at e
      · rename_i ht; subst ht; injection e with e; subst e
        exact ⟨x, rfl, Rep.mono hok _ β β x (fun _ _ => rfl) e2'⟩
      · simp at e
    · simp only [retSt] at e
      split at e
      · injection e with e; subst e; exact fun i hi' => look_of_mem (subN_spec hi i hi')
      · simp at e
  rcases atEnd_ok he with he | ⟨rest, he⟩ <;> rw [he]
  · exact ⟨x, w, _, hpost, .one step_end, hb, rfl, hs.defers, hkd, fn, by simpa [Frame.at, hb] using hfn, e1⟩
  · exact ⟨x, w, _, hpost, .one step_ret, hb, rfl, hs.defers, hkd, fn, by simpa [Frame.at, hb] using hfn, e1⟩
theorem Meets.enterX {α : Type} {enc : α → T × List (Nat × List T)} {x : α} {fn : Func} {c : Code} {A : List T} {H : List (Nat × List T)} (hfn : E.P.funcs[f]? = some fn) (hcall : ∀ args w, (callFunc f args).run E.P w = .ok (.enter f args) w) (hbody : fn.body = some c) (hN : max A.length fn.ntmps = N)
    (h : ∀ (Γ : Cx) (k : List Item), k = [.code c] → Go E Γ f N S (PostX Γ enc x) k (stL (idxL 0 A) H)) : Meets E.P f A H S (enc x).1 (enc x).2 :=
  Meets.enter hfn hcall hbody hN h
theorem Go.back {k1 : List Item} (n : Nat) (hk : k = k0) (he : normI n k0 = k1) (H : ∀ k', k' = k1 → Go E Γ f N S Post k' σ) : Go E Γ f N S Post k σ := by
  subst hk; subst he
  exact Go.norm n (H _ rfl)
end
theorem Meets.leA {P : Program} {f : FuncId} {A B : List T} {H H' : List (Nat × List T)} {S : List Nat} {R : T} (hM : Meets P f B H S R H') (h : LeL A B) : Meets P f A H S R H' := by
  refine fun Γ β vs hP hS hn hvl hβ hlent hs => ?_
  have hl : A.length = B.length := by
    clear hM hlent hs hvl
    induction h with
    | nil => rfl
    | cons _ _ ih => simp [ih]
  have hg : ∀ (t : Nat) (y : T), B[t]? = some y → ∃ x, A[t]? = some x ∧ T.Le x y := by
    clear hM hlent hs hvl hl
    induction h with
    | nil => intro t y e; simp at e
    | cons h0 _ ih =>
      intro t y e
      cases t with
      | zero => simp only [List.getElem?_cons_zero, Option.some.injEq] at e; subst e; exact ⟨_, rfl, h0⟩
      | succ t => simpa using ih t y (by simpa using e)
  refine hM Γ β vs hP hS hn (hvl.trans hl) hβ hlent ⟨hs.defers, hs.size, hs.keeps, fun t y e => ?_, hs.obj, hs.inj, hs.ownb, fun t y e => ?_, hs.wfh, hs.stab⟩
  · obtain ⟨x, e1, e2⟩ := hg t y e
    obtain ⟨v, h1, h2⟩ := hs.slot t x e1
    exact ⟨v, h1, e2.1 _ _ _ _ h2⟩
  · obtain ⟨x, e1, e2⟩ := hg t y e
    exact fun i hi => hs.wfs t x e1 i (e2.2 i hi)
theorem Meets.eqA {P : Program} {f : FuncId} {A B : List T} {H H' : List (Nat × List T)} {S : List Nat} {R : T} (h : A = B) (hM : Meets P f B H S R H') : Meets P f A H S R H' := h ▸ hM
theorem Go.frz {E : Env} {Γ : Cx} {f : FuncId} {N : Nat} {S : List Nat} {Post : Value → World → Prop} {k : List Item} {L : List (Nat × T)} {H : List (Nat × List T)} (ps pg : List Nat) (t i : Nat) {m o n : Nat} {cs : List T} (new : List T) (cds : List Prop) (L' : List (Nat × T)) (H' : List (Nat × List T))
    (ht : look L t = some (.ref i m o n)) (hi : look H i = some cs) (hc : idsL cs = []) (hl : o + n * m ≤ cs.length) (hn : sub cs o (n * m) = new) (hx : drpX ps pg [i] L H = (cds, L', H')) (hp : AllP cds)
    (hg : Go E Γ f N S Post k (stL (ins t (.sl m .shr n new) L') H')) : Go E Γ f N S Post k (stL L H) :=
  fun h1 h2 h3 a w ⟨β, hsb⟩ => hg h1 h2 h3 a w ⟨β, by
    have := hsb.frz (t := t) (i := i) ht hi hc hl
    have e := drpX_eq (ps := ps) (pg := pg) [i] L H (by rw [hx]; exact hp)
    rw [hx] at e
    simp only [St.drops] at e
    rw [e, hn] at this
    simpa only [stL, look_ins] using this⟩
theorem Meets.frz {P : Program} {f : FuncId} {A : List T} {H : List (Nat × List T)} {S : List Nat} {d m n : Nat} {cs : List T} (hM : Meets P f A H S (.ref d m 0 n) [(d, cs)]) (hS : S = []) (hc : idsL cs = []) (hl : cs.length = n * m) : Meets P f A H S (.sl m .shr n cs) [] := by
  refine fun Γ β vs hP hS' hn hvl hβ hlent hs => ?_
  refine (hM Γ β vs hP hS' hn hvl hβ hlent hs).mono ?_
  rintro v w' ⟨β', h⟩
  refine ⟨β', ?_⟩
  have := h.frz (t := 0) (i := d) (m := m) (o := 0) (n := n) (cs := cs) rfl (by simp [retSt, look]) hc (by omega)
  have e : sub cs 0 (n * m) = cs := by simp [sub, ← hl]
  rw [e] at this
  have e2 : (⟨upd ((retSt (.ref d m 0 n) (look [(d, cs)])).drop d).s 0 (some (.sl m .shr n cs)), ((retSt (.ref d m 0 n) (look [(d, cs)])).drop d).h⟩ : St) = retSt (.sl m .shr n cs) (look []) := by
    refine St.ext' (fun t => ?_) (fun j => ?_)
    · simp only [retSt, upd, St.drop]; split <;> simp_all
    · simp only [retSt, St.drop, look]; split <;> simp_all [Ne.symm]
  rw [← e2]; exact this
end Go.Vw
namespace Go.Vw
open Go Go.RowKit
abbrev tb (b : Bool) : T := .leaf (.bool b)
abbrev ti (n : Int) : T := .leaf (.int .i64 n)
abbrev t8 (n : UInt8) : T := .leaf (.int .u8 (n.toNat : Int))
abbrev t16 (n : UInt16) : T := .leaf (.int .u16 (n.toNat : Int))
abbrev t32 (n : UInt32) : T := .leaf (.int .u32 (n.toNat : Int))
abbrev t64 (n : UInt64) : T := .leaf (.int .u64 (n.toNat : Int))
abbrev ts (l : List UInt8) : T := .leaf (.string (sOf l))
theorem eb {a b : Bool} (h : a = b) : tb a = tb b := by rw [h]
theorem ei {a b : Int} (h : a = b) : ti a = ti b := by rw [h]
inductive Lo (α β : Type) where
  | brk (a : α)
  | ret (b : β)
def Lo.el {α β : Type} (x : Lo α β) (k : α → β) : β := match x with | .brk a => k a | .ret b => b
theorem condT {α : Type} {e : Bool} {a b : α} (h : e = true) : _root_.cond e a b = a := by rw [h]; rfl
theorem condF {α : Type} {e : Bool} {a b : α} (h : e = false) : _root_.cond e a b = b := by rw [h]; rfl
theorem andT {a x v : Bool} (h : a = true) (k : x = v) : (a && x) = v := by rw [h, k]; rfl
theorem andF {a x : Bool} (h : a = false) : (a && x) = false := by rw [h]; rfl
theorem orT {a x : Bool} (h : a = true) : (a || x) = true := by rw [h]; rfl
theorem orF {a x v : Bool} (h : a = false) (k : x = v) : (a || x) = v := by rw [h, k]; rfl
theorem notT {a : Bool} (h : a = true) : (!a) = false := by rw [h]; rfl
theorem notF {a : Bool} (h : a = false) : (!a) = true := by rw [h]; rfl
theorem iw (x : Int) (h : -9223372036854775808 ≤ x ∧ x < 9223372036854775808) : ti (IntKind.i64.wrap x) = ti x := by
  congr 2
  simp only [IntKind.wrap, IntKind.bits, IntKind.signed, Bool.true_and]
  have e : (2 : Int) ^ 64 = 18446744073709551616 := by decide
  have e2 : (2 : Int) ^ (64 - 1) = 9223372036854775808 := by decide
  simp only [e, e2]
  split <;> simp_all <;> omega
theorem wrap8 (x : Int) : IntKind.u8.wrap x = x % 256 := by
  simp only [IntKind.wrap, IntKind.bits, IntKind.signed, Bool.false_and, Bool.false_eq_true, if_false]; rfl
theorem wrap16 (x : Int) : IntKind.u16.wrap x = x % 65536 := by
  simp only [IntKind.wrap, IntKind.bits, IntKind.signed, Bool.false_and, Bool.false_eq_true, if_false]; rfl
theorem wrap32' (x : Int) : IntKind.u32.wrap x = x % 4294967296 := by
  simp only [IntKind.wrap, IntKind.bits, IntKind.signed, Bool.false_and, Bool.false_eq_true, if_false]; rfl
theorem wrap64' (x : Int) : IntKind.u64.wrap x = x % 18446744073709551616 := by
  simp only [IntKind.wrap, IntKind.bits, IntKind.signed, Bool.false_and, Bool.false_eq_true, if_false]; rfl
def u8i (n : Int) : UInt8 := UInt8.ofNat (n % 256).toNat
def u16i (n : Int) : UInt16 := UInt16.ofNat (n % 65536).toNat
def u32i (n : Int) : UInt32 := UInt32.ofNat (n % 4294967296).toNat
def u64i (n : Int) : UInt64 := UInt64.ofNat (n % 18446744073709551616).toNat
end Go.Vw
namespace Go.Vw
open Go Go.RowKit
section
variable (a b : UInt8)
theorem lt8 : (a.toNat : Int) < 256 ∧ 0 ≤ (a.toNat : Int) := by
  have := a.toNat_lt
  omega
theorem add8 : (.leaf (.int .u8 (IntKind.u8.wrap ((a.toNat : Int) + (b.toNat : Int)))) : T) = t8 (a + b) := by
  congr 2
  all_goals
    rw [wrap8, UInt8.toNat_add]
    all_goals omega
theorem sub8 : (.leaf (.int .u8 (IntKind.u8.wrap ((a.toNat : Int) - (b.toNat : Int)))) : T) = t8 (a - b) := by
  congr 2
  all_goals
    rw [wrap8, UInt8.toNat_sub]
    have := lt8 a
    have := lt8 b
    omega
theorem mul8 : (.leaf (.int .u8 (IntKind.u8.wrap ((a.toNat : Int) * (b.toNat : Int)))) : T) = t8 (a * b) := by
  congr 2
  all_goals
    rw [wrap8, UInt8.toNat_mul, Int.natCast_emod, Int.natCast_mul]
    all_goals rfl
theorem quo8 : (.leaf (.int .u8 (IntKind.u8.wrap ((a.toNat : Int).tdiv (b.toNat : Int)))) : T) = t8 (a / b) := by
  congr 2
  all_goals
    have h := lt8 (a / b)
    rw [UInt8.toNat_div] at h
    rw [wrap8, UInt8.toNat_div, Int.tdiv_eq_ediv_of_nonneg (by omega), ← Int.natCast_ediv]
    exact Int.emod_eq_of_lt h.2 h.1
theorem rem8 : (.leaf (.int .u8 ((a.toNat : Int).tmod (b.toNat : Int))) : T) = t8 (a % b) := by
  congr 2
  all_goals
    rw [UInt8.toNat_mod, Int.tmod_eq_emod_of_nonneg (by omega), ← Int.natCast_emod]
theorem and8 : (.leaf (.int .u8 (IntKind.u8.wrap (((BitVec.ofInt (IntKind.bits .u8) (a.toNat : Int) &&& BitVec.ofInt (IntKind.bits .u8) (b.toNat : Int)).toNat : Int)))) : T) = t8 (a &&& b) := by
  congr 2
  all_goals
    have e : ∀ c : UInt8, BitVec.ofInt (IntKind.bits .u8) (c.toNat : Int) = c.toBitVec := fun c => by
      apply BitVec.eq_of_toNat_eq
      rw [BitVec.toNat_ofInt]
      have h := lt8 c
      show ((c.toNat : Int) % ((2 ^ 8 : Nat) : Int)).toNat = c.toNat
      have e2 : ((2 ^ 8 : Nat) : Int) = 256 := by decide
      rw [e2]
      omega
    have h := lt8 (a &&& b)
    rw [wrap8, e, e]
    exact Int.emod_eq_of_lt h.2 h.1
theorem or8 : (.leaf (.int .u8 (IntKind.u8.wrap (((BitVec.ofInt (IntKind.bits .u8) (a.toNat : Int) ||| BitVec.ofInt (IntKind.bits .u8) (b.toNat : Int)).toNat : Int)))) : T) = t8 (a ||| b) := by
  congr 2
  all_goals
    have e : ∀ c : UInt8, BitVec.ofInt (IntKind.bits .u8) (c.toNat : Int) = c.toBitVec := fun c => by
      apply BitVec.eq_of_toNat_eq
      rw [BitVec.toNat_ofInt]
      have h := lt8 c
      show ((c.toNat : Int) % ((2 ^ 8 : Nat) : Int)).toNat = c.toNat
      have e2 : ((2 ^ 8 : Nat) : Int) = 256 := by decide
      rw [e2]
      omega
    have h := lt8 (a ||| b)
    rw [wrap8, e, e]
    exact Int.emod_eq_of_lt h.2 h.1
theorem xor8 : (.leaf (.int .u8 (IntKind.u8.wrap (((BitVec.ofInt (IntKind.bits .u8) (a.toNat : Int) ^^^ BitVec.ofInt (IntKind.bits .u8) (b.toNat : Int)).toNat : Int)))) : T) = t8 (a ^^^ b) := by
  congr 2
  all_goals
    have e : ∀ c : UInt8, BitVec.ofInt (IntKind.bits .u8) (c.toNat : Int) = c.toBitVec := fun c => by
      apply BitVec.eq_of_toNat_eq
      rw [BitVec.toNat_ofInt]
      have h := lt8 c
      show ((c.toNat : Int) % ((2 ^ 8 : Nat) : Int)).toNat = c.toNat
      have e2 : ((2 ^ 8 : Nat) : Int) = 256 := by decide
      rw [e2]
      omega
    have h := lt8 (a ^^^ b)
    rw [wrap8, e, e]
    exact Int.emod_eq_of_lt h.2 h.1
theorem not8 : (.leaf (.int .u8 (IntKind.u8.wrap (((BitVec.ofInt (IntKind.bits .u8) (if (IntKind.u8).signed = true then -1 else IntKind.u8.max) ^^^ BitVec.ofInt (IntKind.bits .u8) (a.toNat : Int)).toNat : Int)))) : T) = t8 (~~~a) := by
  congr 2
  all_goals
    have e : ∀ c : UInt8, BitVec.ofInt (IntKind.bits .u8) (c.toNat : Int) = c.toBitVec := fun c => by
      apply BitVec.eq_of_toNat_eq
      rw [BitVec.toNat_ofInt]
      have h := lt8 c
      show ((c.toNat : Int) % ((2 ^ 8 : Nat) : Int)).toNat = c.toNat
      have e2 : ((2 ^ 8 : Nat) : Int) = 256 := by decide
      rw [e2]
      omega
    have e2 : BitVec.ofInt (IntKind.bits .u8) (if (IntKind.u8).signed = true then -1 else IntKind.u8.max) = BitVec.allOnes 8 := by rfl
    have e3 : ((~~~a : UInt8).toBitVec) = BitVec.allOnes 8 ^^^ a.toBitVec := by rw [BitVec.xor_comm, BitVec.xor_allOnes]; rfl
    have h := lt8 (~~~a)
    rw [wrap8, e, e2]
    have e4 : (BitVec.allOnes 8 ^^^ a.toBitVec).toNat = (~~~a).toNat := by rw [← e3]; rfl
    show (((BitVec.allOnes 8 ^^^ a.toBitVec).toNat : Nat) : Int) % 256 = _
    rw [e4]
    exact Int.emod_eq_of_lt h.2 h.1
def shl8 (a : UInt8) (k : Int) : UInt8 := UInt8.ofNat (a.toNat * 2 ^ k.toNat)
def shr8 (a : UInt8) (k : Int) : UInt8 := UInt8.ofNat (a.toNat / 2 ^ k.toNat)
theorem shlT8 (k : Int) : (.leaf (.int .u8 (IntKind.u8.wrap ((a.toNat : Int) * 2 ^ (min k.toNat (IntKind.bits .u8))))) : T) = t8 (shl8 a k) := by
  congr 2
  all_goals
    simp only [IntKind.bits]
    unfold shl8
    rw [wrap8, UInt8.toNat_ofNat']
    have e0 : ∀ x : Nat, ((x % 2 ^ 8 : Nat) : Int) = (x : Int) % 256 := fun x => by rw [Int.natCast_emod]; rfl
    rw [e0]
    rcases Nat.le_total k.toNat 8 with h | h
    · rw [Nat.min_eq_left h, Int.natCast_mul, Int.natCast_pow]; rfl
    · rw [Nat.min_eq_right h]
      obtain ⟨d, hd⟩ := Nat.exists_eq_add_of_le h
      have e1 : a.toNat * 2 ^ k.toNat = (a.toNat * 2 ^ d) * 256 := by rw [hd, Nat.pow_add, Nat.mul_comm (2 ^ 8), ← Nat.mul_assoc]
      rw [e1, Int.natCast_mul]
      generalize (a.toNat * 2 ^ d : Nat) = z
      have e2 : (2 : Int) ^ 8 = 256 := by decide
      rw [e2]
      omega
theorem shrT8 (k : Int) : (.leaf (.int .u8 ((a.toNat : Int).fdiv (2 ^ (min k.toNat (IntKind.bits .u8))))) : T) = t8 (shr8 a k) := by
  congr 2
  all_goals
    simp only [IntKind.bits]
    unfold shr8
    rw [UInt8.toNat_ofNat']
    have ha := a.toNat_lt
    have hq : a.toNat / 2 ^ k.toNat < 2 ^ 8 := Nat.lt_of_le_of_lt (Nat.div_le_self _ _) ha
    rw [Nat.mod_eq_of_lt hq]
    have e : ∀ j : Nat, (a.toNat : Int).fdiv (2 ^ j) = ((a.toNat / 2 ^ j : Nat) : Int) := fun j => by
      have h2 : (0 : Int) ≤ 2 ^ j := Int.pow_nonneg (by decide)
      rw [Int.fdiv_eq_ediv_of_nonneg _ h2, Int.natCast_ediv, Int.natCast_pow]
      rfl
    rcases Nat.le_total k.toNat 8 with h | h
    · rw [Nat.min_eq_left h, e]
    · rw [Nat.min_eq_right h, e, Nat.div_eq_of_lt ha, Nat.div_eq_of_lt (Nat.lt_of_lt_of_le ha (Nat.pow_le_pow_right (by decide) h))]
theorem ltB8 : tb (decide ((a.toNat : Int) < (b.toNat : Int))) = tb (decide (a < b)) := by
  refine eb ?_
  rw [decide_eq_decide]
  simp only [GT.gt, GE.ge, UInt8.lt_iff_toNat_lt]
  omega
theorem leB8 : tb (decide ((a.toNat : Int) ≤ (b.toNat : Int))) = tb (decide (a ≤ b)) := by
  refine eb ?_
  rw [decide_eq_decide]
  simp only [GT.gt, GE.ge, UInt8.le_iff_toNat_le]
  omega
theorem gtB8 : tb (decide ((a.toNat : Int) > (b.toNat : Int))) = tb (decide (a > b)) := by
  refine eb ?_
  rw [decide_eq_decide]
  simp only [GT.gt, GE.ge, UInt8.lt_iff_toNat_lt]
  omega
theorem geB8 : tb (decide ((a.toNat : Int) ≥ (b.toNat : Int))) = tb (decide (a ≥ b)) := by
  refine eb ?_
  rw [decide_eq_decide]
  simp only [GT.gt, GE.ge, UInt8.le_iff_toNat_le]
  omega
theorem eqB8 : tb ((a.toNat : Int) == (b.toNat : Int)) = tb (a == b) := by
  refine eb ?_
  rw [Bool.eq_iff_iff]
  simp only [beq_iff_eq, bne_iff_ne, ne_eq, ← UInt8.toNat_inj]
  omega
theorem neB8 : tb ((a.toNat : Int) != (b.toNat : Int)) = tb (a != b) := by
  refine eb ?_
  rw [Bool.eq_iff_iff]
  simp only [beq_iff_eq, bne_iff_ne, ne_eq, ← UInt8.toNat_inj]
  omega
theorem cv8_8 : (.leaf (.int .u8 (IntKind.u8.wrap (a.toNat : Int))) : T) = t8 a := by
  congr 2
  all_goals
    rw [wrap8]
    have h := lt8 a
    exact Int.emod_eq_of_lt h.2 h.1
theorem cv8_16 : (.leaf (.int .u16 (IntKind.u16.wrap (a.toNat : Int))) : T) = t16 a.toUInt16 := by
  congr 2
  all_goals
    rw [wrap16, UInt8.toNat_toUInt16]
    have h := lt8 a
    all_goals omega
theorem cv8_32 : (.leaf (.int .u32 (IntKind.u32.wrap (a.toNat : Int))) : T) = t32 a.toUInt32 := by
  congr 2
  all_goals
    rw [wrap32', UInt8.toNat_toUInt32]
    have h := lt8 a
    all_goals omega
theorem cv8_64 : (.leaf (.int .u64 (IntKind.u64.wrap (a.toNat : Int))) : T) = t64 a.toUInt64 := by
  congr 2
  all_goals
    rw [wrap64', UInt8.toNat_toUInt64]
    have h := lt8 a
    all_goals omega
theorem cv8_i : ti (IntKind.i64.wrap (a.toNat : Int)) = ti (a.toNat : Int) := by
  exact iw _ (by have := lt8 a; omega)
theorem cvi_8 (x : Int) : (.leaf (.int .u8 (IntKind.u8.wrap x)) : T) = t8 (u8i x) := by
  congr 2
  all_goals
    rw [wrap8]
    unfold u8i
    rw [UInt8.toNat_ofNat']
    have h1 := Int.emod_nonneg x (show (256 : Int) ≠ 0 by decide)
    have h2 := Int.emod_lt_of_pos x (show (0 : Int) < 256 by decide)
    omega
theorem min8 : (.leaf (.int .u8 (if (b.toNat : Int) < (a.toNat : Int) then (b.toNat : Int) else (a.toNat : Int))) : T) = t8 (if b < a then b else a) := by
  have e : ((b.toNat : Int) < (a.toNat : Int)) ↔ b < a := by rw [UInt8.lt_iff_toNat_lt]; omega
  congr 2
  by_cases h : b < a
  · rw [if_pos h, if_pos (e.2 h)]
  · rw [if_neg h, if_neg (fun q => h (e.1 q))]
theorem max8 : (.leaf (.int .u8 (if (b.toNat : Int) > (a.toNat : Int) then (b.toNat : Int) else (a.toNat : Int))) : T) = t8 (if b > a then b else a) := by
  have e : ((b.toNat : Int) > (a.toNat : Int)) ↔ b > a := by simp only [GT.gt]; rw [UInt8.lt_iff_toNat_lt]; omega
  congr 2
  by_cases h : b > a
  · rw [if_pos h, if_pos (e.2 h)]
  · rw [if_neg h, if_neg (fun q => h (e.1 q))]
end
section
variable (a b : UInt16)
theorem lt16 : (a.toNat : Int) < 65536 ∧ 0 ≤ (a.toNat : Int) := by
  have := a.toNat_lt
  omega
theorem add16 : (.leaf (.int .u16 (IntKind.u16.wrap ((a.toNat : Int) + (b.toNat : Int)))) : T) = t16 (a + b) := by
  congr 2
  all_goals
    rw [wrap16, UInt16.toNat_add]
    all_goals omega
theorem sub16 : (.leaf (.int .u16 (IntKind.u16.wrap ((a.toNat : Int) - (b.toNat : Int)))) : T) = t16 (a - b) := by
  congr 2
  all_goals
    rw [wrap16, UInt16.toNat_sub]
    have := lt16 a
    have := lt16 b
    omega
theorem mul16 : (.leaf (.int .u16 (IntKind.u16.wrap ((a.toNat : Int) * (b.toNat : Int)))) : T) = t16 (a * b) := by
  congr 2
  all_goals
    rw [wrap16, UInt16.toNat_mul, Int.natCast_emod, Int.natCast_mul]
    all_goals rfl
theorem quo16 : (.leaf (.int .u16 (IntKind.u16.wrap ((a.toNat : Int).tdiv (b.toNat : Int)))) : T) = t16 (a / b) := by
  congr 2
  all_goals
    have h := lt16 (a / b)
    rw [UInt16.toNat_div] at h
    rw [wrap16, UInt16.toNat_div, Int.tdiv_eq_ediv_of_nonneg (by omega), ← Int.natCast_ediv]
    exact Int.emod_eq_of_lt h.2 h.1
theorem rem16 : (.leaf (.int .u16 ((a.toNat : Int).tmod (b.toNat : Int))) : T) = t16 (a % b) := by
  congr 2
  all_goals
    rw [UInt16.toNat_mod, Int.tmod_eq_emod_of_nonneg (by omega), ← Int.natCast_emod]
theorem and16 : (.leaf (.int .u16 (IntKind.u16.wrap (((BitVec.ofInt (IntKind.bits .u16) (a.toNat : Int) &&& BitVec.ofInt (IntKind.bits .u16) (b.toNat : Int)).toNat : Int)))) : T) = t16 (a &&& b) := by
  congr 2
  all_goals
    have e : ∀ c : UInt16, BitVec.ofInt (IntKind.bits .u16) (c.toNat : Int) = c.toBitVec := fun c => by
      apply BitVec.eq_of_toNat_eq
      rw [BitVec.toNat_ofInt]
      have h := lt16 c
      show ((c.toNat : Int) % ((2 ^ 16 : Nat) : Int)).toNat = c.toNat
      have e2 : ((2 ^ 16 : Nat) : Int) = 65536 := by decide
      rw [e2]
      omega
    have h := lt16 (a &&& b)
    rw [wrap16, e, e]
    exact Int.emod_eq_of_lt h.2 h.1
theorem or16 : (.leaf (.int .u16 (IntKind.u16.wrap (((BitVec.ofInt (IntKind.bits .u16) (a.toNat : Int) ||| BitVec.ofInt (IntKind.bits .u16) (b.toNat : Int)).toNat : Int)))) : T) = t16 (a ||| b) := by
  congr 2
  all_goals
    have e : ∀ c : UInt16, BitVec.ofInt (IntKind.bits .u16) (c.toNat : Int) = c.toBitVec := fun c => by
      apply BitVec.eq_of_toNat_eq
      rw [BitVec.toNat_ofInt]
      have h := lt16 c
      show ((c.toNat : Int) % ((2 ^ 16 : Nat) : Int)).toNat = c.toNat
      have e2 : ((2 ^ 16 : Nat) : Int) = 65536 := by decide
      rw [e2]
      omega
    have h := lt16 (a ||| b)
    rw [wrap16, e, e]
    exact Int.emod_eq_of_lt h.2 h.1
theorem xor16 : (.leaf (.int .u16 (IntKind.u16.wrap (((BitVec.ofInt (IntKind.bits .u16) (a.toNat : Int) ^^^ BitVec.ofInt (IntKind.bits .u16) (b.toNat : Int)).toNat : Int)))) : T) = t16 (a ^^^ b) := by
  congr 2
  all_goals
    have e : ∀ c : UInt16, BitVec.ofInt (IntKind.bits .u16) (c.toNat : Int) = c.toBitVec := fun c => by
      apply BitVec.eq_of_toNat_eq
      rw [BitVec.toNat_ofInt]
      have h := lt16 c
      show ((c.toNat : Int) % ((2 ^ 16 : Nat) : Int)).toNat = c.toNat
      have e2 : ((2 ^ 16 : Nat) : Int) = 65536 := by decide
      rw [e2]
      omega
    have h := lt16 (a ^^^ b)
    rw [wrap16, e, e]
    exact Int.emod_eq_of_lt h.2 h.1
theorem not16 : (.leaf (.int .u16 (IntKind.u16.wrap (((BitVec.ofInt (IntKind.bits .u16) (if (IntKind.u16).signed = true then -1 else IntKind.u16.max) ^^^ BitVec.ofInt (IntKind.bits .u16) (a.toNat : Int)).toNat : Int)))) : T) = t16 (~~~a) := by
  congr 2
  all_goals
    have e : ∀ c : UInt16, BitVec.ofInt (IntKind.bits .u16) (c.toNat : Int) = c.toBitVec := fun c => by
      apply BitVec.eq_of_toNat_eq
      rw [BitVec.toNat_ofInt]
      have h := lt16 c
      show ((c.toNat : Int) % ((2 ^ 16 : Nat) : Int)).toNat = c.toNat
      have e2 : ((2 ^ 16 : Nat) : Int) = 65536 := by decide
      rw [e2]
      omega
    have e2 : BitVec.ofInt (IntKind.bits .u16) (if (IntKind.u16).signed = true then -1 else IntKind.u16.max) = BitVec.allOnes 16 := by rfl
    have e3 : ((~~~a : UInt16).toBitVec) = BitVec.allOnes 16 ^^^ a.toBitVec := by rw [BitVec.xor_comm, BitVec.xor_allOnes]; rfl
    have h := lt16 (~~~a)
    rw [wrap16, e, e2]
    have e4 : (BitVec.allOnes 16 ^^^ a.toBitVec).toNat = (~~~a).toNat := by rw [← e3]; rfl
    show (((BitVec.allOnes 16 ^^^ a.toBitVec).toNat : Nat) : Int) % 65536 = _
    rw [e4]
    exact Int.emod_eq_of_lt h.2 h.1
def shl16 (a : UInt16) (k : Int) : UInt16 := UInt16.ofNat (a.toNat * 2 ^ k.toNat)
def shr16 (a : UInt16) (k : Int) : UInt16 := UInt16.ofNat (a.toNat / 2 ^ k.toNat)
theorem shlT16 (k : Int) : (.leaf (.int .u16 (IntKind.u16.wrap ((a.toNat : Int) * 2 ^ (min k.toNat (IntKind.bits .u16))))) : T) = t16 (shl16 a k) := by
  congr 2
  all_goals
    simp only [IntKind.bits]
    unfold shl16
    rw [wrap16, UInt16.toNat_ofNat']
    have e0 : ∀ x : Nat, ((x % 2 ^ 16 : Nat) : Int) = (x : Int) % 65536 := fun x => by rw [Int.natCast_emod]; rfl
    rw [e0]
    rcases Nat.le_total k.toNat 16 with h | h
    · rw [Nat.min_eq_left h, Int.natCast_mul, Int.natCast_pow]; rfl
    · rw [Nat.min_eq_right h]
      obtain ⟨d, hd⟩ := Nat.exists_eq_add_of_le h
      have e1 : a.toNat * 2 ^ k.toNat = (a.toNat * 2 ^ d) * 65536 := by rw [hd, Nat.pow_add, Nat.mul_comm (2 ^ 16), ← Nat.mul_assoc]
      rw [e1, Int.natCast_mul]
      generalize (a.toNat * 2 ^ d : Nat) = z
      have e2 : (2 : Int) ^ 16 = 65536 := by decide
      rw [e2]
      omega
theorem shrT16 (k : Int) : (.leaf (.int .u16 ((a.toNat : Int).fdiv (2 ^ (min k.toNat (IntKind.bits .u16))))) : T) = t16 (shr16 a k) := by
  congr 2
  all_goals
    simp only [IntKind.bits]
    unfold shr16
    rw [UInt16.toNat_ofNat']
    have ha := a.toNat_lt
    have hq : a.toNat / 2 ^ k.toNat < 2 ^ 16 := Nat.lt_of_le_of_lt (Nat.div_le_self _ _) ha
    rw [Nat.mod_eq_of_lt hq]
    have e : ∀ j : Nat, (a.toNat : Int).fdiv (2 ^ j) = ((a.toNat / 2 ^ j : Nat) : Int) := fun j => by
      have h2 : (0 : Int) ≤ 2 ^ j := Int.pow_nonneg (by decide)
      rw [Int.fdiv_eq_ediv_of_nonneg _ h2, Int.natCast_ediv, Int.natCast_pow]
      rfl
    rcases Nat.le_total k.toNat 16 with h | h
    · rw [Nat.min_eq_left h, e]
    · rw [Nat.min_eq_right h, e, Nat.div_eq_of_lt ha, Nat.div_eq_of_lt (Nat.lt_of_lt_of_le ha (Nat.pow_le_pow_right (by decide) h))]
theorem ltB16 : tb (decide ((a.toNat : Int) < (b.toNat : Int))) = tb (decide (a < b)) := by
  refine eb ?_
  rw [decide_eq_decide]
  simp only [GT.gt, GE.ge, UInt16.lt_iff_toNat_lt]
  omega
theorem leB16 : tb (decide ((a.toNat : Int) ≤ (b.toNat : Int))) = tb (decide (a ≤ b)) := by
  refine eb ?_
  rw [decide_eq_decide]
  simp only [GT.gt, GE.ge, UInt16.le_iff_toNat_le]
  omega
theorem gtB16 : tb (decide ((a.toNat : Int) > (b.toNat : Int))) = tb (decide (a > b)) := by
  refine eb ?_
  rw [decide_eq_decide]
  simp only [GT.gt, GE.ge, UInt16.lt_iff_toNat_lt]
  omega
theorem geB16 : tb (decide ((a.toNat : Int) ≥ (b.toNat : Int))) = tb (decide (a ≥ b)) := by
  refine eb ?_
  rw [decide_eq_decide]
  simp only [GT.gt, GE.ge, UInt16.le_iff_toNat_le]
  omega
theorem eqB16 : tb ((a.toNat : Int) == (b.toNat : Int)) = tb (a == b) := by
  refine eb ?_
  rw [Bool.eq_iff_iff]
  simp only [beq_iff_eq, bne_iff_ne, ne_eq, ← UInt16.toNat_inj]
  omega
theorem neB16 : tb ((a.toNat : Int) != (b.toNat : Int)) = tb (a != b) := by
  refine eb ?_
  rw [Bool.eq_iff_iff]
  simp only [beq_iff_eq, bne_iff_ne, ne_eq, ← UInt16.toNat_inj]
  omega
theorem cv16_8 : (.leaf (.int .u8 (IntKind.u8.wrap (a.toNat : Int))) : T) = t8 a.toUInt8 := by
  congr 2
  all_goals
    rw [wrap8, UInt16.toNat_toUInt8]
    have h := lt16 a
    all_goals omega
theorem cv16_16 : (.leaf (.int .u16 (IntKind.u16.wrap (a.toNat : Int))) : T) = t16 a := by
  congr 2
  all_goals
    rw [wrap16]
    have h := lt16 a
    exact Int.emod_eq_of_lt h.2 h.1
theorem cv16_32 : (.leaf (.int .u32 (IntKind.u32.wrap (a.toNat : Int))) : T) = t32 a.toUInt32 := by
  congr 2
  all_goals
    rw [wrap32', UInt16.toNat_toUInt32]
    have h := lt16 a
    all_goals omega
theorem cv16_64 : (.leaf (.int .u64 (IntKind.u64.wrap (a.toNat : Int))) : T) = t64 a.toUInt64 := by
  congr 2
  all_goals
    rw [wrap64', UInt16.toNat_toUInt64]
    have h := lt16 a
    all_goals omega
theorem cv16_i : ti (IntKind.i64.wrap (a.toNat : Int)) = ti (a.toNat : Int) := by
  exact iw _ (by have := lt16 a; omega)
theorem cvi_16 (x : Int) : (.leaf (.int .u16 (IntKind.u16.wrap x)) : T) = t16 (u16i x) := by
  congr 2
  all_goals
    rw [wrap16]
    unfold u16i
    rw [UInt16.toNat_ofNat']
    have h1 := Int.emod_nonneg x (show (65536 : Int) ≠ 0 by decide)
    have h2 := Int.emod_lt_of_pos x (show (0 : Int) < 65536 by decide)
    omega
theorem min16 : (.leaf (.int .u16 (if (b.toNat : Int) < (a.toNat : Int) then (b.toNat : Int) else (a.toNat : Int))) : T) = t16 (if b < a then b else a) := by
  have e : ((b.toNat : Int) < (a.toNat : Int)) ↔ b < a := by rw [UInt16.lt_iff_toNat_lt]; omega
  congr 2
  by_cases h : b < a
  · rw [if_pos h, if_pos (e.2 h)]
  · rw [if_neg h, if_neg (fun q => h (e.1 q))]
theorem max16 : (.leaf (.int .u16 (if (b.toNat : Int) > (a.toNat : Int) then (b.toNat : Int) else (a.toNat : Int))) : T) = t16 (if b > a then b else a) := by
  have e : ((b.toNat : Int) > (a.toNat : Int)) ↔ b > a := by simp only [GT.gt]; rw [UInt16.lt_iff_toNat_lt]; omega
  congr 2
  by_cases h : b > a
  · rw [if_pos h, if_pos (e.2 h)]
  · rw [if_neg h, if_neg (fun q => h (e.1 q))]
end
section
variable (a b : UInt32)
theorem lt32 : (a.toNat : Int) < 4294967296 ∧ 0 ≤ (a.toNat : Int) := by
  have := a.toNat_lt
  omega
theorem add32 : (.leaf (.int .u32 (IntKind.u32.wrap ((a.toNat : Int) + (b.toNat : Int)))) : T) = t32 (a + b) := by
  congr 2
  all_goals
    rw [wrap32', UInt32.toNat_add]
    all_goals omega
theorem sub32 : (.leaf (.int .u32 (IntKind.u32.wrap ((a.toNat : Int) - (b.toNat : Int)))) : T) = t32 (a - b) := by
  congr 2
  all_goals
    rw [wrap32', UInt32.toNat_sub]
    have := lt32 a
    have := lt32 b
    omega
theorem mul32 : (.leaf (.int .u32 (IntKind.u32.wrap ((a.toNat : Int) * (b.toNat : Int)))) : T) = t32 (a * b) := by
  congr 2
  all_goals
    rw [wrap32', UInt32.toNat_mul, Int.natCast_emod, Int.natCast_mul]
    all_goals rfl
theorem quo32 : (.leaf (.int .u32 (IntKind.u32.wrap ((a.toNat : Int).tdiv (b.toNat : Int)))) : T) = t32 (a / b) := by
  congr 2
  all_goals
    have h := lt32 (a / b)
    rw [UInt32.toNat_div] at h
    rw [wrap32', UInt32.toNat_div, Int.tdiv_eq_ediv_of_nonneg (by omega), ← Int.natCast_ediv]
    exact Int.emod_eq_of_lt h.2 h.1
theorem rem32 : (.leaf (.int .u32 ((a.toNat : Int).tmod (b.toNat : Int))) : T) = t32 (a % b) := by
  congr 2
  all_goals
    rw [UInt32.toNat_mod, Int.tmod_eq_emod_of_nonneg (by omega), ← Int.natCast_emod]
theorem and32 : (.leaf (.int .u32 (IntKind.u32.wrap (((BitVec.ofInt (IntKind.bits .u32) (a.toNat : Int) &&& BitVec.ofInt (IntKind.bits .u32) (b.toNat : Int)).toNat : Int)))) : T) = t32 (a &&& b) := by
  congr 2
  all_goals
    have e : ∀ c : UInt32, BitVec.ofInt (IntKind.bits .u32) (c.toNat : Int) = c.toBitVec := fun c => by
      apply BitVec.eq_of_toNat_eq
      rw [BitVec.toNat_ofInt]
      have h := lt32 c
      show ((c.toNat : Int) % ((2 ^ 32 : Nat) : Int)).toNat = c.toNat
      have e2 : ((2 ^ 32 : Nat) : Int) = 4294967296 := by decide
      rw [e2]
      omega
    have h := lt32 (a &&& b)
    rw [wrap32', e, e]
    exact Int.emod_eq_of_lt h.2 h.1
theorem or32 : (.leaf (.int .u32 (IntKind.u32.wrap (((BitVec.ofInt (IntKind.bits .u32) (a.toNat : Int) ||| BitVec.ofInt (IntKind.bits .u32) (b.toNat : Int)).toNat : Int)))) : T) = t32 (a ||| b) := by
  congr 2
  all_goals
    have e : ∀ c : UInt32, BitVec.ofInt (IntKind.bits .u32) (c.toNat : Int) = c.toBitVec := fun c => by
      apply BitVec.eq_of_toNat_eq
      rw [BitVec.toNat_ofInt]
      have h := lt32 c
      show ((c.toNat : Int) % ((2 ^ 32 : Nat) : Int)).toNat = c.toNat
      have e2 : ((2 ^ 32 : Nat) : Int) = 4294967296 := by decide
      rw [e2]
      omega
    have h := lt32 (a ||| b)
    rw [wrap32', e, e]
    exact Int.emod_eq_of_lt h.2 h.1
theorem xor32 : (.leaf (.int .u32 (IntKind.u32.wrap (((BitVec.ofInt (IntKind.bits .u32) (a.toNat : Int) ^^^ BitVec.ofInt (IntKind.bits .u32) (b.toNat : Int)).toNat : Int)))) : T) = t32 (a ^^^ b) := by
  congr 2
  all_goals
    have e : ∀ c : UInt32, BitVec.ofInt (IntKind.bits .u32) (c.toNat : Int) = c.toBitVec := fun c => by
      apply BitVec.eq_of_toNat_eq
      rw [BitVec.toNat_ofInt]
      have h := lt32 c
      show ((c.toNat : Int) % ((2 ^ 32 : Nat) : Int)).toNat = c.toNat
      have e2 : ((2 ^ 32 : Nat) : Int) = 4294967296 := by decide
      rw [e2]
      omega
    have h := lt32 (a ^^^ b)
    rw [wrap32', e, e]
    exact Int.emod_eq_of_lt h.2 h.1
theorem not32 : (.leaf (.int .u32 (IntKind.u32.wrap (((BitVec.ofInt (IntKind.bits .u32) (if (IntKind.u32).signed = true then -1 else IntKind.u32.max) ^^^ BitVec.ofInt (IntKind.bits .u32) (a.toNat : Int)).toNat : Int)))) : T) = t32 (~~~a) := by
  congr 2
  all_goals
    have e : ∀ c : UInt32, BitVec.ofInt (IntKind.bits .u32) (c.toNat : Int) = c.toBitVec := fun c => by
      apply BitVec.eq_of_toNat_eq
      rw [BitVec.toNat_ofInt]
      have h := lt32 c
      show ((c.toNat : Int) % ((2 ^ 32 : Nat) : Int)).toNat = c.toNat
      have e2 : ((2 ^ 32 : Nat) : Int) = 4294967296 := by decide
      rw [e2]
      omega
    have e2 : BitVec.ofInt (IntKind.bits .u32) (if (IntKind.u32).signed = true then -1 else IntKind.u32.max) = BitVec.allOnes 32 := by rfl
    have e3 : ((~~~a : UInt32).toBitVec) = BitVec.allOnes 32 ^^^ a.toBitVec := by rw [BitVec.xor_comm, BitVec.xor_allOnes]; rfl
    have h := lt32 (~~~a)
    rw [wrap32', e, e2]
    have e4 : (BitVec.allOnes 32 ^^^ a.toBitVec).toNat = (~~~a).toNat := by rw [← e3]; rfl
    show (((BitVec.allOnes 32 ^^^ a.toBitVec).toNat : Nat) : Int) % 4294967296 = _
    rw [e4]
    exact Int.emod_eq_of_lt h.2 h.1
def shl32 (a : UInt32) (k : Int) : UInt32 := UInt32.ofNat (a.toNat * 2 ^ k.toNat)
def shr32 (a : UInt32) (k : Int) : UInt32 := UInt32.ofNat (a.toNat / 2 ^ k.toNat)
theorem shlT32 (k : Int) : (.leaf (.int .u32 (IntKind.u32.wrap ((a.toNat : Int) * 2 ^ (min k.toNat (IntKind.bits .u32))))) : T) = t32 (shl32 a k) := by
  congr 2
  all_goals
    simp only [IntKind.bits]
    unfold shl32
    rw [wrap32', UInt32.toNat_ofNat']
    have e0 : ∀ x : Nat, ((x % 2 ^ 32 : Nat) : Int) = (x : Int) % 4294967296 := fun x => by rw [Int.natCast_emod]; rfl
    rw [e0]
    rcases Nat.le_total k.toNat 32 with h | h
    · rw [Nat.min_eq_left h, Int.natCast_mul, Int.natCast_pow]; rfl
    · rw [Nat.min_eq_right h]
      obtain ⟨d, hd⟩ := Nat.exists_eq_add_of_le h
      have e1 : a.toNat * 2 ^ k.toNat = (a.toNat * 2 ^ d) * 4294967296 := by rw [hd, Nat.pow_add, Nat.mul_comm (2 ^ 32), ← Nat.mul_assoc]
      rw [e1, Int.natCast_mul]
      generalize (a.toNat * 2 ^ d : Nat) = z
      have e2 : (2 : Int) ^ 32 = 4294967296 := by decide
      rw [e2]
      omega
theorem shrT32 (k : Int) : (.leaf (.int .u32 ((a.toNat : Int).fdiv (2 ^ (min k.toNat (IntKind.bits .u32))))) : T) = t32 (shr32 a k) := by
  congr 2
  all_goals
    simp only [IntKind.bits]
    unfold shr32
    rw [UInt32.toNat_ofNat']
    have ha := a.toNat_lt
    have hq : a.toNat / 2 ^ k.toNat < 2 ^ 32 := Nat.lt_of_le_of_lt (Nat.div_le_self _ _) ha
    rw [Nat.mod_eq_of_lt hq]
    have e : ∀ j : Nat, (a.toNat : Int).fdiv (2 ^ j) = ((a.toNat / 2 ^ j : Nat) : Int) := fun j => by
      have h2 : (0 : Int) ≤ 2 ^ j := Int.pow_nonneg (by decide)
      rw [Int.fdiv_eq_ediv_of_nonneg _ h2, Int.natCast_ediv, Int.natCast_pow]
      rfl
    rcases Nat.le_total k.toNat 32 with h | h
    · rw [Nat.min_eq_left h, e]
    · rw [Nat.min_eq_right h, e, Nat.div_eq_of_lt ha, Nat.div_eq_of_lt (Nat.lt_of_lt_of_le ha (Nat.pow_le_pow_right (by decide) h))]
theorem ltB32 : tb (decide ((a.toNat : Int) < (b.toNat : Int))) = tb (decide (a < b)) := by
  refine eb ?_
  rw [decide_eq_decide]
  simp only [GT.gt, GE.ge, UInt32.lt_iff_toNat_lt]
  omega
theorem leB32 : tb (decide ((a.toNat : Int) ≤ (b.toNat : Int))) = tb (decide (a ≤ b)) := by
  refine eb ?_
  rw [decide_eq_decide]
  simp only [GT.gt, GE.ge, UInt32.le_iff_toNat_le]
  omega
theorem gtB32 : tb (decide ((a.toNat : Int) > (b.toNat : Int))) = tb (decide (a > b)) := by
  refine eb ?_
  rw [decide_eq_decide]
  simp only [GT.gt, GE.ge, UInt32.lt_iff_toNat_lt]
  omega
theorem geB32 : tb (decide ((a.toNat : Int) ≥ (b.toNat : Int))) = tb (decide (a ≥ b)) := by
  refine eb ?_
  rw [decide_eq_decide]
  simp only [GT.gt, GE.ge, UInt32.le_iff_toNat_le]
  omega
theorem eqB32 : tb ((a.toNat : Int) == (b.toNat : Int)) = tb (a == b) := by
  refine eb ?_
  rw [Bool.eq_iff_iff]
  simp only [beq_iff_eq, bne_iff_ne, ne_eq, ← UInt32.toNat_inj]
  omega
theorem neB32 : tb ((a.toNat : Int) != (b.toNat : Int)) = tb (a != b) := by
  refine eb ?_
  rw [Bool.eq_iff_iff]
  simp only [beq_iff_eq, bne_iff_ne, ne_eq, ← UInt32.toNat_inj]
  omega
theorem cv32_8 : (.leaf (.int .u8 (IntKind.u8.wrap (a.toNat : Int))) : T) = t8 a.toUInt8 := by
  congr 2
  all_goals
    rw [wrap8, UInt32.toNat_toUInt8]
    have h := lt32 a
    all_goals omega
theorem cv32_16 : (.leaf (.int .u16 (IntKind.u16.wrap (a.toNat : Int))) : T) = t16 a.toUInt16 := by
  congr 2
  all_goals
    rw [wrap16, UInt32.toNat_toUInt16]
    have h := lt32 a
    all_goals omega
theorem cv32_32 : (.leaf (.int .u32 (IntKind.u32.wrap (a.toNat : Int))) : T) = t32 a := by
  congr 2
  all_goals
    rw [wrap32']
    have h := lt32 a
    exact Int.emod_eq_of_lt h.2 h.1
theorem cv32_64 : (.leaf (.int .u64 (IntKind.u64.wrap (a.toNat : Int))) : T) = t64 a.toUInt64 := by
  congr 2
  all_goals
    rw [wrap64', UInt32.toNat_toUInt64]
    have h := lt32 a
    all_goals omega
theorem cv32_i : ti (IntKind.i64.wrap (a.toNat : Int)) = ti (a.toNat : Int) := by
  exact iw _ (by have := lt32 a; omega)
theorem cvi_32 (x : Int) : (.leaf (.int .u32 (IntKind.u32.wrap x)) : T) = t32 (u32i x) := by
  congr 2
  all_goals
    rw [wrap32']
    unfold u32i
    rw [UInt32.toNat_ofNat']
    have h1 := Int.emod_nonneg x (show (4294967296 : Int) ≠ 0 by decide)
    have h2 := Int.emod_lt_of_pos x (show (0 : Int) < 4294967296 by decide)
    omega
theorem min32 : (.leaf (.int .u32 (if (b.toNat : Int) < (a.toNat : Int) then (b.toNat : Int) else (a.toNat : Int))) : T) = t32 (if b < a then b else a) := by
  have e : ((b.toNat : Int) < (a.toNat : Int)) ↔ b < a := by rw [UInt32.lt_iff_toNat_lt]; omega
  congr 2
  by_cases h : b < a
  · rw [if_pos h, if_pos (e.2 h)]
  · rw [if_neg h, if_neg (fun q => h (e.1 q))]
theorem max32 : (.leaf (.int .u32 (if (b.toNat : Int) > (a.toNat : Int) then (b.toNat : Int) else (a.toNat : Int))) : T) = t32 (if b > a then b else a) := by
  have e : ((b.toNat : Int) > (a.toNat : Int)) ↔ b > a := by simp only [GT.gt]; rw [UInt32.lt_iff_toNat_lt]; omega
  congr 2
  by_cases h : b > a
  · rw [if_pos h, if_pos (e.2 h)]
  · rw [if_neg h, if_neg (fun q => h (e.1 q))]
end
section
variable (a b : UInt64)
theorem lt64 : (a.toNat : Int) < 18446744073709551616 ∧ 0 ≤ (a.toNat : Int) := by
  have := a.toNat_lt
  omega
theorem add64 : (.leaf (.int .u64 (IntKind.u64.wrap ((a.toNat : Int) + (b.toNat : Int)))) : T) = t64 (a + b) := by
  congr 2
  all_goals
    rw [wrap64', UInt64.toNat_add]
    all_goals omega
theorem sub64 : (.leaf (.int .u64 (IntKind.u64.wrap ((a.toNat : Int) - (b.toNat : Int)))) : T) = t64 (a - b) := by
  congr 2
  all_goals
    rw [wrap64', UInt64.toNat_sub]
    have := lt64 a
    have := lt64 b
    omega
theorem mul64 : (.leaf (.int .u64 (IntKind.u64.wrap ((a.toNat : Int) * (b.toNat : Int)))) : T) = t64 (a * b) := by
  congr 2
  all_goals
    rw [wrap64', UInt64.toNat_mul, Int.natCast_emod, Int.natCast_mul]
    all_goals rfl
theorem quo64 : (.leaf (.int .u64 (IntKind.u64.wrap ((a.toNat : Int).tdiv (b.toNat : Int)))) : T) = t64 (a / b) := by
  congr 2
  all_goals
    have h := lt64 (a / b)
    rw [UInt64.toNat_div] at h
    rw [wrap64', UInt64.toNat_div, Int.tdiv_eq_ediv_of_nonneg (by omega), ← Int.natCast_ediv]
    exact Int.emod_eq_of_lt h.2 h.1
theorem rem64 : (.leaf (.int .u64 ((a.toNat : Int).tmod (b.toNat : Int))) : T) = t64 (a % b) := by
  congr 2
  all_goals
    rw [UInt64.toNat_mod, Int.tmod_eq_emod_of_nonneg (by omega), ← Int.natCast_emod]
theorem and64 : (.leaf (.int .u64 (IntKind.u64.wrap (((BitVec.ofInt (IntKind.bits .u64) (a.toNat : Int) &&& BitVec.ofInt (IntKind.bits .u64) (b.toNat : Int)).toNat : Int)))) : T) = t64 (a &&& b) := by
  congr 2
  all_goals
    have e : ∀ c : UInt64, BitVec.ofInt (IntKind.bits .u64) (c.toNat : Int) = c.toBitVec := fun c => by
      apply BitVec.eq_of_toNat_eq
      rw [BitVec.toNat_ofInt]
      have h := lt64 c
      show ((c.toNat : Int) % ((2 ^ 64 : Nat) : Int)).toNat = c.toNat
      have e2 : ((2 ^ 64 : Nat) : Int) = 18446744073709551616 := by decide
      rw [e2]
      omega
    have h := lt64 (a &&& b)
    rw [wrap64', e, e]
    exact Int.emod_eq_of_lt h.2 h.1
theorem or64 : (.leaf (.int .u64 (IntKind.u64.wrap (((BitVec.ofInt (IntKind.bits .u64) (a.toNat : Int) ||| BitVec.ofInt (IntKind.bits .u64) (b.toNat : Int)).toNat : Int)))) : T) = t64 (a ||| b) := by
  congr 2
  all_goals
    have e : ∀ c : UInt64, BitVec.ofInt (IntKind.bits .u64) (c.toNat : Int) = c.toBitVec := fun c => by
      apply BitVec.eq_of_toNat_eq
      rw [BitVec.toNat_ofInt]
      have h := lt64 c
      show ((c.toNat : Int) % ((2 ^ 64 : Nat) : Int)).toNat = c.toNat
      have e2 : ((2 ^ 64 : Nat) : Int) = 18446744073709551616 := by decide
      rw [e2]
      omega
    have h := lt64 (a ||| b)
    rw [wrap64', e, e]
    exact Int.emod_eq_of_lt h.2 h.1
theorem xor64 : (.leaf (.int .u64 (IntKind.u64.wrap (((BitVec.ofInt (IntKind.bits .u64) (a.toNat : Int) ^^^ BitVec.ofInt (IntKind.bits .u64) (b.toNat : Int)).toNat : Int)))) : T) = t64 (a ^^^ b) := by
  congr 2
  all_goals
    have e : ∀ c : UInt64, BitVec.ofInt (IntKind.bits .u64) (c.toNat : Int) = c.toBitVec := fun c => by
      apply BitVec.eq_of_toNat_eq
      rw [BitVec.toNat_ofInt]
      have h := lt64 c
      show ((c.toNat : Int) % ((2 ^ 64 : Nat) : Int)).toNat = c.toNat
      have e2 : ((2 ^ 64 : Nat) : Int) = 18446744073709551616 := by decide
      rw [e2]
      omega
    have h := lt64 (a ^^^ b)
    rw [wrap64', e, e]
    exact Int.emod_eq_of_lt h.2 h.1
theorem not64 : (.leaf (.int .u64 (IntKind.u64.wrap (((BitVec.ofInt (IntKind.bits .u64) (if (IntKind.u64).signed = true then -1 else IntKind.u64.max) ^^^ BitVec.ofInt (IntKind.bits .u64) (a.toNat : Int)).toNat : Int)))) : T) = t64 (~~~a) := by
  congr 2
  all_goals
    have e : ∀ c : UInt64, BitVec.ofInt (IntKind.bits .u64) (c.toNat : Int) = c.toBitVec := fun c => by
      apply BitVec.eq_of_toNat_eq
      rw [BitVec.toNat_ofInt]
      have h := lt64 c
      show ((c.toNat : Int) % ((2 ^ 64 : Nat) : Int)).toNat = c.toNat
      have e2 : ((2 ^ 64 : Nat) : Int) = 18446744073709551616 := by decide
      rw [e2]
      omega
    have e2 : BitVec.ofInt (IntKind.bits .u64) (if (IntKind.u64).signed = true then -1 else IntKind.u64.max) = BitVec.allOnes 64 := by rfl
    have e3 : ((~~~a : UInt64).toBitVec) = BitVec.allOnes 64 ^^^ a.toBitVec := by rw [BitVec.xor_comm, BitVec.xor_allOnes]; rfl
    have h := lt64 (~~~a)
    rw [wrap64', e, e2]
    have e4 : (BitVec.allOnes 64 ^^^ a.toBitVec).toNat = (~~~a).toNat := by rw [← e3]; rfl
    show (((BitVec.allOnes 64 ^^^ a.toBitVec).toNat : Nat) : Int) % 18446744073709551616 = _
    rw [e4]
    exact Int.emod_eq_of_lt h.2 h.1
def shl64 (a : UInt64) (k : Int) : UInt64 := UInt64.ofNat (a.toNat * 2 ^ k.toNat)
def shr64 (a : UInt64) (k : Int) : UInt64 := UInt64.ofNat (a.toNat / 2 ^ k.toNat)
theorem shlT64 (k : Int) : (.leaf (.int .u64 (IntKind.u64.wrap ((a.toNat : Int) * 2 ^ (min k.toNat (IntKind.bits .u64))))) : T) = t64 (shl64 a k) := by
  congr 2
  all_goals
    simp only [IntKind.bits]
    unfold shl64
    rw [wrap64', UInt64.toNat_ofNat']
    have e0 : ∀ x : Nat, ((x % 2 ^ 64 : Nat) : Int) = (x : Int) % 18446744073709551616 := fun x => by rw [Int.natCast_emod]; rfl
    rw [e0]
    rcases Nat.le_total k.toNat 64 with h | h
    · rw [Nat.min_eq_left h, Int.natCast_mul, Int.natCast_pow]; rfl
    · rw [Nat.min_eq_right h]
      obtain ⟨d, hd⟩ := Nat.exists_eq_add_of_le h
      have e1 : a.toNat * 2 ^ k.toNat = (a.toNat * 2 ^ d) * 18446744073709551616 := by rw [hd, Nat.pow_add, Nat.mul_comm (2 ^ 64), ← Nat.mul_assoc]
      rw [e1, Int.natCast_mul]
      generalize (a.toNat * 2 ^ d : Nat) = z
      have e2 : (2 : Int) ^ 64 = 18446744073709551616 := by decide
      rw [e2]
      omega
theorem shrT64 (k : Int) : (.leaf (.int .u64 ((a.toNat : Int).fdiv (2 ^ (min k.toNat (IntKind.bits .u64))))) : T) = t64 (shr64 a k) := by
  congr 2
  all_goals
    simp only [IntKind.bits]
    unfold shr64
    rw [UInt64.toNat_ofNat']
    have ha := a.toNat_lt
    have hq : a.toNat / 2 ^ k.toNat < 2 ^ 64 := Nat.lt_of_le_of_lt (Nat.div_le_self _ _) ha
    rw [Nat.mod_eq_of_lt hq]
    have e : ∀ j : Nat, (a.toNat : Int).fdiv (2 ^ j) = ((a.toNat / 2 ^ j : Nat) : Int) := fun j => by
      have h2 : (0 : Int) ≤ 2 ^ j := Int.pow_nonneg (by decide)
      rw [Int.fdiv_eq_ediv_of_nonneg _ h2, Int.natCast_ediv, Int.natCast_pow]
      rfl
    rcases Nat.le_total k.toNat 64 with h | h
    · rw [Nat.min_eq_left h, e]
    · rw [Nat.min_eq_right h, e, Nat.div_eq_of_lt ha, Nat.div_eq_of_lt (Nat.lt_of_lt_of_le ha (Nat.pow_le_pow_right (by decide) h))]
theorem ltB64 : tb (decide ((a.toNat : Int) < (b.toNat : Int))) = tb (decide (a < b)) := by
  refine eb ?_
  rw [decide_eq_decide]
  simp only [GT.gt, GE.ge, UInt64.lt_iff_toNat_lt]
  omega
theorem leB64 : tb (decide ((a.toNat : Int) ≤ (b.toNat : Int))) = tb (decide (a ≤ b)) := by
  refine eb ?_
  rw [decide_eq_decide]
  simp only [GT.gt, GE.ge, UInt64.le_iff_toNat_le]
  omega
theorem gtB64 : tb (decide ((a.toNat : Int) > (b.toNat : Int))) = tb (decide (a > b)) := by
  refine eb ?_
  rw [decide_eq_decide]
  simp only [GT.gt, GE.ge, UInt64.lt_iff_toNat_lt]
  omega
theorem geB64 : tb (decide ((a.toNat : Int) ≥ (b.toNat : Int))) = tb (decide (a ≥ b)) := by
  refine eb ?_
  rw [decide_eq_decide]
  simp only [GT.gt, GE.ge, UInt64.le_iff_toNat_le]
  omega
theorem eqB64 : tb ((a.toNat : Int) == (b.toNat : Int)) = tb (a == b) := by
  refine eb ?_
  rw [Bool.eq_iff_iff]
  simp only [beq_iff_eq, bne_iff_ne, ne_eq, ← UInt64.toNat_inj]
  omega
theorem neB64 : tb ((a.toNat : Int) != (b.toNat : Int)) = tb (a != b) := by
  refine eb ?_
  rw [Bool.eq_iff_iff]
  simp only [beq_iff_eq, bne_iff_ne, ne_eq, ← UInt64.toNat_inj]
  omega
theorem cv64_8 : (.leaf (.int .u8 (IntKind.u8.wrap (a.toNat : Int))) : T) = t8 a.toUInt8 := by
  congr 2
  all_goals
    rw [wrap8, UInt64.toNat_toUInt8]
    have h := lt64 a
    all_goals omega
theorem cv64_16 : (.leaf (.int .u16 (IntKind.u16.wrap (a.toNat : Int))) : T) = t16 a.toUInt16 := by
  congr 2
  all_goals
    rw [wrap16, UInt64.toNat_toUInt16]
    have h := lt64 a
    all_goals omega
theorem cv64_32 : (.leaf (.int .u32 (IntKind.u32.wrap (a.toNat : Int))) : T) = t32 a.toUInt32 := by
  congr 2
  all_goals
    rw [wrap32', UInt64.toNat_toUInt32]
    have h := lt64 a
    all_goals omega
theorem cv64_64 : (.leaf (.int .u64 (IntKind.u64.wrap (a.toNat : Int))) : T) = t64 a := by
  congr 2
  all_goals
    rw [wrap64']
    have h := lt64 a
    exact Int.emod_eq_of_lt h.2 h.1
theorem cvi_64 (x : Int) : (.leaf (.int .u64 (IntKind.u64.wrap x)) : T) = t64 (u64i x) := by
  congr 2
  all_goals
    rw [wrap64']
    unfold u64i
    rw [UInt64.toNat_ofNat']
    have h1 := Int.emod_nonneg x (show (18446744073709551616 : Int) ≠ 0 by decide)
    have h2 := Int.emod_lt_of_pos x (show (0 : Int) < 18446744073709551616 by decide)
    omega
theorem min64 : (.leaf (.int .u64 (if (b.toNat : Int) < (a.toNat : Int) then (b.toNat : Int) else (a.toNat : Int))) : T) = t64 (if b < a then b else a) := by
  have e : ((b.toNat : Int) < (a.toNat : Int)) ↔ b < a := by rw [UInt64.lt_iff_toNat_lt]; omega
  congr 2
  by_cases h : b < a
  · rw [if_pos h, if_pos (e.2 h)]
  · rw [if_neg h, if_neg (fun q => h (e.1 q))]
theorem max64 : (.leaf (.int .u64 (if (b.toNat : Int) > (a.toNat : Int) then (b.toNat : Int) else (a.toNat : Int))) : T) = t64 (if b > a then b else a) := by
  have e : ((b.toNat : Int) > (a.toNat : Int)) ↔ b > a := by simp only [GT.gt]; rw [UInt64.lt_iff_toNat_lt]; omega
  congr 2
  by_cases h : b > a
  · rw [if_pos h, if_pos (e.2 h)]
  · rw [if_neg h, if_neg (fun q => h (e.1 q))]
end
end Go.Vw
namespace Go.Vw
open Go Go.RowKit
abbrev u16s (l : List UInt16) : List T := l.map fun c => .leaf (.int .u16 c.toNat)
abbrev u32s (l : List UInt32) : List T := l.map fun c => .leaf (.int .u32 c.toNat)
abbrev u64s (l : List UInt64) : List T := l.map fun c => .leaf (.int .u64 c.toNat)
abbrev i64s (l : List Int) : List T := l.map fun c => .leaf (.int .i64 c)
abbrev bos (l : List Bool) : List T := l.map fun c => .leaf (.bool c)
abbrev tl (g : Tag) (l : List UInt8) : T := .sl 1 g l.length (u8s l)
abbrev b8s (g : Tag) (l : List (List UInt8)) : List T := l.map fun c => tl g c
abbrev strs (l : List (List UInt8)) : List T := l.map fun c => ts c
def slc {α : Type} (l : List α) (lo hi : Int) : List α := (l.drop lo.toNat).take (hi.toNat - lo.toNat)
section
variable {α : Type} {g : α → T} (l l2 : List α)
theorem slc_length {lo hi : Int} (h : 0 ≤ lo ∧ lo ≤ hi ∧ hi ≤ l.length) : (slc l lo hi).length = hi.toNat - lo.toNat := by
  simp [slc]; omega
theorem slc_lenI {lo hi : Int} (h : 0 ≤ lo ∧ lo ≤ hi ∧ hi ≤ l.length) : ((slc l lo hi).length : Int) = hi - lo := by
  rw [slc_length l h]; omega
theorem part1 {i : TI} {cs : List T} {off : Nat} {v : T} (ha : i.agg = false) (h : cs[off]? = some v) : partOf i cs off v := by
  unfold partOf; rw [if_neg (by simp [ha])]; exact h
theorem partA {i : TI} {cs : List T} {off : Nat} {v : T} (ha : i.agg = true) (h : off + i.size ≤ cs.length) (hv : v = .agg (sub cs off i.size)) : partOf i cs off v := by
  unfold partOf; rw [if_pos ha]; exact ⟨h, hv⟩
theorem mp_get {k n : Nat} (d : α) (hk : k = n) (h : n < l.length) : (l.map g)[k]? = some (g (l.getD n d)) := by
  subst hk
  rw [List.getElem?_map, List.getD_eq_getElem?_getD, List.getElem?_eq_getElem h]; rfl
theorem mp_set {k n : Nat} {x : α} {c : List T} (hc : c = [g x]) (hk : k = n) (h : n < l.length) : splice (l.map g) k c = (l.set n x).map g := by
  subst hc; subst hk
  unfold splice
  rw [List.map_set, List.set_eq_take_append_cons_drop, if_pos (by simpa using h)]
  simp
theorem mp_app {c : List T} (hc : c = l2.map g) : sub (l.map g) 0 (l.length * 1) ++ c = (l ++ l2).map g := by
  subst hc
  have e : (l.map g).take (l.length * 1) = l.map g := List.take_of_length_le (by simp)
  simp only [sub, List.drop_zero, e, List.map_append]
theorem mp_app' {c : List T} {m : Nat} (hm : m = l.length) (hc : c = l2.map g) : sub (l.map g) 0 (m * 1) ++ c = (l ++ l2).map g := by
  subst hm; exact mp_app l l2 hc
theorem ref_len {id n m : Nat} (h : n = m) : T.ref id 1 0 n = T.ref id 1 0 m := by rw [h]
theorem mp_all : sub (l.map g) 0 (l.length * 1) = l.map g := by
  have e : (l.map g).take (l.length * 1) = l.map g := List.take_of_length_le (by simp)
  simp only [sub, List.drop_zero, e]
theorem mp_sub {a b : Nat} {lo hi : Int} (ha : a = lo.toNat) (hb : b = hi.toNat - lo.toNat) : sub (l.map g) (a * 1) (b * 1) = (slc l lo hi).map g := by
  subst ha; subst hb
  simp [sub, slc]
theorem sl_slc {t : Tag} {a b : Nat} {lo hi : Int} (h : 0 ≤ lo ∧ lo ≤ hi ∧ hi ≤ l.length) (ha : a = lo.toNat) (hb : b = hi.toNat) :
    T.sl 1 t (b - a) (sub (l.map g) (a * 1) ((b - a) * 1)) = T.sl 1 t (slc l lo hi).length ((slc l lo hi).map g) := by
  subst ha; subst hb
  rw [slc_length l h, mp_sub l (lo := lo) (hi := hi) rfl rfl]
theorem mp_ids (h : ∀ x, (g x).ids = []) : idsL (l.map g) = [] := by
  induction l with
  | nil => rfl
  | cons a l ih => simp only [List.map_cons, idsL, h a, List.nil_append]; exact ih
theorem mp_mem {i : Nat} (h : ∀ x, (g x).ids = []) : memN i (idsL (l.map g)) = false := by rw [mp_ids l h]; rfl
theorem mp_memA {i : Nat} (h : ∀ x, (g x).ids = []) : memN i (T.agg (l.map g)).ids = false := by simp only [T.ids]; exact mp_mem l h
theorem mp_sn {is : List Nat} (h : ∀ x, (g x).ids = []) : subN (idsL (l.map g)) is = true := by rw [mp_ids l h]; rfl
theorem mp_scal (h : ∀ x, (g x).scal = true) : scalL (l.map g) = true := by
  induction l with
  | nil => rfl
  | cons a l ih => simp only [List.map_cons, scalL, h a, Bool.true_and]; exact ih
theorem mp_noB (h : ∀ x, (g x).noB = true) : noBL (l.map g) = true := by
  induction l with
  | nil => rfl
  | cons a l ih => simp only [List.map_cons, noBL, h a, Bool.true_and]; exact ih
theorem mp_zeros {n : Nat} {x : α} {z : List Value} (hz : z.map T.leaf = [g x]) : zerosT z n = (List.replicate n x).map g := by
  induction n with
  | zero => rfl
  | succ n ih => simp only [zerosT, hz, ih, List.replicate_succ, List.map_cons]; rfl
end
theorem bytesOf_sOf (l : List UInt8) : bs (bytesOf (sOf l)) = u8s l := by
  simp [bytesOf, sOf, bs, u8s, Function.comp_def]
theorem sOf_size (l : List UInt8) : (sOf l).size = l.length := by simp [sOf, ByteArray.size]
theorem sOf_toList (l : List UInt8) : (sOf l).toList = l := by
  rw [Lib.toList_data]; simp [sOf]
theorem s_eq (a b : List UInt8) : tb ((sOf a).toList == (sOf b).toList) = tb (a == b) := by rw [sOf_toList, sOf_toList]
theorem s_ne (a b : List UInt8) : tb (!((sOf a).toList == (sOf b).toList)) = tb (a != b) := by rw [sOf_toList, sOf_toList]; rfl
theorem s_add (a b : List UInt8) : T.leaf (.string (sOf a ++ sOf b)) = ts (a ++ b) := by
  congr 2
  all_goals
    apply ByteArray.ext
    simp [sOf]
end Go.Vw
namespace Go.Vw
open Go Go.RowKit
section
variable {E : Env} {Γ : Cx} {f : FuncId} {N : Nat} {S : List Nat} {Post : Value → World → Prop} {k k0 rest : List Item} {σ : St}
theorem Go.regJ {id : Nat} {ops : Array Oper} {d : Bool} (n : Nat) (Lm : List (Nat × T)) (Hm : List (Nat × List T)) (hk : k = k0) (_he : normI n k0 = .code (.region id ops d) :: rest) (H1 : ∀ k', k' = rest → Go E Γ f N S Post k' (stL Lm Hm))
    (H2 : k = k0 → (∀ k', k' = rest → Go E Γ f N S Post k' (stL Lm Hm)) → Go E Γ f N S Post k σ) : Go E Γ f N S Post k σ := H2 hk H1
theorem Go.condJ {c : Operand} {x y : Code} {e : Bool} (n : Nat) (Lm : List (Nat × T)) (Hm : List (Nat × List T)) (hk : k = k0) (he : normI n k0 = .code (.cond c x y) :: rest) (hc : σ.ev c = some (.leaf (.bool e)))
    (H3 : ∀ k', k' = normI 20 rest → Go E Γ f N S Post k' (stL Lm Hm))
    (H1 : (∀ k', k' = normI 20 rest → Go E Γ f N S Post k' (stL Lm Hm)) → e = true → ∀ k', k' = .code x :: rest → Go E Γ f N S Post k' σ)
    (H2 : (∀ k', k' = normI 20 rest → Go E Γ f N S Post k' (stL Lm Hm)) → e = false → ∀ k', k' = .code y :: rest → Go E Γ f N S Post k' σ) : Go E Γ f N S Post k σ := by
  cases e with
  | true => exact Go.cond n hk he hc (by simpa using H1 H3 rfl)
  | false => exact Go.cond n hk he hc (by simpa using H2 H3 rfl)
theorem Go.joinJ {kn0 : List Item} (n : Nat) (hk : k = k0) (J : ∀ k', k' = kn0 → Go E Γ f N S Post k' σ) (he : normI n k0 = kn0) : Go E Γ f N S Post k σ := by
  subst hk; subst he
  exact Go.norm n (J _ rfl)
theorem Go.join {kn kn0 : List Item} (n : Nat) (hk : k = k0) (hkn : kn = kn0) (he : normI n k0 = kn0) (H : Go E Γ f N S Post kn σ) : Go E Γ f N S Post k σ := by
  subst hk; subst hkn; subst he
  exact Go.norm n H
theorem Go.loopX {body : Code} (n : Nat) (hk : k = k0) (he : normI n k0 = .code (.loop body) :: rest) (H : ∀ k' kn, k' = .inLoop body :: rest → kn = normI 20 rest → Go E Γ f N S Post k' σ) : Go E Γ f N S Post k σ :=
  Go.loop n hk he fun k' hk' => H k' _ hk' rfl
theorem Go.slotEq {L : List (Nat × T)} {H : List (Nat × List T)} (t : Nat) {x : T} (y : T) (hx : look L t = some x) (h : x = y) (hg : Go E Γ f N S Post k (stL (ins t y L) H)) : Go E Γ f N S Post k (stL L H) :=
  Go.le t x y hx (T.Le.of_eq h) hg
theorem Go.keepN (ns : List Nat) {L L' : List (Nat × T)} {H : List (Nat × List T)} (hL : keepL L ns = L') (h : Go E Γ f N S Post k (stL L' H)) : Go E Γ f N S Post k (stL L H) := by
  subst hL; exact Go.keep ns h
end
end Go.Vw
namespace Go.Vw
open Go Go.RowKit
def bnd {α β : Type} (v : α) (F : α → β) : β := F v
theorem Go.bnd {E : Env} {Γ : Cx} {f : FuncId} {N : Nat} {S : List Nat} {k : List Item} {α β : Type} {Pf : β → Value → World → Prop} {v : α} {F : α → β} (Lf : α → List (Nat × T)) (Hf : α → List (Nat × List T))
    (h : ∀ x, x = v → Go E Γ f N S (Pf (F x)) k (stL (Lf x) (Hf x))) : Go E Γ f N S (Pf (bnd v F)) k (stL (Lf v) (Hf v)) := h v rfl
end Go.Vw
namespace Go.Vw
open Go Go.RowKit
theorem len_sOf (l : List UInt8) : ti ((sOf l).size : Int) = ti (l.length : Int) := by rw [sOf_size]
theorem sOf_get (l : List UInt8) {n : Int} (h : 0 ≤ n ∧ n < l.length) : 0 ≤ n ∧ (sOf l)[n.toNat]? = some (l.getD n.toNat 0) := by
  refine ⟨h.1, ?_⟩
  have hlt : n.toNat < l.length := by omega
  have hs : n.toNat < (sOf l).size := by rw [sOf_size]; exact hlt
  rw [getElem?_pos (sOf l) n.toNat hs, List.getD_eq_getElem?_getD, List.getElem?_eq_getElem hlt]
  rfl
theorem quoI (a b : Int) (h : 0 ≤ a ∧ 0 < b ∧ a < 9223372036854775808) : ti (IntKind.i64.wrap (a.tdiv b)) = ti (a / b) := by
  rw [Int.tdiv_eq_ediv_of_nonneg h.1]
  have h1 : 0 ≤ a / b := Int.ediv_nonneg h.1 (by omega)
  have h2 : a / b ≤ a := Int.ediv_le_self _ h.1
  exact iw _ (by omega)
theorem remI (a b : Int) (h : 0 ≤ a) : ti (a.tmod b) = ti (a % b) := by rw [Int.tmod_eq_emod_of_nonneg h]
theorem shlI (k : Nat) (x : Int) (h : -9223372036854775808 ≤ x * 2 ^ (min k 64) ∧ x * 2 ^ (min k 64) < 9223372036854775808) : ti (IntKind.i64.wrap (x * 2 ^ (min k 64))) = ti (x * 2 ^ (min k 64)) := iw _ h
theorem shrI (k : Nat) (x : Int) : ti (x.fdiv (2 ^ (min k 64))) = ti (x / 2 ^ (min k 64)) := by
  have : (0 : Int) ≤ 2 ^ (min k 64) := Int.pow_nonneg (by decide)
  rw [Int.fdiv_eq_ediv_of_nonneg _ this]
def andI (a b : Int) : Int := IntKind.i64.wrap (BitVec.ofInt 64 a &&& BitVec.ofInt 64 b).toNat
def orI (a b : Int) : Int := IntKind.i64.wrap (BitVec.ofInt 64 a ||| BitVec.ofInt 64 b).toNat
def xorI (a b : Int) : Int := IntKind.i64.wrap (BitVec.ofInt 64 a ^^^ BitVec.ofInt 64 b).toNat
end Go.Vw
namespace Go.Vw
open Go Go.RowKit
theorem eqIt {a b : Int} (h : (a == b) = true) : a = b := by simpa using h
theorem eqIf {a b : Int} (h : (a == b) = false) : ¬ a = b := by simpa using h
theorem neIt {a b : Int} (h : (a != b) = true) : ¬ a = b := by simpa using h
theorem neIf {a b : Int} (h : (a != b) = false) : a = b := by simpa using h
theorem er_mem {i : Nat} (ty : TypeId) (n : Int) : memN i (er ty n).ids = false := by rw [er_ids]; rfl
end Go.Vw
namespace Go.Vw
open Go Go.RowKit
theorem eqL1 {k : K} {x y : T} {a : Bool} (h : leafEq k x y = some a) : eqL [k] [x] [y] = some a := by simp [eqL, h]
theorem eqLc {k : K} {x y : T} {ks : List K} {xs ys : List T} {a b : Bool} (h : leafEq k x y = some a) (h' : eqL ks xs ys = some b) : eqL (k :: ks) (x :: xs) (y :: ys) = some (a && b) := by simp [eqL, h, h']
theorem eqLt {k : K} {x y : T} {ks : List K} {xs ys : List T} {b : Bool} (h : leafEq k x y = some true) (h' : eqL ks xs ys = some b) : eqL (k :: ks) (x :: xs) (y :: ys) = some b := by simp [eqL, h, h']
theorem eqMt {ks : List K} {cs ds : List T} {b : Bool} (h : eqL ks cs ds = some b) : (eqL ks cs ds).map (eqV .eql) = some b := by rw [h]; rfl
theorem eqMf {ks : List K} {cs ds : List T} {b : Bool} (h : eqL ks cs ds = some b) : (eqL ks cs ds).map (eqV .neq) = some (!b) := by rw [h]; rfl
theorem tb_inj {a b : Bool} (h : tb a = tb b) : a = b := by unfold tb at h; injection h with h; injection h
theorem leq8 (a b : UInt8) : leafEq (.int .u8) (t8 a) (t8 b) = some (a == b) := congrArg some (tb_inj (eqB8 a b))
theorem leq16 (a b : UInt16) : leafEq (.int .u16) (t16 a) (t16 b) = some (a == b) := congrArg some (tb_inj (eqB16 a b))
theorem leq32 (a b : UInt32) : leafEq (.int .u32) (t32 a) (t32 b) = some (a == b) := congrArg some (tb_inj (eqB32 a b))
theorem leq64 (a b : UInt64) : leafEq (.int .u64) (t64 a) (t64 b) = some (a == b) := congrArg some (tb_inj (eqB64 a b))
theorem leqI (a b : Int) : leafEq (.int .i64) (ti a) (ti b) = some (a == b) := rfl
theorem leqB (a b : Bool) : leafEq .bool (tb a) (tb b) = some (a == b) := rfl
theorem leqS (a b : List UInt8) : leafEq .str (ts a) (ts b) = some (a == b) := congrArg some (tb_inj (s_eq a b))
theorem someT {x : Option Bool} {a b : Bool} (h : x = some a) (k : tb a = tb b) : x = some b := by rw [h, tb_inj k]
theorem eqL_u8s : ∀ (n : Nat) (l m : List UInt8), l.length = n → m.length = n → eqL (rep [.int .u8] n) (u8s l) (u8s m) = some (l == m)
  | 0, [], [], _, _ => rfl
  | n + 1, a :: l, b :: m, h1, h2 => by
    have := eqLc (leq8 a b) (eqL_u8s n l m (by simpa using h1) (by simpa using h2))
    exact this
  | 0, _ :: _, _, h, _ => by simp at h
  | 0, [], _ :: _, _, h => by simp at h
  | n + 1, [], _, h, _ => by simp at h
  | n + 1, _ :: _, [], _, h => by simp at h
end Go.Vw
namespace Go.Vw
theorem ntT {x : Bool} (h : (!x) = true) : x = false := by cases x <;> simp_all
theorem ntF {x : Bool} (h : (!x) = false) : x = true := by cases x <;> simp_all
end Go.Vw
namespace Go.Vw
theorem er_noB (ty : Go.TypeId) (n : Int) : (er ty n).noB = true := by unfold er; split <;> rfl
theorem u8s_noB (l : List UInt8) : noBL (u8s l) = true := mp_noB l (fun _ => rfl)
end Go.Vw
namespace Go.Vw
open Go Go.RowKit Go.ChangeShapes Go.WideShapes
abbrev okW (w : World) : Tag → Nat → Prop := fun _ b => b < w.heap.size
abbrev ph : Nat → Real := fun _ => .ph
def RdC (P : Program) (t : TypeId) {α : Type} (g : α → List T) (side : α → Prop) : Prop :=
  ∀ {H : Type} {enc : TypeId × Value → H} {w : World} {fuel : Nat} {cs : List Value} {x : DataW H × List MemPlace}, DataW.trod enc P w 0 (fun _ => true) true fuel t cs = some x → ∃ y, RepL w (okW w) (g y) ph cs ∧ side y
def RdV (P : Program) (t : TypeId) {α : Type} (g : α → T) (side : α → Prop) : Prop :=
  ∀ {H : Type} {enc : TypeId × Value → H} {w : World} {v : Value} {d : DataW H} {ps : List MemPlace} {base : Nat}, Value.okWide P w .any base t v → DataW.Trod enc P w 0 (fun _ => true) true t v d ps → ∃ y, Rep w (okW w) (g y) ph v ∧ side y
section
variable {P : Program} {t e : TypeId}
theorem one_rep {w : World} {g : T} {v : Value} (h : RepL w (okW w) [g] ph [v]) : Rep w (okW w) g ph v := by
  simp only [RepL] at h
  obtain ⟨u, us, e1, h1, h2⟩ := h
  simp only [List.cons.injEq] at e1
  obtain ⟨rfl, _⟩ := e1
  exact h1
theorem rep_one {w : World} {g : T} {v : Value} (h : Rep w (okW w) g ph v) : RepL w (okW w) [g] ph [v] := by
  simp only [RepL]; exact ⟨v, [], rfl, h, rfl⟩
theorem RdC.v {α : Type} {g : α → T} {side : α → Prop} (h : RdC P t (fun y => [g y]) side) (hs : ∀ d, P.underlying t = some d → (match d with | .struct _ | .array _ _ => False | _ => True)) : RdV P t g side := by
  intro H enc w v d ps base hv ⟨fuel, hf⟩
  have hone : v.cells.toList = [v] := by
    unfold Value.okWide at hv
    have hx : ∀ r, P.underlying t = r → Cell.okWide P w .any base t v → v.cells.toList = [v] := by
      intro r _ hc
      unfold Cell.okWide at hc
      cases v <;> first | rfl | skip
      all_goals (split at hc <;> simp_all [Cell.ok])
    split at hv
    · rename_i hq; exact (hs _ hq).elim
    · rename_i hq; exact (hs _ hq).elim
    · exact hx _ rfl hv
  rw [hone] at hf
  obtain ⟨y, h1, h2⟩ := h hf
  exact ⟨y, one_rep h1, h2⟩
theorem wf_bounds {k : IntKind} {n : Int} (h : (Lit.int k n).wf = true) : k.min ≤ n ∧ n ≤ k.max := by
  simpa [Lit.wf] using h
theorem rd_i64 (ht : P.underlying t = some (.int .i64)) : RdC P t (fun n : Int => [ti n]) (fun n => -9223372036854775808 ≤ n ∧ n ≤ 9223372036854775807) := by
  intro H enc w fuel cs x h
  obtain ⟨n, rfl, _, hw⟩ := DataW.trod_int ht h
  have := wf_bounds hw
  refine ⟨n, rep_one (by simp only [Rep]), ?_⟩
  have e1 : IntKind.i64.min = -9223372036854775808 := by decide
  have e2 : IntKind.i64.max = 9223372036854775807 := by decide
  rw [e1, e2] at this; exact this
theorem rd_u8 (ht : P.underlying t = some (.int .u8)) : RdC P t (fun n : UInt8 => [t8 n]) (fun _ => True) := by
  intro H enc w fuel cs x h
  obtain ⟨n, rfl, _, hw⟩ := DataW.trod_int ht h
  have hb := wf_bounds hw
  have e1 : IntKind.u8.min = 0 := by decide
  have e2 : IntKind.u8.max = 255 := by decide
  rw [e1, e2] at hb
  refine ⟨UInt8.ofNat n.toNat, rep_one ?_, trivial⟩
  simp only [Rep, UInt8.toNat_ofNat']
  congr 1; omega
theorem rd_u16 (ht : P.underlying t = some (.int .u16)) : RdC P t (fun n : UInt16 => [t16 n]) (fun _ => True) := by
  intro H enc w fuel cs x h
  obtain ⟨n, rfl, _, hw⟩ := DataW.trod_int ht h
  have hb := wf_bounds hw
  have e1 : IntKind.u16.min = 0 := by decide
  have e2 : IntKind.u16.max = 65535 := by decide
  rw [e1, e2] at hb
  refine ⟨UInt16.ofNat n.toNat, rep_one ?_, trivial⟩
  simp only [Rep, UInt16.toNat_ofNat']
  congr 1; omega
theorem rd_u32 (ht : P.underlying t = some (.int .u32)) : RdC P t (fun n : UInt32 => [t32 n]) (fun _ => True) := by
  intro H enc w fuel cs x h
  obtain ⟨n, rfl, _, hw⟩ := DataW.trod_int ht h
  have hb := wf_bounds hw
  have e1 : IntKind.u32.min = 0 := by decide
  have e2 : IntKind.u32.max = 4294967295 := by decide
  rw [e1, e2] at hb
  refine ⟨UInt32.ofNat n.toNat, rep_one ?_, trivial⟩
  simp only [Rep, UInt32.toNat_ofNat']
  congr 1; omega
theorem rd_u64 (ht : P.underlying t = some (.int .u64)) : RdC P t (fun n : UInt64 => [t64 n]) (fun _ => True) := by
  intro H enc w fuel cs x h
  obtain ⟨n, rfl, _, hw⟩ := DataW.trod_int ht h
  have hb := wf_bounds hw
  have e1 : IntKind.u64.min = 0 := by decide
  have e2 : IntKind.u64.max = 18446744073709551615 := by decide
  rw [e1, e2] at hb
  refine ⟨UInt64.ofNat n.toNat, rep_one ?_, trivial⟩
  simp only [Rep, UInt64.toNat_ofNat']
  congr 1; omega
theorem rd_bool (ht : P.underlying t = some .bool) : RdC P t (fun b : Bool => [tb b]) (fun _ => True) := by
  intro H enc w fuel cs x h
  obtain ⟨b, rfl, _⟩ := DataW.trod_bool ht h
  exact ⟨b, rep_one (by simp only [Rep]), trivial⟩
theorem rd_str (ht : P.underlying t = some .string) : RdC P t (fun s : List UInt8 => [ts s]) (fun s => s.length ≤ 9223372036854775807) := by
  intro H enc w fuel cs x h
  obtain ⟨s, rfl, _, hs⟩ := DataW.trod_string ht h
  refine ⟨s.data.toList, rep_one ?_, ?_⟩
  · simp only [Rep, sOf]
  · have h1 : s.data.toList.length = s.size := Array.length_toList
    show s.data.toList.length ≤ _
    rw [h1]
    unfold maxLen at hs
    omega
theorem exists_list {α : Type} {Q : Nat → α → Prop} : ∀ (n : Nat), (∀ i, i < n → ∃ y, Q i y) → ∃ l : List α, l.length = n ∧ ∀ i y, l[i]? = some y → Q i y
  | 0, _ => ⟨[], rfl, fun i y e => by simp at e⟩
  | n + 1, h => by
    obtain ⟨l, hl, hq⟩ := exists_list n (fun i hi => h i (by omega))
    obtain ⟨y, hy⟩ := h n (by omega)
    refine ⟨l ++ [y], by simp [hl], fun i z e => ?_⟩
    rw [List.getElem?_append] at e
    split at e
    · exact hq i z e
    · rename_i hi
      have : i - l.length = 0 := by
        rcases Nat.eq_zero_or_pos (i - l.length) with h0 | h0
        · exact h0
        · rw [List.getElem?_eq_none (by simp; omega)] at e; simp at e
      rw [this] at e
      simp at e; subst e
      have : i = n := by omega
      rw [this]; exact hy
theorem repAt_map {α : Type} {w : World} {ok : Tag → Nat → Prop} {b : Nat} {g : α → T} : ∀ (l : List α) (o : Nat), (∀ i y, l[i]? = some y → ∃ v, w.cell? ⟨b, o + i, none⟩ = some v ∧ Rep w ok (g y) ph v) → RepAt w ok b (l.map g) o
  | [], _, _ => by simp only [List.map_nil, RepAt]
  | y :: l, o, h => by
    simp only [List.map_cons, RepAt]
    refine ⟨by simpa using h 0 y rfl, repAt_map l (o + 1) fun i z e => ?_⟩
    have := h (i + 1) z (by simpa using e)
    rw [show o + 1 + i = o + (i + 1) from by omega]; exact this
theorem rd_sl {α : Type} {g : α → T} {side : α → Prop} (ht : P.underlying t = some (.slice e)) (hc : P.cellsOf e = 1) (he : RdC P e (fun y => [g y]) side) (hg : ∀ y, (g y).ids = []) :
    RdC P t (fun l : List α => [.sl 1 .shr l.length (l.map g)]) (fun l => l.length ≤ 9223372036854775807 ∧ ∀ y ∈ l, side y) := by
  intro H enc w fuel cs x h
  rcases DataW.trod_slice ht h with ⟨rfl, _⟩ | ⟨a, len, cap, elems, rest, n, rfl, rfl, rfl, _, hlc, hcm, hlen, hel, _⟩
  · refine ⟨[], rep_one ?_, Nat.zero_le _, fun y hy => by cases hy⟩
    simp only [Rep]
    exact ⟨⟨by simp, by simp [idsL]⟩, none, 0, rfl, by simp, .inl (by simp)⟩
  · have hget : ∀ i, i < len → ∃ y, (∃ v, w.cell? (a.add i) = some v ∧ Rep w (okW w) (g y) ph v) ∧ side y := by
      intro i hi
      have h1 := hel i hi
      rw [hc, Nat.mul_one] at h1
      rw [List.getElem?_eq_getElem (by omega)] at h1
      obtain ⟨c, hcell, htr⟩ := Option.bind_eq_some_iff.1 h1
      obtain ⟨y, h2, h3⟩ := he htr
      simp only [World.cells?, Nat.zero_le, if_true, List.range_one, List.mapM_cons, List.mapM_nil, Option.bind_eq_bind, Option.pure_def] at hcell
      obtain ⟨v, hv, hc2⟩ := Option.bind_eq_some_iff.1 hcell
      simp only [Option.bind_some, Option.some.injEq] at hc2
      subst hc2
      have ha0 : ((a.add i).add 0) = a.add i := by unfold Addr.add; split <;> simp_all
      rw [ha0] at hv
      exact ⟨y, ⟨v, hv, one_rep h2⟩, h3⟩
    obtain ⟨l, hl, hq⟩ := exists_list len hget
    refine ⟨l, rep_one ?_, ?_, fun y hy => ?_⟩
    · simp only [Rep]
      refine ⟨⟨by simp, mp_ids l hg⟩, some a, cap, by rw [hl], by omega, ?_⟩
      by_cases h0 : l.length = 0
      · exact .inl h0
      · right
        obtain ⟨y0, hy0⟩ : ∃ y0, l[0]? = some y0 := ⟨l[0], List.getElem?_eq_getElem (by omega)⟩
        obtain ⟨⟨v0, hv0, _⟩, _⟩ := hq 0 y0 hy0
        have hsp : a.spot = none := by
          unfold World.cell? at hv0
          split at hv0
          · split at hv0
            · simp at hv0
            · rename_i hns
              cases hsa : a.spot with
              | none => rfl
              | some q => simp [Addr.add, hsa] at hns
          · simp at hv0
        have hadd : ∀ i, a.add i = ⟨a.block, a.off + i, none⟩ := fun i => by
          cases a with | mk b o s => simp only at hsp; subst hsp; exact addr_add b o i
        have hblk : a.block < w.heap.size := by
          unfold World.cell? at hv0
          rw [hadd] at hv0
          simp only at hv0
          split at hv0
          · rename_i hb; exact (Array.getElem?_eq_some_iff.1 hb).1
          · simp at hv0
        refine ⟨a.block, a.off, ?_, hblk, repAt_map l a.off fun i y e => ?_⟩
        · cases a with | mk b o s => simp only at hsp; subst hsp; rfl
        · obtain ⟨⟨v, hv, hr⟩, _⟩ := hq i y e
          rw [hadd] at hv
          exact ⟨v, hv, hr⟩
    · unfold maxLen at hcm; omega
    · obtain ⟨i, hi, e⟩ := List.getElem_of_mem hy
      exact (hq i y (by rw [List.getElem?_eq_getElem hi, e])).2
end
section
variable {P : Program} {t e : TypeId}
theorem repL_app {w : World} {ok : Tag → Nat → Prop} {β : Nat → Real} : ∀ {a b : List T} {u v : List Value}, RepL w ok a β u → RepL w ok b β v → RepL w ok (a ++ b) β (u ++ v)
  | [], b, u, v, h1, h2 => by simp only [RepL] at h1; subst h1; exact h2
  | x :: a, b, u, v, h1, h2 => by
    simp only [RepL] at h1
    obtain ⟨z, us, rfl, h3, h4⟩ := h1
    simp only [List.cons_append, RepL]
    exact ⟨z, us ++ v, rfl, h3, repL_app h4 h2⟩
theorem RdC.agg {α : Type} {g : α → List T} {side : α → Prop} (h : RdC P t g side) (hs : ∀ d, P.underlying t = some d → (match d with | .struct _ | .array _ _ => True | _ => False)) (hu : (P.underlying t).isSome = true) : RdV P t (fun y => .agg (g y)) side := by
  intro H enc w v d ps base hv ⟨fuel, hf⟩
  obtain ⟨cs, rfl⟩ : ∃ cs, v = .agg cs := by
    unfold Value.okWide at hv
    split at hv
    · obtain ⟨cs, h, _⟩ := hv; exact ⟨cs, h⟩
    · obtain ⟨cs, h, _⟩ := hv; exact ⟨cs, h⟩
    · rename_i h1 h2
      cases hq : P.underlying t with
      | none => rw [hq] at hu; cases hu
      | some d =>
        have := hs d hq
        cases d <;> first | exact this.elim | skip
        all_goals first | exact absurd hq (h1 _) | exact absurd hq (h2 _ _)
  obtain ⟨y, h1, h2⟩ := h hf
  exact ⟨y, by simp only [Rep]; exact ⟨cs.toList, by simp, h1⟩, h2⟩
theorem repL_flat {w : World} {ok : Tag → Nat → Prop} {α : Type} {g : α → List T} {m : Nat} : ∀ (l : List α) (cs : List Value), cs.length = l.length * m → (∀ i y, l[i]? = some y → RepL w ok (g y) ph ((cs.drop (i * m)).take m)) → RepL w ok (l.flatMap g) ph cs
  | [], cs, hl, _ => by
    simp at hl; subst hl; simp only [List.flatMap_nil, RepL]
  | y :: l, cs, hl, h => by
    rw [List.flatMap_cons, ← List.take_append_drop m cs]
    refine repL_app (by simpa using h 0 y rfl) (repL_flat (m := m) l (cs.drop m) (by simp [hl, Nat.succ_mul]) fun i z e => ?_)
    have := h (i + 1) z (by simpa using e)
    rw [List.drop_drop, show m + i * m = (i + 1) * m by rw [Nat.succ_mul]; omega]
    exact this
theorem rd_arr {α : Type} {g : α → List T} {side : α → Prop} {n : Nat} (ht : P.underlying t = some (.array n e)) (hz : P.cellsOf t = n * P.cellsOf e) (he : RdC P e g side) :
    RdC P t (fun l : List α => l.flatMap g) (fun l => l.length = n ∧ ∀ y ∈ l, side y) := by
  intro H enc w fuel cs x h
  obtain ⟨xs, m, rfl, rfl, hl, hn, hg⟩ := DataW.trod_array ht h
  have hget : ∀ i, i < n → ∃ y, RepL w (okW w) (g y) ph ((cs.drop (i * P.cellsOf e)).take (P.cellsOf e)) ∧ side y := by
    intro i hi
    have h1 := hg i hi
    rw [List.getElem?_eq_getElem (by omega)] at h1
    exact he h1
  obtain ⟨l, hl', hq⟩ := exists_list n hget
  refine ⟨l, repL_flat l cs (by rw [hl, hz, hl']) fun i y e => (hq i y e).1, hl', fun y hy => ?_⟩
  obtain ⟨i, hi, e⟩ := List.getElem_of_mem hy
  exact (hq i y (by rw [List.getElem?_eq_getElem hi, e])).2
def RdF (P : Program) (o : Nat) (fs : List Field) (tot : Nat) {α : Type} (g : α → List T) (side : α → Prop) : Prop :=
  ∀ {H : Type} {enc : TypeId × Value → H} {w : World} {cs : List Value}, cs.length = tot → (∀ f ∈ fs, ∃ n x, DataW.trod enc P w 0 (fun _ => true) true n f.type ((cs.drop f.offset).take (P.cellsOf f.type)) = some x) → ∃ y, RepL w (okW w) (g y) ph (cs.drop o) ∧ side y
theorem rdF_one {f : Field} {tot : Nat} {α : Type} {g : α → List T} {side : α → Prop} (h : RdC P f.type g side) (hz : f.offset + P.cellsOf f.type = tot) : RdF P f.offset [f] tot g side := by
  intro H enc w cs hl hf
  obtain ⟨n, x, hx⟩ := hf f (by simp)
  have e : (cs.drop f.offset).take (P.cellsOf f.type) = cs.drop f.offset := List.take_of_length_le (by simp; omega)
  rw [e] at hx
  exact h hx
theorem rdF_cons {f : Field} {fs : List Field} {tot o : Nat} {α β : Type} {g : α → List T} {g' : β → List T} {side : α → Prop} {side' : β → Prop} (h : RdC P f.type g side) (hz : o = f.offset + P.cellsOf f.type) (hr : RdF P o fs tot g' side') :
    RdF P f.offset (f :: fs) tot (fun p : α × β => g p.1 ++ g' p.2) (fun p => side p.1 ∧ side' p.2) := by
  subst hz
  intro H enc w cs hl hf
  obtain ⟨n, x, hx⟩ := hf f (by simp)
  obtain ⟨y, h1, h2⟩ := h hx
  obtain ⟨z, h3, h4⟩ := hr (H := H) (enc := enc) (w := w) hl (fun f' hf' => hf f' (by simp [hf']))
  refine ⟨(y, z), ?_, h2, h4⟩
  have := repL_app h1 h3
  rw [← List.drop_drop, List.take_append_drop] at this
  exact this
theorem rd_struct {fs : Array Field} {tot : Nat} {α : Type} {g : α → List T} {side : α → Prop} (ht : P.underlying t = some (.struct fs)) (hz : P.cellsOf t = tot) (h : RdF P 0 fs.toList tot g side) : RdC P t g side := by
  intro H enc w fuel cs x hx
  obtain ⟨xs, n, rfl, rfl, hl, hlen, hf⟩ := DataW.trod_struct ht hx
  obtain ⟨y, h1, h2⟩ := h (H := H) (enc := enc) (w := w) (hl.trans hz) (fun f hfm => by
    obtain ⟨i, hi, e⟩ := List.getElem_of_mem hfm
    have := hf i f (by rw [← Array.getElem?_toList, List.getElem?_eq_getElem hi, e])
    rw [List.getElem?_eq_getElem (by rw [hlen, ← Array.length_toList]; exact hi)] at this
    exact ⟨n, _, this⟩)
  exact ⟨y, by simpa using h1, h2⟩
end
theorem Below.trodAll {H : Type} {enc : TypeId × Value → H} {P : Program} {W W' : World} (hl : laidOutB P = true) (hb : Below W.heap.size W W') : ∀ {ts : List TypeId} {vs : List Value} {ds : List (DataW H)} {ps : List MemPlace},
    (∀ t ∈ ts, P.readableRec t = true ∧ t < P.types.size) → DataW.TrodAll enc P W 0 (fun _ => true) true ts vs ds ps → (∀ x ∈ ps, x.block < W.heap.size) → DataW.TrodAll enc P W' 0 (fun b => decide (b < W.heap.size)) true ts vs ds ps
  | [], vs, ds, ps, _, h, _ => by
    obtain ⟨rfl, rfl, rfl⟩ := trodAll_nil h
    exact rfl
  | t :: ts, vs, ds, ps, hts, h, hlt => by
    obtain ⟨v, vs', d, ds', p, q, rfl, rfl, rfl, h1, h2⟩ := trodAll_cons h
    exact ⟨p, q, Below.trod hl (hts t (by simp)).1 (hts t (by simp)).2 h1 hb (fun x hx => hlt x (by simp [hx])), Below.trodAll hl hb (fun t ht => hts t (by simp [ht])) h2 (fun x hx => hlt x (by simp [hx])), rfl⟩
theorem law_post {H : Type} {enc : TypeId × Value → H} {P : Program} {f : Func} {s : ChangeSpec} {W W' : World} {args : Array Value} {ds gs : List (DataW H)} {before : List MemPlace} {tb : TypeId} (hl : laidOutB P = true) (htb : P.underlying tb = some .bool)
    (hr : f.resultTypes = #[tb]) (hv0 : s.vars = []) (hts : ∀ t ∈ f.params.toList, P.readableRec t = true ∧ t < P.types.size)
    (hs : s.fn H (ds ++ gs) = { results := [.lit (.bool true)], args := ds }) (hW : DataW.Whole enc P f.params.toList s.vars false W args.toList ds gs before) (hb : Below W.heap.size W W') :
    s.post enc P f false true false false W args (.bool true) W' := by
  have hlt : ∀ p ∈ before, p.block < W.heap.size := fun p hp => hW.lt p hp
  have hW' := hW
  obtain ⟨p, q, hA, hV, rfl, hfz, hnd⟩ := hW'
  rw [hv0] at hV
  obtain ⟨rfl, rfl⟩ : gs = [] ∧ q = [] := by
    cases gs with
    | nil => exact ⟨rfl, hV⟩
    | cons g r => exact absurd hV (by intro h; cases h)
  refine ⟨ds, [], _, [], p, [], hW, ?_, ?_, ?_, World.keptBut_mono (fun x hx => ⟨hx, ?_⟩) (hb.frame (· ∈ p ++ [])), fun h => by cases h⟩
  · rw [hs, hr]
    exact trodAll_mk1 (shut_bool htb true)
  · rw [hs]
    exact Below.trodAll hl hb hts hA (fun x hx => hlt x (by simp [hx]))
  · rw [hs, hv0]; rfl
  · exact .inr (List.mem_append.1 hx)
theorem sl_len {P : Program} {t e : TypeId} {α : Type} {l : List α} {m : Nat} {g : Tag} {c : List T} {w : World} {H : Type} {enc : TypeId × Value → H} {v : Value} {d : DataW H} {ps : List MemPlace} (ht : P.underlying t = some (.slice e)) (hb : 1 ≤ P.bytesOf e)
    (hr : Rep w (okW w) (.sl m g l.length c) ph v) (h : DataW.Trod enc P w 0 (fun _ => true) true t v d ps) (hz : ∀ elems spare, d = .slice elems spare → (elems.length + spare.length) * P.bytesOf e ≤ reachBytes) : l.length ≤ 140737488355328 := by
  simp only [Rep] at hr
  obtain ⟨_, a, cap, rfl, _, _⟩ := hr
  obtain ⟨fuel, hf⟩ := h
  have hone : (Value.slice a l.length cap).cells.toList = [.slice a l.length cap] := rfl
  rw [hone] at hf
  rcases DataW.trod_slice ht hf with ⟨h1, _⟩ | ⟨a', len, cap', elems, rest, n, _, h1, h2, _, _, _, hlen, _⟩
  · simp only [List.cons.injEq, Value.slice.injEq, and_true] at h1
    omega
  · simp only [List.cons.injEq, Value.slice.injEq, and_true] at h1
    have h3 := hz _ _ (congrArg Prod.fst h2)
    rw [List.length_map, List.length_map, hlen] at h3
    have h4 : len ≤ reachBytes := Nat.le_trans (Nat.le_trans (Nat.le_add_right _ _) (Nat.le_mul_of_pos_right _ hb)) h3
    have h5 : reachBytes ≤ 140737488355328 := by decide
    omega
theorem str_len {P : Program} {t : TypeId} {s : List UInt8} {w : World} {H : Type} {enc : TypeId × Value → H} {v : Value} {d : DataW H} {ps : List MemPlace} (ht : P.underlying t = some .string)
    (hr : Rep w (okW w) (ts s) ph v) (h : DataW.Trod enc P w 0 (fun _ => true) true t v d ps) (hz : ∀ bytes, d = .lit (.string bytes) → bytes.length ≤ reachBytes) : s.length ≤ 140737488355328 := by
  simp only [Rep] at hr
  subst hr
  obtain ⟨fuel, hf⟩ := h
  have hone : (Value.string (sOf s)).cells.toList = [.string (sOf s)] := rfl
  rw [hone] at hf
  obtain ⟨b, h1, h2, _⟩ := DataW.trod_string ht hf
  simp only [List.cons.injEq, Value.string.injEq, and_true] at h1
  have h3 := hz _ (congrArg Prod.fst h2)
  rw [← h1] at h3
  have h5 : reachBytes ≤ 140737488355328 := by decide
  have h6 : (sOf s).data.toList.length = s.length := by simp [sOf]
  omega
end Go.Vw

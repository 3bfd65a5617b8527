/- Regions, control, functions, calls. -/
import Derived.Test.YtdlnppcndcfikaaVw9
namespace Go.Vw
set_option linter.unusedVariables false
set_option linter.unusedSimpArgs false
open Go Go.RowKit

/-! ### States as lists -/

def look {α : Type} : List (Nat × α) → Nat → Option α
  | [], _ => none
  | (m, x) :: l, n => if m = n then some x else look l n

def ins {α : Type} (n : Nat) (x : α) : List (Nat × α) → List (Nat × α)
  | [] => [(n, x)]
  | (m, y) :: l => if m = n then (n, x) :: l else (m, y) :: ins n x l

theorem look_ins {α : Type} (n : Nat) (x : α) : ∀ (l : List (Nat × α)), look (ins n x l) = upd (look l) n (some x)
  | [] => by funext m; simp only [ins, look, upd]; split <;> split <;> simp_all
  | (m, y) :: l => by
    funext k
    simp only [ins]
    split
    · rename_i h; subst h; simp only [look, upd]; split <;> split <;> simp_all
    · rename_i h
      simp only [look, look_ins n x l, upd]
      split <;> split <;> simp_all

def purgeS (i : Nat) : List (Nat × T) → List (Nat × T)
  | [] => []
  | (n, t) :: l => (n, t.purge i) :: purgeS i l

def purgeH (i : Nat) : List (Nat × List T) → List (Nat × List T)
  | [] => []
  | (n, cs) :: l => if n = i then purgeH i l else (n, purgeL i cs) :: purgeH i l

theorem look_purgeS (i : Nat) : ∀ (l : List (Nat × T)), look (purgeS i l) = fun t => (look l t).map (T.purge i)
  | [] => rfl
  | (n, t) :: l => by
    funext k
    simp only [purgeS, look, look_purgeS i l]
    split <;> rfl

theorem look_purgeH (i : Nat) : ∀ (l : List (Nat × List T)), look (purgeH i l) = fun j => if j = i then none else (look l j).map (purgeL i)
  | [] => by funext j; simp [purgeH, look]
  | (n, cs) :: l => by
    funext k
    simp only [purgeH]
    split
    · rename_i h; subst h
      rw [look_purgeH n l]
      simp only [look]
      split
      · rfl
      · rename_i h; rw [if_neg (Ne.symm h)]
    · rename_i h
      simp only [look, look_purgeH i l]
      split <;> split <;> simp_all

/-- A state, by lists. -/
def stL (L : List (Nat × T)) (H : List (Nat × List T)) : St := ⟨look L, look H⟩

theorem ev_tmp (L : List (Nat × T)) (H : List (Nat × List T)) (n : Nat) : (stL L H).ev (.tmp n) = look L n := rfl
theorem ev_const (σ : St) (v : Value) : σ.ev (.const v) = some (ofV v) := rfl
theorem ev_func (σ : St) (f : FuncId) : σ.ev (.func f) = some (.fn (.func f) [] []) := rfl
theorem ev_global (σ : St) (g : Nat) : σ.ev (.global g) = some (.leaf (.pointer (some ⟨g, 0, none⟩))) := rfl
theorem stL_s (L H) : (stL L H).s = look L := rfl
theorem stL_h (L H) : (stL L H).h = look H := rfl
theorem stL_drop (L H i) : (stL L H).drop i = stL (purgeS i L) (purgeH i H) := by
  simp only [stL, St.drop, look_purgeS, look_purgeH]

def dropsL : List Nat → List (Nat × T) → List (Nat × List T) → St
  | [], L, H => stL L H
  | i :: is, L, H => dropsL is (purgeS i L) (purgeH i H)

theorem stL_drops : ∀ (is : List Nat) (L H), (stL L H).drops is = dropsL is L H
  | [], _, _ => rfl
  | i :: is, L, H => by simp only [St.drops, stL_drop, stL_drops is, dropsL]

theorem stL_puts : ∀ (ps : List (Nat × List T)) (L H), (stL L H).puts ps = stL L (ps.foldl (fun H p => ins p.1 p.2 H) H)
  | [], _, _ => rfl
  | (i, cs) :: ps, L, H => by
    simp only [St.puts, List.foldl_cons]
    rw [← stL_puts ps]
    congr 1
    simp only [stL, look_ins]

theorem stL_set (L H) (d : Nat) (x : T) : (stL L H).set (some d) x = stL ((d, x) :: L) H := by
  simp only [stL, St.set, St.mk.injEq, and_true]
  funext k; simp only [upd, look]; split <;> split <;> simp_all

theorem stL_setN (L H) (x : T) : (stL L H).set none x = stL L H := rfl

/-! ### A region's operations -/

def guardT (ds : List (Option Nat)) (σ : St) : Option (Nat × Bool) → Option Bool
  | none => some true
  | some (j, want) =>
    match ds[j]? with
    | some (some d) => match σ.s d with | some (.leaf (.bool b)) => some (b == want) | some (.tup []) => some false | _ => none
    | _ => none

theorem dst_at {all : Array Oper} {ds : List (Option Nat)} (h : all.toList.map (·.dst) = ds) {j d : Nat} (e : ds[j]? = some (some d)) : (all[j]?).bind (·.dst) = some d := by
  subst h
  rw [List.getElem?_map] at e
  cases h : all[j]? with
  | none => simp [h] at e
  | some o => simpa [h] using e

/-- The state is told first. -/
def withSt (σ : St) (F : St → Prop) : Prop := F σ
theorem withSt_stL (L : List (Nat × T)) (H : List (Nat × List T)) (F : St → Prop) : withSt (stL L H) F = F (stL L H) := rfl
@[congr] theorem withSt_congr {σ τ : St} {F : St → Prop} (h : σ = τ) : withSt σ F = withSt τ F := by rw [h]

def opsW (E : Env) (S : List Nat) (ds : List (Option Nat)) (K : St → Prop) : List Oper → St → Prop
  | [], σ => K σ
  | o :: l, σ =>
    bindO (guardT ds σ o.guard) fun g => condB g
      (act E σ o.dst (fun e r => putOk σ S r e ∧ withSt (e.apply σ o.dst) fun σ' => opsW E S ds K l σ') o.op)
      (withSt (σ.set o.dst (.tup [])) fun σ' => opsW E S ds K l σ')

theorem opsW_nil {E : Env} {S : List Nat} {ds : List (Option Nat)} {K : St → Prop} {σ : St} : opsW E S ds K [] σ = K σ := rfl
theorem opsW_cons {E : Env} {S : List Nat} {ds : List (Option Nat)} {K : St → Prop} {σ : St} {dst : Option Tmp} {op : Op} {type : TypeId} {pos : String} {after : Array Edge} {g : Option (Nat × Bool)} {l : List Oper} :
    opsW E S ds K (⟨dst, op, type, pos, after, g⟩ :: l) σ = bindO (guardT ds σ g) fun g => condB g
      (act E σ dst (fun e r => putOk σ S r e ∧ withSt (e.apply σ dst) fun σ' => opsW E S ds K l σ') op)
      (withSt (σ.set dst (.tup [])) fun σ' => opsW E S ds K l σ') := rfl
/-- The rows are not looked into, the state is. -/
@[congr] theorem opsW_congr {E : Env} {S : List Nat} {ds : List (Option Nat)} {K : St → Prop} {σ : St} {l : List Oper} : opsW E S ds K l σ = opsW E S ds K l σ := rfl

theorem guardT_wanted {Γ : Cx} {σ : St} {β : Nat → Real} {a : Act} {w : World} (hs : SimB Γ σ β a w) {all : Array Oper} {ds : List (Option Nat)} (hds : all.toList.map (·.dst) = ds) {o : Oper} {r : Bool} (h : guardT ds σ o.guard = some r) : Region.wanted o (yielded all a.tmps) = r := by
  unfold Region.wanted
  cases hg : o.guard with
  | none => rw [hg] at h; simpa [guardT] using h
  | some p =>
    obtain ⟨j, want⟩ := p
    rw [hg] at h
    simp only [guardT] at h
    simp only
    split at h
    · rename_i d hd0
      have hd := dst_at hds hd0
      split at h
      · rename_i b hb
        obtain ⟨v, h1, h2⟩ := hs.slot d _ hb
        simp only [Rep] at h2; subst h2
        have : yielded all a.tmps j = some b := by
          simp only [yielded, hd, Option.bind_some]
          have : a.tmps[d]? = some (.bool b) := h1
          simp [this]
        rw [this]
        simpa using h
      · rename_i hb
        obtain ⟨v, h1, h2⟩ := hs.slot d _ hb
        simp only [Rep, RepL] at h2
        obtain ⟨vs, rfl, rfl⟩ := h2
        have : yielded all a.tmps j = none := by
          simp only [yielded, hd, Option.bind_some]
          have : a.tmps[d]? = some (.tuple (List.toArray [])) := h1
          simp [this]
        rw [this]
        simpa using h
      · simp at h
    · simp at h

theorem SimB.skip {Γ : Cx} {σ : St} {β : Nat → Real} {a : Act} {w : World} (hs : SimB Γ σ β a w) (d : Option Nat) (hd : ∀ n, d = some n → n < Γ.n) : SimB Γ (σ.set d (.tup [])) β (a.put d undef) w :=
  hs.set hd (by simp [Rep, RepL, undef]) (by simp [T.ids, idsL])

theorem opsW_sound {E : Env} {Γ : Cx} {S : List Nat} {all : Array Oper} {ds : List (Option Nat)} (hds : all.toList.map (·.dst) = ds) {Q : Exit → Act → World → Prop} (hP : Γ.P = E.P) (hS : Γ.S = S) (hd : ∀ o ∈ all, ∀ d, o.dst = some d → d < Γ.n) :
    ∀ (l : List Oper) (s : Nat), (∀ j, l[j]? = all[s + j]?) → ∀ (σ : St) (K : St → Prop), opsW E S ds K l σ → (∀ σ' a w, K σ' → Sim Γ σ' a w → Q .normal a w) → ∀ (a : Act) (w : World), Sim Γ σ a w →
      wpOps E.P all Q (List.range' s l.length) a w
  | [], s, _, σ, K, h, hK, a, w, hs => by simpa [wpOps] using hK σ a w h hs
  | o :: l, s, hl, σ, K, h, hK, a, w, ⟨β, hs⟩ => by
    have ho : all[s]? = some o := by have := hl 0; simpa using this.symm
    have hod : ∀ d, o.dst = some d → d < Γ.n := hd o (Array.mem_of_getElem? ho)
    have ih := opsW_sound hds (E := E) (S := S) (Q := Q) hP hS hd l (s + 1) (fun j => by have := hl (j + 1); simpa [Nat.add_assoc, Nat.add_comm 1 j] using this)
    simp only [List.length_cons, List.range'_succ, wpOps, ho]
    simp only [opsW] at h
    obtain ⟨g, hg, h⟩ := h
    cases g with
    | true =>
      rw [condB_true] at h
      rw [guardT_wanted hs hds hg, if_pos rfl]
      obtain ⟨e, r, hact, hput, hnext⟩ := act_sound h
      left
      exact hact Γ σ β a w _ _ hP (fun _ _ => rfl) (fun _ _ => rfl) (by rw [hS]; exact putL_ok hput) hod hs (fun a' w' hs' => ih _ K hnext hK a' w' hs')
    | false =>
      rw [condB_false] at h
      rw [guardT_wanted hs hds hg]
      simp only [Bool.false_eq_true, if_false]
      exact ih _ K h hK _ _ ⟨β, hs.skip o.dst hod⟩

/-! ### Control -/

def normI : Nat → List Item → List Item
  | n + 1, .code .skip :: k => normI n k
  | n + 1, .code (.label _) :: k => normI n k
  | n + 1, .inBlock _ :: k => normI n k
  | n + 1, .code (.seq a b) :: k => normI n (.code a :: .code b :: k)
  | n + 1, .code (.block id c) :: k => normI n (.code c :: .inBlock id :: k)
  | n + 1, .code (.exit id) :: k => match exitTo id k with | some k' => normI n k' | none => .code (.exit id) :: k
  | _, k => k

theorem normI_steps {P : Program} {b : Frame} {a : Act} {cs : List Frame} {w : World} : ∀ (n : Nat) (k : List Item), Steps P (lone (b.at a k) cs w) (lone (b.at a (normI n k)) cs w)
  | 0, k => .refl P _
  | n + 1, [] => .refl P _
  | n + 1, x :: k => by
    cases x with
    | code c =>
      cases c with
      | skip => exact .head step_skip (normI_steps n k)
      | label l => exact .head step_label (normI_steps n k)
      | seq x y => exact .head step_seq (normI_steps n _)
      | block id c => exact .head step_block (normI_steps n _)
      | exit id =>
        simp only [normI]
        split
        · rename_i k' hk; exact .head (step_exit hk) (normI_steps n k')
        · exact .refl P _
      | _ => exact .refl P _
    | inBlock id => exact .head step_inBlock (normI_steps n k)
    | _ => exact .refl P _

/-- From these items on, in this state, the call returns so. -/
def Go (E : Env) (Γ : Cx) (f : FuncId) (N : Nat) (S : List Nat) (Post : Value → World → Prop) (k : List Item) (σ : St) : Prop :=
  Γ.P = E.P → Γ.n = N → Γ.S = S → ∀ a w, Sim Γ σ a w → ∀ (cs : List Frame) (b : Frame), b.fn = f → b.kind = .normal →
    ∃ v w' fr, Post v w' ∧ Steps E.P (lone (b.at a k) cs w) (lone fr cs w') ∧ fr.fn = f ∧ fr.leaving E.P w' (.returned v)

section
variable {E : Env} {Γ : Cx} {f : FuncId} {N : Nat} {S : List Nat} {Post : Value → World → Prop} {k k0 rest : List Item} {σ : St}

theorem Go.norm (n : Nat) (h : Go E Γ f N S Post (normI n k) σ) : Go E Γ f N S Post k σ := fun h1 h2 h3 a w hs cs b hb hk =>
  let ⟨v, w', fr, p, st, r⟩ := h h1 h2 h3 a w hs cs b hb hk
  ⟨v, w', fr, p, (normI_steps n k).trans st, r⟩

def dstB (N : Nat) : List Oper → Bool
  | [] => true
  | o :: l => (match o.dst with | some d => Nat.blt d N | none => true) && dstB N l

theorem dstB_ok (ops : List Oper) (h : dstB N ops = true) : ∀ o ∈ ops, ∀ d, o.dst = some d → d < N := by
  induction ops with
  | nil => intro o ho; simp at ho
  | cons o l ih =>
    intro o' ho' d hd
    simp only [dstB, Bool.and_eq_true] at h
    rcases List.mem_cons.1 ho' with e | ho'
    · subst e
      have := h.1; rw [hd] at this; simpa [Nat.blt_eq] using this
    · exact ih h.2 o' ho' d hd

/-- A region whose order is its text's. -/
theorem Go.region {id : Nat} {ops : Array Oper} (n : Nat) (ds : List (Option Nat)) (hk : k = k0) (he : normI n k0 = .code (.region id ops false) :: rest) (hd : dstB N ops.toList = true) (hds : ops.toList.map (·.dst) = ds)
    (H : ∀ k', k' = rest → opsW E S ds (fun σ' => Go E Γ f N S Post k' σ') ops.toList σ) : Go E Γ f N S Post k σ := by
  subst hk
  refine Go.norm n ?_
  rw [he]
  intro h1 h2 h3 a w hs cs b hb hkd
  have hw := opsW_sound hds (Q := fun e a' w' => e = .normal ∧ ∃ σ', Go E Γ f N S Post rest σ' ∧ Sim Γ σ' a' w') h1 h3 (fun o ho d hod => by rw [h2]; exact dstB_ok _ hd o (by simpa using ho) d hod) ops.toList 0 (fun j => by simp) σ _ (H rest rfl) (fun σ' a' w' hg hs' => ⟨rfl, σ', hg, hs'⟩) a w hs
  rw [← List.range_eq_range', Array.length_toList] at hw
  obtain ⟨e, a', w', ⟨rfl, σ', hg, hs'⟩, harr⟩ := wp_region (id := id) hw b rest cs
  obtain ⟨v, w'', fr, p, st, r⟩ := hg h1 h2 h3 a' w' hs' cs b hb hkd
  exact ⟨v, w'', fr, p, Steps.trans harr st, r⟩

theorem Go.cond {c : Operand} {x y : Code} (n : Nat) (hk : k = k0) (he : normI n k0 = .code (.cond c x y) :: rest) {t : Bool} (hc : σ.ev c = some (.leaf (.bool t)))
    (H : ∀ k', k' = .code (if t then x else y) :: rest → Go E Γ f N S Post k' σ) : Go E Γ f N S Post k σ := by
  subst hk
  refine Go.norm n ?_
  rw [he]
  intro h1 h2 h3 a w hs cs b hb hkd
  obtain ⟨β, hsb⟩ := id hs
  have hv : a.eval c = .bool t := by simpa [Rep] using hsb.ev hc
  obtain ⟨v, w'', fr, p, st, r⟩ := H _ rfl h1 h2 h3 a w hs cs b hb hkd
  exact ⟨v, w'', fr, p, .head (step_cond hv) st, r⟩

/-- A test that both ways go on from. -/
theorem Go.condS {c : Operand} {x y : Code} (n : Nat) (hk : k = k0) (he : normI n k0 = .code (.cond c x y) :: rest) {t : Bool} (hc : σ.ev c = some (.leaf (.bool t)))
    (H1 : t = true → ∀ k', k' = .code x :: rest → Go E Γ f N S Post k' σ) (H2 : t = false → ∀ k', k' = .code y :: rest → Go E Γ f N S Post k' σ) : Go E Γ f N S Post k σ := by
  cases t with
  | true => exact Go.cond n hk he hc (by simpa using H1 rfl)
  | false => exact Go.cond n hk he hc (by simpa using H2 rfl)

/-- A loop is come to. -/
theorem Go.loop {body : Code} (n : Nat) (hk : k = k0) (he : normI n k0 = .code (.loop body) :: rest) (H : ∀ k', k' = .inLoop body :: rest → Go E Γ f N S Post k' σ) : Go E Γ f N S Post k σ := by
  subst hk
  refine Go.norm n ?_
  rw [he]
  intro h1 h2 h3 a w hs cs b hb hkd
  have hl : ∀ {fr : Frame} {m : Machine}, Steps E.P (lone (b.at a (.inLoop body :: rest)) cs w) m → True := fun _ => trivial
  obtain ⟨v, w'', fr, p, ⟨q, hq⟩, r⟩ := H _ rfl h1 h2 h3 a w hs cs b hb hkd
  -- both first steps go to the round
  cases q with
  | zero =>
    exfalso
    simp only [runN, Stepped.next.injEq] at hq
    have hm := congrArg (fun m : Machine => (m.gs[0]?).map (fun g => g.frame.mode matches .returning)) hq
    obtain ⟨hmode, _⟩ := r.2
    simp [lone, Frame.at, hmode] at hm
  | succ q =>
    refine ⟨v, w'', fr, p, ⟨q + 1, ?_⟩, r⟩
    simp only [runN, step_loop, step_inLoop] at hq ⊢
    exact hq

/-- A round of a loop. -/
theorem Go.round {body : Code} (hk : k = .inLoop body :: rest) (H : ∀ k', k' = .code body :: .inLoop body :: rest → Go E Γ f N S Post k' σ) : Go E Γ f N S Post k σ := by
  subst hk
  intro h1 h2 h3 a w hs cs b hb hkd
  obtain ⟨v, w'', fr, p, st, r⟩ := H _ rfl h1 h2 h3 a w hs cs b hb hkd
  exact ⟨v, w'', fr, p, .head step_inLoop st, r⟩

/-- Here it goes on as from there. -/
theorem Go.jump {k1 : List Item} (n : Nat) (hk : k = k0) (hk1 : k1 = normI n k0) (H : Go E Γ f N S Post k1 σ) : Go E Γ f N S Post k σ := by
  subst hk; subst hk1
  exact Go.norm n H

/-- Less is told. -/
theorem Go.weaken {σ' : St} (hs : ∀ t x, σ'.s t = some x → σ.s t = some x) (hh : ∀ id cs, σ'.h id = some cs → σ.h id = some cs)
    (w1 : ∀ t x, σ'.s t = some x → ∀ i ∈ x.ids, σ'.h i ≠ none) (w2 : ∀ id cs, σ'.h id = some cs → ∀ i ∈ idsL cs, σ'.h i ≠ none) (H : Go E Γ f N S Post k σ') : Go E Γ f N S Post k σ :=
  fun h1 h2 h3 a w ⟨β, hsb⟩ => H h1 h2 h3 a w ⟨β, hsb.weaken hs hh w1 w2⟩

def keepL {α : Type} (L : List (Nat × α)) : List Nat → List (Nat × α)
  | [] => []
  | n :: ns => match look L n with | some x => (n, x) :: keepL L ns | none => keepL L ns

theorem look_keepL {α : Type} (L : List (Nat × α)) : ∀ (ns : List Nat) (t : Nat) (x : α), look (keepL L ns) t = some x → look L t = some x
  | [], t, x, h => by simp [keepL, look] at h
  | n :: ns, t, x, h => by
    simp only [keepL] at h
    split at h
    · rename_i y e
      simp only [look] at h
      split at h
      · rename_i e'; subst e'; injection h with h; subst h; exact e
      · exact look_keepL L ns t x h
    · exact look_keepL L ns t x h

/-- These slots are kept, the others forgotten. -/
theorem Go.keep (ns : List Nat) {L : List (Nat × T)} {H : List (Nat × List T)} (h : Go E Γ f N S Post k (stL (keepL L ns) H)) : Go E Γ f N S Post k (stL L H) :=
  fun h1 h2 h3 a w ⟨β, hsb⟩ => h h1 h2 h3 a w ⟨β, hsb.weaken (fun t x e => look_keepL L ns t x e) (fun _ _ e => e) (fun t x e => hsb.wfs t x (look_keepL L ns t x e)) hsb.wfh⟩

/-- An object is forgotten. -/
theorem Go.forget (i : Nat) {L : List (Nat × T)} {H : List (Nat × List T)} (h : Go E Γ f N S Post k (stL (purgeS i L) (purgeH i H))) : Go E Γ f N S Post k (stL L H) :=
  fun h1 h2 h3 a w ⟨β, hsb⟩ => h h1 h2 h3 a w ⟨β, by rw [← stL_drop]; exact hsb.drop i⟩

/-- As the lists differ, so the state does not. -/
theorem Go.same {σ' : St} (h : Go E Γ f N S Post k σ') (e : σ = σ') : Go E Γ f N S Post k σ := e ▸ h

/-! ### Returning -/

def resOne (E : Env) (σ : St) : ResultVar → T → Prop
  | .tmp t, v => σ.s t = some v
  | .cell a ty, v => (E.ti ty).k ≠ .no ∧ bindO (σ.s a) fun p => loadC E.ti σ ty (fun u _ => u = v) p

def resVal (tmps : Array Value) : ResultVar → Sem Value
  | .tmp t => pure (tmps.getD t undef)
  | .cell a t => do loadVar t (← asAddr (tmps.getD a undef))

theorem results_eq (fn : Func) (tmps : Array Value) : results fn tmps = (do let vs ← fn.results.mapM (resVal tmps); pure (if h : vs.size = 1 then vs[0] else .tuple vs)) := by
  unfold results
  congr 1

def resL (E : Env) (σ : St) : List ResultVar → List T → Prop
  | [], vs => vs = []
  | r :: rs, vs => ∃ v us, vs = v :: us ∧ resOne E σ r v ∧ resL E σ rs us

def tupT : List T → T
  | [v] => v
  | vs => .tup vs

theorem resOne_run {β : Nat → Real} {a : Act} {w : World} (hs : SimB Γ σ β a w) {r : ResultVar} {v : T} (h : resOne E σ r v) :
    ∃ x, (resVal a.tmps r).run E.P w = .ok x w ∧ Rep w (okOf Γ.X σ β w) v β x ∧ ∀ i ∈ v.ids, σ.h i ≠ none := by
  cases r with
  | tmp t =>
    simp only [resOne] at h
    exact ⟨_, rfl, hs.ev (x := .tmp t) h, hs.wfs t v h⟩
  | cell p ty =>
    simp only [resOne] at h
    obtain ⟨h0, q, h1, h2⟩ := h
    have hrep : Rep w (okOf Γ.X σ β w) q β (a.tmps.getD p undef) := hs.ev (x := .tmp p) h1
    have ht := E.TOk h0
    cases q <;> simp only [loadC] at h2
    · rename_i g off cs
      obtain ⟨u, hp, rfl⟩ := partC_ok h2
      simp only [Rep] at hrep
      obtain ⟨h0', b, ob, e1, e2, e3⟩ := hrep
      obtain ⟨vs, h5, h6⟩ := e3.open_
      obtain ⟨x, h7, h8⟩ := load_var ht hp h5 h6
      have hi : u.ids = [] := by
        have := hp.ids
        rw [h0'] at this
        exact List.eq_nil_iff_forall_not_mem.2 fun j hj => by simpa using this j hj
      exact ⟨x, by simp only [resVal, e1, asAddr, Sem.run_bind, Sem.run_pure, Result.andThen_ok, h7], h8.sealed hi, by simp [hi]⟩
    · rename_i id off
      obtain ⟨cs, hid, h2⟩ := h2
      obtain ⟨u, hp, rfl⟩ := partC_ok h2
      simp only [Rep] at hrep
      cases hb : β id with
      | ph => rw [hb] at hrep; exact hrep.elim
      | real b ob E' =>
        rw [hb] at hrep
        obtain ⟨c, el, fr, vs, q1, q2, q3, q4, q5, q6⟩ := obj_open hs hid hb
        obtain ⟨x, h7, h8⟩ := load_var ht hp q5 q6
        exact ⟨x, by simp only [resVal, hrep, asAddr, Sem.run_bind, Sem.run_pure, Result.andThen_ok, h7], h8, fun j hj => hs.wfh id cs hid j (hp.ids j hj)⟩

theorem resL_run (hP : Γ.P = E.P) {β : Nat → Real} {a : Act} {w : World} (hs : SimB Γ σ β a w) : ∀ {rs : List ResultVar} {vs : List T}, resL E σ rs vs →
    ∃ xs, (rs.mapM (resVal a.tmps)).run E.P w = .ok xs w ∧ RepL w (okOf Γ.X σ β w) vs β xs ∧ ∀ i ∈ idsL vs, σ.h i ≠ none
  | [], vs, h => by simp only [resL] at h; subst h; exact ⟨[], rfl, by simp [RepL], by simp [idsL]⟩
  | r :: rs, vs, h => by
    simp only [resL] at h
    obtain ⟨v, us, rfl, h1, h2⟩ := h
    obtain ⟨x, e1, e2, e3⟩ := resOne_run hs h1
    obtain ⟨xs, e4, e5, e6⟩ := resL_run hP hs h2
    refine ⟨x :: xs, ?_, by simp only [RepL]; exact ⟨x, xs, rfl, e2, e5⟩, fun i hi => ?_⟩
    · rw [List.mapM_cons, Sem.run_bind]
      simp only [e1, Result.andThen_ok, Sem.run_bind, e4, Sem.run_pure]
    · simp only [idsL, List.mem_append] at hi
      exact hi.elim (e3 i) (e6 i)

theorem results_run (hP : Γ.P = E.P) {fn : Func} {β : Nat → Real} {a : Act} {w : World} (hs : SimB Γ σ β a w) {vs : List T} (h : resL E σ fn.results.toList vs) :
    ∃ x, (results fn a.tmps).run E.P w = .ok x w ∧ Rep w (okOf Γ.X σ β w) (tupT vs) β x ∧ ∀ i ∈ (tupT vs).ids, σ.h i ≠ none := by
  obtain ⟨xs, h1, h2, h3⟩ := resL_run hP hs h
  have hm : (fn.results.mapM (resVal a.tmps)).run E.P w = .ok xs.toArray w := by
    rw [← Array.toArray_toList (xs := fn.results), List.mapM_toArray]
    simp only [Sem.run_map, h1, Result.andThen_ok]
  have hl := h2.length
  refine ⟨if h : xs.toArray.size = 1 then xs.toArray[0] else .tuple xs.toArray, ?_, ?_, ?_⟩
  · rw [results_eq, Sem.run_bind, hm]
    simp only [Result.andThen_ok, Sem.run_pure]
  · match vs, xs, h2, hl with
    | [], xs, h2, hl => simp only [RepL] at h2; subst h2; simp only [tupT, Rep]; exact ⟨[], rfl, by simp [RepL]⟩
    | [v], xs, h2, hl =>
      simp only [RepL] at h2
      obtain ⟨x, us, rfl, h2, h4⟩ := h2
      subst h4
      simpa [tupT] using h2
    | v :: v' :: us, xs, h2, hl =>
      have : ¬ xs.toArray.size = 1 := by simp; rw [hl]; simp
      rw [dif_neg this]
      simp only [tupT, Rep]
      exact ⟨xs, rfl, h2⟩
  · match vs, h3 with
    | [], _ => simp [tupT, T.ids, idsL]
    | [v], h3 => simpa [tupT, idsL] using h3
    | v :: v' :: us, h3 => simpa [tupT, T.ids] using h3
end

/-- The state behind a call: its result, and objects. -/
def retSt (R : T) (H : Nat → Option (List T)) : St := ⟨fun t => if t = 0 then some R else none, H⟩

/-- A call that returns: by walking in, or at once. -/
def Enters (P : Program) (f : FuncId) (args : Array Value) (w : World) (Q : Value → World → Prop) : Prop :=
  ((callFunc f args).run P w = .ok (.enter f args) w ∧ Calls P f args w fun e w' => ∃ v, e = .returned v ∧ Q v w') ∨ ∃ v w', (callFunc f args).run P w = .ok (.value v) w' ∧ Q v w'

theorem Enters.mono {P : Program} {f : FuncId} {args : Array Value} {w : World} {Q Q' : Value → World → Prop} (h : Enters P f args w Q) (k : ∀ v w', Q v w' → Q' v w') : Enters P f args w Q' := by
  rcases h with ⟨h1, h2⟩ | ⟨v, w', h1, h2⟩
  · exact .inl ⟨h1, h2.mono fun e w' ⟨v, e1, e2⟩ => ⟨v, e1, k _ _ e2⟩⟩
  · exact .inr ⟨v, w', h1, k _ _ h2⟩

/-- What a call of a function does, told: given these arguments and objects it returns this, and these objects are then so. -/
def Meets (P : Program) (f : FuncId) (A : List T) (H : List (Nat × List T)) (S : List Nat) (R : T) (H' : List (Nat × List T)) : Prop :=
  ∀ (Γ : Cx) (β : Nat → Real) (vs : List Value), Γ.P = P → Γ.S = S → Γ.n = vs.length → vs.length = A.length → Γ.β0 = β → Γ.lent = own ⟨fun t => A[t]?, look H⟩ β →
    SimB Γ ⟨fun t => A[t]?, look H⟩ β ⟨vs.toArray, []⟩ Γ.w0 →
    Enters P f vs.toArray Γ.w0 fun v w' => Sim { Γ with n := 1 } (retSt R (look H')) ⟨#[v], []⟩ w'

def PostR (Γ : Cx) (R : T) (H' : List (Nat × List T)) (v : Value) (w' : World) : Prop := Sim { Γ with n := 1 } (retSt R (look H')) ⟨#[v], []⟩ w'

section
variable {E : Env} {Γ : Cx} {f : FuncId} {N : Nat} {S : List Nat} {k k0 rest : List Item} {σ : St} {R : T} {H' : List (Nat × List T)}

theorem Go.leave {fn : Func} (n : Nat) (hfn : E.P.funcs[f]? = some fn) (hk : k = k0) (he : normI n k0 = [] ∨ ∃ rest, normI n k0 = .code .ret :: rest) {vs : List T} (hr : resL E σ fn.results.toList vs) (hR : tupT vs = R)
    (hsub : ∀ id cs, look H' id = some cs → σ.h id = some cs) (hi : ∀ i ∈ R.ids, look H' i ≠ none) (hw : ∀ id cs, look H' id = some cs → ∀ i ∈ idsL cs, look H' i ≠ none) : Go E Γ f N S (PostR Γ R H') k σ := by
  subst hk; subst hR
  refine Go.norm n ?_
  intro h1 h2 h3 a w ⟨β, hs⟩ cs b hb hkd
  obtain ⟨x, e1, e2, e3⟩ := results_run h1 hs hr
  have hpost : PostR Γ (tupT vs) H' x w := by
    refine ⟨β, ?_⟩
    have how : ∀ c, own (retSt (tupT vs) (look H')) β c → own σ β c := fun c ⟨id, cs, o, E', q1, q2⟩ => ⟨id, cs, o, E', hsub id cs q1, q2⟩
    have hok : ∀ g c, okOf Γ.X σ β w g c → okOf Γ.X (retSt (tupT vs) (look H')) β w g c ∧ w.heap[c]? = w.heap[c]? := fun g c hc => ⟨⟨hc.1, fun ho => hc.2.1 (how c ho), hc.2.2⟩, rfl⟩
    refine ⟨rfl, rfl, hs.keeps, fun t y e => ?_, fun id cs e => (hs.obj id cs (hsub id cs e)).mono hok (fun _ _ _ _ => rfl) (fun _ _ => rfl),
      fun i1 i2 c1 c2 b1 o1 E1 o2 E2 q1 q2 => hs.inj i1 i2 c1 c2 b1 o1 E1 o2 E2 (hsub _ _ q1) (hsub _ _ q2), fun c hc => hs.ownb c (how c hc), fun t y e => ?_, hw, hs.stab⟩
    · simp only [retSt] at e
      split at e
      · rename_i ht; subst ht; injection e with e; subst e
        exact ⟨x, rfl, Rep.mono hok _ β β x (fun _ _ => rfl) e2⟩
      · simp at e
    · simp only [retSt] at e
      split at e
      · injection e with e; subst e; exact hi
      · simp at e
  rcases he with he | ⟨rest, he⟩ <;> rw [he]
  · exact ⟨x, w, _, hpost, .one step_end, hb, rfl, hs.defers, hkd, fn, by simpa [Frame.at, hb] using hfn, e1⟩
  · exact ⟨x, w, _, hpost, .one step_ret, hb, rfl, hs.defers, hkd, fn, by simpa [Frame.at, hb] using hfn, e1⟩

def idxL : Nat → List T → List (Nat × T)
  | _, [] => []
  | n, t :: ts => (n, t) :: idxL (n + 1) ts

theorem look_idxL : ∀ (A : List T) (n t : Nat), look (idxL n A) t = if n ≤ t then A[t - n]? else none
  | [], n, t => by simp [idxL, look]
  | x :: A, n, t => by
    simp only [idxL, look, look_idxL A (n + 1) t]
    by_cases h : n = t
    · subst h; simp
    · rw [if_neg h]
      by_cases h2 : n ≤ t
      · rw [if_pos (by omega), if_pos h2, show t - n = (t - (n + 1)) + 1 from by omega]; simp
      · rw [if_neg (by omega), if_neg h2]

/-- A function's body, walked. -/
theorem Meets.enter {fn : Func} {c : Code} {A : List T} {H : List (Nat × List T)} (hfn : E.P.funcs[f]? = some fn) (hcall : ∀ args w, (callFunc f args).run E.P w = .ok (.enter f args) w) (hbody : fn.body = some c) (hN : max A.length fn.ntmps = N)
    (h : ∀ (Γ : Cx) (k : List Item), k = [.code c] → Go E Γ f N S (PostR Γ R H') k (stL (idxL 0 A) H)) : Meets E.P f A H S R H' := by
  refine fun Γ β vs hP hS hn hl hβ hlent hs => .inl ⟨hcall _ _, ?_⟩
  intro cs
  let b : Frame := { (default : Frame) with fn := f, kind := .normal }
  let a : Act := { tmps := vs.toArray ++ Array.replicate (fn.ntmps - vs.toArray.size) undef, defers := [] }
  have henter : Frame.enter E.P f vs.toArray .normal = b.at a [.code c] := by
    simp [Frame.enter, Frame.at, hfn, hbody, b, a]
  let Γ' : Cx := { Γ with n := N }
  have hst : stL (idxL 0 A) H = ⟨fun t => A[t]?, look H⟩ := by
    simp only [stL, St.mk.injEq, and_true]
    funext t; rw [look_idxL]; simp
  have hs' : SimB Γ' (stL (idxL 0 A) H) β a Γ.w0 := by
    rw [hst]
    refine ⟨rfl, ?_, hs.keeps, fun t x e => ?_, hs.obj, hs.inj, hs.ownb, hs.wfs, hs.wfh, hs.stab⟩
    · simp [a, Γ']; omega
    · obtain ⟨v, h1, h2⟩ := hs.slot t x e
      exact ⟨v, by simp only [a]; rw [Array.getElem?_append_left (Array.getElem?_eq_some_iff.1 h1).1]; exact h1, h2⟩
  obtain ⟨v, w', fr, p, st, r1, r2⟩ := h Γ' _ rfl hP rfl hS a Γ.w0 ⟨β, hs'⟩ cs b rfl rfl
  refine ⟨.returned v, w', fr, ⟨v, rfl, ?_⟩, ?_, r1, r2⟩
  · exact p
  · rw [henter]; exact st
end
end Go.Vw

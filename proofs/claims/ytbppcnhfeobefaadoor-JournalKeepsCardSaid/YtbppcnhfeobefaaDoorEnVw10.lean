import Derived.Test.YtbppcnhfeobefaaDoorEnVw8
import Derived.CallsIn
set_option linter.unusedVariables false
namespace Go.Vw
open Go Go.RowKit
def look {α : Type} : List (Nat × α) → Nat → Option α
 | [], _ => none
 | (m, x) :: l, n => if m = n then some x else look l n
def ins {α : Type} (n : Nat) (x : α) : List (Nat × α) → List (Nat × α)
 | [] => [(n, x)]
 | (m, y) :: l => if m = n then (n, x) :: l else (m, y) :: ins n x l
theorem look_ins {α : Type} (n : Nat) (x : α) : ∀ (l : List (Nat × α)), look (ins n x l) = upd (look l) n (some x)
 | [] => by funext m; simp only [ins, look, upd]; split <;> split <;> simp_all
 | (m, y) :: l => by
  funext k
  simp only [ins]
  split
  ·rename_i h; subst h; simp only [look, upd]; split <;> split <;> simp_all
  ·rename_i h
   simp only [look, look_ins n x l, upd]
   split <;> split <;> simp_all
def purgeS (i : Nat) : List (Nat × T) → List (Nat × T)
 | [] => []
 | (n, t) :: l => (n, t.purge i) :: purgeS i l
def purgeH (i : Nat) : List (Nat × List T) → List (Nat × List T)
 | [] => []
 | (n, cs) :: l => if n = i then purgeH i l else (n, purgeL i cs) :: purgeH i l
theorem look_purgeS (i : Nat) : ∀ (l : List (Nat × T)), look (purgeS i l) = fun t => (look l t).map (T.purge i)
 | [] => rfl
 | (n, t) :: l => by
  funext k
  simp only [purgeS, look, look_purgeS i l]
  split <;> rfl
theorem look_purgeH (i : Nat) : ∀ (l : List (Nat × List T)), look (purgeH i l) = fun j => if j = i then none else (look l j).map (purgeL i)
 | [] => by funext j; simp [purgeH, look]
 | (n, cs) :: l => by
  funext k
  simp only [purgeH]
  split
  ·rename_i h; subst h
   rw [look_purgeH n l]
   simp only [look]
   split
   ·rfl
   ·rename_i h; rw [if_neg (Ne.symm h)]
  ·rename_i h
   simp only [look, look_purgeH i l]
   split <;> split <;> simp_all
def stL (L : List (Nat × T)) (H : List (Nat × List T)) : St := ⟨look L, look H⟩
theorem stL_drop (L H i) : (stL L H).drop i = stL (purgeS i L) (purgeH i H) := by
 simp only [stL, St.drop, look_purgeS, look_purgeH]
def guardT (ds : List (Option Nat)) (σ : St) : Option (Nat × Bool) → Option Bool
 | none => some true
 | some (j, want) =>
  match ds[j]? with
  | some (some d) => match σ.s d with | some (.leaf (.bool b)) => some (b == want) | some (.tup []) => some false | _ => none
  | _ => none
theorem dst_at {all : Array Oper} {ds : List (Option Nat)} (h : all.toList.map (·.dst) = ds) {j d : Nat} (e : ds[j]? = some (some d)) : (all[j]?).bind (·.dst) = some d := by
 subst h
 rw [List.getElem?_map] at e
 cases h : all[j]? with
 | none => simp [h] at e
 | some o => simpa [h] using e
def withSt (σ : St) (F : St → Prop) : Prop := F σ
@[congr] theorem withSt_congr {σ τ : St} {F : St → Prop} (h : σ = τ) : withSt σ F = withSt τ F := by rw [h]
def opsW (E : Env) (S : List Nat) (ds : List (Option Nat)) (K : St → Prop) : List Oper → St → Prop
 | [], σ => K σ
 | o :: l, σ =>
  bindO (guardT ds σ o.guard) fun g => condB g
   (act E σ o.dst (fun e r => putOk σ S r e ∧ withSt (e.apply σ o.dst) fun σ' => opsW E S ds K l σ') o.op)
   (withSt (σ.set o.dst (.tup [])) fun σ' => opsW E S ds K l σ')
@[congr] theorem opsW_congr {E : Env} {S : List Nat} {ds : List (Option Nat)} {K : St → Prop} {σ : St} {l : List Oper} : opsW E S ds K l σ = opsW E S ds K l σ := rfl
theorem guardT_wanted {Γ : Cx} {σ : St} {β : Nat → Real} {a : Act} {w : World} (hs : SimB Γ σ β a w) {all : Array Oper} {ds : List (Option Nat)} (hds : all.toList.map (·.dst) = ds) {o : Oper} {r : Bool} (h : guardT ds σ o.guard = some r) : Region.wanted o (yielded all a.tmps) = r := by
 unfold Region.wanted
 cases hg : o.guard with
 | none => rw [hg] at h; simpa [guardT] using h
 | some p =>
  obtain ⟨j, want⟩ := p
  rw [hg] at h
  simp only [guardT] at h
  simp only
  split at h
  ·rename_i d hd0
   have hd := dst_at hds hd0
   split at h
   ·rename_i b hb
    obtain ⟨v, h1, h2⟩ := hs.slot d _ hb
    simp only [Rep] at h2; subst h2
    have : yielded all a.tmps j = some b := by
     simp only [yielded, hd, Option.bind_some]
     have : a.tmps[d]? = some (.bool b) := h1
     simp [this]
    rw [this]
    simpa using h
   ·rename_i hb
    obtain ⟨v, h1, h2⟩ := hs.slot d _ hb
    simp only [Rep, RepL] at h2
    obtain ⟨vs, rfl, rfl⟩ := h2
    have : yielded all a.tmps j = none := by
     simp only [yielded, hd, Option.bind_some]
     have : a.tmps[d]? = some (.tuple (List.toArray [])) := h1
     simp [this]
    rw [this]
    simpa using h
   ·simp at h
  ·simp at h
theorem SimB.skip {Γ : Cx} {σ : St} {β : Nat → Real} {a : Act} {w : World} (hs : SimB Γ σ β a w) (d : Option Nat) (hd : ∀ n, d = some n → n < Γ.n) : SimB Γ (σ.set d (.tup [])) β (a.put d undef) w :=
 hs.set hd (by simp [Rep, RepL, undef]) (by simp [T.ids, idsL])
theorem opsW_sound {E : Env} {Γ : Cx} {S : List Nat} {all : Array Oper} {ds : List (Option Nat)} (hds : all.toList.map (·.dst) = ds) {Q : Exit → Act → World → Prop} (hP : Γ.P = E.P) (hS : Γ.S = S) (hd : ∀ o ∈ all, ∀ d, o.dst = some d → d < Γ.n) :
  ∀ (l : List Oper) (s : Nat), (∀ j, l[j]? = all[s + j]?) → ∀ (σ : St) (K : St → Prop), opsW E S ds K l σ → (∀ σ' a w, K σ' → Sim Γ σ' a w → Q .normal a w) → ∀ (a : Act) (w : World), Sim Γ σ a w →
   wpOps E.P all Q (List.range' s l.length) a w
 | [], s, _, σ, K, h, hK, a, w, hs => by simpa [wpOps] using hK σ a w h hs
 | o :: l, s, hl, σ, K, h, hK, a, w, ⟨β, hs⟩ => by
  have ho : all[s]? = some o := by have := hl 0; simpa using this.symm
  have hod : ∀ d, o.dst = some d → d < Γ.n := hd o (Array.mem_of_getElem? ho)
  have ih := opsW_sound hds (E := E) (S := S) (Q := Q) hP hS hd l (s + 1) (fun j => by have := hl (j + 1); simpa [Nat.add_assoc, Nat.add_comm 1 j] using this)
  simp only [List.length_cons, List.range'_succ, wpOps, ho]
  simp only [opsW] at h
  obtain ⟨g, hg, h⟩ := h
  cases g with
  | true =>
   rw [condB_true] at h
   rw [guardT_wanted hs hds hg, if_pos rfl]
   obtain ⟨e, r, hact, hput, hnext⟩ := act_sound h
   left
   exact hact Γ σ β a w _ _ hP (fun _ _ => rfl) (fun _ _ => rfl) (by rw [hS]; exact putL_ok hput) hod hs (fun a' w' hs' => ih _ K hnext hK a' w' hs')
  | false =>
   rw [condB_false] at h
   rw [guardT_wanted hs hds hg]
   simp only [Bool.false_eq_true, if_false]
   exact ih _ K h hK _ _ ⟨β, hs.skip o.dst hod⟩
theorem rowsIn_wide {ro : Option Nat} {n : Nat} {P : Program} {row : String} {args : Array Value} {w : World} {R : Value → World → Prop} (h : Rows P row args w R) : RowsIn { Fence.wide with round := ro } n P row args w R := fun c cs _ => by
 obtain ⟨v, w', r, s⟩ := h c cs
 exact ⟨v, w', r, stepsIn_wide.2 s⟩
theorem wpOps_in {P : Program} {ops : Array Oper} {Q : Exit → Act → World → Prop} (hno : ¬ LetsOut Q) (hd : ∀ o ∈ ops, ∀ c, o.op ≠ .defer c) (ro : Option Nat) :
  ∀ (l : List Nat) (a : Act) (w : World), wpOps P ops Q l a w → wpOpsIn { Fence.wide with round := ro } 0 P ops Q l a w
 | [], a, w, h => h
 | i :: l, a, w, h => by
  simp only [wpOps] at h
  simp only [wpOpsIn]
  cases ho : ops[i]? with
  | none => simp only [ho] at h ⊢; exact wpOps_in hno hd ro l a w h
  | some o =>
   simp only [ho] at h ⊢
   by_cases hw : Region.wanted o (yielded ops a.tmps) = true
   ·simp only [hw, if_true] at h ⊢
    have h := h.resolve_right fun e => hno e.2
    refine ⟨fun _ _ => trivial, ?_⟩
    have hsem : o.semAt ro a.eval = execOp a.eval o := Oper.semAt_eq ro a.eval o (hd o (Array.mem_of_getElem? ho))
    show o.uponIn _ 0 P a _ Q ((o.semAt ro a.eval).run P w)
    rw [hsem]
    unfold Oper.wp at h
    generalize (execOp a.eval o).run P w = r at h ⊢
    have fin : ∀ a' w', wpOps P ops Q l a' w' → wpOpsIn { Fence.wide with round := ro } 0 P ops Q l a' w' := wpOps_in hno hd ro l
    cases r with
    | halt x w' => cases x <;> simp only [Oper.upon, Oper.uponIn] at h ⊢ <;> exact h
    | ok nx w' =>
     cases nx with
     | value v => exact fin _ _ h
     | skip => exact fin _ _ h
     | defer d => exact fin _ _ h
     | enter f args =>
      simp only [Oper.upon, Oper.uponIn] at h ⊢
      refine ⟨fun e => by simp [Fence.wide] at e, (callsIn_wide (n := 0 - 1)).2 (Calls.mono h fun e w'' hq => ?_)⟩
      cases e with
      | returned v => exact fin _ _ hq
      | panicked ch => exact hq
      | outgrown => exact hq
     | row row args =>
      simp only [Oper.upon, Oper.uponIn] at h ⊢
      exact ⟨fun e => by simp [Fence.wide] at e, rowsIn_wide (Rows.mono h fun v w'' hq => fin _ _ hq)⟩
     | _ => simp only [Oper.upon] at h
   ·simp only [hw] at h ⊢
    exact ⟨fun _ _ => trivial, wpOps_in hno hd ro l _ w h⟩
theorem region_steps {P : Program} {ops : Array Oper} {R : Act → World → Prop} {l : List Nat} {a : Act} {w : World} (hd : ∀ o ∈ ops, ∀ c, o.op ≠ .defer c) (h : wpOps P ops (fun e a' w' => e = .normal ∧ R a' w') l a w) (b : Frame) (k : List Item) (cs : List Frame) :
  ∃ a' w', R a' w' ∧ Steps P (lone (b.atR a (.inRegion ops l :: k)) cs w) (lone (b.atR a' k) cs w') := by
 have hno : ¬ LetsOut (fun e (a' : Act) w' => e = Exit.normal ∧ R a' w') := fun ⟨_, _, e, _⟩ => by cases e
 obtain ⟨e, a', w', ⟨rfl, hr⟩, harr⟩ := wp_opsIn l a w (wpOps_in hno hd b.roundOf l a w h) b k cs rfl trivial (room_wide _)
 exact ⟨a', w', hr, stepsIn_wide.1 harr⟩
def normI : Nat → List Item → List Item
 | n + 1, .code .skip :: k => normI n k
 | n + 1, .code (.label _) :: k => normI n k
 | n + 1, .inBlock _ :: k => normI n k
 | n + 1, .code (.seq a b) :: k => normI n (.code a :: .code b :: k)
 | n + 1, .code (.block id c) :: k => normI n (.code c :: .inBlock id :: k)
 | n + 1, .code (.exit id) :: k => match exitTo id k with | some k' => normI n k' | none => .code (.exit id) :: k
 | _, k => k
theorem normI_steps {P : Program} {b : Frame} {a : Act} {cs : List Frame} {w : World} : ∀ (n : Nat) (k : List Item), Steps P (lone (b.atR a k) cs w) (lone (b.atR a (normI n k)) cs w)
 | 0, k => .refl P _
 | n + 1, [] => .refl P _
 | n + 1, x :: k => by
  cases x with
  | code c =>
   cases c with
   | skip => exact .head stepR_skip (normI_steps n k)
   | label l => exact .head stepR_label (normI_steps n k)
   | seq x y => exact .head stepR_seq (normI_steps n _)
   | block id c => exact .head stepR_block (normI_steps n _)
   | exit id =>
    simp only [normI]
    split
    ·rename_i k' hk; exact .head (stepR_exit hk) (normI_steps n k')
    ·exact .refl P _
   | _ => exact .refl P _
  | inBlock id => exact .head stepR_inBlock (normI_steps n k)
  | _ => exact .refl P _
def Ends (P : Program) (rd : Option Nat) (ds : List Deferred) (fr : Frame) (w : World) (v : Value) : Prop :=
 match rd with
 | none => fr.mode = .returning ∧ fr.defers = ds ∧ fr.kind = .normal ∧ ∃ fn, P.funcs[fr.fn]? = some fn ∧ ∀ w2, SameCells w w2 → (results fn fr.tmps).run P w2 = .ok v w2
 | some l => ∃ (b : Frame) (a : Act) (k : List Item), fr = b.atR a k ∧ b.roundOf = some l ∧ b.kind = .normal ∧ ((k = [] ∧ v = .bool true) ∨ (∃ k', k = .code .ret :: k' ∧ v = .bool false))
theorem Ends.ne {P : Program} {rd : Option Nat} {ds : List Deferred} {b : Frame} {a : Act} {body : Code} {k : List Item} {w : World} {v : Value} (h : Ends P rd ds (b.atR a (.inLoop body :: k)) w v) : False := by
 cases rd with
 | none => have := h.1; simp [Frame.atR] at this
 | some l =>
  obtain ⟨b', a', k', e, _, _, hk⟩ := h
  have he : .inLoop body :: k = k' := congrArg Frame.todo e
  rcases hk with ⟨rfl, _⟩ | ⟨k2, rfl, _⟩ <;> simp at he
def Go (E : Env) (Γ : Cx) (f : FuncId) (N : Nat) (S : List Nat) (Post : Value → World → Prop) (k : List Item) (σ : St) : Prop :=
 Γ.P = E.P → Γ.n = N → Γ.S = S → ∀ a w, Sim Γ σ a w → ∀ (cs : List Frame) (b : Frame), b.fn = f → b.kind = .normal ∧ b.roundOf = Γ.rd →
  ∃ v w' fr, Post v w' ∧ Steps E.P (lone (b.atR a k) cs w) (lone fr cs w') ∧ fr.fn = f ∧ Ends E.P Γ.rd Γ.ds fr w' v
section
variable {E : Env} {Γ : Cx} {f : FuncId} {N : Nat} {S : List Nat} {Post : Value → World → Prop} {k k0 rest : List Item} {σ : St}
theorem Go.norm (n : Nat) (h : Go E Γ f N S Post (normI n k) σ) : Go E Γ f N S Post k σ := fun h1 h2 h3 a w hs cs b hb hk =>
 let ⟨v, w', fr, p, st, r⟩ := h h1 h2 h3 a w hs cs b hb hk
 ⟨v, w', fr, p, (normI_steps n k).trans st, r⟩
def isDefer : Op → Bool | .defer _ => true | _ => false
def dstB (N : Nat) : List Oper → Bool
 | [] => true
 | o :: l => (match o.dst with | some d => Nat.blt d N | none => true) && (!isDefer o.op && dstB N l)
theorem dstB_nd (ops : Array Oper) {N : Nat} (h : dstB N ops.toList = true) : ∀ o ∈ ops, ∀ c, o.op ≠ .defer c := by
 have key : ∀ l : List Oper, dstB N l = true → ∀ o ∈ l, ∀ c, o.op ≠ .defer c := by
  intro l
  induction l with
  | nil => intro _ o ho; simp at ho
  | cons o l ih =>
   intro h o' ho' c e
   simp only [dstB, Bool.and_eq_true] at h
   rcases List.mem_cons.1 ho' with e' | ho'
   ·subst e'; have := h.2.1; rw [e] at this; simp [isDefer] at this
   ·exact ih h.2.2 o' ho' c e
 exact fun o ho => key _ h o (by simpa using ho)
theorem dstB_ok (ops : List Oper) (h : dstB N ops = true) : ∀ o ∈ ops, ∀ d, o.dst = some d → d < N := by
 induction ops with
 | nil => intro o ho; simp at ho
 | cons o l ih =>
  intro o' ho' d hd
  simp only [dstB, Bool.and_eq_true] at h
  rcases List.mem_cons.1 ho' with e | ho'
  ·subst e
   have := h.1; rw [hd] at this; simpa [Nat.blt_eq] using this
  ·exact ih h.2.2 o' ho' d hd
theorem Go.region {id : Nat} {ops : Array Oper} (n : Nat) (ds : List (Option Nat)) (hk : k = k0) (he : normI n k0 = .code (.region id ops false) :: rest) (hd : dstB N ops.toList = true) (hds : ops.toList.map (·.dst) = ds)
  (H : ∀ k', k' = rest → opsW E S ds (fun σ' => Go E Γ f N S Post k' σ') ops.toList σ) : Go E Γ f N S Post k σ := by
 subst hk
 refine Go.norm n ?_
 rw [he]
 intro h1 h2 h3 a w hs cs b hb hkd
 have hw := opsW_sound hds (Q := fun e a' w' => e = .normal ∧ ∃ σ', Go E Γ f N S Post rest σ' ∧ Sim Γ σ' a' w') h1 h3 (fun o ho d hod => by rw [h2]; exact dstB_ok _ hd o (by simpa using ho) d hod) ops.toList 0 (fun j => by simp) σ _ (H rest rfl) (fun σ' a' w' hg hs' => ⟨rfl, σ', hg, hs'⟩) a w hs
 rw [← List.range_eq_range', Array.length_toList] at hw
 obtain ⟨a', w', ⟨σ', hg, hs'⟩, harr⟩ := region_steps (dstB_nd ops hd) hw b rest cs
 obtain ⟨v, w'', fr, p, st, r⟩ := hg h1 h2 h3 a' w' hs' cs b hb hkd
 exact ⟨v, w'', fr, p, .head stepR_region (Steps.trans harr st), r⟩
theorem Go.cond {c : Operand} {x y : Code} (n : Nat) (hk : k = k0) (he : normI n k0 = .code (.cond c x y) :: rest) {t : Bool} (hc : σ.ev c = some (.leaf (.bool t)))
  (H : ∀ k', k' = .code (if t then x else y) :: rest → Go E Γ f N S Post k' σ) : Go E Γ f N S Post k σ := by
 subst hk
 refine Go.norm n ?_
 rw [he]
 intro h1 h2 h3 a w hs cs b hb hkd
 obtain ⟨β, hsb⟩ := id hs
 have hv : a.eval c = .bool t := by simpa [Rep] using hsb.ev hc
 obtain ⟨v, w'', fr, p, st, r⟩ := H _ rfl h1 h2 h3 a w hs cs b hb hkd
 exact ⟨v, w'', fr, p, .head (stepR_cond hv) st, r⟩
theorem Go.loop {body : Code} (n : Nat) (hk : k = k0) (he : normI n k0 = .code (.loop body) :: rest) (H : ∀ k', k' = .inLoop body :: rest → Go E Γ f N S Post k' σ) : Go E Γ f N S Post k σ := by
 subst hk
 refine Go.norm n ?_
 rw [he]
 intro h1 h2 h3 a w hs cs b hb hkd
 obtain ⟨v, w'', fr, p, ⟨q, hq⟩, r⟩ := H _ rfl h1 h2 h3 a w hs cs b hb hkd
 -- both first steps go to the round
 cases q with
 | zero =>
  exfalso
  simp only [runN, Stepped.next.injEq] at hq
  have hm := congrArg (fun m : Machine => (m.gs[0]?).map (fun g => g.frame)) hq
  simp [lone] at hm
  rw [← hm] at r
  exact r.2.ne
 | succ q =>
  refine ⟨v, w'', fr, p, ⟨q + 1, ?_⟩, r⟩
  simp only [runN, stepR_loop, stepR_inLoop] at hq ⊢
  exact hq
theorem Go.round {body : Code} (hk : k = .inLoop body :: rest) (H : ∀ k', k' = .code body :: .inLoop body :: rest → Go E Γ f N S Post k' σ) : Go E Γ f N S Post k σ := by
 subst hk
 intro h1 h2 h3 a w hs cs b hb hkd
 obtain ⟨v, w'', fr, p, st, r⟩ := H _ rfl h1 h2 h3 a w hs cs b hb hkd
 exact ⟨v, w'', fr, p, .head stepR_inLoop st, r⟩
theorem Go.jump {k1 : List Item} (n : Nat) (hk : k = k0) (hk1 : k1 = normI n k0) (H : Go E Γ f N S Post k1 σ) : Go E Γ f N S Post k σ := by
 subst hk; subst hk1
 exact Go.norm n H
theorem Go.weaken {σ' : St} (hs : ∀ t x, σ'.s t = some x → σ.s t = some x) (hh : ∀ id cs, σ'.h id = some cs → σ.h id = some cs)
  (w1 : ∀ t x, σ'.s t = some x → ∀ i ∈ x.ids, σ'.h i ≠ none) (w2 : ∀ id cs, σ'.h id = some cs → ∀ i ∈ idsL cs, σ'.h i ≠ none) (H : Go E Γ f N S Post k σ') : Go E Γ f N S Post k σ :=
 fun h1 h2 h3 a w ⟨β, hsb⟩ => H h1 h2 h3 a w ⟨β, hsb.weaken hs hh w1 w2⟩
def keepL {α : Type} (L : List (Nat × α)) : List Nat → List (Nat × α)
 | [] => []
 | n :: ns => match look L n with | some x => (n, x) :: keepL L ns | none => keepL L ns
theorem look_keepL {α : Type} (L : List (Nat × α)) : ∀ (ns : List Nat) (t : Nat) (x : α), look (keepL L ns) t = some x → look L t = some x
 | [], t, x, h => by simp [keepL, look] at h
 | n :: ns, t, x, h => by
  simp only [keepL] at h
  split at h
  ·rename_i y e
   simp only [look] at h
   split at h
   ·rename_i e'; subst e'; injection h with h; subst h; exact e
   ·exact look_keepL L ns t x h
  ·exact look_keepL L ns t x h
theorem Go.keep (ns : List Nat) {L : List (Nat × T)} {H : List (Nat × List T)} (h : Go E Γ f N S Post k (stL (keepL L ns) H)) : Go E Γ f N S Post k (stL L H) :=
 fun h1 h2 h3 a w ⟨β, hsb⟩ => h h1 h2 h3 a w ⟨β, hsb.weaken (fun t x e => look_keepL L ns t x e) (fun _ _ e => e) (fun t x e => hsb.wfs t x (look_keepL L ns t x e)) hsb.wfh⟩
theorem Go.same {σ' : St} (h : Go E Γ f N S Post k σ') (e : σ = σ') : Go E Γ f N S Post k σ := e ▸ h
def resOne (E : Env) (σ : St) : ResultVar → T → Prop
 | .tmp t, v => σ.s t = some v
 | .cell a ty, v => (E.ti ty).k ≠ .no ∧ bindO (σ.s a) fun p => loadC E.ti σ ty (fun u _ => u = v) p
def resVal (tmps : Array Value) : ResultVar → Sem Value
 | .tmp t => pure (tmps.getD t undef)
 | .cell a t => do loadVar t (← asAddr (tmps.getD a undef))
theorem results_eq (fn : Func) (tmps : Array Value) : results fn tmps = (do let vs ← fn.results.mapM (resVal tmps); pure (if h : vs.size = 1 then vs[0] else .tuple vs)) := by
 unfold results
 congr 1
def resL (E : Env) (σ : St) : List ResultVar → List T → Prop
 | [], vs => vs = []
 | r :: rs, vs => ∃ v us, vs = v :: us ∧ resOne E σ r v ∧ resL E σ rs us
def tupT : List T → T
 | [v] => v
 | vs => .tup vs
theorem resOne_run {β : Nat → Real} {a : Act} {w : World} (hs : SimB Γ σ β a w) {r : ResultVar} {v : T} (h : resOne E σ r v) :
  ∃ x, (∀ w2, SameCells w w2 → (resVal a.tmps r).run E.P w2 = .ok x w2) ∧ Rep w (okOf Γ.X σ β w) v β x ∧ ∀ i ∈ v.ids, σ.h i ≠ none := by
 cases r with
 | tmp t =>
  simp only [resOne] at h
  exact ⟨_, fun _ _ => rfl, hs.ev (x := .tmp t) h, hs.wfs t v h⟩
 | cell p ty =>
  simp only [resOne] at h
  obtain ⟨h0, q, h1, h2⟩ := h
  have hrep : Rep w (okOf Γ.X σ β w) q β (a.tmps.getD p undef) := hs.ev (x := .tmp p) h1
  have ht := E.TOk h0
  cases q <;> simp only [loadC] at h2
  ·rename_i g off cs
   obtain ⟨u, hp, rfl⟩ := partC_ok h2
   simp only [Rep] at hrep
   obtain ⟨h0', b, ob, e1, e2, e3⟩ := hrep
   obtain ⟨vs, h5, h6⟩ := e3.open_
   obtain ⟨x, h7, h8⟩ := load_var_all (b := b) (o := ob) ht hp h5
   have hi : u.ids = [] := by
    have := hp.ids
    rw [h0'] at this
    exact List.eq_nil_iff_forall_not_mem.2 fun j hj => by simpa using this j hj
   exact ⟨x, fun w2 hw => by simp only [resVal, e1, asAddr, Sem.run_bind, Sem.run_pure, Result.andThen_ok, h7 w2 (hw.cells h6)], h8.sealed hi, by simp [hi]⟩
  ·rename_i id off
   obtain ⟨cs, hid, h2⟩ := h2
   obtain ⟨u, hp, rfl⟩ := partC_ok h2
   simp only [Rep] at hrep
   cases hb : β id with
   | ph => rw [hb] at hrep; exact hrep.elim
   | real b ob E' =>
    rw [hb] at hrep
    obtain ⟨c, el, fr, vs, q1, q2, q3, q4, q5, q6⟩ := obj_open hs hid hb
    obtain ⟨x, h7, h8⟩ := load_var_all (b := b) (o := ob) ht hp q5
    exact ⟨x, fun w2 hw => by simp only [resVal, hrep, asAddr, Sem.run_bind, Sem.run_pure, Result.andThen_ok, h7 w2 (hw.cells q6)], h8, fun j hj => hs.wfh id cs hid j (hp.ids j hj)⟩
theorem resL_run (hP : Γ.P = E.P) {β : Nat → Real} {a : Act} {w : World} (hs : SimB Γ σ β a w) : ∀ {rs : List ResultVar} {vs : List T}, resL E σ rs vs →
  ∃ xs, (∀ w2, SameCells w w2 → (rs.mapM (resVal a.tmps)).run E.P w2 = .ok xs w2) ∧ RepL w (okOf Γ.X σ β w) vs β xs ∧ ∀ i ∈ idsL vs, σ.h i ≠ none
 | [], vs, h => by simp only [resL] at h; subst h; exact ⟨[], fun _ _ => rfl, by simp [RepL], by simp [idsL]⟩
 | r :: rs, vs, h => by
  simp only [resL] at h
  obtain ⟨v, us, rfl, h1, h2⟩ := h
  obtain ⟨x, e1, e2, e3⟩ := resOne_run hs h1
  obtain ⟨xs, e4, e5, e6⟩ := resL_run hP hs h2
  refine ⟨x :: xs, ?_, by simp only [RepL]; exact ⟨x, xs, rfl, e2, e5⟩, fun i hi => ?_⟩
  ·intro w2 hw
   rw [List.mapM_cons, Sem.run_bind]
   simp only [e1 w2 hw, Result.andThen_ok, Sem.run_bind, e4 w2 hw, Sem.run_pure]
  ·simp only [idsL, List.mem_append] at hi
   exact hi.elim (e3 i) (e6 i)
theorem results_run (hP : Γ.P = E.P) {fn : Func} {β : Nat → Real} {a : Act} {w : World} (hs : SimB Γ σ β a w) {vs : List T} (h : resL E σ fn.results.toList vs) :
  ∃ x, (∀ w2, SameCells w w2 → (results fn a.tmps).run E.P w2 = .ok x w2) ∧ Rep w (okOf Γ.X σ β w) (tupT vs) β x ∧ ∀ i ∈ (tupT vs).ids, σ.h i ≠ none := by
 obtain ⟨xs, h1, h2, h3⟩ := resL_run hP hs h
 have hm : ∀ w2, SameCells w w2 → (fn.results.mapM (resVal a.tmps)).run E.P w2 = .ok xs.toArray w2 := by
  intro w2 hw
  rw [← Array.toArray_toList (xs := fn.results), List.mapM_toArray]
  simp only [Sem.run_map, h1 w2 hw, Result.andThen_ok]
 have hl := h2.length
 refine ⟨if h : xs.toArray.size = 1 then xs.toArray[0] else .tuple xs.toArray, ?_, ?_, ?_⟩
 ·intro w2 hw
  rw [results_eq, Sem.run_bind, hm w2 hw]
  simp only [Result.andThen_ok, Sem.run_pure]
 ·match vs, xs, h2, hl with
  | [], xs, h2, hl => simp only [RepL] at h2; subst h2; simp only [tupT, Rep]; exact ⟨[], rfl, by simp [RepL]⟩
  | [v], xs, h2, hl =>
   simp only [RepL] at h2
   obtain ⟨x, us, rfl, h2, h4⟩ := h2
   subst h4
   simpa [tupT] using h2
  | v :: v' :: us, xs, h2, hl =>
   have : ¬ xs.toArray.size = 1 := by simp; rw [hl]; simp
   rw [dif_neg this]
   simp only [tupT, Rep]
   exact ⟨xs, rfl, h2⟩
 ·match vs, h3 with
  | [], _ => simp [tupT, T.ids, idsL]
  | [v], h3 => simpa [tupT, idsL] using h3
  | v :: v' :: us, h3 => simpa [tupT, T.ids] using h3
end
def retSt (R : T) (H : Nat → Option (List T)) : St := ⟨fun t => if t = 0 then some R else none, H⟩
def Enters (P : Program) (f : FuncId) (args : Array Value) (w : World) (Q : Value → World → Prop) : Prop :=
 ((callFunc f args).run P w = .ok (.enter f args) w ∧ Calls P f args w fun e w' => ∃ v, e = .returned v ∧ Q v w') ∨ ∃ v w', (callFunc f args).run P w = .ok (.value v) w' ∧ Q v w'
theorem Enters.mono {P : Program} {f : FuncId} {args : Array Value} {w : World} {Q Q' : Value → World → Prop} (h : Enters P f args w Q) (k : ∀ v w', Q v w' → Q' v w') : Enters P f args w Q' := by
 rcases h with ⟨h1, h2⟩ | ⟨v, w', h1, h2⟩
 ·exact .inl ⟨h1, h2.mono fun e w' ⟨v, e1, e2⟩ => ⟨v, e1, k _ _ e2⟩⟩
 ·exact .inr ⟨v, w', h1, k _ _ h2⟩
def Meets (P : Program) (f : FuncId) (A : List T) (H : List (Nat × List T)) (S : List Nat) (R : T) (H' : List (Nat × List T)) : Prop :=
 ∀ (Γ : Cx) (β : Nat → Real) (vs : List Value), Γ.P = P → Γ.S = S → Γ.n = vs.length → vs.length = A.length → Γ.β0 = β → Γ.lent = own ⟨fun t => A[t]?, look H⟩ β →
  SimB Γ ⟨fun t => A[t]?, look H⟩ β ⟨vs.toArray, []⟩ Γ.w0 →
  Enters P f vs.toArray Γ.w0 fun v w' => Sim { Γ with n := 1 } (retSt R (look H')) ⟨#[v], []⟩ w'
def PostR (Γ : Cx) (R : T) (H' : List (Nat × List T)) (v : Value) (w' : World) : Prop := Γ.rd = none → Sim { Γ with n := 1, ds := [] } (retSt R (look H')) ⟨#[v], []⟩ w'
section
variable {E : Env} {Γ : Cx} {f : FuncId} {N : Nat} {S : List Nat} {k k0 rest : List Item} {σ : St} {R : T} {H' : List (Nat × List T)}
def idxL : Nat → List T → List (Nat × T)
 | _, [] => []
 | n, t :: ts => (n, t) :: idxL (n + 1) ts
theorem look_idxL : ∀ (A : List T) (n t : Nat), look (idxL n A) t = if n ≤ t then A[t - n]? else none
 | [], n, t => by simp [idxL, look]
 | x :: A, n, t => by
  simp only [idxL, look, look_idxL A (n + 1) t]
  by_cases h : n = t
  ·subst h; simp
  ·rw [if_neg h]
   by_cases h2 : n ≤ t
   ·rw [if_pos (by omega), if_pos h2, show t - n = (t - (n + 1)) + 1 from by omega]; simp
   ·rw [if_neg (by omega), if_neg h2]
theorem Meets.enterN {fn : Func} {c : Code} {A : List T} {H : List (Nat × List T)} (hfn : E.P.funcs[f]? = some fn) (hcall : ∀ args w, (callFunc f args).run E.P w = .ok (.enter f args) w) (hbody : fn.body = some c) (hN : max A.length fn.ntmps = N)
  (h : ∀ (Γ : Cx) (k : List Item), Γ.rd = none → k = [.code c] → Go E Γ f N S (PostR Γ R H') k (stL (idxL 0 A) H)) : Meets E.P f A H S R H' := by
 refine fun Γ β vs hP hS hn hl hβ hlent hs => .inl ⟨hcall _ _, ?_⟩
 intro cs
 let b : Frame := { (default : Frame) with fn := f, kind := .normal, roundOf := none }
 let a : Act := { tmps := vs.toArray ++ Array.replicate (fn.ntmps - vs.toArray.size) undef, defers := [] }
 have henter : Frame.enter E.P f vs.toArray .normal = b.atR a [.code c] := by
  simp [Frame.enter, Frame.atR, hfn, hbody, b, a]
 have hds : Γ.ds = [] := hs.defers.symm
 let Γ' : Cx := { Γ with n := N, rd := none }
 have hst : stL (idxL 0 A) H = ⟨fun t => A[t]?, look H⟩ := by
  simp only [stL, St.mk.injEq, and_true]
  funext t; rw [look_idxL]; simp
 have hs' : SimB Γ' (stL (idxL 0 A) H) β a Γ.w0 := by
  rw [hst]
  refine ⟨hds.symm, ?_, hs.keeps, fun t x e => ?_, hs.obj, hs.inj, hs.ownb, hs.wfs, hs.wfh, hs.stab⟩
  ·simp [a, Γ']; omega
  ·obtain ⟨v, h1, h2⟩ := hs.slot t x e
   exact ⟨v, by simp only [a]; rw [Array.getElem?_append_left (Array.getElem?_eq_some_iff.1 h1).1]; exact h1, h2⟩
 obtain ⟨v, w', fr, p, st, r1, r2⟩ := h Γ' _ rfl rfl hP rfl hS a Γ.w0 ⟨β, hs'⟩ cs b rfl ⟨rfl, rfl⟩
 refine ⟨.returned v, w', fr, ⟨v, rfl, ?_⟩, ?_, r1, ?_⟩
 ·obtain ⟨β', hq⟩ := p rfl
  exact ⟨β', hq.re rfl hds.symm rfl rfl rfl rfl rfl rfl⟩
 ·rw [henter]; exact st
 ·obtain ⟨q1, q2, q3, q4⟩ := r2
  obtain ⟨fn', q5, q6⟩ := q4
  exact ⟨q1, by rw [q2]; exact hds, q3, fn', q5, q6 _ (SameCells.refl _)⟩
theorem Meets.enter {fn : Func} {c : Code} {A : List T} {H : List (Nat × List T)} (hfn : E.P.funcs[f]? = some fn) (hcall : ∀ args w, (callFunc f args).run E.P w = .ok (.enter f args) w) (hbody : fn.body = some c) (hN : max A.length fn.ntmps = N)
  (h : ∀ (Γ : Cx) (k : List Item), k = [.code c] → Go E Γ f N S (PostR Γ R H') k (stL (idxL 0 A) H)) : Meets E.P f A H S R H' :=
 Meets.enterN hfn hcall hbody hN fun Γ k _ hk => h Γ k hk
end
end Go.Vw
namespace Go.Vw
open Go Go.RowKit
mutual
def T.noB : T → Bool
 | .dead | .leaf _ | .e0 | .ref .. | .addr .. => true
 | .sl _ g _ cs => (g == .shr) && noBL cs
 | .xl .. => false
 | .pt g _ cs => (g == .shr) && noBL cs
 | .agg cs | .tup cs => noBL cs
 | .iface _ v => v.noB
 | .fn _ p q => noBL p && noBL q
def noBL : List T → Bool
 | [] => true
 | t :: ts => t.noB && noBL ts
end
section
variable {w : World} {ok : Tag → Nat → Prop}
mutual
theorem Rep.noB (ok' : Tag → Nat → Prop) (hs : ∀ b, ok .shr b → ok' .shr b) : ∀ (t : T) (β : Nat → Real) (x : Value), t.noB = true → Rep w ok t β x → Rep w ok' t β x
 | .dead, _, _, _, _ => by simp only [Rep]
 | .leaf _, _, _, _, h => by simpa only [Rep] using h
 | .e0, _, _, _, h => by simpa only [Rep] using h
 | .sl m g n cs, _, _, hn, h => by
  simp only [T.noB, Bool.and_eq_true, beq_iff_eq] at hn
  obtain ⟨rfl, hn⟩ := hn
  simp only [Rep] at h ⊢
  obtain ⟨h1, a, cap, h2, h3, h4⟩ := h
  refine ⟨h1, a, cap, h2, h3, h4.imp (fun e => e) ?_⟩
  rintro ⟨b, o, h5, h6, h7⟩
  exact ⟨b, o, h5, hs b h6, RepAt.noB ok' hs b cs o hn h7⟩
 | .xl .., _, _, hn, _ => by simp [T.noB] at hn
 | .pt g off cs, _, _, hn, h => by
  simp only [T.noB, Bool.and_eq_true, beq_iff_eq] at hn
  obtain ⟨rfl, hn⟩ := hn
  simp only [Rep] at h ⊢
  obtain ⟨h0, b, o, h5, h6, h7⟩ := h
  exact ⟨h0, b, o, h5, hs b h6, RepAt.noB ok' hs b cs o hn h7⟩
 | .agg cs, β, _, hn, h => by
  simp only [T.noB] at hn
  simp only [Rep] at h ⊢
  obtain ⟨vs, h1, h2⟩ := h
  exact ⟨vs, h1, RepL.noB ok' hs cs β vs hn h2⟩
 | .tup cs, β, _, hn, h => by
  simp only [T.noB] at hn
  simp only [Rep] at h ⊢
  obtain ⟨vs, h1, h2⟩ := h
  exact ⟨vs, h1, RepL.noB ok' hs cs β vs hn h2⟩
 | .iface t v, β, _, hn, h => by
  simp only [T.noB] at hn
  simp only [Rep] at h ⊢
  obtain ⟨y, h1, h2⟩ := h
  exact ⟨y, h1, Rep.noB ok' hs v β y hn h2⟩
 | .fn f p q, β, _, hn, h => by
  simp only [T.noB, Bool.and_eq_true] at hn
  simp only [Rep] at h ⊢
  obtain ⟨ps, qs, h1, h2, h3⟩ := h
  exact ⟨ps, qs, h1, RepL.noB ok' hs p β ps hn.1 h2, RepL.noB ok' hs q β qs hn.2 h3⟩
 | .ref id m off n, β, _, _, h => by simpa only [Rep] using h
 | .addr id off, β, _, _, h => by simpa only [Rep] using h
theorem RepL.noB (ok' : Tag → Nat → Prop) (hs : ∀ b, ok .shr b → ok' .shr b) : ∀ (ts : List T) (β : Nat → Real) (vs : List Value), noBL ts = true → RepL w ok ts β vs → RepL w ok' ts β vs
 | [], _, _, _, h => by simpa only [RepL] using h
 | t :: ts, β, vs, hn, h => by
  simp only [noBL, Bool.and_eq_true] at hn
  simp only [RepL] at h ⊢
  obtain ⟨v, us, h1, h2, h3⟩ := h
  exact ⟨v, us, h1, Rep.noB ok' hs t β v hn.1 h2, RepL.noB ok' hs ts β us hn.2 h3⟩
theorem RepAt.noB (ok' : Tag → Nat → Prop) (hs : ∀ b, ok .shr b → ok' .shr b) (b : Nat) : ∀ (ts : List T) (o : Nat), noBL ts = true → RepAt w ok b ts o → RepAt w ok' b ts o
 | [], _, _, _ => by simp only [RepAt]
 | t :: ts, o, hn, h => by
  simp only [noBL, Bool.and_eq_true] at hn
  simp only [RepAt] at h ⊢
  obtain ⟨⟨v, h1, h2⟩, h3⟩ := h
  exact ⟨⟨v, h1, Rep.noB ok' hs t _ v hn.1 h2⟩, RepAt.noB ok' hs b ts (o + 1) hn.2 h3⟩
end
end
mutual
def T.snap (h : Nat → Option (List T)) (M : List Nat) : T → T
 | .dead => .dead
 | .leaf v => .leaf v
 | .e0 => .e0
 | .sl m g n cs => .sl m g n cs
 | .xl m g n cs => .xl m g n cs
 | .pt g o cs => .pt g o cs
 | .agg cs => .agg (snapL h M cs)
 | .tup cs => .tup (snapL h M cs)
 | .iface t v => .iface t (v.snap h M)
 | .fn f p q => .fn f (snapL h M p) (snapL h M q)
 | .ref id m o n => if id ∈ M then (match h id with | some cs => .sl m .brw n (sub cs o (n * m)) | none => .dead) else .ref id m o n
 | .addr id o => if id ∈ M then (match h id with | some cs => .pt .brw o cs | none => .dead) else .addr id o
def snapL (h : Nat → Option (List T)) (M : List Nat) : List T → List T
 | [] => []
 | t :: ts => t.snap h M :: snapL h M ts
end
mutual
def T.snapOk (h : Nat → Option (List T)) (M : List Nat) : T → Prop
 | .dead | .leaf _ | .e0 | .sl .. | .xl .. | .pt .. => True
 | .agg cs | .tup cs => snapOkL h M cs
 | .iface _ v => v.snapOk h M
 | .fn _ p q => snapOkL h M p ∧ snapOkL h M q
 | .ref id m o n => id ∈ M → ∃ cs, h id = some cs ∧ idsL cs = [] ∧ o + n * m ≤ cs.length
 | .addr id _ => id ∈ M → ∃ cs, h id = some cs ∧ idsL cs = []
def snapOkL (h : Nat → Option (List T)) (M : List Nat) : List T → Prop
 | [] => True
 | t :: ts => t.snapOk h M ∧ snapOkL h M ts
end
theorem snapOkL_nil (h : Nat → Option (List T)) (ts : List T) : snapOkL h [] ts := by
 have key : ∀ t : T, t.snapOk h [] := by
  intro t
  induction t using T.rec (motive_2 := fun ts => snapOkL h [] ts) <;> simp_all [T.snapOk, snapOkL]
 induction ts with
 | nil => simp [snapOkL]
 | cons t ts ih => simp only [snapOkL]; exact ⟨key t, ih⟩
theorem snapL_nil (h : Nat → Option (List T)) (ts : List T) : snapL h [] ts = ts := by
 have key : ∀ t : T, t.snap h [] = t := by
  intro t
  induction t using T.rec (motive_2 := fun ts => snapL h [] ts = ts) <;> simp_all [T.snap, snapL]
 induction ts with
 | nil => simp [snapL]
 | cons t ts ih => simp only [snapL, key t, ih]
section
variable {Γ : Cx} {σ : St} {β : Nat → Real} {a : Act} {w : World} {okc : Tag → Nat → Prop} {M : List Nat}
mutual
theorem Rep.snap (hs : SimB Γ σ β a w) (hok : ∀ g b, okOf Γ.X σ β w g b → okc g b) (hM : ∀ id ∈ M, ∀ cs, σ.h id = some cs → ∀ b o E, β id = .real b o E → okc .brw b) :
  ∀ (t : T) (v : Value), t.snapOk σ.h M → Rep w (okOf Γ.X σ β w) t β v → Rep w okc (t.snap σ.h M) β v
 | .dead, _, _, _ => by simp only [T.snap, Rep]
 | .leaf _, _, _, h => by simpa only [T.snap, Rep] using h
 | .e0, _, _, h => by simpa only [T.snap, Rep] using h
 | .sl m g n cs, v, _, h => by
  simp only [T.snap]
  exact Rep.mono (fun g b hb => ⟨hok g b hb, rfl⟩) _ β β v (fun _ _ => rfl) h
 | .xl m g n cs, v, _, h => by
  simp only [T.snap]
  exact Rep.mono (fun g b hb => ⟨hok g b hb, rfl⟩) _ β β v (fun _ _ => rfl) h
 | .pt g o cs, v, _, h => by
  simp only [T.snap]
  exact Rep.mono (fun g b hb => ⟨hok g b hb, rfl⟩) _ β β v (fun _ _ => rfl) h
 | .agg cs, _, hO, h => by
  simp only [T.snapOk] at hO
  simp only [T.snap, Rep] at h ⊢
  obtain ⟨vs, h1, h2⟩ := h
  exact ⟨vs, h1, RepL.snap hs hok hM cs vs hO h2⟩
 | .tup cs, _, hO, h => by
  simp only [T.snapOk] at hO
  simp only [T.snap, Rep] at h ⊢
  obtain ⟨vs, h1, h2⟩ := h
  exact ⟨vs, h1, RepL.snap hs hok hM cs vs hO h2⟩
 | .iface t v, _, hO, h => by
  simp only [T.snapOk] at hO
  simp only [T.snap, Rep] at h ⊢
  obtain ⟨y, h1, h2⟩ := h
  exact ⟨y, h1, Rep.snap hs hok hM v y hO h2⟩
 | .fn f p q, _, hO, h => by
  simp only [T.snapOk] at hO
  simp only [T.snap, Rep] at h ⊢
  obtain ⟨ps, qs, h1, h2, h3⟩ := h
  exact ⟨ps, qs, h1, RepL.snap hs hok hM p ps hO.1 h2, RepL.snap hs hok hM q qs hO.2 h3⟩
 | .ref id m off n, v, hO, h => by
  simp only [T.snap]
  split
  ·rename_i hm
   simp only [T.snapOk] at hO
   obtain ⟨cs, h1, h2, h3⟩ := hO hm
   rw [h1]
   simp only [Rep] at h ⊢
   refine ⟨⟨by simp [sub]; omega, ?_⟩, ?_⟩
   ·refine List.eq_nil_iff_forall_not_mem.2 fun j hj => ?_
    have := ids_sub _ _ j hj
    rw [h2] at this; simp at this
   ·cases hb : β id with
    | ph =>
     rw [hb] at h
     obtain ⟨_, rfl, ad, hv⟩ := h
     exact ⟨ad, 0, hv, Nat.le_refl _, .inl rfl⟩
    | real b o E =>
     rw [hb] at h
     obtain ⟨ad, cap, hv, g1, g2, g3⟩ := h
     refine ⟨ad, cap, hv, g1, ?_⟩
     by_cases hn : n = 0
     ·exact .inl hn
     ·right
      have had := g3.resolve_left (by omega)
      obtain ⟨c, el, fr, vs, q1, q2, q3, q4, q5, q6⟩ := obj_open hs h1 hb
      have q5' : RepL w okc cs (fun _ => .ph) vs := RepL.mono (fun g b hb => ⟨hok g b hb, rfl⟩) cs β _ vs (by simp [h2]) q5
      exact ⟨b, o + off, had, hM id hm cs h1 b o E hb, RepAt.shut ((q5'.drop off).take (n * m)) ((q6.drop off).take (n * m))⟩
  ·simpa only [Rep] using h
 | .addr id off, v, hO, h => by
  simp only [T.snap]
  split
  ·rename_i hm
   simp only [T.snapOk] at hO
   obtain ⟨cs, h1, h2⟩ := hO hm
   rw [h1]
   simp only [Rep] at h ⊢
   cases hb : β id with
   | ph => rw [hb] at h; exact h.elim
   | real b o E =>
    rw [hb] at h
    obtain ⟨c, el, fr, vs, q1, q2, q3, q4, q5, q6⟩ := obj_open hs h1 hb
    have q5' : RepL w okc cs (fun _ => .ph) vs := RepL.mono (fun g b hb => ⟨hok g b hb, rfl⟩) cs β _ vs (by simp [h2]) q5
    exact ⟨h2, b, o, h, hM id hm cs h1 b o E hb, RepAt.shut q5' q6⟩
  ·simpa only [Rep] using h
theorem RepL.snap (hs : SimB Γ σ β a w) (hok : ∀ g b, okOf Γ.X σ β w g b → okc g b) (hM : ∀ id ∈ M, ∀ cs, σ.h id = some cs → ∀ b o E, β id = .real b o E → okc .brw b) :
  ∀ (ts : List T) (vs : List Value), snapOkL σ.h M ts → RepL w (okOf Γ.X σ β w) ts β vs → RepL w okc (snapL σ.h M ts) β vs
 | [], _, _, h => by simpa only [snapL, RepL] using h
 | t :: ts, vs, hO, h => by
  simp only [snapOkL] at hO
  simp only [RepL, snapL] at h ⊢
  obtain ⟨v, us, h1, h2, h3⟩ := h
  exact ⟨v, us, h1, Rep.snap hs hok hM t v hO.1 h2, RepL.snap hs hok hM ts us hO.2 h3⟩
end
end
def calleeT : T → Option (FuncId × List T × List T)
 | .fn (.func f) p q => some (f, p, q)
 | _ => none
theorem calleeT_eq {x : T} {f : FuncId} {p q : List T} (h : calleeT x = some (f, p, q)) : x = .fn (.func f) p q := by
 cases x with
 | fn g p' q' =>
  cases g with
  | func g => simp only [calleeT, Option.some.injEq, Prod.mk.injEq] at h; obtain ⟨rfl, rfl, rfl⟩ := h; rfl
  | _ => simp [calleeT] at h
 | _ => simp [calleeT] at h
theorem calleeT_run {Γ : Cx} {σ : St} {β : Nat → Real} {w : World} {x : T} {f : FuncId} {p q : List T} (h : calleeT x = some (f, p, q)) {v : Value} (hv : Rep w (okOf Γ.X σ β w) x β v) :
  ∃ ps qs, v = .func (.func f) (List.toArray ps) (List.toArray qs) ∧ RepL w (okOf Γ.X σ β w) p β ps ∧ RepL w (okOf Γ.X σ β w) q β qs := by
 rw [calleeT_eq h] at hv
 simpa only [Rep] using hv
def T.purges : List Nat → T → T
 | [], t => t
 | i :: l, t => T.purges l (t.purge i)
def purgesL : List Nat → List T → List T
 | [], ts => ts
 | i :: l, ts => purgesL l (purgeL i ts)
theorem drops_s : ∀ (l : List Nat) (σ : St) (t : Nat), (σ.drops l).s t = (σ.s t).map (T.purges l)
 | [], σ, t => by simp only [St.drops]; cases σ.s t <;> rfl
 | i :: l, σ, t => by simp only [St.drops]; rw [drops_s l]; simp only [St.drop]; cases σ.s t <;> rfl
theorem drops_hh : ∀ (l : List Nat) (σ : St) (j : Nat) (cs : List T), (σ.drops l).h j = some cs → ∃ c, σ.h j = some c ∧ cs = purgesL l c
 | [], σ, j, cs, h => ⟨cs, h, rfl⟩
 | i :: l, σ, j, cs, h => by
  simp only [St.drops] at h
  obtain ⟨c, h1, h2⟩ := drops_hh l _ j cs h
  simp only [St.drop] at h1
  split at h1
  ·simp at h1
  ·obtain ⟨c', h3, h4⟩ := Option.map_eq_some_iff.1 h1
   exact ⟨c', h3, by rw [h2, ← h4]; rfl⟩
theorem Rep.purges {w : World} {ok : Tag → Nat → Prop} {β : Nat → Real} {v : Value} : ∀ (l : List Nat) {t : T}, Rep w ok t β v → Rep w ok (t.purges l) β v
 | [], _, h => h
 | i :: l, _, h => by simp only [T.purges]; exact Rep.purges l (Rep.purge i _ β v h)
theorem ObjAt.purges {w : World} {ok : Tag → Nat → Prop} {β : Nat → Real} {r : Real} : ∀ (l : List Nat) {cs : List T}, ObjAt w ok β cs r → ObjAt w ok β (purgesL l cs) r
 | [], _, h => h
 | i :: l, _, h => by simp only [purgesL]; exact ObjAt.purges l (h.purge i)
theorem look_mem {α : Type} : ∀ {L : List (Nat × α)} {n : Nat} {x : α}, look L n = some x → (n, x) ∈ L
 | (m, y) :: l, n, x, h => by
  simp only [look] at h
  split at h
  ·rename_i e; subst e; injection h with h; subst h; simp
  ·exact List.mem_cons_of_mem _ (look_mem h)
theorem drops_h {σ : St} : ∀ (l : List Nat) {j : Nat} {cs : List T}, (σ.drops l).h j = some cs → j ∉ l ∧ ∃ c, σ.h j = some c
 | [], j, cs, h => ⟨by simp, cs, h⟩
 | i :: l, j, cs, h => by
  simp only [St.drops] at h
  obtain ⟨h1, c, h2⟩ := drops_h l h
  simp only [St.drop] at h2
  split at h2
  ·simp at h2
  ·obtain ⟨c', h3, _⟩ := Option.map_eq_some_iff.1 h2
   exact ⟨by simp; exact ⟨by assumption, h1⟩, c', h3⟩
theorem SimB.drops {Γ : Cx} {β : Nat → Real} {a : Act} {w : World} : ∀ (l : List Nat) {σ : St}, SimB Γ σ β a w → SimB Γ (σ.drops l) β a w
 | [], _, h => h
 | i :: l, _, h => by simp only [St.drops]; exact SimB.drops l (h.drop i)
def lastP : List (Nat × List T) → Nat → Option (List T)
 | [], _ => none
 | (i, cs) :: l, j => match lastP l j with | some c => some c | none => if i = j then some cs else none
theorem puts_h : ∀ (l : List (Nat × List T)) (σ : St) (j : Nat), (σ.puts l).h j = match lastP l j with | some c => some c | none => σ.h j
 | [], σ, j => rfl
 | (i, cs) :: l, σ, j => by
  simp only [St.puts]
  rw [puts_h l _ j]
  simp only [lastP]
  cases lastP l j with
  | some c => rfl
  | none =>
   simp only [upd]
   by_cases h : j = i
   ·subst h; simp
   ·rw [if_neg h, if_neg (Ne.symm h)]
theorem puts_s : ∀ (l : List (Nat × List T)) (σ : St), (σ.puts l).s = σ.s
 | [], _ => rfl
 | (i, cs) :: l, σ => by simp only [St.puts]; rw [puts_s l]
def once : List (Nat × List T) → Bool
 | [] => true
 | (i, _) :: l => (look l i).isNone && once l
theorem lastP_look : ∀ {l : List (Nat × List T)}, once l = true → ∀ j, lastP l j = look l j
 | [], _, _ => rfl
 | (i, cs) :: l, h, j => by
  simp only [once, Bool.and_eq_true] at h
  simp only [lastP, look, lastP_look h.2 j]
  by_cases e : i = j
  ·subst e
   have := h.1
   cases hl : look l i <;> simp_all
  ·rw [if_neg e, if_neg e]
   cases look l j <;> rfl
section
variable {P : Program} {o : Oper} {ev : Operand → Option T} {h : Nat → Option (List T)}
theorem SimB.known {P : Program} {Γ : Cx} {σ : St} {β : Nat → Real} {a : Act} {w : World} (hs : SimB Γ σ β a w) (hP : Γ.P = P) {b : Nat} {cs : List Value} (hk : Known P b cs) : b < w.heap.size ∧ ¬ own σ β b ∧ CellsAt w b 0 cs := by
 subst hP
 obtain ⟨h1, h2, h3⟩ := Γ.held b cs hk
 refine ⟨Nat.lt_of_lt_of_le h1 hs.keeps.size, fun ho => ?_, fun i v hv => ?_⟩
 ·rcases (hs.ownb b ho).2 with h | h
  ·omega
  ·exact h2 h
 ·rw [World.cell?_of_block (w := Γ.w0) (hs.keeps.block b h1 h2)]; exact h3 i v hv
def notStay (S : List Nat) (H : List (Nat × List T)) : List Nat := (H.map (·.1)).filter fun i => !S.contains i
set_option maxHeartbeats 2000000 in
theorem call_frame {Γ : Cx} {σ : St} {β : Nat → Real} {a : Act} {w : World} {ts A : List T} {vs : List Value} {H H' : List (Nat × List T)} {S M : List Nat} {R : T}
  (hP : Γ.P = P) (hs : SimB Γ σ β a w) (hall : RepL w (okOf Γ.X σ β w) ts β vs) (hsn : snapL σ.h M ts = A) (hsO : snapOkL σ.h M ts)
  (hhH : ∀ i cs, look H i = some cs → σ.h i = some cs) (hcl : ∀ i cs, look H i = some cs → ∀ j ∈ idsL cs, look H j ≠ none) (hAi : ∀ i ∈ idsL A, look H i ≠ none)
  (hMH : ∀ i ∈ M, look H i = none) (hnb : M = [] ∨ (R.noB = true ∧ ∀ q ∈ H', noBL q.2 = true)) (h1 : once H' = true) (hSH : ∀ i ∈ S, look H i ≠ none ∧ look H' i ≠ none) (hMH' : ∀ i ∈ M, look H' i = none)
  (hn : ∀ p ∈ H', p.1 ∉ S → p.1 ∉ Γ.S ∧ (p.1 ∉ H.map (·.1) ++ M → σ.h p.1 = none)) :
  ∃ Γc : Cx, (Γc.P = P ∧ Γc.S = S ∧ Γc.n = vs.length ∧ vs.length = A.length ∧ Γc.β0 = β ∧ Γc.lent = own ⟨fun t => A[t]?, look H⟩ β ∧ Γc.w0 = w ∧ Γc.rd = none ∧ Γc.ds = [] ∧
    ∀ g b, Γ.X g b → b < w.heap.size → ¬ own ⟨fun t => A[t]?, look H⟩ β b → Γc.X g b) ∧ SimB Γc ⟨fun t => A[t]?, look H⟩ β ⟨vs.toArray, []⟩ w ∧
   ∀ v w', Sim { Γc with n := 1 } (retSt R (look H')) ⟨#[v], []⟩ w' → ∃ β', SimB Γ ((σ.drops (notStay S H)).puts H') β' a w' ∧ Rep w' (okOf Γ.X ((σ.drops (notStay S H)).puts H') β' w') R β' v ∧ ∀ i ∈ R.ids, ((σ.drops (notStay S H)).puts H').h i ≠ none := by
 -- the callee's own context
 let σc : St := ⟨fun t => A[t]?, look H⟩
 have hownc : ∀ b, own σc β b → own σ β b := fun b ⟨id, cs, o', E', e1, e2⟩ => ⟨id, cs, o', E', hhH id cs e1, e2⟩
 let lentM : Nat → Prop := fun b => ∃ id ∈ M, ∃ cs o' E', σ.h id = some cs ∧ β id = .real b o' E'
 let Xc : Tag → Nat → Prop := fun g b => (b < w.heap.size ∧ ¬ own σc β b) ∧ ((own σ β b ∧ (g = .brw → ¬ lentM b)) ∨ Γ.X g b)
 let Γc : Cx := { P := P, n := vs.length, w0 := w, lent := own σc β, X := Xc, X_old := fun g b hb => ⟨hb.1.1, hb.1.2⟩, X_sub := fun b hb => ⟨hb.1, hb.2.imp (fun h => ⟨h.1, fun e => by simp at e⟩) (Γ.X_sub b)⟩, S := S, β0 := β, held := fun b cs hk => (hs.known hP hk).imp_right fun h => ⟨fun ho => h.1 (hownc b ho), h.2⟩ }
 have hokc : ∀ g b, okOf Γ.X σ β w g b → okOf Xc σc β w g b := fun g b hb => ⟨hb.1, fun ho => hb.2.1 (hownc b ho), fun hX => hX.2.elim (fun ho => hb.2.1 ho.1) hb.2.2⟩
 have hMne : ∀ id ∈ M, ∀ cs, σ.h id = some cs → ∀ b o' E', β id = .real b o' E' → ¬ own σc β b := by
  rintro id hid cs hcs b o' E' hb ⟨id2, cs2, o2, E2, e1, e2⟩
  have := hs.inj id id2 cs cs2 b o' E' o2 E2 hcs (hhH id2 cs2 e1) hb e2
  subst this
  have hno := hMH id hid
  have e1' : look H id = some cs2 := e1
  rw [hno] at e1'; simp at e1'
 have hlent : ∀ id ∈ M, ∀ cs, σ.h id = some cs → ∀ b o' E', β id = .real b o' E' → okOf Xc σc β w .brw b := fun id hid cs hcs b o' E' hb => by
  refine ⟨(hs.ownb b ⟨id, cs, o', E', hcs, hb⟩).1, hMne id hid cs hcs b o' E' hb, fun hX => ?_⟩
  rcases hX.2 with ⟨_, hX⟩ | hX
  ·exact hX rfl ⟨id, hid, cs, o', E', hcs, hb⟩
  ·have hold := Γ.X_old .brw b hX
   rcases (hs.ownb b ⟨id, cs, o', E', hcs, hb⟩).2 with h' | h'
   ·exact absurd hold.1 (by omega)
   ·exact hold.2 h'
 have hrepA : RepL w (okOf Xc σc β w) A β vs := by
  have := RepL.snap hs hokc hlent ts vs hsO hall
  rw [hsn] at this
  exact this
 have hvl : vs.length = A.length := hrepA.length
 have hsc : SimB Γc σc β ⟨vs.toArray, []⟩ w := by
  refine ⟨rfl, by simp [Γc], Keeps.refl _ _, fun t y e => ?_, fun id cs e => ?_, fun i1 i2 c1 c2 b1 o1 E1 o2 E2 e1 e2 => hs.inj i1 i2 c1 c2 b1 o1 E1 o2 E2 (hhH _ _ e1) (hhH _ _ e2), fun b hb => ⟨(hs.ownb b (hownc b hb)).1, .inr hb⟩,
   fun t y e i hi => hAi i (RepL.idsub e i hi), fun id cs e i hi => hcl id cs e i hi, fun _ _ => rfl⟩
  ·obtain ⟨v, e1, e2⟩ := hrepA.get e
   exact ⟨v, by simpa using e1, e2⟩
  ·exact (hs.obj id cs (hhH id cs e)).mono (fun g b hb => ⟨hokc g b hb, rfl⟩) (fun _ _ _ _ => rfl) (fun _ _ => rfl)
 refine ⟨Γc, ⟨rfl, rfl, rfl, hvl, rfl, rfl, rfl, rfl, rfl, fun g b hX hb ho => ⟨⟨hb, ho⟩, .inr hX⟩⟩, hsc, ?_⟩
 rintro v w' ⟨β', hs'⟩
 -- the caller's state
 have hkeep : Keeps (own σc β) w w' := hs'.keeps
 have hla : ∀ j, lastP H' j = look H' j := lastP_look h1
 let τ : St := (σ.drops (notStay S H)).puts H'
 have hτh : ∀ j, τ.h j = match look H' j with | some c => some c | none => (σ.drops (notStay S H)).h j := fun j => by
  simp only [τ, puts_h, hla]
 let β'' : Nat → Real := fun i => match look H' i with | some _ => β' i | none => β i
 have hd0 : SimB Γ (σ.drops (notStay S H)) β a w := hs.drops _
 have hβag : ∀ j, σ.h j ≠ none → j ∉ notStay S H → β'' j = β j := fun j hj hq => by
  simp only [β'']
  cases hl : look H' j with
  | none => rfl
  | some c =>
   by_cases hjS : j ∈ S
   ·exact hs'.stab j hjS
   ·exfalso
    have := hn (j, c) (look_mem hl) hjS
    have hjr : j ∉ H.map (·.1) ++ M := by
     intro hmem
     simp only [List.mem_append, List.mem_map] at hmem
     rcases hmem with ⟨r, hr, rfl⟩ | hmem
     ·apply hq
      simp only [notStay, List.mem_filter, List.mem_map, Bool.not_eq_true']
      exact ⟨⟨r, hr, rfl⟩, by simpa using hjS⟩
     ·have := hMH' j hmem
      rw [hl] at this; simp at this
    exact hj (this.2 hjr)
 have hdom0 : ∀ j, (σ.drops (notStay S H)).h j ≠ none → σ.h j ≠ none ∧ j ∉ notStay S H := fun j hj => by
  cases hq : (σ.drops (notStay S H)).h j with
  | none => exact absurd hq hj
  | some c => obtain ⟨q1, c', q2⟩ := drops_h _ hq; exact ⟨by rw [q2]; simp, q1⟩
 have hdomτ : ∀ j, (σ.drops (notStay S H)).h j ≠ none → τ.h j ≠ none := fun j hj => by
  rw [hτh]; cases look H' j with
  | none => exact hj
  | some c => simp
 -- whose block it is
 have hownτ : ∀ b, own τ β'' b → own σ β b ∨ w.heap.size ≤ b := by
  rintro b ⟨j, cs, o', E', e1, e2⟩
  rw [hτh] at e1
  simp only [β''] at e2
  cases hl : look H' j with
  | none =>
   rw [hl] at e1 e2
   obtain ⟨_, c, q2⟩ := drops_h _ e1
   exact .inl ⟨j, c, o', E', q2, e2⟩
  | some c =>
   rw [hl] at e2
   rcases (hs'.ownb b ⟨j, c, o', E', hl, e2⟩).2 with h' | h'
   ·exact .inr h'
   ·exact .inl (hownc b h')
 -- an own block that isn't an object's of the callee
 have hother : ∀ j cs b o' E', look H' j = none → (σ.drops (notStay S H)).h j = some cs → β j = .real b o' E' → own σ β b ∧ ¬ own σc β b := by
  intro j cs b o' E' hl e1 e2
  obtain ⟨q1, c, q2⟩ := drops_h _ e1
  refine ⟨⟨j, c, o', E', q2, e2⟩, ?_⟩
  rintro ⟨j2, c2, o2, E2, e3, e4⟩
  have := hs.inj j j2 c c2 b o' E' o2 E2 q2 (hhH j2 c2 e3) e2 e4
  subst this
  by_cases hjS : j ∈ S
  ·exact (hSH j hjS).2 hl
  ·apply q1
   have e3' : look H j = some c2 := e3
   simp only [notStay, List.mem_filter, List.mem_map, Bool.not_eq_true']
   exact ⟨⟨(j, c2), look_mem e3', rfl⟩, by simpa using hjS⟩
 have hΓX : ∀ g b, Γ.X g b → b < w.heap.size ∧ ¬ own σ β b := fun g b hX => by
  have hold := Γ.X_old g b hX
  refine ⟨Nat.lt_of_lt_of_le hold.1 hs.keeps.size, fun ho => ?_⟩
  rcases (hs.ownb b ho).2 with h' | h'
  ·exact absurd hold.1 (by omega)
  ·exact hold.2 h'
 have hokτ : ∀ g b, okOf Γ.X σ β w g b → okOf Γ.X τ β'' w' g b ∧ w'.heap[b]? = w.heap[b]? := fun g b hb =>
  ⟨⟨Nat.lt_of_lt_of_le hb.1 hkeep.size, fun ho => (hownτ b ho).elim hb.2.1 (fun h' => by have := hb.1; omega), hb.2.2⟩, hkeep.block b hb.1 (fun ho => hb.2.1 (hownc b ho))⟩
 -- what the callee could tell of
 let okc' : Tag → Nat → Prop := okOf Xc (retSt R (look H')) β' w'
 have hshr : ∀ g b, okc' .shr b → okOf Γ.X τ β'' w' g b := by
  intro g b ⟨k1, k2, k3⟩
  refine ⟨k1, ?_, fun hX => ?_⟩
  ·rintro ⟨j, cs, o', E', e1, e2⟩
   rw [hτh] at e1
   simp only [β''] at e2
   cases hl : look H' j with
   | none =>
    rw [hl] at e1 e2
    obtain ⟨r1, r2⟩ := hother j cs b o' E' hl e1 e2
    exact k3 ⟨⟨(hs.ownb b r1).1, r2⟩, .inl ⟨r1, fun e => by simp at e⟩⟩
   | some c => rw [hl] at e2; exact k2 ⟨j, c, o', E', hl, e2⟩
  ·have hX' : Γ.X .shr b := by cases g with | shr => exact hX | brw => exact Γ.X_sub b hX
   obtain ⟨r1, r2⟩ := hΓX .shr b hX'
   exact k3 ⟨⟨r1, fun ho => r2 (hownc b ho)⟩, .inr hX'⟩
 have hokr : M = [] → ∀ g b, okc' g b → okOf Γ.X τ β'' w' g b := by
  intro hM0 g b ⟨k1, k2, k3⟩
  refine ⟨k1, ?_, fun hX => ?_⟩
  ·rintro ⟨j, cs, o', E', e1, e2⟩
   rw [hτh] at e1
   simp only [β''] at e2
   cases hl : look H' j with
   | none =>
    rw [hl] at e1 e2
    obtain ⟨r1, r2⟩ := hother j cs b o' E' hl e1 e2
    exact k3 ⟨⟨(hs.ownb b r1).1, r2⟩, .inl ⟨r1, fun _ ⟨id, hid, _⟩ => by rw [hM0] at hid; simp at hid⟩⟩
   | some c => rw [hl] at e2; exact k2 ⟨j, c, o', E', hl, e2⟩
  ·obtain ⟨r1, r2⟩ := hΓX g b hX
   exact k3 ⟨⟨r1, fun ho => r2 (hownc b ho)⟩, .inr hX⟩
 have hobjc : ∀ j c, look H' j = some c → ObjAt w' (okOf Γ.X τ β'' w') β'' c (β'' j) := by
  intro j c hl
  have h0 := hs'.obj j c hl
  have hβj : β'' j = β' j := by simp only [β'', hl]
  rw [hβj]
  have hids : ∀ i ∈ idsL c, β'' i = β' i := fun i hi => by
   have := hs'.wfh j c hl i hi
   simp only [β'']
   cases hl2 : look H' i with
   | none => exact absurd hl2 this
   | some _ => rfl
  rcases hnb with hM0 | ⟨_, hnbH⟩
  ·exact h0.mono (fun g b hb => ⟨hokr hM0 g b hb, rfl⟩) (fun _ _ _ _ => rfl) hids
  ·cases hr : β' j with
   | ph => rw [hr] at h0; exact h0
   | real b o' E' =>
    rw [hr] at h0
    obtain ⟨c', el, fr, vs', q1, q2, q3, q4, q5, q6⟩ := h0
    have q5' := RepL.noB (fun _ b => okc' .shr b) (fun b hb => hb) c β' vs' (hnbH (j, c) (look_mem hl)) q5
    exact ⟨c', el, fr, vs', q1, q2, q3, q4, RepL.mono (fun g b hb => ⟨hshr g b hb, rfl⟩) c β' β'' vs' hids q5', q6⟩
 have hsim : SimB Γ τ β'' a w' := by
  refine ⟨hs.defers, hs.size, ?_, fun t y e => ?_, fun j cs e => ?_, fun i1 i2 c1 c2 b1 o1 E1 o2 E2 e1 e2 r1 r2 => ?_, fun b hb => ?_, fun t y e i hi => ?_, fun j cs e i hi => ?_, fun i hi => ?_⟩
  ·exact hs.keeps.trans hkeep (fun b hb ho => (hs.ownb b (hownc b ho)).2.resolve_left (by omega))
  ·have e' : (σ.drops (notStay S H)).s t = some y := by simpa only [τ, puts_s] using e
   rw [drops_s] at e'
   obtain ⟨y0, e1, rfl⟩ := Option.map_eq_some_iff.1 e'
   obtain ⟨u, q1, q2⟩ := hs.slot t y0 e1
   refine ⟨u, q1, Rep.mono hokτ _ β β'' u (fun i hi => ?_) (Rep.purges _ q2)⟩
   obtain ⟨r1, r2⟩ := hdom0 i (hd0.wfs t _ (by rw [drops_s, e1]; rfl) i hi)
   exact hβag i r1 r2
  ·have e' := e
   rw [hτh] at e'
   cases hl : look H' j with
   | some c => rw [hl] at e'; injection e' with e'; subst e'; exact hobjc j _ hl
   | none =>
    rw [hl] at e'
    obtain ⟨c0, e1, rfl⟩ := drops_hh _ _ _ _ e'
    have hβj : β'' j = β j := by simp only [β'', hl]
    rw [hβj]
    refine ((hs.obj j c0 e1).purges _).mono hokτ (fun b o' E' hr => ?_) (fun i hi => ?_)
    ·obtain ⟨r1, r2⟩ := hother j _ b o' E' hl e' hr
     exact hkeep.block b (hs.ownb b r1).1 r2
    ·obtain ⟨r1, r2⟩ := hdom0 i (hd0.wfh j _ e' i hi)
     exact hβag i r1 r2
  ·rw [hτh] at e1 e2
   simp only [β''] at r1 r2
   cases hl1 : look H' i1 with
   | none =>
    rw [hl1] at e1 r1
    obtain ⟨k1, k2⟩ := hother i1 c1 b1 o1 E1 hl1 e1 r1
    cases hl2 : look H' i2 with
    | none =>
     rw [hl2] at e2 r2
     obtain ⟨_, d1, q1⟩ := drops_h _ e1
     obtain ⟨_, d2, q2⟩ := drops_h _ e2
     exact hs.inj i1 i2 d1 d2 b1 o1 E1 o2 E2 q1 q2 r1 r2
    | some c =>
     rw [hl2] at r2
     rcases (hs'.ownb b1 ⟨i2, c, o2, E2, hl2, r2⟩).2 with h' | h'
     ·have h'' : w.heap.size ≤ b1 := h'
      have := (hs.ownb b1 k1).1; omega
     ·exact absurd h' k2
   | some c =>
    rw [hl1] at r1
    cases hl2 : look H' i2 with
    | none =>
     rw [hl2] at e2 r2
     obtain ⟨k1, k2⟩ := hother i2 c2 b1 o2 E2 hl2 e2 r2
     rcases (hs'.ownb b1 ⟨i1, c, o1, E1, hl1, r1⟩).2 with h' | h'
     ·have h'' : w.heap.size ≤ b1 := h'
      have := (hs.ownb b1 k1).1; omega
     ·exact absurd h' k2
    | some c' =>
     rw [hl2] at r2
     exact hs'.inj i1 i2 c c' b1 o1 E1 o2 E2 hl1 hl2 r1 r2
  ·obtain ⟨j, cs, o', E', e1, e2⟩ := hb
   have e1' := e1
   rw [hτh] at e1'
   simp only [β''] at e2
   cases hl : look H' j with
   | none =>
    rw [hl] at e1' e2
    obtain ⟨r1, _⟩ := hother j cs b o' E' hl e1' e2
    exact ⟨Nat.lt_of_lt_of_le (hs.ownb b r1).1 hkeep.size, (hs.ownb b r1).2⟩
   | some c =>
    rw [hl] at e2
    have := hs'.ownb b ⟨j, c, o', E', hl, e2⟩
    refine ⟨this.1, ?_⟩
    rcases this.2 with h' | h'
    ·exact .inl (Nat.le_trans hs.keeps.size h')
    ·exact (hs.ownb b (hownc b h')).2
  ·have e' : (σ.drops (notStay S H)).s t = some y := by simpa only [τ, puts_s] using e
   exact hdomτ i (hd0.wfs t y e' i hi)
  ·rw [hτh] at e
   cases hl : look H' j with
   | none => rw [hl] at e; exact hdomτ i (hd0.wfh j cs e i hi)
   | some c =>
    rw [hl] at e; injection e with e; subst e
    rw [hτh]
    have : look H' i ≠ none := hs'.wfh j _ hl i hi
    cases hl2 : look H' i with
    | none => exact absurd hl2 this
    | some _ => simp
  ·simp only [β'']
   cases hl : look H' i with
   | none => exact hs.stab i hi
   | some c =>
    by_cases hiS : i ∈ S
    ·have := hs'.stab i hiS
     exact this.trans (hs.stab i hi)
    ·exact absurd hi (hn (i, c) (look_mem hl) hiS).1
 have hRs : (retSt R (look H')).s 0 = some R := rfl
 obtain ⟨u, u1, u2⟩ := hs'.slot 0 R hRs
 have hu : u = v := by simpa using u1.symm
 subst hu
 have hRids : ∀ i ∈ R.ids, look H' i ≠ none := hs'.wfs 0 R hRs
 have hβR : ∀ i ∈ R.ids, β'' i = β' i := fun i hi => by
  simp only [β'']
  cases hl2 : look H' i with
  | none => exact absurd hl2 (hRids i hi)
  | some _ => rfl
 have hRrep : Rep w' (okOf Γ.X τ β'' w') R β'' u := by
  rcases hnb with hM0 | ⟨hnbR, _⟩
  ·exact Rep.mono (fun g b hb => ⟨hokr hM0 g b hb, rfl⟩) R β' β'' u hβR u2
  ·exact Rep.mono (fun g b hb => ⟨hshr g b hb, rfl⟩) R β' β'' u hβR (Rep.noB (fun _ b => okc' .shr b) (fun b hb => hb) R β' u hnbR u2)
 exact ⟨β'', hsim, hRrep, (fun i hi => by
  rw [hτh]
  cases hl2 : look H' i with
  | none => exact absurd hl2 (hRids i hi)
  | some _ => simp)⟩
set_option maxHeartbeats 2000000 in
theorem acts_call {fo : Operand} {xs : Array Operand} {ts : Array TypeId} {f : FuncId} {x : T} {p q AV A : List T} {H H' : List (Nat × List T)} {S M : List Nat} {R : T}
  (hM : Meets P f A H S R H') (ho : o.op = .call { callee := .value fo, args := xs, argTypes := ts }) (hx : ev fo = some x) (hc : calleeT x = some (f, p, q)) (hA : evL ev xs.toList = some AV)
  (hsn : snapL h M (p ++ AV ++ q) = A) (hsO : snapOkL h M (p ++ AV ++ q)) (hH : ∀ i cs, look H i = some cs → h i = some cs) (hcl : ∀ i cs, look H i = some cs → ∀ j ∈ idsL cs, look H j ≠ none) (hAi : ∀ i ∈ idsL A, look H i ≠ none)
  (hMH : ∀ i ∈ M, look H i = none) (hnb : M = [] ∨ (R.noB = true ∧ ∀ q ∈ H', noBL q.2 = true)) (h1 : once H' = true) (hSH : ∀ i ∈ S, look H i ≠ none ∧ look H' i ≠ none) (hMH' : ∀ i ∈ M, look H' i = none) :
  Acts P o ev h (H.map (·.1) ++ M) { val := R, drops := notStay S H, puts := H', stay := S } := by
 intro Γ σ β a w K Q hP hev hh hn hd hs hK
 have hopx : σ.ev fo = some x := by rw [hev fo (by simp [ho, Op.operands, Call.operands]), hx]
 have hopA : evL σ.ev xs.toList = some AV := by
  rw [evL_congr (fun y hy => hev y (by simp [ho, Op.operands, Call.operands]; exact .inr (by simpa using hy))), hA]
 -- what the call is handed
 obtain ⟨ps, qs, hf, hps, hqs⟩ := calleeT_run hc (hs.ev hopx)
 obtain ⟨hAr, hAids⟩ := evL_rep hs hopA
 have hall : RepL w (okOf Γ.X σ β w) (p ++ AV ++ q) β (ps ++ xs.toList.map a.eval ++ qs) := (hps.append hAr).append hqs
 have hhM : ∀ i ∈ M, σ.h i = h i := fun i hi => hh i (by simp [hi])
 have hhH : ∀ i cs, look H i = some cs → σ.h i = some cs := fun i cs e => by
  rw [hh i (by simp; exact .inl ⟨cs, look_mem e⟩)]; exact hH i cs e
 have hsnap : snapL σ.h M (p ++ AV ++ q) = A ∧ snapOkL σ.h M (p ++ AV ++ q) := by
  have key : ∀ t : T, t.snap σ.h M = t.snap h M ∧ (t.snapOk h M → t.snapOk σ.h M) := by
   intro t
   induction t using T.rec (motive_2 := fun ts => snapL σ.h M ts = snapL h M ts ∧ (snapOkL h M ts → snapOkL σ.h M ts)) with
   | ref id m off n => simp only [T.snap, T.snapOk]; by_cases hm : id ∈ M <;> simp [hm, hhM]
   | addr id off => simp only [T.snap, T.snapOk]; by_cases hm : id ∈ M <;> simp [hm, hhM]
   | fn f p q hp hq => simp only [T.snap, T.snapOk, hp.1, hq.1]; exact ⟨trivial, fun ⟨a, b⟩ => ⟨hp.2 a, hq.2 b⟩⟩
   | cons t ts ht hts => simp only [snapL, snapOkL, ht.1, hts.1]; exact ⟨trivial, fun ⟨a, b⟩ => ⟨ht.2 a, hts.2 b⟩⟩
   | _ => simp_all [T.snap, T.snapOk, snapL, snapOkL]
  have keyL : ∀ ts : List T, snapL σ.h M ts = snapL h M ts ∧ (snapOkL h M ts → snapOkL σ.h M ts) := by
   intro ts
   induction ts with
   | nil => simp [snapL, snapOkL]
   | cons t ts ih => simp only [snapL, snapOkL, (key t).1, ih.1]; exact ⟨trivial, fun ⟨a, b⟩ => ⟨(key t).2 a, ih.2 b⟩⟩
  exact ⟨by rw [(keyL _).1, hsn], (keyL _).2 hsO⟩
 obtain ⟨Γc, ⟨q1, q2, q3, q4, q5, q6, q7, q8, q9, _⟩, hsc, hfin⟩ := call_frame (R := R) (H' := H') (S := S) hP hs hall hsnap.1 hsnap.2 hhH hcl hAi hMH hnb h1 hSH hMH' hn
 subst q7
 have hcalls := hM Γc β _ q1 q2 q3 q4 q5 q6 hsc
 -- behind it
 have fin : ∀ v w', Sim { Γc with n := 1 } (retSt R (look H')) ⟨#[v], []⟩ w' → K (a.put o.dst v) w' := fun v w' h => by
  obtain ⟨β', k1, k2, k3⟩ := hfin v w' h
  exact hK _ _ ⟨β', k1.set hd k2 k3⟩
 unfold Oper.wp
 rcases hcalls with ⟨hen, hcalls⟩ | ⟨v, w', hen, hpost⟩
 ·have hexec : (execOp a.eval o).run P Γc.w0 = .ok (.enter f (ps ++ xs.toList.map a.eval ++ qs).toArray) Γc.w0 := by
   simp only [execOp, ho, resolve, hf, Deferred.ofValue, Sem.run_bind, Sem.run_pure, Result.andThen_ok, invoke]
   exact Eq.trans (congrArg (fun z => (callFunc f z).run P Γc.w0) (show _ = (ps ++ xs.toList.map a.eval ++ qs).toArray by simp)) hen
  rw [hexec]
  simp only [Oper.upon]
  refine hcalls.mono ?_
  rintro e w' ⟨v, rfl, h⟩
  exact fin v w' h
 ·have hexec : (execOp a.eval o).run P Γc.w0 = .ok (.value v) w' := by
   simp only [execOp, ho, resolve, hf, Deferred.ofValue, Sem.run_bind, Sem.run_pure, Result.andThen_ok, invoke]
   exact Eq.trans (congrArg (fun z => (callFunc f z).run P Γc.w0) (show _ = (ps ++ xs.toList.map a.eval ++ qs).toArray by simp)) hen
  rw [hexec]
  exact fin v w' hpost
end
end Go.Vw
namespace Go.Vw
open Go Go.RowKit
def zeq : Value → Value → Bool
 | .bool a, .bool b => a == b
 | .int k a, .int k' b => k == k' && a == b
 | .float k a, .float k' b => k == k' && a == b
 | .string a, .string b => a.data == b.data
 | .pointer none, .pointer none => true
 | .slice none 0 0, .slice none 0 0 => true
 | .map none, .map none => true
 | .chan none, .chan none => true
 | .nilFunc, .nilFunc => true
 | .nilIface, .nilIface => true
 | _, _ => false
theorem zeq_eq {a b : Value} (h : zeq a b = true) : a = b := by
 unfold zeq at h
 split at h <;> simp_all
 rename_i a b
 cases a; cases b; simp_all
def zeqL : List Value → List Value → Bool
 | [], [] => true
 | a :: as, b :: bs => zeq a b && zeqL as bs
 | _, _ => false
theorem zeqL_eq : ∀ {a b : List Value}, zeqL a b = true → a = b
 | [], [], _ => rfl
 | a :: as, b :: bs, h => by
  simp only [zeqL, Bool.and_eq_true] at h
  rw [zeq_eq h.1, zeqL_eq h.2]
 | [], _ :: _, h => by simp [zeqL] at h
 | _ :: _, [], h => by simp [zeqL] at h
def kchk : TypeDesc → K → Bool
 | _, .no => true
 | _, .other => true
 | .bool, .bool => true
 | .string, .str => true
 | .interface _, .iface => true
 | .func .., .func => true
 | .int k, .int k' => k == k'
 | .slice e, .slice e' => e == e'
 | .array n e, .array n' e' => n == n' && e == e'
 | .struct fs, .struct fs' => fs.toList.map (fun x => (x.offset, x.type)) == fs'
 | .pointer e, .ptr e' => e == e'
 | _, _ => false
theorem kchk_ok {d : TypeDesc} {k : K} (h : kchk d k = true) : kOk d k := by
 unfold kchk at h
 split at h <;> simp_all [kOk]
def dAgg : TypeDesc → Bool | .struct _ | .array _ _ => true | _ => false
def tchk (P : Program) (t : TypeId) (i : TI) : Bool :=
 match P.info? t, P.underlying t with
 | some j, some d => j.size == i.size && j.bytes == i.bytes && (match j.zero with | some z => zeqL z.cells.toList i.zero | none => false) && kchk d i.k && i.zero.length == i.size && dAgg d == i.agg
 | _, _ => false
theorem tchk_ok {P : Program} {t : TypeId} {i : TI} (h : tchk P t i = true) : TOk P t i := by
 unfold tchk at h
 split at h
 ·rename_i j d h1 h2
  simp only [Bool.and_eq_true, beq_iff_eq] at h
  obtain ⟨⟨⟨⟨⟨a, b⟩, c⟩, k⟩, e⟩, g⟩ := h
  split at c
  ·rename_i z hz
   refine ⟨⟨j, h1, a, b, z, hz, ?_⟩, e, ⟨d, h2, kchk_ok k, ?_⟩⟩
   ·have := zeqL_eq c
    apply Array.ext'; simpa using this
   ·rw [← g]; cases d <;> rfl
  ·simp at c
 ·simp at h
def K.isNo : K → Bool | .no => true | _ => false
def rowIn (tbl : List (Nat × TI)) : K → Bool
 | .slice e => (look tbl e).isSome
 | .array _ e => (look tbl e).isSome
 | .struct fs => fs.all fun f => (look tbl f.2).isSome
 | _ => true
def tiOf (tbl : List (Nat × TI)) (t : TypeId) : TI := match look tbl t with | some i => i | none => {}
theorem tiOf_k {tbl : List (Nat × TI)} (hn : tbl.all (fun p => !p.2.k.isNo) = true) {e : TypeId} (h : (look tbl e).isSome = true) : (tiOf tbl e).k ≠ .no := by
 obtain ⟨i, hi⟩ := Option.isSome_iff_exists.1 h
 have := (List.all_eq_true.1 hn) (e, i) (look_mem hi)
 intro hk
 simp only [tiOf, hi] at hk
 simp [hk, K.isNo] at this
def Env.mk' (P : Program) (tbl : List (Nat × TI)) (hn : tbl.all (fun p => !p.2.k.isNo) = true) (h : ∀ p ∈ tbl, tchk P p.1 p.2 = true) (hr : tbl.all (fun p => rowIn tbl p.2.k) = true) : Env where
 P := P
 ti := tiOf tbl
 ok := fun t ht => by
  cases hl : look tbl t with
  | none => simp [tiOf, hl] at ht
  | some i => simp only [tiOf, hl]; exact tchk_ok (h (t, i) (look_mem hl))
 sl := fun t e ht => by
  cases hl : look tbl t with
  | none => simp [tiOf, hl] at ht
  | some i =>
   have := (List.all_eq_true.1 hr) (t, i) (look_mem hl)
   simp only [tiOf, hl] at ht
   simp only [ht, rowIn] at this
   exact tiOf_k hn this
 ar := fun t n e ht => by
  cases hl : look tbl t with
  | none => simp [tiOf, hl] at ht
  | some i =>
   have := (List.all_eq_true.1 hr) (t, i) (look_mem hl)
   simp only [tiOf, hl] at ht
   simp only [ht, rowIn] at this
   exact tiOf_k hn this
 st := fun t fs ht f hf => by
  cases hl : look tbl t with
  | none => simp [tiOf, hl] at ht
  | some i =>
   have := (List.all_eq_true.1 hr) (t, i) (look_mem hl)
   simp only [tiOf, hl] at ht
   simp only [ht, rowIn] at this
   exact tiOf_k hn ((List.all_eq_true.1 this) f hf)
end Go.Vw

/- Regions whose order is drawn: the text's order is walked, and what is not ordered must not meet. -/
import Derived.Test.YtdlnppcndcfikaaVw12
import Derived.Orders
namespace Go.Vw
set_option linter.unusedVariables false
set_option linter.unusedSimpArgs false
open Go Go.RowKit

/-- What a step did, and what it looked at. -/
structure Step where
  e : Eff
  r : List Nat
  go : Bool
  c : Bool

structure Mark where
  rd : List Nat
  pt : List Nat
  dr : Bool
  cl : Bool

def Step.mark (s : Step) : Mark := ⟨s.r, s.e.puts.map (·.1), !s.e.drops.isEmpty, s.c⟩

def memN (n : Nat) : List Nat → Bool
  | [] => false
  | m :: l => Nat.beq m n || memN n l

theorem memN_iff {n : Nat} : ∀ {l : List Nat}, memN n l = true ↔ n ∈ l
  | [] => by simp [memN]
  | m :: l => by
    simp only [memN, Bool.or_eq_true, Nat.beq_eq, memN_iff, List.mem_cons]
    exact ⟨fun h => h.imp Eq.symm id, fun h => h.imp Eq.symm id⟩

/-- What a region may forget: none: not told. -/
def inD : Option (List Nat) → Nat → Prop
  | none, _ => True
  | some D, i => i ∈ D
def outD : Option (List Nat) → Nat → Bool
  | none, _ => false
  | some D, i => !memN i D
theorem outD_ne {o : Option (List Nat)} {i j : Nat} (h : outD o j = true) (hi : inD o i) : j ≠ i := by
  cases o with
  | none => simp [outD] at h
  | some D =>
    intro e; subst e
    simp only [outD, Bool.not_eq_true'] at h
    rw [memN_iff.2 hi] at h; cases h
def dropB (o : Option (List Nat)) (l : List Nat) : Bool := match o with | none => true | some D => l.all fun i => memN i D
theorem dropB_ok {o : Option (List Nat)} {l : List Nat} (h : dropB o l = true) : ∀ i ∈ l, inD o i := by
  intro i hi
  cases o with
  | none => trivial
  | some D => exact memN_iff.1 (List.all_eq_true.1 h i hi)
mutual
/-- Values that lead to no object that the region may forget. -/
def flatT (o : Option (List Nat)) : T → Bool
  | .dead => false
  | .leaf _ => true
  | .e0 => true
  | .sl _ _ _ _ => true
  | .pt _ _ _ => true
  | .agg cs => flatL o cs
  | .tup cs => flatL o cs
  | .iface _ v => flatT o v
  | .fn _ p r => flatL o p && flatL o r
  | .ref i _ _ _ => outD o i
  | .addr i _ => outD o i
def flatL (o : Option (List Nat)) : List T → Bool
  | [] => true
  | t :: ts => flatT o t && flatL o ts
end
mutual
theorem flat_purge {o : Option (List Nat)} {i : Nat} (hi : inD o i) : ∀ {p : T}, flatT o p = true → p.purge i = p
  | .dead, h => rfl
  | .leaf _, h => rfl
  | .e0, h => rfl
  | .sl _ _ _ _, h => rfl
  | .pt _ _ _, h => rfl
  | .agg cs, h => by simp only [flatT] at h; simp only [T.purge, flatL_purge hi h]
  | .tup cs, h => by simp only [flatT] at h; simp only [T.purge, flatL_purge hi h]
  | .iface _ v, h => by simp only [flatT] at h; simp only [T.purge, flat_purge hi h]
  | .fn _ p r, h => by simp only [flatT, Bool.and_eq_true] at h; simp only [T.purge, flatL_purge hi h.1, flatL_purge hi h.2]
  | .ref id m a n, h => by simp only [flatT] at h; simp only [T.purge]; rw [if_neg (outD_ne h hi)]
  | .addr id a, h => by simp only [flatT] at h; simp only [T.purge]; rw [if_neg (outD_ne h hi)]
theorem flatL_purge {o : Option (List Nat)} {i : Nat} (hi : inD o i) : ∀ {p : List T}, flatL o p = true → purgeL i p = p
  | [], _ => rfl
  | t :: ts, h => by simp only [flatL, Bool.and_eq_true] at h; simp only [purgeL, flat_purge hi h.1, flatL_purge hi h.2]
end
mutual
theorem purge_flat0 {o : Option (List Nat)} {i : Nat} : ∀ (v : T), flatT o (v.purge i) = true → v.purge i = v
  | .dead, h => rfl
  | .leaf _, h => rfl
  | .e0, h => rfl
  | .sl _ _ _ _, h => rfl
  | .pt _ _ _, h => rfl
  | .agg cs, h => by simp only [T.purge, flatT] at h ⊢; rw [purge_flatL0 cs h]
  | .tup cs, h => by simp only [T.purge, flatT] at h ⊢; rw [purge_flatL0 cs h]
  | .iface _ v, h => by simp only [T.purge, flatT] at h ⊢; rw [purge_flat0 v h]
  | .fn _ p r, h => by simp only [T.purge, flatT, Bool.and_eq_true] at h ⊢; rw [purge_flatL0 p h.1, purge_flatL0 r h.2]
  | .ref id m a n, h => by
    simp only [T.purge] at h ⊢; split at h
    · simp [flatT] at h
    · rename_i q; rw [if_neg q]
  | .addr id a, h => by
    simp only [T.purge] at h ⊢; split at h
    · simp [flatT] at h
    · rename_i q; rw [if_neg q]
theorem purge_flatL0 {o : Option (List Nat)} {i : Nat} : ∀ (v : List T), flatL o (purgeL i v) = true → purgeL i v = v
  | [], _ => rfl
  | t :: ts, h => by simp only [purgeL, flatL, Bool.and_eq_true] at h ⊢; rw [purge_flat0 t h.1, purge_flatL0 ts h.2]
end
theorem purge_flat {o : Option (List Nat)} {i : Nat} {v p : T} (h : flatT o p = true) (e : v.purge i = p) : v = p := by
  subst e; exact (purge_flat0 v h).symm
theorem purge_flatL {o : Option (List Nat)} {i : Nat} {v p : List T} (h : flatL o p = true) (e : purgeL i v = p) : v = p := by
  subst e; exact (purge_flatL0 v h).symm

def opsT (E : Env) (S : List Nat) (ds : List (Option Nat)) (K : List Mark → St → Prop) : List Oper → List Mark → St → Prop
  | [], tr, σ => K tr σ
  | o :: l, tr, σ =>
    bindO (guardT ds σ o.guard) fun g => condB g
      (act E σ o.dst (fun e r => putOk σ S r e ∧ withSt (e.apply σ o.dst) fun σ' => opsT E S ds K l (⟨r, e.puts.map (·.1), !e.drops.isEmpty, false⟩ :: tr) σ') o.op)
      (withSt (σ.set o.dst (.tup [])) fun σ' => opsT E S ds K l (⟨[], [], false, false⟩ :: tr) σ')

theorem opsT_nil {E : Env} {S : List Nat} {ds : List (Option Nat)} {K : List Mark → St → Prop} {tr : List Mark} {σ : St} : opsT E S ds K [] tr σ = K tr σ := rfl
theorem opsT_cons {E : Env} {S : List Nat} {ds : List (Option Nat)} {K : List Mark → St → Prop} {tr : List Mark} {σ : St} {dst : Option Tmp} {op : Op} {type : TypeId} {pos : String} {after : Array Edge} {g : Option (Nat × Bool)} {l : List Oper} :
    opsT E S ds K (⟨dst, op, type, pos, after, g⟩ :: l) tr σ = bindO (guardT ds σ g) fun g => condB g
      (act E σ dst (fun e r => putOk σ S r e ∧ withSt (e.apply σ dst) fun σ' => opsT E S ds K l (⟨r, e.puts.map (·.1), !e.drops.isEmpty, false⟩ :: tr) σ') op)
      (withSt (σ.set dst (.tup [])) fun σ' => opsT E S ds K l (⟨[], [], false, false⟩ :: tr) σ') := rfl
@[congr] theorem opsT_congr {E : Env} {S : List Nat} {ds : List (Option Nat)} {K : List Mark → St → Prop} {σ : St} {l : List Oper} {tr : List Mark} : opsT E S ds K l tr σ = opsT E S ds K l tr σ := rfl

def stp (z : Oper × Step) (σ : St) : St := z.2.e.apply σ z.1.dst

/-- A step that makes, forgets and reads no object, and looks at flat values alone. -/
def CleanE (q : Option (List Nat)) (z : Oper × Step) : Prop := z.2.e.puts = [] ∧ z.2.e.drops = [] ∧ flatT q z.2.e.val = true
def CleanAt (q : Option (List Nat)) (ds : List (Option Nat)) (σ : St) (z : Oper × Step) : Prop :=
  CleanE q z ∧ (∀ i ∈ z.2.r, outD q i = true ∧ ∃ cs, σ.h i = some cs ∧ flatL q cs = true) ∧ (∀ t, .tmp t ∈ z.1.op.operands → ∃ p, σ.s t = some p ∧ flatT q p = true) ∧ ∀ j b d, z.1.guard = some (j, b) → ds[j]? = some (some d) → ∃ p, σ.s d = some p ∧ flatT q p = true
def StepOk (q : Option (List Nat)) (E : Env) (S : List Nat) (ds : List (Option Nat)) (σ : St) (z : Oper × Step) : Prop :=
  guardT ds σ z.1.guard = some z.2.go ∧ (if z.2.go then Acts E.P z.1 σ.ev σ.h z.2.r z.2.e ∧ putOk σ S z.2.r z.2.e else z.2.e = {} ∧ z.2.r = []) ∧ (z.2.c = true → CleanAt q ds σ z) ∧ ∀ i ∈ z.2.e.drops, inD q i

def Runs (q : Option (List Nat)) (E : Env) (S : List Nat) (ds : List (Option Nat)) : List (Oper × Step) → St → Prop
  | [], _ => True
  | z :: l, σ => StepOk q E S ds σ z ∧ Runs q E S ds l (stp z σ)

theorem opsT_runs {E : Env} {S : List Nat} {ds : List (Option Nat)} {K : List Mark → St → Prop} : ∀ (l : List Oper) (tr : List Mark) (σ : St), opsT E S ds K l tr σ →
    ∃ zs : List (Oper × Step), zs.map (·.1) = l ∧ Runs none E S ds zs σ ∧ K ((zs.map (·.2.mark)).reverse ++ tr) (zs.foldl (fun σ z => stp z σ) σ)
  | [], tr, σ, h => ⟨[], rfl, trivial, by simpa [opsT] using h⟩
  | o :: l, tr, σ, h => by
    simp only [opsT] at h
    obtain ⟨g, hg, h⟩ := h
    cases g with
    | true =>
      rw [condB_true] at h
      obtain ⟨e, r, hact, hput, hnext⟩ := act_sound h
      obtain ⟨zs, h1, h2, h3⟩ := opsT_runs l _ _ hnext
      refine ⟨(o, ⟨e, r, true, false⟩) :: zs, by simp [h1], ⟨⟨hg, by simp [hact, hput], by simp, fun _ _ => trivial⟩, h2⟩, ?_⟩
      simpa [Step.mark, stp] using h3
    | false =>
      rw [condB_false] at h
      obtain ⟨zs, h1, h2, h3⟩ := opsT_runs l _ _ h
      refine ⟨(o, ⟨{}, [], false, false⟩) :: zs, by simp [h1], ⟨⟨hg, by simp, by simp, fun _ _ => trivial⟩, h2⟩, ?_⟩
      simpa [Step.mark, stp, Eff.apply, St.drops, St.puts] using h3

/-- The steps that are done, in the text's order. -/
def foldD (D : Nat → Bool) : Nat → List (Oper × Step) → St → St
  | _, [], σ => σ
  | k, z :: l, σ => foldD D (k + 1) l (if D k then stp z σ else σ)

theorem foldD_all {D : Nat → Bool} : ∀ (zs : List (Oper × Step)) (k : Nat) (σ : St), (∀ i, k ≤ i → i < k + zs.length → D i = true) → foldD D k zs σ = zs.foldl (fun σ z => stp z σ) σ
  | [], _, _, _ => rfl
  | z :: l, k, σ, h => by
    simp only [foldD, List.foldl_cons]
    rw [if_pos (h k (Nat.le_refl _) (by simp)), foldD_all l (k + 1) _ fun i h1 h2 => h i (by omega) (by simp; omega)]

theorem foldD_congr {D D' : Nat → Bool} : ∀ (zs : List (Oper × Step)) (k : Nat) (σ : St), (∀ i, k ≤ i → i < k + zs.length → D i = D' i) → foldD D k zs σ = foldD D' k zs σ
  | [], _, _, _ => rfl
  | z :: l, k, σ, h => by
    simp only [foldD]
    rw [h k (Nat.le_refl _) (by simp), foldD_congr l (k + 1) _ fun i h1 h2 => h i (by omega) (by simp; omega)]

theorem foldD_none {D : Nat → Bool} : ∀ (zs : List (Oper × Step)) (k : Nat) (σ : St), (∀ i, k ≤ i → D i = false) → foldD D k zs σ = σ
  | [], _, _, _ => rfl
  | z :: l, k, σ, h => by
    simp only [foldD]
    rw [if_neg (by simp [h k (Nat.le_refl _)]), foldD_none l (k + 1) _ fun i h1 => h i (by omega)]

theorem runs_at {q : Option (List Nat)} {E : Env} {S : List Nat} {ds : List (Option Nat)} : ∀ (zs : List (Oper × Step)) (k : Nat) (σ : St), Runs q E S ds zs σ → ∀ j z, zs[j]? = some z → StepOk q E S ds (foldD (fun i => decide (i < k + j)) k zs σ) z
  | [], _, _, _, j, z, h => by simp at h
  | z0 :: l, k, σ, hr, 0, z, h => by
    simp only [List.getElem?_cons_zero, Option.some.injEq] at h; subst h
    rw [foldD_none _ _ _ fun i hi => by simp; omega]
    exact hr.1
  | z0 :: l, k, σ, hr, j + 1, z, h => by
    simp only [List.getElem?_cons_succ] at h
    have := runs_at l (k + 1) _ hr.2 j z h
    simp only [foldD]
    rw [if_pos (by simp)]
    rw [show (fun i => decide (i < k + (j + 1))) = fun i => decide (i < k + 1 + j) from by funext i; congr 1; simp; omega]
    exact this

/-! ### What two steps may do beside one another -/

structure View (vs : Nat → Prop) (vi : Nat → Prop) (σ τ : St) : Prop where
  s : ∀ t, vs t → σ.s t = τ.s t
  h : ∀ i, vi i → σ.h i = τ.h i

theorem St.drops_s (σ τ : St) {vs vi : Nat → Prop} : ∀ (is : List Nat) {σ τ : St}, View vs vi σ τ → View vs vi (σ.drops is) (τ.drops is)
  | [], _, _, h => h
  | i :: is, σ, τ, h => by
    simp only [St.drops]
    refine St.drops_s σ τ is ⟨fun t ht => ?_, fun j hj => ?_⟩
    · simp only [St.drop, h.s t ht]
    · simp only [St.drop, h.h j hj]

theorem St.puts_view {vs vi : Nat → Prop} : ∀ (ps : List (Nat × List T)) {σ τ : St}, View vs vi σ τ → View vs vi (σ.puts ps) (τ.puts ps)
  | [], _, _, h => h
  | (i, cs) :: ps, σ, τ, h => by
    simp only [St.puts]
    exact St.puts_view ps ⟨h.s, fun j hj => by simp only [upd, h.h j hj]⟩

theorem St.set_view {vs vi : Nat → Prop} (d : Option Nat) (x : T) {σ τ : St} (h : View vs vi σ τ) : View vs vi (σ.set d x) (τ.set d x) := by
  cases d with
  | none => exact h
  | some d => exact ⟨fun t ht => by simp only [St.set, upd, h.s t ht], h.h⟩

theorem stp_view {vs vi : Nat → Prop} (z : Oper × Step) {σ τ : St} (h : View vs vi σ τ) : View vs vi (stp z σ) (stp z τ) :=
  St.set_view _ _ (St.puts_view _ (St.drops_s σ τ _ h))

theorem St.puts_s : ∀ (ps : List (Nat × List T)) (σ : St), (σ.puts ps).s = σ.s
  | [], _ => rfl
  | (i, cs) :: ps, σ => by simp only [St.puts]; rw [St.puts_s ps]
theorem St.puts_h : ∀ (ps : List (Nat × List T)) (σ : St) (j : Nat), j ∉ ps.map (·.1) → (σ.puts ps).h j = σ.h j
  | [], _, _, _ => rfl
  | (i, cs) :: ps, σ, j, h => by
    simp only [List.map_cons, List.mem_cons, not_or] at h
    simp only [St.puts]; rw [St.puts_h ps _ j h.2]
    simp only [upd]; rw [if_neg h.1]

def Out (vs vi : Nat → Prop) (z : Oper × Step) : Prop := z.2.e.drops = [] ∧ (∀ d, z.1.dst = some d → ¬ vs d) ∧ ∀ i ∈ z.2.e.puts.map (·.1), ¬ vi i

theorem stp_out {vs vi : Nat → Prop} {z : Oper × Step} (h : Out vs vi z) (σ : St) : View vs vi (stp z σ) σ := by
  obtain ⟨h1, h2, h3⟩ := h
  simp only [stp, Eff.apply, h1, St.drops]
  refine ⟨fun t ht => ?_, fun i hi => ?_⟩
  · cases hd : z.1.dst with
    | none => simp only [St.set]; rw [St.puts_s]
    | some d =>
      simp only [St.set, upd]
      rw [if_neg (fun e => h2 d hd (by rw [← e]; exact ht)), St.puts_s]
  · have : ((σ.puts z.2.e.puts).set z.1.dst z.2.e.val).h = (σ.puts z.2.e.puts).h := by cases z.1.dst <;> rfl
    rw [this, St.puts_h _ _ _ fun hm => h3 i hm hi]

theorem View.trans {vs vi : Nat → Prop} {σ τ υ : St} (h : View vs vi σ τ) (k : View vs vi τ υ) : View vs vi σ υ := ⟨fun t ht => (h.s t ht).trans (k.s t ht), fun t ht => (h.h t ht).trans (k.h t ht)⟩
theorem View.symm {vs vi : Nat → Prop} {σ τ : St} (h : View vs vi σ τ) : View vs vi τ σ := ⟨fun t ht => (h.s t ht).symm, fun t ht => (h.h t ht).symm⟩
theorem View.refl {vs vi : Nat → Prop} {σ : St} : View vs vi σ σ := ⟨fun _ _ => rfl, fun _ _ => rfl⟩

theorem foldD_view {vs vi : Nat → Prop} {D D' : Nat → Bool} : ∀ (zs : List (Oper × Step)) (k : Nat) {σ τ : St}, (∀ i z, zs[i]? = some z → D (k + i) ≠ D' (k + i) → Out vs vi z) → View vs vi σ τ → View vs vi (foldD D k zs σ) (foldD D' k zs τ)
  | [], _, _, _, _, hv => hv
  | z :: l, k, σ, τ, h, hv => by
    simp only [foldD]
    refine foldD_view l (k + 1) (fun i z' hz hd => h (i + 1) z' (by simpa using hz) (by rwa [show k + (i + 1) = k + 1 + i from by omega])) ?_
    have h0 := h 0 z rfl
    simp only [Nat.add_zero] at h0
    cases h1 : D k <;> cases h2 : D' k
    · simpa using hv
    · simp only [Bool.false_eq_true, if_false, if_true]
      exact hv.trans (stp_out (h0 (by simp [h1, h2])) τ).symm
    · simp only [Bool.false_eq_true, if_false, if_true]
      exact (stp_out (h0 (by simp [h1, h2])) σ).trans hv
    · simp only [if_true]
      exact stp_view z hv

theorem St.ext0 {σ τ : St} (h1 : ∀ t, σ.s t = τ.s t) (h2 : σ.h = τ.h) : σ = τ := by
  cases σ; cases τ; simp only [St.mk.injEq]; exact ⟨funext h1, h2⟩
/-! ### Flat values stay -/
def FE (q : Option (List Nat)) (a b : Option T) : Prop := ∀ p, flatT q p = true → (a = some p ↔ b = some p)
theorem FE.refl {q : Option (List Nat)} (a : Option T) : FE q a a := fun _ _ => Iff.rfl
theorem FE.symm {q : Option (List Nat)} {a b : Option T} (h : FE q a b) : FE q b a := fun p hp => (h p hp).symm
theorem FE.trans {q : Option (List Nat)} {a b c : Option T} (h : FE q a b) (k : FE q b c) : FE q a c := fun p hp => (h p hp).trans (k p hp)
theorem FE.drop {q : Option (List Nat)} {i : Nat} (hi : inD q i) (a : Option T) : FE q (a.map (T.purge i)) a := fun p hp => by
  cases a with
  | none => simp
  | some v =>
    simp only [Option.map_some, Option.some.injEq]
    exact ⟨purge_flat hp, fun e => by subst e; exact flat_purge hi hp⟩
def FEH (q : Option (List Nat)) (a b : Option (List T)) : Prop := ∀ p, flatL q p = true → (a = some p ↔ b = some p)
theorem FEH.refl {q : Option (List Nat)} (a : Option (List T)) : FEH q a a := fun _ _ => Iff.rfl
theorem FEH.symm {q : Option (List Nat)} {a b : Option (List T)} (h : FEH q a b) : FEH q b a := fun p hp => (h p hp).symm
theorem FEH.trans {q : Option (List Nat)} {a b c : Option (List T)} (h : FEH q a b) (k : FEH q b c) : FEH q a c := fun p hp => (h p hp).trans (k p hp)
theorem FEH.drop {q : Option (List Nat)} {i : Nat} (hi : inD q i) (a : Option (List T)) : FEH q (a.map (purgeL i)) a := fun p hp => by
  cases a with
  | none => simp
  | some v =>
    simp only [Option.map_some, Option.some.injEq]
    exact ⟨purge_flatL hp, fun e => by subst e; exact flatL_purge hi hp⟩
theorem FEH.puts {q : Option (List Nat)} {j : Nat} : ∀ (ps : List (Nat × List T)) {σ τ : St}, FEH q (σ.h j) (τ.h j) → FEH q ((σ.puts ps).h j) ((τ.puts ps).h j)
  | [], _, _, h => h
  | (i, cs) :: ps, σ, τ, h => by
    simp only [St.puts]
    refine FEH.puts ps ?_
    simp only [upd]
    split
    · exact FEH.refl _
    · exact h
structure VF (q : Option (List Nat)) (vs vi : Nat → Prop) (σ τ : St) : Prop where
  s : ∀ t, vs t → FE q (σ.s t) (τ.s t)
  h : ∀ i, vi i → FEH q (σ.h i) (τ.h i)
theorem VF.refl {q : Option (List Nat)} {vs vi : Nat → Prop} {σ : St} : VF q vs vi σ σ := ⟨fun _ _ => FE.refl _, fun _ _ => FEH.refl _⟩
theorem VF.symm {q : Option (List Nat)} {vs vi : Nat → Prop} {σ τ : St} (h : VF q vs vi σ τ) : VF q vs vi τ σ := ⟨fun t ht => (h.s t ht).symm, fun t ht => (h.h t ht).symm⟩
theorem VF.trans {q : Option (List Nat)} {vs vi : Nat → Prop} {σ τ υ : St} (h : VF q vs vi σ τ) (k : VF q vs vi τ υ) : VF q vs vi σ υ := ⟨fun t ht => (h.s t ht).trans (k.s t ht), fun t ht => (h.h t ht).trans (k.h t ht)⟩
theorem VF.drops {q : Option (List Nat)} {vs vi : Nat → Prop} (hvi : ∀ i, vi i → outD q i = true) : ∀ (is : List Nat) (σ : St), (∀ i ∈ is, inD q i) → VF q vs vi (σ.drops is) σ
  | [], _, _ => VF.refl
  | i :: is, σ, h => (VF.drops hvi is (σ.drop i) fun j hj => h j (List.mem_cons_of_mem _ hj)).trans ⟨fun t _ => FE.drop (h i (List.mem_cons_self ..)) _, fun j hj => by
      have : j ≠ i := outD_ne (hvi j hj) (h i (List.mem_cons_self ..))
      simp only [St.drop, if_neg this]
      exact FEH.drop (h i (List.mem_cons_self ..)) _⟩
theorem set_h (σ : St) (d : Option Nat) (x : T) : (σ.set d x).h = σ.h := by cases d <;> rfl
theorem set_s (σ : St) (d : Option Nat) (x : T) (t : Nat) : (σ.set d x).s t = if d = some t then some x else σ.s t := by
  cases d with
  | none => simp [St.set]
  | some d =>
    simp only [St.set, upd, Option.some.injEq]
    by_cases e : t = d
    · rw [if_pos e, if_pos e.symm]
    · rw [if_neg e, if_neg (Ne.symm e)]
theorem stp_vf {q : Option (List Nat)} {vs vi : Nat → Prop} (hvi : ∀ i, vi i → outD q i = true) (z : Oper × Step) (hz : ∀ i ∈ z.2.e.drops, inD q i) {σ τ : St} (h : VF q vs vi σ τ) : VF q vs vi (stp z σ) (stp z τ) := by
  have hd := (VF.drops hvi z.2.e.drops σ hz).trans (h.trans (VF.drops hvi z.2.e.drops τ hz).symm)
  refine ⟨fun t ht => ?_, fun i hi => ?_⟩
  · simp only [stp, Eff.apply]
    rw [set_s, set_s]
    split
    · exact FE.refl _
    · rw [St.puts_s, St.puts_s]
      exact hd.s t ht
  · simp only [stp, Eff.apply]
    rw [set_h, set_h]
    exact FEH.puts _ (hd.h i hi)
theorem stp_outF {q : Option (List Nat)} {vs vi : Nat → Prop} (hvi : ∀ i, vi i → outD q i = true) {z : Oper × Step} (hz : ∀ i ∈ z.2.e.drops, inD q i) (h : ∀ d, z.1.dst = some d → ¬ vs d) (hp : ∀ i ∈ z.2.e.puts.map (·.1), ¬ vi i) (σ : St) : VF q vs vi (stp z σ) σ := by
  have hd := VF.drops (vs := vs) hvi z.2.e.drops σ hz
  refine ⟨fun t ht => ?_, fun i hi => ?_⟩
  · simp only [stp, Eff.apply]
    rw [set_s, if_neg (fun e => h t e ht), St.puts_s]
    exact hd.s t ht
  · simp only [stp, Eff.apply]
    rw [set_h, St.puts_h _ _ _ fun hm => hp i hm hi]
    exact hd.h i hi
theorem foldD_vf {q : Option (List Nat)} {vs vi : Nat → Prop} (hvi : ∀ i, vi i → outD q i = true) {D D' : Nat → Bool} : ∀ (zs : List (Oper × Step)) (k : Nat) {σ τ : St}, (∀ (i : Nat) (z : Oper × Step), zs[i]? = some z → ∀ j ∈ z.2.e.drops, inD q j) → (∀ i z, zs[i]? = some z → D (k + i) ≠ D' (k + i) → (∀ d, z.1.dst = some d → ¬ vs d) ∧ ∀ j ∈ z.2.e.puts.map (·.1), ¬ vi j) → VF q vs vi σ τ → VF q vs vi (foldD D k zs σ) (foldD D' k zs τ)
  | [], _, _, _, _, _, hv => hv
  | z :: l, k, σ, τ, hq, h, hv => by
    simp only [foldD]
    refine foldD_vf hvi l (k + 1) (fun i z' hz => hq (i + 1) z' (by simpa using hz)) (fun i z' hz hd => h (i + 1) z' (by simpa using hz) (by rwa [show k + (i + 1) = k + 1 + i from by omega])) ?_
    have h0 := h 0 z rfl
    have hz := hq 0 z rfl
    simp only [Nat.add_zero] at h0
    cases h1 : D k <;> cases h2 : D' k
    · simpa using hv
    · simp only [Bool.false_eq_true, if_false, if_true]
      exact hv.trans (stp_outF hvi hz (h0 (by simp [h1, h2])).1 (h0 (by simp [h1, h2])).2 τ).symm
    · simp only [Bool.false_eq_true, if_false, if_true]
      exact (stp_outF hvi hz (h0 (by simp [h1, h2])).1 (h0 (by simp [h1, h2])).2 σ).trans hv
    · simp only [if_true]
      exact stp_vf hvi z hz hv

theorem drop_set {q : Option (List Nat)} {d : Option Nat} {x : T} (h : flatT q x = true) : ∀ (is : List Nat) (σ : St), (∀ i ∈ is, inD q i) → (σ.set d x).drops is = (σ.drops is).set d x
  | [], _, _ => rfl
  | i :: is, σ, hi => by
    simp only [St.drops]
    rw [← drop_set h is (σ.drop i) fun j hj => hi j (List.mem_cons_of_mem _ hj)]
    congr 1
    cases d with
    | none => rfl
    | some d =>
      simp only [St.set, St.drop]
      congr 1
      funext t
      simp only [upd]
      split
      · rw [Option.map_some, flat_purge (hi i (List.mem_cons_self ..)) h]
      · rfl
theorem puts_set {d : Option Nat} {x : T} : ∀ (ps : List (Nat × List T)) (σ : St), (σ.set d x).puts ps = (σ.puts ps).set d x
  | [], _ => rfl
  | (i, cs) :: ps, σ => by
    simp only [St.puts]
    rw [← puts_set ps]
    cases d <;> rfl
theorem stp_clean {q : Option (List Nat)} {y : Oper × Step} (h : CleanE q y) (σ : St) : stp y σ = σ.set y.1.dst y.2.e.val := by
  simp only [stp, Eff.apply, h.1, h.2.1, St.drops, St.puts]
theorem comm_clean {q : Option (List Nat)} {y z : Oper × Step} (h : CleanE q y) (hz : ∀ i ∈ z.2.e.drops, inD q i) (hd : ∀ d, y.1.dst = some d → z.1.dst ≠ some d) (σ : St) : stp y (stp z σ) = stp z (stp y σ) := by
  rw [stp_clean h, stp_clean h]
  simp only [stp, Eff.apply]
  rw [drop_set h.2.2 _ _ hz, puts_set]
  generalize (σ.drops z.2.e.drops).puts z.2.e.puts = ρ
  refine St.ext0 (fun t => ?_) ?_
  · rw [set_s, set_s, set_s, set_s]
    by_cases a : y.1.dst = some t
    · rw [if_pos a, if_neg (hd t a), if_pos a]
    · rw [if_neg a, if_neg a]
  · cases y.1.dst <;> cases z.1.dst <;> rfl

def Comm (q : Option (List Nat)) (y z : Oper × Step) : Prop := ((y.2.e.drops = [] ∧ z.2.e.drops = []) ∨ (CleanE q y ∧ ∀ i ∈ z.2.e.drops, inD q i) ∨ (CleanE q z ∧ ∀ i ∈ y.2.e.drops, inD q i)) ∧ (∀ d, y.1.dst = some d → z.1.dst ≠ some d) ∧ ∀ i ∈ y.2.e.puts.map (·.1), i ∉ z.2.e.puts.map (·.1)

theorem St.ext' {σ τ : St} (h1 : ∀ t, σ.s t = τ.s t) (h2 : ∀ i, σ.h i = τ.h i) : σ = τ := by
  cases σ; cases τ; simp only [St.mk.injEq]; exact ⟨funext h1, funext h2⟩

theorem upd_self {α : Type} (f : Nat → Option α) (n : Nat) (x : Option α) : upd f n x n = x := by simp [upd]

theorem stp_s {z : Oper × Step} (h : z.2.e.drops = []) (σ : St) (t : Nat) : (stp z σ).s t = if z.1.dst = some t then some z.2.e.val else σ.s t := by
  simp only [stp, Eff.apply, h, St.drops]
  cases hd : z.1.dst with
  | none => simp only [St.set]; rw [St.puts_s, if_neg (by simp)]
  | some d =>
    simp only [St.set, upd, Option.some.injEq]
    by_cases e : t = d
    · rw [if_pos e, if_pos e.symm]
    · rw [if_neg e, if_neg (Ne.symm e), St.puts_s]

theorem stp_h {z : Oper × Step} (h : z.2.e.drops = []) (σ : St) (i : Nat) : (stp z σ).h i = (σ.puts z.2.e.puts).h i := by
  simp only [stp, Eff.apply, h, St.drops]
  cases z.1.dst <;> rfl

theorem puts_h_in : ∀ (ps : List (Nat × List T)) (σ τ : St) (i : Nat), i ∈ ps.map (·.1) → (σ.puts ps).h i = (τ.puts ps).h i
  | [], _, _, _, h => by simp at h
  | (j, cs) :: ps, σ, τ, i, h => by
    simp only [St.puts]
    by_cases hi : i ∈ ps.map (·.1)
    · exact puts_h_in ps _ _ i hi
    · rw [St.puts_h _ _ _ hi, St.puts_h _ _ _ hi]
      simp only [List.map_cons, List.mem_cons] at h
      rcases h with rfl | h
      · simp [upd]
      · exact absurd h hi

theorem stp_comm {q : Option (List Nat)} {y z : Oper × Step} (h : Comm q y z) (σ : St) : stp y (stp z σ) = stp z (stp y σ) := by
  obtain ⟨h0, h3, h4⟩ := h
  rcases h0 with ⟨h1, h2⟩ | h0 | h0
  rotate_left
  · exact comm_clean h0.1 h0.2 h3 σ
  · exact (comm_clean h0.1 h0.2 (fun d h e => h3 d e h) σ).symm
  refine St.ext' (fun t => ?_) fun i => ?_
  · rw [stp_s h1, stp_s h2, stp_s h2, stp_s h1]
    by_cases a : y.1.dst = some t
    · rw [if_pos a, if_neg (h3 t a), if_pos a]
    · rw [if_neg a]
      by_cases b : z.1.dst = some t
      · rw [if_pos b, if_pos b]
      · rw [if_neg b, if_neg b, if_neg a]
  · rw [stp_h h1, stp_h h2]
    by_cases a : i ∈ y.2.e.puts.map (·.1)
    · rw [St.puts_h _ (stp y σ) i (h4 i a), stp_h h1]
      exact puts_h_in _ _ _ _ a
    · rw [St.puts_h _ _ i a, stp_h h2]
      by_cases b : i ∈ z.2.e.puts.map (·.1)
      · exact puts_h_in _ _ _ _ b
      · rw [St.puts_h _ _ i b, St.puts_h _ _ i b, stp_h h1, St.puts_h _ _ i a]

theorem foldD_push {q : Option (List Nat)} {D : Nat → Bool} (y : Oper × Step) : ∀ (zs : List (Oper × Step)) (k : Nat) (σ : St), (∀ i z, zs[i]? = some z → D (k + i) = true → Comm q y z) → foldD D k zs (stp y σ) = stp y (foldD D k zs σ)
  | [], _, _, _ => rfl
  | z :: l, k, σ, h => by
    simp only [foldD]
    have ih := fun τ => foldD_push (D := D) y l (k + 1) τ fun i z' hz hd => h (i + 1) z' (by simpa using hz) (by rwa [show k + (i + 1) = k + 1 + i from by omega])
    cases hk : D k with
    | false => simp only [Bool.false_eq_true, if_false]; exact ih σ
    | true =>
      simp only [if_true]
      rw [← stp_comm (h 0 z rfl (by simpa using hk)) σ]
      exact ih _

theorem foldD_add {q : Option (List Nat)} {D D' : Nat → Bool} {j : Nat} (hD : ∀ i, i ≠ j → D' i = D i) (h0 : D j = false) (h1 : D' j = true) : ∀ (zs : List (Oper × Step)) (k : Nat) (σ : St) (y : Oper × Step), k ≤ j → zs[j - k]? = some y →
    (∀ i z, zs[i]? = some z → j < k + i → D (k + i) = true → Comm q y z) → foldD D' k zs σ = stp y (foldD D k zs σ)
  | [], _, _, _, _, h, _ => by simp at h
  | z :: l, k, σ, y, hk, hy, h => by
    simp only [foldD]
    by_cases e : k = j
    · subst e
      simp only [Nat.sub_self, List.getElem?_cons_zero, Option.some.injEq] at hy
      subst hy
      rw [if_pos h1, if_neg (by simp [h0]), foldD_congr (D := D') (D' := D) l (k + 1) _ fun i h1 h2 => hD i (by omega)]
      exact foldD_push z l (k + 1) σ fun i z' hz hd => h (i + 1) z' (by simpa using hz) (by omega) (by rwa [show k + (i + 1) = k + 1 + i from by omega])
    · rw [hD k e]
      have hy' : l[j - (k + 1)]? = some y := by rw [show j - k = (j - (k + 1)) + 1 from by omega] at hy; simpa using hy
      exact foldD_add hD h0 h1 l (k + 1) _ y (by omega) hy' fun i z' hz hlt hd => h (i + 1) z' (by simpa using hz) (by omega) (by rwa [show k + (i + 1) = k + 1 + i from by omega])
end Go.Vw

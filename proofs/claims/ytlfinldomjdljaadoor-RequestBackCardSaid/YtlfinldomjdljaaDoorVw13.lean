/- Regions whose order is drawn: the text's order is walked, and what is not ordered must not meet. -/
import Derived.Test.YtlfinldomjdljaaDoorVw12
import Derived.Orders
namespace Go.Vw
open Go Go.RowKit

/-- What a step did, and what it looked at. -/
structure Step where
  e : Eff
  r : List Nat
  go : Bool
  c : Bool

structure Mark where
  rd : List Nat
  pt : List Nat
  dr : Bool
  cl : Bool

def Step.mark (s : Step) : Mark := ⟨s.r, s.e.puts.map (·.1), !s.e.drops.isEmpty, s.c⟩

/-- Values that lead to no object of the state's own. -/
def flatT : T → Bool
  | .leaf _ | .e0 | .sl .. | .pt .. | .tup [] => true
  | _ => false
theorem flat_purge {i : Nat} {p : T} (h : flatT p = true) : p.purge i = p := by
  cases p with
  | tup cs => cases cs with
    | nil => rfl
    | cons _ _ => simp [flatT] at h
  | leaf _ | e0 | sl _ _ _ _ | pt _ _ _ => rfl
  | _ => simp [flatT] at h
theorem purge_flat {i : Nat} {v p : T} (h : flatT p = true) (e : v.purge i = p) : v = p := by
  cases v with
  | tup cs =>
    cases cs with
    | nil => exact e
    | cons c cs => subst e; simp [T.purge, purgeL, flatT] at h
  | leaf _ | e0 | sl _ _ _ _ | pt _ _ _ => exact e
  | ref id m o n =>
    subst e; simp only [T.purge] at h; split at h <;> simp [flatT] at h
  | addr id o =>
    subst e; simp only [T.purge] at h; split at h <;> simp [flatT] at h
  | _ => subst e; simp [T.purge, flatT] at h

def opsT (E : Env) (S : List Nat) (ds : List (Option Nat)) (K : List Mark → St → Prop) : List Oper → List Mark → St → Prop
  | [], tr, σ => K tr σ
  | o :: l, tr, σ =>
    bindO (guardT ds σ o.guard) fun g => condB g
      (act E σ o.dst (fun e r => putOk σ S r e ∧ withSt (e.apply σ o.dst) fun σ' => opsT E S ds K l (⟨r, e.puts.map (·.1), !e.drops.isEmpty, false⟩ :: tr) σ') o.op)
      (withSt (σ.set o.dst (.tup [])) fun σ' => opsT E S ds K l (⟨[], [], false, false⟩ :: tr) σ')

theorem opsT_nil {E : Env} {S : List Nat} {ds : List (Option Nat)} {K : List Mark → St → Prop} {tr : List Mark} {σ : St} : opsT E S ds K [] tr σ = K tr σ := rfl
theorem opsT_cons {E : Env} {S : List Nat} {ds : List (Option Nat)} {K : List Mark → St → Prop} {tr : List Mark} {σ : St} {dst : Option Tmp} {op : Op} {type : TypeId} {pos : String} {after : Array Edge} {g : Option (Nat × Bool)} {l : List Oper} :
    opsT E S ds K (⟨dst, op, type, pos, after, g⟩ :: l) tr σ = bindO (guardT ds σ g) fun g => condB g
      (act E σ dst (fun e r => putOk σ S r e ∧ withSt (e.apply σ dst) fun σ' => opsT E S ds K l (⟨r, e.puts.map (·.1), !e.drops.isEmpty, false⟩ :: tr) σ') op)
      (withSt (σ.set dst (.tup [])) fun σ' => opsT E S ds K l (⟨[], [], false, false⟩ :: tr) σ') := rfl
@[congr] theorem opsT_congr {E : Env} {S : List Nat} {ds : List (Option Nat)} {K : List Mark → St → Prop} {σ : St} {l : List Oper} {tr : List Mark} : opsT E S ds K l tr σ = opsT E S ds K l tr σ := rfl

def stp (z : Oper × Step) (σ : St) : St := z.2.e.apply σ z.1.dst

/-- A step that makes, forgets and reads no object, and looks at flat values alone. -/
def CleanE (z : Oper × Step) : Prop := z.2.e.puts = [] ∧ z.2.e.drops = [] ∧ flatT z.2.e.val = true
def CleanAt (ds : List (Option Nat)) (σ : St) (z : Oper × Step) : Prop :=
  CleanE z ∧ z.2.r = [] ∧ (∀ t, .tmp t ∈ z.1.op.operands → ∃ p, σ.s t = some p ∧ flatT p = true) ∧ ∀ j b d, z.1.guard = some (j, b) → ds[j]? = some (some d) → ∃ p, σ.s d = some p ∧ flatT p = true
def StepOk (E : Env) (S : List Nat) (ds : List (Option Nat)) (σ : St) (z : Oper × Step) : Prop :=
  guardT ds σ z.1.guard = some z.2.go ∧ (if z.2.go then Acts E.P z.1 σ.ev σ.h z.2.r z.2.e ∧ putOk σ S z.2.r z.2.e else z.2.e = {} ∧ z.2.r = []) ∧ (z.2.c = true → CleanAt ds σ z)

def Runs (E : Env) (S : List Nat) (ds : List (Option Nat)) : List (Oper × Step) → St → Prop
  | [], _ => True
  | z :: l, σ => StepOk E S ds σ z ∧ Runs E S ds l (stp z σ)

theorem opsT_runs {E : Env} {S : List Nat} {ds : List (Option Nat)} {K : List Mark → St → Prop} : ∀ (l : List Oper) (tr : List Mark) (σ : St), opsT E S ds K l tr σ →
    ∃ zs : List (Oper × Step), zs.map (·.1) = l ∧ Runs E S ds zs σ ∧ K ((zs.map (·.2.mark)).reverse ++ tr) (zs.foldl (fun σ z => stp z σ) σ)
  | [], tr, σ, h => ⟨[], rfl, trivial, by simpa [opsT] using h⟩
  | o :: l, tr, σ, h => by
    simp only [opsT] at h
    obtain ⟨g, hg, h⟩ := h
    cases g with
    | true =>
      rw [condB_true] at h
      obtain ⟨e, r, hact, hput, hnext⟩ := act_sound h
      obtain ⟨zs, h1, h2, h3⟩ := opsT_runs l _ _ hnext
      refine ⟨(o, ⟨e, r, true, false⟩) :: zs, by simp [h1], ⟨⟨hg, by simp [hact, hput]⟩, h2⟩, ?_⟩
      simpa [Step.mark, stp] using h3
    | false =>
      rw [condB_false] at h
      obtain ⟨zs, h1, h2, h3⟩ := opsT_runs l _ _ h
      refine ⟨(o, ⟨{}, [], false, false⟩) :: zs, by simp [h1], ⟨⟨hg, by simp⟩, h2⟩, ?_⟩
      simpa [Step.mark, stp, Eff.apply, St.drops, St.puts] using h3

/-- The steps that are done, in the text's order. -/
def foldD (D : Nat → Bool) : Nat → List (Oper × Step) → St → St
  | _, [], σ => σ
  | k, z :: l, σ => foldD D (k + 1) l (if D k then stp z σ else σ)

theorem foldD_all {D : Nat → Bool} : ∀ (zs : List (Oper × Step)) (k : Nat) (σ : St), (∀ i, k ≤ i → i < k + zs.length → D i = true) → foldD D k zs σ = zs.foldl (fun σ z => stp z σ) σ
  | [], _, _, _ => rfl
  | z :: l, k, σ, h => by
    simp only [foldD, List.foldl_cons]
    rw [if_pos (h k (Nat.le_refl _) (by simp)), foldD_all l (k + 1) _ fun i h1 h2 => h i (by omega) (by simp; omega)]

theorem foldD_congr {D D' : Nat → Bool} : ∀ (zs : List (Oper × Step)) (k : Nat) (σ : St), (∀ i, k ≤ i → i < k + zs.length → D i = D' i) → foldD D k zs σ = foldD D' k zs σ
  | [], _, _, _ => rfl
  | z :: l, k, σ, h => by
    simp only [foldD]
    rw [h k (Nat.le_refl _) (by simp), foldD_congr l (k + 1) _ fun i h1 h2 => h i (by omega) (by simp; omega)]

theorem foldD_none {D : Nat → Bool} : ∀ (zs : List (Oper × Step)) (k : Nat) (σ : St), (∀ i, k ≤ i → D i = false) → foldD D k zs σ = σ
  | [], _, _, _ => rfl
  | z :: l, k, σ, h => by
    simp only [foldD]
    rw [if_neg (by simp [h k (Nat.le_refl _)]), foldD_none l (k + 1) _ fun i h1 => h i (by omega)]

theorem runs_at {E : Env} {S : List Nat} {ds : List (Option Nat)} : ∀ (zs : List (Oper × Step)) (k : Nat) (σ : St), Runs E S ds zs σ → ∀ j z, zs[j]? = some z → StepOk E S ds (foldD (fun i => decide (i < k + j)) k zs σ) z
  | [], _, _, _, j, z, h => by simp at h
  | z0 :: l, k, σ, hr, 0, z, h => by
    simp only [List.getElem?_cons_zero, Option.some.injEq] at h; subst h
    rw [foldD_none _ _ _ fun i hi => by simp; omega]
    exact hr.1
  | z0 :: l, k, σ, hr, j + 1, z, h => by
    simp only [List.getElem?_cons_succ] at h
    have := runs_at l (k + 1) _ hr.2 j z h
    simp only [foldD]
    rw [if_pos (by simp)]
    rw [show (fun i => decide (i < k + (j + 1))) = fun i => decide (i < k + 1 + j) from by funext i; congr 1; simp; omega]
    exact this

/-! ### What two steps may do beside one another -/

structure View (vs : Nat → Prop) (vi : Nat → Prop) (σ τ : St) : Prop where
  s : ∀ t, vs t → σ.s t = τ.s t
  h : ∀ i, vi i → σ.h i = τ.h i

theorem St.drops_s (σ τ : St) {vs vi : Nat → Prop} : ∀ (is : List Nat) {σ τ : St}, View vs vi σ τ → View vs vi (σ.drops is) (τ.drops is)
  | [], _, _, h => h
  | i :: is, σ, τ, h => by
    simp only [St.drops]
    refine St.drops_s σ τ is ⟨fun t ht => ?_, fun j hj => ?_⟩
    · simp only [St.drop, h.s t ht]
    · simp only [St.drop, h.h j hj]

theorem St.puts_view {vs vi : Nat → Prop} : ∀ (ps : List (Nat × List T)) {σ τ : St}, View vs vi σ τ → View vs vi (σ.puts ps) (τ.puts ps)
  | [], _, _, h => h
  | (i, cs) :: ps, σ, τ, h => by
    simp only [St.puts]
    exact St.puts_view ps ⟨h.s, fun j hj => by simp only [upd, h.h j hj]⟩

theorem St.set_view {vs vi : Nat → Prop} (d : Option Nat) (x : T) {σ τ : St} (h : View vs vi σ τ) : View vs vi (σ.set d x) (τ.set d x) := by
  cases d with
  | none => exact h
  | some d => exact ⟨fun t ht => by simp only [St.set, upd, h.s t ht], h.h⟩

theorem stp_view {vs vi : Nat → Prop} (z : Oper × Step) {σ τ : St} (h : View vs vi σ τ) : View vs vi (stp z σ) (stp z τ) :=
  St.set_view _ _ (St.puts_view _ (St.drops_s σ τ _ h))

theorem St.puts_s : ∀ (ps : List (Nat × List T)) (σ : St), (σ.puts ps).s = σ.s
  | [], _ => rfl
  | (i, cs) :: ps, σ => by simp only [St.puts]; rw [St.puts_s ps]
theorem St.puts_h : ∀ (ps : List (Nat × List T)) (σ : St) (j : Nat), j ∉ ps.map (·.1) → (σ.puts ps).h j = σ.h j
  | [], _, _, _ => rfl
  | (i, cs) :: ps, σ, j, h => by
    simp only [List.map_cons, List.mem_cons, not_or] at h
    simp only [St.puts]; rw [St.puts_h ps _ j h.2]
    simp only [upd]; rw [if_neg h.1]

def Out (vs vi : Nat → Prop) (z : Oper × Step) : Prop := z.2.e.drops = [] ∧ (∀ d, z.1.dst = some d → ¬ vs d) ∧ ∀ i ∈ z.2.e.puts.map (·.1), ¬ vi i

theorem stp_out {vs vi : Nat → Prop} {z : Oper × Step} (h : Out vs vi z) (σ : St) : View vs vi (stp z σ) σ := by
  obtain ⟨h1, h2, h3⟩ := h
  simp only [stp, Eff.apply, h1, St.drops]
  refine ⟨fun t ht => ?_, fun i hi => ?_⟩
  · cases hd : z.1.dst with
    | none => simp only [St.set]; rw [St.puts_s]
    | some d =>
      simp only [St.set, upd]
      rw [if_neg (fun e => h2 d hd (by rw [← e]; exact ht)), St.puts_s]
  · have : ((σ.puts z.2.e.puts).set z.1.dst z.2.e.val).h = (σ.puts z.2.e.puts).h := by cases z.1.dst <;> rfl
    rw [this, St.puts_h _ _ _ fun hm => h3 i hm hi]

theorem View.trans {vs vi : Nat → Prop} {σ τ υ : St} (h : View vs vi σ τ) (k : View vs vi τ υ) : View vs vi σ υ := ⟨fun t ht => (h.s t ht).trans (k.s t ht), fun t ht => (h.h t ht).trans (k.h t ht)⟩
theorem View.symm {vs vi : Nat → Prop} {σ τ : St} (h : View vs vi σ τ) : View vs vi τ σ := ⟨fun t ht => (h.s t ht).symm, fun t ht => (h.h t ht).symm⟩
theorem View.refl {vs vi : Nat → Prop} {σ : St} : View vs vi σ σ := ⟨fun _ _ => rfl, fun _ _ => rfl⟩

theorem foldD_view {vs vi : Nat → Prop} {D D' : Nat → Bool} : ∀ (zs : List (Oper × Step)) (k : Nat) {σ τ : St}, (∀ i z, zs[i]? = some z → D (k + i) ≠ D' (k + i) → Out vs vi z) → View vs vi σ τ → View vs vi (foldD D k zs σ) (foldD D' k zs τ)
  | [], _, _, _, _, hv => hv
  | z :: l, k, σ, τ, h, hv => by
    simp only [foldD]
    refine foldD_view l (k + 1) (fun i z' hz hd => h (i + 1) z' (by simpa using hz) (by rwa [show k + (i + 1) = k + 1 + i from by omega])) ?_
    have h0 := h 0 z rfl
    simp only [Nat.add_zero] at h0
    cases h1 : D k <;> cases h2 : D' k
    · simpa using hv
    · simp only [Bool.false_eq_true, if_false, if_true]
      exact hv.trans (stp_out (h0 (by simp [h1, h2])) τ).symm
    · simp only [Bool.false_eq_true, if_false, if_true]
      exact (stp_out (h0 (by simp [h1, h2])) σ).trans hv
    · simp only [if_true]
      exact stp_view z hv

theorem St.ext0 {σ τ : St} (h1 : ∀ t, σ.s t = τ.s t) (h2 : σ.h = τ.h) : σ = τ := by
  cases σ; cases τ; simp only [St.mk.injEq]; exact ⟨funext h1, h2⟩
/-! ### Flat values stay -/
def FE (a b : Option T) : Prop := ∀ p, flatT p = true → (a = some p ↔ b = some p)
theorem FE.refl (a : Option T) : FE a a := fun _ _ => Iff.rfl
theorem FE.symm {a b : Option T} (h : FE a b) : FE b a := fun p hp => (h p hp).symm
theorem FE.trans {a b c : Option T} (h : FE a b) (k : FE b c) : FE a c := fun p hp => (h p hp).trans (k p hp)
theorem FE.drop (i : Nat) (a : Option T) : FE (a.map (T.purge i)) a := fun p hp => by
  cases a with
  | none => simp
  | some v =>
    simp only [Option.map_some, Option.some.injEq]
    exact ⟨purge_flat hp, fun e => by subst e; exact flat_purge hp⟩
structure VF (vs : Nat → Prop) (σ τ : St) : Prop where
  s : ∀ t, vs t → FE (σ.s t) (τ.s t)
theorem VF.refl {vs : Nat → Prop} {σ : St} : VF vs σ σ := ⟨fun _ _ => FE.refl _⟩
theorem VF.symm {vs : Nat → Prop} {σ τ : St} (h : VF vs σ τ) : VF vs τ σ := ⟨fun t ht => (h.s t ht).symm⟩
theorem VF.trans {vs : Nat → Prop} {σ τ υ : St} (h : VF vs σ τ) (k : VF vs τ υ) : VF vs σ υ := ⟨fun t ht => (h.s t ht).trans (k.s t ht)⟩
theorem VF.drops {vs : Nat → Prop} : ∀ (is : List Nat) (σ : St), VF vs (σ.drops is) σ
  | [], _ => VF.refl
  | i :: is, σ => (VF.drops is (σ.drop i)).trans ⟨fun t _ => FE.drop i _⟩
theorem set_s (σ : St) (d : Option Nat) (x : T) (t : Nat) : (σ.set d x).s t = if d = some t then some x else σ.s t := by
  cases d with
  | none => simp [St.set]
  | some d =>
    simp only [St.set, upd, Option.some.injEq]
    by_cases e : t = d
    · rw [if_pos e, if_pos e.symm]
    · rw [if_neg e, if_neg (Ne.symm e)]
theorem stp_vf {vs : Nat → Prop} (z : Oper × Step) {σ τ : St} (h : VF vs σ τ) : VF vs (stp z σ) (stp z τ) := by
  refine ⟨fun t ht => ?_⟩
  simp only [stp, Eff.apply]
  rw [set_s, set_s]
  split
  · exact FE.refl _
  · rw [St.puts_s, St.puts_s]
    exact ((VF.drops z.2.e.drops σ).trans (h.trans (VF.drops z.2.e.drops τ).symm)).s t ht
theorem stp_outF {vs : Nat → Prop} {z : Oper × Step} (h : ∀ d, z.1.dst = some d → ¬ vs d) (σ : St) : VF vs (stp z σ) σ := by
  refine ⟨fun t ht => ?_⟩
  simp only [stp, Eff.apply]
  rw [set_s, if_neg (fun e => h t e ht), St.puts_s]
  exact (VF.drops z.2.e.drops σ).s t ht
theorem foldD_vf {vs : Nat → Prop} {D D' : Nat → Bool} : ∀ (zs : List (Oper × Step)) (k : Nat) {σ τ : St}, (∀ i z, zs[i]? = some z → D (k + i) ≠ D' (k + i) → ∀ d, z.1.dst = some d → ¬ vs d) → VF vs σ τ → VF vs (foldD D k zs σ) (foldD D' k zs τ)
  | [], _, _, _, _, hv => hv
  | z :: l, k, σ, τ, h, hv => by
    simp only [foldD]
    refine foldD_vf l (k + 1) (fun i z' hz hd => h (i + 1) z' (by simpa using hz) (by rwa [show k + (i + 1) = k + 1 + i from by omega])) ?_
    have h0 := h 0 z rfl
    simp only [Nat.add_zero] at h0
    cases h1 : D k <;> cases h2 : D' k
    · simpa using hv
    · simp only [Bool.false_eq_true, if_false, if_true]
      exact hv.trans (stp_outF (h0 (by simp [h1, h2])) τ).symm
    · simp only [Bool.false_eq_true, if_false, if_true]
      exact (stp_outF (h0 (by simp [h1, h2])) σ).trans hv
    · simp only [if_true]
      exact stp_vf z hv

theorem drop_set {σ : St} {d : Option Nat} {x : T} (h : flatT x = true) : ∀ (is : List Nat) (σ : St), (σ.set d x).drops is = (σ.drops is).set d x
  | [], _ => rfl
  | i :: is, σ => by
    simp only [St.drops]
    rw [← drop_set (σ := σ) h is (σ.drop i)]
    congr 1
    cases d with
    | none => rfl
    | some d =>
      simp only [St.set, St.drop]
      congr 1
      funext t
      simp only [upd]
      split
      · rw [Option.map_some, flat_purge h]
      · rfl
theorem puts_set {d : Option Nat} {x : T} : ∀ (ps : List (Nat × List T)) (σ : St), (σ.set d x).puts ps = (σ.puts ps).set d x
  | [], _ => rfl
  | (i, cs) :: ps, σ => by
    simp only [St.puts]
    rw [← puts_set ps]
    cases d <;> rfl
theorem stp_clean {y : Oper × Step} (h : CleanE y) (σ : St) : stp y σ = σ.set y.1.dst y.2.e.val := by
  simp only [stp, Eff.apply, h.1, h.2.1, St.drops, St.puts]
theorem comm_clean {y z : Oper × Step} (h : CleanE y) (hd : ∀ d, y.1.dst = some d → z.1.dst ≠ some d) (σ : St) : stp y (stp z σ) = stp z (stp y σ) := by
  rw [stp_clean h, stp_clean h]
  simp only [stp, Eff.apply]
  rw [drop_set (σ := σ) h.2.2, puts_set]
  generalize (σ.drops z.2.e.drops).puts z.2.e.puts = ρ
  refine St.ext0 (fun t => ?_) ?_
  · rw [set_s, set_s, set_s, set_s]
    by_cases a : y.1.dst = some t
    · rw [if_pos a, if_neg (hd t a), if_pos a]
    · rw [if_neg a, if_neg a]
  · cases y.1.dst <;> cases z.1.dst <;> rfl

def Comm (y z : Oper × Step) : Prop := ((y.2.e.drops = [] ∧ z.2.e.drops = []) ∨ CleanE y ∨ CleanE z) ∧ (∀ d, y.1.dst = some d → z.1.dst ≠ some d) ∧ ∀ i ∈ y.2.e.puts.map (·.1), i ∉ z.2.e.puts.map (·.1)

theorem St.ext' {σ τ : St} (h1 : ∀ t, σ.s t = τ.s t) (h2 : ∀ i, σ.h i = τ.h i) : σ = τ := by
  cases σ; cases τ; simp only [St.mk.injEq]; exact ⟨funext h1, funext h2⟩

theorem upd_self {α : Type} (f : Nat → Option α) (n : Nat) (x : Option α) : upd f n x n = x := by simp [upd]

theorem stp_s {z : Oper × Step} (h : z.2.e.drops = []) (σ : St) (t : Nat) : (stp z σ).s t = if z.1.dst = some t then some z.2.e.val else σ.s t := by
  simp only [stp, Eff.apply, h, St.drops]
  cases hd : z.1.dst with
  | none => simp only [St.set]; rw [St.puts_s, if_neg (by simp)]
  | some d =>
    simp only [St.set, upd, Option.some.injEq]
    by_cases e : t = d
    · rw [if_pos e, if_pos e.symm]
    · rw [if_neg e, if_neg (Ne.symm e), St.puts_s]

theorem stp_h {z : Oper × Step} (h : z.2.e.drops = []) (σ : St) (i : Nat) : (stp z σ).h i = (σ.puts z.2.e.puts).h i := by
  simp only [stp, Eff.apply, h, St.drops]
  cases z.1.dst <;> rfl

theorem puts_h_in : ∀ (ps : List (Nat × List T)) (σ τ : St) (i : Nat), i ∈ ps.map (·.1) → (σ.puts ps).h i = (τ.puts ps).h i
  | [], _, _, _, h => by simp at h
  | (j, cs) :: ps, σ, τ, i, h => by
    simp only [St.puts]
    by_cases hi : i ∈ ps.map (·.1)
    · exact puts_h_in ps _ _ i hi
    · rw [St.puts_h _ _ _ hi, St.puts_h _ _ _ hi]
      simp only [List.map_cons, List.mem_cons] at h
      rcases h with rfl | h
      · simp [upd]
      · exact absurd h hi

theorem stp_comm {y z : Oper × Step} (h : Comm y z) (σ : St) : stp y (stp z σ) = stp z (stp y σ) := by
  obtain ⟨h0, h3, h4⟩ := h
  rcases h0 with ⟨h1, h2⟩ | h0 | h0
  rotate_left
  · exact comm_clean h0 h3 σ
  · exact (comm_clean h0 (fun d h e => h3 d e h) σ).symm
  refine St.ext' (fun t => ?_) fun i => ?_
  · rw [stp_s h1, stp_s h2, stp_s h2, stp_s h1]
    by_cases a : y.1.dst = some t
    · rw [if_pos a, if_neg (h3 t a), if_pos a]
    · rw [if_neg a]
      by_cases b : z.1.dst = some t
      · rw [if_pos b, if_pos b]
      · rw [if_neg b, if_neg b, if_neg a]
  · rw [stp_h h1, stp_h h2]
    by_cases a : i ∈ y.2.e.puts.map (·.1)
    · rw [St.puts_h _ (stp y σ) i (h4 i a), stp_h h1]
      exact puts_h_in _ _ _ _ a
    · rw [St.puts_h _ _ i a, stp_h h2]
      by_cases b : i ∈ z.2.e.puts.map (·.1)
      · exact puts_h_in _ _ _ _ b
      · rw [St.puts_h _ _ i b, St.puts_h _ _ i b, stp_h h1, St.puts_h _ _ i a]

theorem foldD_push {D : Nat → Bool} (y : Oper × Step) : ∀ (zs : List (Oper × Step)) (k : Nat) (σ : St), (∀ i z, zs[i]? = some z → D (k + i) = true → Comm y z) → foldD D k zs (stp y σ) = stp y (foldD D k zs σ)
  | [], _, _, _ => rfl
  | z :: l, k, σ, h => by
    simp only [foldD]
    have ih := fun τ => foldD_push (D := D) y l (k + 1) τ fun i z' hz hd => h (i + 1) z' (by simpa using hz) (by rwa [show k + (i + 1) = k + 1 + i from by omega])
    cases hk : D k with
    | false => simp only [Bool.false_eq_true, if_false]; exact ih σ
    | true =>
      simp only [if_true]
      rw [← stp_comm (h 0 z rfl (by simpa using hk)) σ]
      exact ih _

theorem foldD_add {D D' : Nat → Bool} {j : Nat} (hD : ∀ i, i ≠ j → D' i = D i) (h0 : D j = false) (h1 : D' j = true) : ∀ (zs : List (Oper × Step)) (k : Nat) (σ : St) (y : Oper × Step), k ≤ j → zs[j - k]? = some y →
    (∀ i z, zs[i]? = some z → j < k + i → D (k + i) = true → Comm y z) → foldD D' k zs σ = stp y (foldD D k zs σ)
  | [], _, _, _, _, h, _ => by simp at h
  | z :: l, k, σ, y, hk, hy, h => by
    simp only [foldD]
    by_cases e : k = j
    · subst e
      simp only [Nat.sub_self, List.getElem?_cons_zero, Option.some.injEq] at hy
      subst hy
      rw [if_pos h1, if_neg (by simp [h0]), foldD_congr (D := D') (D' := D) l (k + 1) _ fun i h1 h2 => hD i (by omega)]
      exact foldD_push z l (k + 1) σ fun i z' hz hd => h (i + 1) z' (by simpa using hz) (by omega) (by rwa [show k + (i + 1) = k + 1 + i from by omega])
    · rw [hD k e]
      have hy' : l[j - (k + 1)]? = some y := by rw [show j - k = (j - (k + 1)) + 1 from by omega] at hy; simpa using hy
      exact foldD_add hD h0 h1 l (k + 1) _ y (by omega) hy' fun i z' hz hlt hd => h (i + 1) z' (by simpa using hz) (by omega) (by rwa [show k + (i + 1) = k + 1 + i from by omega])
end Go.Vw

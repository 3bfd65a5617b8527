/- Regions whose order is drawn: the text's order is walked, and what is not ordered must not meet. -/
import Derived.Test.YtkomeflgnikflaaDoorVw12
import Derived.Orders
namespace Go.Vw
open Go Go.RowKit

/-- What a step did, and what it looked at. -/
structure Step where
  e : Eff
  r : List Nat
  go : Bool

structure Mark where
  rd : List Nat
  pt : List Nat
  dr : Bool

def Step.mark (s : Step) : Mark := ⟨s.r, s.e.puts.map (·.1), !s.e.drops.isEmpty⟩

def opsT (E : Env) (S : List Nat) (ds : List (Option Nat)) (K : List Mark → St → Prop) : List Oper → List Mark → St → Prop
  | [], tr, σ => K tr σ
  | o :: l, tr, σ =>
    bindO (guardT ds σ o.guard) fun g => condB g
      (act E σ o.dst (fun e r => putOk σ S r e ∧ withSt (e.apply σ o.dst) fun σ' => opsT E S ds K l (⟨r, e.puts.map (·.1), !e.drops.isEmpty⟩ :: tr) σ') o.op)
      (withSt (σ.set o.dst (.tup [])) fun σ' => opsT E S ds K l (⟨[], [], false⟩ :: tr) σ')

theorem opsT_nil {E : Env} {S : List Nat} {ds : List (Option Nat)} {K : List Mark → St → Prop} {tr : List Mark} {σ : St} : opsT E S ds K [] tr σ = K tr σ := rfl
theorem opsT_cons {E : Env} {S : List Nat} {ds : List (Option Nat)} {K : List Mark → St → Prop} {tr : List Mark} {σ : St} {dst : Option Tmp} {op : Op} {type : TypeId} {pos : String} {after : Array Edge} {g : Option (Nat × Bool)} {l : List Oper} :
    opsT E S ds K (⟨dst, op, type, pos, after, g⟩ :: l) tr σ = bindO (guardT ds σ g) fun g => condB g
      (act E σ dst (fun e r => putOk σ S r e ∧ withSt (e.apply σ dst) fun σ' => opsT E S ds K l (⟨r, e.puts.map (·.1), !e.drops.isEmpty⟩ :: tr) σ') op)
      (withSt (σ.set dst (.tup [])) fun σ' => opsT E S ds K l (⟨[], [], false⟩ :: tr) σ') := rfl
@[congr] theorem opsT_congr {E : Env} {S : List Nat} {ds : List (Option Nat)} {K : List Mark → St → Prop} {σ : St} {l : List Oper} {tr : List Mark} : opsT E S ds K l tr σ = opsT E S ds K l tr σ := rfl

def stp (z : Oper × Step) (σ : St) : St := z.2.e.apply σ z.1.dst

def StepOk (E : Env) (S : List Nat) (ds : List (Option Nat)) (σ : St) (z : Oper × Step) : Prop :=
  guardT ds σ z.1.guard = some z.2.go ∧ if z.2.go then Acts E.P z.1 σ.ev σ.h z.2.r z.2.e ∧ putOk σ S z.2.r z.2.e else z.2.e = {} ∧ z.2.r = []

def Runs (E : Env) (S : List Nat) (ds : List (Option Nat)) : List (Oper × Step) → St → Prop
  | [], _ => True
  | z :: l, σ => StepOk E S ds σ z ∧ Runs E S ds l (stp z σ)

theorem opsT_runs {E : Env} {S : List Nat} {ds : List (Option Nat)} {K : List Mark → St → Prop} : ∀ (l : List Oper) (tr : List Mark) (σ : St), opsT E S ds K l tr σ →
    ∃ zs : List (Oper × Step), zs.map (·.1) = l ∧ Runs E S ds zs σ ∧ K ((zs.map (·.2.mark)).reverse ++ tr) (zs.foldl (fun σ z => stp z σ) σ)
  | [], tr, σ, h => ⟨[], rfl, trivial, by simpa [opsT] using h⟩
  | o :: l, tr, σ, h => by
    simp only [opsT] at h
    obtain ⟨g, hg, h⟩ := h
    cases g with
    | true =>
      rw [condB_true] at h
      obtain ⟨e, r, hact, hput, hnext⟩ := act_sound h
      obtain ⟨zs, h1, h2, h3⟩ := opsT_runs l _ _ hnext
      refine ⟨(o, ⟨e, r, true⟩) :: zs, by simp [h1], ⟨⟨hg, by simp [hact, hput]⟩, h2⟩, ?_⟩
      simpa [Step.mark, stp] using h3
    | false =>
      rw [condB_false] at h
      obtain ⟨zs, h1, h2, h3⟩ := opsT_runs l _ _ h
      refine ⟨(o, ⟨{}, [], false⟩) :: zs, by simp [h1], ⟨⟨hg, by simp⟩, h2⟩, ?_⟩
      simpa [Step.mark, stp, Eff.apply, St.drops, St.puts] using h3

/-- The steps that are done, in the text's order. -/
def foldD (D : Nat → Bool) : Nat → List (Oper × Step) → St → St
  | _, [], σ => σ
  | k, z :: l, σ => foldD D (k + 1) l (if D k then stp z σ else σ)

theorem foldD_all {D : Nat → Bool} : ∀ (zs : List (Oper × Step)) (k : Nat) (σ : St), (∀ i, k ≤ i → i < k + zs.length → D i = true) → foldD D k zs σ = zs.foldl (fun σ z => stp z σ) σ
  | [], _, _, _ => rfl
  | z :: l, k, σ, h => by
    simp only [foldD, List.foldl_cons]
    rw [if_pos (h k (Nat.le_refl _) (by simp)), foldD_all l (k + 1) _ fun i h1 h2 => h i (by omega) (by simp; omega)]

theorem foldD_congr {D D' : Nat → Bool} : ∀ (zs : List (Oper × Step)) (k : Nat) (σ : St), (∀ i, k ≤ i → i < k + zs.length → D i = D' i) → foldD D k zs σ = foldD D' k zs σ
  | [], _, _, _ => rfl
  | z :: l, k, σ, h => by
    simp only [foldD]
    rw [h k (Nat.le_refl _) (by simp), foldD_congr l (k + 1) _ fun i h1 h2 => h i (by omega) (by simp; omega)]

theorem foldD_none {D : Nat → Bool} : ∀ (zs : List (Oper × Step)) (k : Nat) (σ : St), (∀ i, k ≤ i → D i = false) → foldD D k zs σ = σ
  | [], _, _, _ => rfl
  | z :: l, k, σ, h => by
    simp only [foldD]
    rw [if_neg (by simp [h k (Nat.le_refl _)]), foldD_none l (k + 1) _ fun i h1 => h i (by omega)]

theorem runs_at {E : Env} {S : List Nat} {ds : List (Option Nat)} : ∀ (zs : List (Oper × Step)) (k : Nat) (σ : St), Runs E S ds zs σ → ∀ j z, zs[j]? = some z → StepOk E S ds (foldD (fun i => decide (i < k + j)) k zs σ) z
  | [], _, _, _, j, z, h => by simp at h
  | z0 :: l, k, σ, hr, 0, z, h => by
    simp only [List.getElem?_cons_zero, Option.some.injEq] at h; subst h
    rw [foldD_none _ _ _ fun i hi => by simp; omega]
    exact hr.1
  | z0 :: l, k, σ, hr, j + 1, z, h => by
    simp only [List.getElem?_cons_succ] at h
    have := runs_at l (k + 1) _ hr.2 j z h
    simp only [foldD]
    rw [if_pos (by simp)]
    rw [show (fun i => decide (i < k + (j + 1))) = fun i => decide (i < k + 1 + j) from by funext i; congr 1; simp; omega]
    exact this

/-! ### What two steps may do beside one another -/

structure View (vs : Nat → Prop) (vi : Nat → Prop) (σ τ : St) : Prop where
  s : ∀ t, vs t → σ.s t = τ.s t
  h : ∀ i, vi i → σ.h i = τ.h i

theorem St.drops_s (σ τ : St) {vs vi : Nat → Prop} : ∀ (is : List Nat) {σ τ : St}, View vs vi σ τ → View vs vi (σ.drops is) (τ.drops is)
  | [], _, _, h => h
  | i :: is, σ, τ, h => by
    simp only [St.drops]
    refine St.drops_s σ τ is ⟨fun t ht => ?_, fun j hj => ?_⟩
    · simp only [St.drop, h.s t ht]
    · simp only [St.drop, h.h j hj]

theorem St.puts_view {vs vi : Nat → Prop} : ∀ (ps : List (Nat × List T)) {σ τ : St}, View vs vi σ τ → View vs vi (σ.puts ps) (τ.puts ps)
  | [], _, _, h => h
  | (i, cs) :: ps, σ, τ, h => by
    simp only [St.puts]
    exact St.puts_view ps ⟨h.s, fun j hj => by simp only [upd, h.h j hj]⟩

theorem St.set_view {vs vi : Nat → Prop} (d : Option Nat) (x : T) {σ τ : St} (h : View vs vi σ τ) : View vs vi (σ.set d x) (τ.set d x) := by
  cases d with
  | none => exact h
  | some d => exact ⟨fun t ht => by simp only [St.set, upd, h.s t ht], h.h⟩

theorem stp_view {vs vi : Nat → Prop} (z : Oper × Step) {σ τ : St} (h : View vs vi σ τ) : View vs vi (stp z σ) (stp z τ) :=
  St.set_view _ _ (St.puts_view _ (St.drops_s σ τ _ h))

theorem St.puts_s : ∀ (ps : List (Nat × List T)) (σ : St), (σ.puts ps).s = σ.s
  | [], _ => rfl
  | (i, cs) :: ps, σ => by simp only [St.puts]; rw [St.puts_s ps]
theorem St.puts_h : ∀ (ps : List (Nat × List T)) (σ : St) (j : Nat), j ∉ ps.map (·.1) → (σ.puts ps).h j = σ.h j
  | [], _, _, _ => rfl
  | (i, cs) :: ps, σ, j, h => by
    simp only [List.map_cons, List.mem_cons, not_or] at h
    simp only [St.puts]; rw [St.puts_h ps _ j h.2]
    simp only [upd]; rw [if_neg h.1]

def Out (vs vi : Nat → Prop) (z : Oper × Step) : Prop := z.2.e.drops = [] ∧ (∀ d, z.1.dst = some d → ¬ vs d) ∧ ∀ i ∈ z.2.e.puts.map (·.1), ¬ vi i

theorem stp_out {vs vi : Nat → Prop} {z : Oper × Step} (h : Out vs vi z) (σ : St) : View vs vi (stp z σ) σ := by
  obtain ⟨h1, h2, h3⟩ := h
  simp only [stp, Eff.apply, h1, St.drops]
  refine ⟨fun t ht => ?_, fun i hi => ?_⟩
  · cases hd : z.1.dst with
    | none => simp only [St.set]; rw [St.puts_s]
    | some d =>
      simp only [St.set, upd]
      rw [if_neg (fun e => h2 d hd (by rw [← e]; exact ht)), St.puts_s]
  · have : ((σ.puts z.2.e.puts).set z.1.dst z.2.e.val).h = (σ.puts z.2.e.puts).h := by cases z.1.dst <;> rfl
    rw [this, St.puts_h _ _ _ fun hm => h3 i hm hi]

theorem View.trans {vs vi : Nat → Prop} {σ τ υ : St} (h : View vs vi σ τ) (k : View vs vi τ υ) : View vs vi σ υ := ⟨fun t ht => (h.s t ht).trans (k.s t ht), fun t ht => (h.h t ht).trans (k.h t ht)⟩
theorem View.symm {vs vi : Nat → Prop} {σ τ : St} (h : View vs vi σ τ) : View vs vi τ σ := ⟨fun t ht => (h.s t ht).symm, fun t ht => (h.h t ht).symm⟩
theorem View.refl {vs vi : Nat → Prop} {σ : St} : View vs vi σ σ := ⟨fun _ _ => rfl, fun _ _ => rfl⟩

theorem foldD_view {vs vi : Nat → Prop} {D D' : Nat → Bool} : ∀ (zs : List (Oper × Step)) (k : Nat) {σ τ : St}, (∀ i z, zs[i]? = some z → D (k + i) ≠ D' (k + i) → Out vs vi z) → View vs vi σ τ → View vs vi (foldD D k zs σ) (foldD D' k zs τ)
  | [], _, _, _, _, hv => hv
  | z :: l, k, σ, τ, h, hv => by
    simp only [foldD]
    refine foldD_view l (k + 1) (fun i z' hz hd => h (i + 1) z' (by simpa using hz) (by rwa [show k + (i + 1) = k + 1 + i from by omega])) ?_
    have h0 := h 0 z rfl
    simp only [Nat.add_zero] at h0
    cases h1 : D k <;> cases h2 : D' k
    · simpa using hv
    · simp only [Bool.false_eq_true, if_false, if_true]
      exact hv.trans (stp_out (h0 (by simp [h1, h2])) τ).symm
    · simp only [Bool.false_eq_true, if_false, if_true]
      exact (stp_out (h0 (by simp [h1, h2])) σ).trans hv
    · simp only [if_true]
      exact stp_view z hv

def Comm (y z : Oper × Step) : Prop := y.2.e.drops = [] ∧ z.2.e.drops = [] ∧ (∀ d, y.1.dst = some d → z.1.dst ≠ some d) ∧ ∀ i ∈ y.2.e.puts.map (·.1), i ∉ z.2.e.puts.map (·.1)

theorem St.ext' {σ τ : St} (h1 : ∀ t, σ.s t = τ.s t) (h2 : ∀ i, σ.h i = τ.h i) : σ = τ := by
  cases σ; cases τ; simp only [St.mk.injEq]; exact ⟨funext h1, funext h2⟩

theorem upd_self {α : Type} (f : Nat → Option α) (n : Nat) (x : Option α) : upd f n x n = x := by simp [upd]

theorem stp_s {z : Oper × Step} (h : z.2.e.drops = []) (σ : St) (t : Nat) : (stp z σ).s t = if z.1.dst = some t then some z.2.e.val else σ.s t := by
  simp only [stp, Eff.apply, h, St.drops]
  cases hd : z.1.dst with
  | none => simp only [St.set]; rw [St.puts_s, if_neg (by simp)]
  | some d =>
    simp only [St.set, upd, Option.some.injEq]
    by_cases e : t = d
    · rw [if_pos e, if_pos e.symm]
    · rw [if_neg e, if_neg (Ne.symm e), St.puts_s]

theorem stp_h {z : Oper × Step} (h : z.2.e.drops = []) (σ : St) (i : Nat) : (stp z σ).h i = (σ.puts z.2.e.puts).h i := by
  simp only [stp, Eff.apply, h, St.drops]
  cases z.1.dst <;> rfl

theorem puts_h_in : ∀ (ps : List (Nat × List T)) (σ τ : St) (i : Nat), i ∈ ps.map (·.1) → (σ.puts ps).h i = (τ.puts ps).h i
  | [], _, _, _, h => by simp at h
  | (j, cs) :: ps, σ, τ, i, h => by
    simp only [St.puts]
    by_cases hi : i ∈ ps.map (·.1)
    · exact puts_h_in ps _ _ i hi
    · rw [St.puts_h _ _ _ hi, St.puts_h _ _ _ hi]
      simp only [List.map_cons, List.mem_cons] at h
      rcases h with rfl | h
      · simp [upd]
      · exact absurd h hi

theorem stp_comm {y z : Oper × Step} (h : Comm y z) (σ : St) : stp y (stp z σ) = stp z (stp y σ) := by
  obtain ⟨h1, h2, h3, h4⟩ := h
  refine St.ext' (fun t => ?_) fun i => ?_
  · rw [stp_s h1, stp_s h2, stp_s h2, stp_s h1]
    by_cases a : y.1.dst = some t
    · rw [if_pos a, if_neg (h3 t a), if_pos a]
    · rw [if_neg a]
      by_cases b : z.1.dst = some t
      · rw [if_pos b, if_pos b]
      · rw [if_neg b, if_neg b, if_neg a]
  · rw [stp_h h1, stp_h h2]
    by_cases a : i ∈ y.2.e.puts.map (·.1)
    · rw [St.puts_h _ (stp y σ) i (h4 i a), stp_h h1]
      exact puts_h_in _ _ _ _ a
    · rw [St.puts_h _ _ i a, stp_h h2]
      by_cases b : i ∈ z.2.e.puts.map (·.1)
      · exact puts_h_in _ _ _ _ b
      · rw [St.puts_h _ _ i b, St.puts_h _ _ i b, stp_h h1, St.puts_h _ _ i a]

theorem foldD_push {D : Nat → Bool} (y : Oper × Step) : ∀ (zs : List (Oper × Step)) (k : Nat) (σ : St), (∀ i z, zs[i]? = some z → D (k + i) = true → Comm y z) → foldD D k zs (stp y σ) = stp y (foldD D k zs σ)
  | [], _, _, _ => rfl
  | z :: l, k, σ, h => by
    simp only [foldD]
    have ih := fun τ => foldD_push (D := D) y l (k + 1) τ fun i z' hz hd => h (i + 1) z' (by simpa using hz) (by rwa [show k + (i + 1) = k + 1 + i from by omega])
    cases hk : D k with
    | false => simp only [Bool.false_eq_true, if_false]; exact ih σ
    | true =>
      simp only [if_true]
      rw [← stp_comm (h 0 z rfl (by simpa using hk)) σ]
      exact ih _

theorem foldD_add {D D' : Nat → Bool} {j : Nat} (hD : ∀ i, i ≠ j → D' i = D i) (h0 : D j = false) (h1 : D' j = true) : ∀ (zs : List (Oper × Step)) (k : Nat) (σ : St) (y : Oper × Step), k ≤ j → zs[j - k]? = some y →
    (∀ i z, zs[i]? = some z → j < k + i → D (k + i) = true → Comm y z) → foldD D' k zs σ = stp y (foldD D k zs σ)
  | [], _, _, _, _, h, _ => by simp at h
  | z :: l, k, σ, y, hk, hy, h => by
    simp only [foldD]
    by_cases e : k = j
    · subst e
      simp only [Nat.sub_self, List.getElem?_cons_zero, Option.some.injEq] at hy
      subst hy
      rw [if_pos h1, if_neg (by simp [h0]), foldD_congr (D := D') (D' := D) l (k + 1) _ fun i h1 h2 => hD i (by omega)]
      exact foldD_push z l (k + 1) σ fun i z' hz hd => h (i + 1) z' (by simpa using hz) (by omega) (by rwa [show k + (i + 1) = k + 1 + i from by omega])
    · rw [hD k e]
      have hy' : l[j - (k + 1)]? = some y := by rw [show j - k = (j - (k + 1)) + 1 from by omega] at hy; simpa using hy
      exact foldD_add hD h0 h1 l (k + 1) _ y (by omega) hy' fun i z' hz hlt hd => h (i + 1) z' (by simpa using hz) (by omega) (by rwa [show k + (i + 1) = k + 1 + i from by omega])
end Go.Vw

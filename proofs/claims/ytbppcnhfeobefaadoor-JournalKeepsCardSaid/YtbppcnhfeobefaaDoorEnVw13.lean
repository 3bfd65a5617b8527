import Derived.Test.YtbppcnhfeobefaaDoorEnVw10
import Derived.Orders
import Derived.Carry
set_option linter.unusedVariables false
namespace Go.Vw
open Go Go.RowKit
structure Step where
 e : Eff
 r : List Nat
 go : Bool
 c : List Nat
structure Mark where
 rd : List Nat
 pt : List Nat
 dr : List Nat
 cl : List Nat
def Step.mark (s : Step) : Mark := ⟨s.r, s.e.puts.map (·.1), s.e.drops, s.c⟩
def memN (n : Nat) : List Nat → Bool
 | [] => false
 | m :: l => Nat.beq m n || memN n l
theorem memN_iff {n : Nat} : ∀ {l : List Nat}, memN n l = true ↔ n ∈ l
 | [] => by simp [memN]
 | m :: l => by
  simp only [memN, Bool.or_eq_true, Nat.beq_eq, memN_iff, List.mem_cons]
  exact ⟨fun h => h.imp Eq.symm id, fun h => h.imp Eq.symm id⟩
def inD : Option (List Nat) → Nat → Prop
 | none, _ => True
 | some D, i => i ∈ D
def outD : Option (List Nat) → Nat → Bool
 | none, _ => false
 | some D, i => !memN i D
theorem outD_ne {o : Option (List Nat)} {i j : Nat} (h : outD o j = true) (hi : inD o i) : j ≠ i := by
 cases o with
 | none => simp [outD] at h
 | some D =>
  intro e; subst e
  simp only [outD, Bool.not_eq_true'] at h
  rw [memN_iff.2 hi] at h; cases h
def dropB (o : Option (List Nat)) (l : List Nat) : Bool := match o with | none => true | some D => l.all fun i => memN i D
mutual
def flatT (o : Option (List Nat)) : T → Bool
 | .dead => false
 | .leaf _ => true
 | .e0 => true
 | .sl _ _ _ _ => true
 | .xl _ _ _ _ => true
 | .pt _ _ _ => true
 | .agg cs => flatL o cs
 | .tup cs => flatL o cs
 | .iface _ v => flatT o v
 | .fn _ p r => flatL o p && flatL o r
 | .ref i _ _ _ => outD o i
 | .addr i _ => outD o i
def flatL (o : Option (List Nat)) : List T → Bool
 | [] => true
 | t :: ts => flatT o t && flatL o ts
end
mutual
theorem flat_purge {o : Option (List Nat)} {i : Nat} (hi : inD o i) : ∀ {p : T}, flatT o p = true → p.purge i = p
 | .dead, h => rfl
 | .leaf _, h => rfl
 | .e0, h => rfl
 | .sl _ _ _ _, h => rfl
 | .xl _ _ _ _, h => rfl
 | .pt _ _ _, h => rfl
 | .agg cs, h => by simp only [flatT] at h; simp only [T.purge, flatL_purge hi h]
 | .tup cs, h => by simp only [flatT] at h; simp only [T.purge, flatL_purge hi h]
 | .iface _ v, h => by simp only [flatT] at h; simp only [T.purge, flat_purge hi h]
 | .fn _ p r, h => by simp only [flatT, Bool.and_eq_true] at h; simp only [T.purge, flatL_purge hi h.1, flatL_purge hi h.2]
 | .ref id m a n, h => by simp only [flatT] at h; simp only [T.purge]; rw [if_neg (outD_ne h hi)]
 | .addr id a, h => by simp only [flatT] at h; simp only [T.purge]; rw [if_neg (outD_ne h hi)]
theorem flatL_purge {o : Option (List Nat)} {i : Nat} (hi : inD o i) : ∀ {p : List T}, flatL o p = true → purgeL i p = p
 | [], _ => rfl
 | t :: ts, h => by simp only [flatL, Bool.and_eq_true] at h; simp only [purgeL, flat_purge hi h.1, flatL_purge hi h.2]
end
mutual
theorem purge_flat0 {o : Option (List Nat)} {i : Nat} : ∀ (v : T), flatT o (v.purge i) = true → v.purge i = v
 | .dead, h => rfl
 | .leaf _, h => rfl
 | .e0, h => rfl
 | .sl _ _ _ _, h => rfl
 | .xl _ _ _ _, h => rfl
 | .pt _ _ _, h => rfl
 | .agg cs, h => by simp only [T.purge, flatT] at h ⊢; rw [purge_flatL0 cs h]
 | .tup cs, h => by simp only [T.purge, flatT] at h ⊢; rw [purge_flatL0 cs h]
 | .iface _ v, h => by simp only [T.purge, flatT] at h ⊢; rw [purge_flat0 v h]
 | .fn _ p r, h => by simp only [T.purge, flatT, Bool.and_eq_true] at h ⊢; rw [purge_flatL0 p h.1, purge_flatL0 r h.2]
 | .ref id m a n, h => by
  simp only [T.purge] at h ⊢; split at h
  ·simp [flatT] at h
  ·rename_i q; rw [if_neg q]
 | .addr id a, h => by
  simp only [T.purge] at h ⊢; split at h
  ·simp [flatT] at h
  ·rename_i q; rw [if_neg q]
theorem purge_flatL0 {o : Option (List Nat)} {i : Nat} : ∀ (v : List T), flatL o (purgeL i v) = true → purgeL i v = v
 | [], _ => rfl
 | t :: ts, h => by simp only [purgeL, flatL, Bool.and_eq_true] at h ⊢; rw [purge_flat0 t h.1, purge_flatL0 ts h.2]
end
theorem purge_flat {o : Option (List Nat)} {i : Nat} {v p : T} (h : flatT o p = true) (e : v.purge i = p) : v = p := by
 subst e; exact (purge_flat0 v h).symm
theorem purge_flatL {o : Option (List Nat)} {i : Nat} {v p : List T} (h : flatL o p = true) (e : purgeL i v = p) : v = p := by
 subst e; exact (purge_flatL0 v h).symm
def opsT (E : Env) (S : List Nat) (ds : List (Option Nat)) (K : List Mark → St → Prop) : List Oper → List Mark → St → Prop
 | [], tr, σ => K tr σ
 | o :: l, tr, σ =>
  bindO (guardT ds σ o.guard) fun g => condB g
   (act E σ o.dst (fun e r => putOk σ S r e ∧ withSt (e.apply σ o.dst) fun σ' => opsT E S ds K l (⟨r, e.puts.map (·.1), e.drops, []⟩ :: tr) σ') o.op)
   (withSt (σ.set o.dst (.tup [])) fun σ' => opsT E S ds K l (⟨[], [], [], []⟩ :: tr) σ')
@[congr] theorem opsT_congr {E : Env} {S : List Nat} {ds : List (Option Nat)} {K : List Mark → St → Prop} {σ : St} {l : List Oper} {tr : List Mark} : opsT E S ds K l tr σ = opsT E S ds K l tr σ := rfl
def stp (z : Oper × Step) (σ : St) : St := z.2.e.apply σ z.1.dst
def CleanE (q : Option (List Nat)) (z : Oper × Step) : Prop := flatT q z.2.e.val = true ∧ ∀ p ∈ z.2.e.puts, outD q p.1 = true ∧ flatL q p.2 = true
def CleanAt (q : Option (List Nat)) (ds : List (Option Nat)) (σ : St) (z : Oper × Step) : Prop :=
 CleanE q z ∧ (∀ i ∈ z.2.r, outD q i = true ∧ ∃ cs, σ.h i = some cs ∧ flatL q cs = true) ∧ (∀ t, .tmp t ∈ z.1.op.operands → ∃ p, σ.s t = some p ∧ flatT q p = true) ∧ ∀ j b d, z.1.guard = some (j, b) → ds[j]? = some (some d) → ∃ p, σ.s d = some p ∧ flatT q p = true
def StepOk (E : Env) (S : List Nat) (ds : List (Option Nat)) (σ : St) (z : Oper × Step) : Prop :=
 guardT ds σ z.1.guard = some z.2.go ∧ (if z.2.go then Acts E.P z.1 σ.ev σ.h z.2.r z.2.e ∧ putOk σ S z.2.r z.2.e else z.2.e = {} ∧ z.2.r = []) ∧ (z.2.c ≠ [] → CleanAt (some z.2.c) ds σ z)
def Runs (E : Env) (S : List Nat) (ds : List (Option Nat)) : List (Oper × Step) → St → Prop
 | [], _ => True
 | z :: l, σ => StepOk E S ds σ z ∧ Runs E S ds l (stp z σ)
def foldD (D : Nat → Bool) : Nat → List (Oper × Step) → St → St
 | _, [], σ => σ
 | k, z :: l, σ => foldD D (k + 1) l (if D k then stp z σ else σ)
theorem foldD_all {D : Nat → Bool} : ∀ (zs : List (Oper × Step)) (k : Nat) (σ : St), (∀ i, k ≤ i → i < k + zs.length → D i = true) → foldD D k zs σ = zs.foldl (fun σ z => stp z σ) σ
 | [], _, _, _ => rfl
 | z :: l, k, σ, h => by
  simp only [foldD, List.foldl_cons]
  rw [if_pos (h k (Nat.le_refl _) (by simp)), foldD_all l (k + 1) _ fun i h1 h2 => h i (by omega) (by simp; omega)]
theorem foldD_congr {D D' : Nat → Bool} : ∀ (zs : List (Oper × Step)) (k : Nat) (σ : St), (∀ i, k ≤ i → i < k + zs.length → D i = D' i) → foldD D k zs σ = foldD D' k zs σ
 | [], _, _, _ => rfl
 | z :: l, k, σ, h => by
  simp only [foldD]
  rw [h k (Nat.le_refl _) (by simp), foldD_congr l (k + 1) _ fun i h1 h2 => h i (by omega) (by simp; omega)]
theorem foldD_none {D : Nat → Bool} : ∀ (zs : List (Oper × Step)) (k : Nat) (σ : St), (∀ i, k ≤ i → D i = false) → foldD D k zs σ = σ
 | [], _, _, _ => rfl
 | z :: l, k, σ, h => by
  simp only [foldD]
  rw [if_neg (by simp [h k (Nat.le_refl _)]), foldD_none l (k + 1) _ fun i h1 => h i (by omega)]
theorem runs_at {E : Env} {S : List Nat} {ds : List (Option Nat)} : ∀ (zs : List (Oper × Step)) (k : Nat) (σ : St), Runs E S ds zs σ → ∀ j z, zs[j]? = some z → StepOk E S ds (foldD (fun i => decide (i < k + j)) k zs σ) z
 | [], _, _, _, j, z, h => by simp at h
 | z0 :: l, k, σ, hr, 0, z, h => by
  simp only [List.getElem?_cons_zero, Option.some.injEq] at h; subst h
  rw [foldD_none _ _ _ fun i hi => by simp; omega]
  exact hr.1
 | z0 :: l, k, σ, hr, j + 1, z, h => by
  simp only [List.getElem?_cons_succ] at h
  have := runs_at l (k + 1) _ hr.2 j z h
  simp only [foldD]
  rw [if_pos (by simp)]
  rw [show (fun i => decide (i < k + (j + 1))) = fun i => decide (i < k + 1 + j) from by funext i; congr 1; simp; omega]
  exact this
structure View (vs : Nat → Prop) (vi : Nat → Prop) (σ τ : St) : Prop where
 s : ∀ t, vs t → σ.s t = τ.s t
 h : ∀ i, vi i → σ.h i = τ.h i
theorem St.drops_s (σ τ : St) {vs vi : Nat → Prop} : ∀ (is : List Nat) {σ τ : St}, View vs vi σ τ → View vs vi (σ.drops is) (τ.drops is)
 | [], _, _, h => h
 | i :: is, σ, τ, h => by
  simp only [St.drops]
  refine St.drops_s σ τ is ⟨fun t ht => ?_, fun j hj => ?_⟩
  ·simp only [St.drop, h.s t ht]
  ·simp only [St.drop, h.h j hj]
theorem St.puts_view {vs vi : Nat → Prop} : ∀ (ps : List (Nat × List T)) {σ τ : St}, View vs vi σ τ → View vs vi (σ.puts ps) (τ.puts ps)
 | [], _, _, h => h
 | (i, cs) :: ps, σ, τ, h => by
  simp only [St.puts]
  exact St.puts_view ps ⟨h.s, fun j hj => by simp only [upd, h.h j hj]⟩
theorem St.set_view {vs vi : Nat → Prop} (d : Option Nat) (x : T) {σ τ : St} (h : View vs vi σ τ) : View vs vi (σ.set d x) (τ.set d x) := by
 cases d with
 | none => exact h
 | some d => exact ⟨fun t ht => by simp only [St.set, upd, h.s t ht], h.h⟩
theorem stp_view {vs vi : Nat → Prop} (z : Oper × Step) {σ τ : St} (h : View vs vi σ τ) : View vs vi (stp z σ) (stp z τ) :=
 St.set_view _ _ (St.puts_view _ (St.drops_s σ τ _ h))
theorem St.puts_s : ∀ (ps : List (Nat × List T)) (σ : St), (σ.puts ps).s = σ.s
 | [], _ => rfl
 | (i, cs) :: ps, σ => by simp only [St.puts]; rw [St.puts_s ps]
theorem St.puts_h : ∀ (ps : List (Nat × List T)) (σ : St) (j : Nat), j ∉ ps.map (·.1) → (σ.puts ps).h j = σ.h j
 | [], _, _, _ => rfl
 | (i, cs) :: ps, σ, j, h => by
  simp only [List.map_cons, List.mem_cons, not_or] at h
  simp only [St.puts]; rw [St.puts_h ps _ j h.2]
  simp only [upd]; rw [if_neg h.1]
def Out (vs vi : Nat → Prop) (z : Oper × Step) : Prop := z.2.e.drops = [] ∧ (∀ d, z.1.dst = some d → ¬ vs d) ∧ ∀ i ∈ z.2.e.puts.map (·.1), ¬ vi i
theorem stp_out {vs vi : Nat → Prop} {z : Oper × Step} (h : Out vs vi z) (σ : St) : View vs vi (stp z σ) σ := by
 obtain ⟨h1, h2, h3⟩ := h
 simp only [stp, Eff.apply, h1, St.drops]
 refine ⟨fun t ht => ?_, fun i hi => ?_⟩
 ·cases hd : z.1.dst with
  | none => simp only [St.set]; rw [St.puts_s]
  | some d =>
   simp only [St.set, upd]
   rw [if_neg (fun e => h2 d hd (by rw [← e]; exact ht)), St.puts_s]
 ·have : ((σ.puts z.2.e.puts).set z.1.dst z.2.e.val).h = (σ.puts z.2.e.puts).h := by cases z.1.dst <;> rfl
  rw [this, St.puts_h _ _ _ fun hm => h3 i hm hi]
theorem View.trans {vs vi : Nat → Prop} {σ τ υ : St} (h : View vs vi σ τ) (k : View vs vi τ υ) : View vs vi σ υ := ⟨fun t ht => (h.s t ht).trans (k.s t ht), fun t ht => (h.h t ht).trans (k.h t ht)⟩
theorem View.symm {vs vi : Nat → Prop} {σ τ : St} (h : View vs vi σ τ) : View vs vi τ σ := ⟨fun t ht => (h.s t ht).symm, fun t ht => (h.h t ht).symm⟩
theorem View.refl {vs vi : Nat → Prop} {σ : St} : View vs vi σ σ := ⟨fun _ _ => rfl, fun _ _ => rfl⟩
theorem foldD_view {vs vi : Nat → Prop} {D D' : Nat → Bool} : ∀ (zs : List (Oper × Step)) (k : Nat) {σ τ : St}, (∀ i z, zs[i]? = some z → D (k + i) ≠ D' (k + i) → Out vs vi z) → View vs vi σ τ → View vs vi (foldD D k zs σ) (foldD D' k zs τ)
 | [], _, _, _, _, hv => hv
 | z :: l, k, σ, τ, h, hv => by
  simp only [foldD]
  refine foldD_view l (k + 1) (fun i z' hz hd => h (i + 1) z' (by simpa using hz) (by rwa [show k + (i + 1) = k + 1 + i from by omega])) ?_
  have h0 := h 0 z rfl
  simp only [Nat.add_zero] at h0
  cases h1 : D k <;> cases h2 : D' k
  ·simpa using hv
  ·simp only [Bool.false_eq_true, if_false, if_true]
   exact hv.trans (stp_out (h0 (by simp [h1, h2])) τ).symm
  ·simp only [Bool.false_eq_true, if_false, if_true]
   exact (stp_out (h0 (by simp [h1, h2])) σ).trans hv
  ·simp only [if_true]
   exact stp_view z hv
theorem St.ext0 {σ τ : St} (h1 : ∀ t, σ.s t = τ.s t) (h2 : σ.h = τ.h) : σ = τ := by
 cases σ; cases τ; simp only [St.mk.injEq]; exact ⟨funext h1, h2⟩
def FE (q : Option (List Nat)) (a b : Option T) : Prop := ∀ p, flatT q p = true → (a = some p ↔ b = some p)
theorem FE.refl {q : Option (List Nat)} (a : Option T) : FE q a a := fun _ _ => Iff.rfl
theorem FE.symm {q : Option (List Nat)} {a b : Option T} (h : FE q a b) : FE q b a := fun p hp => (h p hp).symm
theorem FE.trans {q : Option (List Nat)} {a b c : Option T} (h : FE q a b) (k : FE q b c) : FE q a c := fun p hp => (h p hp).trans (k p hp)
theorem FE.drop {q : Option (List Nat)} {i : Nat} (hi : inD q i) (a : Option T) : FE q (a.map (T.purge i)) a := fun p hp => by
 cases a with
 | none => simp
 | some v =>
  simp only [Option.map_some, Option.some.injEq]
  exact ⟨purge_flat hp, fun e => by subst e; exact flat_purge hi hp⟩
def FEH (q : Option (List Nat)) (a b : Option (List T)) : Prop := ∀ p, flatL q p = true → (a = some p ↔ b = some p)
theorem FEH.refl {q : Option (List Nat)} (a : Option (List T)) : FEH q a a := fun _ _ => Iff.rfl
theorem FEH.symm {q : Option (List Nat)} {a b : Option (List T)} (h : FEH q a b) : FEH q b a := fun p hp => (h p hp).symm
theorem FEH.trans {q : Option (List Nat)} {a b c : Option (List T)} (h : FEH q a b) (k : FEH q b c) : FEH q a c := fun p hp => (h p hp).trans (k p hp)
theorem FEH.drop {q : Option (List Nat)} {i : Nat} (hi : inD q i) (a : Option (List T)) : FEH q (a.map (purgeL i)) a := fun p hp => by
 cases a with
 | none => simp
 | some v =>
  simp only [Option.map_some, Option.some.injEq]
  exact ⟨purge_flatL hp, fun e => by subst e; exact flatL_purge hi hp⟩
theorem FEH.puts {q : Option (List Nat)} {j : Nat} : ∀ (ps : List (Nat × List T)) {σ τ : St}, FEH q (σ.h j) (τ.h j) → FEH q ((σ.puts ps).h j) ((τ.puts ps).h j)
 | [], _, _, h => h
 | (i, cs) :: ps, σ, τ, h => by
  simp only [St.puts]
  refine FEH.puts ps ?_
  simp only [upd]
  split
  ·exact FEH.refl _
  ·exact h
theorem FE.drop2 {q : Option (List Nat)} (i : Nat) {a b : Option T} (h : FE q a b) : FE q (a.map (T.purge i)) (b.map (T.purge i)) := by
 have go : ∀ {a b : Option T}, FE q a b → ∀ p, flatT q p = true → a.map (T.purge i) = some p → b.map (T.purge i) = some p := by
  intro a b h p hp e
  cases a with
  | none => simp at e
  | some v =>
   simp only [Option.map_some, Option.some.injEq] at e
   have e2 := purge_flat hp e
   subst e2
   rw [(h v hp).1 rfl, Option.map_some, e]
 exact fun p hp => ⟨go h p hp, go h.symm p hp⟩
theorem FEH.drop2 {q : Option (List Nat)} (i : Nat) {a b : Option (List T)} (h : FEH q a b) : FEH q (a.map (purgeL i)) (b.map (purgeL i)) := by
 have go : ∀ {a b : Option (List T)}, FEH q a b → ∀ p, flatL q p = true → a.map (purgeL i) = some p → b.map (purgeL i) = some p := by
  intro a b h p hp e
  cases a with
  | none => simp at e
  | some v =>
   simp only [Option.map_some, Option.some.injEq] at e
   have e2 := purge_flatL hp e
   subst e2
   rw [(h v hp).1 rfl, Option.map_some, e]
 exact fun p hp => ⟨go h p hp, go h.symm p hp⟩
structure VF (q : Option (List Nat)) (vs vi vn : Nat → Prop) (σ τ : St) : Prop where
 s : ∀ t, vs t → FE q (σ.s t) (τ.s t)
 h : ∀ i, vi i → FEH q (σ.h i) (τ.h i)
 n : ∀ i, vn i → (σ.h i = none ↔ τ.h i = none)
section
variable {q : Option (List Nat)} {vs vi vn : Nat → Prop}
theorem VF.refl {σ : St} : VF q vs vi vn σ σ := ⟨fun _ _ => FE.refl _, fun _ _ => FEH.refl _, fun _ _ => Iff.rfl⟩
theorem VF.symm {σ τ : St} (h : VF q vs vi vn σ τ) : VF q vs vi vn τ σ := ⟨fun t ht => (h.s t ht).symm, fun t ht => (h.h t ht).symm, fun t ht => (h.n t ht).symm⟩
theorem VF.trans {σ τ υ : St} (h : VF q vs vi vn σ τ) (k : VF q vs vi vn τ υ) : VF q vs vi vn σ υ := ⟨fun t ht => (h.s t ht).trans (k.s t ht), fun t ht => (h.h t ht).trans (k.h t ht), fun t ht => (h.n t ht).trans (k.n t ht)⟩
theorem VF.drops (hvi : ∀ i, vi i → outD q i = true) (hvn : ∀ i, vn i → outD q i = true) : ∀ (is : List Nat) (σ : St), (∀ i ∈ is, inD q i) → VF q vs vi vn (σ.drops is) σ
 | [], _, _ => VF.refl
 | i :: is, σ, h => (VF.drops hvi hvn is (σ.drop i) fun j hj => h j (List.mem_cons_of_mem _ hj)).trans ⟨fun t _ => FE.drop (h i (List.mem_cons_self ..)) _, fun j hj => by
   have : j ≠ i := outD_ne (hvi j hj) (h i (List.mem_cons_self ..))
   simp only [St.drop, if_neg this]
   exact FEH.drop (h i (List.mem_cons_self ..)) _, fun j hj => by
   have : j ≠ i := outD_ne (hvn j hj) (h i (List.mem_cons_self ..))
   simp only [St.drop, if_neg this, Option.map_eq_none_iff]⟩
theorem VF.drop2 : ∀ (is : List Nat) {σ τ : St}, VF q vs vi vn σ τ → VF q vs vi vn (σ.drops is) (τ.drops is)
 | [], _, _, h => h
 | i :: is, σ, τ, h => by
  refine VF.drop2 is ⟨fun t ht => FE.drop2 i (h.s t ht), fun j hj => ?_, fun j hj => ?_⟩
  ·simp only [St.drop]
   split
   ·exact FEH.refl _
   ·exact FEH.drop2 i (h.h j hj)
  ·simp only [St.drop]
   split
   ·exact Iff.rfl
   ·simp only [Option.map_eq_none_iff]; exact h.n j hj
theorem puts_none {j : Nat} : ∀ (ps : List (Nat × List T)) {σ τ : St}, (σ.h j = none ↔ τ.h j = none) → ((σ.puts ps).h j = none ↔ (τ.puts ps).h j = none)
 | [], _, _, h => h
 | (i, cs) :: ps, σ, τ, h => by
  simp only [St.puts]
  refine puts_none ps ?_
  simp only [upd]
  split
  ·exact Iff.rfl
  ·exact h
end
theorem set_h (σ : St) (d : Option Nat) (x : T) : (σ.set d x).h = σ.h := by cases d <;> rfl
theorem set_s (σ : St) (d : Option Nat) (x : T) (t : Nat) : (σ.set d x).s t = if d = some t then some x else σ.s t := by
 cases d with
 | none => simp [St.set]
 | some d =>
  simp only [St.set, upd, Option.some.injEq]
  by_cases e : t = d
  ·rw [if_pos e, if_pos e.symm]
  ·rw [if_neg e, if_neg (Ne.symm e)]
section
variable {q : Option (List Nat)} {vs vi vn : Nat → Prop}
theorem stp_vf (z : Oper × Step) {σ τ : St} (h : VF q vs vi vn σ τ) : VF q vs vi vn (stp z σ) (stp z τ) := by
 have hd := VF.drop2 z.2.e.drops h
 refine ⟨fun t ht => ?_, fun i hi => ?_, fun i hi => ?_⟩
 ·simp only [stp, Eff.apply]
  rw [set_s, set_s]
  split
  ·exact FE.refl _
  ·rw [St.puts_s, St.puts_s]
   exact hd.s t ht
 ·simp only [stp, Eff.apply]
  rw [set_h, set_h]
  exact FEH.puts _ (hd.h i hi)
 ·simp only [stp, Eff.apply]
  rw [set_h, set_h]
  exact puts_none _ (hd.n i hi)
theorem stp_outF (hvi : ∀ i, vi i → outD q i = true) (hvn : ∀ i, vn i → outD q i = true) {z : Oper × Step} (hz : ∀ i ∈ z.2.e.drops, inD q i) (h : ∀ d, z.1.dst = some d → ¬ vs d) (hp : ∀ i ∈ z.2.e.puts.map (·.1), ¬ vi i ∧ ¬ vn i) (σ : St) : VF q vs vi vn (stp z σ) σ := by
 have hd := VF.drops (vs := vs) hvi hvn z.2.e.drops σ hz
 refine ⟨fun t ht => ?_, fun i hi => ?_, fun i hi => ?_⟩
 ·simp only [stp, Eff.apply]
  rw [set_s, if_neg (fun e => h t e ht), St.puts_s]
  exact hd.s t ht
 ·simp only [stp, Eff.apply]
  rw [set_h, St.puts_h _ _ _ fun hm => (hp i hm).1 hi]
  exact hd.h i hi
 ·simp only [stp, Eff.apply]
  rw [set_h, St.puts_h _ _ _ fun hm => (hp i hm).2 hi]
  exact hd.n i hi
theorem foldD_vf (hvi : ∀ i, vi i → outD q i = true) (hvn : ∀ i, vn i → outD q i = true) {D D' : Nat → Bool} : ∀ (zs : List (Oper × Step)) (k : Nat) {σ τ : St}, (∀ i z, zs[i]? = some z → D (k + i) ≠ D' (k + i) → (∀ j ∈ z.2.e.drops, inD q j) ∧ (∀ d, z.1.dst = some d → ¬ vs d) ∧ ∀ j ∈ z.2.e.puts.map (·.1), ¬ vi j ∧ ¬ vn j) → VF q vs vi vn σ τ → VF q vs vi vn (foldD D k zs σ) (foldD D' k zs τ)
 | [], _, _, _, _, hv => hv
 | z :: l, k, σ, τ, h, hv => by
  simp only [foldD]
  refine foldD_vf hvi hvn l (k + 1) (fun i z' hz hd => h (i + 1) z' (by simpa using hz) (by rwa [show k + (i + 1) = k + 1 + i from by omega])) ?_
  have h0 := h 0 z rfl
  simp only [Nat.add_zero] at h0
  cases h1 : D k <;> cases h2 : D' k
  ·simpa using hv
  ·simp only [Bool.false_eq_true, if_false, if_true]
   obtain ⟨a, b, c⟩ := h0 (by simp [h1, h2])
   exact hv.trans (stp_outF hvi hvn a b c τ).symm
  ·simp only [Bool.false_eq_true, if_false, if_true]
   obtain ⟨a, b, c⟩ := h0 (by simp [h1, h2])
   exact (stp_outF hvi hvn a b c σ).trans hv
  ·simp only [if_true]
   exact stp_vf z hv
end
mutual
theorem T.purge_comm (i j : Nat) : ∀ (t : T), (t.purge i).purge j = (t.purge j).purge i
 | .dead | .leaf _ | .e0 | .sl .. | .xl .. | .pt .. => rfl
 | .agg cs => by simp only [T.purge, purgeL_comm i j cs]
 | .tup cs => by simp only [T.purge, purgeL_comm i j cs]
 | .iface _ v => by simp only [T.purge, T.purge_comm i j v]
 | .fn _ p r => by simp only [T.purge, purgeL_comm i j p, purgeL_comm i j r]
 | .ref id _ _ _ | .addr id _ => by
  simp only [T.purge]
  by_cases a : id = i
  ·by_cases b : id = j
   ·rw [if_pos a, if_pos b]; rfl
   ·rw [if_pos a, if_neg b]; simp only [T.purge]; rw [if_pos a]
  ·by_cases b : id = j
   ·rw [if_neg a, if_pos b]; simp only [T.purge]; rw [if_pos b]
   ·rw [if_neg a, if_neg b]; simp only [T.purge]; rw [if_neg a, if_neg b]
theorem purgeL_comm (i j : Nat) : ∀ (ts : List T), purgeL j (purgeL i ts) = purgeL i (purgeL j ts)
 | [] => rfl
 | t :: ts => by simp only [purgeL, T.purge_comm i j t, purgeL_comm i j ts]
end
theorem drop_drop (i j : Nat) (σ : St) : (σ.drop i).drop j = (σ.drop j).drop i := by
 refine St.ext0 (fun t => ?_) (funext fun k => ?_)
 ·simp only [St.drop]
  cases σ.s t with
  | none => rfl
  | some v => simp only [Option.map_some, T.purge_comm i j v]
 ·simp only [St.drop]
  by_cases a : k = i <;> by_cases b : k = j <;> simp only [a, b, if_true, if_false, Option.map_none]
  all_goals first | rfl | (split <;> first | rfl | (cases σ.h k <;> first | rfl | simp only [Option.map_some, purgeL_comm i j]) | simp) | skip
  cases σ.h k with
  | none => rfl
  | some v => simp only [Option.map_some, purgeL_comm i j v]
theorem drops_drop (j : Nat) : ∀ (is : List Nat) (σ : St), (σ.drops is).drop j = (σ.drop j).drops is
 | [], _ => rfl
 | i :: is, σ => by simp only [St.drops]; rw [drops_drop j is, drop_drop]
theorem drops_drops (is : List Nat) : ∀ (js : List Nat) (σ : St), (σ.drops is).drops js = (σ.drops js).drops is
 | [], _ => rfl
 | j :: js, σ => by simp only [St.drops]; rw [drops_drop, drops_drops is js]
theorem puts_drop {i : Nat} : ∀ (ps : List (Nat × List T)) (σ : St), (∀ p ∈ ps, p.1 ≠ i ∧ purgeL i p.2 = p.2) → (σ.puts ps).drop i = (σ.drop i).puts ps
 | [], _, _ => rfl
 | (k, cs) :: ps, σ, h => by
  simp only [St.puts]
  rw [puts_drop ps _ fun p hp => h p (List.mem_cons_of_mem _ hp)]
  congr 1
  obtain ⟨h1, h2⟩ := h (k, cs) (List.mem_cons_self ..)
  refine St.ext0 (fun t => rfl) (funext fun j => ?_)
  simp only [St.drop, upd]
  by_cases e : j = k
  ·subst e; rw [if_neg h1, if_pos rfl, if_pos rfl, Option.map_some, h2]
  ·rw [if_neg e, if_neg e]
theorem puts_drops : ∀ (is : List Nat) (ps : List (Nat × List T)) (σ : St), (∀ i ∈ is, ∀ p ∈ ps, p.1 ≠ i ∧ purgeL i p.2 = p.2) → (σ.puts ps).drops is = (σ.drops is).puts ps
 | [], _, _, _ => rfl
 | i :: is, ps, σ, h => by
  simp only [St.drops]
  rw [puts_drop ps σ (h i (List.mem_cons_self ..)), puts_drops is ps _ fun j hj => h j (List.mem_cons_of_mem _ hj)]
theorem set_drops {d : Option Nat} {x : T} : ∀ (is : List Nat) (σ : St), (∀ i ∈ is, x.purge i = x) → (σ.set d x).drops is = (σ.drops is).set d x
 | [], _, _ => rfl
 | i :: is, σ, hi => by
  simp only [St.drops]
  rw [← set_drops is (σ.drop i) fun j hj => hi j (List.mem_cons_of_mem _ hj)]
  congr 1
  cases d with
  | none => rfl
  | some d =>
   simp only [St.set, St.drop]
   congr 1
   funext t
   simp only [upd]
   split
   ·rw [Option.map_some, hi i (List.mem_cons_self ..)]
   ·rfl
def Past (y : Oper × Step) (is : List Nat) : Prop := ∀ i ∈ is, y.2.e.val.purge i = y.2.e.val ∧ ∀ p ∈ y.2.e.puts, p.1 ≠ i ∧ purgeL i p.2 = p.2
theorem CleanE.past {q : Option (List Nat)} {y : Oper × Step} (h : CleanE q y) {is : List Nat} (hi : ∀ i ∈ is, inD q i) : Past y is := fun i hm => ⟨flat_purge (hi i hm) h.1, fun p hp => ⟨outD_ne (h.2 p hp).1 (hi i hm), flatL_purge (hi i hm) (h.2 p hp).2⟩⟩
def nod (z : Oper × Step) : Oper × Step := (z.1, { z.2 with e := { z.2.e with drops := [] } })
theorem stp_nod (z : Oper × Step) (σ : St) : stp z σ = stp (nod z) (σ.drops z.2.e.drops) := rfl
theorem nod_drops {z : Oper × Step} {is : List Nat} (h : Past z is) (σ : St) : (stp (nod z) σ).drops is = stp (nod z) (σ.drops is) := by
 simp only [stp, nod, Eff.apply, St.drops]
 rw [set_drops _ _ fun i hi => (h i hi).1, puts_drops _ _ _ fun i hi => (h i hi).2]
def Comm (y z : Oper × Step) : Prop := (Past y z.2.e.drops ∧ Past z y.2.e.drops) ∧ (∀ d, y.1.dst = some d → z.1.dst ≠ some d) ∧ ∀ i ∈ y.2.e.puts.map (·.1), i ∉ z.2.e.puts.map (·.1)
theorem St.ext' {σ τ : St} (h1 : ∀ t, σ.s t = τ.s t) (h2 : ∀ i, σ.h i = τ.h i) : σ = τ := by
 cases σ; cases τ; simp only [St.mk.injEq]; exact ⟨funext h1, funext h2⟩
theorem stp_s {z : Oper × Step} (h : z.2.e.drops = []) (σ : St) (t : Nat) : (stp z σ).s t = if z.1.dst = some t then some z.2.e.val else σ.s t := by
 simp only [stp, Eff.apply, h, St.drops]
 cases hd : z.1.dst with
 | none => simp only [St.set]; rw [St.puts_s, if_neg (by simp)]
 | some d =>
  simp only [St.set, upd, Option.some.injEq]
  by_cases e : t = d
  ·rw [if_pos e, if_pos e.symm]
  ·rw [if_neg e, if_neg (Ne.symm e), St.puts_s]
theorem stp_h {z : Oper × Step} (h : z.2.e.drops = []) (σ : St) (i : Nat) : (stp z σ).h i = (σ.puts z.2.e.puts).h i := by
 simp only [stp, Eff.apply, h, St.drops]
 cases z.1.dst <;> rfl
theorem puts_h_in : ∀ (ps : List (Nat × List T)) (σ τ : St) (i : Nat), i ∈ ps.map (·.1) → (σ.puts ps).h i = (τ.puts ps).h i
 | [], _, _, _, h => by simp at h
 | (j, cs) :: ps, σ, τ, i, h => by
  simp only [St.puts]
  by_cases hi : i ∈ ps.map (·.1)
  ·exact puts_h_in ps _ _ i hi
  ·rw [St.puts_h _ _ _ hi, St.puts_h _ _ _ hi]
   simp only [List.map_cons, List.mem_cons] at h
   rcases h with rfl | h
   ·simp [upd]
   ·exact absurd h hi
theorem stp_comm0 {y z : Oper × Step} (h1 : y.2.e.drops = []) (h2 : z.2.e.drops = []) (h3 : ∀ d, y.1.dst = some d → z.1.dst ≠ some d) (h4 : ∀ i ∈ y.2.e.puts.map (·.1), i ∉ z.2.e.puts.map (·.1)) (σ : St) : stp y (stp z σ) = stp z (stp y σ) := by
 refine St.ext' (fun t => ?_) fun i => ?_
 ·rw [stp_s h1, stp_s h2, stp_s h2, stp_s h1]
  by_cases a : y.1.dst = some t
  ·rw [if_pos a, if_neg (h3 t a), if_pos a]
  ·rw [if_neg a]
   by_cases b : z.1.dst = some t
   ·rw [if_pos b, if_pos b]
   ·rw [if_neg b, if_neg b, if_neg a]
 ·rw [stp_h h1, stp_h h2]
  by_cases a : i ∈ y.2.e.puts.map (·.1)
  ·rw [St.puts_h _ (stp y σ) i (h4 i a), stp_h h1]
   exact puts_h_in _ _ _ _ a
  ·rw [St.puts_h _ _ i a, stp_h h2]
   by_cases b : i ∈ z.2.e.puts.map (·.1)
   ·exact puts_h_in _ _ _ _ b
   ·rw [St.puts_h _ _ i b, St.puts_h _ _ i b, stp_h h1, St.puts_h _ _ i a]
theorem stp_comm {y z : Oper × Step} (h : Comm y z) (σ : St) : stp y (stp z σ) = stp z (stp y σ) := by
 obtain ⟨⟨h1, h2⟩, h3, h4⟩ := h
 rw [stp_nod y, stp_nod z, stp_nod z (stp y σ), stp_nod y σ, nod_drops h2, nod_drops h1, drops_drops]
 exact stp_comm0 (y := nod y) (z := nod z) rfl rfl h3 h4 _
theorem foldD_push {D : Nat → Bool} (y : Oper × Step) : ∀ (zs : List (Oper × Step)) (k : Nat) (σ : St), (∀ i z, zs[i]? = some z → D (k + i) = true → Comm y z) → foldD D k zs (stp y σ) = stp y (foldD D k zs σ)
 | [], _, _, _ => rfl
 | z :: l, k, σ, h => by
  simp only [foldD]
  have ih := fun τ => foldD_push (D := D) y l (k + 1) τ fun i z' hz hd => h (i + 1) z' (by simpa using hz) (by rwa [show k + (i + 1) = k + 1 + i from by omega])
  cases hk : D k with
  | false => simp only [Bool.false_eq_true, if_false]; exact ih σ
  | true =>
   simp only [if_true]
   rw [← stp_comm (h 0 z rfl (by simpa using hk)) σ]
   exact ih _
theorem foldD_add {D D' : Nat → Bool} {j : Nat} (hD : ∀ i, i ≠ j → D' i = D i) (h0 : D j = false) (h1 : D' j = true) : ∀ (zs : List (Oper × Step)) (k : Nat) (σ : St) (y : Oper × Step), k ≤ j → zs[j - k]? = some y →
  (∀ i z, zs[i]? = some z → j < k + i → D (k + i) = true → Comm y z) → foldD D' k zs σ = stp y (foldD D k zs σ)
 | [], _, _, _, _, h, _ => by simp at h
 | z :: l, k, σ, y, hk, hy, h => by
  simp only [foldD]
  by_cases e : k = j
  ·subst e
   simp only [Nat.sub_self, List.getElem?_cons_zero, Option.some.injEq] at hy
   subst hy
   rw [if_pos h1, if_neg (by simp [h0]), foldD_congr (D := D') (D' := D) l (k + 1) _ fun i h1 h2 => hD i (by omega)]
   exact foldD_push z l (k + 1) σ fun i z' hz hd => h (i + 1) z' (by simpa using hz) (by omega) (by rwa [show k + (i + 1) = k + 1 + i from by omega])
  ·rw [hD k e]
   have hy' : l[j - (k + 1)]? = some y := by rw [show j - k = (j - (k + 1)) + 1 from by omega] at hy; simpa using hy
   exact foldD_add hD h0 h1 l (k + 1) _ y (by omega) hy' fun i z' hz hlt hd => h (i + 1) z' (by simpa using hz) (by omega) (by rwa [show k + (i + 1) = k + 1 + i from by omega])
end Go.Vw
namespace Go.Vw
open Go Go.RowKit
def disjN : List Nat → List Nat → Bool
 | [], _ => true
 | n :: l, m => !memN n m && disjN l m
theorem disjN_spec : ∀ {l m : List Nat}, disjN l m = true → ∀ i ∈ l, i ∉ m
 | [], _, _, i, hi => by simp at hi
 | n :: l, m, h, i, hi => by
  simp only [disjN, Bool.and_eq_true, Bool.not_eq_true'] at h
  rcases List.mem_cons.1 hi with rfl | hi
  ·intro hm; rw [memN_iff.2 hm] at h; exact absurd h.1 (by simp)
  ·exact disjN_spec h.2 i hi
structure Row where
 dst : Option Nat
 looks : List Nat
 mask : Nat
def maskOf (acc : List Nat) : List Edge → Nat
 | [] => 0
 | e :: es => if Region.binds .any e then maskOf acc es ||| 2 ^ e.on ||| acc.getD e.on 0 else maskOf acc es
def rowsGo (ops : Array Oper) : List Oper → List Nat → List Row
 | [], _ => []
 | o :: l, acc => { dst := o.dst, looks := o.looksAt ops, mask := maskOf acc o.after.toList } :: rowsGo ops l (acc ++ [maskOf acc o.after.toList])
def rowsOf (ops : Array Oper) : List Row := rowsGo ops ops.toList []
theorem maskOf_spec {D : Nat → Bool} {acc : List Nat} (hacc : ∀ k m, acc[k]? = some m → D k = true → ∀ i, m.testBit i = true → D i = true) :
  ∀ {es : List Edge}, (∀ e ∈ es, Region.binds .any e = true → D e.on = true) → ∀ i, (maskOf acc es).testBit i = true → D i = true
 | [], _, i, h => by simp [maskOf] at h
 | e :: es, he, i, h => by
  simp only [maskOf] at h
  split at h
  ·rename_i hb
   simp only [Nat.testBit_or, Bool.or_eq_true] at h
   rcases h with (h | h) | h
   ·exact maskOf_spec hacc (fun e' h' => he e' (List.mem_cons_of_mem _ h')) i h
   ·rw [Nat.testBit_two_pow] at h
    have : e.on = i := by simpa using h
    rw [← this]; exact he e (List.mem_cons_self ..) hb
   ·cases hk : acc[e.on]? with
    | none => simp [List.getD, hk] at h
    | some m =>
     simp [List.getD, hk] at h
     exact hacc e.on m hk (he e (List.mem_cons_self ..) hb) i h
  ·exact maskOf_spec hacc (fun e' h' => he e' (List.mem_cons_of_mem _ h')) i h
def Closed (D : Nat → Bool) (l : List Oper) : Prop := ∀ (j : Nat) (o : Oper), l[j]? = some o → D j = true → ∀ e ∈ o.after.toList, Region.binds .any e = true → D e.on = true
theorem rows_get {ops : Array Oper} : ∀ (l : List Oper) (acc : List Nat) (j : Nat) (r : Row), (rowsGo ops l acc)[j]? = some r → ∃ o, l[j]? = some o ∧ r.dst = o.dst ∧ r.looks = o.looksAt ops
 | [], _, j, r, h => by simp [rowsGo] at h
 | o :: l, acc, 0, r, h => by simp only [rowsGo, List.getElem?_cons_zero, Option.some.injEq] at h; subst h; exact ⟨o, rfl, rfl, rfl⟩
 | o :: l, acc, j + 1, r, h => by simp only [rowsGo, List.getElem?_cons_succ] at h; simpa using rows_get l _ j r h
theorem rows_len {ops : Array Oper} : ∀ (l : List Oper) (acc : List Nat), (rowsGo ops l acc).length = l.length
 | [], _ => rfl
 | o :: l, acc => by simp [rowsGo, rows_len l]
theorem rows_mask {ops : Array Oper} {D : Nat → Bool} : ∀ (l : List Oper) (acc : List Nat),
  (∀ k m, acc[k]? = some m → D k = true → ∀ i, m.testBit i = true → D i = true) →
  (∀ (j : Nat) (o : Oper), l[j]? = some o → D (acc.length + j) = true → ∀ e ∈ o.after.toList, Region.binds .any e = true → D e.on = true) →
  ∀ (j : Nat) (o : Oper) (r : Row), l[j]? = some o → (rowsGo ops l acc)[j]? = some r → (∀ e ∈ o.after.toList, Region.binds .any e = true → D e.on = true) → ∀ i, r.mask.testBit i = true → D i = true
 | [], _, _, _, j, o, r, h, _, _, _, _ => by simp at h
 | o0 :: l, acc, hacc, hc, 0, o, r, h, hr, he, i, hi => by
  simp only [List.getElem?_cons_zero, Option.some.injEq, rowsGo] at h hr
  subst h; subst hr
  exact maskOf_spec hacc he i hi
 | o0 :: l, acc, hacc, hc, j + 1, o, r, h, hr, he, i, hi => by
  simp only [List.getElem?_cons_succ, rowsGo] at h hr
  refine rows_mask l (acc ++ [maskOf acc o0.after.toList]) (fun k m hk hd i' hi' => ?_) (fun j' o' h' hd => hc (j' + 1) o' (by simpa using h') (by simpa [Nat.add_assoc, Nat.add_comm 1] using hd)) j o r h hr he i hi
  rcases Nat.lt_or_ge k acc.length with hl | hl
  ·rw [List.getElem?_append_left hl] at hk; exact hacc k m hk hd i' hi'
  ·rw [List.getElem?_append_right hl] at hk
   have hk0 : k - acc.length = 0 := by
    have := (List.getElem?_eq_some_iff.1 hk).1; simp at this; omega
   rw [hk0] at hk
   simp only [List.getElem?_cons_zero, Option.some.injEq] at hk
   subst hk
   have : k = acc.length := by omega
   subst this
   exact maskOf_spec hacc (hc 0 o0 rfl hd) i' hi'
def apartS (x y : Row) : Bool :=
 (match x.dst with | some d => !memN d y.looks && (match y.dst with | some d' => !Nat.beq d d' | none => true) | none => true) && (match y.dst with | some d => !memN d x.looks | none => true)
def subD : List Nat → List Nat → Bool
 | [], _ => true
 | n :: l, m => memN n m && subD l m
theorem subD_spec : ∀ {l m : List Nat}, subD l m = true → ∀ i ∈ l, i ∈ m
 | [], _, _, i, hi => by simp at hi
 | n :: l, m, h, i, hi => by
  simp only [subD, Bool.and_eq_true] at h
  rcases List.mem_cons.1 hi with rfl | hi
  ·exact memN_iff.1 h.1
  ·exact subD_spec h.2 i hi
def apartM (x y : Mark) : Bool := subD x.dr y.cl && subD y.dr x.cl && disjN x.pt y.rd && disjN y.pt x.rd && disjN x.pt y.pt
def pairs1 (i : Nat) (x : Row) (m : Mark) : List Row → List Mark → Bool
 | y :: l, n :: k => (y.mask.testBit i || (apartS x y && apartM m n)) && pairs1 i x m l k
 | _, _ => true
def pairs : Nat → List Row → List Mark → Bool
 | i, x :: l, m :: k => pairs1 i x m l k && pairs (i + 1) l k
 | _, _, _ => true
theorem pairs1_spec {i : Nat} {x : Row} {m : Mark} : ∀ {l : List Row} {k : List Mark} {j : Nat} {y : Row} {n : Mark}, pairs1 i x m l k = true → l[j]? = some y → k[j]? = some n → y.mask.testBit i = true ∨ apartS x y = true ∧ apartM m n = true
 | [], _, j, y, n, _, h, _ => by simp at h
 | _ :: _, [], j, y, n, _, _, h => by simp at h
 | y0 :: l, n0 :: k, 0, y, n, h, h1, h2 => by
  simp only [List.getElem?_cons_zero, Option.some.injEq] at h1 h2
  subst h1; subst h2
  simp only [pairs1, Bool.and_eq_true, Bool.or_eq_true] at h
  exact h.1
 | y0 :: l, n0 :: k, j + 1, y, n, h, h1, h2 => by
  simp only [List.getElem?_cons_succ] at h1 h2
  simp only [pairs1, Bool.and_eq_true] at h
  exact pairs1_spec h.2 h1 h2
theorem pairs_spec : ∀ {s : Nat} {l : List Row} {k : List Mark} {i j : Nat} {x y : Row} {m n : Mark}, pairs s l k = true → i < j → l[i]? = some x → k[i]? = some m → l[j]? = some y → k[j]? = some n →
  y.mask.testBit (s + i) = true ∨ apartS x y = true ∧ apartM m n = true
 | _, [], _, i, _, _, _, _, _, _, _, h, _, _, _ => by simp at h
 | _, _ :: _, [], i, _, _, _, _, _, _, _, _, h, _, _ => by simp at h
 | s, x0 :: l, m0 :: k, 0, j + 1, x, y, m, n, h, _, h1, h2, h3, h4 => by
  simp only [List.getElem?_cons_zero, Option.some.injEq, List.getElem?_cons_succ] at h1 h2 h3 h4
  subst h1; subst h2
  simp only [pairs, Bool.and_eq_true] at h
  exact pairs1_spec h.1 h3 h4
 | s, x0 :: l, m0 :: k, i + 1, j + 1, x, y, m, n, h, hij, h1, h2, h3, h4 => by
  simp only [List.getElem?_cons_succ] at h1 h2 h3 h4
  simp only [pairs, Bool.and_eq_true] at h
  have := pairs_spec h.2 (by omega : i < j) h1 h2 h3 h4
  rwa [show s + 1 + i = s + (i + 1) from by omega] at this
def chkL (md : Region.Mode) (ops : Array Oper) : List Nat → Nat → Bool
 | [], _ => true
 | i :: l, seen => (match ops[i]? with | some o => o.after.toList.all fun e => !Region.binds md e || seen.testBit e.on | none => false) && chkL md ops l (seen ||| 2 ^ i)
def allIn (L : List Nat) : Nat → Bool
 | 0 => true
 | n + 1 => memN n L && allIn L n
theorem allIn_spec {L : List Nat} : ∀ {n : Nat}, allIn L n = true → ∀ i, i < n → i ∈ L
 | 0, _, i, h => by omega
 | n + 1, h, i, hi => by
  simp only [allIn, Bool.and_eq_true] at h
  rcases Nat.lt_or_ge i n with h' | h'
  ·exact allIn_spec h.2 i h'
  ·have : i = n := by omega
   rw [this]; exact memN_iff.1 h.1
theorem chkL_ready {md : Region.Mode} {ops : Array Oper} {listed : Array Bool} : ∀ {L : List Nat} {seen : Nat}, chkL md ops L seen = true → (∀ i, seen.testBit i = true → listed.getD i false = true) → Region.ready md ops listed = [] →
  (hsz : listed.size = ops.size) → ∀ i ∈ L, i < ops.size → listed.getD i false = true
 | [], _, _, _, _, _, i, hi, _ => by simp at hi
 | j :: L, seen, h, hs, hr, hsz, i, hi, hlt => by
  simp only [chkL, Bool.and_eq_true] at h
  have hj : j < ops.size → listed.getD j false = true := fun hj => by
   cases hl : listed.getD j false with
   | true => rfl
   | false =>
    exfalso
    have hmem : j ∈ Region.ready md ops listed := by
     rw [mem_ready]
     have hjs : j < listed.size := by omega
     refine ⟨by simpa [Array.getD, hjs] using hl, ops[j], by simp [hj], fun e he hb => hs _ ?_⟩
     have h1 := h.1
     simp only [Array.getElem?_eq_getElem hj, List.all_eq_true, Bool.or_eq_true, Bool.not_eq_true'] at h1
     have := h1 e (by simpa using he)
     rcases this with this | this
     ·rw [hb] at this; cases this
     ·exact this
    rw [hr] at hmem; cases hmem
  rcases List.mem_cons.1 hi with rfl | hi
  ·exact hj hlt
  ·have hjs : j < ops.size := by
    rcases Nat.lt_or_ge j ops.size with hjs | hjs
    ·exact hjs
    ·have h1 := h.1
     simp [Array.getElem?_eq_none hjs] at h1
   refine chkL_ready h.2 (fun i' hi' => ?_) hr hsz i hi hlt
   simp only [Nat.testBit_or, Bool.or_eq_true, Nat.testBit_two_pow, decide_eq_true_eq] at hi'
   rcases hi' with hi' | rfl
   ·exact hs _ hi'
   ·exact hj hjs
def topo (ops : Array Oper) (L : List Nat) : Bool :=
 chkL .text ops (List.range ops.size) 0 && chkL .any ops (List.range ops.size) 0 && chkL .gc ops L 0 && allIn L ops.size
theorem topo_ready {md : Region.Mode} {ops : Array Oper} {L : List Nat} (h : topo ops L = true) {listed : Array Bool} (hr : Region.ready md ops listed = []) (hsz : listed.size = ops.size) : ∀ i, i < ops.size → listed.getD i false = true := by
 simp only [topo, Bool.and_eq_true] at h
 obtain ⟨⟨⟨h1, h2⟩, h3⟩, h4⟩ := h
 intro i hi
 cases md with
 | text => exact chkL_ready h1 (by simp) hr hsz i (List.mem_range.2 hi) hi
 | any => exact chkL_ready h2 (by simp) hr hsz i (List.mem_range.2 hi) hi
 | gc => exact chkL_ready h3 (by simp) hr hsz i (allIn_spec h4 i hi) hi
theorem binds_any {md : Region.Mode} {e : Edge} (h : Region.binds .any e = true) : Region.binds md e = true := by
 unfold Region.binds at *
 split <;> simp_all
theorem apart_of {ops : Array Oper} {x y : Oper} {r r' : Row} {s t : Step} (h1 : r.dst = x.dst) (h2 : r.looks = x.looksAt ops) (h3 : r'.dst = y.dst) (h4 : r'.looks = y.looksAt ops) (h : apartS r r' = true) (h' : apartM s.mark t.mark = true) :
  (∀ d, x.dst = some d → d ∉ y.looksAt ops ∧ y.dst ≠ some d) ∧ (∀ d, y.dst = some d → d ∉ x.looksAt ops) ∧ (∀ i ∈ s.e.drops, i ∈ t.c) ∧ (∀ i ∈ t.e.drops, i ∈ s.c) ∧
  (∀ i ∈ s.e.puts.map (·.1), i ∉ t.r ∧ i ∉ t.e.puts.map (·.1)) ∧ ∀ i ∈ t.e.puts.map (·.1), i ∉ s.r := by
 simp only [apartS, h1, h2, h3, h4, Bool.and_eq_true] at h
 simp only [apartM, Step.mark, Bool.and_eq_true] at h'
 obtain ⟨⟨⟨⟨a1, a2⟩, a3⟩, a4⟩, a5⟩ := h'
 refine ⟨fun d hd => ?_, fun d hd => ?_, subD_spec a1, subD_spec a2, fun i hi => ⟨disjN_spec a3 i hi, disjN_spec a5 i hi⟩, disjN_spec a4⟩
 ·rw [hd] at h
  simp only [Bool.and_eq_true, Bool.not_eq_true'] at h
  refine ⟨fun hm => ?_, fun he => ?_⟩
  ·rw [memN_iff.2 hm] at h; exact absurd h.1.1 (by simp)
  ·rw [he] at h; simp at h
 ·rw [hd] at h
  simp only [Bool.and_eq_true, Bool.not_eq_true'] at h
  intro hm
  rw [memN_iff.2 hm] at h; exact absurd h.2 (by simp)
end Go.Vw
namespace Go.Vw
open Go Go.RowKit
section
variable {E : Env} {Γ : Cx} {S : List Nat} {ops : Array Oper} {Q : Exit → Act → World → Prop} {zs : List (Oper × Step)} {σ0 : St}
theorem zs_get (hz : zs.map (·.1) = ops.toList) {j : Nat} {z : Oper × Step} (h : zs[j]? = some z) : ops[j]? = some z.1 ∧ ops.toList[j]? = some z.1 := by
 have : ops.toList[j]? = some z.1 := by rw [← hz]; simp [h]
 exact ⟨by simpa using this, this⟩
theorem apart_at (hz : zs.map (·.1) = ops.toList) (hp : pairs 0 (rowsOf ops) (zs.map (·.2.mark)) = true) {D : Nat → Bool} (hc : Closed D ops.toList) {i j : Nat} {y z : Oper × Step} (hij : i < j) (hy : zs[i]? = some y) (hzj : zs[j]? = some z)
  (hD : D i = false) (hj : ∀ e ∈ z.1.after.toList, Region.binds .any e = true → D e.on = true) :
  ∃ r r' : Row, (r.dst = y.1.dst ∧ r.looks = y.1.looksAt ops) ∧ (r'.dst = z.1.dst ∧ r'.looks = z.1.looksAt ops) ∧ apartS r r' = true ∧ apartM y.2.mark z.2.mark = true := by
 have hlen : (rowsOf ops).length = zs.length := by rw [rowsOf, rows_len, ← hz]; simp
 have hi : i < (rowsOf ops).length := by rw [hlen]; exact (List.getElem?_eq_some_iff.1 hy).1
 have hjl : j < (rowsOf ops).length := by rw [hlen]; exact (List.getElem?_eq_some_iff.1 hzj).1
 have ri := List.getElem?_eq_getElem hi
 have rj := List.getElem?_eq_getElem hjl
 obtain ⟨o, ho, e1, e2⟩ := rows_get _ _ i _ ri
 obtain ⟨o', ho', e3, e4⟩ := rows_get _ _ j _ rj
 rw [(zs_get hz hy).2] at ho; injection ho with ho; subst ho
 rw [(zs_get hz hzj).2] at ho'; injection ho' with ho'; subst ho'
 have hp' := pairs_spec hp hij ri (m := y.2.mark) (by simp [hy]) rj (n := z.2.mark) (by simp [hzj])
 rcases hp' with hp' | ⟨h1, h2⟩
 ·exfalso
  rw [Nat.zero_add] at hp'
  have := rows_mask (D := D) ops.toList [] (by simp) (fun j o h hd => hc j o h (by simpa using hd)) j z.1 _ (zs_get hz hzj).2 rj hj i hp'
  rw [hD] at this; cases this
 ·exact ⟨_, _, ⟨e1, e2⟩, ⟨e3, e4⟩, h1, h2⟩
theorem draw_any (md : Region.Mode) (hP : Γ.P = E.P) (hS : Γ.S = S) (hd : ∀ o ∈ ops, ∀ d, o.dst = some d → d < Γ.n) (hz : zs.map (·.1) = ops.toList) {ds : List (Option Nat)} (hds : ops.toList.map (·.dst) = ds) (hr : Runs E S ds zs σ0) (hp : pairs 0 (rowsOf ops) (zs.map (·.2.mark)) = true) {L : List Nat} (ht : topo ops L = true)
  (hQ : ∀ a w, Sim Γ (zs.foldl (fun σ z => stp z σ) σ0) a w → Q .normal a w) :
  ∀ (fuel : Nat) (U : List Nat) (listed : Array Bool) (a : Act) (w : World), listed.size = ops.size → U.length ≤ fuel → (∀ i, i < ops.size → listed.getD i false = false → i ∈ U) → Closed (fun i => listed.getD i false) ops.toList →
   Sim Γ (foldD (fun i => listed.getD i false) 0 zs σ0) a w → wpAny E.P md ops Q fuel listed a w := by
 have hlz : zs.length = ops.size := by have := congrArg List.length hz; simpa using this
 have hfin : ∀ (listed : Array Bool) a w, (∀ i, i < ops.size → listed.getD i false = true) → Sim Γ (foldD (fun i => listed.getD i false) 0 zs σ0) a w → Q .normal a w := fun listed a w hl hs => by
  rw [foldD_all zs 0 σ0 fun i _ hi => hl i (by omega)] at hs
  exact hQ a w hs
 intro fuel
 induction fuel with
 | zero =>
  intro U listed a w hsz hU hUn hc hs
  have hall : ∀ i, i < ops.size → listed.getD i false = true := fun i hi => by
   cases h : listed.getD i false with
   | true => rfl
   | false => have := hUn i hi h; have h0 : U = [] := List.length_eq_zero_iff.1 (by omega); rw [h0] at this; cases this
  refine ⟨?_, hfin listed a w hall hs⟩
  rw [List.eq_nil_iff_forall_not_mem]
  intro j hj
  obtain ⟨h0, o, ho, _⟩ := mem_ready.1 hj
  have hjs : j < ops.size := (Array.getElem?_eq_some_iff.1 ho).1
  have := hall j hjs
  have hjl : j < listed.size := by omega
  simp [Array.getD, hjl] at h0 this
  rw [this] at h0; cases h0
 | succ fuel ih =>
  intro U listed a w hsz hU hUn hc hs
  refine ⟨fun hre => hfin listed a w (topo_ready ht hre hsz) hs, fun j hj => ?_⟩
  obtain ⟨h0, o, ho, hall⟩ := mem_ready.1 hj
  have hjs : j < ops.size := (Array.getElem?_eq_some_iff.1 ho).1
  have hjl : j < listed.size := by omega
  have hDj : listed.getD j false = false := by simpa [Array.getD, hjl] using h0
  obtain ⟨z, hzj⟩ : ∃ z, zs[j]? = some z := ⟨zs[j], by simp [hlz, hjs]⟩
  have hoz : z.1 = o := by have := (zs_get hz hzj).1; rw [ho] at this; injection this with this; exact this.symm
  have hj' : ∀ e ∈ z.1.after.toList, Region.binds .any e = true → listed.getD e.on false = true := fun e he hb => by
   rw [hoz] at he
   exact hall e (by simpa using he) (binds_any hb)
  let D : Nat → Bool := fun i => listed.getD i false
  let vs : Nat → Prop := fun t => t ∈ z.1.looksAt ops
  let vi : Nat → Prop := fun i => i ∈ z.2.r ∨ i ∈ z.2.e.puts.map (·.1)
  have hlater : ∀ i y, zs[i]? = some y → j < i → D i = true → ∃ r r' : Row, (r.dst = z.1.dst ∧ r.looks = z.1.looksAt ops) ∧ (r'.dst = y.1.dst ∧ r'.looks = y.1.looksAt ops) ∧ apartS r r' = true ∧ apartM z.2.mark y.2.mark = true := fun i y hy hji hDi =>
   apart_at hz hp hc hji hzj hy hDj (hc i y.1 (zs_get hz hy).2 hDi)
  have hstep := runs_at zs 0 σ0 hr j z hzj
  obtain ⟨hguard, hdo, hcl⟩ := hstep
  have hne0 : ∀ i y, zs[i]? = some y → D i ≠ decide (i < j) → ∃ _ _ : Row, ((∀ d, y.1.dst = some d → d ∉ z.1.looksAt ops) ∧ (∀ k ∈ y.2.e.drops, k ∈ z.2.c) ∧ ∀ k ∈ y.2.e.puts.map (·.1), ¬ vi k) := fun i y hy hne => by
   rcases Nat.lt_trichotomy i j with hij | hij | hij
   ·have hDi : D i = false := by
     simp only [hij, decide_true] at hne; simpa using hne
    obtain ⟨r, r', ⟨e1, e2⟩, ⟨e3, e4⟩, h1, h2⟩ := apart_at hz hp hc hij hy hzj hDi hj'
    obtain ⟨b1, b2, b3, b4, b5, b6⟩ := apart_of e1 e2 e3 e4 h1 h2
    exact ⟨r, r', fun d hd => (b1 d hd).1, b3, fun k hk hv => hv.elim (b5 k hk).1 (b5 k hk).2⟩
   ·subst hij
    exact absurd (hDj.trans (by simp)) hne
   ·have hDi : D i = true := by
     simp only [show ¬ i < j from by omega, decide_false] at hne; simpa using hne
    obtain ⟨r, r', ⟨e1, e2⟩, ⟨e3, e4⟩, h1, h2⟩ := hlater i y hy hij hDi
    obtain ⟨b1, b2, b3, b4, b5, b6⟩ := apart_of e1 e2 e3 e4 h1 h2
    exact ⟨r, r', fun d hd => b2 d hd, b4, fun k hk hv => hv.elim (b6 k hk) fun h => (b5 k h).2 hk⟩
  -- what the step looks at is as it was
  have hlook : (∀ t, .tmp t ∈ z.1.op.operands → (foldD D 0 zs σ0).s t = (foldD (fun i => decide (i < 0 + j)) 0 zs σ0).s t) ∧
    (∀ g b d, z.1.guard = some (g, b) → ds[g]? = some (some d) → (foldD D 0 zs σ0).s d = (foldD (fun i => decide (i < 0 + j)) 0 zs σ0).s d) ∧
    (∀ i, i ∈ z.2.r → (foldD D 0 zs σ0).h i = (foldD (fun i => decide (i < 0 + j)) 0 zs σ0).h i) ∧
    ∀ i, i ∈ z.2.e.puts.map (·.1) → (foldD (fun i => decide (i < 0 + j)) 0 zs σ0).h i = none → (foldD D 0 zs σ0).h i = none := by
   have hop : ∀ t, .tmp t ∈ z.1.op.operands → vs t := fun t ht => List.mem_append_left _ (List.mem_filterMap.2 ⟨.tmp t, by simpa using ht, rfl⟩)
   have hgd : ∀ g b d, z.1.guard = some (g, b) → ds[g]? = some (some d) → vs d := fun g b d hg hdd0 => by
    have hdd := dst_at hds hdd0
    show d ∈ z.1.looksAt ops
    simp only [Oper.looksAt, hg, hdd, Option.toList_some, List.mem_append, List.mem_singleton, or_true]
   by_cases hzc : z.2.c = []
   ·have hview : View vs vi (foldD D 0 zs σ0) (foldD (fun i => decide (i < 0 + j)) 0 zs σ0) := by
     refine foldD_view zs 0 (fun i y hy hne => ?_) View.refl
     simp only [Nat.zero_add] at hne
     obtain ⟨_, _, q1, q2, q3⟩ := hne0 i y hy hne
     refine ⟨List.eq_nil_iff_forall_not_mem.2 fun k hk => ?_, fun d hd => q1 d hd, q3⟩
     have := q2 k hk
     rw [hzc] at this; cases this
    exact ⟨fun t ht => hview.s t (hop t ht), fun g b d hg hdd => hview.s d (hgd g b d hg hdd), fun i hi => hview.h i (.inl hi), fun i hi h => (hview.h i (.inr hi)).trans h⟩
   ·obtain ⟨⟨c1, c2⟩, c4, c5, c6⟩ := hcl hzc
    have hvf : VF (some z.2.c) vs (fun i => i ∈ z.2.r) (fun i => i ∈ z.2.e.puts.map (·.1)) (foldD D 0 zs σ0) (foldD (fun i => decide (i < 0 + j)) 0 zs σ0) := by
     refine foldD_vf (fun i hi => (c4 i hi).1) (fun i hi => ?_) zs 0 (fun i y hy hne => ?_) VF.refl
     ·obtain ⟨p, hp1, rfl⟩ := List.mem_map.1 hi
      exact (c2 p hp1).1
     ·simp only [Nat.zero_add] at hne
      obtain ⟨_, _, q1, q2, q3⟩ := hne0 i y hy hne
      exact ⟨q2, q1, fun k hk => ⟨fun hv => q3 k hk (.inl hv), fun hv => q3 k hk (.inr hv)⟩⟩
    refine ⟨fun t ht => ?_, fun g b d hg hdd => ?_, fun i hi => ?_, fun i hi h => (hvf.n i hi).2 h⟩
    ·obtain ⟨p, h1, h2⟩ := c5 t ht
     rw [h1]; exact (hvf.s t (hop t ht) p h2).2 h1
    ·obtain ⟨p, h1, h2⟩ := c6 g b d hg hdd
     rw [h1]; exact (hvf.s d (hgd g b d hg hdd) p h2).2 h1
    ·obtain ⟨_, cs, h1, h2⟩ := c4 i hi
     rw [h1]; exact (hvf.h i hi cs h2).2 h1
  have hguard' : guardT ds (foldD D 0 zs σ0) z.1.guard = some z.2.go := by
   rw [← hguard]
   cases hg : z.1.guard with
   | none => rfl
   | some p =>
    obtain ⟨g, b⟩ := p
    simp only [guardT]
    cases hd : ds[g]? with
    | none => rfl
    | some d =>
     cases d with
     | none => rfl
     | some d => simp only; rw [hlook.2.1 g b d hg hd]
  -- what is done then
  have hnext : ∀ a' w', Sim Γ (stp z (foldD D 0 zs σ0)) a' w' → wpAny E.P md ops Q fuel (listed.setIfInBounds j true) a' w' := fun a' w' hs' => by
   refine ih (U.erase j) _ a' w' (by simpa using hsz) ?_ (fun i hi hf => ?_) ?_ ?_
   ·rw [List.length_erase_of_mem (hUn j hjs hDj)]; omega
   ·by_cases hij : j = i
    ·subst hij
     simp [Array.getD, hjl] at hf
    ·rw [getD_set_ne false hij] at hf
     exact (List.mem_erase_of_ne (Ne.symm hij)).2 (hUn i hi hf)
   ·intro i oi hoi hDi e he hb
    by_cases hij : j = i
    ·subst hij
     have : oi = z.1 := by rw [(zs_get hz hzj).2] at hoi; injection hoi with hoi; exact hoi.symm
     subst this
     exact getD_set_true (hj' e he hb)
    ·have hDi : (listed.setIfInBounds j true).getD i false = true := hDi
     rw [getD_set_ne false hij] at hDi
     exact getD_set_true (hc i oi hoi hDi e he hb)
   ·rw [foldD_add (D := D) (D' := fun i => (listed.setIfInBounds j true).getD i false) (j := j) (fun i hi => getD_set_ne false (Ne.symm hi)) hDj (by simp [Array.getD, hjl]) zs 0 σ0 z (Nat.zero_le _) (by simpa using hzj) ?_]
    ·exact hs'
    ·intro i y hy hlt hDi
     simp only [Nat.zero_add] at hlt hDi
     obtain ⟨r, r', ⟨e1, e2⟩, ⟨e3, e4⟩, h1, h2⟩ := hlater i y hy hlt hDi
     obtain ⟨b1, b2, b3, b4, b5, b6⟩ := apart_of e1 e2 e3 e4 h1 h2
     have hsy := (runs_at zs 0 σ0 hr i y hy).2.2
     refine ⟨⟨?_, ?_⟩, fun d hd => (b1 d hd).2, fun k hk => (b5 k hk).2⟩
     ·by_cases hzc : z.2.c = []
      ·intro k hk
       have := b4 k hk
       rw [hzc] at this; cases this
      ·exact (hcl hzc).1.past fun k hk => b4 k hk
     ·by_cases hyc : y.2.c = []
      ·intro k hk
       have := b3 k hk
       rw [hyc] at this; cases this
      ·exact (hsy hyc).1.past fun k hk => b3 k hk
  obtain ⟨β, hsb⟩ := hs
  have hod : ∀ d, z.1.dst = some d → d < Γ.n := fun d hdd => hd z.1 (Array.mem_of_getElem? (zs_get hz hzj).1) d hdd
  unfold wpOp
  simp only [ho]
  rw [← hoz]
  rw [guardT_wanted hsb hds hguard']
  cases hgo : z.2.go with
  | true =>
   rw [hgo] at hdo
   simp only [if_true] at hdo ⊢
   obtain ⟨hact, hput⟩ := hdo
   left
   refine hact Γ _ β a w _ _ hP (fun x hx => ?_) (fun i hi => hlook.2.2.1 i hi) (fun p hp' hst => ?_) hod hsb hnext
   ·cases x with
    | tmp t => exact hlook.1 t (by simpa using hx)
    | _ => rfl
   ·obtain ⟨q1, q2⟩ := putL_ok hput p hp' hst
    exact ⟨by rw [hS]; exact q1, fun hnr => hlook.2.2.2 p.1 (List.mem_map.2 ⟨p, hp', rfl⟩) (q2 hnr)⟩
  | false =>
   rw [hgo] at hdo
   simp only [Bool.false_eq_true, if_false] at hdo ⊢
   refine hnext _ _ ⟨β, ?_⟩
   have : stp z (foldD D 0 zs σ0) = (foldD D 0 zs σ0).set z.1.dst (.tup []) := by simp [stp, hdo.1, Eff.apply, St.drops, St.puts]
   rw [this]
   exact hsb.skip _ hod
end
section
variable {E : Env} {Γ : Cx} {f : FuncId} {N : Nat} {S : List Nat} {Post : Value → World → Prop} {k k0 rest : List Item} {σ : St}
def drawC (rows : List Row) (tr : List Mark) (p : Prop) : Prop := pairs 0 rows tr.reverse = true ∧ p
@[congr] theorem drawC_congr {rows : List Row} {tr : List Mark} {p q : Prop} (h : p = q) : drawC rows tr p = drawC rows tr q := by rw [h]
theorem schedule_md (m : Bool) (ops : Array Oper) (t : Nat) : ∃ md t', Region.schedule m ops t = Region.linearise md ops t' := by
 unfold Region.schedule
 split
 ·exact ⟨_, _, rfl⟩
 ·split <;> exact ⟨_, _, rfl⟩
end
end Go.Vw
namespace Go.Vw
open Go Go.RowKit
theorem look_of_mem {α : Type} : ∀ {H : List (Nat × α)} {i : Nat}, i ∈ H.map (·.1) → look H i ≠ none
 | [], _, h => by simp at h
 | (j, y) :: H, i, h => by
  simp only [look]
  split
  ·simp
  ·rename_i e
   simp only [List.map_cons, List.mem_cons] at h
   exact look_of_mem (h.resolve_left (Ne.symm e))
theorem look_none {α : Type} : ∀ {H : List (Nat × α)} {i : Nat}, i ∉ H.map (·.1) → look H i = none
 | [], _, _ => rfl
 | (j, y) :: H, i, h => by
  simp only [List.map_cons, List.mem_cons, not_or] at h
  simp only [look]; rw [if_neg (Ne.symm h.1)]; exact look_none h.2
section
variable {E : Env} {Γ : Cx} {f : FuncId} {N : Nat} {S : List Nat} {k k0 rest : List Item} {σ : St} {R : T}
end
end Go.Vw
namespace Go.Vw
open Go Go.RowKit
theorem meets_as {P : Program} {f : FuncId} {E PE : TypeId} (hcall : ∀ args w, (callFunc f args).run P w = .ok (.enter f args) w)
  (hhit : ∀ (e : Int) (t : Addr) (old : Value) (w : World), w.cell? t = some old → w.frozen? t = false → (∀ b cs, Known P b cs → CellsAt w b 0 cs) →
   Calls P f #[.iface E (.int .i64 e), .iface PE (.pointer (some t))] w fun ev w' => ev = .returned (.bool true) ∧ ∃ wa, Keeps (fun _ => False) w wa ∧ w' = wa.setCell t (.int .i64 e)) (i : Nat) (n o : Int) :
  Meets P f [.iface E (.leaf (.int .i64 n)), .iface PE (.addr i 0)] [(i, [.leaf (.int .i64 o)])] [i] (.leaf (.bool true)) [(i, [.leaf (.int .i64 n)])] := by
 refine fun Γ β vs hP hS hn hl hβ hlent hs => .inl ⟨hcall _ _, ?_⟩
 match vs, hl with
 | [v0, v1], _ =>
  obtain ⟨x0, e0, r0⟩ := hs.slot 0 _ rfl
  obtain ⟨x1, e1, r1⟩ := hs.slot 1 _ rfl
  simp only [List.getElem?_toArray, List.getElem?_cons_zero, List.getElem?_cons_succ, Option.some.injEq] at e0 e1
  subst e0; subst e1
  simp only [Rep] at r0 r1
  obtain ⟨_, rfl, rfl⟩ := r0
  obtain ⟨y, rfl, r1⟩ := r1
  cases hb : β i with
  | ph => rw [hb] at r1; exact r1.elim
  | real b ob E' =>
   rw [hb] at r1
   simp only [Nat.add_zero] at r1
   subst r1
   have hid : (⟨fun t => [T.iface E (.leaf (.int .i64 n)), .iface PE (.addr i 0)][t]?, look [(i, [.leaf (.int .i64 o)])]⟩ : St).h i = some [.leaf (.int .i64 o)] := by simp [look]
   obtain ⟨c, el, fr, ws, h1, h2, h3, h4, h5, h6⟩ := obj_open hs hid hb
   simp only [RepL, Rep] at h5
   obtain ⟨_, _, rfl, rfl, rfl⟩ := h5
   have hcell := h6 0 _ rfl
   simp only [Nat.add_zero] at hcell
   simp only [List.length_cons, List.length_nil] at h3
   have hfz := h4.get (i := ob) (by omega)
   refine (hhit n ⟨b, ob, none⟩ _ Γ.w0 hcell hfz fun b cs hk => (hs.known hP hk).2.2).mono ?_
   rintro ev w' ⟨rfl, wa, hka, rfl⟩
   refine ⟨_, rfl, β, ?_⟩
   have hga := hs.grow hka
   have hw := hga.write (new := [.leaf (.int .i64 n)]) (cs' := [.leaf (.int .i64 n)]) (nv := [.int .i64 n]) hid hb 0 (by simp; omega) (by simp [RepL, Rep]) rfl (by simp [idsL, T.ids])
    (fun vs hvs => ⟨[.int .i64 n], by simp [RepL, Rep], fun j u hu => by
     cases j with
     | zero => simpa using hu
     | succ j => simp at hu⟩) (by simp; omega)
   have hw2 := hw.2
   have hset : wa.setCells b (ob + 0) [.int .i64 n] = wa.setCell ⟨b, ob, none⟩ (.int .i64 n) := rfl
   rw [hset] at hw2
   have how : ∀ c, own (retSt (.leaf (.bool true)) (look [(i, [.leaf (.int .i64 n)])])) β c → own (⟨fun t => [T.iface E (.leaf (.int .i64 n)), .iface PE (.addr i 0)][t]?, upd (look [(i, [.leaf (.int .i64 o)])]) i (some [.leaf (.int .i64 n)])⟩ : St) β c := fun c ⟨id, cs, o', E2, q1, q2⟩ => by
    simp only [retSt, look] at q1
    split at q1
    ·rename_i e; subst e; exact ⟨_, cs, o', E2, by simpa [upd] using q1, q2⟩
    ·simp at q1
   have hobj : ∀ id cs, look [(i, [T.leaf (.int .i64 n)])] id = some cs → upd (look [(i, [.leaf (.int .i64 o)])]) i (some [.leaf (.int .i64 n)]) id = some cs := fun id cs q => by
    simp only [look] at q
    split at q
    ·rename_i e; subst e; simpa [upd] using q
    ·simp at q
   have hok : ∀ g c, okOf Γ.X (⟨fun t => [T.iface E (.leaf (.int .i64 n)), .iface PE (.addr i 0)][t]?, upd (look [(i, [.leaf (.int .i64 o)])]) i (some [.leaf (.int .i64 n)])⟩ : St) β (wa.setCell ⟨b, ob, none⟩ (.int .i64 n)) g c → okOf Γ.X (retSt (.leaf (.bool true)) (look [(i, [.leaf (.int .i64 n)])])) β (wa.setCell ⟨b, ob, none⟩ (.int .i64 n)) g c ∧ (wa.setCell ⟨b, ob, none⟩ (.int .i64 n)).heap[c]? = (wa.setCell ⟨b, ob, none⟩ (.int .i64 n)).heap[c]? := fun g c hc => ⟨⟨hc.1, fun ho => hc.2.1 (how c ho), hc.2.2⟩, rfl⟩
   refine ⟨hw2.defers, rfl, hw2.keeps, fun t y e => ?_, fun id cs e => (hw2.obj id cs (hobj id cs e)).mono hok (fun _ _ _ _ => rfl) (fun _ _ => rfl),
    fun i1 i2 c1 c2 b1 o1 E1 o2 E2 q1 q2 => hw2.inj i1 i2 c1 c2 b1 o1 E1 o2 E2 (hobj _ _ q1) (hobj _ _ q2), fun c hc => hw2.ownb c (how c hc), fun t y e => ?_, fun id cs e j hj => ?_, hw2.stab⟩
   ·simp only [retSt] at e
    split at e
    ·rename_i ht; subst ht; injection e with e; subst e; exact ⟨_, rfl, by simp [Rep]⟩
    ·simp at e
   ·simp only [retSt] at e
    split at e
    ·injection e with e; subst e; simp [T.ids]
    ·simp at e
   ·simp only [retSt, look] at e
    split at e
    ·injection e with e; subst e; simp [idsL, T.ids] at hj
    ·simp at e
theorem calls_of_meets {P : Program} {f : FuncId} {A : List T} {R : T} {W : World} {args : Array Value} (hen : ∀ args w, (callFunc f args).run P w = .ok (.enter f args) w) (hM : Meets P f A [] [] R []) (hi : idsL A = [])
  (held : ∀ b cs, Known P b cs → b < W.heap.size ∧ CellsAt W b 0 cs) (hrep : RepL W (fun _ b => b < W.heap.size) A (fun _ => .ph) args.toList) :
  Calls P f args W fun e W' => ∃ v, e = .returned v ∧ Below W.heap.size W W' ∧ ∃ ok β, Rep W' ok R β v := by
 have hno : ∀ b, ¬ own ⟨fun t => A[t]?, look []⟩ (fun _ => .ph) b := fun b ⟨id, cs, o, E, h1, h2⟩ => by simp [look] at h1
 let Γ : Cx := { P := P, n := args.toList.length, w0 := W, lent := own ⟨fun t => A[t]?, look []⟩ (fun _ => .ph), X := (fun _ _ => False), X_old := (fun _ _ h => False.elim h), X_sub := (fun _ h => h), S := [], β0 := (fun _ => .ph), held := fun b cs hk => ⟨(held b cs hk).1, hno b, (held b cs hk).2⟩ }
 have hl : args.toList.length = A.length := hrep.length
 have hs : SimB Γ ⟨fun t => A[t]?, look []⟩ (fun _ => .ph) ⟨args.toList.toArray, []⟩ W := by
  refine ⟨rfl, by simp [Γ], Keeps.refl _ _, fun t x e => ?_, fun id cs e => by simp [look] at e, fun i1 i2 c1 c2 b1 o1 E1 o2 E2 q1 => by simp [look] at q1, fun b hb => (hno b hb).elim, fun t x e i hx => ?_, fun id cs e => by simp [look] at e, fun _ _ => rfl⟩
  ·obtain ⟨v, h1, h2⟩ := hrep.get e
   exact ⟨v, by simpa using h1, Rep.mono (fun g b hb => ⟨⟨hb, hno b, fun h => h⟩, rfl⟩) x _ _ v (fun _ _ => rfl) h2⟩
  ·have := RepL.idsub e i hx
   rw [hi] at this; simp at this
 have := hM Γ (fun _ => .ph) args.toList rfl rfl rfl hl rfl rfl hs
 simp only [Array.toArray_toList] at this
 have this : Calls P f args W fun e w' => ∃ v, e = .returned v ∧ Sim { Γ with n := 1 } (retSt R (look [])) ⟨#[v], []⟩ w' := by
  rcases this with ⟨_, h⟩ | ⟨v, w', h, _⟩
  ·exact h
  ·rw [hen] at h; simp at h
 refine this.mono ?_
 rintro e W' ⟨v, rfl, β, h⟩
 refine ⟨v, rfl, ⟨h.keeps.os, h.keeps.tape, h.keeps.output, h.keeps.size, fun k hk => h.keeps.block k hk (hno k)⟩, ?_⟩
 obtain ⟨x, h1, h2⟩ := h.slot 0 R rfl
 simp only [List.getElem?_toArray, List.getElem?_cons_zero, Option.some.injEq] at h1
 subst h1
 exact ⟨_, _, h2⟩
end Go.Vw
namespace Go.Vw
open Go Go.RowKit
def er (ty : TypeId) (n : Int) : T := if n = 0 then .leaf .nilIface else .iface ty (.leaf (.int .i64 n))
theorem er_zero (ty : TypeId) : er ty 0 = .leaf .nilIface := by simp [er]
theorem er_ne {ty : TypeId} {n : Int} (h : ¬ n = 0) : er ty n = .iface ty (.leaf (.int .i64 n)) := by simp [er, h]
theorem er_ids (ty : TypeId) (n : Int) : (er ty n).ids = [] := by unfold er; split <;> simp [T.ids]
end Go.Vw

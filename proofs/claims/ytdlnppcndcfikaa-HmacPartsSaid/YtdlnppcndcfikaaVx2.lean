/- Regions, reckoned. -/
import Derived.Test.YtdlnppcndcfikaaVx1
namespace Go.Vw
set_option linter.unusedVariables false
set_option linter.unusedSimpArgs false
open Go Go.RowKit

theorem memN_false {n : Nat} {l : List Nat} (h : memN n l = false) : n ∉ l := fun hm => by rw [memN_iff.2 hm] at h; simp at h

/-- An object is forgotten: the slots `ps`, the objects `pg` do not lead there, as is shown. -/
def purgeSX (ps : List Nat) (i : Nat) : List (Nat × T) → List Prop × List (Nat × T)
  | [] => ([], [])
  | (n, t) :: l =>
    match memN n ps with
    | true => ((memN i t.ids = false) :: (purgeSX ps i l).1, (n, t) :: (purgeSX ps i l).2)
    | false => ((purgeSX ps i l).1, (n, t.purge i) :: (purgeSX ps i l).2)
def purgeHX (pg : List Nat) (i : Nat) : List (Nat × List T) → List Prop × List (Nat × List T)
  | [] => ([], [])
  | (n, cs) :: l =>
    match Nat.beq n i with
    | true => purgeHX pg i l
    | false =>
      match memN n pg with
      | true => ((memN i (idsL cs) = false) :: (purgeHX pg i l).1, (n, cs) :: (purgeHX pg i l).2)
      | false => ((purgeHX pg i l).1, (n, purgeL i cs) :: (purgeHX pg i l).2)

theorem purgeSX_eq {ps : List Nat} {i : Nat} : ∀ (L : List (Nat × T)), AllP (purgeSX ps i L).1 → (purgeSX ps i L).2 = purgeS i L
  | [], _ => rfl
  | (n, t) :: l, h => by
    simp only [purgeSX] at h ⊢
    split at h
    · cases h with | cons h1 h2 => simp only [purgeS, purgeSX_eq l h2, T.purge_id t (memN_false h1)]
    · simp only [purgeS, purgeSX_eq l h]
theorem purgeHX_eq {pg : List Nat} {i : Nat} : ∀ (H : List (Nat × List T)), AllP (purgeHX pg i H).1 → (purgeHX pg i H).2 = purgeH i H
  | [], _ => rfl
  | (n, cs) :: l, h => by
    simp only [purgeHX] at h ⊢
    split at h
    · rename_i e
      have e : n = i := by simpa using e
      simp only [purgeH, if_pos e, purgeHX_eq l h]
    · rename_i e
      have e : ¬ n = i := fun e' => by rw [e'] at e; simp at e
      split at h
      · cases h with | cons h1 h2 => simp only [purgeH, if_neg e, purgeHX_eq l h2, purgeL_id cs (memN_false h1)]
      · simp only [purgeH, if_neg e, purgeHX_eq l h]

def drpX (ps pg : List Nat) : List Nat → List (Nat × T) → List (Nat × List T) → List Prop × List (Nat × T) × List (Nat × List T)
  | [], L, H => ([], L, H)
  | i :: is, L, H => ((purgeSX ps i L).1 ++ ((purgeHX pg i H).1 ++ (drpX ps pg is (purgeSX ps i L).2 (purgeHX pg i H).2).1), (drpX ps pg is (purgeSX ps i L).2 (purgeHX pg i H).2).2)

theorem drpX_eq {ps pg : List Nat} : ∀ (is : List Nat) (L : List (Nat × T)) (H : List (Nat × List T)), AllP (drpX ps pg is L H).1 → (stL L H).drops is = stL (drpX ps pg is L H).2.1 (drpX ps pg is L H).2.2
  | [], _, _, _ => rfl
  | i :: is, L, H, h => by
    simp only [drpX] at h ⊢
    obtain ⟨h1, h2⟩ := h.append
    obtain ⟨h2, h3⟩ := h2.append
    rw [St.drops, stL_drop, ← purgeSX_eq L h1, ← purgeHX_eq H h2]
    exact drpX_eq is _ _ h3

def setL (d : Option Nat) (x : T) (L : List (Nat × T)) : List (Nat × T) := match d with | none => L | some d => ins d x L
def putsL : List (Nat × List T) → List (Nat × List T) → List (Nat × List T)
  | [], H => H
  | (i, cs) :: ps, H => putsL ps (ins i cs H)

theorem setL_eq (d : Option Nat) (x : T) (L : List (Nat × T)) (H : List (Nat × List T)) : (stL L H).set d x = stL (setL d x L) H := by
  cases d with
  | none => rfl
  | some d => simp only [setL, stL, St.set, look_ins]
theorem putsL_eq : ∀ (ps : List (Nat × List T)) (L : List (Nat × T)) (H : List (Nat × List T)), (stL L H).puts ps = stL L (putsL ps H)
  | [], _, _ => rfl
  | (i, cs) :: ps, L, H => by
    simp only [St.puts, putsL]
    rw [← putsL_eq ps]
    congr 1
    simp only [stL, look_ins]

def aplX (ps pg : List Nat) (e : Eff) (d : Option Nat) (L : List (Nat × T)) (H : List (Nat × List T)) : List Prop × List (Nat × T) × List (Nat × List T) :=
  ((drpX ps pg e.drops L H).1, setL d e.val (drpX ps pg e.drops L H).2.1, putsL e.puts (drpX ps pg e.drops L H).2.2)

theorem aplX_eq {ps pg : List Nat} {e : Eff} {d : Option Nat} {L : List (Nat × T)} {H : List (Nat × List T)} (h : AllP (aplX ps pg e d L H).1) : e.apply (stL L H) d = stL (aplX ps pg e d L H).2.1 (aplX ps pg e d L H).2.2 := by
  simp only [aplX] at h ⊢
  rw [Eff.apply, drpX_eq _ _ _ h, putsL_eq, setL_eq]

def putB (h : Nat → Option (List T)) (S reads stay : List Nat) : List (Nat × List T) → Bool
  | [] => true
  | (i, _) :: l => (memN i stay || (!memN i S && (memN i reads || (h i).isNone))) && putB h S reads stay l

theorem putB_ok {h : Nat → Option (List T)} {S reads stay : List Nat} : ∀ {l : List (Nat × List T)}, putB h S reads stay l = true → putL h S reads stay l
  | [], _ => trivial
  | (i, cs) :: l, e => by
    simp only [putB, Bool.and_eq_true, Bool.or_eq_true, Bool.not_eq_true', Option.isNone_iff_eq_none] at e
    refine ⟨?_, putB_ok e.2⟩
    rcases e.1 with h1 | ⟨h1, h2⟩
    · exact .inl (memN_iff.1 h1)
    · exact .inr ⟨memN_false h1, h2.imp memN_iff.1 (fun h => h)⟩

/-- What is told beside a region's operations: by their places; the slots and objects that lead to no object that is forgotten. -/
structure Wr where
  ws : List (Nat × Wt) := []
  ps : List Nat := []
  pg : List Nat := []
  fd : Option (List Nat) := none

def wAt (ws : List (Nat × Wt)) (n : Nat) : Wt := match look ws n with | some w => w | none => {}

abbrev Res2 := Option (List Prop × List Mark × List (Nat × T) × List (Nat × List T))

def pre2 (cs : List Prop) (m : Mark) : Res2 → Res2
  | some (cs', ms, L, H) => some (cs ++ cs', m :: ms, L, H)
  | none => none

def flatAt (q : Option (List Nat)) (fo : List Nat) (L : List (Nat × T)) (t : Nat) : Bool := match memN t fo with | true => true | false => (match look L t with | some p => flatT q p | none => false)
def flatOps (q : Option (List Nat)) (fo : List Nat) (L : List (Nat × T)) : List Operand → Bool
  | [] => true
  | .tmp t :: l => flatAt q fo L t && flatOps q fo L l
  | _ :: l => flatOps q fo L l
def flatG (q : Option (List Nat)) (fo : List Nat) (ds : List (Option Nat)) (L : List (Nat × T)) : Option (Nat × Bool) → Bool
  | none => true
  | some (j, _) => match ds[j]? with | some (some d) => flatAt q fo L d | _ => true
def flatR (q : Option (List Nat)) (fl : List Nat) (H : List (Nat × List T)) : List Nat → Bool
  | [] => true
  | i :: l => (match outD q i with | true => (match memN i fl with | true => true | false => (match look H i with | some cs => flatL q cs | none => false)) | false => false) && flatR q fl H l
/-- What is told to be flat: by conditions. -/
def clT (q : Option (List Nat)) (L : List (Nat × T)) (t : Nat) : Prop := match look L t with | some p => flatT q p = true | none => False
def clH (q : Option (List Nat)) (H : List (Nat × List T)) (i : Nat) : Prop := match look H i with | some cs => flatL q cs = true | none => False
def clV (q : Option (List Nat)) (v : T) : Bool → List Prop
  | true => [flatT q v = true]
  | false => []
def clC (q : Option (List Nat)) (w : Wt) (L : List (Nat × T)) (H : List (Nat × List T)) (e : Eff) : List Prop := w.fl.map (clH q H) ++ (w.fo.map (clT q L) ++ clV q e.val w.fv)
theorem allP_map {α : Type} {f : α → Prop} : ∀ {l : List α}, AllP (l.map f) → ∀ i ∈ l, f i
  | [], _, i, h => by cases h
  | j :: l, e, i, h => by
    cases e with
    | cons h1 h2 =>
      rcases List.mem_cons.1 h with rfl | h
      · exact h1
      · exact allP_map h2 i h
theorem clT_ok {q : Option (List Nat)} {L : List (Nat × T)} {t : Nat} (h : clT q L t) : ∃ p, look L t = some p ∧ flatT q p = true := by
  unfold clT at h
  split at h
  · rename_i p e; exact ⟨p, e, h⟩
  · exact h.elim
theorem clH_ok {q : Option (List Nat)} {H : List (Nat × List T)} {i : Nat} (h : clH q H i) : ∃ cs, look H i = some cs ∧ flatL q cs = true := by
  unfold clH at h
  split at h
  · rename_i p e; exact ⟨p, e, h⟩
  · exact h.elim
theorem flatR_ok {q : Option (List Nat)} {fl : List Nat} {H : List (Nat × List T)} (hf : ∀ i ∈ fl, clH q H i) : ∀ {l : List Nat}, flatR q fl H l = true → ∀ i ∈ l, outD q i = true ∧ ∃ cs, look H i = some cs ∧ flatL q cs = true
  | [], _, i, h => by cases h
  | j :: l, e, i, h => by
    simp only [flatR, Bool.and_eq_true] at e
    rcases List.mem_cons.1 h with rfl | h
    · have e := e.1
      split at e
      · rename_i q1
        split at e
        · rename_i q2; exact ⟨q1, clH_ok (hf _ (memN_iff.1 q2))⟩
        · split at e
          · rename_i cs q2; exact ⟨q1, cs, q2, e⟩
          · cases e
      · cases e
    · exact flatR_ok hf e.2 i h
def cleanB (q : Option (List Nat)) (w : Wt) (ds : List (Option Nat)) (L : List (Nat × T)) (H : List (Nat × List T)) (o : Oper) (e : Eff) (r : List Nat) : Bool :=
  e.puts.isEmpty && e.drops.isEmpty && flatR q w.fl H r && (w.fv || flatT q e.val) && flatOps q w.fo L o.op.operands.toList && flatG q w.fo ds L o.guard
theorem flatAt_ok {q : Option (List Nat)} {fo : List Nat} {L : List (Nat × T)} (hf : ∀ t ∈ fo, clT q L t) {t : Nat} (h : flatAt q fo L t = true) : ∃ p, look L t = some p ∧ flatT q p = true := by
  unfold flatAt at h
  split at h
  · rename_i e; exact clT_ok (hf _ (memN_iff.1 e))
  · split at h
    · rename_i p e; exact ⟨p, e, h⟩
    · cases h
theorem flatOps_ok {q : Option (List Nat)} {fo : List Nat} {L : List (Nat × T)} (hf : ∀ t ∈ fo, clT q L t) : ∀ {l : List Operand}, flatOps q fo L l = true → ∀ t, .tmp t ∈ l → ∃ p, look L t = some p ∧ flatT q p = true
  | [], _, t, h => by cases h
  | x :: l, e, t, h => by
    rcases List.mem_cons.1 h with h' | h'
    · subst h'
      simp only [flatOps, Bool.and_eq_true] at e
      exact flatAt_ok hf e.1
    · cases x with
      | tmp u => simp only [flatOps, Bool.and_eq_true] at e; exact flatOps_ok hf e.2 t h'
      | _ => simp only [flatOps] at e; exact flatOps_ok hf e t h'
theorem cleanB_ok {q : Option (List Nat)} {w : Wt} {ds : List (Option Nat)} {L : List (Nat × T)} {H : List (Nat × List T)} {o : Oper} {e : Eff} {r : List Nat} {g c : Bool} (hc : AllP (clC q w L H e)) (h : cleanB q w ds L H o e r = true) : CleanAt q ds (stL L H) (o, ⟨e, r, g, c⟩) := by
  obtain ⟨c1, c2⟩ := hc.append
  obtain ⟨c2, c3⟩ := c2.append
  have c1 := allP_map c1
  have c2 := allP_map c2
  simp only [cleanB, Bool.and_eq_true, List.isEmpty_iff, Bool.or_eq_true] at h
  obtain ⟨⟨⟨⟨⟨h1, h2⟩, h3⟩, h4⟩, h5⟩, h6⟩ := h
  have h4 : flatT q e.val = true := by
    rcases h4 with h4 | h4
    · rw [h4] at c3; cases c3 with | cons h _ => exact h
    · exact h4
  refine ⟨⟨h1, h2, h4⟩, flatR_ok c1 h3, fun t ht => flatOps_ok c2 h5 t (by simpa using ht), fun j b d hg hd => ?_⟩
  have hg : o.guard = some (j, b) := hg
  rw [hg] at h6
  simp only [flatG, hd] at h6
  exact flatAt_ok c2 h6

def execs (E : Env) (S : List Nat) (ds : List (Option Nat)) (R : Wr) : List Oper → Nat → List (Nat × T) → List (Nat × List T) → Res2
  | [], _, L, H => some ([], [], L, H)
  | o :: l, n, L, H =>
    match guardT ds (stL L H) o.guard with
    | none => none
    | some false => pre2 [] ⟨[], [], false, false⟩ (execs E S ds R l (n + 1) (setL o.dst (.tup []) L) H)
    | some true =>
      match exec1 E (stL L H) (wAt R.ws n) o.op with
      | none => none
      | some (cs, e, r) =>
        match putB (look H) S r e.stay e.puts && dropB R.fd e.drops with
        | false => none
        | true => pre2 (cs ++ (clC R.fd (wAt R.ws n) L H e ++ (aplX R.ps R.pg e o.dst L H).1)) ⟨r, e.puts.map (·.1), !e.drops.isEmpty, cleanB R.fd (wAt R.ws n) ds L H o e r⟩ (execs E S ds R l (n + 1) (aplX R.ps R.pg e o.dst L H).2.1 (aplX R.ps R.pg e o.dst L H).2.2)

theorem execs_runs {E : Env} {S : List Nat} {ds : List (Option Nat)} {R : Wr} : ∀ (l : List Oper) (n : Nat) (L : List (Nat × T)) (H : List (Nat × List T)) {cs : List Prop} {ms : List Mark} {L' : List (Nat × T)} {H' : List (Nat × List T)},
    execs E S ds R l n L H = some (cs, ms, L', H') → AllP cs →
    ∃ zs : List (Oper × Step), zs.map (·.1) = l ∧ Runs R.fd E S ds zs (stL L H) ∧ zs.map (·.2.mark) = ms ∧ zs.foldl (fun σ z => stp z σ) (stL L H) = stL L' H'
  | [], n, L, H, cs, ms, L', H', h, _ => by
    simp only [execs, Option.some.injEq, Prod.mk.injEq] at h
    obtain ⟨_, rfl, rfl, rfl⟩ := h
    exact ⟨[], rfl, trivial, rfl, rfl⟩
  | o :: l, n, L, H, cs, ms, L', H', h, hc => by
    have hpre : ∀ {c0 : List Prop} {m : Mark} {x : Res2}, pre2 c0 m x = some (cs, ms, L', H') → ∃ cs' ms', x = some (cs', ms', L', H') ∧ cs = c0 ++ cs' ∧ ms = m :: ms' := by
      intro c0 m x e
      unfold pre2 at e
      split at e
      · simp only [Option.some.injEq, Prod.mk.injEq] at e
        obtain ⟨rfl, rfl, rfl, rfl⟩ := e
        exact ⟨_, _, rfl, rfl, rfl⟩
      · simp at e
    simp only [execs] at h
    split at h
    · simp at h
    · rename_i hg
      obtain ⟨cs', ms', h1, rfl, rfl⟩ := hpre h
      obtain ⟨zs, z1, z2, z3, z4⟩ := execs_runs l (n + 1) _ _ h1 (by simpa using hc)
      have e0 : stp (o, (⟨{}, [], false, false⟩ : Step)) (stL L H) = stL (setL o.dst (.tup []) L) H := by
        rw [← setL_eq]; rfl
      refine ⟨(o, ⟨{}, [], false, false⟩) :: zs, by simp [z1], ⟨⟨hg, by simp, by simp, fun _ h => by cases h⟩, by rw [e0]; exact z2⟩, by rw [List.map_cons, z3]; rfl, by rw [List.foldl_cons, e0]; exact z4⟩
    · rename_i hg
      split at h
      · simp at h
      · rename_i c1 e r hx
        split at h
        · simp at h
        · rename_i hp
          simp only [Bool.and_eq_true] at hp
          obtain ⟨cs', ms', h1, rfl, rfl⟩ := hpre h
          obtain ⟨hc1, hc2⟩ := hc.append
          obtain ⟨hc1, hc3⟩ := hc1.append
          obtain ⟨hcC, hc3⟩ := hc3.append
          obtain ⟨zs, z1, z2, z3, z4⟩ := execs_runs l (n + 1) _ _ h1 hc2
          have e0 : stp (o, (⟨e, r, true, cleanB R.fd (wAt R.ws n) ds L H o e r⟩ : Step)) (stL L H) = stL (aplX R.ps R.pg e o.dst L H).2.1 (aplX R.ps R.pg e o.dst L H).2.2 := by
            rw [← aplX_eq hc3]; rfl
          refine ⟨(o, ⟨e, r, true, cleanB R.fd (wAt R.ws n) ds L H o e r⟩) :: zs, by simp [z1], ⟨⟨hg, ?_⟩, by rw [e0]; exact z2⟩, by rw [List.map_cons, z3]; rfl, by rw [List.foldl_cons, e0]; exact z4⟩
          simp only [if_true]
          exact ⟨⟨exec1_ok _ _ _ hx hc1, putB_ok hp.1⟩, fun hcl => cleanB_ok hcC hcl, dropB_ok hp.2⟩

theorem runs_sound {q : Option (List Nat)} {E : Env} {Γ : Cx} {S : List Nat} {all : Array Oper} {ds : List (Option Nat)} (hds : all.toList.map (·.dst) = ds) {Q : Exit → Act → World → Prop} (hP : Γ.P = E.P) (hS : Γ.S = S) (hd : ∀ o ∈ all, ∀ d, o.dst = some d → d < Γ.n) :
    ∀ (zs : List (Oper × Step)) (s : Nat), (∀ j, (zs.map (·.1))[j]? = all[s + j]?) → ∀ (σ : St), Runs q E S ds zs σ → ∀ (a : Act) (w : World), Sim Γ σ a w → (∀ a w, Sim Γ (zs.foldl (fun σ z => stp z σ) σ) a w → Q .normal a w) →
      wpOps E.P all Q (List.range' s zs.length) a w
  | [], s, _, σ, _, a, w, hs, hK => by simpa [wpOps] using hK a w hs
  | z :: l, s, hl, σ, hr, a, w, ⟨β, hs⟩, hK => by
    have ho : all[s]? = some z.1 := by have := hl 0; simpa using this.symm
    have hod : ∀ d, z.1.dst = some d → d < Γ.n := hd z.1 (Array.mem_of_getElem? ho)
    have ih := runs_sound (q := q) hds (E := E) (S := S) (Q := Q) hP hS hd l (s + 1) (fun j => by have := hl (j + 1); simpa [Nat.add_assoc, Nat.add_comm 1 j] using this)
    simp only [List.length_cons, List.range'_succ, wpOps, ho]
    obtain ⟨⟨hg, hstep, _, _⟩, hr⟩ := hr
    rw [guardT_wanted hs hds hg]
    cases hz : z.2.go with
    | true =>
      rw [hz, if_pos rfl] at hstep
      obtain ⟨hact, hput⟩ := hstep
      rw [if_pos rfl]
      left
      exact hact Γ σ β a w _ _ hP (fun _ _ => rfl) (fun _ _ => rfl) (by rw [hS]; exact putL_ok hput) hod hs (fun a' w' hs' => ih _ hr _ _ hs' hK)
    | false =>
      rw [hz] at hstep
      simp only [Bool.false_eq_true, if_false] at hstep
      simp only [Bool.false_eq_true, if_false]
      have e0 : stp z σ = σ.set z.1.dst (.tup []) := by simp only [stp, hstep.1]; rfl
      refine ih (stp z σ) hr _ _ ⟨β, ?_⟩ hK
      rw [e0]
      exact hs.skip z.1.dst hod

abbrev Res3 := Option (List Prop × List (Nat × T) × List (Nat × List T))

/-- Objects are forgotten, and the slots that are no longer looked at. -/
def fin3 (ps pg fs ns : List Nat) : Res2 → Res3
  | some (cs, _, L, H) => some (cs ++ (drpX ps pg fs L H).1, keepL (drpX ps pg fs L H).2.1 ns, (drpX ps pg fs L H).2.2)
  | none => none

/-- A region that is not drawn. `fs`: the objects that are forgotten behind it; `ns`: the slots that stay. -/
def execR (E : Env) (N : Nat) (S : List Nat) (ops : Array Oper) (R : Wr) (fs ns : List Nat) (L : List (Nat × T)) (H : List (Nat × List T)) : Res3 :=
  match dstB N ops.toList with
  | true => fin3 R.ps R.pg fs ns (execs E S (ops.toList.map (·.dst)) R ops.toList 0 L H)
  | false => none

def drawB (ops : Array Oper) (ord : List Nat) : Res2 → Bool
  | some (_, ms, _, _) => topo ops ord && pairs 0 (rowsOf ops) ms
  | none => false

/-- A region that is drawn. -/
def execD (E : Env) (N : Nat) (S : List Nat) (ops : Array Oper) (ord : List Nat) (R : Wr) (fs ns : List Nat) (L : List (Nat × T)) (H : List (Nat × List T)) : Res3 :=
  match dstB N ops.toList && drawB ops ord (execs E S (ops.toList.map (·.dst)) R ops.toList 0 L H) with
  | true => fin3 R.ps R.pg fs ns (execs E S (ops.toList.map (·.dst)) R ops.toList 0 L H)
  | false => none

section
variable {E : Env} {Γ : Cx} {f : FuncId} {N : Nat} {S : List Nat} {Post : Value → World → Prop} {k k0 rest : List Item}

theorem Go.drops (is : List Nat) {σ : St} (h : Go E Γ f N S Post k (σ.drops is)) : Go E Γ f N S Post k σ :=
  fun h1 h2 h3 a w ⟨β, hsb⟩ => h h1 h2 h3 a w ⟨β, hsb.drops is⟩

theorem fin3_ok {ps pg fs ns : List Nat} {x : Res2} {cs : List Prop} {L' : List (Nat × T)} {H' : List (Nat × List T)} (h : fin3 ps pg fs ns x = some (cs, L', H')) (hc : AllP cs) :
    ∃ c0 ms L1 H1, x = some (c0, ms, L1, H1) ∧ AllP c0 ∧ (Go E Γ f N S Post k (stL L' H') → Go E Γ f N S Post k (stL L1 H1)) := by
  unfold fin3 at h
  split at h
  · rename_i c0 ms L1 H1
    simp only [Option.some.injEq, Prod.mk.injEq] at h
    obtain ⟨rfl, rfl, rfl⟩ := h
    obtain ⟨h1, h2⟩ := hc.append
    refine ⟨_, _, _, _, rfl, h1, fun hg => Go.drops fs ?_⟩
    rw [drpX_eq fs L1 H1 h2]
    exact Go.keep ns hg
  · simp at h

theorem Go.rx {id : Nat} {ops : Array Oper} (n : Nat) (R : Wr) (fs ns : List Nat) {L : List (Nat × T)} {H : List (Nat × List T)} (cs : List Prop) (L' : List (Nat × T)) (H' : List (Nat × List T)) (hk : k = k0) (he : normI n k0 = .code (.region id ops false) :: rest)
    (hx : execR E N S ops R fs ns L H = some (cs, L', H')) (hc : AllP cs) (HH : ∀ k', k' = rest → Go E Γ f N S Post k' (stL L' H')) : Go E Γ f N S Post k (stL L H) := by
  subst hk
  refine Go.norm n ?_
  rw [he]
  unfold execR at hx
  split at hx
  · rename_i hd
    obtain ⟨c0, ms, L1, H1, hx, hc0, hgo⟩ := fin3_ok (E := E) (Γ := Γ) (f := f) (N := N) (S := S) (Post := Post) (k := rest) hx hc
    have hgo := hgo (HH _ rfl)
    obtain ⟨zs, z1, z2, z3, z4⟩ := execs_runs _ _ _ _ hx hc0
    intro h1 h2 h3 a w hs cs' b hb hkd
    have hlen : zs.length = ops.size := by have := congrArg List.length z1; simpa using this
    have hw := runs_sound (E := E) (Γ := Γ) (S := S) (all := ops) rfl (Q := fun e a' w' => e = .normal ∧ Sim Γ (stL L1 H1) a' w') h1 h3 (fun o ho d hod => by rw [h2]; exact dstB_ok _ hd o (by simpa using ho) d hod) zs 0 (fun j => by rw [z1]; simp) _ z2 a w hs (fun a' w' hs' => ⟨rfl, by rw [← z4]; exact hs'⟩)
    rw [hlen, ← List.range_eq_range'] at hw
    obtain ⟨e, a', w', ⟨rfl, hs'⟩, harr⟩ := wp_region (id := id) hw b rest cs'
    obtain ⟨v, w'', fr, p, st, r⟩ := hgo h1 h2 h3 a' w' hs' cs' b hb hkd
    exact ⟨v, w'', fr, p, Steps.trans harr st, r⟩
  · simp at hx

theorem Go.dx {id : Nat} {ops : Array Oper} (n : Nat) (ord : List Nat) (R : Wr) (fs ns : List Nat) {L : List (Nat × T)} {H : List (Nat × List T)} (cs : List Prop) (L' : List (Nat × T)) (H' : List (Nat × List T)) (hk : k = k0) (he : normI n k0 = .code (.region id ops true) :: rest)
    (hx : execD E N S ops ord R fs ns L H = some (cs, L', H')) (hc : AllP cs) (HH : ∀ k', k' = rest → Go E Γ f N S Post k' (stL L' H')) : Go E Γ f N S Post k (stL L H) := by
  subst hk
  refine Go.norm n ?_
  rw [he]
  unfold execD at hx
  split at hx
  · rename_i hd
    simp only [Bool.and_eq_true] at hd
    obtain ⟨hd, hdr⟩ := hd
    obtain ⟨c0, ms, L1, H1, hx, hc0, hgo⟩ := fin3_ok (E := E) (Γ := Γ) (f := f) (N := N) (S := S) (Post := Post) (k := rest) hx hc
    have hgo := hgo (HH _ rfl)
    rw [hx] at hdr
    simp only [drawB, Bool.and_eq_true] at hdr
    obtain ⟨ht, hp⟩ := hdr
    obtain ⟨zs, hz, hr, z3, z4⟩ := execs_runs _ _ _ _ hx hc0
    rw [← z3] at hp
    intro h1 h2 h3 a w hs cs' b hb hkd
    obtain ⟨β, hsb⟩ := hs
    have hs' : Sim Γ (stL L H) a { w with drawn := w.drawn + 1 } := ⟨β, hsb.grow (Keeps.drew _ w)⟩
    have hw : ∀ t, wpOps E.P ops (fun e a' w' => e = .normal ∧ Sim Γ (zs.foldl (fun σ z => stp z σ) (stL L H)) a' w') (Region.schedule (E.P.follows .mixedOrders) ops t) a { w with drawn := w.drawn + 1 } := fun t => by
      obtain ⟨md, t', e⟩ := schedule_md (E.P.follows .mixedOrders) ops t
      rw [e]
      refine wpAny_sound ops.size t' _ a _ ?_
      refine draw_any md h1 h3 (fun o ho d hod => by rw [h2]; exact dstB_ok _ hd o (by simpa using ho) d hod) hz rfl hr hp ht (fun a' w' hs => ⟨rfl, hs⟩) ops.size (List.range ops.size) _ a _ (by simp) (by simp) (fun i hi _ => List.mem_range.2 hi) ?_ ?_
      · intro i o ho hDi
        simp only [Array.getD_eq_getD_getElem?, Array.getElem?_replicate] at hDi
        split at hDi <;> simp at hDi
      · rw [foldD_none _ _ _ fun i _ => by
          simp only [Array.getD_eq_getD_getElem?, Array.getElem?_replicate]; split <;> simp]
        exact hs'
    obtain ⟨e, a', w', ⟨rfl, hs'⟩, harr⟩ := wp_region_draw (id := id) hw b rest cs'
    rw [z4] at hs'
    obtain ⟨v, w'', fr, p, st, r⟩ := hgo h1 h2 h3 a' w' hs' cs' b hb hkd
    exact ⟨v, w'', fr, p, Steps.trans harr st, r⟩
  · simp at hx
end
end Go.Vw

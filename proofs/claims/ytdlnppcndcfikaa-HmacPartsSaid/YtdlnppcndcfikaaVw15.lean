/- The rule of a region whose order is drawn. -/
import Derived.Test.YtdlnppcndcfikaaVw14
namespace Go.Vw
set_option linter.unusedVariables false
set_option linter.unusedSimpArgs false
open Go Go.RowKit

theorem ev_of_view {vs vi : Nat → Prop} {σ τ : St} (h : View vs vi σ τ) {x : Operand} (hx : ∀ t, x = .tmp t → vs t) : σ.ev x = τ.ev x := by
  cases x with
  | tmp t => exact h.s t (hx t rfl)
  | _ => rfl

theorem guardT_view {vs vi : Nat → Prop} {ds : List (Option Nat)} {σ τ : St} (h : View vs vi σ τ) {g : Option (Nat × Bool)} (hg : ∀ j b d, g = some (j, b) → ds[j]? = some (some d) → vs d) : guardT ds σ g = guardT ds τ g := by
  cases g with
  | none => rfl
  | some p =>
    obtain ⟨j, b⟩ := p
    simp only [guardT]
    cases hd : ds[j]? with
    | none => rfl
    | some d =>
      cases d with
      | none => rfl
      | some d => simp only; rw [h.s d (hg j b d rfl hd)]

section
variable {E : Env} {Γ : Cx} {S : List Nat} {ops : Array Oper} {Q : Exit → Act → World → Prop} {zs : List (Oper × Step)} {σ0 : St}

theorem zs_get (hz : zs.map (·.1) = ops.toList) {j : Nat} {z : Oper × Step} (h : zs[j]? = some z) : ops[j]? = some z.1 ∧ ops.toList[j]? = some z.1 := by
  have : ops.toList[j]? = some z.1 := by rw [← hz]; simp [h]
  exact ⟨by simpa using this, this⟩

theorem apart_at (hz : zs.map (·.1) = ops.toList) (hp : pairs 0 (rowsOf ops) (zs.map (·.2.mark)) = true) {D : Nat → Bool} (hc : Closed D ops.toList) {i j : Nat} {y z : Oper × Step} (hij : i < j) (hy : zs[i]? = some y) (hzj : zs[j]? = some z)
    (hD : D i = false) (hj : ∀ e ∈ z.1.after.toList, Region.binds .any e = true → D e.on = true) :
    ∃ r r' : Row, (r.dst = y.1.dst ∧ r.looks = y.1.looksAt ops) ∧ (r'.dst = z.1.dst ∧ r'.looks = z.1.looksAt ops) ∧ apartS r r' = true ∧ apartM y.2.mark z.2.mark = true := by
  have hlen : (rowsOf ops).length = zs.length := by rw [rowsOf, rows_len, ← hz]; simp
  have hi : i < (rowsOf ops).length := by rw [hlen]; exact (List.getElem?_eq_some_iff.1 hy).1
  have hjl : j < (rowsOf ops).length := by rw [hlen]; exact (List.getElem?_eq_some_iff.1 hzj).1
  have ri := List.getElem?_eq_getElem hi
  have rj := List.getElem?_eq_getElem hjl
  obtain ⟨o, ho, e1, e2⟩ := rows_get _ _ i _ ri
  obtain ⟨o', ho', e3, e4⟩ := rows_get _ _ j _ rj
  rw [(zs_get hz hy).2] at ho; injection ho with ho; subst ho
  rw [(zs_get hz hzj).2] at ho'; injection ho' with ho'; subst ho'
  have hp' := pairs_spec hp hij ri (m := y.2.mark) (by simp [hy]) rj (n := z.2.mark) (by simp [hzj])
  rcases hp' with hp' | ⟨h1, h2⟩
  · exfalso
    rw [Nat.zero_add] at hp'
    have := rows_mask (D := D) ops.toList [] (by simp) (fun j o h hd => hc j o h (by simpa using hd)) j z.1 _ (zs_get hz hzj).2 rj hj i hp'
    rw [hD] at this; cases this
  · exact ⟨_, _, ⟨e1, e2⟩, ⟨e3, e4⟩, h1, h2⟩

theorem draw_any (md : Region.Mode) (hP : Γ.P = E.P) (hS : Γ.S = S) (hd : ∀ o ∈ ops, ∀ d, o.dst = some d → d < Γ.n) (hz : zs.map (·.1) = ops.toList) {ds : List (Option Nat)} (hds : ops.toList.map (·.dst) = ds) {q : Option (List Nat)} (hr : Runs q E S ds zs σ0) (hp : pairs 0 (rowsOf ops) (zs.map (·.2.mark)) = true) {L : List Nat} (ht : topo ops L = true)
    (hQ : ∀ a w, Sim Γ (zs.foldl (fun σ z => stp z σ) σ0) a w → Q .normal a w) :
    ∀ (fuel : Nat) (U : List Nat) (listed : Array Bool) (a : Act) (w : World), listed.size = ops.size → U.length ≤ fuel → (∀ i, i < ops.size → listed.getD i false = false → i ∈ U) → Closed (fun i => listed.getD i false) ops.toList →
      Sim Γ (foldD (fun i => listed.getD i false) 0 zs σ0) a w → wpAny E.P md ops Q fuel listed a w := by
  have hlz : zs.length = ops.size := by have := congrArg List.length hz; simpa using this
  have hfin : ∀ (listed : Array Bool) a w, (∀ i, i < ops.size → listed.getD i false = true) → Sim Γ (foldD (fun i => listed.getD i false) 0 zs σ0) a w → Q .normal a w := fun listed a w hl hs => by
    rw [foldD_all zs 0 σ0 fun i _ hi => hl i (by omega)] at hs
    exact hQ a w hs
  intro fuel
  induction fuel with
  | zero =>
    intro U listed a w hsz hU hUn hc hs
    have hall : ∀ i, i < ops.size → listed.getD i false = true := fun i hi => by
      cases h : listed.getD i false with
      | true => rfl
      | false => have := hUn i hi h; have h0 : U = [] := List.length_eq_zero_iff.1 (by omega); rw [h0] at this; cases this
    refine ⟨?_, hfin listed a w hall hs⟩
    rw [List.eq_nil_iff_forall_not_mem]
    intro j hj
    obtain ⟨h0, o, ho, _⟩ := mem_ready.1 hj
    have hjs : j < ops.size := (Array.getElem?_eq_some_iff.1 ho).1
    have := hall j hjs
    have hjl : j < listed.size := by omega
    simp [Array.getD, hjl] at h0 this
    rw [this] at h0; cases h0
  | succ fuel ih =>
    intro U listed a w hsz hU hUn hc hs
    refine ⟨fun hre => hfin listed a w (topo_ready ht hre hsz) hs, fun j hj => ?_⟩
    obtain ⟨h0, o, ho, hall⟩ := mem_ready.1 hj
    have hjs : j < ops.size := (Array.getElem?_eq_some_iff.1 ho).1
    have hjl : j < listed.size := by omega
    have hDj : listed.getD j false = false := by simpa [Array.getD, hjl] using h0
    obtain ⟨z, hzj⟩ : ∃ z, zs[j]? = some z := ⟨zs[j], by simp [hlz, hjs]⟩
    have hoz : z.1 = o := by have := (zs_get hz hzj).1; rw [ho] at this; injection this with this; exact this.symm
    have hj' : ∀ e ∈ z.1.after.toList, Region.binds .any e = true → listed.getD e.on false = true := fun e he hb => by
      rw [hoz] at he
      exact hall e (by simpa using he) (binds_any hb)
    let D : Nat → Bool := fun i => listed.getD i false
    let vs : Nat → Prop := fun t => t ∈ z.1.looksAt ops
    let vi : Nat → Prop := fun i => i ∈ z.2.r ∨ i ∈ z.2.e.puts.map (·.1)
    have hlater : ∀ i y, zs[i]? = some y → j < i → D i = true → ∃ r r' : Row, (r.dst = z.1.dst ∧ r.looks = z.1.looksAt ops) ∧ (r'.dst = y.1.dst ∧ r'.looks = y.1.looksAt ops) ∧ apartS r r' = true ∧ apartM z.2.mark y.2.mark = true := fun i y hy hji hDi =>
      apart_at hz hp hc hji hzj hy hDj (hc i y.1 (zs_get hz hy).2 hDi)
    have hstep := runs_at zs 0 σ0 hr j z hzj
    obtain ⟨hguard, hdo, hcl, hdp⟩ := hstep
    have hne0 : ∀ i y, zs[i]? = some y → D i ≠ decide (i < j) → ∃ _ _ : Row, ((∀ d, y.1.dst = some d → d ∉ z.1.looksAt ops) ∧ (y.2.e.drops = [] ∨ z.2.c = true) ∧ ∀ k ∈ y.2.e.puts.map (·.1), ¬ vi k) := fun i y hy hne => by
      rcases Nat.lt_trichotomy i j with hij | hij | hij
      · have hDi : D i = false := by
          simp only [hij, decide_true] at hne; simpa using hne
        obtain ⟨r, r', ⟨e1, e2⟩, ⟨e3, e4⟩, h1, h2⟩ := apart_at hz hp hc hij hy hzj hDi hj'
        obtain ⟨b1, b2, b3, b4, b5, b6⟩ := apart_of e1 e2 e3 e4 h1 h2
        exact ⟨r, r', fun d hd => (b1 d hd).1, b3, fun k hk hv => hv.elim (b5 k hk).1 (b5 k hk).2⟩
      · subst hij
        exact absurd (hDj.trans (by simp)) hne
      · have hDi : D i = true := by
          simp only [show ¬ i < j from by omega, decide_false] at hne; simpa using hne
        obtain ⟨r, r', ⟨e1, e2⟩, ⟨e3, e4⟩, h1, h2⟩ := hlater i y hy hij hDi
        obtain ⟨b1, b2, b3, b4, b5, b6⟩ := apart_of e1 e2 e3 e4 h1 h2
        exact ⟨r, r', fun d hd => b2 d hd, b4, fun k hk hv => hv.elim (b6 k hk) fun h => (b5 k h).2 hk⟩
    -- what the step looks at is as it was
    have hlook : (∀ t, .tmp t ∈ z.1.op.operands → (foldD D 0 zs σ0).s t = (foldD (fun i => decide (i < 0 + j)) 0 zs σ0).s t) ∧
        (∀ g b d, z.1.guard = some (g, b) → ds[g]? = some (some d) → (foldD D 0 zs σ0).s d = (foldD (fun i => decide (i < 0 + j)) 0 zs σ0).s d) ∧
        ∀ i, vi i → (foldD D 0 zs σ0).h i = (foldD (fun i => decide (i < 0 + j)) 0 zs σ0).h i := by
      have hop : ∀ t, .tmp t ∈ z.1.op.operands → vs t := fun t ht => List.mem_append_left _ (List.mem_filterMap.2 ⟨.tmp t, by simpa using ht, rfl⟩)
      have hgd : ∀ g b d, z.1.guard = some (g, b) → ds[g]? = some (some d) → vs d := fun g b d hg hdd0 => by
        have hdd := dst_at hds hdd0
        show d ∈ z.1.looksAt ops
        simp only [Oper.looksAt, hg, hdd, Option.toList_some, List.mem_append, List.mem_singleton, or_true]
      cases hzc : z.2.c with
      | true =>
        obtain ⟨⟨c1, c2, c3⟩, c4, c5, c6⟩ := hcl hzc
        have hvf : VF q vs (fun i => i ∈ z.2.r) (foldD D 0 zs σ0) (foldD (fun i => decide (i < 0 + j)) 0 zs σ0) := by
          refine foldD_vf (fun i hi => (c4 i hi).1) zs 0 (fun i y hy => (runs_at zs 0 σ0 hr i y hy).2.2.2) (fun i y hy hne => ?_) VF.refl
          simp only [Nat.zero_add] at hne
          obtain ⟨_, _, q1, _, q3⟩ := hne0 i y hy hne
          exact ⟨q1, fun k hk hv => q3 k hk (.inl hv)⟩
        refine ⟨fun t ht => ?_, fun g b d hg hdd => ?_, fun i hi => ?_⟩
        · obtain ⟨p, h1, h2⟩ := c5 t ht
          rw [h1]; exact (hvf.s t (hop t ht) p h2).2 h1
        · obtain ⟨p, h1, h2⟩ := c6 g b d hg hdd
          rw [h1]; exact (hvf.s d (hgd g b d hg hdd) p h2).2 h1
        · rcases hi with hi | hi
          · obtain ⟨_, cs, h1, h2⟩ := c4 i hi
            rw [h1]; exact (hvf.h i hi cs h2).2 h1
          · rw [c1] at hi; cases hi
      | false =>
        have hview : View vs vi (foldD D 0 zs σ0) (foldD (fun i => decide (i < 0 + j)) 0 zs σ0) := by
          refine foldD_view zs 0 (fun i y hy hne => ?_) View.refl
          simp only [Nat.zero_add] at hne
          obtain ⟨_, _, q1, q2, q3⟩ := hne0 i y hy hne
          exact ⟨q2.resolve_right (by rw [hzc]; simp), fun d hd => q1 d hd, q3⟩
        exact ⟨fun t ht => hview.s t (hop t ht), fun g b d hg hdd => hview.s d (hgd g b d hg hdd), fun i hi => hview.h i hi⟩
    have hguard' : guardT ds (foldD D 0 zs σ0) z.1.guard = some z.2.go := by
      rw [← hguard]
      cases hg : z.1.guard with
      | none => rfl
      | some p =>
        obtain ⟨g, b⟩ := p
        simp only [guardT]
        cases hd : ds[g]? with
        | none => rfl
        | some d =>
          cases d with
          | none => rfl
          | some d => simp only; rw [hlook.2.1 g b d hg hd]
    -- what is done then
    have hnext : ∀ a' w', Sim Γ (stp z (foldD D 0 zs σ0)) a' w' → wpAny E.P md ops Q fuel (listed.setIfInBounds j true) a' w' := fun a' w' hs' => by
      refine ih (U.erase j) _ a' w' (by simpa using hsz) ?_ (fun i hi hf => ?_) ?_ ?_
      · rw [List.length_erase_of_mem (hUn j hjs hDj)]; omega
      · by_cases hij : j = i
        · subst hij
          simp [Array.getD, hjl] at hf
        · rw [getD_set_ne false hij] at hf
          exact (List.mem_erase_of_ne (Ne.symm hij)).2 (hUn i hi hf)
      · intro i oi hoi hDi e he hb
        by_cases hij : j = i
        · subst hij
          have : oi = z.1 := by rw [(zs_get hz hzj).2] at hoi; injection hoi with hoi; exact hoi.symm
          subst this
          exact getD_set_true (hj' e he hb)
        · have hDi : (listed.setIfInBounds j true).getD i false = true := hDi
          rw [getD_set_ne false hij] at hDi
          exact getD_set_true (hc i oi hoi hDi e he hb)
      · rw [foldD_add (q := q) (D := D) (D' := fun i => (listed.setIfInBounds j true).getD i false) (j := j) (fun i hi => getD_set_ne false (Ne.symm hi)) hDj (by simp [Array.getD, hjl]) zs 0 σ0 z (Nat.zero_le _) (by simpa using hzj) ?_]
        · exact hs'
        · intro i y hy hlt hDi
          simp only [Nat.zero_add] at hlt hDi
          obtain ⟨r, r', ⟨e1, e2⟩, ⟨e3, e4⟩, h1, h2⟩ := hlater i y hy hlt hDi
          obtain ⟨b1, b2, b3, b4, b5, b6⟩ := apart_of e1 e2 e3 e4 h1 h2
          have hsy := (runs_at zs 0 σ0 hr i y hy).2.2.1
          have hsd := (runs_at zs 0 σ0 hr i y hy).2.2.2
          refine ⟨?_, fun d hd => (b1 d hd).2, fun k hk => (b5 k hk).2⟩
          rcases b3 with b3 | b3
          · rcases b4 with b4 | b4
            · exact .inl ⟨b3, b4⟩
            · exact .inr (.inl ⟨(hcl b4).1, hsd⟩)
          · exact .inr (.inr ⟨(hsy b3).1, hdp⟩)
    obtain ⟨β, hsb⟩ := hs
    have hod : ∀ d, z.1.dst = some d → d < Γ.n := fun d hdd => hd z.1 (Array.mem_of_getElem? (zs_get hz hzj).1) d hdd
    unfold wpOp
    simp only [ho]
    rw [← hoz]
    rw [guardT_wanted hsb hds hguard']
    cases hgo : z.2.go with
    | true =>
      rw [hgo] at hdo
      simp only [if_true] at hdo ⊢
      obtain ⟨hact, hput⟩ := hdo
      left
      refine hact Γ _ β a w _ _ hP (fun x hx => ?_) (fun i hi => hlook.2.2 i (.inl hi)) (fun p hp' hst => ?_) hod hsb hnext
      · cases x with
        | tmp t => exact hlook.1 t (by simpa using hx)
        | _ => rfl
      · obtain ⟨q1, q2⟩ := putL_ok hput p hp' hst
        exact ⟨by rw [hS]; exact q1, fun hnr => (hlook.2.2 p.1 (.inr (List.mem_map.2 ⟨p, hp', rfl⟩))).trans (q2 hnr)⟩
    | false =>
      rw [hgo] at hdo
      simp only [Bool.false_eq_true, if_false] at hdo ⊢
      refine hnext _ _ ⟨β, ?_⟩
      have : stp z (foldD D 0 zs σ0) = (foldD D 0 zs σ0).set z.1.dst (.tup []) := by simp [stp, hdo.1, Eff.apply, St.drops, St.puts]
      rw [this]
      exact hsb.skip _ hod
end

section
variable {E : Env} {Γ : Cx} {f : FuncId} {N : Nat} {S : List Nat} {Post : Value → World → Prop} {k k0 rest : List Item} {σ : St}

/-- The rows may go in any order. -/
def drawC (rows : List Row) (tr : List Mark) (p : Prop) : Prop := pairs 0 rows tr.reverse = true ∧ p
@[congr] theorem drawC_congr {rows : List Row} {tr : List Mark} {p q : Prop} (h : p = q) : drawC rows tr p = drawC rows tr q := by rw [h]

theorem schedule_md (m : Bool) (ops : Array Oper) (t : Nat) : ∃ md t', Region.schedule m ops t = Region.linearise md ops t' := by
  unfold Region.schedule
  split
  · exact ⟨_, _, rfl⟩
  · split <;> exact ⟨_, _, rfl⟩

/-- A region whose order is drawn. -/
theorem Go.draw {id : Nat} {ops : Array Oper} (n : Nat) {rows : List Row} (ds : List (Option Nat)) (L : List Nat) (hk : k = k0) (he : normI n k0 = .code (.region id ops true) :: rest) (hd : dstB N ops.toList = true) (hds : ops.toList.map (·.dst) = ds) (hrows : rowsOf ops = rows) (ht : topo ops L = true)
    (H : ∀ k', k' = rest → opsT E S ds (fun tr σ' => drawC rows tr (Go E Γ f N S Post k' σ')) ops.toList [] σ) : Go E Γ f N S Post k σ := by
  subst hk; subst hrows
  refine Go.norm n ?_
  rw [he]
  intro h1 h2 h3 a w hs cs b hb hkd
  obtain ⟨zs, hz, hr, hp, hgo⟩ := opsT_runs _ _ _ (H rest rfl)
  rw [List.append_nil, List.reverse_reverse] at hp
  obtain ⟨β, hsb⟩ := hs
  have hs' : Sim Γ σ a { w with drawn := w.drawn + 1 } := ⟨β, hsb.grow (Keeps.drew _ w)⟩
  have hw : ∀ t, wpOps E.P ops (fun e a' w' => e = .normal ∧ Sim Γ (zs.foldl (fun σ z => stp z σ) σ) a' w') (Region.schedule (E.P.follows .mixedOrders) ops t) a { w with drawn := w.drawn + 1 } := fun t => by
    obtain ⟨md, t', e⟩ := schedule_md (E.P.follows .mixedOrders) ops t
    rw [e]
    refine wpAny_sound ops.size t' _ a _ ?_
    refine draw_any md h1 h3 (fun o ho d hod => by rw [h2]; exact dstB_ok _ hd o (by simpa using ho) d hod) hz hds hr hp ht (fun a' w' hs => ⟨rfl, hs⟩) ops.size (List.range ops.size) _ a _ (by simp) (by simp) (fun i hi _ => List.mem_range.2 hi) ?_ ?_
    · intro i o ho hDi
      simp only [Array.getD_eq_getD_getElem?, Array.getElem?_replicate] at hDi
      split at hDi <;> simp at hDi
    · rw [foldD_none _ _ _ fun i _ => by
        simp only [Array.getD_eq_getD_getElem?, Array.getElem?_replicate]; split <;> simp]
      exact hs'
  obtain ⟨e, a', w', ⟨rfl, hs'⟩, harr⟩ := wp_region_draw (id := id) hw b rest cs
  obtain ⟨v, w'', fr, p, st, r⟩ := hgo h1 h2 h3 a' w' hs' cs b hb hkd
  exact ⟨v, w'', fr, p, Steps.trans harr st, r⟩
end
end Go.Vw

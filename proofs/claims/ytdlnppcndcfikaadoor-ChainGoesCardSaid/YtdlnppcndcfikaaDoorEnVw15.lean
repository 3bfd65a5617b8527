import Derived.Test.YtdlnppcndcfikaaDoorEnVw11
import Derived.Carry
import Derived.Laws.StructEq
import Derived.ChangeKeysEq
import Derived.Laws.Cover3
set_option linter.unusedVariables false
set_option linter.unusedSimpArgs false
namespace Go.Vw
open Go Go.RowKit
theorem ev_of_view {vs vi : Nat → Prop} {σ τ : St} (h : View vs vi σ τ) {x : Operand} (hx : ∀ t, x = .tmp t → vs t) : σ.ev x = τ.ev x := by
  cases x with
  | tmp t => exact h.s t (hx t rfl)
  | _ => rfl
theorem guardT_view {vs vi : Nat → Prop} {ds : List (Option Nat)} {σ τ : St} (h : View vs vi σ τ) {g : Option (Nat × Bool)} (hg : ∀ j b d, g = some (j, b) → ds[j]? = some (some d) → vs d) : guardT ds σ g = guardT ds τ g := by
  cases g with
  | none => rfl
  | some p =>
    obtain ⟨j, b⟩ := p
    simp only [guardT]
    cases hd : ds[j]? with
    | none => rfl
    | some d =>
      cases d with
      | none => rfl
      | some d => simp only; rw [h.s d (hg j b d rfl hd)]
section
variable {E : Env} {Γ : Cx} {S : List Nat} {ops : Array Oper} {Q : Exit → Act → World → Prop} {zs : List (Oper × Step)} {σ0 : St}
theorem zs_get (hz : zs.map (·.1) = ops.toList) {j : Nat} {z : Oper × Step} (h : zs[j]? = some z) : ops[j]? = some z.1 ∧ ops.toList[j]? = some z.1 := by
  have : ops.toList[j]? = some z.1 := by rw [← hz]; simp [h]
  exact ⟨by simpa using this, this⟩
theorem apart_at (hz : zs.map (·.1) = ops.toList) (hp : pairs 0 (rowsOf ops) (zs.map (·.2.mark)) = true) {D : Nat → Bool} (hc : Closed D ops.toList) {i j : Nat} {y z : Oper × Step} (hij : i < j) (hy : zs[i]? = some y) (hzj : zs[j]? = some z)
    (hD : D i = false) (hj : ∀ e ∈ z.1.after.toList, Region.binds .any e = true → D e.on = true) :
    ∃ r r' : Row, (r.dst = y.1.dst ∧ r.looks = y.1.looksAt ops) ∧ (r'.dst = z.1.dst ∧ r'.looks = z.1.looksAt ops) ∧ apartS r r' = true ∧ apartM y.2.mark z.2.mark = true := by
  have hlen : (rowsOf ops).length = zs.length := by rw [rowsOf, rows_len, ← hz]; simp
  have hi : i < (rowsOf ops).length := by rw [hlen]; exact (List.getElem?_eq_some_iff.1 hy).1
  have hjl : j < (rowsOf ops).length := by rw [hlen]; exact (List.getElem?_eq_some_iff.1 hzj).1
  have ri := List.getElem?_eq_getElem hi
  have rj := List.getElem?_eq_getElem hjl
  obtain ⟨o, ho, e1, e2⟩ := rows_get _ _ i _ ri
  obtain ⟨o', ho', e3, e4⟩ := rows_get _ _ j _ rj
  rw [(zs_get hz hy).2] at ho; injection ho with ho; subst ho
  rw [(zs_get hz hzj).2] at ho'; injection ho' with ho'; subst ho'
  have hp' := pairs_spec hp hij ri (m := y.2.mark) (by simp [hy]) rj (n := z.2.mark) (by simp [hzj])
  rcases hp' with hp' | ⟨h1, h2⟩
  · exfalso
    rw [Nat.zero_add] at hp'
    have := rows_mask (D := D) ops.toList [] (by simp) (fun j o h hd => hc j o h (by simpa using hd)) j z.1 _ (zs_get hz hzj).2 rj hj i hp'
    rw [hD] at this; cases this
  · exact ⟨_, _, ⟨e1, e2⟩, ⟨e3, e4⟩, h1, h2⟩
theorem draw_any (md : Region.Mode) (hP : Γ.P = E.P) (hS : Γ.S = S) (hd : ∀ o ∈ ops, ∀ d, o.dst = some d → d < Γ.n) (hz : zs.map (·.1) = ops.toList) {ds : List (Option Nat)} (hds : ops.toList.map (·.dst) = ds) (hr : Runs E S ds zs σ0) (hp : pairs 0 (rowsOf ops) (zs.map (·.2.mark)) = true) {L : List Nat} (ht : topo ops L = true)
    (hQ : ∀ a w, Sim Γ (zs.foldl (fun σ z => stp z σ) σ0) a w → Q .normal a w) :
    ∀ (fuel : Nat) (U : List Nat) (listed : Array Bool) (a : Act) (w : World), listed.size = ops.size → U.length ≤ fuel → (∀ i, i < ops.size → listed.getD i false = false → i ∈ U) → Closed (fun i => listed.getD i false) ops.toList →
      Sim Γ (foldD (fun i => listed.getD i false) 0 zs σ0) a w → wpAny E.P md ops Q fuel listed a w := by
  have hlz : zs.length = ops.size := by have := congrArg List.length hz; simpa using this
  have hfin : ∀ (listed : Array Bool) a w, (∀ i, i < ops.size → listed.getD i false = true) → Sim Γ (foldD (fun i => listed.getD i false) 0 zs σ0) a w → Q .normal a w := fun listed a w hl hs => by
    rw [foldD_all zs 0 σ0 fun i _ hi => hl i (by omega)] at hs
    exact hQ a w hs
  intro fuel
  induction fuel with
  | zero =>
    intro U listed a w hsz hU hUn hc hs
    have hall : ∀ i, i < ops.size → listed.getD i false = true := fun i hi => by
      cases h : listed.getD i false with
      | true => rfl
      | false => have := hUn i hi h; have h0 : U = [] := List.length_eq_zero_iff.1 (by omega); rw [h0] at this; cases this
    refine ⟨?_, hfin listed a w hall hs⟩
    rw [List.eq_nil_iff_forall_not_mem]
    intro j hj
    obtain ⟨h0, o, ho, _⟩ := mem_ready.1 hj
    have hjs : j < ops.size := (Array.getElem?_eq_some_iff.1 ho).1
    have := hall j hjs
    have hjl : j < listed.size := by omega
    simp [Array.getD, hjl] at h0 this
    rw [this] at h0; cases h0
  | succ fuel ih =>
    intro U listed a w hsz hU hUn hc hs
    refine ⟨fun hre => hfin listed a w (topo_ready ht hre hsz) hs, fun j hj => ?_⟩
    obtain ⟨h0, o, ho, hall⟩ := mem_ready.1 hj
    have hjs : j < ops.size := (Array.getElem?_eq_some_iff.1 ho).1
    have hjl : j < listed.size := by omega
    have hDj : listed.getD j false = false := by simpa [Array.getD, hjl] using h0
    obtain ⟨z, hzj⟩ : ∃ z, zs[j]? = some z := ⟨zs[j], by simp [hlz, hjs]⟩
    have hoz : z.1 = o := by have := (zs_get hz hzj).1; rw [ho] at this; injection this with this; exact this.symm
    have hj' : ∀ e ∈ z.1.after.toList, Region.binds .any e = true → listed.getD e.on false = true := fun e he hb => by
      rw [hoz] at he
      exact hall e (by simpa using he) (binds_any hb)
    let D : Nat → Bool := fun i => listed.getD i false
    let vs : Nat → Prop := fun t => t ∈ z.1.looksAt ops
    let vi : Nat → Prop := fun i => i ∈ z.2.r ∨ i ∈ z.2.e.puts.map (·.1)
    have hlater : ∀ i y, zs[i]? = some y → j < i → D i = true → ∃ r r' : Row, (r.dst = z.1.dst ∧ r.looks = z.1.looksAt ops) ∧ (r'.dst = y.1.dst ∧ r'.looks = y.1.looksAt ops) ∧ apartS r r' = true ∧ apartM z.2.mark y.2.mark = true := fun i y hy hji hDi =>
      apart_at hz hp hc hji hzj hy hDj (hc i y.1 (zs_get hz hy).2 hDi)
    have hstep := runs_at zs 0 σ0 hr j z hzj
    obtain ⟨hguard, hdo, hcl⟩ := hstep
    have hne0 : ∀ i y, zs[i]? = some y → D i ≠ decide (i < j) → ∃ _ _ : Row, ((∀ d, y.1.dst = some d → d ∉ z.1.looksAt ops) ∧ (∀ k ∈ y.2.e.drops, k ∈ z.2.c) ∧ ∀ k ∈ y.2.e.puts.map (·.1), ¬ vi k) := fun i y hy hne => by
      rcases Nat.lt_trichotomy i j with hij | hij | hij
      · have hDi : D i = false := by
          simp only [hij, decide_true] at hne; simpa using hne
        obtain ⟨r, r', ⟨e1, e2⟩, ⟨e3, e4⟩, h1, h2⟩ := apart_at hz hp hc hij hy hzj hDi hj'
        obtain ⟨b1, b2, b3, b4, b5, b6⟩ := apart_of e1 e2 e3 e4 h1 h2
        exact ⟨r, r', fun d hd => (b1 d hd).1, b3, fun k hk hv => hv.elim (b5 k hk).1 (b5 k hk).2⟩
      · subst hij
        exact absurd (hDj.trans (by simp)) hne
      · have hDi : D i = true := by
          simp only [show ¬ i < j from by omega, decide_false] at hne; simpa using hne
        obtain ⟨r, r', ⟨e1, e2⟩, ⟨e3, e4⟩, h1, h2⟩ := hlater i y hy hij hDi
        obtain ⟨b1, b2, b3, b4, b5, b6⟩ := apart_of e1 e2 e3 e4 h1 h2
        exact ⟨r, r', fun d hd => b2 d hd, b4, fun k hk hv => hv.elim (b6 k hk) fun h => (b5 k h).2 hk⟩
    -- what the step looks at is as it was
    have hlook : (∀ t, .tmp t ∈ z.1.op.operands → (foldD D 0 zs σ0).s t = (foldD (fun i => decide (i < 0 + j)) 0 zs σ0).s t) ∧
        (∀ g b d, z.1.guard = some (g, b) → ds[g]? = some (some d) → (foldD D 0 zs σ0).s d = (foldD (fun i => decide (i < 0 + j)) 0 zs σ0).s d) ∧
        (∀ i, i ∈ z.2.r → (foldD D 0 zs σ0).h i = (foldD (fun i => decide (i < 0 + j)) 0 zs σ0).h i) ∧
        ∀ i, i ∈ z.2.e.puts.map (·.1) → (foldD (fun i => decide (i < 0 + j)) 0 zs σ0).h i = none → (foldD D 0 zs σ0).h i = none := by
      have hop : ∀ t, .tmp t ∈ z.1.op.operands → vs t := fun t ht => List.mem_append_left _ (List.mem_filterMap.2 ⟨.tmp t, by simpa using ht, rfl⟩)
      have hgd : ∀ g b d, z.1.guard = some (g, b) → ds[g]? = some (some d) → vs d := fun g b d hg hdd0 => by
        have hdd := dst_at hds hdd0
        show d ∈ z.1.looksAt ops
        simp only [Oper.looksAt, hg, hdd, Option.toList_some, List.mem_append, List.mem_singleton, or_true]
      by_cases hzc : z.2.c = []
      · have hview : View vs vi (foldD D 0 zs σ0) (foldD (fun i => decide (i < 0 + j)) 0 zs σ0) := by
          refine foldD_view zs 0 (fun i y hy hne => ?_) View.refl
          simp only [Nat.zero_add] at hne
          obtain ⟨_, _, q1, q2, q3⟩ := hne0 i y hy hne
          refine ⟨List.eq_nil_iff_forall_not_mem.2 fun k hk => ?_, fun d hd => q1 d hd, q3⟩
          have := q2 k hk
          rw [hzc] at this; cases this
        exact ⟨fun t ht => hview.s t (hop t ht), fun g b d hg hdd => hview.s d (hgd g b d hg hdd), fun i hi => hview.h i (.inl hi), fun i hi h => (hview.h i (.inr hi)).trans h⟩
      · obtain ⟨⟨c1, c2⟩, c4, c5, c6⟩ := hcl hzc
        have hvf : VF (some z.2.c) vs (fun i => i ∈ z.2.r) (fun i => i ∈ z.2.e.puts.map (·.1)) (foldD D 0 zs σ0) (foldD (fun i => decide (i < 0 + j)) 0 zs σ0) := by
          refine foldD_vf (fun i hi => (c4 i hi).1) (fun i hi => ?_) zs 0 (fun i y hy hne => ?_) VF.refl
          · obtain ⟨p, hp1, rfl⟩ := List.mem_map.1 hi
            exact (c2 p hp1).1
          · simp only [Nat.zero_add] at hne
            obtain ⟨_, _, q1, q2, q3⟩ := hne0 i y hy hne
            exact ⟨q2, q1, fun k hk => ⟨fun hv => q3 k hk (.inl hv), fun hv => q3 k hk (.inr hv)⟩⟩
        refine ⟨fun t ht => ?_, fun g b d hg hdd => ?_, fun i hi => ?_, fun i hi h => (hvf.n i hi).2 h⟩
        · obtain ⟨p, h1, h2⟩ := c5 t ht
          rw [h1]; exact (hvf.s t (hop t ht) p h2).2 h1
        · obtain ⟨p, h1, h2⟩ := c6 g b d hg hdd
          rw [h1]; exact (hvf.s d (hgd g b d hg hdd) p h2).2 h1
        · obtain ⟨_, cs, h1, h2⟩ := c4 i hi
          rw [h1]; exact (hvf.h i hi cs h2).2 h1
    have hguard' : guardT ds (foldD D 0 zs σ0) z.1.guard = some z.2.go := by
      rw [← hguard]
      cases hg : z.1.guard with
      | none => rfl
      | some p =>
        obtain ⟨g, b⟩ := p
        simp only [guardT]
        cases hd : ds[g]? with
        | none => rfl
        | some d =>
          cases d with
          | none => rfl
          | some d => simp only; rw [hlook.2.1 g b d hg hd]
    -- what is done then
    have hnext : ∀ a' w', Sim Γ (stp z (foldD D 0 zs σ0)) a' w' → wpAny E.P md ops Q fuel (listed.setIfInBounds j true) a' w' := fun a' w' hs' => by
      refine ih (U.erase j) _ a' w' (by simpa using hsz) ?_ (fun i hi hf => ?_) ?_ ?_
      · rw [List.length_erase_of_mem (hUn j hjs hDj)]; omega
      · by_cases hij : j = i
        · subst hij
          simp [Array.getD, hjl] at hf
        · rw [getD_set_ne false hij] at hf
          exact (List.mem_erase_of_ne (Ne.symm hij)).2 (hUn i hi hf)
      · intro i oi hoi hDi e he hb
        by_cases hij : j = i
        · subst hij
          have : oi = z.1 := by rw [(zs_get hz hzj).2] at hoi; injection hoi with hoi; exact hoi.symm
          subst this
          exact getD_set_true (hj' e he hb)
        · have hDi : (listed.setIfInBounds j true).getD i false = true := hDi
          rw [getD_set_ne false hij] at hDi
          exact getD_set_true (hc i oi hoi hDi e he hb)
      · rw [foldD_add (D := D) (D' := fun i => (listed.setIfInBounds j true).getD i false) (j := j) (fun i hi => getD_set_ne false (Ne.symm hi)) hDj (by simp [Array.getD, hjl]) zs 0 σ0 z (Nat.zero_le _) (by simpa using hzj) ?_]
        · exact hs'
        · intro i y hy hlt hDi
          simp only [Nat.zero_add] at hlt hDi
          obtain ⟨r, r', ⟨e1, e2⟩, ⟨e3, e4⟩, h1, h2⟩ := hlater i y hy hlt hDi
          obtain ⟨b1, b2, b3, b4, b5, b6⟩ := apart_of e1 e2 e3 e4 h1 h2
          have hsy := (runs_at zs 0 σ0 hr i y hy).2.2
          refine ⟨⟨?_, ?_⟩, fun d hd => (b1 d hd).2, fun k hk => (b5 k hk).2⟩
          · by_cases hzc : z.2.c = []
            · intro k hk
              have := b4 k hk
              rw [hzc] at this; cases this
            · exact (hcl hzc).1.past fun k hk => b4 k hk
          · by_cases hyc : y.2.c = []
            · intro k hk
              have := b3 k hk
              rw [hyc] at this; cases this
            · exact (hsy hyc).1.past fun k hk => b3 k hk
    obtain ⟨β, hsb⟩ := hs
    have hod : ∀ d, z.1.dst = some d → d < Γ.n := fun d hdd => hd z.1 (Array.mem_of_getElem? (zs_get hz hzj).1) d hdd
    unfold wpOp
    simp only [ho]
    rw [← hoz]
    rw [guardT_wanted hsb hds hguard']
    cases hgo : z.2.go with
    | true =>
      rw [hgo] at hdo
      simp only [if_true] at hdo ⊢
      obtain ⟨hact, hput⟩ := hdo
      left
      refine hact Γ _ β a w _ _ hP (fun x hx => ?_) (fun i hi => hlook.2.2.1 i hi) (fun p hp' hst => ?_) hod hsb hnext
      · cases x with
        | tmp t => exact hlook.1 t (by simpa using hx)
        | _ => rfl
      · obtain ⟨q1, q2⟩ := putL_ok hput p hp' hst
        exact ⟨by rw [hS]; exact q1, fun hnr => hlook.2.2.2 p.1 (List.mem_map.2 ⟨p, hp', rfl⟩) (q2 hnr)⟩
    | false =>
      rw [hgo] at hdo
      simp only [Bool.false_eq_true, if_false] at hdo ⊢
      refine hnext _ _ ⟨β, ?_⟩
      have : stp z (foldD D 0 zs σ0) = (foldD D 0 zs σ0).set z.1.dst (.tup []) := by simp [stp, hdo.1, Eff.apply, St.drops, St.puts]
      rw [this]
      exact hsb.skip _ hod
end
section
variable {E : Env} {Γ : Cx} {f : FuncId} {N : Nat} {S : List Nat} {Post : Value → World → Prop} {k k0 rest : List Item} {σ : St}
def drawC (rows : List Row) (tr : List Mark) (p : Prop) : Prop := pairs 0 rows tr.reverse = true ∧ p
@[congr] theorem drawC_congr {rows : List Row} {tr : List Mark} {p q : Prop} (h : p = q) : drawC rows tr p = drawC rows tr q := by rw [h]
theorem schedule_md (m : Bool) (ops : Array Oper) (t : Nat) : ∃ md t', Region.schedule m ops t = Region.linearise md ops t' := by
  unfold Region.schedule
  split
  · exact ⟨_, _, rfl⟩
  · split <;> exact ⟨_, _, rfl⟩
theorem Go.draw {id : Nat} {ops : Array Oper} (n : Nat) {rows : List Row} (ds : List (Option Nat)) (L : List Nat) (hk : k = k0) (he : normI n k0 = .code (.region id ops true) :: rest) (hd : dstB N ops.toList = true) (hds : ops.toList.map (·.dst) = ds) (hrows : rowsOf ops = rows) (ht : topo ops L = true)
    (H : ∀ k', k' = rest → opsT E S ds (fun tr σ' => drawC rows tr (Go E Γ f N S Post k' σ')) ops.toList [] σ) : Go E Γ f N S Post k σ := by
  subst hk; subst hrows
  refine Go.norm n ?_
  rw [he]
  intro h1 h2 h3 a w hs cs b hb hkd
  obtain ⟨zs, hz, hr, hp, hgo⟩ := opsT_runs _ _ _ (H rest rfl)
  rw [List.append_nil, List.reverse_reverse] at hp
  obtain ⟨β, hsb⟩ := hs
  have hs' : Sim Γ σ a { w with drawn := w.drawn + 1 } := ⟨β, hsb.grow (Keeps.drew _ w)⟩
  have hw : ∀ t, wpOps E.P ops (fun e a' w' => e = .normal ∧ Sim Γ (zs.foldl (fun σ z => stp z σ) σ) a' w') (Region.schedule (E.P.follows .mixedOrders) ops t) a { w with drawn := w.drawn + 1 } := fun t => by
    obtain ⟨md, t', e⟩ := schedule_md (E.P.follows .mixedOrders) ops t
    rw [e]
    refine wpAny_sound ops.size t' _ a _ ?_
    refine draw_any md h1 h3 (fun o ho d hod => by rw [h2]; exact dstB_ok _ hd o (by simpa using ho) d hod) hz hds hr hp ht (fun a' w' hs => ⟨rfl, hs⟩) ops.size (List.range ops.size) _ a _ (by simp) (by simp) (fun i hi _ => List.mem_range.2 hi) ?_ ?_
    · intro i o ho hDi
      simp only [Array.getD_eq_getD_getElem?, Array.getElem?_replicate] at hDi
      split at hDi <;> simp at hDi
    · rw [foldD_none _ _ _ fun i _ => by
        simp only [Array.getD_eq_getD_getElem?, Array.getElem?_replicate]; split <;> simp]
      exact hs'
  obtain ⟨e, a', w', ⟨rfl, hs'⟩, harr⟩ := wp_region_draw (id := id) hw b rest cs
  obtain ⟨v, w'', fr, p, st, r⟩ := hgo h1 h2 h3 a' w' hs' cs b hb hkd
  exact ⟨v, w'', fr, p, Steps.trans harr st, r⟩
end
end Go.Vw
namespace Go.Vw
open Go Go.RowKit
theorem callC_pure {P : Program} {σ : St} {op : Op} {dst : Option Nat} {K : Eff → List Nat → Prop} {f : FuncId} {A : List T} {R : T} {xs : Array Operand} {ts : Array TypeId} (hM : Meets P f A [] [] R [])
    (ho : op = .call { callee := .value (.func f), args := xs, argTypes := ts }) (hA : evL σ.ev xs.toList = some A) (hi : idsL A = []) (k : K { val := R } []) : callC P σ op dst K := by
  refine ⟨_, _, fun o ho' _ => acts_call (S := []) (M := []) (AV := A) hM (ho'.trans ho) rfl rfl hA (by simp [snapL_nil]) (snapOkL_nil _ _) (by simp [look]) (by simp [look]) (by simp [hi]) (by simp) (.inl rfl) rfl (by simp) (by simp), ?_⟩
  simpa [notStay] using k
theorem look_memq {α : Type} : ∀ {H : List (Nat × α)} {i : Nat} {x : α}, look H i = some x → (i, x) ∈ H
  | [], _, _, h => by simp [look] at h
  | (j, y) :: H, i, x, h => by
    simp only [look] at h
    split at h
    · rename_i e; subst e; injection h with h; subst h; exact List.mem_cons_self ..
    · exact List.mem_cons_of_mem _ (look_memq h)
theorem look_of_mem {α : Type} : ∀ {H : List (Nat × α)} {i : Nat}, i ∈ H.map (·.1) → look H i ≠ none
  | [], _, h => by simp at h
  | (j, y) :: H, i, h => by
    simp only [look]
    split
    · simp
    · rename_i e
      simp only [List.map_cons, List.mem_cons] at h
      exact look_of_mem (h.resolve_left (Ne.symm e))
theorem look_none {α : Type} : ∀ {H : List (Nat × α)} {i : Nat}, i ∉ H.map (·.1) → look H i = none
  | [], _, _ => rfl
  | (j, y) :: H, i, h => by
    simp only [List.map_cons, List.mem_cons, not_or] at h
    simp only [look]; rw [if_neg (Ne.symm h.1)]; exact look_none h.2
theorem callC_obj {P : Program} {σ : St} {op : Op} {dst : Option Nat} {K : Eff → List Nat → Prop} {f : FuncId} {AV A : List T} {R : T} {H H' : List (Nat × List T)} {S D : List Nat} (M : List Nat) {xs : Array Operand} {ts : Array TypeId} (hM : Meets P f A H S R H')
    (ho : op = .call { callee := .value (.func f), args := xs, argTypes := ts }) (hA : evL σ.ev xs.toList = some AV) (hsn : snapL σ.h M AV = A) (hsO : snapOkL σ.h M AV)
    (hH : ∀ p ∈ H, σ.h p.1 = some p.2) (hcl : ∀ p ∈ H, ∀ j ∈ idsL p.2, j ∈ H.map (·.1)) (hAi : ∀ i ∈ idsL A, i ∈ H.map (·.1)) (hMH : ∀ i ∈ M, i ∉ H.map (·.1) ∧ i ∉ H'.map (·.1))
    (hnb : M = [] ∨ (R.noB = true ∧ ∀ q ∈ H', noBL q.2 = true)) (h1 : once H' = true) (hSH : ∀ i ∈ S, i ∈ H.map (·.1) ∧ i ∈ H'.map (·.1)) (hD : notStay S H = D)
    (k : K { val := R, drops := D, puts := H', stay := S } (H.map (·.1) ++ M)) : callC P σ op dst K := by
  subst hD
  refine ⟨_, _, fun o ho' _ => acts_call (S := S) (M := M) (AV := AV) hM (ho'.trans ho) rfl rfl hA (by simpa using hsn) (by simpa using hsO) (fun i cs q => hH (i, cs) (look_memq q)) (fun i cs q j hj => look_of_mem (hcl (i, cs) (look_memq q) j hj)) (fun i hi => look_of_mem (hAi i hi))
    (fun i hi => look_none (hMH i hi).1) hnb h1 (fun i hi => ⟨look_of_mem (hSH i hi).1, look_of_mem (hSH i hi).2⟩) (fun i hi => look_none (hMH i hi).2), k⟩
section
variable {E : Env} {Γ : Cx} {f : FuncId} {N : Nat} {S : List Nat} {k k0 rest : List Item} {σ : St} {R : T}
theorem Go.leave0 {fn : Func} (n : Nat) (hfn : E.P.funcs[f]? = some fn) (hk : k = k0) (he : normI n k0 = [] ∨ ∃ rest, normI n k0 = .code .ret :: rest) {vs : List T} (hr : resL E σ fn.results.toList vs) (hR : tupT vs = R)
    (hi : R.ids = []) : Go E Γ f N S (PostR Γ R []) k σ :=
  Go.leave n hfn hk he hr hR (by simp [look]) (by simp [hi]) (by simp [look])
end
theorem wrap_u64 {x : Int} (h0 : 0 ≤ x) (h1 : x < 18446744073709551616) : IntKind.u64.wrap x = x := by
  simp only [IntKind.wrap, IntKind.bits, IntKind.signed, Bool.false_and, Bool.false_eq_true, if_false]
  exact Int.emod_eq_of_lt h0 h1
end Go.Vw
namespace Go.Vw
open Go Go.RowKit
theorem meets_as {P : Program} {f : FuncId} {E PE : TypeId} (hcall : ∀ args w, (callFunc f args).run P w = .ok (.enter f args) w)
    (hhit : ∀ (e : Int) (t : Addr) (old : Value) (w : World), w.cell? t = some old → w.frozen? t = false → (∀ b cs, Known P b cs → CellsAt w b 0 cs) →
      Calls P f #[.iface E (.int .i64 e), .iface PE (.pointer (some t))] w fun ev w' => ev = .returned (.bool true) ∧ ∃ wa, Keeps (fun _ => False) w wa ∧ w' = wa.setCell t (.int .i64 e)) (i : Nat) (n o : Int) :
    Meets P f [.iface E (.leaf (.int .i64 n)), .iface PE (.addr i 0)] [(i, [.leaf (.int .i64 o)])] [i] (.leaf (.bool true)) [(i, [.leaf (.int .i64 n)])] := by
  refine fun Γ β vs hP hS hn hl hβ hlent hs => .inl ⟨hcall _ _, ?_⟩
  match vs, hl with
  | [v0, v1], _ =>
    obtain ⟨x0, e0, r0⟩ := hs.slot 0 _ rfl
    obtain ⟨x1, e1, r1⟩ := hs.slot 1 _ rfl
    simp only [List.getElem?_toArray, List.getElem?_cons_zero, List.getElem?_cons_succ, Option.some.injEq] at e0 e1
    subst e0; subst e1
    simp only [Rep] at r0 r1
    obtain ⟨_, rfl, rfl⟩ := r0
    obtain ⟨y, rfl, r1⟩ := r1
    cases hb : β i with
    | ph => rw [hb] at r1; exact r1.elim
    | real b ob E' =>
      rw [hb] at r1
      simp only [Nat.add_zero] at r1
      subst r1
      have hid : (⟨fun t => [T.iface E (.leaf (.int .i64 n)), .iface PE (.addr i 0)][t]?, look [(i, [.leaf (.int .i64 o)])]⟩ : St).h i = some [.leaf (.int .i64 o)] := by simp [look]
      obtain ⟨c, el, fr, ws, h1, h2, h3, h4, h5, h6⟩ := obj_open hs hid hb
      simp only [RepL, Rep] at h5
      obtain ⟨_, _, rfl, rfl, rfl⟩ := h5
      have hcell := h6 0 _ rfl
      simp only [Nat.add_zero] at hcell
      simp only [List.length_cons, List.length_nil] at h3
      have hfz := h4.get (i := ob) (by omega)
      refine (hhit n ⟨b, ob, none⟩ _ Γ.w0 hcell hfz fun b cs hk => (hs.known hP hk).2.2).mono ?_
      rintro ev w' ⟨rfl, wa, hka, rfl⟩
      refine ⟨_, rfl, β, ?_⟩
      have hga := hs.grow hka
      have hw := hga.write (new := [.leaf (.int .i64 n)]) (cs' := [.leaf (.int .i64 n)]) (nv := [.int .i64 n]) hid hb 0 (by simp; omega) (by simp [RepL, Rep]) rfl (by simp [idsL, T.ids])
        (fun vs hvs => ⟨[.int .i64 n], by simp [RepL, Rep], fun j u hu => by
          cases j with
          | zero => simpa using hu
          | succ j => simp at hu⟩) (by simp; omega)
      have hw2 := hw.2
      have hset : wa.setCells b (ob + 0) [.int .i64 n] = wa.setCell ⟨b, ob, none⟩ (.int .i64 n) := rfl
      rw [hset] at hw2
      have how : ∀ c, own (retSt (.leaf (.bool true)) (look [(i, [.leaf (.int .i64 n)])])) β c → own (⟨fun t => [T.iface E (.leaf (.int .i64 n)), .iface PE (.addr i 0)][t]?, upd (look [(i, [.leaf (.int .i64 o)])]) i (some [.leaf (.int .i64 n)])⟩ : St) β c := fun c ⟨id, cs, o', E2, q1, q2⟩ => by
        simp only [retSt, look] at q1
        split at q1
        · rename_i e; subst e; exact ⟨_, cs, o', E2, by simpa [upd] using q1, q2⟩
        · simp at q1
      have hobj : ∀ id cs, look [(i, [T.leaf (.int .i64 n)])] id = some cs → upd (look [(i, [.leaf (.int .i64 o)])]) i (some [.leaf (.int .i64 n)]) id = some cs := fun id cs q => by
        simp only [look] at q
        split at q
        · rename_i e; subst e; simpa [upd] using q
        · simp at q
      have hok : ∀ g c, okOf Γ.X (⟨fun t => [T.iface E (.leaf (.int .i64 n)), .iface PE (.addr i 0)][t]?, upd (look [(i, [.leaf (.int .i64 o)])]) i (some [.leaf (.int .i64 n)])⟩ : St) β (wa.setCell ⟨b, ob, none⟩ (.int .i64 n)) g c → okOf Γ.X (retSt (.leaf (.bool true)) (look [(i, [.leaf (.int .i64 n)])])) β (wa.setCell ⟨b, ob, none⟩ (.int .i64 n)) g c ∧ (wa.setCell ⟨b, ob, none⟩ (.int .i64 n)).heap[c]? = (wa.setCell ⟨b, ob, none⟩ (.int .i64 n)).heap[c]? := fun g c hc => ⟨⟨hc.1, fun ho => hc.2.1 (how c ho), hc.2.2⟩, rfl⟩
      refine ⟨rfl, rfl, hw2.keeps, fun t y e => ?_, fun id cs e => (hw2.obj id cs (hobj id cs e)).mono hok (fun _ _ _ _ => rfl) (fun _ _ => rfl),
        fun i1 i2 c1 c2 b1 o1 E1 o2 E2 q1 q2 => hw2.inj i1 i2 c1 c2 b1 o1 E1 o2 E2 (hobj _ _ q1) (hobj _ _ q2), fun c hc => hw2.ownb c (how c hc), fun t y e => ?_, fun id cs e j hj => ?_, hw2.stab⟩
      · simp only [retSt] at e
        split at e
        · rename_i ht; subst ht; injection e with e; subst e; exact ⟨_, rfl, by simp [Rep]⟩
        · simp at e
      · simp only [retSt] at e
        split at e
        · injection e with e; subst e; simp [T.ids]
        · simp at e
      · simp only [retSt, look] at e
        split at e
        · injection e with e; subst e; simp [idsL, T.ids] at hj
        · simp at e
theorem calls_of_meets {P : Program} {f : FuncId} {A : List T} {R : T} {W : World} {args : Array Value} (hen : ∀ args w, (callFunc f args).run P w = .ok (.enter f args) w) (hM : Meets P f A [] [] R []) (hi : idsL A = [])
    (held : ∀ b cs, Known P b cs → b < W.heap.size ∧ CellsAt W b 0 cs) (hrep : RepL W (fun _ b => b < W.heap.size) A (fun _ => .ph) args.toList) :
    Calls P f args W fun e W' => ∃ v, e = .returned v ∧ Below W.heap.size W W' ∧ ∃ ok β, Rep W' ok R β v := by
  have hno : ∀ b, ¬ own ⟨fun t => A[t]?, look []⟩ (fun _ => .ph) b := fun b ⟨id, cs, o, E, h1, h2⟩ => by simp [look] at h1
  let Γ : Cx := { P := P, n := args.toList.length, w0 := W, lent := own ⟨fun t => A[t]?, look []⟩ (fun _ => .ph), X := (fun _ _ => False), X_old := (fun _ _ h => False.elim h), X_sub := (fun _ h => h), S := [], β0 := (fun _ => .ph), held := fun b cs hk => ⟨(held b cs hk).1, hno b, (held b cs hk).2⟩ }
  have hl : args.toList.length = A.length := hrep.length
  have hs : SimB Γ ⟨fun t => A[t]?, look []⟩ (fun _ => .ph) ⟨args.toList.toArray, []⟩ W := by
    refine ⟨rfl, by simp [Γ], Keeps.refl _ _, fun t x e => ?_, fun id cs e => by simp [look] at e, fun i1 i2 c1 c2 b1 o1 E1 o2 E2 q1 => by simp [look] at q1, fun b hb => (hno b hb).elim, fun t x e i hx => ?_, fun id cs e => by simp [look] at e, fun _ _ => rfl⟩
    · obtain ⟨v, h1, h2⟩ := hrep.get e
      exact ⟨v, by simpa using h1, Rep.mono (fun g b hb => ⟨⟨hb, hno b, fun h => h⟩, rfl⟩) x _ _ v (fun _ _ => rfl) h2⟩
    · have := RepL.idsub e i hx
      rw [hi] at this; simp at this
  have := hM Γ (fun _ => .ph) args.toList rfl rfl rfl hl rfl rfl hs
  simp only [Array.toArray_toList] at this
  have this : Calls P f args W fun e w' => ∃ v, e = .returned v ∧ Sim { Γ with n := 1 } (retSt R (look [])) ⟨#[v], []⟩ w' := by
    rcases this with ⟨_, h⟩ | ⟨v, w', h, _⟩
    · exact h
    · rw [hen] at h; simp at h
  refine this.mono ?_
  rintro e W' ⟨v, rfl, β, h⟩
  refine ⟨v, rfl, ⟨h.keeps.os, h.keeps.tape, h.keeps.output, h.keeps.size, fun k hk => h.keeps.block k hk (hno k)⟩, ?_⟩
  obtain ⟨x, h1, h2⟩ := h.slot 0 R rfl
  simp only [List.getElem?_toArray, List.getElem?_cons_zero, Option.some.injEq] at h1
  subst h1
  exact ⟨_, _, h2⟩
end Go.Vw
namespace Go.Vw
open Go Go.RowKit
theorem beqI (a b : Int) : (a == b) = decide (a = b) := rfl
theorem bneI (a b : Int) : (a != b) = !decide (a = b) := rfl
def er (ty : TypeId) (n : Int) : T := if n = 0 then .leaf .nilIface else .iface ty (.leaf (.int .i64 n))
theorem er_zero (ty : TypeId) : er ty 0 = .leaf .nilIface := by simp [er]
theorem er_ne {ty : TypeId} {n : Int} (h : ¬ n = 0) : er ty n = .iface ty (.leaf (.int .i64 n)) := by simp [er, h]
theorem er_ids (ty : TypeId) (n : Int) : (er ty n).ids = [] := by unfold er; split <;> simp [T.ids]
theorem er_purge (ty : TypeId) (n : Int) (i : Nat) : (er ty n).purge i = er ty n := by unfold er; split <;> simp [T.purge]
theorem eqC_nn {ti : TypeId → TI} {op : BinOp} {t : TypeId} {x y : Operand} {K : T → Prop}  : eqC ti op t x y K (.leaf .nilIface) (.leaf .nilIface) = ((op = .eql ∨ op = .neq) ∧ (ti t).k = .iface ∧ (isConstOp x || isConstOp y) = true ∧ K (.leaf (.bool (if op = .eql then true else !true)))) := by
  simp [eqC, eqK, eqTo, bindO_some, bindO, and_assoc]
theorem eqC_ni {ti : TypeId → TI} {op : BinOp} {t : TypeId} {x y : Operand} {K : T → Prop} {u : TypeId} {v : T} : eqC ti op t x y K (.leaf .nilIface) (.iface u v) = ((op = .eql ∨ op = .neq) ∧ (ti t).k = .iface ∧ K (.leaf (.bool (if op = .eql then false else !false)))) := by
  simp [eqC, eqK, eqTo, bindO_some, bindO, and_assoc]
theorem eqC_in {ti : TypeId → TI} {op : BinOp} {t : TypeId} {x y : Operand} {K : T → Prop} {u : TypeId} {v : T} : eqC ti op t x y K (.iface u v) (.leaf .nilIface) = ((op = .eql ∨ op = .neq) ∧ (ti t).k = .iface ∧ K (.leaf (.bool (if op = .eql then false else !false)))) := by
  simp [eqC, eqK, eqTo, bindO_some, bindO, and_assoc]
theorem eqC_pp {ti : TypeId → TI} {op : BinOp} {t : TypeId} {x y : Operand} {K : T → Prop}  : eqC ti op t x y K (.leaf (.pointer none)) (.leaf (.pointer none)) = ((op = .eql ∨ op = .neq) ∧ (∃ e, (ti t).k = .ptr e) ∧ K (.leaf (.bool (if op = .eql then true else !true)))) := by
  simp [eqC, eqK, eqTo, bindO_some, bindO, and_assoc]
theorem eqC_pa {ti : TypeId → TI} {op : BinOp} {t : TypeId} {x y : Operand} {K : T → Prop} {i n : Nat} : eqC ti op t x y K (.leaf (.pointer none)) (.addr i n) = ((op = .eql ∨ op = .neq) ∧ (∃ e, (ti t).k = .ptr e) ∧ K (.leaf (.bool (if op = .eql then false else !false)))) := by
  simp [eqC, eqK, eqTo, bindO_some, bindO, and_assoc]
theorem eqC_pt {ti : TypeId → TI} {op : BinOp} {t : TypeId} {x y : Operand} {K : T → Prop} {g : Tag} {n : Nat} {cs : List T} : eqC ti op t x y K (.leaf (.pointer none)) (.pt g n cs) = ((op = .eql ∨ op = .neq) ∧ (∃ e, (ti t).k = .ptr e) ∧ K (.leaf (.bool (if op = .eql then false else !false)))) := by
  simp [eqC, eqK, eqTo, bindO_some, bindO, and_assoc]
theorem eqC_ap {ti : TypeId → TI} {op : BinOp} {t : TypeId} {x y : Operand} {K : T → Prop} {i n : Nat} : eqC ti op t x y K (.addr i n) (.leaf (.pointer none)) = ((op = .eql ∨ op = .neq) ∧ (∃ e, (ti t).k = .ptr e) ∧ K (.leaf (.bool (if op = .eql then false else !false)))) := by
  simp [eqC, eqK, eqTo, bindO_some, bindO, and_assoc]
theorem eqC_tp {ti : TypeId → TI} {op : BinOp} {t : TypeId} {x y : Operand} {K : T → Prop} {g : Tag} {n : Nat} {cs : List T} : eqC ti op t x y K (.pt g n cs) (.leaf (.pointer none)) = ((op = .eql ∨ op = .neq) ∧ (∃ e, (ti t).k = .ptr e) ∧ K (.leaf (.bool (if op = .eql then false else !false)))) := by
  simp [eqC, eqK, eqTo, bindO_some, bindO, and_assoc]
theorem eqC_er_neq {ti : TypeId → TI} {t : TypeId} {x y : Operand} {K : T → Prop} {ty : TypeId} {n : Int} :
    eqC ti .neq t x y K (er ty n) (.leaf .nilIface) = ((ti t).k = .iface ∧ (n = 0 → (isConstOp x || isConstOp y) = true) ∧ K (.leaf (.bool !decide (n = 0)))) := by
  by_cases h : n = 0
  · subst h
    rw [er_zero]
    simp [eqC, eqK, eqTo, bindO, and_assoc]
  · rw [er_ne h]
    simp [eqC, eqK, eqTo, bindO, h]
theorem eqC_er_eql {ti : TypeId → TI} {t : TypeId} {x y : Operand} {K : T → Prop} {ty : TypeId} {n : Int} :
    eqC ti .eql t x y K (er ty n) (.leaf .nilIface) = ((ti t).k = .iface ∧ (n = 0 → (isConstOp x || isConstOp y) = true) ∧ K (.leaf (.bool (decide (n = 0))))) := by
  by_cases h : n = 0
  · subst h
    rw [er_zero]
    simp [eqC, eqK, eqTo, bindO, and_assoc]
  · rw [er_ne h]
    simp [eqC, eqK, eqTo, bindO, h]
end Go.Vw
namespace Go.Vw
open Go Go.RowKit
def leafEq : K → T → T → Option Bool
  | .int _, .leaf (.int k a), .leaf (.int k' b) => match decide (k = k') with | true => some (a == b) | false => none
  | .bool, .leaf (.bool a), .leaf (.bool b) => some (a == b)
  | .str, .leaf (.string a), .leaf (.string b) => some (a.toList == b.toList)
  | _, _, _ => none
def eqL : List K → List T → List T → Option Bool
  | [], [], [] => some true
  | k :: ks, x :: xs, y :: ys => match leafEq k x y with
    | none => none
    | some a => match eqL ks xs ys with
      | none => none
      | some b => some (a && b)
  | _, _, _ => none
theorem eqL_len : ∀ {ks : List K} {a b : List T} {r : Bool}, eqL ks a b = some r → a.length = ks.length ∧ b.length = ks.length
  | [], [], [], _, _ => ⟨rfl, rfl⟩
  | k :: ks, x :: xs, y :: ys, r, h => by
    simp only [eqL] at h
    split at h
    · simp at h
    · split at h
      · simp at h
      · rename_i s hs
        obtain ⟨h1, h2⟩ := eqL_len hs
        exact ⟨by simp [h1], by simp [h2]⟩
  | [], [], _ :: _, _, h => by simp [eqL] at h
  | [], _ :: _, _, _, h => by simp [eqL] at h
  | _ :: _, [], _, _, h => by simp [eqL] at h
  | _ :: _, _ :: _, [], _, h => by simp [eqL] at h
theorem eqL_split : ∀ {ks ls : List K} {a c b d : List T} {r : Bool}, a.length = ks.length → c.length = ks.length → eqL (ks ++ ls) (a ++ b) (c ++ d) = some r → ∃ r1 r2, eqL ks a c = some r1 ∧ eqL ls b d = some r2 ∧ r = (r1 && r2)
  | [], _, [], [], b, d, r, _, _, h => ⟨true, r, rfl, h, rfl⟩
  | [], _, _ :: _, _, _, _, _, e, _, _ => by simp at e
  | [], _, [], _ :: _, _, _, _, _, e, _ => by simp at e
  | _ :: _, _, [], _, _, _, _, e, _, _ => by simp at e
  | _ :: _, _, _ :: _, [], _, _, _, _, e, _ => by simp at e
  | k :: ks, ls, x :: a, y :: c, b, d, r, e, e', h => by
    simp only [List.cons_append, eqL] at h
    split at h
    · simp at h
    · rename_i q hq
      split at h
      · simp at h
      · rename_i s hs
        obtain ⟨r1, r2, h1, h2, h3⟩ := eqL_split (by simpa using e) (by simpa using e') hs
        simp only [Option.some.injEq] at h
        exact ⟨q && r1, r2, by simp [eqL, hq, h1], h2, by rw [← h, h3, Bool.and_assoc]⟩
theorem eqL_at {ks ls : List K} {cs ds : List T} {o : Nat} {r : Bool} (h : eqL (ks ++ ls) (cs.drop o) (ds.drop o) = some r) :
    ∃ r1 r2, eqL ks ((cs.drop o).take ks.length) ((ds.drop o).take ks.length) = some r1 ∧ eqL ls (cs.drop (o + ks.length)) (ds.drop (o + ks.length)) = some r2 ∧ r = (r1 && r2) := by
  obtain ⟨h1, h2⟩ := eqL_len h
  rw [← List.take_append_drop ks.length (cs.drop o), ← List.take_append_drop ks.length (ds.drop o), List.drop_drop, List.drop_drop] at h
  simp at h1 h2
  exact eqL_split (by simp; omega) (by simp; omega) h
def eqFs (f : TypeId → Option (List K)) : Nat → List Field → Option (List K)
  | _, [] => some []
  | o, x :: fs => match x.name != "_", Nat.beq x.offset o, f x.type with
    | true, true, some m => match eqFs f (o + m.length) fs with
      | some l => some (m ++ l)
      | none => none
    | _, _, _ => none
def rep (m : List K) : Nat → List K
  | 0 => []
  | n + 1 => m ++ rep m n
theorem rep_len (m : List K) (n : Nat) : (rep m n).length = n * m.length := by
  induction n with
  | zero => simp [rep]
  | succ n ih => simp [rep, ih, Nat.succ_mul]; omega
def eqTy (E : Env) : Nat → TypeId → Option (List K)
  | 0, _ => none
  | d + 1, t => match (E.ti t).k with
    | .bool => some [.bool]
    | .str => some [.str]
    | .int k => some [.int k]
    | .array n e => match eqTy E d e with
      | some m => match Nat.beq m.length (E.ti e).size, Nat.beq (n * m.length) (E.ti t).size with | true, true => some (rep m n) | _, _ => none
      | none => none
    | .struct _ => match E.P.stoodInHeld t, E.P.underlying t with
      | false, some (.struct fs) => match eqFs (eqTy E d) 0 fs.toList with
        | some n => match Nat.beq n.length (E.ti t).size with | true => some n | false => none
        | none => none
      | _, _ => none
    | _ => none
section
variable {E : Env}
def EqPart (E : Env) (d : Nat) (t : TypeId) (ks : List K) : Prop :=
  ∀ (w : World) (ok : Tag → Nat → Prop) (β : Nat → Real) (cs ds : List T) (vs us : List Value) (r : Bool) (off : Nat), RepL w ok cs β vs → RepL w ok ds β us →
    eqL ks ((cs.drop off).take ks.length) ((ds.drop off).take ks.length) = some r →
    ∃ a b, (part t vs.toArray off).run E.P w = .ok a w ∧ (part t us.toArray off).run E.P w = .ok b w ∧ (Op.equalIn d t a b).run E.P w = .ok r w
def EqAgg (E : Env) (d : Nat) (t : TypeId) (ks : List K) : Prop :=
  ∀ (w : World) (ok : Tag → Nat → Prop) (β : Nat → Real) (cs ds : List T) (vs us : List Value) (r : Bool), RepL w ok cs β vs → RepL w ok ds β us → eqL ks cs ds = some r →
    (Op.equalIn d t (.agg vs.toArray) (.agg us.toArray)).run E.P w = .ok r w
theorem EqAgg.part {d : Nat} {t : TypeId} {ks : List K} (h : EqAgg E d t ks) (ht : TOk E.P t (E.ti t)) (ha : (E.ti t).agg = true) (hn : (E.ti t).size = ks.length) : EqPart E d t ks := by
  intro w ok β cs ds vs us r off h1 h2 h5
  have hagg := ht.isAgg w
  have hz := ht.size w
  rw [ha] at hagg
  rw [hn] at hz
  refine ⟨.agg (vs.toArray.extract off (off + ks.length)), .agg (us.toArray.extract off (off + ks.length)), ?_, ?_, ?_⟩
  · simp only [Go.part, Sem.run_bind, hagg, Result.andThen_ok, if_true, hz]; rfl
  · simp only [Go.part, Sem.run_bind, hagg, Result.andThen_ok, if_true, hz]; rfl
  · have := h w ok β _ _ _ _ r (h1.extract off ks.length) (h2.extract off ks.length) h5
    simpa using this
theorem eqLeaf_part {d : Nat} {t : TypeId} (ht : TOk E.P t (E.ti t)) (hk : (E.ti t).k = .bool ∨ (E.ti t).k = .str ∨ ∃ k, (E.ti t).k = .int k) : EqPart E (d + 1) t [(E.ti t).k] := by
  intro w ok β cs ds vs us r off h1 h2 h5
  have ha : (E.ti t).agg = false := by rcases hk with h | h | ⟨k, h⟩ <;> simp [TI.agg, h]
  have hagg := ht.isAgg w
  rw [ha] at hagg
  obtain ⟨l1, l2⟩ := eqL_len h5
  simp at l1 l2
  obtain ⟨c, hc⟩ : ∃ c, cs[off]? = some c := ⟨_, List.getElem?_eq_getElem (by omega)⟩
  obtain ⟨e, he⟩ : ∃ e, ds[off]? = some e := ⟨_, List.getElem?_eq_getElem (by omega)⟩
  obtain ⟨v, hv1, hv2⟩ := h1.get hc
  obtain ⟨u, hu1, hu2⟩ := h2.get he
  refine ⟨v, u, by simp only [Go.part, Sem.run_bind, hagg, Result.andThen_ok]; simp [hv1], by simp only [Go.part, Sem.run_bind, hagg, Result.andThen_ok]; simp [hu1], ?_⟩
  have e1 : (cs.drop off).take 1 = [c] := by
    rw [List.getElem?_eq_some_iff] at hc
    obtain ⟨hl, rfl⟩ := hc
    rw [List.drop_eq_getElem_cons hl]; rfl
  have e2 : (ds.drop off).take 1 = [e] := by
    rw [List.getElem?_eq_some_iff] at he
    obtain ⟨hl, rfl⟩ := he
    rw [List.drop_eq_getElem_cons hl]; rfl
  simp only [List.length_cons, List.length_nil, Nat.zero_add] at h5
  rw [e1, e2] at h5
  simp only [eqL] at h5
  split at h5
  · simp at h5
  rename_i q hq
  simp only [Bool.and_true, Option.some.injEq] at h5
  subst h5
  obtain ⟨D, hd1, hd2, _⟩ := ht.und
  revert hq
  rcases hk with h | h | ⟨k, h⟩ <;> rw [h] at hd2 ⊢ <;> simp only [kOk] at hd2 <;> subst hd2 <;> intro hq <;> unfold leafEq at hq <;> split at hq <;> simp only [Rep, reduceCtorEq] at * <;>
    (try subst hv2) <;> (try subst hu2) <;> (try (split at hq)) <;> simp_all [Op.equalIn, run_underlying hd1, beq_toListBytes]
theorem eqFs_run {d : Nat} (w : World) {ok : Tag → Nat → Prop} {β : Nat → Real} {cs ds : List T} {vs us : List Value} (h1 : RepL w ok cs β vs) (h2 : RepL w ok ds β us) {f : TypeId → Option (List K)} (hf : ∀ t ks, f t = some ks → EqPart E d t ks) :
    ∀ (fs : List Field) (o : Nat) (ks : List K) (r : Bool), eqFs f o fs = some ks → eqL ks (cs.drop o) (ds.drop o) = some r → (Op.eqFields d vs.toArray us.toArray fs).run E.P w = .ok r w
  | [], o, ks, r, h, hr => by
    simp only [eqFs, Option.some.injEq] at h; subst h
    obtain ⟨l1, l2⟩ := eqL_len hr
    rw [List.length_eq_zero_iff.1 l1, List.length_eq_zero_iff.1 l2] at hr
    simp only [eqL, Option.some.injEq] at hr; subst hr
    simp [Op.eqFields]
  | x :: fs, o, ks, r, h, hr => by
    simp only [eqFs] at h
    split at h
    · rename_i m hn ho hm
      split at h
      · rename_i l hl
        simp only [Option.some.injEq] at h; subst h
        obtain ⟨r1, r2, a1, a2, rfl⟩ := eqL_at hr
        have ho := Nat.eq_of_beq_eq_true ho
        subst ho
        obtain ⟨a, b, p1, p2, p3⟩ := hf _ _ hm w ok β cs ds vs us r1 x.offset h1 h2 a1
        have hn : x.name ≠ "_" := by simpa using hn
        simp only [Op.eqFields, hn, ne_eq, not_false_eq_true, if_true, Sem.run_bind, p1, p2, p3, Result.andThen_ok]
        cases r1 with
        | false => simp
        | true => simpa using eqFs_run w h1 h2 hf fs _ l r2 hl a2
      · simp at h
    · simp at h
theorem eqItems_run {d : Nat} (w : World) {ok : Tag → Nat → Prop} {β : Nat → Real} {cs ds : List T} {vs us : List Value} (h1 : RepL w ok cs β vs) (h2 : RepL w ok ds β us) {e : TypeId} {m : List K} (hf : EqPart E d e m) :
    ∀ (n j : Nat) (r : Bool), eqL (rep m n) (cs.drop (j * m.length)) (ds.drop (j * m.length)) = some r → (Op.eqItems d e m.length vs.toArray us.toArray (List.range' j n)).run E.P w = .ok r w
  | 0, j, r, hr => by
    obtain ⟨l1, l2⟩ := eqL_len hr
    rw [List.length_eq_zero_iff.1 l1, List.length_eq_zero_iff.1 l2] at hr
    simp only [rep, eqL, Option.some.injEq] at hr; subst hr
    simp [Op.eqItems]
  | n + 1, j, r, hr => by
    obtain ⟨r1, r2, a1, a2, rfl⟩ := eqL_at hr
    obtain ⟨a, b, p1, p2, p3⟩ := hf w ok β cs ds vs us r1 _ h1 h2 a1
    rw [List.range'_succ]
    simp only [Op.eqItems, Sem.run_bind, p1, p2, p3, Result.andThen_ok]
    cases r1 with
    | false => simp
    | true => simpa using eqItems_run w h1 h2 hf n (j + 1) r2 (by rw [Nat.succ_mul]; exact a2)
theorem eqTy_part : ∀ (d : Nat) (k : Nat) (t : TypeId) (ks : List K), eqTy E d t = some ks → EqPart E (k + d) t ks ∧ ((E.ti t).agg = true → EqAgg E (k + d) t ks)
  | 0, _, _, _, h => by simp [eqTy] at h
  | d + 1, k, t, ks, h => by
    have hne : (E.ti t).k ≠ .no := by
      intro h0; simp [eqTy, h0] at h
    have ht := E.TOk hne
    simp only [eqTy] at h
    split at h
    · rename_i hk; simp only [Option.some.injEq] at h; subst h
      exact ⟨by have := eqLeaf_part (d := k + d) ht (.inl hk); rwa [hk] at this, by simp [TI.agg, hk]⟩
    · rename_i hk; simp only [Option.some.injEq] at h; subst h
      exact ⟨by have := eqLeaf_part (d := k + d) ht (.inr (.inl hk)); rwa [hk] at this, by simp [TI.agg, hk]⟩
    · rename_i kk hk; simp only [Option.some.injEq] at h; subst h
      exact ⟨by have := eqLeaf_part (d := k + d) ht (.inr (.inr ⟨kk, hk⟩)); rwa [hk] at this, by simp [TI.agg, hk]⟩
    · rename_i n e hk
      split at h
      · rename_i m hm
        split at h
        · rename_i hz1 hz2
          simp only [Option.some.injEq] at h; subst h
          have ha : (E.ti t).agg = true := by simp [TI.agg, hk]
          have hz1 := Nat.eq_of_beq_eq_true hz1
          have hz2 := Nat.eq_of_beq_eq_true hz2
          have key : EqAgg E (k + (d + 1)) t (rep m n) := by
            intro w ok β cs ds vs us r h1 h2 hr
            obtain ⟨D, hd1, hd2, _⟩ := ht.und
            rw [hk] at hd2; simp only [kOk] at hd2; subst hd2
            obtain ⟨j, hj, hj2, _⟩ := (E.TOk (E.ar t n e hk)).info
            have hc : E.P.cellsOf e = m.length := by simp [Program.cellsOf, hj, hj2, hz1]
            rw [show k + (d + 1) = (k + d) + 1 from rfl, run_equalIn_array w (k + d) _ _ hd1 hj, hc, List.range_eq_range']
            exact eqItems_run w h1 h2 (eqTy_part d k e m hm).1 n 0 r (by simpa using hr)
          exact ⟨key.part ht ha (by rw [rep_len]; exact hz2.symm), fun _ => key⟩
        · simp at h
      · simp at h
    · rename_i fs0 hk
      split at h
      · rename_i fs hs hu
        split at h
        · rename_i n hn
          split at h
          · rename_i hz
            simp only [Option.some.injEq] at h; subst h
            have hz := Nat.eq_of_beq_eq_true hz
            have ha : (E.ti t).agg = true := by simp [TI.agg, hk]
            have key : EqAgg E (k + (d + 1)) t n := by
              intro w ok β cs ds vs us r h1 h2 hr
              have hfs : E.P.fieldsOf t = fs := by simp [Program.fieldsOf, hu]
              rw [show k + (d + 1) = (k + d) + 1 from rfl, run_equalIn_struct w (k + d) t _ _ (by rw [hfs]; exact hu) hs, hfs]
              exact eqFs_run w h1 h2 (fun t ks ht => (eqTy_part d k t ks ht).1) fs.toList 0 n r hn (by simpa using hr)
            exact ⟨key.part ht ha hz.symm, fun _ => key⟩
          · simp at h
        · simp at h
      · simp at h
    · simp at h
def eqV (op : BinOp) (b : Bool) : Bool := match op with | .neq => !b | _ => b
theorem acts_eqAgg {o : Oper} {ev : Operand → Option T} {h : Nat → Option (List T)} {reads : List Nat} {op : BinOp} {t yt : TypeId} {x y : Operand} {cs ds : List T} {ks : List K} {r : Bool}
    (ho : o.op = .binOp op t x y yt) (hop : op = .eql ∨ op = .neq) (hx : ev x = some (.agg cs)) (hy : ev y = some (.agg ds)) (ht : eqTy E 16 t = some ks) (ha : (E.ti t).agg = true)
    (hg : E.P.eqGuardType E.P.depth t = false) (hr : eqL ks cs ds = some r) : Acts E.P o ev h reads { val := .leaf (.bool (eqV op r)) } := by
  refine acts_value fun Γ σ β a w hP hev hh hs => ⟨.bool (eqV op r), ?_, by simp only [Rep], by simp [T.ids]⟩
  have e1 : σ.ev x = some (.agg cs) := by rw [hev x (by simp [ho, Op.operands]), hx]
  have e2 : σ.ev y = some (.agg ds) := by rw [hev y (by simp [ho, Op.operands]), hy]
  have r1 := hs.ev e1
  have r2 := hs.ev e2
  simp only [Rep] at r1 r2
  obtain ⟨vs, r1, q1⟩ := r1
  obtain ⟨us, r2, q2⟩ := r2
  have key := (eqTy_part 16 9984 t ks ht).2 ha w _ β cs ds vs us r q1 q2 hr
  simp only [execOp, ho, r1, r2]
  refine run_v ?_
  rw [Sem.run_bind, run_eqGuard_agg w op t x y _ _ hg, Result.andThen_ok]
  rcases hop with rfl | rfl
  · rw [run_eql_struct, key]; rfl
  · rw [run_neq_struct, key]; rfl
end
end Go.Vw
namespace Go.Vw
open Go Go.RowKit
mutual
theorem T.purge_id {i : Nat} : ∀ (t : T), i ∉ t.ids → t.purge i = t
  | .dead, _ | .leaf _, _ | .e0, _ | .sl .., _ | .pt .., _ => rfl
  | .agg cs, h => by simp only [T.purge]; rw [purgeL_id cs (by simpa [T.ids] using h)]
  | .tup cs, h => by simp only [T.purge]; rw [purgeL_id cs (by simpa [T.ids] using h)]
  | .iface _ v, h => by simp only [T.purge]; rw [T.purge_id v (by simpa [T.ids] using h)]
  | .fn _ p q, h => by
    simp only [T.ids, List.mem_append, not_or] at h
    simp only [T.purge]; rw [purgeL_id p h.1, purgeL_id q h.2]
  | .ref id _ _ _, h | .addr id _, h => by
    simp only [T.ids, List.mem_singleton] at h
    simp only [T.purge]; rw [if_neg (Ne.symm h)]
theorem purgeL_id {i : Nat} : ∀ (ts : List T), i ∉ idsL ts → purgeL i ts = ts
  | [], _ => rfl
  | t :: ts, h => by
    simp only [idsL, List.mem_append, not_or] at h
    simp only [purgeL]; rw [T.purge_id t h.1, purgeL_id ts h.2]
end
theorem frz_rep {Γ : Cx} {σ : St} {β : Nat → Real} {a : Act} {w : World} (hs : SimB Γ σ β a w) {i m o n : Nat} {cs : List T} (hi : σ.h i = some cs) (hc : idsL cs = []) (hl : o + n * m ≤ cs.length) {okc : Tag → Nat → Prop}
    (hok : ∀ g b, okOf Γ.X σ β w g b → okc g b) (hX : ∀ b ob E, β i = .real b ob E → okc .shr b) {β' : Nat → Real} {x : Value} (hx : Rep w (okOf Γ.X σ β w) (.ref i m o n) β x) : Rep w okc (.sl m .shr n (sub cs o (n * m))) β' x := by
  have hlen : (sub cs o (n * m)).length = n * m := by simp [sub]; omega
  have hids : idsL (sub cs o (n * m)) = [] := by
    refine List.eq_nil_iff_forall_not_mem.2 fun j hj => ?_
    have := ids_drop (cs := cs) o j (ids_take (n * m) j hj)
    rw [hc] at this; simp at this
  cases hb : β i with
  | ph =>
    simp only [Rep, hb] at hx ⊢
    obtain ⟨h1, h2, ad, h3⟩ := hx
    subst h2
    exact ⟨⟨hlen, hids⟩, ad, 0, h3, by omega, .inl rfl⟩
  | real b ob E' =>
    simp only [Rep, hb] at hx ⊢
    obtain ⟨ad, cap, h1, h2, h3, h4⟩ := hx
    refine ⟨⟨hlen, hids⟩, ad, cap, h1, h2, ?_⟩
    by_cases hn : n = 0
    · exact .inl hn
    · right
      obtain ⟨c, e, fr, vs, g1, g2, g3, g4, g5, g6⟩ := obj_open hs hi hb
      refine ⟨b, ob + o, h4.resolve_left (by omega), hX b ob E' hb, ?_⟩
      have r : RepL w okc cs (fun _ => .ph) vs := RepL.mono (w := w) (fun g b' hb' => ⟨hok g b' hb', rfl⟩) cs _ _ vs (fun _ _ => rfl) (g5.sealed hc)
      exact RepAt.shut ((r.drop o).take (n * m)) ((g6.drop o).take (n * m))
theorem SimB.unX {Γ : Cx} {σ : St} {β : Nat → Real} {a : Act} {w : World} (hs : SimB Γ σ β a w) {i : Nat} {cs : List T} (hi : σ.h i = some cs) {b ob E : Nat} (hb : β i = .real b ob E) (g : Tag) : ¬ Γ.X g b := fun hx => by
  obtain ⟨h1, h2⟩ := Γ.X_old g b hx
  rcases (hs.ownb b ⟨i, cs, ob, E, hi, hb⟩).2 with h | h
  · omega
  · exact h2 h
theorem SimB.frz {Γ : Cx} {σ : St} {β : Nat → Real} {a : Act} {w : World} (hs : SimB Γ σ β a w) {t i m o n : Nat} {cs : List T} (ht : σ.s t = some (.ref i m o n)) (hi : σ.h i = some cs) (hc : idsL cs = []) (hl : o + n * m ≤ cs.length) :
    SimB Γ { σ.drop i with s := upd (σ.drop i).s t (some (.sl m .shr n (sub cs o (n * m)))) } β a w := by
  have hd := hs.drop i
  obtain ⟨v, hv1, hv2⟩ := hs.slot t _ ht
  have how : ∀ b, own (σ.drop i) β b → own σ β b := by
    rintro b ⟨id, c, o', E, e1, e2⟩
    simp only [St.drop] at e1
    split at e1
    · simp at e1
    · obtain ⟨c', e3, _⟩ := Option.map_eq_some_iff.1 e1
      exact ⟨id, c', o', E, e3, e2⟩
  have hrep : Rep w (okOf Γ.X (σ.drop i) β w) (.sl m .shr n (sub cs o (n * m))) β v := by
    refine frz_rep hs hi hc hl (fun g b hb => ⟨hb.1, fun ho => hb.2.1 (how b ho), hb.2.2⟩) (fun b ob E hb => ⟨(hs.ownb b ⟨i, cs, ob, E, hi, hb⟩).1, ?_, hs.unX hi hb _⟩) hv2
    rintro ⟨id, c, o', E', e1, e2⟩
    simp only [St.drop] at e1
    split at e1
    · simp at e1
    · rename_i hne
      obtain ⟨c', e3, _⟩ := Option.map_eq_some_iff.1 e1
      exact hne (hs.inj id i c' cs b o' E' ob E e3 hi e2 hb)
  refine ⟨hd.defers, hd.size, hd.keeps, fun u z e => ?_, hd.obj, hd.inj, hd.ownb, fun u z e => ?_, hd.wfh, hd.stab⟩
  · simp only [upd] at e
    split at e
    · rename_i e'; subst e'; injection e with e; subst e; exact ⟨v, hv1, hrep⟩
    · exact hd.slot u z e
  · simp only [upd] at e
    split at e
    · injection e with e; subst e; simp [T.ids]
    · exact hd.wfs u z e
theorem frzPt_rep {Γ : Cx} {σ : St} {β : Nat → Real} {a : Act} {w : World} (hs : SimB Γ σ β a w) {i off : Nat} {cs : List T} (hi : σ.h i = some cs) (hc : idsL cs = []) {okc : Tag → Nat → Prop}
    (hok : ∀ g b, okOf Γ.X σ β w g b → okc g b) (hX : ∀ b ob E, β i = .real b ob E → okc .shr b) {β' : Nat → Real} {x : Value} (hx : Rep w (okOf Γ.X σ β w) (.addr i off) β x) : Rep w okc (.pt .shr off cs) β' x := by
  cases hb : β i with
  | ph => simp only [Rep, hb] at hx
  | real b ob E' =>
    simp only [Rep, hb] at hx ⊢
    obtain ⟨c, e, fr, vs, g1, g2, g3, g4, g5, g6⟩ := obj_open hs hi hb
    have r : RepL w okc cs (fun _ => .ph) vs := RepL.mono (w := w) (fun g b' hb' => ⟨hok g b' hb', rfl⟩) cs _ _ vs (fun _ _ => rfl) (g5.sealed hc)
    exact ⟨hc, b, ob, hx, hX b ob E' hb, RepAt.shut r g6⟩
theorem SimB.frzPt {Γ : Cx} {σ : St} {β : Nat → Real} {a : Act} {w : World} (hs : SimB Γ σ β a w) {t i off : Nat} {cs : List T} (ht : σ.s t = some (.addr i off)) (hi : σ.h i = some cs) (hc : idsL cs = []) :
    SimB Γ { σ.drop i with s := upd (σ.drop i).s t (some (.pt .shr off cs)) } β a w := by
  have hd := hs.drop i
  obtain ⟨v, hv1, hv2⟩ := hs.slot t _ ht
  have how : ∀ b, own (σ.drop i) β b → own σ β b := by
    rintro b ⟨id, c, o', E, e1, e2⟩
    simp only [St.drop] at e1
    split at e1
    · simp at e1
    · obtain ⟨c', e3, _⟩ := Option.map_eq_some_iff.1 e1
      exact ⟨id, c', o', E, e3, e2⟩
  have hrep : Rep w (okOf Γ.X (σ.drop i) β w) (.pt .shr off cs) β v := by
    refine frzPt_rep hs hi hc (fun g b hb => ⟨hb.1, fun ho => hb.2.1 (how b ho), hb.2.2⟩) (fun b ob E hb => ⟨(hs.ownb b ⟨i, cs, ob, E, hi, hb⟩).1, ?_, hs.unX hi hb _⟩) hv2
    rintro ⟨id, c, o', E', e1, e2⟩
    simp only [St.drop] at e1
    split at e1
    · simp at e1
    · rename_i hne
      obtain ⟨c', e3, _⟩ := Option.map_eq_some_iff.1 e1
      exact hne (hs.inj id i c' cs b o' E' ob E e3 hi e2 hb)
  refine ⟨hd.defers, hd.size, hd.keeps, fun u z e => ?_, hd.obj, hd.inj, hd.ownb, fun u z e => ?_, hd.wfh, hd.stab⟩
  · simp only [upd] at e
    split at e
    · rename_i e'; subst e'; injection e with e; subst e; exact ⟨v, hv1, hrep⟩
    · exact hd.slot u z e
  · simp only [upd] at e
    split at e
    · injection e with e; subst e; simp [T.ids]
    · exact hd.wfs u z e
section
variable {P : Program} {o : Oper} {ev : Operand → Option T} {h : Nat → Option (List T)} {r : List Nat}
theorem Acts.give {d m n : Nat} {cs : List T} (hd : d ∉ r) (hc : idsL cs = []) (hl : n * m ≤ cs.length) (hA : Acts P o ev h r { val := .ref d m 0 n, puts := [(d, cs)] }) :
    Acts P o ev h r { val := .sl m .shr n (sub cs 0 (n * m)), puts := [(d, [])] } := by
  intro Γ σ β a w K Q hP hev hh hn hdst hs hK
  have hfr := hn (d, []) (by simp) (by simp)
  have h0 : σ.h d = none := hfr.2 hd
  have hS : ∀ u, (σ.s u).map (T.purge d) = σ.s u := fun u => by
    cases e : σ.s u with
    | none => rfl
    | some x => rw [Option.map_some, T.purge_id x (fun hm => hs.wfs u x e d hm h0)]
  have hH : ∀ j, (σ.h j).map (purgeL d) = σ.h j := fun j => by
    cases e : σ.h j with
    | none => rfl
    | some x => rw [Option.map_some, purgeL_id x (fun hm => hs.wfh j x e d hm h0)]
  refine hA Γ σ β a w K Q hP hev hh (fun p hp hq => ?_) hdst hs ?_
  · simp only [List.mem_singleton] at hp; subst hp; exact hfr
  rintro a' w' ⟨β', hs'⟩
  apply hK
  cases ho : o.dst with
  | none =>
    rw [ho] at hs'
    have hp := (hs'.drop d).phantom (id := d) (by simp [St.drop]) hfr.1
    refine ⟨_, cast (congrArg (fun τ => SimB Γ τ _ a' w') ?_) hp⟩
    refine St.ext' (fun u => ?_) (fun j => ?_)
    · simp only [Eff.apply, St.drops, St.puts, St.set, St.drop]; exact hS u
    · simp only [Eff.apply, St.drops, St.puts, St.set, St.drop, upd]
      split
      · rfl
      · exact hH j
  | some t =>
    rw [ho] at hs'
    have hz := hs'.frz (t := t) (i := d) (m := m) (o := 0) (n := n) (cs := cs) (by simp [Eff.apply, St.set, upd]) (by simp [Eff.apply, St.puts, St.set, St.drops, upd]) hc (by omega)
    have hp := hz.phantom (id := d) (by simp [St.drop]) hfr.1
    refine ⟨_, cast (congrArg (fun τ => SimB Γ τ _ a' w') ?_) hp⟩
    refine St.ext' (fun u => ?_) (fun j => ?_)
    · simp only [Eff.apply, St.drops, St.puts, St.set, St.drop, upd]
      split
      · rfl
      · rename_i hne
        exact hS u
    · simp only [Eff.apply, St.drops, St.puts, St.set, St.drop, upd]
      split
      · rfl
      · exact hH j
theorem Acts.givePt {d off : Nat} {cs : List T} (hd : d ∉ r) (hc : idsL cs = []) (hA : Acts P o ev h r { val := .addr d off, puts := [(d, cs)] }) :
    Acts P o ev h r { val := .pt .shr off cs, puts := [(d, [])] } := by
  intro Γ σ β a w K Q hP hev hh hn hdst hs hK
  have hfr := hn (d, []) (by simp) (by simp)
  have h0 : σ.h d = none := hfr.2 hd
  have hS : ∀ u, (σ.s u).map (T.purge d) = σ.s u := fun u => by
    cases e : σ.s u with
    | none => rfl
    | some x => rw [Option.map_some, T.purge_id x (fun hm => hs.wfs u x e d hm h0)]
  have hH : ∀ j, (σ.h j).map (purgeL d) = σ.h j := fun j => by
    cases e : σ.h j with
    | none => rfl
    | some x => rw [Option.map_some, purgeL_id x (fun hm => hs.wfh j x e d hm h0)]
  refine hA Γ σ β a w K Q hP hev hh (fun p hp hq => ?_) hdst hs ?_
  · simp only [List.mem_singleton] at hp; subst hp; exact hfr
  rintro a' w' ⟨β', hs'⟩
  apply hK
  cases ho : o.dst with
  | none =>
    rw [ho] at hs'
    have hp := (hs'.drop d).phantom (id := d) (by simp [St.drop]) hfr.1
    refine ⟨_, cast (congrArg (fun τ => SimB Γ τ _ a' w') ?_) hp⟩
    refine St.ext' (fun u => ?_) (fun j => ?_)
    · simp only [Eff.apply, St.drops, St.puts, St.set, St.drop]; exact hS u
    · simp only [Eff.apply, St.drops, St.puts, St.set, St.drop, upd]
      split
      · rfl
      · exact hH j
  | some t =>
    rw [ho] at hs'
    have hz := hs'.frzPt (t := t) (i := d) (off := off) (cs := cs) (by simp [Eff.apply, St.set, upd]) (by simp [Eff.apply, St.puts, St.set, St.drops, upd]) hc
    have hp := hz.phantom (id := d) (by simp [St.drop]) hfr.1
    refine ⟨_, cast (congrArg (fun τ => SimB Γ τ _ a' w') ?_) hp⟩
    refine St.ext' (fun u => ?_) (fun j => ?_)
    · simp only [Eff.apply, St.drops, St.puts, St.set, St.drop, upd]
      split
      · rfl
      · rename_i hne
        exact hS u
    · simp only [Eff.apply, St.drops, St.puts, St.set, St.drop, upd]
      split
      · rfl
      · exact hH j
theorem Acts.giveStay {d m off n : Nat} {cs : List T} (hr : d ∈ r) (hid : h d = some cs) (hc : idsL cs = []) (hl : off + n * m ≤ cs.length) (hA : Acts P o ev h r { val := .ref d m off n, puts := [(d, cs)], stay := [d] }) :
    Acts P o ev h r { val := .sl m .shr n (sub cs off (n * m)), drops := [d] } := by
  intro Γ σ β a w K Q hP hev hh hn hds hs hK
  refine hA Γ σ β a w K Q hP hev hh (fun p hp hq => ?_) hds hs ?_
  · simp only [List.mem_singleton] at hp; subst hp; exact absurd (List.mem_singleton.2 rfl) hq
  rintro a' w' ⟨β', hs'⟩
  apply hK
  cases ho : o.dst with
  | none =>
    rw [ho] at hs'
    refine ⟨_, cast (congrArg (fun τ => SimB Γ τ _ a' w') ?_) (hs'.drop d)⟩
    refine St.ext' (fun u => ?_) (fun j => ?_)
    · simp only [Eff.apply, St.drops, St.puts, St.set, St.drop]
    · simp only [Eff.apply, St.drops, St.puts, St.set, St.drop, upd]
      split
      · rfl
      · rfl
  | some t =>
    rw [ho] at hs'
    have hz := hs'.frz (t := t) (i := d) (m := m) (o := off) (n := n) (cs := cs) (by simp [Eff.apply, St.set, upd]) (by simp [Eff.apply, St.puts, St.set, St.drops, upd]) hc hl
    refine ⟨_, cast (congrArg (fun τ => SimB Γ τ _ a' w') ?_) hz⟩
    refine St.ext' (fun u => ?_) (fun j => ?_)
    · simp only [Eff.apply, St.drops, St.puts, St.set, St.drop, upd]
      split <;> rfl
    · simp only [Eff.apply, St.drops, St.puts, St.set, St.drop, upd]
      split
      · rfl
      · rename_i hj; rfl
theorem Acts.giveLook {d m off n : Nat} {cs : List T} (hr : d ∈ r) (hid : h d = some cs) (hc : idsL cs = []) (hl : off + n * m ≤ cs.length) (hA : Acts P o ev h r { val := .ref d m off n }) :
    Acts P o ev h r { val := .sl m .shr n (sub cs off (n * m)), drops := [d] } := by
  intro Γ σ β a w K Q hP hev hh hn hds hs hK
  have hσ : σ.h d = some cs := (hh d hr).trans hid
  refine hA Γ σ β a w K Q hP hev hh (fun p hp hq => by cases hp) hds hs ?_
  rintro a' w' ⟨β', hs'⟩
  apply hK
  cases ho : o.dst with
  | none =>
    rw [ho] at hs'
    refine ⟨_, cast (congrArg (fun τ => SimB Γ τ _ a' w') ?_) (hs'.drop d)⟩
    refine St.ext' (fun u => ?_) (fun j => ?_)
    · simp only [Eff.apply, St.drops, St.puts, St.set, St.drop]
    · simp only [Eff.apply, St.drops, St.puts, St.set, St.drop, upd]
  | some t =>
    rw [ho] at hs'
    have hz := hs'.frz (t := t) (i := d) (m := m) (o := off) (n := n) (cs := cs) (by simp [Eff.apply, St.set, upd]) (by simp [Eff.apply, St.puts, St.set, St.drops, hσ]) hc hl
    refine ⟨_, cast (congrArg (fun τ => SimB Γ τ _ a' w') ?_) hz⟩
    refine St.ext' (fun u => ?_) (fun j => ?_)
    · simp only [Eff.apply, St.drops, St.puts, St.set, St.drop, upd]
      split <;> rfl
    · simp only [Eff.apply, St.drops, St.puts, St.set, St.drop, upd]
theorem acts_slicePt {ty el : TypeId} {x : Operand} {lo hi mx : Option Operand} {rl rh rm : Option Int} {off N l hh' mm : Nat} {g : Tag} {cs : List T} {i i' : TI} (ho : o.op = .slice ty x lo hi mx) (hx : ev x = some (.pt g off cs)) (hlo : evB ev lo = some rl) (hhi : evB ev hi = some rh) (hmx : evB ev mx = some rm)
    (ht : TOk P ty i) (hk : i.k = .array N el) (he : TOk P el i') (hl : off + N * i'.size ≤ cs.length) (hc : cutOk rl rh rm N l hh' mm) : Acts P o ev h r { val := .sl i'.size g (hh' - l) (sub cs (off + l * i'.size) ((hh' - l) * i'.size)) } := by
  refine acts_value fun Γ σ β a w hP hev hh hs => ?_
  have e : σ.ev x = some (.pt g off cs) := by rw [hev x (operands_slice ho (.inl rfl)), hx]
  have bl := evB_run hs (show evB σ.ev lo = some rl by rw [evB_congr fun y hy => hev y (operands_slice ho (.inr (.inl hy))), hlo])
  have bh := evB_run hs (show evB σ.ev hi = some rh by rw [evB_congr fun y hy => hev y (operands_slice ho (.inr (.inr (.inl hy)))), hhi])
  have bm := evB_run hs (show evB σ.ev mx = some rm by rw [evB_congr fun y hy => hev y (operands_slice ho (.inr (.inr (.inr hy)))), hmx])
  obtain ⟨d, h3, h4, _⟩ := ht.und
  rw [hk] at h4; simp only [kOk] at h4; subst h4
  have hrep := hs.ev e
  simp only [Rep] at hrep
  obtain ⟨g2, b, ob, hv, g5, g6⟩ := hrep
  have hc' := hc
  obtain ⟨c1, c2, c3, c4, c5, c6, c7⟩ := hc'
  have hbd := run_bounds (P := P) w false bl bh bm hc (Nat.le_refl N)
  refine ⟨.slice (some (if (if mx = none then N else mm) = l then ⟨b, ob + off, none⟩ else (⟨b, ob + off, none⟩ : Addr).add (l * i'.size))) (hh' - l) ((if mx = none then N else mm) - l), ?_, ?_, by simp [T.ids]⟩
  · simp only [execOp, ho, hv]
    refine run_v ?_
    simp only [Instr.sliceAt, Sem.run_bind, run_underlying h3, Result.andThen_ok, Instr.sureAddr, Sem.run_pure, hbd, he.size w]
  · have hle : (if mx = none then N else mm) ≤ N := by split <;> omega
    have hlm : l ≤ (if mx = none then N else mm) := by split <;> omega
    have hhm : hh' ≤ (if mx = none then N else mm) := by split <;> omega
    have hln : l * i'.size + (hh' - l) * i'.size ≤ N * i'.size := by
      rw [← Nat.add_mul]; exact Nat.mul_le_mul_right _ (by omega)
    simp only [Rep]
    refine ⟨⟨by simp [sub]; omega, ?_⟩, _, _, rfl, by omega, ?_⟩
    · refine List.eq_nil_iff_forall_not_mem.2 fun q hq => ?_
      have := ids_sub _ _ q hq
      rw [g2] at this; simp at this
    · by_cases hz : hh' - l = 0
      · exact .inl hz
      · right
        rw [if_neg (by omega)]
        obtain ⟨vs, g7, g8⟩ := g6.open_
        refine ⟨b, ob + (off + l * i'.size), by simp [addr_add, Nat.add_assoc], g5, RepAt.shut (vs := (vs.drop (off + l * i'.size)).take ((hh' - l) * i'.size)) ((g7.drop _).take _) ((g8.drop _).take _)⟩
theorem acts_arrayAtSl {arr el : TypeId} {x : Operand} {m n N : Nat} {g : Tag} {cs : List T} {i : TI} (ho : o.op = .sliceToArrayPointer arr x) (hx : ev x = some (.sl m g n cs)) (ht : TOk P arr i) (hk : i.k = .array N el) (h0 : 0 < N) (h1 : N ≤ n) : Acts P o ev h r { val := .pt g 0 cs } := by
  refine acts_value fun Γ σ β a w hP hev hh hsim => ?_
  have e : σ.ev x = some (.sl m g n cs) := by rw [hev x (by simp [ho, Op.operands]), hx]
  have hrep := hsim.ev e
  simp only [Rep] at hrep
  obtain ⟨⟨h2, h2'⟩, ad, cap, h3, h4, h4'⟩ := hrep
  obtain ⟨b, ob, rfl, h7, h8⟩ := h4'.resolve_left (by omega)
  obtain ⟨d, h5, h6, _⟩ := ht.und
  rw [hk] at h6; simp only [kOk] at h6; subst h6
  refine ⟨.pointer (some ⟨b, ob, none⟩), ?_, by simp only [Rep]; exact ⟨h2', b, ob, rfl, h7, h8⟩, by simp [T.ids]⟩
  simp only [execOp, ho]
  refine run_v ?_
  rw [h3]
  exact run_arrayAt w arr el N _ n cap h5 h1
theorem acts_arrayAtRef {arr el : TypeId} {x : Operand} {id m off n N : Nat} {i : TI} (ho : o.op = .sliceToArrayPointer arr x) (hx : ev x = some (.ref id m off n)) (ht : TOk P arr i) (hk : i.k = .array N el) (h0 : 0 < N) (h1 : N ≤ n) : Acts P o ev h r { val := .addr id off } := by
  refine acts_value fun Γ σ β a w hP hev hh hsim => ?_
  have e : σ.ev x = some (.ref id m off n) := by rw [hev x (by simp [ho, Op.operands]), hx]
  have hrep := hsim.ev e
  simp only [Rep] at hrep
  cases hb : β id with
  | ph => rw [hb] at hrep; obtain ⟨_, rfl, _⟩ := hrep; omega
  | real b ob E =>
    rw [hb] at hrep
    obtain ⟨ad, cap, h3, h4, h4', h4''⟩ := hrep
    have had : ad = some ⟨b, ob + off, none⟩ := h4''.resolve_left (by omega)
    subst had
    obtain ⟨d, h5, h6, _⟩ := ht.und
    rw [hk] at h6; simp only [kOk] at h6; subst h6
    refine ⟨.pointer (some ⟨b, ob + off, none⟩), ?_, by simp [Rep, hb], by simpa [T.ids] using hsim.ev_ids e⟩
    simp only [execOp, ho]
    refine run_v ?_
    rw [h3]
    exact run_arrayAt w arr el N _ n cap h5 h1
def LeT (a b : T) : Prop := (∀ w ok β v, Rep w ok a β v → Rep w ok b β v) ∧ ∀ i ∈ b.ids, i ∈ a.ids
theorem SimB.slotLeT {Γ : Cx} {σ : St} {β : Nat → Real} {a : Act} {w : World} (hs : SimB Γ σ β a w) {t : Nat} {x y : T} (hx : σ.s t = some x) (h : LeT x y) : SimB Γ { σ with s := upd σ.s t (some y) } β a w := by
  refine ⟨hs.defers, hs.size, hs.keeps, fun u z e => ?_, hs.obj, hs.inj, hs.ownb, fun u z e => ?_, hs.wfh, hs.stab⟩
  · simp only [upd] at e
    split at e
    · rename_i e'; subst e'; injection e with e; subst e
      obtain ⟨v, h1, h2⟩ := hs.slot _ _ hx
      exact ⟨v, h1, h.1 _ _ _ _ h2⟩
    · exact hs.slot u z e
  · simp only [upd] at e
    split at e
    · injection e with e; subst e; exact fun i hi => hs.wfs _ _ hx i (h.2 i hi)
    · exact hs.wfs u z e
theorem Acts.leT {e : Eff} {v : T} (hv : LeT e.val v) (hA : Acts P o ev h r e) : Acts P o ev h r { val := v, drops := e.drops, puts := e.puts, stay := e.stay } := by
  intro Γ σ β a w K Q hP hev hh hn hds hs hK
  refine hA Γ σ β a w K Q hP hev hh hn hds hs ?_
  rintro a' w' ⟨β', hs'⟩
  apply hK
  cases ho : o.dst with
  | none =>
    rw [ho] at hs'
    exact ⟨_, hs'⟩
  | some t =>
    rw [ho] at hs'
    have hz := hs'.slotLeT (t := t) (x := e.val) (y := v) (by simp [Eff.apply, St.set, upd]) hv
    refine ⟨_, cast (congrArg (fun τ => SimB Γ τ _ a' w') ?_) hz⟩
    refine St.ext' (fun u => ?_) (fun j => ?_)
    · simp only [Eff.apply, St.set, upd]
      split <;> rfl
    · simp only [Eff.apply, St.set, upd]
def LeC (a b : List T) : Prop := (∀ w ok β vs, RepL w ok a β vs → RepL w ok b β vs) ∧ (∀ i ∈ idsL b, i ∈ idsL a) ∧ b.length = a.length
theorem SimB.objLeT {Γ : Cx} {σ : St} {β : Nat → Real} {a : Act} {w : World} (hs : SimB Γ σ β a w) {i : Nat} {cs cs' : List T} (hi : σ.h i = some cs) (h : LeC cs cs') : SimB Γ { σ with h := upd σ.h i (some cs') } β a w := by
  have hkey : ∀ j, (upd σ.h i (some cs') j).isSome = (σ.h j).isSome := fun j => by
    simp only [upd]; split
    · rename_i e; subst e; rw [hi]; rfl
    · rfl
  have ho : own { σ with h := upd σ.h i (some cs') } β = own σ β := funext fun b => propext ⟨fun ⟨id, c, o, E, h1, h2⟩ => by
      have := hkey id
      rw [show upd σ.h i (some cs') id = some c from h1] at this
      cases q : σ.h id with
      | none => rw [q] at this; cases this
      | some c' => exact ⟨id, c', o, E, q, h2⟩,
    fun ⟨id, c, o, E, h1, h2⟩ => by
      have := hkey id
      rw [h1] at this
      cases q : upd σ.h i (some cs') id with
      | none => rw [q] at this; cases this
      | some c' => exact ⟨id, c', o, E, q, h2⟩⟩
  have hk : okOf Γ.X { σ with h := upd σ.h i (some cs') } β w = okOf Γ.X σ β w := by
    funext g b; simp only [okOf, ho]
  have hsome : ∀ j, σ.h j ≠ none → upd σ.h i (some cs') j ≠ none := fun j hj hn => by
    have := hkey j
    rw [hn] at this
    cases q : σ.h j with
    | none => exact hj q
    | some c => rw [q] at this; cases this
  refine ⟨hs.defers, hs.size, hs.keeps, fun t x e => ?_, fun id c e => ?_, fun id id' c c' b o E o' E' e e' => ?_, fun b hb => hs.ownb b (by rw [← ho]; exact hb), fun t x e j hj => hsome j (hs.wfs t x e j hj), fun id c e j hj => ?_, hs.stab⟩
  · rw [hk]; exact hs.slot t x e
  · rw [hk]
    simp only [upd] at e
    split at e
    · rename_i e'; subst e'; injection e with e; subst e
      have := hs.obj _ _ hi
      cases q : β id with
      | ph =>
        rw [q] at this
        simp only [ObjAt] at this ⊢
        subst this
        exact List.length_eq_zero_iff.1 (by rw [h.2.2]; rfl)
      | real b o E =>
        rw [q] at this
        simp only [ObjAt] at this ⊢
        obtain ⟨c, e, fr, vs, h1, h2, h3, h4, h5, h6⟩ := this
        exact ⟨c, e, fr, vs, h1, h2, by rw [h.2.2]; exact h3, h4, h.1 _ _ _ _ h5, h6⟩
    · exact hs.obj id c e
  · intro h1 h2
    have k1 := hkey id; have k2 := hkey id'
    rw [show upd σ.h i (some cs') id = some c from e] at k1
    rw [show upd σ.h i (some cs') id' = some c' from e'] at k2
    cases q1 : σ.h id with
    | none => rw [q1] at k1; cases k1
    | some d1 =>
      cases q2 : σ.h id' with
      | none => rw [q2] at k2; cases k2
      | some d2 => exact hs.inj id id' d1 d2 b o E o' E' q1 q2 h1 h2
  · simp only [upd] at e
    split at e
    · rename_i e'; subst e'; injection e with e; subst e
      exact hsome j (hs.wfh _ _ hi j (h.2.1 j hj))
    · exact hsome j (hs.wfh _ _ e j hj)
theorem Acts.leC {d : Nat} {cs cs' : List T} {v : T} (hc : LeC cs cs') (hA : Acts P o ev h r { val := v, puts := [(d, cs)] }) : Acts P o ev h r { val := v, puts := [(d, cs')] } := by
  intro Γ σ β a w K Q hP hev hh hn hds hs hK
  refine hA Γ σ β a w K Q hP hev hh (fun p hp hq => ?_) hds hs ?_
  · simp only [List.mem_singleton] at hp; subst hp
    exact hn (d, cs') (by simp) hq
  rintro a' w' ⟨β', hs'⟩
  apply hK
  have hz := hs'.objLeT (i := d) (cs := cs) (cs' := cs') (by cases o.dst <;> simp [Eff.apply, St.puts, St.set, St.drops, upd]) hc
  refine ⟨_, cast (congrArg (fun τ => SimB Γ τ _ a' w') ?_) hz⟩
  cases o.dst with
  | none =>
    refine St.ext' (fun u => ?_) (fun j => ?_)
    · simp only [Eff.apply, St.drops, St.puts, St.set]
    · simp only [Eff.apply, St.drops, St.puts, St.set, upd]
      split <;> rfl
  | some t =>
    refine St.ext' (fun u => ?_) (fun j => ?_)
    · simp only [Eff.apply, St.drops, St.puts, St.set, upd]
    · simp only [Eff.apply, St.drops, St.puts, St.set, upd]
      split <;> rfl
end
end Go.Vw
namespace Go.Vw
open Go Go.RowKit
section
variable {P : Program} {o : Oper} {ev : Operand → Option T} {h : Nat → Option (List T)} {reads : List Nat}
theorem run_append_make {t u ty el : TypeId} {i' : TI} {kk k' : IntKind} (ht : P.underlying t = some (.slice el)) (hu : P.underlying u = some (.int kk)) (he : TOk P el i') (hzl : i'.zero.length = i'.size) {ad : Option Addr} {n : Int} {w : World}
    (h0 : 0 ≤ n) (hb : n * i'.bytes ≤ 140737488355328) (hp : 0 < i'.bytes) :
    (n = 0 ∧ (Builtin.append_ #[t, u] ty #[.slice ad 0 0, .int k' n]).run P w = .ok (.slice ad 0 0) w) ∨
    (0 < n ∧ ∃ C, n.toNat ≤ C ∧ (Builtin.append_ #[t, u] ty #[.slice ad 0 0, .int k' n]).run P w = .ok (.slice (some ⟨w.heap.size, 0, none⟩) n.toNat C) (w.drew.alloc (.cells ((Builtin.zeroCells i'.zero.toArray n.toNat) ++ Builtin.zeroCells i'.zero.toArray (C - n.toNat)) el))) := by
  obtain ⟨j, q1, q2, q3, z, q4, q5⟩ := he.info
  have hz : ∀ w : World, (sizeOf el).run P w = .ok i'.size w := he.size
  have hn63 : n ≤ 140737488355328 := by
    have : n * 1 ≤ n * i'.bytes := Int.mul_le_mul_of_nonneg_left (by omega) h0
    omega
  have wn : IntKind.i64.wrap n = n := by simp [IntKind.wrap, IntKind.bits, IntKind.signed]; omega
  have h48 : ¬ (281474976710656 < n * (i'.bytes : Int)) := by omega
  have hneg : ¬ n < 0 := by omega
  by_cases c : n = 0
  · subst c
    left
    refine ⟨rfl, ?_⟩
    cases ad with
    | none => simp [Builtin.append_, run_underlying ht, run_underlying hu, sizeOf, typeInfo, q1, q2, q3, asInt, asIntOf, wn]
    | some a => simp [Builtin.append_, run_underlying ht, run_underlying hu, sizeOf, typeInfo, q1, q2, q3, asInt, asIntOf, wn, storeCells]
  · right
    refine ⟨by omega, grownCap w n.toNat 0 el, grownCap_ge w n.toNat 0 el, ?_⟩
    have hfit := growslice_fits (need := n.toNat) (old := 0) (bytes := i'.bytes) (by omega) (by
      have : ((n.toNat * i'.bytes : Nat) : Int) ≤ 140737488355328 := by rw [Int.natCast_mul, Int.toNat_of_nonneg h0]; exact hb
      omega)
    have h48' : ¬ (281474976710656 < Builtin.nextslicecap n.toNat 0 * i'.bytes) := by omega
    have hnn : ¬ n.toNat ≤ 0 := by omega
    have h63' : ¬ (9223372036854775807 < ((n.toNat : Nat) : Int)) := by omega
    have hold : (Builtin.firstCells i'.size 0 (.slice ad 0 0)).run P w.drew = .ok #[] w.drew := by
      cases ad <;> simp [Builtin.firstCells, loadCells, loadCellsFrom]
    have ez : z.cells.size = i'.size := by rw [q5]; simpa using hzl
    have ez2 : z.cells = i'.zero.toArray := by rw [q5]
    have e0 : n.toNat * i'.size = 0 → Builtin.zeroCells i'.zero.toArray n.toNat = #[] := fun e => by
      simp [Builtin.zeroCells, hzl, e]
    have hint : ¬ n ≤ 0 := by omega
    have hmax : ¬ (9223372036854775807 < max n 0) := by omega
    have hmax2 : max n 0 ≤ 9223372036854775807 := by omega
    by_cases cz : n.toNat * i'.size = 0
    · rw [e0 cz]
      simp [Builtin.append_, run_underlying ht, run_underlying hu, sizeOf, typeInfo, zeroValue, q1, q2, q3, q4, asInt, asIntOf, wn, hneg, h48, h48', hnn, hint, h63', Question.forced, newRow, grownCap, hold, cz, ez2, c, hmax]
    · simp [Builtin.append_, run_underlying ht, run_underlying hu, sizeOf, typeInfo, zeroValue, q1, q2, q3, q4, asInt, asIntOf, wn, hneg, h48, h48', hnn, hint, h63', Question.forced, newRow, grownCap, hold, cz, ez2, c, hmax]
theorem acts_appendMake {t u el : TypeId} {x y : Operand} {d : Nat} {b0 : T} {k' kk : IntKind} {n : Int} {i i' : TI} (ho : o.op = .call { callee := .builtin .append, args := #[x, y], argTypes := #[t, u] }) (hx : ev x = some b0) (hb0 : b0 = .leaf (.slice none 0 0) ∨ b0 = .e0) (hy : ev y = some (.leaf (.int k' n)))
    (ht : TOk P t i) (hk : i.k = .slice el) (hu : ∃ j, TOk P u j ∧ j.k = .int kk) (he : TOk P el i') (hz : i'.zero.length = i'.size) (h0 : 0 ≤ n) (hb : n * i'.bytes ≤ 140737488355328) (hp : 0 < i'.bytes) (hd : d ∉ reads) :
    Acts P o ev h reads { val := .ref d i'.size 0 n.toNat, puts := [(d, zerosT i'.zero n.toNat)] } := by
  refine acts_of fun Γ σ β a w hP hev hh hn hs => ?_
  have hd' : σ.h d = none := (hn (d, zerosT i'.zero n.toNat) (by simp) (by simp)).2 hd
  have hdS := (hn (d, zerosT i'.zero n.toNat) (by simp) (by simp)).1
  have e1 : σ.ev x = some b0 := by rw [hev x (by simp [ho, Op.operands, Call.operands]), hx]
  have e2 : a.eval y = .int k' n := by simpa [Rep] using hs.ev (show σ.ev y = some (.leaf (.int k' n)) by rw [hev y (by simp [ho, Op.operands, Call.operands]), hy])
  obtain ⟨dd, h6, h7, _⟩ := ht.und
  rw [hk] at h7; simp only [kOk] at h7; subst h7
  obtain ⟨j, hj, hjk⟩ := hu
  obtain ⟨d2, h8, h9, _⟩ := hj.und
  rw [hjk] at h9; simp only [kOk] at h9; subst h9
  have hv : ∃ ad, a.eval x = .slice ad 0 0 := by
    have := hs.ev e1
    rcases hb0 with rfl | rfl
    · exact ⟨none, by simpa [Rep] using this⟩
    · simpa [Rep] using this
  obtain ⟨ad, hv⟩ := hv
  have hexec : ∀ r w', (Builtin.append_ #[t, u] o.type #[.slice ad 0 0, .int k' n]).run P w = .ok r w' → (execOp a.eval o).run P w = .ok (.value r) w' := fun r w' hr => by
    simp only [execOp, ho, resolve, Sem.run_bind, Sem.run_pure, Result.andThen_ok, invoke, builtin]
    simp [hv, e2, hr]
  have hlz := zerosT_length i'.zero n.toNat
  rw [hz] at hlz
  rcases run_append_make (ty := o.type) (ad := ad) (k' := k') (w := w) h6 h8 he hz h0 hb hp with ⟨g1, g2⟩ | ⟨g1, C, g2, g3⟩
  · subst g1
    have ez : zerosT i'.zero (Int.toNat 0) = [] := List.length_eq_zero_iff.1 (by rw [hlz]; simp)
    rw [ez]
    refine ⟨.slice ad 0 0, w, _, .inl (hexec _ _ g2), hs.phantom hd' hdS, ?_, by simp [T.ids, St.puts, St.drops, upd]⟩
    simp [Rep, reals]
  · have hrz : RepL w (okOf Γ.X σ β w) (zerosT i'.zero n.toNat) β (Builtin.zeroCells i'.zero.toArray n.toNat).toList := by
      have := RepL.zeros (w := w) (ok := okOf Γ.X σ β w) (β := β) i'.zero n.toNat
      simpa [Builtin.zeroCells] using this
    have hsim := hs.newRow (el := el) (z := i'.zero.toArray) (C := C) hd' hdS (by simpa using hz) g2 hlz hrz (by simp [idsL_zerosT])
    simp only [Array.toArray_toList] at hsim
    refine ⟨_, _, _, .inl (hexec _ _ g3), hsim, ?_, by simp [T.ids, St.puts, St.drops, upd]⟩
    simp only [Rep, reals, if_true]
    refine ⟨_, C, rfl, g2, by omega, .inr rfl⟩
end
end Go.Vw

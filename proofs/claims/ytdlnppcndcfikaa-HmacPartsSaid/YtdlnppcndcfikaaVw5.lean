/- Stores, aggregates, slices. -/
import Derived.Test.YtdlnppcndcfikaaVw4
namespace Go.Vw
set_option linter.unusedVariables false
set_option linter.unusedSimpArgs false
open Go Go.RowKit

def splice (cs : List T) (off : Nat) (new : List T) : List T := cs.take off ++ new ++ cs.drop (off + new.length)

def spliceV (vs : List Value) (off : Nat) (new : List Value) : List Value := vs.take off ++ new ++ vs.drop (off + new.length)

theorem splice_length {cs new : List T} {off : Nat} (h : off + new.length ≤ cs.length) : (splice cs off new).length = cs.length := by
  simp [splice]; omega

theorem spliceV_get {vs new : List Value} {off : Nat} (h : off + new.length ≤ vs.length) (i : Nat) : (spliceV vs off new)[i]? = if off ≤ i ∧ i < off + new.length then new[i - off]? else vs[i]? := by
  unfold spliceV
  rw [List.append_assoc, List.getElem?_append]
  have h1 : (vs.take off).length = off := by simp; omega
  rw [h1]
  split
  · rename_i hi
    rw [if_neg (by omega), List.getElem?_take, if_pos hi]
  · rename_i hi
    rw [List.getElem?_append]
    split
    · rename_i h2; rw [if_pos (by omega)]
    · rename_i h2; rw [if_neg (by omega), List.getElem?_drop]; congr 1; omega

theorem RepL.splice {w : World} {ok : Tag → Nat → Prop} {β : Nat → Real} {cs new : List T} {vs nv : List Value} (off : Nat) (h : RepL w ok cs β vs) (k : RepL w ok new β nv) : RepL w ok (Vw.splice cs off new) β (spliceV vs off nv) := by
  unfold Vw.splice spliceV
  rw [k.length]
  exact ((h.take off).append k).append (h.drop _)

theorem ids_append (a b : List T) : ∀ i, i ∈ idsL (a ++ b) ↔ i ∈ idsL a ∨ i ∈ idsL b := by
  induction a with
  | nil => simp [idsL]
  | cons t ts ih => intro i; simp only [List.cons_append, idsL, List.mem_append, ih i, or_assoc]

theorem ids_splice {cs new : List T} {off : Nat} : ∀ i ∈ idsL (splice cs off new), i ∈ idsL cs ∨ i ∈ idsL new := by
  intro i hi
  unfold splice at hi
  rw [ids_append, ids_append] at hi
  rcases hi with (hi | hi) | hi
  · exact .inl (ids_take _ i hi)
  · exact .inr hi
  · exact .inl (ids_drop _ i hi)

section
variable {P : Program} {o : Oper} {ev : Operand → Option T} {h : Nat → Option (List T)} {reads : List Nat} {ti : TypeId → TI}

theorem heap_setCells (b : Nat) : ∀ (vs : List Value) (o : Nat) (w : World) (c : Array Value) (e : TypeId) (fr : Nat × Nat), w.heap[b]? = some (.cells c e fr) → ∃ c', (w.setCells b o vs).heap[b]? = some (.cells c' e fr) ∧ c'.size = c.size
  | [], _, _, c, _, _, h => ⟨c, h, rfl⟩
  | v :: r, o, w, c, e, fr, h => by
    have h1 : (w.setCell ⟨b, o, none⟩ v).heap[b]? = some (.cells (c.setIfInBounds o v) e fr) := by
      simp [World.setCell, Array.getElem?_modify, h]
    obtain ⟨c', h2, h3⟩ := heap_setCells b r (o + 1) _ _ e fr h1
    exact ⟨c', h2, by simpa using h3⟩

theorem keeps_setCells (b : Nat) : ∀ (vs : List Value) (o : Nat) (w : World), Keeps (fun x => x = b) w (w.setCells b o vs)
  | [], _, w => Keeps.refl _ w
  | v :: r, o, w => by
    have h1 : Keeps (fun x => x = b) w (w.setCell ⟨b, o, none⟩ v) := ⟨rfl, rfl, rfl, by simp [World.setCell], fun x hx hn => Below.heap_setCell _ _ _ _ hn⟩
    exact h1.trans (keeps_setCells b r (o + 1) _) (fun _ _ h => h)

theorem NoFrost.set {w : World} {b n : Nat} (h : NoFrost w b n) (o : Nat) (vs : List Value) : NoFrost (w.setCells b o vs) b n := by
  intro c' e' lo hi q
  cases hb : w.heap[b]? with
  | none =>
    exfalso
    have hs := (keeps_setCells b vs o w)
    have : ∀ (vs : List Value) (o : Nat) (w : World), w.heap[b]? = none → (w.setCells b o vs).heap[b]? = none := by
      intro vs
      induction vs with
      | nil => intro o w h; exact h
      | cons v r ih => intro o w h; exact ih (o + 1) _ (by simp [World.setCell, Array.getElem?_modify, h])
    rw [this vs o w hb] at q; cases q
  | some ob =>
    cases ob with
    | cells c e fr =>
      obtain ⟨c2, h1, _⟩ := heap_setCells b vs o w c e fr hb
      rw [h1] at q
      simp only [Option.some.injEq, Obj.cells.injEq] at q
      obtain ⟨rfl, rfl, rfl⟩ := q
      exact h _ _ _ _ hb
    | _ =>
      exfalso
      have : ∀ (vs : List Value) (o : Nat) (w : World), (∀ c e fr, w.heap[b]? ≠ some (.cells c e fr)) → ∀ c e fr, (w.setCells b o vs).heap[b]? ≠ some (.cells c e fr) := by
        intro vs
        induction vs with
        | nil => intro o w h; exact h
        | cons v r ih =>
          intro o w h
          refine ih (o + 1) _ fun c e fr q => ?_
          simp only [World.setCell, Array.getElem?_modify, if_true] at q
          cases hq : w.heap[b]? with
          | none => rw [hq] at q; cases q
          | some ob =>
            rw [hq] at q
            cases ob with
            | cells c1 e1 fr1 => exact h _ _ _ hq
            | _ => cases q
      exact this vs o w (by intro c e fr; rw [hb]; simp) _ _ _ q

/-- Cells of an object's block are written; the object's cells are then these. -/
theorem SimB.write {Γ : Cx} {σ : St} {β : Nat → Real} {a : Act} {w : World} (hs : SimB Γ σ β a w) {id : Nat} {cs cs' new : List T} {nv : List Value} (hid : σ.h id = some cs) {b ob E : Nat} (hr : β id = .real b ob E) (off : Nat)
    (hE : off + nv.length ≤ E) (hnv : RepL w (okOf Γ.X σ β w) new β nv) (hsc : scalL new = true) (hi : ∀ i ∈ idsL cs', σ.h i ≠ none)
    (hcs : ∀ vs, RepL w (okOf Γ.X σ β w) cs β vs → ∃ vs', RepL w (okOf Γ.X σ β w) cs' β vs' ∧ ∀ i v, vs'[i]? = some v → if off ≤ i ∧ i < off + nv.length then nv[i - off]? = some v else vs[i]? = some v) (hl : cs'.length ≤ E) :
    (storeCells ⟨b, ob + off, none⟩ nv).run Γ.P w = .ok () (w.setCells b (ob + off) nv) ∧ SimB Γ { σ with h := upd σ.h id (some cs') } β a (w.setCells b (ob + off) nv) := by
  obtain ⟨c, el, fr, vs, h1, h2, h3, h4, h5, h6⟩ := obj_open hs hid hr
  have hex : ∀ j, j < c.size → (w.cell? ⟨b, j, none⟩).isSome = true := fun j hj => by simp [World.cell?, h1, hj]
  constructor
  · have := run_storeCells_cells (P := Γ.P) b (ob + off) nv 0 w (fun j hj => by simpa using hex _ (by omega)) (fun j hj => by simpa using h4.get (by omega)) (hnv.one hsc)
    simpa using this
  · obtain ⟨c', hc1, hc2⟩ := heap_setCells b nv (ob + off) w c el fr h1
    obtain ⟨vs', hv1, hv2⟩ := hcs vs h5
    refine hs.change hid hr (keeps_setCells b nv (ob + off) w) hc1 (by omega) hl (by rw [hc2]; exact h4.set _ _) hv1 (fun i v hv => ?_) hi
    have := hv2 i v hv
    split at this
    · rename_i hb
      have := World.cell?_setCells_in b nv (ob + off) w (fun j hj => by simpa using hex _ (by omega)) (i - off) (by omega)
      rw [show ob + off + (i - off) = ob + i from by omega] at this
      rw [this]
      rename_i h7
      obtain ⟨_, h8⟩ := List.getElem?_eq_some_iff.1 h7
      simp [h8]
    · rename_i hb
      rw [World.cell?_setCells_out b nv (ob + off) w _ (fun _ _ => by simp; omega)]
      exact h6 i v this

theorem acts_store {ty : TypeId} {i : TI} {x y : Operand} {id off : Nat} {cs : List T} {v : T} (ho : o.op = .store ty x y) (ht : TOk P ty i) (hx : ev x = some (.addr id off)) (hy : ev y = some v) (hr : id ∈ reads) (hid : h id = some cs)
    (hv : v.cellOk = true) (hsc : scalL v.cells = true) (hl : v.cells.length = i.size) (hb : off + v.cells.length ≤ cs.length) : Acts P o ev h reads { val := .dead, puts := [(id, splice cs off v.cells)], stay := [id] } := by
  refine acts_of fun Γ σ β a w hP hev hh hn hs => ?_
  have e : σ.ev x = some (.addr id off) := by rw [hev x (by simp [ho, Op.operands]), hx]
  have e2 : σ.ev y = some v := by rw [hev y (by simp [ho, Op.operands]), hy]
  have hid' : σ.h id = some cs := by rw [hh id hr, hid]
  have hrep := hs.ev e
  simp only [Rep] at hrep
  cases hbr : β id with
  | ph => rw [hbr] at hrep; exact hrep.elim
  | real b ob E =>
    rw [hbr] at hrep
    have hnv := (hs.ev e2).cells hv
    have hnl : (a.eval y).cells.toList.length = v.cells.length := hnv.length
    obtain ⟨c, el, fr, vs0, h1, h2, h3, h4, h5, h6⟩ := obj_open hs hid' hbr
    obtain ⟨hrun, hsim⟩ := hs.write (cs' := splice cs off v.cells) hid' hbr off (nv := (a.eval y).cells.toList) (by rw [hnl]; omega) hnv hsc
      (fun j hj => (ids_splice j hj).elim (hs.wfh id cs hid' j) (fun hj => hs.ev_ids e2 j (T.cells_ids v j hj)))
      (fun vs hvs => ⟨spliceV vs off (a.eval y).cells.toList, hvs.splice off hnv, fun j u hu => by
        rw [spliceV_get (by rw [hvs.length, hnl]; exact hb)] at hu
        by_cases hj : off ≤ j ∧ j < off + (a.eval y).cells.toList.length
        · rw [if_pos hj] at hu ⊢; exact hu
        · rw [if_neg hj] at hu ⊢; exact hu⟩) (by rw [splice_length hb]; exact h3)
    refine ⟨undef, _, β, .inr ⟨?_, rfl⟩, hsim, by simp [Rep], by simp [T.ids]⟩
    have hz := ht.size w
    have hsz : (a.eval y).cells.size = i.size := by rw [← hl, ← hnl]; simp
    rw [hP] at hrun
    simp only [execOp, ho, Instr.storeAt, hrep, Instr.sureAddr, storeVar, Sem.run_bind, Sem.run_pure, Result.andThen_ok, hz]
    simp [hsz, hrun]

/-! ### Aggregates, made -/

def fillT (place : Nat → Option (Nat × Nat)) (cs : List T) : List (Nat × T) → Option (List T)
  | [] => some cs
  | (i, v) :: rest =>
    match place i with
    | none => none
    | some (off, size) => if v.cellOk = true ∧ v.cells.length = size ∧ off + size ≤ cs.length then fillT place (splice cs off v.cells) rest else none

theorem foldl_set (off : Nat) : ∀ (new : List Value) (k : Nat) (c : Array Value), off + k + new.length ≤ c.size →
    ((new.zipIdx k).foldl (fun cs (x : Value × Nat) => cs.setIfInBounds (off + x.2) x.1) c).toList = spliceV c.toList (off + k) new
  | [], k, c, h => by simp [spliceV]
  | v :: r, k, c, h => by
    simp only [List.length_cons] at h
    simp only [List.zipIdx_cons, List.foldl_cons]
    rw [foldl_set off r (k + 1) _ (by simp; omega)]
    apply List.ext_getElem?
    intro i
    rw [spliceV_get (by simp; omega), spliceV_get (by simp; omega)]
    simp only [Array.toList_setIfInBounds, List.getElem?_set, List.length_cons, Array.length_toList]
    by_cases h1 : i = off + k
    · subst h1
      rw [if_neg (by omega), if_pos (by omega)]
      simp
      omega
    · by_cases h2 : off + k + 1 ≤ i ∧ i < off + k + 1 + r.length
      · rw [if_pos (by omega), if_pos (by omega)]
        rw [show i - (off + k) = (i - (off + (k + 1))) + 1 from by omega]
        simp
      · rw [if_neg (by omega), if_neg (by omega), if_neg (by omega)]

theorem zipIdx_foldl_arr (off : Nat) (new c : Array Value) (h : off + new.size ≤ c.size) :
    (new.zipIdx.foldl (fun cs (x : Value × Nat) => cs.setIfInBounds (off + x.2) x.1) c) = (spliceV c.toList off new.toList).toArray := by
  apply Array.ext'
  rw [← Array.foldl_toList, Array.toList_zipIdx]
  have := foldl_set off new.toList 0 c (by simpa using h)
  simpa using this

theorem fill_run {place : Nat → Option (Nat × Nat)} {w : World} {ok : Tag → Nat → Prop} {β : Nat → Real} : ∀ {parts : List (Nat × T)} {pv : List (Nat × Value)} {cs cs' : List T} {c : Array Value},
    fillT place cs parts = some cs' → RepL w ok cs β c.toList → (∀ j : Nat, (∃ i t v, parts[j]? = some (i, t) ∧ pv[j]? = some (i, v) ∧ Rep w ok t β v) ∨ (parts[j]? = none ∧ pv[j]? = none)) →
    ∃ c', Instr.fill place c pv = some c' ∧ RepL w ok cs' β c'.toList
  | [], pv, cs, cs', c, h, hr, hp => by
    simp only [fillT, Option.some.injEq] at h; subst h
    have : pv = [] := by
      rcases hp 0 with ⟨_, _, _, h, _⟩ | ⟨_, h⟩
      · simp at h
      · cases pv <;> simp_all
    subst this
    exact ⟨c, rfl, hr⟩
  | (i, t) :: rest, pv, cs, cs', c, h, hr, hp => by
    rcases hp 0 with ⟨i', t', v, h1, h2, h3⟩ | ⟨h1, _⟩
    · simp only [List.getElem?_cons_zero, Option.some.injEq, Prod.mk.injEq] at h1
      obtain ⟨rfl, rfl⟩ := h1
      cases pv with
      | nil => simp at h2
      | cons p pv =>
        simp only [List.getElem?_cons_zero, Option.some.injEq] at h2; subst h2
        simp only [fillT] at h
        cases hpl : place i with
        | none => rw [hpl] at h; simp at h
        | some q =>
          obtain ⟨off, size⟩ := q
          rw [hpl] at h
          simp only at h
          split at h
          · rename_i hc
            obtain ⟨hc1, hc2, hc3⟩ := hc
            have hv := h3.cells hc1
            have hvl : v.cells.size = size := by have := hv.length; simp at this; omega
            have hcl : c.size = cs.length := by have := hr.length; simpa using this
            simp only [Instr.fill, hpl]
            rw [if_neg (by simp [hvl]; omega)]
            rw [zipIdx_foldl_arr off v.cells c (by omega)]
            refine fill_run h (by simpa using hr.splice off hv) (fun j => ?_)
            simpa using hp (j + 1)
          · simp at h
    · simp at h1

theorem parts_ok {Γ : Cx} {σ : St} {β : Nat → Real} {a : Act} {w : World} (hs : SimB Γ σ β a w) {ps : List (Nat × Operand)} {ts : List (Nat × T)}
    (hp : ∀ j : Nat, (∃ i x t, ps[j]? = some (i, x) ∧ ts[j]? = some (i, t) ∧ σ.ev x = some t) ∨ (ps[j]? = none ∧ ts[j]? = none)) :
    ∀ j : Nat, (∃ i t v, ts[j]? = some (i, t) ∧ (ps.map fun (x : Nat × Operand) => (x.1, a.eval x.2))[j]? = some (i, v) ∧ Rep w (okOf Γ.X σ β w) t β v) ∨ (ts[j]? = none ∧ (ps.map fun (x : Nat × Operand) => (x.1, a.eval x.2))[j]? = none) := fun j => by
  rcases hp j with ⟨i, x, t, h1, h2, h3⟩ | ⟨h1, h2⟩
  · exact .inl ⟨i, t, a.eval x, h2, by simp [h1], hs.ev h3⟩
  · exact .inr ⟨h2, by simp [h1]⟩

theorem fillT_ids {place : Nat → Option (Nat × Nat)} : ∀ {parts : List (Nat × T)} {cs cs' : List T}, fillT place cs parts = some cs' → ∀ i ∈ idsL cs', i ∈ idsL cs ∨ ∃ p ∈ parts, i ∈ p.2.ids
  | [], cs, cs', h => by simp only [fillT, Option.some.injEq] at h; subst h; exact fun i hi => .inl hi
  | (j, t) :: rest, cs, cs', h => by
    simp only [fillT] at h
    split at h
    · simp at h
    · split at h
      · intro i hi
        rcases fillT_ids h i hi with hi | ⟨p, hp, hi⟩
        · rcases ids_splice i hi with hi | hi
          · exact .inl hi
          · exact .inr ⟨(j, t), by simp, T.cells_ids t i hi⟩
        · exact .inr ⟨p, by simp [hp], hi⟩
      · simp at h

/-- Each operand's value. -/
def evP (ev : Operand → Option T) : List (Nat × Operand) → Option (List (Nat × T))
  | [] => some []
  | (i, x) :: l => match ev x, evP ev l with | some t, some r => some ((i, t) :: r) | _, _ => none

theorem evP_get {ev : Operand → Option T} : ∀ {ps : List (Nat × Operand)} {ts : List (Nat × T)}, evP ev ps = some ts → ∀ j : Nat, (∃ i x t, ps[j]? = some (i, x) ∧ ts[j]? = some (i, t) ∧ ev x = some t) ∨ (ps[j]? = none ∧ ts[j]? = none)
  | [], ts, h => by simp only [evP, Option.some.injEq] at h; subst h; intro j; exact .inr ⟨by simp, by simp⟩
  | (i, x) :: l, ts, h => by
    simp only [evP] at h
    split at h
    · rename_i t r e1 e2
      injection h with h; subst h
      intro j
      cases j with
      | zero => exact .inl ⟨i, x, t, rfl, rfl, e1⟩
      | succ j => simpa using evP_get e2 j
    · simp at h

theorem evP_congr {ev ev' : Operand → Option T} : ∀ {ps : List (Nat × Operand)}, (∀ p ∈ ps, ev p.2 = ev' p.2) → evP ev ps = evP ev' ps
  | [], _ => rfl
  | (i, x) :: l, h => by simp only [evP]; rw [h (i, x) (by simp), evP_congr (fun p hp => h p (by simp [hp]))]

theorem evP_mem {ev : Operand → Option T} {ps : List (Nat × Operand)} {ts : List (Nat × T)} (h : evP ev ps = some ts) {p : Nat × T} (hp : p ∈ ts) : ∃ x, (p.1, x) ∈ ps ∧ ev x = some p.2 := by
  obtain ⟨j, hj, e⟩ := List.getElem_of_mem hp
  rcases evP_get h j with ⟨i, x, t, h1, h2, h3⟩ | ⟨_, h2⟩
  · rw [List.getElem?_eq_getElem hj, e] at h2
    injection h2 with h2; subst h2
    exact ⟨x, List.mem_of_getElem? h1, h3⟩
  · rw [List.getElem?_eq_getElem hj] at h2; simp at h2

theorem acts_buildS {ty : TypeId} {i : TI} {fs : List (Nat × TypeId)} {ps : Array (Nat × Operand)} {ts : List (Nat × T)} {cs : List T} (ho : o.op = .build ty ps) (ht : TOk P ty i) (hk : i.k = .struct fs) (hev0 : evP ev ps.toList = some ts)
    (hti : ∀ f ∈ fs, TOk P f.2 (ti f.2)) (hf : fillT (fun n => (fs[n]?).map fun f => (f.1, (ti f.2).size)) (i.zero.map .leaf) ts = some cs) : Acts P o ev h reads { val := .agg cs } := by
  refine acts_value fun Γ σ β a w hP hev hh hs => ?_
  have hop : ∀ p ∈ ps.toList, σ.ev p.2 = ev p.2 := fun p hp => hev p.2 (by simp only [ho, Op.operands]; simp; exact ⟨p.1, by simpa using hp⟩)
  have hev1 : evP σ.ev ps.toList = some ts := by rw [evP_congr hop, hev0]
  obtain ⟨j, h1, h2, h3, z, h4, h5⟩ := ht.info
  obtain ⟨d, h6, h7, _⟩ := ht.und
  rw [hk] at h7; simp only [kOk] at h7
  obtain ⟨fl, rfl, rfl⟩ := h7
  obtain ⟨c', h8, h9⟩ := fill_run (w := w) (ok := okOf Γ.X σ β w) (β := β) (pv := (ps.map fun (x : Nat × Operand) => (x.1, a.eval x.2)).toList) hf (c := z.cells) (by rw [h5]; exact RepL.leaves _) (by rw [Array.toList_map]; exact parts_ok hs (evP_get hev1))
  refine ⟨.agg c', ?_, by simp only [Rep]; exact ⟨_, by simp, h9⟩, fun n hn => ?_⟩
  · simp only [execOp, ho]
    refine run_v ?_
    have hm : (fl.mapM (m := Sem) fun f => do pure (f.offset, ← sizeOf f.type)).run P w = .ok (fl.map fun f => (f.offset, (ti f.type).size)) w := by
      have : ∀ (l : List Field), (∀ f ∈ l, TOk P f.type (ti f.type)) → (l.mapM (m := Sem) fun f => do pure (f.offset, ← sizeOf f.type)).run P w = .ok (l.map fun f => (f.offset, (ti f.type).size)) w := by
        intro l
        induction l with
        | nil => intro _; rfl
        | cons f l ih =>
          intro hl
          simp only [List.mapM_cons, Sem.run_bind, (hl f (by simp)).size w, Result.andThen_ok, Sem.run_pure, ih (fun g hg => hl g (by simp [hg])), List.map_cons]
      have h0 := this fl.toList (fun f hf => hti (f.offset, f.type) (by simp; exact ⟨f, by simpa using hf, rfl, rfl⟩))
      rw [← Array.toArray_toList (xs := fl), List.mapM_toArray]
      simp only [Sem.run_map, h0, Result.andThen_ok, List.map_toArray]
    simp only [Instr.build, Sem.run_bind, zeroValue, typeInfo, run_program, Result.andThen_ok, h1, Sem.run_pure, h4, run_underlying h6, hm]
    have hplace : (fun n : Nat => ((fl.map fun f => (f.offset, (ti f.type).size))[n]? : Option (Nat × Nat))) = (fun n : Nat => ((fl.toList.map fun x => (x.offset, x.type))[n]?).map fun (f : Nat × TypeId) => (f.1, (ti f.2).size)) := by
      funext n; simp [Option.map_map]; rfl
    have h8' := h8
    rw [← hplace] at h8'
    simp only [h8', Sem.run_pure]
  · rcases fillT_ids hf n (by simpa [T.ids] using hn) with hn | ⟨p, hp, hn⟩
    · simp [idsL_leaves] at hn
    · obtain ⟨x, _, hx⟩ := evP_mem hev1 hp
      exact hs.ev_ids hx n hn

theorem acts_buildA {ty el : TypeId} {N : Nat} {i i' : TI} {ps : Array (Nat × Operand)} {ts : List (Nat × T)} {cs : List T} (ho : o.op = .build ty ps) (ht : TOk P ty i) (hk : i.k = .array N el) (he : TOk P el i') (hev0 : evP ev ps.toList = some ts)
    (hf : fillT (fun n => some (n * i'.size, i'.size)) (i.zero.map .leaf) ts = some cs) : Acts P o ev h reads { val := .agg cs } := by
  refine acts_value fun Γ σ β a w hP hev hh hs => ?_
  have hop : ∀ p ∈ ps.toList, σ.ev p.2 = ev p.2 := fun p hp => hev p.2 (by simp only [ho, Op.operands]; simp; exact ⟨p.1, by simpa using hp⟩)
  have hev1 : evP σ.ev ps.toList = some ts := by rw [evP_congr hop, hev0]
  obtain ⟨j, h1, h2, h3, z, h4, h5⟩ := ht.info
  obtain ⟨d, h6, h7, _⟩ := ht.und
  rw [hk] at h7; simp only [kOk] at h7; subst h7
  obtain ⟨c', h8, h9⟩ := fill_run (w := w) (ok := okOf Γ.X σ β w) (β := β) (pv := (ps.map fun (x : Nat × Operand) => (x.1, a.eval x.2)).toList) hf (c := z.cells) (by rw [h5]; exact RepL.leaves _) (by rw [Array.toList_map]; exact parts_ok hs (evP_get hev1))
  refine ⟨.agg c', ?_, by simp only [Rep]; exact ⟨_, by simp, h9⟩, fun n hn => ?_⟩
  · simp only [execOp, ho]
    refine run_v ?_
    rw [Array.toList_map] at h8
    simp [Instr.build, zeroValue, typeInfo, h1, h4, run_underlying h6, he.size w, h8]
  · rcases fillT_ids hf n (by simpa [T.ids] using hn) with hn | ⟨p, hp, hn⟩
    · simp [idsL_leaves] at hn
    · obtain ⟨x, _, hx⟩ := evP_mem hev1 hp
      exact hs.ev_ids hx n hn

/-- Zeros. -/
def zerosT (z : List Value) : Nat → List T
  | 0 => []
  | n + 1 => z.map .leaf ++ zerosT z n

theorem zerosT_length (z : List Value) (n : Nat) : (zerosT z n).length = n * z.length := by
  induction n with
  | zero => simp [zerosT]
  | succ n ih => simp [zerosT, ih, Nat.succ_mul, Nat.add_comm]

theorem zerosT_eq (z : List Value) (n : Nat) : zerosT z n = ((List.range (n * z.length)).map fun i => T.leaf (z.toArray[i % z.length]!)) := by
  induction n with
  | zero => simp [zerosT]
  | succ n ih =>
    have hz : z.map T.leaf = (List.range z.length).map fun i => T.leaf (z.toArray[i % z.length]!) := by
      apply List.ext_getElem?
      intro j
      by_cases hj : j < z.length
      · simp [hj, Nat.mod_eq_of_lt hj]
      · simp [hj]
    rw [zerosT, ih, Nat.succ_mul, Nat.add_comm, List.range_add, List.map_append, ← hz]
    congr 1
    rw [List.map_map]
    apply List.map_congr_left
    intro i _
    simp

theorem idsL_zerosT (z : List Value) (n : Nat) : idsL (zerosT z n) = [] := by
  induction n with
  | zero => rfl
  | succ n ih =>
    refine List.eq_nil_iff_forall_not_mem.2 fun i hi => ?_
    rw [zerosT, ids_append, ih] at hi
    simp [idsL_leaves] at hi

theorem RepL.zeros {w : World} {ok : Tag → Nat → Prop} {β : Nat → Real} (z : List Value) (n : Nat) : RepL w ok (zerosT z n) β ((Array.range (n * z.length)).map fun i => z.toArray[i % z.toArray.size]!).toList := by
  have : zerosT z n = (((Array.range (n * z.length)).map fun i => z.toArray[i % z.toArray.size]!).toList).map T.leaf := by
    rw [zerosT_eq]; simp
  rw [this]
  exact RepL.leaves _

theorem acts_buildSlice {ty el : TypeId} {len d : Nat} {i i' : TI} {ps : Array (Nat × Operand)} {ts : List (Nat × T)} {cs : List T} (ho : o.op = .buildSlice ty len ps) (ht : TOk P ty i) (hk : i.k = .slice el) (he : TOk P el i') (hev0 : evP ev ps.toList = some ts)
    (hz0 : i'.zero.length = i'.size) (hb : len * i'.size ≤ 16777216) (hf : fillT (fun n => some (n * i'.size, i'.size)) (zerosT i'.zero len) ts = some cs) (hd : d ∉ reads) : Acts P o ev h reads { val := .ref d i'.size 0 len, puts := [(d, cs)] } := by
  refine acts_of fun Γ σ β a w hP hev hh hn hs => ?_
  have hd' : σ.h d = none := (hn (d, cs) (by simp) (by simp)).2 hd
  have hdS := (hn (d, cs) (by simp) (by simp)).1
  have hop : ∀ p ∈ ps.toList, σ.ev p.2 = ev p.2 := fun p hp => hev p.2 (by simp only [ho, Op.operands]; simp; exact ⟨p.1, by simpa using hp⟩)
  have hev1 : evP σ.ev ps.toList = some ts := by rw [evP_congr hop, hev0]
  obtain ⟨j, h1, h2, h3, z, h4, h5⟩ := he.info
  obtain ⟨d', h6, h7, _⟩ := ht.und
  rw [hk] at h7; simp only [kOk] at h7; subst h7
  have hzs : z.cells.size = i'.size := by rw [h5]; simpa using hz0
  have hlen : ∀ {cs cs' : List T} {pl : Nat → Option (Nat × Nat)} {ts : List (Nat × T)}, fillT pl cs ts = some cs' → cs'.length = cs.length := by
    intro cs cs' pl ts
    induction ts generalizing cs with
    | nil => intro h; simp only [fillT, Option.some.injEq] at h; rw [h]
    | cons p ts ih =>
      intro h
      simp only [fillT] at h
      split at h
      · simp at h
      · split at h
        · rename_i hc; rw [ih h, splice_length (by omega)]
        · simp at h
  have hcl : cs.length = len * i'.size := by rw [hlen hf, zerosT_length, hz0]
  have hrz : RepL w (okOf Γ.X σ β w) (zerosT i'.zero len) β ((Array.range (len * i'.size)).map (z.cells[· % z.cells.size]!)).toList := by
    have := RepL.zeros (w := w) (ok := okOf Γ.X σ β w) (β := β) i'.zero len
    rw [hz0, ← h5] at this
    exact this
  obtain ⟨c', h8, h9⟩ := fill_run (w := w) (ok := okOf Γ.X σ β w) (β := β) (pv := (ps.map fun (x : Nat × Operand) => (x.1, a.eval x.2)).toList) hf (c := (Array.range (len * i'.size)).map (z.cells[· % z.cells.size]!)) hrz (by rw [Array.toList_map]; exact parts_ok hs (evP_get hev1))
  have hcs' : c'.size = len * i'.size := by have := h9.length; simp at this; omega
  refine ⟨.slice (some ⟨w.heap.size, 0, none⟩) len len, w.alloc (.cells c' el), _, .inl ?_, hs.newVar hd' hdS h9 (fun n hn => ?_), ?_, ?_⟩
  · simp only [execOp, ho]
    refine run_v ?_
    by_cases h0 : len * i'.size = 0
    · have e : ((Array.range (len * i'.size)).map (z.cells[· % z.cells.size]!)) = #[] := by simp [h0]
      rw [e] at h8
      have hlt : ¬ (2 ^ 24 < len * i'.size) := by omega
      simp only [Instr.buildSlice, Sem.run_bind, run_underlying h6, Result.andThen_ok, he.size w, if_neg hlt, gt_iff_lt, if_pos h0, Sem.run_pure]
      have e0 : ∀ f : Nat → Value, (Array.range 0).map f = #[] := fun _ => by simp
      simp only [h0, e0, h8, Sem.run_bind, newRow, run_newObj, Result.andThen_ok, Sem.run_pure]; rfl
    · have hlt : ¬ (2 ^ 24 < len * i'.size) := by omega
      simp only [Instr.buildSlice, Sem.run_bind, run_underlying h6, Result.andThen_ok, he.size w, if_neg hlt, gt_iff_lt, if_neg h0, Sem.run_pure, zeroValue, typeInfo, run_program, h1, h4]
      simp only [h8, Sem.run_bind, newRow, run_newObj, Result.andThen_ok, Sem.run_pure]; rfl
  · rcases fillT_ids hf n hn with hn | ⟨p, hp, hn⟩
    · simp [idsL_zerosT] at hn
    · obtain ⟨x, _, hx⟩ := evP_mem hev1 hp
      exact hs.ev_ids hx n hn
  · simp only [Rep, reals, if_true]
    exact ⟨_, len, rfl, Nat.le_refl _, by omega, .inr rfl⟩
  · simp [T.ids, St.puts, St.drops, upd]
end

end Go.Vw

import Derived.Test.YtbppcnhfeobefaaDoorEnVw0
set_option linter.unusedVariables false
namespace Go.Vw
open Go Go.RowKit
def splice (cs : List T) (off : Nat) (new : List T) : List T := cs.take off ++ new ++ cs.drop (off + new.length)
def spliceV (vs : List Value) (off : Nat) (new : List Value) : List Value := vs.take off ++ new ++ vs.drop (off + new.length)
theorem splice_length {cs new : List T} {off : Nat} (h : off + new.length ≤ cs.length) : (splice cs off new).length = cs.length := by
 simp [splice]; omega
theorem spliceV_get {vs new : List Value} {off : Nat} (h : off + new.length ≤ vs.length) (i : Nat) : (spliceV vs off new)[i]? = if off ≤ i ∧ i < off + new.length then new[i - off]? else vs[i]? := by
 unfold spliceV
 rw [List.append_assoc, List.getElem?_append]
 have h1 : (vs.take off).length = off := by simp; omega
 rw [h1]
 split
 ·rename_i hi
  rw [if_neg (by omega), List.getElem?_take, if_pos hi]
 ·rename_i hi
  rw [List.getElem?_append]
  split
  ·rename_i h2; rw [if_pos (by omega)]
  ·rename_i h2; rw [if_neg (by omega), List.getElem?_drop]; congr 1; omega
theorem RepL.splice {w : World} {ok : Tag → Nat → Prop} {β : Nat → Real} {cs new : List T} {vs nv : List Value} (off : Nat) (h : RepL w ok cs β vs) (k : RepL w ok new β nv) : RepL w ok (Vw.splice cs off new) β (spliceV vs off nv) := by
 unfold Vw.splice spliceV
 rw [k.length]
 exact ((h.take off).append k).append (h.drop _)
theorem ids_append (a b : List T) : ∀ i, i ∈ idsL (a ++ b) ↔ i ∈ idsL a ∨ i ∈ idsL b := by
 induction a with
 | nil => simp [idsL]
 | cons t ts ih => intro i; simp only [List.cons_append, idsL, List.mem_append, ih i, or_assoc]
theorem ids_splice {cs new : List T} {off : Nat} : ∀ i ∈ idsL (splice cs off new), i ∈ idsL cs ∨ i ∈ idsL new := by
 intro i hi
 unfold splice at hi
 rw [ids_append, ids_append] at hi
 rcases hi with (hi | hi) | hi
 ·exact .inl (ids_take _ i hi)
 ·exact .inr hi
 ·exact .inl (ids_drop _ i hi)
section
variable {P : Program} {o : Oper} {ev : Operand → Option T} {h : Nat → Option (List T)} {reads : List Nat} {ti : TypeId → TI}
theorem heap_setCells (b : Nat) : ∀ (vs : List Value) (o : Nat) (w : World) (c : Array Value) (e : TypeId) (fr : Nat × Nat), w.heap[b]? = some (.cells c e fr) → ∃ c', (w.setCells b o vs).heap[b]? = some (.cells c' e fr) ∧ c'.size = c.size
 | [], _, _, c, _, _, h => ⟨c, h, rfl⟩
 | v :: r, o, w, c, e, fr, h => by
  have h1 : (w.setCell ⟨b, o, none⟩ v).heap[b]? = some (.cells (c.setIfInBounds o v) e fr) := by
   simp [World.setCell, Array.getElem?_modify, h]
  obtain ⟨c', h2, h3⟩ := heap_setCells b r (o + 1) _ _ e fr h1
  exact ⟨c', h2, by simpa using h3⟩
theorem keeps_setCells (b : Nat) : ∀ (vs : List Value) (o : Nat) (w : World), Keeps (fun x => x = b) w (w.setCells b o vs)
 | [], _, w => Keeps.refl _ w
 | v :: r, o, w => by
  have h1 : Keeps (fun x => x = b) w (w.setCell ⟨b, o, none⟩ v) := ⟨rfl, rfl, rfl, by simp [World.setCell], fun x hx hn => Below.heap_setCell _ _ _ _ hn⟩
  exact h1.trans (keeps_setCells b r (o + 1) _) (fun _ _ h => h)
theorem NoFrost.set {w : World} {b n : Nat} (h : NoFrost w b n) (o : Nat) (vs : List Value) : NoFrost (w.setCells b o vs) b n := by
 intro c' e' lo hi q
 cases hb : w.heap[b]? with
 | none =>
  exfalso
  have hs := (keeps_setCells b vs o w)
  have : ∀ (vs : List Value) (o : Nat) (w : World), w.heap[b]? = none → (w.setCells b o vs).heap[b]? = none := by
   intro vs
   induction vs with
   | nil => intro o w h; exact h
   | cons v r ih => intro o w h; exact ih (o + 1) _ (by simp [World.setCell, Array.getElem?_modify, h])
  rw [this vs o w hb] at q; cases q
 | some ob =>
  cases ob with
  | cells c e fr =>
   obtain ⟨c2, h1, _⟩ := heap_setCells b vs o w c e fr hb
   rw [h1] at q
   simp only [Option.some.injEq, Obj.cells.injEq] at q
   obtain ⟨rfl, rfl, rfl⟩ := q
   exact h _ _ _ _ hb
  | _ =>
   exfalso
   have : ∀ (vs : List Value) (o : Nat) (w : World), (∀ c e fr, w.heap[b]? ≠ some (.cells c e fr)) → ∀ c e fr, (w.setCells b o vs).heap[b]? ≠ some (.cells c e fr) := by
    intro vs
    induction vs with
    | nil => intro o w h; exact h
    | cons v r ih =>
     intro o w h
     refine ih (o + 1) _ fun c e fr q => ?_
     simp only [World.setCell, Array.getElem?_modify, if_true] at q
     cases hq : w.heap[b]? with
     | none => rw [hq] at q; cases q
     | some ob =>
      rw [hq] at q
      cases ob with
      | cells c1 e1 fr1 => exact h _ _ _ hq
      | _ => cases q
   exact this vs o w (by intro c e fr; rw [hb]; simp) _ _ _ q
theorem SimB.write {Γ : Cx} {σ : St} {β : Nat → Real} {a : Act} {w : World} (hs : SimB Γ σ β a w) {id : Nat} {cs cs' new : List T} {nv : List Value} (hid : σ.h id = some cs) {b ob E : Nat} (hr : β id = .real b ob E) (off : Nat)
  (hE : off + nv.length ≤ E) (hnv : RepL w (okOf Γ.X σ β w) new β nv) (hsc : scalL new = true) (hi : ∀ i ∈ idsL cs', σ.h i ≠ none)
  (hcs : ∀ vs, RepL w (okOf Γ.X σ β w) cs β vs → ∃ vs', RepL w (okOf Γ.X σ β w) cs' β vs' ∧ ∀ i v, vs'[i]? = some v → if off ≤ i ∧ i < off + nv.length then nv[i - off]? = some v else vs[i]? = some v) (hl : cs'.length ≤ E) :
  (storeCells ⟨b, ob + off, none⟩ nv).run Γ.P w = .ok () (w.setCells b (ob + off) nv) ∧ SimB Γ { σ with h := upd σ.h id (some cs') } β a (w.setCells b (ob + off) nv) := by
 obtain ⟨c, el, fr, vs, h1, h2, h3, h4, h5, h6⟩ := obj_open hs hid hr
 have hex : ∀ j, j < c.size → (w.cell? ⟨b, j, none⟩).isSome = true := fun j hj => by simp [World.cell?, h1, hj]
 constructor
 ·have := run_storeCells_cells (P := Γ.P) b (ob + off) nv 0 w (fun j hj => by simpa using hex _ (by omega)) (fun j hj => by simpa using h4.get (by omega)) (hnv.one hsc)
  simpa using this
 ·obtain ⟨c', hc1, hc2⟩ := heap_setCells b nv (ob + off) w c el fr h1
  obtain ⟨vs', hv1, hv2⟩ := hcs vs h5
  refine hs.change hid hr (keeps_setCells b nv (ob + off) w) hc1 (by omega) hl (by rw [hc2]; exact h4.set _ _) hv1 (fun i v hv => ?_) hi
  have := hv2 i v hv
  split at this
  ·rename_i hb
   have := World.cell?_setCells_in b nv (ob + off) w (fun j hj => by simpa using hex _ (by omega)) (i - off) (by omega)
   rw [show ob + off + (i - off) = ob + i from by omega] at this
   rw [this]
   rename_i h7
   obtain ⟨_, h8⟩ := List.getElem?_eq_some_iff.1 h7
   simp [h8]
  ·rename_i hb
   rw [World.cell?_setCells_out b nv (ob + off) w _ (fun _ _ => by simp; omega)]
   exact h6 i v this
theorem acts_store {ty : TypeId} {i : TI} {x y : Operand} {id off : Nat} {cs : List T} {v : T} (ho : o.op = .store ty x y) (ht : TOk P ty i) (hx : ev x = some (.addr id off)) (hy : ev y = some v) (hr : id ∈ reads) (hid : h id = some cs)
  (hv : v.cellOk = true) (hsc : scalL v.cells = true) (hl : v.cells.length = i.size) (hb : off + v.cells.length ≤ cs.length) : Acts P o ev h reads { val := .dead, puts := [(id, splice cs off v.cells)], stay := [id] } := by
 refine acts_of fun Γ σ β a w hP hev hh hn hs => ?_
 have e : σ.ev x = some (.addr id off) := by rw [hev x (by simp [ho, Op.operands]), hx]
 have e2 : σ.ev y = some v := by rw [hev y (by simp [ho, Op.operands]), hy]
 have hid' : σ.h id = some cs := by rw [hh id hr, hid]
 have hrep := hs.ev e
 simp only [Rep] at hrep
 cases hbr : β id with
 | ph => rw [hbr] at hrep; exact hrep.elim
 | real b ob E =>
  rw [hbr] at hrep
  have hnv := (hs.ev e2).cells hv
  have hnl : (a.eval y).cells.toList.length = v.cells.length := hnv.length
  obtain ⟨c, el, fr, vs0, h1, h2, h3, h4, h5, h6⟩ := obj_open hs hid' hbr
  obtain ⟨hrun, hsim⟩ := hs.write (cs' := splice cs off v.cells) hid' hbr off (nv := (a.eval y).cells.toList) (by rw [hnl]; omega) hnv hsc
   (fun j hj => (ids_splice j hj).elim (hs.wfh id cs hid' j) (fun hj => hs.ev_ids e2 j (T.cells_ids v j hj)))
   (fun vs hvs => ⟨spliceV vs off (a.eval y).cells.toList, hvs.splice off hnv, fun j u hu => by
    rw [spliceV_get (by rw [hvs.length, hnl]; exact hb)] at hu
    by_cases hj : off ≤ j ∧ j < off + (a.eval y).cells.toList.length
    ·rw [if_pos hj] at hu ⊢; exact hu
    ·rw [if_neg hj] at hu ⊢; exact hu⟩) (by rw [splice_length hb]; exact h3)
  refine ⟨undef, _, β, .inr ⟨?_, rfl⟩, hsim, by simp [Rep], by simp [T.ids]⟩
  have hz := ht.size w
  have hsz : (a.eval y).cells.size = i.size := by rw [← hl, ← hnl]; simp
  rw [hP] at hrun
  simp only [execOp, ho, Instr.storeAt, hrep, Instr.sureAddr, storeVar, Sem.run_bind, Sem.run_pure, Result.andThen_ok, hz]
  simp [hsz, hrun]
def fillT (place : Nat → Option (Nat × Nat)) (cs : List T) : List (Nat × T) → Option (List T)
 | [] => some cs
 | (i, v) :: rest =>
  match place i with
  | none => none
  | some (off, size) => if v.cellOk = true ∧ v.cells.length = size ∧ off + size ≤ cs.length then fillT place (splice cs off v.cells) rest else none
theorem foldl_set (off : Nat) : ∀ (new : List Value) (k : Nat) (c : Array Value), off + k + new.length ≤ c.size →
  ((new.zipIdx k).foldl (fun cs (x : Value × Nat) => cs.setIfInBounds (off + x.2) x.1) c).toList = spliceV c.toList (off + k) new
 | [], k, c, h => by simp [spliceV]
 | v :: r, k, c, h => by
  simp only [List.length_cons] at h
  simp only [List.zipIdx_cons, List.foldl_cons]
  rw [foldl_set off r (k + 1) _ (by simp; omega)]
  apply List.ext_getElem?
  intro i
  rw [spliceV_get (by simp; omega), spliceV_get (by simp; omega)]
  simp only [Array.toList_setIfInBounds, List.getElem?_set, List.length_cons, Array.length_toList]
  by_cases h1 : i = off + k
  ·subst h1
   rw [if_neg (by omega), if_pos (by omega)]
   simp
   omega
  ·by_cases h2 : off + k + 1 ≤ i ∧ i < off + k + 1 + r.length
   ·rw [if_pos (by omega), if_pos (by omega)]
    rw [show i - (off + k) = (i - (off + (k + 1))) + 1 from by omega]
    simp
   ·rw [if_neg (by omega), if_neg (by omega), if_neg (by omega)]
theorem zipIdx_foldl_arr (off : Nat) (new c : Array Value) (h : off + new.size ≤ c.size) :
  (new.zipIdx.foldl (fun cs (x : Value × Nat) => cs.setIfInBounds (off + x.2) x.1) c) = (spliceV c.toList off new.toList).toArray := by
 apply Array.ext'
 rw [← Array.foldl_toList, Array.toList_zipIdx]
 have := foldl_set off new.toList 0 c (by simpa using h)
 simpa using this
theorem fill_run {place : Nat → Option (Nat × Nat)} {w : World} {ok : Tag → Nat → Prop} {β : Nat → Real} : ∀ {parts : List (Nat × T)} {pv : List (Nat × Value)} {cs cs' : List T} {c : Array Value},
  fillT place cs parts = some cs' → RepL w ok cs β c.toList → (∀ j : Nat, (∃ i t v, parts[j]? = some (i, t) ∧ pv[j]? = some (i, v) ∧ Rep w ok t β v) ∨ (parts[j]? = none ∧ pv[j]? = none)) →
  ∃ c', Instr.fill place c pv = some c' ∧ RepL w ok cs' β c'.toList
 | [], pv, cs, cs', c, h, hr, hp => by
  simp only [fillT, Option.some.injEq] at h; subst h
  have : pv = [] := by
   rcases hp 0 with ⟨_, _, _, h, _⟩ | ⟨_, h⟩
   ·simp at h
   ·cases pv <;> simp_all
  subst this
  exact ⟨c, rfl, hr⟩
 | (i, t) :: rest, pv, cs, cs', c, h, hr, hp => by
  rcases hp 0 with ⟨i', t', v, h1, h2, h3⟩ | ⟨h1, _⟩
  ·simp only [List.getElem?_cons_zero, Option.some.injEq, Prod.mk.injEq] at h1
   obtain ⟨rfl, rfl⟩ := h1
   cases pv with
   | nil => simp at h2
   | cons p pv =>
    simp only [List.getElem?_cons_zero, Option.some.injEq] at h2; subst h2
    simp only [fillT] at h
    cases hpl : place i with
    | none => rw [hpl] at h; simp at h
    | some q =>
     obtain ⟨off, size⟩ := q
     rw [hpl] at h
     simp only at h
     split at h
     ·rename_i hc
      obtain ⟨hc1, hc2, hc3⟩ := hc
      have hv := h3.cells hc1
      have hvl : v.cells.size = size := by have := hv.length; simp at this; omega
      have hcl : c.size = cs.length := by have := hr.length; simpa using this
      simp only [Instr.fill, hpl]
      rw [if_neg (by simp [hvl]; omega)]
      rw [zipIdx_foldl_arr off v.cells c (by omega)]
      refine fill_run h (by simpa using hr.splice off hv) (fun j => ?_)
      simpa using hp (j + 1)
     ·simp at h
  ·simp at h1
theorem parts_ok {Γ : Cx} {σ : St} {β : Nat → Real} {a : Act} {w : World} (hs : SimB Γ σ β a w) {ps : List (Nat × Operand)} {ts : List (Nat × T)}
  (hp : ∀ j : Nat, (∃ i x t, ps[j]? = some (i, x) ∧ ts[j]? = some (i, t) ∧ σ.ev x = some t) ∨ (ps[j]? = none ∧ ts[j]? = none)) :
  ∀ j : Nat, (∃ i t v, ts[j]? = some (i, t) ∧ (ps.map fun (x : Nat × Operand) => (x.1, a.eval x.2))[j]? = some (i, v) ∧ Rep w (okOf Γ.X σ β w) t β v) ∨ (ts[j]? = none ∧ (ps.map fun (x : Nat × Operand) => (x.1, a.eval x.2))[j]? = none) := fun j => by
 rcases hp j with ⟨i, x, t, h1, h2, h3⟩ | ⟨h1, h2⟩
 ·exact .inl ⟨i, t, a.eval x, h2, by simp [h1], hs.ev h3⟩
 ·exact .inr ⟨h2, by simp [h1]⟩
theorem fillT_ids {place : Nat → Option (Nat × Nat)} : ∀ {parts : List (Nat × T)} {cs cs' : List T}, fillT place cs parts = some cs' → ∀ i ∈ idsL cs', i ∈ idsL cs ∨ ∃ p ∈ parts, i ∈ p.2.ids
 | [], cs, cs', h => by simp only [fillT, Option.some.injEq] at h; subst h; exact fun i hi => .inl hi
 | (j, t) :: rest, cs, cs', h => by
  simp only [fillT] at h
  split at h
  ·simp at h
  ·split at h
   ·intro i hi
    rcases fillT_ids h i hi with hi | ⟨p, hp, hi⟩
    ·rcases ids_splice i hi with hi | hi
     ·exact .inl hi
     ·exact .inr ⟨(j, t), by simp, T.cells_ids t i hi⟩
    ·exact .inr ⟨p, by simp [hp], hi⟩
   ·simp at h
def evP (ev : Operand → Option T) : List (Nat × Operand) → Option (List (Nat × T))
 | [] => some []
 | (i, x) :: l => match ev x, evP ev l with | some t, some r => some ((i, t) :: r) | _, _ => none
theorem evP_get {ev : Operand → Option T} : ∀ {ps : List (Nat × Operand)} {ts : List (Nat × T)}, evP ev ps = some ts → ∀ j : Nat, (∃ i x t, ps[j]? = some (i, x) ∧ ts[j]? = some (i, t) ∧ ev x = some t) ∨ (ps[j]? = none ∧ ts[j]? = none)
 | [], ts, h => by simp only [evP, Option.some.injEq] at h; subst h; intro j; exact .inr ⟨by simp, by simp⟩
 | (i, x) :: l, ts, h => by
  simp only [evP] at h
  split at h
  ·rename_i t r e1 e2
   injection h with h; subst h
   intro j
   cases j with
   | zero => exact .inl ⟨i, x, t, rfl, rfl, e1⟩
   | succ j => simpa using evP_get e2 j
  ·simp at h
theorem evP_congr {ev ev' : Operand → Option T} : ∀ {ps : List (Nat × Operand)}, (∀ p ∈ ps, ev p.2 = ev' p.2) → evP ev ps = evP ev' ps
 | [], _ => rfl
 | (i, x) :: l, h => by simp only [evP]; rw [h (i, x) (by simp), evP_congr (fun p hp => h p (by simp [hp]))]
theorem evP_mem {ev : Operand → Option T} {ps : List (Nat × Operand)} {ts : List (Nat × T)} (h : evP ev ps = some ts) {p : Nat × T} (hp : p ∈ ts) : ∃ x, (p.1, x) ∈ ps ∧ ev x = some p.2 := by
 obtain ⟨j, hj, e⟩ := List.getElem_of_mem hp
 rcases evP_get h j with ⟨i, x, t, h1, h2, h3⟩ | ⟨_, h2⟩
 ·rw [List.getElem?_eq_getElem hj, e] at h2
  injection h2 with h2; subst h2
  exact ⟨x, List.mem_of_getElem? h1, h3⟩
 ·rw [List.getElem?_eq_getElem hj] at h2; simp at h2
theorem acts_buildS {ty : TypeId} {i : TI} {fs : List (Nat × TypeId)} {ps : Array (Nat × Operand)} {ts : List (Nat × T)} {cs : List T} (ho : o.op = .build ty ps) (ht : TOk P ty i) (hk : i.k = .struct fs) (hev0 : evP ev ps.toList = some ts)
  (hti : ∀ f ∈ fs, TOk P f.2 (ti f.2)) (hf : fillT (fun n => (fs[n]?).map fun f => (f.1, (ti f.2).size)) (i.zero.map .leaf) ts = some cs) : Acts P o ev h reads { val := .agg cs } := by
 refine acts_value fun Γ σ β a w hP hev hh hs => ?_
 have hop : ∀ p ∈ ps.toList, σ.ev p.2 = ev p.2 := fun p hp => hev p.2 (by simp only [ho, Op.operands]; simp; exact ⟨p.1, by simpa using hp⟩)
 have hev1 : evP σ.ev ps.toList = some ts := by rw [evP_congr hop, hev0]
 obtain ⟨j, h1, h2, h3, z, h4, h5⟩ := ht.info
 obtain ⟨d, h6, h7, _⟩ := ht.und
 rw [hk] at h7; simp only [kOk] at h7
 obtain ⟨fl, rfl, rfl⟩ := h7
 obtain ⟨c', h8, h9⟩ := fill_run (w := w) (ok := okOf Γ.X σ β w) (β := β) (pv := (ps.map fun (x : Nat × Operand) => (x.1, a.eval x.2)).toList) hf (c := z.cells) (by rw [h5]; exact RepL.leaves _) (by rw [Array.toList_map]; exact parts_ok hs (evP_get hev1))
 refine ⟨.agg c', ?_, by simp only [Rep]; exact ⟨_, by simp, h9⟩, fun n hn => ?_⟩
 ·simp only [execOp, ho]
  refine run_v ?_
  have hm : (fl.mapM (m := Sem) fun f => do pure (f.offset, ← sizeOf f.type)).run P w = .ok (fl.map fun f => (f.offset, (ti f.type).size)) w := by
   have : ∀ (l : List Field), (∀ f ∈ l, TOk P f.type (ti f.type)) → (l.mapM (m := Sem) fun f => do pure (f.offset, ← sizeOf f.type)).run P w = .ok (l.map fun f => (f.offset, (ti f.type).size)) w := by
    intro l
    induction l with
    | nil => intro _; rfl
    | cons f l ih =>
     intro hl
     simp only [List.mapM_cons, Sem.run_bind, (hl f (by simp)).size w, Result.andThen_ok, Sem.run_pure, ih (fun g hg => hl g (by simp [hg])), List.map_cons]
   have h0 := this fl.toList (fun f hf => hti (f.offset, f.type) (by simp; exact ⟨f, by simpa using hf, rfl, rfl⟩))
   rw [← Array.toArray_toList (xs := fl), List.mapM_toArray]
   simp only [Sem.run_map, h0, Result.andThen_ok, List.map_toArray]
  simp only [Instr.build, Sem.run_bind, zeroValue, typeInfo, run_program, Result.andThen_ok, h1, Sem.run_pure, h4, run_underlying h6, hm]
  have hplace : (fun n : Nat => ((fl.map fun f => (f.offset, (ti f.type).size))[n]? : Option (Nat × Nat))) = (fun n : Nat => ((fl.toList.map fun x => (x.offset, x.type))[n]?).map fun (f : Nat × TypeId) => (f.1, (ti f.2).size)) := by
   funext n; simp [Option.map_map]; rfl
  have h8' := h8
  rw [← hplace] at h8'
  simp only [h8', Sem.run_pure]
 ·rcases fillT_ids hf n (by simpa [T.ids] using hn) with hn | ⟨p, hp, hn⟩
  ·simp [idsL_leaves] at hn
  ·obtain ⟨x, _, hx⟩ := evP_mem hev1 hp
   exact hs.ev_ids hx n hn
theorem acts_buildA {ty el : TypeId} {N : Nat} {i i' : TI} {ps : Array (Nat × Operand)} {ts : List (Nat × T)} {cs : List T} (ho : o.op = .build ty ps) (ht : TOk P ty i) (hk : i.k = .array N el) (he : TOk P el i') (hev0 : evP ev ps.toList = some ts)
  (hf : fillT (fun n => some (n * i'.size, i'.size)) (i.zero.map .leaf) ts = some cs) : Acts P o ev h reads { val := .agg cs } := by
 refine acts_value fun Γ σ β a w hP hev hh hs => ?_
 have hop : ∀ p ∈ ps.toList, σ.ev p.2 = ev p.2 := fun p hp => hev p.2 (by simp only [ho, Op.operands]; simp; exact ⟨p.1, by simpa using hp⟩)
 have hev1 : evP σ.ev ps.toList = some ts := by rw [evP_congr hop, hev0]
 obtain ⟨j, h1, h2, h3, z, h4, h5⟩ := ht.info
 obtain ⟨d, h6, h7, _⟩ := ht.und
 rw [hk] at h7; simp only [kOk] at h7; subst h7
 obtain ⟨c', h8, h9⟩ := fill_run (w := w) (ok := okOf Γ.X σ β w) (β := β) (pv := (ps.map fun (x : Nat × Operand) => (x.1, a.eval x.2)).toList) hf (c := z.cells) (by rw [h5]; exact RepL.leaves _) (by rw [Array.toList_map]; exact parts_ok hs (evP_get hev1))
 refine ⟨.agg c', ?_, by simp only [Rep]; exact ⟨_, by simp, h9⟩, fun n hn => ?_⟩
 ·simp only [execOp, ho]
  refine run_v ?_
  rw [Array.toList_map] at h8
  simp [Instr.build, zeroValue, typeInfo, h1, h4, run_underlying h6, he.size w, h8]
 ·rcases fillT_ids hf n (by simpa [T.ids] using hn) with hn | ⟨p, hp, hn⟩
  ·simp [idsL_leaves] at hn
  ·obtain ⟨x, _, hx⟩ := evP_mem hev1 hp
   exact hs.ev_ids hx n hn
def zerosT (z : List Value) : Nat → List T
 | 0 => []
 | n + 1 => z.map .leaf ++ zerosT z n
theorem zerosT_length (z : List Value) (n : Nat) : (zerosT z n).length = n * z.length := by
 induction n with
 | zero => simp [zerosT]
 | succ n ih => simp [zerosT, ih, Nat.succ_mul, Nat.add_comm]
theorem zerosT_eq (z : List Value) (n : Nat) : zerosT z n = ((List.range (n * z.length)).map fun i => T.leaf (z.toArray[i % z.length]!)) := by
 induction n with
 | zero => simp [zerosT]
 | succ n ih =>
  have hz : z.map T.leaf = (List.range z.length).map fun i => T.leaf (z.toArray[i % z.length]!) := by
   apply List.ext_getElem?
   intro j
   by_cases hj : j < z.length
   ·simp [hj, Nat.mod_eq_of_lt hj]
   ·simp [hj]
  rw [zerosT, ih, Nat.succ_mul, Nat.add_comm, List.range_add, List.map_append, ← hz]
  congr 1
  rw [List.map_map]
  apply List.map_congr_left
  intro i _
  simp
theorem idsL_zerosT (z : List Value) (n : Nat) : idsL (zerosT z n) = [] := by
 induction n with
 | zero => rfl
 | succ n ih =>
  refine List.eq_nil_iff_forall_not_mem.2 fun i hi => ?_
  rw [zerosT, ids_append, ih] at hi
  simp [idsL_leaves] at hi
theorem RepL.zeros {w : World} {ok : Tag → Nat → Prop} {β : Nat → Real} (z : List Value) (n : Nat) : RepL w ok (zerosT z n) β ((Array.range (n * z.length)).map fun i => z.toArray[i % z.toArray.size]!).toList := by
 have : zerosT z n = (((Array.range (n * z.length)).map fun i => z.toArray[i % z.toArray.size]!).toList).map T.leaf := by
  rw [zerosT_eq]; simp
 rw [this]
 exact RepL.leaves _
theorem acts_buildSlice {ty el : TypeId} {len d : Nat} {i i' : TI} {ps : Array (Nat × Operand)} {ts : List (Nat × T)} {cs : List T} (ho : o.op = .buildSlice ty len ps) (ht : TOk P ty i) (hk : i.k = .slice el) (he : TOk P el i') (hev0 : evP ev ps.toList = some ts)
  (hz0 : i'.zero.length = i'.size) (hb : len * i'.size ≤ 16777216) (hf : fillT (fun n => some (n * i'.size, i'.size)) (zerosT i'.zero len) ts = some cs) (hd : d ∉ reads) : Acts P o ev h reads { val := .ref d i'.size 0 len, puts := [(d, cs)] } := by
 refine acts_of fun Γ σ β a w hP hev hh hn hs => ?_
 have hd' : σ.h d = none := (hn (d, cs) (by simp) (by simp)).2 hd
 have hdS := (hn (d, cs) (by simp) (by simp)).1
 have hop : ∀ p ∈ ps.toList, σ.ev p.2 = ev p.2 := fun p hp => hev p.2 (by simp only [ho, Op.operands]; simp; exact ⟨p.1, by simpa using hp⟩)
 have hev1 : evP σ.ev ps.toList = some ts := by rw [evP_congr hop, hev0]
 obtain ⟨j, h1, h2, h3, z, h4, h5⟩ := he.info
 obtain ⟨d', h6, h7, _⟩ := ht.und
 rw [hk] at h7; simp only [kOk] at h7; subst h7
 have hzs : z.cells.size = i'.size := by rw [h5]; simpa using hz0
 have hlen : ∀ {cs cs' : List T} {pl : Nat → Option (Nat × Nat)} {ts : List (Nat × T)}, fillT pl cs ts = some cs' → cs'.length = cs.length := by
  intro cs cs' pl ts
  induction ts generalizing cs with
  | nil => intro h; simp only [fillT, Option.some.injEq] at h; rw [h]
  | cons p ts ih =>
   intro h
   simp only [fillT] at h
   split at h
   ·simp at h
   ·split at h
    ·rename_i hc; rw [ih h, splice_length (by omega)]
    ·simp at h
 have hcl : cs.length = len * i'.size := by rw [hlen hf, zerosT_length, hz0]
 have hrz : RepL w (okOf Γ.X σ β w) (zerosT i'.zero len) β ((Array.range (len * i'.size)).map (z.cells[· % z.cells.size]!)).toList := by
  have := RepL.zeros (w := w) (ok := okOf Γ.X σ β w) (β := β) i'.zero len
  rw [hz0, ← h5] at this
  exact this
 obtain ⟨c', h8, h9⟩ := fill_run (w := w) (ok := okOf Γ.X σ β w) (β := β) (pv := (ps.map fun (x : Nat × Operand) => (x.1, a.eval x.2)).toList) hf (c := (Array.range (len * i'.size)).map (z.cells[· % z.cells.size]!)) hrz (by rw [Array.toList_map]; exact parts_ok hs (evP_get hev1))
 have hcs' : c'.size = len * i'.size := by have := h9.length; simp at this; omega
 refine ⟨.slice (some ⟨w.heap.size, 0, none⟩) len len, w.alloc (.cells c' el), _, .inl ?_, hs.newVar hd' hdS h9 (fun n hn => ?_), ?_, ?_⟩
 ·simp only [execOp, ho]
  refine run_v ?_
  by_cases h0 : len * i'.size = 0
  ·have e : ((Array.range (len * i'.size)).map (z.cells[· % z.cells.size]!)) = #[] := by simp [h0]
   rw [e] at h8
   have hlt : ¬ (2 ^ 24 < len * i'.size) := by omega
   simp only [Instr.buildSlice, Sem.run_bind, run_underlying h6, Result.andThen_ok, he.size w, if_neg hlt, gt_iff_lt, if_pos h0, Sem.run_pure]
   have e0 : ∀ f : Nat → Value, (Array.range 0).map f = #[] := fun _ => by simp
   simp only [h0, e0, h8, Sem.run_bind, newRow, run_newObj, Result.andThen_ok, Sem.run_pure]; rfl
  ·have hlt : ¬ (2 ^ 24 < len * i'.size) := by omega
   simp only [Instr.buildSlice, Sem.run_bind, run_underlying h6, Result.andThen_ok, he.size w, if_neg hlt, gt_iff_lt, if_neg h0, Sem.run_pure, zeroValue, typeInfo, run_program, h1, h4]
   simp only [h8, Sem.run_bind, newRow, run_newObj, Result.andThen_ok, Sem.run_pure]; rfl
 ·rcases fillT_ids hf n hn with hn | ⟨p, hp, hn⟩
  ·simp [idsL_zerosT] at hn
  ·obtain ⟨x, _, hx⟩ := evP_mem hev1 hp
   exact hs.ev_ids hx n hn
 ·simp only [Rep, reals, if_true]
  exact ⟨_, len, rfl, Nat.le_refl _, by omega, .inr rfl⟩
 ·simp [T.ids, St.puts, St.drops, upd]
end
end Go.Vw
namespace Go.Vw
open Go Go.RowKit
def bs (l : List Int) : List T := l.map fun n => .leaf (.int .u8 n)
def bytesOf (s : ByteArray) : List Int := s.data.toList.map fun b => (b.toNat : Int)
def strOf (l : List Int) : ByteArray := ⟨(l.map fun n => UInt8.ofNat n.toNat).toArray⟩
section
variable {P : Program} {o : Oper} {ev : Operand → Option T} {h : Nat → Option (List T)} {reads : List Nat} {ti : TypeId → TI}
theorem acts_makeSlice {ty el : TypeId} {x y : Operand} {d : Nat} {k k' : IntKind} {n c : Int} {i i' : TI} (ho : o.op = .makeSlice ty x y) (hx : ev x = some (.leaf (.int k n))) (hy : ev y = some (.leaf (.int k' c))) (ht : TOk P ty i) (hk : i.k = .slice el)
  (he : TOk P el i') (hz0 : i'.zero.length = i'.size) (h0 : 0 ≤ n) (h1 : n ≤ c) (h2 : c < 9223372036854775808) (hb : i'.bytes * c ≤ 281474976710656) (hd : d ∉ reads) :
  Acts P o ev h reads { val := .ref d i'.size 0 n.toNat, puts := [(d, zerosT i'.zero n.toNat)] } := by
 refine acts_of fun Γ σ β a w hP hev hh hn hs => ?_
 have hd' : σ.h d = none := (hn (d, zerosT i'.zero n.toNat) (by simp) (by simp)).2 hd
 have hdS := (hn (d, zerosT i'.zero n.toNat) (by simp) (by simp)).1
 have e1 : a.eval x = .int k n := by simpa [Rep] using hs.ev (show σ.ev x = some (.leaf (.int k n)) by rw [hev x (by simp [ho, Op.operands]), hx])
 have e2 : a.eval y = .int k' c := by simpa [Rep] using hs.ev (show σ.ev y = some (.leaf (.int k' c)) by rw [hev y (by simp [ho, Op.operands]), hy])
 obtain ⟨j, q1, q2, q3, z, q4, q5⟩ := he.info
 obtain ⟨d', h6, h7, _⟩ := ht.und
 rw [hk] at h7; simp only [kOk] at h7; subst h7
 have hzs : z.cells.size = i'.size := by rw [q5]; simpa using hz0
 have wn : IntKind.i64.wrap n = n := by simp [IntKind.wrap, IntKind.bits, IntKind.signed]; omega
 have wc : IntKind.i64.wrap c = c := by simp [IntKind.wrap, IntKind.bits, IntKind.signed]; omega
 have hlz := zerosT_length i'.zero n.toNat
 rw [hz0] at hlz
 have hnc : n.toNat ≤ c.toNat := by omega
 have hncm : n.toNat * i'.size ≤ c.toNat * i'.size := Nat.mul_le_mul_right _ hnc
 let C : Array Value := (Array.range (c.toNat * i'.size)).map (z.cells[· % z.cells.size]!)
 have hC : C.size = c.toNat * i'.size := by simp [C]
 have hrz : RepL w (okOf Γ.X σ β w) (zerosT i'.zero n.toNat) β ((Array.range (n.toNat * i'.size)).map (z.cells[· % z.cells.size]!)).toList := by
  have := RepL.zeros (w := w) (ok := okOf Γ.X σ β w) (β := β) i'.zero n.toNat
  rw [hz0, ← q5] at this
  exact this
 refine ⟨.slice (some ⟨w.heap.size, 0, none⟩) n.toNat c.toNat, w.alloc (.cells C el), _, .inl ?_,
  hs.new hd' hdS (E := c.toNat * i'.size) (by omega) (by omega) (.inl rfl) hrz (fun i v e => ?_) (by simp [idsL_zerosT]), ?_, ?_⟩
 ·simp only [execOp, ho, e1, e2]
  refine run_v ?_
  have t1 : ¬ (c < 0 ∨ 281474976710656 < (i'.bytes : Int) * c) := by omega
  simp only [Instr.makeSlice, Sem.run_bind, run_underlying h6, Result.andThen_ok, asInt, asIntOf, Sem.run_pure, typeInfo, run_program, q1, wn, wc, q3]
  have t2 : (decide (c < 0) || decide (281474976710656 < (i'.bytes : Int) * c)) = false := by simp; omega
  have t3 : decide (n < 0) = false := by simp; omega
  have t4 : decide (c < n) = false := by simp; omega
  have hz := he.size w
  simp only [gt_iff_lt, show (2 : Int) ^ 48 = 281474976710656 from by decide, t2, t3, t4, Bool.or_self, Bool.false_eq_true, if_false, Sem.run_bind, Sem.run_pure, Result.andThen_ok, run_askRoom, hz]
  by_cases hcz : c.toNat * i'.size = 0
  ·have e0 : C = #[] := by simp [C, hcz]
   simp only [hcz, if_true, Sem.run_pure, Result.andThen_ok]
   have e0' : ∀ f : Nat → Value, (Array.range 0).map f = #[] := fun _ => by simp
   simp only [e0', e0, newRow, Sem.run_bind, run_newObj, Result.andThen_ok, Sem.run_pure]; rfl
  ·simp only [if_neg hcz, Sem.run_bind, zeroValue, typeInfo, run_program, Result.andThen_ok, q1, Sem.run_pure, q4, newRow, run_newObj]; rfl
 ·obtain ⟨hi, e'⟩ := List.getElem?_eq_some_iff.1 e
  simp at hi e'
  simp [C, show i < c.toNat * i'.size by omega, e']
 ·simp only [Rep, reals, if_true]
  exact ⟨_, c.toNat, rfl, hnc, by omega, .inr rfl⟩
 ·simp [T.ids, St.puts, St.drops, upd]
def evB (ev : Operand → Option T) : Option Operand → Option (Option Int)
 | none => some none
 | some x => match ev x with | some (.leaf (.int _ i)) => some (some i) | _ => none
theorem evB_run {Γ : Cx} {σ : St} {β : Nat → Real} {a : Act} {w : World} (hs : SimB Γ σ β a w) {x : Option Operand} {r : Option Int} (hx : evB σ.ev x = some r) :
  (x = none ∧ r = none) ∨ ∃ y k i, x = some y ∧ r = some i ∧ a.eval y = .int k i := by
 cases x with
 | none => simp only [evB, Option.some.injEq] at hx; exact .inl ⟨rfl, hx.symm⟩
 | some y =>
  simp only [evB] at hx
  split at hx
  ·rename_i k i e
   injection hx with hx
   exact .inr ⟨y, k, i, rfl, hx.symm, by simpa [Rep] using hs.ev e⟩
  ·simp at hx
theorem evB_congr {ev ev' : Operand → Option T} {x : Option Operand} (h : ∀ y, x = some y → ev y = ev' y) : evB ev x = evB ev' x := by
 cases x with
 | none => rfl
 | some y => simp only [evB, h y rfl]
def cutOk (lo hi mx : Option Int) (n : Nat) (l h m : Nat) : Prop :=
 lo.getD (0 : Int) = (l : Int) ∧ hi.getD (n : Int) = (h : Int) ∧ mx.getD (n : Int) = (m : Int) ∧ l ≤ h ∧ h ≤ m ∧ m ≤ n ∧ (mx ≠ none → hi ≠ none)
theorem run_bounds {a : Act} {lo hi mx : Option Operand} {rl rh rm : Option Int} {n c l h m : Nat} (w : World) (b : Bool)
  (hl : (lo = none ∧ rl = none) ∨ ∃ y k i, lo = some y ∧ rl = some i ∧ a.eval y = .int k i) (hh : (hi = none ∧ rh = none) ∨ ∃ y k i, hi = some y ∧ rh = some i ∧ a.eval y = .int k i)
  (hm : (mx = none ∧ rm = none) ∨ ∃ y k i, mx = some y ∧ rm = some i ∧ a.eval y = .int k i) (hc : cutOk rl rh rm n l h m) (hnc : n ≤ c) :
  (Instr.sliceBounds b n c (lo.map a.eval) (hi.map a.eval) (mx.map a.eval)).run P w = .ok (l, h, if mx = none then c else m) w := by
 obtain ⟨c1, c2, c3, c4, c5, c6, c7⟩ := hc
 have key : ∀ (y : Nat) (k : IntKind) (q : Int) (code : BoundsCode), 0 ≤ q → q ≤ y → (Instr.sliceBound (.int k q) y code).run P w = .ok q.toNat w := fun y k q code h0 h1 => by simp [Instr.sliceBound, asIntOf, h0, h1]
 rcases hm with ⟨rfl, rfl⟩ | ⟨ym, km, im, rfl, rfl, em⟩ <;> rcases hh with ⟨rfl, rfl⟩ | ⟨yh, kh, ih, rfl, rfl, eh⟩ <;> rcases hl with ⟨rfl, rfl⟩ | ⟨yl, kl, il, rfl, rfl, el⟩ <;>
  simp only [Option.getD_none, Option.getD_some] at c1 c2 c3
 all_goals first
  | (exfalso; simp at c7; done)
  | skip
 ·simp only [Instr.sliceBounds, Option.map_none, Sem.run_bind, Sem.run_pure, Result.andThen_ok, if_true]
  refine congrArg (fun q => Result.ok q w) ?_
  simp; omega
 ·simp only [Instr.sliceBounds, Option.map_none, Option.map_some, Sem.run_bind, Sem.run_pure, Result.andThen_ok, if_true, el, key n kl il _ (by omega) (by omega)]
  refine congrArg (fun q => Result.ok q w) ?_
  simp; omega
 ·simp only [Instr.sliceBounds, Option.map_none, Option.map_some, Sem.run_bind, Sem.run_pure, Result.andThen_ok, if_true, eh, key c kh ih _ (by omega) (by omega)]
  refine congrArg (fun q => Result.ok q w) ?_
  simp; omega
 ·simp only [Instr.sliceBounds, Option.map_none, Option.map_some, Sem.run_bind, Sem.run_pure, Result.andThen_ok, if_true, eh, el, key c kh ih _ (by omega) (by omega), key ih.toNat kl il _ (by omega) (by omega)]
  refine congrArg (fun q => Result.ok q w) ?_
  simp; omega
 ·simp only [Instr.sliceBounds, Option.map_none, Option.map_some, Sem.run_bind, Sem.run_pure, Result.andThen_ok, reduceCtorEq, if_false, em, eh, key c km im _ (by omega) (by omega), key im.toNat kh ih _ (by omega) (by omega)]
  refine congrArg (fun q => Result.ok q w) ?_
  simp; omega
 ·simp only [Instr.sliceBounds, Option.map_none, Option.map_some, Sem.run_bind, Sem.run_pure, Result.andThen_ok, reduceCtorEq, if_false, em, eh, el, key c km im _ (by omega) (by omega), key im.toNat kh ih _ (by omega) (by omega), key ih.toNat kl il _ (by omega) (by omega)]
  refine congrArg (fun q => Result.ok q w) ?_
  simp; omega
theorem run_sliceAt_eq {ty el : TypeId} (h3 : P.underlying ty = some (.slice el)) {i' : TI} (he : TOk P el i') {ad : Option Addr} {n c l h m : Nat} {x y z : Option Value} {w : World} (hb : (Instr.sliceBounds true n c x y z).run P w = .ok (l, h, m) w) :
  (Instr.sliceAt ty (.slice ad n c) x y z).run P w = .ok (.slice (if m = l then ad else ad.map (·.add (l * i'.size))) (h - l) (m - l)) w := by
 simp only [Instr.sliceAt, Sem.run_bind, run_underlying h3, Result.andThen_ok, Instr.slice, hb, he.size w, Sem.run_pure]
theorem operands_slice {ty : TypeId} {x : Operand} {lo hi mx : Option Operand} (ho : o.op = .slice ty x lo hi mx) {y : Operand} (hy : y = x ∨ lo = some y ∨ hi = some y ∨ mx = some y) : y ∈ o.op.operands := by
 rcases hy with rfl | rfl | rfl | rfl <;> simp [ho, Op.operands]
theorem acts_sliceRef {ty el : TypeId} {x : Operand} {lo hi mx : Option Operand} {rl rh rm : Option Int} {id m off n l hh' mm : Nat} {i i' : TI} (ho : o.op = .slice ty x lo hi mx) (hx : ev x = some (.ref id m off n)) (hlo : evB ev lo = some rl) (hhi : evB ev hi = some rh) (hmx : evB ev mx = some rm)
  (ht : TOk P ty i) (hk : i.k = .slice el) (he : TOk P el i') (hm : i'.size = m) (hc : cutOk rl rh rm n l hh' mm) : Acts P o ev h reads { val := .ref id m (off + l * m) (hh' - l) } := by
 refine acts_value fun Γ σ β a w hP hev hh hs => ?_
 have e : σ.ev x = some (.ref id m off n) := by rw [hev x (operands_slice ho (.inl rfl)), hx]
 have bl := evB_run hs (show evB σ.ev lo = some rl by rw [evB_congr fun y hy => hev y (operands_slice ho (.inr (.inl hy))), hlo])
 have bh := evB_run hs (show evB σ.ev hi = some rh by rw [evB_congr fun y hy => hev y (operands_slice ho (.inr (.inr (.inl hy)))), hhi])
 have bm := evB_run hs (show evB σ.ev mx = some rm by rw [evB_congr fun y hy => hev y (operands_slice ho (.inr (.inr (.inr hy)))), hmx])
 obtain ⟨d, h3, h4, _⟩ := ht.und
 rw [hk] at h4; simp only [kOk] at h4; subst h4
 have hrep := hs.ev e
 simp only [Rep] at hrep
 have hc' := hc
 obtain ⟨c1, c2, c3, c4, c5, c6, c7⟩ := hc'
 cases hb : β id with
 | ph =>
  rw [hb] at hrep
  obtain ⟨rfl, rfl, ad, hv⟩ := hrep
  have hbd := run_bounds (P := P) w true bl bh bm hc (Nat.le_refl 0)
  refine ⟨.slice (if (if mx = none then 0 else mm) = l then ad else ad.map (·.add (l * i'.size))) (hh' - l) ((if mx = none then 0 else mm) - l), ?_, ?_, by simpa [T.ids] using hs.ev_ids e⟩
  ·simp only [execOp, ho, hv]
   exact run_v (run_sliceAt_eq h3 he hbd)
  ·have : l = 0 := by omega
   subst this
   simp only [Rep, hb]
   refine ⟨by simp, by omega, (if (if mx = none then 0 else mm) = 0 then ad else ad.map (·.add (0 * i'.size))), ?_⟩
   have : (if mx = none then 0 else mm) - 0 = 0 := by split <;> omega
   rw [this]; congr 1; omega
 | real b ob E =>
  rw [hb] at hrep
  obtain ⟨ad, cap, hv, g1, g2, g3⟩ := hrep
  have hbd := run_bounds (P := P) w true bl bh bm hc g1
  refine ⟨.slice (if (if mx = none then cap else mm) = l then ad else ad.map (·.add (l * i'.size))) (hh' - l) ((if mx = none then cap else mm) - l), ?_, ?_, by simpa [T.ids] using hs.ev_ids e⟩
  ·simp only [execOp, ho, hv]
   exact run_v (run_sliceAt_eq h3 he hbd)
  ·simp only [Rep, hb]
   have hle : (if mx = none then cap else mm) ≤ cap := by split <;> omega
   have hlm : l ≤ (if mx = none then cap else mm) := by split <;> omega
   have hhm : hh' ≤ (if mx = none then cap else mm) := by split <;> omega
   refine ⟨_, _, rfl, by omega, ?_, ?_⟩
   ·rw [Nat.add_assoc, ← Nat.add_mul]
    have : (l + ((if mx = none then cap else mm) - l)) * m ≤ cap * m := Nat.mul_le_mul_right _ (by omega)
    omega
   ·by_cases hml : (if mx = none then cap else mm) = l
    ·exact .inl (by omega)
    ·rw [if_neg hml]
     rcases g3 with g3 | g3
     ·exact .inl (by omega)
     ·right; subst g3; simp [addr_add, hm, Nat.add_assoc]
theorem acts_sliceSl {ty el : TypeId} {x : Operand} {lo hi mx : Option Operand} {rl rh rm : Option Int} {m n l hh' mm : Nat} {g : Tag} {cs : List T} {i i' : TI} (ho : o.op = .slice ty x lo hi mx) (hx : ev x = some (.sl m g n cs)) (hlo : evB ev lo = some rl) (hhi : evB ev hi = some rh) (hmx : evB ev mx = some rm)
  (ht : TOk P ty i) (hk : i.k = .slice el) (he : TOk P el i') (hm : i'.size = m) (hc : cutOk rl rh rm n l hh' mm) :
  Acts P o ev h reads { val := if rm ≠ none ∧ l = mm then .e0 else .sl m g (hh' - l) (sub cs (l * m) ((hh' - l) * m)) } := by
 refine acts_value fun Γ σ β a w hP hev hh hs => ?_
 have e : σ.ev x = some (.sl m g n cs) := by rw [hev x (operands_slice ho (.inl rfl)), hx]
 have bl := evB_run hs (show evB σ.ev lo = some rl by rw [evB_congr fun y hy => hev y (operands_slice ho (.inr (.inl hy))), hlo])
 have bh := evB_run hs (show evB σ.ev hi = some rh by rw [evB_congr fun y hy => hev y (operands_slice ho (.inr (.inr (.inl hy)))), hhi])
 have bm := evB_run hs (show evB σ.ev mx = some rm by rw [evB_congr fun y hy => hev y (operands_slice ho (.inr (.inr (.inr hy)))), hmx])
 obtain ⟨d, h3, h4, _⟩ := ht.und
 rw [hk] at h4; simp only [kOk] at h4; subst h4
 have hrep := hs.ev e
 simp only [Rep] at hrep
 obtain ⟨⟨g1, g2⟩, ad, cap, hv, g3, g4⟩ := hrep
 have hc' := hc
 obtain ⟨c1, c2, c3, c4, c5, c6, c7⟩ := hc'
 have hbd := run_bounds (P := P) w true bl bh bm hc g3
 have hmn : (mx = none) ↔ (rm = none) := by rcases bm with ⟨rfl, rfl⟩ | ⟨_, _, _, rfl, rfl, _⟩ <;> simp
 refine ⟨.slice (if (if mx = none then cap else mm) = l then ad else ad.map (·.add (l * i'.size))) (hh' - l) ((if mx = none then cap else mm) - l), ?_, ?_, ?_⟩
 ·simp only [execOp, ho, hv]
  exact run_v (run_sliceAt_eq h3 he hbd)
 ·split
  ·rename_i hq
   have : mx ≠ none := fun e => hq.1 (hmn.1 e)
   simp only [Rep, if_neg this]
   exact ⟨_, by congr 1 <;> omega⟩
  ·have hle : (if mx = none then cap else mm) ≤ cap := by split <;> omega
   have hhm : hh' ≤ (if mx = none then cap else mm) := by split <;> omega
   simp only [Rep]
   have hlm : l * m + (hh' - l) * m ≤ cs.length := by
    rw [g1, ← Nat.add_mul]; exact Nat.mul_le_mul_right _ (by omega)
   refine ⟨⟨by simp [sub]; omega, ?_⟩, _, _, rfl, by omega, ?_⟩
   ·refine List.eq_nil_iff_forall_not_mem.2 fun q hq => ?_
    have := ids_sub _ _ q hq
    rw [g2] at this; simp at this
   ·by_cases hz : hh' - l = 0
    ·exact .inl hz
    ·right
     rw [if_neg (by omega)]
     obtain ⟨b, ob, rfl, g5, g6⟩ := g4.resolve_left (by omega)
     obtain ⟨vs, g7, g8⟩ := g6.open_
     refine ⟨b, ob + l * m, by simp [addr_add, hm], g5, RepAt.shut (vs := (vs.drop (l * m)).take ((hh' - l) * m)) ((g7.drop _).take _) ((g8.drop _).take _)⟩
 ·split <;> simp [T.ids]
theorem acts_sliceXl {ty el : TypeId} {x : Operand} {lo hi mx : Option Operand} {rl rh rm : Option Int} {m n l hh' mm : Nat} {g : Tag} {cs : List T} {i i' : TI} (ho : o.op = .slice ty x lo hi mx) (hx : ev x = some (.sl m g n cs)) (hlo : evB ev lo = some rl) (hhi : evB ev hi = some rh) (hmx : evB ev mx = some rm)
  (ht : TOk P ty i) (hk : i.k = .slice el) (he : TOk P el i') (hm : i'.size = m) (hc : cutOk rl rh rm n l hh' mm) (hrm : rm ≠ none) (hq : hh' = mm) :
  Acts P o ev h reads { val := .xl m g (hh' - l) (sub cs (l * m) ((hh' - l) * m)) } := by
 refine acts_value fun Γ σ β a w hP hev hh hs => ?_
 have e : σ.ev x = some (.sl m g n cs) := by rw [hev x (operands_slice ho (.inl rfl)), hx]
 have bl := evB_run hs (show evB σ.ev lo = some rl by rw [evB_congr fun y hy => hev y (operands_slice ho (.inr (.inl hy))), hlo])
 have bh := evB_run hs (show evB σ.ev hi = some rh by rw [evB_congr fun y hy => hev y (operands_slice ho (.inr (.inr (.inl hy)))), hhi])
 have bm := evB_run hs (show evB σ.ev mx = some rm by rw [evB_congr fun y hy => hev y (operands_slice ho (.inr (.inr (.inr hy)))), hmx])
 obtain ⟨d, h3, h4, _⟩ := ht.und
 rw [hk] at h4; simp only [kOk] at h4; subst h4
 have hrep := hs.ev e
 simp only [Rep] at hrep
 obtain ⟨⟨g1, g2⟩, ad, cap, hv, g3, g4⟩ := hrep
 have hc' := hc
 obtain ⟨c1, c2, c3, c4, c5, c6, c7⟩ := hc'
 have hbd := run_bounds (P := P) w true bl bh bm hc g3
 have hmn : mx ≠ none := by rcases bm with ⟨rfl, rfl⟩ | ⟨_, _, _, rfl, rfl, _⟩ <;> simp_all
 refine ⟨.slice (if (if mx = none then cap else mm) = l then ad else ad.map (·.add (l * i'.size))) (hh' - l) ((if mx = none then cap else mm) - l), ?_, ?_, by simp [T.ids]⟩
 ·simp only [execOp, ho, hv]
  exact run_v (run_sliceAt_eq h3 he hbd)
 ·rw [if_neg hmn]
  simp only [Rep]
  have hlm : l * m + (hh' - l) * m ≤ cs.length := by
   rw [g1, ← Nat.add_mul]; exact Nat.mul_le_mul_right _ (by omega)
  refine ⟨⟨by simp [sub]; omega, ?_⟩, _, by rw [hq], ?_⟩
  ·refine List.eq_nil_iff_forall_not_mem.2 fun q hq => ?_
   have := ids_sub _ _ q hq
   rw [g2] at this; simp at this
  ·by_cases hz : hh' - l = 0
   ·exact .inl hz
   ·right
    rw [if_neg (by omega)]
    obtain ⟨b, ob, rfl, g5, g6⟩ := g4.resolve_left (by omega)
    obtain ⟨vs, g7, g8⟩ := g6.open_
    refine ⟨b, ob + l * m, by simp [addr_add, hm], g5, RepAt.shut (vs := (vs.drop (l * m)).take ((hh' - l) * m)) ((g7.drop _).take _) ((g8.drop _).take _)⟩
theorem acts_sliceNil {ty el : TypeId} {x : Operand} {lo hi mx : Option Operand} {rl rh rm : Option Int} {i i' : TI} (ho : o.op = .slice ty x lo hi mx) (hx : ev x = some (.leaf (.slice none 0 0))) (hlo : evB ev lo = some rl) (hhi : evB ev hi = some rh) (hmx : evB ev mx = some rm)
  (ht : TOk P ty i) (hk : i.k = .slice el) (he : TOk P el i') (hc : cutOk rl rh rm 0 0 0 0) : Acts P o ev h reads { val := .leaf (.slice none 0 0) } := by
 refine acts_value fun Γ σ β a w hP hev hh hs => ?_
 have e : σ.ev x = some (.leaf (.slice none 0 0)) := by rw [hev x (operands_slice ho (.inl rfl)), hx]
 have bl := evB_run hs (show evB σ.ev lo = some rl by rw [evB_congr fun y hy => hev y (operands_slice ho (.inr (.inl hy))), hlo])
 have bh := evB_run hs (show evB σ.ev hi = some rh by rw [evB_congr fun y hy => hev y (operands_slice ho (.inr (.inr (.inl hy)))), hhi])
 have bm := evB_run hs (show evB σ.ev mx = some rm by rw [evB_congr fun y hy => hev y (operands_slice ho (.inr (.inr (.inr hy)))), hmx])
 obtain ⟨d, h3, h4, _⟩ := ht.und
 rw [hk] at h4; simp only [kOk] at h4; subst h4
 have hv : a.eval x = .slice none 0 0 := by simpa [Rep] using hs.ev e
 have hbd := run_bounds (P := P) w true bl bh bm hc (Nat.le_refl 0)
 refine ⟨.slice none 0 0, ?_, by simp [Rep], by simp [T.ids]⟩
 simp only [execOp, ho, hv]
 refine run_v ?_
 rw [run_sliceAt_eq h3 he hbd]
 simp
theorem acts_sliceArr {ty el : TypeId} {x : Operand} {lo hi mx : Option Operand} {rl rh rm : Option Int} {id off N l hh' mm : Nat} {cs : List T} {i i' : TI} (ho : o.op = .slice ty x lo hi mx) (hx : ev x = some (.addr id off)) (hlo : evB ev lo = some rl) (hhi : evB ev hi = some rh) (hmx : evB ev mx = some rm)
  (ht : TOk P ty i) (hk : i.k = .array N el) (he : TOk P el i') (hr : id ∈ reads) (hid : h id = some cs) (hl : off + N * i'.size ≤ cs.length) (hc : cutOk rl rh rm N l hh' mm) : Acts P o ev h reads { val := .ref id i'.size (off + l * i'.size) (hh' - l) } := by
 refine acts_value fun Γ σ β a w hP hev hh hs => ?_
 have e : σ.ev x = some (.addr id off) := by rw [hev x (operands_slice ho (.inl rfl)), hx]
 have bl := evB_run hs (show evB σ.ev lo = some rl by rw [evB_congr fun y hy => hev y (operands_slice ho (.inr (.inl hy))), hlo])
 have bh := evB_run hs (show evB σ.ev hi = some rh by rw [evB_congr fun y hy => hev y (operands_slice ho (.inr (.inr (.inl hy)))), hhi])
 have bm := evB_run hs (show evB σ.ev mx = some rm by rw [evB_congr fun y hy => hev y (operands_slice ho (.inr (.inr (.inr hy)))), hmx])
 have hid' : σ.h id = some cs := by rw [hh id hr, hid]
 obtain ⟨d, h3, h4, _⟩ := ht.und
 rw [hk] at h4; simp only [kOk] at h4; subst h4
 have hrep := hs.ev e
 simp only [Rep] at hrep
 have hc' := hc
 obtain ⟨c1, c2, c3, c4, c5, c6, c7⟩ := hc'
 cases hb : β id with
 | ph => rw [hb] at hrep; exact hrep.elim
 | real b ob E =>
  rw [hb] at hrep
  obtain ⟨c, el', fr, vs, q1, q2, q3, q4, q5, q6⟩ := obj_open hs hid' hb
  have hbd := run_bounds (P := P) w false bl bh bm hc (Nat.le_refl N)
  refine ⟨.slice (some (if (if mx = none then N else mm) = l then ⟨b, ob + off, none⟩ else (⟨b, ob + off, none⟩ : Addr).add (l * i'.size))) (hh' - l) ((if mx = none then N else mm) - l), ?_, ?_, by simpa [T.ids] using hs.ev_ids e⟩
  ·simp only [execOp, ho, hrep]
   refine run_v ?_
   simp only [Instr.sliceAt, Sem.run_bind, run_underlying h3, Result.andThen_ok, Instr.sureAddr, Sem.run_pure, hbd, he.size w]
  ·have hle : (if mx = none then N else mm) ≤ N := by split <;> omega
   have hlm : l ≤ (if mx = none then N else mm) := by split <;> omega
   have hhm : hh' ≤ (if mx = none then N else mm) := by split <;> omega
   simp only [Rep, hb]
   refine ⟨_, _, rfl, by omega, ?_, ?_⟩
   ·rw [Nat.add_assoc, ← Nat.add_mul]
    have : (l + ((if mx = none then N else mm) - l)) * i'.size ≤ N * i'.size := Nat.mul_le_mul_right _ (by omega)
    omega
   ·by_cases hml : (if mx = none then N else mm) = l
    ·exact .inl (by omega)
    ·rw [if_neg hml, addr_add, Nat.add_assoc]; exact .inr rfl
theorem acts_sliceStr {ty : TypeId} {x : Operand} {lo hi : Option Operand} {rl rh : Option Int} {s : ByteArray} {l hh' : Nat} {i : TI} (ho : o.op = .slice ty x lo hi none) (hx : ev x = some (.leaf (.string s))) (hlo : evB ev lo = some rl) (hhi : evB ev hi = some rh)
  (ht : TOk P ty i) (hk : i.k = .str) (hc : cutOk rl rh none s.size l hh' s.size) : Acts P o ev h reads { val := .leaf (.string (s.extract l hh')) } := by
 refine acts_value fun Γ σ β a w hP hev hh hs => ?_
 have e : σ.ev x = some (.leaf (.string s)) := by rw [hev x (operands_slice ho (.inl rfl)), hx]
 have bl := evB_run hs (show evB σ.ev lo = some rl by rw [evB_congr fun y hy => hev y (operands_slice ho (.inr (.inl hy))), hlo])
 have bh := evB_run hs (show evB σ.ev hi = some rh by rw [evB_congr fun y hy => hev y (operands_slice ho (.inr (.inr (.inl hy)))), hhi])
 obtain ⟨d, h3, h4, _⟩ := ht.und
 rw [hk] at h4; simp only [kOk] at h4; subst h4
 have hv : a.eval x = .string s := by simpa [Rep] using hs.ev e
 have hbd := run_bounds (P := P) (mx := none) (rm := none) w false bl bh (.inl ⟨rfl, rfl⟩) hc (Nat.le_refl _)
 refine ⟨.string (s.extract l hh'), ?_, by simp [Rep], by simp [T.ids]⟩
 simp only [execOp, ho, hv]
 refine run_v ?_
 simp only [Option.map_none] at hbd
 simp only [Instr.sliceAt, Sem.run_bind, run_underlying h3, Result.andThen_ok, Instr.slice, Option.map_none, Option.isSome_none, Bool.false_eq_true, if_false, hbd, Sem.run_pure]
end
end Go.Vw
namespace Go.Vw
open Go Go.RowKit
theorem idsL_bs (l : List Int) : idsL (bs l) = [] := by
 induction l with
 | nil => rfl
 | cons a l ih => simp only [bs, List.map_cons, idsL, T.ids, List.nil_append]; exact ih
def srcOf (h : Nat → Option (List T)) : T → Option (Nat × List T)
 | .leaf (.slice none 0 0) => some (0, [])
 | .leaf (.slice (some _) 0 _) => some (0, [])
 | .leaf (.string s) => some (s.size, bs (bytesOf s))
 | .e0 => some (0, [])
 | .sl _ _ n cs => some (n, cs)
 | .ref id m off n => match h id with | some cs => some (n, sub cs off (n * m)) | none => none
 | _ => none
def srcFits (h : Nat → Option (List T)) (m : Nat) : T → Prop
 | .sl m' _ _ _ => m' = m
 | .ref id m' off n => m' = m ∧ ∃ cs, h id = some cs ∧ off + n * m ≤ cs.length
 | .leaf (.string _) => m = 1
 | _ => True
section
variable {P : Program} {o : Oper} {ev : Operand → Option T} {h : Nat → Option (List T)} {reads : List Nat} {ti : TypeId → TI}
theorem src_run {Γ : Cx} {σ : St} {β : Nat → Real} {a : Act} {w : World} (hs : SimB Γ σ β a w) {x : Operand} {t : T} (e : σ.ev x = some t) {m n : Nat} {cs : List T} (hsrc : srcOf σ.h t = some (n, cs)) (hf : srcFits σ.h m t) :
  (∀ w' : World, (Builtin.lenOf (a.eval x)).run P w' = .ok n w') ∧ cs.length = n * m ∧ (∀ i ∈ idsL cs, σ.h i ≠ none) ∧ ∃ vs, RepL w (okOf Γ.X σ β w) cs β vs ∧
   ∀ (w' : World), w'.heap = w.heap → ∀ k, k ≤ n → (Builtin.firstCells m k (a.eval x)).run P w' = .ok (vs.take (k * m)).toArray w' := by
 have hrep := hs.ev e
 have emp : ∀ {ad : Option Addr} {cap : Nat}, a.eval x = .slice ad 0 cap → (∀ w' : World, w'.heap = w.heap → ∀ k, k ≤ 0 → (Builtin.firstCells m k (a.eval x)).run P w' = .ok (([] : List Value).take (k * m)).toArray w') := by
  intro ad cap e w' _ k hk
  obtain rfl : k = 0 := by omega
  rw [e]
  cases ad <;> simp [Builtin.firstCells, loadCells, loadCellsFrom]
 cases t with
 | dead => simp [srcOf] at hsrc
 | e0 =>
  simp only [srcOf, Option.some.injEq, Prod.mk.injEq] at hsrc
  obtain ⟨rfl, rfl⟩ := hsrc
  simp only [Rep] at hrep
  obtain ⟨ad, hv⟩ := hrep
  exact ⟨fun w' => by simp [hv, Builtin.lenOf], by simp, by simp [idsL], [], by simp [RepL], emp hv⟩
 | leaf v =>
  simp only [Rep] at hrep
  cases v <;> simp only [srcOf, reduceCtorEq] at hsrc
  case string s =>
   simp only [Option.some.injEq, Prod.mk.injEq] at hsrc
   obtain ⟨rfl, rfl⟩ := hsrc
   simp only [srcFits] at hf
   subst hf
   refine ⟨fun w' => by simp [hrep, Builtin.lenOf], ?_, by simp [idsL_bs], (bytesOf s).map (.int .u8), ?_, fun w' _ k hk => ?_⟩
   ·simp [bs, bytesOf]
   ·have : bs (bytesOf s) = ((bytesOf s).map (Value.int .u8)).map .leaf := by simp [bs]
    rw [this]; exact RepL.leaves _
   ·rw [hrep]
    simp only [Builtin.firstCells, Sem.run_pure]
    congr 1
    apply Array.ext'
    simp [bytesOf, List.map_take]
    congr 1
  case slice ad n' cap =>
   cases ad with
   | some ad =>
    cases n' with
    | succ _ => simp at hsrc
    | zero =>
     simp only [Option.some.injEq, Prod.mk.injEq] at hsrc
     obtain ⟨rfl, rfl⟩ := hsrc
     exact ⟨fun w' => by simp [hrep, Builtin.lenOf], by simp, by simp [idsL], [], by simp [RepL], emp hrep⟩
   | none =>
    cases n' with
    | succ _ => simp at hsrc
    | zero =>
     cases cap with
     | succ _ => simp at hsrc
     | zero =>
      simp only [Option.some.injEq, Prod.mk.injEq] at hsrc
      obtain ⟨rfl, rfl⟩ := hsrc
      exact ⟨fun w' => by simp [hrep, Builtin.lenOf], by simp, by simp [idsL], [], by simp [RepL], emp hrep⟩
 | sl m' g n' cs' =>
  simp only [srcOf, Option.some.injEq, Prod.mk.injEq] at hsrc
  obtain ⟨rfl, rfl⟩ := hsrc
  simp only [srcFits] at hf
  subst hf
  simp only [Rep] at hrep
  obtain ⟨⟨h1, h2⟩, ad, cap, hv, h3, h4⟩ := hrep
  refine ⟨fun w' => by simp [hv, Builtin.lenOf], h1, by simp [h2], ?_⟩
  by_cases hn : n' = 0
  ·subst hn
   have : cs' = [] := List.length_eq_zero_iff.1 (by simpa using h1)
   subst this
   exact ⟨[], by simp [RepL], emp hv⟩
  ·obtain ⟨b, ob, rfl, h5, h6⟩ := h4.resolve_left hn
   obtain ⟨vs, h7, h8⟩ := h6.open_
   refine ⟨vs, h7.sealed h2, fun w' hw' k hk => ?_⟩
   rw [hv]
   have hvl := h7.length
   have hlen : (vs.take (k * m')).length = k * m' := by
    have : k * m' ≤ n' * m' := Nat.mul_le_mul_right _ hk
    simp; omega
   exact run_firstCells_some (P := P) w' m' k ⟨b, ob, none⟩ n' cap _ hlen (fun j v hj => by rw [addr_add]; have := h8.take (k * m') j v hj; simpa [World.cell?, hw'] using this)
 | ref id m' off n' =>
  simp only [srcOf] at hsrc
  simp only [srcFits] at hf
  obtain ⟨rfl, cs', hid, hle⟩ := hf
  rw [hid] at hsrc
  simp only [Option.some.injEq, Prod.mk.injEq] at hsrc
  obtain ⟨rfl, rfl⟩ := hsrc
  have hl : (sub cs' off (n' * m')).length = n' * m' := by simp [sub]; omega
  have hids : ∀ i ∈ idsL (sub cs' off (n' * m')), σ.h i ≠ none := fun i hi => hs.wfh id cs' hid i (ids_sub _ _ i hi)
  simp only [Rep] at hrep
  cases hb : β id with
  | ph =>
   rw [hb] at hrep
   obtain ⟨rfl, rfl, ad, hv⟩ := hrep
   refine ⟨fun w' => by simp [hv, Builtin.lenOf], hl, hids, [], ?_, emp hv⟩
   have : sub cs' 0 (0 * m') = [] := List.length_eq_zero_iff.1 (by simpa using hl)
   rw [this]; simp [RepL]
  | real b ob E =>
   rw [hb] at hrep
   obtain ⟨ad, cap, hv, g1, g2, g3⟩ := hrep
   obtain ⟨c, el', fr, vs, q1, q2, q3, q4, q5, q6⟩ := obj_open hs hid hb
   refine ⟨fun w' => by simp [hv, Builtin.lenOf], hl, hids, (vs.drop off).take (n' * m'), (q5.drop off).take _, fun w' hw' k hk => ?_⟩
   rw [hv]
   by_cases hn : n' = 0
   ·subst hn
    have := emp hv w' hw' k hk
    rw [hv] at this
    simpa using this
   ·have had := g3.resolve_left (by omega)
    subst had
    have hvl := q5.length
    have hkm : k * m' ≤ n' * m' := Nat.mul_le_mul_right _ hk
    have hlen : (((vs.drop off).take (n' * m')).take (k * m')).length = k * m' := by
     simp; omega
    exact run_firstCells_some (P := P) w' m' k ⟨b, ob + off, none⟩ n' cap _ hlen (fun j v hj => by
     rw [addr_add]; have := ((q6.drop off).take (n' * m')).take (k * m') j v hj; simpa [World.cell?, hw'] using this)
 | _ => simp [srcOf] at hsrc
theorem srcOf_congr {h h' : Nat → Option (List T)} {t : T} (hh : ∀ i ∈ t.ids, h i = h' i) : srcOf h t = srcOf h' t := by
 cases t with
 | ref id m off n => simp only [srcOf]; rw [hh id (by simp [T.ids])]
 | leaf v => cases v <;> first | rfl | (rename_i a n c; cases a <;> first | rfl | (cases n <;> first | rfl | (cases c <;> rfl)))
 | _ => rfl
theorem srcFits_congr {h h' : Nat → Option (List T)} {t : T} {m : Nat} (hh : ∀ i ∈ t.ids, h i = h' i) : srcFits h m t ↔ srcFits h' m t := by
 cases t with
 | ref id m off n => simp only [srcFits]; rw [hh id (by simp [T.ids])]
 | leaf v => cases v <;> exact Iff.rfl
 | _ => exact Iff.rfl
theorem run_append_any {t u ty el : TypeId} {i' : TI} (ht : P.underlying t = some (.slice el)) (hu : ∃ d, P.underlying u = some d ∧ ∀ k, d ≠ .int k) (he : TOk P el i') {ad : Option Addr} {n cap k : Nat} {x : Value} {vs : List Value} {w : World}
  (hlen : ∀ w' : World, (Builtin.lenOf x).run P w' = .ok k w') (hsrc : ∀ w' : World, w'.heap = w.heap → (Builtin.firstCells i'.size k x).run P w' = .ok vs.toArray w') {old : List Value} (hold : ∀ w' : World, w'.heap = w.heap → (Builtin.firstCells i'.size n (.slice ad n cap)).run P w' = .ok old.toArray w')
  (hb : (n + k) * i'.bytes ≤ 140737488355328) (hp : 0 < i'.bytes) :
  (n + k ≤ cap ∧ (Builtin.append_ #[t, u] ty #[.slice ad n cap, x]).run P w = (match ad with | some a => ((storeCells (a.add (n * i'.size)) vs).run P w).andThen fun _ w' => .ok (.slice ad (n + k) cap) w' | none => .ok (.slice ad (n + k) cap) w)) ∨
  (cap < n + k ∧ ∃ C, n + k ≤ C ∧ (Builtin.append_ #[t, u] ty #[.slice ad n cap, x]).run P w = .ok (.slice (some ⟨w.heap.size, 0, none⟩) (n + k) C) (w.drew.alloc (.cells (old.toArray ++ vs.toArray ++ Builtin.zeroCells i'.zero.toArray (C - (n + k))) el))) := by
 obtain ⟨d, hu1, hu2⟩ := hu
 obtain ⟨j, q1, q2, q3, z, q4, q5⟩ := he.info
 have hz : ∀ w : World, (sizeOf el).run P w = .ok i'.size w := he.size
 have hnk : n + k ≤ 140737488355328 := by
  have : (n + k) * 1 ≤ (n + k) * i'.bytes := Nat.mul_le_mul_left _ hp
  omega
 have hmi : (match d with | .int _ => true | _ => false) = false := by cases d <;> simp; exact hu2 _ rfl
 by_cases hroom : n + k ≤ cap
 ·left
  refine ⟨hroom, ?_⟩
  simp only [Builtin.append_, Sem.run_bind, run_underlying ht, Result.andThen_ok, hz, run_underlying hu1, Sem.run_pure, List.getElem?_toArray, List.getElem?_cons_zero, List.getElem?_cons_succ, hmi, Bool.false_eq_true, if_false, hlen, if_pos hroom, Bool.not_false, if_true, hsrc w rfl]
  cases ad with
  | none => simp
  | some a => simp
 ·right
  refine ⟨by omega, grownCap w (n + k) cap el, grownCap_ge w (n + k) cap el, ?_⟩
  have h63' : ¬ (9223372036854775807 < ((n : Int) + (k : Int))) := by omega
  have hfit := growslice_fits (need := n + k) (old := cap) (by omega) hb
  have h48' : ¬ (281474976710656 < Builtin.nextslicecap (n + k) cap * i'.bytes) := by omega
  simp [Builtin.append_, run_underlying ht, run_underlying hu1, sizeOf, typeInfo, zeroValue, q1, q2, q3, q4, q5, hlen, hroom, h63', h48', Question.forced, hsrc w.drew rfl, hold w.drew rfl, newRow, grownCap, hmi]
  congr 2
  apply Array.ext'
  simp [List.append_assoc]
theorem zeroCells_size (z : Array Value) (n : Nat) : (Builtin.zeroCells z n).size = n * z.size := by simp [Builtin.zeroCells]
theorem SimB.newRow {Γ : Cx} {σ : St} {β : Nat → Real} {a : Act} {w : World} (hs : SimB Γ σ β a w) {d : Nat} (hd : σ.h d = none) (hS : d ∉ Γ.S) {cs : List T} {vs : List Value} {z : Array Value} {m n C : Nat} {el : TypeId} (hm : z.size = m) (hnC : n ≤ C) (hl : cs.length = n * m)
  (hr : RepL w (okOf Γ.X σ β w) cs β vs) (hi : ∀ i ∈ idsL cs, σ.h i ≠ none) :
  SimB Γ { σ with h := upd σ.h d (some cs) } (reals β d (.real w.heap.size 0 (C * m))) a (w.drew.alloc (.cells (vs.toArray ++ Builtin.zeroCells z (C - n)) el)) := by
 have hk : Keeps (fun _ => False) w w.drew := Keeps.drew _ w
 have hs' := hs.grow hk
 have hok : okOf Γ.X σ β w.drew = okOf Γ.X σ β w := rfl
 have hvl := hr.length
 have hnm : n * m ≤ C * m := Nat.mul_le_mul_right _ hnC
 have hsz : (vs.toArray ++ Builtin.zeroCells z (C - n)).size = C * m := by
  rw [Array.size_append, zeroCells_size, hm, Nat.sub_mul]; simp; omega
 have hr' : RepL w.drew (okOf Γ.X σ β w.drew) cs β vs := RepL.mono (w := w) (w' := w.drew) (ok := okOf Γ.X σ β w) (fun g b hb => ⟨hb, rfl⟩) cs β β vs (fun _ _ => rfl) hr
 exact hs'.new hd hS (E := C * m) (by omega) (by omega) (.inl rfl) hr' (fun i v e => by
  have hi := (List.getElem?_eq_some_iff.1 e).1
  rw [Array.getElem?_append_left (by simpa using hi)]; simpa using e) hi
theorem acts_append0 {t u el : TypeId} {x y : Operand} {d k : Nat} {b0 tx : T} {cs : List T} {i i' : TI} (ho : o.op = .call { callee := .builtin .append, args := #[x, y], argTypes := #[t, u] }) (hx : ev x = some b0) (hb0 : b0 = .leaf (.slice none 0 0) ∨ b0 = .e0) (hy : ev y = some tx)
  (ht : TOk P t i) (hk : i.k = .slice el) (hu : ∃ j, TOk P u j ∧ ((∃ e, j.k = .slice e) ∨ j.k = .str)) (he : TOk P el i') (hz : i'.zero.length = i'.size) (hr : ∀ j ∈ tx.ids, j ∈ reads) (hsrc : srcOf h tx = some (k, cs)) (hf : srcFits h i'.size tx)
  (hb : k * i'.bytes ≤ 140737488355328) (hp : 0 < i'.bytes) (hd : d ∉ reads) : Acts P o ev h reads { val := .ref d i'.size 0 k, puts := [(d, cs)] } := by
 refine acts_of fun Γ σ β a w hP hev hh hn hs => ?_
 have hd' : σ.h d = none := (hn (d, cs) (by simp) (by simp)).2 hd
 have hdS := (hn (d, cs) (by simp) (by simp)).1
 have e1 : σ.ev x = some b0 := by rw [hev x (by simp [ho, Op.operands, Call.operands]), hx]
 have e2 : σ.ev y = some tx := by rw [hev y (by simp [ho, Op.operands, Call.operands]), hy]
 have hag : ∀ j ∈ tx.ids, σ.h j = h j := fun j hj => hh j (hr j hj)
 obtain ⟨s1, s2, s3, vs, s4, s5⟩ := src_run hs e2 (by rw [srcOf_congr hag, hsrc]) ((srcFits_congr hag).2 hf) (P := P)
 obtain ⟨dd, h6, h7, _⟩ := ht.und
 rw [hk] at h7; simp only [kOk] at h7; subst h7
 have hu' : ∃ d, P.underlying u = some d ∧ ∀ k, d ≠ .int k := by
  obtain ⟨j, hj, hjk⟩ := hu
  obtain ⟨d2, h8, h9, _⟩ := hj.und
  refine ⟨d2, h8, ?_⟩
  rcases hjk with ⟨e, hjk⟩ | hjk <;> rw [hjk] at h9 <;> simp only [kOk] at h9 <;> subst h9 <;> simp
 have hv : ∃ ad, a.eval x = .slice ad 0 0 := by
  have := hs.ev e1
  rcases hb0 with rfl | rfl
  ·exact ⟨none, by simpa [Rep] using this⟩
  ·simpa [Rep] using this
 obtain ⟨ad, hv⟩ := hv
 have hvl := s4.length
 have s5' : ∀ w' : World, w'.heap = w.heap → (Builtin.firstCells i'.size k (a.eval y)).run P w' = .ok vs.toArray w' := fun w' hw' => by
  rw [s5 w' hw' k (Nat.le_refl _), List.take_of_length_le (by omega)]
 have hold : ∀ w' : World, w'.heap = w.heap → (Builtin.firstCells i'.size 0 (.slice ad 0 0)).run P w' = .ok (([] : List Value).toArray) w' := fun w' _ => by
  cases ad <;> simp [Builtin.firstCells, loadCells, loadCellsFrom]
 have hexec : ∀ r w', (Builtin.append_ #[t, u] o.type #[.slice ad 0 0, a.eval y]).run P w = .ok r w' → (execOp a.eval o).run P w = .ok (.value r) w' := fun r w' hr => by
  simp only [execOp, ho, resolve, Sem.run_bind, Sem.run_pure, Result.andThen_ok, invoke, builtin]
  simp [hv, hr]
 rcases run_append_any h6 hu' he s1 s5' hold (ty := o.type) (by simpa using hb) hp with ⟨g1, g2⟩ | ⟨g1, C, g2, g3⟩
 ·have hk0 : k = 0 := by omega
  subst hk0
  have hvs : vs = [] := List.length_eq_zero_iff.1 (by omega)
  have hcs : cs = [] := List.length_eq_zero_iff.1 (by omega)
  subst hvs; subst hcs
  refine ⟨.slice ad 0 0, w, _, .inl (hexec _ _ ?_), hs.phantom hd' hdS, ?_, by simp [T.ids, St.puts, St.drops, upd]⟩
  ·rw [g2]; cases ad <;> simp [storeCells]
  ·simp [Rep, reals]
 ·have hsim := hs.newRow (el := el) (z := i'.zero.toArray) (C := C) hd' hdS (by simpa using hz) (by omega) s2 s4 s3
  have hw : w.drew.alloc (.cells (([] : List Value).toArray ++ vs.toArray ++ Builtin.zeroCells i'.zero.toArray (C - (0 + k))) el) = w.drew.alloc (.cells (vs.toArray ++ Builtin.zeroCells i'.zero.toArray (C - k)) el) := by simp
  rw [hw] at g3
  refine ⟨_, _, _, .inl (hexec _ _ g3), hsim, ?_, by simp [T.ids, St.puts, St.drops, upd]⟩
  simp only [Rep, reals, if_true]
  exact ⟨_, C, by simp, by omega, by omega, .inr rfl⟩
theorem acts_appendXl {t u el : TypeId} {x y : Operand} {d m n k : Nat} {g : Tag} {tx : T} {c0 cs : List T} {i i' : TI} (ho : o.op = .call { callee := .builtin .append, args := #[x, y], argTypes := #[t, u] }) (hx : ev x = some (.xl m g n c0)) (hy : ev y = some tx)
  (ht : TOk P t i) (hk : i.k = .slice el) (hu : ∃ j, TOk P u j ∧ ((∃ e, j.k = .slice e) ∨ j.k = .str)) (he : TOk P el i') (hm : i'.size = m) (hz : i'.zero.length = i'.size) (hr : ∀ j ∈ tx.ids, j ∈ reads) (hsrc : srcOf h tx = some (k, cs)) (hf : srcFits h i'.size tx)
  (hb : (n + k) * i'.bytes ≤ 140737488355328) (hp : 0 < i'.bytes) (hk0 : 0 < k) (hd : d ∉ reads) : Acts P o ev h reads { val := .ref d i'.size 0 (n + k), puts := [(d, c0 ++ cs)] } := by
 refine acts_of fun Γ σ β a w hP hev hh hn hs => ?_
 subst hm
 have hd' : σ.h d = none := (hn (d, c0 ++ cs) (by simp) (by simp)).2 hd
 have hdS := (hn (d, c0 ++ cs) (by simp) (by simp)).1
 have e1 : σ.ev x = some (.xl i'.size g n c0) := by rw [hev x (by simp [ho, Op.operands, Call.operands]), hx]
 have e2 : σ.ev y = some tx := by rw [hev y (by simp [ho, Op.operands, Call.operands]), hy]
 have hag : ∀ j ∈ tx.ids, σ.h j = h j := fun j hj => hh j (hr j hj)
 obtain ⟨s1, s2, s3, vs, s4, s5⟩ := src_run hs e2 (by rw [srcOf_congr hag, hsrc]) ((srcFits_congr hag).2 hf) (P := P)
 obtain ⟨dd, h6, h7, _⟩ := ht.und
 rw [hk] at h7; simp only [kOk] at h7; subst h7
 have hu' : ∃ d, P.underlying u = some d ∧ ∀ k, d ≠ .int k := by
  obtain ⟨j, hj, hjk⟩ := hu
  obtain ⟨d2, h8, h9, _⟩ := hj.und
  refine ⟨d2, h8, ?_⟩
  rcases hjk with ⟨e, hjk⟩ | hjk <;> rw [hjk] at h9 <;> simp only [kOk] at h9 <;> subst h9 <;> simp
 have hrep := hs.ev e1
 simp only [Rep] at hrep
 obtain ⟨⟨r1, r2⟩, ad, hv, r3⟩ := hrep
 have hvl := s4.length
 have s5' : ∀ w' : World, w'.heap = w.heap → (Builtin.firstCells i'.size k (a.eval y)).run P w' = .ok vs.toArray w' := fun w' hw' => by
  rw [s5 w' hw' k (Nat.le_refl _), List.take_of_length_le (by omega)]
 have hold : ∃ ovs, RepL w (okOf Γ.X σ β w) c0 β ovs ∧ ∀ w' : World, w'.heap = w.heap → (Builtin.firstCells i'.size n (.slice ad n n)).run P w' = .ok ovs.toArray w' := by
  by_cases hn0 : n = 0
  ·subst hn0
   have : c0 = [] := List.length_eq_zero_iff.1 (by simpa using r1)
   subst this
   exact ⟨[], by simp [RepL], fun w' _ => by cases ad <;> simp [Builtin.firstCells, loadCells, loadCellsFrom]⟩
  ·obtain ⟨b, ob, rfl, h5, h6⟩ := r3.resolve_left hn0
   obtain ⟨ovs, h7, h8⟩ := h6.open_
   refine ⟨ovs, h7.sealed r2, fun w' hw' => ?_⟩
   have hol := h7.length
   have := run_firstCells_some (P := P) w' i'.size n ⟨b, ob, none⟩ n n ovs (by omega) (fun j v hj => by rw [addr_add]; have := h8 j v hj; simpa [World.cell?, hw'] using this)
   exact this
 obtain ⟨ovs, r4, hold⟩ := hold
 have hol := r4.length
 have hexec : ∀ r w', (Builtin.append_ #[t, u] o.type #[.slice ad n n, a.eval y]).run P w = .ok r w' → (execOp a.eval o).run P w = .ok (.value r) w' := fun r w' hr => by
  simp only [execOp, ho, resolve, Sem.run_bind, Sem.run_pure, Result.andThen_ok, invoke, builtin]
  simp [hv, hr]
 rcases run_append_any h6 hu' he s1 s5' hold (ty := o.type) hb hp with ⟨g1, _⟩ | ⟨g1, C, g2, g3⟩
 ·omega
 ·have hsim := hs.newRow (el := el) (z := i'.zero.toArray) (C := C) (n := n + k) (cs := c0 ++ cs) (vs := ovs ++ vs) hd' hdS (by simpa using hz) g2 (by rw [List.length_append, r1, s2, Nat.add_mul]) (r4.append s4) (fun j hj => by
   rw [ids_append, r2] at hj
   exact hj.elim (fun h => by simp at h) (s3 j))
  rw [show ovs.toArray ++ vs.toArray = (ovs ++ vs).toArray from by simp] at g3
  refine ⟨_, _, _, .inl (hexec _ _ g3), hsim, ?_, by simp [T.ids, St.puts, St.drops, upd]⟩
  simp only [Rep, reals, if_true]
  exact ⟨_, C, rfl, g2, by omega, .inr rfl⟩
theorem acts_append {t u el : TypeId} {x y : Operand} {d id m off n k : Nat} {tx : T} {c0 cs : List T} {i i' : TI} (ho : o.op = .call { callee := .builtin .append, args := #[x, y], argTypes := #[t, u] }) (hx : ev x = some (.ref id m off n)) (hy : ev y = some tx)
  (ht : TOk P t i) (hk : i.k = .slice el) (hu : ∃ j, TOk P u j ∧ ((∃ e, j.k = .slice e) ∨ j.k = .str)) (he : TOk P el i') (hm : i'.size = m) (hz : i'.zero.length = i'.size) (hri : id ∈ reads) (hid : h id = some c0) (hoff : off + n * m ≤ c0.length)
  (hr : ∀ j ∈ tx.ids, j ∈ reads) (hsrc : srcOf h tx = some (k, cs)) (hf : srcFits h m tx) (hsc : scalL cs = true)
  (hb : (n + k) * i'.bytes ≤ 140737488355328) (hp : 0 < i'.bytes) (hd : d = id ∨ d ∉ reads) (hni : id ∉ idsL (sub c0 off (n * m) ++ cs)) :
  Acts P o ev h reads { val := .ref d m 0 (n + k), drops := [id], puts := [(d, sub c0 off (n * m) ++ cs)] } := by
 refine acts_of fun Γ σ β a w hP hev hh hn hs => ?_
 subst hm
 have hid' : σ.h id = some c0 := by rw [hh id hri, hid]
 have hd' : d = id ∨ σ.h d = none := hd.imp (fun e => e) fun hd => (hn (d, sub c0 off (n * i'.size) ++ cs) (by simp) (by simp)).2 hd
 have hdS := (hn (d, sub c0 off (n * i'.size) ++ cs) (by simp) (by simp)).1
 have e1 : σ.ev x = some (.ref id i'.size off n) := by rw [hev x (by simp [ho, Op.operands, Call.operands]), hx]
 have e2 : σ.ev y = some tx := by rw [hev y (by simp [ho, Op.operands, Call.operands]), hy]
 have hag : ∀ j ∈ tx.ids, σ.h j = h j := fun j hj => hh j (hr j hj)
 obtain ⟨s1, s2, s3, vs, s4, s5⟩ := src_run hs e2 (by rw [srcOf_congr hag, hsrc]) ((srcFits_congr hag).2 hf) (P := P)
 obtain ⟨r1, r2, r3, ovs, r4, r5⟩ := src_run hs e1 (n := n) (cs := sub c0 off (n * i'.size)) (by simp [srcOf, hid']) (m := i'.size) ⟨rfl, c0, hid', hoff⟩ (P := P)
 obtain ⟨dd, h6, h7, _⟩ := ht.und
 rw [hk] at h7; simp only [kOk] at h7; subst h7
 have hu' : ∃ d, P.underlying u = some d ∧ ∀ k, d ≠ .int k := by
  obtain ⟨j, hj, hjk⟩ := hu
  obtain ⟨d2, h8, h9, _⟩ := hj.und
  refine ⟨d2, h8, ?_⟩
  rcases hjk with ⟨e, hjk⟩ | hjk <;> rw [hjk] at h9 <;> simp only [kOk] at h9 <;> subst h9 <;> simp
 have hvl := s4.length
 have hol := r4.length
 have s5' : ∀ w' : World, w'.heap = w.heap → (Builtin.firstCells i'.size k (a.eval y)).run P w' = .ok vs.toArray w' := fun w' hw' => by
  rw [s5 w' hw' k (Nat.le_refl _), List.take_of_length_le (by omega)]
 have hnew : RepL w (okOf Γ.X σ β w) (sub c0 off (n * i'.size) ++ cs) β (ovs ++ vs) := r4.append s4
 have hnl : (sub c0 off (n * i'.size) ++ cs).length = (n + k) * i'.size := by rw [List.length_append, r2, s2, Nat.add_mul]
 have hnids : ∀ j ∈ idsL (sub c0 off (n * i'.size) ++ cs), j ≠ id ∧ σ.h j ≠ none := fun j hj => by
  refine ⟨fun e => hni (e ▸ hj), ?_⟩
  rw [ids_append] at hj
  exact hj.elim (r3 j) (s3 j)
 have hdropn : (σ.drop id).h d = none := by
  rcases hd' with rfl | hd'
  ·simp [St.drop]
  ·simp [St.drop, hd']
 have hdropids : ∀ j ∈ idsL (sub c0 off (n * i'.size) ++ cs), (σ.drop id).h j ≠ none := fun j hj => by
  obtain ⟨q1, q2⟩ := hnids j hj
  simp only [St.drop, if_neg q1]; simpa using q2
 have hdropR : RepL w (okOf Γ.X (σ.drop id) β w) (sub c0 off (n * i'.size) ++ cs) β (ovs ++ vs) := by
  refine RepL.mono (fun g b hb => ⟨⟨hb.1, fun ho => hb.2.1 ?_, hb.2.2⟩, rfl⟩) _ β β _ (fun _ _ => rfl) hnew
  obtain ⟨j, c1, o1, E1, q1, q2⟩ := ho
  simp only [St.drop] at q1
  split at q1
  ·simp at q1
  ·obtain ⟨c2, q3, _⟩ := Option.map_eq_some_iff.1 q1
   exact ⟨j, c2, o1, E1, q3, q2⟩
 have hrep := hs.ev e1
 simp only [Rep] at hrep
 have hval : ∃ ad cap, a.eval x = .slice ad n cap ∧ n ≤ cap := by
  cases hbr : β id with
  | ph => rw [hbr] at hrep; obtain ⟨_, rfl, ad, hv⟩ := hrep; exact ⟨ad, 0, hv, Nat.le_refl _⟩
  | real b ob E => rw [hbr] at hrep; obtain ⟨ad, cap, hv, g1, _⟩ := hrep; exact ⟨ad, cap, hv, g1⟩
 obtain ⟨ad, cap, hv, hncap⟩ := hval
 have hold : ∀ w' : World, w'.heap = w.heap → (Builtin.firstCells i'.size n (.slice ad n cap)).run P w' = .ok ovs.toArray w' := fun w' hw' => by
  have := r5 w' hw' n (Nat.le_refl _)
  rw [hv] at this
  rw [this, List.take_of_length_le (by omega)]
 have hexec : ∀ r w', (Builtin.append_ #[t, u] o.type #[.slice ad n cap, a.eval y]).run P w = .ok r w' → (execOp a.eval o).run P w = .ok (.value r) w' := fun r w' hr => by
  simp only [execOp, ho, resolve, Sem.run_bind, Sem.run_pure, Result.andThen_ok, invoke, builtin]
  simp [hv, hr]
 have hgrow : ∀ C, cap < n + k → n + k ≤ C → (Builtin.append_ #[t, u] o.type #[.slice ad n cap, a.eval y]).run P w = .ok (.slice (some ⟨w.heap.size, 0, none⟩) (n + k) C) (w.drew.alloc (.cells (ovs.toArray ++ vs.toArray ++ Builtin.zeroCells i'.zero.toArray (C - (n + k))) el)) →
   ∃ v w' β', ((execOp a.eval o).run P w = .ok (.value v) w' ∨ (execOp a.eval o).run P w = .ok .skip w' ∧ v = undef) ∧ SimB Γ ((σ.drops [id]).puts [(d, sub c0 off (n * i'.size) ++ cs)]) β' a w' ∧
    Rep w' (okOf Γ.X ((σ.drops [id]).puts [(d, sub c0 off (n * i'.size) ++ cs)]) β' w') (.ref d i'.size 0 (n + k)) β' v ∧ ∀ j ∈ (T.ref d i'.size 0 (n + k)).ids, ((σ.drops [id]).puts [(d, sub c0 off (n * i'.size) ++ cs)]).h j ≠ none := by
  intro C g1 g2 g3
  have hsim := (hs.drop id).newRow (el := el) (z := i'.zero.toArray) (C := C) hdropn hdS (by simpa using hz) g2 hnl hdropR hdropids
  rw [show ovs.toArray ++ vs.toArray = (ovs ++ vs).toArray from by simp] at g3
  refine ⟨_, _, _, .inl (hexec _ _ g3), hsim, ?_, by simp [T.ids, St.puts, St.drops, upd]⟩
  simp only [Rep, reals, if_true]
  exact ⟨_, C, rfl, g2, by omega, .inr rfl⟩
 rcases run_append_any h6 hu' he s1 s5' hold (ty := o.type) hb hp with ⟨g1, g2⟩ | ⟨g1, C, g2, g3⟩
 ·cases hbr : β id with
  | ph =>
   rw [hbr, hv] at hrep
   obtain ⟨rfl, rfl, ad', hv'⟩ := hrep
   injection hv' with hv1 hv2 hv3
   subst hv3
   have hk0 : k = 0 := by omega
   subst hk0
   have hvs : vs = [] := List.length_eq_zero_iff.1 (by omega)
   have hcs : sub c0 0 (0 * i'.size) ++ cs = [] := List.length_eq_zero_iff.1 (by rw [hnl]; simp)
   refine ⟨.slice ad 0 0, w, reals β d .ph, .inl (hexec _ _ ?_), ?_, ?_, by simp [T.ids, St.puts, St.drops, upd]⟩
   ·rw [g2, hvs]; cases ad <;> simp [storeCells]
   ·rw [hcs]; exact (hs.drop id).phantom hdropn hdS
   ·simp [Rep, reals]
  | real b ob E =>
   rw [hbr, hv] at hrep
   obtain ⟨ad', cap', hv', q1, q2, q3⟩ := hrep
   injection hv' with hv1 hv2 hv3
   subst hv1; subst hv3
   obtain ⟨c, el', fr, bvs, p1, p2, p3, p4, p5, p6⟩ := obj_open hs hid' hbr
   by_cases hcap : cap = 0
   ·-- nothing is written
    have hk0 : k = 0 := by omega
    have hn0 : n = 0 := by omega
    subst hk0; subst hn0
    have hvs : vs = [] := List.length_eq_zero_iff.1 (by omega)
    have hcs : sub c0 off (0 * i'.size) ++ cs = [] := List.length_eq_zero_iff.1 (by rw [hnl]; simp)
    subst hcap
    refine ⟨.slice ad 0 0, w, reals β d .ph, .inl (hexec _ _ ?_), ?_, ?_, by simp [T.ids, St.puts, St.drops, upd]⟩
    ·rw [g2, hvs]; cases ad <;> simp [storeCells]
    ·rw [hcs]; exact (hs.drop id).phantom hdropn hdS
    ·simp [Rep, reals]
   ·have had := q3.resolve_left hcap
    subst had
    have hcm : (n + k) * i'.size ≤ cap * i'.size := Nat.mul_le_mul_right _ g1
    have hnm : (n + k) * i'.size = n * i'.size + k * i'.size := Nat.add_mul ..
    have hex : ∀ j, j < c.size → (w.cell? ⟨b, j, none⟩).isSome = true := fun j hj => by simp [World.cell?, p1, hj]
    have hst := run_storeCells_cells (P := P) b (ob + off + n * i'.size) vs 0 w (fun j hj => by simpa using hex _ (by omega)) (fun j hj => by simpa using p4.get (by omega)) (s4.one hsc)
    simp only [Nat.add_zero] at hst
    obtain ⟨c', hc1, hc2⟩ := heap_setCells b vs (ob + off + n * i'.size) w c el' fr p1
    have hsim := hs.retake (id' := d) (cs' := sub c0 off (n * i'.size) ++ cs) hid' hd' hdS hbr (keeps_setCells b vs (ob + off + n * i'.size) w) hc1 (o' := ob + off) (E' := E - off) (by omega) (by rw [hnl]; omega)
     (by rw [hc2]; exact p4.set _ _) hnew (fun j v hj => by
      rw [List.getElem?_append] at hj
      split at hj
      ·rename_i hlt
       rw [World.cell?_setCells_out b vs _ w _ (fun _ _ => by simp; omega)]
       have hbv : bvs[off + j]? = some v := by
        have h1 := r4; have h2 := (p5.drop off).take (n * i'.size)
        have hov : (Builtin.firstCells i'.size n (.slice (some ⟨b, ob + off, none⟩) n cap)).run P w = .ok ovs.toArray w := hold w rfl
        have hbl := p5.length
        have hlen : ((bvs.drop off).take (n * i'.size)).length = n * i'.size := by simp; omega
        have := run_firstCells_some (P := P) w i'.size n ⟨b, ob + off, none⟩ n cap _ hlen (fun j v hj => by rw [addr_add]; exact (p6.drop off).take (n * i'.size) j v hj)
        rw [hov] at this
        injection this with this
        have e : ovs = (bvs.drop off).take (n * i'.size) := by simpa using this
        rw [e, List.getElem?_take] at hj
        split at hj
        ·simpa using hj
        ·simp at hj
       have := p6 (off + j) v hbv
       rw [show ob + off + j = ob + (off + j) from by omega]; exact this
      ·rename_i hge
       obtain ⟨hj1, hj2⟩ := List.getElem?_eq_some_iff.1 hj
       have := World.cell?_setCells_in b vs (ob + off + n * i'.size) w (fun j hj => by simpa using hex _ (by omega)) (j - ovs.length) hj1
       rw [show ob + off + n * i'.size + (j - ovs.length) = ob + off + j from by omega] at this
       rw [this, hj2]) hnids
    refine ⟨.slice (some ⟨b, ob + off, none⟩) (n + k) cap, _, _, .inl (hexec _ _ ?_), hsim, ?_, by simp [T.ids, St.puts, St.drops, upd]⟩
    ·rw [g2]; simp only [addr_add, hst, Result.andThen_ok]
    ·simp only [Rep, reals, if_true]
     exact ⟨_, cap, rfl, g1, by omega, .inr rfl⟩
 ·exact hgrow C g1 g2 g3
theorem acts_copy {t u el : TypeId} {x y : Operand} {id m off n k : Nat} {tx : T} {c0 cs : List T} {i i' : TI} (ho : o.op = .call { callee := .builtin .copy, args := #[x, y], argTypes := #[t, u] }) (hx : ev x = some (.ref id m off n)) (hy : ev y = some tx)
  (ht : TOk P t i) (hk : i.k = .slice el) (he : TOk P el i') (hm : i'.size = m) (hri : id ∈ reads) (hid : h id = some c0) (hoff : off + n * m ≤ c0.length)
  (hr : ∀ j ∈ tx.ids, j ∈ reads) (hsrc : srcOf h tx = some (k, cs)) (hf : srcFits h m tx) (hsc : scalL cs = true) :
  Acts P o ev h reads { val := .leaf (.int .i64 (min k n : Nat)), puts := [(id, splice c0 off (cs.take (min k n * m)))], stay := [id] } := by
 refine acts_of fun Γ σ β a w hP hev hh hn hs => ?_
 subst hm
 have hid' : σ.h id = some c0 := by rw [hh id hri, hid]
 have e1 : σ.ev x = some (.ref id i'.size off n) := by rw [hev x (by simp [ho, Op.operands, Call.operands]), hx]
 have e2 : σ.ev y = some tx := by rw [hev y (by simp [ho, Op.operands, Call.operands]), hy]
 have hag : ∀ j ∈ tx.ids, σ.h j = h j := fun j hj => hh j (hr j hj)
 obtain ⟨s1, s2, s3, vs, s4, s5⟩ := src_run hs e2 (by rw [srcOf_congr hag, hsrc]) ((srcFits_congr hag).2 hf) (P := P)
 obtain ⟨dd, h6, h7, _⟩ := ht.und
 rw [hk] at h7; simp only [kOk] at h7; subst h7
 have hvl := s4.length
 have hmk : min k n * i'.size ≤ k * i'.size := Nat.mul_le_mul_right _ (Nat.min_le_left _ _)
 have hmn : min k n * i'.size ≤ n * i'.size := Nat.mul_le_mul_right _ (Nat.min_le_right _ _)
 have htl : (cs.take (min k n * i'.size)).length = min k n * i'.size := by simp; omega
 have hexec : ∀ ad cap r w', a.eval x = .slice ad n cap → (Builtin.copy_ #[t, u] o.type #[.slice ad n cap, a.eval y]).run P w = .ok r w' → (execOp a.eval o).run P w = .ok (.value r) w' := fun ad cap r w' hv hr => by
  simp only [execOp, ho, resolve, Sem.run_bind, Sem.run_pure, Result.andThen_ok, invoke, builtin]
  simp [hv, hr]
 have hcopy : ∀ ad cap, (Builtin.copy_ #[t, u] o.type #[.slice ad n cap, a.eval y]).run P w = match ad with
   | some p => ((storeCells p (vs.take (min k n * i'.size))).run P w).andThen fun _ w' => .ok (goInt (min k n : Nat)) w'
   | none => .ok (goInt (min k n : Nat)) w := fun ad cap => by
  simp only [Builtin.copy_, Sem.run_bind, run_underlying h6, Result.andThen_ok, List.getElem?_toArray, List.getElem?_cons_zero, List.getElem?_cons_succ, s1, he.size w, s5 w rfl (Nat.min k n) (Nat.min_le_left _ _)]
  cases ad with
  | none => simp
  | some p => simp
 have hrep := hs.ev e1
 simp only [Rep] at hrep
 cases hbr : β id with
 | ph =>
  rw [hbr] at hrep
  obtain ⟨rfl, rfl, ad, hv⟩ := hrep
  have hc0 : c0 = [] := by have := hs.obj id c0 hid'; rw [hbr] at this; exact this
  subst hc0
  refine ⟨.int .i64 (min k 0 : Nat), w, β, .inl (hexec ad 0 _ _ hv ?_), ?_, by simp [Rep], by simp [T.ids]⟩
  ·rw [hcopy]; cases ad <;> simp [storeCells, goInt]
  ·have e : splice [] 0 (List.take (min k 0 * i'.size) cs) = [] := by simp [splice]
   have : (St.puts (σ.drops []) [(id, splice [] 0 (List.take (min k 0 * i'.size) cs))]) = σ := by
    simp only [St.puts, St.drops, e]
    cases σ; simp only [St.mk.injEq, true_and]; funext j; simp only [upd]; split
    ·rename_i e; subst e; exact hid'.symm
    ·rfl
   rw [this]; exact hs
 | real b ob E =>
  rw [hbr] at hrep
  obtain ⟨ad, cap, hv, q1, q2, q3⟩ := hrep
  obtain ⟨c, el', fr, bvs, p1, p2, p3, p4, p5, p6⟩ := obj_open hs hid' hbr
  have hnv : RepL w (okOf Γ.X σ β w) (cs.take (min k n * i'.size)) β (vs.take (min k n * i'.size)) := s4.take _
  have hnvl : (vs.take (min k n * i'.size)).length = min k n * i'.size := by rw [hnv.length]; exact htl
  by_cases hz : min k n * i'.size = 0
  ·have hvz : vs.take (min k n * i'.size) = [] := by rw [hz]; rfl
   refine ⟨.int .i64 (min k n : Nat), w, β, .inl (hexec ad cap _ _ hv ?_), ?_, by simp [Rep], by simp [T.ids]⟩
   ·rw [hcopy, hvz]; cases ad <;> simp [storeCells, goInt]
   ·have e : splice c0 off (List.take (min k n * i'.size) cs) = c0 := by simp [splice, hz]
    have : (St.puts (σ.drops []) [(id, splice c0 off (List.take (min k n * i'.size) cs))]) = σ := by
     simp only [St.puts, St.drops, e]
     cases σ; simp only [St.mk.injEq, true_and]; funext j; simp only [upd]; split
     ·rename_i e; subst e; exact hid'.symm
     ·rfl
    rw [this]; exact hs
  ·have hcap : cap ≠ 0 := by
    rintro rfl
    have : min k n = 0 := by omega
    rw [this] at hz; simp at hz
   have had := q3.resolve_left hcap
   subst had
   have hscT : ∀ (l : List T) (j : Nat), scalL l = true → scalL (l.take j) = true := by
    intro l
    induction l with
    | nil => intro j _; simp [scalL]
    | cons t l ih => intro j hl; cases j with
     | zero => simp [scalL]
     | succ j => simp only [scalL, Bool.and_eq_true, List.take_succ_cons] at hl ⊢; exact ⟨hl.1, ih j hl.2⟩
   obtain ⟨hrun, hsim⟩ := hs.write (cs' := splice c0 off (cs.take (min k n * i'.size))) hid' hbr off (nv := vs.take (min k n * i'.size)) (by rw [hnvl]; omega) hnv (hscT _ _ hsc)
    (fun j hj => (ids_splice j hj).elim (hs.wfh id c0 hid' j) (fun hj => s3 j (ids_take _ j hj)))
    (fun bv hbv => ⟨spliceV bv off (vs.take (min k n * i'.size)), hbv.splice off hnv, fun j u hu => by
     rw [spliceV_get (by rw [hbv.length, hnvl]; omega)] at hu
     by_cases hj : off ≤ j ∧ j < off + (vs.take (min k n * i'.size)).length
     ·rw [if_pos hj] at hu ⊢; exact hu
     ·rw [if_neg hj] at hu ⊢; exact hu⟩) (by rw [splice_length (by omega)]; exact p3)
   refine ⟨.int .i64 (min k n : Nat), _, β, .inl (hexec _ cap _ _ hv ?_), hsim, by simp [Rep], by simp [T.ids]⟩
   rw [hcopy]
   rw [hP] at hrun
   simp only [hrun, Result.andThen_ok]; rfl
end
end Go.Vw

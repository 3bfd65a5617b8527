/- Operations on memory. -/
import Derived.Test.YtdlnppcndcfikaaVw3
import Derived.Laws.IdiomCopy
import Derived.Laws.Append
import Derived.Laws.BytesString
import Derived.Lib.ConvBytes
namespace Go.Vw
set_option linter.unusedVariables false
set_option linter.unusedSimpArgs false
open Go Go.RowKit

mutual
def T.scal : T → Bool
  | .leaf v => v.oneCell'
  | .e0 | .sl .. | .pt .. | .iface .. | .fn .. | .ref .. | .addr .. => true
  | .dead | .agg _ | .tup _ => false
def scalL : List T → Bool
  | [] => true
  | t :: ts => t.scal && scalL ts
end

theorem Rep.one {w : World} {ok : Tag → Nat → Prop} {β : Nat → Real} : ∀ {t : T} {v : Value}, Rep w ok t β v → t.scal = true → v.oneCell' = true
  | .leaf u, v, h, hs => by simp only [Rep] at h; subst h; exact hs
  | .e0, _, h, _ => by simp only [Rep] at h; obtain ⟨_, rfl⟩ := h; rfl
  | .sl .., _, h, _ => by simp only [Rep] at h; obtain ⟨_, _, _, rfl, _⟩ := h; rfl
  | .pt .., _, h, _ => by simp only [Rep] at h; obtain ⟨_, _, _, rfl, _⟩ := h; rfl
  | .iface .., _, h, _ => by simp only [Rep] at h; obtain ⟨_, rfl, _⟩ := h; rfl
  | .fn .., _, h, _ => by simp only [Rep] at h; obtain ⟨_, _, rfl, _⟩ := h; rfl
  | .ref id _ _ _, _, h, _ => by
    simp only [Rep] at h
    split at h
    · obtain ⟨_, _, _, rfl⟩ := h; rfl
    · obtain ⟨_, _, rfl, _⟩ := h; rfl
  | .addr id _, _, h, _ => by
    simp only [Rep] at h
    split at h
    · exact h.elim
    · subst h; rfl

theorem RepL.one {w : World} {ok : Tag → Nat → Prop} {β : Nat → Real} : ∀ {ts : List T} {vs : List Value}, RepL w ok ts β vs → scalL ts = true → ∀ v ∈ vs, v.oneCell' = true
  | [], _, h, _ => by simp only [RepL] at h; subst h; simp
  | t :: ts, _, h, hs => by
    simp only [RepL] at h
    obtain ⟨v, us, rfl, h2, h3⟩ := h
    simp only [scalL, Bool.and_eq_true] at hs
    intro x hx
    rcases List.mem_cons.1 hx with rfl | hx
    · exact h2.one hs.1
    · exact h3.one hs.2 x hx

/-- The cells of a value. -/
def T.cells : T → List T
  | .agg cs => cs
  | t => [t]

def T.cellOk : T → Bool
  | .agg _ => true
  | t => t.scal

theorem Rep.cells {w : World} {ok : Tag → Nat → Prop} {β : Nat → Real} {t : T} {v : Value} (h : Rep w ok t β v) (hc : t.cellOk = true) : RepL w ok t.cells β v.cells.toList := by
  have key : t.scal = true → t.cells = [t] → RepL w ok t.cells β v.cells.toList := by
    intro hs e
    have h1 := h.one hs
    have : v.cells = #[v] := by cases v <;> simp [Value.cells, Value.oneCell'] at h1 ⊢
    rw [e, this]
    simp only [RepL]
    exact ⟨v, [], rfl, h, rfl⟩
  cases t with
  | agg cs =>
    simp only [Rep] at h
    obtain ⟨vs, rfl, h2⟩ := h
    simpa [T.cells, Value.cells] using h2
  | _ => exact key (by simpa [T.cellOk] using hc) rfl

theorem T.cells_ids (t : T) : ∀ i ∈ idsL t.cells, i ∈ t.ids := by
  cases t <;> simp [T.cells, idsL, T.ids]

section
variable {P : Program} {o : Oper} {ev : Operand → Option T} {h : Nat → Option (List T)} {reads : List Nat} {ti : TypeId → TI}

theorem alloc_eq (w : World) (o : Obj) : ({ w with heap := w.heap.push o } : World) = w.alloc o := rfl

/-- A new variable: its object, and a pointer to it. -/
theorem SimB.newVar {Γ : Cx} {σ : St} {β : Nat → Real} {a : Act} {w : World} (hs : SimB Γ σ β a w) {d : Nat} (hd : σ.h d = none) (hS : d ∉ Γ.S) {cs : List T} {c : Array Value} {el : TypeId} (hr : RepL w (okOf Γ.X σ β w) cs β c.toList) (hi : ∀ i ∈ idsL cs, σ.h i ≠ none) :
    SimB Γ { σ with h := upd σ.h d (some cs) } (reals β d (.real w.heap.size 0 c.size)) a (w.alloc (.cells c el)) :=
  hs.new hd hS (Nat.le_refl _) (by have := hr.length; simp at this; omega) (.inl rfl) hr (fun i v e => by simpa using e) hi

theorem acts_box {t : TypeId} {x : Operand} {d : Nat} {v : T} (ho : o.op = .box t x) (hx : ev x = some v) (hv : v.cellOk = true) (hd : d ∉ reads) : Acts P o ev h reads { val := .addr d 0, puts := [(d, v.cells)] } := by
  refine acts_of fun Γ σ β a w hP hev hh hn hs => ?_
  have e : σ.ev x = some v := by rw [hev x (by simp [ho, Op.operands]), hx]
  have hd' : σ.h d = none := (hn (d, v.cells) (by simp) (by simp)).2 hd
  have hdS := (hn (d, v.cells) (by simp) (by simp)).1
  have hr := (hs.ev e).cells hv
  refine ⟨.pointer (some ⟨w.heap.size, 0, none⟩), w.alloc (.cells (a.eval x).cells t), _, .inl ?_, hs.newVar hd' hdS hr (fun i hi => hs.ev_ids e i (T.cells_ids v i hi)), ?_, ?_⟩
  · simp only [execOp, ho]
    refine run_v ?_
    simp [Instr.box, newVar, newRow]
  · simp [Rep, reals]
  · simp [T.ids, St.puts, St.drops, upd]

theorem acts_alloc {t : TypeId} {i : TI} {d : Nat} (ho : o.op = .alloc t) (ht : TOk P t i) (hd : d ∉ reads) : Acts P o ev h reads { val := .addr d 0, puts := [(d, i.zero.map .leaf)] } := by
  refine acts_of fun Γ σ β a w hP hev hh hn hs => ?_
  have hd' : σ.h d = none := (hn (d, i.zero.map .leaf) (by simp) (by simp)).2 hd
  have hdS := (hn (d, i.zero.map .leaf) (by simp) (by simp)).1
  obtain ⟨j, h1, h2, h3, z, h4, h5⟩ := ht.info
  refine ⟨.pointer (some ⟨w.heap.size, 0, none⟩), w.alloc (.cells z.cells t), _, .inl ?_, hs.newVar hd' hdS (c := z.cells) (by rw [h5]; exact RepL.leaves _) (by simp [idsL_leaves]), ?_, ?_⟩
  · simp only [execOp, ho]
    refine run_v ?_
    simp [Instr.alloc, zeroValue, typeInfo, h1, h4, newVar, newRow]
  · simp [Rep, reals]
  · simp [T.ids, St.puts, St.drops, upd]

/-! ### Reads -/

theorem load_cells {w : World} {b o : Nat} {vs : List Value} (hc : CellsAt w b o vs) (off n : Nat) (hl : off + n ≤ vs.length) : (loadCells ⟨b, o + off, none⟩ n).run P w = .ok (vs.toArray.extract off (off + n)) w := by
  have hlen : ((vs.drop off).take n).length = n := by simp; omega
  have := run_loadCells_list (P := P) w ⟨b, o + off, none⟩ ((vs.drop off).take n) (fun j v e => by rw [addr_add]; exact (hc.drop off).take n j v e)
  rw [hlen] at this
  rw [this]
  congr 1
  simp [List.extract_eq_take_drop]

theorem load_var {ty : TypeId} {i : TI} (ht : TOk P ty i) {cs : List T} {off : Nat} {t : T} (hp : partOf i cs off t) {w : World} {ok : Tag → Nat → Prop} {β : Nat → Real} {vs : List Value} (hr : RepL w ok cs β vs) {b o : Nat} (hc : CellsAt w b o vs) :
    ∃ v, (loadVar ty ⟨b, o + off, none⟩).run P w = .ok v w ∧ Rep w ok t β v := by
  unfold partOf at hp
  have ha := ht.isAgg w
  have hz := ht.size w
  split at hp
  · rename_i hagg
    rw [hagg] at ha
    obtain ⟨h1, rfl⟩ := hp
    refine ⟨.agg (vs.toArray.extract off (off + i.size)), ?_, ?_⟩
    · simp only [loadVar, Sem.run_bind, ha, Result.andThen_ok, if_true, hz, load_cells hc off i.size (by rw [hr.length]; exact h1)]; rfl
    · simp only [Rep]; exact ⟨_, by simp, hr.extract off i.size⟩
  · rename_i hagg
    have hagg' : i.agg = false := by simpa using hagg
    rw [hagg'] at ha
    obtain ⟨v, h3, h4⟩ := hr.get hp
    refine ⟨v, ?_, h4⟩
    simp only [loadVar, Sem.run_bind, ha, Result.andThen_ok, Bool.false_eq_true, if_false, run_load, hc off v h3]

theorem Rep.sealed {w : World} {ok : Tag → Nat → Prop} {t : T} {v : Value} {β β' : Nat → Real} (h : Rep w ok t β v) (hi : t.ids = []) : Rep w ok t β' v :=
  Rep.mono (w := w) (ok := ok) (fun g b hb => ⟨hb, rfl⟩) t β β' v (by simp [hi]) h

theorem RepL.sealed {w : World} {ok : Tag → Nat → Prop} {t : List T} {v : List Value} {β β' : Nat → Real} (h : RepL w ok t β v) (hi : idsL t = []) : RepL w ok t β' v :=
  RepL.mono (w := w) (ok := ok) (fun g b hb => ⟨hb, rfl⟩) t β β' v (by simp [hi]) h

theorem obj_open {Γ : Cx} {σ : St} {β : Nat → Real} {a : Act} {w : World} (hs : SimB Γ σ β a w) {id : Nat} {cs : List T} (hid : σ.h id = some cs) {b o E : Nat} (hr : β id = .real b o E) :
    ∃ c e fr vs, w.heap[b]? = some (.cells c e fr) ∧ o + E ≤ c.size ∧ cs.length ≤ E ∧ NoFrost w b c.size ∧ RepL w (okOf Γ.X σ β w) cs β vs ∧ CellsAt w b o vs := by
  have := hs.obj id cs hid
  rw [hr] at this
  exact this

theorem acts_load {ty : TypeId} {i : TI} {x : Operand} {id off : Nat} {cs : List T} {t : T} (ho : o.op = .load ty x) (ht : TOk P ty i) (hx : ev x = some (.addr id off)) (hr : id ∈ reads) (hid : h id = some cs) (hp : partOf i cs off t) :
    Acts P o ev h reads { val := t } := by
  refine acts_value fun Γ σ β a w hP hev hh hs => ?_
  have e : σ.ev x = some (.addr id off) := by rw [hev x (by simp [ho, Op.operands]), hx]
  have hid' : σ.h id = some cs := by rw [hh id hr, hid]
  have hrep := hs.ev e
  simp only [Rep] at hrep
  cases hb : β id with
  | ph => rw [hb] at hrep; exact hrep.elim
  | real b ob E =>
    rw [hb] at hrep
    obtain ⟨c, el, fr, vs, h1, h2, h3, h4, h5, h6⟩ := obj_open hs hid' hb
    obtain ⟨v, h7, h8⟩ := load_var ht hp h5 h6
    refine ⟨v, ?_, h8, fun j hj => hs.wfh id cs hid' j (hp.ids j hj)⟩
    simp only [execOp, ho]
    refine run_v ?_
    simp only [Instr.loadAt, hrep, Instr.sureAddr, Sem.run_bind, Sem.run_pure, Result.andThen_ok, h7]

theorem acts_loadP {ty : TypeId} {i : TI} {x : Operand} {g : Tag} {off : Nat} {cs : List T} {t : T} (ho : o.op = .load ty x) (ht : TOk P ty i) (hx : ev x = some (.pt g off cs)) (hp : partOf i cs off t) :
    Acts P o ev h reads { val := t } := by
  refine acts_value fun Γ σ β a w hP hev hh hs => ?_
  have e : σ.ev x = some (.pt g off cs) := by rw [hev x (by simp [ho, Op.operands]), hx]
  have hrep := hs.ev e
  simp only [Rep] at hrep
  obtain ⟨h0, b, ob, h1, h2, h3⟩ := hrep
  obtain ⟨vs, h5, h6⟩ := h3.open_
  obtain ⟨v, h7, h8⟩ := load_var ht hp h5 h6
  have hi : t.ids = [] := by
    have := hp.ids
    rw [h0] at this
    exact List.eq_nil_iff_forall_not_mem.2 fun j hj => by simpa using this j hj
  refine ⟨v, ?_, h8.sealed hi, by simp [hi]⟩
  simp only [execOp, ho]
  refine run_v ?_
  simp only [Instr.loadAt, h1, Instr.sureAddr, Sem.run_bind, Sem.run_pure, Result.andThen_ok, h7]

/-! ### Places -/

def T.isPtr : T → Bool | .addr .. | .pt .. => true | _ => false

theorem acts_nilCheck {x : Operand} {v : T} (ho : o.op = .nilCheck x) (hx : ev x = some v) (hv : v.isPtr = true) : Acts P o ev h reads { val := v } := by
  refine acts_value fun Γ σ β a w hP hev hh hs => ?_
  have e : σ.ev x = some v := by rw [hev x (by simp [ho, Op.operands]), hx]
  have hrep := hs.ev e
  refine ⟨a.eval x, ?_, hrep, hs.ev_ids e⟩
  have : ∃ p, a.eval x = .pointer (some p) := by
    cases v <;> simp [T.isPtr] at hv
    · simp only [Rep] at hrep; obtain ⟨_, b, ob, h1, _⟩ := hrep; exact ⟨_, h1⟩
    · simp only [Rep] at hrep
      split at hrep
      · exact hrep.elim
      · exact ⟨_, hrep⟩
  obtain ⟨p, hp⟩ := this
  simp [execOp, ho, hp]

theorem acts_fieldAddr {s ft : TypeId} {x : Operand} {f off fo : Nat} {id : Nat} {fs : List (Nat × TypeId)} {i i' : TI} (ho : o.op = .fieldAddr s x f) (hx : ev x = some (.addr id off)) (hs : TOk P s i) (hk : i.k = .struct fs) (hf : fs[f]? = some (fo, ft))
    (ht : TOk P ft i') (hz : i'.size ≠ 0) : Acts P o ev h reads { val := .addr id (off + fo) } := by
  refine acts_value fun Γ σ β a w hP hev hh hsim => ?_
  have e : σ.ev x = some (.addr id off) := by rw [hev x (by simp [ho, Op.operands]), hx]
  have hrep := hsim.ev e
  simp only [Rep] at hrep
  cases hb : β id with
  | ph => rw [hb] at hrep; exact hrep.elim
  | real b ob E =>
    rw [hb] at hrep
    obtain ⟨d, h3, h4, _⟩ := hs.und
    rw [hk] at h4; simp only [kOk] at h4
    obtain ⟨fl, rfl, h5⟩ := h4
    have hfl : ∃ g, fl[f]? = some g ∧ g.offset = fo ∧ g.type = ft := by
      rw [← h5] at hf
      simp only [List.getElem?_map, Option.map_eq_some_iff, Prod.mk.injEq] at hf
      obtain ⟨g, hg, h8, h9⟩ := hf
      exact ⟨g, by simpa using hg, h8, h9⟩
    obtain ⟨g, hg, rfl, rfl⟩ := hfl
    refine ⟨.pointer (some ⟨b, ob + (off + g.offset), none⟩), ?_, by simp [Rep, hb], by simpa [T.ids] using hsim.ev_ids e⟩
    simp only [execOp, ho]
    refine run_v ?_
    have hz' := ht.size w
    simp [Instr.fieldAt, run_underlying h3, hg, hrep, Instr.sureAddr, fieldPlace, hz', hz, addr_add, Nat.add_assoc]

theorem acts_fieldAddrP {s ft : TypeId} {x : Operand} {f off fo : Nat} {g : Tag} {cs : List T} {fs : List (Nat × TypeId)} {i i' : TI} (ho : o.op = .fieldAddr s x f) (hx : ev x = some (.pt g off cs)) (hs : TOk P s i) (hk : i.k = .struct fs) (hf : fs[f]? = some (fo, ft))
    (ht : TOk P ft i') (hz : i'.size ≠ 0) : Acts P o ev h reads { val := .pt g (off + fo) cs } := by
  refine acts_value fun Γ σ β a w hP hev hh hsim => ?_
  have e : σ.ev x = some (.pt g off cs) := by rw [hev x (by simp [ho, Op.operands]), hx]
  have hrep := hsim.ev e
  simp only [Rep] at hrep
  obtain ⟨h0, b, ob, h1, h2, h2'⟩ := hrep
  obtain ⟨d, h3, h4, _⟩ := hs.und
  rw [hk] at h4; simp only [kOk] at h4
  obtain ⟨fl, rfl, h5⟩ := h4
  have hfl : ∃ g, fl[f]? = some g ∧ g.offset = fo ∧ g.type = ft := by
    rw [← h5] at hf
    simp only [List.getElem?_map, Option.map_eq_some_iff, Prod.mk.injEq] at hf
    obtain ⟨g, hg, h8, h9⟩ := hf
    exact ⟨g, by simpa using hg, h8, h9⟩
  obtain ⟨q, hg, rfl, rfl⟩ := hfl
  refine ⟨.pointer (some ⟨b, ob + (off + q.offset), none⟩), ?_, by simp only [Rep]; exact ⟨h0, b, ob, rfl, h2, h2'⟩, by simp [T.ids]⟩
  simp only [execOp, ho]
  refine run_v ?_
  have hz' := ht.size w
  simp [Instr.fieldAt, run_underlying h3, hg, h1, Instr.sureAddr, fieldPlace, hz', hz, addr_add, Nat.add_assoc]

/-- What an index leads to: an element of an array's place, of a slice. -/
theorem acts_indexArr {ty el : TypeId} {x y : Operand} {id off : Nat} {k : IntKind} {n : Int} {N : Nat} {i i' : TI} (ho : o.op = .indexAddr ty x y) (hx : ev x = some (.addr id off)) (hy : ev y = some (.leaf (.int k n))) (ht : TOk P ty i) (hk : i.k = .array N el)
    (he : TOk P el i') (h0 : 0 ≤ n) (h1 : n < N) : Acts P o ev h reads { val := .addr id (off + n.toNat * i'.size) } := by
  refine acts_value fun Γ σ β a w hP hev hh hsim => ?_
  have e : σ.ev x = some (.addr id off) := by rw [hev x (by simp [ho, Op.operands]), hx]
  have e2 : a.eval y = .int k n := by simpa [Rep] using hsim.ev (show σ.ev y = some (.leaf (.int k n)) by rw [hev y (by simp [ho, Op.operands]), hy])
  have hrep := hsim.ev e
  simp only [Rep] at hrep
  cases hb : β id with
  | ph => rw [hb] at hrep; exact hrep.elim
  | real b ob E =>
    rw [hb] at hrep
    obtain ⟨d, h5, h6, _⟩ := ht.und
    rw [hk] at h6; simp only [kOk] at h6; subst h6
    refine ⟨.pointer (some ⟨b, ob + (off + n.toNat * i'.size), none⟩), ?_, by simp [Rep, hb], by simpa [T.ids] using hsim.ev_ids e⟩
    simp only [execOp, ho]
    refine run_v ?_
    have hz := he.size (P := P) w
    simp [Instr.indexAt, asIntOf, e2, hrep, run_underlying h5, Instr.sureAddr, h0, h1, hz, addr_add, Nat.add_assoc]

theorem acts_indexArrP {ty el : TypeId} {x y : Operand} {g : Tag} {off : Nat} {cs : List T} {k : IntKind} {n : Int} {N : Nat} {i i' : TI} (ho : o.op = .indexAddr ty x y) (hx : ev x = some (.pt g off cs)) (hy : ev y = some (.leaf (.int k n))) (ht : TOk P ty i) (hk : i.k = .array N el)
    (he : TOk P el i') (h0 : 0 ≤ n) (h1 : n < N) : Acts P o ev h reads { val := .pt g (off + n.toNat * i'.size) cs } := by
  refine acts_value fun Γ σ β a w hP hev hh hsim => ?_
  have e : σ.ev x = some (.pt g off cs) := by rw [hev x (by simp [ho, Op.operands]), hx]
  have e2 : a.eval y = .int k n := by simpa [Rep] using hsim.ev (show σ.ev y = some (.leaf (.int k n)) by rw [hev y (by simp [ho, Op.operands]), hy])
  have hrep := hsim.ev e
  simp only [Rep] at hrep
  obtain ⟨h0', b, ob, h1', h2, h2'⟩ := hrep
  obtain ⟨d, h5, h6, _⟩ := ht.und
  rw [hk] at h6; simp only [kOk] at h6; subst h6
  refine ⟨.pointer (some ⟨b, ob + (off + n.toNat * i'.size), none⟩), ?_, by simp only [Rep]; exact ⟨h0', b, ob, rfl, h2, h2'⟩, by simp [T.ids]⟩
  simp only [execOp, ho]
  refine run_v ?_
  have hz := he.size (P := P) w
  simp [Instr.indexAt, asIntOf, e2, h1', run_underlying h5, Instr.sureAddr, h0, h1, hz, addr_add, Nat.add_assoc]

theorem acts_indexRef {ty el : TypeId} {x y : Operand} {id m off N : Nat} {k : IntKind} {n : Int} {i i' : TI} (ho : o.op = .indexAddr ty x y) (hx : ev x = some (.ref id m off N)) (hy : ev y = some (.leaf (.int k n))) (ht : TOk P ty i) (hk : i.k = .slice el)
    (he : TOk P el i') (hm : i'.size = m) (h0 : 0 ≤ n) (h1 : n < N) : Acts P o ev h reads { val := .addr id (off + n.toNat * m) } := by
  refine acts_value fun Γ σ β a w hP hev hh hsim => ?_
  have e : σ.ev x = some (.ref id m off N) := by rw [hev x (by simp [ho, Op.operands]), hx]
  have e2 : a.eval y = .int k n := by simpa [Rep] using hsim.ev (show σ.ev y = some (.leaf (.int k n)) by rw [hev y (by simp [ho, Op.operands]), hy])
  have hrep := hsim.ev e
  simp only [Rep] at hrep
  cases hb : β id with
  | ph => rw [hb] at hrep; obtain ⟨_, rfl, _⟩ := hrep; omega
  | real b ob E =>
    rw [hb] at hrep
    obtain ⟨ad, cap, h3, h4, h4', h4''⟩ := hrep
    have had : ad = some ⟨b, ob + off, none⟩ := h4''.resolve_left (by omega)
    subst had
    obtain ⟨d, h5, h6, _⟩ := ht.und
    rw [hk] at h6; simp only [kOk] at h6; subst h6
    refine ⟨.pointer (some ⟨b, ob + (off + n.toNat * m), none⟩), ?_, by simp [Rep, hb], by simpa [T.ids] using hsim.ev_ids e⟩
    simp only [execOp, ho]
    refine run_v ?_
    have hz := he.size (P := P) w
    rw [hm] at hz
    simp [Instr.indexAt, asIntOf, e2, h3, run_underlying h5, h0, h1, hz, addr_add, Nat.add_assoc]

theorem acts_indexSl {ty el : TypeId} {x y : Operand} {m N : Nat} {g : Tag} {cs : List T} {k : IntKind} {n : Int} {i i' : TI} (ho : o.op = .indexAddr ty x y) (hx : ev x = some (.sl m g N cs)) (hy : ev y = some (.leaf (.int k n))) (ht : TOk P ty i) (hk : i.k = .slice el)
    (he : TOk P el i') (hm : i'.size = m) (h0 : 0 ≤ n) (h1 : n < N) : Acts P o ev h reads { val := .pt g (n.toNat * m) cs } := by
  refine acts_value fun Γ σ β a w hP hev hh hsim => ?_
  have e : σ.ev x = some (.sl m g N cs) := by rw [hev x (by simp [ho, Op.operands]), hx]
  have e2 : a.eval y = .int k n := by simpa [Rep] using hsim.ev (show σ.ev y = some (.leaf (.int k n)) by rw [hev y (by simp [ho, Op.operands]), hy])
  have hrep := hsim.ev e
  simp only [Rep] at hrep
  obtain ⟨⟨h2, h2'⟩, ad, cap, h3, h4, h4'⟩ := hrep
  obtain ⟨b, ob, rfl, h7, h8⟩ := h4'.resolve_left (by omega)
  obtain ⟨d, h5, h6, _⟩ := ht.und
  rw [hk] at h6; simp only [kOk] at h6; subst h6
  refine ⟨.pointer (some ⟨b, ob + n.toNat * m, none⟩), ?_, by simp only [Rep]; exact ⟨h2', b, ob, rfl, h7, h8⟩, by simp [T.ids]⟩
  simp only [execOp, ho]
  refine run_v ?_
  have hz := he.size (P := P) w
  rw [hm] at hz
  simp [Instr.indexAt, asIntOf, e2, h3, run_underlying h5, h0, h1, hz, addr_add]
end

end Go.Vw

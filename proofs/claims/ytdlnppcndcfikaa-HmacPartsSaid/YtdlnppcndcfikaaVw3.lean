/- Operations on values, and reads of memory. -/
import Derived.Test.YtdlnppcndcfikaaVw2
namespace Go.Vw
set_option linter.unusedVariables false
set_option linter.unusedSimpArgs false
open Go Go.RowKit

theorem addr_add (b o n : Nat) : (⟨b, o, none⟩ : Addr).add n = ⟨b, o + n, none⟩ := by
  unfold Addr.add; split <;> simp_all

theorem run_v {P : Program} {w w' : World} {s : Sem Value} {v : Value} (h : s.run P w = .ok v w') : ((do pure (.value (← s)) : Sem Next)).run P w = .ok (.value v) w' := by
  simp [h]

section
variable {P : Program} {o : Oper} {ev : Operand → Option T} {h : Nat → Option (List T)} {reads : List Nat} {ti : TypeId → TI}

theorem acts_move {x : Operand} {t : T} (ho : o.op = .move x ∨ o.op = .assign x) (hx : ev x = some t) : Acts P o ev h reads { val := t } := by
  refine acts_value fun Γ σ β a w hP hev hh hs => ?_
  have e : σ.ev x = some t := by rw [hev x (by rcases ho with ho | ho <;> simp [ho, Op.operands]), hx]
  refine ⟨a.eval x, ?_, hs.ev e, hs.ev_ids e⟩
  rcases ho with ho | ho <;> simp [execOp, ho]

theorem acts_pick {c x y : Operand} {b : Bool} {t : T} (ho : o.op = .pick c x y) (hc : ev c = some (.leaf (.bool b))) (hx : ev (if b then x else y) = some t) : Acts P o ev h reads { val := t } := by
  refine acts_value fun Γ σ β a w hP hev hh hs => ?_
  have e1 : σ.ev c = some (.leaf (.bool b)) := by rw [hev c (by simp [ho, Op.operands]), hc]
  have e2 : σ.ev (if b then x else y) = some t := by rw [hev _ (by cases b <;> simp [ho, Op.operands]), hx]
  have hb : a.eval c = .bool b := by simpa [Rep] using hs.ev e1
  refine ⟨a.eval (if b then x else y), ?_, hs.ev e2, hs.ev_ids e2⟩
  cases b <;> simp [execOp, ho, hb, asBool]

/-- An operation of which everything that it looks at is just a value. -/
theorem acts_leaf {v : Value} (H : ∀ (a : Act) (w : World), (∀ x ∈ o.op.operands, ∀ u, ev x = some (.leaf u) → a.eval x = u) → (execOp a.eval o).run P w = .ok (.value v) w) : Acts P o ev h reads { val := .leaf v } := by
  refine acts_value fun Γ σ β a w hP hev hh hs => ⟨v, H a w fun x hx u e => ?_, by simp [Rep], by simp [T.ids]⟩
  simpa [Rep] using hs.ev (show σ.ev x = some (.leaf u) by rw [hev x hx, e])

/-! ### Whole numbers, bools, strings -/

def binI (op : BinOp) (k : IntKind) (a b : Int) : Option (Prop × Value) :=
  match op with
  | .add => some (True, .int k (k.wrap (a + b)))
  | .sub => some (True, .int k (k.wrap (a - b)))
  | .mul => some (True, .int k (k.wrap (a * b)))
  | .quo => some (b ≠ 0, .int k (k.wrap (a.tdiv b)))
  | .rem => some (b ≠ 0, .int k (a.tmod b))
  | .and => some (True, .int k (k.wrap (BitVec.ofInt k.bits a &&& BitVec.ofInt k.bits b).toNat))
  | .or => some (True, .int k (k.wrap (BitVec.ofInt k.bits a ||| BitVec.ofInt k.bits b).toNat))
  | .xor => some (True, .int k (k.wrap (BitVec.ofInt k.bits a ^^^ BitVec.ofInt k.bits b).toNat))
  | .andNot => some (True, .int k (k.wrap (BitVec.ofInt k.bits a &&& ~~~BitVec.ofInt k.bits b).toNat))
  | .eql => some (True, .bool (a == b))
  | .neq => some (True, .bool (a != b))
  | .lss => some (True, .bool (decide (a < b)))
  | .leq => some (True, .bool (decide (a ≤ b)))
  | .gtr => some (True, .bool (decide (a > b)))
  | .geq => some (True, .bool (decide (a ≥ b)))
  | .shl => some (0 ≤ b, .int k (k.wrap (a * 2 ^ (min b.toNat k.bits))))
  | .shr => some (0 ≤ b, .int k (a.fdiv (2 ^ (min b.toNat k.bits))))

def isShift : BinOp → Bool | .shl | .shr => true | _ => false

theorem run_binI {op : BinOp} {k k' : IntKind} {a b : Int} {C : Prop} {v : Value} (hk : isShift op = true ∨ k = k') (hb : binI op k a b = some (C, v)) (hC : C) (t : TypeId) (x y : Operand) (w : World) :
    ((do eqGuard op t x y (.int k a) (.int k' b); binOp op t (.int k a) (.int k' b) : Sem Value)).run P w = .ok v w := by
  have hg : (eqGuard op t x y (.int k a) (.int k' b)).run P w = .ok () w := by
    unfold eqGuard
    cases op <;> simp
  rw [Sem.run_bind, hg]
  simp only [Result.andThen_ok]
  cases op <;> simp only [binI, Option.some.injEq, Prod.mk.injEq] at hb <;> obtain ⟨rfl, rfl⟩ := hb <;> simp [isShift] at hk <;> (try subst hk) <;>
    simp_all [binOp, Op.intArith, Op.intDiv, Op.intBits, Op.intCmp, Op.shift]
  all_goals omega

theorem acts_binI {op : BinOp} {t yt : TypeId} {x y : Operand} {k k' : IntKind} {a b : Int} {C : Prop} {v : Value} (ho : o.op = .binOp op t x y yt) (hx : ev x = some (.leaf (.int k a))) (hy : ev y = some (.leaf (.int k' b)))
    (hk : isShift op = true ∨ k = k') (hb : binI op k a b = some (C, v)) (hC : C) : Acts P o ev h reads { val := .leaf v } := by
  refine acts_leaf fun ac w H => ?_
  have e1 := H x (by simp [ho, Op.operands]) _ hx
  have e2 := H y (by simp [ho, Op.operands]) _ hy
  simp only [execOp, ho, e1, e2]
  exact run_v (run_binI hk hb hC t x y w)

def binS (op : BinOp) (a b : ByteArray) : Option (Prop × Value) :=
  match op with
  | .add => some (a.size + b.size < 9223372036854775807, .string (a ++ b))
  | .eql => some (True, .bool (a.toList == b.toList))
  | .neq => some (True, .bool !(a.toList == b.toList))
  | .lss => some (True, .bool (Op.bytesLess a.toList b.toList))
  | .leq => some (True, .bool (Op.bytesLess a.toList b.toList || a.toList == b.toList))
  | .gtr => some (True, .bool !(Op.bytesLess a.toList b.toList || a.toList == b.toList))
  | .geq => some (True, .bool !(Op.bytesLess a.toList b.toList))
  | _ => none

theorem run_binS {op : BinOp} {a b : ByteArray} {C : Prop} {v : Value} (hb : binS op a b = some (C, v)) (hC : C) (t : TypeId) (x y : Operand) (w : World) :
    ((do eqGuard op t x y (.string a) (.string b); binOp op t (.string a) (.string b) : Sem Value)).run P w = .ok v w := by
  have hg : (eqGuard op t x y (.string a) (.string b)).run P w = .ok () w := by
    unfold eqGuard
    cases op <;> simp
  rw [Sem.run_bind, hg]
  simp only [Result.andThen_ok]
  cases op <;> simp only [binS, Option.some.injEq, Prod.mk.injEq, reduceCtorEq] at hb
  case add =>
    obtain ⟨rfl, rfl⟩ := hb
    have : ¬ ((a.size + b.size : Nat) : Int) > IntKind.i64.max := by
      have e : IntKind.i64.max = 9223372036854775807 := by decide
      rw [e]; omega
    simp only [binOp, Op.stringOp, if_neg this]; rfl
  all_goals obtain ⟨rfl, rfl⟩ := hb; simp [binOp, Op.stringOp]

theorem acts_binS {op : BinOp} {t yt : TypeId} {x y : Operand} {a b : ByteArray} {C : Prop} {v : Value} (ho : o.op = .binOp op t x y yt) (hx : ev x = some (.leaf (.string a))) (hy : ev y = some (.leaf (.string b)))
    (hb : binS op a b = some (C, v)) (hC : C) : Acts P o ev h reads { val := .leaf v } := by
  refine acts_leaf fun ac w H => ?_
  have e1 := H x (by simp [ho, Op.operands]) _ hx
  have e2 := H y (by simp [ho, Op.operands]) _ hy
  simp only [execOp, ho, e1, e2]
  exact run_v (run_binS hb hC t x y w)

theorem run_equalB {t : TypeId} (ht : P.underlying t = some .bool) (a b : Bool) (d : Nat) (w : World) : (Op.equalIn (d + 1) t (.bool a) (.bool b)).run P w = .ok (a == b) w := by
  simp only [Op.equalIn, Sem.run_bind, run_underlying ht, Result.andThen_ok, Sem.run_pure]

theorem run_equal_of {t : TypeId} {x y : Value} {r : Bool} {w : World} (h : ∀ d, (Op.equalIn (d + 1) t x y).run P w = .ok r w) : (Op.equal t x y).run P w = .ok r w := h 9999

theorem acts_binB {op : BinOp} {t yt : TypeId} {x y : Operand} {a b : Bool} (ho : o.op = .binOp op t x y yt) (hx : ev x = some (.leaf (.bool a))) (hy : ev y = some (.leaf (.bool b)))
    (ht : ∃ i, TOk P t i ∧ i.k = .bool) (hop : op = .eql ∨ op = .neq) : Acts P o ev h reads { val := .leaf (.bool (if op = .eql then a == b else a != b)) } := by
  refine acts_leaf fun ac w H => ?_
  have e1 := H x (by simp [ho, Op.operands]) _ hx
  have e2 := H y (by simp [ho, Op.operands]) _ hy
  obtain ⟨i, hi, hk⟩ := ht
  obtain ⟨d, h1, h2, _⟩ := hi.und
  rw [hk] at h2; simp only [kOk] at h2; subst h2
  simp only [execOp, ho, e1, e2]
  refine run_v ?_
  have hq := run_equal_of (fun d => run_equalB h1 a b d w)
  have hg : (eqGuard op t x y (.bool a) (.bool b)).run P w = .ok () w := by
    unfold eqGuard
    cases op <;> simp
  rw [Sem.run_bind, hg]
  rcases hop with rfl | rfl <;> simp only [Result.andThen_ok, binOp, Sem.run_bind, hq, Sem.run_pure] <;> rfl

theorem acts_not {t : TypeId} {x : Operand} {b : Bool} (ho : o.op = .unOp .not t x) (hx : ev x = some (.leaf (.bool b))) : Acts P o ev h reads { val := .leaf (.bool !b) } := by
  refine acts_leaf fun ac w H => ?_
  have e1 := H x (by simp [ho, Op.operands]) _ hx
  simp [execOp, ho, e1, Op.unary]

theorem acts_neg {t : TypeId} {x : Operand} {k : IntKind} {n : Int} (ho : o.op = .unOp .neg t x) (hx : ev x = some (.leaf (.int k n))) : Acts P o ev h reads { val := .leaf (.int k (k.wrap (0 - n))) } := by
  refine acts_leaf fun ac w H => ?_
  have e1 := H x (by simp [ho, Op.operands]) _ hx
  simp [execOp, ho, e1, Op.unary, Op.intArith]

theorem acts_com {t : TypeId} {x : Operand} {k : IntKind} {n : Int} (ho : o.op = .unOp .xor t x) (hx : ev x = some (.leaf (.int k n))) :
    Acts P o ev h reads { val := .leaf (.int k (k.wrap (BitVec.ofInt k.bits (if k.signed then -1 else k.max) ^^^ BitVec.ofInt k.bits n).toNat)) } := by
  refine acts_leaf fun ac w H => ?_
  have e1 := H x (by simp [ho, Op.operands]) _ hx
  simp [execOp, ho, e1, Op.unary, Op.intBits]

theorem acts_convI {s d : TypeId} {x : Operand} {k k' : IntKind} {n : Int} (ho : o.op = .convert s d x) (hx : ev x = some (.leaf (.int k n))) (hs : ∃ i k0, TOk P s i ∧ i.k = .int k0) (hd : ∃ i, TOk P d i ∧ i.k = .int k') :
    Acts P o ev h reads { val := .leaf (.int k' (k'.wrap n)) } := by
  refine acts_leaf fun ac w H => ?_
  have e1 := H x (by simp [ho, Op.operands]) _ hx
  obtain ⟨i, k0, hi, hk⟩ := hs
  obtain ⟨d1, h1, h2, _⟩ := hi.und
  rw [hk] at h2; simp only [kOk] at h2; subst h2
  obtain ⟨i', hi', hk'⟩ := hd
  obtain ⟨d2, h3, h4, _⟩ := hi'.und
  rw [hk'] at h4; simp only [kOk] at h4; subst h4
  simp [execOp, ho, e1, convert, run_underlying h1, run_underlying h3, Conv.intToInt]

theorem acts_convS {s d : TypeId} {x : Operand} {b : ByteArray} (ho : o.op = .convert s d x) (hx : ev x = some (.leaf (.string b))) (hs : ∃ i, TOk P s i ∧ i.k = .str) (hd : ∃ i, TOk P d i ∧ i.k = .str) :
    Acts P o ev h reads { val := .leaf (.string b) } := by
  refine acts_leaf fun ac w H => ?_
  have e1 := H x (by simp [ho, Op.operands]) _ hx
  obtain ⟨i, hi, hk⟩ := hs
  obtain ⟨d1, h1, h2, _⟩ := hi.und
  rw [hk] at h2; simp only [kOk] at h2; subst h2
  obtain ⟨i', hi', hk'⟩ := hd
  obtain ⟨d2, h3, h4, _⟩ := hi'.und
  rw [hk'] at h4; simp only [kOk] at h4; subst h4
  simp [execOp, ho, e1, convert, run_underlying h1, run_underlying h3]

def K.concrete : K → Bool | .iface | .other | .no => false | _ => true

theorem acts_makeIface {t : TypeId} {x : Operand} {v : T} (ho : o.op = .makeInterface t x) (hx : ev x = some v) (ht : ∃ i, TOk P t i ∧ i.k.concrete = true) :
    Acts P o ev h reads { val := .iface t v } := by
  refine acts_value fun Γ σ β a w hP hev hh hs => ?_
  have e : σ.ev x = some v := by rw [hev x (by simp [ho, Op.operands]), hx]
  obtain ⟨i, hi, hk⟩ := ht
  obtain ⟨d, h1, h2, _⟩ := hi.und
  refine ⟨.iface t (a.eval x), ?_, by simp only [Rep]; exact ⟨_, rfl, hs.ev e⟩, by simpa [T.ids] using hs.ev_ids e⟩
  simp only [execOp, ho]
  refine run_v ?_
  have hd : ∀ ms, d ≠ .interface ms := by
    rintro ms rfl
    cases hq : i.k <;> rw [hq] at h2 hk <;> simp [kOk, K.concrete] at h2 hk
  simp only [Instr.makeInterface, Sem.run_bind, run_underlying h1, Result.andThen_ok]
  cases d <;> first | rfl | exact absurd rfl (hd _)

theorem acts_extract {x : Operand} {i : Nat} {cs : List T} {t : T} (ho : o.op = .extract x i) (hx : ev x = some (.tup cs)) (hi : cs[i]? = some t) : Acts P o ev h reads { val := t } := by
  refine acts_value fun Γ σ β a w hP hev hh hs => ?_
  have e : σ.ev x = some (.tup cs) := by rw [hev x (by simp [ho, Op.operands]), hx]
  have hr := hs.ev e
  simp only [Rep] at hr
  obtain ⟨vs, h1, h2⟩ := hr
  obtain ⟨v, h3, h4⟩ := h2.get hi
  refine ⟨v, ?_, h4, fun j hj => hs.ev_ids e j (by simpa [T.ids] using RepL.idsub hi j hj)⟩
  simp only [execOp, ho]
  refine run_v ?_
  simp [Instr.extract, h1, h3]

def sub (cs : List T) (off n : Nat) : List T := (cs.drop off).take n

theorem RepL.extract {w : World} {ok : Tag → Nat → Prop} {β : Nat → Real} {cs : List T} {vs : List Value} (off n : Nat) (h : RepL w ok cs β vs) : RepL w ok (sub cs off n) β (vs.toArray.extract off (off + n)).toList := by
  have : (vs.toArray.extract off (off + n)).toList = (vs.drop off).take n := by
    simp [List.extract_eq_take_drop]
  rw [this]
  exact (h.drop off).take n

theorem ids_drop {cs : List T} (n : Nat) : ∀ i ∈ idsL (cs.drop n), i ∈ idsL cs := by
  induction n generalizing cs with
  | zero => simp
  | succ n ih =>
    cases cs with
    | nil => simp
    | cons t ts => intro i hi; simp only [idsL, List.mem_append]; exact .inr (ih i (by simpa using hi))

theorem ids_take {cs : List T} (n : Nat) : ∀ i ∈ idsL (cs.take n), i ∈ idsL cs := by
  induction n generalizing cs with
  | zero => simp [idsL]
  | succ n ih =>
    cases cs with
    | nil => simp
    | cons t ts =>
      intro i hi
      simp only [List.take_succ_cons, idsL, List.mem_append] at hi ⊢
      exact hi.imp id (ih i)

theorem ids_sub {cs : List T} (off n : Nat) : ∀ i ∈ idsL (sub cs off n), i ∈ idsL cs := fun i hi => ids_drop off i (ids_take n i hi)

/-- A part of cells. -/
def partOf (i : TI) (cs : List T) (off : Nat) (t : T) : Prop :=
  if i.agg then off + i.size ≤ cs.length ∧ t = .agg (sub cs off i.size) else cs[off]? = some t

theorem partOf.ids {i : TI} {cs : List T} {off : Nat} {t : T} (h : partOf i cs off t) : ∀ j ∈ t.ids, j ∈ idsL cs := by
  unfold partOf at h
  split at h
  · obtain ⟨_, rfl⟩ := h; intro j hj; exact ids_sub _ _ j (by simpa [T.ids] using hj)
  · exact RepL.idsub h

theorem run_part {ty : TypeId} {i : TI} (ht : TOk P ty i) {cs : List T} {off : Nat} {t : T} (hp : partOf i cs off t) {w : World} {ok : Tag → Nat → Prop} {β : Nat → Real} {vs : List Value} (hr : RepL w ok cs β vs) :
    ∃ v, (part ty vs.toArray off).run P w = .ok v w ∧ Rep w ok t β v := by
  unfold partOf at hp
  have ha := ht.isAgg w
  have hz := ht.size w
  split at hp
  · rename_i hagg
    rw [hagg] at ha
    obtain ⟨h1, rfl⟩ := hp
    refine ⟨.agg (vs.toArray.extract off (off + i.size)), ?_, ?_⟩
    · simp only [part, Sem.run_bind, ha, Result.andThen_ok, if_true, hz]; rfl
    · simp only [Rep]; exact ⟨_, by simp, hr.extract off i.size⟩
  · rename_i hagg
    have hagg' : i.agg = false := by simpa using hagg
    rw [hagg'] at ha
    obtain ⟨v, h3, h4⟩ := hr.get hp
    refine ⟨v, ?_, h4⟩
    simp only [part, Sem.run_bind, ha, Result.andThen_ok]
    simp [h3]

theorem acts_field {s : TypeId} {x : Operand} {f off : Nat} {ft : TypeId} {fs : List (Nat × TypeId)} {cs : List T} {t : T} {i i' : TI} (ho : o.op = .field s x f) (hx : ev x = some (.agg cs)) (hs : TOk P s i) (hk : i.k = .struct fs)
    (hf : fs[f]? = some (off, ft)) (ht : TOk P ft i') (hp : partOf i' cs off t) : Acts P o ev h reads { val := t } := by
  refine acts_value fun Γ σ β a w hP hev hh hsim => ?_
  have e : σ.ev x = some (.agg cs) := by rw [hev x (by simp [ho, Op.operands]), hx]
  have hr := hsim.ev e
  simp only [Rep] at hr
  obtain ⟨vs, h1, h2⟩ := hr
  obtain ⟨d, h3, h4, _⟩ := hs.und
  rw [hk] at h4; simp only [kOk] at h4
  obtain ⟨fl, rfl, h5⟩ := h4
  obtain ⟨v, h6, h7⟩ := run_part ht hp h2
  refine ⟨v, ?_, h7, fun j hj => hsim.ev_ids e j (by simpa [T.ids] using hp.ids j hj)⟩
  have hfl : ∃ g, fl[f]? = some g ∧ g.offset = off ∧ g.type = ft := by
    rw [← h5] at hf
    simp only [List.getElem?_map, Option.map_eq_some_iff, Prod.mk.injEq] at hf
    obtain ⟨g, hg, h8, h9⟩ := hf
    exact ⟨g, by simpa using hg, h8, h9⟩
  obtain ⟨g, hg, rfl, rfl⟩ := hfl
  simp only [execOp, ho]
  refine run_v ?_
  simp [Instr.field, run_underlying h3, hg, h1, asAgg, h6]

theorem acts_indexStr {ty : TypeId} {x y : Operand} {b : ByteArray} {k : IntKind} {n : Int} {i : TI} {c : UInt8} (ho : o.op = .index ty x y) (hx : ev x = some (.leaf (.string b))) (hy : ev y = some (.leaf (.int k n))) (ht : TOk P ty i) (hk : i.k = .str)
    (h0 : 0 ≤ n) (hc : b[n.toNat]? = some c) : Acts P o ev h reads { val := .leaf (.int .u8 c.toNat) } := by
  refine acts_leaf fun ac w H => ?_
  have e1 := H x (by simp [ho, Op.operands]) _ hx
  have e2 := H y (by simp [ho, Op.operands]) _ hy
  obtain ⟨d, h3, h4, _⟩ := ht.und
  rw [hk] at h4; simp only [kOk] at h4; subst h4
  simp only [execOp, ho, e1, e2]
  refine run_v ?_
  simp [Instr.index, asIntOf, run_underlying h3, h0, hc]

theorem acts_indexAgg {ty el : TypeId} {x y : Operand} {cs : List T} {k : IntKind} {n : Int} {N : Nat} {i i' : TI} {t : T} (ho : o.op = .index ty x y) (hx : ev x = some (.agg cs)) (hy : ev y = some (.leaf (.int k n))) (ht : TOk P ty i) (hk : i.k = .array N el)
    (he : TOk P el i') (h0 : 0 ≤ n) (h1 : n < N) (hp : partOf i' cs (n.toNat * i'.size) t) : Acts P o ev h reads { val := t } := by
  refine acts_value fun Γ σ β a w hP hev hh hsim => ?_
  have e : σ.ev x = some (.agg cs) := by rw [hev x (by simp [ho, Op.operands]), hx]
  have e2 : a.eval y = .int k n := by simpa [Rep] using hsim.ev (show σ.ev y = some (.leaf (.int k n)) by rw [hev y (by simp [ho, Op.operands]), hy])
  have hr := hsim.ev e
  simp only [Rep] at hr
  obtain ⟨vs, h3, h4⟩ := hr
  obtain ⟨d, h5, h6, _⟩ := ht.und
  rw [hk] at h6; simp only [kOk] at h6; subst h6
  obtain ⟨v, h7, h8⟩ := run_part he hp h4
  refine ⟨v, ?_, h8, fun j hj => hsim.ev_ids e j (by simpa [T.ids] using hp.ids j hj)⟩
  simp only [execOp, ho]
  refine run_v ?_
  have hz := he.size (P := P) w
  simp [Instr.index, asIntOf, e2, h3, run_underlying h5, h0, h1, hz, h7]
end

end Go.Vw

/- Slices: made, cut, appended to, copied; conversions; lengths. -/
import Derived.Test.YtdlnppcndcfikaaVw5
namespace Go.Vw
set_option linter.unusedVariables false
set_option linter.unusedSimpArgs false
open Go Go.RowKit

def bs (l : List Int) : List T := l.map fun n => .leaf (.int .u8 n)
def bytesOf (s : ByteArray) : List Int := s.data.toList.map fun b => (b.toNat : Int)
def strOf (l : List Int) : ByteArray := ⟨(l.map fun n => UInt8.ofNat n.toNat).toArray⟩

section
variable {P : Program} {o : Oper} {ev : Operand → Option T} {h : Nat → Option (List T)} {reads : List Nat} {ti : TypeId → TI}

theorem acts_makeSlice {ty el : TypeId} {x y : Operand} {d : Nat} {k k' : IntKind} {n c : Int} {i i' : TI} (ho : o.op = .makeSlice ty x y) (hx : ev x = some (.leaf (.int k n))) (hy : ev y = some (.leaf (.int k' c))) (ht : TOk P ty i) (hk : i.k = .slice el)
    (he : TOk P el i') (hz0 : i'.zero.length = i'.size) (h0 : 0 ≤ n) (h1 : n ≤ c) (h2 : c < 9223372036854775808) (hb : i'.bytes * c ≤ 281474976710656) (hd : d ∉ reads) :
    Acts P o ev h reads { val := .ref d i'.size 0 n.toNat, puts := [(d, zerosT i'.zero n.toNat)] } := by
  refine acts_of fun Γ σ β a w hP hev hh hn hs => ?_
  have hd' : σ.h d = none := (hn (d, zerosT i'.zero n.toNat) (by simp) (by simp)).2 hd
  have hdS := (hn (d, zerosT i'.zero n.toNat) (by simp) (by simp)).1
  have e1 : a.eval x = .int k n := by simpa [Rep] using hs.ev (show σ.ev x = some (.leaf (.int k n)) by rw [hev x (by simp [ho, Op.operands]), hx])
  have e2 : a.eval y = .int k' c := by simpa [Rep] using hs.ev (show σ.ev y = some (.leaf (.int k' c)) by rw [hev y (by simp [ho, Op.operands]), hy])
  obtain ⟨j, q1, q2, q3, z, q4, q5⟩ := he.info
  obtain ⟨d', h6, h7, _⟩ := ht.und
  rw [hk] at h7; simp only [kOk] at h7; subst h7
  have hzs : z.cells.size = i'.size := by rw [q5]; simpa using hz0
  have wn : IntKind.i64.wrap n = n := by simp [IntKind.wrap, IntKind.bits, IntKind.signed]; omega
  have wc : IntKind.i64.wrap c = c := by simp [IntKind.wrap, IntKind.bits, IntKind.signed]; omega
  have hlz := zerosT_length i'.zero n.toNat
  rw [hz0] at hlz
  have hnc : n.toNat ≤ c.toNat := by omega
  have hncm : n.toNat * i'.size ≤ c.toNat * i'.size := Nat.mul_le_mul_right _ hnc
  let C : Array Value := (Array.range (c.toNat * i'.size)).map (z.cells[· % z.cells.size]!)
  have hC : C.size = c.toNat * i'.size := by simp [C]
  have hrz : RepL w (okOf Γ.X σ β w) (zerosT i'.zero n.toNat) β ((Array.range (n.toNat * i'.size)).map (z.cells[· % z.cells.size]!)).toList := by
    have := RepL.zeros (w := w) (ok := okOf Γ.X σ β w) (β := β) i'.zero n.toNat
    rw [hz0, ← q5] at this
    exact this
  refine ⟨.slice (some ⟨w.heap.size, 0, none⟩) n.toNat c.toNat, w.alloc (.cells C el), _, .inl ?_,
    hs.new hd' hdS (E := c.toNat * i'.size) (by omega) (by omega) (.inl rfl) hrz (fun i v e => ?_) (by simp [idsL_zerosT]), ?_, ?_⟩
  · simp only [execOp, ho, e1, e2]
    refine run_v ?_
    have t1 : ¬ (c < 0 ∨ 281474976710656 < (i'.bytes : Int) * c) := by omega
    simp only [Instr.makeSlice, Sem.run_bind, run_underlying h6, Result.andThen_ok, asInt, asIntOf, Sem.run_pure, typeInfo, run_program, q1, wn, wc, q3]
    have t2 : (decide (c < 0) || decide (281474976710656 < (i'.bytes : Int) * c)) = false := by simp; omega
    have t3 : decide (n < 0) = false := by simp; omega
    have t4 : decide (c < n) = false := by simp; omega
    have hz := he.size w
    simp only [gt_iff_lt, show (2 : Int) ^ 48 = 281474976710656 from by decide, t2, t3, t4, Bool.or_self, Bool.false_eq_true, if_false, Sem.run_bind, Sem.run_pure, Result.andThen_ok, run_askRoom, hz]
    by_cases hcz : c.toNat * i'.size = 0
    · have e0 : C = #[] := by simp [C, hcz]
      simp only [hcz, if_true, Sem.run_pure, Result.andThen_ok]
      have e0' : ∀ f : Nat → Value, (Array.range 0).map f = #[] := fun _ => by simp
      simp only [e0', e0, newRow, Sem.run_bind, run_newObj, Result.andThen_ok, Sem.run_pure]; rfl
    · simp only [if_neg hcz, Sem.run_bind, zeroValue, typeInfo, run_program, Result.andThen_ok, q1, Sem.run_pure, q4, newRow, run_newObj]; rfl
  · obtain ⟨hi, e'⟩ := List.getElem?_eq_some_iff.1 e
    simp at hi e'
    simp [C, show i < c.toNat * i'.size by omega, e']
  · simp only [Rep, reals, if_true]
    exact ⟨_, c.toNat, rfl, hnc, by omega, .inr rfl⟩
  · simp [T.ids, St.puts, St.drops, upd]

/-- Bounds of a cut. -/
def evB (ev : Operand → Option T) : Option Operand → Option (Option Int)
  | none => some none
  | some x => match ev x with | some (.leaf (.int _ i)) => some (some i) | _ => none

theorem evB_run {Γ : Cx} {σ : St} {β : Nat → Real} {a : Act} {w : World} (hs : SimB Γ σ β a w) {x : Option Operand} {r : Option Int} (hx : evB σ.ev x = some r) :
    (x = none ∧ r = none) ∨ ∃ y k i, x = some y ∧ r = some i ∧ a.eval y = .int k i := by
  cases x with
  | none => simp only [evB, Option.some.injEq] at hx; exact .inl ⟨rfl, hx.symm⟩
  | some y =>
    simp only [evB] at hx
    split at hx
    · rename_i k i e
      injection hx with hx
      exact .inr ⟨y, k, i, rfl, hx.symm, by simpa [Rep] using hs.ev e⟩
    · simp at hx

theorem evB_congr {ev ev' : Operand → Option T} {x : Option Operand} (h : ∀ y, x = some y → ev y = ev' y) : evB ev x = evB ev' x := by
  cases x with
  | none => rfl
  | some y => simp only [evB, h y rfl]

/-- The bounds are right: from l to h, and room up to m, of at most n. -/
def cutOk (lo hi mx : Option Int) (n : Nat) (l h m : Nat) : Prop :=
  lo.getD (0 : Int) = (l : Int) ∧ hi.getD (n : Int) = (h : Int) ∧ mx.getD (n : Int) = (m : Int) ∧ l ≤ h ∧ h ≤ m ∧ m ≤ n ∧ (mx ≠ none → hi ≠ none)

theorem run_bounds {a : Act} {lo hi mx : Option Operand} {rl rh rm : Option Int} {n c l h m : Nat} (w : World) (b : Bool)
    (hl : (lo = none ∧ rl = none) ∨ ∃ y k i, lo = some y ∧ rl = some i ∧ a.eval y = .int k i) (hh : (hi = none ∧ rh = none) ∨ ∃ y k i, hi = some y ∧ rh = some i ∧ a.eval y = .int k i)
    (hm : (mx = none ∧ rm = none) ∨ ∃ y k i, mx = some y ∧ rm = some i ∧ a.eval y = .int k i) (hc : cutOk rl rh rm n l h m) (hnc : n ≤ c) :
    (Instr.sliceBounds b n c (lo.map a.eval) (hi.map a.eval) (mx.map a.eval)).run P w = .ok (l, h, if mx = none then c else m) w := by
  obtain ⟨c1, c2, c3, c4, c5, c6, c7⟩ := hc
  have key : ∀ (y : Nat) (k : IntKind) (q : Int) (code : BoundsCode), 0 ≤ q → q ≤ y → (Instr.sliceBound (.int k q) y code).run P w = .ok q.toNat w := fun y k q code h0 h1 => by simp [Instr.sliceBound, asIntOf, h0, h1]
  rcases hm with ⟨rfl, rfl⟩ | ⟨ym, km, im, rfl, rfl, em⟩ <;> rcases hh with ⟨rfl, rfl⟩ | ⟨yh, kh, ih, rfl, rfl, eh⟩ <;> rcases hl with ⟨rfl, rfl⟩ | ⟨yl, kl, il, rfl, rfl, el⟩ <;>
    simp only [Option.getD_none, Option.getD_some] at c1 c2 c3
  all_goals first
    | (exfalso; simp at c7; done)
    | skip
  · simp only [Instr.sliceBounds, Option.map_none, Sem.run_bind, Sem.run_pure, Result.andThen_ok, if_true]
    refine congrArg (fun q => Result.ok q w) ?_
    simp; omega
  · simp only [Instr.sliceBounds, Option.map_none, Option.map_some, Sem.run_bind, Sem.run_pure, Result.andThen_ok, if_true, el, key n kl il _ (by omega) (by omega)]
    refine congrArg (fun q => Result.ok q w) ?_
    simp; omega
  · simp only [Instr.sliceBounds, Option.map_none, Option.map_some, Sem.run_bind, Sem.run_pure, Result.andThen_ok, if_true, eh, key c kh ih _ (by omega) (by omega)]
    refine congrArg (fun q => Result.ok q w) ?_
    simp; omega
  · simp only [Instr.sliceBounds, Option.map_none, Option.map_some, Sem.run_bind, Sem.run_pure, Result.andThen_ok, if_true, eh, el, key c kh ih _ (by omega) (by omega), key ih.toNat kl il _ (by omega) (by omega)]
    refine congrArg (fun q => Result.ok q w) ?_
    simp; omega
  · simp only [Instr.sliceBounds, Option.map_none, Option.map_some, Sem.run_bind, Sem.run_pure, Result.andThen_ok, reduceCtorEq, if_false, em, eh, key c km im _ (by omega) (by omega), key im.toNat kh ih _ (by omega) (by omega)]
    refine congrArg (fun q => Result.ok q w) ?_
    simp; omega
  · simp only [Instr.sliceBounds, Option.map_none, Option.map_some, Sem.run_bind, Sem.run_pure, Result.andThen_ok, reduceCtorEq, if_false, em, eh, el, key c km im _ (by omega) (by omega), key im.toNat kh ih _ (by omega) (by omega), key ih.toNat kl il _ (by omega) (by omega)]
    refine congrArg (fun q => Result.ok q w) ?_
    simp; omega

theorem run_sliceAt_eq {ty el : TypeId} (h3 : P.underlying ty = some (.slice el)) {i' : TI} (he : TOk P el i') {ad : Option Addr} {n c l h m : Nat} {x y z : Option Value} {w : World} (hb : (Instr.sliceBounds true n c x y z).run P w = .ok (l, h, m) w) :
    (Instr.sliceAt ty (.slice ad n c) x y z).run P w = .ok (.slice (if m = l then ad else ad.map (·.add (l * i'.size))) (h - l) (m - l)) w := by
  simp only [Instr.sliceAt, Sem.run_bind, run_underlying h3, Result.andThen_ok, Instr.slice, hb, he.size w, Sem.run_pure]

theorem operands_slice {ty : TypeId} {x : Operand} {lo hi mx : Option Operand} (ho : o.op = .slice ty x lo hi mx) {y : Operand} (hy : y = x ∨ lo = some y ∨ hi = some y ∨ mx = some y) : y ∈ o.op.operands := by
  rcases hy with rfl | rfl | rfl | rfl <;> simp [ho, Op.operands]

/-- A cut of an own object. -/
theorem acts_sliceRef {ty el : TypeId} {x : Operand} {lo hi mx : Option Operand} {rl rh rm : Option Int} {id m off n l hh' mm : Nat} {i i' : TI} (ho : o.op = .slice ty x lo hi mx) (hx : ev x = some (.ref id m off n)) (hlo : evB ev lo = some rl) (hhi : evB ev hi = some rh) (hmx : evB ev mx = some rm)
    (ht : TOk P ty i) (hk : i.k = .slice el) (he : TOk P el i') (hm : i'.size = m) (hc : cutOk rl rh rm n l hh' mm) : Acts P o ev h reads { val := .ref id m (off + l * m) (hh' - l) } := by
  refine acts_value fun Γ σ β a w hP hev hh hs => ?_
  have e : σ.ev x = some (.ref id m off n) := by rw [hev x (operands_slice ho (.inl rfl)), hx]
  have bl := evB_run hs (show evB σ.ev lo = some rl by rw [evB_congr fun y hy => hev y (operands_slice ho (.inr (.inl hy))), hlo])
  have bh := evB_run hs (show evB σ.ev hi = some rh by rw [evB_congr fun y hy => hev y (operands_slice ho (.inr (.inr (.inl hy)))), hhi])
  have bm := evB_run hs (show evB σ.ev mx = some rm by rw [evB_congr fun y hy => hev y (operands_slice ho (.inr (.inr (.inr hy)))), hmx])
  obtain ⟨d, h3, h4, _⟩ := ht.und
  rw [hk] at h4; simp only [kOk] at h4; subst h4
  have hrep := hs.ev e
  simp only [Rep] at hrep
  have hc' := hc
  obtain ⟨c1, c2, c3, c4, c5, c6, c7⟩ := hc'
  cases hb : β id with
  | ph =>
    rw [hb] at hrep
    obtain ⟨rfl, rfl, ad, hv⟩ := hrep
    have hbd := run_bounds (P := P) w true bl bh bm hc (Nat.le_refl 0)
    refine ⟨.slice (if (if mx = none then 0 else mm) = l then ad else ad.map (·.add (l * i'.size))) (hh' - l) ((if mx = none then 0 else mm) - l), ?_, ?_, by simpa [T.ids] using hs.ev_ids e⟩
    · simp only [execOp, ho, hv]
      exact run_v (run_sliceAt_eq h3 he hbd)
    · have : l = 0 := by omega
      subst this
      simp only [Rep, hb]
      refine ⟨by simp, by omega, (if (if mx = none then 0 else mm) = 0 then ad else ad.map (·.add (0 * i'.size))), ?_⟩
      have : (if mx = none then 0 else mm) - 0 = 0 := by split <;> omega
      rw [this]; congr 1; omega
  | real b ob E =>
    rw [hb] at hrep
    obtain ⟨ad, cap, hv, g1, g2, g3⟩ := hrep
    have hbd := run_bounds (P := P) w true bl bh bm hc g1
    refine ⟨.slice (if (if mx = none then cap else mm) = l then ad else ad.map (·.add (l * i'.size))) (hh' - l) ((if mx = none then cap else mm) - l), ?_, ?_, by simpa [T.ids] using hs.ev_ids e⟩
    · simp only [execOp, ho, hv]
      exact run_v (run_sliceAt_eq h3 he hbd)
    · simp only [Rep, hb]
      have hle : (if mx = none then cap else mm) ≤ cap := by split <;> omega
      have hlm : l ≤ (if mx = none then cap else mm) := by split <;> omega
      have hhm : hh' ≤ (if mx = none then cap else mm) := by split <;> omega
      refine ⟨_, _, rfl, by omega, ?_, ?_⟩
      · rw [Nat.add_assoc, ← Nat.add_mul]
        have : (l + ((if mx = none then cap else mm) - l)) * m ≤ cap * m := Nat.mul_le_mul_right _ (by omega)
        omega
      · by_cases hml : (if mx = none then cap else mm) = l
        · exact .inl (by omega)
        · rw [if_neg hml]
          rcases g3 with g3 | g3
          · exact .inl (by omega)
          · right; subst g3; simp [addr_add, hm, Nat.add_assoc]

/-- A cut of what nobody writes. -/
theorem acts_sliceSl {ty el : TypeId} {x : Operand} {lo hi mx : Option Operand} {rl rh rm : Option Int} {m n l hh' mm : Nat} {g : Tag} {cs : List T} {i i' : TI} (ho : o.op = .slice ty x lo hi mx) (hx : ev x = some (.sl m g n cs)) (hlo : evB ev lo = some rl) (hhi : evB ev hi = some rh) (hmx : evB ev mx = some rm)
    (ht : TOk P ty i) (hk : i.k = .slice el) (he : TOk P el i') (hm : i'.size = m) (hc : cutOk rl rh rm n l hh' mm) :
    Acts P o ev h reads { val := if rm ≠ none ∧ l = mm then .e0 else .sl m g (hh' - l) (sub cs (l * m) ((hh' - l) * m)) } := by
  refine acts_value fun Γ σ β a w hP hev hh hs => ?_
  have e : σ.ev x = some (.sl m g n cs) := by rw [hev x (operands_slice ho (.inl rfl)), hx]
  have bl := evB_run hs (show evB σ.ev lo = some rl by rw [evB_congr fun y hy => hev y (operands_slice ho (.inr (.inl hy))), hlo])
  have bh := evB_run hs (show evB σ.ev hi = some rh by rw [evB_congr fun y hy => hev y (operands_slice ho (.inr (.inr (.inl hy)))), hhi])
  have bm := evB_run hs (show evB σ.ev mx = some rm by rw [evB_congr fun y hy => hev y (operands_slice ho (.inr (.inr (.inr hy)))), hmx])
  obtain ⟨d, h3, h4, _⟩ := ht.und
  rw [hk] at h4; simp only [kOk] at h4; subst h4
  have hrep := hs.ev e
  simp only [Rep] at hrep
  obtain ⟨⟨g1, g2⟩, ad, cap, hv, g3, g4⟩ := hrep
  have hc' := hc
  obtain ⟨c1, c2, c3, c4, c5, c6, c7⟩ := hc'
  have hbd := run_bounds (P := P) w true bl bh bm hc g3
  have hmn : (mx = none) ↔ (rm = none) := by rcases bm with ⟨rfl, rfl⟩ | ⟨_, _, _, rfl, rfl, _⟩ <;> simp
  refine ⟨.slice (if (if mx = none then cap else mm) = l then ad else ad.map (·.add (l * i'.size))) (hh' - l) ((if mx = none then cap else mm) - l), ?_, ?_, ?_⟩
  · simp only [execOp, ho, hv]
    exact run_v (run_sliceAt_eq h3 he hbd)
  · split
    · rename_i hq
      have : mx ≠ none := fun e => hq.1 (hmn.1 e)
      simp only [Rep, if_neg this]
      exact ⟨_, by congr 1 <;> omega⟩
    · have hle : (if mx = none then cap else mm) ≤ cap := by split <;> omega
      have hhm : hh' ≤ (if mx = none then cap else mm) := by split <;> omega
      simp only [Rep]
      have hlm : l * m + (hh' - l) * m ≤ cs.length := by
        rw [g1, ← Nat.add_mul]; exact Nat.mul_le_mul_right _ (by omega)
      refine ⟨⟨by simp [sub]; omega, ?_⟩, _, _, rfl, by omega, ?_⟩
      · refine List.eq_nil_iff_forall_not_mem.2 fun q hq => ?_
        have := ids_sub _ _ q hq
        rw [g2] at this; simp at this
      · by_cases hz : hh' - l = 0
        · exact .inl hz
        · right
          rw [if_neg (by omega)]
          obtain ⟨b, ob, rfl, g5, g6⟩ := g4.resolve_left (by omega)
          obtain ⟨vs, g7, g8⟩ := g6.open_
          refine ⟨b, ob + l * m, by simp [addr_add, hm], g5, RepAt.shut (vs := (vs.drop (l * m)).take ((hh' - l) * m)) ((g7.drop _).take _) ((g8.drop _).take _)⟩
  · split <;> simp [T.ids]

theorem acts_sliceNil {ty el : TypeId} {x : Operand} {lo hi mx : Option Operand} {rl rh rm : Option Int} {i i' : TI} (ho : o.op = .slice ty x lo hi mx) (hx : ev x = some (.leaf (.slice none 0 0))) (hlo : evB ev lo = some rl) (hhi : evB ev hi = some rh) (hmx : evB ev mx = some rm)
    (ht : TOk P ty i) (hk : i.k = .slice el) (he : TOk P el i') (hc : cutOk rl rh rm 0 0 0 0) : Acts P o ev h reads { val := .leaf (.slice none 0 0) } := by
  refine acts_value fun Γ σ β a w hP hev hh hs => ?_
  have e : σ.ev x = some (.leaf (.slice none 0 0)) := by rw [hev x (operands_slice ho (.inl rfl)), hx]
  have bl := evB_run hs (show evB σ.ev lo = some rl by rw [evB_congr fun y hy => hev y (operands_slice ho (.inr (.inl hy))), hlo])
  have bh := evB_run hs (show evB σ.ev hi = some rh by rw [evB_congr fun y hy => hev y (operands_slice ho (.inr (.inr (.inl hy)))), hhi])
  have bm := evB_run hs (show evB σ.ev mx = some rm by rw [evB_congr fun y hy => hev y (operands_slice ho (.inr (.inr (.inr hy)))), hmx])
  obtain ⟨d, h3, h4, _⟩ := ht.und
  rw [hk] at h4; simp only [kOk] at h4; subst h4
  have hv : a.eval x = .slice none 0 0 := by simpa [Rep] using hs.ev e
  have hbd := run_bounds (P := P) w true bl bh bm hc (Nat.le_refl 0)
  refine ⟨.slice none 0 0, ?_, by simp [Rep], by simp [T.ids]⟩
  simp only [execOp, ho, hv]
  refine run_v ?_
  rw [run_sliceAt_eq h3 he hbd]
  simp

/-- A cut of an array that is an own object's, or part of it. -/
theorem acts_sliceArr {ty el : TypeId} {x : Operand} {lo hi mx : Option Operand} {rl rh rm : Option Int} {id off N l hh' mm : Nat} {cs : List T} {i i' : TI} (ho : o.op = .slice ty x lo hi mx) (hx : ev x = some (.addr id off)) (hlo : evB ev lo = some rl) (hhi : evB ev hi = some rh) (hmx : evB ev mx = some rm)
    (ht : TOk P ty i) (hk : i.k = .array N el) (he : TOk P el i') (hr : id ∈ reads) (hid : h id = some cs) (hl : off + N * i'.size ≤ cs.length) (hc : cutOk rl rh rm N l hh' mm) : Acts P o ev h reads { val := .ref id i'.size (off + l * i'.size) (hh' - l) } := by
  refine acts_value fun Γ σ β a w hP hev hh hs => ?_
  have e : σ.ev x = some (.addr id off) := by rw [hev x (operands_slice ho (.inl rfl)), hx]
  have bl := evB_run hs (show evB σ.ev lo = some rl by rw [evB_congr fun y hy => hev y (operands_slice ho (.inr (.inl hy))), hlo])
  have bh := evB_run hs (show evB σ.ev hi = some rh by rw [evB_congr fun y hy => hev y (operands_slice ho (.inr (.inr (.inl hy)))), hhi])
  have bm := evB_run hs (show evB σ.ev mx = some rm by rw [evB_congr fun y hy => hev y (operands_slice ho (.inr (.inr (.inr hy)))), hmx])
  have hid' : σ.h id = some cs := by rw [hh id hr, hid]
  obtain ⟨d, h3, h4, _⟩ := ht.und
  rw [hk] at h4; simp only [kOk] at h4; subst h4
  have hrep := hs.ev e
  simp only [Rep] at hrep
  have hc' := hc
  obtain ⟨c1, c2, c3, c4, c5, c6, c7⟩ := hc'
  cases hb : β id with
  | ph => rw [hb] at hrep; exact hrep.elim
  | real b ob E =>
    rw [hb] at hrep
    obtain ⟨c, el', fr, vs, q1, q2, q3, q4, q5, q6⟩ := obj_open hs hid' hb
    have hbd := run_bounds (P := P) w false bl bh bm hc (Nat.le_refl N)
    refine ⟨.slice (some (if (if mx = none then N else mm) = l then ⟨b, ob + off, none⟩ else (⟨b, ob + off, none⟩ : Addr).add (l * i'.size))) (hh' - l) ((if mx = none then N else mm) - l), ?_, ?_, by simpa [T.ids] using hs.ev_ids e⟩
    · simp only [execOp, ho, hrep]
      refine run_v ?_
      simp only [Instr.sliceAt, Sem.run_bind, run_underlying h3, Result.andThen_ok, Instr.sureAddr, Sem.run_pure, hbd, he.size w]
    · have hle : (if mx = none then N else mm) ≤ N := by split <;> omega
      have hlm : l ≤ (if mx = none then N else mm) := by split <;> omega
      have hhm : hh' ≤ (if mx = none then N else mm) := by split <;> omega
      simp only [Rep, hb]
      refine ⟨_, _, rfl, by omega, ?_, ?_⟩
      · rw [Nat.add_assoc, ← Nat.add_mul]
        have : (l + ((if mx = none then N else mm) - l)) * i'.size ≤ N * i'.size := Nat.mul_le_mul_right _ (by omega)
        omega
      · by_cases hml : (if mx = none then N else mm) = l
        · exact .inl (by omega)
        · rw [if_neg hml, addr_add, Nat.add_assoc]; exact .inr rfl

theorem acts_sliceStr {ty : TypeId} {x : Operand} {lo hi : Option Operand} {rl rh : Option Int} {s : ByteArray} {l hh' : Nat} {i : TI} (ho : o.op = .slice ty x lo hi none) (hx : ev x = some (.leaf (.string s))) (hlo : evB ev lo = some rl) (hhi : evB ev hi = some rh)
    (ht : TOk P ty i) (hk : i.k = .str) (hc : cutOk rl rh none s.size l hh' s.size) : Acts P o ev h reads { val := .leaf (.string (s.extract l hh')) } := by
  refine acts_value fun Γ σ β a w hP hev hh hs => ?_
  have e : σ.ev x = some (.leaf (.string s)) := by rw [hev x (operands_slice ho (.inl rfl)), hx]
  have bl := evB_run hs (show evB σ.ev lo = some rl by rw [evB_congr fun y hy => hev y (operands_slice ho (.inr (.inl hy))), hlo])
  have bh := evB_run hs (show evB σ.ev hi = some rh by rw [evB_congr fun y hy => hev y (operands_slice ho (.inr (.inr (.inl hy)))), hhi])
  obtain ⟨d, h3, h4, _⟩ := ht.und
  rw [hk] at h4; simp only [kOk] at h4; subst h4
  have hv : a.eval x = .string s := by simpa [Rep] using hs.ev e
  have hbd := run_bounds (P := P) (mx := none) (rm := none) w false bl bh (.inl ⟨rfl, rfl⟩) hc (Nat.le_refl _)
  refine ⟨.string (s.extract l hh'), ?_, by simp [Rep], by simp [T.ids]⟩
  simp only [execOp, ho, hv]
  refine run_v ?_
  simp only [Option.map_none] at hbd
  simp only [Instr.sliceAt, Sem.run_bind, run_underlying h3, Result.andThen_ok, Instr.slice, Option.map_none, Option.isSome_none, Bool.false_eq_true, if_false, hbd, Sem.run_pure]
end

end Go.Vw

/- The walk: a region's operations, one by one, over a state that is told. -/
import Derived.Test.YtdlnppcndcfikaaVw8
namespace Go.Vw
set_option linter.unusedVariables false
set_option linter.unusedSimpArgs false
open Go Go.RowKit

/-- A seat: its program and its table of types. -/
structure Env where
  P : Program
  ti : TypeId → TI
  ok : ∀ t, (ti t).k ≠ .no → TOk P t (ti t)
  sl : ∀ t e, (ti t).k = .slice e → (ti e).k ≠ .no
  ar : ∀ t n e, (ti t).k = .array n e → (ti e).k ≠ .no
  st : ∀ t fs, (ti t).k = .struct fs → ∀ f ∈ fs, (ti f.2).k ≠ .no

theorem Env.TOk (E : Env) {t : TypeId} (h : (E.ti t).k ≠ .no) : Vw.TOk E.P t (E.ti t) := E.ok t h

/-- Whether what is put is new, or stays. -/
def putL (h : Nat → Option (List T)) (S reads stay : List Nat) : List (Nat × List T) → Prop
  | [] => True
  | (i, _) :: l => (i ∈ stay ∨ (i ∉ S ∧ (i ∈ reads ∨ h i = none))) ∧ putL h S reads stay l

def putOk (σ : St) (S reads : List Nat) (e : Eff) : Prop := putL σ.h S reads e.stay e.puts

theorem putL_ok {h : Nat → Option (List T)} {S reads stay : List Nat} : ∀ {l : List (Nat × List T)}, putL h S reads stay l → ∀ p ∈ l, p.1 ∉ stay → p.1 ∉ S ∧ (p.1 ∉ reads → h p.1 = none)
  | (i, cs) :: l, hl, p, hp, hs => by
    simp only [putL] at hl
    rcases List.mem_cons.1 hp with rfl | hp
    · obtain ⟨h1, h2⟩ := hl.1.resolve_left hs
      exact ⟨h1, fun hr => h2.resolve_left hr⟩
    · exact putL_ok hl.2 p hp hs

/-- First this, then that: the walk looks into `x` alone, till it is told. -/
def bindO {α : Type} (x : Option α) (F : α → Prop) : Prop := ∃ a, x = some a ∧ F a
theorem bindO_some {α : Type} (a : α) (F : α → Prop) : bindO (some a) F = F a := by simp [bindO]
@[congr] theorem bindO_congr {α : Type} {x y : Option α} {F : α → Prop} (h : x = y) : bindO x F = bindO y F := by rw [h]
def condB (b : Bool) (p q : Prop) : Prop := if b then p else q
theorem condB_true (p q : Prop) : condB true p q = p := by simp [condB]
theorem condB_false (p q : Prop) : condB false p q = q := by simp [condB]
@[congr] theorem condB_congr {b c : Bool} {p q : Prop} (h : b = c) : condB b p q = condB c p q := by rw [h]

def cutC (lo hi mx : Option Int) (n : Nat) (F : Nat → Nat → Nat → Prop) : Prop :=
  (0 ≤ lo.getD 0 ∧ lo.getD 0 ≤ hi.getD n ∧ hi.getD n ≤ mx.getD n ∧ mx.getD n ≤ n ∧ (mx ≠ none → hi ≠ none)) ∧ bindO (some ((lo.getD 0).toNat, (hi.getD n).toNat, (mx.getD n).toNat)) fun r => F r.1 r.2.1 r.2.2

theorem cutC_ok {lo hi mx : Option Int} {n : Nat} {F : Nat → Nat → Nat → Prop} (h : cutC lo hi mx n F) : ∃ l h m, cutOk lo hi mx n l h m ∧ F l h m := by
  obtain ⟨⟨h1, h2, h3, h4, h5⟩, h6⟩ := h
  rw [bindO_some] at h6
  exact ⟨(lo.getD 0).toNat, (hi.getD n).toNat, (mx.getD n).toNat, ⟨by omega, by omega, by omega, by omega, by omega, by omega, h5⟩, h6⟩

/-- '==' and '!=' of what is no number. -/
def eqC (ti : TypeId → TI) (op : BinOp) (t : TypeId) (x y : Operand) (K : T → Prop) (p q : T) : Prop :=
  (op = .eql ∨ op = .neq) ∧ eqK p (ti t).k ∧ bindO (eqTo p q (isConstOp x || isConstOp y)) fun r => bindO (some (if op = .eql then r else !r)) fun r => K (.leaf (.bool r))

def binC (ti : TypeId → TI) (op : BinOp) (t : TypeId) (x y : Operand) (K : T → Prop) : T → T → Prop
  | .leaf (.int k a), .leaf (.int k' b) => (isShift op = true ∨ k = k') ∧ bindO (binI op k a b) fun r => r.1 ∧ K (.leaf r.2)
  | .leaf (.string a), .leaf (.string b) => bindO (binS op a b) fun r => r.1 ∧ K (.leaf r.2)
  | .leaf (.bool a), .leaf (.bool b) => (ti t).k = .bool ∧ (op = .eql ∨ op = .neq) ∧ bindO (some (if op = .eql then a == b else a != b)) fun r => K (.leaf (.bool r))
  | p, q => eqC ti op t x y K p q

/-- A part of cells, and on. -/
def partC (i : TI) (cs : List T) (off : Nat) (K : T → Prop) : Prop :=
  condB i.agg (off + i.size ≤ cs.length ∧ bindO (some (sub cs off i.size)) fun r => K (.agg r)) (bindO cs[off]? K)

theorem partC_ok {i : TI} {cs : List T} {off : Nat} {K : T → Prop} (h : partC i cs off K) : ∃ v, partOf i cs off v ∧ K v := by
  unfold partC condB at h
  unfold partOf
  split at h
  · rename_i hi
    rw [bindO_some] at h
    exact ⟨_, by rw [if_pos hi]; exact ⟨h.1, rfl⟩, h.2⟩
  · rename_i hi
    obtain ⟨v, h1, h2⟩ := h
    exact ⟨v, by rw [if_neg hi]; exact h1, h2⟩

def loadC (ti : TypeId → TI) (σ : St) (t : TypeId) (K : T → List Nat → Prop) : T → Prop
  | .addr id off => bindO (σ.h id) fun cs => partC (ti t) cs off fun v => K v [id]
  | .pt _ off cs => partC (ti t) cs off fun v => K v []
  | _ => False

def addrC (K : T → Prop) (fo : Nat) : T → Prop
  | .addr id off => bindO (some (off + fo)) fun r => K (.addr id r)
  | .pt g off cs => bindO (some (off + fo)) fun r => K (.pt g r cs)
  | _ => False

def fieldAddrC (ti : TypeId → TI) (f : Nat) (p : T) (K : T → Prop) : Vw.K → Prop
  | .struct fs => bindO fs[f]? fun r => (ti r.2).size ≠ 0 ∧ addrC K r.1 p
  | _ => False

def indexAddrC (ti : TypeId → TI) (n : Int) (K : T → Prop) : Vw.K → T → Prop
  | .array N el, .addr id off => (0 ≤ n ∧ n < N) ∧ bindO (some (off + n.toNat * (ti el).size)) fun r => K (.addr id r)
  | .array N el, .pt g off cs => (0 ≤ n ∧ n < N) ∧ bindO (some (off + n.toNat * (ti el).size)) fun r => K (.pt g r cs)
  | .slice el, .ref id m off N => (ti el).size = m ∧ (0 ≤ n ∧ n < N) ∧ bindO (some (off + n.toNat * m)) fun r => K (.addr id r)
  | .slice el, .sl m g N cs => (ti el).size = m ∧ (0 ≤ n ∧ n < N) ∧ bindO (some (n.toNat * m)) fun r => K (.pt g r cs)
  | _, _ => False

def indexC (ti : TypeId → TI) (n : Int) (K : T → Prop) : Vw.K → T → Prop
  | .array N el, .agg cs => (0 ≤ n ∧ n < N) ∧ partC (ti el) cs (n.toNat * (ti el).size) K
  | .str, .leaf (.string b) => 0 ≤ n ∧ bindO b[n.toNat]? fun c => K (.leaf (.int .u8 c.toNat))
  | _, _ => False

def sliceC (ti : TypeId → TI) (σ : St) (lo hi mx : Option Int) (nomx : Bool) (K : T → List Nat → Prop) : Vw.K → T → Prop
  | .slice el, .ref id m off n => (ti el).size = m ∧ cutC lo hi mx n fun l h _ => bindO (some (T.ref id m (off + l * m) (h - l))) fun v => K v []
  | .slice el, .sl m g n cs => (ti el).size = m ∧ cutC lo hi mx n fun l h mm => bindO (some (if mx ≠ none ∧ l = mm then T.e0 else .sl m g (h - l) (sub cs (l * m) ((h - l) * m)))) fun v => K v []
  | .slice _, .leaf (.slice none 0 0) => cutC lo hi mx 0 fun _ _ _ => K (.leaf (.slice none 0 0)) []
  | .array N el, .addr id off => bindO (σ.h id) fun cs => off + N * (ti el).size ≤ cs.length ∧ cutC lo hi mx N fun l h _ => bindO (some (T.ref id (ti el).size (off + l * (ti el).size) (h - l))) fun v => K v [id]
  | .str, .leaf (.string s) => nomx = true ∧ cutC lo hi none s.size fun l h _ => bindO (some (s.extract l h)) fun r => K (.leaf (.string r)) []
  | _, _ => False

/-- Cells that are bytes. -/
def bytesC (cs : List T) (K : List Int → Prop) : Prop := ∃ l, cs = bs l ∧ K l

theorem bytesC_bs (l : List Int) (K : List Int → Prop) : bytesC (bs l) K = K l := by
  have inj : ∀ a b : List Int, bs a = bs b → a = b := by
    intro a
    induction a with
    | nil => intro b h; cases b <;> simp_all [bs]
    | cons x a ih => intro b h; cases b with
      | nil => simp [bs] at h
      | cons y b => simp only [bs, List.map_cons, List.cons.injEq, T.leaf.injEq, Value.int.injEq, true_and] at h; rw [h.1, ih b h.2]
  simp only [bytesC, eq_iff_iff]
  exact ⟨fun ⟨l', h1, h2⟩ => by rw [inj _ _ h1]; exact h2, fun h => ⟨l, rfl, h⟩⟩
@[congr] theorem bytesC_congr {cs ds : List T} {K : List Int → Prop} (h : cs = ds) : bytesC cs K = bytesC ds K := by rw [h]

def isStr : T → Bool | .leaf (.string _) => true | _ => false

def convC (ti : TypeId → TI) (σ : St) (dst : Option Nat) (K : Eff → List Nat → Prop) : Vw.K → Vw.K → T → Prop
  | .int _, .int k', .leaf (.int _ n) => bindO (some (k'.wrap n)) fun r => K { val := .leaf (.int k' r) } []
  | .str, .str, .leaf (.string b) => K { val := .leaf (.string b) } []
  | .slice e, .str, p => (ti e).k = .int .u8 ∧ isStr p = false ∧ bindO (srcOf σ.h p) fun r => srcFits σ.h 1 p ∧ bytesC r.2 fun l => K { val := .leaf (.string (strOf l)) } p.ids
  | .str, .slice e, .leaf (.string b) => (ti e).k = .int .u8 ∧ bindO dst fun d => K { val := .ref d 1 0 b.size, puts := [(d, bs (bytesOf b))] } []
  | _, _, _ => False

def appendD (σ : St) (i : TI) (q : T) (d : Nat) (k : Nat) (cs : List T) (K : Eff → List Nat → Prop) : T → Prop
  | .leaf (.slice none 0 0) => k * i.bytes ≤ 140737488355328 ∧ d ∉ q.ids ∧ K { val := .ref d i.size 0 k, puts := [(d, cs)] } q.ids
  | .e0 => k * i.bytes ≤ 140737488355328 ∧ d ∉ q.ids ∧ K { val := .ref d i.size 0 k, puts := [(d, cs)] } q.ids
  | .ref id m off n => i.size = m ∧ bindO (σ.h id) fun c0 => off + n * m ≤ c0.length ∧ scalL cs = true ∧ (n + k) * i.bytes ≤ 140737488355328 ∧ (d = id ∨ d ∉ q.ids) ∧
      bindO (some (sub c0 off (n * m) ++ cs)) fun r => id ∉ idsL r ∧ K { val := .ref d m 0 (n + k), drops := [id], puts := [(d, r)] } (id :: q.ids)
  | _ => False

def strOrSlice : K → Bool | .slice _ => true | .str => true | _ => false

def appendC (ti : TypeId → TI) (σ : St) (u : TypeId) (p q : T) (dst : Option Nat) (K : Eff → List Nat → Prop) : Vw.K → Prop
  | .slice el => strOrSlice (ti u).k = true ∧ bindO dst fun d => bindO (srcOf σ.h q) fun r => srcFits σ.h (ti el).size q ∧ 0 < (ti el).bytes ∧ appendD σ (ti el) q d r.1 r.2 K p
  | _ => False

def copyC (ti : TypeId → TI) (σ : St) (q : T) (K : Eff → List Nat → Prop) : Vw.K → T → Prop
  | .slice el, .ref id m off n => (ti el).size = m ∧ bindO (σ.h id) fun c0 => off + n * m ≤ c0.length ∧ bindO (srcOf σ.h q) fun r => srcFits σ.h m q ∧ scalL r.2 = true ∧
      bindO (some (splice c0 off (r.2.take (min r.1 n * m)))) fun cs => bindO (some (min r.1 n)) fun j => K { val := .leaf (.int .i64 j), puts := [(id, cs)], stay := [id] } (id :: q.ids)
  | _, _ => False

def lenC (σ : St) (x : Operand) (K : Eff → List Nat → Prop) : Vw.K → Prop
  | .array n _ => K { val := .leaf (.int .i64 n) } []
  | .slice _ => bindO (σ.ev x) fun p => bindO (lenT p) fun n => isStr p = false ∧ K { val := .leaf (.int .i64 n) } []
  | .str => bindO (σ.ev x) fun p => bindO (lenT p) fun n => isStr p = true ∧ K { val := .leaf (.int .i64 n) } []
  | _ => False

def capC (K : Eff → List Nat → Prop) : Vw.K → T → Prop
  | .slice _, .leaf (.slice none 0 0) => K { val := .leaf (.int .i64 0) } []
  | _, _ => False

def minmaxC (mn : Bool) (K : Eff → List Nat → Prop) : T → T → Prop
  | .leaf (.int k p), .leaf (.int _ q) => bindO (some (if mn then (if q < p then q else p) else (if q > p then q else p))) fun r => K { val := .leaf (.int k r) } []
  | _, _ => False

/-- A builtin's call. -/
def builtinC (ti : TypeId → TI) (σ : St) (dst : Option Nat) (K : Eff → List Nat → Prop) : Builtin → List Operand → List TypeId → Prop
  | .len, [x], [t] => bindO (some (ti t).k) fun k => lenC σ x K k
  | .cap, [x], [t] => bindO (some (ti t).k) fun k => bindO (σ.ev x) fun p => capC K k p
  | .append, [x, y], [t, u] => bindO (σ.ev x) fun p => bindO (σ.ev y) fun q => bindO (some (ti t).k) fun k => appendC ti σ u p q dst K k
  | .copy, [x, y], [t, _] => bindO (σ.ev x) fun p => bindO (σ.ev y) fun q => bindO (some (ti t).k) fun k => copyC ti σ q K k p
  | .min, [x, y], _ => bindO (σ.ev x) fun p => bindO (σ.ev y) fun q => minmaxC true K p q
  | .max, [x, y], _ => bindO (σ.ev x) fun p => bindO (σ.ev y) fun q => minmaxC false K p q
  | _, _, _ => False

/-- A call of a function: by what it is known to do. -/
def callC (P : Program) (σ : St) (op : Op) (dst : Option Nat) (K : Eff → List Nat → Prop) : Prop := ∃ e reads, (∀ o : Oper, o.op = op → o.dst = dst → Acts P o σ.ev σ.h reads e) ∧ K e reads
@[congr] theorem callC_congr {P : Program} {σ : St} {op : Op} {dst : Option Nat} {K : Eff → List Nat → Prop} : callC P σ op dst K = callC P σ op dst K := rfl

def boolC (F : Bool → Prop) : T → Prop
  | .leaf (.bool b) => F b
  | _ => False
def intC (F : Int → Prop) : T → Prop
  | .leaf (.int _ n) => F n
  | _ => False
def tupC (F : List T → Prop) : T → Prop
  | .tup cs => F cs
  | _ => False
def aggC (F : List T → Prop) : T → Prop
  | .agg cs => F cs
  | _ => False

def buildC (E : Env) (t : TypeId) (ts : List (Nat × T)) (K : Eff → List Nat → Prop) : Vw.K → Prop
  | .struct fs => bindO (fillT (fun n => (fs[n]?).map fun f => (f.1, (E.ti f.2).size)) ((E.ti t).zero.map .leaf) ts) fun cs => K { val := .agg cs } []
  | .array _ el => bindO (fillT (fun n => some (n * (E.ti el).size, (E.ti el).size)) ((E.ti t).zero.map .leaf) ts) fun cs => K { val := .agg cs } []
  | _ => False

def buildSliceC (E : Env) (len : Nat) (ts : List (Nat × T)) (d : Nat) (K : Eff → List Nat → Prop) : Vw.K → Prop
  | .slice el => len * (E.ti el).size ≤ 16777216 ∧ bindO (fillT (fun n => some (n * (E.ti el).size, (E.ti el).size)) (zerosT (E.ti el).zero len) ts) fun cs => bindO (some (E.ti el).size) fun m => K { val := .ref d m 0 len, puts := [(d, cs)] } []
  | _ => False

def storeC (i : TI) (σ : St) (v : T) (K : Eff → List Nat → Prop) : T → Prop
  | .addr id off => bindO (σ.h id) fun cs => v.cellOk = true ∧ scalL v.cells = true ∧ v.cells.length = i.size ∧ off + v.cells.length ≤ cs.length ∧ bindO (some (splice cs off v.cells)) fun r => K { val := .dead, puts := [(id, r)], stay := [id] } [id]
  | _ => False

def unC (K : Eff → List Nat → Prop) : UnOp → T → Prop
  | .not, .leaf (.bool b) => K { val := .leaf (.bool !b) } []
  | .neg, .leaf (.int k n) => K { val := .leaf (.int k (k.wrap (0 - n))) } []
  | .xor, .leaf (.int k n) => K { val := .leaf (.int k (k.wrap (BitVec.ofInt k.bits (if k.signed then -1 else k.max) ^^^ BitVec.ofInt k.bits n).toNat)) } []
  | _, _ => False

def makeSliceC (E : Env) (n c : Int) (d : Nat) (K : Eff → List Nat → Prop) : Vw.K → Prop
  | .slice el => (0 ≤ n ∧ n ≤ c ∧ c < 9223372036854775808 ∧ ((E.ti el).bytes : Int) * c ≤ 281474976710656) ∧ bindO (some (zerosT (E.ti el).zero n.toNat)) fun cs => bindO (some (E.ti el).size) fun m => K { val := .ref d m 0 n.toNat, puts := [(d, cs)] } []
  | _ => False

def fieldC (E : Env) (f : Nat) (cs : List T) (K : Eff → List Nat → Prop) : Vw.K → Prop
  | .struct fs => bindO fs[f]? fun r => partC (E.ti r.2) cs r.1 fun v => K { val := v } []
  | _ => False

/-- What an operation does. -/
def act (E : Env) (σ : St) (dst : Option Nat) (K : Eff → List Nat → Prop) : Op → Prop
  | .move x => bindO (σ.ev x) fun t => K { val := t } []
  | .assign x => bindO (σ.ev x) fun t => K { val := t } []
  | .pick c x y => bindO (σ.ev c) fun p => boolC (fun b => condB b (bindO (σ.ev x) fun t => K { val := t } []) (bindO (σ.ev y) fun t => K { val := t } [])) p
  | .alloc t => (E.ti t).k ≠ .no ∧ bindO dst fun d => bindO (some ((E.ti t).zero.map .leaf)) fun cs => K { val := .addr d 0, puts := [(d, cs)] } []
  | .box _ x => bindO (σ.ev x) fun v => bindO dst fun d => v.cellOk = true ∧ bindO (some v.cells) fun cs => K { val := .addr d 0, puts := [(d, cs)] } []
  | .build t ps => bindO (evP σ.ev ps.toList) fun ts => bindO (some (E.ti t).k) fun k => buildC E t ts K k
  | .buildSlice t len ps => bindO (evP σ.ev ps.toList) fun ts => bindO dst fun d => bindO (some (E.ti t).k) fun k => buildSliceC E len ts d K k
  | .load t x => (E.ti t).k ≠ .no ∧ bindO (σ.ev x) fun p => loadC E.ti σ t (fun v r => K { val := v } r) p
  | .store t x y => (E.ti t).k ≠ .no ∧ bindO (σ.ev x) fun p => bindO (σ.ev y) fun v => storeC (E.ti t) σ v K p
  | .nilCheck x => bindO (σ.ev x) fun p => p.isPtr = true ∧ K { val := p } []
  | .binOp op t x y _ => bindO (σ.ev x) fun p => bindO (σ.ev y) fun q => binC E.ti op t x y (fun v => K { val := v } []) p q
  | .unOp op _ x => bindO (σ.ev x) fun p => unC K op p
  | .convert s d x => bindO (σ.ev x) fun p => bindO (some (E.ti s).k) fun ks => bindO (some (E.ti d).k) fun kd => convC E.ti σ dst K ks kd p
  | .makeInterface t x => (E.ti t).k.concrete = true ∧ bindO (σ.ev x) fun v => K { val := .iface t v } []
  | .makeFunc fn p q => bindO (evL σ.ev p.toList) fun ps => bindO (evL σ.ev q.toList) fun qs => K { val := .fn fn ps qs } []
  | .makeSlice t x y => bindO (σ.ev x) fun p => bindO (σ.ev y) fun q => intC (fun n => intC (fun c => bindO dst fun d => bindO (some (E.ti t).k) fun k => makeSliceC E n c d K k) q) p
  | .slice t x lo hi mx => bindO (σ.ev x) fun p => bindO (evB σ.ev lo) fun rl => bindO (evB σ.ev hi) fun rh => bindO (evB σ.ev mx) fun rm => bindO (some (E.ti t).k) fun k => sliceC E.ti σ rl rh rm mx.isNone (fun v r => K { val := v } r) k p
  | .fieldAddr s x f => bindO (σ.ev x) fun p => bindO (some (E.ti s).k) fun k => fieldAddrC E.ti f p (fun v => K { val := v } []) k
  | .field s x f => bindO (σ.ev x) fun p => aggC (fun cs => bindO (some (E.ti s).k) fun k => fieldC E f cs K k) p
  | .indexAddr t x y => bindO (σ.ev x) fun p => bindO (σ.ev y) fun q => intC (fun n => bindO (some (E.ti t).k) fun k => indexAddrC E.ti n (fun v => K { val := v } []) k p) q
  | .index t x y => bindO (σ.ev x) fun p => bindO (σ.ev y) fun q => intC (fun n => bindO (some (E.ti t).k) fun k => indexC E.ti n (fun v => K { val := v } []) k p) q
  | .extract x i => bindO (σ.ev x) fun p => tupC (fun cs => bindO cs[i]? fun v => K { val := v } []) p
  | .call { callee := .builtin b, args := xs, argTypes := ts } => builtinC E.ti σ dst K b xs.toList ts.toList
  | .call { callee := .value f, args := xs, argTypes := ts } => callC E.P σ (.call { callee := .value f, args := xs, argTypes := ts }) dst K
  | .call { callee := .invoke r m, args := xs, argTypes := ts } => callC E.P σ (.call { callee := .invoke r m, args := xs, argTypes := ts }) dst K
  | _ => False

theorem intC_ok {F : Int → Prop} {p : T} (h : intC F p) : ∃ k n, p = .leaf (.int k n) ∧ F n := by
  unfold intC at h; split at h
  · exact ⟨_, _, rfl, h⟩
  · exact h.elim
theorem boolC_ok {F : Bool → Prop} {p : T} (h : boolC F p) : ∃ n, p = .leaf (.bool n) ∧ F n := by
  unfold boolC at h; split at h
  · exact ⟨_, rfl, h⟩
  · exact h.elim
theorem tupC_ok {F : List T → Prop} {p : T} (h : tupC F p) : ∃ n, p = .tup n ∧ F n := by
  unfold tupC at h; split at h
  · exact ⟨_, rfl, h⟩
  · exact h.elim
theorem aggC_ok {F : List T → Prop} {p : T} (h : aggC F p) : ∃ n, p = .agg n ∧ F n := by
  unfold aggC at h; split at h
  · exact ⟨_, rfl, h⟩
  · exact h.elim

theorem ne_no {k k' : K} (h : k = k') (h' : k' ≠ .no) : k ≠ .no := h ▸ h'

theorem isStr_false {p : T} (h : isStr p = false) : ∀ s, p ≠ .leaf (.string s) := by
  rintro s rfl; simp [isStr] at h
theorem isStr_true {p : T} (h : isStr p = true) : ∃ s, p = .leaf (.string s) := by
  unfold isStr at h; split at h
  · exact ⟨_, rfl⟩
  · simp at h

set_option maxHeartbeats 1000000 in
theorem act_sound {E : Env} {σ : St} {o : Oper} {R : Eff → List Nat → Prop} (h : act E σ o.dst R o.op) : ∃ e reads, Acts E.P o σ.ev σ.h reads e ∧ R e reads := by
  obtain ⟨dst, op, type, pos, after, guard⟩ := o
  simp only at h
  cases op
  case move x => simp only [act] at h; obtain ⟨t, h1, h2⟩ := h; exact ⟨_, _, acts_move (.inl rfl) h1, h2⟩
  case assign x => simp only [act] at h; obtain ⟨t, h1, h2⟩ := h; exact ⟨_, _, acts_move (.inr rfl) h1, h2⟩
  case pick c x y =>
    simp only [act] at h; obtain ⟨p, h1, h2⟩ := h
    obtain ⟨b, rfl, h3⟩ := boolC_ok h2
    cases b with
    | true => rw [condB_true] at h3; obtain ⟨t, h4, h5⟩ := h3; exact ⟨_, _, acts_pick rfl h1 (by simpa using h4), h5⟩
    | false => rw [condB_false] at h3; obtain ⟨t, h4, h5⟩ := h3; exact ⟨_, _, acts_pick rfl h1 (by simpa using h4), h5⟩
  case alloc t =>
    simp only [act, bindO_some] at h; obtain ⟨h0, d, h1, h3⟩ := h; subst h1
    exact ⟨_, _, acts_alloc rfl (E.TOk h0) (by simp), h3⟩
  case box t x =>
    simp only [act, bindO_some] at h; obtain ⟨v, h1, d, h2, h3, h4⟩ := h; subst h2
    exact ⟨_, _, acts_box rfl h1 h3 (by simp), h4⟩
  case build t ps =>
    simp only [act, bindO_some] at h; obtain ⟨ts, h1, h2⟩ := h
    unfold buildC at h2
    split at h2
    · rename_i fs hk
      obtain ⟨cs, h3, h4⟩ := h2
      exact ⟨_, _, acts_buildS rfl (E.TOk (ne_no hk (by simp))) hk h1 (fun f hf => E.TOk (E.st _ _ hk f hf)) h3, h4⟩
    · rename_i n el hk
      obtain ⟨cs, h3, h4⟩ := h2
      exact ⟨_, _, acts_buildA rfl (E.TOk (ne_no hk (by simp))) hk (E.TOk (E.ar _ _ _ hk)) h1 h3, h4⟩
    · exact h2.elim
  case buildSlice t len ps =>
    simp only [act, bindO_some] at h; obtain ⟨ts, h1, d, h2, h3⟩ := h; subst h2
    unfold buildSliceC at h3
    split at h3
    · rename_i el hk
      obtain ⟨h4, cs, h5, h6⟩ := h3
      rw [bindO_some] at h6
      have he := E.TOk (E.sl _ _ hk)
      exact ⟨_, _, acts_buildSlice rfl (E.TOk (ne_no hk (by simp))) hk he h1 he.zlen h4 h5 (by simp), h6⟩
    · exact h3.elim
  case load t x =>
    simp only [act] at h; obtain ⟨h0, p, h1, h2⟩ := h
    unfold loadC at h2
    split at h2
    · obtain ⟨cs, h3, h2⟩ := h2
      obtain ⟨v, h4, h5⟩ := partC_ok h2
      exact ⟨_, _, acts_load rfl (E.TOk h0) h1 (by simp) h3 h4, h5⟩
    · obtain ⟨v, h4, h5⟩ := partC_ok h2
      exact ⟨_, _, acts_loadP rfl (E.TOk h0) h1 h4, h5⟩
    · exact h2.elim
  case store t x y =>
    simp only [act] at h; obtain ⟨h0, p, h1, v, h2, h3⟩ := h
    unfold storeC at h3
    split at h3
    · obtain ⟨cs, h3, h4, h5, h6, h7, h8⟩ := h3
      rw [bindO_some] at h8
      exact ⟨_, _, acts_store rfl (E.TOk h0) h1 h2 (by simp) h3 h4 h5 h6 h7, h8⟩
    · exact h3.elim
  case nilCheck x => simp only [act] at h; obtain ⟨p, h1, h2, h3⟩ := h; exact ⟨_, _, acts_nilCheck rfl h1 h2, h3⟩
  case binOp op t x y yt =>
    simp only [act] at h; obtain ⟨p, h1, q, h2, h3⟩ := h
    unfold binC at h3
    split at h3
    · obtain ⟨h4, ⟨C, v⟩, h5, h6, h7⟩ := h3; exact ⟨_, _, acts_binI rfl h1 h2 h4 h5 h6, h7⟩
    · obtain ⟨⟨C, v⟩, h5, h6, h7⟩ := h3; exact ⟨_, _, acts_binS rfl h1 h2 h5 h6, h7⟩
    · obtain ⟨h4, h5, h6⟩ := h3; rw [bindO_some] at h6; exact ⟨_, _, acts_binB rfl h1 h2 ⟨_, E.TOk (ne_no h4 (by simp)), h4⟩ h5, h6⟩
    · unfold eqC at h3
      obtain ⟨h4, h5, r, h6, h7⟩ := h3
      rw [bindO_some] at h7
      have hne : (E.ti t).k ≠ .no := by
        unfold eqK at h5
        split at h5
        · exact ne_no h5 (by simp)
        · exact ne_no h5 (by simp)
        · obtain ⟨e, h5⟩ := h5; exact ne_no h5 (by simp)
        · obtain ⟨_, e, h5⟩ := h5; exact ne_no h5 (by simp)
        · obtain ⟨e, h5⟩ := h5; exact ne_no h5 (by simp)
      exact ⟨_, _, acts_eqTo rfl h4 h1 h2 (E.TOk hne) h5 h6, h7⟩
  case unOp op t x =>
    simp only [act] at h; obtain ⟨p, h1, h2⟩ := h
    unfold unC at h2
    split at h2
    · exact ⟨_, _, acts_not rfl h1, h2⟩
    · exact ⟨_, _, acts_neg rfl h1, h2⟩
    · exact ⟨_, _, acts_com rfl h1, h2⟩
    · exact h2.elim
  case convert s d x =>
    simp only [act, bindO_some] at h; obtain ⟨p, h1, h2⟩ := h
    unfold convC at h2
    split at h2
    · rename_i k0 k' k n hs hd
      rw [bindO_some] at h2
      exact ⟨_, _, acts_convI rfl h1 ⟨_, _, E.TOk (ne_no hs (by simp)), hs⟩ ⟨_, E.TOk (ne_no hd (by simp)), hd⟩, h2⟩
    · rename_i b hs hd
      exact ⟨_, _, acts_convS rfl h1 ⟨_, E.TOk (ne_no hs (by simp)), hs⟩ ⟨_, E.TOk (ne_no hd (by simp)), hd⟩, h2⟩
    · rename_i e p hs hd
      obtain ⟨h3, h4, ⟨n, cs⟩, h5, h6, l, h8, h7⟩ := h2
      simp only at h8; subst h8
      exact ⟨_, _, acts_convBS rfl h1 (E.TOk (ne_no hs (by simp))) hs (E.TOk (ne_no h3 (by simp))) h3 (E.TOk (ne_no hd (by simp))) hd (fun j hj => hj) (isStr_false h4) h5 h6, h7⟩
    · rename_i e b hs hd
      obtain ⟨h3, dd, h5, h4⟩ := h2
      subst h5
      exact ⟨_, _, acts_convSB rfl h1 (E.TOk (ne_no hs (by simp))) hs (E.TOk (ne_no hd (by simp))) hd (E.TOk (ne_no h3 (by simp))) h3 (by simp), h4⟩
    · exact h2.elim
  case makeInterface t x =>
    simp only [act] at h; obtain ⟨h0, v, h1, h2⟩ := h
    exact ⟨_, _, acts_makeIface rfl h1 ⟨_, E.TOk (fun e => by rw [e] at h0; simp [K.concrete] at h0), h0⟩, h2⟩
  case makeFunc fn p q => simp only [act] at h; obtain ⟨ps, h1, qs, h2, h3⟩ := h; exact ⟨_, _, acts_makeFunc rfl h1 h2, h3⟩
  case makeSlice t x y =>
    simp only [act, bindO_some] at h
    obtain ⟨p, h1, q, h2, ha⟩ := h
    obtain ⟨k, n, e1, hb⟩ := intC_ok ha
    obtain ⟨k', c, e2, hc⟩ := intC_ok hb
    subst e1 e2
    obtain ⟨d, h3, h⟩ := hc
    subst h3
    unfold makeSliceC at h
    split at h
    · rename_i el hk
      obtain ⟨⟨h4, h5, h6, h7⟩, h8⟩ := h
      simp only [bindO_some] at h8
      have he := E.TOk (E.sl _ _ hk)
      exact ⟨_, _, acts_makeSlice rfl h1 h2 (E.TOk (ne_no hk (by simp))) hk he he.zlen h4 h5 h6 h7 (by simp), h8⟩
    · exact h.elim
  case slice t x lo hi mx =>
    simp only [act, bindO_some] at h; obtain ⟨p, h1, rl, h2, rh, h3, rm, h4, h5⟩ := h
    unfold sliceC at h5
    split at h5
    · rename_i el id m off n hk
      obtain ⟨h6, h7⟩ := h5
      obtain ⟨l, h, mm, h8, h9⟩ := cutC_ok h7
      rw [bindO_some] at h9
      exact ⟨_, _, acts_sliceRef rfl h1 h2 h3 h4 (E.TOk (ne_no hk (by simp))) hk (E.TOk (E.sl _ _ hk)) h6 h8, h9⟩
    · rename_i el m g n cs hk
      obtain ⟨h6, h7⟩ := h5
      obtain ⟨l, h, mm, h8, h9⟩ := cutC_ok h7
      rw [bindO_some] at h9
      exact ⟨_, _, acts_sliceSl rfl h1 h2 h3 h4 (E.TOk (ne_no hk (by simp))) hk (E.TOk (E.sl _ _ hk)) h6 h8, h9⟩
    · rename_i el hk
      obtain ⟨l, h, mm, h8, h9⟩ := cutC_ok h5
      have : l = 0 ∧ h = 0 ∧ mm = 0 := by obtain ⟨_, _, _, a, b, c, _⟩ := h8; omega
      obtain ⟨rfl, rfl, rfl⟩ := this
      exact ⟨_, _, acts_sliceNil rfl h1 h2 h3 h4 (E.TOk (ne_no hk (by simp))) hk (E.TOk (E.sl _ _ hk)) h8, h9⟩
    · rename_i N el id off hk
      obtain ⟨cs, h6, h7, h8⟩ := h5
      obtain ⟨l, h, mm, h8, h9⟩ := cutC_ok h8
      rw [bindO_some] at h9
      exact ⟨_, _, acts_sliceArr rfl h1 h2 h3 h4 (E.TOk (ne_no hk (by simp))) hk (E.TOk (E.ar _ _ _ hk)) (by simp) h6 h7 h8, h9⟩
    · rename_i s hk
      obtain ⟨h6, h7⟩ := h5
      obtain ⟨l, h, mm, h8, h9⟩ := cutC_ok h7
      rw [bindO_some] at h9
      cases mx with
      | some _ => simp at h6
      | none =>
        have hmm : mm = s.size := by obtain ⟨_, _, a, _⟩ := h8; simp at a; omega
        subst hmm
        exact ⟨_, _, acts_sliceStr rfl h1 h2 h3 (E.TOk (ne_no hk (by simp))) hk h8, h9⟩
    · exact h5.elim
  case fieldAddr s x f =>
    simp only [act, bindO_some] at h; obtain ⟨p, h1, h2⟩ := h
    unfold fieldAddrC at h2
    split at h2
    · rename_i fs hk
      obtain ⟨⟨fo, ft⟩, h3, h4, h5⟩ := h2
      have hft : (E.ti ft).k ≠ .no := E.st _ _ hk (fo, ft) (List.mem_of_getElem? h3)
      unfold addrC at h5
      split at h5
      · rw [bindO_some] at h5; exact ⟨_, _, acts_fieldAddr rfl h1 (E.TOk (ne_no hk (by simp))) hk h3 (E.TOk hft) h4, h5⟩
      · rw [bindO_some] at h5; exact ⟨_, _, acts_fieldAddrP rfl h1 (E.TOk (ne_no hk (by simp))) hk h3 (E.TOk hft) h4, h5⟩
      · exact h5.elim
    · exact h2.elim
  case field s x f =>
    simp only [act, bindO_some] at h; obtain ⟨p, h1, h⟩ := h
    obtain ⟨cs, rfl, h2⟩ := aggC_ok h
    unfold fieldC at h2
    split at h2
    · rename_i fs hk
      obtain ⟨⟨fo, ft⟩, h3, h2⟩ := h2
      obtain ⟨v, h4, h5⟩ := partC_ok h2
      have hft : (E.ti ft).k ≠ .no := E.st _ _ hk (fo, ft) (List.mem_of_getElem? h3)
      exact ⟨_, _, acts_field rfl h1 (E.TOk (ne_no hk (by simp))) hk h3 (E.TOk hft) h4, h5⟩
    · exact h2.elim
  case indexAddr t x y =>
    simp only [act, bindO_some] at h; obtain ⟨p, h1, q, h2, h⟩ := h
    obtain ⟨k, n, rfl, h3⟩ := intC_ok h
    unfold indexAddrC at h3
    split at h3
    · rename_i N el id off hk
      obtain ⟨⟨h4, h5⟩, h6⟩ := h3
      rw [bindO_some] at h6
      exact ⟨_, _, acts_indexArr rfl h1 h2 (E.TOk (ne_no hk (by simp))) hk (E.TOk (E.ar _ _ _ hk)) h4 h5, h6⟩
    · rename_i N el g off cs hk
      obtain ⟨⟨h4, h5⟩, h6⟩ := h3
      rw [bindO_some] at h6
      exact ⟨_, _, acts_indexArrP rfl h1 h2 (E.TOk (ne_no hk (by simp))) hk (E.TOk (E.ar _ _ _ hk)) h4 h5, h6⟩
    · rename_i el id m off N hk
      obtain ⟨h3, ⟨h4, h5⟩, h6⟩ := h3
      rw [bindO_some] at h6
      exact ⟨_, _, acts_indexRef rfl h1 h2 (E.TOk (ne_no hk (by simp))) hk (E.TOk (E.sl _ _ hk)) h3 h4 h5, h6⟩
    · rename_i el m g N cs hk
      obtain ⟨h3, ⟨h4, h5⟩, h6⟩ := h3
      rw [bindO_some] at h6
      exact ⟨_, _, acts_indexSl rfl h1 h2 (E.TOk (ne_no hk (by simp))) hk (E.TOk (E.sl _ _ hk)) h3 h4 h5, h6⟩
    · exact h3.elim
  case index t x y =>
    simp only [act, bindO_some] at h; obtain ⟨p, h1, q, h2, h⟩ := h
    obtain ⟨k, n, rfl, h3⟩ := intC_ok h
    unfold indexC at h3
    split at h3
    · rename_i N el cs hk
      obtain ⟨⟨h4, h5⟩, h3⟩ := h3
      obtain ⟨v, h6, h7⟩ := partC_ok h3
      exact ⟨_, _, acts_indexAgg rfl h1 h2 (E.TOk (ne_no hk (by simp))) hk (E.TOk (E.ar _ _ _ hk)) h4 h5 h6, h7⟩
    · rename_i b hk
      obtain ⟨h4, c, h5, h6⟩ := h3
      exact ⟨_, _, acts_indexStr rfl h1 h2 (E.TOk (ne_no hk (by simp))) hk h4 h5, h6⟩
    · exact h3.elim
  case extract x i =>
    simp only [act] at h; obtain ⟨p, h1, h⟩ := h
    obtain ⟨cs, rfl, v, h2, h3⟩ := tupC_ok h
    exact ⟨_, _, acts_extract rfl h1 h2, h3⟩
  case call c =>
    obtain ⟨cal, ⟨xs⟩, ⟨ts⟩⟩ := c
    cases cal with
    | value f => simp only [act] at h; obtain ⟨e, r, h1, h2⟩ := h; exact ⟨e, r, h1 _ rfl rfl, h2⟩
    | invoke r m => simp only [act] at h; obtain ⟨e, r, h1, h2⟩ := h; exact ⟨e, r, h1 _ rfl rfl, h2⟩
    | builtin b =>
      simp only [act] at h
      unfold builtinC at h
      split at h
      · rename_i x t
        rw [bindO_some] at h
        unfold lenC at h
        split at h
        · rename_i n el hk; exact ⟨_, _, acts_lenArr rfl (E.TOk (ne_no hk (by simp))) hk, h⟩
        · rename_i e hk
          obtain ⟨p, h1, n, h2, h3, h4⟩ := h
          exact ⟨_, _, acts_lenSrc rfl h1 (E.TOk (ne_no hk (by simp))) (.inl ⟨_, hk⟩) h2 ⟨fun ⟨s, e⟩ => absurd e (isStr_false h3 s), fun e => by rw [hk] at e; simp at e⟩, h4⟩
        · rename_i hk
          obtain ⟨p, h1, n, h2, h3, h4⟩ := h
          exact ⟨_, _, acts_lenSrc rfl h1 (E.TOk (ne_no hk (by simp))) (.inr hk) h2 ⟨fun _ => hk, fun _ => isStr_true h3⟩, h4⟩
        · exact h.elim
      · rw [bindO_some] at h
        obtain ⟨p, h1, h2⟩ := h
        unfold capC at h2
        split at h2
        · rename_i e hk
          exact ⟨_, _, acts_capNil rfl h1 (E.TOk (ne_no hk (by simp))) hk, h2⟩
        · exact h2.elim
      · obtain ⟨p, h1, q, h2, h3⟩ := h
        rw [bindO_some] at h3
        unfold appendC at h3
        split at h3
        · rename_i el hk
          obtain ⟨h4, d, h5, ⟨k, cs⟩, h6, h7, h8, h9⟩ := h3
          simp only at h9
          have he := E.TOk (E.sl _ _ hk)
          have h4' : ∀ u, strOrSlice (E.ti u).k = true → (∃ e, (E.ti u).k = .slice e) ∨ (E.ti u).k = .str := fun u hu => by
            unfold strOrSlice at hu
            split at hu <;> simp_all
          have hu : ∃ j, Vw.TOk E.P _ j ∧ ((∃ e, j.k = .slice e) ∨ j.k = .str) := ⟨_, E.TOk (by rcases h4' _ h4 with ⟨e, h4⟩ | h4 <;> exact ne_no h4 (by simp)), h4' _ h4⟩
          subst h5
          unfold appendD at h9
          split at h9
          · obtain ⟨g1, g2, g3⟩ := h9
            exact ⟨_, _, acts_append0 rfl h1 (.inl rfl) h2 (E.TOk (ne_no hk (by simp))) hk hu he he.zlen (fun j hj => hj) h6 h7 g1 h8 g2, g3⟩
          · obtain ⟨g1, g2, g3⟩ := h9
            exact ⟨_, _, acts_append0 rfl h1 (.inr rfl) h2 (E.TOk (ne_no hk (by simp))) hk hu he he.zlen (fun j hj => hj) h6 h7 g1 h8 g2, g3⟩
          · rename_i id m off n
            obtain ⟨g0, c0, g1, g2, g3, g4, g5, g6⟩ := h9
            rw [bindO_some] at g6
            obtain ⟨g6, g7⟩ := g6
            by_cases hdi : d = id
            · exact ⟨_, _, acts_append rfl h1 h2 (E.TOk (ne_no hk (by simp))) hk hu he g0 he.zlen (by simp) g1 g2 (fun j hj => List.mem_cons_of_mem _ hj) h6 (g0 ▸ h7) g3 g4 h8 (.inl hdi) g6, g7⟩
            · exact ⟨_, _, acts_append rfl h1 h2 (E.TOk (ne_no hk (by simp))) hk hu he g0 he.zlen (by simp) g1 g2 (fun j hj => List.mem_cons_of_mem _ hj) h6 (g0 ▸ h7) g3 g4 h8 (.inr (by simpa using ⟨hdi, g5.resolve_left hdi⟩)) g6, g7⟩
          · exact h9.elim
        · exact h3.elim
      · obtain ⟨p, h1, q, h2, h3⟩ := h
        rw [bindO_some] at h3
        unfold copyC at h3
        split at h3
        · rename_i el id m off n hk
          obtain ⟨h4, c0, g1, g2, ⟨k, cs⟩, g3, g4, g5, g6⟩ := h3
          simp only [bindO_some] at g6
          exact ⟨_, _, acts_copy rfl h1 h2 (E.TOk (ne_no hk (by simp))) hk (E.TOk (E.sl _ _ hk)) h4 (by simp) g1 g2 (fun j hj => List.mem_cons_of_mem _ hj) g3 g4 g5, g6⟩
        · exact h3.elim
      · obtain ⟨p, h1, q, h2, h3⟩ := h
        unfold minmaxC at h3
        split at h3
        · rw [bindO_some] at h3; exact ⟨_, _, acts_minmax rfl (.inl rfl) h1 h2, by simpa using h3⟩
        · exact h3.elim
      · obtain ⟨p, h1, q, h2, h3⟩ := h
        unfold minmaxC at h3
        split at h3
        · rw [bindO_some] at h3; exact ⟨_, _, acts_minmax rfl (.inr rfl) h1 h2, by simpa using h3⟩
        · exact h3.elim
      · exact h.elim
  all_goals simp only [act] at h
end Go.Vw

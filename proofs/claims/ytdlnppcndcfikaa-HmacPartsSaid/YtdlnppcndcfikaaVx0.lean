/- An executor that reckons: an operation, with what is told of it beside, gives the conditions under which it does what is said, and the effect. -/
import Derived.Test.YtdlnppcndcfikaaVw21
namespace Go.Vw
set_option linter.unusedVariables false
set_option linter.unusedSimpArgs false
open Go Go.RowKit

inductive AllP : List Prop → Prop where
  | nil : AllP []
  | cons {p : Prop} {ps : List Prop} (h : p) (t : AllP ps) : AllP (p :: ps)

theorem AllP.append {ps qs : List Prop} (h : AllP (ps ++ qs)) : AllP ps ∧ AllP qs := by
  induction ps with
  | nil => exact ⟨.nil, h⟩
  | cons p ps ih => cases h with | cons h t => exact ⟨.cons h (ih t).1, (ih t).2⟩

/-- What a call hands over, and what comes back. -/
structure CW where
  ids : List Nat := []
  S : List Nat := []
  M : List Nat := []
  R : T
  H' : List (Nat × List T) := []

/-- What is told beside an operation: its value, its object's cells, the object's number, bytes, an error's type and number, a call. -/
structure Wt where
  v : Option T := none
  c : Option (List T) := none
  id : Nat := 0
  sym : Bool := false
  b : List UInt8 := []
  er : Option (TypeId × Int) := none
  call : Option CW := none
  gv : Bool := false
  fl : List Nat := []
  fo : List Nat := []
  fv : Bool := false

abbrev Res1 := Option (List Prop × Eff × List Nat)

def outE (w : Wt) (e : Eff) (r : List Nat) : Res1 :=
  match w.v with
  | none => some ([], e, r)
  | some v => some ([e.val = v], { val := v, drops := e.drops, puts := e.puts, stay := e.stay }, r)
def addP (p : Prop) (x : Res1) : Res1 :=
  match x with
  | some (cs, e, r) => some (p :: cs, e, r)
  | none => none
def guardB (b : Bool) (x : Res1) : Res1 := match b with | true => x | false => none
def guardS (w : Wt) (b : Bool) (x : Res1) : Res1 := match w.sym with | true => addP (b = true) x | false => guardB b x
def guardN (w : Wt) (a b : Nat) (x : Res1) : Res1 := match w.sym with | true => addP (a ≤ b) x | false => guardB (Nat.ble a b) x
def withC (w : Wt) (c0 : List T) (F : List T → Res1) : Res1 :=
  match w.c with
  | none => F c0
  | some c => addP (c0 = c) (F c)
def bindX {α : Type} (x : Option α) (F : α → Res1) : Res1 := match x with | some a => F a | none => none

/-- A slice that is made: one's own, or given up at once. -/
def outG (w : Wt) (m n : Nat) (cs : List T) (r : List Nat) : Res1 :=
  match w.gv with
  | false => outE w { val := .ref w.id m 0 n, puts := [(w.id, cs)] } r
  | true => guardB (!memN w.id r) (addP (idsL cs = [] ∧ n * m ≤ cs.length) (outE w { val := .sl m .shr n (sub cs 0 (n * m)), puts := [(w.id, [])] } r))

/-- What is told is so. -/
def Ok (x : Res1) (A : Eff → List Nat → Prop) : Prop := ∀ cs e r, x = some (cs, e, r) → AllP cs → A e r

section
variable {A : Eff → List Nat → Prop} {w : Wt} {x : Res1}
theorem Ok.none : Ok none A := fun _ _ _ h => by simp at h
theorem Ok.some {e : Eff} {r : List Nat} (h : A e r) : Ok (some ([], e, r)) A := fun cs e' r' h' _ => by
  simp only [Option.some.injEq, Prod.mk.injEq] at h'; obtain ⟨_, rfl, rfl⟩ := h'; exact h
theorem Ok.outE {e : Eff} {r : List Nat} (h : A e r) : Ok (outE w e r) A := fun cs e' r' h' hc => by
  unfold Vw.outE at h'
  split at h'
  · simp only [Option.some.injEq, Prod.mk.injEq] at h'; obtain ⟨_, rfl, rfl⟩ := h'; exact h
  · simp only [Option.some.injEq, Prod.mk.injEq] at h'; obtain ⟨rfl, rfl, rfl⟩ := h'
    cases hc with | cons hp _ => subst hp; exact h
theorem Ok.guardB0 {b : Bool} (h : b = true → Ok x A) : Ok (Vw.guardB b x) A := by
  cases b with
  | true => exact h rfl
  | false => exact Ok.none
theorem Ok.addP {p : Prop} (h : p → Ok x A) : Ok (addP p x) A := fun cs e r h' hc => by
  unfold Vw.addP at h'
  split at h'
  · simp only [Option.some.injEq, Prod.mk.injEq] at h'; obtain ⟨rfl, rfl, rfl⟩ := h'
    cases hc with | cons hp ht => exact h hp _ _ _ rfl ht
  · simp at h'
theorem Ok.outG {P : Program} {o : Oper} {ev : Operand → Option T} {h : Nat → Option (List T)} {m n : Nat} {cs : List T} {r : List Nat} (hA : Acts P o ev h r { val := .ref w.id m 0 n, puts := [(w.id, cs)] }) : Ok (outG w m n cs r) (fun e r => Acts P o ev h r e) := by
  unfold Vw.outG
  split
  · exact Ok.outE hA
  · refine Ok.guardB0 fun hm => Ok.addP fun hc => Ok.outE ?_
    exact hA.give (fun hq => by rw [memN_iff.2 hq] at hm; simp at hm) hc.1 hc.2
theorem Ok.guardB {b : Bool} (h : b = true → Ok x A) : Ok (guardB b x) A := by
  cases b with
  | true => exact h rfl
  | false => exact Ok.none
theorem Ok.guardS {b : Bool} (h : b = true → Ok x A) : Ok (guardS w b x) A := by
  unfold Vw.guardS; split
  · exact Ok.addP h
  · exact Ok.guardB h
theorem Ok.guardN {a b : Nat} (h : a ≤ b → Ok x A) : Ok (guardN w a b x) A := by
  unfold Vw.guardN; split
  · exact Ok.addP h
  · exact Ok.guardB fun e => h (Nat.le_of_ble_eq_true e)
theorem Ok.withC {c0 : List T} {F : List T → Res1} (h : Ok (F c0) A) : Ok (withC w c0 F) A := by
  unfold Vw.withC; split
  · exact h
  · exact Ok.addP fun e => by subst e; exact h
theorem Ok.bindX {α : Type} {x : Option α} {F : α → Res1} (h : ∀ a, x = .some a → Ok (F a) A) : Ok (bindX x F) A := by
  cases x with
  | none => exact Ok.none
  | some a => exact h a rfl
end

def partX (w : Wt) (i : TI) (cs : List T) (off : Nat) (r : List Nat) : Res1 :=
  match w.v with
  | some v => some ([partOf i cs off v], { val := v }, r)
  | none =>
    match i.agg with
    | true => guardB (Nat.ble (off + i.size) cs.length) (some ([], { val := .agg (sub cs off i.size) }, r))
    | false => bindX cs[off]? fun v => some ([], { val := v }, r)

theorem Ok.partX {w : Wt} {i : TI} {cs : List T} {off : Nat} {r : List Nat} {A : Eff → List Nat → Prop} (h : ∀ v, partOf i cs off v → A { val := v } r) : Ok (partX w i cs off r) A := by
  unfold Vw.partX
  split
  · rename_i v _
    exact fun cs' e' r' h' hc => by
      simp only [Option.some.injEq, Prod.mk.injEq] at h'; obtain ⟨rfl, rfl, rfl⟩ := h'
      cases hc with | cons hp _ => exact h _ hp
  · split
    · rename_i ha
      exact Ok.guardB fun e => Ok.some (h _ (by unfold partOf; rw [if_pos ha]; exact ⟨Nat.le_of_ble_eq_true e, rfl⟩))
    · rename_i ha
      exact Ok.bindX fun v e => Ok.some (h _ (by unfold partOf; rw [if_neg (by simp [ha])]; exact e))

/-! ### The operations -/

def eqX (E : Env) (w : Wt) (op : BinOp) (t : TypeId) (c : Bool) (p q : T) : Res1 :=
  match op with
  | .eql => bindX (eqTo p q c) fun r => addP (eqK p (E.ti t).k) (outE w { val := .leaf (.bool r) } [])
  | .neq => bindX (eqTo p q c) fun r => addP (eqK p (E.ti t).k) (outE w { val := .leaf (.bool !r) } [])
  | _ => none

def aggX (E : Env) (w : Wt) (op : BinOp) (t : TypeId) (cs ds : List T) : Res1 :=
  match eqTy E 16 t, (E.ti t).agg, E.P.eqGuardType E.P.depth t, (match op with | .eql | .neq => true | _ => false) with
  | some ks, true, false, true => match w.v with
    | some (.leaf (.bool r)) => some ([(eqL ks cs ds).map (eqV op) = some r], { val := .leaf (.bool r) }, [])
    | _ => bindX (eqL ks cs ds) fun r => some ([], { val := .leaf (.bool (eqV op r)) }, [])
  | _, _, _, _ => none

def binX (E : Env) (w : Wt) (op : BinOp) (t : TypeId) (c : Bool) : T → T → Res1
  | .agg cs, .agg ds => aggX E w op t cs ds
  | .leaf (.int k a), .leaf (.int k' b) => guardB (isShift op || decide (k = k')) (bindX (binI op k a b) fun r => addP r.1 (outE w { val := .leaf r.2 } []))
  | .leaf (.string a), .leaf (.string b) => bindX (binS op a b) fun r => addP r.1 (outE w { val := .leaf r.2 } [])
  | .leaf (.bool a), .leaf (.bool b) =>
    match (E.ti t).k, op with
    | .bool, .eql => outE w { val := .leaf (.bool (a == b)) } []
    | .bool, .neq => outE w { val := .leaf (.bool (a != b)) } []
    | _, _ => none
  | p, q => eqX E w op t c p q

/-- '==' and '!=' of an error that is a number, and nil. -/
def erX (E : Env) (w : Wt) (op : BinOp) (t : TypeId) (c : Bool) (p q : T) (ty : TypeId) (n : Int) : Res1 :=
  match (E.ti t).k, c with
  | .iface, true =>
    match op with
    | .eql => addP (p = er ty n ∧ q = .leaf .nilIface) (outE w { val := .leaf (.bool (decide (n = 0))) } [])
    | .neq => addP (p = er ty n ∧ q = .leaf .nilIface) (outE w { val := .leaf (.bool !decide (n = 0)) } [])
    | _ => none
  | _, _ => none

def unX (w : Wt) : UnOp → T → Res1
  | .not, .leaf (.bool b) => outE w { val := .leaf (.bool !b) } []
  | .neg, .leaf (.int k n) => outE w { val := .leaf (.int k (k.wrap (0 - n))) } []
  | .xor, .leaf (.int k n) => outE w { val := .leaf (.int k (k.wrap (BitVec.ofInt k.bits (if k.signed then -1 else k.max) ^^^ BitVec.ofInt k.bits n).toNat)) } []
  | _, _ => none

def fitsX (w : Wt) (h : Nat → Option (List T)) (m : Nat) (q : T) (x : Res1) : Res1 :=
  match q with
  | .sl m' _ _ _ => guardB (Nat.beq m' m) x
  | .ref id m' off n => guardB (Nat.beq m' m) (bindX (h id) fun cs => guardN w (off + n * m) cs.length x)
  | .leaf (.string _) => guardB (Nat.beq m 1) x
  | _ => x

abbrev u8s (l : List UInt8) : List T := l.map fun c => .leaf (.int .u8 c.toNat)
def sOf (l : List UInt8) : ByteArray := ⟨l.toArray⟩

theorem u8s_bs (l : List UInt8) : u8s l = bs (l.map fun c => (c.toNat : Int)) := by
  simp [u8s, bs, Function.comp_def]
theorem strOf_u8s (l : List UInt8) : strOf (l.map fun c => (c.toNat : Int)) = sOf l := by
  simp [strOf, sOf, Function.comp_def]

def convX (E : Env) (w : Wt) (σ : St) : K → K → T → Res1
  | .int _, .int k', .leaf (.int _ n) => outE w { val := .leaf (.int k' (k'.wrap n)) } []
  | .str, .str, .leaf (.string b) => outE w { val := .leaf (.string b) } []
  | .slice e, .str, p =>
    match (E.ti e).k, isStr p with
    | .int .u8, false => bindX (srcOf σ.h p) fun r => fitsX w σ.h 1 p (addP (r.2 = u8s w.b) (outE w { val := .leaf (.string (sOf w.b)) } p.ids))
    | _, _ => none
  | .str, .slice e, .leaf (.string b) =>
    match (E.ti e).k with
    | .int .u8 => withC w (bs (bytesOf b)) fun cs => outG w 1 b.size cs []
    | _ => none
  | _, _, _ => none

def convY (E : Env) (w : Wt) (σ : St) (s d : TypeId) (p : T) : Res1 :=
  match Nat.beq s d, (E.ti s).k, p with
  | true, .slice e, .ref id m off n =>
    match (E.ti e).k with
    | .int .u8 => guardB (Nat.blt 0 m && Nat.blt 0 n) (bindX (σ.h id) fun cs =>
      match w.gv with
      | true => addP (idsL cs = [] ∧ off + n * m ≤ cs.length) (outE w { val := .sl m .shr n (sub cs off (n * m)), drops := [id] } [id])
      | false => some ([], { val := .ref id m off n, puts := [(id, cs)], stay := [id] }, [id]))
    | _ => none
  | _, _, _ => convX E w σ (E.ti s).k (E.ti d).k p

def cutX (lo hi mx : Option Int) (n : Nat) (F : Nat → Nat → Nat → Res1) : Res1 :=
  addP (0 ≤ lo.getD 0 ∧ lo.getD 0 ≤ hi.getD n ∧ hi.getD n ≤ mx.getD n ∧ mx.getD n ≤ n) (guardB (mx.isNone || hi.isSome) (F (lo.getD 0).toNat (hi.getD n).toNat (mx.getD n).toNat))

theorem Ok.cutX {lo hi mx : Option Int} {n : Nat} {F : Nat → Nat → Nat → Res1} {A : Eff → List Nat → Prop} (h : ∀ l hh m, cutOk lo hi mx n l hh m → Ok (F l hh m) A) : Ok (cutX lo hi mx n F) A := by
  refine Ok.addP fun ⟨h1, h2, h3, h4⟩ => Ok.guardB fun h5 => h _ _ _ ⟨by omega, by omega, by omega, by omega, by omega, by omega, fun hm => ?_⟩
  cases mx with
  | none => simp at hm
  | some m => intro e; subst e; simp at h5

def sliceX (E : Env) (w : Wt) (σ : St) (lo hi mx : Option Int) (nomx : Bool) : K → T → Res1
  | .slice el, .ref id m off n => guardB (Nat.beq (E.ti el).size m) (cutX lo hi mx n fun l h _ => outE w { val := .ref id m (off + l * m) (h - l) } [])
  | .slice el, .sl m g n cs => guardB (Nat.beq (E.ti el).size m) (cutX lo hi mx n fun l h mm => outE w { val := if mx ≠ none ∧ l = mm then T.e0 else .sl m g (h - l) (sub cs (l * m) ((h - l) * m)) } [])
  | .slice _, .leaf (.slice none 0 0) => cutX lo hi mx 0 fun _ _ _ => outE w { val := .leaf (.slice none 0 0) } []
  | .array N el, .addr id off => bindX (σ.h id) fun cs => guardN w (off + N * (E.ti el).size) cs.length (cutX lo hi mx N fun l h _ => outE w { val := .ref id (E.ti el).size (off + l * (E.ti el).size) (h - l) } [id])
  | .str, .leaf (.string s) => guardB nomx (cutX lo hi none s.size fun l h _ => outE w { val := .leaf (.string (s.extract l h)) } [])
  | _, _ => none

def addrX (w : Wt) (fo : Nat) : T → Res1
  | .addr id off => outE w { val := .addr id (off + fo) } []
  | .pt g off cs => outE w { val := .pt g (off + fo) cs } []
  | _ => none

def indexAddrX (E : Env) (w : Wt) (n : Int) : K → T → Res1
  | .array N el, .addr id off => addP (0 ≤ n ∧ n < N) (outE w { val := .addr id (off + n.toNat * (E.ti el).size) } [])
  | .array N el, .pt g off cs => addP (0 ≤ n ∧ n < N) (outE w { val := .pt g (off + n.toNat * (E.ti el).size) cs } [])
  | .slice el, .ref id m off N => guardB (Nat.beq (E.ti el).size m) (addP (0 ≤ n ∧ n < N) (outE w { val := .addr id (off + n.toNat * m) } []))
  | .slice el, .sl m g N cs => guardB (Nat.beq (E.ti el).size m) (addP (0 ≤ n ∧ n < N) (outE w { val := .pt g (n.toNat * m) cs } []))
  | _, _ => none

def indexX (E : Env) (w : Wt) (n : Int) : K → T → Res1
  | .array N el, .agg cs => addP (0 ≤ n ∧ n < N) (partX w (E.ti el) cs (n.toNat * (E.ti el).size) [])
  | .str, .leaf (.string b) =>
    match w.b with
    | [c] => addP (0 ≤ n ∧ b[n.toNat]? = some c) (some ([], { val := .leaf (.int .u8 c.toNat) }, []))
    | _ => none
  | _, _ => none

def fillX (w : Wt) (place : Nat → Option (Nat × Nat)) (c0 : List T) (ts : List (Nat × T)) (F : List T → Res1) : Res1 :=
  match w.c with
  | some cs => addP (fillT place c0 ts = some cs) (F cs)
  | none => bindX (fillT place c0 ts) F

theorem Ok.fillX {w : Wt} {place : Nat → Option (Nat × Nat)} {c0 : List T} {ts : List (Nat × T)} {F : List T → Res1} {A : Eff → List Nat → Prop} (h : ∀ cs, fillT place c0 ts = .some cs → Ok (F cs) A) : Ok (fillX w place c0 ts F) A := by
  unfold Vw.fillX; split
  · exact Ok.addP fun e => h _ e
  · exact Ok.bindX h

def buildX (E : Env) (w : Wt) (t : TypeId) (ts : List (Nat × T)) : K → Res1
  | .struct fs => fillX w (fun n => (fs[n]?).map fun f => (f.1, (E.ti f.2).size)) ((E.ti t).zero.map .leaf) ts fun cs => outE w { val := .agg cs } []
  | .array _ el => fillX w (fun n => some (n * (E.ti el).size, (E.ti el).size)) ((E.ti t).zero.map .leaf) ts fun cs => outE w { val := .agg cs } []
  | _ => none

def storeX (w : Wt) (i : TI) (σ : St) (v : T) : T → Res1
  | .addr id off => bindX (σ.h id) fun cs => guardB v.cellOk (guardS w (scalL v.cells) (guardN w v.cells.length i.size (guardN w i.size v.cells.length (guardN w (off + v.cells.length) cs.length
      (withC w (splice cs off v.cells) fun r => some ([], { val := .dead, puts := [(id, r)], stay := [id] }, [id]))))))
  | _ => none

def memNot (w : Wt) (n : Nat) (l : List Nat) (x : Res1) : Res1 := match w.sym with | true => addP (memN n l = false) x | false => guardB (!memN n l) x
theorem Ok.memNot {w : Wt} {n : Nat} {l : List Nat} {x : Res1} {A : Eff → List Nat → Prop} (h : n ∉ l → Ok x A) : Ok (memNot w n l x) A := by
  have k : memN n l = false → n ∉ l := fun e hm => by rw [memN_iff.2 hm] at e; simp at e
  unfold Vw.memNot; split
  · exact Ok.addP fun e => h (k e)
  · exact Ok.guardB fun e => h (k (by simpa using e))

def isIntK : K → Bool | .int _ => true | _ => false
theorem isIntK_ok {k : K} (h : isIntK k = true) : ∃ i, k = .int i := by cases k <;> simp [isIntK] at h; exact ⟨_, rfl⟩
def appMakeX (E : Env) (w : Wt) (u : TypeId) (p q : T) : K → Res1
  | .slice el => guardB (isIntK (E.ti u).k && Nat.blt 0 (E.ti el).bytes)
      (match p, q with
      | .leaf (.slice none 0 0), .leaf (.int _ n) => addP (0 ≤ n ∧ n * ((E.ti el).bytes : Int) ≤ 140737488355328) (withC w (zerosT (E.ti el).zero n.toNat) fun cs => outG w (E.ti el).size n.toNat cs [])
      | .e0, .leaf (.int _ n) => addP (0 ≤ n ∧ n * ((E.ti el).bytes : Int) ≤ 140737488355328) (withC w (zerosT (E.ti el).zero n.toNat) fun cs => outG w (E.ti el).size n.toNat cs [])
      | _, _ => none)
  | _ => none

def appendX (E : Env) (w : Wt) (σ : St) (u : TypeId) (p q : T) : K → Res1
  | .slice el => guardB (strOrSlice (E.ti u).k && Nat.blt 0 (E.ti el).bytes) (bindX (srcOf σ.h q) fun r => fitsX w σ.h (E.ti el).size q
      (match p with
      | .leaf (.slice none 0 0) => addP (r.1 * (E.ti el).bytes ≤ 140737488355328) (guardB (!memN w.id q.ids) (withC w r.2 fun cs => outG w (E.ti el).size r.1 cs q.ids))
      | .e0 => addP (r.1 * (E.ti el).bytes ≤ 140737488355328) (guardB (!memN w.id q.ids) (withC w r.2 fun cs => outG w (E.ti el).size r.1 cs q.ids))
      | .ref id m off n => guardB (Nat.beq (E.ti el).size m) (bindX (σ.h id) fun c0 => guardN w (off + n * m) c0.length (guardS w (scalL r.2) (addP ((n + r.1) * (E.ti el).bytes ≤ 140737488355328)
          (guardB (Nat.beq w.id id || !memN w.id (id :: q.ids)) (withC w (sub c0 off (n * m) ++ r.2) fun cs => memNot w id (idsL cs)
            (outE w { val := .ref w.id m 0 (n + r.1), drops := [id], puts := [(w.id, cs)] } (id :: q.ids)))))))
      | _ => none))
  | _ => none

def copyX (E : Env) (w : Wt) (σ : St) (q : T) : K → T → Res1
  | .slice el, .ref id m off n => guardB (Nat.beq (E.ti el).size m) (bindX (σ.h id) fun c0 => guardN w (off + n * m) c0.length (bindX (srcOf σ.h q) fun r => fitsX w σ.h m q (guardS w (scalL r.2)
      (withC w (splice c0 off (r.2.take (min r.1 n * m))) fun cs => outE w { val := .leaf (.int .i64 (min r.1 n : Nat)), puts := [(id, cs)], stay := [id] } (id :: q.ids)))))
  | _, _ => none

def lenX (w : Wt) (σ : St) (x : Operand) : K → Res1
  | .array n _ => outE w { val := .leaf (.int .i64 n) } []
  | .slice _ => bindX (σ.ev x) fun p => bindX (lenT p) fun n => guardB (!isStr p) (outE w { val := .leaf (.int .i64 n) } [])
  | .str => bindX (σ.ev x) fun p => bindX (lenT p) fun n => guardB (isStr p) (outE w { val := .leaf (.int .i64 n) } [])
  | _ => none

def capX (w : Wt) : K → T → Res1
  | .slice _, .leaf (.slice none 0 0) => outE w { val := .leaf (.int .i64 0) } []
  | _, _ => none

def minmaxX (w : Wt) (mn : Bool) : T → T → Res1
  | .leaf (.int k p), .leaf (.int _ q) =>
    match mn with
    | true => outE w { val := .leaf (.int k (if q < p then q else p)) } []
    | false => outE w { val := .leaf (.int k (if q > p then q else p)) } []
  | _, _ => none

def builtinX (E : Env) (w : Wt) (σ : St) : Builtin → List Operand → List TypeId → Res1
  | .len, [x], [t] => lenX w σ x (E.ti t).k
  | .cap, [x], [t] => bindX (σ.ev x) fun p => capX w (E.ti t).k p
  | .append, [x, y], [t, u] => bindX (σ.ev x) fun p => bindX (σ.ev y) fun q =>
    match isIntK (E.ti u).k with
    | true => appMakeX E w u p q (E.ti t).k
    | false => appendX E w σ u p q (E.ti t).k
  | .copy, [x, y], [t, _] => bindX (σ.ev x) fun p => bindX (σ.ev y) fun q => copyX E w σ q (E.ti t).k p
  | .min, [x, y], _ => bindX (σ.ev x) fun p => bindX (σ.ev y) fun q => minmaxX w true p q
  | .max, [x, y], _ => bindX (σ.ev x) fun p => bindX (σ.ev y) fun q => minmaxX w false p q
  | _, _, _ => none

/-! ### Calls -/

def takeH (h : Nat → Option (List T)) : List Nat → Option (List (Nat × List T))
  | [] => some []
  | i :: l => match h i, takeH h l with | some cs, some r => some ((i, cs) :: r) | _, _ => none

def subN : List Nat → List Nat → Bool
  | [], _ => true
  | n :: l, m => memN n m && subN l m

theorem subN_spec : ∀ {l m : List Nat}, subN l m = true → ∀ i ∈ l, i ∈ m
  | n :: l, m, h, i, hi => by
    simp only [subN, Bool.and_eq_true] at h
    rcases List.mem_cons.1 hi with rfl | hi
    · exact memN_iff.1 h.1
    · exact subN_spec h.2 i hi

def closedP (ids : List Nat) : List (Nat × List T) → Res1 → Res1
  | [], x => x
  | (_, cs) :: l, x => addP (subN (idsL cs) ids = true) (closedP ids l x)

def noBP : List (Nat × List T) → Res1 → Res1
  | [], x => x
  | (_, cs) :: l, x => addP (noBL cs = true) (noBP l x)

def noBX (M : List Nat) (R : T) (H' : List (Nat × List T)) (x : Res1) : Res1 :=
  match M with
  | [] => x
  | _ => addP (R.noB = true) (noBP H' x)

theorem Ok.closedP {ids : List Nat} {x : Res1} {A : Eff → List Nat → Prop} : ∀ {H : List (Nat × List T)}, ((∀ p ∈ H, ∀ j ∈ idsL p.2, j ∈ ids) → Ok x A) → Ok (closedP ids H x) A
  | [], h => h (by simp)
  | (i, cs) :: l, h => Ok.addP fun e => Ok.closedP (H := l) fun hl => h fun p hp => by
      rcases List.mem_cons.1 hp with rfl | hp
      · exact subN_spec e
      · exact hl p hp

theorem Ok.noBP {x : Res1} {A : Eff → List Nat → Prop} : ∀ {H : List (Nat × List T)}, ((∀ p ∈ H, noBL p.2 = true) → Ok x A) → Ok (noBP H x) A
  | [], h => h (by simp)
  | (i, cs) :: l, h => Ok.addP fun e => Ok.noBP (H := l) fun hl => h fun p hp => by
      rcases List.mem_cons.1 hp with rfl | hp
      · exact e
      · exact hl p hp

theorem Ok.noBX {M : List Nat} {R : T} {H' : List (Nat × List T)} {x : Res1} {A : Eff → List Nat → Prop} (h : (M = [] ∨ (R.noB = true ∧ ∀ q ∈ H', noBL q.2 = true)) → Ok x A) : Ok (noBX M R H' x) A := by
  cases M with
  | nil => exact h (.inl rfl)
  | cons m M => exact Ok.addP fun e => Ok.noBP fun e' => h (.inr ⟨e, e'⟩)

theorem takeH_spec {h : Nat → Option (List T)} : ∀ {l : List Nat} {H : List (Nat × List T)}, takeH h l = some H → H.map (·.1) = l ∧ ∀ i cs, look H i = some cs → h i = some cs
  | [], H, e => by simp only [takeH, Option.some.injEq] at e; subst e; exact ⟨rfl, fun i cs e => by simp [look] at e⟩
  | i :: l, H, e => by
    simp only [takeH] at e
    split at e
    · rename_i cs r e1 e2
      injection e with e; subst e
      obtain ⟨h1, h2⟩ := takeH_spec e2
      refine ⟨by simp [h1], fun j cs' e => ?_⟩
      simp only [look] at e
      split at e
      · rename_i hj; subst hj; rw [e1]; exact e
      · exact h2 j cs' e
    · simp at e

/-- What is handed over: what may be read alone is lent. -/
def snapX (h : Nat → Option (List T)) (M : List Nat) (ts : List T) : List T := match M with | [] => ts | _ => snapL h M ts
theorem snapX_eq (h : Nat → Option (List T)) (M : List Nat) (ts : List T) : snapX h M ts = snapL h M ts := by
  cases M with
  | nil => exact (snapL_nil h ts).symm
  | cons m M => rfl
def snapP (h : Nat → Option (List T)) (M : List Nat) : List T → Res1 → Res1
  | [], x => x
  | t :: ts, x =>
    match t with
    | .ref id m o n =>
      match memN id M with
      | true => bindX (h id) fun cs => addP (idsL cs = []) (addP (o + n * m ≤ cs.length) (snapP h M ts x))
      | false => snapP h M ts x
    | .addr id _ =>
      match memN id M with
      | true => bindX (h id) fun cs => addP (idsL cs = []) (snapP h M ts x)
      | false => snapP h M ts x
    | .dead | .leaf _ | .e0 | .sl .. | .pt .. => snapP h M ts x
    | t => addP (T.snapOk h M t) (snapP h M ts x)
theorem Ok.snapP {h : Nat → Option (List T)} {M : List Nat} {x : Res1} {A : Eff → List Nat → Prop} : ∀ {ts : List T}, (snapOkL h M ts → Ok x A) → Ok (snapP h M ts x) A
  | [], k => k trivial
  | t :: ts, k => by
    have no : ∀ {id : Nat}, memN id M = false → id ∉ M := fun e hm => by rw [memN_iff.2 hm] at e; simp at e
    cases t with
    | ref id m o n =>
      simp only [Vw.snapP]
      split
      · exact Ok.bindX fun cs hcs => Ok.addP fun h1 => Ok.addP fun h2 => Ok.snapP fun hr => k ⟨fun _ => ⟨cs, hcs, h1, h2⟩, hr⟩
      · rename_i e; exact Ok.snapP fun hr => k ⟨fun hm => (no e hm).elim, hr⟩
    | addr id o =>
      simp only [Vw.snapP]
      split
      · exact Ok.bindX fun cs hcs => Ok.addP fun h1 => Ok.snapP fun hr => k ⟨fun _ => ⟨cs, hcs, h1⟩, hr⟩
      · rename_i e; exact Ok.snapP fun hr => k ⟨fun hm => (no e hm).elim, hr⟩
    | dead => exact Ok.snapP (ts := ts) fun hr => k ⟨trivial, hr⟩
    | leaf v => exact Ok.snapP (ts := ts) fun hr => k ⟨trivial, hr⟩
    | e0 => exact Ok.snapP (ts := ts) fun hr => k ⟨trivial, hr⟩
    | sl m g n cs => exact Ok.snapP (ts := ts) fun hr => k ⟨trivial, hr⟩
    | pt g o cs => exact Ok.snapP (ts := ts) fun hr => k ⟨trivial, hr⟩
    | agg cs => exact Ok.addP fun h1 => Ok.snapP fun hr => k ⟨h1, hr⟩
    | tup cs => exact Ok.addP fun h1 => Ok.snapP fun hr => k ⟨h1, hr⟩
    | iface t v => exact Ok.addP fun h1 => Ok.snapP fun hr => k ⟨h1, hr⟩
    | fn f p q => exact Ok.addP fun h1 => Ok.snapP fun hr => k ⟨h1, hr⟩
def snapQ (h : Nat → Option (List T)) (M : List Nat) (ts : List T) (x : Res1) : Res1 := match M with | [] => x | _ => snapP h M ts x
theorem Ok.snapQ {h : Nat → Option (List T)} {M : List Nat} {ts : List T} {x : Res1} {A : Eff → List Nat → Prop} (k : snapOkL h M ts → Ok x A) : Ok (snapQ h M ts x) A := by
  cases M with
  | nil => exact k (snapOkL_nil h ts)
  | cons m M => exact Ok.snapP k

def callX (E : Env) (w : Wt) (σ : St) (fo : Operand) (xs : List Operand) : Res1 :=
  bindX (σ.ev fo) fun x => bindX (calleeT x) fun c => bindX (evL σ.ev xs) fun AV => bindX w.call fun k => bindX (takeH σ.h k.ids) fun H =>
    addP (Meets E.P c.1 (snapX σ.h k.M (c.2.1 ++ AV ++ c.2.2)) H k.S k.R k.H')
    (snapQ σ.h k.M (c.2.1 ++ AV ++ c.2.2)
    (addP (subN (idsL (snapX σ.h k.M (c.2.1 ++ AV ++ c.2.2))) k.ids = true)
    (closedP k.ids H (noBX k.M k.R k.H'
    (guardB (disjN k.M k.ids && disjN k.M (k.H'.map (·.1)) && once k.H' && subN k.S k.ids && subN k.S (k.H'.map (·.1)))
    (outE w { val := k.R, drops := notStay k.S H, puts := k.H', stay := k.S } (k.ids ++ k.M)))))))

def exec1 (E : Env) (σ : St) (w : Wt) : Op → Res1
  | .move x => bindX (σ.ev x) fun t => outE w { val := t } []
  | .assign x => bindX (σ.ev x) fun t => outE w { val := t } []
  | .pick c x y => bindX (σ.ev c) fun p =>
    match p with
    | .leaf (.bool true) => bindX (σ.ev x) fun t => outE w { val := t } []
    | .leaf (.bool false) => bindX (σ.ev y) fun t => outE w { val := t } []
    | _ => none
  | .alloc t => guardB (!(E.ti t).k.isNo) (withC w ((E.ti t).zero.map .leaf) fun cs => outE w { val := .addr w.id 0, puts := [(w.id, cs)] } [])
  | .box _ x => bindX (σ.ev x) fun v => guardB v.cellOk (withC w v.cells fun cs => outE w { val := .addr w.id 0, puts := [(w.id, cs)] } [])
  | .build t ps => bindX (evP σ.ev ps.toList) fun ts => buildX E w t ts (E.ti t).k
  | .buildSlice t len ps => bindX (evP σ.ev ps.toList) fun ts =>
    match (E.ti t).k with
    | .slice el => guardB (Nat.ble (len * (E.ti el).size) 16777216) (fillX w (fun n => some (n * (E.ti el).size, (E.ti el).size)) (zerosT (E.ti el).zero len) ts fun cs => outG w (E.ti el).size len cs [])
    | _ => none
  | .load t x => guardB (!(E.ti t).k.isNo) (bindX (σ.ev x) fun p =>
    match p with
    | .addr id off => bindX (σ.h id) fun cs => partX w (E.ti t) cs off [id]
    | .pt _ off cs => partX w (E.ti t) cs off []
    | _ => none)
  | .store t x y => guardB (!(E.ti t).k.isNo) (bindX (σ.ev x) fun p => bindX (σ.ev y) fun v => storeX w (E.ti t) σ v p)
  | .nilCheck x => bindX (σ.ev x) fun p => guardB p.isPtr (outE w { val := p } [])
  | .binOp op t x y _ => bindX (σ.ev x) fun p => bindX (σ.ev y) fun q =>
    match w.er with
    | some r => erX E w op t (isConstOp x || isConstOp y) p q r.1 r.2
    | none => binX E w op t (isConstOp x || isConstOp y) p q
  | .unOp op _ x => bindX (σ.ev x) fun p => unX w op p
  | .convert s d x => bindX (σ.ev x) fun p => convY E w σ s d p
  | .makeInterface t x => guardB (E.ti t).k.concrete (bindX (σ.ev x) fun v => outE w { val := .iface t v } [])
  | .makeFunc fn p q => bindX (evL σ.ev p.toList) fun ps => bindX (evL σ.ev q.toList) fun qs => outE w { val := .fn fn ps qs } []
  | .makeSlice t x y => bindX (σ.ev x) fun p => bindX (σ.ev y) fun q =>
    match p, q, (E.ti t).k with
    | .leaf (.int _ n), .leaf (.int _ c), .slice el => addP (0 ≤ n ∧ n ≤ c ∧ c < 9223372036854775808 ∧ ((E.ti el).bytes : Int) * c ≤ 281474976710656)
        (withC w (zerosT (E.ti el).zero n.toNat) fun cs => outG w (E.ti el).size n.toNat cs [])
    | _, _, _ => none
  | .slice t x lo hi mx => bindX (σ.ev x) fun p => bindX (evB σ.ev lo) fun rl => bindX (evB σ.ev hi) fun rh => bindX (evB σ.ev mx) fun rm => sliceX E w σ rl rh rm mx.isNone (E.ti t).k p
  | .fieldAddr s x f => bindX (σ.ev x) fun p =>
    match (E.ti s).k with
    | .struct fs => bindX fs[f]? fun r => guardB (Nat.blt 0 (E.ti r.2).size) (addrX w r.1 p)
    | _ => none
  | .field s x f => bindX (σ.ev x) fun p =>
    match p, (E.ti s).k with
    | .agg cs, .struct fs => bindX fs[f]? fun r => partX w (E.ti r.2) cs r.1 []
    | _, _ => none
  | .indexAddr t x y => bindX (σ.ev x) fun p => bindX (σ.ev y) fun q =>
    match q with
    | .leaf (.int _ n) => indexAddrX E w n (E.ti t).k p
    | _ => none
  | .index t x y => bindX (σ.ev x) fun p => bindX (σ.ev y) fun q =>
    match q with
    | .leaf (.int _ n) => indexX E w n (E.ti t).k p
    | _ => none
  | .extract x i => bindX (σ.ev x) fun p =>
    match p with
    | .tup cs => bindX cs[i]? fun v => outE w { val := v } []
    | _ => none
  | .call { callee := .builtin b, args := xs, argTypes := ts } => builtinX E w σ b xs.toList ts.toList
  | .call { callee := .value f, args := xs, argTypes := _ } => callX E w σ f xs.toList
  | _ => none

theorem notNo {k : K} (h : (!k.isNo) = true) : k ≠ .no := by rintro rfl; simp [K.isNo] at h

theorem acts_eqEr {P : Program} {o : Oper} {ev : Operand → Option T} {h : Nat → Option (List T)} {reads : List Nat} {op : BinOp} {t yt : TypeId} {x y : Operand} {ty : TypeId} {n : Int} {i : TI}
    (ho : o.op = .binOp op t x y yt) (hop : op = .eql ∨ op = .neq) (hx : ev x = some (er ty n)) (hy : ev y = some (.leaf .nilIface)) (ht : TOk P t i) (hk : i.k = .iface) (hc : (isConstOp x || isConstOp y) = true) :
    Acts P o ev h reads { val := .leaf (.bool (if op = .eql then decide (n = 0) else !decide (n = 0))) } := by
  by_cases hn : n = 0
  · subst hn
    rw [er_zero] at hx
    simpa using acts_eqTo (r := true) ho hop hx hy ht (by simpa [eqK] using hk) (by simp [eqTo, hc])
  · rw [er_ne hn] at hx
    simpa [hn] using acts_eqTo (r := false) ho hop hx hy ht (by simpa [eqK] using hk) (by simp [eqTo])
end Go.Vw

import Derived.Test.YtdlnppcndcfikaaDoorEnVw15
set_option linter.unusedVariables false
set_option linter.unusedSimpArgs false
namespace Go.Vw
open Go Go.RowKit
inductive AllP : List Prop → Prop where
  | nil : AllP []
  | cons {p : Prop} {ps : List Prop} (h : p) (t : AllP ps) : AllP (p :: ps)
theorem AllP.append {ps qs : List Prop} (h : AllP (ps ++ qs)) : AllP ps ∧ AllP qs := by
  induction ps with
  | nil => exact ⟨.nil, h⟩
  | cons p ps ih => cases h with | cons h t => exact ⟨.cons h (ih t).1, (ih t).2⟩
structure CW where
  ids : List Nat := []
  S : List Nat := []
  M : List Nat := []
  R : T
  H' : List (Nat × List T) := []
structure Wt where
  v : Option T := none
  c : Option (List T) := none
  id : Nat := 0
  sym : Bool := false
  b : List UInt8 := []
  er : Option (TypeId × Int) := none
  call : Option CW := none
  gv : Bool := false
  fl : List Nat := []
  fo : List Nat := []
  fv : Bool := false
  lv : Bool := false
abbrev Res1 := Option (List Prop × Eff × List Nat)
def outE (w : Wt) (e : Eff) (r : List Nat) : Res1 :=
  match w.v with
  | none => some ([], e, r)
  | some v => some ([e.val = v], { val := v, drops := e.drops, puts := e.puts, stay := e.stay }, r)
def addP (p : Prop) (x : Res1) : Res1 :=
  match x with
  | some (cs, e, r) => some (p :: cs, e, r)
  | none => none
def guardB (b : Bool) (x : Res1) : Res1 := match b with | true => x | false => none
def guardS (w : Wt) (b : Bool) (x : Res1) : Res1 := match w.sym with | true => addP (b = true) x | false => guardB b x
def guardN (w : Wt) (a b : Nat) (x : Res1) : Res1 := match w.sym with | true => addP (a ≤ b) x | false => guardB (Nat.ble a b) x
def withC (w : Wt) (c0 : List T) (F : List T → Res1) : Res1 :=
  match w.c with
  | none => F c0
  | some c => addP (c0 = c) (F c)
def bindX {α : Type} (x : Option α) (F : α → Res1) : Res1 := match x with | some a => F a | none => none
def outL (w : Wt) (e : Eff) (r : List Nat) : Res1 :=
  match w.lv, w.v with
  | true, some v => some ([LeT e.val v], { val := v, drops := e.drops, puts := e.puts, stay := e.stay }, r)
  | true, none => none
  | false, _ => outE w e r
def outG (w : Wt) (m n : Nat) (cs : List T) (r : List Nat) : Res1 :=
  match w.gv with
  | false => outE w { val := .ref w.id m 0 n, puts := [(w.id, cs)] } r
  | true => guardB (!memN w.id r) (addP (idsL cs = [] ∧ n * m ≤ cs.length) (outL w { val := .sl m .shr n (sub cs 0 (n * m)), puts := [(w.id, [])] } r))
def Ok (x : Res1) (A : Eff → List Nat → Prop) : Prop := ∀ cs e r, x = some (cs, e, r) → AllP cs → A e r
section
variable {A : Eff → List Nat → Prop} {w : Wt} {x : Res1}
theorem Ok.none : Ok none A := fun _ _ _ h => by simp at h
theorem Ok.some {e : Eff} {r : List Nat} (h : A e r) : Ok (some ([], e, r)) A := fun cs e' r' h' _ => by
  simp only [Option.some.injEq, Prod.mk.injEq] at h'; obtain ⟨_, rfl, rfl⟩ := h'; exact h
theorem Ok.outE {e : Eff} {r : List Nat} (h : A e r) : Ok (outE w e r) A := fun cs e' r' h' hc => by
  unfold Vw.outE at h'
  split at h'
  · simp only [Option.some.injEq, Prod.mk.injEq] at h'; obtain ⟨_, rfl, rfl⟩ := h'; exact h
  · simp only [Option.some.injEq, Prod.mk.injEq] at h'; obtain ⟨rfl, rfl, rfl⟩ := h'
    cases hc with | cons hp _ => subst hp; exact h
theorem Ok.guardB0 {b : Bool} (h : b = true → Ok x A) : Ok (Vw.guardB b x) A := by
  cases b with
  | true => exact h rfl
  | false => exact Ok.none
theorem Ok.addP {p : Prop} (h : p → Ok x A) : Ok (addP p x) A := fun cs e r h' hc => by
  unfold Vw.addP at h'
  split at h'
  · simp only [Option.some.injEq, Prod.mk.injEq] at h'; obtain ⟨rfl, rfl, rfl⟩ := h'
    cases hc with | cons hp ht => exact h hp _ _ _ rfl ht
  · simp at h'
theorem Ok.outL {P : Program} {o : Oper} {ev : Operand → Option T} {h : Nat → Option (List T)} {e : Eff} {r : List Nat} (hA : Acts P o ev h r e) : Ok (outL w e r) (fun e r => Acts P o ev h r e) := by
  unfold Vw.outL
  split
  · intro cs e' r' h' hc
    simp only [Option.some.injEq, Prod.mk.injEq] at h'; obtain ⟨rfl, rfl, rfl⟩ := h'
    cases hc with | cons hp _ => exact hA.leT hp
  · exact Ok.none
  · exact Ok.outE hA
theorem Ok.outG {P : Program} {o : Oper} {ev : Operand → Option T} {h : Nat → Option (List T)} {m n : Nat} {cs : List T} {r : List Nat} (hA : Acts P o ev h r { val := .ref w.id m 0 n, puts := [(w.id, cs)] }) : Ok (outG w m n cs r) (fun e r => Acts P o ev h r e) := by
  unfold Vw.outG
  split
  · exact Ok.outE hA
  · refine Ok.guardB0 fun hm => Ok.addP fun hc => Ok.outL ?_
    exact hA.give (fun hq => by rw [memN_iff.2 hq] at hm; simp at hm) hc.1 hc.2
theorem Ok.guardB {b : Bool} (h : b = true → Ok x A) : Ok (guardB b x) A := by
  cases b with
  | true => exact h rfl
  | false => exact Ok.none
theorem Ok.guardS {b : Bool} (h : b = true → Ok x A) : Ok (guardS w b x) A := by
  unfold Vw.guardS; split
  · exact Ok.addP h
  · exact Ok.guardB h
theorem Ok.guardN {a b : Nat} (h : a ≤ b → Ok x A) : Ok (guardN w a b x) A := by
  unfold Vw.guardN; split
  · exact Ok.addP h
  · exact Ok.guardB fun e => h (Nat.le_of_ble_eq_true e)
theorem Ok.withC {c0 : List T} {F : List T → Res1} (h : Ok (F c0) A) : Ok (withC w c0 F) A := by
  unfold Vw.withC; split
  · exact h
  · exact Ok.addP fun e => by subst e; exact h
theorem Ok.bindX {α : Type} {x : Option α} {F : α → Res1} (h : ∀ a, x = .some a → Ok (F a) A) : Ok (bindX x F) A := by
  cases x with
  | none => exact Ok.none
  | some a => exact h a rfl
end
def partX (w : Wt) (i : TI) (cs : List T) (off : Nat) (r : List Nat) : Res1 :=
  match w.v with
  | some v => some ([partOf i cs off v], { val := v }, r)
  | none =>
    match i.agg with
    | true => guardB (Nat.ble (off + i.size) cs.length) (some ([], { val := .agg (sub cs off i.size) }, r))
    | false => bindX cs[off]? fun v => some ([], { val := v }, r)
theorem Ok.partX {w : Wt} {i : TI} {cs : List T} {off : Nat} {r : List Nat} {A : Eff → List Nat → Prop} (h : ∀ v, partOf i cs off v → A { val := v } r) : Ok (partX w i cs off r) A := by
  unfold Vw.partX
  split
  · rename_i v _
    exact fun cs' e' r' h' hc => by
      simp only [Option.some.injEq, Prod.mk.injEq] at h'; obtain ⟨rfl, rfl, rfl⟩ := h'
      cases hc with | cons hp _ => exact h _ hp
  · split
    · rename_i ha
      exact Ok.guardB fun e => Ok.some (h _ (by unfold partOf; rw [if_pos ha]; exact ⟨Nat.le_of_ble_eq_true e, rfl⟩))
    · rename_i ha
      exact Ok.bindX fun v e => Ok.some (h _ (by unfold partOf; rw [if_neg (by simp [ha])]; exact e))
def eqX (E : Env) (w : Wt) (op : BinOp) (t : TypeId) (c : Bool) (p q : T) : Res1 :=
  match op with
  | .eql => bindX (eqTo p q c) fun r => addP (eqK p (E.ti t).k) (outE w { val := .leaf (.bool r) } [])
  | .neq => bindX (eqTo p q c) fun r => addP (eqK p (E.ti t).k) (outE w { val := .leaf (.bool !r) } [])
  | _ => none
def aggX (E : Env) (w : Wt) (op : BinOp) (t : TypeId) (cs ds : List T) : Res1 :=
  match eqTy E 16 t, (E.ti t).agg, E.P.eqGuardType E.P.depth t, (match op with | .eql | .neq => true | _ => false) with
  | some ks, true, false, true => match w.v with
    | some (.leaf (.bool r)) => some ([(eqL ks cs ds).map (eqV op) = some r], { val := .leaf (.bool r) }, [])
    | _ => bindX (eqL ks cs ds) fun r => some ([], { val := .leaf (.bool (eqV op r)) }, [])
  | _, _, _, _ => none
def binX (E : Env) (w : Wt) (op : BinOp) (t : TypeId) (c : Bool) : T → T → Res1
  | .agg cs, .agg ds => aggX E w op t cs ds
  | .leaf (.int k a), .leaf (.int k' b) => guardB (isShift op || decide (k = k')) (bindX (binI op k a b) fun r => addP r.1 (outE w { val := .leaf r.2 } []))
  | .leaf (.string a), .leaf (.string b) => bindX (binS op a b) fun r => addP r.1 (outE w { val := .leaf r.2 } [])
  | .leaf (.bool a), .leaf (.bool b) =>
    match (E.ti t).k, op with
    | .bool, .eql => outE w { val := .leaf (.bool (a == b)) } []
    | .bool, .neq => outE w { val := .leaf (.bool (a != b)) } []
    | _, _ => none
  | p, q => eqX E w op t c p q
def erX (E : Env) (w : Wt) (op : BinOp) (t : TypeId) (c : Bool) (p q : T) (ty : TypeId) (n : Int) : Res1 :=
  match (E.ti t).k, c with
  | .iface, true =>
    match op with
    | .eql => addP (p = er ty n ∧ q = .leaf .nilIface) (outE w { val := .leaf (.bool (decide (n = 0))) } [])
    | .neq => addP (p = er ty n ∧ q = .leaf .nilIface) (outE w { val := .leaf (.bool !decide (n = 0)) } [])
    | _ => none
  | _, _ => none
def unX (w : Wt) : UnOp → T → Res1
  | .not, .leaf (.bool b) => outE w { val := .leaf (.bool !b) } []
  | .neg, .leaf (.int k n) => outE w { val := .leaf (.int k (k.wrap (0 - n))) } []
  | .xor, .leaf (.int k n) => outE w { val := .leaf (.int k (k.wrap (BitVec.ofInt k.bits (if k.signed then -1 else k.max) ^^^ BitVec.ofInt k.bits n).toNat)) } []
  | _, _ => none
def fitsX (w : Wt) (h : Nat → Option (List T)) (m : Nat) (q : T) (x : Res1) : Res1 :=
  match q with
  | .sl m' _ _ _ => guardB (Nat.beq m' m) x
  | .ref id m' off n => guardB (Nat.beq m' m) (bindX (h id) fun cs => guardN w (off + n * m) cs.length x)
  | .leaf (.string _) => guardB (Nat.beq m 1) x
  | _ => x
abbrev u8s (l : List UInt8) : List T := l.map fun c => .leaf (.int .u8 c.toNat)
def sOf (l : List UInt8) : ByteArray := ⟨l.toArray⟩
theorem u8s_bs (l : List UInt8) : u8s l = bs (l.map fun c => (c.toNat : Int)) := by
  simp [u8s, bs, Function.comp_def]
theorem strOf_u8s (l : List UInt8) : strOf (l.map fun c => (c.toNat : Int)) = sOf l := by
  simp [strOf, sOf, Function.comp_def]
def convX (E : Env) (w : Wt) (σ : St) : K → K → T → Res1
  | .int _, .int k', .leaf (.int _ n) => outE w { val := .leaf (.int k' (k'.wrap n)) } []
  | .str, .str, .leaf (.string b) => outE w { val := .leaf (.string b) } []
  | .slice e, .str, p =>
    match (E.ti e).k, isStr p with
    | .int .u8, false => bindX (srcOf σ.h p) fun r => fitsX w σ.h 1 p (addP (r.2 = u8s w.b) (outE w { val := .leaf (.string (sOf w.b)) } p.ids))
    | _, _ => none
  | .str, .slice e, .leaf (.string b) =>
    match (E.ti e).k with
    | .int .u8 => withC w (bs (bytesOf b)) fun cs => outG w 1 b.size cs []
    | _ => none
  | _, _, _ => none
def convY (E : Env) (w : Wt) (σ : St) (s d : TypeId) (p : T) : Res1 :=
  match Nat.beq s d, (E.ti s).k, p with
  | true, .slice e, .ref id m off n =>
    match (E.ti e).k with
    | .int .u8 => guardB (Nat.blt 0 m && Nat.blt 0 n) (bindX (σ.h id) fun cs =>
      match w.gv with
      | true => addP (idsL cs = [] ∧ off + n * m ≤ cs.length) (outE w { val := .sl m .shr n (sub cs off (n * m)), drops := [id] } [id])
      | false => some ([], { val := .ref id m off n, puts := [(id, cs)], stay := [id] }, [id]))
    | _ => none
  | _, _, _ => convX E w σ (E.ti s).k (E.ti d).k p
def cutX (lo hi mx : Option Int) (n : Nat) (F : Nat → Nat → Nat → Res1) : Res1 :=
  addP (0 ≤ lo.getD 0 ∧ lo.getD 0 ≤ hi.getD n ∧ hi.getD n ≤ mx.getD n ∧ mx.getD n ≤ n) (guardB (mx.isNone || hi.isSome) (F (lo.getD 0).toNat (hi.getD n).toNat (mx.getD n).toNat))
theorem Ok.cutX {lo hi mx : Option Int} {n : Nat} {F : Nat → Nat → Nat → Res1} {A : Eff → List Nat → Prop} (h : ∀ l hh m, cutOk lo hi mx n l hh m → Ok (F l hh m) A) : Ok (cutX lo hi mx n F) A := by
  refine Ok.addP fun ⟨h1, h2, h3, h4⟩ => Ok.guardB fun h5 => h _ _ _ ⟨by omega, by omega, by omega, by omega, by omega, by omega, fun hm => ?_⟩
  cases mx with
  | none => simp at hm
  | some m => intro e; subst e; simp at h5
def sliceX (E : Env) (w : Wt) (σ : St) (lo hi mx : Option Int) (nomx : Bool) : K → T → Res1
  | .slice el, .ref id m off n => guardB (Nat.beq (E.ti el).size m) (match w.gv with
    | true => bindX (σ.h id) fun cs => cutX lo hi mx n fun l h _ => addP (idsL cs = [] ∧ off + l * m + (h - l) * m ≤ cs.length) (outE w { val := .sl m .shr (h - l) (sub cs (off + l * m) ((h - l) * m)), drops := [id] } [id])
    | false => cutX lo hi mx n fun l h _ => outE w { val := .ref id m (off + l * m) (h - l) } [])
  | .slice el, .sl m g n cs => guardB (Nat.beq (E.ti el).size m) (cutX lo hi mx n fun l h mm => outE w { val := if mx ≠ none ∧ l = mm then T.e0 else .sl m g (h - l) (sub cs (l * m) ((h - l) * m)) } [])
  | .slice _, .leaf (.slice none 0 0) => cutX lo hi mx 0 fun _ _ _ => outE w { val := .leaf (.slice none 0 0) } []
  | .array N el, .addr id off => bindX (σ.h id) fun cs => guardN w (off + N * (E.ti el).size) cs.length (match w.gv with
    | true => cutX lo hi mx N fun l h _ => addP (idsL cs = [] ∧ off + l * (E.ti el).size + (h - l) * (E.ti el).size ≤ cs.length) (outE w { val := .sl (E.ti el).size .shr (h - l) (sub cs (off + l * (E.ti el).size) ((h - l) * (E.ti el).size)), drops := [id] } [id])
    | false => cutX lo hi mx N fun l h _ => outE w { val := .ref id (E.ti el).size (off + l * (E.ti el).size) (h - l) } [id])
  | .array N el, .pt g off cs => guardN w (off + N * (E.ti el).size) cs.length (cutX lo hi mx N fun l h _ => outE w { val := .sl (E.ti el).size g (h - l) (sub cs (off + l * (E.ti el).size) ((h - l) * (E.ti el).size)) } [])
  | .str, .leaf (.string s) => guardB nomx (cutX lo hi none s.size fun l h _ => outE w { val := .leaf (.string (s.extract l h)) } [])
  | _, _ => none
def arrAtX (w : Wt) : K → T → Res1
  | .array N _, .sl _ g n cs => guardB (Nat.blt 0 N) (addP (N ≤ n) (outE w { val := .pt g 0 cs } []))
  | .array N _, .ref id _ off n => guardB (Nat.blt 0 N) (addP (N ≤ n) (outE w { val := .addr id off } []))
  | _, _ => none
def addrX (w : Wt) (fo : Nat) : T → Res1
  | .addr id off => outE w { val := .addr id (off + fo) } []
  | .pt g off cs => outE w { val := .pt g (off + fo) cs } []
  | _ => none
def indexAddrX (E : Env) (w : Wt) (n : Int) : K → T → Res1
  | .array N el, .addr id off => addP (0 ≤ n ∧ n < N) (outE w { val := .addr id (off + n.toNat * (E.ti el).size) } [])
  | .array N el, .pt g off cs => addP (0 ≤ n ∧ n < N) (outE w { val := .pt g (off + n.toNat * (E.ti el).size) cs } [])
  | .slice el, .ref id m off N => guardB (Nat.beq (E.ti el).size m) (addP (0 ≤ n ∧ n < N) (outE w { val := .addr id (off + n.toNat * m) } []))
  | .slice el, .sl m g N cs => guardB (Nat.beq (E.ti el).size m) (addP (0 ≤ n ∧ n < N) (outE w { val := .pt g (n.toNat * m) cs } []))
  | _, _ => none
def indexX (E : Env) (w : Wt) (n : Int) : K → T → Res1
  | .array N el, .agg cs => addP (0 ≤ n ∧ n < N) (partX w (E.ti el) cs (n.toNat * (E.ti el).size) [])
  | .str, .leaf (.string b) =>
    match w.b with
    | [c] => addP (0 ≤ n ∧ b[n.toNat]? = some c) (some ([], { val := .leaf (.int .u8 c.toNat) }, []))
    | _ => none
  | _, _ => none
def fillX (w : Wt) (place : Nat → Option (Nat × Nat)) (c0 : List T) (ts : List (Nat × T)) (F : List T → Res1) : Res1 :=
  match w.c with
  | some cs => addP (fillT place c0 ts = some cs) (F cs)
  | none => bindX (fillT place c0 ts) F
theorem Ok.fillX {w : Wt} {place : Nat → Option (Nat × Nat)} {c0 : List T} {ts : List (Nat × T)} {F : List T → Res1} {A : Eff → List Nat → Prop} (h : ∀ cs, fillT place c0 ts = .some cs → Ok (F cs) A) : Ok (fillX w place c0 ts F) A := by
  unfold Vw.fillX; split
  · exact Ok.addP fun e => h _ e
  · exact Ok.bindX h
def buildX (E : Env) (w : Wt) (t : TypeId) (ts : List (Nat × T)) : K → Res1
  | .struct fs => fillX w (fun n => (fs[n]?).map fun f => (f.1, (E.ti f.2).size)) ((E.ti t).zero.map .leaf) ts fun cs => outE w { val := .agg cs } []
  | .array _ el => fillX w (fun n => some (n * (E.ti el).size, (E.ti el).size)) ((E.ti t).zero.map .leaf) ts fun cs => outE w { val := .agg cs } []
  | _ => none
def storeX (w : Wt) (i : TI) (σ : St) (v : T) : T → Res1
  | .addr id off => bindX (σ.h id) fun cs => guardB v.cellOk (guardS w (scalL v.cells) (guardN w v.cells.length i.size (guardN w i.size v.cells.length (guardN w (off + v.cells.length) cs.length
      (withC w (splice cs off v.cells) fun r => some ([], { val := .dead, puts := [(id, r)], stay := [id] }, [id]))))))
  | _ => none
def memNot (w : Wt) (n : Nat) (l : List Nat) (x : Res1) : Res1 := match w.sym with | true => addP (memN n l = false) x | false => guardB (!memN n l) x
theorem Ok.memNot {w : Wt} {n : Nat} {l : List Nat} {x : Res1} {A : Eff → List Nat → Prop} (h : n ∉ l → Ok x A) : Ok (memNot w n l x) A := by
  have k : memN n l = false → n ∉ l := fun e hm => by rw [memN_iff.2 hm] at e; simp at e
  unfold Vw.memNot; split
  · exact Ok.addP fun e => h (k e)
  · exact Ok.guardB fun e => h (k (by simpa using e))
def isIntK : K → Bool | .int _ => true | _ => false
theorem isIntK_ok {k : K} (h : isIntK k = true) : ∃ i, k = .int i := by cases k <;> simp [isIntK] at h; exact ⟨_, rfl⟩
def appMakeX (E : Env) (w : Wt) (u : TypeId) (p q : T) : K → Res1
  | .slice el => guardB (isIntK (E.ti u).k && Nat.blt 0 (E.ti el).bytes)
      (match p, q with
      | .leaf (.slice none 0 0), .leaf (.int _ n) => addP (0 ≤ n ∧ n * ((E.ti el).bytes : Int) ≤ 140737488355328) (withC w (zerosT (E.ti el).zero n.toNat) fun cs => outG w (E.ti el).size n.toNat cs [])
      | .e0, .leaf (.int _ n) => addP (0 ≤ n ∧ n * ((E.ti el).bytes : Int) ≤ 140737488355328) (withC w (zerosT (E.ti el).zero n.toNat) fun cs => outG w (E.ti el).size n.toNat cs [])
      | _, _ => none)
  | _ => none
def appendX (E : Env) (w : Wt) (σ : St) (u : TypeId) (p q : T) : K → Res1
  | .slice el => guardB (strOrSlice (E.ti u).k && Nat.blt 0 (E.ti el).bytes) (bindX (srcOf σ.h q) fun r => fitsX w σ.h (E.ti el).size q
      (match p with
      | .leaf (.slice none 0 0) => addP (r.1 * (E.ti el).bytes ≤ 140737488355328) (guardB (!memN w.id q.ids) (withC w r.2 fun cs => outG w (E.ti el).size r.1 cs q.ids))
      | .e0 => addP (r.1 * (E.ti el).bytes ≤ 140737488355328) (guardB (!memN w.id q.ids) (withC w r.2 fun cs => outG w (E.ti el).size r.1 cs q.ids))
      | .ref id m off n => guardB (Nat.beq (E.ti el).size m) (bindX (σ.h id) fun c0 => guardN w (off + n * m) c0.length (guardS w (scalL r.2) (addP ((n + r.1) * (E.ti el).bytes ≤ 140737488355328)
          (guardB (Nat.beq w.id id || !memN w.id (id :: q.ids)) (withC w (sub c0 off (n * m) ++ r.2) fun cs => memNot w id (idsL cs)
            (outE w { val := .ref w.id m 0 (n + r.1), drops := [id], puts := [(w.id, cs)] } (id :: q.ids)))))))
      | _ => none))
  | _ => none
def copyX (E : Env) (w : Wt) (σ : St) (q : T) : K → T → Res1
  | .slice el, .ref id m off n => guardB (Nat.beq (E.ti el).size m) (bindX (σ.h id) fun c0 => guardN w (off + n * m) c0.length (bindX (srcOf σ.h q) fun r => fitsX w σ.h m q (guardS w (scalL r.2)
      (withC w (splice c0 off (r.2.take (min r.1 n * m))) fun cs => outE w { val := .leaf (.int .i64 (min r.1 n : Nat)), puts := [(id, cs)], stay := [id] } (id :: q.ids)))))
  | _, _ => none
def lenX (w : Wt) (σ : St) (x : Operand) : K → Res1
  | .array n _ => outE w { val := .leaf (.int .i64 n) } []
  | .slice _ => bindX (σ.ev x) fun p => bindX (lenT p) fun n => guardB (!isStr p) (outE w { val := .leaf (.int .i64 n) } [])
  | .str => bindX (σ.ev x) fun p => bindX (lenT p) fun n => guardB (isStr p) (outE w { val := .leaf (.int .i64 n) } [])
  | _ => none
def capX (w : Wt) : K → T → Res1
  | .slice _, .leaf (.slice none 0 0) => outE w { val := .leaf (.int .i64 0) } []
  | _, _ => none
def minmaxX (w : Wt) (mn : Bool) : T → T → Res1
  | .leaf (.int k p), .leaf (.int _ q) =>
    match mn with
    | true => outE w { val := .leaf (.int k (if q < p then q else p)) } []
    | false => outE w { val := .leaf (.int k (if q > p then q else p)) } []
  | _, _ => none
def builtinX (E : Env) (w : Wt) (σ : St) : Builtin → List Operand → List TypeId → Res1
  | .len, [x], [t] => lenX w σ x (E.ti t).k
  | .cap, [x], [t] => bindX (σ.ev x) fun p => capX w (E.ti t).k p
  | .append, [x, y], [t, u] => bindX (σ.ev x) fun p => bindX (σ.ev y) fun q =>
    match isIntK (E.ti u).k with
    | true => appMakeX E w u p q (E.ti t).k
    | false => appendX E w σ u p q (E.ti t).k
  | .copy, [x, y], [t, _] => bindX (σ.ev x) fun p => bindX (σ.ev y) fun q => copyX E w σ q (E.ti t).k p
  | .min, [x, y], _ => bindX (σ.ev x) fun p => bindX (σ.ev y) fun q => minmaxX w true p q
  | .max, [x, y], _ => bindX (σ.ev x) fun p => bindX (σ.ev y) fun q => minmaxX w false p q
  | _, _, _ => none
def takeH (h : Nat → Option (List T)) : List Nat → Option (List (Nat × List T))
  | [] => some []
  | i :: l => match h i, takeH h l with | some cs, some r => some ((i, cs) :: r) | _, _ => none
def subN : List Nat → List Nat → Bool
  | [], _ => true
  | n :: l, m => memN n m && subN l m
theorem subN_spec : ∀ {l m : List Nat}, subN l m = true → ∀ i ∈ l, i ∈ m
  | n :: l, m, h, i, hi => by
    simp only [subN, Bool.and_eq_true] at h
    rcases List.mem_cons.1 hi with rfl | hi
    · exact memN_iff.1 h.1
    · exact subN_spec h.2 i hi
def closedP (ids : List Nat) : List (Nat × List T) → Res1 → Res1
  | [], x => x
  | (_, cs) :: l, x => addP (subN (idsL cs) ids = true) (closedP ids l x)
def noBP : List (Nat × List T) → Res1 → Res1
  | [], x => x
  | (_, cs) :: l, x => addP (noBL cs = true) (noBP l x)
def noBX (M : List Nat) (R : T) (H' : List (Nat × List T)) (x : Res1) : Res1 :=
  match M with
  | [] => x
  | _ => addP (R.noB = true) (noBP H' x)
theorem Ok.closedP {ids : List Nat} {x : Res1} {A : Eff → List Nat → Prop} : ∀ {H : List (Nat × List T)}, ((∀ p ∈ H, ∀ j ∈ idsL p.2, j ∈ ids) → Ok x A) → Ok (closedP ids H x) A
  | [], h => h (by simp)
  | (i, cs) :: l, h => Ok.addP fun e => Ok.closedP (H := l) fun hl => h fun p hp => by
      rcases List.mem_cons.1 hp with rfl | hp
      · exact subN_spec e
      · exact hl p hp
theorem Ok.noBP {x : Res1} {A : Eff → List Nat → Prop} : ∀ {H : List (Nat × List T)}, ((∀ p ∈ H, noBL p.2 = true) → Ok x A) → Ok (noBP H x) A
  | [], h => h (by simp)
  | (i, cs) :: l, h => Ok.addP fun e => Ok.noBP (H := l) fun hl => h fun p hp => by
      rcases List.mem_cons.1 hp with rfl | hp
      · exact e
      · exact hl p hp
theorem Ok.noBX {M : List Nat} {R : T} {H' : List (Nat × List T)} {x : Res1} {A : Eff → List Nat → Prop} (h : (M = [] ∨ (R.noB = true ∧ ∀ q ∈ H', noBL q.2 = true)) → Ok x A) : Ok (noBX M R H' x) A := by
  cases M with
  | nil => exact h (.inl rfl)
  | cons m M => exact Ok.addP fun e => Ok.noBP fun e' => h (.inr ⟨e, e'⟩)
theorem takeH_spec {h : Nat → Option (List T)} : ∀ {l : List Nat} {H : List (Nat × List T)}, takeH h l = some H → H.map (·.1) = l ∧ ∀ i cs, look H i = some cs → h i = some cs
  | [], H, e => by simp only [takeH, Option.some.injEq] at e; subst e; exact ⟨rfl, fun i cs e => by simp [look] at e⟩
  | i :: l, H, e => by
    simp only [takeH] at e
    split at e
    · rename_i cs r e1 e2
      injection e with e; subst e
      obtain ⟨h1, h2⟩ := takeH_spec e2
      refine ⟨by simp [h1], fun j cs' e => ?_⟩
      simp only [look] at e
      split at e
      · rename_i hj; subst hj; rw [e1]; exact e
      · exact h2 j cs' e
    · simp at e
def snapX (h : Nat → Option (List T)) (M : List Nat) (ts : List T) : List T := match M with | [] => ts | _ => snapL h M ts
theorem snapX_eq (h : Nat → Option (List T)) (M : List Nat) (ts : List T) : snapX h M ts = snapL h M ts := by
  cases M with
  | nil => exact (snapL_nil h ts).symm
  | cons m M => rfl
def snapP (h : Nat → Option (List T)) (M : List Nat) : List T → Res1 → Res1
  | [], x => x
  | t :: ts, x =>
    match t with
    | .ref id m o n =>
      match memN id M with
      | true => bindX (h id) fun cs => addP (idsL cs = []) (addP (o + n * m ≤ cs.length) (snapP h M ts x))
      | false => snapP h M ts x
    | .addr id _ =>
      match memN id M with
      | true => bindX (h id) fun cs => addP (idsL cs = []) (snapP h M ts x)
      | false => snapP h M ts x
    | .dead | .leaf _ | .e0 | .sl .. | .pt .. => snapP h M ts x
    | t => addP (T.snapOk h M t) (snapP h M ts x)
theorem Ok.snapP {h : Nat → Option (List T)} {M : List Nat} {x : Res1} {A : Eff → List Nat → Prop} : ∀ {ts : List T}, (snapOkL h M ts → Ok x A) → Ok (snapP h M ts x) A
  | [], k => k trivial
  | t :: ts, k => by
    have no : ∀ {id : Nat}, memN id M = false → id ∉ M := fun e hm => by rw [memN_iff.2 hm] at e; simp at e
    cases t with
    | ref id m o n =>
      simp only [Vw.snapP]
      split
      · exact Ok.bindX fun cs hcs => Ok.addP fun h1 => Ok.addP fun h2 => Ok.snapP fun hr => k ⟨fun _ => ⟨cs, hcs, h1, h2⟩, hr⟩
      · rename_i e; exact Ok.snapP fun hr => k ⟨fun hm => (no e hm).elim, hr⟩
    | addr id o =>
      simp only [Vw.snapP]
      split
      · exact Ok.bindX fun cs hcs => Ok.addP fun h1 => Ok.snapP fun hr => k ⟨fun _ => ⟨cs, hcs, h1⟩, hr⟩
      · rename_i e; exact Ok.snapP fun hr => k ⟨fun hm => (no e hm).elim, hr⟩
    | dead => exact Ok.snapP (ts := ts) fun hr => k ⟨trivial, hr⟩
    | leaf v => exact Ok.snapP (ts := ts) fun hr => k ⟨trivial, hr⟩
    | e0 => exact Ok.snapP (ts := ts) fun hr => k ⟨trivial, hr⟩
    | sl m g n cs => exact Ok.snapP (ts := ts) fun hr => k ⟨trivial, hr⟩
    | pt g o cs => exact Ok.snapP (ts := ts) fun hr => k ⟨trivial, hr⟩
    | agg cs => exact Ok.addP fun h1 => Ok.snapP fun hr => k ⟨h1, hr⟩
    | tup cs => exact Ok.addP fun h1 => Ok.snapP fun hr => k ⟨h1, hr⟩
    | iface t v => exact Ok.addP fun h1 => Ok.snapP fun hr => k ⟨h1, hr⟩
    | fn f p q => exact Ok.addP fun h1 => Ok.snapP fun hr => k ⟨h1, hr⟩
def snapQ (h : Nat → Option (List T)) (M : List Nat) (ts : List T) (x : Res1) : Res1 := match M with | [] => x | _ => snapP h M ts x
theorem Ok.snapQ {h : Nat → Option (List T)} {M : List Nat} {ts : List T} {x : Res1} {A : Eff → List Nat → Prop} (k : snapOkL h M ts → Ok x A) : Ok (snapQ h M ts x) A := by
  cases M with
  | nil => exact k (snapOkL_nil h ts)
  | cons m M => exact Ok.snapP k
def callX (E : Env) (w : Wt) (σ : St) (fo : Operand) (xs : List Operand) : Res1 :=
  bindX (σ.ev fo) fun x => bindX (calleeT x) fun c => bindX (evL σ.ev xs) fun AV => bindX w.call fun k => bindX (takeH σ.h k.ids) fun H =>
    addP (Meets E.P c.1 (snapX σ.h k.M (c.2.1 ++ AV ++ c.2.2)) H k.S k.R k.H')
    (snapQ σ.h k.M (c.2.1 ++ AV ++ c.2.2)
    (addP (subN (idsL (snapX σ.h k.M (c.2.1 ++ AV ++ c.2.2))) k.ids = true)
    (closedP k.ids H (noBX k.M k.R k.H'
    (guardB (disjN k.M k.ids && disjN k.M (k.H'.map (·.1)) && once k.H' && subN k.S k.ids && subN k.S (k.H'.map (·.1)))
    (outE w { val := k.R, drops := notStay k.S H, puts := k.H', stay := k.S } (k.ids ++ k.M)))))))
def exec1 (E : Env) (σ : St) (w : Wt) : Op → Res1
  | .move x => bindX (σ.ev x) fun t => outE w { val := t } []
  | .assign x => bindX (σ.ev x) fun t => outE w { val := t } []
  | .pick c x y => bindX (σ.ev c) fun p =>
    match p with
    | .leaf (.bool true) => bindX (σ.ev x) fun t => outE w { val := t } []
    | .leaf (.bool false) => bindX (σ.ev y) fun t => outE w { val := t } []
    | _ => none
  | .alloc t => guardB (!(E.ti t).k.isNo) (withC w ((E.ti t).zero.map .leaf) fun cs => outE w { val := .addr w.id 0, puts := [(w.id, cs)] } [])
  | .box _ x => bindX (σ.ev x) fun v => guardB v.cellOk (withC w v.cells fun cs => match w.gv with
    | false => outE w { val := .addr w.id 0, puts := [(w.id, cs)] } []
    | true => addP (idsL cs = []) (outE w { val := .pt .shr 0 cs, puts := [(w.id, [])] } []))
  | .build t ps => bindX (evP σ.ev ps.toList) fun ts => buildX E w t ts (E.ti t).k
  | .buildSlice t len ps => bindX (evP σ.ev ps.toList) fun ts =>
    match (E.ti t).k with
    | .slice el => guardB (Nat.ble (len * (E.ti el).size) 16777216) (fillX w (fun n => some (n * (E.ti el).size, (E.ti el).size)) (zerosT (E.ti el).zero len) ts fun cs => outG w (E.ti el).size len cs [])
    | _ => none
  | .load t x => guardB (!(E.ti t).k.isNo) (bindX (σ.ev x) fun p =>
    match p with
    | .addr id off => bindX (σ.h id) fun cs => partX w (E.ti t) cs off [id]
    | .pt _ off cs => partX w (E.ti t) cs off []
    | _ => none)
  | .store t x y => guardB (!(E.ti t).k.isNo) (bindX (σ.ev x) fun p => bindX (σ.ev y) fun v => storeX w (E.ti t) σ v p)
  | .nilCheck x => bindX (σ.ev x) fun p => guardB p.isPtr (outE w { val := p } [])
  | .binOp op t x y _ => bindX (σ.ev x) fun p => bindX (σ.ev y) fun q =>
    match w.er with
    | some r => erX E w op t (isConstOp x || isConstOp y) p q r.1 r.2
    | none => binX E w op t (isConstOp x || isConstOp y) p q
  | .unOp op _ x => bindX (σ.ev x) fun p => unX w op p
  | .convert s d x => bindX (σ.ev x) fun p => convY E w σ s d p
  | .makeInterface t x => guardB (E.ti t).k.concrete (bindX (σ.ev x) fun v => outE w { val := .iface t v } [])
  | .makeFunc fn p q => bindX (evL σ.ev p.toList) fun ps => bindX (evL σ.ev q.toList) fun qs => outE w { val := .fn fn ps qs } []
  | .makeSlice t x y => bindX (σ.ev x) fun p => bindX (σ.ev y) fun q =>
    match p, q, (E.ti t).k with
    | .leaf (.int _ n), .leaf (.int _ c), .slice el => addP (0 ≤ n ∧ n ≤ c ∧ c < 9223372036854775808 ∧ ((E.ti el).bytes : Int) * c ≤ 281474976710656)
        (withC w (zerosT (E.ti el).zero n.toNat) fun cs => outG w (E.ti el).size n.toNat cs [])
    | _, _, _ => none
  | .slice t x lo hi mx => bindX (σ.ev x) fun p => bindX (evB σ.ev lo) fun rl => bindX (evB σ.ev hi) fun rh => bindX (evB σ.ev mx) fun rm => sliceX E w σ rl rh rm mx.isNone (E.ti t).k p
  | .sliceToArrayPointer t x => bindX (σ.ev x) fun p => arrAtX w (E.ti t).k p
  | .fieldAddr s x f => bindX (σ.ev x) fun p =>
    match (E.ti s).k with
    | .struct fs => bindX fs[f]? fun r => guardB (Nat.blt 0 (E.ti r.2).size) (addrX w r.1 p)
    | _ => none
  | .field s x f => bindX (σ.ev x) fun p =>
    match p, (E.ti s).k with
    | .agg cs, .struct fs => bindX fs[f]? fun r => partX w (E.ti r.2) cs r.1 []
    | _, _ => none
  | .indexAddr t x y => bindX (σ.ev x) fun p => bindX (σ.ev y) fun q =>
    match q with
    | .leaf (.int _ n) => indexAddrX E w n (E.ti t).k p
    | _ => none
  | .index t x y => bindX (σ.ev x) fun p => bindX (σ.ev y) fun q =>
    match q with
    | .leaf (.int _ n) => indexX E w n (E.ti t).k p
    | _ => none
  | .extract x i => bindX (σ.ev x) fun p =>
    match p with
    | .tup cs => bindX cs[i]? fun v => outE w { val := v } []
    | _ => none
  | .call { callee := .builtin b, args := xs, argTypes := ts } => builtinX E w σ b xs.toList ts.toList
  | .call { callee := .value f, args := xs, argTypes := _ } => callX E w σ f xs.toList
  | _ => none
theorem notNo {k : K} (h : (!k.isNo) = true) : k ≠ .no := by rintro rfl; simp [K.isNo] at h
theorem acts_eqEr {P : Program} {o : Oper} {ev : Operand → Option T} {h : Nat → Option (List T)} {reads : List Nat} {op : BinOp} {t yt : TypeId} {x y : Operand} {ty : TypeId} {n : Int} {i : TI}
    (ho : o.op = .binOp op t x y yt) (hop : op = .eql ∨ op = .neq) (hx : ev x = some (er ty n)) (hy : ev y = some (.leaf .nilIface)) (ht : TOk P t i) (hk : i.k = .iface) (hc : (isConstOp x || isConstOp y) = true) :
    Acts P o ev h reads { val := .leaf (.bool (if op = .eql then decide (n = 0) else !decide (n = 0))) } := by
  by_cases hn : n = 0
  · subst hn
    rw [er_zero] at hx
    simpa using acts_eqTo (r := true) ho hop hx hy ht (by simpa [eqK] using hk) (by simp [eqTo, hc])
  · rw [er_ne hn] at hx
    simpa [hn] using acts_eqTo (r := false) ho hop hx hy ht (by simpa [eqK] using hk) (by simp [eqTo])
end Go.Vw
namespace Go.Vw
open Go Go.RowKit
section
variable {E : Env} {σ : St} {o : Oper} {w : Wt}
abbrev AX (E : Env) (σ : St) (o : Oper) : Eff → List Nat → Prop := fun e r => Acts E.P o σ.ev σ.h r e
theorem eqX_ok {op : BinOp} {t yt : TypeId} {x y : Operand} {p q : T} (ho : o.op = .binOp op t x y yt) (hx : σ.ev x = some p) (hy : σ.ev y = some q) : Ok (eqX E w op t (isConstOp x || isConstOp y) p q) (AX E σ o) := by
  have hne : eqK p (E.ti t).k → (E.ti t).k ≠ .no := fun h => by
    unfold eqK at h
    split at h
    · exact ne_no h (by simp)
    · exact ne_no h (by simp)
    · obtain ⟨e, h⟩ := h; exact ne_no h (by simp)
    · obtain ⟨_, e, h⟩ := h; exact ne_no h (by simp)
    · obtain ⟨e, h⟩ := h; exact ne_no h (by simp)
  unfold eqX
  split
  · exact Ok.bindX fun r hr => Ok.addP fun hk => Ok.outE (by simpa using acts_eqTo ho (.inl rfl) hx hy (E.TOk (hne hk)) hk hr)
  · exact Ok.bindX fun r hr => Ok.addP fun hk => Ok.outE (by simpa using acts_eqTo ho (.inr rfl) hx hy (E.TOk (hne hk)) hk hr)
  · exact Ok.none
theorem aggX_ok {op : BinOp} {t yt : TypeId} {x y : Operand} {cs ds : List T} (ho : o.op = .binOp op t x y yt) (hx : σ.ev x = some (.agg cs)) (hy : σ.ev y = some (.agg ds)) : Ok (aggX E w op t cs ds) (AX E σ o) := by
  unfold aggX
  split
  · rename_i ks ht ha hg hop
    have hop : op = .eql ∨ op = .neq := by cases op <;> simp at hop <;> simp
    split
    · rename_i r hv
      intro c e q h' hc
      simp only [Option.some.injEq, Prod.mk.injEq] at h'; obtain ⟨rfl, rfl, rfl⟩ := h'
      cases hc with | cons hp _ =>
        simp only [Option.map_eq_some_iff] at hp
        obtain ⟨b, hb, rfl⟩ := hp
        exact acts_eqAgg ho hop hx hy ht ha hg hb
    · exact Ok.bindX fun r hr => Ok.some (acts_eqAgg ho hop hx hy ht ha hg hr)
  · exact Ok.none
theorem binX_ok {op : BinOp} {t yt : TypeId} {x y : Operand} {p q : T} (ho : o.op = .binOp op t x y yt) (hx : σ.ev x = some p) (hy : σ.ev y = some q) : Ok (binX E w op t (isConstOp x || isConstOp y) p q) (AX E σ o) := by
  unfold binX
  split
  · exact aggX_ok ho hx hy
  · exact Ok.guardB fun hk => Ok.bindX fun r hr => Ok.addP fun hC => Ok.outE (acts_binI (C := r.1) (v := r.2) ho hx hy (by simpa using hk) hr hC)
  · exact Ok.bindX fun r hr => Ok.addP fun hC => Ok.outE (acts_binS (C := r.1) (v := r.2) ho hx hy hr hC)
  · split
    · rename_i hk; exact Ok.outE (by simpa using acts_binB ho hx hy ⟨_, E.TOk (ne_no hk (by simp)), hk⟩ (.inl rfl))
    · rename_i hk; exact Ok.outE (by simpa using acts_binB ho hx hy ⟨_, E.TOk (ne_no hk (by simp)), hk⟩ (.inr rfl))
    · exact Ok.none
  · exact eqX_ok ho hx hy
theorem erX_ok {op : BinOp} {t yt : TypeId} {x y : Operand} {p q : T} {ty : TypeId} {n : Int} (ho : o.op = .binOp op t x y yt) (hx : σ.ev x = some p) (hy : σ.ev y = some q) : Ok (erX E w op t (isConstOp x || isConstOp y) p q ty n) (AX E σ o) := by
  unfold erX
  split
  · rename_i hk hc
    split
    · exact Ok.addP fun ⟨h1, h2⟩ => Ok.outE (by subst h1; subst h2; simpa using acts_eqEr ho (.inl rfl) hx hy (E.TOk (ne_no hk (by simp))) hk hc)
    · exact Ok.addP fun ⟨h1, h2⟩ => Ok.outE (by subst h1; subst h2; simpa using acts_eqEr ho (.inr rfl) hx hy (E.TOk (ne_no hk (by simp))) hk hc)
    · exact Ok.none
  · exact Ok.none
theorem unX_ok {op : UnOp} {t : TypeId} {x : Operand} {p : T} (ho : o.op = .unOp op t x) (hx : σ.ev x = some p) : Ok (unX w op p) (AX E σ o) := by
  unfold unX
  split
  · exact Ok.outE (acts_not ho hx)
  · exact Ok.outE (acts_neg ho hx)
  · exact Ok.outE (acts_com ho hx)
  · exact Ok.none
theorem fitsX_ok {h : Nat → Option (List T)} {m : Nat} {q : T} {x : Res1} {A : Eff → List Nat → Prop} (hx : srcFits h m q → Ok x A) : Ok (fitsX w h m q x) A := by
  unfold fitsX
  split
  · exact Ok.guardB fun e => hx (by simpa [srcFits] using e)
  · exact Ok.guardB fun e => Ok.bindX fun cs hc => Ok.guardN fun hl => hx (by simp only [srcFits]; exact ⟨by simpa using e, cs, hc, hl⟩)
  · exact Ok.guardB fun e => hx (by simpa [srcFits] using e)
  · rename_i h1 h2 h3
    refine hx ?_
    cases q with
    | sl m' g n cs => exact (h1 _ _ _ _ rfl).elim
    | ref id m' off n => exact (h2 _ _ _ _ rfl).elim
    | leaf v => cases v <;> first | exact (h3 _ rfl).elim | exact trivial
    | _ => exact trivial
theorem convX_ok {s d : TypeId} {x : Operand} {p : T} (ho : o.op = .convert s d x) (hx : σ.ev x = some p) : Ok (convX E w σ (E.ti s).k (E.ti d).k p) (AX E σ o) := by
  unfold convX
  split
  · rename_i hs hd
    exact Ok.outE (acts_convI ho hx ⟨_, _, E.TOk (ne_no hs (by simp)), hs⟩ ⟨_, E.TOk (ne_no hd (by simp)), hd⟩)
  · rename_i hs hd
    exact Ok.outE (acts_convS ho hx ⟨_, E.TOk (ne_no hs (by simp)), hs⟩ ⟨_, E.TOk (ne_no hd (by simp)), hd⟩)
  · rename_i e p hs hd
    split
    · rename_i hk hstr
      refine Ok.bindX fun r hr => fitsX_ok fun hf => Ok.addP fun hb => Ok.outE ?_
      rw [← strOf_u8s]
      exact acts_convBS ho hx (E.TOk (ne_no hs (by simp))) hs (E.TOk (ne_no hk (by simp))) hk (E.TOk (ne_no hd (by simp))) hd (fun j hj => hj) (isStr_false hstr) (by rw [hr, ← u8s_bs, ← hb]) hf
    · exact Ok.none
  · rename_i e b hs hd
    split
    · rename_i hk
      refine Ok.withC (Ok.outG ?_)
      exact acts_convSB ho hx (E.TOk (ne_no hs (by simp))) hs (E.TOk (ne_no hd (by simp))) hd (E.TOk (ne_no hk (by simp))) hk (by simp)
    · exact Ok.none
  · exact Ok.none
theorem convY_ok {s d : TypeId} {x : Operand} {p : T} (ho : o.op = .convert s d x) (hx : σ.ev x = some p) : Ok (convY E w σ s d p) (AX E σ o) := by
  unfold convY
  split
  · rename_i e id m off n hb hk
    have hsd : s = d := by simpa using hb
    subst hsd
    split
    · rename_i hk'
      refine Ok.guardB fun hg => Ok.bindX fun cs hcs => ?_
      simp only [Bool.and_eq_true, Nat.blt_eq] at hg
      split
      · exact Ok.addP fun hc => Ok.outE (Acts.giveStay (by simp) hcs hc.1 hc.2 (acts_convSS ho hx (E.TOk (ne_no hk (by simp))) hk (E.TOk (ne_no hk' (by simp))) hk' (by simp) hcs hg.1 hg.2))
      · exact Ok.some (acts_convSS ho hx (E.TOk (ne_no hk (by simp))) hk (E.TOk (ne_no hk' (by simp))) hk' (by simp) hcs hg.1 hg.2)
    · exact Ok.none
  · exact convX_ok ho hx
theorem sliceX_ok {t : TypeId} {x : Operand} {lo hi mx : Option Operand} {rl rh rm : Option Int} {p : T} (ho : o.op = .slice t x lo hi mx) (hx : σ.ev x = some p) (hl : evB σ.ev lo = some rl) (hh : evB σ.ev hi = some rh) (hm : evB σ.ev mx = some rm) :
    Ok (sliceX E w σ rl rh rm mx.isNone (E.ti t).k p) (AX E σ o) := by
  unfold sliceX
  split
  · rename_i el id m off n hk
    refine Ok.guardB fun e => ?_
    split
    · refine Ok.bindX fun cs hcs => Ok.cutX fun l h mm hc => Ok.addP fun hq => Ok.outE ?_
      refine Acts.giveLook (by simp) hcs hq.1 hq.2 ?_
      exact acts_sliceRef ho hx hl hh hm (E.TOk (ne_no hk (by simp))) hk (E.TOk (E.sl _ _ hk)) (by simpa using e) hc
    · refine Ok.cutX fun l h mm hc => Ok.outE ?_
      exact acts_sliceRef ho hx hl hh hm (E.TOk (ne_no hk (by simp))) hk (E.TOk (E.sl _ _ hk)) (by simpa using e) hc
  · rename_i el m g n cs hk
    refine Ok.guardB fun e => Ok.cutX fun l h mm hc => Ok.outE ?_
    exact acts_sliceSl ho hx hl hh hm (E.TOk (ne_no hk (by simp))) hk (E.TOk (E.sl _ _ hk)) (by simpa using e) hc
  · rename_i el hk
    refine Ok.cutX fun l h mm hc => Ok.outE ?_
    have : l = 0 ∧ h = 0 ∧ mm = 0 := by obtain ⟨_, _, _, a, b, c, _⟩ := hc; omega
    obtain ⟨rfl, rfl, rfl⟩ := this
    exact acts_sliceNil ho hx hl hh hm (E.TOk (ne_no hk (by simp))) hk (E.TOk (E.sl _ _ hk)) hc
  · rename_i N el id off hk
    refine Ok.bindX fun cs hcs => Ok.guardN fun hle => ?_
    split
    · refine Ok.cutX fun l h mm hc => Ok.addP fun hq => Ok.outE ?_
      refine Acts.giveLook (by simp) hcs hq.1 hq.2 ?_
      exact acts_sliceArr ho hx hl hh hm (E.TOk (ne_no hk (by simp))) hk (E.TOk (E.ar _ _ _ hk)) (by simp) hcs hle hc
    · refine Ok.cutX fun l h mm hc => Ok.outE ?_
      exact acts_sliceArr ho hx hl hh hm (E.TOk (ne_no hk (by simp))) hk (E.TOk (E.ar _ _ _ hk)) (by simp) hcs hle hc
  · rename_i N el g off cs hk
    refine Ok.guardN fun hle => Ok.cutX fun l h mm hc => Ok.outE ?_
    exact acts_slicePt ho hx hl hh hm (E.TOk (ne_no hk (by simp))) hk (E.TOk (E.ar _ _ _ hk)) hle hc
  · rename_i s hk
    refine Ok.guardB fun hn => ?_
    cases mx with
    | some m => simp at hn
    | none =>
      simp only [evB, Option.some.injEq] at hm; subst hm
      refine Ok.cutX fun l h mm hc => Ok.outE ?_
      have e : mm = s.size := by obtain ⟨_, _, c, _⟩ := hc; simp at c; omega
      subst e
      exact acts_sliceStr ho hx hl hh (E.TOk (ne_no hk (by simp))) hk hc
  · exact Ok.none
theorem arrAtX_ok {t : TypeId} {x : Operand} {p : T} (ho : o.op = .sliceToArrayPointer t x) (hx : σ.ev x = some p) : Ok (arrAtX w (E.ti t).k p) (AX E σ o) := by
  unfold arrAtX
  split
  · rename_i N el m g n cs hk
    exact Ok.guardB fun h0 => Ok.addP fun h1 => Ok.outE (acts_arrayAtSl ho hx (E.TOk (ne_no hk (by simp))) hk (by simpa [Nat.blt_eq] using h0) h1)
  · rename_i N el id m off n hk
    exact Ok.guardB fun h0 => Ok.addP fun h1 => Ok.outE (acts_arrayAtRef ho hx (E.TOk (ne_no hk (by simp))) hk (by simpa [Nat.blt_eq] using h0) h1)
  · exact Ok.none
theorem indexAddrX_ok {t : TypeId} {x y : Operand} {k : IntKind} {n : Int} {p : T} (ho : o.op = .indexAddr t x y) (hx : σ.ev x = some p) (hy : σ.ev y = some (.leaf (.int k n))) : Ok (indexAddrX E w n (E.ti t).k p) (AX E σ o) := by
  unfold indexAddrX
  split
  · rename_i N el id off hk
    exact Ok.addP fun ⟨h0, h1⟩ => Ok.outE (acts_indexArr ho hx hy (E.TOk (ne_no hk (by simp))) hk (E.TOk (E.ar _ _ _ hk)) h0 h1)
  · rename_i N el g off cs hk
    exact Ok.addP fun ⟨h0, h1⟩ => Ok.outE (acts_indexArrP ho hx hy (E.TOk (ne_no hk (by simp))) hk (E.TOk (E.ar _ _ _ hk)) h0 h1)
  · rename_i el id m off N hk
    exact Ok.guardB fun e => Ok.addP fun ⟨h0, h1⟩ => Ok.outE (acts_indexRef ho hx hy (E.TOk (ne_no hk (by simp))) hk (E.TOk (E.sl _ _ hk)) (by simpa using e) h0 h1)
  · rename_i el m g N cs hk
    exact Ok.guardB fun e => Ok.addP fun ⟨h0, h1⟩ => Ok.outE (acts_indexSl ho hx hy (E.TOk (ne_no hk (by simp))) hk (E.TOk (E.sl _ _ hk)) (by simpa using e) h0 h1)
  · exact Ok.none
theorem indexX_ok {t : TypeId} {x y : Operand} {k : IntKind} {n : Int} {p : T} (ho : o.op = .index t x y) (hx : σ.ev x = some p) (hy : σ.ev y = some (.leaf (.int k n))) : Ok (indexX E w n (E.ti t).k p) (AX E σ o) := by
  unfold indexX
  split
  · rename_i N el cs hk
    exact Ok.addP fun ⟨h0, h1⟩ => Ok.partX fun v hv => acts_indexAgg ho hx hy (E.TOk (ne_no hk (by simp))) hk (E.TOk (E.ar _ _ _ hk)) h0 h1 hv
  · rename_i b hk
    split
    · exact Ok.addP fun ⟨h0, h1⟩ => Ok.some (acts_indexStr ho hx hy (E.TOk (ne_no hk (by simp))) hk h0 h1)
    · exact Ok.none
  · exact Ok.none
theorem storeX_ok {t : TypeId} {x y : Operand} {p v : T} (h0 : (E.ti t).k ≠ .no) (ho : o.op = .store t x y) (hx : σ.ev x = some p) (hy : σ.ev y = some v) : Ok (storeX w (E.ti t) σ v p) (AX E σ o) := by
  unfold storeX
  split
  · refine Ok.bindX fun cs hcs => Ok.guardB fun h1 => Ok.guardS fun h2 => Ok.guardN fun h3 => Ok.guardN fun h4 => Ok.guardN fun h5 => Ok.withC (Ok.some ?_)
    exact acts_store ho (E.TOk h0) hx hy (by simp) hcs h1 h2 (by omega) h5
  · exact Ok.none
theorem appendX_ok {t u : TypeId} {x y : Operand} {p q : T} (ho : o.op = .call { callee := .builtin .append, args := #[x, y], argTypes := #[t, u] }) (hx : σ.ev x = some p) (hy : σ.ev y = some q) : Ok (appendX E w σ u p q (E.ti t).k) (AX E σ o) := by
  unfold appendX
  split
  · rename_i el hk
    refine Ok.guardB fun hg => Ok.bindX fun r hr => fitsX_ok fun hf => ?_
    simp only [Bool.and_eq_true] at hg
    have hu : (E.ti u).k ≠ .no ∧ ((∃ e, (E.ti u).k = .slice e) ∨ (E.ti u).k = .str) := by
      have := hg.1
      unfold strOrSlice at this
      split at this
      · rename_i e h; exact ⟨ne_no h (by simp), .inl ⟨_, h⟩⟩
      · rename_i h; exact ⟨ne_no h (by simp), .inr h⟩
      · simp at this
    have hby : 0 < (E.ti el).bytes := by simpa [Nat.blt_eq] using hg.2
    have he := E.TOk (E.sl _ _ hk)
    have nm : ∀ {n : Nat} {l : List Nat}, memN n l = false → n ∉ l := fun e hm => by rw [memN_iff.2 hm] at e; simp at e
    split
    · exact Ok.addP fun hb => Ok.guardB fun hn => Ok.withC (Ok.outG (acts_append0 ho hx (.inl rfl) hy (E.TOk (ne_no hk (by simp))) hk ⟨_, E.TOk hu.1, hu.2⟩ he he.zlen (fun j hj => hj) hr hf hb hby (nm (by simpa using hn))))
    · exact Ok.addP fun hb => Ok.guardB fun hn => Ok.withC (Ok.outG (acts_append0 ho hx (.inr rfl) hy (E.TOk (ne_no hk (by simp))) hk ⟨_, E.TOk hu.1, hu.2⟩ he he.zlen (fun j hj => hj) hr hf hb hby (nm (by simpa using hn))))
    · rename_i id m off n
      refine Ok.guardB fun hm => Ok.bindX fun c0 hc0 => Ok.guardN fun hoff => Ok.guardS fun hsc => Ok.addP fun hb => Ok.guardB fun hd => Ok.withC (Ok.memNot fun hni => Ok.outE ?_)
      have hm' : (E.ti el).size = m := by simpa using hm
      refine acts_append ho hx hy (E.TOk (ne_no hk (by simp))) hk ⟨_, E.TOk hu.1, hu.2⟩ he hm' he.zlen (by simp) hc0 hoff (fun j hj => List.mem_cons_of_mem _ hj) hr (by rw [← hm']; exact hf) hsc hb hby ?_ hni
      simp only [Bool.or_eq_true, Nat.beq_eq, Bool.not_eq_true'] at hd
      exact hd.imp (fun h => h) nm
    · exact Ok.none
  · exact Ok.none
theorem appMakeX_ok {t u : TypeId} {x y : Operand} {p q : T} (ho : o.op = .call { callee := .builtin .append, args := #[x, y], argTypes := #[t, u] }) (hx : σ.ev x = some p) (hy : σ.ev y = some q) : Ok (appMakeX E w u p q (E.ti t).k) (AX E σ o) := by
  unfold appMakeX
  split
  · rename_i el hk
    refine Ok.guardB fun hg => ?_
    simp only [Bool.and_eq_true] at hg
    obtain ⟨kk, hu⟩ := isIntK_ok hg.1
    have hby : 0 < (E.ti el).bytes := by simpa [Nat.blt_eq] using hg.2
    have he := E.TOk (E.sl _ _ hk)
    split
    · exact Ok.addP fun ⟨h0, hb⟩ => Ok.withC (Ok.outG (acts_appendMake ho hx (.inl rfl) hy (E.TOk (ne_no hk (by simp))) hk ⟨_, E.TOk (ne_no hu (by simp)), hu⟩ he he.zlen h0 hb hby (by simp)))
    · exact Ok.addP fun ⟨h0, hb⟩ => Ok.withC (Ok.outG (acts_appendMake ho hx (.inr rfl) hy (E.TOk (ne_no hk (by simp))) hk ⟨_, E.TOk (ne_no hu (by simp)), hu⟩ he he.zlen h0 hb hby (by simp)))
    · exact Ok.none
  · exact Ok.none
theorem copyX_ok {t u : TypeId} {x y : Operand} {p q : T} (ho : o.op = .call { callee := .builtin .copy, args := #[x, y], argTypes := #[t, u] }) (hx : σ.ev x = some p) (hy : σ.ev y = some q) : Ok (copyX E w σ q (E.ti t).k p) (AX E σ o) := by
  unfold copyX
  split
  · rename_i el id m off n hk
    refine Ok.guardB fun hm => Ok.bindX fun c0 hc0 => Ok.guardN fun hoff => Ok.bindX fun r hr => fitsX_ok fun hf => Ok.guardS fun hsc => Ok.withC (Ok.outE ?_)
    have he := E.TOk (E.sl _ _ hk)
    exact acts_copy ho hx hy (E.TOk (ne_no hk (by simp))) hk he (by simpa using hm) (by simp) hc0 hoff (fun j hj => List.mem_cons_of_mem _ hj) hr hf hsc
  · exact Ok.none
theorem lenX_ok {t : TypeId} {x : Operand} (ho : o.op = .call { callee := .builtin .len, args := #[x], argTypes := #[t] }) : Ok (lenX w σ x (E.ti t).k) (AX E σ o) := by
  unfold lenX
  split
  · rename_i hk
    exact Ok.outE (acts_lenArr ho (E.TOk (ne_no hk (by simp))) hk)
  · rename_i e hk
    refine Ok.bindX fun p hp => Ok.bindX fun n hn => Ok.guardB fun hs => Ok.outE ?_
    exact acts_lenSrc ho hp (E.TOk (ne_no hk (by simp))) (.inl ⟨e, hk⟩) hn (by rw [hk]; simpa using isStr_false (by simpa using hs))
  · rename_i hk
    refine Ok.bindX fun p hp => Ok.bindX fun n hn => Ok.guardB fun hs => Ok.outE ?_
    exact acts_lenSrc ho hp (E.TOk (ne_no hk (by simp))) (.inr hk) hn (by rw [hk]; simpa using isStr_true hs)
  · exact Ok.none
theorem builtinX_ok {b : Builtin} {xs : Array Operand} {ts : Array TypeId} (ho : o.op = .call { callee := .builtin b, args := xs, argTypes := ts }) : Ok (builtinX E w σ b xs.toList ts.toList) (AX E σ o) := by
  obtain ⟨xs⟩ := xs
  obtain ⟨ts⟩ := ts
  simp only
  unfold builtinX
  split
  · rename_i x t; exact lenX_ok (by simpa using ho)
  · rename_i x t
    refine Ok.bindX fun p hp => ?_
    unfold capX
    split
    · rename_i e hk
      exact Ok.outE (acts_capNil (by simpa using ho) hp (E.TOk (ne_no hk (by simp))) hk)
    · exact Ok.none
  · rename_i x y t u
    refine Ok.bindX fun p hp => Ok.bindX fun q hq => ?_
    split
    · exact appMakeX_ok (by simpa using ho) hp hq
    · exact appendX_ok (by simpa using ho) hp hq
  · rename_i x y t u
    exact Ok.bindX fun p hp => Ok.bindX fun q hq => copyX_ok (u := u) (by simpa using ho) hp hq
  · rename_i x y _
    refine Ok.bindX fun p hp => Ok.bindX fun q hq => ?_
    unfold minmaxX
    split
    · exact Ok.outE (by simpa using acts_minmax (b := .min) ho (.inl rfl) hp hq)
    · exact Ok.none
  · rename_i x y _
    refine Ok.bindX fun p hp => Ok.bindX fun q hq => ?_
    unfold minmaxX
    split
    · exact Ok.outE (by simpa using acts_minmax (b := .max) ho (.inr rfl) hp hq)
    · exact Ok.none
  · exact Ok.none
theorem callX_ok {fo : Operand} {xs : Array Operand} {ts : Array TypeId} (ho : o.op = .call { callee := .value fo, args := xs, argTypes := ts }) : Ok (callX E w σ fo xs.toList) (AX E σ o) := by
  unfold callX
  refine Ok.bindX fun x hx => Ok.bindX fun c hc => Ok.bindX fun AV hA => Ok.bindX fun k hk => Ok.bindX fun H hH => Ok.addP fun hM => Ok.snapQ fun hsO => Ok.addP fun hAi => Ok.closedP fun hcl => Ok.noBX fun hnb => Ok.guardB fun hg => Ok.outE ?_
  obtain ⟨f, p, q⟩ := c
  rw [snapX_eq] at hM hAi
  simp only [Bool.and_eq_true] at hg
  obtain ⟨⟨⟨⟨g1, g2⟩, g3⟩, g4⟩, g5⟩ := hg
  obtain ⟨hids, hlk⟩ := takeH_spec hH
  have := acts_call (o := o) (ev := σ.ev) (h := σ.h) hM ho hx hc hA rfl hsO hlk (fun i cs e j hj => look_of_mem (by rw [hids]; exact hcl _ (look_mem e) j hj)) (fun i hi => look_of_mem (by rw [hids]; exact subN_spec hAi i hi))
    (fun i hi => look_none (by rw [hids]; exact disjN_spec g1 i hi)) hnb g3 (fun i hi => ⟨look_of_mem (by rw [hids]; exact subN_spec g4 i hi), look_of_mem (subN_spec g5 i hi)⟩) (fun i hi => look_none (disjN_spec g2 i hi))
  rw [hids] at this
  exact this
set_option maxHeartbeats 1000000 in
theorem exec1_ok : Ok (exec1 E σ w o.op) (AX E σ o) := by
  obtain ⟨dst, op, type, pos, after, guard⟩ := o
  simp only
  unfold exec1
  split
  · exact Ok.bindX fun t ht => Ok.outE (acts_move (.inl rfl) ht)
  · exact Ok.bindX fun t ht => Ok.outE (acts_move (.inr rfl) ht)
  · refine Ok.bindX fun p hp => ?_
    split
    · exact Ok.bindX fun t ht => Ok.outE (acts_pick (b := true) rfl hp (by simpa using ht))
    · exact Ok.bindX fun t ht => Ok.outE (acts_pick (b := false) rfl hp (by simpa using ht))
    · exact Ok.none
  · exact Ok.guardB fun h0 => Ok.withC (Ok.outE (acts_alloc rfl (E.TOk (notNo h0)) (by simp)))
  · refine Ok.bindX fun v hv => Ok.guardB fun hc => Ok.withC ?_
    split
    · exact Ok.outE (acts_box rfl hv hc (by simp))
    · exact Ok.addP fun hq => Ok.outE (Acts.givePt (by simp) hq (acts_box rfl hv hc (by simp)))
  · refine Ok.bindX fun ts hts => ?_
    unfold buildX
    split
    · rename_i fs hk
      exact Ok.fillX fun cs hcs => Ok.outE (acts_buildS rfl (E.TOk (ne_no hk (by simp))) hk hts (fun f hf => E.TOk (E.st _ _ hk f hf)) hcs)
    · rename_i n el hk
      exact Ok.fillX fun cs hcs => Ok.outE (acts_buildA rfl (E.TOk (ne_no hk (by simp))) hk (E.TOk (E.ar _ _ _ hk)) hts hcs)
    · exact Ok.none
  · refine Ok.bindX fun ts hts => ?_
    split
    · rename_i el hk
      refine Ok.guardB fun hb => Ok.fillX fun cs hcs => Ok.outG ?_
      have he := E.TOk (E.sl _ _ hk)
      exact acts_buildSlice rfl (E.TOk (ne_no hk (by simp))) hk he hts he.zlen (Nat.le_of_ble_eq_true hb) hcs (by simp)
    · exact Ok.none
  · refine Ok.guardB fun h0 => Ok.bindX fun p hp => ?_
    split
    · exact Ok.bindX fun cs hcs => Ok.partX fun v hv => acts_load rfl (E.TOk (notNo h0)) hp (by simp) hcs hv
    · exact Ok.partX fun v hv => acts_loadP rfl (E.TOk (notNo h0)) hp hv
    · exact Ok.none
  · exact Ok.guardB fun h0 => Ok.bindX fun p hp => Ok.bindX fun v hv => storeX_ok (notNo h0) rfl hp hv
  · exact Ok.bindX fun p hp => Ok.guardB fun h => Ok.outE (acts_nilCheck rfl hp h)
  · refine Ok.bindX fun p hp => Ok.bindX fun q hq => ?_
    split
    · exact erX_ok rfl hp hq
    · exact binX_ok rfl hp hq
  · exact Ok.bindX fun p hp => unX_ok rfl hp
  · exact Ok.bindX fun p hp => convY_ok rfl hp
  · rename_i t x
    exact Ok.guardB fun h0 => Ok.bindX fun v hv => Ok.outE (acts_makeIface rfl hv ⟨_, E.TOk (fun e => by rw [e] at h0; simp [K.concrete] at h0), h0⟩)
  · exact Ok.bindX fun ps hp => Ok.bindX fun qs hq => Ok.outE (acts_makeFunc rfl hp hq)
  · refine Ok.bindX fun p hp => Ok.bindX fun q hq => ?_
    split
    · rename_i el hk
      refine Ok.addP fun ⟨h1, h2, h3, h4⟩ => Ok.withC (Ok.outG ?_)
      have he := E.TOk (E.sl _ _ hk)
      exact acts_makeSlice rfl hp hq (E.TOk (ne_no hk (by simp))) hk he he.zlen h1 h2 h3 h4 (by simp)
    · exact Ok.none
  · exact Ok.bindX fun p hp => Ok.bindX fun rl hl => Ok.bindX fun rh hh => Ok.bindX fun rm hm => sliceX_ok rfl hp hl hh hm
  · exact Ok.bindX fun p hp => arrAtX_ok rfl hp
  · refine Ok.bindX fun p hp => ?_
    split
    · rename_i fs hk
      refine Ok.bindX fun r hr => Ok.guardB fun hz => ?_
      have hz' : (E.ti r.2).size ≠ 0 := by have : 0 < (E.ti r.2).size := by simpa [Nat.blt_eq] using hz
                                           omega
      unfold addrX
      split
      · exact Ok.outE (acts_fieldAddr rfl hp (E.TOk (ne_no hk (by simp))) hk hr (E.TOk (E.st _ _ hk r (List.mem_of_getElem? hr))) hz')
      · exact Ok.outE (acts_fieldAddrP rfl hp (E.TOk (ne_no hk (by simp))) hk hr (E.TOk (E.st _ _ hk r (List.mem_of_getElem? hr))) hz')
      · exact Ok.none
    · exact Ok.none
  · refine Ok.bindX fun p hp => ?_
    split
    · rename_i cs fs hk
      exact Ok.bindX fun r hr => Ok.partX fun v hv => acts_field rfl hp (E.TOk (ne_no hk (by simp))) hk hr (E.TOk (E.st _ _ hk r (List.mem_of_getElem? hr))) hv
    · exact Ok.none
  · refine Ok.bindX fun p hp => Ok.bindX fun q hq => ?_
    split
    · exact indexAddrX_ok rfl hp hq
    · exact Ok.none
  · refine Ok.bindX fun p hp => Ok.bindX fun q hq => ?_
    split
    · exact indexX_ok rfl hp hq
    · exact Ok.none
  · refine Ok.bindX fun p hp => ?_
    split
    · exact Ok.bindX fun v hv => Ok.outE (acts_extract rfl hp hv)
    · exact Ok.none
  · exact builtinX_ok rfl
  · exact callX_ok (ts := _) rfl
  · exact Ok.none
end
end Go.Vw
namespace Go.Vw
open Go Go.RowKit
theorem memN_false {n : Nat} {l : List Nat} (h : memN n l = false) : n ∉ l := fun hm => by rw [memN_iff.2 hm] at h; simp at h
def purgeSX (ps : List Nat) (i : Nat) : List (Nat × T) → List Prop × List (Nat × T)
  | [] => ([], [])
  | (n, t) :: l =>
    match memN n ps with
    | true => ((memN i t.ids = false) :: (purgeSX ps i l).1, (n, t) :: (purgeSX ps i l).2)
    | false => ((purgeSX ps i l).1, (n, t.purge i) :: (purgeSX ps i l).2)
def purgeHX (pg : List Nat) (i : Nat) : List (Nat × List T) → List Prop × List (Nat × List T)
  | [] => ([], [])
  | (n, cs) :: l =>
    match Nat.beq n i with
    | true => purgeHX pg i l
    | false =>
      match memN n pg with
      | true => ((memN i (idsL cs) = false) :: (purgeHX pg i l).1, (n, cs) :: (purgeHX pg i l).2)
      | false => ((purgeHX pg i l).1, (n, purgeL i cs) :: (purgeHX pg i l).2)
theorem purgeSX_eq {ps : List Nat} {i : Nat} : ∀ (L : List (Nat × T)), AllP (purgeSX ps i L).1 → (purgeSX ps i L).2 = purgeS i L
  | [], _ => rfl
  | (n, t) :: l, h => by
    simp only [purgeSX] at h ⊢
    split at h
    · cases h with | cons h1 h2 => simp only [purgeS, purgeSX_eq l h2, T.purge_id t (memN_false h1)]
    · simp only [purgeS, purgeSX_eq l h]
theorem purgeHX_eq {pg : List Nat} {i : Nat} : ∀ (H : List (Nat × List T)), AllP (purgeHX pg i H).1 → (purgeHX pg i H).2 = purgeH i H
  | [], _ => rfl
  | (n, cs) :: l, h => by
    simp only [purgeHX] at h ⊢
    split at h
    · rename_i e
      have e : n = i := by simpa using e
      simp only [purgeH, if_pos e, purgeHX_eq l h]
    · rename_i e
      have e : ¬ n = i := fun e' => by rw [e'] at e; simp at e
      split at h
      · cases h with | cons h1 h2 => simp only [purgeH, if_neg e, purgeHX_eq l h2, purgeL_id cs (memN_false h1)]
      · simp only [purgeH, if_neg e, purgeHX_eq l h]
def drpX (ps pg : List Nat) : List Nat → List (Nat × T) → List (Nat × List T) → List Prop × List (Nat × T) × List (Nat × List T)
  | [], L, H => ([], L, H)
  | i :: is, L, H => ((purgeSX ps i L).1 ++ ((purgeHX pg i H).1 ++ (drpX ps pg is (purgeSX ps i L).2 (purgeHX pg i H).2).1), (drpX ps pg is (purgeSX ps i L).2 (purgeHX pg i H).2).2)
theorem drpX_eq {ps pg : List Nat} : ∀ (is : List Nat) (L : List (Nat × T)) (H : List (Nat × List T)), AllP (drpX ps pg is L H).1 → (stL L H).drops is = stL (drpX ps pg is L H).2.1 (drpX ps pg is L H).2.2
  | [], _, _, _ => rfl
  | i :: is, L, H, h => by
    simp only [drpX] at h ⊢
    obtain ⟨h1, h2⟩ := h.append
    obtain ⟨h2, h3⟩ := h2.append
    rw [St.drops, stL_drop, ← purgeSX_eq L h1, ← purgeHX_eq H h2]
    exact drpX_eq is _ _ h3
def setL (d : Option Nat) (x : T) (L : List (Nat × T)) : List (Nat × T) := match d with | none => L | some d => ins d x L
def putsL : List (Nat × List T) → List (Nat × List T) → List (Nat × List T)
  | [], H => H
  | (i, cs) :: ps, H => putsL ps (ins i cs H)
theorem setL_eq (d : Option Nat) (x : T) (L : List (Nat × T)) (H : List (Nat × List T)) : (stL L H).set d x = stL (setL d x L) H := by
  cases d with
  | none => rfl
  | some d => simp only [setL, stL, St.set, look_ins]
theorem putsL_eq : ∀ (ps : List (Nat × List T)) (L : List (Nat × T)) (H : List (Nat × List T)), (stL L H).puts ps = stL L (putsL ps H)
  | [], _, _ => rfl
  | (i, cs) :: ps, L, H => by
    simp only [St.puts, putsL]
    rw [← putsL_eq ps]
    congr 1
    simp only [stL, look_ins]
def aplX (ps pg : List Nat) (e : Eff) (d : Option Nat) (L : List (Nat × T)) (H : List (Nat × List T)) : List Prop × List (Nat × T) × List (Nat × List T) :=
  ((drpX ps pg e.drops L H).1, setL d e.val (drpX ps pg e.drops L H).2.1, putsL e.puts (drpX ps pg e.drops L H).2.2)
theorem aplX_eq {ps pg : List Nat} {e : Eff} {d : Option Nat} {L : List (Nat × T)} {H : List (Nat × List T)} (h : AllP (aplX ps pg e d L H).1) : e.apply (stL L H) d = stL (aplX ps pg e d L H).2.1 (aplX ps pg e d L H).2.2 := by
  simp only [aplX] at h ⊢
  rw [Eff.apply, drpX_eq _ _ _ h, putsL_eq, setL_eq]
def putB (h : Nat → Option (List T)) (S reads stay : List Nat) : List (Nat × List T) → Bool
  | [] => true
  | (i, _) :: l => (memN i stay || (!memN i S && (memN i reads || (h i).isNone))) && putB h S reads stay l
theorem putB_ok {h : Nat → Option (List T)} {S reads stay : List Nat} : ∀ {l : List (Nat × List T)}, putB h S reads stay l = true → putL h S reads stay l
  | [], _ => trivial
  | (i, cs) :: l, e => by
    simp only [putB, Bool.and_eq_true, Bool.or_eq_true, Bool.not_eq_true', Option.isNone_iff_eq_none] at e
    refine ⟨?_, putB_ok e.2⟩
    rcases e.1 with h1 | ⟨h1, h2⟩
    · exact .inl (memN_iff.1 h1)
    · exact .inr ⟨memN_false h1, h2.imp memN_iff.1 (fun h => h)⟩
structure Wr where
  ws : List (Nat × Wt) := []
  ps : List Nat := []
  pg : List Nat := []
  fd : Option (List Nat) := none
def wAt (ws : List (Nat × Wt)) (n : Nat) : Wt := match look ws n with | some w => w | none => {}
abbrev Res2 := Option (List Prop × List Mark × List (Nat × T) × List (Nat × List T))
def pre2 (cs : List Prop) (m : Mark) : Res2 → Res2
  | some (cs', ms, L, H) => some (cs ++ cs', m :: ms, L, H)
  | none => none
def flatAt (q : Option (List Nat)) (fo : List Nat) (L : List (Nat × T)) (t : Nat) : Bool := match memN t fo with | true => true | false => (match look L t with | some p => flatT q p | none => false)
def flatOps (q : Option (List Nat)) (fo : List Nat) (L : List (Nat × T)) : List Operand → Bool
  | [] => true
  | .tmp t :: l => flatAt q fo L t && flatOps q fo L l
  | _ :: l => flatOps q fo L l
def flatG (q : Option (List Nat)) (fo : List Nat) (ds : List (Option Nat)) (L : List (Nat × T)) : Option (Nat × Bool) → Bool
  | none => true
  | some (j, _) => match ds[j]? with | some (some d) => flatAt q fo L d | _ => true
def flatR (q : Option (List Nat)) (fl : List Nat) (H : List (Nat × List T)) : List Nat → Bool
  | [] => true
  | i :: l => (match outD q i with | true => (match memN i fl with | true => true | false => (match look H i with | some cs => flatL q cs | none => false)) | false => false) && flatR q fl H l
def clT (q : Option (List Nat)) (L : List (Nat × T)) (t : Nat) : Prop := match look L t with | some p => flatT q p = true | none => False
def clH (q : Option (List Nat)) (H : List (Nat × List T)) (i : Nat) : Prop := match look H i with | some cs => flatL q cs = true | none => False
def clV (q : Option (List Nat)) (v : T) : Bool → List Prop
  | true => [flatT q v = true]
  | false => []
def clC (q : Option (List Nat)) (w : Wt) (L : List (Nat × T)) (H : List (Nat × List T)) (e : Eff) : List Prop := w.fl.map (clH q H) ++ (w.fo.map (clT q L) ++ clV q e.val w.fv)
theorem allP_map {α : Type} {f : α → Prop} : ∀ {l : List α}, AllP (l.map f) → ∀ i ∈ l, f i
  | [], _, i, h => by cases h
  | j :: l, e, i, h => by
    cases e with
    | cons h1 h2 =>
      rcases List.mem_cons.1 h with rfl | h
      · exact h1
      · exact allP_map h2 i h
theorem clT_ok {q : Option (List Nat)} {L : List (Nat × T)} {t : Nat} (h : clT q L t) : ∃ p, look L t = some p ∧ flatT q p = true := by
  unfold clT at h
  split at h
  · rename_i p e; exact ⟨p, e, h⟩
  · exact h.elim
theorem clH_ok {q : Option (List Nat)} {H : List (Nat × List T)} {i : Nat} (h : clH q H i) : ∃ cs, look H i = some cs ∧ flatL q cs = true := by
  unfold clH at h
  split at h
  · rename_i p e; exact ⟨p, e, h⟩
  · exact h.elim
theorem flatR_ok {q : Option (List Nat)} {fl : List Nat} {H : List (Nat × List T)} (hf : ∀ i ∈ fl, clH q H i) : ∀ {l : List Nat}, flatR q fl H l = true → ∀ i ∈ l, outD q i = true ∧ ∃ cs, look H i = some cs ∧ flatL q cs = true
  | [], _, i, h => by cases h
  | j :: l, e, i, h => by
    simp only [flatR, Bool.and_eq_true] at e
    rcases List.mem_cons.1 h with rfl | h
    · have e := e.1
      split at e
      · rename_i q1
        split at e
        · rename_i q2; exact ⟨q1, clH_ok (hf _ (memN_iff.1 q2))⟩
        · split at e
          · rename_i cs q2; exact ⟨q1, cs, q2, e⟩
          · cases e
      · cases e
    · exact flatR_ok hf e.2 i h
def putsF (q : Option (List Nat)) : List (Nat × List T) → Bool
  | [] => true
  | (i, cs) :: l => outD q i && flatL q cs && putsF q l
theorem putsF_ok {q : Option (List Nat)} : ∀ {l : List (Nat × List T)}, putsF q l = true → ∀ p ∈ l, outD q p.1 = true ∧ flatL q p.2 = true
  | [], _, p, h => by cases h
  | (i, cs) :: l, e, p, h => by
    simp only [putsF, Bool.and_eq_true] at e
    rcases List.mem_cons.1 h with rfl | h
    · exact e.1
    · exact putsF_ok e.2 p h
mutual
theorem flatT_mono {q q' : Option (List Nat)} (h : ∀ i, outD q i = true → outD q' i = true) : ∀ (t : T), flatT q t = true → flatT q' t = true
  | .dead, e => by simp [flatT] at e
  | .leaf _, _ | .e0, _ | .sl .., _ | .pt .., _ => rfl
  | .agg cs, e => by simp only [flatT] at e ⊢; exact flatL_mono h cs e
  | .tup cs, e => by simp only [flatT] at e ⊢; exact flatL_mono h cs e
  | .iface _ v, e => by simp only [flatT] at e ⊢; exact flatT_mono h v e
  | .fn _ p r, e => by simp only [flatT, Bool.and_eq_true] at e ⊢; exact ⟨flatL_mono h p e.1, flatL_mono h r e.2⟩
  | .ref i _ _ _, e => by simp only [flatT] at e ⊢; exact h i e
  | .addr i _, e => by simp only [flatT] at e ⊢; exact h i e
theorem flatL_mono {q q' : Option (List Nat)} (h : ∀ i, outD q i = true → outD q' i = true) : ∀ (ts : List T), flatL q ts = true → flatL q' ts = true
  | [], _ => rfl
  | t :: ts, e => by simp only [flatL, Bool.and_eq_true] at e ⊢; exact ⟨flatT_mono h t e.1, flatL_mono h ts e.2⟩
end
theorem clH_mono {q q' : Option (List Nat)} (h : ∀ i, outD q i = true → outD q' i = true) {H : List (Nat × List T)} {i : Nat} (e : clH q H i) : clH q' H i := by
  unfold clH at e ⊢
  split at e
  · exact flatL_mono h _ e
  · exact e.elim
theorem clT_mono {q q' : Option (List Nat)} (h : ∀ i, outD q i = true → outD q' i = true) {L : List (Nat × T)} {i : Nat} (e : clT q L i) : clT q' L i := by
  unfold clT at e ⊢
  split at e
  · exact flatT_mono h _ e
  · exact e.elim
def cleanB (q : Option (List Nat)) (w : Wt) (ds : List (Option Nat)) (L : List (Nat × T)) (H : List (Nat × List T)) (o : Oper) (e : Eff) (r : List Nat) : Bool :=
  putsF q e.puts && flatR q w.fl H r && (w.fv || flatT q e.val) && flatOps q w.fo L o.op.operands.toList && flatG q w.fo ds L o.guard
theorem flatAt_ok {q : Option (List Nat)} {fo : List Nat} {L : List (Nat × T)} (hf : ∀ t ∈ fo, clT q L t) {t : Nat} (h : flatAt q fo L t = true) : ∃ p, look L t = some p ∧ flatT q p = true := by
  unfold flatAt at h
  split at h
  · rename_i e; exact clT_ok (hf _ (memN_iff.1 e))
  · split at h
    · rename_i p e; exact ⟨p, e, h⟩
    · cases h
theorem flatOps_ok {q : Option (List Nat)} {fo : List Nat} {L : List (Nat × T)} (hf : ∀ t ∈ fo, clT q L t) : ∀ {l : List Operand}, flatOps q fo L l = true → ∀ t, .tmp t ∈ l → ∃ p, look L t = some p ∧ flatT q p = true
  | [], _, t, h => by cases h
  | x :: l, e, t, h => by
    rcases List.mem_cons.1 h with h' | h'
    · subst h'
      simp only [flatOps, Bool.and_eq_true] at e
      exact flatAt_ok hf e.1
    · cases x with
      | tmp u => simp only [flatOps, Bool.and_eq_true] at e; exact flatOps_ok hf e.2 t h'
      | _ => simp only [flatOps] at e; exact flatOps_ok hf e t h'
theorem cleanB_ok {q q' : Option (List Nat)} (hq : ∀ i, outD q i = true → outD q' i = true) {w : Wt} {ds : List (Option Nat)} {L : List (Nat × T)} {H : List (Nat × List T)} {o : Oper} {e : Eff} {r : List Nat} {g : Bool} {c : List Nat} (hc : AllP (clC q w L H e)) (h : cleanB q' w ds L H o e r = true) : CleanAt q' ds (stL L H) (o, ⟨e, r, g, c⟩) := by
  obtain ⟨c1, c2⟩ := hc.append
  obtain ⟨c2, c3⟩ := c2.append
  have c1 : ∀ i ∈ w.fl, clH q' H i := fun i hi => clH_mono hq (allP_map c1 i hi)
  have c2 : ∀ t ∈ w.fo, clT q' L t := fun t ht => clT_mono hq (allP_map c2 t ht)
  simp only [cleanB, Bool.and_eq_true, Bool.or_eq_true] at h
  obtain ⟨⟨⟨⟨h1, h3⟩, h4⟩, h5⟩, h6⟩ := h
  have h4 : flatT q' e.val = true := by
    rcases h4 with h4 | h4
    · rw [h4] at c3; cases c3 with | cons h _ => exact flatT_mono hq _ h
    · exact h4
  refine ⟨⟨h4, putsF_ok h1⟩, flatR_ok c1 h3, fun t ht => flatOps_ok c2 h5 t (by simpa using ht), fun j b d hg hd => ?_⟩
  have hg : o.guard = some (j, b) := hg
  rw [hg] at h6
  simp only [flatG, hd] at h6
  exact flatAt_ok c2 h6
def clOf (F : Option (List Nat) → Bool) : List Nat → List Nat
  | [] => []
  | i :: l => match F (some [i]) with | true => i :: clOf F l | false => clOf F l
theorem clOf_sub (F : Option (List Nat) → Bool) : ∀ (l : List Nat), ∀ i ∈ clOf F l, i ∈ l
  | [], i, h => by cases h
  | j :: l, i, h => by
    simp only [clOf] at h
    split at h
    · rcases List.mem_cons.1 h with rfl | h
      · exact List.mem_cons_self ..
      · exact List.mem_cons_of_mem _ (clOf_sub F l i h)
    · exact List.mem_cons_of_mem _ (clOf_sub F l i h)
def clAll (F : Option (List Nat) → Bool) : Option (List Nat) → List Nat
  | none => []
  | some D => match F (some (clOf F D)) with | true => clOf F D | false => []
theorem clAll_ok {F : Option (List Nat) → Bool} {q : Option (List Nat)} (h : clAll F q ≠ []) : F (some (clAll F q)) = true ∧ ∀ i, outD q i = true → outD (some (clAll F q)) i = true := by
  cases q with
  | none => exact absurd rfl h
  | some D =>
    simp only [clAll] at h ⊢
    split at h
    · rename_i e
      rw [e]
      refine ⟨by first | exact e | rfl, fun i hi => ?_⟩
      simp only [outD, Bool.not_eq_true'] at hi ⊢
      cases hm : memN i (clOf F D) with
      | false => rfl
      | true => rw [memN_iff.2 (clOf_sub F D i (memN_iff.1 hm))] at hi; cases hi
    · exact absurd rfl h
def execs (E : Env) (S : List Nat) (ds : List (Option Nat)) (R : Wr) : List Oper → Nat → List (Nat × T) → List (Nat × List T) → Res2
  | [], _, L, H => some ([], [], L, H)
  | o :: l, n, L, H =>
    match guardT ds (stL L H) o.guard with
    | none => none
    | some false => pre2 [] ⟨[], [], [], []⟩ (execs E S ds R l (n + 1) (setL o.dst (.tup []) L) H)
    | some true =>
      match exec1 E (stL L H) (wAt R.ws n) o.op with
      | none => none
      | some (cs, e, r) =>
        match putB (look H) S r e.stay e.puts && dropB R.fd e.drops with
        | false => none
        | true => pre2 (cs ++ (clC R.fd (wAt R.ws n) L H e ++ (aplX R.ps R.pg e o.dst L H).1)) ⟨r, e.puts.map (·.1), e.drops, clAll (fun q => cleanB q (wAt R.ws n) ds L H o e r) R.fd⟩ (execs E S ds R l (n + 1) (aplX R.ps R.pg e o.dst L H).2.1 (aplX R.ps R.pg e o.dst L H).2.2)
theorem execs_runs {E : Env} {S : List Nat} {ds : List (Option Nat)} {R : Wr} : ∀ (l : List Oper) (n : Nat) (L : List (Nat × T)) (H : List (Nat × List T)) {cs : List Prop} {ms : List Mark} {L' : List (Nat × T)} {H' : List (Nat × List T)},
    execs E S ds R l n L H = some (cs, ms, L', H') → AllP cs →
    ∃ zs : List (Oper × Step), zs.map (·.1) = l ∧ Runs E S ds zs (stL L H) ∧ zs.map (·.2.mark) = ms ∧ zs.foldl (fun σ z => stp z σ) (stL L H) = stL L' H'
  | [], n, L, H, cs, ms, L', H', h, _ => by
    simp only [execs, Option.some.injEq, Prod.mk.injEq] at h
    obtain ⟨_, rfl, rfl, rfl⟩ := h
    exact ⟨[], rfl, trivial, rfl, rfl⟩
  | o :: l, n, L, H, cs, ms, L', H', h, hc => by
    have hpre : ∀ {c0 : List Prop} {m : Mark} {x : Res2}, pre2 c0 m x = some (cs, ms, L', H') → ∃ cs' ms', x = some (cs', ms', L', H') ∧ cs = c0 ++ cs' ∧ ms = m :: ms' := by
      intro c0 m x e
      unfold pre2 at e
      split at e
      · simp only [Option.some.injEq, Prod.mk.injEq] at e
        obtain ⟨rfl, rfl, rfl, rfl⟩ := e
        exact ⟨_, _, rfl, rfl, rfl⟩
      · simp at e
    simp only [execs] at h
    split at h
    · simp at h
    · rename_i hg
      obtain ⟨cs', ms', h1, rfl, rfl⟩ := hpre h
      obtain ⟨zs, z1, z2, z3, z4⟩ := execs_runs l (n + 1) _ _ h1 (by simpa using hc)
      have e0 : stp (o, (⟨{}, [], false, []⟩ : Step)) (stL L H) = stL (setL o.dst (.tup []) L) H := by
        rw [← setL_eq]; rfl
      refine ⟨(o, ⟨{}, [], false, []⟩) :: zs, by simp [z1], ⟨⟨hg, by simp, fun h => absurd rfl h⟩, by rw [e0]; exact z2⟩, by rw [List.map_cons, z3]; rfl, by rw [List.foldl_cons, e0]; exact z4⟩
    · rename_i hg
      split at h
      · simp at h
      · rename_i c1 e r hx
        split at h
        · simp at h
        · rename_i hp
          simp only [Bool.and_eq_true] at hp
          obtain ⟨cs', ms', h1, rfl, rfl⟩ := hpre h
          obtain ⟨hc1, hc2⟩ := hc.append
          obtain ⟨hc1, hc3⟩ := hc1.append
          obtain ⟨hcC, hc3⟩ := hc3.append
          obtain ⟨zs, z1, z2, z3, z4⟩ := execs_runs l (n + 1) _ _ h1 hc2
          have e0 : stp (o, (⟨e, r, true, clAll (fun q => cleanB q (wAt R.ws n) ds L H o e r) R.fd⟩ : Step)) (stL L H) = stL (aplX R.ps R.pg e o.dst L H).2.1 (aplX R.ps R.pg e o.dst L H).2.2 := by
            rw [← aplX_eq hc3]; rfl
          refine ⟨(o, ⟨e, r, true, clAll (fun q => cleanB q (wAt R.ws n) ds L H o e r) R.fd⟩) :: zs, by simp [z1], ⟨⟨hg, ?_⟩, by rw [e0]; exact z2⟩, by rw [List.map_cons, z3]; rfl, by rw [List.foldl_cons, e0]; exact z4⟩
          simp only [if_true]
          exact ⟨⟨exec1_ok _ _ _ hx hc1, putB_ok hp.1⟩, fun hcl => cleanB_ok (clAll_ok hcl).2 hcC (clAll_ok (F := fun q => cleanB q (wAt R.ws n) ds L H o e r) hcl).1⟩
theorem runs_sound {E : Env} {Γ : Cx} {S : List Nat} {all : Array Oper} {ds : List (Option Nat)} (hds : all.toList.map (·.dst) = ds) {Q : Exit → Act → World → Prop} (hP : Γ.P = E.P) (hS : Γ.S = S) (hd : ∀ o ∈ all, ∀ d, o.dst = some d → d < Γ.n) :
    ∀ (zs : List (Oper × Step)) (s : Nat), (∀ j, (zs.map (·.1))[j]? = all[s + j]?) → ∀ (σ : St), Runs E S ds zs σ → ∀ (a : Act) (w : World), Sim Γ σ a w → (∀ a w, Sim Γ (zs.foldl (fun σ z => stp z σ) σ) a w → Q .normal a w) →
      wpOps E.P all Q (List.range' s zs.length) a w
  | [], s, _, σ, _, a, w, hs, hK => by simpa [wpOps] using hK a w hs
  | z :: l, s, hl, σ, hr, a, w, ⟨β, hs⟩, hK => by
    have ho : all[s]? = some z.1 := by have := hl 0; simpa using this.symm
    have hod : ∀ d, z.1.dst = some d → d < Γ.n := hd z.1 (Array.mem_of_getElem? ho)
    have ih := runs_sound hds (E := E) (S := S) (Q := Q) hP hS hd l (s + 1) (fun j => by have := hl (j + 1); simpa [Nat.add_assoc, Nat.add_comm 1 j] using this)
    simp only [List.length_cons, List.range'_succ, wpOps, ho]
    obtain ⟨⟨hg, hstep, _⟩, hr⟩ := hr
    rw [guardT_wanted hs hds hg]
    cases hz : z.2.go with
    | true =>
      rw [hz, if_pos rfl] at hstep
      obtain ⟨hact, hput⟩ := hstep
      rw [if_pos rfl]
      left
      exact hact Γ σ β a w _ _ hP (fun _ _ => rfl) (fun _ _ => rfl) (by rw [hS]; exact putL_ok hput) hod hs (fun a' w' hs' => ih _ hr _ _ hs' hK)
    | false =>
      rw [hz] at hstep
      simp only [Bool.false_eq_true, if_false] at hstep
      simp only [Bool.false_eq_true, if_false]
      have e0 : stp z σ = σ.set z.1.dst (.tup []) := by simp only [stp, hstep.1]; rfl
      refine ih (stp z σ) hr _ _ ⟨β, ?_⟩ hK
      rw [e0]
      exact hs.skip z.1.dst hod
abbrev Res3 := Option (List Prop × List (Nat × T) × List (Nat × List T))
def fin3 (ps pg fs ns : List Nat) : Res2 → Res3
  | some (cs, _, L, H) => some (cs ++ (drpX ps pg fs L H).1, keepL (drpX ps pg fs L H).2.1 ns, (drpX ps pg fs L H).2.2)
  | none => none
def execR (E : Env) (N : Nat) (S : List Nat) (ops : Array Oper) (R : Wr) (fs ns : List Nat) (L : List (Nat × T)) (H : List (Nat × List T)) : Res3 :=
  match dstB N ops.toList with
  | true => fin3 R.ps R.pg fs ns (execs E S (ops.toList.map (·.dst)) R ops.toList 0 L H)
  | false => none
def drawB (ops : Array Oper) (ord : List Nat) : Res2 → Bool
  | some (_, ms, _, _) => topo ops ord && pairs 0 (rowsOf ops) ms
  | none => false
def execD (E : Env) (N : Nat) (S : List Nat) (ops : Array Oper) (ord : List Nat) (R : Wr) (fs ns : List Nat) (L : List (Nat × T)) (H : List (Nat × List T)) : Res3 :=
  match dstB N ops.toList && drawB ops ord (execs E S (ops.toList.map (·.dst)) R ops.toList 0 L H) with
  | true => fin3 R.ps R.pg fs ns (execs E S (ops.toList.map (·.dst)) R ops.toList 0 L H)
  | false => none
section
variable {E : Env} {Γ : Cx} {f : FuncId} {N : Nat} {S : List Nat} {Post : Value → World → Prop} {k k0 rest : List Item}
theorem Go.drops (is : List Nat) {σ : St} (h : Go E Γ f N S Post k (σ.drops is)) : Go E Γ f N S Post k σ :=
  fun h1 h2 h3 a w ⟨β, hsb⟩ => h h1 h2 h3 a w ⟨β, hsb.drops is⟩
theorem fin3_ok {ps pg fs ns : List Nat} {x : Res2} {cs : List Prop} {L' : List (Nat × T)} {H' : List (Nat × List T)} (h : fin3 ps pg fs ns x = some (cs, L', H')) (hc : AllP cs) :
    ∃ c0 ms L1 H1, x = some (c0, ms, L1, H1) ∧ AllP c0 ∧ (Go E Γ f N S Post k (stL L' H') → Go E Γ f N S Post k (stL L1 H1)) := by
  unfold fin3 at h
  split at h
  · rename_i c0 ms L1 H1
    simp only [Option.some.injEq, Prod.mk.injEq] at h
    obtain ⟨rfl, rfl, rfl⟩ := h
    obtain ⟨h1, h2⟩ := hc.append
    refine ⟨_, _, _, _, rfl, h1, fun hg => Go.drops fs ?_⟩
    rw [drpX_eq fs L1 H1 h2]
    exact Go.keep ns hg
  · simp at h
theorem Go.rx {id : Nat} {ops : Array Oper} (n : Nat) (R : Wr) (fs ns : List Nat) {L : List (Nat × T)} {H : List (Nat × List T)} (cs : List Prop) (L' : List (Nat × T)) (H' : List (Nat × List T)) (hk : k = k0) (he : normI n k0 = .code (.region id ops false) :: rest)
    (hx : execR E N S ops R fs ns L H = some (cs, L', H')) (hc : AllP cs) (HH : ∀ k', k' = rest → Go E Γ f N S Post k' (stL L' H')) : Go E Γ f N S Post k (stL L H) := by
  subst hk
  refine Go.norm n ?_
  rw [he]
  unfold execR at hx
  split at hx
  · rename_i hd
    obtain ⟨c0, ms, L1, H1, hx, hc0, hgo⟩ := fin3_ok (E := E) (Γ := Γ) (f := f) (N := N) (S := S) (Post := Post) (k := rest) hx hc
    have hgo := hgo (HH _ rfl)
    obtain ⟨zs, z1, z2, z3, z4⟩ := execs_runs _ _ _ _ hx hc0
    intro h1 h2 h3 a w hs cs' b hb hkd
    have hlen : zs.length = ops.size := by have := congrArg List.length z1; simpa using this
    have hw := runs_sound (E := E) (Γ := Γ) (S := S) (all := ops) rfl (Q := fun e a' w' => e = .normal ∧ Sim Γ (stL L1 H1) a' w') h1 h3 (fun o ho d hod => by rw [h2]; exact dstB_ok _ hd o (by simpa using ho) d hod) zs 0 (fun j => by rw [z1]; simp) _ z2 a w hs (fun a' w' hs' => ⟨rfl, by rw [← z4]; exact hs'⟩)
    rw [hlen, ← List.range_eq_range'] at hw
    obtain ⟨e, a', w', ⟨rfl, hs'⟩, harr⟩ := wp_region (id := id) hw b rest cs'
    obtain ⟨v, w'', fr, p, st, r⟩ := hgo h1 h2 h3 a' w' hs' cs' b hb hkd
    exact ⟨v, w'', fr, p, Steps.trans harr st, r⟩
  · simp at hx
theorem Go.dx {id : Nat} {ops : Array Oper} (n : Nat) (ord : List Nat) (R : Wr) (fs ns : List Nat) {L : List (Nat × T)} {H : List (Nat × List T)} (cs : List Prop) (L' : List (Nat × T)) (H' : List (Nat × List T)) (hk : k = k0) (he : normI n k0 = .code (.region id ops true) :: rest)
    (hx : execD E N S ops ord R fs ns L H = some (cs, L', H')) (hc : AllP cs) (HH : ∀ k', k' = rest → Go E Γ f N S Post k' (stL L' H')) : Go E Γ f N S Post k (stL L H) := by
  subst hk
  refine Go.norm n ?_
  rw [he]
  unfold execD at hx
  split at hx
  · rename_i hd
    simp only [Bool.and_eq_true] at hd
    obtain ⟨hd, hdr⟩ := hd
    obtain ⟨c0, ms, L1, H1, hx, hc0, hgo⟩ := fin3_ok (E := E) (Γ := Γ) (f := f) (N := N) (S := S) (Post := Post) (k := rest) hx hc
    have hgo := hgo (HH _ rfl)
    rw [hx] at hdr
    simp only [drawB, Bool.and_eq_true] at hdr
    obtain ⟨ht, hp⟩ := hdr
    obtain ⟨zs, hz, hr, z3, z4⟩ := execs_runs _ _ _ _ hx hc0
    rw [← z3] at hp
    intro h1 h2 h3 a w hs cs' b hb hkd
    obtain ⟨β, hsb⟩ := hs
    have hs' : Sim Γ (stL L H) a { w with drawn := w.drawn + 1 } := ⟨β, hsb.grow (Keeps.drew _ w)⟩
    have hw : ∀ t, wpOps E.P ops (fun e a' w' => e = .normal ∧ Sim Γ (zs.foldl (fun σ z => stp z σ) (stL L H)) a' w') (Region.schedule (E.P.follows .mixedOrders) ops t) a { w with drawn := w.drawn + 1 } := fun t => by
      obtain ⟨md, t', e⟩ := schedule_md (E.P.follows .mixedOrders) ops t
      rw [e]
      refine wpAny_sound ops.size t' _ a _ ?_
      refine draw_any md h1 h3 (fun o ho d hod => by rw [h2]; exact dstB_ok _ hd o (by simpa using ho) d hod) hz rfl hr hp ht (fun a' w' hs => ⟨rfl, hs⟩) ops.size (List.range ops.size) _ a _ (by simp) (by simp) (fun i hi _ => List.mem_range.2 hi) ?_ ?_
      · intro i o ho hDi
        simp only [Array.getD_eq_getD_getElem?, Array.getElem?_replicate] at hDi
        split at hDi <;> simp at hDi
      · rw [foldD_none _ _ _ fun i _ => by
          simp only [Array.getD_eq_getD_getElem?, Array.getElem?_replicate]; split <;> simp]
        exact hs'
    obtain ⟨e, a', w', ⟨rfl, hs'⟩, harr⟩ := wp_region_draw (id := id) hw b rest cs'
    rw [z4] at hs'
    obtain ⟨v, w'', fr, p, st, r⟩ := hgo h1 h2 h3 a' w' hs' cs' b hb hkd
    exact ⟨v, w'', fr, p, Steps.trans harr st, r⟩
  · simp at hx
end
end Go.Vw

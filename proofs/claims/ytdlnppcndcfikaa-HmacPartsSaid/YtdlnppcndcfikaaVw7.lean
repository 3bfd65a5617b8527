/- append, copy; bytes and strings; lengths; comparisons. -/
import Derived.Test.YtdlnppcndcfikaaVw6
namespace Go.Vw
set_option linter.unusedVariables false
set_option linter.unusedSimpArgs false
open Go Go.RowKit

theorem idsL_bs (l : List Int) : idsL (bs l) = [] := by
  induction l with
  | nil => rfl
  | cons a l ih => simp only [bs, List.map_cons, idsL, T.ids, List.nil_append]; exact ih

theorem scalL_bs (l : List Int) : scalL (bs l) = true := by
  induction l with
  | nil => rfl
  | cons a l ih => simp only [bs, List.map_cons, scalL, T.scal, Value.oneCell', Bool.true_and]; exact ih

/-- What a slice, or a string, holds: how many elements, and their cells. -/
def srcOf (h : Nat → Option (List T)) : T → Option (Nat × List T)
  | .leaf (.slice none 0 0) => some (0, [])
  | .leaf (.slice (some _) 0 _) => some (0, [])
  | .leaf (.string s) => some (s.size, bs (bytesOf s))
  | .e0 => some (0, [])
  | .sl _ _ n cs => some (n, cs)
  | .ref id m off n => match h id with | some cs => some (n, sub cs off (n * m)) | none => none
  | _ => none

/-- How large its elements are, and that they lie in the object. -/
def srcFits (h : Nat → Option (List T)) (m : Nat) : T → Prop
  | .sl m' _ _ _ => m' = m
  | .ref id m' off n => m' = m ∧ ∃ cs, h id = some cs ∧ off + n * m ≤ cs.length
  | .leaf (.string _) => m = 1
  | _ => True

section
variable {P : Program} {o : Oper} {ev : Operand → Option T} {h : Nat → Option (List T)} {reads : List Nat} {ti : TypeId → TI}

theorem src_run {Γ : Cx} {σ : St} {β : Nat → Real} {a : Act} {w : World} (hs : SimB Γ σ β a w) {x : Operand} {t : T} (e : σ.ev x = some t) {m n : Nat} {cs : List T} (hsrc : srcOf σ.h t = some (n, cs)) (hf : srcFits σ.h m t) :
    (∀ w' : World, (Builtin.lenOf (a.eval x)).run P w' = .ok n w') ∧ cs.length = n * m ∧ (∀ i ∈ idsL cs, σ.h i ≠ none) ∧ ∃ vs, RepL w (okOf Γ.X σ β w) cs β vs ∧
      ∀ (w' : World), w'.heap = w.heap → ∀ k, k ≤ n → (Builtin.firstCells m k (a.eval x)).run P w' = .ok (vs.take (k * m)).toArray w' := by
  have hrep := hs.ev e
  have emp : ∀ {ad : Option Addr} {cap : Nat}, a.eval x = .slice ad 0 cap → (∀ w' : World, w'.heap = w.heap → ∀ k, k ≤ 0 → (Builtin.firstCells m k (a.eval x)).run P w' = .ok (([] : List Value).take (k * m)).toArray w') := by
    intro ad cap e w' _ k hk
    obtain rfl : k = 0 := by omega
    rw [e]
    cases ad <;> simp [Builtin.firstCells, loadCells, loadCellsFrom]
  cases t with
  | dead => simp [srcOf] at hsrc
  | e0 =>
    simp only [srcOf, Option.some.injEq, Prod.mk.injEq] at hsrc
    obtain ⟨rfl, rfl⟩ := hsrc
    simp only [Rep] at hrep
    obtain ⟨ad, hv⟩ := hrep
    exact ⟨fun w' => by simp [hv, Builtin.lenOf], by simp, by simp [idsL], [], by simp [RepL], emp hv⟩
  | leaf v =>
    simp only [Rep] at hrep
    cases v <;> simp only [srcOf, reduceCtorEq] at hsrc
    case string s =>
      simp only [Option.some.injEq, Prod.mk.injEq] at hsrc
      obtain ⟨rfl, rfl⟩ := hsrc
      simp only [srcFits] at hf
      subst hf
      refine ⟨fun w' => by simp [hrep, Builtin.lenOf], ?_, by simp [idsL_bs], (bytesOf s).map (.int .u8), ?_, fun w' _ k hk => ?_⟩
      · simp [bs, bytesOf]
      · have : bs (bytesOf s) = ((bytesOf s).map (Value.int .u8)).map .leaf := by simp [bs]
        rw [this]; exact RepL.leaves _
      · rw [hrep]
        simp only [Builtin.firstCells, Sem.run_pure]
        congr 1
        apply Array.ext'
        simp [bytesOf, List.map_take]
        congr 1
    case slice ad n' cap =>
      cases ad with
      | some ad =>
        cases n' with
        | succ _ => simp at hsrc
        | zero =>
          simp only [Option.some.injEq, Prod.mk.injEq] at hsrc
          obtain ⟨rfl, rfl⟩ := hsrc
          exact ⟨fun w' => by simp [hrep, Builtin.lenOf], by simp, by simp [idsL], [], by simp [RepL], emp hrep⟩
      | none =>
        cases n' with
        | succ _ => simp at hsrc
        | zero =>
          cases cap with
          | succ _ => simp at hsrc
          | zero =>
            simp only [Option.some.injEq, Prod.mk.injEq] at hsrc
            obtain ⟨rfl, rfl⟩ := hsrc
            exact ⟨fun w' => by simp [hrep, Builtin.lenOf], by simp, by simp [idsL], [], by simp [RepL], emp hrep⟩
  | sl m' g n' cs' =>
    simp only [srcOf, Option.some.injEq, Prod.mk.injEq] at hsrc
    obtain ⟨rfl, rfl⟩ := hsrc
    simp only [srcFits] at hf
    subst hf
    simp only [Rep] at hrep
    obtain ⟨⟨h1, h2⟩, ad, cap, hv, h3, h4⟩ := hrep
    refine ⟨fun w' => by simp [hv, Builtin.lenOf], h1, by simp [h2], ?_⟩
    by_cases hn : n' = 0
    · subst hn
      have : cs' = [] := List.length_eq_zero_iff.1 (by simpa using h1)
      subst this
      exact ⟨[], by simp [RepL], emp hv⟩
    · obtain ⟨b, ob, rfl, h5, h6⟩ := h4.resolve_left hn
      obtain ⟨vs, h7, h8⟩ := h6.open_
      refine ⟨vs, h7.sealed h2, fun w' hw' k hk => ?_⟩
      rw [hv]
      have hvl := h7.length
      have hlen : (vs.take (k * m')).length = k * m' := by
        have : k * m' ≤ n' * m' := Nat.mul_le_mul_right _ hk
        simp; omega
      exact run_firstCells_some (P := P) w' m' k ⟨b, ob, none⟩ n' cap _ hlen (fun j v hj => by rw [addr_add]; have := h8.take (k * m') j v hj; simpa [World.cell?, hw'] using this)
  | ref id m' off n' =>
    simp only [srcOf] at hsrc
    simp only [srcFits] at hf
    obtain ⟨rfl, cs', hid, hle⟩ := hf
    rw [hid] at hsrc
    simp only [Option.some.injEq, Prod.mk.injEq] at hsrc
    obtain ⟨rfl, rfl⟩ := hsrc
    have hl : (sub cs' off (n' * m')).length = n' * m' := by simp [sub]; omega
    have hids : ∀ i ∈ idsL (sub cs' off (n' * m')), σ.h i ≠ none := fun i hi => hs.wfh id cs' hid i (ids_sub _ _ i hi)
    simp only [Rep] at hrep
    cases hb : β id with
    | ph =>
      rw [hb] at hrep
      obtain ⟨rfl, rfl, ad, hv⟩ := hrep
      refine ⟨fun w' => by simp [hv, Builtin.lenOf], hl, hids, [], ?_, emp hv⟩
      have : sub cs' 0 (0 * m') = [] := List.length_eq_zero_iff.1 (by simpa using hl)
      rw [this]; simp [RepL]
    | real b ob E =>
      rw [hb] at hrep
      obtain ⟨ad, cap, hv, g1, g2, g3⟩ := hrep
      obtain ⟨c, el', fr, vs, q1, q2, q3, q4, q5, q6⟩ := obj_open hs hid hb
      refine ⟨fun w' => by simp [hv, Builtin.lenOf], hl, hids, (vs.drop off).take (n' * m'), (q5.drop off).take _, fun w' hw' k hk => ?_⟩
      rw [hv]
      by_cases hn : n' = 0
      · subst hn
        have := emp hv w' hw' k hk
        rw [hv] at this
        simpa using this
      · have had := g3.resolve_left (by omega)
        subst had
        have hvl := q5.length
        have hkm : k * m' ≤ n' * m' := Nat.mul_le_mul_right _ hk
        have hlen : (((vs.drop off).take (n' * m')).take (k * m')).length = k * m' := by
          simp; omega
        exact run_firstCells_some (P := P) w' m' k ⟨b, ob + off, none⟩ n' cap _ hlen (fun j v hj => by
          rw [addr_add]; have := ((q6.drop off).take (n' * m')).take (k * m') j v hj; simpa [World.cell?, hw'] using this)
  | _ => simp [srcOf] at hsrc

theorem srcOf_congr {h h' : Nat → Option (List T)} {t : T} (hh : ∀ i ∈ t.ids, h i = h' i) : srcOf h t = srcOf h' t := by
  cases t with
  | ref id m off n => simp only [srcOf]; rw [hh id (by simp [T.ids])]
  | leaf v => cases v <;> first | rfl | (rename_i a n c; cases a <;> first | rfl | (cases n <;> first | rfl | (cases c <;> rfl)))
  | _ => rfl

theorem srcFits_congr {h h' : Nat → Option (List T)} {t : T} {m : Nat} (hh : ∀ i ∈ t.ids, h i = h' i) : srcFits h m t ↔ srcFits h' m t := by
  cases t with
  | ref id m off n => simp only [srcFits]; rw [hh id (by simp [T.ids])]
  | leaf v => cases v <;> exact Iff.rfl
  | _ => exact Iff.rfl

theorem run_lenOf_slice (ad : Option Addr) (n c : Nat) (w : World) : (Builtin.lenOf (.slice ad n c)).run P w = .ok n w := by simp [Builtin.lenOf]

/-- The whole of an append, the source read. -/
theorem run_append_any {t u ty el : TypeId} {i' : TI} (ht : P.underlying t = some (.slice el)) (hu : ∃ d, P.underlying u = some d ∧ ∀ k, d ≠ .int k) (he : TOk P el i') {ad : Option Addr} {n cap k : Nat} {x : Value} {vs : List Value} {w : World}
    (hlen : ∀ w' : World, (Builtin.lenOf x).run P w' = .ok k w') (hsrc : ∀ w' : World, w'.heap = w.heap → (Builtin.firstCells i'.size k x).run P w' = .ok vs.toArray w') {old : List Value} (hold : ∀ w' : World, w'.heap = w.heap → (Builtin.firstCells i'.size n (.slice ad n cap)).run P w' = .ok old.toArray w')
    (hb : (n + k) * i'.bytes ≤ 140737488355328) (hp : 0 < i'.bytes) :
    (n + k ≤ cap ∧ (Builtin.append_ #[t, u] ty #[.slice ad n cap, x]).run P w = (match ad with | some a => ((storeCells (a.add (n * i'.size)) vs).run P w).andThen fun _ w' => .ok (.slice ad (n + k) cap) w' | none => .ok (.slice ad (n + k) cap) w)) ∨
    (cap < n + k ∧ ∃ C, n + k ≤ C ∧ (Builtin.append_ #[t, u] ty #[.slice ad n cap, x]).run P w = .ok (.slice (some ⟨w.heap.size, 0, none⟩) (n + k) C) (w.drew.alloc (.cells (old.toArray ++ vs.toArray ++ Builtin.zeroCells i'.zero.toArray (C - (n + k))) el))) := by
  obtain ⟨d, hu1, hu2⟩ := hu
  obtain ⟨j, q1, q2, q3, z, q4, q5⟩ := he.info
  have hz : ∀ w : World, (sizeOf el).run P w = .ok i'.size w := he.size
  have hnk : n + k ≤ 140737488355328 := by
    have : (n + k) * 1 ≤ (n + k) * i'.bytes := Nat.mul_le_mul_left _ hp
    omega
  have hmi : (match d with | .int _ => true | _ => false) = false := by cases d <;> simp; exact hu2 _ rfl
  by_cases hroom : n + k ≤ cap
  · left
    refine ⟨hroom, ?_⟩
    simp only [Builtin.append_, Sem.run_bind, run_underlying ht, Result.andThen_ok, hz, run_underlying hu1, Sem.run_pure, List.getElem?_toArray, List.getElem?_cons_zero, List.getElem?_cons_succ, hmi, Bool.false_eq_true, if_false, hlen, if_pos hroom, Bool.not_false, if_true, hsrc w rfl]
    cases ad with
    | none => simp
    | some a => simp
  · right
    refine ⟨by omega, grownCap w (n + k) cap el, grownCap_ge w (n + k) cap el, ?_⟩
    have h63' : ¬ (9223372036854775807 < ((n : Int) + (k : Int))) := by omega
    have hfit := growslice_fits (need := n + k) (old := cap) (by omega) hb
    have h48' : ¬ (281474976710656 < Builtin.nextslicecap (n + k) cap * i'.bytes) := by omega
    simp [Builtin.append_, run_underlying ht, run_underlying hu1, sizeOf, typeInfo, zeroValue, q1, q2, q3, q4, q5, hlen, hroom, h63', h48', Question.forced, hsrc w.drew rfl, hold w.drew rfl, newRow, grownCap, hmi]
    congr 2
    apply Array.ext'
    simp [List.append_assoc]

theorem zeroCells_size (z : Array Value) (n : Nat) : (Builtin.zeroCells z n).size = n * z.size := by simp [Builtin.zeroCells]

/-- A new row of appended cells. -/
theorem SimB.newRow {Γ : Cx} {σ : St} {β : Nat → Real} {a : Act} {w : World} (hs : SimB Γ σ β a w) {d : Nat} (hd : σ.h d = none) (hS : d ∉ Γ.S) {cs : List T} {vs : List Value} {z : Array Value} {m n C : Nat} {el : TypeId} (hm : z.size = m) (hnC : n ≤ C) (hl : cs.length = n * m)
    (hr : RepL w (okOf Γ.X σ β w) cs β vs) (hi : ∀ i ∈ idsL cs, σ.h i ≠ none) :
    SimB Γ { σ with h := upd σ.h d (some cs) } (reals β d (.real w.heap.size 0 (C * m))) a (w.drew.alloc (.cells (vs.toArray ++ Builtin.zeroCells z (C - n)) el)) := by
  have hk : Keeps (fun _ => False) w w.drew := Keeps.drew _ w
  have hs' := hs.grow hk
  have hok : okOf Γ.X σ β w.drew = okOf Γ.X σ β w := rfl
  have hvl := hr.length
  have hnm : n * m ≤ C * m := Nat.mul_le_mul_right _ hnC
  have hsz : (vs.toArray ++ Builtin.zeroCells z (C - n)).size = C * m := by
    rw [Array.size_append, zeroCells_size, hm, Nat.sub_mul]; simp; omega
  have hr' : RepL w.drew (okOf Γ.X σ β w.drew) cs β vs := RepL.mono (w := w) (w' := w.drew) (ok := okOf Γ.X σ β w) (fun g b hb => ⟨hb, rfl⟩) cs β β vs (fun _ _ => rfl) hr
  exact hs'.new hd hS (E := C * m) (by omega) (by omega) (.inl rfl) hr' (fun i v e => by
    have hi := (List.getElem?_eq_some_iff.1 e).1
    rw [Array.getElem?_append_left (by simpa using hi)]; simpa using e) hi

def newId (d : Nat) (id : Nat) (h : Nat → Option (List T)) : Prop := d = id ∨ h d = none

/-- append onto nothing. -/
theorem acts_append0 {t u el : TypeId} {x y : Operand} {d k : Nat} {b0 tx : T} {cs : List T} {i i' : TI} (ho : o.op = .call { callee := .builtin .append, args := #[x, y], argTypes := #[t, u] }) (hx : ev x = some b0) (hb0 : b0 = .leaf (.slice none 0 0) ∨ b0 = .e0) (hy : ev y = some tx)
    (ht : TOk P t i) (hk : i.k = .slice el) (hu : ∃ j, TOk P u j ∧ ((∃ e, j.k = .slice e) ∨ j.k = .str)) (he : TOk P el i') (hz : i'.zero.length = i'.size) (hr : ∀ j ∈ tx.ids, j ∈ reads) (hsrc : srcOf h tx = some (k, cs)) (hf : srcFits h i'.size tx)
    (hb : k * i'.bytes ≤ 140737488355328) (hp : 0 < i'.bytes) (hd : d ∉ reads) : Acts P o ev h reads { val := .ref d i'.size 0 k, puts := [(d, cs)] } := by
  refine acts_of fun Γ σ β a w hP hev hh hn hs => ?_
  have hd' : σ.h d = none := (hn (d, cs) (by simp) (by simp)).2 hd
  have hdS := (hn (d, cs) (by simp) (by simp)).1
  have e1 : σ.ev x = some b0 := by rw [hev x (by simp [ho, Op.operands, Call.operands]), hx]
  have e2 : σ.ev y = some tx := by rw [hev y (by simp [ho, Op.operands, Call.operands]), hy]
  have hag : ∀ j ∈ tx.ids, σ.h j = h j := fun j hj => hh j (hr j hj)
  obtain ⟨s1, s2, s3, vs, s4, s5⟩ := src_run hs e2 (by rw [srcOf_congr hag, hsrc]) ((srcFits_congr hag).2 hf) (P := P)
  obtain ⟨dd, h6, h7, _⟩ := ht.und
  rw [hk] at h7; simp only [kOk] at h7; subst h7
  have hu' : ∃ d, P.underlying u = some d ∧ ∀ k, d ≠ .int k := by
    obtain ⟨j, hj, hjk⟩ := hu
    obtain ⟨d2, h8, h9, _⟩ := hj.und
    refine ⟨d2, h8, ?_⟩
    rcases hjk with ⟨e, hjk⟩ | hjk <;> rw [hjk] at h9 <;> simp only [kOk] at h9 <;> subst h9 <;> simp
  have hv : ∃ ad, a.eval x = .slice ad 0 0 := by
    have := hs.ev e1
    rcases hb0 with rfl | rfl
    · exact ⟨none, by simpa [Rep] using this⟩
    · simpa [Rep] using this
  obtain ⟨ad, hv⟩ := hv
  have hvl := s4.length
  have s5' : ∀ w' : World, w'.heap = w.heap → (Builtin.firstCells i'.size k (a.eval y)).run P w' = .ok vs.toArray w' := fun w' hw' => by
    rw [s5 w' hw' k (Nat.le_refl _), List.take_of_length_le (by omega)]
  have hold : ∀ w' : World, w'.heap = w.heap → (Builtin.firstCells i'.size 0 (.slice ad 0 0)).run P w' = .ok (([] : List Value).toArray) w' := fun w' _ => by
    cases ad <;> simp [Builtin.firstCells, loadCells, loadCellsFrom]
  have hexec : ∀ r w', (Builtin.append_ #[t, u] o.type #[.slice ad 0 0, a.eval y]).run P w = .ok r w' → (execOp a.eval o).run P w = .ok (.value r) w' := fun r w' hr => by
    simp only [execOp, ho, resolve, Sem.run_bind, Sem.run_pure, Result.andThen_ok, invoke, builtin]
    simp [hv, hr]
  rcases run_append_any h6 hu' he s1 s5' hold (ty := o.type) (by simpa using hb) hp with ⟨g1, g2⟩ | ⟨g1, C, g2, g3⟩
  · have hk0 : k = 0 := by omega
    subst hk0
    have hvs : vs = [] := List.length_eq_zero_iff.1 (by omega)
    have hcs : cs = [] := List.length_eq_zero_iff.1 (by omega)
    subst hvs; subst hcs
    refine ⟨.slice ad 0 0, w, _, .inl (hexec _ _ ?_), hs.phantom hd' hdS, ?_, by simp [T.ids, St.puts, St.drops, upd]⟩
    · rw [g2]; cases ad <;> simp [storeCells]
    · simp [Rep, reals]
  · have hsim := hs.newRow (el := el) (z := i'.zero.toArray) (C := C) hd' hdS (by simpa using hz) (by omega) s2 s4 s3
    have hw : w.drew.alloc (.cells (([] : List Value).toArray ++ vs.toArray ++ Builtin.zeroCells i'.zero.toArray (C - (0 + k))) el) = w.drew.alloc (.cells (vs.toArray ++ Builtin.zeroCells i'.zero.toArray (C - k)) el) := by simp
    rw [hw] at g3
    refine ⟨_, _, _, .inl (hexec _ _ g3), hsim, ?_, by simp [T.ids, St.puts, St.drops, upd]⟩
    simp only [Rep, reals, if_true]
    exact ⟨_, C, by simp, by omega, by omega, .inr rfl⟩

/-- append onto an own object. -/
theorem acts_append {t u el : TypeId} {x y : Operand} {d id m off n k : Nat} {tx : T} {c0 cs : List T} {i i' : TI} (ho : o.op = .call { callee := .builtin .append, args := #[x, y], argTypes := #[t, u] }) (hx : ev x = some (.ref id m off n)) (hy : ev y = some tx)
    (ht : TOk P t i) (hk : i.k = .slice el) (hu : ∃ j, TOk P u j ∧ ((∃ e, j.k = .slice e) ∨ j.k = .str)) (he : TOk P el i') (hm : i'.size = m) (hz : i'.zero.length = i'.size) (hri : id ∈ reads) (hid : h id = some c0) (hoff : off + n * m ≤ c0.length)
    (hr : ∀ j ∈ tx.ids, j ∈ reads) (hsrc : srcOf h tx = some (k, cs)) (hf : srcFits h m tx) (hsc : scalL cs = true)
    (hb : (n + k) * i'.bytes ≤ 140737488355328) (hp : 0 < i'.bytes) (hd : d = id ∨ d ∉ reads) (hni : id ∉ idsL (sub c0 off (n * m) ++ cs)) :
    Acts P o ev h reads { val := .ref d m 0 (n + k), drops := [id], puts := [(d, sub c0 off (n * m) ++ cs)] } := by
  refine acts_of fun Γ σ β a w hP hev hh hn hs => ?_
  subst hm
  have hid' : σ.h id = some c0 := by rw [hh id hri, hid]
  have hd' : d = id ∨ σ.h d = none := hd.imp (fun e => e) fun hd => (hn (d, sub c0 off (n * i'.size) ++ cs) (by simp) (by simp)).2 hd
  have hdS := (hn (d, sub c0 off (n * i'.size) ++ cs) (by simp) (by simp)).1
  have e1 : σ.ev x = some (.ref id i'.size off n) := by rw [hev x (by simp [ho, Op.operands, Call.operands]), hx]
  have e2 : σ.ev y = some tx := by rw [hev y (by simp [ho, Op.operands, Call.operands]), hy]
  have hag : ∀ j ∈ tx.ids, σ.h j = h j := fun j hj => hh j (hr j hj)
  obtain ⟨s1, s2, s3, vs, s4, s5⟩ := src_run hs e2 (by rw [srcOf_congr hag, hsrc]) ((srcFits_congr hag).2 hf) (P := P)
  obtain ⟨r1, r2, r3, ovs, r4, r5⟩ := src_run hs e1 (n := n) (cs := sub c0 off (n * i'.size)) (by simp [srcOf, hid']) (m := i'.size) ⟨rfl, c0, hid', hoff⟩ (P := P)
  obtain ⟨dd, h6, h7, _⟩ := ht.und
  rw [hk] at h7; simp only [kOk] at h7; subst h7
  have hu' : ∃ d, P.underlying u = some d ∧ ∀ k, d ≠ .int k := by
    obtain ⟨j, hj, hjk⟩ := hu
    obtain ⟨d2, h8, h9, _⟩ := hj.und
    refine ⟨d2, h8, ?_⟩
    rcases hjk with ⟨e, hjk⟩ | hjk <;> rw [hjk] at h9 <;> simp only [kOk] at h9 <;> subst h9 <;> simp
  have hvl := s4.length
  have hol := r4.length
  have s5' : ∀ w' : World, w'.heap = w.heap → (Builtin.firstCells i'.size k (a.eval y)).run P w' = .ok vs.toArray w' := fun w' hw' => by
    rw [s5 w' hw' k (Nat.le_refl _), List.take_of_length_le (by omega)]
  have hnew : RepL w (okOf Γ.X σ β w) (sub c0 off (n * i'.size) ++ cs) β (ovs ++ vs) := r4.append s4
  have hnl : (sub c0 off (n * i'.size) ++ cs).length = (n + k) * i'.size := by rw [List.length_append, r2, s2, Nat.add_mul]
  have hnids : ∀ j ∈ idsL (sub c0 off (n * i'.size) ++ cs), j ≠ id ∧ σ.h j ≠ none := fun j hj => by
    refine ⟨fun e => hni (e ▸ hj), ?_⟩
    rw [ids_append] at hj
    exact hj.elim (r3 j) (s3 j)
  have hdropn : (σ.drop id).h d = none := by
    rcases hd' with rfl | hd'
    · simp [St.drop]
    · simp [St.drop, hd']
  have hdropids : ∀ j ∈ idsL (sub c0 off (n * i'.size) ++ cs), (σ.drop id).h j ≠ none := fun j hj => by
    obtain ⟨q1, q2⟩ := hnids j hj
    simp only [St.drop, if_neg q1]; simpa using q2
  have hdropR : RepL w (okOf Γ.X (σ.drop id) β w) (sub c0 off (n * i'.size) ++ cs) β (ovs ++ vs) := by
    refine RepL.mono (fun g b hb => ⟨⟨hb.1, fun ho => hb.2.1 ?_, hb.2.2⟩, rfl⟩) _ β β _ (fun _ _ => rfl) hnew
    obtain ⟨j, c1, o1, E1, q1, q2⟩ := ho
    simp only [St.drop] at q1
    split at q1
    · simp at q1
    · obtain ⟨c2, q3, _⟩ := Option.map_eq_some_iff.1 q1
      exact ⟨j, c2, o1, E1, q3, q2⟩
  have hrep := hs.ev e1
  simp only [Rep] at hrep
  have hval : ∃ ad cap, a.eval x = .slice ad n cap ∧ n ≤ cap := by
    cases hbr : β id with
    | ph => rw [hbr] at hrep; obtain ⟨_, rfl, ad, hv⟩ := hrep; exact ⟨ad, 0, hv, Nat.le_refl _⟩
    | real b ob E => rw [hbr] at hrep; obtain ⟨ad, cap, hv, g1, _⟩ := hrep; exact ⟨ad, cap, hv, g1⟩
  obtain ⟨ad, cap, hv, hncap⟩ := hval
  have hold : ∀ w' : World, w'.heap = w.heap → (Builtin.firstCells i'.size n (.slice ad n cap)).run P w' = .ok ovs.toArray w' := fun w' hw' => by
    have := r5 w' hw' n (Nat.le_refl _)
    rw [hv] at this
    rw [this, List.take_of_length_le (by omega)]
  have hexec : ∀ r w', (Builtin.append_ #[t, u] o.type #[.slice ad n cap, a.eval y]).run P w = .ok r w' → (execOp a.eval o).run P w = .ok (.value r) w' := fun r w' hr => by
    simp only [execOp, ho, resolve, Sem.run_bind, Sem.run_pure, Result.andThen_ok, invoke, builtin]
    simp [hv, hr]
  have hgrow : ∀ C, cap < n + k → n + k ≤ C → (Builtin.append_ #[t, u] o.type #[.slice ad n cap, a.eval y]).run P w = .ok (.slice (some ⟨w.heap.size, 0, none⟩) (n + k) C) (w.drew.alloc (.cells (ovs.toArray ++ vs.toArray ++ Builtin.zeroCells i'.zero.toArray (C - (n + k))) el)) →
      ∃ v w' β', ((execOp a.eval o).run P w = .ok (.value v) w' ∨ (execOp a.eval o).run P w = .ok .skip w' ∧ v = undef) ∧ SimB Γ ((σ.drops [id]).puts [(d, sub c0 off (n * i'.size) ++ cs)]) β' a w' ∧
        Rep w' (okOf Γ.X ((σ.drops [id]).puts [(d, sub c0 off (n * i'.size) ++ cs)]) β' w') (.ref d i'.size 0 (n + k)) β' v ∧ ∀ j ∈ (T.ref d i'.size 0 (n + k)).ids, ((σ.drops [id]).puts [(d, sub c0 off (n * i'.size) ++ cs)]).h j ≠ none := by
    intro C g1 g2 g3
    have hsim := (hs.drop id).newRow (el := el) (z := i'.zero.toArray) (C := C) hdropn hdS (by simpa using hz) g2 hnl hdropR hdropids
    rw [show ovs.toArray ++ vs.toArray = (ovs ++ vs).toArray from by simp] at g3
    refine ⟨_, _, _, .inl (hexec _ _ g3), hsim, ?_, by simp [T.ids, St.puts, St.drops, upd]⟩
    simp only [Rep, reals, if_true]
    exact ⟨_, C, rfl, g2, by omega, .inr rfl⟩
  rcases run_append_any h6 hu' he s1 s5' hold (ty := o.type) hb hp with ⟨g1, g2⟩ | ⟨g1, C, g2, g3⟩
  · cases hbr : β id with
    | ph =>
      rw [hbr, hv] at hrep
      obtain ⟨rfl, rfl, ad', hv'⟩ := hrep
      injection hv' with hv1 hv2 hv3
      subst hv3
      have hk0 : k = 0 := by omega
      subst hk0
      have hvs : vs = [] := List.length_eq_zero_iff.1 (by omega)
      have hcs : sub c0 0 (0 * i'.size) ++ cs = [] := List.length_eq_zero_iff.1 (by rw [hnl]; simp)
      refine ⟨.slice ad 0 0, w, reals β d .ph, .inl (hexec _ _ ?_), ?_, ?_, by simp [T.ids, St.puts, St.drops, upd]⟩
      · rw [g2, hvs]; cases ad <;> simp [storeCells]
      · rw [hcs]; exact (hs.drop id).phantom hdropn hdS
      · simp [Rep, reals]
    | real b ob E =>
      rw [hbr, hv] at hrep
      obtain ⟨ad', cap', hv', q1, q2, q3⟩ := hrep
      injection hv' with hv1 hv2 hv3
      subst hv1; subst hv3
      obtain ⟨c, el', fr, bvs, p1, p2, p3, p4, p5, p6⟩ := obj_open hs hid' hbr
      by_cases hcap : cap = 0
      · -- nothing is written
        have hk0 : k = 0 := by omega
        have hn0 : n = 0 := by omega
        subst hk0; subst hn0
        have hvs : vs = [] := List.length_eq_zero_iff.1 (by omega)
        have hcs : sub c0 off (0 * i'.size) ++ cs = [] := List.length_eq_zero_iff.1 (by rw [hnl]; simp)
        subst hcap
        refine ⟨.slice ad 0 0, w, reals β d .ph, .inl (hexec _ _ ?_), ?_, ?_, by simp [T.ids, St.puts, St.drops, upd]⟩
        · rw [g2, hvs]; cases ad <;> simp [storeCells]
        · rw [hcs]; exact (hs.drop id).phantom hdropn hdS
        · simp [Rep, reals]
      · have had := q3.resolve_left hcap
        subst had
        have hcm : (n + k) * i'.size ≤ cap * i'.size := Nat.mul_le_mul_right _ g1
        have hnm : (n + k) * i'.size = n * i'.size + k * i'.size := Nat.add_mul ..
        have hex : ∀ j, j < c.size → (w.cell? ⟨b, j, none⟩).isSome = true := fun j hj => by simp [World.cell?, p1, hj]
        have hst := run_storeCells_cells (P := P) b (ob + off + n * i'.size) vs 0 w (fun j hj => by simpa using hex _ (by omega)) (fun j hj => by simpa using p4.get (by omega)) (s4.one hsc)
        simp only [Nat.add_zero] at hst
        obtain ⟨c', hc1, hc2⟩ := heap_setCells b vs (ob + off + n * i'.size) w c el' fr p1
        have hsim := hs.retake (id' := d) (cs' := sub c0 off (n * i'.size) ++ cs) hid' hd' hdS hbr (keeps_setCells b vs (ob + off + n * i'.size) w) hc1 (o' := ob + off) (E' := E - off) (by omega) (by rw [hnl]; omega)
          (by rw [hc2]; exact p4.set _ _) hnew (fun j v hj => by
            rw [List.getElem?_append] at hj
            split at hj
            · rename_i hlt
              rw [World.cell?_setCells_out b vs _ w _ (fun _ _ => by simp; omega)]
              have hbv : bvs[off + j]? = some v := by
                have h1 := r4; have h2 := (p5.drop off).take (n * i'.size)
                have hov : (Builtin.firstCells i'.size n (.slice (some ⟨b, ob + off, none⟩) n cap)).run P w = .ok ovs.toArray w := hold w rfl
                have hbl := p5.length
                have hlen : ((bvs.drop off).take (n * i'.size)).length = n * i'.size := by simp; omega
                have := run_firstCells_some (P := P) w i'.size n ⟨b, ob + off, none⟩ n cap _ hlen (fun j v hj => by rw [addr_add]; exact (p6.drop off).take (n * i'.size) j v hj)
                rw [hov] at this
                injection this with this
                have e : ovs = (bvs.drop off).take (n * i'.size) := by simpa using this
                rw [e, List.getElem?_take] at hj
                split at hj
                · simpa using hj
                · simp at hj
              have := p6 (off + j) v hbv
              rw [show ob + off + j = ob + (off + j) from by omega]; exact this
            · rename_i hge
              obtain ⟨hj1, hj2⟩ := List.getElem?_eq_some_iff.1 hj
              have := World.cell?_setCells_in b vs (ob + off + n * i'.size) w (fun j hj => by simpa using hex _ (by omega)) (j - ovs.length) hj1
              rw [show ob + off + n * i'.size + (j - ovs.length) = ob + off + j from by omega] at this
              rw [this, hj2]) hnids
        refine ⟨.slice (some ⟨b, ob + off, none⟩) (n + k) cap, _, _, .inl (hexec _ _ ?_), hsim, ?_, by simp [T.ids, St.puts, St.drops, upd]⟩
        · rw [g2]; simp only [addr_add, hst, Result.andThen_ok]
        · simp only [Rep, reals, if_true]
          exact ⟨_, cap, rfl, g1, by omega, .inr rfl⟩
  · exact hgrow C g1 g2 g3

/-- copy into an own object. -/
theorem acts_copy {t u el : TypeId} {x y : Operand} {id m off n k : Nat} {tx : T} {c0 cs : List T} {i i' : TI} (ho : o.op = .call { callee := .builtin .copy, args := #[x, y], argTypes := #[t, u] }) (hx : ev x = some (.ref id m off n)) (hy : ev y = some tx)
    (ht : TOk P t i) (hk : i.k = .slice el) (he : TOk P el i') (hm : i'.size = m) (hri : id ∈ reads) (hid : h id = some c0) (hoff : off + n * m ≤ c0.length)
    (hr : ∀ j ∈ tx.ids, j ∈ reads) (hsrc : srcOf h tx = some (k, cs)) (hf : srcFits h m tx) (hsc : scalL cs = true) :
    Acts P o ev h reads { val := .leaf (.int .i64 (min k n : Nat)), puts := [(id, splice c0 off (cs.take (min k n * m)))], stay := [id] } := by
  refine acts_of fun Γ σ β a w hP hev hh hn hs => ?_
  subst hm
  have hid' : σ.h id = some c0 := by rw [hh id hri, hid]
  have e1 : σ.ev x = some (.ref id i'.size off n) := by rw [hev x (by simp [ho, Op.operands, Call.operands]), hx]
  have e2 : σ.ev y = some tx := by rw [hev y (by simp [ho, Op.operands, Call.operands]), hy]
  have hag : ∀ j ∈ tx.ids, σ.h j = h j := fun j hj => hh j (hr j hj)
  obtain ⟨s1, s2, s3, vs, s4, s5⟩ := src_run hs e2 (by rw [srcOf_congr hag, hsrc]) ((srcFits_congr hag).2 hf) (P := P)
  obtain ⟨dd, h6, h7, _⟩ := ht.und
  rw [hk] at h7; simp only [kOk] at h7; subst h7
  have hvl := s4.length
  have hmk : min k n * i'.size ≤ k * i'.size := Nat.mul_le_mul_right _ (Nat.min_le_left _ _)
  have hmn : min k n * i'.size ≤ n * i'.size := Nat.mul_le_mul_right _ (Nat.min_le_right _ _)
  have htl : (cs.take (min k n * i'.size)).length = min k n * i'.size := by simp; omega
  have hexec : ∀ ad cap r w', a.eval x = .slice ad n cap → (Builtin.copy_ #[t, u] o.type #[.slice ad n cap, a.eval y]).run P w = .ok r w' → (execOp a.eval o).run P w = .ok (.value r) w' := fun ad cap r w' hv hr => by
    simp only [execOp, ho, resolve, Sem.run_bind, Sem.run_pure, Result.andThen_ok, invoke, builtin]
    simp [hv, hr]
  have hcopy : ∀ ad cap, (Builtin.copy_ #[t, u] o.type #[.slice ad n cap, a.eval y]).run P w = match ad with
      | some p => ((storeCells p (vs.take (min k n * i'.size))).run P w).andThen fun _ w' => .ok (goInt (min k n : Nat)) w'
      | none => .ok (goInt (min k n : Nat)) w := fun ad cap => by
    simp only [Builtin.copy_, Sem.run_bind, run_underlying h6, Result.andThen_ok, List.getElem?_toArray, List.getElem?_cons_zero, List.getElem?_cons_succ, s1, he.size w, s5 w rfl (Nat.min k n) (Nat.min_le_left _ _)]
    cases ad with
    | none => simp
    | some p => simp
  have hrep := hs.ev e1
  simp only [Rep] at hrep
  cases hbr : β id with
  | ph =>
    rw [hbr] at hrep
    obtain ⟨rfl, rfl, ad, hv⟩ := hrep
    have hc0 : c0 = [] := by have := hs.obj id c0 hid'; rw [hbr] at this; exact this
    subst hc0
    refine ⟨.int .i64 (min k 0 : Nat), w, β, .inl (hexec ad 0 _ _ hv ?_), ?_, by simp [Rep], by simp [T.ids]⟩
    · rw [hcopy]; cases ad <;> simp [storeCells, goInt]
    · have e : splice [] 0 (List.take (min k 0 * i'.size) cs) = [] := by simp [splice]
      have : (St.puts (σ.drops []) [(id, splice [] 0 (List.take (min k 0 * i'.size) cs))]) = σ := by
        simp only [St.puts, St.drops, e]
        cases σ; simp only [St.mk.injEq, true_and]; funext j; simp only [upd]; split
        · rename_i e; subst e; exact hid'.symm
        · rfl
      rw [this]; exact hs
  | real b ob E =>
    rw [hbr] at hrep
    obtain ⟨ad, cap, hv, q1, q2, q3⟩ := hrep
    obtain ⟨c, el', fr, bvs, p1, p2, p3, p4, p5, p6⟩ := obj_open hs hid' hbr
    have hnv : RepL w (okOf Γ.X σ β w) (cs.take (min k n * i'.size)) β (vs.take (min k n * i'.size)) := s4.take _
    have hnvl : (vs.take (min k n * i'.size)).length = min k n * i'.size := by rw [hnv.length]; exact htl
    by_cases hz : min k n * i'.size = 0
    · have hvz : vs.take (min k n * i'.size) = [] := by rw [hz]; rfl
      refine ⟨.int .i64 (min k n : Nat), w, β, .inl (hexec ad cap _ _ hv ?_), ?_, by simp [Rep], by simp [T.ids]⟩
      · rw [hcopy, hvz]; cases ad <;> simp [storeCells, goInt]
      · have e : splice c0 off (List.take (min k n * i'.size) cs) = c0 := by simp [splice, hz]
        have : (St.puts (σ.drops []) [(id, splice c0 off (List.take (min k n * i'.size) cs))]) = σ := by
          simp only [St.puts, St.drops, e]
          cases σ; simp only [St.mk.injEq, true_and]; funext j; simp only [upd]; split
          · rename_i e; subst e; exact hid'.symm
          · rfl
        rw [this]; exact hs
    · have hcap : cap ≠ 0 := by
        rintro rfl
        have : min k n = 0 := by omega
        rw [this] at hz; simp at hz
      have had := q3.resolve_left hcap
      subst had
      have hscT : ∀ (l : List T) (j : Nat), scalL l = true → scalL (l.take j) = true := by
        intro l
        induction l with
        | nil => intro j _; simp [scalL]
        | cons t l ih => intro j hl; cases j with
          | zero => simp [scalL]
          | succ j => simp only [scalL, Bool.and_eq_true, List.take_succ_cons] at hl ⊢; exact ⟨hl.1, ih j hl.2⟩
      obtain ⟨hrun, hsim⟩ := hs.write (cs' := splice c0 off (cs.take (min k n * i'.size))) hid' hbr off (nv := vs.take (min k n * i'.size)) (by rw [hnvl]; omega) hnv (hscT _ _ hsc)
        (fun j hj => (ids_splice j hj).elim (hs.wfh id c0 hid' j) (fun hj => s3 j (ids_take _ j hj)))
        (fun bv hbv => ⟨spliceV bv off (vs.take (min k n * i'.size)), hbv.splice off hnv, fun j u hu => by
          rw [spliceV_get (by rw [hbv.length, hnvl]; omega)] at hu
          by_cases hj : off ≤ j ∧ j < off + (vs.take (min k n * i'.size)).length
          · rw [if_pos hj] at hu ⊢; exact hu
          · rw [if_neg hj] at hu ⊢; exact hu⟩) (by rw [splice_length (by omega)]; exact p3)
      refine ⟨.int .i64 (min k n : Nat), _, β, .inl (hexec _ cap _ _ hv ?_), hsim, by simp [Rep], by simp [T.ids]⟩
      rw [hcopy]
      rw [hP] at hrun
      simp only [hrun, Result.andThen_ok]; rfl
end

end Go.Vw

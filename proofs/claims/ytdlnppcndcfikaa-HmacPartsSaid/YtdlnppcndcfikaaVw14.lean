/- Regions whose order is drawn: every order does what the text's order does. -/
import Derived.Test.YtdlnppcndcfikaaVw13
namespace Go.Vw
set_option linter.unusedVariables false
set_option linter.unusedSimpArgs false
open Go Go.RowKit

def disjN : List Nat → List Nat → Bool
  | [], _ => true
  | n :: l, m => !memN n m && disjN l m

theorem disjN_spec : ∀ {l m : List Nat}, disjN l m = true → ∀ i ∈ l, i ∉ m
  | [], _, _, i, hi => by simp at hi
  | n :: l, m, h, i, hi => by
    simp only [disjN, Bool.and_eq_true, Bool.not_eq_true'] at h
    rcases List.mem_cons.1 hi with rfl | hi
    · intro hm; rw [memN_iff.2 hm] at h; exact absurd h.1 (by simp)
    · exact disjN_spec h.2 i hi

/-- A row: its slot, the slots it looks at, and which rows come before it in every order. -/
structure Row where
  dst : Option Nat
  looks : List Nat
  mask : Nat

def maskOf (acc : List Nat) : List Edge → Nat
  | [] => 0
  | e :: es => if Region.binds .any e then maskOf acc es ||| 2 ^ e.on ||| acc.getD e.on 0 else maskOf acc es

def rowsGo (ops : Array Oper) : List Oper → List Nat → List Row
  | [], _ => []
  | o :: l, acc => { dst := o.dst, looks := o.looksAt ops, mask := maskOf acc o.after.toList } :: rowsGo ops l (acc ++ [maskOf acc o.after.toList])

def rowsOf (ops : Array Oper) : List Row := rowsGo ops ops.toList []

theorem maskOf_spec {D : Nat → Bool} {acc : List Nat} (hacc : ∀ k m, acc[k]? = some m → D k = true → ∀ i, m.testBit i = true → D i = true) :
    ∀ {es : List Edge}, (∀ e ∈ es, Region.binds .any e = true → D e.on = true) → ∀ i, (maskOf acc es).testBit i = true → D i = true
  | [], _, i, h => by simp [maskOf] at h
  | e :: es, he, i, h => by
    simp only [maskOf] at h
    split at h
    · rename_i hb
      simp only [Nat.testBit_or, Bool.or_eq_true] at h
      rcases h with (h | h) | h
      · exact maskOf_spec hacc (fun e' h' => he e' (List.mem_cons_of_mem _ h')) i h
      · rw [Nat.testBit_two_pow] at h
        have : e.on = i := by simpa using h
        rw [← this]; exact he e (List.mem_cons_self ..) hb
      · cases hk : acc[e.on]? with
        | none => simp [List.getD, hk] at h
        | some m =>
          simp [List.getD, hk] at h
          exact hacc e.on m hk (he e (List.mem_cons_self ..) hb) i h
    · exact maskOf_spec hacc (fun e' h' => he e' (List.mem_cons_of_mem _ h')) i h

def Closed (D : Nat → Bool) (l : List Oper) : Prop := ∀ (j : Nat) (o : Oper), l[j]? = some o → D j = true → ∀ e ∈ o.after.toList, Region.binds .any e = true → D e.on = true

theorem rows_get {ops : Array Oper} : ∀ (l : List Oper) (acc : List Nat) (j : Nat) (r : Row), (rowsGo ops l acc)[j]? = some r → ∃ o, l[j]? = some o ∧ r.dst = o.dst ∧ r.looks = o.looksAt ops
  | [], _, j, r, h => by simp [rowsGo] at h
  | o :: l, acc, 0, r, h => by simp only [rowsGo, List.getElem?_cons_zero, Option.some.injEq] at h; subst h; exact ⟨o, rfl, rfl, rfl⟩
  | o :: l, acc, j + 1, r, h => by simp only [rowsGo, List.getElem?_cons_succ] at h; simpa using rows_get l _ j r h

theorem rows_len {ops : Array Oper} : ∀ (l : List Oper) (acc : List Nat), (rowsGo ops l acc).length = l.length
  | [], _ => rfl
  | o :: l, acc => by simp [rowsGo, rows_len l]

/-- What is before a row that is to come is done. -/
theorem rows_mask {ops : Array Oper} {D : Nat → Bool} : ∀ (l : List Oper) (acc : List Nat),
    (∀ k m, acc[k]? = some m → D k = true → ∀ i, m.testBit i = true → D i = true) →
    (∀ (j : Nat) (o : Oper), l[j]? = some o → D (acc.length + j) = true → ∀ e ∈ o.after.toList, Region.binds .any e = true → D e.on = true) →
    ∀ (j : Nat) (o : Oper) (r : Row), l[j]? = some o → (rowsGo ops l acc)[j]? = some r → (∀ e ∈ o.after.toList, Region.binds .any e = true → D e.on = true) → ∀ i, r.mask.testBit i = true → D i = true
  | [], _, _, _, j, o, r, h, _, _, _, _ => by simp at h
  | o0 :: l, acc, hacc, hc, 0, o, r, h, hr, he, i, hi => by
    simp only [List.getElem?_cons_zero, Option.some.injEq, rowsGo] at h hr
    subst h; subst hr
    exact maskOf_spec hacc he i hi
  | o0 :: l, acc, hacc, hc, j + 1, o, r, h, hr, he, i, hi => by
    simp only [List.getElem?_cons_succ, rowsGo] at h hr
    refine rows_mask l (acc ++ [maskOf acc o0.after.toList]) (fun k m hk hd i' hi' => ?_) (fun j' o' h' hd => hc (j' + 1) o' (by simpa using h') (by simpa [Nat.add_assoc, Nat.add_comm 1] using hd)) j o r h hr he i hi
    rcases Nat.lt_or_ge k acc.length with hl | hl
    · rw [List.getElem?_append_left hl] at hk; exact hacc k m hk hd i' hi'
    · rw [List.getElem?_append_right hl] at hk
      have hk0 : k - acc.length = 0 := by
        have := (List.getElem?_eq_some_iff.1 hk).1; simp at this; omega
      rw [hk0] at hk
      simp only [List.getElem?_cons_zero, Option.some.injEq] at hk
      subst hk
      have : k = acc.length := by omega
      subst this
      exact maskOf_spec hacc (hc 0 o0 rfl hd) i' hi'

def apartS (x y : Row) : Bool :=
  (match x.dst with | some d => !memN d y.looks && (match y.dst with | some d' => !Nat.beq d d' | none => true) | none => true) && (match y.dst with | some d => !memN d x.looks | none => true)

def apartM (x y : Mark) : Bool := (!x.dr || y.cl) && (!y.dr || x.cl) && disjN x.pt y.rd && disjN y.pt x.rd && disjN x.pt y.pt

def pairs1 (i : Nat) (x : Row) (m : Mark) : List Row → List Mark → Bool
  | y :: l, n :: k => (y.mask.testBit i || (apartS x y && apartM m n)) && pairs1 i x m l k
  | _, _ => true

def pairs : Nat → List Row → List Mark → Bool
  | i, x :: l, m :: k => pairs1 i x m l k && pairs (i + 1) l k
  | _, _, _ => true

theorem pairs1_spec {i : Nat} {x : Row} {m : Mark} : ∀ {l : List Row} {k : List Mark} {j : Nat} {y : Row} {n : Mark}, pairs1 i x m l k = true → l[j]? = some y → k[j]? = some n → y.mask.testBit i = true ∨ apartS x y = true ∧ apartM m n = true
  | [], _, j, y, n, _, h, _ => by simp at h
  | _ :: _, [], j, y, n, _, _, h => by simp at h
  | y0 :: l, n0 :: k, 0, y, n, h, h1, h2 => by
    simp only [List.getElem?_cons_zero, Option.some.injEq] at h1 h2
    subst h1; subst h2
    simp only [pairs1, Bool.and_eq_true, Bool.or_eq_true] at h
    exact h.1
  | y0 :: l, n0 :: k, j + 1, y, n, h, h1, h2 => by
    simp only [List.getElem?_cons_succ] at h1 h2
    simp only [pairs1, Bool.and_eq_true] at h
    exact pairs1_spec h.2 h1 h2

theorem pairs_spec : ∀ {s : Nat} {l : List Row} {k : List Mark} {i j : Nat} {x y : Row} {m n : Mark}, pairs s l k = true → i < j → l[i]? = some x → k[i]? = some m → l[j]? = some y → k[j]? = some n →
    y.mask.testBit (s + i) = true ∨ apartS x y = true ∧ apartM m n = true
  | _, [], _, i, _, _, _, _, _, _, _, h, _, _, _ => by simp at h
  | _, _ :: _, [], i, _, _, _, _, _, _, _, _, h, _, _ => by simp at h
  | s, x0 :: l, m0 :: k, 0, j + 1, x, y, m, n, h, _, h1, h2, h3, h4 => by
    simp only [List.getElem?_cons_zero, Option.some.injEq, List.getElem?_cons_succ] at h1 h2 h3 h4
    subst h1; subst h2
    simp only [pairs, Bool.and_eq_true] at h
    exact pairs1_spec h.1 h3 h4
  | s, x0 :: l, m0 :: k, i + 1, j + 1, x, y, m, n, h, hij, h1, h2, h3, h4 => by
    simp only [List.getElem?_cons_succ] at h1 h2 h3 h4
    simp only [pairs, Bool.and_eq_true] at h
    have := pairs_spec h.2 (by omega : i < j) h1 h2 h3 h4
    rwa [show s + 1 + i = s + (i + 1) from by omega] at this

/-- An order that the edges let go. -/
def chkL (md : Region.Mode) (ops : Array Oper) : List Nat → Nat → Bool
  | [], _ => true
  | i :: l, seen => (match ops[i]? with | some o => o.after.toList.all fun e => !Region.binds md e || seen.testBit e.on | none => false) && chkL md ops l (seen ||| 2 ^ i)

def allIn (L : List Nat) : Nat → Bool
  | 0 => true
  | n + 1 => memN n L && allIn L n

theorem allIn_spec {L : List Nat} : ∀ {n : Nat}, allIn L n = true → ∀ i, i < n → i ∈ L
  | 0, _, i, h => by omega
  | n + 1, h, i, hi => by
    simp only [allIn, Bool.and_eq_true] at h
    rcases Nat.lt_or_ge i n with h' | h'
    · exact allIn_spec h.2 i h'
    · have : i = n := by omega
      rw [this]; exact memN_iff.1 h.1

theorem chkL_ready {md : Region.Mode} {ops : Array Oper} {listed : Array Bool} : ∀ {L : List Nat} {seen : Nat}, chkL md ops L seen = true → (∀ i, seen.testBit i = true → listed.getD i false = true) → Region.ready md ops listed = [] →
    (hsz : listed.size = ops.size) → ∀ i ∈ L, i < ops.size → listed.getD i false = true
  | [], _, _, _, _, _, i, hi, _ => by simp at hi
  | j :: L, seen, h, hs, hr, hsz, i, hi, hlt => by
    simp only [chkL, Bool.and_eq_true] at h
    have hj : j < ops.size → listed.getD j false = true := fun hj => by
      cases hl : listed.getD j false with
      | true => rfl
      | false =>
        exfalso
        have hmem : j ∈ Region.ready md ops listed := by
          rw [mem_ready]
          have hjs : j < listed.size := by omega
          refine ⟨by simpa [Array.getD, hjs] using hl, ops[j], by simp [hj], fun e he hb => hs _ ?_⟩
          have h1 := h.1
          simp only [Array.getElem?_eq_getElem hj, List.all_eq_true, Bool.or_eq_true, Bool.not_eq_true'] at h1
          have := h1 e (by simpa using he)
          rcases this with this | this
          · rw [hb] at this; cases this
          · exact this
        rw [hr] at hmem; cases hmem
    rcases List.mem_cons.1 hi with rfl | hi
    · exact hj hlt
    · have hjs : j < ops.size := by
        rcases Nat.lt_or_ge j ops.size with hjs | hjs
        · exact hjs
        · have h1 := h.1
          simp [Array.getElem?_eq_none hjs] at h1
      refine chkL_ready h.2 (fun i' hi' => ?_) hr hsz i hi hlt
      simp only [Nat.testBit_or, Bool.or_eq_true, Nat.testBit_two_pow, decide_eq_true_eq] at hi'
      rcases hi' with hi' | rfl
      · exact hs _ hi'
      · exact hj hjs

/-- The order of a region, whichever is drawn, is one that may be. -/
def topo (ops : Array Oper) (L : List Nat) : Bool :=
  chkL .text ops (List.range ops.size) 0 && chkL .any ops (List.range ops.size) 0 && chkL .gc ops L 0 && allIn L ops.size

theorem topo_ready {md : Region.Mode} {ops : Array Oper} {L : List Nat} (h : topo ops L = true) {listed : Array Bool} (hr : Region.ready md ops listed = []) (hsz : listed.size = ops.size) : ∀ i, i < ops.size → listed.getD i false = true := by
  simp only [topo, Bool.and_eq_true] at h
  obtain ⟨⟨⟨h1, h2⟩, h3⟩, h4⟩ := h
  intro i hi
  cases md with
  | text => exact chkL_ready h1 (by simp) hr hsz i (List.mem_range.2 hi) hi
  | any => exact chkL_ready h2 (by simp) hr hsz i (List.mem_range.2 hi) hi
  | gc => exact chkL_ready h3 (by simp) hr hsz i (allIn_spec h4 i hi) hi

theorem binds_any {md : Region.Mode} {e : Edge} (h : Region.binds .any e = true) : Region.binds md e = true := by
  unfold Region.binds at *
  split <;> simp_all

theorem apart_of {ops : Array Oper} {x y : Oper} {r r' : Row} {s t : Step} (h1 : r.dst = x.dst) (h2 : r.looks = x.looksAt ops) (h3 : r'.dst = y.dst) (h4 : r'.looks = y.looksAt ops) (h : apartS r r' = true) (h' : apartM s.mark t.mark = true) :
    (∀ d, x.dst = some d → d ∉ y.looksAt ops ∧ y.dst ≠ some d) ∧ (∀ d, y.dst = some d → d ∉ x.looksAt ops) ∧ (s.e.drops = [] ∨ t.c = true) ∧ (t.e.drops = [] ∨ s.c = true) ∧
    (∀ i ∈ s.e.puts.map (·.1), i ∉ t.r ∧ i ∉ t.e.puts.map (·.1)) ∧ ∀ i ∈ t.e.puts.map (·.1), i ∉ s.r := by
  simp only [apartS, h1, h2, h3, h4, Bool.and_eq_true] at h
  simp only [apartM, Step.mark, Bool.and_eq_true, Bool.or_eq_true, Bool.not_not, List.isEmpty_iff] at h'
  obtain ⟨⟨⟨⟨a1, a2⟩, a3⟩, a4⟩, a5⟩ := h'
  refine ⟨fun d hd => ?_, fun d hd => ?_, a1, a2, fun i hi => ⟨disjN_spec a3 i hi, disjN_spec a5 i hi⟩, disjN_spec a4⟩
  · rw [hd] at h
    simp only [Bool.and_eq_true, Bool.not_eq_true'] at h
    refine ⟨fun hm => ?_, fun he => ?_⟩
    · rw [memN_iff.2 hm] at h; exact absurd h.1.1 (by simp)
    · rw [he] at h; simp at h
  · rw [hd] at h
    simp only [Bool.and_eq_true, Bool.not_eq_true'] at h
    intro hm
    rw [memN_iff.2 hm] at h; exact absurd h.2 (by simp)
end Go.Vw

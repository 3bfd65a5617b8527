/- A table of types, held against the program; the walk's words. -/
import Derived.Test.YtdlnppcndcfikaaVw11
namespace Go.Vw
set_option linter.unusedVariables false
set_option linter.unusedSimpArgs false
open Go Go.RowKit

def zeq : Value → Value → Bool
  | .bool a, .bool b => a == b
  | .int k a, .int k' b => k == k' && a == b
  | .float k a, .float k' b => k == k' && a == b
  | .string a, .string b => a.data == b.data
  | .pointer none, .pointer none => true
  | .slice none 0 0, .slice none 0 0 => true
  | .map none, .map none => true
  | .chan none, .chan none => true
  | .nilFunc, .nilFunc => true
  | .nilIface, .nilIface => true
  | _, _ => false

theorem zeq_eq {a b : Value} (h : zeq a b = true) : a = b := by
  unfold zeq at h
  split at h <;> simp_all
  rename_i a b
  cases a; cases b; simp_all

def zeqL : List Value → List Value → Bool
  | [], [] => true
  | a :: as, b :: bs => zeq a b && zeqL as bs
  | _, _ => false

theorem zeqL_eq : ∀ {a b : List Value}, zeqL a b = true → a = b
  | [], [], _ => rfl
  | a :: as, b :: bs, h => by
    simp only [zeqL, Bool.and_eq_true] at h
    rw [zeq_eq h.1, zeqL_eq h.2]
  | [], _ :: _, h => by simp [zeqL] at h
  | _ :: _, [], h => by simp [zeqL] at h

def kchk : TypeDesc → K → Bool
  | _, .no => true
  | _, .other => true
  | .bool, .bool => true
  | .string, .str => true
  | .interface _, .iface => true
  | .func .., .func => true
  | .int k, .int k' => k == k'
  | .slice e, .slice e' => e == e'
  | .array n e, .array n' e' => n == n' && e == e'
  | .struct fs, .struct fs' => fs.toList.map (fun x => (x.offset, x.type)) == fs'
  | .pointer e, .ptr e' => e == e'
  | _, _ => false

theorem kchk_ok {d : TypeDesc} {k : K} (h : kchk d k = true) : kOk d k := by
  unfold kchk at h
  split at h <;> simp_all [kOk]

def dAgg : TypeDesc → Bool | .struct _ | .array _ _ => true | _ => false

def tchk (P : Program) (t : TypeId) (i : TI) : Bool :=
  match P.info? t, P.underlying t with
  | some j, some d => j.size == i.size && j.bytes == i.bytes && (match j.zero with | some z => zeqL z.cells.toList i.zero | none => false) && kchk d i.k && i.zero.length == i.size && dAgg d == i.agg
  | _, _ => false

theorem tchk_ok {P : Program} {t : TypeId} {i : TI} (h : tchk P t i = true) : TOk P t i := by
  unfold tchk at h
  split at h
  · rename_i j d h1 h2
    simp only [Bool.and_eq_true, beq_iff_eq] at h
    obtain ⟨⟨⟨⟨⟨a, b⟩, c⟩, k⟩, e⟩, g⟩ := h
    split at c
    · rename_i z hz
      refine ⟨⟨j, h1, a, b, z, hz, ?_⟩, e, ⟨d, h2, kchk_ok k, ?_⟩⟩
      · have := zeqL_eq c
        apply Array.ext'; simpa using this
      · rw [← g]; cases d <;> rfl
    · simp at c
  · simp at h

def K.isNo : K → Bool | .no => true | _ => false

/-- What a row leads to is in the table. -/
def rowIn (tbl : List (Nat × TI)) : K → Bool
  | .slice e => (look tbl e).isSome
  | .array _ e => (look tbl e).isSome
  | .struct fs => fs.all fun f => (look tbl f.2).isSome
  | _ => true

def tiOf (tbl : List (Nat × TI)) (t : TypeId) : TI := match look tbl t with | some i => i | none => {}

theorem tiOf_k {tbl : List (Nat × TI)} (hn : tbl.all (fun p => !p.2.k.isNo) = true) {e : TypeId} (h : (look tbl e).isSome = true) : (tiOf tbl e).k ≠ .no := by
  obtain ⟨i, hi⟩ := Option.isSome_iff_exists.1 h
  have := (List.all_eq_true.1 hn) (e, i) (look_mem hi)
  intro hk
  simp only [tiOf, hi] at hk
  simp [hk, K.isNo] at this

/-- A seat out of its table. -/
def Env.mk' (P : Program) (tbl : List (Nat × TI)) (hn : tbl.all (fun p => !p.2.k.isNo) = true) (h : ∀ p ∈ tbl, tchk P p.1 p.2 = true) (hr : tbl.all (fun p => rowIn tbl p.2.k) = true) : Env where
  P := P
  ti := tiOf tbl
  ok := fun t ht => by
    cases hl : look tbl t with
    | none => simp [tiOf, hl] at ht
    | some i => simp only [tiOf, hl]; exact tchk_ok (h (t, i) (look_mem hl))
  sl := fun t e ht => by
    cases hl : look tbl t with
    | none => simp [tiOf, hl] at ht
    | some i =>
      have := (List.all_eq_true.1 hr) (t, i) (look_mem hl)
      simp only [tiOf, hl] at ht
      simp only [ht, rowIn] at this
      exact tiOf_k hn this
  ar := fun t n e ht => by
    cases hl : look tbl t with
    | none => simp [tiOf, hl] at ht
    | some i =>
      have := (List.all_eq_true.1 hr) (t, i) (look_mem hl)
      simp only [tiOf, hl] at ht
      simp only [ht, rowIn] at this
      exact tiOf_k hn this
  st := fun t fs ht f hf => by
    cases hl : look tbl t with
    | none => simp [tiOf, hl] at ht
    | some i =>
      have := (List.all_eq_true.1 hr) (t, i) (look_mem hl)
      simp only [tiOf, hl] at ht
      simp only [ht, rowIn] at this
      exact tiOf_k hn ((List.all_eq_true.1 this) f hf)
end Go.Vw

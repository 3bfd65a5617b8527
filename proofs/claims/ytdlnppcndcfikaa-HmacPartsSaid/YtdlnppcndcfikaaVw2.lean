/- What an operation does to a state that is told. -/
import Derived.Test.YtdlnppcndcfikaaVw1
namespace Go.Vw
set_option linter.unusedVariables false
set_option linter.unusedSimpArgs false
open Go Go.RowKit

/-- What an operation does: the value it leaves, the objects that are forgotten, those that get other cells or are new, and which of these stay where they are. -/
structure Eff where
  val : T := .tup []
  drops : List Nat := []
  puts : List (Nat × List T) := []
  stay : List Nat := []

def St.drops (σ : St) : List Nat → St
  | [] => σ
  | i :: l => (σ.drop i).drops l
def St.puts (σ : St) : List (Nat × List T) → St
  | [] => σ
  | (i, cs) :: l => St.puts { σ with h := upd σ.h i (some cs) } l
def St.set (σ : St) (d : Option Nat) (x : T) : St :=
  match d with
  | none => σ
  | some d => { σ with s := upd σ.s d (some x) }
def Eff.apply (e : Eff) (σ : St) (d : Option Nat) : St := (((σ.drops e.drops).puts e.puts)).set d e.val

/-- In whatever state that says the same of what is looked at, the operation does this. -/
def Acts (P : Program) (o : Oper) (ev : Operand → Option T) (h : Nat → Option (List T)) (reads : List Nat) (e : Eff) : Prop :=
  ∀ (Γ : Cx) (σ : St) (β : Nat → Real) (a : Act) (w : World) (K : Act → World → Prop) (Q : Exit → Act → World → Prop), Γ.P = P → (∀ x ∈ o.op.operands, σ.ev x = ev x) → (∀ i ∈ reads, σ.h i = h i) →
    (∀ p ∈ e.puts, p.1 ∉ e.stay → p.1 ∉ Γ.S ∧ (p.1 ∉ reads → σ.h p.1 = none)) → (∀ d, o.dst = some d → d < Γ.n) → SimB Γ σ β a w → (∀ a' w', Sim Γ (e.apply σ o.dst) a' w' → K a' w') → o.wp P a w K Q

section
variable {P : Program} {o : Oper} {ev : Operand → Option T} {h : Nat → Option (List T)} {reads : List Nat} {e : Eff}

theorem SimB.set {Γ : Cx} {σ : St} {β : Nat → Real} {a : Act} {w : World} (hs : SimB Γ σ β a w) {d : Option Nat} (hd : ∀ n, d = some n → n < Γ.n) {x : T} {v : Value} (hx : Rep w (okOf Γ.X σ β w) x β v) (hi : ∀ i ∈ x.ids, σ.h i ≠ none) :
    SimB Γ (σ.set d x) β (a.put d v) w := by
  cases d with
  | none => exact hs
  | some d => exact hs.put (hd d rfl) hx hi

theorem acts_of (H : ∀ (Γ : Cx) (σ : St) (β : Nat → Real) (a : Act) (w : World), Γ.P = P → (∀ x ∈ o.op.operands, σ.ev x = ev x) → (∀ i ∈ reads, σ.h i = h i) → (∀ p ∈ e.puts, p.1 ∉ e.stay → p.1 ∉ Γ.S ∧ (p.1 ∉ reads → σ.h p.1 = none)) → SimB Γ σ β a w →
      ∃ v w' β', ((execOp a.eval o).run P w = .ok (.value v) w' ∨ (execOp a.eval o).run P w = .ok .skip w' ∧ v = undef) ∧ SimB Γ ((σ.drops e.drops).puts e.puts) β' a w' ∧
        Rep w' (okOf Γ.X ((σ.drops e.drops).puts e.puts) β' w') e.val β' v ∧ ∀ i ∈ e.val.ids, ((σ.drops e.drops).puts e.puts).h i ≠ none) : Acts P o ev h reads e := by
  intro Γ σ β a w K Q hP hev hh hn hd hs hK
  obtain ⟨v, w', β', hrun, hs', hv, hi⟩ := H Γ σ β a w hP hev hh hn hs
  have hK' := hK (a.put o.dst v) w' ⟨β', hs'.set hd hv hi⟩
  unfold Oper.wp
  rcases hrun with hrun | ⟨hrun, rfl⟩ <;> rw [hrun] <;> exact hK'

/-- An operation that leaves the world alone. -/
theorem acts_value {x : T} (H : ∀ (Γ : Cx) (σ : St) (β : Nat → Real) (a : Act) (w : World), Γ.P = P → (∀ x ∈ o.op.operands, σ.ev x = ev x) → (∀ i ∈ reads, σ.h i = h i) → SimB Γ σ β a w →
      ∃ v, (execOp a.eval o).run P w = .ok (.value v) w ∧ Rep w (okOf Γ.X σ β w) x β v ∧ ∀ i ∈ x.ids, σ.h i ≠ none) : Acts P o ev h reads { val := x } := by
  refine acts_of fun Γ σ β a w hP hev hh hn hs => ?_
  obtain ⟨v, h1, h2, h3⟩ := H Γ σ β a w hP hev hh hs
  exact ⟨v, w, β, .inl h1, hs, h2, h3⟩
end

/-! ### The table of types -/

inductive K where
  | no | bool | str | iface | func | other
  | int (k : IntKind)
  | slice (e : TypeId)
  | array (n : Nat) (e : TypeId)
  | struct (fs : List (Nat × TypeId))
  | ptr (e : TypeId)

structure TI where
  k : K := .no
  size : Nat := 1
  bytes : Nat := 8
  zero : List Value := []

def TI.agg (i : TI) : Bool := match i.k with | .array .. | .struct .. => true | _ => false

def kOk (d : TypeDesc) (k : K) : Prop :=
  match k with
  | .no => True
  | .bool => d = .bool
  | .str => d = .string
  | .iface => ∃ ms, d = .interface ms
  | .func => ∃ a b c, d = .func a b c
  | .other => True
  | .int k => d = .int k
  | .slice e => d = .slice e
  | .array n e => d = .array n e
  | .struct fs => ∃ f, d = .struct f ∧ f.toList.map (fun x => (x.offset, x.type)) = fs
  | .ptr e => d = .pointer e

/-- A row of the table is right. -/
structure TOk (P : Program) (t : TypeId) (i : TI) : Prop where
  info : ∃ j, P.info? t = some j ∧ j.size = i.size ∧ j.bytes = i.bytes ∧ (∃ z, j.zero = some z ∧ z.cells = i.zero.toArray)
  zlen : i.zero.length = i.size
  und : ∃ d, P.underlying t = some d ∧ kOk d i.k ∧ (match d with | .struct _ | .array _ _ => true | _ => false) = i.agg

def TabOk (P : Program) (ti : TypeId → TI) : Prop := ∀ t, (∃ x, (ti t).k = x ∧ (match x with | .no => False | _ => True)) → TOk P t (ti t)

section
variable {P : Program} {ti : TypeId → TI}

theorem TOk.size {t : TypeId} {i : TI} (h : TOk P t i) (w : World) : (sizeOf t).run P w = .ok i.size w := by
  obtain ⟨j, h1, h2, _⟩ := h.info
  simp [sizeOf, typeInfo, h1, h2]
theorem TOk.isAgg {t : TypeId} {i : TI} (h : TOk P t i) (w : World) : (isAgg t).run P w = .ok i.agg w := by
  obtain ⟨d, h1, h2, h3⟩ := h.und
  simp only [Go.isAgg, Sem.run_bind, run_underlying h1, Result.andThen_ok]
  rw [← h3]
  cases d <;> rfl
end

end Go.Vw

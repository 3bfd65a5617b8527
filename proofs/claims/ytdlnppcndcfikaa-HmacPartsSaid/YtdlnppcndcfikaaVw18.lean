/- Errors that are numbers, nil being none. -/
import Derived.Test.YtdlnppcndcfikaaVw17
namespace Go.Vw
set_option linter.unusedVariables false
set_option linter.unusedSimpArgs false
open Go Go.RowKit

theorem beqI (a b : Int) : (a == b) = decide (a = b) := rfl
theorem bneI (a b : Int) : (a != b) = !decide (a = b) := rfl

/-- The error of a number, 0 being none. -/
def er (ty : TypeId) (n : Int) : T := if n = 0 then .leaf .nilIface else .iface ty (.leaf (.int .i64 n))

theorem er_zero (ty : TypeId) : er ty 0 = .leaf .nilIface := by simp [er]
theorem er_ne {ty : TypeId} {n : Int} (h : ¬ n = 0) : er ty n = .iface ty (.leaf (.int .i64 n)) := by simp [er, h]
theorem er_ids (ty : TypeId) (n : Int) : (er ty n).ids = [] := by unfold er; split <;> simp [T.ids]
theorem er_purge (ty : TypeId) (n : Int) (i : Nat) : (er ty n).purge i = er ty n := by unfold er; split <;> simp [T.purge]

theorem eqC_nn {ti : TypeId → TI} {op : BinOp} {t : TypeId} {x y : Operand} {K : T → Prop}  : eqC ti op t x y K (.leaf .nilIface) (.leaf .nilIface) = ((op = .eql ∨ op = .neq) ∧ (ti t).k = .iface ∧ (isConstOp x || isConstOp y) = true ∧ K (.leaf (.bool (if op = .eql then true else !true)))) := by
  simp [eqC, eqK, eqTo, bindO_some, bindO, and_assoc]

theorem eqC_ni {ti : TypeId → TI} {op : BinOp} {t : TypeId} {x y : Operand} {K : T → Prop} {u : TypeId} {v : T} : eqC ti op t x y K (.leaf .nilIface) (.iface u v) = ((op = .eql ∨ op = .neq) ∧ (ti t).k = .iface ∧ K (.leaf (.bool (if op = .eql then false else !false)))) := by
  simp [eqC, eqK, eqTo, bindO_some, bindO, and_assoc]

theorem eqC_in {ti : TypeId → TI} {op : BinOp} {t : TypeId} {x y : Operand} {K : T → Prop} {u : TypeId} {v : T} : eqC ti op t x y K (.iface u v) (.leaf .nilIface) = ((op = .eql ∨ op = .neq) ∧ (ti t).k = .iface ∧ K (.leaf (.bool (if op = .eql then false else !false)))) := by
  simp [eqC, eqK, eqTo, bindO_some, bindO, and_assoc]

theorem eqC_pp {ti : TypeId → TI} {op : BinOp} {t : TypeId} {x y : Operand} {K : T → Prop}  : eqC ti op t x y K (.leaf (.pointer none)) (.leaf (.pointer none)) = ((op = .eql ∨ op = .neq) ∧ (∃ e, (ti t).k = .ptr e) ∧ K (.leaf (.bool (if op = .eql then true else !true)))) := by
  simp [eqC, eqK, eqTo, bindO_some, bindO, and_assoc]

theorem eqC_pa {ti : TypeId → TI} {op : BinOp} {t : TypeId} {x y : Operand} {K : T → Prop} {i n : Nat} : eqC ti op t x y K (.leaf (.pointer none)) (.addr i n) = ((op = .eql ∨ op = .neq) ∧ (∃ e, (ti t).k = .ptr e) ∧ K (.leaf (.bool (if op = .eql then false else !false)))) := by
  simp [eqC, eqK, eqTo, bindO_some, bindO, and_assoc]

theorem eqC_pt {ti : TypeId → TI} {op : BinOp} {t : TypeId} {x y : Operand} {K : T → Prop} {g : Tag} {n : Nat} {cs : List T} : eqC ti op t x y K (.leaf (.pointer none)) (.pt g n cs) = ((op = .eql ∨ op = .neq) ∧ (∃ e, (ti t).k = .ptr e) ∧ K (.leaf (.bool (if op = .eql then false else !false)))) := by
  simp [eqC, eqK, eqTo, bindO_some, bindO, and_assoc]

theorem eqC_ap {ti : TypeId → TI} {op : BinOp} {t : TypeId} {x y : Operand} {K : T → Prop} {i n : Nat} : eqC ti op t x y K (.addr i n) (.leaf (.pointer none)) = ((op = .eql ∨ op = .neq) ∧ (∃ e, (ti t).k = .ptr e) ∧ K (.leaf (.bool (if op = .eql then false else !false)))) := by
  simp [eqC, eqK, eqTo, bindO_some, bindO, and_assoc]

theorem eqC_tp {ti : TypeId → TI} {op : BinOp} {t : TypeId} {x y : Operand} {K : T → Prop} {g : Tag} {n : Nat} {cs : List T} : eqC ti op t x y K (.pt g n cs) (.leaf (.pointer none)) = ((op = .eql ∨ op = .neq) ∧ (∃ e, (ti t).k = .ptr e) ∧ K (.leaf (.bool (if op = .eql then false else !false)))) := by
  simp [eqC, eqK, eqTo, bindO_some, bindO, and_assoc]

theorem eqC_er_neq {ti : TypeId → TI} {t : TypeId} {x y : Operand} {K : T → Prop} {ty : TypeId} {n : Int} :
    eqC ti .neq t x y K (er ty n) (.leaf .nilIface) = ((ti t).k = .iface ∧ (n = 0 → (isConstOp x || isConstOp y) = true) ∧ K (.leaf (.bool !decide (n = 0)))) := by
  by_cases h : n = 0
  · subst h
    rw [er_zero]
    simp [eqC, eqK, eqTo, bindO, and_assoc]
  · rw [er_ne h]
    simp [eqC, eqK, eqTo, bindO, h]
theorem eqC_er_eql {ti : TypeId → TI} {t : TypeId} {x y : Operand} {K : T → Prop} {ty : TypeId} {n : Int} :
    eqC ti .eql t x y K (er ty n) (.leaf .nilIface) = ((ti t).k = .iface ∧ (n = 0 → (isConstOp x || isConstOp y) = true) ∧ K (.leaf (.bool (decide (n = 0))))) := by
  by_cases h : n = 0
  · subst h
    rw [er_zero]
    simp [eqC, eqK, eqTo, bindO, and_assoc]
  · rw [er_ne h]
    simp [eqC, eqK, eqTo, bindO, h]
end Go.Vw

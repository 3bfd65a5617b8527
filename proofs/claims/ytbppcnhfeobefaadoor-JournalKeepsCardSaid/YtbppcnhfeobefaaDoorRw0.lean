import Derived.Test.YtbppcnhfeobefaaDoorEnVx5
import Derived.Test.YtbppcnhfeobefaaDoorRows
import Derived.Test.YtbppcnhfeobefaaDoorCards
import Derived.Test.YtbppcnhfeobefaaDoorTie
import Derived.ProofKit
import Derived.OpenShut
import Derived.Deep.DeepHandedRow
import Derived.LaidHandle
import Derived.LaidLaws
import Derived.JoinedCond
import Derived.SizedLaws
set_option linter.unusedVariables false
namespace Go.Proofs.YtbppcnhfeobefaaDoor
open Go Go.Vw Go.ChangeShapes Go.WideShapes Go.RowKit Go.ChangeAt
theorem own : ownKnob Tryd.prog.godebug = none := by kernel_rfl
theorem laidOut : laidOutB Tryd.prog = true := by kernel_rfl
theorem et : Tryd.prog.globalNamed "errors.errorType" = some 0 := by kernel_rfl
theorem rtT : (Tryd.prog.cutTypes.find? (·.1 == "internal/reflectlite.rtype")).map (·.2) = some 238 := by kernel_rfl
theorem oneRow : ((List.range 291).filter fun t => Tryd.prog.rowNamed t [101, 114, 114, 111, 114]) = [26] := by kernel_rfl
theorem tySize : Tryd.prog.types.size = 291 := by kernel_rfl
theorem tyOne {ty : TypeId} (h1 : ty < Tryd.prog.types.size) (h2 : Tryd.prog.rowNamed ty [101, 114, 114, 111, 114] = true) : ty = 26 := by
 have hm : ty ∈ (List.range 291).filter fun t => Tryd.prog.rowNamed t [101, 114, 114, 111, 114] := List.mem_filter.2 ⟨List.mem_range.2 (by rw [← tySize]; exact h1), h2⟩
 rw [oneRow] at hm
 exact List.mem_singleton.1 hm
theorem hndl : typeHandle Tryd.prog 26 = .pointer (some ⟨4, 26, none⟩) := by kernel_rfl
abbrev laidL : List (String × DataW Unit) := [("errors.errorType", Rows.laid_errors_errorType)]
theorem handle_of_laid {W : World} (h : laidMetH Tryd.prog laidL W) : W.cell? ⟨0, 0, none⟩ = some (.iface 238 (.agg #[.pointer (some ⟨4, 26, none⟩)])) := by
 have h' : laidMet Tryd.prog [] W ∧ handlesMet Tryd.prog laidL W := h
 obtain ⟨name, u, ty, e1, e2, e3, e4, e5⟩ := h'.2 _ (List.mem_singleton.2 rfl)
 have en : name = [101, 114, 114, 111, 114] := (Option.some.inj e1).symm
 subst en
 obtain rfl := Option.some.inj (rtT.symm.trans e2)
 obtain rfl := tyOne e3 e4
 rw [hndl] at e5
 simpa using World.var?_cell et e5 0
theorem held {W : World} (h : laidMetH Tryd.prog laidL W) : ∀ b cs, Known Tryd.prog b cs → b < W.heap.size ∧ CellsAt W b 0 cs := by
 rintro b cs ⟨hb, r, ty, h1, h2, h3, rfl⟩
 obtain rfl := Option.some.inj (et.symm.trans hb)
 obtain rfl := Option.some.inj (rtT.symm.trans h1)
 obtain rfl := tyOne h2 h3
 rw [hndl]
 have hc := handle_of_laid h
 refine ⟨?_, fun i v hv => ?_⟩
 ·unfold World.cell? at hc
  simp only at hc
  split at hc
  ·rename_i hb; exact (Array.getElem?_eq_some_iff.1 hb).1
  ·simp at hc
 ·cases i with
  | zero => simp at hv; subst hv; simpa using hc
  | succ i => simp at hv
noncomputable def laidWorld (os : Os) : World :=
 let w0 := World.holding Tryd.prog os ⟨#[], #[], []⟩
 { w0 with heap := w0.heap.modify 0 fun
   | .cells _ t frozen => .cells #[.iface 238 (.agg #[.pointer (some ⟨4, 26, none⟩)])] t frozen
   | o => o }
theorem laidWorld_met (os : Os) (args : Array Value) : laidMetH Tryd.prog laidL ((laidWorld os).forCall (fun _ _ => 0) ⟨#[], args, []⟩).memory :=
 laidMetH_of_parts (laidMet_nil _ _) (by kernel_rfl)
end Go.Proofs.YtbppcnhfeobefaaDoor

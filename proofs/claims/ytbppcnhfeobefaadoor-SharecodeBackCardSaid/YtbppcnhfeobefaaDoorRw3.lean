import Derived.Test.YtbppcnhfeobefaaDoorRw0
import Derived.Lay
import Derived.LaidSub
set_option linter.unusedVariables false
set_option linter.unusedSimpArgs false
namespace Go.Proofs.YtbppcnhfeobefaaDoor
open Go Go.Vw Go.ChangeShapes Go.WideShapes Go.RowKit Go.ChangeAt
abbrev laidL3 : List (String × DataW Unit) := [("unicode/utf8.acceptRanges", Rows.laid_unicode_utf8_acceptRanges), ("errors.errorType", Rows.laid_errors_errorType), ("unicode/utf8.first", Rows.laid_unicode_utf8_first)]
abbrev laidO3 : List (String × DataW Unit) := [("unicode/utf8.acceptRanges", Rows.laid_unicode_utf8_acceptRanges), ("unicode/utf8.first", Rows.laid_unicode_utf8_first)]
theorem filO3 : (laidL3.filter fun x => x.2.handleName?.isNone) = laidO3 := by kernel_rfl
theorem filH3 : (laidL3.filter fun x => x.2.handleName?.isSome) = laidL := by kernel_rfl
theorem filA3 : (laidO3.filter fun x => (laidO3.map (·.1)).contains x.1) = laidO3 := by kernel_rfl
theorem filB3 : (laidO3.filter fun x => !(laidO3.map (·.1)).contains x.1) = [] := by kernel_rfl
theorem down3 {W : World} (h : laidMetH Tryd.prog laidL3 W) : handlesMet Tryd.prog laidL W := by
  unfold laidMetH at h
  rw [filH3] at h
  exact h.2
theorem handle_of_laid3 {W : World} (h : laidMetH Tryd.prog laidL3 W) : W.cell? ⟨0, 0, none⟩ = some (.iface 238 (.agg #[.pointer (some ⟨4, 26, none⟩)])) := by
  obtain ⟨name, u, ty, e1, e2, e3, e4, e5⟩ := down3 h _ (List.mem_singleton.2 rfl)
  have en : name = [101, 114, 114, 111, 114] := (Option.some.inj e1).symm
  subst en
  obtain rfl := Option.some.inj (rtT.symm.trans e2)
  obtain rfl := tyOne e3 e4
  rw [hndl] at e5
  simpa using World.var?_cell et e5 0
theorem held3 {W : World} (h : laidMetH Tryd.prog laidL3 W) : ∀ b cs, Known Tryd.prog b cs → b < W.heap.size ∧ CellsAt W b 0 cs := by
  rintro b cs ⟨hb, r, ty, h1, h2, h3, rfl⟩
  obtain rfl := Option.some.inj (et.symm.trans hb)
  obtain rfl := Option.some.inj (rtT.symm.trans h1)
  obtain rfl := tyOne h2 h3
  rw [hndl]
  have hc := handle_of_laid3 h
  refine ⟨?_, fun i v hv => ?_⟩
  · unfold World.cell? at hc
    simp only at hc
    split at hc
    · rename_i hb; exact (Array.getElem?_eq_some_iff.1 hb).1
    · simp at hc
  · cases i with
    | zero => simp at hv; subst hv; simpa using hc
    | succ i => simp at hv
noncomputable def laidWorld3 (os : Os) : World := (laidWorld os).layVars Tryd.prog laidO3
theorem laidWorld3_os (os : Os) : (laidWorld3 os).os = os := World.layVars_os _ _ _
theorem memHeap3 (W : World) (args : Array Value) : W.heap = (W.forCall (fun _ _ => 0) ⟨#[], args, []⟩).memory.heap := by simp [World.memory, World.forCall, Input.heap]
theorem laidO3_met (os : Os) (args : Array Value) : laidMet Tryd.prog laidO3 ((laidWorld3 os).forCall (fun _ _ => 0) ⟨#[], args, []⟩).memory :=
  (show laidMet Tryd.prog laidO3 (laidWorld3 os) from laidMet_layVars (w0 := laidWorld os) (laidO3.map (·.1)) [] (by rw [filA3, laidWorld3]) (by kernel_rfl) (by kernel_rfl) (by rw [filB3]; exact LaidIn.none)).of_heap (memHeap3 _ _)
theorem laidWorld3_met (os : Os) (args : Array Value) : laidMetH Tryd.prog laidL3 ((laidWorld3 os).forCall (fun _ _ => 0) ⟨#[], args, []⟩).memory :=
  laidMetH_of_parts (by rw [filO3]; exact laidO3_met os args) (by kernel_rfl)
end Go.Proofs.YtbppcnhfeobefaaDoor

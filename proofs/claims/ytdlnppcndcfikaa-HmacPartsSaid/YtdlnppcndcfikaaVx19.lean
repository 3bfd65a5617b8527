/- Short words: proofs by themselves, renaming by itself. -/
import Derived.Test.YtdlnppcndcfikaaVx18
namespace Go.Vw
set_option linter.unusedVariables false
set_option linter.unusedSimpArgs false
open Go Go.RowKit
theorem om {p : Prop} (h : p := by first | omega | (simp <;> omega) | (simp at * <;> omega) | (split <;> omega) | (split <;> (first | omega | (simp <;> omega) | (simp at * <;> omega)))) : p := h
theorem sb {p : Prop} (h : p := by first | rfl | (simp only [T.ids, idsL, er_ids, List.append_nil, List.nil_append] <;> rfl)) : p := h
theorem nb {p : Prop} (h : p := by first | rfl | (simp only [T.noB, noBL, er_noB, u8s_noB, b8s_noB, Bool.and_self, Bool.true_and, Bool.and_true]; rfl) | simp only [T.noB, noBL, er_noB, u8s_noB, b8s_noB, Bool.and_self, Bool.true_and, Bool.and_true]) : p := h
theorem kr {p : Prop} (h : p := by as_aux_lemma => kernel_rfl) : p := h
theorem RenL.addr2 {ρ : Nat → Nat} {i j k l : Nat} (h : ρ i = k) (h2 : ρ j = l) : RenL ρ [.addr i 0, .addr j 0] [.addr k 0, .addr l 0] := .cons (.addr h 0) (.cons (.addr h2 0) .nil)
theorem Meets.sw {P : Program} {f : FuncId} {A B : List T} {H K H' K' : List (Nat × List T)} {S S1 : List Nat} {R R1 : T} (l : List (Nat × Nat)) (hM : Meets P f A H S R H')
    (hA : RenA (swps l) A B := by repeat' (first | exact .nil | exact robj1 rfl | exact robj2 rfl | exact robj3 rfl | exact .addr rfl _ | exact .ref rfl _ _ _ | (refine .same ?_; first | exact mp_ids _ (fun _ => rfl) | rfl | exact er_ids _ _ | exact fl_ids (fun _ => rfl) _ | (simp only [T.ids, idsL, er_ids, List.append_nil, List.nil_append]; done)) | refine .cons ?_ ?_ | refine .agg ?_ | refine .tup ?_ | refine .iface _ ?_))
    (hH : RenH (swps l) H K := by repeat' (first | exact .nil | exact robj1 rfl | exact robj2 rfl | exact robj3 rfl | exact .addr rfl _ | exact .ref rfl _ _ _ | (refine .same ?_; first | exact mp_ids _ (fun _ => rfl) | rfl | exact er_ids _ _ | exact fl_ids (fun _ => rfl) _ | (simp only [T.ids, idsL, er_ids, List.append_nil, List.nil_append]; done)) | refine .cons rfl ?_ ?_ | refine .cons ?_ ?_ | refine .agg ?_ | refine .tup ?_ | refine .iface _ ?_))
    (hS : S.map (swps l) = S1 := by rfl)
    (hR : Ren (swps l) R R1 := by repeat' (first | exact .nil | exact robj1 rfl | exact robj2 rfl | exact robj3 rfl | exact .addr rfl _ | exact .ref rfl _ _ _ | (refine .same ?_; first | exact mp_ids _ (fun _ => rfl) | rfl | exact er_ids _ _ | exact fl_ids (fun _ => rfl) _ | (simp only [T.ids, idsL, er_ids, List.append_nil, List.nil_append]; done)) | refine .cons ?_ ?_ | refine .agg ?_ | refine .tup ?_ | refine .iface _ ?_))
    (hH' : RenH (swps l) H' K' := by repeat' (first | exact .nil | exact robj1 rfl | exact robj2 rfl | exact robj3 rfl | exact .addr rfl _ | exact .ref rfl _ _ _ | (refine .same ?_; first | exact mp_ids _ (fun _ => rfl) | rfl | exact er_ids _ _ | exact fl_ids (fun _ => rfl) _ | (simp only [T.ids, idsL, er_ids, List.append_nil, List.nil_append]; done)) | refine .cons rfl ?_ ?_ | refine .cons ?_ ?_ | refine .agg ?_ | refine .tup ?_ | refine .iface _ ?_)) : Meets P f B K S1 R1 K' := Meets.swp l hM hA hH hS hR hH'
theorem Go.sw {E : Env} {Γ : Cx} {f : FuncId} {N : Nat} {S : List Nat} {Post : Value → World → Prop} {k : List Item} {L L' : List (Nat × T)} {H H' : List (Nat × List T)} (l : List (Nat × Nat))
    (hg : Go E Γ f N S Post k (stL L' H')) (hS : S.map (swps l) = S := by rfl)
    (hL : RenQ (swps l) L' L := by repeat' (first | exact .nil | exact robj1 rfl | exact robj2 rfl | exact robj3 rfl | exact .addr rfl _ | exact .ref rfl _ _ _ | (refine .same ?_; first | exact mp_ids _ (fun _ => rfl) | rfl | exact er_ids _ _ | exact fl_ids (fun _ => rfl) _ | (simp only [T.ids, idsL, er_ids, List.append_nil, List.nil_append]; done)) | refine .cons ?_ ?_ | refine .agg ?_ | refine .tup ?_ | refine .iface _ ?_))
    (hH : RenH (swps l) H' H := by repeat' (first | exact .nil | exact robj1 rfl | exact robj2 rfl | exact robj3 rfl | exact .addr rfl _ | exact .ref rfl _ _ _ | (refine .same ?_; first | exact mp_ids _ (fun _ => rfl) | rfl | exact er_ids _ _ | exact fl_ids (fun _ => rfl) _ | (simp only [T.ids, idsL, er_ids, List.append_nil, List.nil_append]; done)) | refine .cons rfl ?_ ?_ | refine .cons ?_ ?_ | refine .agg ?_ | refine .tup ?_ | refine .iface _ ?_)) : Go E Γ f N S Post k (stL L H) := Go.swp l hS hL hH hg
end Go.Vw

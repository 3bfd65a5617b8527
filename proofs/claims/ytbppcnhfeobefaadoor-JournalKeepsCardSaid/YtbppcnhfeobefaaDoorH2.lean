import Derived.Test.YtbppcnhfeobefaaDoorPD0
set_option linter.unusedVariables false
namespace Go.Proofs.YtbppcnhfeobefaaDoor
open Go Go.Vw Go.Proofs
theorem qh2_1 {p : Prop} (h : p := by first | rfl | (rw [mp_ids _ (fun _ => rfl)]; rfl)) : p := h
theorem qh2_2 {p : Prop} (h : p := by rw [(fl_ids (g := gWq) (fun _ => rfl) d1)]; rfl) : p := h
theorem qh2_3 {p : Prop} (h : p := by first | rfl | (simp only [dDstep_enc, T.ids, idsL, er_ids, List.append_nil, List.nil_append]; first | rfl | (rw [mp_ids _ (fun _ => rfl)]; rfl))) : p := h
theorem qh2_4 {p : Prop} (h : p := by rw [(mp_ids (g := gLq) d0 (fun _ => rfl))]; rfl) : p := h
theorem qh2_5 {p : Prop} (h : p := by first | omega | (rw [List.length_set]; omega)) : p := h
def dDhas_enc (d0 : tLB) (d1 : tLW) (d2 : Int) (d3 : Bool) (i : Int) (_ : Unit) : T × List (Nat × List T) := (tb ((decide (i ≥ 0)) && (decide (i < (d0.length : Int)))), [(0, [.ref 21 1 0 d0.length, .ref 22 2 0 d1.length, ti d2, tb d3]), (21, b8s .shr d0), (22, fl gWq d1)])
theorem dDhas_m (d0 : tLB) (d1 : tLW) (d2 : Int) (d3 : Bool) (i : Int) : Meets Tryd.prog 83 [.addr 0 0, ti i] ([(0, [.ref 21 1 0 d0.length, .ref 22 2 0 d1.length, ti d2, tb d3]), (21, b8s .shr d0), (22, fl gWq d1)]) [0, 21, 22] (tb ((decide (i ≥ 0)) && (decide (i < (d0.length : Int))))) ([(0, [.ref 21 1 0 d0.length, .ref 22 2 0 d1.length, ti d2, tb d3]), (21, b8s .shr d0), (22, fl gWq d1)]) := by
 refine Meets.enterX (E := E) (N := 20) (enc := dDhas_enc d0 d1 d2 d3 i) (x := ()) Tryd.func83 Tryd.call83 rfl rfl ?_
 intro Γ k hk
 refine Go.rx 20 {} [] [0, 1] _ [(0, .addr 0 0), (1, ti i)] [(0, [.ref 21 1 0 d0.length, .ref 22 2 0 d1.length, ti d2, tb d3]), (21, b8s .shr d0), (22, fl gWq d1)] hk rfl kr .nil ?_
 clear hk; intro k hk
 refine Go.regJ 20 [(4, tb ((decide (i ≥ 0)) && (decide (i < (d0.length : Int)))))] [(0, [.ref 21 1 0 d0.length, .ref 22 2 0 d1.length, ti d2, tb d3]), (21, b8s .shr d0), (22, fl gWq d1)] hk rfl ?_ ?_
 ·clear hk; intro k hk
  exact Go.lvx 20 [0, 21, 22] _ [tb ((decide (i ≥ 0)) && (decide (i < (d0.length : Int))))] Tryd.func83 hk rfl kr .nil (T.Le.of_eq rfl) rfl rfl (.cons sb (.cons qh2_1 (.cons ((congrArg (fun z => subN z [0, 21, 22]) (fl_ids (g := gWq) (fun _ => rfl) d1)).trans rfl) .nil)))
 ·intro hk J
  rcases Bool.eq_false_or_eq_true (decide (i ≥ 0)) with gd1 | gd1
  ·have gd1p := of_decide_eq_true gd1
   refine Go.rx 20 { ws := [(4, { v := some (tb true) })] } [] [4] _ [(4, tb (decide (i < (d0.length : Int))))] [(0, [.ref 21 1 0 d0.length, .ref 22 2 0 d1.length, ti d2, tb d3]), (21, b8s .shr d0), (22, fl gWq d1)] hk rfl kr (.cons (⟨152, by as_aux_lemma => kernel_rfl⟩ : ∃ e, (E.ti 24).k = .ptr e) (.cons trivial (.cons (eb gd1) (.cons trivial .nil)))) ?_
   intro k' hk'
   refine Go.slotEq 4 (tb ((decide (i ≥ 0)) && (decide (i < (d0.length : Int))))) rfl (eb (andT gd1 rfl).symm) ?_
   exact J k' hk'
  ·have gd1p := of_decide_eq_false gd1
   refine Go.rx 20 { ws := [(4, { v := some (tb false) })] } [] [4] _ [(4, tb false)] [(0, [.ref 21 1 0 d0.length, .ref 22 2 0 d1.length, ti d2, tb d3]), (21, b8s .shr d0), (22, fl gWq d1)] hk rfl kr (.cons (⟨152, by as_aux_lemma => kernel_rfl⟩ : ∃ e, (E.ti 24).k = .ptr e) (.cons trivial (.cons (eb gd1) .nil))) ?_
   intro k' hk'
   refine Go.slotEq 4 (tb ((decide (i ≥ 0)) && (decide (i < (d0.length : Int))))) rfl (eb (andF gd1).symm) ?_
   exact J k' hk'
def dDSize_enc (d0 : tLB) (d1 : tLW) (d2 : Int) (d3 : Bool) (_ : Unit) : T × List (Nat × List T) := (ti (d0.length : Int), [(0, [.ref 21 1 0 d0.length, .ref 22 2 0 d1.length, ti d2, tb d3]), (21, b8s .shr d0), (22, fl gWq d1)])
theorem dDSize_m (d0 : tLB) (d1 : tLW) (d2 : Int) (d3 : Bool) : Meets Tryd.prog 26 [.addr 0 0] ([(0, [.ref 21 1 0 d0.length, .ref 22 2 0 d1.length, ti d2, tb d3]), (21, b8s .shr d0), (22, fl gWq d1)]) [0, 21, 22] (ti (d0.length : Int)) ([(0, [.ref 21 1 0 d0.length, .ref 22 2 0 d1.length, ti d2, tb d3]), (21, b8s .shr d0), (22, fl gWq d1)]) := by
 refine Meets.enterX (E := E) (N := 10) (enc := dDSize_enc d0 d1 d2 d3) (x := ()) Tryd.func26 Tryd.call26 rfl rfl ?_
 intro Γ k hk
 refine Go.rx 20 {} [] [0] _ [(0, .addr 0 0)] [(0, [.ref 21 1 0 d0.length, .ref 22 2 0 d1.length, ti d2, tb d3]), (21, b8s .shr d0), (22, fl gWq d1)] hk rfl kr .nil ?_
 clear hk; intro k hk
 refine Go.rx 20 {} [] [0, 4] _ [(0, .addr 0 0), (4, tb false)] [(0, [.ref 21 1 0 d0.length, .ref 22 2 0 d1.length, ti d2, tb d3]), (21, b8s .shr d0), (22, fl gWq d1)] hk rfl kr (.cons (⟨152, by as_aux_lemma => kernel_rfl⟩ : ∃ e, (E.ti 24).k = .ptr e) .nil) ?_
 clear hk; intro k hk
 refine Go.cond 20 hk rfl (t := false) rfl ?_; clear hk; intro k hk
 refine Go.rx 20 {} [] [2] _ [(2, ti (d0.length : Int))] [(0, [.ref 21 1 0 d0.length, .ref 22 2 0 d1.length, ti d2, tb d3]), (21, b8s .shr d0), (22, fl gWq d1)] hk rfl kr .nil ?_
 clear hk; intro k hk
 exact Go.lvx 20 [0, 21, 22] _ [ti (d0.length : Int)] Tryd.func26 hk rfl kr .nil (T.Le.of_eq rfl) rfl rfl (.cons sb (.cons qh2_1 (.cons ((congrArg (fun z => subN z [0, 21, 22]) (fl_ids (g := gWq) (fun _ => rfl) d1)).trans rfl) .nil)))
def dDDown_enc (d0 : tLB) (d1 : tLW) (d2 : Int) (d3 : Bool) (_ : Unit) : T × List (Nat × List T) := (tb d3, [(0, [.ref 21 1 0 d0.length, .ref 22 2 0 d1.length, ti d2, tb d3]), (21, b8s .shr d0), (22, fl gWq d1)])
theorem dDDown_m (d0 : tLB) (d1 : tLW) (d2 : Int) (d3 : Bool) : Meets Tryd.prog 22 [.addr 0 0] ([(0, [.ref 21 1 0 d0.length, .ref 22 2 0 d1.length, ti d2, tb d3]), (21, b8s .shr d0), (22, fl gWq d1)]) [0, 21, 22] (tb d3) ([(0, [.ref 21 1 0 d0.length, .ref 22 2 0 d1.length, ti d2, tb d3]), (21, b8s .shr d0), (22, fl gWq d1)]) := by
 refine Meets.enterX (E := E) (N := 11) (enc := dDDown_enc d0 d1 d2 d3) (x := ()) Tryd.func22 Tryd.call22 rfl rfl ?_
 intro Γ k hk
 refine Go.rx 20 {} [] [0] _ [(0, .addr 0 0)] [(0, [.ref 21 1 0 d0.length, .ref 22 2 0 d1.length, ti d2, tb d3]), (21, b8s .shr d0), (22, fl gWq d1)] hk rfl kr .nil ?_
 clear hk; intro k hk
 refine Go.rx 20 {} [] [2] _ [(2, tb d3)] [(0, [.ref 21 1 0 d0.length, .ref 22 2 0 d1.length, ti d2, tb d3]), (21, b8s .shr d0), (22, fl gWq d1)] hk rfl kr (.cons (⟨152, by as_aux_lemma => kernel_rfl⟩ : ∃ e, (E.ti 24).k = .ptr e) .nil) ?_
 clear hk; intro k hk
 exact Go.lvx 20 [0, 21, 22] _ [tb d3] Tryd.func22 hk rfl kr .nil (T.Le.of_eq rfl) rfl rfl (.cons sb (.cons qh2_1 (.cons ((congrArg (fun z => subN z [0, 21, 22]) (fl_ids (g := gWq) (fun _ => rfl) d1)).trans rfl) .nil)))
noncomputable def dDArm (d0 : tLB) (d1 : tLW) (d2 : Int) (d3 : Bool) (n : Int) : Int × (Unit × Unit × Int × Bool) :=
 bif decide (n < 0) then
  (1, ((), (), d2, d3))
 else
  (0, ((), (), n, d3))
def dDArm_enc (d0 : tLB) (d1 : tLW) (x : Int × (Unit × Unit × Int × Bool)) : T × List (Nat × List T) := (er 149 x.1, [(0, [.ref 21 1 0 d0.length, .ref 22 2 0 d1.length, ti x.2.2.2.1, tb x.2.2.2.2]), (21, b8s .shr d0), (22, fl gWq d1)])
theorem dDArm_m (d0 : tLB) (d1 : tLW) (d2 : Int) (d3 : Bool) (n : Int) : Meets Tryd.prog 23 [.addr 0 0, ti n] ([(0, [.ref 21 1 0 d0.length, .ref 22 2 0 d1.length, ti d2, tb d3]), (21, b8s .shr d0), (22, fl gWq d1)]) [0, 21, 22] (er 149 ((dDArm d0 d1 d2 d3 n).1)) ([(0, [.ref 21 1 0 d0.length, .ref 22 2 0 d1.length, ti (((dDArm d0 d1 d2 d3 n).2).2.2.1), tb (((dDArm d0 d1 d2 d3 n).2).2.2.2)]), (21, b8s .shr d0), (22, fl gWq d1)]) := by
 refine Meets.enterX (E := E) (N := 16) (enc := (dDArm_enc d0 d1)) (x := (dDArm d0 d1 d2 d3 n)) Tryd.func23 Tryd.call23 rfl rfl ?_
 intro Γ k hk
 refine Go.rx 20 {} [] [0, 1] _ [(0, .addr 0 0), (1, ti n)] [(0, [.ref 21 1 0 d0.length, .ref 22 2 0 d1.length, ti d2, tb d3]), (21, b8s .shr d0), (22, fl gWq d1)] hk rfl kr .nil ?_
 clear hk; intro k hk
 refine Go.rx 20 {} [] [0, 1, 10] _ [(0, .addr 0 0), (1, ti n), (10, tb (decide (n < 0)))] [(0, [.ref 21 1 0 d0.length, .ref 22 2 0 d1.length, ti d2, tb d3]), (21, b8s .shr d0), (22, fl gWq d1)] hk rfl kr (.cons (⟨152, by as_aux_lemma => kernel_rfl⟩ : ∃ e, (E.ti 24).k = .ptr e) (.cons trivial .nil)) ?_
 clear hk; intro k hk
 refine Go.br 20 (Pf := (PostX Γ (dDArm_enc d0 d1))) hk rfl rfl ?_ ?_ <;> clear hk <;> intro ct1 k hk
 ·have ct1p := of_decide_eq_true ct1
  refine Go.rx 20 {} [] [4] _ [(4, er 149 1)] [(0, [.ref 21 1 0 d0.length, .ref 22 2 0 d1.length, ti d2, tb d3]), (21, b8s .shr d0), (22, fl gWq d1)] hk rfl kr .nil ?_
  clear hk; intro k hk
  exact Go.lvx 20 [0, 21, 22] _ [er 149 1] Tryd.func23 hk rfl kr .nil (T.Le.of_eq rfl) rfl (by first | rfl | (simp only [dDArm_enc, T.ids, idsL, er_ids, List.append_nil, List.nil_append]; first | rfl | (rw [mp_ids _ (fun _ => rfl)]; rfl))) (.cons sb (.cons qh2_1 (.cons ((congrArg (fun z => subN z [0, 21, 22]) (fl_ids (g := gWq) (fun _ => rfl) d1)).trans rfl) .nil)))
 ·have ct1p := of_decide_eq_false ct1
  refine Go.rx 20 {} [] [] _ [] [(0, [.ref 21 1 0 d0.length, .ref 22 2 0 d1.length, ti n, tb d3]), (21, b8s .shr d0), (22, fl gWq d1)] hk rfl kr .nil ?_
  clear hk; intro k hk
  refine Go.rx 20 {} [] [4] _ [(4, .leaf .nilIface)] [(0, [.ref 21 1 0 d0.length, .ref 22 2 0 d1.length, ti n, tb d3]), (21, b8s .shr d0), (22, fl gWq d1)] hk rfl kr .nil ?_
  clear hk; intro k hk
  exact Go.lvx 20 [0, 21, 22] _ [.leaf .nilIface] Tryd.func23 hk rfl kr .nil (T.Le.of_eq rfl) rfl rfl (.cons sb (.cons qh2_1 (.cons ((congrArg (fun z => subN z [0, 21, 22]) (fl_ids (g := gWq) (fun _ => rfl) d1)).trans rfl) .nil)))
attribute [irreducible] dDArm
noncomputable def dDstep (d0 : tLB) (d1 : tLW) (d2 : Int) (d3 : Bool) : Int × (Unit × Unit × Int × Bool) :=
 bif decide (d2 > 0) then
  bif d3 then
   (23, ((), (), d2 - 1, true))
  else
   bif (d2 - 1) == 0 then
    (23, ((), (), d2 - 1, (d2 - 1) == 0))
   else
    (0, ((), (), d2 - 1, (d2 - 1) == 0))
 else
  bif d3 then
   (23, ((), (), d2, d3))
  else
   (0, ((), (), d2, d3))
def dDstep_enc (d0 : tLB) (d1 : tLW) (x : Int × (Unit × Unit × Int × Bool)) : T × List (Nat × List T) := (er 149 x.1, [(0, [.ref 21 1 0 d0.length, .ref 22 2 0 d1.length, ti x.2.2.2.1, tb x.2.2.2.2]), (21, b8s .shr d0), (22, fl gWq d1)])
theorem dDstep_m (d0 : tLB) (d1 : tLW) (d2 : Int) (d3 : Bool) (ha : 0 ≤ d2 ∧ d2 ≤ 9223372036854775807) : Meets Tryd.prog 84 [.addr 0 0] ([(0, [.ref 21 1 0 d0.length, .ref 22 2 0 d1.length, ti d2, tb d3]), (21, b8s .shr d0), (22, fl gWq d1)]) [0, 21, 22] (er 149 ((dDstep d0 d1 d2 d3).1)) ([(0, [.ref 21 1 0 d0.length, .ref 22 2 0 d1.length, ti (((dDstep d0 d1 d2 d3).2).2.2.1), tb (((dDstep d0 d1 d2 d3).2).2.2.2)]), (21, b8s .shr d0), (22, fl gWq d1)]) := by
 refine Meets.enterX (E := E) (N := 34) (enc := (dDstep_enc d0 d1)) (x := (dDstep d0 d1 d2 d3)) Tryd.func84 Tryd.call84 rfl rfl ?_
 intro Γ k hk
 refine Go.rx 20 {} [] [0] _ [(0, .addr 0 0)] [(0, [.ref 21 1 0 d0.length, .ref 22 2 0 d1.length, ti d2, tb d3]), (21, b8s .shr d0), (22, fl gWq d1)] hk rfl kr .nil ?_
 clear hk; intro k hk
 refine Go.rx 20 {} [] [0, 7] _ [(0, .addr 0 0), (7, tb (decide (d2 > 0)))] [(0, [.ref 21 1 0 d0.length, .ref 22 2 0 d1.length, ti d2, tb d3]), (21, b8s .shr d0), (22, fl gWq d1)] hk rfl kr (.cons trivial .nil) ?_
 clear hk; intro k hk
 refine Go.br 20 (Pf := (PostX Γ (dDstep_enc d0 d1))) hk rfl rfl ?_ ?_ <;> clear hk <;> intro ct2 k hk
 ·have ct2p := of_decide_eq_true ct2
  refine Go.rx 20 { ws := [(4, { v := some (ti (d2 - 1)) })] } [] [0] _ [(0, .addr 0 0)] [(0, [.ref 21 1 0 d0.length, .ref 22 2 0 d1.length, ti (d2 - 1), tb d3]), (21, b8s .shr d0), (22, fl gWq d1)] hk rfl kr (.cons trivial (.cons (iw (d2 - 1) om) .nil)) ?_
  clear hk; intro k hk
  refine Go.split (Pf := (PostX Γ (dDstep_enc d0 d1))) d3 ?_ ?_ <;> intro p1
  ·refine Go.rx 20 { ws := [(4, { v := some (tb true) })] } [] [0] _ [(0, .addr 0 0)] [(0, [.ref 21 1 0 d0.length, .ref 22 2 0 d1.length, ti (d2 - 1), tb true]), (21, b8s .shr d0), (22, fl gWq d1)] hk rfl kr (.cons (Eq.mp (congrArg (partOf (E.ti 4) ([.ref 21 1 0 d0.length, .ref 22 2 0 d1.length, ti (d2 - 1), tb d3]) 3) (eb p1 : tb d3 = tb true)) (part1 kr rfl)) .nil) ?_
   clear hk; intro k hk
   refine Go.rx 20 {} [] [32] _ [(32, tb true)] [(0, [.ref 21 1 0 d0.length, .ref 22 2 0 d1.length, ti (d2 - 1), tb true]), (21, b8s .shr d0), (22, fl gWq d1)] hk rfl kr .nil ?_
   clear hk; intro k hk
   refine Go.cond 20 hk rfl (t := true) rfl ?_; clear hk; intro k hk
   refine Go.rx 20 {} [] [2] _ [(2, er 149 23)] [(0, [.ref 21 1 0 d0.length, .ref 22 2 0 d1.length, ti (d2 - 1), tb true]), (21, b8s .shr d0), (22, fl gWq d1)] hk rfl kr .nil ?_
   clear hk; intro k hk
   exact Go.lvx 20 [0, 21, 22] _ [er 149 23] Tryd.func84 hk rfl kr .nil (T.Le.of_eq rfl) rfl qh2_3 (.cons sb (.cons qh2_1 (.cons ((congrArg (fun z => subN z [0, 21, 22]) (fl_ids (g := gWq) (fun _ => rfl) d1)).trans rfl) .nil)))
  ·refine Go.rx 20 { ws := [(4, { v := some (tb false) })] } [] [0] _ [(0, .addr 0 0)] [(0, [.ref 21 1 0 d0.length, .ref 22 2 0 d1.length, ti (d2 - 1), tb ((d2 - 1) == 0)]), (21, b8s .shr d0), (22, fl gWq d1)] hk rfl kr (.cons (Eq.mp (congrArg (partOf (E.ti 4) ([.ref 21 1 0 d0.length, .ref 22 2 0 d1.length, ti (d2 - 1), tb d3]) 3) (eb p1 : tb d3 = tb false)) (part1 kr rfl)) (.cons trivial .nil)) ?_
   clear hk; intro k hk
   refine Go.rx 20 {} [] [32] _ [(32, tb ((d2 - 1) == 0))] [(0, [.ref 21 1 0 d0.length, .ref 22 2 0 d1.length, ti (d2 - 1), tb ((d2 - 1) == 0)]), (21, b8s .shr d0), (22, fl gWq d1)] hk rfl kr .nil ?_
   clear hk; intro k hk
   refine Go.br 20 (Pf := (PostX Γ (dDstep_enc d0 d1))) hk rfl rfl ?_ ?_ <;> clear hk <;> intro ct3 k hk
   ·have ct3p := eqIt ct3
    refine Go.rx 20 {} [] [2] _ [(2, er 149 23)] [(0, [.ref 21 1 0 d0.length, .ref 22 2 0 d1.length, ti (d2 - 1), tb ((d2 - 1) == 0)]), (21, b8s .shr d0), (22, fl gWq d1)] hk rfl kr .nil ?_
    clear hk; intro k hk
    exact Go.lvx 20 [0, 21, 22] _ [er 149 23] Tryd.func84 hk rfl kr .nil (T.Le.of_eq rfl) rfl qh2_3 (.cons sb (.cons qh2_1 (.cons ((congrArg (fun z => subN z [0, 21, 22]) (fl_ids (g := gWq) (fun _ => rfl) d1)).trans rfl) .nil)))
   ·have ct3p := eqIf ct3
    refine Go.rx 20 {} [] [2] _ [(2, .leaf .nilIface)] [(0, [.ref 21 1 0 d0.length, .ref 22 2 0 d1.length, ti (d2 - 1), tb ((d2 - 1) == 0)]), (21, b8s .shr d0), (22, fl gWq d1)] hk rfl kr .nil ?_
    clear hk; intro k hk
    exact Go.lvx 20 [0, 21, 22] _ [.leaf .nilIface] Tryd.func84 hk rfl kr .nil (T.Le.of_eq rfl) rfl rfl (.cons sb (.cons qh2_1 (.cons ((congrArg (fun z => subN z [0, 21, 22]) (fl_ids (g := gWq) (fun _ => rfl) d1)).trans rfl) .nil)))
 ·have ct2p := of_decide_eq_false ct2
  refine Go.rx 20 {} [] [32] _ [(32, tb d3)] [(0, [.ref 21 1 0 d0.length, .ref 22 2 0 d1.length, ti d2, tb d3]), (21, b8s .shr d0), (22, fl gWq d1)] hk rfl kr .nil ?_
  clear hk; intro k hk
  refine Go.br 20 (Pf := (PostX Γ (dDstep_enc d0 d1))) hk rfl rfl ?_ ?_ <;> clear hk <;> intro ct4 k hk
  ·refine Go.rx 20 {} [] [2] _ [(2, er 149 23)] [(0, [.ref 21 1 0 d0.length, .ref 22 2 0 d1.length, ti d2, tb d3]), (21, b8s .shr d0), (22, fl gWq d1)] hk rfl kr .nil ?_
   clear hk; intro k hk
   exact Go.lvx 20 [0, 21, 22] _ [er 149 23] Tryd.func84 hk rfl kr .nil (T.Le.of_eq rfl) rfl qh2_3 (.cons sb (.cons qh2_1 (.cons ((congrArg (fun z => subN z [0, 21, 22]) (fl_ids (g := gWq) (fun _ => rfl) d1)).trans rfl) .nil)))
  ·refine Go.rx 20 {} [] [2] _ [(2, .leaf .nilIface)] [(0, [.ref 21 1 0 d0.length, .ref 22 2 0 d1.length, ti d2, tb d3]), (21, b8s .shr d0), (22, fl gWq d1)] hk rfl kr .nil ?_
   clear hk; intro k hk
   exact Go.lvx 20 [0, 21, 22] _ [.leaf .nilIface] Tryd.func84 hk rfl kr .nil (T.Le.of_eq rfl) rfl rfl (.cons sb (.cons qh2_1 (.cons ((congrArg (fun z => subN z [0, 21, 22]) (fl_ids (g := gWq) (fun _ => rfl) d1)).trans rfl) .nil)))
attribute [irreducible] dDstep
def dDsettle_enc (d0 : tLB) (d1 : tLW) (d2 : Int) (d3 : Bool) (w0 : Int) (w1 : List UInt8) (_ : Unit) : T × List (Nat × List T) := (.tup [], [(0, [.ref 21 1 0 ((d0.set w0.toNat w1).length), .ref 22 2 0 d1.length, ti d2, tb d3]), (21, b8s .shr (d0.set w0.toNat w1)), (22, fl gWq d1)])
theorem dDsettle_m (d0 : tLB) (d1 : tLW) (d2 : Int) (d3 : Bool) (w0 : Int) (w1 : List UInt8) (hi : 0 ≤ w0 ∧ w0 < (d0.length : Int)) : Meets Tryd.prog 86 [.addr 0 0, .agg [ti w0, .sl 1 .shr w1.length (u8s w1)]] ([(0, [.ref 21 1 0 d0.length, .ref 22 2 0 d1.length, ti d2, tb d3]), (21, b8s .shr d0), (22, fl gWq d1)]) [0, 21, 22] (.tup []) ([(0, [.ref 21 1 0 ((d0.set w0.toNat w1).length), .ref 22 2 0 d1.length, ti d2, tb d3]), (21, b8s .shr (d0.set w0.toNat w1)), (22, fl gWq d1)]) := by
 refine Meets.enterX (E := E) (N := 13) (enc := dDsettle_enc d0 d1 d2 d3 w0 w1) (x := ()) Tryd.func86 Tryd.call86 rfl rfl ?_
 intro Γ k hk
 refine Go.rx 20 { ws := [(0, { id := 10 })] } [] [0, 3] _ [(0, .addr 0 0), (3, .addr 10 0)] [(0, [.ref 21 1 0 d0.length, .ref 22 2 0 d1.length, ti d2, tb d3]), (21, b8s .shr d0), (22, fl gWq d1), (10, [ti w0, .sl 1 .shr w1.length (u8s w1)])] hk rfl kr .nil ?_
 clear hk; intro k hk
 refine Go.dx 20 [0, 1, 2, 3, 4, 5, 6, 7, 8, 9] { ws := [(9, { c := some (b8s .shr (d0.set w0.toNat w1)), sym := true })], pg := [21, 22] } [10] [] _ [] [(0, [.ref 21 1 0 d0.length, .ref 22 2 0 d1.length, ti d2, tb d3]), (21, b8s .shr (d0.set w0.toNat w1)), (22, fl gWq d1)] hk rfl kr (.cons (om : 0 ≤ (w0 : Int) ∧ (w0 : Int) < ((d0.length : Nat) : Int)) (.cons (rfl : scalL [.sl 1 .shr w1.length (u8s w1)] = true) (.cons (by decide : 1 ≤ 1) (.cons (by decide : 1 ≤ 1) (.cons (by simp only [List.length_map]; first | omega | (simp <;> omega) | (simp at * <;> omega) | (split <;> omega) | (split <;> (first | omega | (simp <;> omega) | (simp at * <;> omega))) : 0 + w0.toNat * 1 + 1 ≤ (b8s .shr d0).length) (.cons (mp_set (g := gLq) (k := 0 + w0.toNat * 1) (n := w0.toNat) (x := w1) d0 rfl (by omega) om) (.cons (mp_mem (i := 10) (g := gLq) (d0.set w0.toNat w1) (fun _ => rfl)) (.cons (fl_mem (i := 10) (g := gWq) d1 (fun _ => rfl)) .nil)))))))) ?_
 clear hk; intro k hk
 refine Go.objEq 0 _ ([.ref 21 1 0 ((d0.set w0.toNat w1).length), .ref 22 2 0 d1.length, ti d2, tb d3]) rfl (congrArg (fun q => [T.ref 21 1 0 q, .ref 22 2 0 d1.length, ti d2, tb d3]) (by first | (simp only [List.length_set, cpy_length, List.length_replicate, List.length_cons, List.length_nil, List.length_append]; omega) | (simp [cpy_length]; omega) | simp : d0.length = (d0.set w0.toNat w1).length)) ?_
 exact Go.lvx 20 [0, 21, 22] _ [] Tryd.func86 hk rfl kr .nil (T.Le.of_eq rfl) rfl rfl (.cons sb (.cons qh2_1 (.cons ((congrArg (fun z => subN z [0, 21, 22]) (fl_ids (g := gWq) (fun _ => rfl) d1)).trans rfl) .nil)))
noncomputable def dDWrite (d0 : tLB) (d1 : tLW) (d2 : Int) (d3 : Bool) (i : Int) (b : List UInt8) : Int × (Unit × (tLW) × Int × Bool) :=
 bif (!((decide (i ≥ 0)) && (decide (i < (d0.length : Int))))) || ((b.length : Int) != 64) then
  (1, ((), d1, d2, d3))
 else
  bnd (dDstep d0 d1 d2 d3) fun x1 =>
  bif !(decide (x1.1 = 0)) then
   (x1.1, ((), d1, (x1.2).2.2.1, (x1.2).2.2.2))
  else
   bnd (id b) fun x2 =>
   (0, ((), d1 ++ [(i, x2)], (x1.2).2.2.1, (x1.2).2.2.2))
def dDWrite_enc (d0 : tLB) (x : Int × (Unit × (tLW) × Int × Bool)) : T × List (Nat × List T) := (er 149 x.1, [(0, [.ref 21 1 0 d0.length, .ref 22 2 0 x.2.2.1.length, ti x.2.2.2.1, tb x.2.2.2.2]), (21, b8s .shr d0), (22, fl gWq x.2.2.1)])
theorem dDWrite_m {g_b : Tag} (d0 : tLB) (d1 : tLW) (d2 : Int) (d3 : Bool) (i : Int) (b : List UInt8) (hD : okD 1000 d0 d1 d2) : Meets Tryd.prog 16 [.addr 0 0, ti i, .sl 1 g_b b.length (u8s b)] ([(0, [.ref 21 1 0 d0.length, .ref 22 2 0 d1.length, ti d2, tb d3]), (21, b8s .shr d0), (22, fl gWq d1)]) [0, 21] (er 149 ((dDWrite d0 d1 d2 d3 i b).1)) ([(0, [.ref 21 1 0 d0.length, .ref 22 2 0 ((((dDWrite d0 d1 d2 d3 i b).2).2.1).length), ti (((dDWrite d0 d1 d2 d3 i b).2).2.2.1), tb (((dDWrite d0 d1 d2 d3 i b).2).2.2.2)]), (21, b8s .shr d0), (22, fl gWq (((dDWrite d0 d1 d2 d3 i b).2).2.1))]) := by
 refine Meets.enterX (E := E) (N := 36) (enc := (dDWrite_enc d0)) (x := (dDWrite d0 d1 d2 d3 i b)) Tryd.func16 Tryd.call16 rfl rfl ?_
 intro Γ k hk
 obtain ⟨hl0, hl1, hw, hm0, hm1, ha⟩ := hD
 refine Go.rx 20 {} [] [0, 1, 2] _ [(0, .addr 0 0), (1, ti i), (2, .sl 1 g_b b.length (u8s b))] [(0, [.ref 21 1 0 d0.length, .ref 22 2 0 d1.length, ti d2, tb d3]), (21, b8s .shr d0), (22, fl gWq d1)] hk rfl kr .nil ?_
 clear hk; intro k hk
 refine Go.regJ 20 [(0, .addr 0 0), (1, ti i), (2, .sl 1 g_b b.length (u8s b)), (16, tb ((!((decide (i ≥ 0)) && (decide (i < (d0.length : Int))))) || ((b.length : Int) != 64)))] [(0, [.ref 21 1 0 d0.length, .ref 22 2 0 d1.length, ti d2, tb d3]), (21, b8s .shr d0), (22, fl gWq d1)] hk rfl ?_ ?_
 ·clear hk; intro k hk
  refine Go.br 20 (Pf := (PostX Γ (dDWrite_enc d0))) hk rfl rfl ?_ ?_ <;> clear hk <;> intro ct1 k hk
  ·refine Go.rx 20 {} [] [6] _ [(6, er 149 1)] [(0, [.ref 21 1 0 d0.length, .ref 22 2 0 d1.length, ti d2, tb d3]), (21, b8s .shr d0), (22, fl gWq d1)] hk rfl kr .nil ?_
   clear hk; intro k hk
   exact Go.lvx 20 [0, 21, 22] _ [er 149 1] Tryd.func16 hk rfl kr .nil (T.Le.of_eq rfl) rfl (by first | rfl | (simp only [dDWrite_enc, T.ids, idsL, er_ids, List.append_nil, List.nil_append]; first | rfl | (rw [mp_ids _ (fun _ => rfl)]; rfl))) (.cons sb (.cons qh2_1 (.cons ((congrArg (fun z => subN z [0, 21, 22]) (fl_ids (g := gWq) (fun _ => rfl) d1)).trans rfl) .nil)))
  ·have ct11 : (!((decide (i ≥ 0)) && (decide (i < (d0.length : Int))))) = false := (Bool.or_eq_false_iff.1 ct1).1
   have ct12 : ((b.length : Int) != 64) = false := (Bool.or_eq_false_iff.1 ct1).2
   have ct11' : ((decide (i ≥ 0)) && (decide (i < (d0.length : Int)))) = true := ntF ct11
   have ct11'1 : (decide (i ≥ 0)) = true := (Bool.and_eq_true_iff.1 ct11').1
   have ct11'2 : (decide (i < (d0.length : Int))) = true := (Bool.and_eq_true_iff.1 ct11').2
   have ct11'1p := of_decide_eq_true ct11'1
   have ct11'2p := of_decide_eq_true ct11'2
   have ct12p := neIf ct12
   refine Go.rx 20 { ws := [(1, { call := some { ids := [0, 21, 22], S := [0, 21, 22], M := [], R := er 149 ((dDstep d0 d1 d2 d3).1), H' := [(0, [.ref 21 1 0 d0.length, .ref 22 2 0 d1.length, ti (((dDstep d0 d1 d2 d3).2).2.2.1), tb (((dDstep d0 d1 d2 d3).2).2.2.2)]), (21, b8s .shr d0), (22, fl gWq d1)] } })] } [] [0, 1, 2, 7] _ [(0, .addr 0 0), (1, ti i), (2, .sl 1 g_b b.length (u8s b)), (7, er 149 ((dDstep d0 d1 d2 d3).1))] [(0, [.ref 21 1 0 d0.length, .ref 22 2 0 d1.length, ti (((dDstep d0 d1 d2 d3).2).2.2.1), tb (((dDstep d0 d1 d2 d3).2).2.2.2)]), (21, b8s .shr d0), (22, fl gWq d1)] hk rfl kr (.cons (Meets.sw [] (dDstep_m d0 d1 d2 d3 om) : Meets Tryd.prog 84 [.addr 0 0] [(0, [.ref 21 1 0 d0.length, .ref 22 2 0 d1.length, ti d2, tb d3]), (21, b8s .shr d0), (22, fl gWq d1)] [0, 21, 22] (er 149 ((dDstep d0 d1 d2 d3).1)) [(0, [.ref 21 1 0 d0.length, .ref 22 2 0 d1.length, ti (((dDstep d0 d1 d2 d3).2).2.2.1), tb (((dDstep d0 d1 d2 d3).2).2.2.2)]), (21, b8s .shr d0), (22, fl gWq d1)]) (.cons (sb : subN (idsL [.addr 0 0]) [0, 21, 22] = true) (.cons (sb : subN (idsL [.ref 21 1 0 d0.length, .ref 22 2 0 d1.length, ti d2, tb d3]) [0, 21, 22] = true) (.cons (qh2_4 : subN (idsL (b8s .shr d0)) [0, 21, 22] = true) (.cons (qh2_2 : subN (idsL (fl gWq d1)) [0, 21, 22] = true) .nil))))) ?_
   clear hk; intro k hk
   refine Go.bnd (Pf := (PostX Γ (dDWrite_enc d0))) (v := (dDstep d0 d1 d2 d3)) (fun x1 => [(0, .addr 0 0), (1, ti i), (2, .sl 1 g_b b.length (u8s b)), (7, er 149 x1.1)]) (fun x1 => [(0, [.ref 21 1 0 d0.length, .ref 22 2 0 d1.length, ti ((x1.2).2.2.1), tb ((x1.2).2.2.2)]), (21, b8s .shr d0), (22, fl gWq d1)]) ?_
   intro x1 hx1
   refine Go.rx 20 { ws := [(1, { er := some (149, x1.1) })] } [] [0, 1, 2, 7, 21] _ [(0, .addr 0 0), (1, ti i), (2, .sl 1 g_b b.length (u8s b)), (7, er 149 x1.1), (21, tb (!(decide (x1.1 = 0))))] [(0, [.ref 21 1 0 d0.length, .ref 22 2 0 d1.length, ti ((x1.2).2.2.1), tb ((x1.2).2.2.2)]), (21, b8s .shr d0), (22, fl gWq d1)] hk rfl kr (.cons (⟨rfl, rfl⟩ : (er 149 x1.1) = er 149 x1.1 ∧ (.leaf .nilIface : T) = .leaf .nilIface) .nil) ?_
   clear hk; intro k hk
   refine Go.br 20 (Pf := (PostX Γ (dDWrite_enc d0))) hk rfl rfl ?_ ?_ <;> clear hk <;> intro ct2 k hk
   ·have ct2' : (decide (x1.1 = 0)) = false := ntT ct2
    have ct2'p := of_decide_eq_false ct2'
    refine Go.rx 20 {} [] [6] _ [(6, er 149 x1.1)] [(0, [.ref 21 1 0 d0.length, .ref 22 2 0 d1.length, ti ((x1.2).2.2.1), tb ((x1.2).2.2.2)]), (21, b8s .shr d0), (22, fl gWq d1)] hk rfl kr .nil ?_
    clear hk; intro k hk
    exact Go.lvx 20 [0, 21, 22] _ [er 149 x1.1] Tryd.func16 hk rfl kr .nil (T.Le.of_eq rfl) rfl (by first | rfl | (simp only [dDWrite_enc, T.ids, idsL, er_ids, List.append_nil, List.nil_append]; first | rfl | (rw [mp_ids _ (fun _ => rfl)]; rfl))) (.cons sb (.cons qh2_1 (.cons ((congrArg (fun z => subN z [0, 21, 22]) (fl_ids (g := gWq) (fun _ => rfl) d1)).trans rfl) .nil)))
   ·have ct2' : (decide (x1.1 = 0)) = true := ntF ct2
    have ct2'p := of_decide_eq_true ct2'
    refine Go.dx 20 [0, 1, 2, 3, 4, 5, 6, 7, 8, 9, 10, 11, 12, 13] { ws := [(7, { call := some { ids := [], S := [], M := [], R := .sl 1 .shr (id b).length (u8s (id b)), H' := [] } }), (9, { id := 10 }), (10, { v := some (.ref 22 2 0 ((d1 ++ [(i, (id b))]).length)), c := some (fl gWq (d1 ++ [(i, (id b))])), id := 22, sym := true })], ps := [7], pg := [21, 22], fd := some [22] } [10] [] _ [] [(0, [.ref 21 1 0 d0.length, .ref 22 2 0 ((d1 ++ [(i, (id b))]).length), ti ((x1.2).2.2.1), tb ((x1.2).2.2.2)]), (21, b8s .shr d0), (22, fl gWq (d1 ++ [(i, (id b))]))] hk rfl kr (.cons (Meets.sw [] (clone_m (g_s := g_b) b om) : Meets Tryd.prog 85 [.sl 1 g_b b.length (u8s b)] [] [] (.sl 1 .shr (id b).length (u8s (id b))) []) (.cons (sb : subN (idsL [.sl 1 g_b b.length (u8s b)]) [] = true) (.cons (Nat.le_of_ble_eq_true rfl : 0 + 1 * 2 ≤ ([ti i, .sl 1 .shr (id b).length (u8s (id b))] : List T).length) (.cons (by rw [fl_len (m := 2) (fun _ => rfl)]; omega : 0 + d1.length * 2 ≤ (fl gWq d1).length) (.cons (rfl : scalL [ti i, .sl 1 .shr (id b).length (u8s (id b))] = true) (.cons (om : (d1.length + 1) * 32 ≤ 140737488355328) (.cons (fl_app' (g := gWq) (m := 2) (k := d1.length) (fun _ => rfl) d1 [(i, (id b))] rfl rfl) (.cons (fl_mem (i := 22) (g := gWq) (d1 ++ [(i, (id b))]) (fun _ => rfl)) (.cons (by first | rfl | (simp; done) | (refine congrArg (fun q => T.ref 22 2 0 q) ?_; simp <;> omega) : T.ref 22 2 0 (d1.length + 1) = .ref 22 2 0 ((d1 ++ [(i, (id b))]).length)) (.cons (er_mem (i := 22) 149 x1.1) (.cons (mp_mem (i := 22) (g := gLq) d0 (fun _ => rfl)) (.cons (er_mem (i := 10) 149 x1.1) (.cons (mp_mem (i := 10) (g := gLq) d0 (fun _ => rfl)) (.cons (fl_mem (i := 10) (g := gWq) (d1 ++ [(i, (id b))]) (fun _ => rfl)) .nil)))))))))))))) ?_
    clear hk; intro k hk
    refine Go.bnd (Pf := (PostX Γ (dDWrite_enc d0))) (v := (id b)) (fun x2 => []) (fun x2 => [(0, [.ref 21 1 0 d0.length, .ref 22 2 0 ((d1 ++ [(i, x2)]).length), ti ((x1.2).2.2.1), tb ((x1.2).2.2.2)]), (21, b8s .shr d0), (22, fl gWq (d1 ++ [(i, x2)]))]) ?_
    intro x2 hx2
    have gx2 : x2 = b := hx2
    refine Go.rx 20 {} [] [6] _ [(6, .leaf .nilIface)] [(0, [.ref 21 1 0 d0.length, .ref 22 2 0 ((d1 ++ [(i, x2)]).length), ti ((x1.2).2.2.1), tb ((x1.2).2.2.2)]), (21, b8s .shr d0), (22, fl gWq (d1 ++ [(i, x2)]))] hk rfl kr .nil ?_
    clear hk; intro k hk
    exact Go.lvx 20 [0, 21, 22] _ [.leaf .nilIface] Tryd.func16 hk rfl kr .nil (T.Le.of_eq rfl) rfl rfl (.cons sb (.cons qh2_1 (.cons ((congrArg (fun z => subN z [0, 21, 22]) (fl_ids (g := gWq) (fun _ => rfl) (d1 ++ [(i, x2)]))).trans rfl) .nil)))
 ·intro hk J
  rcases Bool.eq_false_or_eq_true (!((decide (i ≥ 0)) && (decide (i < (d0.length : Int))))) with gd1 | gd1
  ·have gd1' : ((decide (i ≥ 0)) && (decide (i < (d0.length : Int)))) = false := ntT gd1
   refine Go.rx 20 { ws := [(2, { v := some (tb false), call := some { ids := [0, 21, 22], S := [0, 21, 22], M := [], R := tb ((decide (i ≥ 0)) && (decide (i < (d0.length : Int)))), H' := [(0, [.ref 21 1 0 d0.length, .ref 22 2 0 d1.length, ti d2, tb d3]), (21, b8s .shr d0), (22, fl gWq d1)] } })] } [] [0, 1, 2, 16] _ [(0, .addr 0 0), (1, ti i), (2, .sl 1 g_b b.length (u8s b)), (16, tb true)] [(0, [.ref 21 1 0 d0.length, .ref 22 2 0 d1.length, ti d2, tb d3]), (21, b8s .shr d0), (22, fl gWq d1)] hk rfl kr (.cons (Meets.sw [] (dDhas_m d0 d1 d2 d3 i) : Meets Tryd.prog 83 [.addr 0 0, ti i] [(0, [.ref 21 1 0 d0.length, .ref 22 2 0 d1.length, ti d2, tb d3]), (21, b8s .shr d0), (22, fl gWq d1)] [0, 21, 22] (tb ((decide (i ≥ 0)) && (decide (i < (d0.length : Int))))) [(0, [.ref 21 1 0 d0.length, .ref 22 2 0 d1.length, ti d2, tb d3]), (21, b8s .shr d0), (22, fl gWq d1)]) (.cons (sb : subN (idsL [.addr 0 0, ti i]) [0, 21, 22] = true) (.cons (sb : subN (idsL [.ref 21 1 0 d0.length, .ref 22 2 0 d1.length, ti d2, tb d3]) [0, 21, 22] = true) (.cons (qh2_4 : subN (idsL (b8s .shr d0)) [0, 21, 22] = true) (.cons (qh2_2 : subN (idsL (fl gWq d1)) [0, 21, 22] = true) (.cons (eb gd1') .nil)))))) ?_
   intro k' hk'
   refine Go.slotEq 16 (tb ((!((decide (i ≥ 0)) && (decide (i < (d0.length : Int))))) || ((b.length : Int) != 64))) rfl (eb (orT gd1).symm) ?_
   exact J k' hk'
  ·have gd1' : ((decide (i ≥ 0)) && (decide (i < (d0.length : Int)))) = true := ntF gd1
   have gd1'1 : (decide (i ≥ 0)) = true := (Bool.and_eq_true_iff.1 gd1').1
   have gd1'2 : (decide (i < (d0.length : Int))) = true := (Bool.and_eq_true_iff.1 gd1').2
   have gd1'1p := of_decide_eq_true gd1'1
   have gd1'2p := of_decide_eq_true gd1'2
   refine Go.rx 20 { ws := [(2, { v := some (tb true), call := some { ids := [0, 21, 22], S := [0, 21, 22], M := [], R := tb ((decide (i ≥ 0)) && (decide (i < (d0.length : Int)))), H' := [(0, [.ref 21 1 0 d0.length, .ref 22 2 0 d1.length, ti d2, tb d3]), (21, b8s .shr d0), (22, fl gWq d1)] } })] } [] [0, 1, 2, 16] _ [(0, .addr 0 0), (1, ti i), (2, .sl 1 g_b b.length (u8s b)), (16, tb ((b.length : Int) != 64))] [(0, [.ref 21 1 0 d0.length, .ref 22 2 0 d1.length, ti d2, tb d3]), (21, b8s .shr d0), (22, fl gWq d1)] hk rfl kr (.cons (Meets.sw [] (dDhas_m d0 d1 d2 d3 i) : Meets Tryd.prog 83 [.addr 0 0, ti i] [(0, [.ref 21 1 0 d0.length, .ref 22 2 0 d1.length, ti d2, tb d3]), (21, b8s .shr d0), (22, fl gWq d1)] [0, 21, 22] (tb ((decide (i ≥ 0)) && (decide (i < (d0.length : Int))))) [(0, [.ref 21 1 0 d0.length, .ref 22 2 0 d1.length, ti d2, tb d3]), (21, b8s .shr d0), (22, fl gWq d1)]) (.cons (sb : subN (idsL [.addr 0 0, ti i]) [0, 21, 22] = true) (.cons (sb : subN (idsL [.ref 21 1 0 d0.length, .ref 22 2 0 d1.length, ti d2, tb d3]) [0, 21, 22] = true) (.cons (qh2_4 : subN (idsL (b8s .shr d0)) [0, 21, 22] = true) (.cons (qh2_2 : subN (idsL (fl gWq d1)) [0, 21, 22] = true) (.cons (eb gd1') (.cons trivial .nil))))))) ?_
   intro k' hk'
   refine Go.slotEq 16 (tb ((!((decide (i ≥ 0)) && (decide (i < (d0.length : Int))))) || ((b.length : Int) != 64))) rfl (eb (orF gd1 rfl).symm) ?_
   exact J k' hk'
attribute [irreducible] dDWrite
noncomputable def dDSync_k1 (x1 : Int × (Unit × Unit × Int × Bool)) (o2 : tLB) : Int × (tLB × (tLW) × Int × Bool) :=
 (0, (o2, [], (x1.2).2.2.1, (x1.2).2.2.2))
noncomputable def dDSync_l1 (d1 : tLW) : Nat → Int → (tLB) → Lo (tLB) (Int × (tLB × (tLW) × Int × Bool))
 | 0, _, _ => .brk default
 | ml1 + 1, t191, o1 =>
  bif decide (t191 < (d1.length : Int)) then
   dDSync_l1 d1 ml1 (t191 + 1) (o1.set ((d1.getD t191.toNat ((0, []) : Int × List UInt8)).1).toNat ((d1.getD t191.toNat ((0, []) : Int × List UInt8)).2))
  else
   Lo.brk o1
noncomputable def dDSync (d0 : tLB) (d1 : tLW) (d2 : Int) (d3 : Bool) : Int × (tLB × (tLW) × Int × Bool) :=
 bnd (dDstep d0 d1 d2 d3) fun x1 =>
 bif !(decide (x1.1 = 0)) then
  (x1.1, (d0, d1, (x1.2).2.2.1, (x1.2).2.2.2))
 else
  Lo.el (dDSync_l1 d1 (((d1.length : Int) - (0 : Int)).toNat + 1) 0 d0) (fun z : tLB => dDSync_k1 x1 z)
def dDSync_enc (x : Int × (tLB × (tLW) × Int × Bool)) : T × List (Nat × List T) := (er 149 x.1, [(0, [.ref 21 1 0 x.2.1.length, .ref 22 2 0 x.2.2.1.length, ti x.2.2.2.1, tb x.2.2.2.2]), (21, b8s .shr x.2.1), (22, fl gWq x.2.2.1)])
theorem dDSync_m (d0 : tLB) (d1 : tLW) (d2 : Int) (d3 : Bool) (hD : okD 1000 d0 d1 d2) : Meets Tryd.prog 18 [.addr 0 0] ([(0, [.ref 21 1 0 d0.length, .ref 22 2 0 d1.length, ti d2, tb d3]), (21, b8s .shr d0), (22, fl gWq d1)]) [0, 21] (er 149 ((dDSync d0 d1 d2 d3).1)) ([(0, [.ref 21 1 0 ((((dDSync d0 d1 d2 d3).2).1).length), .ref 22 2 0 ((((dDSync d0 d1 d2 d3).2).2.1).length), ti (((dDSync d0 d1 d2 d3).2).2.2.1), tb (((dDSync d0 d1 d2 d3).2).2.2.2)]), (21, b8s .shr (((dDSync d0 d1 d2 d3).2).1)), (22, fl gWq (((dDSync d0 d1 d2 d3).2).2.1))]) := by
 refine Meets.enterX (E := E) (N := 30) (enc := dDSync_enc) (x := (dDSync d0 d1 d2 d3)) Tryd.func18 Tryd.call18 rfl rfl ?_
 intro Γ k hk
 obtain ⟨hl0, hl1, hw, hm0, hm1, ha⟩ := hD
 refine Go.rx 20 {} [] [0] _ [(0, .addr 0 0)] [(0, [.ref 21 1 0 d0.length, .ref 22 2 0 d1.length, ti d2, tb d3]), (21, b8s .shr d0), (22, fl gWq d1)] hk rfl kr .nil ?_
 clear hk; intro k hk
 refine Go.rx 20 {} [] [0, 7] _ [(0, .addr 0 0), (7, tb false)] [(0, [.ref 21 1 0 d0.length, .ref 22 2 0 d1.length, ti d2, tb d3]), (21, b8s .shr d0), (22, fl gWq d1)] hk rfl kr (.cons (⟨152, by as_aux_lemma => kernel_rfl⟩ : ∃ e, (E.ti 24).k = .ptr e) .nil) ?_
 clear hk; intro k hk
 refine Go.cond 20 hk rfl (t := false) rfl ?_; clear hk; intro k hk
 refine Go.rx 20 { ws := [(1, { call := some { ids := [0, 21, 22], S := [0, 21, 22], M := [], R := er 149 ((dDstep d0 d1 d2 d3).1), H' := [(0, [.ref 21 1 0 d0.length, .ref 22 2 0 d1.length, ti (((dDstep d0 d1 d2 d3).2).2.2.1), tb (((dDstep d0 d1 d2 d3).2).2.2.2)]), (21, b8s .shr d0), (22, fl gWq d1)] } })] } [] [0, 3] _ [(0, .addr 0 0), (3, er 149 ((dDstep d0 d1 d2 d3).1))] [(0, [.ref 21 1 0 d0.length, .ref 22 2 0 d1.length, ti (((dDstep d0 d1 d2 d3).2).2.2.1), tb (((dDstep d0 d1 d2 d3).2).2.2.2)]), (21, b8s .shr d0), (22, fl gWq d1)] hk rfl kr (.cons (Meets.sw [] (dDstep_m d0 d1 d2 d3 om) : Meets Tryd.prog 84 [.addr 0 0] [(0, [.ref 21 1 0 d0.length, .ref 22 2 0 d1.length, ti d2, tb d3]), (21, b8s .shr d0), (22, fl gWq d1)] [0, 21, 22] (er 149 ((dDstep d0 d1 d2 d3).1)) [(0, [.ref 21 1 0 d0.length, .ref 22 2 0 d1.length, ti (((dDstep d0 d1 d2 d3).2).2.2.1), tb (((dDstep d0 d1 d2 d3).2).2.2.2)]), (21, b8s .shr d0), (22, fl gWq d1)]) (.cons (sb : subN (idsL [.addr 0 0]) [0, 21, 22] = true) (.cons (sb : subN (idsL [.ref 21 1 0 d0.length, .ref 22 2 0 d1.length, ti d2, tb d3]) [0, 21, 22] = true) (.cons (qh2_4 : subN (idsL (b8s .shr d0)) [0, 21, 22] = true) (.cons (qh2_2 : subN (idsL (fl gWq d1)) [0, 21, 22] = true) .nil))))) ?_
 clear hk; intro k hk
 refine Go.bnd (Pf := (PostX Γ dDSync_enc)) (v := (dDstep d0 d1 d2 d3)) (fun x1 => [(0, .addr 0 0), (3, er 149 x1.1)]) (fun x1 => [(0, [.ref 21 1 0 d0.length, .ref 22 2 0 d1.length, ti ((x1.2).2.2.1), tb ((x1.2).2.2.2)]), (21, b8s .shr d0), (22, fl gWq d1)]) ?_
 intro x1 hx1
 refine Go.rx 20 { ws := [(1, { er := some (149, x1.1) })] } [] [0, 3, 12] _ [(0, .addr 0 0), (3, er 149 x1.1), (12, tb (!(decide (x1.1 = 0))))] [(0, [.ref 21 1 0 d0.length, .ref 22 2 0 d1.length, ti ((x1.2).2.2.1), tb ((x1.2).2.2.2)]), (21, b8s .shr d0), (22, fl gWq d1)] hk rfl kr (.cons (⟨rfl, rfl⟩ : (er 149 x1.1) = er 149 x1.1 ∧ (.leaf .nilIface : T) = .leaf .nilIface) .nil) ?_
 clear hk; intro k hk
 refine Go.br 20 (Pf := (PostX Γ dDSync_enc)) hk rfl rfl ?_ ?_ <;> clear hk <;> intro ct1 k hk
 ·have ct1' : (decide (x1.1 = 0)) = false := ntT ct1
  have ct1'p := of_decide_eq_false ct1'
  refine Go.rx 20 {} [] [2] _ [(2, er 149 x1.1)] [(0, [.ref 21 1 0 d0.length, .ref 22 2 0 d1.length, ti ((x1.2).2.2.1), tb ((x1.2).2.2.2)]), (21, b8s .shr d0), (22, fl gWq d1)] hk rfl kr .nil ?_
  clear hk; intro k hk
  exact Go.lvx 20 [0, 21, 22] _ [er 149 x1.1] Tryd.func18 hk rfl kr .nil (T.Le.of_eq rfl) rfl (by first | rfl | (simp only [dDSync_enc, T.ids, idsL, er_ids, List.append_nil, List.nil_append]; first | rfl | (rw [mp_ids _ (fun _ => rfl)]; rfl))) (.cons sb (.cons qh2_1 (.cons ((congrArg (fun z => subN z [0, 21, 22]) (fl_ids (g := gWq) (fun _ => rfl) d1)).trans rfl) .nil)))
 ·have ct1' : (decide (x1.1 = 0)) = true := ntF ct1
  have ct1'p := of_decide_eq_true ct1'
  refine Go.rx 20 {} [] [0, 17, 18, 19] _ [(0, .addr 0 0), (17, .ref 22 2 0 d1.length), (18, ti (d1.length : Int)), (19, ti 0)] [(0, [.ref 21 1 0 d0.length, .ref 22 2 0 d1.length, ti ((x1.2).2.2.1), tb ((x1.2).2.2.2)]), (21, b8s .shr d0), (22, fl gWq d1)] hk rfl kr .nil ?_
  clear hk; intro k hk
  refine Go.loopX 20 hk rfl ?_
  clear hk; intro kl1 kxl1 hl1 hxl1
  have Xl1 : ∀ (o2 : tLB), Go E Γ 18 30 [0, 21] ((PostX Γ dDSync_enc) (dDSync_k1 x1 o2)) kxl1 (stL [(0, .addr 0 0)] [(0, [.ref 21 1 0 o2.length, .ref 22 2 0 d1.length, ti ((x1.2).2.2.1), tb ((x1.2).2.2.2)]), (21, b8s .shr o2), (22, fl gWq d1)]) := by
   intro o2
   refine Go.rx 20 { pg := [21] } [22] [] _ [] [(0, [.ref 21 1 0 o2.length, .leaf (.slice none 0 0), ti ((x1.2).2.2.1), tb ((x1.2).2.2.2)]), (21, b8s .shr o2)] hxl1 rfl kr (.cons (mp_mem (i := 22) (g := gLq) o2 (fun _ => rfl)) .nil) ?_
   clear hxl1; intro kxl1 hxl1
   refine Go.rx 20 {} [] [2] _ [(2, .leaf .nilIface)] [(0, [.ref 21 1 0 o2.length, .leaf (.slice none 0 0), ti ((x1.2).2.2.1), tb ((x1.2).2.2.2)]), (21, b8s .shr o2)] hxl1 rfl kr .nil ?_
   clear hxl1; intro kxl1 hxl1
   refine Go.phnC 0 1 22 2 ([.ref 21 1 0 o2.length, .ref 22 2 0 0, ti ((x1.2).2.2.1), tb ((x1.2).2.2.2)]) rfl rfl (.inl rfl) rfl rfl rfl rfl ?_
   exact Go.lvx 20 [0, 21, 22] _ [.leaf .nilIface] Tryd.func18 hxl1 rfl kr .nil (T.Le.of_eq rfl) rfl rfl (.cons sb (.cons qh2_1 (.cons sb .nil)))
  have Ll1 : ∀ (ml1 : Nat) (t191 : Int) (o1 : tLB), (0 ≤ t191) → (o1.length = d0.length) → (((d1.length : Int) - t191).toNat < ml1) → Go E Γ 18 30 [0, 21] ((PostX Γ dDSync_enc) (Lo.el (dDSync_l1 d1 ml1 t191 o1) (fun z : tLB => dDSync_k1 x1 z))) kl1 (stL [(0, .addr 0 0), (17, .ref 22 2 0 d1.length), (18, ti (d1.length : Int)), (19, ti t191)] [(0, [.ref 21 1 0 o1.length, .ref 22 2 0 d1.length, ti ((x1.2).2.2.1), tb ((x1.2).2.2.2)]), (21, b8s .shr o1), (22, fl gWq d1)]) := by
   intro ml1
   induction ml1 with
   | zero => intro t191 o1 i0l1 i1l1 hml1; exact absurd hml1 (Nat.not_lt_zero _)
   | succ ml1 ihl1 =>
    intro t191 o1 i0l1 i1l1 hml1
    rw [dDSync_l1]
    refine Go.round hl1 ?_
    intro k hk
    have hq := hw t191.toNat
    refine Go.rx 20 {} [] [0, 17, 18, 19, 20] _ [(0, .addr 0 0), (17, .ref 22 2 0 d1.length), (18, ti (d1.length : Int)), (19, ti t191), (20, tb (decide (t191 < (d1.length : Int))))] [(0, [.ref 21 1 0 o1.length, .ref 22 2 0 d1.length, ti ((x1.2).2.2.1), tb ((x1.2).2.2.2)]), (21, b8s .shr o1), (22, fl gWq d1)] hk rfl kr (.cons trivial .nil) ?_
    clear hk; intro k hk
    refine Go.br 20 (Pf := (fun z : Lo (tLB) (Int × (tLB × (tLW) × Int × Bool)) => (PostX Γ dDSync_enc) (Lo.el z (fun z : tLB => dDSync_k1 x1 z)))) hk rfl rfl ?_ ?_ <;> clear hk <;> intro ct2 k hk
    ·have ct2p := of_decide_eq_true ct2
     refine Go.rx 20 { ws := [(1, { v := some (.agg ([ti ((d1.getD t191.toNat ((0, []) : Int × List UInt8)).1), .sl 1 .shr ((d1.getD t191.toNat ((0, []) : Int × List UInt8)).2).length (u8s ((d1.getD t191.toNat ((0, []) : Int × List UInt8)).2))])) }), (2, { id := 10 })] } [] [0, 5, 17, 18, 19] _ [(0, .addr 0 0), (5, .addr 10 0), (17, .ref 22 2 0 d1.length), (18, ti (d1.length : Int)), (19, ti t191)] [(0, [.ref 21 1 0 o1.length, .ref 22 2 0 d1.length, ti ((x1.2).2.2.1), tb ((x1.2).2.2.2)]), (21, b8s .shr o1), (22, fl gWq d1), (10, [ti ((d1.getD t191.toNat ((0, []) : Int × List UInt8)).1), .sl 1 .shr ((d1.getD t191.toNat ((0, []) : Int × List UInt8)).2).length (u8s ((d1.getD t191.toNat ((0, []) : Int × List UInt8)).2))])] hk rfl kr (.cons (om : 0 ≤ (t191 : Int) ∧ (t191 : Int) < ((d1.length : Nat) : Int)) (.cons (fl_part (m := 2) (g := gWq) (k := 0 + t191.toNat * 2) (n := t191.toNat) (l := d1) (d := ((0, []) : Int × List UInt8)) (kr : (E.ti 155).agg = true) rfl (fun _ => rfl) (by omega) om rfl) .nil)) ?_
     clear hk; intro k hk
     refine Go.rx 20 { ws := [(2, { call := some { ids := [0, 21, 22], S := [0, 21, 22], M := [], R := .tup [], H' := [(0, [.ref 21 1 0 ((o1.set ((d1.getD t191.toNat ((0, []) : Int × List UInt8)).1).toNat ((d1.getD t191.toNat ((0, []) : Int × List UInt8)).2)).length), .ref 22 2 0 d1.length, ti ((x1.2).2.2.1), tb ((x1.2).2.2.2)]), (21, b8s .shr (o1.set ((d1.getD t191.toNat ((0, []) : Int × List UInt8)).1).toNat ((d1.getD t191.toNat ((0, []) : Int × List UInt8)).2))), (22, fl gWq d1)] } })], pg := [21, 22] } [10] [0, 17, 18, 19] _ [(0, .addr 0 0), (17, .ref 22 2 0 d1.length), (18, ti (d1.length : Int)), (19, ti t191)] [(0, [.ref 21 1 0 ((o1.set ((d1.getD t191.toNat ((0, []) : Int × List UInt8)).1).toNat ((d1.getD t191.toNat ((0, []) : Int × List UInt8)).2)).length), .ref 22 2 0 d1.length, ti ((x1.2).2.2.1), tb ((x1.2).2.2.2)]), (21, b8s .shr (o1.set ((d1.getD t191.toNat ((0, []) : Int × List UInt8)).1).toNat ((d1.getD t191.toNat ((0, []) : Int × List UInt8)).2))), (22, fl gWq d1)] hk rfl kr (.cons (Meets.sw [] (dDsettle_m o1 d1 ((x1.2).2.2.1) ((x1.2).2.2.2) ((d1.getD t191.toNat ((0, []) : Int × List UInt8)).1) ((d1.getD t191.toNat ((0, []) : Int × List UInt8)).2) om) : Meets Tryd.prog 86 [.addr 0 0, .agg ([ti ((d1.getD t191.toNat ((0, []) : Int × List UInt8)).1), .sl 1 .shr ((d1.getD t191.toNat ((0, []) : Int × List UInt8)).2).length (u8s ((d1.getD t191.toNat ((0, []) : Int × List UInt8)).2))])] [(0, [.ref 21 1 0 o1.length, .ref 22 2 0 d1.length, ti ((x1.2).2.2.1), tb ((x1.2).2.2.2)]), (21, b8s .shr o1), (22, fl gWq d1)] [0, 21, 22] (.tup []) [(0, [.ref 21 1 0 ((o1.set ((d1.getD t191.toNat ((0, []) : Int × List UInt8)).1).toNat ((d1.getD t191.toNat ((0, []) : Int × List UInt8)).2)).length), .ref 22 2 0 d1.length, ti ((x1.2).2.2.1), tb ((x1.2).2.2.2)]), (21, b8s .shr (o1.set ((d1.getD t191.toNat ((0, []) : Int × List UInt8)).1).toNat ((d1.getD t191.toNat ((0, []) : Int × List UInt8)).2))), (22, fl gWq d1)]) (.cons (sb : subN (idsL [.addr 0 0, .agg ([ti ((d1.getD t191.toNat ((0, []) : Int × List UInt8)).1), .sl 1 .shr ((d1.getD t191.toNat ((0, []) : Int × List UInt8)).2).length (u8s ((d1.getD t191.toNat ((0, []) : Int × List UInt8)).2))])]) [0, 21, 22] = true) (.cons (sb : subN (idsL [.ref 21 1 0 o1.length, .ref 22 2 0 d1.length, ti ((x1.2).2.2.1), tb ((x1.2).2.2.2)]) [0, 21, 22] = true) (.cons (by rw [(mp_ids (g := gLq) o1 (fun _ => rfl))]; rfl : subN (idsL (b8s .shr o1)) [0, 21, 22] = true) (.cons (qh2_2 : subN (idsL (fl gWq d1)) [0, 21, 22] = true) (.cons (mp_mem (i := 10) (g := gLq) (o1.set ((d1.getD t191.toNat ((0, []) : Int × List UInt8)).1).toNat ((d1.getD t191.toNat ((0, []) : Int × List UInt8)).2)) (fun _ => rfl)) (.cons (fl_mem (i := 10) (g := gWq) d1 (fun _ => rfl)) .nil))))))) ?_
     clear hk; intro k hk
     refine Go.rx 20 { ws := [(0, { v := some (ti (t191 + 1)) })] } [] [0, 17, 18, 19] _ [(0, .addr 0 0), (17, .ref 22 2 0 d1.length), (18, ti (d1.length : Int)), (19, ti (t191 + 1))] [(0, [.ref 21 1 0 ((o1.set ((d1.getD t191.toNat ((0, []) : Int × List UInt8)).1).toNat ((d1.getD t191.toNat ((0, []) : Int × List UInt8)).2)).length), .ref 22 2 0 d1.length, ti ((x1.2).2.2.1), tb ((x1.2).2.2.2)]), (21, b8s .shr (o1.set ((d1.getD t191.toNat ((0, []) : Int × List UInt8)).1).toNat ((d1.getD t191.toNat ((0, []) : Int × List UInt8)).2))), (22, fl gWq d1)] hk rfl kr (.cons trivial (.cons (iw (t191 + 1) om) .nil)) ?_
     clear hk; intro k hk
     exact Go.join 20 hk hl1 rfl (ihl1 (t191 + 1) (o1.set ((d1.getD t191.toNat ((0, []) : Int × List UInt8)).1).toNat ((d1.getD t191.toNat ((0, []) : Int × List UInt8)).2)) qh2_5 qh2_5 om)
    ·have ct2p := of_decide_eq_false ct2
     refine Go.keepN [0] (L' := [(0, .addr 0 0)]) rfl ?_
     exact Go.exitX (Pf := (PostX Γ dDSync_enc)) (F := fun z : tLB => dDSync_k1 x1 z) (a := o1) (Go.join 20 hk hxl1 rfl (Xl1 o1))
  exact Ll1 _ 0 d0 om om (Nat.lt_succ_self _)
theorem dDSync_l1_gen : True := by have := @dDSync_l1.eq_1; have := @dDSync_l1.eq_2; trivial
attribute [irreducible] dDSync_k1 dDSync_l1 dDSync
noncomputable def dDCrash_k1 (o2 : tLB) : (tLB × (tLW) × Int × Bool) :=
 (o2, [], 0, false)
noncomputable def dDCrash_l1 (d1 : tLW) (keep : List Bool) : Nat → Int → (tLB) → Lo (tLB) (tLB × (tLW) × Int × Bool)
 | 0, _, _ => .brk default
 | ml1 + 1, t131, o1 =>
  bif decide (t131 < (d1.length : Int)) then
   bif (decide (t131 < (keep.length : Int))) && (keep.getD t131.toNat false) then
    dDCrash_l1 d1 keep ml1 (t131 + 1) (o1.set ((d1.getD t131.toNat ((0, []) : Int × List UInt8)).1).toNat ((d1.getD t131.toNat ((0, []) : Int × List UInt8)).2))
   else
    dDCrash_l1 d1 keep ml1 (t131 + 1) o1
  else
   Lo.brk o1
noncomputable def dDCrash (d0 : tLB) (d1 : tLW) (d2 : Int) (d3 : Bool) (keep : List Bool) : (tLB × (tLW) × Int × Bool) :=
 Lo.el (dDCrash_l1 d1 keep (((d1.length : Int) - (0 : Int)).toNat + 1) 0 d0) (fun z : tLB => dDCrash_k1 z)
def dDCrash_enc (x : (tLB × (tLW) × Int × Bool)) : T × List (Nat × List T) := (.tup [], [(0, [.ref 21 1 0 x.1.length, .ref 22 2 0 x.2.1.length, ti x.2.2.1, tb x.2.2.2]), (21, b8s .shr x.1), (22, fl gWq x.2.1)])
theorem dDCrash_m {g_keep : Tag} (d0 : tLB) (d1 : tLW) (d2 : Int) (d3 : Bool) (keep : List Bool) (hD : okD 1000 d0 d1 d2) : Meets Tryd.prog 20 [.addr 0 0, .sl 1 g_keep keep.length (bos keep)] ([(0, [.ref 21 1 0 d0.length, .ref 22 2 0 d1.length, ti d2, tb d3]), (21, b8s .shr d0), (22, fl gWq d1)]) [0, 21] (.tup []) ([(0, [.ref 21 1 0 (((dDCrash d0 d1 d2 d3 keep).1).length), .ref 22 2 0 (((dDCrash d0 d1 d2 d3 keep).2.1).length), ti ((dDCrash d0 d1 d2 d3 keep).2.2.1), tb ((dDCrash d0 d1 d2 d3 keep).2.2.2)]), (21, b8s .shr ((dDCrash d0 d1 d2 d3 keep).1)), (22, fl gWq ((dDCrash d0 d1 d2 d3 keep).2.1))]) := by
 refine Meets.enterX (E := E) (N := 41) (enc := dDCrash_enc) (x := (dDCrash d0 d1 d2 d3 keep)) Tryd.func20 Tryd.call20 rfl rfl ?_
 intro Γ k hk
 obtain ⟨hl0, hl1, hw, hm0, hm1, ha⟩ := hD
 refine Go.rx 20 {} [] [0, 1, 7] _ [(0, .addr 0 0), (1, .sl 1 g_keep keep.length (bos keep)), (7, tb false)] [(0, [.ref 21 1 0 d0.length, .ref 22 2 0 d1.length, ti d2, tb d3]), (21, b8s .shr d0), (22, fl gWq d1)] hk rfl kr (.cons (⟨152, by as_aux_lemma => kernel_rfl⟩ : ∃ e, (E.ti 24).k = .ptr e) .nil) ?_
 clear hk; intro k hk
 refine Go.cond 20 hk rfl (t := false) rfl ?_; clear hk; intro k hk
 refine Go.rx 20 {} [] [0, 1, 11, 12, 13] _ [(0, .addr 0 0), (1, .sl 1 g_keep keep.length (bos keep)), (11, .ref 22 2 0 d1.length), (12, ti (d1.length : Int)), (13, ti 0)] [(0, [.ref 21 1 0 d0.length, .ref 22 2 0 d1.length, ti d2, tb d3]), (21, b8s .shr d0), (22, fl gWq d1)] hk rfl kr .nil ?_
 clear hk; intro k hk
 refine Go.loopX 20 hk rfl ?_
 clear hk; intro kl1 kxl1 hl1 hxl1
 have Xl1 : ∀ (o2 : tLB), Go E Γ 20 41 [0, 21] ((PostX Γ dDCrash_enc) (dDCrash_k1 o2)) kxl1 (stL [(0, .addr 0 0)] [(0, [.ref 21 1 0 o2.length, .ref 22 2 0 d1.length, ti d2, tb d3]), (21, b8s .shr o2), (22, fl gWq d1)]) := by
  intro o2
  refine Go.rx 20 { pg := [21] } [22] [] _ [] [(0, [.ref 21 1 0 o2.length, .leaf (.slice none 0 0), ti 0, tb false]), (21, b8s .shr o2)] hxl1 rfl kr (.cons (mp_mem (i := 22) (g := gLq) o2 (fun _ => rfl)) .nil) ?_
  clear hxl1; intro kxl1 hxl1
  refine Go.phnC 0 1 22 2 ([.ref 21 1 0 o2.length, .ref 22 2 0 0, ti 0, tb false]) rfl rfl (.inl rfl) rfl rfl rfl rfl ?_
  exact Go.lvx 20 [0, 21, 22] _ [] Tryd.func20 hxl1 rfl kr .nil (T.Le.of_eq rfl) rfl rfl (.cons sb (.cons qh2_1 (.cons sb .nil)))
 have Ll1 : ∀ (ml1 : Nat) (t131 : Int) (o1 : tLB), (0 ≤ t131) → (o1.length = d0.length) → (((d1.length : Int) - t131).toNat < ml1) → Go E Γ 20 41 [0, 21] ((PostX Γ dDCrash_enc) (Lo.el (dDCrash_l1 d1 keep ml1 t131 o1) (fun z : tLB => dDCrash_k1 z))) kl1 (stL [(0, .addr 0 0), (1, .sl 1 g_keep keep.length (bos keep)), (11, .ref 22 2 0 d1.length), (12, ti (d1.length : Int)), (13, ti t131)] [(0, [.ref 21 1 0 o1.length, .ref 22 2 0 d1.length, ti d2, tb d3]), (21, b8s .shr o1), (22, fl gWq d1)]) := by
  intro ml1
  induction ml1 with
  | zero => intro t131 o1 i0l1 i1l1 hml1; exact absurd hml1 (Nat.not_lt_zero _)
  | succ ml1 ihl1 =>
   intro t131 o1 i0l1 i1l1 hml1
   rw [dDCrash_l1]
   refine Go.round hl1 ?_
   intro k hk
   have hq := hw t131.toNat
   refine Go.rx 20 {} [] [0, 1, 11, 12, 13, 14] _ [(0, .addr 0 0), (1, .sl 1 g_keep keep.length (bos keep)), (11, .ref 22 2 0 d1.length), (12, ti (d1.length : Int)), (13, ti t131), (14, tb (decide (t131 < (d1.length : Int))))] [(0, [.ref 21 1 0 o1.length, .ref 22 2 0 d1.length, ti d2, tb d3]), (21, b8s .shr o1), (22, fl gWq d1)] hk rfl kr (.cons trivial .nil) ?_
   clear hk; intro k hk
   refine Go.br 20 (Pf := (fun z : Lo (tLB) ((tLB × (tLW) × Int × Bool)) => (PostX Γ dDCrash_enc) (Lo.el z (fun z : tLB => dDCrash_k1 z)))) hk rfl rfl ?_ ?_ <;> clear hk <;> intro ct1 k hk
   ·have ct1p := of_decide_eq_true ct1
    refine Go.rx 20 { ws := [(2, { v := some (.agg ([ti ((d1.getD t131.toNat ((0, []) : Int × List UInt8)).1), .sl 1 .shr ((d1.getD t131.toNat ((0, []) : Int × List UInt8)).2).length (u8s ((d1.getD t131.toNat ((0, []) : Int × List UInt8)).2))])) }), (3, { id := 10 })] } [] [0, 1, 4, 5, 11, 12, 13] _ [(0, .addr 0 0), (1, .sl 1 g_keep keep.length (bos keep)), (4, ti t131), (5, .addr 10 0), (11, .ref 22 2 0 d1.length), (12, ti (d1.length : Int)), (13, ti t131)] [(0, [.ref 21 1 0 o1.length, .ref 22 2 0 d1.length, ti d2, tb d3]), (21, b8s .shr o1), (22, fl gWq d1), (10, [ti ((d1.getD t131.toNat ((0, []) : Int × List UInt8)).1), .sl 1 .shr ((d1.getD t131.toNat ((0, []) : Int × List UInt8)).2).length (u8s ((d1.getD t131.toNat ((0, []) : Int × List UInt8)).2))])] hk rfl kr (.cons (om : 0 ≤ (t131 : Int) ∧ (t131 : Int) < ((d1.length : Nat) : Int)) (.cons (fl_part (m := 2) (g := gWq) (k := 0 + t131.toNat * 2) (n := t131.toNat) (l := d1) (d := ((0, []) : Int × List UInt8)) (kr : (E.ti 155).agg = true) rfl (fun _ => rfl) (by omega) om rfl) .nil)) ?_
    clear hk; intro k hk
    refine Go.regJ 20 [(0, .addr 0 0), (1, .sl 1 g_keep keep.length (bos keep)), (5, .addr 10 0), (11, .ref 22 2 0 d1.length), (12, ti (d1.length : Int)), (13, ti t131), (27, tb ((decide (t131 < (keep.length : Int))) && (keep.getD t131.toNat false)))] [(0, [.ref 21 1 0 o1.length, .ref 22 2 0 d1.length, ti d2, tb d3]), (21, b8s .shr o1), (22, fl gWq d1), (10, [ti ((d1.getD t131.toNat ((0, []) : Int × List UInt8)).1), .sl 1 .shr ((d1.getD t131.toNat ((0, []) : Int × List UInt8)).2).length (u8s ((d1.getD t131.toNat ((0, []) : Int × List UInt8)).2))])] hk rfl ?_ ?_
    ·clear hk; intro k hk
     refine Go.br 20 (Pf := (fun z : Lo (tLB) ((tLB × (tLW) × Int × Bool)) => (PostX Γ dDCrash_enc) (Lo.el z (fun z : tLB => dDCrash_k1 z)))) hk rfl rfl ?_ ?_ <;> clear hk <;> intro ct3 k hk
     ·have ct31 : (decide (t131 < (keep.length : Int))) = true := (Bool.and_eq_true_iff.1 ct3).1
      have ct32 : (keep.getD t131.toNat false) = true := (Bool.and_eq_true_iff.1 ct3).2
      have ct31p := of_decide_eq_true ct31
      refine Go.rx 20 { ws := [(2, { call := some { ids := [0, 21, 22], S := [0, 21, 22], M := [], R := .tup [], H' := [(0, [.ref 21 1 0 ((o1.set ((d1.getD t131.toNat ((0, []) : Int × List UInt8)).1).toNat ((d1.getD t131.toNat ((0, []) : Int × List UInt8)).2)).length), .ref 22 2 0 d1.length, ti d2, tb d3]), (21, b8s .shr (o1.set ((d1.getD t131.toNat ((0, []) : Int × List UInt8)).1).toNat ((d1.getD t131.toNat ((0, []) : Int × List UInt8)).2))), (22, fl gWq d1)] } })], pg := [21, 22] } [10] [0, 1, 11, 12, 13] _ [(0, .addr 0 0), (1, .sl 1 g_keep keep.length (bos keep)), (11, .ref 22 2 0 d1.length), (12, ti (d1.length : Int)), (13, ti t131)] [(0, [.ref 21 1 0 ((o1.set ((d1.getD t131.toNat ((0, []) : Int × List UInt8)).1).toNat ((d1.getD t131.toNat ((0, []) : Int × List UInt8)).2)).length), .ref 22 2 0 d1.length, ti d2, tb d3]), (21, b8s .shr (o1.set ((d1.getD t131.toNat ((0, []) : Int × List UInt8)).1).toNat ((d1.getD t131.toNat ((0, []) : Int × List UInt8)).2))), (22, fl gWq d1)] hk rfl kr (.cons (Meets.sw [] (dDsettle_m o1 d1 d2 d3 ((d1.getD t131.toNat ((0, []) : Int × List UInt8)).1) ((d1.getD t131.toNat ((0, []) : Int × List UInt8)).2) om) : Meets Tryd.prog 86 [.addr 0 0, .agg ([ti ((d1.getD t131.toNat ((0, []) : Int × List UInt8)).1), .sl 1 .shr ((d1.getD t131.toNat ((0, []) : Int × List UInt8)).2).length (u8s ((d1.getD t131.toNat ((0, []) : Int × List UInt8)).2))])] [(0, [.ref 21 1 0 o1.length, .ref 22 2 0 d1.length, ti d2, tb d3]), (21, b8s .shr o1), (22, fl gWq d1)] [0, 21, 22] (.tup []) [(0, [.ref 21 1 0 ((o1.set ((d1.getD t131.toNat ((0, []) : Int × List UInt8)).1).toNat ((d1.getD t131.toNat ((0, []) : Int × List UInt8)).2)).length), .ref 22 2 0 d1.length, ti d2, tb d3]), (21, b8s .shr (o1.set ((d1.getD t131.toNat ((0, []) : Int × List UInt8)).1).toNat ((d1.getD t131.toNat ((0, []) : Int × List UInt8)).2))), (22, fl gWq d1)]) (.cons (sb : subN (idsL [.addr 0 0, .agg ([ti ((d1.getD t131.toNat ((0, []) : Int × List UInt8)).1), .sl 1 .shr ((d1.getD t131.toNat ((0, []) : Int × List UInt8)).2).length (u8s ((d1.getD t131.toNat ((0, []) : Int × List UInt8)).2))])]) [0, 21, 22] = true) (.cons (sb : subN (idsL [.ref 21 1 0 o1.length, .ref 22 2 0 d1.length, ti d2, tb d3]) [0, 21, 22] = true) (.cons (by rw [(mp_ids (g := gLq) o1 (fun _ => rfl))]; rfl : subN (idsL (b8s .shr o1)) [0, 21, 22] = true) (.cons (qh2_2 : subN (idsL (fl gWq d1)) [0, 21, 22] = true) (.cons (mp_mem (i := 10) (g := gLq) (o1.set ((d1.getD t131.toNat ((0, []) : Int × List UInt8)).1).toNat ((d1.getD t131.toNat ((0, []) : Int × List UInt8)).2)) (fun _ => rfl)) (.cons (fl_mem (i := 10) (g := gWq) d1 (fun _ => rfl)) .nil))))))) ?_
      clear hk; intro k hk
      refine Go.rx 20 { ws := [(0, { v := some (ti (t131 + 1)) })] } [] [0, 1, 11, 12, 13] _ [(0, .addr 0 0), (1, .sl 1 g_keep keep.length (bos keep)), (11, .ref 22 2 0 d1.length), (12, ti (d1.length : Int)), (13, ti (t131 + 1))] [(0, [.ref 21 1 0 ((o1.set ((d1.getD t131.toNat ((0, []) : Int × List UInt8)).1).toNat ((d1.getD t131.toNat ((0, []) : Int × List UInt8)).2)).length), .ref 22 2 0 d1.length, ti d2, tb d3]), (21, b8s .shr (o1.set ((d1.getD t131.toNat ((0, []) : Int × List UInt8)).1).toNat ((d1.getD t131.toNat ((0, []) : Int × List UInt8)).2))), (22, fl gWq d1)] hk rfl kr (.cons trivial (.cons (iw (t131 + 1) om) .nil)) ?_
      clear hk; intro k hk
      exact Go.join 20 hk hl1 rfl (ihl1 (t131 + 1) (o1.set ((d1.getD t131.toNat ((0, []) : Int × List UInt8)).1).toNat ((d1.getD t131.toNat ((0, []) : Int × List UInt8)).2)) qh2_5 qh2_5 om)
     ·refine Go.rx 20 { ws := [(0, { v := some (ti (t131 + 1)) })], pg := [21, 22] } [10] [0, 1, 11, 12, 13] _ [(0, .addr 0 0), (1, .sl 1 g_keep keep.length (bos keep)), (11, .ref 22 2 0 d1.length), (12, ti (d1.length : Int)), (13, ti (t131 + 1))] [(0, [.ref 21 1 0 o1.length, .ref 22 2 0 d1.length, ti d2, tb d3]), (21, b8s .shr o1), (22, fl gWq d1)] hk rfl kr (.cons trivial (.cons (iw (t131 + 1) om) (.cons (mp_mem (i := 10) (g := gLq) o1 (fun _ => rfl)) (.cons (fl_mem (i := 10) (g := gWq) d1 (fun _ => rfl)) .nil)))) ?_
      clear hk; intro k hk
      exact Go.join 20 hk hl1 rfl (ihl1 (t131 + 1) o1 qh2_5 qh2_5 om)
    ·intro hk J
     rcases Bool.eq_false_or_eq_true (decide (t131 < (keep.length : Int))) with gd1 | gd1
     ·have gd1p := of_decide_eq_true gd1
      refine Go.rx 20 { ws := [(3, { v := some (tb true) }), (8, { v := some (tb (keep.getD t131.toNat false)) })] } [] [0, 1, 5, 11, 12, 13, 27] _ [(0, .addr 0 0), (1, .sl 1 g_keep keep.length (bos keep)), (5, .addr 10 0), (11, .ref 22 2 0 d1.length), (12, ti (d1.length : Int)), (13, ti t131), (27, tb (keep.getD t131.toNat false))] [(0, [.ref 21 1 0 o1.length, .ref 22 2 0 d1.length, ti d2, tb d3]), (21, b8s .shr o1), (22, fl gWq d1), (10, [ti ((d1.getD t131.toNat ((0, []) : Int × List UInt8)).1), .sl 1 .shr ((d1.getD t131.toNat ((0, []) : Int × List UInt8)).2).length (u8s ((d1.getD t131.toNat ((0, []) : Int × List UInt8)).2))])] hk rfl kr (.cons trivial (.cons (eb gd1) (.cons (om : 0 ≤ (t131 : Int) ∧ (t131 : Int) < ((keep.length : Nat) : Int)) (.cons (part1 (kr : (E.ti 4).agg = false) (mp_get (g := (fun c : Bool => T.leaf (.bool c))) (k := t131.toNat * 1) (n := t131.toNat) keep false (by omega) om)) .nil)))) ?_
      intro k' hk'
      refine Go.slotEq 27 (tb ((decide (t131 < (keep.length : Int))) && (keep.getD t131.toNat false))) rfl (eb (andT gd1 rfl).symm) ?_
      exact J k' hk'
     ·have gd1p := of_decide_eq_false gd1
      refine Go.rx 20 { ws := [(3, { v := some (tb false) })] } [] [0, 1, 5, 11, 12, 13, 27] _ [(0, .addr 0 0), (1, .sl 1 g_keep keep.length (bos keep)), (5, .addr 10 0), (11, .ref 22 2 0 d1.length), (12, ti (d1.length : Int)), (13, ti t131), (27, tb false)] [(0, [.ref 21 1 0 o1.length, .ref 22 2 0 d1.length, ti d2, tb d3]), (21, b8s .shr o1), (22, fl gWq d1), (10, [ti ((d1.getD t131.toNat ((0, []) : Int × List UInt8)).1), .sl 1 .shr ((d1.getD t131.toNat ((0, []) : Int × List UInt8)).2).length (u8s ((d1.getD t131.toNat ((0, []) : Int × List UInt8)).2))])] hk rfl kr (.cons trivial (.cons (eb gd1) .nil)) ?_
      intro k' hk'
      refine Go.slotEq 27 (tb ((decide (t131 < (keep.length : Int))) && (keep.getD t131.toNat false))) rfl (eb (andF gd1).symm) ?_
      exact J k' hk'
   ·have ct1p := of_decide_eq_false ct1
    refine Go.keepN [0] (L' := [(0, .addr 0 0)]) rfl ?_
    exact Go.exitX (Pf := (PostX Γ dDCrash_enc)) (F := fun z : tLB => dDCrash_k1 z) (a := o1) (Go.join 20 hk hxl1 rfl (Xl1 o1))
 exact Ll1 _ 0 d0 om om (Nat.lt_succ_self _)
theorem dDCrash_l1_gen : True := by have := @dDCrash_l1.eq_1; have := @dDCrash_l1.eq_2; trivial
attribute [irreducible] dDCrash_k1 dDCrash_l1 dDCrash
end Go.Proofs.YtbppcnhfeobefaaDoor

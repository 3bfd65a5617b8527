import Derived.Test.YtbppcnhfeobefaaDoorFP8
set_option linter.unusedVariables false
namespace Go.Proofs.YtbppcnhfeobefaaDoor
open Go Go.Vw Go.Proofs
theorem qj4_1 {p : Prop} (h : p := by first | rfl | (simp only [jJAppend_enc, T.ids, idsL, er_ids, List.append_nil, List.nil_append]; first | rfl | (rw [mp_ids _ (fun _ => rfl)]; rfl))) : p := h
theorem qj4_2 {p : Prop} (h : p := by first | rfl | (rw [mp_ids _ (fun _ => rfl)]; rfl)) : p := h
theorem qj4_3 {p : Prop} (h : p := by rw [(mp_ids (g := gLq) a0.1.1 (fun _ => rfl))]; rfl) : p := h
theorem qj4_4 {p : Prop} (h : p := by first | omega | assumption | rfl) : p := h
def jJFree_enc (j : jOT) (_ : Unit) : T × List (Nat × List T) := (ti (j.2.2.1 - j.2.1), [(0, [.addr 20 0, ti j.2.1, ti j.2.2.1, t32 j.2.2.2]), (20, [.ref 21 1 0 j.1.1.length, .ref 22 2 0 j.1.2.1.length, ti j.1.2.2.1, tb j.1.2.2.2]), (21, b8s .shr j.1.1), (22, fl gWq j.1.2.1)])
theorem jJFree_m (j : jOT) (hb : 0 ≤ j.2.1 ∧ j.2.1 ≤ j.2.2.1 ∧ j.2.2.1 ≤ 3000) : Meets Tryd.prog 63 [.addr 0 0] ([(0, [.addr 20 0, ti j.2.1, ti j.2.2.1, t32 j.2.2.2]), (20, [.ref 21 1 0 j.1.1.length, .ref 22 2 0 j.1.2.1.length, ti j.1.2.2.1, tb j.1.2.2.2]), (21, b8s .shr j.1.1), (22, fl gWq j.1.2.1)]) [0, 20, 21, 22] (ti (j.2.2.1 - j.2.1)) ([(0, [.addr 20 0, ti j.2.1, ti j.2.2.1, t32 j.2.2.2]), (20, [.ref 21 1 0 j.1.1.length, .ref 22 2 0 j.1.2.1.length, ti j.1.2.2.1, tb j.1.2.2.2]), (21, b8s .shr j.1.1), (22, fl gWq j.1.2.1)]) := by
 refine Meets.enterX (E := E) (N := 14) (enc := jJFree_enc j) (x := ()) Tryd.func63 Tryd.call63 rfl rfl ?_
 intro Γ k hk
 refine Go.rx 20 {} [] [0] _ [(0, .addr 0 0)] [(0, [.addr 20 0, ti j.2.1, ti j.2.2.1, t32 j.2.2.2]), (20, [.ref 21 1 0 j.1.1.length, .ref 22 2 0 j.1.2.1.length, ti j.1.2.2.1, tb j.1.2.2.2]), (21, b8s .shr j.1.1), (22, fl gWq j.1.2.1)] hk rfl kr .nil ?_
 clear hk; intro k hk
 refine Go.rx 20 {} [] [0, 4] _ [(0, .addr 0 0), (4, tb false)] [(0, [.addr 20 0, ti j.2.1, ti j.2.2.1, t32 j.2.2.2]), (20, [.ref 21 1 0 j.1.1.length, .ref 22 2 0 j.1.2.1.length, ti j.1.2.2.1, tb j.1.2.2.2]), (21, b8s .shr j.1.1), (22, fl gWq j.1.2.1)] hk rfl kr (.cons (⟨185, by as_aux_lemma => kernel_rfl⟩ : ∃ e, (E.ti 101).k = .ptr e) .nil) ?_
 clear hk; intro k hk
 refine Go.cond 20 hk rfl (t := false) rfl ?_; clear hk; intro k hk
 refine Go.dx 20 [0, 1, 2, 3, 4, 5, 6, 7, 8, 9] { ws := [(8, { v := some (ti (j.2.2.1 - j.2.1)) })] } [] [2] _ [(2, ti (j.2.2.1 - j.2.1))] [(0, [.addr 20 0, ti j.2.1, ti j.2.2.1, t32 j.2.2.2]), (20, [.ref 21 1 0 j.1.1.length, .ref 22 2 0 j.1.2.1.length, ti j.1.2.2.1, tb j.1.2.2.2]), (21, b8s .shr j.1.1), (22, fl gWq j.1.2.1)] hk rfl kr (.cons trivial (.cons (iw (j.2.2.1 - j.2.1) om) .nil)) ?_
 clear hk; intro k hk
 exact Go.lvx 20 [0, 20, 21, 22] _ [ti (j.2.2.1 - j.2.1)] Tryd.func63 hk rfl kr .nil (T.Le.of_eq rfl) rfl rfl (.cons sb (.cons sb (.cons qj4_2 (.cons ((congrArg (fun z => subN z [0, 20, 21, 22]) (fl_ids (g := gWq) (fun _ => rfl) j.1.2.1)).trans rfl) .nil))))
def jJLast_enc (j : jOT) (_ : Unit) : T × List (Nat × List T) := (t32 j.2.2.2, [(0, [.addr 20 0, ti j.2.1, ti j.2.2.1, t32 j.2.2.2]), (20, [.ref 21 1 0 j.1.1.length, .ref 22 2 0 j.1.2.1.length, ti j.1.2.2.1, tb j.1.2.2.2]), (21, b8s .shr j.1.1), (22, fl gWq j.1.2.1)])
theorem jJLast_m (j : jOT) : Meets Tryd.prog 64 [.addr 0 0] ([(0, [.addr 20 0, ti j.2.1, ti j.2.2.1, t32 j.2.2.2]), (20, [.ref 21 1 0 j.1.1.length, .ref 22 2 0 j.1.2.1.length, ti j.1.2.2.1, tb j.1.2.2.2]), (21, b8s .shr j.1.1), (22, fl gWq j.1.2.1)]) [0, 20, 21, 22] (t32 j.2.2.2) ([(0, [.addr 20 0, ti j.2.1, ti j.2.2.1, t32 j.2.2.2]), (20, [.ref 21 1 0 j.1.1.length, .ref 22 2 0 j.1.2.1.length, ti j.1.2.2.1, tb j.1.2.2.2]), (21, b8s .shr j.1.1), (22, fl gWq j.1.2.1)]) := by
 refine Meets.enterX (E := E) (N := 9) (enc := jJLast_enc j) (x := ()) Tryd.func64 Tryd.call64 rfl rfl ?_
 intro Γ k hk
 refine Go.rx 20 {} [] [0] _ [(0, .addr 0 0)] [(0, [.addr 20 0, ti j.2.1, ti j.2.2.1, t32 j.2.2.2]), (20, [.ref 21 1 0 j.1.1.length, .ref 22 2 0 j.1.2.1.length, ti j.1.2.2.1, tb j.1.2.2.2]), (21, b8s .shr j.1.1), (22, fl gWq j.1.2.1)] hk rfl kr .nil ?_
 clear hk; intro k hk
 refine Go.rx 20 {} [] [0, 4] _ [(0, .addr 0 0), (4, tb false)] [(0, [.addr 20 0, ti j.2.1, ti j.2.2.1, t32 j.2.2.2]), (20, [.ref 21 1 0 j.1.1.length, .ref 22 2 0 j.1.2.1.length, ti j.1.2.2.1, tb j.1.2.2.2]), (21, b8s .shr j.1.1), (22, fl gWq j.1.2.1)] hk rfl kr (.cons (⟨185, by as_aux_lemma => kernel_rfl⟩ : ∃ e, (E.ti 101).k = .ptr e) .nil) ?_
 clear hk; intro k hk
 refine Go.cond 20 hk rfl (t := false) rfl ?_; clear hk; intro k hk
 refine Go.rx 20 {} [] [2] _ [(2, t32 j.2.2.2)] [(0, [.addr 20 0, ti j.2.1, ti j.2.2.1, t32 j.2.2.2]), (20, [.ref 21 1 0 j.1.1.length, .ref 22 2 0 j.1.2.1.length, ti j.1.2.2.1, tb j.1.2.2.2]), (21, b8s .shr j.1.1), (22, fl gWq j.1.2.1)] hk rfl kr .nil ?_
 clear hk; intro k hk
 exact Go.lvx 20 [0, 20, 21, 22] _ [t32 j.2.2.2] Tryd.func64 hk rfl kr .nil (T.Le.of_eq rfl) rfl rfl (.cons sb (.cons sb (.cons qj4_2 (.cons ((congrArg (fun z => subN z [0, 20, 21, 22]) (fl_ids (g := gWq) (fun _ => rfl) j.1.2.1)).trans rfl) .nil))))
noncomputable def jJAppend_k1 (a0 : jOT) (x2 : tLB × Int) (c20_2_2 : Int) (c20_3_2 : Bool) (o2 : tLW) : Int × jOT :=
 bnd (dDSync a0.1.1 o2 c20_2_2 c20_3_2) fun x3 =>
 bif !(decide (x3.1 = 0)) then
  (x3.1, (((x3.2).1, (x3.2).2.1, (x3.2).2.2.1, (x3.2).2.2.2), a0.2.1, a0.2.2.1, a0.2.2.2))
 else
  (0, (((x3.2).1, (x3.2).2.1, (x3.2).2.2.1, (x3.2).2.2.2), a0.2.1 + (x2.1.length : Int), a0.2.2.1, a0.2.2.2 + 1))
noncomputable def jJAppend_l1 (a0 : jOT) (x2 : tLB × Int) : Nat → Int → Int → Bool → (tLW) → Lo (Int × Bool × (tLW)) (Int × jOT)
 | 0, _, _, _, _ => .brk default
 | ml1 + 1, t481, c20_2_1, c20_3_1, o1 =>
  bif decide (t481 < (x2.1.length : Int)) then
   bnd (dDWrite a0.1.1 o1 c20_2_1 c20_3_1 (a0.2.1 + t481) (x2.1.getD t481.toNat [])) fun x4 =>
   bif !(decide (x4.1 = 0)) then
    Lo.ret (x4.1, ((a0.1.1, (x4.2).2.1, (x4.2).2.2.1, (x4.2).2.2.2), a0.2.1, a0.2.2.1, a0.2.2.2))
   else
    jJAppend_l1 a0 x2 ml1 (t481 + 1) ((x4.2).2.2.1) ((x4.2).2.2.2) ((x4.2).2.1)
  else
   Lo.brk (c20_2_1, c20_3_1, o1)
noncomputable def jJAppend (a0 : jOT) (a1 : List UInt8) : Int × jOT :=
 bif decide ((a1.length : Int) > 14280) then
  (1, ((a0.1.1, a0.1.2.1, a0.1.2.2.1, a0.1.2.2.2), a0.2.1, a0.2.2.1, a0.2.2.2))
 else
  bnd (fr_Sectors (a1.length : Int)) fun x1 =>
  bif (a0.2.2.2 == 4294967295) || (decide (a0.2.2.1 - a0.2.1 < x1)) then
   (6, ((a0.1.1, a0.1.2.1, a0.1.2.2.1, a0.1.2.2.2), a0.2.1, a0.2.2.1, a0.2.2.2))
  else
   bnd (fr_Split (a0.2.2.2 + 1) a1) fun x2 =>
   bif !(decide (x2.2 = 0)) then
    (x2.2, ((a0.1.1, a0.1.2.1, a0.1.2.2.1, a0.1.2.2.2), a0.2.1, a0.2.2.1, a0.2.2.2))
   else
    Lo.el (jJAppend_l1 a0 x2 (((x2.1.length : Int) - (0 : Int)).toNat + 1) 0 a0.1.2.2.1 a0.1.2.2.2 a0.1.2.1) (fun z : Int × Bool × (tLW) => jJAppend_k1 a0 x2 z.1 z.2.1 z.2.2)
def jJAppend_enc (x : Int × jOT) : T × List (Nat × List T) := (er 149 x.1, [(0, [.addr 20 0, ti x.2.2.1, ti x.2.2.2.1, t32 x.2.2.2.2]), (20, [.ref 21 1 0 x.2.1.1.length, .ref 22 2 0 x.2.1.2.1.length, ti x.2.1.2.2.1, tb x.2.1.2.2.2]), (21, b8s .shr x.2.1.1), (22, fl gWq x.2.1.2.1)])
theorem jJAppend_m {g_a1 : Tag} (a0 : jOT) (a1 : List UInt8) (hD : okD 700 a0.1.1 a0.1.2.1 a0.1.2.2.1) (hb : 0 ≤ a0.2.1 ∧ a0.2.1 ≤ a0.2.2.1 ∧ a0.2.2.1 ≤ 3000) : Meets Tryd.prog 58 [.addr 0 0, .sl 1 g_a1 a1.length (u8s a1)] ([(0, [.addr 20 0, ti a0.2.1, ti a0.2.2.1, t32 a0.2.2.2]), (20, [.ref 21 1 0 a0.1.1.length, .ref 22 2 0 a0.1.2.1.length, ti a0.1.2.2.1, tb a0.1.2.2.2]), (21, b8s .shr a0.1.1), (22, fl gWq a0.1.2.1)]) [0, 20, 21] (er 149 ((jJAppend a0 a1).1)) ([(0, [.addr 20 0, ti (((jJAppend a0 a1).2).2.1), ti (((jJAppend a0 a1).2).2.2.1), t32 (((jJAppend a0 a1).2).2.2.2)]), (20, [.ref 21 1 0 (((((jJAppend a0 a1).2).1).1).length), .ref 22 2 0 (((((jJAppend a0 a1).2).1).2.1).length), ti ((((jJAppend a0 a1).2).1).2.2.1), tb ((((jJAppend a0 a1).2).1).2.2.2)]), (21, b8s .shr ((((jJAppend a0 a1).2).1).1)), (22, fl gWq ((((jJAppend a0 a1).2).1).2.1))]) := by
 refine Meets.enterX (E := E) (N := 95) (enc := jJAppend_enc) (x := (jJAppend a0 a1)) Tryd.func58 Tryd.call58 rfl rfl ?_
 intro Γ k hk
 have hD1 := okD_mono hD (show 700 ≤ 1000 by decide)
 have hl1 := hD.2.1
 refine Go.rx 20 {} [] [0, 1] _ [(0, .addr 0 0), (1, .sl 1 g_a1 a1.length (u8s a1))] [(0, [.addr 20 0, ti a0.2.1, ti a0.2.2.1, t32 a0.2.2.2]), (20, [.ref 21 1 0 a0.1.1.length, .ref 22 2 0 a0.1.2.1.length, ti a0.1.2.2.1, tb a0.1.2.2.2]), (21, b8s .shr a0.1.1), (22, fl gWq a0.1.2.1)] hk rfl kr .nil ?_
 clear hk; intro k hk
 refine Go.rx 20 {} [] [0, 1, 17] _ [(0, .addr 0 0), (1, .sl 1 g_a1 a1.length (u8s a1)), (17, tb (decide ((a1.length : Int) > 14280)))] [(0, [.addr 20 0, ti a0.2.1, ti a0.2.2.1, t32 a0.2.2.2]), (20, [.ref 21 1 0 a0.1.1.length, .ref 22 2 0 a0.1.2.1.length, ti a0.1.2.2.1, tb a0.1.2.2.2]), (21, b8s .shr a0.1.1), (22, fl gWq a0.1.2.1)] hk rfl kr (.cons (⟨185, by as_aux_lemma => kernel_rfl⟩ : ∃ e, (E.ti 101).k = .ptr e) (.cons trivial .nil)) ?_
 clear hk; intro k hk
 refine Go.br 20 (Pf := (PostX Γ jJAppend_enc)) hk rfl rfl ?_ ?_ <;> clear hk <;> intro ct1 k hk
 ·have ct1p := of_decide_eq_true ct1
  refine Go.rx 20 {} [] [4] _ [(4, er 149 1)] [(0, [.addr 20 0, ti a0.2.1, ti a0.2.2.1, t32 a0.2.2.2]), (20, [.ref 21 1 0 a0.1.1.length, .ref 22 2 0 a0.1.2.1.length, ti a0.1.2.2.1, tb a0.1.2.2.2]), (21, b8s .shr a0.1.1), (22, fl gWq a0.1.2.1)] hk rfl kr .nil ?_
  clear hk; intro k hk
  exact Go.lvx 20 [0, 20, 21, 22] _ [er 149 1] Tryd.func58 hk rfl kr .nil (T.Le.of_eq rfl) rfl qj4_1 (.cons sb (.cons sb (.cons qj4_2 (.cons ((congrArg (fun z => subN z [0, 20, 21, 22]) (fl_ids (g := gWq) (fun _ => rfl) a0.1.2.1)).trans rfl) .nil))))
 ·have ct1p := of_decide_eq_false ct1
  refine Go.regJ 20 [(0, .addr 0 0), (1, .sl 1 g_a1 a1.length (u8s a1)), (31, tb ((a0.2.2.2 == 4294967295) || (decide (a0.2.2.1 - a0.2.1 < (fr_Sectors (a1.length : Int))))))] [(0, [.addr 20 0, ti a0.2.1, ti a0.2.2.1, t32 a0.2.2.2]), (20, [.ref 21 1 0 a0.1.1.length, .ref 22 2 0 a0.1.2.1.length, ti a0.1.2.2.1, tb a0.1.2.2.2]), (21, b8s .shr a0.1.1), (22, fl gWq a0.1.2.1)] hk rfl ?_ ?_
  ·clear hk; intro k hk
   refine Go.bnd (Pf := (PostX Γ jJAppend_enc)) (v := (fr_Sectors (a1.length : Int))) (fun x1 => [(0, .addr 0 0), (1, .sl 1 g_a1 a1.length (u8s a1)), (31, tb ((a0.2.2.2 == 4294967295) || (decide (a0.2.2.1 - a0.2.1 < x1))))]) (fun x1 => [(0, [.addr 20 0, ti a0.2.1, ti a0.2.2.1, t32 a0.2.2.2]), (20, [.ref 21 1 0 a0.1.1.length, .ref 22 2 0 a0.1.2.1.length, ti a0.1.2.2.1, tb a0.1.2.2.2]), (21, b8s .shr a0.1.1), (22, fl gWq a0.1.2.1)]) ?_
   intro x1 hx1
   have fx1 := sectors_fact (a1.length : Int)
   rw [← hx1] at fx1
   obtain ⟨fx10, fx11, fx12, fx13⟩ := fx1
   refine Go.br 20 (Pf := (PostX Γ jJAppend_enc)) hk rfl rfl ?_ ?_ <;> clear hk <;> intro ct2 k hk
   ·refine Go.rx 20 {} [] [4] _ [(4, er 149 6)] [(0, [.addr 20 0, ti a0.2.1, ti a0.2.2.1, t32 a0.2.2.2]), (20, [.ref 21 1 0 a0.1.1.length, .ref 22 2 0 a0.1.2.1.length, ti a0.1.2.2.1, tb a0.1.2.2.2]), (21, b8s .shr a0.1.1), (22, fl gWq a0.1.2.1)] hk rfl kr .nil ?_
    clear hk; intro k hk
    exact Go.lvx 20 [0, 20, 21, 22] _ [er 149 6] Tryd.func58 hk rfl kr .nil (T.Le.of_eq rfl) rfl qj4_1 (.cons sb (.cons sb (.cons qj4_2 (.cons ((congrArg (fun z => subN z [0, 20, 21, 22]) (fl_ids (g := gWq) (fun _ => rfl) a0.1.2.1)).trans rfl) .nil))))
   ·have ct21 : (a0.2.2.2 == 4294967295) = false := (Bool.or_eq_false_iff.1 ct2).1
    have ct22 : (decide (a0.2.2.1 - a0.2.1 < x1)) = false := (Bool.or_eq_false_iff.1 ct2).2
    have ct22p := of_decide_eq_false ct22
    refine Go.rx 20 { ws := [(4, { v := some (t32 (a0.2.2.2 + 1)) }), (6, { call := some { ids := [], S := [], M := [], R := .tup [.sl 1 .shr ((fr_Split (a0.2.2.2 + 1) a1).1).length (b8s .shr ((fr_Split (a0.2.2.2 + 1) a1).1)), er 149 ((fr_Split (a0.2.2.2 + 1) a1).2)], H' := [] } })] } [] [0, 5, 6] _ [(0, .addr 0 0), (5, .sl 1 .shr ((fr_Split (a0.2.2.2 + 1) a1).1).length (b8s .shr ((fr_Split (a0.2.2.2 + 1) a1).1))), (6, er 149 ((fr_Split (a0.2.2.2 + 1) a1).2))] [(0, [.addr 20 0, ti a0.2.1, ti a0.2.2.1, t32 a0.2.2.2]), (20, [.ref 21 1 0 a0.1.1.length, .ref 22 2 0 a0.1.2.1.length, ti a0.1.2.2.1, tb a0.1.2.2.2]), (21, b8s .shr a0.1.1), (22, fl gWq a0.1.2.1)] hk rfl kr (.cons trivial (.cons (add32 a0.2.2.2 1) (.cons (fr_Split_m (g_a1 := g_a1) (a0.2.2.2 + 1) a1) (.cons (sb : subN (idsL [t32 (a0.2.2.2 + 1), .sl 1 g_a1 a1.length (u8s a1)]) [] = true) .nil)))) ?_
    clear hk; intro k hk
    refine Go.bnd (Pf := (PostX Γ jJAppend_enc)) (v := (fr_Split (a0.2.2.2 + 1) a1)) (fun x2 => [(0, .addr 0 0), (5, .sl 1 .shr x2.1.length (b8s .shr x2.1)), (6, er 149 x2.2)]) (fun x2 => [(0, [.addr 20 0, ti a0.2.1, ti a0.2.2.1, t32 a0.2.2.2]), (20, [.ref 21 1 0 a0.1.1.length, .ref 22 2 0 a0.1.2.1.length, ti a0.1.2.2.1, tb a0.1.2.2.2]), (21, b8s .shr a0.1.1), (22, fl gWq a0.1.2.1)]) ?_
    intro x2 hx2
    have fx2 := split_fact (a0.2.2.2 + 1) a1
    rw [← hx2] at fx2
    obtain ⟨fx20, fx21, fx22⟩ := fx2
    refine Go.rx 20 { ws := [(1, { er := some (149, x2.2) })] } [] [0, 5, 6, 44] _ [(0, .addr 0 0), (5, .sl 1 .shr x2.1.length (b8s .shr x2.1)), (6, er 149 x2.2), (44, tb (!(decide (x2.2 = 0))))] [(0, [.addr 20 0, ti a0.2.1, ti a0.2.2.1, t32 a0.2.2.2]), (20, [.ref 21 1 0 a0.1.1.length, .ref 22 2 0 a0.1.2.1.length, ti a0.1.2.2.1, tb a0.1.2.2.2]), (21, b8s .shr a0.1.1), (22, fl gWq a0.1.2.1)] hk rfl kr (.cons (⟨rfl, rfl⟩ : (er 149 x2.2) = er 149 x2.2 ∧ (.leaf .nilIface : T) = .leaf .nilIface) .nil) ?_
    clear hk; intro k hk
    refine Go.br 20 (Pf := (PostX Γ jJAppend_enc)) hk rfl rfl ?_ ?_ <;> clear hk <;> intro ct3 k hk
    ·have ct3' : (decide (x2.2 = 0)) = false := ntT ct3
     have ct3'p := of_decide_eq_false ct3'
     refine Go.rx 20 {} [] [4] _ [(4, er 149 x2.2)] [(0, [.addr 20 0, ti a0.2.1, ti a0.2.2.1, t32 a0.2.2.2]), (20, [.ref 21 1 0 a0.1.1.length, .ref 22 2 0 a0.1.2.1.length, ti a0.1.2.2.1, tb a0.1.2.2.2]), (21, b8s .shr a0.1.1), (22, fl gWq a0.1.2.1)] hk rfl kr .nil ?_
     clear hk; intro k hk
     exact Go.lvx 20 [0, 20, 21, 22] _ [er 149 x2.2] Tryd.func58 hk rfl kr .nil (T.Le.of_eq rfl) rfl qj4_1 (.cons sb (.cons sb (.cons qj4_2 (.cons ((congrArg (fun z => subN z [0, 20, 21, 22]) (fl_ids (g := gWq) (fun _ => rfl) a0.1.2.1)).trans rfl) .nil))))
    ·have ct3' : (decide (x2.2 = 0)) = true := ntF ct3
     have ct3'p := of_decide_eq_true ct3'
     refine Go.rx 20 {} [] [0, 5, 46, 47, 48] _ [(0, .addr 0 0), (5, .sl 1 .shr x2.1.length (b8s .shr x2.1)), (46, .sl 1 .shr x2.1.length (b8s .shr x2.1)), (47, ti (x2.1.length : Int)), (48, ti 0)] [(0, [.addr 20 0, ti a0.2.1, ti a0.2.2.1, t32 a0.2.2.2]), (20, [.ref 21 1 0 a0.1.1.length, .ref 22 2 0 a0.1.2.1.length, ti a0.1.2.2.1, tb a0.1.2.2.2]), (21, b8s .shr a0.1.1), (22, fl gWq a0.1.2.1)] hk rfl kr .nil ?_
     clear hk; intro k hk
     refine Go.loopX 20 hk rfl ?_
     clear hk; intro kl1 kxl1 hl1 hxl1
     have Xl1 : ∀ (c20_2_2 : Int) (c20_3_2 : Bool) (o2 : tLW) (f0l1 : okD 1000 a0.1.1 o2 c20_2_2), Go E Γ 58 95 [0, 20, 21] ((PostX Γ jJAppend_enc) (jJAppend_k1 a0 x2 c20_2_2 c20_3_2 o2)) kxl1 (stL [(0, .addr 0 0), (5, .sl 1 .shr x2.1.length (b8s .shr x2.1))] [(0, [.addr 20 0, ti a0.2.1, ti a0.2.2.1, t32 a0.2.2.2]), (20, [.ref 21 1 0 a0.1.1.length, .ref 22 2 0 o2.length, ti c20_2_2, tb c20_3_2]), (21, b8s .shr a0.1.1), (22, fl gWq o2)]) := by
      intro c20_2_2 c20_3_2 o2 f0l1
      refine Go.rx 20 { ws := [(4, { call := some { ids := [20, 21, 22], S := [20, 21], M := [], R := er 149 ((dDSync a0.1.1 o2 c20_2_2 c20_3_2).1), H' := [(20, [.ref 21 1 0 ((((dDSync a0.1.1 o2 c20_2_2 c20_3_2).2).1).length), .ref 22 2 0 ((((dDSync a0.1.1 o2 c20_2_2 c20_3_2).2).2.1).length), ti (((dDSync a0.1.1 o2 c20_2_2 c20_3_2).2).2.2.1), tb (((dDSync a0.1.1 o2 c20_2_2 c20_3_2).2).2.2.2)]), (21, b8s .shr (((dDSync a0.1.1 o2 c20_2_2 c20_3_2).2).1)), (22, fl gWq (((dDSync a0.1.1 o2 c20_2_2 c20_3_2).2).2.1))] } })], pg := [21], fd := some [22] } [] [0, 5, 10] _ [(0, .addr 0 0), (5, .sl 1 .shr x2.1.length (b8s .shr x2.1)), (10, er 149 ((dDSync a0.1.1 o2 c20_2_2 c20_3_2).1))] [(0, [.addr 20 0, ti a0.2.1, ti a0.2.2.1, t32 a0.2.2.2]), (20, [.ref 21 1 0 ((((dDSync a0.1.1 o2 c20_2_2 c20_3_2).2).1).length), .ref 22 2 0 ((((dDSync a0.1.1 o2 c20_2_2 c20_3_2).2).2.1).length), ti (((dDSync a0.1.1 o2 c20_2_2 c20_3_2).2).2.2.1), tb (((dDSync a0.1.1 o2 c20_2_2 c20_3_2).2).2.2.2)]), (21, b8s .shr (((dDSync a0.1.1 o2 c20_2_2 c20_3_2).2).1)), (22, fl gWq (((dDSync a0.1.1 o2 c20_2_2 c20_3_2).2).2.1))] hxl1 rfl kr (.cons (Meets.sw [(0, 20)] (dDSync_m a0.1.1 o2 c20_2_2 c20_3_2 (by first | assumption | exact okD_mono (by assumption) (by omega) | exact okW' (by assumption) (by omega) | exact okS (by assumption) | exact okA (by assumption) (by omega) | exact okC (by assumption) | exact okT (by assumption))) : Meets Tryd.prog 18 [.addr 20 0] [(20, [.ref 21 1 0 a0.1.1.length, .ref 22 2 0 o2.length, ti c20_2_2, tb c20_3_2]), (21, b8s .shr a0.1.1), (22, fl gWq o2)] [20, 21] (er 149 ((dDSync a0.1.1 o2 c20_2_2 c20_3_2).1)) [(20, [.ref 21 1 0 ((((dDSync a0.1.1 o2 c20_2_2 c20_3_2).2).1).length), .ref 22 2 0 ((((dDSync a0.1.1 o2 c20_2_2 c20_3_2).2).2.1).length), ti (((dDSync a0.1.1 o2 c20_2_2 c20_3_2).2).2.2.1), tb (((dDSync a0.1.1 o2 c20_2_2 c20_3_2).2).2.2.2)]), (21, b8s .shr (((dDSync a0.1.1 o2 c20_2_2 c20_3_2).2).1)), (22, fl gWq (((dDSync a0.1.1 o2 c20_2_2 c20_3_2).2).2.1))]) (.cons (sb : subN (idsL [.addr 20 0]) [20, 21, 22] = true) (.cons (sb : subN (idsL [.ref 21 1 0 a0.1.1.length, .ref 22 2 0 o2.length, ti c20_2_2, tb c20_3_2]) [20, 21, 22] = true) (.cons (qj4_3 : subN (idsL (b8s .shr a0.1.1)) [20, 21, 22] = true) (.cons (by rw [(fl_ids (g := gWq) (fun _ => rfl) o2)]; rfl : subN (idsL (fl gWq o2)) [20, 21, 22] = true) (.cons (mp_mem (i := 22) (g := gLq) a0.1.1 (fun _ => rfl)) .nil)))))) ?_
      clear hxl1; intro kxl1 hxl1
      refine Go.bnd (Pf := (PostX Γ jJAppend_enc)) (v := (dDSync a0.1.1 o2 c20_2_2 c20_3_2)) (fun x3 => [(0, .addr 0 0), (5, .sl 1 .shr x2.1.length (b8s .shr x2.1)), (10, er 149 x3.1)]) (fun x3 => [(0, [.addr 20 0, ti a0.2.1, ti a0.2.2.1, t32 a0.2.2.2]), (20, [.ref 21 1 0 (((x3.2).1).length), .ref 22 2 0 (((x3.2).2.1).length), ti ((x3.2).2.2.1), tb ((x3.2).2.2.2)]), (21, b8s .shr ((x3.2).1)), (22, fl gWq ((x3.2).2.1))]) ?_
      intro x3 hx3
      have fx3 := s_fact a0.1.1 o2 c20_2_2 c20_3_2
      rw [← hx3] at fx3
      obtain ⟨fx30, fx31⟩ := fx3
      have kx3 : okD 1000 x3.2.1 x3.2.2.1 x3.2.2.2.1 := by rw [hx3]; exact okS (by assumption)
      refine Go.rx 20 { ws := [(1, { er := some (149, x3.1) })] } [] [0, 5, 10, 75] _ [(0, .addr 0 0), (5, .sl 1 .shr x2.1.length (b8s .shr x2.1)), (10, er 149 x3.1), (75, tb (!(decide (x3.1 = 0))))] [(0, [.addr 20 0, ti a0.2.1, ti a0.2.2.1, t32 a0.2.2.2]), (20, [.ref 21 1 0 (((x3.2).1).length), .ref 22 2 0 (((x3.2).2.1).length), ti ((x3.2).2.2.1), tb ((x3.2).2.2.2)]), (21, b8s .shr ((x3.2).1)), (22, fl gWq ((x3.2).2.1))] hxl1 rfl kr (.cons (⟨rfl, rfl⟩ : (er 149 x3.1) = er 149 x3.1 ∧ (.leaf .nilIface : T) = .leaf .nilIface) .nil) ?_
      clear hxl1; intro kxl1 hxl1
      refine Go.br 20 (Pf := (PostX Γ jJAppend_enc)) hxl1 rfl rfl ?_ ?_ <;> clear hxl1 <;> intro ct4 kxl1 hxl1
      ·have ct4' : (decide (x3.1 = 0)) = false := ntT ct4
       have ct4'p := of_decide_eq_false ct4'
       refine Go.rx 20 {} [] [4] _ [(4, er 149 x3.1)] [(0, [.addr 20 0, ti a0.2.1, ti a0.2.2.1, t32 a0.2.2.2]), (20, [.ref 21 1 0 (((x3.2).1).length), .ref 22 2 0 (((x3.2).2.1).length), ti ((x3.2).2.2.1), tb ((x3.2).2.2.2)]), (21, b8s .shr ((x3.2).1)), (22, fl gWq ((x3.2).2.1))] hxl1 rfl kr .nil ?_
       clear hxl1; intro kxl1 hxl1
       exact Go.lvx 20 [0, 20, 21, 22] _ [er 149 x3.1] Tryd.func58 hxl1 rfl kr .nil (T.Le.of_eq rfl) rfl qj4_1 (.cons sb (.cons sb (.cons qj4_2 (.cons ((congrArg (fun z => subN z [0, 20, 21, 22]) (fl_ids (g := gWq) (fun _ => rfl) ((x3.2).2.1))).trans rfl) .nil))))
      ·have ct4' : (decide (x3.1 = 0)) = true := ntF ct4
       have ct4'p := of_decide_eq_true ct4'
       refine Go.dx 20 [0, 2, 3, 4, 5, 6, 7, 8, 9, 10, 11, 12, 13, 14, 15, 16, 1, 17, 18, 19] { ws := [(8, { v := some (ti (a0.2.1 + (x2.1.length : Int))) }), (13, { v := some (t32 (a0.2.2.2 + 1)) })] } [] [] _ [] [(0, [.addr 20 0, ti (a0.2.1 + (x2.1.length : Int)), ti a0.2.2.1, t32 (a0.2.2.2 + 1)]), (20, [.ref 21 1 0 (((x3.2).1).length), .ref 22 2 0 (((x3.2).2.1).length), ti ((x3.2).2.2.1), tb ((x3.2).2.2.2)]), (21, b8s .shr ((x3.2).1)), (22, fl gWq ((x3.2).2.1))] hxl1 rfl kr (.cons trivial (.cons (iw (a0.2.1 + (x2.1.length : Int)) om) (.cons trivial (.cons (add32 a0.2.2.2 1) .nil)))) ?_
       clear hxl1; intro kxl1 hxl1
       refine Go.rx 20 {} [] [4] _ [(4, .leaf .nilIface)] [(0, [.addr 20 0, ti (a0.2.1 + (x2.1.length : Int)), ti a0.2.2.1, t32 (a0.2.2.2 + 1)]), (20, [.ref 21 1 0 (((x3.2).1).length), .ref 22 2 0 (((x3.2).2.1).length), ti ((x3.2).2.2.1), tb ((x3.2).2.2.2)]), (21, b8s .shr ((x3.2).1)), (22, fl gWq ((x3.2).2.1))] hxl1 rfl kr .nil ?_
       clear hxl1; intro kxl1 hxl1
       exact Go.lvx 20 [0, 20, 21, 22] _ [.leaf .nilIface] Tryd.func58 hxl1 rfl kr .nil (T.Le.of_eq rfl) rfl rfl (.cons sb (.cons sb (.cons qj4_2 (.cons ((congrArg (fun z => subN z [0, 20, 21, 22]) (fl_ids (g := gWq) (fun _ => rfl) ((x3.2).2.1))).trans rfl) .nil))))
     have Ll1 : ∀ (ml1 : Nat) (t481 : Int) (c20_2_1 : Int) (c20_3_1 : Bool) (o1 : tLW), (okD 1000 a0.1.1 o1 c20_2_1) → ((o1.length : Int) ≤ (a0.1.2.1.length : Int) + t481) → (0 ≤ t481) → (((x2.1.length : Int) - t481).toNat < ml1) → Go E Γ 58 95 [0, 20, 21] ((PostX Γ jJAppend_enc) (Lo.el (jJAppend_l1 a0 x2 ml1 t481 c20_2_1 c20_3_1 o1) (fun z : Int × Bool × (tLW) => jJAppend_k1 a0 x2 z.1 z.2.1 z.2.2))) kl1 (stL [(0, .addr 0 0), (5, .sl 1 .shr x2.1.length (b8s .shr x2.1)), (46, .sl 1 .shr x2.1.length (b8s .shr x2.1)), (47, ti (x2.1.length : Int)), (48, ti t481)] [(0, [.addr 20 0, ti a0.2.1, ti a0.2.2.1, t32 a0.2.2.2]), (20, [.ref 21 1 0 a0.1.1.length, .ref 22 2 0 o1.length, ti c20_2_1, tb c20_3_1]), (21, b8s .shr a0.1.1), (22, fl gWq o1)]) := by
      intro ml1
      induction ml1 with
      | zero => intro t481 c20_2_1 c20_3_1 o1 i0l1 i1l1 i2l1 hml1; exact absurd hml1 (Nat.not_lt_zero _)
      | succ ml1 ihl1 =>
       intro t481 c20_2_1 c20_3_1 o1 i0l1 i1l1 i2l1 hml1
       rw [jJAppend_l1]
       refine Go.round hl1 ?_
       intro k hk
       refine Go.rx 20 {} [] [0, 5, 46, 47, 48, 49] _ [(0, .addr 0 0), (5, .sl 1 .shr x2.1.length (b8s .shr x2.1)), (46, .sl 1 .shr x2.1.length (b8s .shr x2.1)), (47, ti (x2.1.length : Int)), (48, ti t481), (49, tb (decide (t481 < (x2.1.length : Int))))] [(0, [.addr 20 0, ti a0.2.1, ti a0.2.2.1, t32 a0.2.2.2]), (20, [.ref 21 1 0 a0.1.1.length, .ref 22 2 0 o1.length, ti c20_2_1, tb c20_3_1]), (21, b8s .shr a0.1.1), (22, fl gWq o1)] hk rfl kr (.cons trivial .nil) ?_
       clear hk; intro k hk
       refine Go.br 20 (Pf := (fun z : Lo (Int × Bool × (tLW)) (Int × jOT) => (PostX Γ jJAppend_enc) (Lo.el z (fun z : Int × Bool × (tLW) => jJAppend_k1 a0 x2 z.1 z.2.1 z.2.2)))) hk rfl rfl ?_ ?_ <;> clear hk <;> intro ct5 k hk
       ·have ct5p := of_decide_eq_true ct5
        refine Go.rx 20 { ws := [(2, { v := some (.sl 1 .shr (x2.1.getD t481.toNat []).length (u8s (x2.1.getD t481.toNat []))) })] } [] [0, 5, 7, 8, 46, 47, 48] _ [(0, .addr 0 0), (5, .sl 1 .shr x2.1.length (b8s .shr x2.1)), (7, ti t481), (8, .sl 1 .shr (x2.1.getD t481.toNat []).length (u8s (x2.1.getD t481.toNat []))), (46, .sl 1 .shr x2.1.length (b8s .shr x2.1)), (47, ti (x2.1.length : Int)), (48, ti t481)] [(0, [.addr 20 0, ti a0.2.1, ti a0.2.2.1, t32 a0.2.2.2]), (20, [.ref 21 1 0 a0.1.1.length, .ref 22 2 0 o1.length, ti c20_2_1, tb c20_3_1]), (21, b8s .shr a0.1.1), (22, fl gWq o1)] hk rfl kr (.cons (om : 0 ≤ (t481 : Int) ∧ (t481 : Int) < ((x2.1.length : Nat) : Int)) (.cons (part1 (kr : (E.ti 22).agg = false) (mp_get (g := gLq) (k := t481.toNat * 1) (n := t481.toNat) x2.1 [] (by omega) om)) .nil)) ?_
        clear hk; intro k hk
        refine Go.dx 20 [0, 1, 2, 3, 4, 5, 6, 7, 8, 9, 10, 11, 12] { ws := [(9, { v := some (ti (a0.2.1 + t481)) }), (11, { call := some { ids := [20, 21, 22], S := [20, 21], M := [], R := er 149 ((dDWrite a0.1.1 o1 c20_2_1 c20_3_1 (a0.2.1 + t481) (x2.1.getD t481.toNat [])).1), H' := [(20, [.ref 21 1 0 a0.1.1.length, .ref 22 2 0 ((((dDWrite a0.1.1 o1 c20_2_1 c20_3_1 (a0.2.1 + t481) (x2.1.getD t481.toNat [])).2).2.1).length), ti (((dDWrite a0.1.1 o1 c20_2_1 c20_3_1 (a0.2.1 + t481) (x2.1.getD t481.toNat [])).2).2.2.1), tb (((dDWrite a0.1.1 o1 c20_2_1 c20_3_1 (a0.2.1 + t481) (x2.1.getD t481.toNat [])).2).2.2.2)]), (21, b8s .shr a0.1.1), (22, fl gWq (((dDWrite a0.1.1 o1 c20_2_1 c20_3_1 (a0.2.1 + t481) (x2.1.getD t481.toNat [])).2).2.1))] } })], pg := [21], fd := some [22] } [] [0, 5, 9, 46, 47, 48] _ [(0, .addr 0 0), (5, .sl 1 .shr x2.1.length (b8s .shr x2.1)), (9, er 149 ((dDWrite a0.1.1 o1 c20_2_1 c20_3_1 (a0.2.1 + t481) (x2.1.getD t481.toNat [])).1)), (46, .sl 1 .shr x2.1.length (b8s .shr x2.1)), (47, ti (x2.1.length : Int)), (48, ti t481)] [(0, [.addr 20 0, ti a0.2.1, ti a0.2.2.1, t32 a0.2.2.2]), (20, [.ref 21 1 0 a0.1.1.length, .ref 22 2 0 ((((dDWrite a0.1.1 o1 c20_2_1 c20_3_1 (a0.2.1 + t481) (x2.1.getD t481.toNat [])).2).2.1).length), ti (((dDWrite a0.1.1 o1 c20_2_1 c20_3_1 (a0.2.1 + t481) (x2.1.getD t481.toNat [])).2).2.2.1), tb (((dDWrite a0.1.1 o1 c20_2_1 c20_3_1 (a0.2.1 + t481) (x2.1.getD t481.toNat [])).2).2.2.2)]), (21, b8s .shr a0.1.1), (22, fl gWq (((dDWrite a0.1.1 o1 c20_2_1 c20_3_1 (a0.2.1 + t481) (x2.1.getD t481.toNat [])).2).2.1))] hk rfl kr (.cons trivial (.cons (iw (a0.2.1 + t481) om) (.cons (Meets.sw [(0, 20)] (dDWrite_m (g_b := .shr) a0.1.1 o1 c20_2_1 c20_3_1 (a0.2.1 + t481) (x2.1.getD t481.toNat []) (by first | assumption | exact okD_mono (by assumption) (by omega) | exact okW' (by assumption) (by omega) | exact okS (by assumption) | exact okA (by assumption) (by omega) | exact okC (by assumption) | exact okT (by assumption))) : Meets Tryd.prog 16 [.addr 20 0, ti (a0.2.1 + t481), .sl 1 .shr (x2.1.getD t481.toNat []).length (u8s (x2.1.getD t481.toNat []))] [(20, [.ref 21 1 0 a0.1.1.length, .ref 22 2 0 o1.length, ti c20_2_1, tb c20_3_1]), (21, b8s .shr a0.1.1), (22, fl gWq o1)] [20, 21] (er 149 ((dDWrite a0.1.1 o1 c20_2_1 c20_3_1 (a0.2.1 + t481) (x2.1.getD t481.toNat [])).1)) [(20, [.ref 21 1 0 a0.1.1.length, .ref 22 2 0 ((((dDWrite a0.1.1 o1 c20_2_1 c20_3_1 (a0.2.1 + t481) (x2.1.getD t481.toNat [])).2).2.1).length), ti (((dDWrite a0.1.1 o1 c20_2_1 c20_3_1 (a0.2.1 + t481) (x2.1.getD t481.toNat [])).2).2.2.1), tb (((dDWrite a0.1.1 o1 c20_2_1 c20_3_1 (a0.2.1 + t481) (x2.1.getD t481.toNat [])).2).2.2.2)]), (21, b8s .shr a0.1.1), (22, fl gWq (((dDWrite a0.1.1 o1 c20_2_1 c20_3_1 (a0.2.1 + t481) (x2.1.getD t481.toNat [])).2).2.1))]) (.cons (sb : subN (idsL [.addr 20 0, ti (a0.2.1 + t481), .sl 1 .shr (x2.1.getD t481.toNat []).length (u8s (x2.1.getD t481.toNat []))]) [20, 21, 22] = true) (.cons (sb : subN (idsL [.ref 21 1 0 a0.1.1.length, .ref 22 2 0 o1.length, ti c20_2_1, tb c20_3_1]) [20, 21, 22] = true) (.cons (qj4_3 : subN (idsL (b8s .shr a0.1.1)) [20, 21, 22] = true) (.cons (by rw [(fl_ids (g := gWq) (fun _ => rfl) o1)]; rfl : subN (idsL (fl gWq o1)) [20, 21, 22] = true) (.cons (mp_mem (i := 22) (g := gLq) a0.1.1 (fun _ => rfl)) .nil)))))))) ?_
        clear hk; intro k hk
        refine Go.bnd (Pf := (fun z : Lo (Int × Bool × (tLW)) (Int × jOT) => (PostX Γ jJAppend_enc) (Lo.el z (fun z : Int × Bool × (tLW) => jJAppend_k1 a0 x2 z.1 z.2.1 z.2.2)))) (v := (dDWrite a0.1.1 o1 c20_2_1 c20_3_1 (a0.2.1 + t481) (x2.1.getD t481.toNat []))) (fun x4 => [(0, .addr 0 0), (5, .sl 1 .shr x2.1.length (b8s .shr x2.1)), (9, er 149 x4.1), (46, .sl 1 .shr x2.1.length (b8s .shr x2.1)), (47, ti (x2.1.length : Int)), (48, ti t481)]) (fun x4 => [(0, [.addr 20 0, ti a0.2.1, ti a0.2.2.1, t32 a0.2.2.2]), (20, [.ref 21 1 0 a0.1.1.length, .ref 22 2 0 (((x4.2).2.1).length), ti ((x4.2).2.2.1), tb ((x4.2).2.2.2)]), (21, b8s .shr a0.1.1), (22, fl gWq ((x4.2).2.1))]) ?_
        intro x4 hx4
        have fx4 := w_fact a0.1.1 o1 c20_2_1 c20_3_1 (a0.2.1 + t481) (x2.1.getD t481.toNat [])
        rw [← hx4] at fx4
        have kx4 : okD 1000 (a0.1.1) x4.2.2.1 x4.2.2.2.1 := by rw [hx4]; exact okW' (by assumption) (by omega)
        refine Go.rx 20 { ws := [(1, { er := some (149, x4.1) })] } [] [0, 5, 9, 46, 47, 48, 66] _ [(0, .addr 0 0), (5, .sl 1 .shr x2.1.length (b8s .shr x2.1)), (9, er 149 x4.1), (46, .sl 1 .shr x2.1.length (b8s .shr x2.1)), (47, ti (x2.1.length : Int)), (48, ti t481), (66, tb (!(decide (x4.1 = 0))))] [(0, [.addr 20 0, ti a0.2.1, ti a0.2.2.1, t32 a0.2.2.2]), (20, [.ref 21 1 0 a0.1.1.length, .ref 22 2 0 (((x4.2).2.1).length), ti ((x4.2).2.2.1), tb ((x4.2).2.2.2)]), (21, b8s .shr a0.1.1), (22, fl gWq ((x4.2).2.1))] hk rfl kr (.cons (⟨rfl, rfl⟩ : (er 149 x4.1) = er 149 x4.1 ∧ (.leaf .nilIface : T) = .leaf .nilIface) .nil) ?_
        clear hk; intro k hk
        refine Go.br 20 (Pf := (fun z : Lo (Int × Bool × (tLW)) (Int × jOT) => (PostX Γ jJAppend_enc) (Lo.el z (fun z : Int × Bool × (tLW) => jJAppend_k1 a0 x2 z.1 z.2.1 z.2.2)))) hk rfl rfl ?_ ?_ <;> clear hk <;> intro ct6 k hk
        ·have ct6' : (decide (x4.1 = 0)) = false := ntT ct6
         have ct6'p := of_decide_eq_false ct6'
         refine Go.rx 20 {} [] [4] _ [(4, er 149 x4.1)] [(0, [.addr 20 0, ti a0.2.1, ti a0.2.2.1, t32 a0.2.2.2]), (20, [.ref 21 1 0 a0.1.1.length, .ref 22 2 0 (((x4.2).2.1).length), ti ((x4.2).2.2.1), tb ((x4.2).2.2.2)]), (21, b8s .shr a0.1.1), (22, fl gWq ((x4.2).2.1))] hk rfl kr .nil ?_
         clear hk; intro k hk
         exact Go.lvx 20 [0, 20, 21, 22] _ [er 149 x4.1] Tryd.func58 hk rfl kr .nil (T.Le.of_eq rfl) rfl qj4_1 (.cons sb (.cons sb (.cons qj4_2 (.cons ((congrArg (fun z => subN z [0, 20, 21, 22]) (fl_ids (g := gWq) (fun _ => rfl) ((x4.2).2.1))).trans rfl) .nil))))
        ·have ct6' : (decide (x4.1 = 0)) = true := ntF ct6
         have ct6'p := of_decide_eq_true ct6'
         refine Go.rx 20 { ws := [(0, { v := some (ti (t481 + 1)) })] } [] [0, 5, 46, 47, 48] _ [(0, .addr 0 0), (5, .sl 1 .shr x2.1.length (b8s .shr x2.1)), (46, .sl 1 .shr x2.1.length (b8s .shr x2.1)), (47, ti (x2.1.length : Int)), (48, ti (t481 + 1))] [(0, [.addr 20 0, ti a0.2.1, ti a0.2.2.1, t32 a0.2.2.2]), (20, [.ref 21 1 0 a0.1.1.length, .ref 22 2 0 (((x4.2).2.1).length), ti ((x4.2).2.2.1), tb ((x4.2).2.2.2)]), (21, b8s .shr a0.1.1), (22, fl gWq ((x4.2).2.1))] hk rfl kr (.cons trivial (.cons (iw (t481 + 1) om) .nil)) ?_
         clear hk; intro k hk
         exact Go.join 20 hk hl1 rfl (ihl1 (t481 + 1) ((x4.2).2.2.1) ((x4.2).2.2.2) ((x4.2).2.1) qj4_4 qj4_4 qj4_4 om)
       ·have ct5p := of_decide_eq_false ct5
        refine Go.keepN [0, 5] (L' := [(0, .addr 0 0), (5, .sl 1 .shr x2.1.length (b8s .shr x2.1))]) rfl ?_
        exact Go.exitX (Pf := (PostX Γ jJAppend_enc)) (F := fun z : Int × Bool × (tLW) => jJAppend_k1 a0 x2 z.1 z.2.1 z.2.2) (a := (c20_2_1, c20_3_1, o1)) (Go.join 20 hk hxl1 rfl (Xl1 c20_2_1 c20_3_1 o1 qj4_4))
     exact Ll1 _ 0 a0.1.2.2.1 a0.1.2.2.2 a0.1.2.1 qj4_4 qj4_4 qj4_4 (Nat.lt_succ_self _)
  ·intro hk J
   rcases Bool.eq_false_or_eq_true (a0.2.2.2 == 4294967295) with gd1 | gd1
   ·refine Go.rx 20 { ws := [(4, { v := some (tb true) })] } [] [0, 1, 31] _ [(0, .addr 0 0), (1, .sl 1 g_a1 a1.length (u8s a1)), (31, tb true)] [(0, [.addr 20 0, ti a0.2.1, ti a0.2.2.1, t32 a0.2.2.2]), (20, [.ref 21 1 0 a0.1.1.length, .ref 22 2 0 a0.1.2.1.length, ti a0.1.2.2.1, tb a0.1.2.2.2]), (21, b8s .shr a0.1.1), (22, fl gWq a0.1.2.1)] hk rfl kr (.cons trivial (.cons ((eqB32 a0.2.2.2 4294967295).trans (eb gd1)) .nil)) ?_
    intro k' hk'
    refine Go.slotEq 31 (tb ((a0.2.2.2 == 4294967295) || (decide (a0.2.2.1 - a0.2.1 < (fr_Sectors (a1.length : Int)))))) rfl (eb (orT gd1).symm) ?_
    exact J k' hk'
   ·refine Go.rx 20 { ws := [(4, { v := some (tb false) }), (7, { call := some { ids := [0, 20, 21, 22], S := [0, 20, 21, 22], M := [], R := ti (a0.2.2.1 - a0.2.1), H' := [(0, [.addr 20 0, ti a0.2.1, ti a0.2.2.1, t32 a0.2.2.2]), (20, [.ref 21 1 0 a0.1.1.length, .ref 22 2 0 a0.1.2.1.length, ti a0.1.2.2.1, tb a0.1.2.2.2]), (21, b8s .shr a0.1.1), (22, fl gWq a0.1.2.1)] } }), (10, { call := some { ids := [], S := [], M := [], R := ti (fr_Sectors (a1.length : Int)), H' := [] } })] } [] [0, 1, 31] _ [(0, .addr 0 0), (1, .sl 1 g_a1 a1.length (u8s a1)), (31, tb (decide (a0.2.2.1 - a0.2.1 < (fr_Sectors (a1.length : Int)))))] [(0, [.addr 20 0, ti a0.2.1, ti a0.2.2.1, t32 a0.2.2.2]), (20, [.ref 21 1 0 a0.1.1.length, .ref 22 2 0 a0.1.2.1.length, ti a0.1.2.2.1, tb a0.1.2.2.2]), (21, b8s .shr a0.1.1), (22, fl gWq a0.1.2.1)] hk rfl kr (.cons trivial (.cons ((eqB32 a0.2.2.2 4294967295).trans (eb gd1)) (.cons (Meets.sw [] (jJFree_m a0 om) : Meets Tryd.prog 63 [.addr 0 0] [(0, [.addr 20 0, ti a0.2.1, ti a0.2.2.1, t32 a0.2.2.2]), (20, [.ref 21 1 0 a0.1.1.length, .ref 22 2 0 a0.1.2.1.length, ti a0.1.2.2.1, tb a0.1.2.2.2]), (21, b8s .shr a0.1.1), (22, fl gWq a0.1.2.1)] [0, 20, 21, 22] (ti (a0.2.2.1 - a0.2.1)) [(0, [.addr 20 0, ti a0.2.1, ti a0.2.2.1, t32 a0.2.2.2]), (20, [.ref 21 1 0 a0.1.1.length, .ref 22 2 0 a0.1.2.1.length, ti a0.1.2.2.1, tb a0.1.2.2.2]), (21, b8s .shr a0.1.1), (22, fl gWq a0.1.2.1)]) (.cons (sb : subN (idsL [.addr 0 0]) [0, 20, 21, 22] = true) (.cons (sb : subN (idsL [.addr 20 0, ti a0.2.1, ti a0.2.2.1, t32 a0.2.2.2]) [0, 20, 21, 22] = true) (.cons (sb : subN (idsL [.ref 21 1 0 a0.1.1.length, .ref 22 2 0 a0.1.2.1.length, ti a0.1.2.2.1, tb a0.1.2.2.2]) [0, 20, 21, 22] = true) (.cons (qj4_3 : subN (idsL (b8s .shr a0.1.1)) [0, 20, 21, 22] = true) (.cons (by rw [(fl_ids (g := gWq) (fun _ => rfl) a0.1.2.1)]; rfl : subN (idsL (fl gWq a0.1.2.1)) [0, 20, 21, 22] = true) (.cons (fr_Sectors_m (a1.length : Int)) (.cons (sb : subN (idsL [ti (a1.length : Int)]) [] = true) (.cons trivial .nil))))))))))) ?_
    intro k' hk'
    refine Go.slotEq 31 (tb ((a0.2.2.2 == 4294967295) || (decide (a0.2.2.1 - a0.2.1 < (fr_Sectors (a1.length : Int)))))) rfl (eb (orF gd1 rfl).symm) ?_
    exact J k' hk'
theorem jJAppend_l1_gen : True := by have := @jJAppend_l1.eq_1; have := @jJAppend_l1.eq_2; trivial
attribute [irreducible] jJAppend_k1 jJAppend_l1 jJAppend
end Go.Proofs.YtbppcnhfeobefaaDoor

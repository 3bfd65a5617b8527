import Derived.Test.YtbppcnhfeobefabDoorPK3
set_option linter.unusedVariables false
set_option linter.unusedSimpArgs false
namespace Go.Proofs.YtbppcnhfeobefabDoor
open Go Go.Vw Go.Proofs
theorem qg6_1 {p : Prop} (h : p := by first | omega | (simp; done) | (simp <;> omega) | (simp at * <;> omega)) : p := h
theorem qg6_2 {p : Prop} (h : p := by first | (simp; done) | (with_reducible assumption) | omega | (simp <;> omega) | rfl) : p := h
noncomputable def b9_KeyringKeeps_k2  : Bool :=
 b9_sure
noncomputable def b9_KeyringKeeps_l2 (c11_0_2 : List (UInt32 × List UInt8)) (o2 : List (List UInt8)) (x3 : ((List (UInt32 × List UInt8))) × Int) : Nat → Int → Lo Unit Bool
 | 0, _ => .brk default
 | ml2 + 1, t141 =>
  bif decide (t141 < (o2.length : Int)) then
   bnd (kr_Find c11_0_2 (u32i (t141 + 1))) fun x4 =>
   bnd (kr_Find x3.1 (u32i (t141 + 1))) fun x5 =>
   bif (!(decide (x4.2 = 0))) || ((!(decide (x5.2 = 0))) || ((!(fxa 32 x4.1 == fxa 32 (o2.getD t141.toNat (([]) : List UInt8)))) || (!(fxa 32 x5.1 == fxa 32 (o2.getD t141.toNat (([]) : List UInt8)))))) then
    Lo.ret false
   else
    b9_KeyringKeeps_l2 c11_0_2 o2 x3 ml2 (t141 + 1)
  else
   Lo.brk ()
noncomputable def b9_KeyringKeeps_k1 (c11_0_2 : List (UInt32 × List UInt8)) (o2 : List (List UInt8)) : Bool :=
 bnd (kr_Encode c11_0_2) fun x2 =>
 bnd (kr_Decode x2.1) fun x3 =>
 bif (!(decide (x2.2 = 0))) || ((!(decide (x3.2 = 0))) || ((x3.1.length : Int) != (o2.length : Int))) then
  false
 else
  Lo.el (b9_KeyringKeeps_l2 c11_0_2 o2 x3 (((o2.length : Int) - (0 : Int)).toNat + 1) 0) (fun z : Unit => b9_KeyringKeeps_k2)
noncomputable def b9_KeyringKeeps_l1 (a1 : List (List UInt8)) : Nat → Int → (List (UInt32 × List UInt8)) → (List (List UInt8)) → Lo ((List (UInt32 × List UInt8)) × List (List UInt8)) Bool
 | 0, _, _, _ => .brk default
 | ml1 + 1, t71, c11_0_1, o1 =>
  bif (decide (t71 < (a1.length : Int))) && (decide (t71 < 24)) then
   bnd (kr_Rotate c11_0_1 (fxa 32 (a1.getD t71.toNat (([]) : List UInt8)) : List UInt8)) fun x6 =>
   bnd (id x6.2) fun x7 =>
   bif ((decide (x6.2 = 0)) != (decide ((o1.length : Int) < 16))) || (bif !(decide (x6.2 = 0)) then (false != (decide ((o1.length : Int) < 16))) || (x7 != 7) else true != (decide ((o1.length : Int) < 16))) then
    Lo.ret false
   else
    bif decide (x6.2 = 0) then
     b9_KeyringKeeps_l1 a1 ml1 (t71 + 1) x6.1 (o1 ++ ([(a1.getD t71.toNat (([]) : List UInt8))]))
    else
     b9_KeyringKeeps_l1 a1 ml1 (t71 + 1) c11_0_1 o1
  else
   Lo.brk (c11_0_1, o1)
noncomputable def b9_KeyringKeeps (a0 : List UInt8) (a1 : List (List UInt8)) : Bool :=
 bnd (kr_First (fxa 32 a0 : List UInt8)) fun x1 =>
 Lo.el (b9_KeyringKeeps_l1 a1 (((a1.length : Int) - (0 : Int)).toNat + 1) 0 x1 [(a0)]) (fun z : (List (UInt32 × List UInt8)) × List (List UInt8) => b9_KeyringKeeps_k1 z.1 z.2)
def b9_KeyringKeeps_enc (x : Bool) : T × List (Nat × List T) := (tb x, [])
theorem b9_KeyringKeeps_m (a0 : List UInt8) (a1 : List (List UInt8)) (hl_a0 : a0.length = 32) : Meets Tryd.prog 9 [.agg (u8s a0), .sl 32 .shr a1.length (fl (fun c : List UInt8 => (u8s (fxa 32 c))) a1)] [] [] (tb (b9_KeyringKeeps a0 a1)) [] := by
 refine Meets.enterX (E := E) (N := 136) (enc := b9_KeyringKeeps_enc) (x := (b9_KeyringKeeps a0 a1)) Tryd.func9 Tryd.call9 rfl rfl ?_
 intro Γ k hk
 refine Go.rx 20 { ws := [(0, { id := 10 })] } [] [1, 2] _ [(1, .sl 32 .shr a1.length (fl (fun c : List UInt8 => (u8s (fxa 32 c))) a1)), (2, .addr 10 0)] [(10, u8s a0)] hk rfl kr .nil ?_
 clear hk; intro k hk
 refine Go.rx 20 { ws := [(0, { v := some (.agg (u8s (fxa 32 a0))) }), (1, { call := some { ids := [], S := [], M := [], R := .agg ([.sl 33 .shr (kr_First (fxa 32 a0 : List UInt8)).length (fl gTm (kr_First (fxa 32 a0 : List UInt8)))]), H' := [] } }), (2, { id := 11 })] } [] [1, 2, 5] _ [(1, .sl 32 .shr a1.length (fl (fun c : List UInt8 => (u8s (fxa 32 c))) a1)), (2, .addr 10 0), (5, .addr 11 0)] [(10, u8s a0), (11, [.sl 33 .shr (kr_First (fxa 32 a0 : List UInt8)).length (fl gTm (kr_First (fxa 32 a0 : List UInt8)))])] hk rfl kr (.cons (fx_whole (kr : (E.ti 74).agg = true) (kr : (E.ti 74).size = 32) (qg6_2 : (a0).length = 32)) (.cons (kr_First_m (fxa 32 a0 : List UInt8) qg6_2) (.cons (sb : subN (idsL [.agg (u8s (fxa 32 a0))]) [] = true) .nil))) ?_
 clear hk; intro k hk
 refine Go.bnd (Pf := (PostX Γ b9_KeyringKeeps_enc)) (v := (kr_First (fxa 32 a0 : List UInt8))) (fun x1 => [(1, .sl 32 .shr a1.length (fl (fun c : List UInt8 => (u8s (fxa 32 c))) a1)), (2, .addr 10 0), (5, .addr 11 0)]) (fun x1 => [(10, u8s a0), (11, [.sl 33 .shr x1.length (fl gTm x1)])]) ?_
 intro x1 hx1
 refine Go.rx 20 { ws := [(0, { v := some (.agg (u8s (fxa 32 a0))) }), (1, { id := 12 })] } [10] [1, 5, 6] _ [(1, .sl 32 .shr a1.length (fl (fun c : List UInt8 => (u8s (fxa 32 c))) a1)), (5, .addr 11 0), (6, .ref 12 32 0 1)] [(11, [.sl 33 .shr x1.length (fl gTm x1)]), (12, (u8s (fxa 32 a0)))] hk rfl kr (.cons (fx_whole (kr : (E.ti 74).agg = true) (kr : (E.ti 74).size = 32) (qg6_2 : (a0).length = 32)) .nil) ?_
 clear hk; intro k hk
 refine Go.rx 20 {} [] [1, 5, 6, 7] _ [(1, .sl 32 .shr a1.length (fl (fun c : List UInt8 => (u8s (fxa 32 c))) a1)), (5, .addr 11 0), (6, .ref 12 32 0 1), (7, ti 0)] [(11, [.sl 33 .shr x1.length (fl gTm x1)]), (12, (u8s (fxa 32 a0)))] hk rfl kr .nil ?_
 clear hk; intro k hk
 refine Go.loopX 20 hk rfl ?_
 clear hk; intro kl1 kxl1 hl1 hxl1
 have Xl1 : ∀ (c11_0_2 : List (UInt32 × List UInt8)) (o2 : List (List UInt8)) (f0l1 : o2.length ≤ 25), Go E Γ 9 136 [] ((PostX Γ b9_KeyringKeeps_enc) (b9_KeyringKeeps_k1 c11_0_2 o2)) kxl1 (stL [(5, .addr 11 0), (6, .ref 12 32 0 o2.length)] [(11, [.sl 33 .shr c11_0_2.length (fl gTm c11_0_2)]), (12, fl (fun c : List UInt8 => (u8s (fxa 32 c))) o2)]) := by
  intro c11_0_2 o2 f0l1
  refine Go.rx 20 { ws := [(1, { call := some { ids := [], S := [], M := [], R := .tup [.sl 1 .shr ((kr_Encode c11_0_2).1).length (u8s ((kr_Encode c11_0_2).1)), er 105 ((kr_Encode c11_0_2).2)], H' := [] } })] } [] [5, 6, 10, 11] _ [(5, .addr 11 0), (6, .ref 12 32 0 o2.length), (10, .sl 1 .shr ((kr_Encode c11_0_2).1).length (u8s ((kr_Encode c11_0_2).1))), (11, er 105 ((kr_Encode c11_0_2).2))] [(11, [.sl 33 .shr c11_0_2.length (fl gTm c11_0_2)]), (12, fl (fun c : List UInt8 => (u8s (fxa 32 c))) o2)] hxl1 rfl kr (.cons (kr_Encode_m (g_r0 := .shr) c11_0_2) (.cons (sb : subN (idsL [.agg ([.sl 33 .shr c11_0_2.length (fl gTm c11_0_2)])]) [] = true) .nil)) ?_
  clear hxl1; intro kxl1 hxl1
  refine Go.bnd (Pf := (PostX Γ b9_KeyringKeeps_enc)) (v := (kr_Encode c11_0_2)) (fun x2 => [(5, .addr 11 0), (6, .ref 12 32 0 o2.length), (10, .sl 1 .shr x2.1.length (u8s x2.1)), (11, er 105 x2.2)]) (fun x2 => [(11, [.sl 33 .shr c11_0_2.length (fl gTm c11_0_2)]), (12, fl (fun c : List UInt8 => (u8s (fxa 32 c))) o2)]) ?_
  intro x2 hx2
  have fx2 := ring_enc_len c11_0_2
  rw [← hx2] at fx2
  refine Go.rx 20 { ws := [(1, { call := some { ids := [], S := [], M := [], R := .tup [.agg ([.sl 33 .shr ((kr_Decode x2.1).1).length (fl gTm ((kr_Decode x2.1).1))]), er 105 ((kr_Decode x2.1).2)], H' := [] } }), (5, { id := 13 })] } [] [5, 6, 11, 12, 13] _ [(5, .addr 11 0), (6, .ref 12 32 0 o2.length), (11, er 105 x2.2), (12, .addr 13 0), (13, er 105 ((kr_Decode x2.1).2))] [(11, [.sl 33 .shr c11_0_2.length (fl gTm c11_0_2)]), (12, fl (fun c : List UInt8 => (u8s (fxa 32 c))) o2), (13, [.sl 33 .shr ((kr_Decode x2.1).1).length (fl gTm ((kr_Decode x2.1).1))])] hxl1 rfl kr (.cons (kr_Decode_m x2.1) (.cons (sb : subN (idsL [.sl 1 .shr x2.1.length (u8s x2.1)]) [] = true) .nil)) ?_
  clear hxl1; intro kxl1 hxl1
  refine Go.bnd (Pf := (PostX Γ b9_KeyringKeeps_enc)) (v := (kr_Decode x2.1)) (fun x3 => [(5, .addr 11 0), (6, .ref 12 32 0 o2.length), (11, er 105 x2.2), (12, .addr 13 0), (13, er 105 x3.2)]) (fun x3 => [(11, [.sl 33 .shr c11_0_2.length (fl gTm c11_0_2)]), (12, fl (fun c : List UInt8 => (u8s (fxa 32 c))) o2), (13, [.sl 33 .shr x3.1.length (fl gTm x3.1)])]) ?_
  intro x3 hx3
  refine Go.regJ 20 [(5, .addr 11 0), (6, .ref 12 32 0 o2.length), (12, .addr 13 0), (90, tb ((!(decide (x2.2 = 0))) || ((!(decide (x3.2 = 0))) || ((x3.1.length : Int) != (o2.length : Int)))))] [(11, [.sl 33 .shr c11_0_2.length (fl gTm c11_0_2)]), (12, fl (fun c : List UInt8 => (u8s (fxa 32 c))) o2), (13, [.sl 33 .shr x3.1.length (fl gTm x3.1)])] hxl1 rfl ?_ ?_
  ·clear hxl1; intro kxl1 hxl1
   refine Go.br 20 (Pf := (PostX Γ b9_KeyringKeeps_enc)) hxl1 rfl rfl ?_ ?_ <;> clear hxl1 <;> intro ct1 kxl1 hxl1
   ·refine Go.rx 20 { pg := [12] } [11, 12, 13] [4] _ [(4, tb false)] [] hxl1 rfl kr (.cons (fl_mem (i := 11) (g := (fun c : List UInt8 => (u8s (fxa 32 c)))) o2 (fun _ => rfl)) .nil) ?_
    clear hxl1; intro kxl1 hxl1
    exact Go.lvx 20 [] _ [tb false] Tryd.func9 hxl1 rfl kr .nil (T.Le.of_eq rfl) rfl rfl .nil
   ·have ct11 : (!(decide (x2.2 = 0))) = false := (Bool.or_eq_false_iff.1 ct1).1
    have ct12 : ((!(decide (x3.2 = 0))) || ((x3.1.length : Int) != (o2.length : Int))) = false := (Bool.or_eq_false_iff.1 ct1).2
    have ct11' : (decide (x2.2 = 0)) = true := ntF ct11
    have ct11'p := of_decide_eq_true ct11'
    have ct121 : (!(decide (x3.2 = 0))) = false := (Bool.or_eq_false_iff.1 ct12).1
    have ct122 : ((x3.1.length : Int) != (o2.length : Int)) = false := (Bool.or_eq_false_iff.1 ct12).2
    have ct121' : (decide (x3.2 = 0)) = true := ntF ct121
    have ct121'p := of_decide_eq_true ct121'
    have ct122p := neIf ct122
    refine Go.rx 20 {} [] [5, 6, 12, 14] _ [(5, .addr 11 0), (6, .ref 12 32 0 o2.length), (12, .addr 13 0), (14, ti 0)] [(11, [.sl 33 .shr c11_0_2.length (fl gTm c11_0_2)]), (12, fl (fun c : List UInt8 => (u8s (fxa 32 c))) o2), (13, [.sl 33 .shr x3.1.length (fl gTm x3.1)])] hxl1 rfl kr .nil ?_
    clear hxl1; intro kxl1 hxl1
    refine Go.loopX 20 hxl1 rfl ?_
    clear hxl1; intro kl2 kxl2 hl2 hxl2
    have Xl2 : ∀ (_ : True), Go E Γ 9 136 [] ((PostX Γ b9_KeyringKeeps_enc) (b9_KeyringKeeps_k2)) kxl2 (stL [] [(11, [.sl 33 .shr c11_0_2.length (fl gTm c11_0_2)]), (12, fl (fun c : List UInt8 => (u8s (fxa 32 c))) o2), (13, [.sl 33 .shr x3.1.length (fl gTm x3.1)])]) := by
     intro _
     refine Go.rx 20 { ws := [(0, { call := some { ids := [], S := [], M := [], R := tb b9_sure, H' := [] } })], pg := [12] } [11, 12, 13] [4] _ [(4, tb b9_sure)] [] hxl2 rfl kr (.cons (b9_sure_m) (.cons (sb : subN (idsL []) [] = true) (.cons (fl_mem (i := 11) (g := (fun c : List UInt8 => (u8s (fxa 32 c)))) o2 (fun _ => rfl)) .nil))) ?_
     clear hxl2; intro kxl2 hxl2
     exact Go.lvx 20 [] _ [tb b9_sure] Tryd.func9 hxl2 rfl kr .nil (T.Le.of_eq rfl) rfl rfl .nil
    have Ll2 : ∀ (ml2 : Nat) (t141 : Int), (0 ≤ t141) → (t141 ≤ (o2.length : Int)) → (((o2.length : Int) - t141).toNat < ml2) → Go E Γ 9 136 [] ((PostX Γ b9_KeyringKeeps_enc) (Lo.el (b9_KeyringKeeps_l2 c11_0_2 o2 x3 ml2 t141) (fun z : Unit => b9_KeyringKeeps_k2))) kl2 (stL [(5, .addr 11 0), (6, .ref 12 32 0 o2.length), (12, .addr 13 0), (14, ti t141)] [(11, [.sl 33 .shr c11_0_2.length (fl gTm c11_0_2)]), (12, fl (fun c : List UInt8 => (u8s (fxa 32 c))) o2), (13, [.sl 33 .shr x3.1.length (fl gTm x3.1)])]) := by
     intro ml2
     induction ml2 with
     | zero => intro t141 i0l2 i1l2 hml2; exact absurd hml2 (Nat.not_lt_zero _)
     | succ ml2 ihl2 =>
      intro t141 i0l2 i1l2 hml2
      rw [b9_KeyringKeeps_l2]
      refine Go.round hl2 ?_
      intro k hk
      refine Go.rx 20 {} [] [5, 6, 12, 14, 94] _ [(5, .addr 11 0), (6, .ref 12 32 0 o2.length), (12, .addr 13 0), (14, ti t141), (94, tb (decide (t141 < (o2.length : Int))))] [(11, [.sl 33 .shr c11_0_2.length (fl gTm c11_0_2)]), (12, fl (fun c : List UInt8 => (u8s (fxa 32 c))) o2), (13, [.sl 33 .shr x3.1.length (fl gTm x3.1)])] hk rfl kr (.cons trivial .nil) ?_
      clear hk; intro k hk
      refine Go.br 20 (Pf := (fun z : Lo (Unit) (Bool) => (PostX Γ b9_KeyringKeeps_enc) (Lo.el z (fun z : Unit => b9_KeyringKeeps_k2)))) hk rfl rfl ?_ ?_ <;> clear hk <;> intro ct2 k hk
      ·have ct2p := of_decide_eq_true ct2
       refine Go.rx 20 { ws := [(2, { v := some (ti (t141 + 1)) }), (3, { v := some (t32 (u32i (t141 + 1))) }), (4, { call := some { ids := [], S := [], M := [], R := .tup [.agg (u8s ((kr_Find c11_0_2 (u32i (t141 + 1))).1)), er 105 ((kr_Find c11_0_2 (u32i (t141 + 1))).2)], H' := [] } }), (8, { id := 14 }), (9, { c := some (u8s ((kr_Find c11_0_2 (u32i (t141 + 1))).1)), sym := true })] } [] [5, 6, 12, 14, 15, 16] _ [(5, .addr 11 0), (6, .ref 12 32 0 o2.length), (12, .addr 13 0), (14, ti t141), (15, .addr 14 0), (16, er 105 ((kr_Find c11_0_2 (u32i (t141 + 1))).2))] [(11, [.sl 33 .shr c11_0_2.length (fl gTm c11_0_2)]), (12, fl (fun c : List UInt8 => (u8s (fxa 32 c))) o2), (13, [.sl 33 .shr x3.1.length (fl gTm x3.1)]), (14, u8s ((kr_Find c11_0_2 (u32i (t141 + 1))).1))] hk rfl kr (.cons trivial (.cons (iw (t141 + 1) qg6_1) (.cons (cvi_32 (t141 + 1)) (.cons (kr_Find_m (g_r0 := .shr) c11_0_2 (u32i (t141 + 1))) (.cons (sb : subN (idsL [.agg ([.sl 33 .shr c11_0_2.length (fl gTm c11_0_2)]), t32 (u32i (t141 + 1))]) [] = true) (.cons (mp_scal ((kr_Find c11_0_2 (u32i (t141 + 1))).1) (fun _ => rfl) : scalL (u8s ((kr_Find c11_0_2 (u32i (t141 + 1))).1)) = true) (.cons (by rw [List.length_map, (qg6_2 : ((kr_Find c11_0_2 (u32i (t141 + 1))).1).length = 32)]; decide : (u8s ((kr_Find c11_0_2 (u32i (t141 + 1))).1)).length ≤ 32) (.cons (by rw [List.length_map, (qg6_2 : ((kr_Find c11_0_2 (u32i (t141 + 1))).1).length = 32)]; decide : 32 ≤ (u8s ((kr_Find c11_0_2 (u32i (t141 + 1))).1)).length) (.cons (by rw [List.length_map, (qg6_2 : ((kr_Find c11_0_2 (u32i (t141 + 1))).1).length = 32)]; exact Nat.le_of_ble_eq_true rfl : 0 + (u8s ((kr_Find c11_0_2 (u32i (t141 + 1))).1)).length ≤ (z32 : List T).length) (.cons (splice_whole (cs := z32) (v := u8s ((kr_Find c11_0_2 (u32i (t141 + 1))).1)) (by rw [List.length_map, (qg6_2 : ((kr_Find c11_0_2 (u32i (t141 + 1))).1).length = 32)]; rfl)) .nil)))))))))) ?_
       clear hk; intro k hk
       refine Go.bnd (Pf := (fun z : Lo (Unit) (Bool) => (PostX Γ b9_KeyringKeeps_enc) (Lo.el z (fun z : Unit => b9_KeyringKeeps_k2)))) (v := (kr_Find c11_0_2 (u32i (t141 + 1)))) (fun x4 => [(5, .addr 11 0), (6, .ref 12 32 0 o2.length), (12, .addr 13 0), (14, ti t141), (15, .addr 14 0), (16, er 105 x4.2)]) (fun x4 => [(11, [.sl 33 .shr c11_0_2.length (fl gTm c11_0_2)]), (12, fl (fun c : List UInt8 => (u8s (fxa 32 c))) o2), (13, [.sl 33 .shr x3.1.length (fl gTm x3.1)]), (14, u8s x4.1)]) ?_
       intro x4 hx4
       have fx4 := ring_find_len c11_0_2 (u32i (t141 + 1))
       rw [← hx4] at fx4
       refine Go.rx 20 { ws := [(2, { v := some (ti (t141 + 1)) }), (3, { v := some (t32 (u32i (t141 + 1))) }), (4, { call := some { ids := [], S := [], M := [], R := .tup [.agg (u8s ((kr_Find x3.1 (u32i (t141 + 1))).1)), er 105 ((kr_Find x3.1 (u32i (t141 + 1))).2)], H' := [] } }), (8, { id := 15 }), (9, { c := some (u8s ((kr_Find x3.1 (u32i (t141 + 1))).1)), sym := true })] } [] [5, 6, 12, 14, 15, 16, 17, 18] _ [(5, .addr 11 0), (6, .ref 12 32 0 o2.length), (12, .addr 13 0), (14, ti t141), (15, .addr 14 0), (16, er 105 x4.2), (17, .addr 15 0), (18, er 105 ((kr_Find x3.1 (u32i (t141 + 1))).2))] [(11, [.sl 33 .shr c11_0_2.length (fl gTm c11_0_2)]), (12, fl (fun c : List UInt8 => (u8s (fxa 32 c))) o2), (13, [.sl 33 .shr x3.1.length (fl gTm x3.1)]), (14, u8s x4.1), (15, u8s ((kr_Find x3.1 (u32i (t141 + 1))).1))] hk rfl kr (.cons trivial (.cons (iw (t141 + 1) qg6_1) (.cons (cvi_32 (t141 + 1)) (.cons (kr_Find_m (g_r0 := .shr) x3.1 (u32i (t141 + 1))) (.cons (sb : subN (idsL [.agg ([.sl 33 .shr x3.1.length (fl gTm x3.1)]), t32 (u32i (t141 + 1))]) [] = true) (.cons (mp_scal ((kr_Find x3.1 (u32i (t141 + 1))).1) (fun _ => rfl) : scalL (u8s ((kr_Find x3.1 (u32i (t141 + 1))).1)) = true) (.cons (by rw [List.length_map, (qg6_2 : ((kr_Find x3.1 (u32i (t141 + 1))).1).length = 32)]; decide : (u8s ((kr_Find x3.1 (u32i (t141 + 1))).1)).length ≤ 32) (.cons (by rw [List.length_map, (qg6_2 : ((kr_Find x3.1 (u32i (t141 + 1))).1).length = 32)]; decide : 32 ≤ (u8s ((kr_Find x3.1 (u32i (t141 + 1))).1)).length) (.cons (by rw [List.length_map, (qg6_2 : ((kr_Find x3.1 (u32i (t141 + 1))).1).length = 32)]; exact Nat.le_of_ble_eq_true rfl : 0 + (u8s ((kr_Find x3.1 (u32i (t141 + 1))).1)).length ≤ (z32 : List T).length) (.cons (splice_whole (cs := z32) (v := u8s ((kr_Find x3.1 (u32i (t141 + 1))).1)) (by rw [List.length_map, (qg6_2 : ((kr_Find x3.1 (u32i (t141 + 1))).1).length = 32)]; rfl)) .nil)))))))))) ?_
       clear hk; intro k hk
       refine Go.bnd (Pf := (fun z : Lo (Unit) (Bool) => (PostX Γ b9_KeyringKeeps_enc) (Lo.el z (fun z : Unit => b9_KeyringKeeps_k2)))) (v := (kr_Find x3.1 (u32i (t141 + 1)))) (fun x5 => [(5, .addr 11 0), (6, .ref 12 32 0 o2.length), (12, .addr 13 0), (14, ti t141), (15, .addr 14 0), (16, er 105 x4.2), (17, .addr 15 0), (18, er 105 x5.2)]) (fun x5 => [(11, [.sl 33 .shr c11_0_2.length (fl gTm c11_0_2)]), (12, fl (fun c : List UInt8 => (u8s (fxa 32 c))) o2), (13, [.sl 33 .shr x3.1.length (fl gTm x3.1)]), (14, u8s x4.1), (15, u8s x5.1)]) ?_
       intro x5 hx5
       have fx5 := ring_find_len x3.1 (u32i (t141 + 1))
       rw [← hx5] at fx5
       refine Go.regJ 20 [(5, .addr 11 0), (6, .ref 12 32 0 o2.length), (12, .addr 13 0), (14, ti t141), (134, tb ((!(decide (x4.2 = 0))) || ((!(decide (x5.2 = 0))) || ((!(fxa 32 x4.1 == fxa 32 (o2.getD t141.toNat (([]) : List UInt8)))) || (!(fxa 32 x5.1 == fxa 32 (o2.getD t141.toNat (([]) : List UInt8))))))))] [(11, [.sl 33 .shr c11_0_2.length (fl gTm c11_0_2)]), (12, fl (fun c : List UInt8 => (u8s (fxa 32 c))) o2), (13, [.sl 33 .shr x3.1.length (fl gTm x3.1)])] hk rfl ?_ ?_
       ·clear hk; intro k hk
        refine Go.br 20 (Pf := (fun z : Lo (Unit) (Bool) => (PostX Γ b9_KeyringKeeps_enc) (Lo.el z (fun z : Unit => b9_KeyringKeeps_k2)))) hk rfl rfl ?_ ?_ <;> clear hk <;> intro ct3 k hk
        ·refine Go.rx 20 { pg := [12] } [11, 12, 13] [4] _ [(4, tb false)] [] hk rfl kr (.cons (fl_mem (i := 11) (g := (fun c : List UInt8 => (u8s (fxa 32 c)))) o2 (fun _ => rfl)) .nil) ?_
         clear hk; intro k hk
         exact Go.lvx 20 [] _ [tb false] Tryd.func9 hk rfl kr .nil (T.Le.of_eq rfl) rfl rfl .nil
        ·have ct31 : (!(decide (x4.2 = 0))) = false := (Bool.or_eq_false_iff.1 ct3).1
         have ct32 : ((!(decide (x5.2 = 0))) || ((!(fxa 32 x4.1 == fxa 32 (o2.getD t141.toNat (([]) : List UInt8)))) || (!(fxa 32 x5.1 == fxa 32 (o2.getD t141.toNat (([]) : List UInt8)))))) = false := (Bool.or_eq_false_iff.1 ct3).2
         have ct31' : (decide (x4.2 = 0)) = true := ntF ct31
         have ct31'p := of_decide_eq_true ct31'
         have ct321 : (!(decide (x5.2 = 0))) = false := (Bool.or_eq_false_iff.1 ct32).1
         have ct322 : ((!(fxa 32 x4.1 == fxa 32 (o2.getD t141.toNat (([]) : List UInt8)))) || (!(fxa 32 x5.1 == fxa 32 (o2.getD t141.toNat (([]) : List UInt8))))) = false := (Bool.or_eq_false_iff.1 ct32).2
         have ct321' : (decide (x5.2 = 0)) = true := ntF ct321
         have ct321'p := of_decide_eq_true ct321'
         have ct3221 : (!(fxa 32 x4.1 == fxa 32 (o2.getD t141.toNat (([]) : List UInt8)))) = false := (Bool.or_eq_false_iff.1 ct322).1
         have ct3222 : (!(fxa 32 x5.1 == fxa 32 (o2.getD t141.toNat (([]) : List UInt8)))) = false := (Bool.or_eq_false_iff.1 ct322).2
         have ct3221' : (fxa 32 x4.1 == fxa 32 (o2.getD t141.toNat (([]) : List UInt8))) = true := ntF ct3221
         have ct3222' : (fxa 32 x5.1 == fxa 32 (o2.getD t141.toNat (([]) : List UInt8))) = true := ntF ct3222
         refine Go.rx 20 { ws := [(1, { v := some (ti (t141 + 1)) })] } [] [5, 6, 12, 14] _ [(5, .addr 11 0), (6, .ref 12 32 0 o2.length), (12, .addr 13 0), (14, ti (t141 + 1))] [(11, [.sl 33 .shr c11_0_2.length (fl gTm c11_0_2)]), (12, fl (fun c : List UInt8 => (u8s (fxa 32 c))) o2), (13, [.sl 33 .shr x3.1.length (fl gTm x3.1)])] hk rfl kr (.cons trivial (.cons (iw (t141 + 1) qg6_1) .nil)) ?_
         clear hk; intro k hk
         exact Go.join 20 hk hl2 rfl (ihl2 (t141 + 1) qg6_1 qg6_1 qg6_1)
       ·intro hk J
        rcases Bool.eq_false_or_eq_true (!(decide (x4.2 = 0))) with gd3 | gd3
        ·have gd3' : (decide (x4.2 = 0)) = false := ntT gd3
         have gd3'p := of_decide_eq_false gd3'
         refine Go.dx 20 [0, 1, 2, 3, 4, 5, 6, 7, 8, 9, 10, 11, 12, 13, 14, 15, 16, 17, 18, 19, 20, 21] { ws := [(1, { v := some (tb true), er := some (105, x4.2) })], ps := [16, 18, 113], pg := [12, 15] } [14, 15] [5, 6, 12, 14, 134] _ [(5, .addr 11 0), (6, .ref 12 32 0 o2.length), (12, .addr 13 0), (14, ti t141), (134, tb true)] [(11, [.sl 33 .shr c11_0_2.length (fl gTm c11_0_2)]), (12, fl (fun c : List UInt8 => (u8s (fxa 32 c))) o2), (13, [.sl 33 .shr x3.1.length (fl gTm x3.1)])] hk rfl kr (.cons (⟨rfl, rfl⟩ : (er 105 x4.2) = er 105 x4.2 ∧ (.leaf .nilIface : T) = .leaf .nilIface) (.cons (eb gd3) (.cons (er_mem (i := 14) 105 x4.2) (.cons (er_mem (i := 14) 105 x5.2) (.cons (er_mem (i := 14) 105 x4.2) (.cons (fl_mem (i := 14) (g := (fun c : List UInt8 => (u8s (fxa 32 c)))) o2 (fun _ => rfl)) (.cons (mp_mem (i := 14) (g := zU) x5.1 (fun _ => rfl)) (.cons (er_mem (i := 15) 105 x4.2) (.cons (er_mem (i := 15) 105 x5.2) (.cons (er_mem (i := 15) 105 x4.2) (.cons (fl_mem (i := 15) (g := (fun c : List UInt8 => (u8s (fxa 32 c)))) o2 (fun _ => rfl)) .nil))))))))))) ?_
         intro k' hk'
         refine Go.slotEq 134 (tb ((!(decide (x4.2 = 0))) || ((!(decide (x5.2 = 0))) || ((!(fxa 32 x4.1 == fxa 32 (o2.getD t141.toNat (([]) : List UInt8)))) || (!(fxa 32 x5.1 == fxa 32 (o2.getD t141.toNat (([]) : List UInt8)))))))) rfl (eb (orT gd3).symm) ?_
         exact J k' hk'
        ·have gd3' : (decide (x4.2 = 0)) = true := ntF gd3
         have gd3'p := of_decide_eq_true gd3'
         rcases Bool.eq_false_or_eq_true (!(decide (x5.2 = 0))) with gd4 | gd4
         ·have gd4' : (decide (x5.2 = 0)) = false := ntT gd4
          have gd4'p := of_decide_eq_false gd4'
          refine Go.dx 20 [0, 1, 2, 3, 4, 5, 6, 7, 8, 9, 10, 11, 12, 13, 14, 15, 16, 17, 18, 19, 20, 21] { ws := [(1, { v := some (tb false), er := some (105, x4.2) }), (4, { v := some (tb true), er := some (105, x5.2) })], ps := [16, 18, 113, 116], pg := [12, 15] } [14, 15] [5, 6, 12, 14, 134] _ [(5, .addr 11 0), (6, .ref 12 32 0 o2.length), (12, .addr 13 0), (14, ti t141), (134, tb true)] [(11, [.sl 33 .shr c11_0_2.length (fl gTm c11_0_2)]), (12, fl (fun c : List UInt8 => (u8s (fxa 32 c))) o2), (13, [.sl 33 .shr x3.1.length (fl gTm x3.1)])] hk rfl kr (.cons (⟨rfl, rfl⟩ : (er 105 x4.2) = er 105 x4.2 ∧ (.leaf .nilIface : T) = .leaf .nilIface) (.cons (eb gd3) (.cons (⟨rfl, rfl⟩ : (er 105 x5.2) = er 105 x5.2 ∧ (.leaf .nilIface : T) = .leaf .nilIface) (.cons (eb gd4) (.cons (er_mem (i := 14) 105 x4.2) (.cons (er_mem (i := 14) 105 x5.2) (.cons (er_mem (i := 14) 105 x4.2) (.cons (er_mem (i := 14) 105 x5.2) (.cons (fl_mem (i := 14) (g := (fun c : List UInt8 => (u8s (fxa 32 c)))) o2 (fun _ => rfl)) (.cons (mp_mem (i := 14) (g := zU) x5.1 (fun _ => rfl)) (.cons (er_mem (i := 15) 105 x4.2) (.cons (er_mem (i := 15) 105 x5.2) (.cons (er_mem (i := 15) 105 x4.2) (.cons (er_mem (i := 15) 105 x5.2) (.cons (fl_mem (i := 15) (g := (fun c : List UInt8 => (u8s (fxa 32 c)))) o2 (fun _ => rfl)) .nil))))))))))))))) ?_
          intro k' hk'
          refine Go.slotEq 134 (tb ((!(decide (x4.2 = 0))) || ((!(decide (x5.2 = 0))) || ((!(fxa 32 x4.1 == fxa 32 (o2.getD t141.toNat (([]) : List UInt8)))) || (!(fxa 32 x5.1 == fxa 32 (o2.getD t141.toNat (([]) : List UInt8)))))))) rfl (eb (orF gd3 (orT gd4)).symm) ?_
          exact J k' hk'
         ·have gd4' : (decide (x5.2 = 0)) = true := ntF gd4
          have gd4'p := of_decide_eq_true gd4'
          rcases Bool.eq_false_or_eq_true (!(fxa 32 x4.1 == fxa 32 (o2.getD t141.toNat (([]) : List UInt8)))) with gd5 | gd5
          ·have gd5' : (fxa 32 x4.1 == fxa 32 (o2.getD t141.toNat (([]) : List UInt8))) = false := ntT gd5
           refine Go.dx 20 [0, 1, 2, 3, 4, 5, 6, 7, 8, 9, 10, 11, 12, 13, 14, 15, 16, 17, 18, 19, 20, 21] { ws := [(1, { v := some (tb false), er := some (105, x4.2) }), (4, { v := some (tb false), er := some (105, x5.2) }), (7, { v := some (.agg (u8s (fxa 32 x4.1))) }), (11, { v := some (.agg (u8s (fxa 32 (o2.getD t141.toNat (([]) : List UInt8))))) }), (12, { v := some (tb true) })], ps := [16, 18, 113, 116], pg := [12, 15] } [14, 15] [5, 6, 12, 14, 134] _ [(5, .addr 11 0), (6, .ref 12 32 0 o2.length), (12, .addr 13 0), (14, ti t141), (134, tb true)] [(11, [.sl 33 .shr c11_0_2.length (fl gTm c11_0_2)]), (12, fl (fun c : List UInt8 => (u8s (fxa 32 c))) o2), (13, [.sl 33 .shr x3.1.length (fl gTm x3.1)])] hk rfl kr (.cons (⟨rfl, rfl⟩ : (er 105 x4.2) = er 105 x4.2 ∧ (.leaf .nilIface : T) = .leaf .nilIface) (.cons (eb gd3) (.cons (⟨rfl, rfl⟩ : (er 105 x5.2) = er 105 x5.2 ∧ (.leaf .nilIface : T) = .leaf .nilIface) (.cons (eb gd4) (.cons (fx_whole (kr : (E.ti 74).agg = true) (kr : (E.ti 74).size = 32) (qg6_2 : (x4.1).length = 32)) (.cons (qg6_1 : 0 ≤ (t141 : Int) ∧ (t141 : Int) < ((o2.length : Nat) : Int)) (.cons (fl_part (m := 32) (g := (fun c : List UInt8 => (u8s (fxa 32 c)))) (k := 0 + t141.toNat * 32) (n := t141.toNat) (l := o2) (d := (([]) : List UInt8)) (kr : (E.ti 74).agg = true) rfl (fun _ => rfl) (by omega) qg6_1 rfl) (.cons (someT (eqMf (eqL_fxa 32 x4.1 (o2.getD t141.toNat (([]) : List UInt8)))) (eb gd5)) (.cons (er_mem (i := 14) 105 x4.2) (.cons (er_mem (i := 14) 105 x5.2) (.cons (er_mem (i := 14) 105 x4.2) (.cons (er_mem (i := 14) 105 x5.2) (.cons (fl_mem (i := 14) (g := (fun c : List UInt8 => (u8s (fxa 32 c)))) o2 (fun _ => rfl)) (.cons (mp_mem (i := 14) (g := zU) x5.1 (fun _ => rfl)) (.cons (er_mem (i := 15) 105 x4.2) (.cons (er_mem (i := 15) 105 x5.2) (.cons (er_mem (i := 15) 105 x4.2) (.cons (er_mem (i := 15) 105 x5.2) (.cons (fl_mem (i := 15) (g := (fun c : List UInt8 => (u8s (fxa 32 c)))) o2 (fun _ => rfl)) .nil))))))))))))))))))) ?_
           intro k' hk'
           refine Go.slotEq 134 (tb ((!(decide (x4.2 = 0))) || ((!(decide (x5.2 = 0))) || ((!(fxa 32 x4.1 == fxa 32 (o2.getD t141.toNat (([]) : List UInt8)))) || (!(fxa 32 x5.1 == fxa 32 (o2.getD t141.toNat (([]) : List UInt8)))))))) rfl (eb (orF gd3 (orF gd4 (orT gd5))).symm) ?_
           exact J k' hk'
          ·have gd5' : (fxa 32 x4.1 == fxa 32 (o2.getD t141.toNat (([]) : List UInt8))) = true := ntF gd5
           refine Go.dx 20 [0, 1, 2, 3, 4, 5, 6, 7, 8, 9, 10, 11, 12, 13, 14, 15, 16, 17, 18, 19, 20, 21] { ws := [(1, { v := some (tb false), er := some (105, x4.2) }), (4, { v := some (tb false), er := some (105, x5.2) }), (7, { v := some (.agg (u8s (fxa 32 x4.1))) }), (11, { v := some (.agg (u8s (fxa 32 (o2.getD t141.toNat (([]) : List UInt8))))) }), (12, { v := some (tb false) }), (15, { v := some (.agg (u8s (fxa 32 x5.1))) }), (19, { v := some (.agg (u8s (fxa 32 (o2.getD t141.toNat (([]) : List UInt8))))) }), (20, { v := some (tb (!(fxa 32 x5.1 == fxa 32 (o2.getD t141.toNat (([]) : List UInt8))))) })], ps := [16, 18, 113, 116], pg := [12, 15] } [14, 15] [5, 6, 12, 14, 134] _ [(5, .addr 11 0), (6, .ref 12 32 0 o2.length), (12, .addr 13 0), (14, ti t141), (134, tb (!(fxa 32 x5.1 == fxa 32 (o2.getD t141.toNat (([]) : List UInt8)))))] [(11, [.sl 33 .shr c11_0_2.length (fl gTm c11_0_2)]), (12, fl (fun c : List UInt8 => (u8s (fxa 32 c))) o2), (13, [.sl 33 .shr x3.1.length (fl gTm x3.1)])] hk rfl kr (.cons (⟨rfl, rfl⟩ : (er 105 x4.2) = er 105 x4.2 ∧ (.leaf .nilIface : T) = .leaf .nilIface) (.cons (eb gd3) (.cons (⟨rfl, rfl⟩ : (er 105 x5.2) = er 105 x5.2 ∧ (.leaf .nilIface : T) = .leaf .nilIface) (.cons (eb gd4) (.cons (fx_whole (kr : (E.ti 74).agg = true) (kr : (E.ti 74).size = 32) (qg6_2 : (x4.1).length = 32)) (.cons (qg6_1 : 0 ≤ (t141 : Int) ∧ (t141 : Int) < ((o2.length : Nat) : Int)) (.cons (fl_part (m := 32) (g := (fun c : List UInt8 => (u8s (fxa 32 c)))) (k := 0 + t141.toNat * 32) (n := t141.toNat) (l := o2) (d := (([]) : List UInt8)) (kr : (E.ti 74).agg = true) rfl (fun _ => rfl) (by omega) qg6_1 rfl) (.cons (someT (eqMf (eqL_fxa 32 x4.1 (o2.getD t141.toNat (([]) : List UInt8)))) (eb gd5)) (.cons (fx_whole (kr : (E.ti 74).agg = true) (kr : (E.ti 74).size = 32) (qg6_2 : (x5.1).length = 32)) (.cons (qg6_1 : 0 ≤ (t141 : Int) ∧ (t141 : Int) < ((o2.length : Nat) : Int)) (.cons (fl_part (m := 32) (g := (fun c : List UInt8 => (u8s (fxa 32 c)))) (k := 0 + t141.toNat * 32) (n := t141.toNat) (l := o2) (d := (([]) : List UInt8)) (kr : (E.ti 74).agg = true) rfl (fun _ => rfl) (by omega) qg6_1 rfl) (.cons (eqMf (eqL_fxa 32 x5.1 (o2.getD t141.toNat (([]) : List UInt8)))) (.cons (er_mem (i := 14) 105 x4.2) (.cons (er_mem (i := 14) 105 x5.2) (.cons (er_mem (i := 14) 105 x4.2) (.cons (er_mem (i := 14) 105 x5.2) (.cons (fl_mem (i := 14) (g := (fun c : List UInt8 => (u8s (fxa 32 c)))) o2 (fun _ => rfl)) (.cons (mp_mem (i := 14) (g := zU) x5.1 (fun _ => rfl)) (.cons (er_mem (i := 15) 105 x4.2) (.cons (er_mem (i := 15) 105 x5.2) (.cons (er_mem (i := 15) 105 x4.2) (.cons (er_mem (i := 15) 105 x5.2) (.cons (fl_mem (i := 15) (g := (fun c : List UInt8 => (u8s (fxa 32 c)))) o2 (fun _ => rfl)) .nil))))))))))))))))))))))) ?_
           intro k' hk'
           refine Go.slotEq 134 (tb ((!(decide (x4.2 = 0))) || ((!(decide (x5.2 = 0))) || ((!(fxa 32 x4.1 == fxa 32 (o2.getD t141.toNat (([]) : List UInt8)))) || (!(fxa 32 x5.1 == fxa 32 (o2.getD t141.toNat (([]) : List UInt8)))))))) rfl (eb (orF gd3 (orF gd4 (orF gd5 rfl))).symm) ?_
           exact J k' hk'
      ·have ct2p := of_decide_eq_false ct2
       refine Go.keepN [] (L' := []) rfl ?_
       exact Go.exitX (Pf := (PostX Γ b9_KeyringKeeps_enc)) (F := fun z : Unit => b9_KeyringKeeps_k2) (a := ()) (Go.join 20 hk hxl2 rfl (Xl2 trivial))
    exact Ll2 _ 0 qg6_1 qg6_1 (Nat.lt_succ_self _)
  ·intro hxl1 J
   rcases Bool.eq_false_or_eq_true (!(decide (x2.2 = 0))) with gd1 | gd1
   ·have gd1' : (decide (x2.2 = 0)) = false := ntT gd1
    have gd1'p := of_decide_eq_false gd1'
    refine Go.rx 20 { ws := [(1, { v := some (tb true), er := some (105, x2.2) })] } [] [5, 6, 12, 90] _ [(5, .addr 11 0), (6, .ref 12 32 0 o2.length), (12, .addr 13 0), (90, tb true)] [(11, [.sl 33 .shr c11_0_2.length (fl gTm c11_0_2)]), (12, fl (fun c : List UInt8 => (u8s (fxa 32 c))) o2), (13, [.sl 33 .shr x3.1.length (fl gTm x3.1)])] hxl1 rfl kr (.cons (⟨rfl, rfl⟩ : (er 105 x2.2) = er 105 x2.2 ∧ (.leaf .nilIface : T) = .leaf .nilIface) (.cons (eb gd1) .nil)) ?_
    intro k' hk'
    refine Go.slotEq 90 (tb ((!(decide (x2.2 = 0))) || ((!(decide (x3.2 = 0))) || ((x3.1.length : Int) != (o2.length : Int))))) rfl (eb (orT gd1).symm) ?_
    exact J k' hk'
   ·have gd1' : (decide (x2.2 = 0)) = true := ntF gd1
    have gd1'p := of_decide_eq_true gd1'
    rcases Bool.eq_false_or_eq_true (!(decide (x3.2 = 0))) with gd2 | gd2
    ·have gd2' : (decide (x3.2 = 0)) = false := ntT gd2
     have gd2'p := of_decide_eq_false gd2'
     refine Go.rx 20 { ws := [(1, { v := some (tb false), er := some (105, x2.2) }), (4, { v := some (tb true), er := some (105, x3.2) })] } [] [5, 6, 12, 90] _ [(5, .addr 11 0), (6, .ref 12 32 0 o2.length), (12, .addr 13 0), (90, tb true)] [(11, [.sl 33 .shr c11_0_2.length (fl gTm c11_0_2)]), (12, fl (fun c : List UInt8 => (u8s (fxa 32 c))) o2), (13, [.sl 33 .shr x3.1.length (fl gTm x3.1)])] hxl1 rfl kr (.cons (⟨rfl, rfl⟩ : (er 105 x2.2) = er 105 x2.2 ∧ (.leaf .nilIface : T) = .leaf .nilIface) (.cons (eb gd1) (.cons (⟨rfl, rfl⟩ : (er 105 x3.2) = er 105 x3.2 ∧ (.leaf .nilIface : T) = .leaf .nilIface) (.cons (eb gd2) .nil)))) ?_
     intro k' hk'
     refine Go.slotEq 90 (tb ((!(decide (x2.2 = 0))) || ((!(decide (x3.2 = 0))) || ((x3.1.length : Int) != (o2.length : Int))))) rfl (eb (orF gd1 (orT gd2)).symm) ?_
     exact J k' hk'
    ·have gd2' : (decide (x3.2 = 0)) = true := ntF gd2
     have gd2'p := of_decide_eq_true gd2'
     refine Go.rx 20 { ws := [(1, { v := some (tb false), er := some (105, x2.2) }), (4, { v := some (tb false), er := some (105, x3.2) })] } [] [5, 6, 12, 90] _ [(5, .addr 11 0), (6, .ref 12 32 0 o2.length), (12, .addr 13 0), (90, tb ((x3.1.length : Int) != (o2.length : Int)))] [(11, [.sl 33 .shr c11_0_2.length (fl gTm c11_0_2)]), (12, fl (fun c : List UInt8 => (u8s (fxa 32 c))) o2), (13, [.sl 33 .shr x3.1.length (fl gTm x3.1)])] hxl1 rfl kr (.cons (⟨rfl, rfl⟩ : (er 105 x2.2) = er 105 x2.2 ∧ (.leaf .nilIface : T) = .leaf .nilIface) (.cons (eb gd1) (.cons (⟨rfl, rfl⟩ : (er 105 x3.2) = er 105 x3.2 ∧ (.leaf .nilIface : T) = .leaf .nilIface) (.cons (eb gd2) (.cons trivial .nil))))) ?_
     intro k' hk'
     refine Go.slotEq 90 (tb ((!(decide (x2.2 = 0))) || ((!(decide (x3.2 = 0))) || ((x3.1.length : Int) != (o2.length : Int))))) rfl (eb (orF gd1 (orF gd2 rfl)).symm) ?_
     exact J k' hk'
 have Ll1 : ∀ (ml1 : Nat) (t71 : Int) (c11_0_1 : List (UInt32 × List UInt8)) (o1 : List (List UInt8)), (0 ≤ t71) → (t71 ≤ 24) → ((o1.length : Int) ≤ t71 + 1) → (((a1.length : Int) - t71).toNat < ml1) → Go E Γ 9 136 [] ((PostX Γ b9_KeyringKeeps_enc) (Lo.el (b9_KeyringKeeps_l1 a1 ml1 t71 c11_0_1 o1) (fun z : (List (UInt32 × List UInt8)) × List (List UInt8) => b9_KeyringKeeps_k1 z.1 z.2))) kl1 (stL [(1, .sl 32 .shr a1.length (fl (fun c : List UInt8 => (u8s (fxa 32 c))) a1)), (5, .addr 11 0), (6, .ref 12 32 0 o1.length), (7, ti t71)] [(11, [.sl 33 .shr c11_0_1.length (fl gTm c11_0_1)]), (12, fl (fun c : List UInt8 => (u8s (fxa 32 c))) o1)]) := by
  intro ml1
  induction ml1 with
  | zero => intro t71 c11_0_1 o1 i0l1 i1l1 i2l1 hml1; exact absurd hml1 (Nat.not_lt_zero _)
  | succ ml1 ihl1 =>
   intro t71 c11_0_1 o1 i0l1 i1l1 i2l1 hml1
   rw [b9_KeyringKeeps_l1]
   refine Go.round hl1 ?_
   intro k hk
   refine Go.regJ 20 [(1, .sl 32 .shr a1.length (fl (fun c : List UInt8 => (u8s (fxa 32 c))) a1)), (5, .addr 11 0), (6, .ref 12 32 0 o1.length), (7, ti t71), (30, tb ((decide (t71 < (a1.length : Int))) && (decide (t71 < 24))))] [(11, [.sl 33 .shr c11_0_1.length (fl gTm c11_0_1)]), (12, fl (fun c : List UInt8 => (u8s (fxa 32 c))) o1)] hk rfl ?_ ?_
   ·clear hk; intro k hk
    refine Go.br 20 (Pf := (fun z : Lo ((List (UInt32 × List UInt8)) × List (List UInt8)) (Bool) => (PostX Γ b9_KeyringKeeps_enc) (Lo.el z (fun z : (List (UInt32 × List UInt8)) × List (List UInt8) => b9_KeyringKeeps_k1 z.1 z.2)))) hk rfl rfl ?_ ?_ <;> clear hk <;> intro ct4 k hk
    ·have ct41 : (decide (t71 < (a1.length : Int))) = true := (Bool.and_eq_true_iff.1 ct4).1
     have ct42 : (decide (t71 < 24)) = true := (Bool.and_eq_true_iff.1 ct4).2
     have ct41p := of_decide_eq_true ct41
     have ct42p := of_decide_eq_true ct42
     refine Go.dx 20 [0, 1, 2, 3, 4, 5, 6, 7, 9, 10, 8, 11] { ws := [(4, { v := some (.agg (u8s (fxa 32 (a1.getD t71.toNat (([]) : List UInt8))))) }), (5, { call := some { ids := [], S := [], M := [], R := .tup [.agg ([.sl 33 .shr ((kr_Rotate c11_0_1 (fxa 32 (a1.getD t71.toNat (([]) : List UInt8)) : List UInt8)).1).length (fl gTm ((kr_Rotate c11_0_1 (fxa 32 (a1.getD t71.toNat (([]) : List UInt8)) : List UInt8)).1))]), er 105 ((kr_Rotate c11_0_1 (fxa 32 (a1.getD t71.toNat (([]) : List UInt8)) : List UInt8)).2)], H' := [] } }), (9, { id := 16 })] } [] [1, 5, 6, 7, 8, 9] _ [(1, .sl 32 .shr a1.length (fl (fun c : List UInt8 => (u8s (fxa 32 c))) a1)), (5, .addr 11 0), (6, .ref 12 32 0 o1.length), (7, ti t71), (8, .addr 16 0), (9, er 105 ((kr_Rotate c11_0_1 (fxa 32 (a1.getD t71.toNat (([]) : List UInt8)) : List UInt8)).2))] [(11, [.sl 33 .shr c11_0_1.length (fl gTm c11_0_1)]), (12, fl (fun c : List UInt8 => (u8s (fxa 32 c))) o1), (16, [.sl 33 .shr ((kr_Rotate c11_0_1 (fxa 32 (a1.getD t71.toNat (([]) : List UInt8)) : List UInt8)).1).length (fl gTm ((kr_Rotate c11_0_1 (fxa 32 (a1.getD t71.toNat (([]) : List UInt8)) : List UInt8)).1))])] hk rfl kr (.cons (qg6_1 : 0 ≤ (t71 : Int) ∧ (t71 : Int) < ((a1.length : Nat) : Int)) (.cons (fl_part (m := 32) (g := (fun c : List UInt8 => (u8s (fxa 32 c)))) (k := t71.toNat * 32) (n := t71.toNat) (l := a1) (d := (([]) : List UInt8)) (kr : (E.ti 74).agg = true) rfl (fun _ => rfl) rfl qg6_1 rfl) (.cons (kr_Rotate_m (g_r0 := .shr) c11_0_1 (fxa 32 (a1.getD t71.toNat (([]) : List UInt8)) : List UInt8) qg6_2) (.cons (sb : subN (idsL [.agg ([.sl 33 .shr c11_0_1.length (fl gTm c11_0_1)]), .agg (u8s (fxa 32 (a1.getD t71.toNat (([]) : List UInt8))))]) [] = true) .nil)))) ?_
     clear hk; intro k hk
     refine Go.bnd (Pf := (fun z : Lo ((List (UInt32 × List UInt8)) × List (List UInt8)) (Bool) => (PostX Γ b9_KeyringKeeps_enc) (Lo.el z (fun z : (List (UInt32 × List UInt8)) × List (List UInt8) => b9_KeyringKeeps_k1 z.1 z.2)))) (v := (kr_Rotate c11_0_1 (fxa 32 (a1.getD t71.toNat (([]) : List UInt8)) : List UInt8))) (fun x6 => [(1, .sl 32 .shr a1.length (fl (fun c : List UInt8 => (u8s (fxa 32 c))) a1)), (5, .addr 11 0), (6, .ref 12 32 0 o1.length), (7, ti t71), (8, .addr 16 0), (9, er 105 x6.2)]) (fun x6 => [(11, [.sl 33 .shr c11_0_1.length (fl gTm c11_0_1)]), (12, fl (fun c : List UInt8 => (u8s (fxa 32 c))) o1), (16, [.sl 33 .shr x6.1.length (fl gTm x6.1)])]) ?_
     intro x6 hx6
     refine Go.regJ 20 [(1, .sl 32 .shr a1.length (fl (fun c : List UInt8 => (u8s (fxa 32 c))) a1)), (5, .addr 11 0), (6, .ref 12 32 0 o1.length), (7, ti t71), (8, .addr 16 0), (9, er 105 x6.2), (56, tb (((decide (x6.2 = 0)) != (decide ((o1.length : Int) < 16))) || (bif !(decide (x6.2 = 0)) then (false != (decide ((o1.length : Int) < 16))) || ((id x6.2) != 7) else true != (decide ((o1.length : Int) < 16)))))] [(11, [.sl 33 .shr c11_0_1.length (fl gTm c11_0_1)]), (12, fl (fun c : List UInt8 => (u8s (fxa 32 c))) o1), (16, [.sl 33 .shr x6.1.length (fl gTm x6.1)])] hk rfl ?_ ?_
     ·clear hk; intro k hk
      refine Go.bnd (Pf := (fun z : Lo ((List (UInt32 × List UInt8)) × List (List UInt8)) (Bool) => (PostX Γ b9_KeyringKeeps_enc) (Lo.el z (fun z : (List (UInt32 × List UInt8)) × List (List UInt8) => b9_KeyringKeeps_k1 z.1 z.2)))) (v := (id x6.2)) (fun x7 => [(1, .sl 32 .shr a1.length (fl (fun c : List UInt8 => (u8s (fxa 32 c))) a1)), (5, .addr 11 0), (6, .ref 12 32 0 o1.length), (7, ti t71), (8, .addr 16 0), (9, er 105 x6.2), (56, tb (((decide (x6.2 = 0)) != (decide ((o1.length : Int) < 16))) || (bif !(decide (x6.2 = 0)) then (false != (decide ((o1.length : Int) < 16))) || (x7 != 7) else true != (decide ((o1.length : Int) < 16)))))]) (fun x7 => [(11, [.sl 33 .shr c11_0_1.length (fl gTm c11_0_1)]), (12, fl (fun c : List UInt8 => (u8s (fxa 32 c))) o1), (16, [.sl 33 .shr x6.1.length (fl gTm x6.1)])]) ?_
      intro x7 hx7
      refine Go.br 20 (Pf := (fun z : Lo ((List (UInt32 × List UInt8)) × List (List UInt8)) (Bool) => (PostX Γ b9_KeyringKeeps_enc) (Lo.el z (fun z : (List (UInt32 × List UInt8)) × List (List UInt8) => b9_KeyringKeeps_k1 z.1 z.2)))) hk rfl rfl ?_ ?_ <;> clear hk <;> intro ct5 k hk
      ·refine Go.rx 20 { ps := [9], pg := [12] } [11, 12, 16] [4] _ [(4, tb false)] [] hk rfl kr (.cons (er_mem (i := 11) 105 x6.2) (.cons (fl_mem (i := 11) (g := (fun c : List UInt8 => (u8s (fxa 32 c)))) o1 (fun _ => rfl)) (.cons (er_mem (i := 12) 105 x6.2) (.cons (er_mem (i := 16) 105 x6.2) .nil)))) ?_
       clear hk; intro k hk
       exact Go.lvx 20 [] _ [tb false] Tryd.func9 hk rfl kr .nil (T.Le.of_eq rfl) rfl rfl .nil
      ·have ct51 : ((decide (x6.2 = 0)) != (decide ((o1.length : Int) < 16))) = false := (Bool.or_eq_false_iff.1 ct5).1
       have ct52 : (bif !(decide (x6.2 = 0)) then (false != (decide ((o1.length : Int) < 16))) || (x7 != 7) else true != (decide ((o1.length : Int) < 16))) = false := (Bool.or_eq_false_iff.1 ct5).2
       refine Go.rx 20 { ws := [(1, { er := some (105, x6.2) })] } [] [1, 5, 6, 7, 8, 58] _ [(1, .sl 32 .shr a1.length (fl (fun c : List UInt8 => (u8s (fxa 32 c))) a1)), (5, .addr 11 0), (6, .ref 12 32 0 o1.length), (7, ti t71), (8, .addr 16 0), (58, tb (decide (x6.2 = 0)))] [(11, [.sl 33 .shr c11_0_1.length (fl gTm c11_0_1)]), (12, fl (fun c : List UInt8 => (u8s (fxa 32 c))) o1), (16, [.sl 33 .shr x6.1.length (fl gTm x6.1)])] hk rfl kr (.cons (⟨rfl, rfl⟩ : (er 105 x6.2) = er 105 x6.2 ∧ (.leaf .nilIface : T) = .leaf .nilIface) .nil) ?_
       clear hk; intro k hk
       refine Go.br 20 (Pf := (fun z : Lo ((List (UInt32 × List UInt8)) × List (List UInt8)) (Bool) => (PostX Γ b9_KeyringKeeps_enc) (Lo.el z (fun z : (List (UInt32 × List UInt8)) × List (List UInt8) => b9_KeyringKeeps_k1 z.1 z.2)))) hk rfl rfl ?_ ?_ <;> clear hk <;> intro ct7 k hk
       ·have ct7p := of_decide_eq_true ct7
        refine Go.rx 20 { pg := [12] } [16] [1, 5, 6, 7] _ [(1, .sl 32 .shr a1.length (fl (fun c : List UInt8 => (u8s (fxa 32 c))) a1)), (5, .addr 11 0), (6, .ref 12 32 0 o1.length), (7, ti t71)] [(11, [.sl 33 .shr x6.1.length (fl gTm x6.1)]), (12, fl (fun c : List UInt8 => (u8s (fxa 32 c))) o1)] hk rfl kr (.cons (fl_mem (i := 16) (g := (fun c : List UInt8 => (u8s (fxa 32 c)))) o1 (fun _ => rfl)) .nil) ?_
        clear hk; intro k hk
        refine Go.rx 20 { ws := [(4, { v := some (.agg (u8s (fxa 32 (a1.getD t71.toNat (([]) : List UInt8))))) }), (5, { id := 17 }), (6, { v := some (.ref 12 32 0 ((o1 ++ ([(a1.getD t71.toNat (([]) : List UInt8))])).length)), c := some (fl (fun c : List UInt8 => (u8s (fxa 32 c))) (o1 ++ ([(a1.getD t71.toNat (([]) : List UInt8))]))), id := 12, sym := true })], pg := [12], fd := some [12] } [17] [1, 5, 6, 7] _ [(1, .sl 32 .shr a1.length (fl (fun c : List UInt8 => (u8s (fxa 32 c))) a1)), (5, .addr 11 0), (6, .ref 12 32 0 ((o1 ++ ([(a1.getD t71.toNat (([]) : List UInt8))])).length)), (7, ti t71)] [(11, [.sl 33 .shr x6.1.length (fl gTm x6.1)]), (12, fl (fun c : List UInt8 => (u8s (fxa 32 c))) (o1 ++ ([(a1.getD t71.toNat (([]) : List UInt8))])))] hk rfl kr (.cons (qg6_1 : 0 ≤ (t71 : Int) ∧ (t71 : Int) < ((a1.length : Nat) : Int)) (.cons (fl_part (m := 32) (g := (fun c : List UInt8 => (u8s (fxa 32 c)))) (k := t71.toNat * 32) (n := t71.toNat) (l := a1) (d := (([]) : List UInt8)) (kr : (E.ti 74).agg = true) rfl (fun _ => rfl) rfl qg6_1 rfl) (.cons (Nat.le_of_ble_eq_true rfl : 0 + 1 * 32 ≤ ((u8s (fxa 32 (a1.getD t71.toNat (([]) : List UInt8)))) : List T).length) (.cons (by rw [fl_len (m := 32) (fun _ => rfl)]; omega : 0 + o1.length * 32 ≤ (fl (fun c : List UInt8 => (u8s (fxa 32 c))) o1).length) (.cons (rfl : scalL (u8s (fxa 32 (a1.getD t71.toNat (([]) : List UInt8)))) = true) (.cons (qg6_1 : (o1.length + 1) * 32 ≤ 140737488355328) (.cons (fl_app' (g := (fun c : List UInt8 => (u8s (fxa 32 c)))) (m := 32) (k := o1.length) (fun _ => rfl) o1 ([(a1.getD t71.toNat (([]) : List UInt8))]) rfl rfl) (.cons (fl_mem (i := 12) (g := (fun c : List UInt8 => (u8s (fxa 32 c)))) (o1 ++ ([(a1.getD t71.toNat (([]) : List UInt8))])) (fun _ => rfl)) (.cons (by first | rfl | (simp; done) | (refine congrArg (fun q => T.ref 12 32 0 q) ?_; simp <;> omega) : T.ref 12 32 0 (o1.length + 1) = .ref 12 32 0 ((o1 ++ ([(a1.getD t71.toNat (([]) : List UInt8))])).length)) (.cons (fl_mem (i := 17) (g := (fun c : List UInt8 => (u8s (fxa 32 c)))) (o1 ++ ([(a1.getD t71.toNat (([]) : List UInt8))])) (fun _ => rfl)) .nil)))))))))) ?_
        clear hk; intro k hk
        refine Go.rx 20 { ws := [(1, { v := some (ti (t71 + 1)) })] } [] [1, 5, 6, 7] _ [(1, .sl 32 .shr a1.length (fl (fun c : List UInt8 => (u8s (fxa 32 c))) a1)), (5, .addr 11 0), (6, .ref 12 32 0 ((o1 ++ ([(a1.getD t71.toNat (([]) : List UInt8))])).length)), (7, ti (t71 + 1))] [(11, [.sl 33 .shr x6.1.length (fl gTm x6.1)]), (12, fl (fun c : List UInt8 => (u8s (fxa 32 c))) (o1 ++ ([(a1.getD t71.toNat (([]) : List UInt8))])))] hk rfl kr (.cons trivial (.cons (iw (t71 + 1) qg6_1) .nil)) ?_
        clear hk; intro k hk
        exact Go.join 20 hk hl1 rfl (ihl1 (t71 + 1) x6.1 (o1 ++ ([(a1.getD t71.toNat (([]) : List UInt8))])) qg6_1 qg6_1 qg6_1 qg6_1)
       ·have ct7p := of_decide_eq_false ct7
        refine Go.rx 20 { ws := [(1, { v := some (ti (t71 + 1)) })], pg := [12] } [16] [1, 5, 6, 7] _ [(1, .sl 32 .shr a1.length (fl (fun c : List UInt8 => (u8s (fxa 32 c))) a1)), (5, .addr 11 0), (6, .ref 12 32 0 o1.length), (7, ti (t71 + 1))] [(11, [.sl 33 .shr c11_0_1.length (fl gTm c11_0_1)]), (12, fl (fun c : List UInt8 => (u8s (fxa 32 c))) o1)] hk rfl kr (.cons trivial (.cons (iw (t71 + 1) qg6_1) (.cons (fl_mem (i := 16) (g := (fun c : List UInt8 => (u8s (fxa 32 c)))) o1 (fun _ => rfl)) .nil))) ?_
        clear hk; intro k hk
        exact Go.join 20 hk hl1 rfl (ihl1 (t71 + 1) c11_0_1 o1 qg6_1 qg6_1 qg6_1 qg6_1)
     ·intro hk J
      rcases Bool.eq_false_or_eq_true ((decide (x6.2 = 0)) != (decide ((o1.length : Int) < 16))) with gd7 | gd7
      ·refine Go.rx 20 { ws := [(1, { er := some (105, x6.2) }), (5, { v := some (tb true) })] } [] [1, 5, 6, 7, 8, 9, 56] _ [(1, .sl 32 .shr a1.length (fl (fun c : List UInt8 => (u8s (fxa 32 c))) a1)), (5, .addr 11 0), (6, .ref 12 32 0 o1.length), (7, ti t71), (8, .addr 16 0), (9, er 105 x6.2), (56, tb true)] [(11, [.sl 33 .shr c11_0_1.length (fl gTm c11_0_1)]), (12, fl (fun c : List UInt8 => (u8s (fxa 32 c))) o1), (16, [.sl 33 .shr x6.1.length (fl gTm x6.1)])] hk rfl kr (.cons (⟨rfl, rfl⟩ : (er 105 x6.2) = er 105 x6.2 ∧ (.leaf .nilIface : T) = .leaf .nilIface) (.cons trivial (.cons (eb gd7) .nil))) ?_
       intro k' hk'
       refine Go.slotEq 56 (tb (((decide (x6.2 = 0)) != (decide ((o1.length : Int) < 16))) || (bif !(decide (x6.2 = 0)) then (false != (decide ((o1.length : Int) < 16))) || ((id x6.2) != 7) else true != (decide ((o1.length : Int) < 16))))) rfl (eb (orT gd7).symm) ?_
       exact J k' hk'
      ·rcases Bool.eq_false_or_eq_true (!(decide (x6.2 = 0))) with gd8 | gd8
       ·have gd8' : (decide (x6.2 = 0)) = false := ntT gd8
        have gd8'p := of_decide_eq_false gd8'
        rcases Bool.eq_false_or_eq_true (false != (decide ((o1.length : Int) < 16))) with gd9 | gd9
        ·refine Go.rx 20 { ws := [(1, { v := some (tb false), er := some (105, x6.2) }), (5, { v := some (tb true) })] } [] [1, 5, 6, 7, 8, 9, 56] _ [(1, .sl 32 .shr a1.length (fl (fun c : List UInt8 => (u8s (fxa 32 c))) a1)), (5, .addr 11 0), (6, .ref 12 32 0 o1.length), (7, ti t71), (8, .addr 16 0), (9, er 105 x6.2), (56, tb true)] [(11, [.sl 33 .shr c11_0_1.length (fl gTm c11_0_1)]), (12, fl (fun c : List UInt8 => (u8s (fxa 32 c))) o1), (16, [.sl 33 .shr x6.1.length (fl gTm x6.1)])] hk rfl kr (.cons (⟨rfl, rfl⟩ : (er 105 x6.2) = er 105 x6.2 ∧ (.leaf .nilIface : T) = .leaf .nilIface) (.cons (eb gd8') (.cons trivial (.cons (eb gd9) .nil)))) ?_
         intro k' hk'
         refine Go.slotEq 56 (tb (((decide (x6.2 = 0)) != (decide ((o1.length : Int) < 16))) || (bif !(decide (x6.2 = 0)) then (false != (decide ((o1.length : Int) < 16))) || ((id x6.2) != 7) else true != (decide ((o1.length : Int) < 16))))) rfl (eb (orF gd7 ((condT gd8).trans (orT gd9))).symm) ?_
         exact J k' hk'
        ·refine Go.rx 20 { ws := [(1, { v := some (tb false), er := some (105, x6.2) }), (5, { v := some (tb false) }), (8, { v := some (tb true), er := some (105, x6.2) }), (11, { call := some { ids := [], S := [], M := [], R := ti (id x6.2), H' := [] } })] } [] [1, 5, 6, 7, 8, 9, 56] _ [(1, .sl 32 .shr a1.length (fl (fun c : List UInt8 => (u8s (fxa 32 c))) a1)), (5, .addr 11 0), (6, .ref 12 32 0 o1.length), (7, ti t71), (8, .addr 16 0), (9, er 105 x6.2), (56, tb ((id x6.2) != 7))] [(11, [.sl 33 .shr c11_0_1.length (fl gTm c11_0_1)]), (12, fl (fun c : List UInt8 => (u8s (fxa 32 c))) o1), (16, [.sl 33 .shr x6.1.length (fl gTm x6.1)])] hk rfl kr (.cons (⟨rfl, rfl⟩ : (er 105 x6.2) = er 105 x6.2 ∧ (.leaf .nilIface : T) = .leaf .nilIface) (.cons (eb gd8') (.cons trivial (.cons (eb gd9) (.cons (⟨rfl, rfl⟩ : (er 105 x6.2) = er 105 x6.2 ∧ (.leaf .nilIface : T) = .leaf .nilIface) (.cons (eb gd8) (.cons (b9_num_m x6.2) (.cons (sb : subN (idsL [er 105 x6.2]) [] = true) (.cons trivial .nil))))))))) ?_
         intro k' hk'
         refine Go.slotEq 56 (tb (((decide (x6.2 = 0)) != (decide ((o1.length : Int) < 16))) || (bif !(decide (x6.2 = 0)) then (false != (decide ((o1.length : Int) < 16))) || ((id x6.2) != 7) else true != (decide ((o1.length : Int) < 16))))) rfl (eb (orF gd7 ((condT gd8).trans (orF gd9 rfl))).symm) ?_
         exact J k' hk'
       ·have gd8' : (decide (x6.2 = 0)) = true := ntF gd8
        have gd8'p := of_decide_eq_true gd8'
        rcases Bool.eq_false_or_eq_true (true != (decide ((o1.length : Int) < 16))) with gd10 | gd10
        ·refine Go.rx 20 { ws := [(1, { v := some (tb true), er := some (105, x6.2) }), (5, { v := some (tb true) })] } [] [1, 5, 6, 7, 8, 9, 56] _ [(1, .sl 32 .shr a1.length (fl (fun c : List UInt8 => (u8s (fxa 32 c))) a1)), (5, .addr 11 0), (6, .ref 12 32 0 o1.length), (7, ti t71), (8, .addr 16 0), (9, er 105 x6.2), (56, tb true)] [(11, [.sl 33 .shr c11_0_1.length (fl gTm c11_0_1)]), (12, fl (fun c : List UInt8 => (u8s (fxa 32 c))) o1), (16, [.sl 33 .shr x6.1.length (fl gTm x6.1)])] hk rfl kr (.cons (⟨rfl, rfl⟩ : (er 105 x6.2) = er 105 x6.2 ∧ (.leaf .nilIface : T) = .leaf .nilIface) (.cons (eb gd8') (.cons trivial (.cons (eb gd10) .nil)))) ?_
         intro k' hk'
         refine Go.slotEq 56 (tb (((decide (x6.2 = 0)) != (decide ((o1.length : Int) < 16))) || (bif !(decide (x6.2 = 0)) then (false != (decide ((o1.length : Int) < 16))) || ((id x6.2) != 7) else true != (decide ((o1.length : Int) < 16))))) rfl (eb (orF gd7 ((condF gd8).trans gd10)).symm) ?_
         exact J k' hk'
        ·refine Go.rx 20 { ws := [(1, { v := some (tb true), er := some (105, x6.2) }), (5, { v := some (tb false) }), (8, { v := some (tb false), er := some (105, x6.2) })] } [] [1, 5, 6, 7, 8, 9, 56] _ [(1, .sl 32 .shr a1.length (fl (fun c : List UInt8 => (u8s (fxa 32 c))) a1)), (5, .addr 11 0), (6, .ref 12 32 0 o1.length), (7, ti t71), (8, .addr 16 0), (9, er 105 x6.2), (56, tb false)] [(11, [.sl 33 .shr c11_0_1.length (fl gTm c11_0_1)]), (12, fl (fun c : List UInt8 => (u8s (fxa 32 c))) o1), (16, [.sl 33 .shr x6.1.length (fl gTm x6.1)])] hk rfl kr (.cons (⟨rfl, rfl⟩ : (er 105 x6.2) = er 105 x6.2 ∧ (.leaf .nilIface : T) = .leaf .nilIface) (.cons (eb gd8') (.cons trivial (.cons (eb gd10) (.cons (⟨rfl, rfl⟩ : (er 105 x6.2) = er 105 x6.2 ∧ (.leaf .nilIface : T) = .leaf .nilIface) (.cons (eb gd8) .nil)))))) ?_
         intro k' hk'
         refine Go.slotEq 56 (tb (((decide (x6.2 = 0)) != (decide ((o1.length : Int) < 16))) || (bif !(decide (x6.2 = 0)) then (false != (decide ((o1.length : Int) < 16))) || ((id x6.2) != 7) else true != (decide ((o1.length : Int) < 16))))) rfl (eb (orF gd7 ((condF gd8).trans gd10)).symm) ?_
         exact J k' hk'
    ·refine Go.keepN [5, 6] (L' := [(5, .addr 11 0), (6, .ref 12 32 0 o1.length)]) rfl ?_
     exact Go.exitX (Pf := (PostX Γ b9_KeyringKeeps_enc)) (F := fun z : (List (UInt32 × List UInt8)) × List (List UInt8) => b9_KeyringKeeps_k1 z.1 z.2) (a := (c11_0_1, o1)) (Go.join 20 hk hxl1 rfl (Xl1 c11_0_1 o1 (by first | omega | (simp; omega))))
   ·intro hk J
    rcases Bool.eq_false_or_eq_true (decide (t71 < (a1.length : Int))) with gd6 | gd6
    ·have gd6p := of_decide_eq_true gd6
     refine Go.rx 20 { ws := [(3, { v := some (tb true) })] } [] [1, 5, 6, 7, 30] _ [(1, .sl 32 .shr a1.length (fl (fun c : List UInt8 => (u8s (fxa 32 c))) a1)), (5, .addr 11 0), (6, .ref 12 32 0 o1.length), (7, ti t71), (30, tb (decide (t71 < 24)))] [(11, [.sl 33 .shr c11_0_1.length (fl gTm c11_0_1)]), (12, fl (fun c : List UInt8 => (u8s (fxa 32 c))) o1)] hk rfl kr (.cons trivial (.cons (eb gd6) (.cons trivial .nil))) ?_
     intro k' hk'
     refine Go.slotEq 30 (tb ((decide (t71 < (a1.length : Int))) && (decide (t71 < 24)))) rfl (eb (andT gd6 rfl).symm) ?_
     exact J k' hk'
    ·have gd6p := of_decide_eq_false gd6
     refine Go.rx 20 { ws := [(3, { v := some (tb false) })] } [] [1, 5, 6, 7, 30] _ [(1, .sl 32 .shr a1.length (fl (fun c : List UInt8 => (u8s (fxa 32 c))) a1)), (5, .addr 11 0), (6, .ref 12 32 0 o1.length), (7, ti t71), (30, tb false)] [(11, [.sl 33 .shr c11_0_1.length (fl gTm c11_0_1)]), (12, fl (fun c : List UInt8 => (u8s (fxa 32 c))) o1)] hk rfl kr (.cons trivial (.cons (eb gd6) .nil)) ?_
     intro k' hk'
     refine Go.slotEq 30 (tb ((decide (t71 < (a1.length : Int))) && (decide (t71 < 24)))) rfl (eb (andF gd6).symm) ?_
     exact J k' hk'
 exact Ll1 _ 0 x1 [(a0)] (by first | omega | (simp; done)) (by first | omega | (simp; done)) (by first | omega | (simp; done)) (Nat.lt_succ_self _)
theorem b9_KeyringKeeps_l2_gen : True := by have := @b9_KeyringKeeps_l2.eq_1; have := @b9_KeyringKeeps_l2.eq_2; trivial
theorem b9_KeyringKeeps_l1_gen : True := by have := @b9_KeyringKeeps_l1.eq_1; have := @b9_KeyringKeeps_l1.eq_2; trivial
attribute [irreducible] b9_KeyringKeeps_k2 b9_KeyringKeeps_l2 b9_KeyringKeeps_k1 b9_KeyringKeeps_l1 b9_KeyringKeeps
end Go.Proofs.YtbppcnhfeobefabDoor

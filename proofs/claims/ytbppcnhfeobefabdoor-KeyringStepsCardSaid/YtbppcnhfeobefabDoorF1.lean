import Derived.Test.YtbppcnhfeobefabDoorE3
import Derived.Test.YtbppcnhfeobefabDoorEr
set_option linter.unusedVariables false
namespace Go.Proofs.YtbppcnhfeobefabDoor
open Go Go.Vw Go.Proofs
theorem qf1_1 {p : Prop} (h : p := by first | omega | assumption | (simp only [List.length_append, List.length_cons, List.length_nil]; omega) | (simp; done) | (simp; omega) | (simp only [List.length_append, hmac_len]; omega) | (simp only [List.length_append, rmac_len]; omega)) : p := h
theorem qf1_2 {p : Prop} (h : p := by simp only [List.length_map]; first | omega | (simp <;> omega) | (simp at * <;> omega) | (split <;> omega) | (split <;> (first | omega | (simp <;> omega) | (simp at * <;> omega)))) : p := h
theorem qf1_3 {p : Prop} (h : p := by first | (simp; done) | (with_reducible assumption) | omega | (simp <;> omega) | rfl) : p := h
theorem qf1_4 {p : Prop} (h : p := by first | omega | assumption | (simp only [List.length_append, List.length_cons, List.length_nil]; omega) | (simp; done) | (simp; omega)) : p := h
theorem qf1_5 {p : Prop} (h : p := by simp only [List.length_map]; omega) : p := h
theorem qf1_6 {p : Prop} (h : p := by first | rfl | (simp only [mp_all]; done) | (simp only [mp_all]; rfl) | simp only [fl_all (fun _ => rfl)]) : p := h
def b9_num_enc (x : Int) : T × List (Nat × List T) := (ti x, [])
theorem b9_num_m (e : Int) : Meets Tryd.prog 36 [er 105 e] [] [] (ti e) [] := by
 by_cases p : e = 0
 ·subst p
  rw [er_zero]
  refine Meets.enterX (E := E) (N := 10) (enc := b9_num_enc) (x := (0 : Int)) Tryd.func36 Tryd.call36 rfl rfl ?_
  intro Γ k hk
  refine Go.rx 20 {} [] [0] _ [(0, .leaf .nilIface)] [] hk rfl kr .nil ?_
  clear hk; intro k hk
  refine Go.rx 20 { ws := [(0, { id := 10 })] } [] [0, 3] _ [(0, .leaf .nilIface), (3, .addr 10 0)] [(10, [ti 0])] hk rfl kr .nil ?_
  clear hk; intro k hk
  refine Go.rx 20 {} [] [0, 3, 5] _ [(0, .leaf .nilIface), (3, .addr 10 0), (5, tb true)] [(10, [ti 0])] hk rfl kr (.cons (kr : (E.ti 29).k = .iface) .nil) ?_
  clear hk; intro k hk
  refine Go.cond 20 hk rfl (t := true) rfl ?_; clear hk; intro k hk
  refine Go.rx 20 {} [10] [2] _ [(2, ti 0)] [] hk rfl kr .nil ?_
  clear hk; intro k hk
  exact Go.lvx 20 [] _ [ti 0] Tryd.func36 hk rfl kr .nil (T.Le.of_eq rfl) rfl rfl .nil
 ·rw [er_ne p]
  refine Meets.enterX (E := E) (N := 10) (enc := b9_num_enc) (x := (e : Int)) Tryd.func36 Tryd.call36 rfl rfl ?_
  intro Γ k hk
  refine Go.rx 20 {} [] [0] _ [(0, .iface 105 (ti e))] [] hk rfl kr .nil ?_
  clear hk; intro k hk
  refine Go.rx 20 { ws := [(0, { id := 10 })] } [] [0, 3] _ [(0, .iface 105 (ti e)), (3, .addr 10 0)] [(10, [ti 0])] hk rfl kr .nil ?_
  clear hk; intro k hk
  refine Go.rx 20 {} [] [0, 3, 5] _ [(0, .iface 105 (ti e)), (3, .addr 10 0), (5, tb false)] [(10, [ti 0])] hk rfl kr (.cons (kr : (E.ti 29).k = .iface) .nil) ?_
  clear hk; intro k hk
  refine Go.cond 20 hk rfl (t := false) rfl ?_; clear hk; intro k hk
  refine Go.rx 20 { ws := [(2, { call := some { ids := [10], S := [10], R := tb true, H' := [(10, [ti e])] } })] } [] [3, 8] _ [(3, .addr 10 0), (8, tb true)] [(10, [ti e])] hk rfl kr (.cons (meets_errAs 10 e 0) (.cons (rfl : subN (idsL [.iface 105 (ti e), .iface 118 (.addr 10 0)]) [10] = true) (.cons (rfl : subN (idsL [ti 0]) [10] = true) .nil))) ?_
  clear hk; intro k hk
  refine Go.cond 20 hk rfl (t := true) rfl ?_; clear hk; intro k hk
  refine Go.rx 20 {} [10] [2] _ [(2, ti e)] [] hk rfl kr .nil ?_
  clear hk; intro k hk
  exact Go.lvx 20 [] _ [ti e] Tryd.func36 hk rfl kr .nil (T.Le.of_eq rfl) rfl rfl .nil
noncomputable def hkdf_Expand_k1 (n : Int) (o3 : List UInt8) (o4 : List UInt8) : List UInt8 × Int :=
 ((prt o3 0 ((n).toNat)), 0)
noncomputable def hkdf_Expand_l1 (key : List UInt8) (info : List UInt8) (n : Int) : Nat → Int → (List UInt8) → (List UInt8) → Lo (List UInt8 × List UInt8) (List UInt8 × Int)
 | 0, _, _, _ => .brk default
 | ml1 + 1, i1, o1, o2 =>
  bif decide ((o1.length : Int) < n) then
   bnd (sCc ([o2, info, ([u8i i1] : List UInt8)] : List (List UInt8))) fun x1 =>
   hkdf_Expand_l1 key info n ml1 (i1 + 1) (o1 ++ (hmac_Mac key x1)) (hmac_Mac key x1)
  else
   Lo.brk (o1, o2)
noncomputable def hkdf_Expand (key : List UInt8) (info : List UInt8) (n : Int) : List UInt8 × Int :=
 bif (decide (n < 0)) || (decide (n > 8160)) then
  ([], 1)
 else
  Lo.el (hkdf_Expand_l1 key info n ((n - 32 * ((1 : Int) - 1)).toNat + 1) 1 [] []) (fun z : List UInt8 × List UInt8 => hkdf_Expand_k1 n z.1 z.2)
def hkdf_Expand_enc (x : List UInt8 × Int) : T × List (Nat × List T) := (.tup [.sl 1 .shr x.1.length (u8s x.1), er 105 x.2], [])
theorem hkdf_Expand_m (key : List UInt8) (info : List UInt8) (n : Int) (hl : key.length ≤ 2000000000) (hi : info.length ≤ 1000000000) : Meets Tryd.prog 84 [.sl 1 .shr key.length (u8s key), .sl 1 .shr info.length (u8s info), ti n] [] [] (.tup [.sl 1 .shr ((hkdf_Expand key info n).1).length (u8s ((hkdf_Expand key info n).1)), er 105 ((hkdf_Expand key info n).2)]) [] := by
 refine Meets.enterX (E := E) (N := 42) (enc := hkdf_Expand_enc) (x := (hkdf_Expand key info n)) Tryd.func84 Tryd.call84 rfl rfl ?_
 intro Γ k hk
 refine Go.rx 20 {} [] [0, 1, 2] _ [(0, .sl 1 .shr key.length (u8s key)), (1, .sl 1 .shr info.length (u8s info)), (2, ti n)] [] hk rfl kr .nil ?_
 clear hk; intro k hk
 refine Go.regJ 20 [(0, .sl 1 .shr key.length (u8s key)), (1, .sl 1 .shr info.length (u8s info)), (2, ti n), (17, tb ((decide (n < 0)) || (decide (n > 8160))))] [] hk rfl ?_ ?_
 ·clear hk; intro k hk
  refine Go.br 20 (Pf := (PostX Γ hkdf_Expand_enc)) hk rfl rfl ?_ ?_ <;> clear hk <;> intro ct1 k hk
  ·refine Go.rx 20 {} [] [6, 7] _ [(6, .leaf (.slice none 0 0)), (7, er 105 1)] [] hk rfl kr .nil ?_
   clear hk; intro k hk
   exact Go.lvx 20 [] _ [.leaf (.slice none 0 0), er 105 1] Tryd.func84 hk rfl kr .nil (T.Le.tup (.cons (T.Le.nil _ _) (.cons (T.Le.of_eq rfl) .nil))) rfl (by first | rfl | (simp only [hkdf_Expand_enc, T.ids, idsL, er_ids, List.append_nil, List.nil_append]; first | rfl | (rw [mp_ids _ (fun _ => rfl)]; rfl))) .nil
  ·have ct11 : (decide (n < 0)) = false := (Bool.or_eq_false_iff.1 ct1).1
   have ct12 : (decide (n > 8160)) = false := (Bool.or_eq_false_iff.1 ct1).2
   have ct11p := of_decide_eq_false ct11
   have ct12p := of_decide_eq_false ct12
   refine Go.rx 20 {} [] [0, 1, 2, 8, 9] _ [(0, .sl 1 .shr key.length (u8s key)), (1, .sl 1 .shr info.length (u8s info)), (2, ti n), (8, .leaf (.slice none 0 0)), (9, .leaf (.slice none 0 0))] [] hk rfl kr .nil ?_
   clear hk; intro k hk
   refine Go.rx 20 {} [] [0, 1, 2, 8, 9, 10] _ [(0, .sl 1 .shr key.length (u8s key)), (1, .sl 1 .shr info.length (u8s info)), (2, ti n), (8, .leaf (.slice none 0 0)), (9, .leaf (.slice none 0 0)), (10, ti 1)] [] hk rfl kr .nil ?_
   clear hk; intro k hk
   refine Go.phn 8 10 1 rfl (.inl rfl) rfl rfl ?_
   refine Go.phn 9 11 1 rfl (.inl rfl) rfl rfl ?_
   refine Go.loopX 20 hk rfl ?_
   clear hk; intro kl1 kxl1 hl1 hxl1
   have Xl1 : ∀ (o3 : List UInt8) (o4 : List UInt8) (f0l1 : n ≤ (o3.length : Int)), Go E Γ 84 42 [] ((PostX Γ hkdf_Expand_enc) (hkdf_Expand_k1 n o3 o4)) kxl1 (stL [(2, ti n), (8, .ref 10 1 0 o3.length)] [(10, u8s o3), (11, u8s o4)]) := by
    intro o3 o4 f0l1
    refine Go.rx 20 { ws := [(3, { v := some (.ref 10 1 0 ((n).toNat)) })], pg := [10] } [11] [6, 7] _ [(6, .ref 10 1 0 ((n).toNat)), (7, .leaf .nilIface)] [(10, u8s o3)] hxl1 rfl kr (.cons (om : 0 ≤ (0 : Int) ∧ (0 : Int) ≤ n ∧ n ≤ (n : Int) ∧ (n : Int) ≤ ((o3.length : Nat) : Int)) (.cons (by first | rfl | simp | (simp; omega) : T.ref 10 1 (0 + ((0 : Int)).toNat * 1) ((n).toNat - ((0 : Int)).toNat) = .ref 10 1 0 ((n).toNat)) (.cons (mp_mem (i := 11) (g := zU) o3 (fun _ => rfl)) .nil))) ?_
    clear hxl1; intro kxl1 hxl1
    refine Go.frz [] [] 6 10 (u8s (prt o3 0 ((n).toNat))) _ [(6, .dead), (7, .leaf .nilIface)] [] rfl rfl (mp_ids (g := zU) o3 (fun _ => rfl)) qf1_2 (mp_part o3 0 ((n).toNat)) kr .nil ?_
    refine Go.slotEq 6 (.sl 1 .shr (prt o3 0 ((n).toNat)).length (u8s (prt o3 0 ((n).toNat)))) rfl (by rw [prt_len o3 0 ((n).toNat) om]) ?_
    exact Go.lvx 20 [] _ [.sl 1 .shr (prt o3 0 ((n).toNat)).length (u8s (prt o3 0 ((n).toNat))), .leaf .nilIface] Tryd.func84 hxl1 rfl kr .nil (T.Le.tup (.cons (T.Le.of_eq rfl) (.cons (T.Le.of_eq rfl) .nil))) rfl rfl .nil
   have Ll1 : ∀ (ml1 : Nat) (i1 : Int) (o1 : List UInt8) (o2 : List UInt8), (1 ≤ i1) → (i1 ≤ 256) → ((o1.length : Int) = 32 * (i1 - 1)) → (o2.length ≤ 32) → ((n - 32 * (i1 - 1)).toNat < ml1) → Go E Γ 84 42 [] ((PostX Γ hkdf_Expand_enc) (Lo.el (hkdf_Expand_l1 key info n ml1 i1 o1 o2) (fun z : List UInt8 × List UInt8 => hkdf_Expand_k1 n z.1 z.2))) kl1 (stL [(0, .sl 1 .shr key.length (u8s key)), (1, .sl 1 .shr info.length (u8s info)), (2, ti n), (8, .ref 10 1 0 o1.length), (9, .ref 11 1 0 o2.length), (10, ti i1)] [(10, u8s o1), (11, u8s o2)]) := by
    intro ml1
    induction ml1 with
    | zero => intro i1 o1 o2 i0l1 i1l1 i2l1 i3l1 hml1; exact absurd hml1 (Nat.not_lt_zero _)
    | succ ml1 ihl1 =>
     intro i1 o1 o2 i0l1 i1l1 i2l1 i3l1 hml1
     rw [hkdf_Expand_l1]
     refine Go.round hl1 ?_
     intro k hk
     refine Go.rx 20 {} [] [0, 1, 2, 8, 9, 10, 22] _ [(0, .sl 1 .shr key.length (u8s key)), (1, .sl 1 .shr info.length (u8s info)), (2, ti n), (8, .ref 10 1 0 o1.length), (9, .ref 11 1 0 o2.length), (10, ti i1), (22, tb (decide ((o1.length : Int) < n)))] [(10, u8s o1), (11, u8s o2)] hk rfl kr (.cons trivial .nil) ?_
     clear hk; intro k hk
     refine Go.br 20 (Pf := (fun z : Lo (List UInt8 × List UInt8) (List UInt8 × Int) => (PostX Γ hkdf_Expand_enc) (Lo.el z (fun z : List UInt8 × List UInt8 => hkdf_Expand_k1 n z.1 z.2)))) hk rfl rfl ?_ ?_ <;> clear hk <;> intro ct2 k hk
     ·have ct2p := of_decide_eq_true ct2
      refine Go.keepN [0, 1, 2, 8, 9, 10] (L' := [(0, .sl 1 .shr key.length (u8s key)), (1, .sl 1 .shr info.length (u8s info)), (2, ti n), (8, .ref 10 1 0 o1.length), (9, .ref 11 1 0 o2.length), (10, ti i1)]) rfl ?_
      refine Go.frz [] [10] 9 11 (u8s o2) _ [(0, .sl 1 .shr key.length (u8s key)), (1, .sl 1 .shr info.length (u8s info)), (2, ti n), (8, .ref 10 1 0 o1.length), (9, .dead), (10, ti i1)] [(10, u8s o1)] rfl rfl (mp_ids (g := zU) o2 (fun _ => rfl)) qf1_5 (mp_all (g := zU) o2) kr (.cons (mp_mem (i := 11) (g := zU) o1 (fun _ => rfl)) .nil) ?_
      refine Go.rx 20 { ws := [(4, { v := some (t8 (u8i i1)) }), (5, { v := some (.sl 1 .shr ([u8i i1] : List UInt8).length (u8s ([u8i i1] : List UInt8))), id := 12, gv := true }), (6, { id := 13 }), (7, { call := some { ids := [], S := [], M := [13], R := .ref 14 1 0 ((sCc ([o2, info, ([u8i i1] : List UInt8)] : List (List UInt8))).length), H' := [(14, u8s (sCc ([o2, info, ([u8i i1] : List UInt8)] : List (List UInt8))))] } }), (8, { call := some { ids := [], S := [], M := [14], R := .agg (u8s (hmac_Mac key (sCc ([o2, info, ([u8i i1] : List UInt8)] : List (List UInt8))))), H' := [] } }), (9, { id := 15 }), (10, { c := some (u8s (hmac_Mac key (sCc ([o2, info, ([u8i i1] : List UInt8)] : List (List UInt8))))), sym := true })], ps := [33], pg := [10, 14, 15] } [12, 13, 14] [0, 1, 2, 8, 10, 11] _ [(0, .sl 1 .shr key.length (u8s key)), (1, .sl 1 .shr info.length (u8s info)), (2, ti n), (8, .ref 10 1 0 o1.length), (10, ti i1), (11, .addr 15 0)] [(10, u8s o1), (15, u8s (hmac_Mac key (sCc ([o2, info, ([u8i i1] : List UInt8)] : List (List UInt8)))))] hk rfl kr (.cons (cvi_8 i1) (.cons (⟨rfl, Nat.le_of_ble_eq_true rfl⟩ : idsL [t8 (u8i i1)] = [] ∧ 1 * 1 ≤ ([t8 (u8i i1)] : List T).length) (.cons (rfl : T.sl 1 .shr 1 (sub [t8 (u8i i1)] 0 (1 * 1)) = .sl 1 .shr ([u8i i1] : List UInt8).length (u8s ([u8i i1] : List UInt8))) (.cons (Meets.sw [(99, 14)] (Meets.eqA (A := [.sl 1 .brw 3 (sub ([.sl 1 .shr o2.length (u8s o2), .sl 1 .shr info.length (u8s info), .sl 1 .shr ([u8i i1] : List UInt8).length (u8s ([u8i i1] : List UInt8))]) 0 (3 * 1))]) (by first | rfl | (simp only [mp_all]; done) | (simp only [mp_all]; rfl)) (sCc_m (g_slices := .brw) ([o2, info, ([u8i i1] : List UInt8)] : List (List UInt8)) (by first | (simp; done) | (simp <;> omega) | omega) (by refine (cons_le ?_ (cons_le ?_ (cons_le ?_ nil_le))) <;> first | omega | (simp only [List.length_replicate, List.length_cons, List.length_nil, List.length_append]; omega) | (simp <;> omega)))) : Meets Tryd.prog 63 [.sl 1 .brw 3 (sub ([.sl 1 .shr o2.length (u8s o2), .sl 1 .shr info.length (u8s info), .sl 1 .shr ([u8i i1] : List UInt8).length (u8s ([u8i i1] : List UInt8))]) 0 (3 * 1))] [] [] (.ref 14 1 0 ((sCc ([o2, info, ([u8i i1] : List UInt8)] : List (List UInt8))).length)) [(14, u8s (sCc ([o2, info, ([u8i i1] : List UInt8)] : List (List UInt8))))]) (.cons (rfl : idsL ([.sl 1 .shr o2.length (u8s o2), .sl 1 .shr info.length (u8s info), .sl 1 .shr ([u8i i1] : List UInt8).length (u8s ([u8i i1] : List UInt8))]) = []) (.cons (by decide : 0 + 3 * 1 ≤ 3) (.cons (sb : subN (idsL [.sl 1 .brw 3 (sub ([.sl 1 .shr o2.length (u8s o2), .sl 1 .shr info.length (u8s info), .sl 1 .shr ([u8i i1] : List UInt8).length (u8s ([u8i i1] : List UInt8))]) 0 (3 * 1))]) [] = true) (.cons (nb : T.noB (.ref 14 1 0 ((sCc ([o2, info, ([u8i i1] : List UInt8)] : List (List UInt8))).length)) = true) (.cons (mp_noB (g := zU) (sCc ([o2, info, ([u8i i1] : List UInt8)] : List (List UInt8))) (fun _ => rfl)) (.cons (Meets.eqA (A := [.sl 1 .shr key.length (u8s key), .sl 1 .brw ((sCc ([o2, info, ([u8i i1] : List UInt8)] : List (List UInt8))).length) (sub (u8s (sCc ([o2, info, ([u8i i1] : List UInt8)] : List (List UInt8)))) 0 (((sCc ([o2, info, ([u8i i1] : List UInt8)] : List (List UInt8))).length) * 1))]) qf1_6 (hmac_Mac_m (g_b := .brw) key (sCc ([o2, info, ([u8i i1] : List UInt8)] : List (List UInt8))) (by first | omega | (simp only [List.length_append, List.length_cons, List.length_nil]; omega) | (simp; omega) | (simp; done)) (by first | omega | (rw [concat_eq]; simp only [List.flatten_cons, List.flatten_nil, List.append_nil, List.length_append, List.length_cons, List.length_nil]; omega) | (simp; omega)))) (.cons (mp_ids (g := zU) (sCc ([o2, info, ([u8i i1] : List UInt8)] : List (List UInt8))) (fun _ => rfl)) (.cons (qf1_2 : 0 + ((sCc ([o2, info, ([u8i i1] : List UInt8)] : List (List UInt8))).length) * 1 ≤ (u8s (sCc ([o2, info, ([u8i i1] : List UInt8)] : List (List UInt8)))).length) (.cons (sb : subN (idsL [.sl 1 .shr key.length (u8s key), .sl 1 .brw ((sCc ([o2, info, ([u8i i1] : List UInt8)] : List (List UInt8))).length) (sub (u8s (sCc ([o2, info, ([u8i i1] : List UInt8)] : List (List UInt8)))) 0 (((sCc ([o2, info, ([u8i i1] : List UInt8)] : List (List UInt8))).length) * 1))]) [] = true) (.cons (nb : T.noB (.agg (u8s (hmac_Mac key (sCc ([o2, info, ([u8i i1] : List UInt8)] : List (List UInt8)))))) = true) (.cons (mp_scal (hmac_Mac key (sCc ([o2, info, ([u8i i1] : List UInt8)] : List (List UInt8)))) (fun _ => rfl) : scalL (u8s (hmac_Mac key (sCc ([o2, info, ([u8i i1] : List UInt8)] : List (List UInt8))))) = true) (.cons (by rw [List.length_map, (qf1_3 : ((hmac_Mac key (sCc ([o2, info, ([u8i i1] : List UInt8)] : List (List UInt8))))).length = 32)]; decide : (u8s (hmac_Mac key (sCc ([o2, info, ([u8i i1] : List UInt8)] : List (List UInt8))))).length ≤ 32) (.cons (by rw [List.length_map, (qf1_3 : ((hmac_Mac key (sCc ([o2, info, ([u8i i1] : List UInt8)] : List (List UInt8))))).length = 32)]; decide : 32 ≤ (u8s (hmac_Mac key (sCc ([o2, info, ([u8i i1] : List UInt8)] : List (List UInt8))))).length) (.cons (by rw [List.length_map, (qf1_3 : ((hmac_Mac key (sCc ([o2, info, ([u8i i1] : List UInt8)] : List (List UInt8))))).length = 32)]; exact Nat.le_of_ble_eq_true rfl : 0 + (u8s (hmac_Mac key (sCc ([o2, info, ([u8i i1] : List UInt8)] : List (List UInt8))))).length ≤ (z32 : List T).length) (.cons (splice_whole (cs := z32) (v := u8s (hmac_Mac key (sCc ([o2, info, ([u8i i1] : List UInt8)] : List (List UInt8))))) (by rw [List.length_map, (qf1_3 : ((hmac_Mac key (sCc ([o2, info, ([u8i i1] : List UInt8)] : List (List UInt8))))).length = 32)]; rfl)) (.cons (mp_memA (i := 12) (g := zU) (hmac_Mac key (sCc ([o2, info, ([u8i i1] : List UInt8)] : List (List UInt8)))) (fun _ => rfl)) (.cons (mp_mem (i := 12) (g := zU) o1 (fun _ => rfl)) (.cons (mp_mem (i := 12) (g := zU) (sCc ([o2, info, ([u8i i1] : List UInt8)] : List (List UInt8))) (fun _ => rfl)) (.cons (mp_mem (i := 12) (g := zU) (hmac_Mac key (sCc ([o2, info, ([u8i i1] : List UInt8)] : List (List UInt8)))) (fun _ => rfl)) (.cons (mp_memA (i := 13) (g := zU) (hmac_Mac key (sCc ([o2, info, ([u8i i1] : List UInt8)] : List (List UInt8)))) (fun _ => rfl)) (.cons (mp_mem (i := 13) (g := zU) o1 (fun _ => rfl)) (.cons (mp_mem (i := 13) (g := zU) (sCc ([o2, info, ([u8i i1] : List UInt8)] : List (List UInt8))) (fun _ => rfl)) (.cons (mp_mem (i := 13) (g := zU) (hmac_Mac key (sCc ([o2, info, ([u8i i1] : List UInt8)] : List (List UInt8)))) (fun _ => rfl)) (.cons (mp_memA (i := 14) (g := zU) (hmac_Mac key (sCc ([o2, info, ([u8i i1] : List UInt8)] : List (List UInt8)))) (fun _ => rfl)) (.cons (mp_mem (i := 14) (g := zU) o1 (fun _ => rfl)) (.cons (mp_mem (i := 14) (g := zU) (hmac_Mac key (sCc ([o2, info, ([u8i i1] : List UInt8)] : List (List UInt8)))) (fun _ => rfl)) .nil)))))))))))))))))))))))))))))) ?_
      clear hk; intro k hk
      refine Go.bnd (Pf := (fun z : Lo (List UInt8 × List UInt8) (List UInt8 × Int) => (PostX Γ hkdf_Expand_enc) (Lo.el z (fun z : List UInt8 × List UInt8 => hkdf_Expand_k1 n z.1 z.2)))) (v := (sCc ([o2, info, ([u8i i1] : List UInt8)] : List (List UInt8)))) (fun x1 => [(0, .sl 1 .shr key.length (u8s key)), (1, .sl 1 .shr info.length (u8s info)), (2, ti n), (8, .ref 10 1 0 o1.length), (10, ti i1), (11, .addr 15 0)]) (fun x1 => [(10, u8s o1), (15, u8s (hmac_Mac key x1))]) ?_
      intro x1 hx1
      have fx1 := concat_eq ([o2, info, ([u8i i1] : List UInt8)] : List (List UInt8))
      rw [← hx1] at fx1
      have gx1 := congrArg List.length fx1
      simp only [List.flatten_cons, List.flatten_nil, List.append_nil, List.length_append, List.length_cons, List.length_nil] at fx1 gx1
      refine Go.rx 20 { ws := [(0, { v := some (.ref 15 1 0 ((hmac_Mac key x1).length)), sym := true })] } [] [0, 1, 2, 8, 9, 10] _ [(0, .sl 1 .shr key.length (u8s key)), (1, .sl 1 .shr info.length (u8s info)), (2, ti n), (8, .ref 10 1 0 o1.length), (9, .ref 15 1 0 ((hmac_Mac key x1).length)), (10, ti i1)] [(10, u8s o1), (15, u8s (hmac_Mac key x1))] hk rfl kr (.cons (qf1_2 : 0 + 32 * 1 ≤ (u8s (hmac_Mac key x1)).length) (.cons (by decide : 0 ≤ (0 : Int) ∧ (0 : Int) ≤ ((32 : Nat) : Int) ∧ ((32 : Nat) : Int) ≤ ((32 : Nat) : Int) ∧ ((32 : Nat) : Int) ≤ ((32 : Nat) : Int)) (.cons (congrArg (fun q => T.ref 15 1 0 q) (qf1_3 : ((hmac_Mac key x1)).length = 32).symm : T.ref 15 1 (0 + (0 : Int).toNat * 1) ((((32 : Nat) : Int)).toNat - (0 : Int).toNat) = .ref 15 1 0 ((hmac_Mac key x1).length)) .nil))) ?_
      clear hk; intro k hk
      refine Go.rx 20 { ws := [(2, { v := some (.ref 10 1 0 ((o1 ++ (hmac_Mac key x1)).length)), c := some (u8s (o1 ++ (hmac_Mac key x1))), id := 10, sym := true })], pg := [15], fd := some [10] } [] [0, 1, 2, 8, 9, 10] _ [(0, .sl 1 .shr key.length (u8s key)), (1, .sl 1 .shr info.length (u8s info)), (2, ti n), (8, .ref 10 1 0 ((o1 ++ (hmac_Mac key x1)).length)), (9, .ref 15 1 0 ((hmac_Mac key x1).length)), (10, ti i1)] [(15, u8s (hmac_Mac key x1)), (10, u8s (o1 ++ (hmac_Mac key x1)))] hk rfl kr (.cons (qf1_5 : 0 + (hmac_Mac key x1).length * 1 ≤ (u8s (hmac_Mac key x1)).length) (.cons (qf1_5 : 0 + o1.length * 1 ≤ (u8s o1).length) (.cons (by rw [(mp_all (g := zU) (hmac_Mac key x1))]; exact mp_scal (hmac_Mac key x1) (fun _ => rfl) : scalL (sub (u8s (hmac_Mac key x1)) 0 ((hmac_Mac key x1).length * 1)) = true) (.cons (om : (o1.length + (hmac_Mac key x1).length) * 1 ≤ 140737488355328) (.cons (mp_app (g := zU) o1 (hmac_Mac key x1) (mp_all _)) (.cons (mp_mem (i := 10) (g := zU) (o1 ++ (hmac_Mac key x1)) (fun _ => rfl)) (.cons (by first | rfl | (simp; done) | (refine congrArg (fun q => T.ref 10 1 0 q) ?_; simp <;> omega) : T.ref 10 1 0 (o1.length + (hmac_Mac key x1).length) = .ref 10 1 0 ((o1 ++ (hmac_Mac key x1)).length)) (.cons (mp_mem (i := 10) (g := zU) (hmac_Mac key x1) (fun _ => rfl)) .nil)))))))) ?_
      clear hk; intro k hk
      refine Go.rx 20 { ws := [(1, { v := some (ti (i1 + 1)) })] } [] [0, 1, 2, 8, 9, 10] _ [(0, .sl 1 .shr key.length (u8s key)), (1, .sl 1 .shr info.length (u8s info)), (2, ti n), (8, .ref 10 1 0 ((o1 ++ (hmac_Mac key x1)).length)), (9, .ref 15 1 0 ((hmac_Mac key x1).length)), (10, ti (i1 + 1))] [(15, u8s (hmac_Mac key x1)), (10, u8s (o1 ++ (hmac_Mac key x1)))] hk rfl kr (.cons trivial (.cons (iw (i1 + 1) om) .nil)) ?_
      clear hk; intro k hk
      refine Go.sw (L' := [(0, .sl 1 .shr key.length (u8s key)), (1, .sl 1 .shr info.length (u8s info)), (2, ti n), (8, .ref 10 1 0 ((o1 ++ (hmac_Mac key x1)).length)), (9, .ref 11 1 0 ((hmac_Mac key x1).length)), (10, ti (i1 + 1))]) (H' := [(11, u8s (hmac_Mac key x1)), (10, u8s (o1 ++ (hmac_Mac key x1)))]) [(15, 11)] ?_
      refine Go.ord [10, 11] ([(10, u8s (o1 ++ (hmac_Mac key x1))), (11, u8s (hmac_Mac key x1))]) rfl rfl ?_
      exact Go.join 20 hk hl1 rfl (ihl1 (i1 + 1) (o1 ++ (hmac_Mac key x1)) (hmac_Mac key x1) qf1_1 qf1_1 qf1_1 qf1_1 om)
     ·have ct2p := of_decide_eq_false ct2
      refine Go.keepN [2, 8] (L' := [(2, ti n), (8, .ref 10 1 0 o1.length)]) rfl ?_
      exact Go.exitX (Pf := (PostX Γ hkdf_Expand_enc)) (F := fun z : List UInt8 × List UInt8 => hkdf_Expand_k1 n z.1 z.2) (a := (o1, o2)) (Go.join 20 hk hxl1 rfl (Xl1 o1 o2 qf1_1))
   exact Ll1 _ 1 [] [] qf1_1 qf1_1 qf1_1 qf1_1 (Nat.lt_succ_self _)
 ·intro hk J
  rcases Bool.eq_false_or_eq_true (decide (n < 0)) with gd1 | gd1
  ·have gd1p := of_decide_eq_true gd1
   refine Go.rx 20 { ws := [(1, { v := some (tb true) })] } [] [0, 1, 2, 17] _ [(0, .sl 1 .shr key.length (u8s key)), (1, .sl 1 .shr info.length (u8s info)), (2, ti n), (17, tb true)] [] hk rfl kr (.cons trivial (.cons (eb gd1) .nil)) ?_
   intro k' hk'
   refine Go.slotEq 17 (tb ((decide (n < 0)) || (decide (n > 8160)))) rfl (eb (orT gd1).symm) ?_
   exact J k' hk'
  ·have gd1p := of_decide_eq_false gd1
   refine Go.rx 20 { ws := [(1, { v := some (tb false) })] } [] [0, 1, 2, 17] _ [(0, .sl 1 .shr key.length (u8s key)), (1, .sl 1 .shr info.length (u8s info)), (2, ti n), (17, tb (decide (n > 8160)))] [] hk rfl kr (.cons trivial (.cons (eb gd1) (.cons trivial .nil))) ?_
   intro k' hk'
   refine Go.slotEq 17 (tb ((decide (n < 0)) || (decide (n > 8160)))) rfl (eb (orF gd1 rfl).symm) ?_
   exact J k' hk'
theorem hkdf_Expand_l1_gen : True := by have := @hkdf_Expand_l1.eq_1; have := @hkdf_Expand_l1.eq_2; trivial
attribute [irreducible] hkdf_Expand_k1 hkdf_Expand_l1 hkdf_Expand
noncomputable def r7_Expand_k1 (n : Int) (o3 : List UInt8) (o4 : List UInt8) : List UInt8 × Int :=
 ((prt o3 0 ((n).toNat)), 0)
noncomputable def r7_Expand_l1 (key : List UInt8) (info : List UInt8) (n : Int) : Nat → Int → (List UInt8) → (List UInt8) → Lo (List UInt8 × List UInt8) (List UInt8 × Int)
 | 0, _, _, _ => .brk default
 | ml1 + 1, i1, o1, o2 =>
  bif decide (32 * (i1 - 1) < n) then
   bnd (r6_Mac key (o2 ++ info ++ [u8i i1])) fun x1 =>
   r7_Expand_l1 key info n ml1 (i1 + 1) (o1 ++ x1) x1
  else
   Lo.brk (o1, o2)
noncomputable def r7_Expand (key : List UInt8) (info : List UInt8) (n : Int) : List UInt8 × Int :=
 bif (decide (n < 0)) || (decide (n > 8160)) then
  ([], 1)
 else
  Lo.el (r7_Expand_l1 key info n ((n - 32 * ((1 : Int) - 1)).toNat + 1) 1 [] []) (fun z : List UInt8 × List UInt8 => r7_Expand_k1 n z.1 z.2)
def r7_Expand_enc (x : List UInt8 × Int) : T × List (Nat × List T) := (.tup [.sl 1 .shr x.1.length (u8s x.1), ti x.2], [])
theorem r7_Expand_m {g_key : Tag} {g_info : Tag} (key : List UInt8) (info : List UInt8) (n : Int) (hl : key.length ≤ 1000000000) (hi : info.length ≤ 800000000) : Meets Tryd.prog 85 [.sl 1 g_key key.length (u8s key), .sl 1 g_info info.length (u8s info), ti n] [] [] (.tup [.sl 1 .shr ((r7_Expand key info n).1).length (u8s ((r7_Expand key info n).1)), ti ((r7_Expand key info n).2)]) [] := by
 refine Meets.enterX (E := E) (N := 45) (enc := r7_Expand_enc) (x := (r7_Expand key info n)) Tryd.func85 Tryd.call85 rfl rfl ?_
 intro Γ k hk
 refine Go.rx 20 {} [] [0, 1, 2] _ [(0, .sl 1 g_key key.length (u8s key)), (1, .sl 1 g_info info.length (u8s info)), (2, ti n)] [] hk rfl kr .nil ?_
 clear hk; intro k hk
 refine Go.regJ 20 [(0, .sl 1 g_key key.length (u8s key)), (1, .sl 1 g_info info.length (u8s info)), (2, ti n), (18, tb ((decide (n < 0)) || (decide (n > 8160))))] [] hk rfl ?_ ?_
 ·clear hk; intro k hk
  refine Go.br 20 (Pf := (PostX Γ r7_Expand_enc)) hk rfl rfl ?_ ?_ <;> clear hk <;> intro ct1 k hk
  ·refine Go.rx 20 {} [] [6, 7] _ [(6, .leaf (.slice none 0 0)), (7, ti 1)] [] hk rfl kr .nil ?_
   clear hk; intro k hk
   exact Go.lvx 20 [] _ [.leaf (.slice none 0 0), ti 1] Tryd.func85 hk rfl kr .nil (T.Le.tup (.cons (T.Le.nil _ _) (.cons (T.Le.of_eq rfl) .nil))) rfl rfl .nil
  ·have ct11 : (decide (n < 0)) = false := (Bool.or_eq_false_iff.1 ct1).1
   have ct12 : (decide (n > 8160)) = false := (Bool.or_eq_false_iff.1 ct1).2
   have ct11p := of_decide_eq_false ct11
   have ct12p := of_decide_eq_false ct12
   refine Go.rx 20 {} [] [0, 1, 2, 8, 9] _ [(0, .sl 1 g_key key.length (u8s key)), (1, .sl 1 g_info info.length (u8s info)), (2, ti n), (8, .leaf (.slice none 0 0)), (9, .leaf (.slice none 0 0))] [] hk rfl kr .nil ?_
   clear hk; intro k hk
   refine Go.rx 20 {} [] [0, 1, 2, 8, 9, 10] _ [(0, .sl 1 g_key key.length (u8s key)), (1, .sl 1 g_info info.length (u8s info)), (2, ti n), (8, .leaf (.slice none 0 0)), (9, .leaf (.slice none 0 0)), (10, ti 1)] [] hk rfl kr .nil ?_
   clear hk; intro k hk
   refine Go.phn 8 10 1 rfl (.inl rfl) rfl rfl ?_
   refine Go.phn 9 11 1 rfl (.inl rfl) rfl rfl ?_
   refine Go.loopX 20 hk rfl ?_
   clear hk; intro kl1 kxl1 hl1 hxl1
   have Xl1 : ∀ (o3 : List UInt8) (o4 : List UInt8) (f0l1 : n ≤ (o3.length : Int)), Go E Γ 85 45 [] ((PostX Γ r7_Expand_enc) (r7_Expand_k1 n o3 o4)) kxl1 (stL [(2, ti n), (8, .ref 10 1 0 o3.length)] [(10, u8s o3), (11, u8s o4)]) := by
    intro o3 o4 f0l1
    refine Go.rx 20 { ws := [(2, { v := some (.ref 10 1 0 ((n).toNat)) })], pg := [10] } [11] [6, 7] _ [(6, .ref 10 1 0 ((n).toNat)), (7, ti 0)] [(10, u8s o3)] hxl1 rfl kr (.cons (om : 0 ≤ (0 : Int) ∧ (0 : Int) ≤ n ∧ n ≤ ((o3.length : Nat) : Int) ∧ ((o3.length : Nat) : Int) ≤ ((o3.length : Nat) : Int)) (.cons (by first | rfl | simp | (simp; omega) : T.ref 10 1 (0 + ((0 : Int)).toNat * 1) ((n).toNat - ((0 : Int)).toNat) = .ref 10 1 0 ((n).toNat)) (.cons (mp_mem (i := 11) (g := zU) o3 (fun _ => rfl)) .nil))) ?_
    clear hxl1; intro kxl1 hxl1
    refine Go.frz [] [] 6 10 (u8s (prt o3 0 ((n).toNat))) _ [(6, .dead), (7, ti 0)] [] rfl rfl (mp_ids (g := zU) o3 (fun _ => rfl)) qf1_2 (mp_part o3 0 ((n).toNat)) kr .nil ?_
    refine Go.slotEq 6 (.sl 1 .shr (prt o3 0 ((n).toNat)).length (u8s (prt o3 0 ((n).toNat)))) rfl (by rw [prt_len o3 0 ((n).toNat) om]) ?_
    exact Go.lvx 20 [] _ [.sl 1 .shr (prt o3 0 ((n).toNat)).length (u8s (prt o3 0 ((n).toNat))), ti 0] Tryd.func85 hxl1 rfl kr .nil (T.Le.tup (.cons (T.Le.of_eq rfl) (.cons (T.Le.of_eq rfl) .nil))) rfl rfl .nil
   have Ll1 : ∀ (ml1 : Nat) (i1 : Int) (o1 : List UInt8) (o2 : List UInt8), (1 ≤ i1) → (i1 ≤ 256) → ((o1.length : Int) = 32 * (i1 - 1)) → (o2.length ≤ 32) → ((n - 32 * (i1 - 1)).toNat < ml1) → Go E Γ 85 45 [] ((PostX Γ r7_Expand_enc) (Lo.el (r7_Expand_l1 key info n ml1 i1 o1 o2) (fun z : List UInt8 × List UInt8 => r7_Expand_k1 n z.1 z.2))) kl1 (stL [(0, .sl 1 g_key key.length (u8s key)), (1, .sl 1 g_info info.length (u8s info)), (2, ti n), (8, .ref 10 1 0 o1.length), (9, .ref 11 1 0 o2.length), (10, ti i1)] [(10, u8s o1), (11, u8s o2)]) := by
    intro ml1
    induction ml1 with
    | zero => intro i1 o1 o2 i0l1 i1l1 i2l1 i3l1 hml1; exact absurd hml1 (Nat.not_lt_zero _)
    | succ ml1 ihl1 =>
     intro i1 o1 o2 i0l1 i1l1 i2l1 i3l1 hml1
     rw [r7_Expand_l1]
     refine Go.round hl1 ?_
     intro k hk
     refine Go.rx 20 { ws := [(1, { v := some (ti (i1 - 1)) }), (2, { v := some (ti (32 * (i1 - 1))) })] } [] [0, 1, 2, 8, 9, 10, 23] _ [(0, .sl 1 g_key key.length (u8s key)), (1, .sl 1 g_info info.length (u8s info)), (2, ti n), (8, .ref 10 1 0 o1.length), (9, .ref 11 1 0 o2.length), (10, ti i1), (23, tb (decide (32 * (i1 - 1) < n)))] [(10, u8s o1), (11, u8s o2)] hk rfl kr (.cons trivial (.cons (iw (i1 - 1) om) (.cons trivial (.cons (iw (32 * (i1 - 1)) om) (.cons trivial .nil))))) ?_
     clear hk; intro k hk
     refine Go.br 20 (Pf := (fun z : Lo (List UInt8 × List UInt8) (List UInt8 × Int) => (PostX Γ r7_Expand_enc) (Lo.el z (fun z : List UInt8 × List UInt8 => r7_Expand_k1 n z.1 z.2)))) hk rfl rfl ?_ ?_ <;> clear hk <;> intro ct2 k hk
     ·have ct2p := of_decide_eq_true ct2
      refine Go.rx 20 {} [] [0, 1, 2, 8, 9, 10, 11] _ [(0, .sl 1 g_key key.length (u8s key)), (1, .sl 1 g_info info.length (u8s info)), (2, ti n), (8, .ref 10 1 0 o1.length), (9, .ref 11 1 0 o2.length), (10, ti i1), (11, .leaf (.slice none 0 0))] [(10, u8s o1), (11, u8s o2)] hk rfl kr .nil ?_
      clear hk; intro k hk
      refine Go.rx 20 { ws := [(2, { c := some (u8s o2), id := 12, sym := true }), (4, { v := some (.ref 12 1 0 ((o2 ++ info).length)), c := some (u8s (o2 ++ info)), id := 12, sym := true }), (6, { v := some (t8 (u8i i1)) }), (7, { id := 13 }), (8, { v := some (.ref 12 1 0 ((o2 ++ info ++ [u8i i1]).length)), c := some (u8s (o2 ++ info ++ [u8i i1])), id := 12, sym := true })], pg := [10, 11, 12], fd := some [12] } [11, 13] [0, 1, 2, 8, 10, 11] _ [(0, .sl 1 g_key key.length (u8s key)), (1, .sl 1 g_info info.length (u8s info)), (2, ti n), (8, .ref 10 1 0 o1.length), (10, ti i1), (11, .ref 12 1 0 ((o2 ++ info ++ [u8i i1]).length))] [(10, u8s o1), (12, u8s (o2 ++ info ++ [u8i i1]))] hk rfl kr (.cons (qf1_5 : 0 + o2.length * 1 ≤ (u8s o2).length) (.cons (om : o2.length * 1 ≤ 140737488355328) (.cons (mp_all (g := zU) o2) (.cons (qf1_5 : 0 + o2.length * 1 ≤ (u8s o2).length) (.cons (mp_scal info (fun _ => rfl) : scalL (u8s info) = true) (.cons (om : (o2.length + info.length) * 1 ≤ 140737488355328) (.cons (mp_app (g := zU) (o2) info rfl) (.cons (mp_mem (i := 12) (g := zU) (o2 ++ info) (fun _ => rfl)) (.cons (by first | rfl | (simp; done) | (refine congrArg (fun q => T.ref 12 1 0 q) ?_; simp <;> omega) : T.ref 12 1 0 (o2.length + info.length) = .ref 12 1 0 ((o2 ++ info).length)) (.cons (mp_mem (i := 12) (g := zU) o1 (fun _ => rfl)) (.cons (mp_mem (i := 12) (g := zU) o2 (fun _ => rfl)) (.cons (cvi_8 i1) (.cons (Nat.le_of_ble_eq_true rfl : 0 + 1 * 1 ≤ ([t8 (u8i i1)] : List T).length) (.cons (qf1_5 : 0 + (o2 ++ info).length * 1 ≤ (u8s (o2 ++ info)).length) (.cons (rfl : scalL [t8 (u8i i1)] = true) (.cons (om : ((o2 ++ info).length + 1) * 1 ≤ 140737488355328) (.cons (mp_app (g := zU) (o2 ++ info) [u8i i1] rfl) (.cons (mp_mem (i := 12) (g := zU) (o2 ++ info ++ [u8i i1]) (fun _ => rfl)) (.cons (by first | rfl | (simp; done) | (refine congrArg (fun q => T.ref 12 1 0 q) ?_; simp <;> omega) : T.ref 12 1 0 ((o2 ++ info).length + 1) = .ref 12 1 0 ((o2 ++ info ++ [u8i i1]).length)) (.cons (mp_mem (i := 12) (g := zU) o1 (fun _ => rfl)) (.cons (mp_mem (i := 12) (g := zU) o2 (fun _ => rfl)) (.cons (mp_mem (i := 11) (g := zU) o1 (fun _ => rfl)) (.cons (mp_mem (i := 11) (g := zU) (o2 ++ info ++ [u8i i1]) (fun _ => rfl)) (.cons (mp_mem (i := 13) (g := zU) o1 (fun _ => rfl)) (.cons (mp_mem (i := 13) (g := zU) (o2 ++ info ++ [u8i i1]) (fun _ => rfl)) .nil))))))))))))))))))))))))) ?_
      clear hk; intro k hk
      refine Go.rx 20 { ws := [(2, { call := some { ids := [], S := [], M := [12], R := .agg (u8s (r6_Mac key (o2 ++ info ++ [u8i i1]))), H' := [] } }), (3, { id := 14 }), (4, { c := some (u8s (r6_Mac key (o2 ++ info ++ [u8i i1]))), sym := true })], ps := [37], pg := [10, 14] } [12] [0, 1, 2, 8, 10, 12] _ [(0, .sl 1 g_key key.length (u8s key)), (1, .sl 1 g_info info.length (u8s info)), (2, ti n), (8, .ref 10 1 0 o1.length), (10, ti i1), (12, .addr 14 0)] [(10, u8s o1), (14, u8s (r6_Mac key (o2 ++ info ++ [u8i i1])))] hk rfl kr (.cons (Meets.eqA (A := [.sl 1 g_key key.length (u8s key), .sl 1 .brw ((o2 ++ info ++ [u8i i1]).length) (sub (u8s (o2 ++ info ++ [u8i i1])) 0 (((o2 ++ info ++ [u8i i1]).length) * 1))]) qf1_6 (r6_Mac_m (g_key := g_key) (g_b := .brw) key (o2 ++ info ++ [u8i i1]) qf1_4 qf1_4)) (.cons (mp_ids (g := zU) (o2 ++ info ++ [u8i i1]) (fun _ => rfl)) (.cons (qf1_2 : 0 + ((o2 ++ info ++ [u8i i1]).length) * 1 ≤ (u8s (o2 ++ info ++ [u8i i1])).length) (.cons (sb : subN (idsL [.sl 1 g_key key.length (u8s key), .sl 1 .brw ((o2 ++ info ++ [u8i i1]).length) (sub (u8s (o2 ++ info ++ [u8i i1])) 0 (((o2 ++ info ++ [u8i i1]).length) * 1))]) [] = true) (.cons (nb : T.noB (.agg (u8s (r6_Mac key (o2 ++ info ++ [u8i i1])))) = true) (.cons (mp_scal (r6_Mac key (o2 ++ info ++ [u8i i1])) (fun _ => rfl) : scalL (u8s (r6_Mac key (o2 ++ info ++ [u8i i1]))) = true) (.cons (by rw [List.length_map, (qf1_3 : ((r6_Mac key (o2 ++ info ++ [u8i i1]))).length = 32)]; decide : (u8s (r6_Mac key (o2 ++ info ++ [u8i i1]))).length ≤ 32) (.cons (by rw [List.length_map, (qf1_3 : ((r6_Mac key (o2 ++ info ++ [u8i i1]))).length = 32)]; decide : 32 ≤ (u8s (r6_Mac key (o2 ++ info ++ [u8i i1]))).length) (.cons (by rw [List.length_map, (qf1_3 : ((r6_Mac key (o2 ++ info ++ [u8i i1]))).length = 32)]; exact Nat.le_of_ble_eq_true rfl : 0 + (u8s (r6_Mac key (o2 ++ info ++ [u8i i1]))).length ≤ (z32 : List T).length) (.cons (splice_whole (cs := z32) (v := u8s (r6_Mac key (o2 ++ info ++ [u8i i1]))) (by rw [List.length_map, (qf1_3 : ((r6_Mac key (o2 ++ info ++ [u8i i1]))).length = 32)]; rfl)) (.cons (mp_memA (i := 12) (g := zU) (r6_Mac key (o2 ++ info ++ [u8i i1])) (fun _ => rfl)) (.cons (mp_mem (i := 12) (g := zU) o1 (fun _ => rfl)) (.cons (mp_mem (i := 12) (g := zU) (r6_Mac key (o2 ++ info ++ [u8i i1])) (fun _ => rfl)) .nil))))))))))))) ?_
      clear hk; intro k hk
      refine Go.bnd (Pf := (fun z : Lo (List UInt8 × List UInt8) (List UInt8 × Int) => (PostX Γ r7_Expand_enc) (Lo.el z (fun z : List UInt8 × List UInt8 => r7_Expand_k1 n z.1 z.2)))) (v := (r6_Mac key (o2 ++ info ++ [u8i i1]))) (fun x1 => [(0, .sl 1 g_key key.length (u8s key)), (1, .sl 1 g_info info.length (u8s info)), (2, ti n), (8, .ref 10 1 0 o1.length), (10, ti i1), (12, .addr 14 0)]) (fun x1 => [(10, u8s o1), (14, u8s x1)]) ?_
      intro x1 hx1
      have fx1 := rmac_len key (o2 ++ info ++ [u8i i1])
      rw [← hx1] at fx1
      refine Go.rx 20 { ws := [(0, { v := some (.ref 14 1 0 x1.length), sym := true })] } [] [0, 1, 2, 8, 9, 10, 12] _ [(0, .sl 1 g_key key.length (u8s key)), (1, .sl 1 g_info info.length (u8s info)), (2, ti n), (8, .ref 10 1 0 o1.length), (9, .ref 14 1 0 x1.length), (10, ti i1), (12, .addr 14 0)] [(10, u8s o1), (14, u8s x1)] hk rfl kr (.cons (qf1_2 : 0 + 32 * 1 ≤ (u8s x1).length) (.cons (by decide : 0 ≤ (0 : Int) ∧ (0 : Int) ≤ ((32 : Nat) : Int) ∧ ((32 : Nat) : Int) ≤ ((32 : Nat) : Int) ∧ ((32 : Nat) : Int) ≤ ((32 : Nat) : Int)) (.cons (congrArg (fun q => T.ref 14 1 0 q) (qf1_3 : (x1).length = 32).symm : T.ref 14 1 (0 + (0 : Int).toNat * 1) ((((32 : Nat) : Int)).toNat - (0 : Int).toNat) = .ref 14 1 0 x1.length) .nil))) ?_
      clear hk; intro k hk
      refine Go.rx 20 { ws := [(1, { v := some (.ref 14 1 0 x1.length), sym := true }), (2, { v := some (.ref 10 1 0 ((o1 ++ x1).length)), c := some (u8s (o1 ++ x1)), id := 10, sym := true })], pg := [14], fd := some [10] } [] [0, 1, 2, 8, 9, 10] _ [(0, .sl 1 g_key key.length (u8s key)), (1, .sl 1 g_info info.length (u8s info)), (2, ti n), (8, .ref 10 1 0 ((o1 ++ x1).length)), (9, .ref 14 1 0 x1.length), (10, ti i1)] [(14, u8s x1), (10, u8s (o1 ++ x1))] hk rfl kr (.cons (qf1_2 : 0 + 32 * 1 ≤ (u8s x1).length) (.cons (by decide : 0 ≤ (0 : Int) ∧ (0 : Int) ≤ ((32 : Nat) : Int) ∧ ((32 : Nat) : Int) ≤ ((32 : Nat) : Int) ∧ ((32 : Nat) : Int) ≤ ((32 : Nat) : Int)) (.cons (congrArg (fun q => T.ref 14 1 0 q) (qf1_3 : (x1).length = 32).symm : T.ref 14 1 (0 + (0 : Int).toNat * 1) ((((32 : Nat) : Int)).toNat - (0 : Int).toNat) = .ref 14 1 0 x1.length) (.cons (qf1_5 : 0 + x1.length * 1 ≤ (u8s x1).length) (.cons (qf1_5 : 0 + o1.length * 1 ≤ (u8s o1).length) (.cons (by rw [(mp_all (g := zU) x1)]; exact mp_scal x1 (fun _ => rfl) : scalL (sub (u8s x1) 0 (x1.length * 1)) = true) (.cons (om : (o1.length + x1.length) * 1 ≤ 140737488355328) (.cons (mp_app (g := zU) o1 x1 (mp_all _)) (.cons (mp_mem (i := 10) (g := zU) (o1 ++ x1) (fun _ => rfl)) (.cons (by first | rfl | (simp; done) | (refine congrArg (fun q => T.ref 10 1 0 q) ?_; simp <;> omega) : T.ref 10 1 0 (o1.length + x1.length) = .ref 10 1 0 ((o1 ++ x1).length)) (.cons (mp_mem (i := 10) (g := zU) x1 (fun _ => rfl)) .nil))))))))))) ?_
      clear hk; intro k hk
      refine Go.rx 20 { ws := [(1, { v := some (ti (i1 + 1)) })] } [] [0, 1, 2, 8, 9, 10] _ [(0, .sl 1 g_key key.length (u8s key)), (1, .sl 1 g_info info.length (u8s info)), (2, ti n), (8, .ref 10 1 0 ((o1 ++ x1).length)), (9, .ref 14 1 0 x1.length), (10, ti (i1 + 1))] [(14, u8s x1), (10, u8s (o1 ++ x1))] hk rfl kr (.cons trivial (.cons (iw (i1 + 1) om) .nil)) ?_
      clear hk; intro k hk
      refine Go.sw (L' := [(0, .sl 1 g_key key.length (u8s key)), (1, .sl 1 g_info info.length (u8s info)), (2, ti n), (8, .ref 10 1 0 ((o1 ++ x1).length)), (9, .ref 11 1 0 x1.length), (10, ti (i1 + 1))]) (H' := [(11, u8s x1), (10, u8s (o1 ++ x1))]) [(14, 11)] ?_
      refine Go.ord [10, 11] ([(10, u8s (o1 ++ x1)), (11, u8s x1)]) rfl rfl ?_
      exact Go.join 20 hk hl1 rfl (ihl1 (i1 + 1) (o1 ++ x1) x1 qf1_1 qf1_1 qf1_1 qf1_1 om)
     ·have ct2p := of_decide_eq_false ct2
      refine Go.keepN [2, 8] (L' := [(2, ti n), (8, .ref 10 1 0 o1.length)]) rfl ?_
      exact Go.exitX (Pf := (PostX Γ r7_Expand_enc)) (F := fun z : List UInt8 × List UInt8 => r7_Expand_k1 n z.1 z.2) (a := (o1, o2)) (Go.join 20 hk hxl1 rfl (Xl1 o1 o2 qf1_1))
   exact Ll1 _ 1 [] [] qf1_1 qf1_1 qf1_1 qf1_1 (Nat.lt_succ_self _)
 ·intro hk J
  rcases Bool.eq_false_or_eq_true (decide (n < 0)) with gd1 | gd1
  ·have gd1p := of_decide_eq_true gd1
   refine Go.rx 20 { ws := [(1, { v := some (tb true) })] } [] [0, 1, 2, 18] _ [(0, .sl 1 g_key key.length (u8s key)), (1, .sl 1 g_info info.length (u8s info)), (2, ti n), (18, tb true)] [] hk rfl kr (.cons trivial (.cons (eb gd1) .nil)) ?_
   intro k' hk'
   refine Go.slotEq 18 (tb ((decide (n < 0)) || (decide (n > 8160)))) rfl (eb (orT gd1).symm) ?_
   exact J k' hk'
  ·have gd1p := of_decide_eq_false gd1
   refine Go.rx 20 { ws := [(1, { v := some (tb false) })] } [] [0, 1, 2, 18] _ [(0, .sl 1 g_key key.length (u8s key)), (1, .sl 1 g_info info.length (u8s info)), (2, ti n), (18, tb (decide (n > 8160)))] [] hk rfl kr (.cons trivial (.cons (eb gd1) (.cons trivial .nil))) ?_
   intro k' hk'
   refine Go.slotEq 18 (tb ((decide (n < 0)) || (decide (n > 8160)))) rfl (eb (orF gd1 rfl).symm) ?_
   exact J k' hk'
theorem r7_Expand_l1_gen : True := by have := @r7_Expand_l1.eq_1; have := @r7_Expand_l1.eq_2; trivial
attribute [irreducible] r7_Expand_k1 r7_Expand_l1 r7_Expand
noncomputable def hkdf_Key (key : List UInt8) (use : List UInt8) (n : UInt32) : List UInt8 × Int :=
 bif ((key.length : Int) != 32) || ((use == []) || (decide ((use.length : Int) > 32))) then
  ([], 1)
 else
  bnd (sCc ([use, ([0, (shr32 n 24).toUInt8, (shr32 n 16).toUInt8, (shr32 n 8).toUInt8, n.toUInt8] : List UInt8)] : List (List UInt8))) fun x1 =>
  ((hkdf_Expand key x1 32).1, (hkdf_Expand key x1 32).2)
def hkdf_Key_enc (x : List UInt8 × Int) : T × List (Nat × List T) := (.tup [.sl 1 .shr x.1.length (u8s x.1), er 105 x.2], [])
theorem hkdf_Key_m (key : List UInt8) (use : List UInt8) (n : UInt32) : Meets Tryd.prog 68 [.sl 1 .shr key.length (u8s key), ts use, t32 n] [] [] (.tup [.sl 1 .shr ((hkdf_Key key use n).1).length (u8s ((hkdf_Key key use n).1)), er 105 ((hkdf_Key key use n).2)]) [] := by
 refine Meets.enterX (E := E) (N := 41) (enc := hkdf_Key_enc) (x := (hkdf_Key key use n)) Tryd.func68 Tryd.call68 rfl rfl ?_
 intro Γ k hk
 refine Go.rx 20 {} [] [0, 1, 2] _ [(0, .sl 1 .shr key.length (u8s key)), (1, ts use), (2, t32 n)] [] hk rfl kr .nil ?_
 clear hk; intro k hk
 refine Go.regJ 20 [(0, .sl 1 .shr key.length (u8s key)), (1, ts use), (2, t32 n), (19, tb (((key.length : Int) != 32) || ((use == []) || (decide ((use.length : Int) > 32)))))] [] hk rfl ?_ ?_
 ·clear hk; intro k hk
  refine Go.br 20 (Pf := (PostX Γ hkdf_Key_enc)) hk rfl rfl ?_ ?_ <;> clear hk <;> intro ct1 k hk
  ·refine Go.rx 20 {} [] [6, 7] _ [(6, .leaf (.slice none 0 0)), (7, er 105 1)] [] hk rfl kr .nil ?_
   clear hk; intro k hk
   exact Go.lvx 20 [] _ [.leaf (.slice none 0 0), er 105 1] Tryd.func68 hk rfl kr .nil (T.Le.tup (.cons (T.Le.nil _ _) (.cons (T.Le.of_eq rfl) .nil))) rfl (by first | rfl | (simp only [hkdf_Key_enc, T.ids, idsL, er_ids, List.append_nil, List.nil_append]; first | rfl | (rw [mp_ids _ (fun _ => rfl)]; rfl))) .nil
  ·have ct11 : ((key.length : Int) != 32) = false := (Bool.or_eq_false_iff.1 ct1).1
   have ct12 : ((use == []) || (decide ((use.length : Int) > 32))) = false := (Bool.or_eq_false_iff.1 ct1).2
   have ct11p := neIf ct11
   have ct121 : (use == []) = false := (Bool.or_eq_false_iff.1 ct12).1
   have ct122 : (decide ((use.length : Int) > 32)) = false := (Bool.or_eq_false_iff.1 ct12).2
   have ct122p := of_decide_eq_false ct122
   refine Go.rx 20 { ws := [(2, { v := some (.sl 1 .shr use.length (u8s use)), c := some (u8s use), id := 10, gv := true }), (4, { v := some (t32 (shr32 n 24)) }), (5, { v := some (t8 ((shr32 n 24).toUInt8)) }), (7, { v := some (t32 (shr32 n 16)) }), (8, { v := some (t8 ((shr32 n 16).toUInt8)) }), (10, { v := some (t32 (shr32 n 8)) }), (11, { v := some (t8 ((shr32 n 8).toUInt8)) }), (13, { v := some (t8 n.toUInt8) }), (14, { v := some (.sl 1 .shr ([0, (shr32 n 24).toUInt8, (shr32 n 16).toUInt8, (shr32 n 8).toUInt8, n.toUInt8] : List UInt8).length (u8s ([0, (shr32 n 24).toUInt8, (shr32 n 16).toUInt8, (shr32 n 8).toUInt8, n.toUInt8] : List UInt8))), id := 11, gv := true }), (15, { id := 12 }), (16, { call := some { ids := [], S := [], M := [12], R := .sl 1 .shr (sCc ([use, ([0, (shr32 n 24).toUInt8, (shr32 n 16).toUInt8, (shr32 n 8).toUInt8, n.toUInt8] : List UInt8)] : List (List UInt8))).length (u8s (sCc ([use, ([0, (shr32 n 24).toUInt8, (shr32 n 16).toUInt8, (shr32 n 8).toUInt8, n.toUInt8] : List UInt8)] : List (List UInt8)))), H' := [] } }), (17, { call := some { ids := [], S := [], M := [], R := .tup [.sl 1 .shr ((hkdf_Expand key (sCc ([use, ([0, (shr32 n 24).toUInt8, (shr32 n 16).toUInt8, (shr32 n 8).toUInt8, n.toUInt8] : List UInt8)] : List (List UInt8))) 32).1).length (u8s ((hkdf_Expand key (sCc ([use, ([0, (shr32 n 24).toUInt8, (shr32 n 16).toUInt8, (shr32 n 8).toUInt8, n.toUInt8] : List UInt8)] : List (List UInt8))) 32).1)), er 105 ((hkdf_Expand key (sCc ([use, ([0, (shr32 n 24).toUInt8, (shr32 n 16).toUInt8, (shr32 n 8).toUInt8, n.toUInt8] : List UInt8)] : List (List UInt8))) 32).2)], H' := [] } })], ps := [7, 38, 40] } [10, 11, 12] [6, 7] _ [(6, .sl 1 .shr ((hkdf_Expand key (sCc ([use, ([0, (shr32 n 24).toUInt8, (shr32 n 16).toUInt8, (shr32 n 8).toUInt8, n.toUInt8] : List UInt8)] : List (List UInt8))) 32).1).length (u8s ((hkdf_Expand key (sCc ([use, ([0, (shr32 n 24).toUInt8, (shr32 n 16).toUInt8, (shr32 n 8).toUInt8, n.toUInt8] : List UInt8)] : List (List UInt8))) 32).1))), (7, er 105 ((hkdf_Expand key (sCc ([use, ([0, (shr32 n 24).toUInt8, (shr32 n 16).toUInt8, (shr32 n 8).toUInt8, n.toUInt8] : List UInt8)] : List (List UInt8))) 32).2))] [] hk rfl kr (.cons (bytesOf_sOf use) (.cons (giveOk (g := zU) (n := (sOf use).size) use (sOf_size _) (fun _ => rfl)) (.cons (giveEq (g := zU) (n := (sOf use).size) use (sOf_size _)) (.cons (by decide : 0 ≤ (24 : Int)) (.cons (shrT32 n 24) (.cons (cv32_8 (shr32 n 24)) (.cons (by decide : 0 ≤ (16 : Int)) (.cons (shrT32 n 16) (.cons (cv32_8 (shr32 n 16)) (.cons (by decide : 0 ≤ (8 : Int)) (.cons (shrT32 n 8) (.cons (cv32_8 (shr32 n 8)) (.cons (cv32_8 n) (.cons (⟨rfl, Nat.le_of_ble_eq_true rfl⟩ : idsL [t8 0, t8 ((shr32 n 24).toUInt8), t8 ((shr32 n 16).toUInt8), t8 ((shr32 n 8).toUInt8), t8 n.toUInt8] = [] ∧ 5 * 1 ≤ ([t8 0, t8 ((shr32 n 24).toUInt8), t8 ((shr32 n 16).toUInt8), t8 ((shr32 n 8).toUInt8), t8 n.toUInt8] : List T).length) (.cons (rfl : T.sl 1 .shr 5 (sub [t8 0, t8 ((shr32 n 24).toUInt8), t8 ((shr32 n 16).toUInt8), t8 ((shr32 n 8).toUInt8), t8 n.toUInt8] 0 (5 * 1)) = .sl 1 .shr ([0, (shr32 n 24).toUInt8, (shr32 n 16).toUInt8, (shr32 n 8).toUInt8, n.toUInt8] : List UInt8).length (u8s ([0, (shr32 n 24).toUInt8, (shr32 n 16).toUInt8, (shr32 n 8).toUInt8, n.toUInt8] : List UInt8))) (.cons (Meets.frz (Meets.swp [(99, 13)] (Meets.eqA (A := [.sl 1 .brw 2 (sub ([.sl 1 .shr use.length (u8s use), .sl 1 .shr ([0, (shr32 n 24).toUInt8, (shr32 n 16).toUInt8, (shr32 n 8).toUInt8, n.toUInt8] : List UInt8).length (u8s ([0, (shr32 n 24).toUInt8, (shr32 n 16).toUInt8, (shr32 n 8).toUInt8, n.toUInt8] : List UInt8))]) 0 (2 * 1))]) (by first | rfl | (simp only [mp_all]; done) | (simp only [mp_all]; rfl)) (sCc_m (g_slices := .brw) ([use, ([0, (shr32 n 24).toUInt8, (shr32 n 16).toUInt8, (shr32 n 8).toUInt8, n.toUInt8] : List UInt8)] : List (List UInt8)) (by first | (simp; done) | (simp <;> omega) | omega) (by refine (cons_le ?_ (cons_le ?_ nil_le)) <;> first | omega | (simp only [List.length_replicate, List.length_cons, List.length_nil, List.length_append]; omega) | (simp <;> omega)))) (.cons (.same sb) .nil) .nil rfl (.ref rfl 1 0 ((sCc ([use, ([0, (shr32 n 24).toUInt8, (shr32 n 16).toUInt8, (shr32 n 8).toUInt8, n.toUInt8] : List UInt8)] : List (List UInt8))).length)) (.cons rfl (.same (mp_ids (g := zU) (sCc ([use, ([0, (shr32 n 24).toUInt8, (shr32 n 16).toUInt8, (shr32 n 8).toUInt8, n.toUInt8] : List UInt8)] : List (List UInt8))) (fun _ => rfl))) .nil) : Meets Tryd.prog 63 [.sl 1 .brw 2 (sub ([.sl 1 .shr use.length (u8s use), .sl 1 .shr ([0, (shr32 n 24).toUInt8, (shr32 n 16).toUInt8, (shr32 n 8).toUInt8, n.toUInt8] : List UInt8).length (u8s ([0, (shr32 n 24).toUInt8, (shr32 n 16).toUInt8, (shr32 n 8).toUInt8, n.toUInt8] : List UInt8))]) 0 (2 * 1))] [] [] (.ref 13 1 0 ((sCc ([use, ([0, (shr32 n 24).toUInt8, (shr32 n 16).toUInt8, (shr32 n 8).toUInt8, n.toUInt8] : List UInt8)] : List (List UInt8))).length)) [(13, u8s (sCc ([use, ([0, (shr32 n 24).toUInt8, (shr32 n 16).toUInt8, (shr32 n 8).toUInt8, n.toUInt8] : List UInt8)] : List (List UInt8))))]) rfl (mp_ids (g := zU) _ (fun _ => rfl)) (by simp) : Meets Tryd.prog 63 [.sl 1 .brw 2 (sub ([.sl 1 .shr use.length (u8s use), .sl 1 .shr ([0, (shr32 n 24).toUInt8, (shr32 n 16).toUInt8, (shr32 n 8).toUInt8, n.toUInt8] : List UInt8).length (u8s ([0, (shr32 n 24).toUInt8, (shr32 n 16).toUInt8, (shr32 n 8).toUInt8, n.toUInt8] : List UInt8))]) 0 (2 * 1))] [] [] (.sl 1 .shr (sCc ([use, ([0, (shr32 n 24).toUInt8, (shr32 n 16).toUInt8, (shr32 n 8).toUInt8, n.toUInt8] : List UInt8)] : List (List UInt8))).length (u8s (sCc ([use, ([0, (shr32 n 24).toUInt8, (shr32 n 16).toUInt8, (shr32 n 8).toUInt8, n.toUInt8] : List UInt8)] : List (List UInt8))))) []) (.cons (rfl : idsL ([.sl 1 .shr use.length (u8s use), .sl 1 .shr ([0, (shr32 n 24).toUInt8, (shr32 n 16).toUInt8, (shr32 n 8).toUInt8, n.toUInt8] : List UInt8).length (u8s ([0, (shr32 n 24).toUInt8, (shr32 n 16).toUInt8, (shr32 n 8).toUInt8, n.toUInt8] : List UInt8))]) = []) (.cons (by decide : 0 + 2 * 1 ≤ 2) (.cons (sb : subN (idsL [.sl 1 .brw 2 (sub ([.sl 1 .shr use.length (u8s use), .sl 1 .shr ([0, (shr32 n 24).toUInt8, (shr32 n 16).toUInt8, (shr32 n 8).toUInt8, n.toUInt8] : List UInt8).length (u8s ([0, (shr32 n 24).toUInt8, (shr32 n 16).toUInt8, (shr32 n 8).toUInt8, n.toUInt8] : List UInt8))]) 0 (2 * 1))]) [] = true) (.cons (nb : T.noB (.sl 1 .shr (sCc ([use, ([0, (shr32 n 24).toUInt8, (shr32 n 16).toUInt8, (shr32 n 8).toUInt8, n.toUInt8] : List UInt8)] : List (List UInt8))).length (u8s (sCc ([use, ([0, (shr32 n 24).toUInt8, (shr32 n 16).toUInt8, (shr32 n 8).toUInt8, n.toUInt8] : List UInt8)] : List (List UInt8))))) = true) (.cons (hkdf_Expand_m key (sCc ([use, ([0, (shr32 n 24).toUInt8, (shr32 n 16).toUInt8, (shr32 n 8).toUInt8, n.toUInt8] : List UInt8)] : List (List UInt8))) 32 (by first | omega | (simp only [List.length_append, List.length_cons, List.length_nil]; omega) | (simp; omega) | (simp; done)) (by first | omega | (rw [concat_eq]; simp only [List.flatten_cons, List.flatten_nil, List.append_nil, List.length_append, List.length_cons, List.length_nil]; omega) | (simp; omega))) (.cons (sb : subN (idsL [.sl 1 .shr key.length (u8s key), .sl 1 .shr (sCc ([use, ([0, (shr32 n 24).toUInt8, (shr32 n 16).toUInt8, (shr32 n 8).toUInt8, n.toUInt8] : List UInt8)] : List (List UInt8))).length (u8s (sCc ([use, ([0, (shr32 n 24).toUInt8, (shr32 n 16).toUInt8, (shr32 n 8).toUInt8, n.toUInt8] : List UInt8)] : List (List UInt8)))), ti 32]) [] = true) (.cons (sb : memN 10 (T.ids (.tup [.sl 1 .shr ((hkdf_Expand key (sCc ([use, ([0, (shr32 n 24).toUInt8, (shr32 n 16).toUInt8, (shr32 n 8).toUInt8, n.toUInt8] : List UInt8)] : List (List UInt8))) 32).1).length (u8s ((hkdf_Expand key (sCc ([use, ([0, (shr32 n 24).toUInt8, (shr32 n 16).toUInt8, (shr32 n 8).toUInt8, n.toUInt8] : List UInt8)] : List (List UInt8))) 32).1)), er 105 ((hkdf_Expand key (sCc ([use, ([0, (shr32 n 24).toUInt8, (shr32 n 16).toUInt8, (shr32 n 8).toUInt8, n.toUInt8] : List UInt8)] : List (List UInt8))) 32).2)])) = false) (.cons (er_mem (i := 10) 105 ((hkdf_Expand key (sCc ([use, ([0, (shr32 n 24).toUInt8, (shr32 n 16).toUInt8, (shr32 n 8).toUInt8, n.toUInt8] : List UInt8)] : List (List UInt8))) 32).2)) (.cons (er_mem (i := 10) 105 ((hkdf_Expand key (sCc ([use, ([0, (shr32 n 24).toUInt8, (shr32 n 16).toUInt8, (shr32 n 8).toUInt8, n.toUInt8] : List UInt8)] : List (List UInt8))) 32).2)) (.cons (sb : memN 11 (T.ids (.tup [.sl 1 .shr ((hkdf_Expand key (sCc ([use, ([0, (shr32 n 24).toUInt8, (shr32 n 16).toUInt8, (shr32 n 8).toUInt8, n.toUInt8] : List UInt8)] : List (List UInt8))) 32).1).length (u8s ((hkdf_Expand key (sCc ([use, ([0, (shr32 n 24).toUInt8, (shr32 n 16).toUInt8, (shr32 n 8).toUInt8, n.toUInt8] : List UInt8)] : List (List UInt8))) 32).1)), er 105 ((hkdf_Expand key (sCc ([use, ([0, (shr32 n 24).toUInt8, (shr32 n 16).toUInt8, (shr32 n 8).toUInt8, n.toUInt8] : List UInt8)] : List (List UInt8))) 32).2)])) = false) (.cons (er_mem (i := 11) 105 ((hkdf_Expand key (sCc ([use, ([0, (shr32 n 24).toUInt8, (shr32 n 16).toUInt8, (shr32 n 8).toUInt8, n.toUInt8] : List UInt8)] : List (List UInt8))) 32).2)) (.cons (er_mem (i := 11) 105 ((hkdf_Expand key (sCc ([use, ([0, (shr32 n 24).toUInt8, (shr32 n 16).toUInt8, (shr32 n 8).toUInt8, n.toUInt8] : List UInt8)] : List (List UInt8))) 32).2)) (.cons (sb : memN 12 (T.ids (.tup [.sl 1 .shr ((hkdf_Expand key (sCc ([use, ([0, (shr32 n 24).toUInt8, (shr32 n 16).toUInt8, (shr32 n 8).toUInt8, n.toUInt8] : List UInt8)] : List (List UInt8))) 32).1).length (u8s ((hkdf_Expand key (sCc ([use, ([0, (shr32 n 24).toUInt8, (shr32 n 16).toUInt8, (shr32 n 8).toUInt8, n.toUInt8] : List UInt8)] : List (List UInt8))) 32).1)), er 105 ((hkdf_Expand key (sCc ([use, ([0, (shr32 n 24).toUInt8, (shr32 n 16).toUInt8, (shr32 n 8).toUInt8, n.toUInt8] : List UInt8)] : List (List UInt8))) 32).2)])) = false) (.cons (er_mem (i := 12) 105 ((hkdf_Expand key (sCc ([use, ([0, (shr32 n 24).toUInt8, (shr32 n 16).toUInt8, (shr32 n 8).toUInt8, n.toUInt8] : List UInt8)] : List (List UInt8))) 32).2)) (.cons (er_mem (i := 12) 105 ((hkdf_Expand key (sCc ([use, ([0, (shr32 n 24).toUInt8, (shr32 n 16).toUInt8, (shr32 n 8).toUInt8, n.toUInt8] : List UInt8)] : List (List UInt8))) 32).2)) .nil))))))))))))))))))))))))))))))) ?_
   clear hk; intro k hk
   refine Go.bnd (Pf := (PostX Γ hkdf_Key_enc)) (v := (sCc ([use, ([0, (shr32 n 24).toUInt8, (shr32 n 16).toUInt8, (shr32 n 8).toUInt8, n.toUInt8] : List UInt8)] : List (List UInt8)))) (fun x1 => [(6, .sl 1 .shr ((hkdf_Expand key x1 32).1).length (u8s ((hkdf_Expand key x1 32).1))), (7, er 105 ((hkdf_Expand key x1 32).2))]) (fun x1 => []) ?_
   intro x1 hx1
   have fx1 := concat_eq ([use, ([0, (shr32 n 24).toUInt8, (shr32 n 16).toUInt8, (shr32 n 8).toUInt8, n.toUInt8] : List UInt8)] : List (List UInt8))
   rw [← hx1] at fx1
   have gx1 := congrArg List.length fx1
   simp only [List.flatten_cons, List.flatten_nil, List.append_nil, List.length_append, List.length_cons, List.length_nil] at fx1 gx1
   exact Go.lvx 20 [] _ [.sl 1 .shr ((hkdf_Expand key x1 32).1).length (u8s ((hkdf_Expand key x1 32).1)), er 105 ((hkdf_Expand key x1 32).2)] Tryd.func68 hk rfl kr .nil (T.Le.tup (.cons (T.Le.of_eq rfl) (.cons (T.Le.of_eq rfl) .nil))) rfl (by first | rfl | (simp only [hkdf_Key_enc, T.ids, idsL, er_ids, List.append_nil, List.nil_append]; first | rfl | (rw [mp_ids _ (fun _ => rfl)]; rfl))) .nil
 ·intro hk J
  rcases Bool.eq_false_or_eq_true ((key.length : Int) != 32) with gd1 | gd1
  ·have gd1p := neIt gd1
   refine Go.rx 20 { ws := [(2, { v := some (tb true) })] } [] [0, 1, 2, 19] _ [(0, .sl 1 .shr key.length (u8s key)), (1, ts use), (2, t32 n), (19, tb true)] [] hk rfl kr (.cons trivial (.cons (eb gd1) .nil)) ?_
   intro k' hk'
   refine Go.slotEq 19 (tb (((key.length : Int) != 32) || ((use == []) || (decide ((use.length : Int) > 32))))) rfl (eb (orT gd1).symm) ?_
   exact J k' hk'
  ·have gd1p := neIf gd1
   rcases Bool.eq_false_or_eq_true (use == []) with gd2 | gd2
   ·refine Go.rx 20 { ws := [(2, { v := some (tb false) }), (5, { v := some (tb true) })] } [] [0, 1, 2, 19] _ [(0, .sl 1 .shr key.length (u8s key)), (1, ts use), (2, t32 n), (19, tb true)] [] hk rfl kr (.cons trivial (.cons (eb gd1) (.cons trivial (.cons ((s_eq use []).trans (eb gd2)) .nil)))) ?_
    intro k' hk'
    refine Go.slotEq 19 (tb (((key.length : Int) != 32) || ((use == []) || (decide ((use.length : Int) > 32))))) rfl (eb (orF gd1 (orT gd2)).symm) ?_
    exact J k' hk'
   ·refine Go.rx 20 { ws := [(2, { v := some (tb false) }), (5, { v := some (tb false) }), (9, { v := some (ti (use.length : Int)) })] } [] [0, 1, 2, 19] _ [(0, .sl 1 .shr key.length (u8s key)), (1, ts use), (2, t32 n), (19, tb (decide ((use.length : Int) > 32)))] [] hk rfl kr (.cons trivial (.cons (eb gd1) (.cons trivial (.cons ((s_eq use []).trans (eb gd2)) (.cons (len_sOf use) (.cons trivial .nil)))))) ?_
    intro k' hk'
    refine Go.slotEq 19 (tb (((key.length : Int) != 32) || ((use == []) || (decide ((use.length : Int) > 32))))) rfl (eb (orF gd1 (orF gd2 rfl)).symm) ?_
    exact J k' hk'
attribute [irreducible] hkdf_Key
noncomputable def r7_Key (key : List UInt8) (use : List UInt8) (n : UInt32) : List UInt8 × Int :=
 bif ((key.length : Int) != 32) || ((decide ((use.length : Int) < 1)) || (decide ((use.length : Int) > 32))) then
  ([], 1)
 else
  bnd (r7_Expand key (use ++ [0, (n / 16777216).toUInt8, ((n / 65536) % 256).toUInt8, ((n / 256) % 256).toUInt8, (n % 256).toUInt8]) 32) fun x1 =>
  (x1.1, x1.2)
def r7_Key_enc (x : List UInt8 × Int) : T × List (Nat × List T) := (.tup [.sl 1 .shr x.1.length (u8s x.1), ti x.2], [])
theorem r7_Key_m {g_key : Tag} (key : List UInt8) (use : List UInt8) (n : UInt32) : Meets Tryd.prog 69 [.sl 1 g_key key.length (u8s key), ts use, t32 n] [] [] (.tup [.sl 1 .shr ((r7_Key key use n).1).length (u8s ((r7_Key key use n).1)), ti ((r7_Key key use n).2)]) [] := by
 refine Meets.enterX (E := E) (N := 48) (enc := r7_Key_enc) (x := (r7_Key key use n)) Tryd.func69 Tryd.call69 rfl rfl ?_
 intro Γ k hk
 refine Go.rx 20 {} [] [0, 1, 2] _ [(0, .sl 1 g_key key.length (u8s key)), (1, ts use), (2, t32 n)] [] hk rfl kr .nil ?_
 clear hk; intro k hk
 refine Go.regJ 20 [(0, .sl 1 g_key key.length (u8s key)), (1, ts use), (2, t32 n), (21, tb (((key.length : Int) != 32) || ((decide ((use.length : Int) < 1)) || (decide ((use.length : Int) > 32)))))] [] hk rfl ?_ ?_
 ·clear hk; intro k hk
  refine Go.br 20 (Pf := (PostX Γ r7_Key_enc)) hk rfl rfl ?_ ?_ <;> clear hk <;> intro ct1 k hk
  ·refine Go.rx 20 {} [] [6, 7] _ [(6, .leaf (.slice none 0 0)), (7, ti 1)] [] hk rfl kr .nil ?_
   clear hk; intro k hk
   exact Go.lvx 20 [] _ [.leaf (.slice none 0 0), ti 1] Tryd.func69 hk rfl kr .nil (T.Le.tup (.cons (T.Le.nil _ _) (.cons (T.Le.of_eq rfl) .nil))) rfl rfl .nil
  ·have ct11 : ((key.length : Int) != 32) = false := (Bool.or_eq_false_iff.1 ct1).1
   have ct12 : ((decide ((use.length : Int) < 1)) || (decide ((use.length : Int) > 32))) = false := (Bool.or_eq_false_iff.1 ct1).2
   have ct11p := neIf ct11
   have ct121 : (decide ((use.length : Int) < 1)) = false := (Bool.or_eq_false_iff.1 ct12).1
   have ct122 : (decide ((use.length : Int) > 32)) = false := (Bool.or_eq_false_iff.1 ct12).2
   have ct121p := of_decide_eq_false ct121
   have ct122p := of_decide_eq_false ct122
   refine Go.rx 20 {} [] [0, 1, 2, 8] _ [(0, .sl 1 g_key key.length (u8s key)), (1, ts use), (2, t32 n), (8, .leaf (.slice none 0 0))] [] hk rfl kr .nil ?_
   clear hk; intro k hk
   refine Go.rx 20 { ws := [(2, { v := some (.ref 10 1 0 use.length), c := some (u8s use), id := 10 }), (3, { c := some (u8s use), id := 11, sym := true })], pg := [11] } [10] [0, 2, 8] _ [(0, .sl 1 g_key key.length (u8s key)), (2, t32 n), (8, .ref 11 1 0 use.length)] [(11, u8s use)] hk rfl kr (.cons (bytesOf_sOf use) (.cons (ref_len (id := 10) (sOf_size use)) (.cons (qf1_5 : 0 + use.length * 1 ≤ (u8s use).length) (.cons (om : use.length * 1 ≤ 140737488355328) (.cons (mp_all (g := zU) use) (.cons (mp_mem (i := 10) (g := zU) use (fun _ => rfl)) .nil)))))) ?_
   clear hk; intro k hk
   refine Go.rx 20 { ws := [(2, { v := some (t32 (n / 16777216)) }), (3, { v := some (t8 ((n / 16777216).toUInt8)) }), (5, { v := some (t32 (n / 65536)) }), (6, { v := some (t32 ((n / 65536) % 256)) }), (7, { v := some (t8 (((n / 65536) % 256).toUInt8)) }), (9, { v := some (t32 (n / 256)) }), (10, { v := some (t32 ((n / 256) % 256)) }), (11, { v := some (t8 (((n / 256) % 256).toUInt8)) }), (13, { v := some (t32 (n % 256)) }), (14, { v := some (t8 ((n % 256).toUInt8)) }), (15, { id := 12 }), (16, { v := some (.ref 11 1 0 ((use ++ [0, (n / 16777216).toUInt8, ((n / 65536) % 256).toUInt8, ((n / 256) % 256).toUInt8, (n % 256).toUInt8]).length)), c := some (u8s (use ++ [0, (n / 16777216).toUInt8, ((n / 65536) % 256).toUInt8, ((n / 256) % 256).toUInt8, (n % 256).toUInt8])), id := 11, sym := true })], pg := [11], fd := some [11] } [12] [0, 8] _ [(0, .sl 1 g_key key.length (u8s key)), (8, .ref 11 1 0 ((use ++ [0, (n / 16777216).toUInt8, ((n / 65536) % 256).toUInt8, ((n / 256) % 256).toUInt8, (n % 256).toUInt8]).length))] [(11, u8s (use ++ [0, (n / 16777216).toUInt8, ((n / 65536) % 256).toUInt8, ((n / 256) % 256).toUInt8, (n % 256).toUInt8]))] hk rfl kr (.cons (by decide : ((16777216 : UInt32).toNat : Int) ≠ (0 : Int)) (.cons (quo32 n 16777216) (.cons (cv32_8 (n / 16777216)) (.cons (by decide : ((65536 : UInt32).toNat : Int) ≠ (0 : Int)) (.cons (quo32 n 65536) (.cons (by decide : ((256 : UInt32).toNat : Int) ≠ (0 : Int)) (.cons (rem32 (n / 65536) 256) (.cons (cv32_8 ((n / 65536) % 256)) (.cons (by decide : ((256 : UInt32).toNat : Int) ≠ (0 : Int)) (.cons (quo32 n 256) (.cons (by decide : ((256 : UInt32).toNat : Int) ≠ (0 : Int)) (.cons (rem32 (n / 256) 256) (.cons (cv32_8 ((n / 256) % 256)) (.cons (by decide : ((256 : UInt32).toNat : Int) ≠ (0 : Int)) (.cons (rem32 n 256) (.cons (cv32_8 (n % 256)) (.cons (Nat.le_of_ble_eq_true rfl : 0 + 5 * 1 ≤ ([t8 0, t8 ((n / 16777216).toUInt8), t8 (((n / 65536) % 256).toUInt8), t8 (((n / 256) % 256).toUInt8), t8 ((n % 256).toUInt8)] : List T).length) (.cons (qf1_5 : 0 + use.length * 1 ≤ (u8s use).length) (.cons (rfl : scalL [t8 0, t8 ((n / 16777216).toUInt8), t8 (((n / 65536) % 256).toUInt8), t8 (((n / 256) % 256).toUInt8), t8 ((n % 256).toUInt8)] = true) (.cons (om : (use.length + 5) * 1 ≤ 140737488355328) (.cons (mp_app (g := zU) (use) [0, (n / 16777216).toUInt8, ((n / 65536) % 256).toUInt8, ((n / 256) % 256).toUInt8, (n % 256).toUInt8] rfl) (.cons (mp_mem (i := 11) (g := zU) (use ++ [0, (n / 16777216).toUInt8, ((n / 65536) % 256).toUInt8, ((n / 256) % 256).toUInt8, (n % 256).toUInt8]) (fun _ => rfl)) (.cons (by first | rfl | (simp; done) | (refine congrArg (fun q => T.ref 11 1 0 q) ?_; simp <;> omega) : T.ref 11 1 0 (use.length + 5) = .ref 11 1 0 ((use ++ [0, (n / 16777216).toUInt8, ((n / 65536) % 256).toUInt8, ((n / 256) % 256).toUInt8, (n % 256).toUInt8]).length)) (.cons (mp_mem (i := 12) (g := zU) (use ++ [0, (n / 16777216).toUInt8, ((n / 65536) % 256).toUInt8, ((n / 256) % 256).toUInt8, (n % 256).toUInt8]) (fun _ => rfl)) .nil)))))))))))))))))))))))) ?_
   clear hk; intro k hk
   refine Go.rx 20 { ws := [(2, { call := some { ids := [], S := [], M := [11], R := .tup [.sl 1 .shr ((r7_Expand key (use ++ [0, (n / 16777216).toUInt8, ((n / 65536) % 256).toUInt8, ((n / 256) % 256).toUInt8, (n % 256).toUInt8]) 32).1).length (u8s ((r7_Expand key (use ++ [0, (n / 16777216).toUInt8, ((n / 65536) % 256).toUInt8, ((n / 256) % 256).toUInt8, (n % 256).toUInt8]) 32).1)), ti ((r7_Expand key (use ++ [0, (n / 16777216).toUInt8, ((n / 65536) % 256).toUInt8, ((n / 256) % 256).toUInt8, (n % 256).toUInt8]) 32).2)], H' := [] } })] } [11] [6, 7] _ [(6, .sl 1 .shr ((r7_Expand key (use ++ [0, (n / 16777216).toUInt8, ((n / 65536) % 256).toUInt8, ((n / 256) % 256).toUInt8, (n % 256).toUInt8]) 32).1).length (u8s ((r7_Expand key (use ++ [0, (n / 16777216).toUInt8, ((n / 65536) % 256).toUInt8, ((n / 256) % 256).toUInt8, (n % 256).toUInt8]) 32).1))), (7, ti ((r7_Expand key (use ++ [0, (n / 16777216).toUInt8, ((n / 65536) % 256).toUInt8, ((n / 256) % 256).toUInt8, (n % 256).toUInt8]) 32).2))] [] hk rfl kr (.cons (Meets.eqA (A := [.sl 1 g_key key.length (u8s key), .sl 1 .brw ((use ++ [0, (n / 16777216).toUInt8, ((n / 65536) % 256).toUInt8, ((n / 256) % 256).toUInt8, (n % 256).toUInt8]).length) (sub (u8s (use ++ [0, (n / 16777216).toUInt8, ((n / 65536) % 256).toUInt8, ((n / 256) % 256).toUInt8, (n % 256).toUInt8])) 0 (((use ++ [0, (n / 16777216).toUInt8, ((n / 65536) % 256).toUInt8, ((n / 256) % 256).toUInt8, (n % 256).toUInt8]).length) * 1)), ti 32]) qf1_6 (r7_Expand_m (g_key := g_key) (g_info := .brw) key (use ++ [0, (n / 16777216).toUInt8, ((n / 65536) % 256).toUInt8, ((n / 256) % 256).toUInt8, (n % 256).toUInt8]) 32 qf1_4 om)) (.cons (mp_ids (g := zU) (use ++ [0, (n / 16777216).toUInt8, ((n / 65536) % 256).toUInt8, ((n / 256) % 256).toUInt8, (n % 256).toUInt8]) (fun _ => rfl)) (.cons (qf1_2 : 0 + ((use ++ [0, (n / 16777216).toUInt8, ((n / 65536) % 256).toUInt8, ((n / 256) % 256).toUInt8, (n % 256).toUInt8]).length) * 1 ≤ (u8s (use ++ [0, (n / 16777216).toUInt8, ((n / 65536) % 256).toUInt8, ((n / 256) % 256).toUInt8, (n % 256).toUInt8])).length) (.cons (sb : subN (idsL [.sl 1 g_key key.length (u8s key), .sl 1 .brw ((use ++ [0, (n / 16777216).toUInt8, ((n / 65536) % 256).toUInt8, ((n / 256) % 256).toUInt8, (n % 256).toUInt8]).length) (sub (u8s (use ++ [0, (n / 16777216).toUInt8, ((n / 65536) % 256).toUInt8, ((n / 256) % 256).toUInt8, (n % 256).toUInt8])) 0 (((use ++ [0, (n / 16777216).toUInt8, ((n / 65536) % 256).toUInt8, ((n / 256) % 256).toUInt8, (n % 256).toUInt8]).length) * 1)), ti 32]) [] = true) (.cons (nb : T.noB (.tup [.sl 1 .shr ((r7_Expand key (use ++ [0, (n / 16777216).toUInt8, ((n / 65536) % 256).toUInt8, ((n / 256) % 256).toUInt8, (n % 256).toUInt8]) 32).1).length (u8s ((r7_Expand key (use ++ [0, (n / 16777216).toUInt8, ((n / 65536) % 256).toUInt8, ((n / 256) % 256).toUInt8, (n % 256).toUInt8]) 32).1)), ti ((r7_Expand key (use ++ [0, (n / 16777216).toUInt8, ((n / 65536) % 256).toUInt8, ((n / 256) % 256).toUInt8, (n % 256).toUInt8]) 32).2)]) = true) .nil))))) ?_
   clear hk; intro k hk
   refine Go.bnd (Pf := (PostX Γ r7_Key_enc)) (v := (r7_Expand key (use ++ [0, (n / 16777216).toUInt8, ((n / 65536) % 256).toUInt8, ((n / 256) % 256).toUInt8, (n % 256).toUInt8]) 32)) (fun x1 => [(6, .sl 1 .shr x1.1.length (u8s x1.1)), (7, ti x1.2)]) (fun x1 => []) ?_
   intro x1 hx1
   exact Go.lvx 20 [] _ [.sl 1 .shr x1.1.length (u8s x1.1), ti x1.2] Tryd.func69 hk rfl kr .nil (T.Le.tup (.cons (T.Le.of_eq rfl) (.cons (T.Le.of_eq rfl) .nil))) rfl rfl .nil
 ·intro hk J
  rcases Bool.eq_false_or_eq_true ((key.length : Int) != 32) with gd1 | gd1
  ·have gd1p := neIt gd1
   refine Go.rx 20 { ws := [(2, { v := some (tb true) })] } [] [0, 1, 2, 21] _ [(0, .sl 1 g_key key.length (u8s key)), (1, ts use), (2, t32 n), (21, tb true)] [] hk rfl kr (.cons trivial (.cons (eb gd1) .nil)) ?_
   intro k' hk'
   refine Go.slotEq 21 (tb (((key.length : Int) != 32) || ((decide ((use.length : Int) < 1)) || (decide ((use.length : Int) > 32))))) rfl (eb (orT gd1).symm) ?_
   exact J k' hk'
  ·have gd1p := neIf gd1
   rcases Bool.eq_false_or_eq_true (decide ((use.length : Int) < 1)) with gd2 | gd2
   ·have gd2p := of_decide_eq_true gd2
    refine Go.rx 20 { ws := [(2, { v := some (tb false) }), (5, { v := some (ti (use.length : Int)) }), (6, { v := some (tb true) })] } [] [0, 1, 2, 21] _ [(0, .sl 1 g_key key.length (u8s key)), (1, ts use), (2, t32 n), (21, tb true)] [] hk rfl kr (.cons trivial (.cons (eb gd1) (.cons (len_sOf use) (.cons trivial (.cons (eb gd2) .nil))))) ?_
    intro k' hk'
    refine Go.slotEq 21 (tb (((key.length : Int) != 32) || ((decide ((use.length : Int) < 1)) || (decide ((use.length : Int) > 32))))) rfl (eb (orF gd1 (orT gd2)).symm) ?_
    exact J k' hk'
   ·have gd2p := of_decide_eq_false gd2
    refine Go.rx 20 { ws := [(2, { v := some (tb false) }), (5, { v := some (ti (use.length : Int)) }), (6, { v := some (tb false) }), (10, { v := some (ti (use.length : Int)) })] } [] [0, 1, 2, 21] _ [(0, .sl 1 g_key key.length (u8s key)), (1, ts use), (2, t32 n), (21, tb (decide ((use.length : Int) > 32)))] [] hk rfl kr (.cons trivial (.cons (eb gd1) (.cons (len_sOf use) (.cons trivial (.cons (eb gd2) (.cons (len_sOf use) (.cons trivial .nil))))))) ?_
    intro k' hk'
    refine Go.slotEq 21 (tb (((key.length : Int) != 32) || ((decide ((use.length : Int) < 1)) || (decide ((use.length : Int) > 32))))) rfl (eb (orF gd1 (orF gd2 rfl)).symm) ?_
    exact J k' hk'
attribute [irreducible] r7_Key
end Go.Proofs.YtbppcnhfeobefabDoor

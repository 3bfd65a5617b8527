import Derived.Test.YtbppcnhfeobefabDoorD7
import Derived.Test.YtbppcnhfeobefabDoorEnVx8
set_option linter.unusedVariables false
namespace Go.Proofs.YtbppcnhfeobefabDoor
open Go Go.Vw Go.Proofs
abbrev l8 (z : UInt32 × UInt32 × UInt32 × UInt32 × UInt32 × UInt32 × UInt32 × UInt32) : List UInt32 := [z.1, z.2.1, z.2.2.1, z.2.2.2.1, z.2.2.2.2.1, z.2.2.2.2.2.1, z.2.2.2.2.2.2.1, z.2.2.2.2.2.2.2]
theorem qd8_1 {p : Prop} (h : p := by first | (simp; done) | (with_reducible assumption) | omega | (simp <;> omega) | rfl) : p := h
theorem qd8_2 {p : Prop} (h : p := by simp only [List.length_map]; first | omega | (simp <;> omega) | (simp at * <;> omega) | (split <;> omega) | (split <;> (first | omega | (simp <;> omega) | (simp at * <;> omega)))) : p := h
theorem qd8_3 {p : Prop} (h : p := by first | omega | assumption | (simp; done) | (simp; omega)) : p := h
theorem qd8_4 {p : Prop} (h : p := by first | omega | (simp; done) | assumption) : p := h
noncomputable def sH_Sum_k3 (x1 : (W8 × List UInt8 × UInt64) × hOT) (o6 : List UInt8) : List UInt8 × hOT :=
 (o6, x1.2)
noncomputable def sH_Sum_l3 (x2 : hOT) : Nat → Int → (List UInt8) → Lo (List UInt8) (List UInt8 × hOT)
 | 0, _, _ => .brk default
 | ml3 + 1, t581, o5 =>
  bif decide (t581 < 8) then
   sH_Sum_l3 x2 ml3 (t581 + 1) ((((o5.set ((4 * t581).toNat) ((shr32 ((l8 (x2.1)).getD t581.toNat 0) 24).toUInt8)).set ((4 * t581 + 1).toNat) ((shr32 ((l8 (x2.1)).getD t581.toNat 0) 16).toUInt8)).set ((4 * t581 + 2).toNat) ((shr32 ((l8 (x2.1)).getD t581.toNat 0) 8).toUInt8)).set ((4 * t581 + 3).toNat) (((l8 (x2.1)).getD t581.toNat 0).toUInt8))
  else
   Lo.brk o5
noncomputable def sH_Sum_k2 (x1 : (W8 × List UInt8 × UInt64) × hOT) (o4 : List UInt8) : List UInt8 × hOT :=
 bnd (sH_Write x1.1 o4) fun x2 =>
 Lo.el (sH_Sum_l3 x2 ((8 - (0 : Int)).toNat + 1) 0 (List.replicate 32 0)) (fun z : List UInt8 => sH_Sum_k3 x1 z)
noncomputable def sH_Sum_l2 (x1 : (W8 × List UInt8 × UInt64) × hOT) : Nat → Int → (List UInt8) → Lo (List UInt8) (List UInt8 × hOT)
 | 0, _, _ => .brk default
 | ml2 + 1, t381, o3 =>
  bif decide (t381 < 8) then
   sH_Sum_l2 x1 ml2 (t381 + 1) (o3 ++ [(shr64 (8 * ((x1.1).2.2)) (8 * (7 - t381))).toUInt8])
  else
   Lo.brk o3
noncomputable def sH_Sum_k1 (x1 : (W8 × List UInt8 × UInt64) × hOT) (o2 : List UInt8) : List UInt8 × hOT :=
 Lo.el (sH_Sum_l2 x1 ((8 - (0 : Int)).toNat + 1) 0 o2) (fun z : List UInt8 => sH_Sum_k2 x1 z)
noncomputable def sH_Sum_l1 (x1 : (W8 × List UInt8 × UInt64) × hOT) : Nat → (List UInt8) → Lo (List UInt8) (List UInt8 × hOT)
 | 0, _ => .brk default
 | ml1 + 1, o1 =>
  bif ((((((x1.1).2.2) % 64).toNat : Int) + (o1.length : Int) + 8) % 64) != 0 then
   sH_Sum_l1 x1 ml1 (o1 ++ [0])
  else
   Lo.brk o1
noncomputable def sH_Sum (a0 : hOT) : List UInt8 × hOT :=
 bnd (sH_Clone a0) fun x1 =>
 Lo.el (sH_Sum_l1 x1 (((56 - (x1.1.2.2.toNat % 64 : Int) - [128].length) % 64).toNat + 1) [128]) (fun z : List UInt8 => sH_Sum_k1 x1 z)
def sH_Sum_enc (x : List UInt8 × hOT) : T × List (Nat × List T) := (.agg (u8s x.1), [(0, (hO 90 x.2)), (90, u8s x.2.2.1)])
theorem sH_Sum_m (a0 : hOT) (h64 : a0.2.1.length < 64) : Meets Tryd.prog 104 [.addr 0 0] [(0, (hO 90 a0)), (90, u8s a0.2.1)] [0] (.agg (u8s ((sH_Sum a0).1))) [(0, (hO 90 ((sH_Sum a0).2))), (90, u8s (((sH_Sum a0).2).2.1))] := by
 refine Meets.enterX (E := E) (N := 90) (enc := sH_Sum_enc) (x := (sH_Sum a0)) Tryd.func104 Tryd.call104 rfl rfl ?_
 intro Γ k hk
 refine Go.rx 20 { ws := [(0, { id := 10 })] } [] [0, 2] _ [(0, .addr 0 0), (2, .addr 10 0)] [(0, (hO 90 a0)), (90, u8s a0.2.1), (10, z32)] hk rfl kr .nil ?_
 clear hk; intro k hk
 refine Go.rx 20 {} [] [0, 2, 11] _ [(0, .addr 0 0), (2, .addr 10 0), (11, tb false)] [(0, (hO 90 a0)), (90, u8s a0.2.1), (10, z32)] hk rfl kr (.cons (⟨189, by as_aux_lemma => kernel_rfl⟩ : ∃ e, (E.ti 179).k = .ptr e) .nil) ?_
 clear hk; intro k hk
 refine Go.cond 20 hk rfl (t := false) rfl ?_; clear hk; intro k hk
 refine Go.rx 20 { ws := [(1, { call := some { ids := [0, 90], S := [0], M := [], R := .addr 12 0, H' := [(0, (hO 90 ((sH_Clone a0).2))), (90, u8s (((sH_Clone a0).2).2.1)), (11, u8s (((sH_Clone a0).1).2.1)), (12, (hO 11 ((sH_Clone a0).1)))] } })], fd := some [90] } [] [2, 3] _ [(2, .addr 10 0), (3, .addr 12 0)] [(0, (hO 90 ((sH_Clone a0).2))), (10, z32), (90, u8s (((sH_Clone a0).2).2.1)), (11, u8s (((sH_Clone a0).1).2.1)), (12, (hO 11 ((sH_Clone a0).1)))] hk rfl kr (.cons (Meets.sw [(91, 11), (92, 12)] (sH_Clone_m a0 om) : Meets Tryd.prog 105 [.addr 0 0] [(0, (hO 90 a0)), (90, u8s a0.2.1)] [0] (.addr 12 0) [(0, (hO 90 ((sH_Clone a0).2))), (90, u8s (((sH_Clone a0).2).2.1)), (11, u8s (((sH_Clone a0).1).2.1)), (12, (hO 11 ((sH_Clone a0).1)))]) (.cons (sb : subN (idsL [.addr 0 0]) [0, 90] = true) (.cons (sb : subN (idsL (hO 90 a0)) [0, 90] = true) (.cons (by rw [(mp_ids (g := zU) a0.2.1 (fun _ => rfl))]; rfl : subN (idsL (u8s a0.2.1)) [0, 90] = true) .nil)))) ?_
 clear hk; intro k hk
 refine Go.bnd (Pf := (PostX Γ sH_Sum_enc)) (v := (sH_Clone a0)) (fun x1 => [(2, .addr 10 0), (3, .addr 12 0)]) (fun x1 => [(0, (hO 90 x1.2)), (10, z32), (90, u8s ((x1.2).2.1)), (11, u8s ((x1.1).2.1)), (12, (hO 11 x1.1))]) ?_
 intro x1 hx1
 have fx1 := clone_len a0 qd8_4
 rw [← hx1] at fx1
 obtain ⟨fx10, fx11⟩ := fx1
 refine Go.rx 20 { ws := [(4, { v := some (t64 (8 * ((x1.1).2.2))) })] } [] [2, 3, 4] _ [(2, .addr 10 0), (3, .addr 12 0), (4, t64 (8 * ((x1.1).2.2)))] [(0, (hO 90 x1.2)), (10, z32), (90, u8s ((x1.2).2.1)), (11, u8s ((x1.1).2.1)), (12, (hO 11 x1.1))] hk rfl kr (.cons trivial (.cons (mul64 8 ((x1.1).2.2)) .nil)) ?_
 clear hk; intro k hk
 refine Go.rx 20 { ws := [(0, { id := 13 })] } [] [2, 3, 4, 5] _ [(2, .addr 10 0), (3, .addr 12 0), (4, t64 (8 * ((x1.1).2.2))), (5, .ref 13 1 0 1)] [(0, (hO 90 x1.2)), (10, z32), (90, u8s ((x1.2).2.1)), (11, u8s ((x1.1).2.1)), (12, (hO 11 x1.1)), (13, [t8 0])] hk rfl kr (.cons (by decide : 0 ≤ (1 : Int) ∧ (1 : Int) ≤ 128 ∧ (128 : Int) < 9223372036854775808 ∧ ((1 : Nat) : Int) * 128 ≤ 281474976710656) .nil) ?_
 clear hk; intro k hk
 refine Go.rx 20 {} [] [2, 3, 4, 5] _ [(2, .addr 10 0), (3, .addr 12 0), (4, t64 (8 * ((x1.1).2.2))), (5, .ref 13 1 0 1)] [(0, (hO 90 x1.2)), (10, z32), (90, u8s ((x1.2).2.1)), (11, u8s ((x1.1).2.1)), (12, (hO 11 x1.1)), (13, [t8 128])] hk rfl kr (.cons (by decide : 0 ≤ (0 : Int) ∧ (0 : Int) < ((1 : Nat) : Int)) .nil) ?_
 clear hk; intro k hk
 refine Go.loopX 20 hk rfl ?_
 clear hk; intro kl1 kxl1 hl1 hxl1
 have Xl1 : ∀ (o2 : List UInt8) (f0l1 : o2.length ≤ 64), Go E Γ 104 90 [0] ((PostX Γ sH_Sum_enc) (sH_Sum_k1 x1 o2)) kxl1 (stL [(2, .addr 10 0), (3, .addr 12 0), (4, t64 (8 * ((x1.1).2.2))), (5, .ref 13 1 0 o2.length)] [(0, (hO 90 x1.2)), (10, z32), (90, u8s ((x1.2).2.1)), (11, u8s ((x1.1).2.1)), (12, (hO 11 x1.1)), (13, u8s o2)]) := by
  intro o2 f0l1
  refine Go.rx 20 {} [] [2, 3, 4, 5, 38] _ [(2, .addr 10 0), (3, .addr 12 0), (4, t64 (8 * ((x1.1).2.2))), (5, .ref 13 1 0 o2.length), (38, ti 0)] [(0, (hO 90 x1.2)), (10, z32), (90, u8s ((x1.2).2.1)), (11, u8s ((x1.1).2.1)), (12, (hO 11 x1.1)), (13, u8s o2)] hxl1 rfl kr .nil ?_
  clear hxl1; intro kxl1 hxl1
  refine Go.loopX 20 hxl1 rfl ?_
  clear hxl1; intro kl2 kxl2 hl2 hxl2
  have Xl2 : ∀ (o4 : List UInt8) (f0l2 : o4.length ≤ 72), Go E Γ 104 90 [0] ((PostX Γ sH_Sum_enc) (sH_Sum_k2 x1 o4)) kxl2 (stL [(2, .addr 10 0), (3, .addr 12 0), (5, .ref 13 1 0 o4.length)] [(0, (hO 90 x1.2)), (10, z32), (90, u8s ((x1.2).2.1)), (11, u8s ((x1.1).2.1)), (12, (hO 11 x1.1)), (13, u8s o4)]) := by
   intro o4 f0l2
   refine Go.rx 20 { ws := [(2, { call := some { ids := [12, 11], S := [12], M := [13], R := .tup [], H' := [(12, (hO 11 (sH_Write x1.1 o4))), (11, u8s ((sH_Write x1.1 o4).2.1))] } })], pg := [11, 13, 90], fd := some [11] } [13] [2, 3] _ [(2, .addr 10 0), (3, .addr 12 0)] [(0, (hO 90 x1.2)), (10, z32), (90, u8s ((x1.2).2.1)), (12, (hO 11 (sH_Write x1.1 o4))), (11, u8s ((sH_Write x1.1 o4).2.1))] hxl2 rfl kr (.cons (Meets.sw [(0, 12), (90, 11)] (Meets.eqA (A := [.addr 0 0, .sl 1 .brw o4.length (sub (u8s o4) 0 (o4.length * 1))]) (by first | rfl | (simp only [mp_all]; done) | (simp only [mp_all]; rfl)) (sH_Write_m (g_a1 := .brw) x1.1 o4 om om)) : Meets Tryd.prog 102 [.addr 12 0, .sl 1 .brw o4.length (sub (u8s o4) 0 (o4.length * 1))] [(12, (hO 11 x1.1)), (11, u8s ((x1.1).2.1))] [12] (.tup []) [(12, (hO 11 (sH_Write x1.1 o4))), (11, u8s ((sH_Write x1.1 o4).2.1))]) (.cons (mp_ids (g := zU) o4 (fun _ => rfl)) (.cons (by simp only [List.length_map]; omega : 0 + o4.length * 1 ≤ (u8s o4).length) (.cons (sb : subN (idsL [.addr 12 0, .sl 1 .brw o4.length (sub (u8s o4) 0 (o4.length * 1))]) [12, 11] = true) (.cons (sb : subN (idsL (hO 11 x1.1)) [12, 11] = true) (.cons (by rw [(mp_ids (g := zU) ((x1.1).2.1) (fun _ => rfl))]; rfl : subN (idsL (u8s ((x1.1).2.1))) [12, 11] = true) (.cons (nb : T.noB (.tup []) = true) (.cons (by first | rfl | (simp only [T.noB, noBL, er_noB, u8s_noB, b8s_noB, Bool.and_self]; rfl) : noBL (hO 11 (sH_Write x1.1 o4)) = true) (.cons (mp_noB (g := zU) ((sH_Write x1.1 o4).2.1) (fun _ => rfl)) (.cons (mp_mem (i := 11) (g := zU) ((x1.2).2.1) (fun _ => rfl)) (.cons (mp_mem (i := 11) (g := zU) o4 (fun _ => rfl)) (.cons (mp_mem (i := 13) (g := zU) ((x1.2).2.1) (fun _ => rfl)) (.cons (mp_mem (i := 13) (g := zU) ((sH_Write x1.1 o4).2.1) (fun _ => rfl)) .nil))))))))))))) ?_
   clear hxl2; intro kxl2 hxl2
   refine Go.bnd (Pf := (PostX Γ sH_Sum_enc)) (v := (sH_Write x1.1 o4)) (fun x2 => [(2, .addr 10 0), (3, .addr 12 0)]) (fun x2 => [(0, (hO 90 x1.2)), (10, z32), (90, u8s ((x1.2).2.1)), (12, (hO 11 x2)), (11, u8s x2.2.1)]) ?_
   intro x2 hx2
   have fx2 := write_len x1.1 o4 qd8_4
   rw [← hx2] at fx2
   refine Go.rx 20 { ws := [(0, { id := 14 })] } [] [2, 3, 7] _ [(2, .addr 10 0), (3, .addr 12 0), (7, .addr 14 0)] [(0, (hO 90 x1.2)), (10, z32), (90, u8s ((x1.2).2.1)), (12, (hO 11 x2)), (11, u8s x2.2.1), (14, z32)] hxl2 rfl kr .nil ?_
   clear hxl2; intro kxl2 hxl2
   refine Go.rx 20 { pg := [11, 90] } [12, 11] [2, 7, 57, 58] _ [(2, .addr 10 0), (7, .addr 14 0), (57, .agg [t32 ((x2.1).1), t32 ((x2.1).2.1), t32 ((x2.1).2.2.1), t32 ((x2.1).2.2.2.1), t32 ((x2.1).2.2.2.2.1), t32 ((x2.1).2.2.2.2.2.1), t32 ((x2.1).2.2.2.2.2.2.1), t32 ((x2.1).2.2.2.2.2.2.2)]), (58, ti 0)] [(0, (hO 90 x1.2)), (10, z32), (90, u8s ((x1.2).2.1)), (14, z32)] hxl2 rfl kr (.cons (mp_mem (i := 12) (g := zU) ((x1.2).2.1) (fun _ => rfl)) (.cons (mp_mem (i := 12) (g := zU) x2.2.1 (fun _ => rfl)) (.cons (mp_mem (i := 11) (g := zU) ((x1.2).2.1) (fun _ => rfl)) .nil))) ?_
   clear hxl2; intro kxl2 hxl2
   refine Go.loopX 20 hxl2 rfl ?_
   clear hxl2; intro kl3 kxl3 hl3 hxl3
   have Xl3 : ∀ (o6 : List UInt8) (f0l3 : o6.length = 32), Go E Γ 104 90 [0] ((PostX Γ sH_Sum_enc) (sH_Sum_k3 x1 o6)) kxl3 (stL [(2, .addr 10 0), (7, .addr 14 0)] [(0, (hO 90 x1.2)), (10, z32), (90, u8s ((x1.2).2.1)), (14, u8s o6)]) := by
    intro o6 f0l3
    refine Go.rx 20 { ws := [(0, { v := some (.agg (u8s o6)) }), (1, { c := some (u8s o6), sym := true })], ps := [89], pg := [10, 90] } [14] [2] _ [(2, .addr 10 0)] [(0, (hO 90 x1.2)), (10, u8s o6), (90, u8s ((x1.2).2.1))] hxl3 rfl kr (.cons (mp_whole (g := zU) (kr : (E.ti 74).agg = true) (kr : (E.ti 74).size = 32) (qd8_1 : (o6).length = 32)) (.cons (mp_scal o6 (fun _ => rfl) : scalL (u8s o6) = true) (.cons (by rw [List.length_map, (qd8_1 : (o6).length = 32)]; decide : (u8s o6).length ≤ 32) (.cons (by rw [List.length_map, (qd8_1 : (o6).length = 32)]; decide : 32 ≤ (u8s o6).length) (.cons (by rw [List.length_map, (qd8_1 : (o6).length = 32)]; exact Nat.le_of_ble_eq_true rfl : 0 + (u8s o6).length ≤ (z32 : List T).length) (.cons (splice_whole (cs := z32) (v := u8s o6) (by rw [List.length_map, (qd8_1 : (o6).length = 32)]; rfl)) (.cons (mp_memA (i := 14) (g := zU) o6 (fun _ => rfl)) (.cons (mp_mem (i := 14) (g := zU) o6 (fun _ => rfl)) (.cons (mp_mem (i := 14) (g := zU) ((x1.2).2.1) (fun _ => rfl)) .nil))))))))) ?_
    clear hxl3; intro kxl3 hxl3
    exact Go.lvx 20 [0, 90] _ [.agg (sub (u8s o6) 0 32)] Tryd.func104 hxl3 rfl kr (.cons (by rw [List.length_map, (qd8_1 : (o6).length = 32)]; exact Nat.le_of_ble_eq_true rfl : 0 + 32 ≤ (u8s o6).length) .nil) (T.Le.of_eq (congrArg T.agg (arr_all (qd8_1 : (o6).length = 32)))) rfl (by first | rfl | (simp only [sH_Sum_enc, T.ids, idsL, er_ids, List.append_nil, List.nil_append]; first | rfl | (rw [mp_ids _ (fun _ => rfl)]; rfl))) (.cons sb (.cons (by first | rfl | (rw [mp_ids _ (fun _ => rfl)]; rfl)) .nil))
   have Ll3 : ∀ (ml3 : Nat) (t581 : Int) (o5 : List UInt8), (0 ≤ t581) → (t581 ≤ 8) → (o5.length = 32) → ((8 - t581).toNat < ml3) → Go E Γ 104 90 [0] ((PostX Γ sH_Sum_enc) (Lo.el (sH_Sum_l3 x2 ml3 t581 o5) (fun z : List UInt8 => sH_Sum_k3 x1 z))) kl3 (stL [(2, .addr 10 0), (7, .addr 14 0), (57, .agg [t32 ((x2.1).1), t32 ((x2.1).2.1), t32 ((x2.1).2.2.1), t32 ((x2.1).2.2.2.1), t32 ((x2.1).2.2.2.2.1), t32 ((x2.1).2.2.2.2.2.1), t32 ((x2.1).2.2.2.2.2.2.1), t32 ((x2.1).2.2.2.2.2.2.2)]), (58, ti t581)] [(0, (hO 90 x1.2)), (10, z32), (90, u8s ((x1.2).2.1)), (14, u8s o5)]) := by
    intro ml3
    induction ml3 with
    | zero => intro t581 o5 i0l3 i1l3 i2l3 hml3; exact absurd hml3 (Nat.not_lt_zero _)
    | succ ml3 ihl3 =>
     intro t581 o5 i0l3 i1l3 i2l3 hml3
     rw [sH_Sum_l3]
     refine Go.round hl3 ?_
     intro k hk
     refine Go.rx 20 {} [] [2, 7, 57, 58, 59] _ [(2, .addr 10 0), (7, .addr 14 0), (57, .agg [t32 ((x2.1).1), t32 ((x2.1).2.1), t32 ((x2.1).2.2.1), t32 ((x2.1).2.2.2.1), t32 ((x2.1).2.2.2.2.1), t32 ((x2.1).2.2.2.2.2.1), t32 ((x2.1).2.2.2.2.2.2.1), t32 ((x2.1).2.2.2.2.2.2.2)]), (58, ti t581), (59, tb (decide (t581 < 8)))] [(0, (hO 90 x1.2)), (10, z32), (90, u8s ((x1.2).2.1)), (14, u8s o5)] hk rfl kr (.cons trivial .nil) ?_
     clear hk; intro k hk
     refine Go.br 20 (Pf := (fun z : Lo (List UInt8) (List UInt8 × hOT) => (PostX Γ sH_Sum_enc) (Lo.el z (fun z : List UInt8 => sH_Sum_k3 x1 z)))) hk rfl rfl ?_ ?_ <;> clear hk <;> intro ct1 k hk
     ·have ct1p := of_decide_eq_true ct1
      refine Go.rx 20 { ws := [(1, { v := some (t32 ((l8 (x2.1)).getD t581.toNat 0)) })] } [] [2, 7, 8, 9, 57, 58] _ [(2, .addr 10 0), (7, .addr 14 0), (8, ti t581), (9, t32 ((l8 (x2.1)).getD t581.toNat 0)), (57, .agg [t32 ((x2.1).1), t32 ((x2.1).2.1), t32 ((x2.1).2.2.1), t32 ((x2.1).2.2.2.1), t32 ((x2.1).2.2.2.2.1), t32 ((x2.1).2.2.2.2.2.1), t32 ((x2.1).2.2.2.2.2.2.1), t32 ((x2.1).2.2.2.2.2.2.2)]), (58, ti t581)] [(0, (hO 90 x1.2)), (10, z32), (90, u8s ((x1.2).2.1)), (14, u8s o5)] hk rfl kr (.cons (om : 0 ≤ (t581 : Int) ∧ (t581 : Int) < 8) (.cons (part1 (kr : (E.ti 81).agg = false) (mp_get (g := (fun c : UInt32 => T.leaf (.int .u32 c.toNat))) (k := t581.toNat * 1) (n := t581.toNat) (l8 (x2.1)) (0 : UInt32) (by omega) om)) .nil)) ?_
      clear hk; intro k hk
      refine Go.rx 20 { ws := [(1, { v := some (ti (4 * t581)) }), (3, { v := some (ti (4 * t581)) }), (4, { v := some (ti (4 * t581 + 1)) }), (6, { v := some (ti (4 * t581)) }), (7, { v := some (ti (4 * t581 + 2)) }), (9, { v := some (ti (4 * t581)) }), (10, { v := some (ti (4 * t581 + 3)) }), (12, { v := some (t32 (shr32 ((l8 (x2.1)).getD t581.toNat 0) 24)) }), (13, { v := some (t8 ((shr32 ((l8 (x2.1)).getD t581.toNat 0) 24).toUInt8)) }), (15, { v := some (t32 (shr32 ((l8 (x2.1)).getD t581.toNat 0) 16)) }), (16, { v := some (t8 ((shr32 ((l8 (x2.1)).getD t581.toNat 0) 16).toUInt8)) }), (18, { v := some (t32 (shr32 ((l8 (x2.1)).getD t581.toNat 0) 8)) }), (19, { v := some (t8 ((shr32 ((l8 (x2.1)).getD t581.toNat 0) 8).toUInt8)) }), (21, { v := some (t8 (((l8 (x2.1)).getD t581.toNat 0).toUInt8)) }), (23, { c := some (u8s (o5.set ((4 * t581).toNat) ((shr32 ((l8 (x2.1)).getD t581.toNat 0) 24).toUInt8))), sym := true }), (25, { c := some (u8s ((o5.set ((4 * t581).toNat) ((shr32 ((l8 (x2.1)).getD t581.toNat 0) 24).toUInt8)).set ((4 * t581 + 1).toNat) ((shr32 ((l8 (x2.1)).getD t581.toNat 0) 16).toUInt8))), sym := true }), (27, { c := some (u8s (((o5.set ((4 * t581).toNat) ((shr32 ((l8 (x2.1)).getD t581.toNat 0) 24).toUInt8)).set ((4 * t581 + 1).toNat) ((shr32 ((l8 (x2.1)).getD t581.toNat 0) 16).toUInt8)).set ((4 * t581 + 2).toNat) ((shr32 ((l8 (x2.1)).getD t581.toNat 0) 8).toUInt8))), sym := true }), (29, { c := some (u8s ((((o5.set ((4 * t581).toNat) ((shr32 ((l8 (x2.1)).getD t581.toNat 0) 24).toUInt8)).set ((4 * t581 + 1).toNat) ((shr32 ((l8 (x2.1)).getD t581.toNat 0) 16).toUInt8)).set ((4 * t581 + 2).toNat) ((shr32 ((l8 (x2.1)).getD t581.toNat 0) 8).toUInt8)).set ((4 * t581 + 3).toNat) (((l8 (x2.1)).getD t581.toNat 0).toUInt8))), sym := true })] } [] [2, 7, 57, 58] _ [(2, .addr 10 0), (7, .addr 14 0), (57, .agg [t32 ((x2.1).1), t32 ((x2.1).2.1), t32 ((x2.1).2.2.1), t32 ((x2.1).2.2.2.1), t32 ((x2.1).2.2.2.2.1), t32 ((x2.1).2.2.2.2.2.1), t32 ((x2.1).2.2.2.2.2.2.1), t32 ((x2.1).2.2.2.2.2.2.2)]), (58, ti t581)] [(0, (hO 90 x1.2)), (10, z32), (90, u8s ((x1.2).2.1)), (14, u8s ((((o5.set ((4 * t581).toNat) ((shr32 ((l8 (x2.1)).getD t581.toNat 0) 24).toUInt8)).set ((4 * t581 + 1).toNat) ((shr32 ((l8 (x2.1)).getD t581.toNat 0) 16).toUInt8)).set ((4 * t581 + 2).toNat) ((shr32 ((l8 (x2.1)).getD t581.toNat 0) 8).toUInt8)).set ((4 * t581 + 3).toNat) (((l8 (x2.1)).getD t581.toNat 0).toUInt8)))] hk rfl kr (.cons trivial (.cons (iw (4 * t581) om) (.cons trivial (.cons (iw (4 * t581) om) (.cons trivial (.cons (iw (4 * t581 + 1) om) (.cons trivial (.cons (iw (4 * t581) om) (.cons trivial (.cons (iw (4 * t581 + 2) om) (.cons trivial (.cons (iw (4 * t581) om) (.cons trivial (.cons (iw (4 * t581 + 3) om) (.cons (by decide : 0 ≤ (24 : Int)) (.cons (shrT32 ((l8 (x2.1)).getD t581.toNat 0) 24) (.cons (cv32_8 (shr32 ((l8 (x2.1)).getD t581.toNat 0) 24)) (.cons (by decide : 0 ≤ (16 : Int)) (.cons (shrT32 ((l8 (x2.1)).getD t581.toNat 0) 16) (.cons (cv32_8 (shr32 ((l8 (x2.1)).getD t581.toNat 0) 16)) (.cons (by decide : 0 ≤ (8 : Int)) (.cons (shrT32 ((l8 (x2.1)).getD t581.toNat 0) 8) (.cons (cv32_8 (shr32 ((l8 (x2.1)).getD t581.toNat 0) 8)) (.cons (cv32_8 ((l8 (x2.1)).getD t581.toNat 0)) (.cons (om : 0 ≤ (4 * t581 : Int) ∧ (4 * t581 : Int) < 32) (.cons (rfl : scalL [t8 ((shr32 ((l8 (x2.1)).getD t581.toNat 0) 24).toUInt8)] = true) (.cons (by decide : 1 ≤ 1) (.cons (by decide : 1 ≤ 1) (.cons (qd8_2 : 0 + (4 * t581).toNat * 1 + 1 ≤ (u8s o5).length) (.cons (mp_set (g := zU) (k := 0 + (4 * t581).toNat * 1) (n := (4 * t581).toNat) (x := (shr32 ((l8 (x2.1)).getD t581.toNat 0) 24).toUInt8) o5 rfl (by omega) om) (.cons (om : 0 ≤ (4 * t581 + 1 : Int) ∧ (4 * t581 + 1 : Int) < 32) (.cons (rfl : scalL [t8 ((shr32 ((l8 (x2.1)).getD t581.toNat 0) 16).toUInt8)] = true) (.cons (by decide : 1 ≤ 1) (.cons (by decide : 1 ≤ 1) (.cons (qd8_2 : 0 + (4 * t581 + 1).toNat * 1 + 1 ≤ (u8s (o5.set ((4 * t581).toNat) ((shr32 ((l8 (x2.1)).getD t581.toNat 0) 24).toUInt8))).length) (.cons (mp_set (g := zU) (k := 0 + (4 * t581 + 1).toNat * 1) (n := (4 * t581 + 1).toNat) (x := (shr32 ((l8 (x2.1)).getD t581.toNat 0) 16).toUInt8) (o5.set ((4 * t581).toNat) ((shr32 ((l8 (x2.1)).getD t581.toNat 0) 24).toUInt8)) rfl (by omega) om) (.cons (om : 0 ≤ (4 * t581 + 2 : Int) ∧ (4 * t581 + 2 : Int) < 32) (.cons (rfl : scalL [t8 ((shr32 ((l8 (x2.1)).getD t581.toNat 0) 8).toUInt8)] = true) (.cons (by decide : 1 ≤ 1) (.cons (by decide : 1 ≤ 1) (.cons (qd8_2 : 0 + (4 * t581 + 2).toNat * 1 + 1 ≤ (u8s ((o5.set ((4 * t581).toNat) ((shr32 ((l8 (x2.1)).getD t581.toNat 0) 24).toUInt8)).set ((4 * t581 + 1).toNat) ((shr32 ((l8 (x2.1)).getD t581.toNat 0) 16).toUInt8))).length) (.cons (mp_set (g := zU) (k := 0 + (4 * t581 + 2).toNat * 1) (n := (4 * t581 + 2).toNat) (x := (shr32 ((l8 (x2.1)).getD t581.toNat 0) 8).toUInt8) ((o5.set ((4 * t581).toNat) ((shr32 ((l8 (x2.1)).getD t581.toNat 0) 24).toUInt8)).set ((4 * t581 + 1).toNat) ((shr32 ((l8 (x2.1)).getD t581.toNat 0) 16).toUInt8)) rfl (by omega) om) (.cons (om : 0 ≤ (4 * t581 + 3 : Int) ∧ (4 * t581 + 3 : Int) < 32) (.cons (rfl : scalL [t8 (((l8 (x2.1)).getD t581.toNat 0).toUInt8)] = true) (.cons (by decide : 1 ≤ 1) (.cons (by decide : 1 ≤ 1) (.cons (qd8_2 : 0 + (4 * t581 + 3).toNat * 1 + 1 ≤ (u8s (((o5.set ((4 * t581).toNat) ((shr32 ((l8 (x2.1)).getD t581.toNat 0) 24).toUInt8)).set ((4 * t581 + 1).toNat) ((shr32 ((l8 (x2.1)).getD t581.toNat 0) 16).toUInt8)).set ((4 * t581 + 2).toNat) ((shr32 ((l8 (x2.1)).getD t581.toNat 0) 8).toUInt8))).length) (.cons (mp_set (g := zU) (k := 0 + (4 * t581 + 3).toNat * 1) (n := (4 * t581 + 3).toNat) (x := ((l8 (x2.1)).getD t581.toNat 0).toUInt8) (((o5.set ((4 * t581).toNat) ((shr32 ((l8 (x2.1)).getD t581.toNat 0) 24).toUInt8)).set ((4 * t581 + 1).toNat) ((shr32 ((l8 (x2.1)).getD t581.toNat 0) 16).toUInt8)).set ((4 * t581 + 2).toNat) ((shr32 ((l8 (x2.1)).getD t581.toNat 0) 8).toUInt8)) rfl (by omega) om) .nil)))))))))))))))))))))))))))))))))))))))))))))))) ?_
      clear hk; intro k hk
      refine Go.rx 20 { ws := [(0, { v := some (ti (t581 + 1)) })] } [] [2, 7, 57, 58] _ [(2, .addr 10 0), (7, .addr 14 0), (57, .agg [t32 ((x2.1).1), t32 ((x2.1).2.1), t32 ((x2.1).2.2.1), t32 ((x2.1).2.2.2.1), t32 ((x2.1).2.2.2.2.1), t32 ((x2.1).2.2.2.2.2.1), t32 ((x2.1).2.2.2.2.2.2.1), t32 ((x2.1).2.2.2.2.2.2.2)]), (58, ti (t581 + 1))] [(0, (hO 90 x1.2)), (10, z32), (90, u8s ((x1.2).2.1)), (14, u8s ((((o5.set ((4 * t581).toNat) ((shr32 ((l8 (x2.1)).getD t581.toNat 0) 24).toUInt8)).set ((4 * t581 + 1).toNat) ((shr32 ((l8 (x2.1)).getD t581.toNat 0) 16).toUInt8)).set ((4 * t581 + 2).toNat) ((shr32 ((l8 (x2.1)).getD t581.toNat 0) 8).toUInt8)).set ((4 * t581 + 3).toNat) (((l8 (x2.1)).getD t581.toNat 0).toUInt8)))] hk rfl kr (.cons trivial (.cons (iw (t581 + 1) om) .nil)) ?_
      clear hk; intro k hk
      exact Go.join 20 hk hl3 rfl (ihl3 (t581 + 1) ((((o5.set ((4 * t581).toNat) ((shr32 ((l8 (x2.1)).getD t581.toNat 0) 24).toUInt8)).set ((4 * t581 + 1).toNat) ((shr32 ((l8 (x2.1)).getD t581.toNat 0) 16).toUInt8)).set ((4 * t581 + 2).toNat) ((shr32 ((l8 (x2.1)).getD t581.toNat 0) 8).toUInt8)).set ((4 * t581 + 3).toNat) (((l8 (x2.1)).getD t581.toNat 0).toUInt8)) qd8_3 qd8_3 qd8_3 om)
     ·have ct1p := of_decide_eq_false ct1
      refine Go.keepN [2, 7] (L' := [(2, .addr 10 0), (7, .addr 14 0)]) rfl ?_
      exact Go.exitX (Pf := (PostX Γ sH_Sum_enc)) (F := fun z : List UInt8 => sH_Sum_k3 x1 z) (a := o5) (Go.join 20 hk hxl3 rfl (Xl3 o5 qd8_3))
   exact Ll3 _ 0 (List.replicate 32 0) qd8_3 qd8_3 qd8_3 (Nat.lt_succ_self _)
  have Ll2 : ∀ (ml2 : Nat) (t381 : Int) (o3 : List UInt8), (0 ≤ t381) → (t381 ≤ 8) → ((o3.length : Int) ≤ 64 + t381) → ((8 - t381).toNat < ml2) → Go E Γ 104 90 [0] ((PostX Γ sH_Sum_enc) (Lo.el (sH_Sum_l2 x1 ml2 t381 o3) (fun z : List UInt8 => sH_Sum_k2 x1 z))) kl2 (stL [(2, .addr 10 0), (3, .addr 12 0), (4, t64 (8 * ((x1.1).2.2))), (5, .ref 13 1 0 o3.length), (38, ti t381)] [(0, (hO 90 x1.2)), (10, z32), (90, u8s ((x1.2).2.1)), (11, u8s ((x1.1).2.1)), (12, (hO 11 x1.1)), (13, u8s o3)]) := by
   intro ml2
   induction ml2 with
   | zero => intro t381 o3 i0l2 i1l2 i2l2 hml2; exact absurd hml2 (Nat.not_lt_zero _)
   | succ ml2 ihl2 =>
    intro t381 o3 i0l2 i1l2 i2l2 hml2
    rw [sH_Sum_l2]
    refine Go.round hl2 ?_
    intro k hk
    refine Go.rx 20 {} [] [2, 3, 4, 5, 38, 39] _ [(2, .addr 10 0), (3, .addr 12 0), (4, t64 (8 * ((x1.1).2.2))), (5, .ref 13 1 0 o3.length), (38, ti t381), (39, tb (decide (t381 < 8)))] [(0, (hO 90 x1.2)), (10, z32), (90, u8s ((x1.2).2.1)), (11, u8s ((x1.1).2.1)), (12, (hO 11 x1.1)), (13, u8s o3)] hk rfl kr (.cons trivial .nil) ?_
    clear hk; intro k hk
    refine Go.br 20 (Pf := (fun z : Lo (List UInt8) (List UInt8 × hOT) => (PostX Γ sH_Sum_enc) (Lo.el z (fun z : List UInt8 => sH_Sum_k2 x1 z)))) hk rfl rfl ?_ ?_ <;> clear hk <;> intro ct2 k hk
    ·have ct2p := of_decide_eq_true ct2
     refine Go.rx 20 {} [] [2, 3, 4, 5, 6, 38] _ [(2, .addr 10 0), (3, .addr 12 0), (4, t64 (8 * ((x1.1).2.2))), (5, .ref 13 1 0 o3.length), (6, ti t381), (38, ti t381)] [(0, (hO 90 x1.2)), (10, z32), (90, u8s ((x1.2).2.1)), (11, u8s ((x1.1).2.1)), (12, (hO 11 x1.1)), (13, u8s o3)] hk rfl kr .nil ?_
     clear hk; intro k hk
     refine Go.rx 20 { ws := [(3, { v := some (ti (7 - t381)) }), (4, { v := some (ti (8 * (7 - t381))) }), (5, { v := some (t64 (shr64 (8 * ((x1.1).2.2)) (8 * (7 - t381)))) }), (6, { v := some (t8 ((shr64 (8 * ((x1.1).2.2)) (8 * (7 - t381))).toUInt8)) }), (7, { id := 15 }), (8, { v := some (.ref 13 1 0 ((o3 ++ [(shr64 (8 * ((x1.1).2.2)) (8 * (7 - t381))).toUInt8]).length)), c := some (u8s (o3 ++ [(shr64 (8 * ((x1.1).2.2)) (8 * (7 - t381))).toUInt8])), id := 13, sym := true })], pg := [11, 13, 90], fd := some [13] } [15] [2, 3, 4, 5, 38] _ [(2, .addr 10 0), (3, .addr 12 0), (4, t64 (8 * ((x1.1).2.2))), (5, .ref 13 1 0 ((o3 ++ [(shr64 (8 * ((x1.1).2.2)) (8 * (7 - t381))).toUInt8]).length)), (38, ti t381)] [(0, (hO 90 x1.2)), (10, z32), (90, u8s ((x1.2).2.1)), (11, u8s ((x1.1).2.1)), (12, (hO 11 x1.1)), (13, u8s (o3 ++ [(shr64 (8 * ((x1.1).2.2)) (8 * (7 - t381))).toUInt8]))] hk rfl kr (.cons trivial (.cons (iw (7 - t381) om) (.cons trivial (.cons (iw (8 * (7 - t381)) om) (.cons (om : 0 ≤ ((8 * (7 - t381)) : Int)) (.cons (shrT64 (8 * ((x1.1).2.2)) (8 * (7 - t381))) (.cons (cv64_8 (shr64 (8 * ((x1.1).2.2)) (8 * (7 - t381)))) (.cons (Nat.le_of_ble_eq_true rfl : 0 + 1 * 1 ≤ ([t8 ((shr64 (8 * ((x1.1).2.2)) (8 * (7 - t381))).toUInt8)] : List T).length) (.cons (by simp only [List.length_map]; omega : 0 + o3.length * 1 ≤ (u8s o3).length) (.cons (rfl : scalL [t8 ((shr64 (8 * ((x1.1).2.2)) (8 * (7 - t381))).toUInt8)] = true) (.cons (om : (o3.length + 1) * 1 ≤ 140737488355328) (.cons (mp_app (g := zU) (o3) [(shr64 (8 * ((x1.1).2.2)) (8 * (7 - t381))).toUInt8] rfl) (.cons (mp_mem (i := 13) (g := zU) (o3 ++ [(shr64 (8 * ((x1.1).2.2)) (8 * (7 - t381))).toUInt8]) (fun _ => rfl)) (.cons (by first | rfl | (simp; done) | (refine congrArg (fun q => T.ref 13 1 0 q) ?_; simp <;> omega) : T.ref 13 1 0 (o3.length + 1) = .ref 13 1 0 ((o3 ++ [(shr64 (8 * ((x1.1).2.2)) (8 * (7 - t381))).toUInt8]).length)) (.cons (mp_mem (i := 13) (g := zU) ((x1.2).2.1) (fun _ => rfl)) (.cons (mp_mem (i := 13) (g := zU) ((x1.1).2.1) (fun _ => rfl)) (.cons (mp_mem (i := 15) (g := zU) ((x1.2).2.1) (fun _ => rfl)) (.cons (mp_mem (i := 15) (g := zU) ((x1.1).2.1) (fun _ => rfl)) (.cons (mp_mem (i := 15) (g := zU) (o3 ++ [(shr64 (8 * ((x1.1).2.2)) (8 * (7 - t381))).toUInt8]) (fun _ => rfl)) .nil))))))))))))))))))) ?_
     clear hk; intro k hk
     refine Go.rx 20 { ws := [(0, { v := some (ti (t381 + 1)) })] } [] [2, 3, 4, 5, 38] _ [(2, .addr 10 0), (3, .addr 12 0), (4, t64 (8 * ((x1.1).2.2))), (5, .ref 13 1 0 ((o3 ++ [(shr64 (8 * ((x1.1).2.2)) (8 * (7 - t381))).toUInt8]).length)), (38, ti (t381 + 1))] [(0, (hO 90 x1.2)), (10, z32), (90, u8s ((x1.2).2.1)), (11, u8s ((x1.1).2.1)), (12, (hO 11 x1.1)), (13, u8s (o3 ++ [(shr64 (8 * ((x1.1).2.2)) (8 * (7 - t381))).toUInt8]))] hk rfl kr (.cons trivial (.cons (iw (t381 + 1) om) .nil)) ?_
     clear hk; intro k hk
     exact Go.join 20 hk hl2 rfl (ihl2 (t381 + 1) (o3 ++ [(shr64 (8 * ((x1.1).2.2)) (8 * (7 - t381))).toUInt8]) om om om om)
    ·have ct2p := of_decide_eq_false ct2
     refine Go.keepN [2, 3, 5] (L' := [(2, .addr 10 0), (3, .addr 12 0), (5, .ref 13 1 0 o3.length)]) rfl ?_
     exact Go.exitX (Pf := (PostX Γ sH_Sum_enc)) (F := fun z : List UInt8 => sH_Sum_k2 x1 z) (a := o3) (Go.join 20 hk hxl2 rfl (Xl2 o3 om))
  exact Ll2 _ 0 o2 om om om (Nat.lt_succ_self _)
 have Ll1 : ∀ (ml1 : Nat) (o1 : List UInt8), ((o1.length : Int) + (56 - (x1.1.2.2.toNat % 64 : Int) - o1.length) % 64 ≤ 64) → (((56 - (x1.1.2.2.toNat % 64 : Int) - o1.length) % 64).toNat < ml1) → Go E Γ 104 90 [0] ((PostX Γ sH_Sum_enc) (Lo.el (sH_Sum_l1 x1 ml1 o1) (fun z : List UInt8 => sH_Sum_k1 x1 z))) kl1 (stL [(2, .addr 10 0), (3, .addr 12 0), (4, t64 (8 * ((x1.1).2.2))), (5, .ref 13 1 0 o1.length)] [(0, (hO 90 x1.2)), (10, z32), (90, u8s ((x1.2).2.1)), (11, u8s ((x1.1).2.1)), (12, (hO 11 x1.1)), (13, u8s o1)]) := by
  intro ml1
  induction ml1 with
  | zero => intro o1 i0l1 hml1; exact absurd hml1 (Nat.not_lt_zero _)
  | succ ml1 ihl1 =>
   intro o1 i0l1 hml1
   rw [sH_Sum_l1]
   refine Go.round hl1 ?_
   intro k hk
   refine Go.rx 20 { ws := [(4, { v := some (t64 (((x1.1).2.2) % 64)) }), (5, { v := some (ti ((((x1.1).2.2) % 64).toNat : Int)) }), (8, { v := some (ti (((((x1.1).2.2) % 64).toNat : Int) + (o1.length : Int))) }), (9, { v := some (ti (((((x1.1).2.2) % 64).toNat : Int) + (o1.length : Int) + 8)) }), (10, { v := some (ti ((((((x1.1).2.2) % 64).toNat : Int) + (o1.length : Int) + 8) % 64)) })] } [] [2, 3, 4, 5, 34] _ [(2, .addr 10 0), (3, .addr 12 0), (4, t64 (8 * ((x1.1).2.2))), (5, .ref 13 1 0 o1.length), (34, tb (((((((x1.1).2.2) % 64).toNat : Int) + (o1.length : Int) + 8) % 64) != 0))] [(0, (hO 90 x1.2)), (10, z32), (90, u8s ((x1.2).2.1)), (11, u8s ((x1.1).2.1)), (12, (hO 11 x1.1)), (13, u8s o1)] hk rfl kr (.cons (by decide : ((64 : UInt64).toNat : Int) ≠ (0 : Int)) (.cons (rem64 ((x1.1).2.2) 64) (.cons (iw (((((x1.1).2.2) % 64).toNat : Int)) om) (.cons trivial (.cons (iw (((((x1.1).2.2) % 64).toNat : Int) + (o1.length : Int)) om) (.cons trivial (.cons (iw (((((x1.1).2.2) % 64).toNat : Int) + (o1.length : Int) + 8) om) (.cons (by decide : 64 ≠ (0 : Int)) (.cons (remI (((((x1.1).2.2) % 64).toNat : Int) + (o1.length : Int) + 8) 64 om) (.cons trivial .nil)))))))))) ?_
   clear hk; intro k hk
   refine Go.br 20 (Pf := (fun z : Lo (List UInt8) (List UInt8 × hOT) => (PostX Γ sH_Sum_enc) (Lo.el z (fun z : List UInt8 => sH_Sum_k1 x1 z)))) hk rfl rfl ?_ ?_ <;> clear hk <;> intro ct3 k hk
   ·have ct3p := neIt ct3
    refine Go.rx 20 { ws := [(1, { id := 16 }), (2, { v := some (.ref 13 1 0 ((o1 ++ [0]).length)), c := some (u8s (o1 ++ [0])), id := 13, sym := true })], pg := [11, 13, 90], fd := some [13] } [16] [2, 3, 4, 5] _ [(2, .addr 10 0), (3, .addr 12 0), (4, t64 (8 * ((x1.1).2.2))), (5, .ref 13 1 0 ((o1 ++ [0]).length))] [(0, (hO 90 x1.2)), (10, z32), (90, u8s ((x1.2).2.1)), (11, u8s ((x1.1).2.1)), (12, (hO 11 x1.1)), (13, u8s (o1 ++ [0]))] hk rfl kr (.cons (Nat.le_of_ble_eq_true rfl : 0 + 1 * 1 ≤ ([t8 0] : List T).length) (.cons (by simp only [List.length_map]; omega : 0 + o1.length * 1 ≤ (u8s o1).length) (.cons (rfl : scalL [t8 0] = true) (.cons (om : (o1.length + 1) * 1 ≤ 140737488355328) (.cons (mp_app (g := zU) (o1) [0] rfl) (.cons (mp_mem (i := 13) (g := zU) (o1 ++ [0]) (fun _ => rfl)) (.cons (by first | rfl | (simp; done) | (refine congrArg (fun q => T.ref 13 1 0 q) ?_; simp <;> omega) : T.ref 13 1 0 (o1.length + 1) = .ref 13 1 0 ((o1 ++ [0]).length)) (.cons (mp_mem (i := 13) (g := zU) ((x1.2).2.1) (fun _ => rfl)) (.cons (mp_mem (i := 13) (g := zU) ((x1.1).2.1) (fun _ => rfl)) (.cons (mp_mem (i := 16) (g := zU) ((x1.2).2.1) (fun _ => rfl)) (.cons (mp_mem (i := 16) (g := zU) ((x1.1).2.1) (fun _ => rfl)) (.cons (mp_mem (i := 16) (g := zU) (o1 ++ [0]) (fun _ => rfl)) .nil)))))))))))) ?_
    clear hk; intro k hk
    exact Go.join 20 hk hl1 rfl (ihl1 (o1 ++ [0]) om om)
   ·have ct3p := neIf ct3
    refine Go.keepN [2, 3, 4, 5] (L' := [(2, .addr 10 0), (3, .addr 12 0), (4, t64 (8 * ((x1.1).2.2))), (5, .ref 13 1 0 o1.length)]) rfl ?_
    exact Go.exitX (Pf := (PostX Γ sH_Sum_enc)) (F := fun z : List UInt8 => sH_Sum_k1 x1 z) (a := o1) (Go.join 20 hk hxl1 rfl (Xl1 o1 om))
 exact Ll1 _ [128] om (Nat.lt_succ_self _)
noncomputable def pz (n : UInt64) : Nat := ((55 - (n.toNat % 64 : Int)) % 64).toNat
noncomputable def padb (n : UInt64) : List UInt8 := [128] ++ List.replicate (pz n) 0 ++ be64 (8 * n)
def w4 (x : UInt32) : List UInt8 := [(shr32 x 24).toUInt8, (shr32 x 16).toUInt8, (shr32 x 8).toUInt8, x.toUInt8]
def outb (h : V8) : List UInt8 := w4 h.1 ++ w4 h.2.1 ++ w4 h.2.2.1 ++ w4 h.2.2.2.1 ++ w4 h.2.2.2.2.1 ++ w4 h.2.2.2.2.2.1 ++ w4 h.2.2.2.2.2.2.1 ++ w4 h.2.2.2.2.2.2.2
noncomputable def dig (h : V8) (r : List UInt8) (n : UInt64) : List UInt8 := outb (absb h (r ++ padb n)).1
theorem sum_l1 (x : hOT × hOT) : ∀ (m : Nat) (o : List UInt8), ((56 - (x.1.2.2.toNat % 64 : Int) - (o.length : Int)) % 64).toNat < m →
  sH_Sum_l1 x m o = Lo.brk (o ++ List.replicate ((56 - (x.1.2.2.toNat % 64 : Int) - (o.length : Int)) % 64).toNat 0)
 | 0, _, h => absurd h (Nat.not_lt_zero _)
 | m + 1, o, h => by
  have e64 : (x.1.2.2 % 64).toNat = x.1.2.2.toNat % 64 := by rw [UInt64.toNat_mod]; rfl
  rw [sH_Sum_l1, e64]
  by_cases c : ((56 - (x.1.2.2.toNat % 64 : Int) - (o.length : Int)) % 64).toNat = 0
  ·rw [c, show ((((x.1.2.2.toNat % 64 : Nat) : Int) + (o.length : Int) + 8) % 64 != 0) = false from by rw [bne_eq_false_iff_eq]; omega, cond_false, List.replicate_zero, List.append_nil]
  ·rw [show ((((x.1.2.2.toNat % 64 : Nat) : Int) + (o.length : Int) + 8) % 64 != 0) = true from by rw [bne_iff_ne]; omega, cond_true]
   rw [sum_l1 x m _ (by simp only [List.length_append, List.length_cons, List.length_nil]; omega)]
   have e : ((56 - (x.1.2.2.toNat % 64 : Int) - (o.length : Int)) % 64).toNat = ((56 - (x.1.2.2.toNat % 64 : Int) - ((o ++ [0]).length : Int)) % 64).toNat + 1 := by
    simp only [List.length_append, List.length_cons, List.length_nil]; omega
   rw [e, List.replicate_succ, List.append_assoc]; rfl
theorem sum_l2 (x : hOT × hOT) (o : List UInt8) : sH_Sum_l2 x ((8 - (0 : Int)).toNat + 1) 0 o = Lo.brk (o ++ be64 (8 * x.1.2.2)) := by
 have : sH_Sum_l2 x ((8 - (0 : Int)).toNat + 1) 0 o = Lo.brk ((((((((o ++ [(shr64 (8 * x.1.2.2) 56).toUInt8]) ++ [(shr64 (8 * x.1.2.2) 48).toUInt8]) ++ [(shr64 (8 * x.1.2.2) 40).toUInt8]) ++ [(shr64 (8 * x.1.2.2) 32).toUInt8]) ++ [(shr64 (8 * x.1.2.2) 24).toUInt8]) ++ [(shr64 (8 * x.1.2.2) 16).toUInt8]) ++ [(shr64 (8 * x.1.2.2) 8).toUInt8]) ++ [(shr64 (8 * x.1.2.2) 0).toUInt8]) := rfl
 rw [this]; simp only [List.append_assoc, be64, List.cons_append, List.nil_append]
theorem sum_l3 (x : hOT) : sH_Sum_l3 x ((8 - (0 : Int)).toNat + 1) 0 (List.replicate 32 0) = Lo.brk (outb x.1) := by kernel_rfl
theorem sum_eq0 (h : hOT) : sH_Sum h = (outb (sH_Write h (padb h.2.2)).1, h) := by
 rw [sH_Sum, bnd_eq, sH_Clone, List.nil_append]
 rw [show ([128] : List Nat).length = ([128] : List UInt8).length from rfl, sum_l1 _ _ _ (Nat.lt_add_one _), elB, sH_Sum_k1, sum_l2, elB, sH_Sum_k2, bnd_eq, sum_l3, elB, sH_Sum_k3]
 have e : ((56 - (h.2.2.toNat % 64 : Int) - (([128] : List UInt8).length : Int)) % 64).toNat = pz h.2.2 := by
  rw [pz]; simp only [List.length_cons, List.length_nil]; omega
 rw [e]; rfl
theorem sum_eq (h : hOT) (hr : h.2.1.length < 64) : sH_Sum h = (dig h.1 h.2.1 h.2.2, h) := by
 rw [sum_eq0, write_eq _ _ hr]; rfl
@[simp] theorem sum_len1 (h : hOT) : (sH_Sum h).1.length = 32 := by rw [sum_eq0]; rfl
theorem sum_len (h : hOT) (hr : h.2.1.length < 64) : (sH_Sum h).1.length = 32 ∧ (sH_Sum h).2.2.1.length < 64 := by
 rw [sum_eq _ hr]; exact ⟨rfl, hr⟩
theorem sH_Sum_l3_gen : True := by have := @sH_Sum_l3.eq_1; have := @sH_Sum_l3.eq_2; trivial
theorem sH_Sum_l2_gen : True := by have := @sH_Sum_l2.eq_1; have := @sH_Sum_l2.eq_2; trivial
theorem sH_Sum_l1_gen : True := by have := @sH_Sum_l1.eq_1; have := @sH_Sum_l1.eq_2; trivial
attribute [irreducible] sH_Sum_k3 sH_Sum_l3 sH_Sum_k2 sH_Sum_l2 sH_Sum_k1 sH_Sum_l1 sH_Sum
noncomputable def sha_Sum (b : List UInt8) : List UInt8 :=
 bnd (sH_Write sha_New b) fun x1 =>
 bnd (sH_Sum x1) fun x2 =>
 x2.1
def sha_Sum_enc (x : List UInt8) : T × List (Nat × List T) := (.agg (u8s x), [])
theorem sha_Sum_m {g_b : Tag} (b : List UInt8) (hl : b.length ≤ 2000000000) : Meets Tryd.prog 109 [.sl 1 g_b b.length (u8s b)] [] [] (.agg (u8s (sha_Sum b))) [] := by
 refine Meets.enterX (E := E) (N := 10) (enc := sha_Sum_enc) (x := (sha_Sum b)) Tryd.func109 Tryd.call109 rfl rfl ?_
 intro Γ k hk
 refine Go.rx 20 { ws := [(0, { id := 10 })] } [] [0, 2] _ [(0, .sl 1 g_b b.length (u8s b)), (2, .addr 10 0)] [(10, z32)] hk rfl kr .nil ?_
 clear hk; intro k hk
 refine Go.rx 20 { ws := [(0, { call := some { ids := [], S := [], M := [], R := .addr 11 0, H' := [(11, (hO 12 sha_New)), (12, u8s sha_New.2.1)] } })] } [] [0, 2, 3] _ [(0, .sl 1 g_b b.length (u8s b)), (2, .addr 10 0), (3, .addr 11 0)] [(10, z32), (11, (hO 12 sha_New)), (12, u8s sha_New.2.1)] hk rfl kr (.cons (Meets.sw [(10, 11), (90, 12)] (sha_New_m) : Meets Tryd.prog 101 [] [] [] (.addr 11 0) [(11, (hO 12 sha_New)), (12, u8s sha_New.2.1)]) (.cons (sb : subN (idsL []) [] = true) .nil)) ?_
 clear hk; intro k hk
 refine Go.rx 20 { ws := [(2, { call := some { ids := [11, 12], S := [11], M := [], R := .tup [], H' := [(11, (hO 12 (sH_Write sha_New b))), (12, u8s ((sH_Write sha_New b).2.1))] } })], fd := some [12] } [] [2, 3] _ [(2, .addr 10 0), (3, .addr 11 0)] [(10, z32), (11, (hO 12 (sH_Write sha_New b))), (12, u8s ((sH_Write sha_New b).2.1))] hk rfl kr (.cons (Meets.sw [(0, 11), (90, 12)] (sH_Write_m (g_a1 := g_b) sha_New b (by first | omega | (rw [new_len]; decide) | (simp; done)) (by first | omega | (simp only [List.length_append, List.length_cons, List.length_nil]; omega) | (simp; omega) | (simp; done))) : Meets Tryd.prog 102 [.addr 11 0, .sl 1 g_b b.length (u8s b)] [(11, (hO 12 sha_New)), (12, u8s sha_New.2.1)] [11] (.tup []) [(11, (hO 12 (sH_Write sha_New b))), (12, u8s ((sH_Write sha_New b).2.1))]) (.cons (sb : subN (idsL [.addr 11 0, .sl 1 g_b b.length (u8s b)]) [11, 12] = true) (.cons (sb : subN (idsL (hO 12 sha_New)) [11, 12] = true) (.cons (by rw [(mp_ids (g := zU) sha_New.2.1 (fun _ => rfl))]; rfl : subN (idsL (u8s sha_New.2.1)) [11, 12] = true) .nil)))) ?_
 clear hk; intro k hk
 refine Go.bnd (Pf := (PostX Γ sha_Sum_enc)) (v := (sH_Write sha_New b)) (fun x1 => [(2, .addr 10 0), (3, .addr 11 0)]) (fun x1 => [(10, z32), (11, (hO 12 x1)), (12, u8s x1.2.1)]) ?_
 intro x1 hx1
 have fx1 := write_len sha_New b qd8_4
 rw [← hx1] at fx1
 refine Go.rx 20 { ws := [(1, { call := some { ids := [11, 12], S := [11], M := [], R := .agg (u8s ((sH_Sum x1).1)), H' := [(11, (hO 12 ((sH_Sum x1).2))), (12, u8s (((sH_Sum x1).2).2.1))] } }), (2, { c := some (u8s ((sH_Sum x1).1)), sym := true })], ps := [9], pg := [10, 12], fd := some [12] } [11, 12] [2] _ [(2, .addr 10 0)] [(10, u8s ((sH_Sum x1).1))] hk rfl kr (.cons (Meets.sw [(0, 11), (90, 12)] (sH_Sum_m x1 (by first | omega | (rw [new_len]; decide) | (simp; done))) : Meets Tryd.prog 104 [.addr 11 0] [(11, (hO 12 x1)), (12, u8s x1.2.1)] [11] (.agg (u8s ((sH_Sum x1).1))) [(11, (hO 12 ((sH_Sum x1).2))), (12, u8s (((sH_Sum x1).2).2.1))]) (.cons (sb : subN (idsL [.addr 11 0]) [11, 12] = true) (.cons (sb : subN (idsL (hO 12 x1)) [11, 12] = true) (.cons (by rw [(mp_ids (g := zU) x1.2.1 (fun _ => rfl))]; rfl : subN (idsL (u8s x1.2.1)) [11, 12] = true) (.cons (sb : memN 12 (idsL z32) = false) (.cons (mp_scal ((sH_Sum x1).1) (fun _ => rfl) : scalL (u8s ((sH_Sum x1).1)) = true) (.cons (by rw [List.length_map, (qd8_1 : ((sH_Sum x1).1).length = 32)]; decide : (u8s ((sH_Sum x1).1)).length ≤ 32) (.cons (by rw [List.length_map, (qd8_1 : ((sH_Sum x1).1).length = 32)]; decide : 32 ≤ (u8s ((sH_Sum x1).1)).length) (.cons (by rw [List.length_map, (qd8_1 : ((sH_Sum x1).1).length = 32)]; exact Nat.le_of_ble_eq_true rfl : 0 + (u8s ((sH_Sum x1).1)).length ≤ (z32 : List T).length) (.cons (splice_whole (cs := z32) (v := u8s ((sH_Sum x1).1)) (by rw [List.length_map, (qd8_1 : ((sH_Sum x1).1).length = 32)]; rfl)) (.cons (mp_memA (i := 11) (g := zU) ((sH_Sum x1).1) (fun _ => rfl)) (.cons (mp_mem (i := 11) (g := zU) ((sH_Sum x1).1) (fun _ => rfl)) (.cons (mp_mem (i := 11) (g := zU) (((sH_Sum x1).2).2.1) (fun _ => rfl)) (.cons (mp_memA (i := 12) (g := zU) ((sH_Sum x1).1) (fun _ => rfl)) (.cons (mp_mem (i := 12) (g := zU) ((sH_Sum x1).1) (fun _ => rfl)) .nil))))))))))))))) ?_
 clear hk; intro k hk
 refine Go.bnd (Pf := (PostX Γ sha_Sum_enc)) (v := (sH_Sum x1)) (fun x2 => [(2, .addr 10 0)]) (fun x2 => [(10, u8s x2.1)]) ?_
 intro x2 hx2
 have fx2 := sum_len x1 qd8_4
 rw [← hx2] at fx2
 obtain ⟨fx20, fx21⟩ := fx2
 exact Go.lvx 20 [] _ [.agg (sub (u8s x2.1) 0 32)] Tryd.func109 hk rfl kr (.cons (by rw [List.length_map, (qd8_1 : (x2.1).length = 32)]; exact Nat.le_of_ble_eq_true rfl : 0 + 32 ≤ (u8s x2.1).length) .nil) (T.Le.of_eq (congrArg T.agg (arr_all (qd8_1 : (x2.1).length = 32)))) rfl (by first | rfl | (simp only [sha_Sum_enc, T.ids, idsL, er_ids, List.append_nil, List.nil_append]; first | rfl | (rw [mp_ids _ (fun _ => rfl)]; rfl))) .nil
@[simp] theorem ssum_len (b : List UInt8) : (sha_Sum b).length = 32 := by
 rw [sha_Sum, bnd_eq, bnd_eq, sum_len1]
attribute [irreducible] sha_Sum
end Go.Proofs.YtbppcnhfeobefabDoor

import Derived.Test.YtbppcnhfeobefabDoorE1
import Derived.Test.YtbppcnhfeobefabDoorP2
set_option linter.unusedVariables false
namespace Go.Proofs.YtbppcnhfeobefabDoor
open Go Go.Vw Go.Proofs
theorem qe2_1 {p : Prop} (h : p := by first | (simp; done) | (with_reducible assumption) | omega | (simp <;> omega) | rfl) : p := h
theorem qe2_2 {p : Prop} (h : p := by first | omega | (simp only [List.length_append, List.length_cons, List.length_nil]; omega) | (simp; omega) | (simp; done)) : p := h
theorem qe2_3 {p : Prop} (h : p := by first | omega | assumption | (simp; done) | (simp; omega)) : p := h
theorem qe2_4 {p : Prop} (h : p := by simp only [List.length_map]; first | omega | (simp <;> omega) | (simp at * <;> omega) | (split <;> omega) | (split <;> (first | omega | (simp <;> omega) | (simp at * <;> omega)))) : p := h
theorem qe2_5 {p : Prop} (h : p := by first | omega | (rw [new_len]; decide) | (simp; done)) : p := h
theorem qe2_6 {p : Prop} (h : p := by first | omega | (simp; done) | assumption) : p := h
theorem qe2_7 {p : Prop} (h : p := by first | rfl | (rw [mp_ids _ (fun _ => rfl)]; rfl)) : p := h
theorem qe2_8 {p : Prop} (h : p := by first | rfl | (simp only [mp_all]; done) | (simp only [mp_all]; rfl)) : p := h
theorem qe2_9 {p : Prop} (h : p := by first | omega | assumption | (simp; done)) : p := h
theorem qe2_10 {p : Prop} (h : p := by simp only [List.length_map]; omega) : p := h
noncomputable def hmac_padded_k1 (o2 : List UInt8) : List UInt8 :=
 o2
noncomputable def hmac_padded_l1 (with_ : UInt8) (x2 : List UInt8) : Nat → Int → (List UInt8) → Lo (List UInt8) (List UInt8)
 | 0, _, _ => .brk default
 | ml1 + 1, t231, o1 =>
  bif decide (t231 < (x2.length : Int)) then
   hmac_padded_l1 with_ x2 ml1 (t231 + 1) (o1.set t231.toNat ((o1.getD t231.toNat 0) ^^^ with_))
  else
   Lo.brk o1
noncomputable def hmac_padded_k2 (o4 : List UInt8) : List UInt8 :=
 o4
noncomputable def hmac_padded_l2 (with_ : UInt8) (x3 : List UInt8) : Nat → Int → (List UInt8) → Lo (List UInt8) (List UInt8)
 | 0, _, _ => .brk default
 | ml2 + 1, t232, o3 =>
  bif decide (t232 < (x3.length : Int)) then
   hmac_padded_l2 with_ x3 ml2 (t232 + 1) (o3.set t232.toNat ((o3.getD t232.toNat 0) ^^^ with_))
  else
   Lo.brk o3
noncomputable def hmac_padded (key : List UInt8) (with_ : UInt8) : List UInt8 :=
 bif decide ((key.length : Int) > 64) then
  bnd (sha_Sum key) fun x1 =>
  bnd (sCc ([x1, List.replicate ((64 - (x1.length : Int)).toNat) (0 : UInt8)] : List (List UInt8))) fun x2 =>
  Lo.el (hmac_padded_l1 with_ x2 (((x2.length : Int) - (0 : Int)).toNat + 1) 0 x2) (fun z : List UInt8 => hmac_padded_k1 z)
 else
  bnd (sCc ([key, List.replicate ((64 - (key.length : Int)).toNat) (0 : UInt8)] : List (List UInt8))) fun x3 =>
  Lo.el (hmac_padded_l2 with_ x3 (((x3.length : Int) - (0 : Int)).toNat + 1) 0 x3) (fun z : List UInt8 => hmac_padded_k2 z)
def hmac_padded_enc (x : List UInt8) : T × List (Nat × List T) := (.sl 1 .shr x.length (u8s x), [])
theorem hmac_padded_m (key : List UInt8) (with_ : UInt8) (hl : key.length ≤ 2000000000) : Meets Tryd.prog 103 [.sl 1 .shr key.length (u8s key), t8 with_] [] [] (.sl 1 .shr (hmac_padded key with_).length (u8s (hmac_padded key with_))) [] := by
 refine Meets.enterX (E := E) (N := 35) (enc := hmac_padded_enc) (x := (hmac_padded key with_)) Tryd.func103 Tryd.call103 rfl rfl ?_
 intro Γ k hk
 refine Go.rx 20 {} [] [0, 1] _ [(0, .sl 1 .shr key.length (u8s key)), (1, t8 with_)] [] hk rfl kr .nil ?_
 clear hk; intro k hk
 refine Go.rx 20 {} [] [0, 1, 10] _ [(0, .sl 1 .shr key.length (u8s key)), (1, t8 with_), (10, tb (decide ((key.length : Int) > 64)))] [] hk rfl kr (.cons trivial .nil) ?_
 clear hk; intro k hk
 refine Go.br 20 (Pf := (PostX Γ hmac_padded_enc)) hk rfl rfl ?_ ?_ <;> clear hk <;> intro ct2 k hk
 ·have ct2p := of_decide_eq_true ct2
  refine Go.rx 20 { ws := [(1, { call := some { ids := [], S := [], M := [], R := .agg (u8s (sha_Sum key)), H' := [] } }), (2, { id := 10 }), (3, { c := some (u8s (sha_Sum key)), sym := true })] } [] [1, 5] _ [(1, t8 with_), (5, .addr 10 0)] [(10, u8s (sha_Sum key))] hk rfl kr (.cons (sha_Sum_m (g_b := .shr) key qe2_2) (.cons (sb : subN (idsL [.sl 1 .shr key.length (u8s key)]) [] = true) (.cons (mp_scal (sha_Sum key) (fun _ => rfl) : scalL (u8s (sha_Sum key)) = true) (.cons (by rw [List.length_map, (qe2_1 : ((sha_Sum key)).length = 32)]; decide : (u8s (sha_Sum key)).length ≤ 32) (.cons (by rw [List.length_map, (qe2_1 : ((sha_Sum key)).length = 32)]; decide : 32 ≤ (u8s (sha_Sum key)).length) (.cons (by rw [List.length_map, (qe2_1 : ((sha_Sum key)).length = 32)]; exact Nat.le_of_ble_eq_true rfl : 0 + (u8s (sha_Sum key)).length ≤ (z32 : List T).length) (.cons (splice_whole (cs := z32) (v := u8s (sha_Sum key)) (by rw [List.length_map, (qe2_1 : ((sha_Sum key)).length = 32)]; rfl)) .nil))))))) ?_
  clear hk; intro k hk
  refine Go.bnd (Pf := (PostX Γ hmac_padded_enc)) (v := (sha_Sum key)) (fun x1 => [(1, t8 with_), (5, .addr 10 0)]) (fun x1 => [(10, u8s x1)]) ?_
  intro x1 hx1
  have fx1 := ssum_len key
  rw [← hx1] at fx1
  refine Go.rx 20 { ws := [(0, { v := some (.ref 10 1 0 x1.length), sym := true })] } [] [0, 1] _ [(0, .ref 10 1 0 x1.length), (1, t8 with_)] [(10, u8s x1)] hk rfl kr (.cons (qe2_4 : 0 + 32 * 1 ≤ (u8s x1).length) (.cons (by decide : 0 ≤ (0 : Int) ∧ (0 : Int) ≤ ((32 : Nat) : Int) ∧ ((32 : Nat) : Int) ≤ ((32 : Nat) : Int) ∧ ((32 : Nat) : Int) ≤ ((32 : Nat) : Int)) (.cons (congrArg (fun q => T.ref 10 1 0 q) (qe2_1 : (x1).length = 32).symm : T.ref 10 1 (0 + (0 : Int).toNat * 1) ((((32 : Nat) : Int)).toNat - (0 : Int).toNat) = .ref 10 1 0 x1.length) .nil))) ?_
  clear hk; intro k hk
  refine Go.frz [] [] 0 10 (u8s x1) _ [(0, .dead), (1, t8 with_)] [] rfl rfl (mp_ids (g := zU) x1 (fun _ => rfl)) qe2_10 (mp_all (g := zU) x1) kr .nil ?_
  refine Go.rx 20 { ws := [(3, { v := some (ti (64 - (x1.length : Int))) }), (4, { v := some (.sl 1 .shr (List.replicate ((64 - (x1.length : Int)).toNat) (0 : UInt8)).length (u8s (List.replicate ((64 - (x1.length : Int)).toNat) (0 : UInt8)))), c := some (u8s (List.replicate ((64 - (x1.length : Int)).toNat) (0 : UInt8))), id := 11, gv := true }), (5, { id := 12 }), (6, { call := some { ids := [], S := [], M := [12], R := .ref 13 1 0 ((sCc ([x1, List.replicate ((64 - (x1.length : Int)).toNat) (0 : UInt8)] : List (List UInt8))).length), H' := [(13, u8s (sCc ([x1, List.replicate ((64 - (x1.length : Int)).toNat) (0 : UInt8)] : List (List UInt8))))] } })], pg := [13] } [11, 12] [1, 6] _ [(1, t8 with_), (6, .ref 13 1 0 ((sCc ([x1, List.replicate ((64 - (x1.length : Int)).toNat) (0 : UInt8)] : List (List UInt8))).length))] [(13, u8s (sCc ([x1, List.replicate ((64 - (x1.length : Int)).toNat) (0 : UInt8)] : List (List UInt8))))] hk rfl kr (.cons trivial (.cons (iw (64 - (x1.length : Int)) om) (.cons (om : 0 ≤ (64 - (x1.length : Int) : Int) ∧ (64 - (x1.length : Int) : Int) ≤ 64 - (x1.length : Int) ∧ (64 - (x1.length : Int) : Int) < 9223372036854775808 ∧ ((1 : Nat) : Int) * (64 - (x1.length : Int)) ≤ 281474976710656) (.cons (mp_zeros (g := zU) (n := Int.toNat (64 - (x1.length : Int))) (x := (0 : UInt8)) (z := [.int .u8 0]) rfl) (.cons (giveOk (g := zU) (n := Int.toNat (64 - (x1.length : Int))) (List.replicate ((64 - (x1.length : Int)).toNat) (0 : UInt8)) (by simp) (fun _ => rfl)) (.cons (giveEq (g := zU) (n := Int.toNat (64 - (x1.length : Int))) (List.replicate ((64 - (x1.length : Int)).toNat) (0 : UInt8)) (by simp)) (.cons (Meets.sw [(99, 13)] (Meets.eqA (A := [.sl 1 .brw 2 (sub [.sl 1 .shr x1.length (u8s x1), .sl 1 .shr (List.replicate ((64 - (x1.length : Int)).toNat) (0 : UInt8)).length (u8s (List.replicate ((64 - (x1.length : Int)).toNat) (0 : UInt8)))] 0 (2 * 1))]) qe2_8 (sCc_m (g_slices := .brw) ([x1, List.replicate ((64 - (x1.length : Int)).toNat) (0 : UInt8)] : List (List UInt8)) (by first | (simp; done) | (simp <;> omega) | omega) (by refine (cons_le ?_ (cons_le ?_ nil_le)) <;> first | omega | (simp only [List.length_replicate, List.length_cons, List.length_nil, List.length_append]; omega) | (simp <;> omega)))) : Meets Tryd.prog 63 [.sl 1 .brw 2 (sub [.sl 1 .shr x1.length (u8s x1), .sl 1 .shr (List.replicate ((64 - (x1.length : Int)).toNat) (0 : UInt8)).length (u8s (List.replicate ((64 - (x1.length : Int)).toNat) (0 : UInt8)))] 0 (2 * 1))] [] [] (.ref 13 1 0 ((sCc ([x1, List.replicate ((64 - (x1.length : Int)).toNat) (0 : UInt8)] : List (List UInt8))).length)) [(13, u8s (sCc ([x1, List.replicate ((64 - (x1.length : Int)).toNat) (0 : UInt8)] : List (List UInt8))))]) (.cons (rfl : idsL [.sl 1 .shr x1.length (u8s x1), .sl 1 .shr (List.replicate ((64 - (x1.length : Int)).toNat) (0 : UInt8)).length (u8s (List.replicate ((64 - (x1.length : Int)).toNat) (0 : UInt8)))] = []) (.cons (by decide : 0 + 2 * 1 ≤ 2) (.cons (sb : subN (idsL [.sl 1 .brw 2 (sub [.sl 1 .shr x1.length (u8s x1), .sl 1 .shr (List.replicate ((64 - (x1.length : Int)).toNat) (0 : UInt8)).length (u8s (List.replicate ((64 - (x1.length : Int)).toNat) (0 : UInt8)))] 0 (2 * 1))]) [] = true) (.cons (nb : T.noB (.ref 13 1 0 ((sCc ([x1, List.replicate ((64 - (x1.length : Int)).toNat) (0 : UInt8)] : List (List UInt8))).length)) = true) (.cons (mp_noB (g := zU) (sCc ([x1, List.replicate ((64 - (x1.length : Int)).toNat) (0 : UInt8)] : List (List UInt8))) (fun _ => rfl)) (.cons (mp_mem (i := 11) (g := zU) (sCc ([x1, List.replicate ((64 - (x1.length : Int)).toNat) (0 : UInt8)] : List (List UInt8))) (fun _ => rfl)) (.cons (mp_mem (i := 12) (g := zU) (sCc ([x1, List.replicate ((64 - (x1.length : Int)).toNat) (0 : UInt8)] : List (List UInt8))) (fun _ => rfl)) .nil)))))))))))))) ?_
  clear hk; intro k hk
  refine Go.bnd (Pf := (PostX Γ hmac_padded_enc)) (v := (sCc ([x1, List.replicate ((64 - (x1.length : Int)).toNat) (0 : UInt8)] : List (List UInt8)))) (fun x2 => [(1, t8 with_), (6, .ref 13 1 0 x2.length)]) (fun x2 => [(13, u8s x2)]) ?_
  intro x2 hx2
  have fx2 := concat_eq ([x1, List.replicate ((64 - (x1.length : Int)).toNat) (0 : UInt8)] : List (List UInt8))
  rw [← hx2] at fx2
  have gx2 := congrArg List.length fx2
  simp only [List.flatten_cons, List.flatten_nil, List.append_nil, List.length_append, List.length_cons, List.length_nil] at fx2 gx2
  refine Go.rx 20 {} [] [1, 6, 22, 23] _ [(1, t8 with_), (6, .ref 13 1 0 x2.length), (22, ti (x2.length : Int)), (23, ti 0)] [(13, u8s x2)] hk rfl kr .nil ?_
  clear hk; intro k hk
  refine Go.loopX 20 hk rfl ?_
  clear hk; intro kl1 kxl1 hl1 hxl1
  have Xl1 : ∀ (o2 : List UInt8) (f0l1 : o2.length = x2.length), Go E Γ 103 35 [] ((PostX Γ hmac_padded_enc) (hmac_padded_k1 o2)) kxl1 (stL [(6, .ref 13 1 0 o2.length)] [(13, u8s o2)]) := by
   intro o2 f0l1
   refine Go.rx 20 {} [] [4] _ [(4, .ref 13 1 0 o2.length)] [(13, u8s o2)] hxl1 rfl kr .nil ?_
   clear hxl1; intro kxl1 hxl1
   refine Go.frz [] [] 4 13 (u8s o2) _ [(4, .dead)] [] rfl rfl (mp_ids (g := zU) o2 (fun _ => rfl)) qe2_10 (mp_all (g := zU) o2) kr .nil ?_
   exact Go.lvx 20 [] _ [.sl 1 .shr o2.length (u8s o2)] Tryd.func103 hxl1 rfl kr .nil (T.Le.of_eq rfl) rfl rfl .nil
  have Ll1 : ∀ (ml1 : Nat) (t231 : Int) (o1 : List UInt8), (0 ≤ t231) → (t231 ≤ (x2.length : Int)) → (o1.length = x2.length) → (((x2.length : Int) - t231).toNat < ml1) → Go E Γ 103 35 [] ((PostX Γ hmac_padded_enc) (Lo.el (hmac_padded_l1 with_ x2 ml1 t231 o1) (fun z : List UInt8 => hmac_padded_k1 z))) kl1 (stL [(1, t8 with_), (6, .ref 13 1 0 o1.length), (22, ti (x2.length : Int)), (23, ti t231)] [(13, u8s o1)]) := by
   intro ml1
   induction ml1 with
   | zero => intro t231 o1 i0l1 i1l1 i2l1 hml1; exact absurd hml1 (Nat.not_lt_zero _)
   | succ ml1 ihl1 =>
    intro t231 o1 i0l1 i1l1 i2l1 hml1
    rw [hmac_padded_l1]
    refine Go.round hl1 ?_
    intro k hk
    refine Go.rx 20 {} [] [1, 6, 22, 23, 24] _ [(1, t8 with_), (6, .ref 13 1 0 o1.length), (22, ti (x2.length : Int)), (23, ti t231), (24, tb (decide (t231 < (x2.length : Int))))] [(13, u8s o1)] hk rfl kr (.cons trivial .nil) ?_
    clear hk; intro k hk
    refine Go.br 20 (Pf := (fun z : Lo (List UInt8) (List UInt8) => (PostX Γ hmac_padded_enc) (Lo.el z (fun z : List UInt8 => hmac_padded_k1 z)))) hk rfl rfl ?_ ?_ <;> clear hk <;> intro ct3 k hk
    ·have ct3p := of_decide_eq_true ct3
     refine Go.rx 20 {} [] [1, 6, 7, 22, 23] _ [(1, t8 with_), (6, .ref 13 1 0 o1.length), (7, ti t231), (22, ti (x2.length : Int)), (23, ti t231)] [(13, u8s o1)] hk rfl kr .nil ?_
     clear hk; intro k hk
     refine Go.rx 20 { ws := [(3, { v := some (t8 (o1.getD t231.toNat 0)) }), (5, { v := some (t8 ((o1.getD t231.toNat 0) ^^^ with_)) }), (7, { c := some (u8s (o1.set t231.toNat ((o1.getD t231.toNat 0) ^^^ with_))), sym := true })] } [] [1, 6, 22, 23] _ [(1, t8 with_), (6, .ref 13 1 0 o1.length), (22, ti (x2.length : Int)), (23, ti t231)] [(13, u8s (o1.set t231.toNat ((o1.getD t231.toNat 0) ^^^ with_)))] hk rfl kr (.cons (om : 0 ≤ (t231 : Int) ∧ (t231 : Int) < ((o1.length : Nat) : Int)) (.cons (part1 (kr : (E.ti 5).agg = false) (mp_get (g := zU) (k := 0 + t231.toNat * 1) (n := t231.toNat) o1 (0 : UInt8) (by omega) om)) (.cons trivial (.cons (xor8 (o1.getD t231.toNat 0) with_) (.cons (om : 0 ≤ (t231 : Int) ∧ (t231 : Int) < ((o1.length : Nat) : Int)) (.cons (rfl : scalL [t8 ((o1.getD t231.toNat 0) ^^^ with_)] = true) (.cons (by decide : 1 ≤ 1) (.cons (by decide : 1 ≤ 1) (.cons (qe2_4 : 0 + t231.toNat * 1 + 1 ≤ (u8s o1).length) (.cons (mp_set (g := zU) (k := 0 + t231.toNat * 1) (n := t231.toNat) (x := (o1.getD t231.toNat 0) ^^^ with_) o1 rfl (by omega) om) .nil)))))))))) ?_
     clear hk; intro k hk
     refine Go.rx 20 { ws := [(0, { v := some (ti (t231 + 1)) })] } [] [1, 6, 22, 23] _ [(1, t8 with_), (6, .ref 13 1 0 o1.length), (22, ti (x2.length : Int)), (23, ti (t231 + 1))] [(13, u8s (o1.set t231.toNat ((o1.getD t231.toNat 0) ^^^ with_)))] hk rfl kr (.cons trivial (.cons (iw (t231 + 1) om) .nil)) ?_
     clear hk; intro k hk
     refine Go.slotEq 6 (.ref 13 1 0 ((o1.set t231.toNat ((o1.getD t231.toNat 0) ^^^ with_)).length)) rfl (congrArg (fun q => T.ref 13 1 0 q) (by first | (simp only [List.length_set, cpy_length, List.length_replicate, List.length_cons, List.length_nil, List.length_append]; omega) | (simp [cpy_length]; omega) | simp : o1.length = (o1.set t231.toNat ((o1.getD t231.toNat 0) ^^^ with_)).length)) ?_
     exact Go.join 20 hk hl1 rfl (ihl1 (t231 + 1) (o1.set t231.toNat ((o1.getD t231.toNat 0) ^^^ with_)) qe2_3 qe2_3 qe2_3 om)
    ·have ct3p := of_decide_eq_false ct3
     refine Go.keepN [6] (L' := [(6, .ref 13 1 0 o1.length)]) rfl ?_
     exact Go.exitX (Pf := (PostX Γ hmac_padded_enc)) (F := fun z : List UInt8 => hmac_padded_k1 z) (a := o1) (Go.join 20 hk hxl1 rfl (Xl1 o1 qe2_3))
  exact Ll1 _ 0 x2 qe2_3 qe2_3 qe2_3 (Nat.lt_succ_self _)
 ·have ct2p := of_decide_eq_false ct2
  refine Go.rx 20 { ws := [(3, { v := some (ti (64 - (key.length : Int))) }), (4, { v := some (.sl 1 .shr (List.replicate ((64 - (key.length : Int)).toNat) (0 : UInt8)).length (u8s (List.replicate ((64 - (key.length : Int)).toNat) (0 : UInt8)))), c := some (u8s (List.replicate ((64 - (key.length : Int)).toNat) (0 : UInt8))), id := 11, gv := true }), (5, { id := 12 }), (6, { call := some { ids := [], S := [], M := [12], R := .ref 13 1 0 ((sCc ([key, List.replicate ((64 - (key.length : Int)).toNat) (0 : UInt8)] : List (List UInt8))).length), H' := [(13, u8s (sCc ([key, List.replicate ((64 - (key.length : Int)).toNat) (0 : UInt8)] : List (List UInt8))))] } })], pg := [13] } [11, 12] [1, 6] _ [(1, t8 with_), (6, .ref 13 1 0 ((sCc ([key, List.replicate ((64 - (key.length : Int)).toNat) (0 : UInt8)] : List (List UInt8))).length))] [(13, u8s (sCc ([key, List.replicate ((64 - (key.length : Int)).toNat) (0 : UInt8)] : List (List UInt8))))] hk rfl kr (.cons trivial (.cons (iw (64 - (key.length : Int)) om) (.cons (om : 0 ≤ (64 - (key.length : Int) : Int) ∧ (64 - (key.length : Int) : Int) ≤ 64 - (key.length : Int) ∧ (64 - (key.length : Int) : Int) < 9223372036854775808 ∧ ((1 : Nat) : Int) * (64 - (key.length : Int)) ≤ 281474976710656) (.cons (mp_zeros (g := zU) (n := Int.toNat (64 - (key.length : Int))) (x := (0 : UInt8)) (z := [.int .u8 0]) rfl) (.cons (giveOk (g := zU) (n := Int.toNat (64 - (key.length : Int))) (List.replicate ((64 - (key.length : Int)).toNat) (0 : UInt8)) (by simp) (fun _ => rfl)) (.cons (giveEq (g := zU) (n := Int.toNat (64 - (key.length : Int))) (List.replicate ((64 - (key.length : Int)).toNat) (0 : UInt8)) (by simp)) (.cons (Meets.sw [(99, 13)] (Meets.eqA (A := [.sl 1 .brw 2 (sub [.sl 1 .shr key.length (u8s key), .sl 1 .shr (List.replicate ((64 - (key.length : Int)).toNat) (0 : UInt8)).length (u8s (List.replicate ((64 - (key.length : Int)).toNat) (0 : UInt8)))] 0 (2 * 1))]) qe2_8 (sCc_m (g_slices := .brw) ([key, List.replicate ((64 - (key.length : Int)).toNat) (0 : UInt8)] : List (List UInt8)) (by first | (simp; done) | (simp <;> omega) | omega) (by refine (cons_le ?_ (cons_le ?_ nil_le)) <;> first | omega | (simp only [List.length_replicate, List.length_cons, List.length_nil, List.length_append]; omega) | (simp <;> omega)))) : Meets Tryd.prog 63 [.sl 1 .brw 2 (sub [.sl 1 .shr key.length (u8s key), .sl 1 .shr (List.replicate ((64 - (key.length : Int)).toNat) (0 : UInt8)).length (u8s (List.replicate ((64 - (key.length : Int)).toNat) (0 : UInt8)))] 0 (2 * 1))] [] [] (.ref 13 1 0 ((sCc ([key, List.replicate ((64 - (key.length : Int)).toNat) (0 : UInt8)] : List (List UInt8))).length)) [(13, u8s (sCc ([key, List.replicate ((64 - (key.length : Int)).toNat) (0 : UInt8)] : List (List UInt8))))]) (.cons (rfl : idsL [.sl 1 .shr key.length (u8s key), .sl 1 .shr (List.replicate ((64 - (key.length : Int)).toNat) (0 : UInt8)).length (u8s (List.replicate ((64 - (key.length : Int)).toNat) (0 : UInt8)))] = []) (.cons (by decide : 0 + 2 * 1 ≤ 2) (.cons (sb : subN (idsL [.sl 1 .brw 2 (sub [.sl 1 .shr key.length (u8s key), .sl 1 .shr (List.replicate ((64 - (key.length : Int)).toNat) (0 : UInt8)).length (u8s (List.replicate ((64 - (key.length : Int)).toNat) (0 : UInt8)))] 0 (2 * 1))]) [] = true) (.cons (nb : T.noB (.ref 13 1 0 ((sCc ([key, List.replicate ((64 - (key.length : Int)).toNat) (0 : UInt8)] : List (List UInt8))).length)) = true) (.cons (mp_noB (g := zU) (sCc ([key, List.replicate ((64 - (key.length : Int)).toNat) (0 : UInt8)] : List (List UInt8))) (fun _ => rfl)) (.cons (mp_mem (i := 11) (g := zU) (sCc ([key, List.replicate ((64 - (key.length : Int)).toNat) (0 : UInt8)] : List (List UInt8))) (fun _ => rfl)) (.cons (mp_mem (i := 12) (g := zU) (sCc ([key, List.replicate ((64 - (key.length : Int)).toNat) (0 : UInt8)] : List (List UInt8))) (fun _ => rfl)) .nil)))))))))))))) ?_
  clear hk; intro k hk
  refine Go.bnd (Pf := (PostX Γ hmac_padded_enc)) (v := (sCc ([key, List.replicate ((64 - (key.length : Int)).toNat) (0 : UInt8)] : List (List UInt8)))) (fun x3 => [(1, t8 with_), (6, .ref 13 1 0 x3.length)]) (fun x3 => [(13, u8s x3)]) ?_
  intro x3 hx3
  have fx3 := concat_eq ([key, List.replicate ((64 - (key.length : Int)).toNat) (0 : UInt8)] : List (List UInt8))
  rw [← hx3] at fx3
  have gx3 := congrArg List.length fx3
  simp only [List.flatten_cons, List.flatten_nil, List.append_nil, List.length_append, List.length_cons, List.length_nil] at fx3 gx3
  refine Go.rx 20 {} [] [1, 6, 22, 23] _ [(1, t8 with_), (6, .ref 13 1 0 x3.length), (22, ti (x3.length : Int)), (23, ti 0)] [(13, u8s x3)] hk rfl kr .nil ?_
  clear hk; intro k hk
  refine Go.loopX 20 hk rfl ?_
  clear hk; intro kl2 kxl2 hl2 hxl2
  have Xl2 : ∀ (o4 : List UInt8) (f0l2 : o4.length = x3.length), Go E Γ 103 35 [] ((PostX Γ hmac_padded_enc) (hmac_padded_k2 o4)) kxl2 (stL [(6, .ref 13 1 0 o4.length)] [(13, u8s o4)]) := by
   intro o4 f0l2
   refine Go.rx 20 {} [] [4] _ [(4, .ref 13 1 0 o4.length)] [(13, u8s o4)] hxl2 rfl kr .nil ?_
   clear hxl2; intro kxl2 hxl2
   refine Go.frz [] [] 4 13 (u8s o4) _ [(4, .dead)] [] rfl rfl (mp_ids (g := zU) o4 (fun _ => rfl)) qe2_10 (mp_all (g := zU) o4) kr .nil ?_
   exact Go.lvx 20 [] _ [.sl 1 .shr o4.length (u8s o4)] Tryd.func103 hxl2 rfl kr .nil (T.Le.of_eq rfl) rfl rfl .nil
  have Ll2 : ∀ (ml2 : Nat) (t232 : Int) (o3 : List UInt8), (0 ≤ t232) → (t232 ≤ (x3.length : Int)) → (o3.length = x3.length) → (((x3.length : Int) - t232).toNat < ml2) → Go E Γ 103 35 [] ((PostX Γ hmac_padded_enc) (Lo.el (hmac_padded_l2 with_ x3 ml2 t232 o3) (fun z : List UInt8 => hmac_padded_k2 z))) kl2 (stL [(1, t8 with_), (6, .ref 13 1 0 o3.length), (22, ti (x3.length : Int)), (23, ti t232)] [(13, u8s o3)]) := by
   intro ml2
   induction ml2 with
   | zero => intro t232 o3 i0l2 i1l2 i2l2 hml2; exact absurd hml2 (Nat.not_lt_zero _)
   | succ ml2 ihl2 =>
    intro t232 o3 i0l2 i1l2 i2l2 hml2
    rw [hmac_padded_l2]
    refine Go.round hl2 ?_
    intro k hk
    refine Go.rx 20 {} [] [1, 6, 22, 23, 24] _ [(1, t8 with_), (6, .ref 13 1 0 o3.length), (22, ti (x3.length : Int)), (23, ti t232), (24, tb (decide (t232 < (x3.length : Int))))] [(13, u8s o3)] hk rfl kr (.cons trivial .nil) ?_
    clear hk; intro k hk
    refine Go.br 20 (Pf := (fun z : Lo (List UInt8) (List UInt8) => (PostX Γ hmac_padded_enc) (Lo.el z (fun z : List UInt8 => hmac_padded_k2 z)))) hk rfl rfl ?_ ?_ <;> clear hk <;> intro ct4 k hk
    ·have ct4p := of_decide_eq_true ct4
     refine Go.rx 20 {} [] [1, 6, 7, 22, 23] _ [(1, t8 with_), (6, .ref 13 1 0 o3.length), (7, ti t232), (22, ti (x3.length : Int)), (23, ti t232)] [(13, u8s o3)] hk rfl kr .nil ?_
     clear hk; intro k hk
     refine Go.rx 20 { ws := [(3, { v := some (t8 (o3.getD t232.toNat 0)) }), (5, { v := some (t8 ((o3.getD t232.toNat 0) ^^^ with_)) }), (7, { c := some (u8s (o3.set t232.toNat ((o3.getD t232.toNat 0) ^^^ with_))), sym := true })] } [] [1, 6, 22, 23] _ [(1, t8 with_), (6, .ref 13 1 0 o3.length), (22, ti (x3.length : Int)), (23, ti t232)] [(13, u8s (o3.set t232.toNat ((o3.getD t232.toNat 0) ^^^ with_)))] hk rfl kr (.cons (om : 0 ≤ (t232 : Int) ∧ (t232 : Int) < ((o3.length : Nat) : Int)) (.cons (part1 (kr : (E.ti 5).agg = false) (mp_get (g := zU) (k := 0 + t232.toNat * 1) (n := t232.toNat) o3 (0 : UInt8) (by omega) om)) (.cons trivial (.cons (xor8 (o3.getD t232.toNat 0) with_) (.cons (om : 0 ≤ (t232 : Int) ∧ (t232 : Int) < ((o3.length : Nat) : Int)) (.cons (rfl : scalL [t8 ((o3.getD t232.toNat 0) ^^^ with_)] = true) (.cons (by decide : 1 ≤ 1) (.cons (by decide : 1 ≤ 1) (.cons (qe2_4 : 0 + t232.toNat * 1 + 1 ≤ (u8s o3).length) (.cons (mp_set (g := zU) (k := 0 + t232.toNat * 1) (n := t232.toNat) (x := (o3.getD t232.toNat 0) ^^^ with_) o3 rfl (by omega) om) .nil)))))))))) ?_
     clear hk; intro k hk
     refine Go.rx 20 { ws := [(0, { v := some (ti (t232 + 1)) })] } [] [1, 6, 22, 23] _ [(1, t8 with_), (6, .ref 13 1 0 o3.length), (22, ti (x3.length : Int)), (23, ti (t232 + 1))] [(13, u8s (o3.set t232.toNat ((o3.getD t232.toNat 0) ^^^ with_)))] hk rfl kr (.cons trivial (.cons (iw (t232 + 1) om) .nil)) ?_
     clear hk; intro k hk
     refine Go.slotEq 6 (.ref 13 1 0 ((o3.set t232.toNat ((o3.getD t232.toNat 0) ^^^ with_)).length)) rfl (congrArg (fun q => T.ref 13 1 0 q) (by first | (simp only [List.length_set, cpy_length, List.length_replicate, List.length_cons, List.length_nil, List.length_append]; omega) | (simp [cpy_length]; omega) | simp : o3.length = (o3.set t232.toNat ((o3.getD t232.toNat 0) ^^^ with_)).length)) ?_
     exact Go.join 20 hk hl2 rfl (ihl2 (t232 + 1) (o3.set t232.toNat ((o3.getD t232.toNat 0) ^^^ with_)) qe2_3 qe2_3 qe2_3 om)
    ·have ct4p := of_decide_eq_false ct4
     refine Go.keepN [6] (L' := [(6, .ref 13 1 0 o3.length)]) rfl ?_
     exact Go.exitX (Pf := (PostX Γ hmac_padded_enc)) (F := fun z : List UInt8 => hmac_padded_k2 z) (a := o3) (Go.join 20 hk hxl2 rfl (Xl2 o3 qe2_3))
  exact Ll2 _ 0 x3 qe2_3 qe2_3 qe2_3 (Nat.lt_succ_self _)
theorem padded_l1 (w : UInt8) (x : List UInt8) : ∀ (m i : Nat) (o : List UInt8), o.length = x.length → i ≤ x.length → x.length - i < m → hmac_padded_l1 w x m (i : Int) o = Lo.brk (o.take i ++ (o.drop i).map (· ^^^ w))
 | 0, _, _, _, _, h => absurd h (Nat.not_lt_zero _)
 | m + 1, i, o, h1, h2, h3 => by
  rw [hmac_padded_l1]
  by_cases c : i < x.length
  ·rw [decide_eq_true (by omega : (i : Int) < (x.length : Int)), cond_true, Int.toNat_natCast]
   have w1 := padded_l1 w x m (i + 1) (o.set i ((o.getD i 0) ^^^ w)) (by rw [List.length_set]; exact h1) (by omega) (by omega)
   rw [Int.natCast_add i 1] at w1
   have e : o.set i ((o.getD i 0) ^^^ w) = (o.take i ++ [(o.getD i 0) ^^^ w]) ++ o.drop (i + 1) := by
    rw [List.set_eq_take_append_cons_drop, if_pos (by omega), List.append_assoc]; rfl
   have hl : (o.take i ++ [(o.getD i 0) ^^^ w]).length = i + 1 := by simp only [List.length_append, List.length_take, List.length_cons, List.length_nil]; omega
   refine w1.trans ?_
   rw [e, List.take_left' hl, List.drop_left' hl, drop_cons o i 0 (by omega), List.map_cons, List.append_assoc]; rfl
  ·rw [decide_eq_false (by omega : ¬ (i : Int) < (x.length : Int)), cond_false, List.drop_of_length_le (by omega), List.take_of_length_le (by omega), List.map_nil, List.append_nil]
theorem padded_l2 (w : UInt8) (x : List UInt8) : ∀ (m i : Nat) (o : List UInt8), o.length = x.length → i ≤ x.length → x.length - i < m → hmac_padded_l2 w x m (i : Int) o = Lo.brk (o.take i ++ (o.drop i).map (· ^^^ w))
 | 0, _, _, _, _, h => absurd h (Nat.not_lt_zero _)
 | m + 1, i, o, h1, h2, h3 => by
  rw [hmac_padded_l2]
  by_cases c : i < x.length
  ·rw [decide_eq_true (by omega : (i : Int) < (x.length : Int)), cond_true, Int.toNat_natCast]
   have w1 := padded_l2 w x m (i + 1) (o.set i ((o.getD i 0) ^^^ w)) (by rw [List.length_set]; exact h1) (by omega) (by omega)
   rw [Int.natCast_add i 1] at w1
   have e : o.set i ((o.getD i 0) ^^^ w) = (o.take i ++ [(o.getD i 0) ^^^ w]) ++ o.drop (i + 1) := by
    rw [List.set_eq_take_append_cons_drop, if_pos (by omega), List.append_assoc]; rfl
   have hl : (o.take i ++ [(o.getD i 0) ^^^ w]).length = i + 1 := by simp only [List.length_append, List.length_take, List.length_cons, List.length_nil]; omega
   refine w1.trans ?_
   rw [e, List.take_left' hl, List.drop_left' hl, drop_cons o i 0 (by omega), List.map_cons, List.append_assoc]; rfl
  ·rw [decide_eq_false (by omega : ¬ (i : Int) < (x.length : Int)), cond_false, List.drop_of_length_le (by omega), List.take_of_length_le (by omega), List.map_nil, List.append_nil]
noncomputable def kk (key : List UInt8) : List UInt8 := if key.length > 64 then sha_Sum key else key
noncomputable def pk (key : List UInt8) : List UInt8 := kk key ++ List.replicate (64 - (kk key).length) 0
theorem pk_len (key : List UInt8) : (pk key).length = 64 := by
 have : (kk key).length ≤ 64 := by
  rw [kk]; split
  ·rw [ssum_len]; decide
  ·omega
 rw [pk, List.length_append, List.length_replicate]; omega
theorem padded_eq (key : List UInt8) (w : UInt8) : hmac_padded key w = (pk key).map (· ^^^ w) := by
 rw [hmac_padded]
 by_cases c : key.length > 64
 ·rw [decide_eq_true (by omega : (key.length : Int) > 64), cond_true]
  have e : pk key = [sha_Sum key, List.replicate ((64 - ((sha_Sum key).length : Int)).toNat) (0 : UInt8)].flatten := by
   rw [pk, kk, if_pos c, ssum_len]; simp
  rw [bnd_eq, concat_eq, ← e, bnd_eq, show hmac_padded_l1 w (pk key) ((((pk key).length : Int) - (0 : Int)).toNat + 1) 0 (pk key) = _ from padded_l1 w (pk key) _ 0 (pk key) rfl (Nat.zero_le _) (by omega), elB, hmac_padded_k1]; rfl
 ·rw [decide_eq_false (by omega : ¬ (key.length : Int) > 64), cond_false]
  have e : pk key = [key, List.replicate ((64 - (key.length : Int)).toNat) (0 : UInt8)].flatten := by
   rw [pk, kk, if_neg c, show (64 - (key.length : Int)).toNat = 64 - key.length by omega]; simp
  rw [bnd_eq, concat_eq, ← e, show hmac_padded_l2 w (pk key) ((((pk key).length : Int) - (0 : Int)).toNat + 1) 0 (pk key) = _ from padded_l2 w (pk key) _ 0 (pk key) rfl (Nat.zero_le _) (by omega), elB, hmac_padded_k2]; rfl
@[simp] theorem padded_len (key : List UInt8) (w : UInt8) : (hmac_padded key w).length = 64 := by rw [padded_eq, List.length_map, pk_len]
theorem hmac_padded_l1_gen : True := by have := @hmac_padded_l1.eq_1; have := @hmac_padded_l1.eq_2; trivial
theorem hmac_padded_l2_gen : True := by have := @hmac_padded_l2.eq_1; have := @hmac_padded_l2.eq_2; trivial
attribute [irreducible] hmac_padded_k1 hmac_padded_l1 hmac_padded_k2 hmac_padded_l2 hmac_padded
noncomputable def hmac_New (key : List UInt8) : kOT :=
 bnd (hmac_padded key 54) fun x1 =>
 bnd (hmac_padded key 92) fun x2 =>
 ((sH_Write sha_New x1), (sH_Write sha_New x2))
def hmac_New_enc (x : kOT) : T × List (Nat × List T) := (.addr 95 0, [(80, (hO 81 x.1)), (81, u8s x.1.2.1), (82, (hO 83 x.2)), (83, u8s x.2.2.1), (95, [.addr 80 0, .addr 82 0])])
theorem hmac_New_m (key : List UInt8) (hl : key.length ≤ 2000000000) : Meets Tryd.prog 96 [.sl 1 .shr key.length (u8s key)] [] [] (.addr 95 0) ([(80, (hO 81 ((hmac_New key).1))), (81, u8s (((hmac_New key).1).2.1)), (82, (hO 83 ((hmac_New key).2))), (83, u8s (((hmac_New key).2).2.1)), (95, [.addr 80 0, .addr 82 0])]) := by
 refine Meets.enterX (E := E) (N := 23) (enc := hmac_New_enc) (x := (hmac_New key)) Tryd.func96 Tryd.call96 rfl rfl ?_
 intro Γ k hk
 refine Go.rx 20 {} [] [0] _ [(0, .sl 1 .shr key.length (u8s key))] [] hk rfl kr .nil ?_
 clear hk; intro k hk
 refine Go.rx 20 { ws := [(0, { call := some { ids := [], S := [], M := [], R := .addr 10 0, H' := [(10, (hO 11 sha_New)), (11, u8s sha_New.2.1)] } }), (1, { call := some { ids := [], S := [], M := [], R := .addr 12 0, H' := [(12, (hO 13 sha_New)), (13, u8s sha_New.2.1)] } }), (3, { id := 14 })] } [] [0, 3] _ [(0, .sl 1 .shr key.length (u8s key)), (3, .addr 14 0)] [(10, (hO 11 sha_New)), (11, u8s sha_New.2.1), (12, (hO 13 sha_New)), (13, u8s sha_New.2.1), (14, [.addr 10 0, .addr 12 0])] hk rfl kr (.cons (Meets.sw [(90, 11)] (sha_New_m) : Meets Tryd.prog 101 [] [] [] (.addr 10 0) [(10, (hO 11 sha_New)), (11, u8s sha_New.2.1)]) (.cons (sb : subN (idsL []) [] = true) (.cons (Meets.sw [(10, 12), (90, 13)] (sha_New_m) : Meets Tryd.prog 101 [] [] [] (.addr 12 0) [(12, (hO 13 sha_New)), (13, u8s sha_New.2.1)]) (.cons (sb : subN (idsL []) [] = true) .nil)))) ?_
 clear hk; intro k hk
 refine Go.dx 20 [0, 1, 2, 3, 4, 5, 6] { ws := [(5, { call := some { ids := [], S := [], M := [], R := .sl 1 .shr (hmac_padded key 54).length (u8s (hmac_padded key 54)), H' := [] } }), (6, { call := some { ids := [10, 11], S := [10], M := [], R := .tup [], H' := [(10, (hO 11 (sH_Write sha_New (hmac_padded key 54)))), (11, u8s ((sH_Write sha_New (hmac_padded key 54)).2.1))] } })], pg := [13], fd := some [11] } [] [0, 3] _ [(0, .sl 1 .shr key.length (u8s key)), (3, .addr 14 0)] [(10, (hO 11 (sH_Write sha_New (hmac_padded key 54)))), (12, (hO 13 sha_New)), (13, u8s sha_New.2.1), (14, [.addr 10 0, .addr 12 0]), (11, u8s ((sH_Write sha_New (hmac_padded key 54)).2.1))] hk rfl kr (.cons (hmac_padded_m key 54 qe2_2) (.cons (sb : subN (idsL [.sl 1 .shr key.length (u8s key), t8 54]) [] = true) (.cons (Meets.sw [(0, 10), (90, 11)] (sH_Write_m (g_a1 := .shr) sha_New (hmac_padded key 54) qe2_5 qe2_2) : Meets Tryd.prog 102 [.addr 10 0, .sl 1 .shr (hmac_padded key 54).length (u8s (hmac_padded key 54))] [(10, (hO 11 sha_New)), (11, u8s sha_New.2.1)] [10] (.tup []) [(10, (hO 11 (sH_Write sha_New (hmac_padded key 54)))), (11, u8s ((sH_Write sha_New (hmac_padded key 54)).2.1))]) (.cons (sb : subN (idsL [.addr 10 0, .sl 1 .shr (hmac_padded key 54).length (u8s (hmac_padded key 54))]) [10, 11] = true) (.cons (sb : subN (idsL (hO 11 sha_New)) [10, 11] = true) (.cons (by rw [(mp_ids (g := zU) sha_New.2.1 (fun _ => rfl))]; rfl : subN (idsL (u8s sha_New.2.1)) [10, 11] = true) (.cons (mp_mem (i := 11) (g := zU) sha_New.2.1 (fun _ => rfl)) .nil))))))) ?_
 clear hk; intro k hk
 refine Go.bnd (Pf := (PostX Γ hmac_New_enc)) (v := (hmac_padded key 54)) (fun x1 => [(0, .sl 1 .shr key.length (u8s key)), (3, .addr 14 0)]) (fun x1 => [(10, (hO 11 (sH_Write sha_New x1))), (12, (hO 13 sha_New)), (13, u8s sha_New.2.1), (14, [.addr 10 0, .addr 12 0]), (11, u8s ((sH_Write sha_New x1).2.1))]) ?_
 intro x1 hx1
 have fx1 := padded_len key 54
 rw [← hx1] at fx1
 refine Go.dx 20 [0, 1, 2, 3, 4, 5, 6] { ws := [(5, { call := some { ids := [], S := [], M := [], R := .sl 1 .shr (hmac_padded key 92).length (u8s (hmac_padded key 92)), H' := [] } }), (6, { call := some { ids := [12, 13], S := [12], M := [], R := .tup [], H' := [(12, (hO 13 (sH_Write sha_New (hmac_padded key 92)))), (13, u8s ((sH_Write sha_New (hmac_padded key 92)).2.1))] } })], pg := [11], fd := some [13] } [] [3] _ [(3, .addr 14 0)] [(10, (hO 11 (sH_Write sha_New x1))), (12, (hO 13 (sH_Write sha_New (hmac_padded key 92)))), (14, [.addr 10 0, .addr 12 0]), (11, u8s ((sH_Write sha_New x1).2.1)), (13, u8s ((sH_Write sha_New (hmac_padded key 92)).2.1))] hk rfl kr (.cons (hmac_padded_m key 92 qe2_2) (.cons (sb : subN (idsL [.sl 1 .shr key.length (u8s key), t8 92]) [] = true) (.cons (Meets.sw [(0, 12), (90, 13)] (sH_Write_m (g_a1 := .shr) sha_New (hmac_padded key 92) qe2_5 qe2_2) : Meets Tryd.prog 102 [.addr 12 0, .sl 1 .shr (hmac_padded key 92).length (u8s (hmac_padded key 92))] [(12, (hO 13 sha_New)), (13, u8s sha_New.2.1)] [12] (.tup []) [(12, (hO 13 (sH_Write sha_New (hmac_padded key 92)))), (13, u8s ((sH_Write sha_New (hmac_padded key 92)).2.1))]) (.cons (sb : subN (idsL [.addr 12 0, .sl 1 .shr (hmac_padded key 92).length (u8s (hmac_padded key 92))]) [12, 13] = true) (.cons (sb : subN (idsL (hO 13 sha_New)) [12, 13] = true) (.cons (by rw [(mp_ids (g := zU) sha_New.2.1 (fun _ => rfl))]; rfl : subN (idsL (u8s sha_New.2.1)) [12, 13] = true) (.cons (mp_mem (i := 13) (g := zU) ((sH_Write sha_New x1).2.1) (fun _ => rfl)) .nil))))))) ?_
 clear hk; intro k hk
 refine Go.bnd (Pf := (PostX Γ hmac_New_enc)) (v := (hmac_padded key 92)) (fun x2 => [(3, .addr 14 0)]) (fun x2 => [(10, (hO 11 (sH_Write sha_New x1))), (12, (hO 13 (sH_Write sha_New x2))), (14, [.addr 10 0, .addr 12 0]), (11, u8s ((sH_Write sha_New x1).2.1)), (13, u8s ((sH_Write sha_New x2).2.1))]) ?_
 intro x2 hx2
 have fx2 := padded_len key 92
 rw [← hx2] at fx2
 refine Go.rx 20 {} [] [2] _ [(2, .addr 14 0)] [(10, (hO 11 (sH_Write sha_New x1))), (12, (hO 13 (sH_Write sha_New x2))), (14, [.addr 10 0, .addr 12 0]), (11, u8s ((sH_Write sha_New x1).2.1)), (13, u8s ((sH_Write sha_New x2).2.1))] hk rfl kr .nil ?_
 clear hk; intro k hk
 refine Go.sw (L' := [(2, .addr 95 0)]) (H' := [(10, (hO 11 (sH_Write sha_New x1))), (12, (hO 13 (sH_Write sha_New x2))), (95, [.addr 10 0, .addr 12 0]), (11, u8s ((sH_Write sha_New x1).2.1)), (13, u8s ((sH_Write sha_New x2).2.1))]) [(95, 14)] ?_
 refine Go.ord [10, 11, 12, 13, 95] ([(10, (hO 11 (sH_Write sha_New x1))), (11, u8s ((sH_Write sha_New x1).2.1)), (12, (hO 13 (sH_Write sha_New x2))), (13, u8s ((sH_Write sha_New x2).2.1)), (95, [.addr 10 0, .addr 12 0])]) rfl rfl ?_
 refine Go.sw (L' := [(2, .addr 95 0)]) (H' := [(80, (hO 11 (sH_Write sha_New x1))), (11, u8s ((sH_Write sha_New x1).2.1)), (12, (hO 13 (sH_Write sha_New x2))), (13, u8s ((sH_Write sha_New x2).2.1)), (95, [.addr 80 0, .addr 12 0])]) [(80, 10)] ?_
 refine Go.ord [11, 12, 13, 80, 95] ([(11, u8s ((sH_Write sha_New x1).2.1)), (12, (hO 13 (sH_Write sha_New x2))), (13, u8s ((sH_Write sha_New x2).2.1)), (80, (hO 11 (sH_Write sha_New x1))), (95, [.addr 80 0, .addr 12 0])]) rfl rfl ?_
 refine Go.sw (L' := [(2, .addr 95 0)]) (H' := [(81, u8s ((sH_Write sha_New x1).2.1)), (12, (hO 13 (sH_Write sha_New x2))), (13, u8s ((sH_Write sha_New x2).2.1)), (80, (hO 81 (sH_Write sha_New x1))), (95, [.addr 80 0, .addr 12 0])]) [(81, 11)] ?_
 refine Go.ord [12, 13, 80, 81, 95] ([(12, (hO 13 (sH_Write sha_New x2))), (13, u8s ((sH_Write sha_New x2).2.1)), (80, (hO 81 (sH_Write sha_New x1))), (81, u8s ((sH_Write sha_New x1).2.1)), (95, [.addr 80 0, .addr 12 0])]) rfl rfl ?_
 refine Go.sw (L' := [(2, .addr 95 0)]) (H' := [(82, (hO 13 (sH_Write sha_New x2))), (13, u8s ((sH_Write sha_New x2).2.1)), (80, (hO 81 (sH_Write sha_New x1))), (81, u8s ((sH_Write sha_New x1).2.1)), (95, [.addr 80 0, .addr 82 0])]) [(82, 12)] ?_
 refine Go.ord [13, 80, 81, 82, 95] ([(13, u8s ((sH_Write sha_New x2).2.1)), (80, (hO 81 (sH_Write sha_New x1))), (81, u8s ((sH_Write sha_New x1).2.1)), (82, (hO 13 (sH_Write sha_New x2))), (95, [.addr 80 0, .addr 82 0])]) rfl rfl ?_
 refine Go.sw (L' := [(2, .addr 95 0)]) (H' := [(83, u8s ((sH_Write sha_New x2).2.1)), (80, (hO 81 (sH_Write sha_New x1))), (81, u8s ((sH_Write sha_New x1).2.1)), (82, (hO 83 (sH_Write sha_New x2))), (95, [.addr 80 0, .addr 82 0])]) [(83, 13)] ?_
 refine Go.ord [80, 81, 82, 83, 95] ([(80, (hO 81 (sH_Write sha_New x1))), (81, u8s ((sH_Write sha_New x1).2.1)), (82, (hO 83 (sH_Write sha_New x2))), (83, u8s ((sH_Write sha_New x2).2.1)), (95, [.addr 80 0, .addr 82 0])]) rfl rfl ?_
 exact Go.lvx 20 [80, 81, 82, 83, 95] _ [.addr 95 0] Tryd.func96 hk rfl kr .nil (T.Le.of_eq rfl) rfl rfl (.cons sb (.cons qe2_7 (.cons sb (.cons qe2_7 (.cons sb .nil)))))
noncomputable def Ks (key a : List UInt8) : kOT := (Hs ((pk key).map (· ^^^ 54) ++ a), Hs ((pk key).map (· ^^^ 92)))
theorem new_Ks (key : List UInt8) : hmac_New key = Ks key [] := by
 rw [hmac_New, bnd_eq, bnd_eq, padded_eq, padded_eq, new_Hs, wr_Hs, wr_Hs, List.nil_append, List.nil_append, Ks, List.append_nil]
theorem Ks_len (key a : List UInt8) : (Ks key a).1.2.1.length < 64 ∧ (Ks key a).2.2.1.length < 64 := ⟨Hs_rest _, Hs_rest _⟩
@[simp] theorem new_k1 (key : List UInt8) : (hmac_New key).1.2.1.length < 64 := by rw [new_Ks]; exact Hs_rest _
@[simp] theorem new_k2 (key : List UInt8) : (hmac_New key).2.2.1.length < 64 := by rw [new_Ks]; exact Hs_rest _
theorem new_klen (key : List UInt8) : (hmac_New key).1.2.1.length < 64 ∧ (hmac_New key).2.2.1.length < 64 := by rw [new_Ks]; exact Ks_len _ _
attribute [irreducible] hmac_New
noncomputable def hmac_Keyed_Write (k_ : kOT) (b : List UInt8) : kOT :=
 bnd (sH_Write k_.1 b) fun x1 =>
 (x1, k_.2)
def hmac_Keyed_Write_enc (x : kOT) : T × List (Nat × List T) := (.tup [], [(0, [.addr 80 0, .addr 82 0]), (80, (hO 81 x.1)), (81, u8s x.1.2.1), (82, (hO 83 x.2)), (83, u8s x.2.2.1)])
theorem hmac_Keyed_Write_m {g_b : Tag} (k_ : kOT) (b : List UInt8) (hk1 : k_.1.2.1.length < 64) (hk2 : k_.2.2.1.length < 64) (hl : b.length ≤ 2000000000) : Meets Tryd.prog 97 [.addr 0 0, .sl 1 g_b b.length (u8s b)] ([(0, [.addr 80 0, .addr 82 0]), (80, (hO 81 k_.1)), (81, u8s k_.1.2.1), (82, (hO 83 k_.2)), (83, u8s k_.2.2.1)]) [0] (.tup []) ([(0, [.addr 80 0, .addr 82 0]), (80, (hO 81 ((hmac_Keyed_Write k_ b).1))), (81, u8s (((hmac_Keyed_Write k_ b).1).2.1)), (82, (hO 83 ((hmac_Keyed_Write k_ b).2))), (83, u8s (((hmac_Keyed_Write k_ b).2).2.1))]) := by
 refine Meets.enterX (E := E) (N := 12) (enc := hmac_Keyed_Write_enc) (x := (hmac_Keyed_Write k_ b)) Tryd.func97 Tryd.call97 rfl rfl ?_
 intro Γ k hk
 refine Go.rx 20 {} [] [0, 1, 5] _ [(0, .addr 0 0), (1, .sl 1 g_b b.length (u8s b)), (5, tb true)] [(0, [.addr 80 0, .addr 82 0]), (80, (hO 81 k_.1)), (81, u8s k_.1.2.1), (82, (hO 83 k_.2)), (83, u8s k_.2.2.1)] hk rfl kr (.cons (⟨182, by as_aux_lemma => kernel_rfl⟩ : ∃ e, (E.ti 173).k = .ptr e) .nil) ?_
 clear hk; intro k hk
 refine Go.cond 20 hk rfl (t := true) rfl ?_; clear hk; intro k hk
 refine Go.rx 20 { ws := [(5, { call := some { ids := [80, 81], S := [80], M := [], R := .tup [], H' := [(80, (hO 81 (sH_Write k_.1 b))), (81, u8s ((sH_Write k_.1 b).2.1))] } })], pg := [83], fd := some [81] } [] [] _ [] [(0, [.addr 80 0, .addr 82 0]), (80, (hO 81 (sH_Write k_.1 b))), (82, (hO 83 k_.2)), (83, u8s k_.2.2.1), (81, u8s ((sH_Write k_.1 b).2.1))] hk rfl kr (.cons (Meets.sw [(0, 80), (90, 81)] (sH_Write_m (g_a1 := g_b) k_.1 b qe2_5 qe2_2) : Meets Tryd.prog 102 [.addr 80 0, .sl 1 g_b b.length (u8s b)] [(80, (hO 81 k_.1)), (81, u8s k_.1.2.1)] [80] (.tup []) [(80, (hO 81 (sH_Write k_.1 b))), (81, u8s ((sH_Write k_.1 b).2.1))]) (.cons (sb : subN (idsL [.addr 80 0, .sl 1 g_b b.length (u8s b)]) [80, 81] = true) (.cons (sb : subN (idsL (hO 81 k_.1)) [80, 81] = true) (.cons (by rw [(mp_ids (g := zU) k_.1.2.1 (fun _ => rfl))]; rfl : subN (idsL (u8s k_.1.2.1)) [80, 81] = true) (.cons (mp_mem (i := 81) (g := zU) k_.2.2.1 (fun _ => rfl)) .nil))))) ?_
 clear hk; intro k hk
 refine Go.bnd (Pf := (PostX Γ hmac_Keyed_Write_enc)) (v := (sH_Write k_.1 b)) (fun x1 => []) (fun x1 => [(0, [.addr 80 0, .addr 82 0]), (80, (hO 81 x1)), (82, (hO 83 k_.2)), (83, u8s k_.2.2.1), (81, u8s x1.2.1)]) ?_
 intro x1 hx1
 have fx1 := write_len k_.1 b qe2_6
 rw [← hx1] at fx1
 exact Go.lvx 20 [0, 80, 81, 82, 83] _ [] Tryd.func97 hk rfl kr .nil (T.Le.of_eq rfl) rfl rfl (.cons sb (.cons sb (.cons qe2_7 (.cons sb (.cons qe2_7 .nil)))))
theorem kw_len (k : kOT) (b : List UInt8) (h1 : k.1.2.1.length < 64) (h2 : k.2.2.1.length < 64) : (hmac_Keyed_Write k b).1.2.1.length < 64 ∧ (hmac_Keyed_Write k b).2.2.1.length < 64 := by
 rw [hmac_Keyed_Write, bnd_eq]; exact ⟨write_len _ _ h1, h2⟩
theorem kw_Ks (key a b : List UInt8) : hmac_Keyed_Write (Ks key a) b = Ks key (a ++ b) := by
 rw [hmac_Keyed_Write, bnd_eq, Ks, wr_Hs, List.append_assoc]; rfl
attribute [irreducible] hmac_Keyed_Write
noncomputable def nil_KSum  : List UInt8 :=
 (List.replicate 32 0)
@[simp] theorem nilk_len : nil_KSum.length = 32 := by rw [nil_KSum]; rfl
attribute [irreducible] nil_KSum
noncomputable def hmac_Keyed_Sum (k_ : kOT) : List UInt8 × kOT :=
 bnd (sH_Sum k_.1) fun x1 =>
 bnd (sH_Clone k_.2) fun x2 =>
 bnd (sH_Write x2.1 x1.1) fun x3 =>
 bnd (sH_Sum x3) fun x4 =>
 (x4.1, (x1.2, x2.2))
def hmac_Keyed_Sum_enc (x : List UInt8 × kOT) : T × List (Nat × List T) := (.agg (u8s x.1), [(0, [.addr 80 0, .addr 82 0]), (80, (hO 81 x.2.1)), (81, u8s x.2.1.2.1), (82, (hO 83 x.2.2)), (83, u8s x.2.2.2.1)])
theorem hmac_Keyed_Sum_m (k_ : kOT) (hk1 : k_.1.2.1.length < 64) (hk2 : k_.2.2.1.length < 64) : Meets Tryd.prog 98 [.addr 0 0] ([(0, [.addr 80 0, .addr 82 0]), (80, (hO 81 k_.1)), (81, u8s k_.1.2.1), (82, (hO 83 k_.2)), (83, u8s k_.2.2.1)]) [0] (.agg (u8s ((hmac_Keyed_Sum k_).1))) ([(0, [.addr 80 0, .addr 82 0]), (80, (hO 81 (((hmac_Keyed_Sum k_).2).1))), (81, u8s ((((hmac_Keyed_Sum k_).2).1).2.1)), (82, (hO 83 (((hmac_Keyed_Sum k_).2).2))), (83, u8s ((((hmac_Keyed_Sum k_).2).2).2.1))]) := by
 refine Meets.enterX (E := E) (N := 23) (enc := hmac_Keyed_Sum_enc) (x := (hmac_Keyed_Sum k_)) Tryd.func98 Tryd.call98 rfl rfl ?_
 intro Γ k hk
 refine Go.rx 20 { ws := [(0, { id := 10 })] } [] [0, 2] _ [(0, .addr 0 0), (2, .addr 10 0)] [(0, [.addr 80 0, .addr 82 0]), (80, (hO 81 k_.1)), (81, u8s k_.1.2.1), (82, (hO 83 k_.2)), (83, u8s k_.2.2.1), (10, z32)] hk rfl kr .nil ?_
 clear hk; intro k hk
 refine Go.rx 20 {} [] [0, 2, 6] _ [(0, .addr 0 0), (2, .addr 10 0), (6, tb false)] [(0, [.addr 80 0, .addr 82 0]), (80, (hO 81 k_.1)), (81, u8s k_.1.2.1), (82, (hO 83 k_.2)), (83, u8s k_.2.2.1), (10, z32)] hk rfl kr (.cons (⟨182, by as_aux_lemma => kernel_rfl⟩ : ∃ e, (E.ti 173).k = .ptr e) .nil) ?_
 clear hk; intro k hk
 refine Go.cond 20 hk rfl (t := false) rfl ?_; clear hk; intro k hk
 refine Go.rx 20 { ws := [(4, { call := some { ids := [80, 81], S := [80], M := [], R := .agg (u8s ((sH_Sum k_.1).1)), H' := [(80, (hO 81 ((sH_Sum k_.1).2))), (81, u8s (((sH_Sum k_.1).2).2.1))] } }), (5, { id := 11 }), (6, { c := some (u8s ((sH_Sum k_.1).1)), sym := true })], pg := [83], fd := some [81] } [] [0, 2, 3] _ [(0, .addr 0 0), (2, .addr 10 0), (3, .addr 11 0)] [(0, [.addr 80 0, .addr 82 0]), (80, (hO 81 ((sH_Sum k_.1).2))), (82, (hO 83 k_.2)), (83, u8s k_.2.2.1), (10, z32), (81, u8s (((sH_Sum k_.1).2).2.1)), (11, u8s ((sH_Sum k_.1).1))] hk rfl kr (.cons (Meets.sw [(0, 80), (90, 81)] (sH_Sum_m k_.1 qe2_5) : Meets Tryd.prog 104 [.addr 80 0] [(80, (hO 81 k_.1)), (81, u8s k_.1.2.1)] [80] (.agg (u8s ((sH_Sum k_.1).1))) [(80, (hO 81 ((sH_Sum k_.1).2))), (81, u8s (((sH_Sum k_.1).2).2.1))]) (.cons (sb : subN (idsL [.addr 80 0]) [80, 81] = true) (.cons (sb : subN (idsL (hO 81 k_.1)) [80, 81] = true) (.cons (by rw [(mp_ids (g := zU) k_.1.2.1 (fun _ => rfl))]; rfl : subN (idsL (u8s k_.1.2.1)) [80, 81] = true) (.cons (mp_mem (i := 81) (g := zU) k_.2.2.1 (fun _ => rfl)) (.cons (mp_scal ((sH_Sum k_.1).1) (fun _ => rfl) : scalL (u8s ((sH_Sum k_.1).1)) = true) (.cons (by rw [List.length_map, (qe2_1 : ((sH_Sum k_.1).1).length = 32)]; decide : (u8s ((sH_Sum k_.1).1)).length ≤ 32) (.cons (by rw [List.length_map, (qe2_1 : ((sH_Sum k_.1).1).length = 32)]; decide : 32 ≤ (u8s ((sH_Sum k_.1).1)).length) (.cons (by rw [List.length_map, (qe2_1 : ((sH_Sum k_.1).1).length = 32)]; exact Nat.le_of_ble_eq_true rfl : 0 + (u8s ((sH_Sum k_.1).1)).length ≤ (z32 : List T).length) (.cons (splice_whole (cs := z32) (v := u8s ((sH_Sum k_.1).1)) (by rw [List.length_map, (qe2_1 : ((sH_Sum k_.1).1).length = 32)]; rfl)) .nil)))))))))) ?_
 clear hk; intro k hk
 refine Go.bnd (Pf := (PostX Γ hmac_Keyed_Sum_enc)) (v := (sH_Sum k_.1)) (fun x1 => [(0, .addr 0 0), (2, .addr 10 0), (3, .addr 11 0)]) (fun x1 => [(0, [.addr 80 0, .addr 82 0]), (80, (hO 81 x1.2)), (82, (hO 83 k_.2)), (83, u8s k_.2.2.1), (10, z32), (81, u8s ((x1.2).2.1)), (11, u8s x1.1)]) ?_
 intro x1 hx1
 have fx1 := sum_len k_.1 qe2_6
 rw [← hx1] at fx1
 obtain ⟨fx10, fx11⟩ := fx1
 refine Go.rx 20 { ws := [(4, { call := some { ids := [82, 83], S := [82], M := [], R := .addr 13 0, H' := [(82, (hO 83 ((sH_Clone k_.2).2))), (83, u8s (((sH_Clone k_.2).2).2.1)), (12, u8s (((sH_Clone k_.2).1).2.1)), (13, (hO 12 ((sH_Clone k_.2).1)))] } })], pg := [11, 81], fd := some [83] } [] [2, 3, 4] _ [(2, .addr 10 0), (3, .addr 11 0), (4, .addr 13 0)] [(0, [.addr 80 0, .addr 82 0]), (80, (hO 81 x1.2)), (82, (hO 83 ((sH_Clone k_.2).2))), (10, z32), (81, u8s ((x1.2).2.1)), (11, u8s x1.1), (83, u8s (((sH_Clone k_.2).2).2.1)), (12, u8s (((sH_Clone k_.2).1).2.1)), (13, (hO 12 ((sH_Clone k_.2).1)))] hk rfl kr (.cons (Meets.sw [(0, 82), (90, 83), (91, 12), (92, 13)] (sH_Clone_m k_.2 qe2_5) : Meets Tryd.prog 105 [.addr 82 0] [(82, (hO 83 k_.2)), (83, u8s k_.2.2.1)] [82] (.addr 13 0) [(82, (hO 83 ((sH_Clone k_.2).2))), (83, u8s (((sH_Clone k_.2).2).2.1)), (12, u8s (((sH_Clone k_.2).1).2.1)), (13, (hO 12 ((sH_Clone k_.2).1)))]) (.cons (sb : subN (idsL [.addr 82 0]) [82, 83] = true) (.cons (sb : subN (idsL (hO 83 k_.2)) [82, 83] = true) (.cons (by rw [(mp_ids (g := zU) k_.2.2.1 (fun _ => rfl))]; rfl : subN (idsL (u8s k_.2.2.1)) [82, 83] = true) (.cons (mp_mem (i := 83) (g := zU) ((x1.2).2.1) (fun _ => rfl)) (.cons (mp_mem (i := 83) (g := zU) x1.1 (fun _ => rfl)) .nil)))))) ?_
 clear hk; intro k hk
 refine Go.bnd (Pf := (PostX Γ hmac_Keyed_Sum_enc)) (v := (sH_Clone k_.2)) (fun x2 => [(2, .addr 10 0), (3, .addr 11 0), (4, .addr 13 0)]) (fun x2 => [(0, [.addr 80 0, .addr 82 0]), (80, (hO 81 x1.2)), (82, (hO 83 x2.2)), (10, z32), (81, u8s ((x1.2).2.1)), (11, u8s x1.1), (83, u8s ((x2.2).2.1)), (12, u8s ((x2.1).2.1)), (13, (hO 12 x2.1))]) ?_
 intro x2 hx2
 have fx2 := clone_len k_.2 qe2_6
 rw [← hx2] at fx2
 obtain ⟨fx20, fx21⟩ := fx2
 refine Go.rx 20 { ws := [(1, { v := some (.ref 11 1 0 x1.1.length), sym := true }), (2, { call := some { ids := [13, 12], S := [13], M := [11], R := .tup [], H' := [(13, (hO 12 (sH_Write x2.1 x1.1))), (12, u8s ((sH_Write x2.1 x1.1).2.1))] } })], pg := [11, 12, 81, 83], fd := some [12] } [11] [2, 4] _ [(2, .addr 10 0), (4, .addr 13 0)] [(0, [.addr 80 0, .addr 82 0]), (80, (hO 81 x1.2)), (82, (hO 83 x2.2)), (10, z32), (81, u8s ((x1.2).2.1)), (83, u8s ((x2.2).2.1)), (13, (hO 12 (sH_Write x2.1 x1.1))), (12, u8s ((sH_Write x2.1 x1.1).2.1))] hk rfl kr (.cons (qe2_4 : 0 + 32 * 1 ≤ (u8s x1.1).length) (.cons (by decide : 0 ≤ (0 : Int) ∧ (0 : Int) ≤ ((32 : Nat) : Int) ∧ ((32 : Nat) : Int) ≤ ((32 : Nat) : Int) ∧ ((32 : Nat) : Int) ≤ ((32 : Nat) : Int)) (.cons (congrArg (fun q => T.ref 11 1 0 q) (qe2_1 : (x1.1).length = 32).symm : T.ref 11 1 (0 + (0 : Int).toNat * 1) ((((32 : Nat) : Int)).toNat - (0 : Int).toNat) = .ref 11 1 0 x1.1.length) (.cons (Meets.sw [(0, 13), (90, 12)] (Meets.eqA (A := [.addr 0 0, .sl 1 .brw x1.1.length (sub (u8s x1.1) 0 (x1.1.length * 1))]) qe2_8 (sH_Write_m (g_a1 := .brw) x2.1 x1.1 qe2_5 qe2_2)) : Meets Tryd.prog 102 [.addr 13 0, .sl 1 .brw x1.1.length (sub (u8s x1.1) 0 (x1.1.length * 1))] [(13, (hO 12 x2.1)), (12, u8s ((x2.1).2.1))] [13] (.tup []) [(13, (hO 12 (sH_Write x2.1 x1.1))), (12, u8s ((sH_Write x2.1 x1.1).2.1))]) (.cons (mp_ids (g := zU) x1.1 (fun _ => rfl)) (.cons (qe2_10 : 0 + x1.1.length * 1 ≤ (u8s x1.1).length) (.cons (sb : subN (idsL [.addr 13 0, .sl 1 .brw x1.1.length (sub (u8s x1.1) 0 (x1.1.length * 1))]) [13, 12] = true) (.cons (sb : subN (idsL (hO 12 x2.1)) [13, 12] = true) (.cons (by rw [(mp_ids (g := zU) ((x2.1).2.1) (fun _ => rfl))]; rfl : subN (idsL (u8s ((x2.1).2.1))) [13, 12] = true) (.cons (nb : T.noB (.tup []) = true) (.cons (by first | rfl | (simp only [T.noB, noBL, er_noB, u8s_noB, b8s_noB, Bool.and_self]; rfl) : noBL (hO 12 (sH_Write x2.1 x1.1)) = true) (.cons (mp_noB (g := zU) ((sH_Write x2.1 x1.1).2.1) (fun _ => rfl)) (.cons (mp_mem (i := 12) (g := zU) ((x1.2).2.1) (fun _ => rfl)) (.cons (mp_mem (i := 12) (g := zU) x1.1 (fun _ => rfl)) (.cons (mp_mem (i := 12) (g := zU) ((x2.2).2.1) (fun _ => rfl)) (.cons (mp_mem (i := 11) (g := zU) ((x1.2).2.1) (fun _ => rfl)) (.cons (mp_mem (i := 11) (g := zU) ((x2.2).2.1) (fun _ => rfl)) (.cons (mp_mem (i := 11) (g := zU) ((sH_Write x2.1 x1.1).2.1) (fun _ => rfl)) .nil)))))))))))))))))) ?_
 clear hk; intro k hk
 refine Go.bnd (Pf := (PostX Γ hmac_Keyed_Sum_enc)) (v := (sH_Write x2.1 x1.1)) (fun x3 => [(2, .addr 10 0), (4, .addr 13 0)]) (fun x3 => [(0, [.addr 80 0, .addr 82 0]), (80, (hO 81 x1.2)), (82, (hO 83 x2.2)), (10, z32), (81, u8s ((x1.2).2.1)), (83, u8s ((x2.2).2.1)), (13, (hO 12 x3)), (12, u8s x3.2.1)]) ?_
 intro x3 hx3
 have fx3 := write_len x2.1 x1.1 qe2_6
 rw [← hx3] at fx3
 refine Go.rx 20 { ws := [(1, { call := some { ids := [13, 12], S := [13], M := [], R := .agg (u8s ((sH_Sum x3).1)), H' := [(13, (hO 12 ((sH_Sum x3).2))), (12, u8s (((sH_Sum x3).2).2.1))] } }), (2, { c := some (u8s ((sH_Sum x3).1)), sym := true })], ps := [22], pg := [10, 12, 81, 83], fd := some [12] } [13, 12] [2] _ [(2, .addr 10 0)] [(0, [.addr 80 0, .addr 82 0]), (80, (hO 81 x1.2)), (82, (hO 83 x2.2)), (10, u8s ((sH_Sum x3).1)), (81, u8s ((x1.2).2.1)), (83, u8s ((x2.2).2.1))] hk rfl kr (.cons (Meets.sw [(0, 13), (90, 12)] (sH_Sum_m x3 qe2_5) : Meets Tryd.prog 104 [.addr 13 0] [(13, (hO 12 x3)), (12, u8s x3.2.1)] [13] (.agg (u8s ((sH_Sum x3).1))) [(13, (hO 12 ((sH_Sum x3).2))), (12, u8s (((sH_Sum x3).2).2.1))]) (.cons (sb : subN (idsL [.addr 13 0]) [13, 12] = true) (.cons (sb : subN (idsL (hO 12 x3)) [13, 12] = true) (.cons (by rw [(mp_ids (g := zU) x3.2.1 (fun _ => rfl))]; rfl : subN (idsL (u8s x3.2.1)) [13, 12] = true) (.cons (sb : memN 12 (idsL z32) = false) (.cons (mp_mem (i := 12) (g := zU) ((x1.2).2.1) (fun _ => rfl)) (.cons (mp_mem (i := 12) (g := zU) ((x2.2).2.1) (fun _ => rfl)) (.cons (mp_scal ((sH_Sum x3).1) (fun _ => rfl) : scalL (u8s ((sH_Sum x3).1)) = true) (.cons (by rw [List.length_map, (qe2_1 : ((sH_Sum x3).1).length = 32)]; decide : (u8s ((sH_Sum x3).1)).length ≤ 32) (.cons (by rw [List.length_map, (qe2_1 : ((sH_Sum x3).1).length = 32)]; decide : 32 ≤ (u8s ((sH_Sum x3).1)).length) (.cons (by rw [List.length_map, (qe2_1 : ((sH_Sum x3).1).length = 32)]; exact Nat.le_of_ble_eq_true rfl : 0 + (u8s ((sH_Sum x3).1)).length ≤ (z32 : List T).length) (.cons (splice_whole (cs := z32) (v := u8s ((sH_Sum x3).1)) (by rw [List.length_map, (qe2_1 : ((sH_Sum x3).1).length = 32)]; rfl)) (.cons (mp_memA (i := 13) (g := zU) ((sH_Sum x3).1) (fun _ => rfl)) (.cons (mp_mem (i := 13) (g := zU) ((sH_Sum x3).1) (fun _ => rfl)) (.cons (mp_mem (i := 13) (g := zU) ((x1.2).2.1) (fun _ => rfl)) (.cons (mp_mem (i := 13) (g := zU) ((x2.2).2.1) (fun _ => rfl)) (.cons (mp_mem (i := 13) (g := zU) (((sH_Sum x3).2).2.1) (fun _ => rfl)) (.cons (mp_memA (i := 12) (g := zU) ((sH_Sum x3).1) (fun _ => rfl)) (.cons (mp_mem (i := 12) (g := zU) ((sH_Sum x3).1) (fun _ => rfl)) (.cons (mp_mem (i := 12) (g := zU) ((x1.2).2.1) (fun _ => rfl)) (.cons (mp_mem (i := 12) (g := zU) ((x2.2).2.1) (fun _ => rfl)) .nil))))))))))))))))))))) ?_
 clear hk; intro k hk
 refine Go.bnd (Pf := (PostX Γ hmac_Keyed_Sum_enc)) (v := (sH_Sum x3)) (fun x4 => [(2, .addr 10 0)]) (fun x4 => [(0, [.addr 80 0, .addr 82 0]), (80, (hO 81 x1.2)), (82, (hO 83 x2.2)), (10, u8s x4.1), (81, u8s ((x1.2).2.1)), (83, u8s ((x2.2).2.1))]) ?_
 intro x4 hx4
 have fx4 := sum_len x3 qe2_6
 rw [← hx4] at fx4
 obtain ⟨fx40, fx41⟩ := fx4
 exact Go.lvx 20 [0, 80, 81, 82, 83] _ [.agg (sub (u8s x4.1) 0 32)] Tryd.func98 hk rfl kr (.cons (by rw [List.length_map, (qe2_1 : (x4.1).length = 32)]; exact Nat.le_of_ble_eq_true rfl : 0 + 32 ≤ (u8s x4.1).length) .nil) (T.Le.of_eq (congrArg T.agg (arr_all (qe2_1 : (x4.1).length = 32)))) rfl (by first | rfl | (simp only [hmac_Keyed_Sum_enc, T.ids, idsL, er_ids, List.append_nil, List.nil_append]; first | rfl | (rw [mp_ids _ (fun _ => rfl)]; rfl))) (.cons sb (.cons sb (.cons qe2_7 (.cons sb (.cons qe2_7 .nil)))))
noncomputable def mac (key a : List UInt8) : List UInt8 := sha_Sum ((pk key).map (· ^^^ 92) ++ sha_Sum ((pk key).map (· ^^^ 54) ++ a))
theorem ksum_len (k : kOT) (h1 : k.1.2.1.length < 64) (h2 : k.2.2.1.length < 64) : (hmac_Keyed_Sum k).1.length = 32 ∧ (hmac_Keyed_Sum k).2.1.2.1.length < 64 ∧ (hmac_Keyed_Sum k).2.2.2.1.length < 64 := by
 rw [hmac_Keyed_Sum]
 simp only [bnd_eq]
 rw [sum_len1, sum_eq _ h1, cl_eq]
 exact ⟨rfl, h1, h2⟩
theorem ksum_Ks (key a : List UInt8) : hmac_Keyed_Sum (Ks key a) = (mac key a, Ks key a) := by
 rw [hmac_Keyed_Sum, Ks]
 simp only [bnd_eq, sm_Hs, cl_eq, wr_Hs]
 rfl
@[simp] theorem ksum_len1 (k : kOT) : (hmac_Keyed_Sum k).1.length = 32 := by
 rw [hmac_Keyed_Sum]
 simp only [bnd_eq, sum_len1]
theorem mac_len (key a : List UInt8) : (mac key a).length = 32 := ssum_len _
attribute [irreducible] hmac_Keyed_Sum
noncomputable def hmac_Mac (key : List UInt8) (b : List UInt8) : List UInt8 :=
 bnd (hmac_New key) fun x1 =>
 bnd (hmac_Keyed_Write x1 b) fun x2 =>
 bnd (hmac_Keyed_Sum x2) fun x3 =>
 x3.1
def hmac_Mac_enc (x : List UInt8) : T × List (Nat × List T) := (.agg (u8s x), [])
theorem hmac_Mac_m {g_b : Tag} (key : List UInt8) (b : List UInt8) (hl : key.length ≤ 2000000000) (hb : b.length ≤ 2000000000) : Meets Tryd.prog 92 [.sl 1 .shr key.length (u8s key), .sl 1 g_b b.length (u8s b)] [] [] (.agg (u8s (hmac_Mac key b))) [] := by
 refine Meets.enterX (E := E) (N := 13) (enc := hmac_Mac_enc) (x := (hmac_Mac key b)) Tryd.func92 Tryd.call92 rfl rfl ?_
 intro Γ k hk
 refine Go.rx 20 { ws := [(0, { id := 10 })] } [] [0, 1, 4] _ [(0, .sl 1 .shr key.length (u8s key)), (1, .sl 1 g_b b.length (u8s b)), (4, .addr 10 0)] [(10, z32)] hk rfl kr .nil ?_
 clear hk; intro k hk
 refine Go.rx 20 { ws := [(1, { call := some { ids := [], S := [], M := [], R := .addr 15 0, H' := [(11, (hO 12 ((hmac_New key).1))), (12, u8s (((hmac_New key).1).2.1)), (13, (hO 14 ((hmac_New key).2))), (14, u8s (((hmac_New key).2).2.1)), (15, [.addr 11 0, .addr 13 0])] } })] } [] [1, 4, 5] _ [(1, .sl 1 g_b b.length (u8s b)), (4, .addr 10 0), (5, .addr 15 0)] [(10, z32), (11, (hO 12 ((hmac_New key).1))), (12, u8s (((hmac_New key).1).2.1)), (13, (hO 14 ((hmac_New key).2))), (14, u8s (((hmac_New key).2).2.1)), (15, [.addr 11 0, .addr 13 0])] hk rfl kr (.cons (Meets.sw [(80, 11), (81, 12), (82, 13), (83, 14), (95, 15)] (hmac_New_m key qe2_2) : Meets Tryd.prog 96 [.sl 1 .shr key.length (u8s key)] [] [] (.addr 15 0) [(11, (hO 12 ((hmac_New key).1))), (12, u8s (((hmac_New key).1).2.1)), (13, (hO 14 ((hmac_New key).2))), (14, u8s (((hmac_New key).2).2.1)), (15, [.addr 11 0, .addr 13 0])]) (.cons (sb : subN (idsL [.sl 1 .shr key.length (u8s key)]) [] = true) .nil)) ?_
 clear hk; intro k hk
 refine Go.bnd (Pf := (PostX Γ hmac_Mac_enc)) (v := (hmac_New key)) (fun x1 => [(1, .sl 1 g_b b.length (u8s b)), (4, .addr 10 0), (5, .addr 15 0)]) (fun x1 => [(10, z32), (11, (hO 12 x1.1)), (12, u8s ((x1.1).2.1)), (13, (hO 14 x1.2)), (14, u8s ((x1.2).2.1)), (15, [.addr 11 0, .addr 13 0])]) ?_
 intro x1 hx1
 have fx1 := new_klen key
 rw [← hx1] at fx1
 obtain ⟨fx10, fx11⟩ := fx1
 refine Go.rx 20 { ws := [(2, { call := some { ids := [15, 11, 12, 13, 14], S := [15], M := [], R := .tup [], H' := [(15, [.addr 11 0, .addr 13 0]), (11, (hO 12 ((hmac_Keyed_Write x1 b).1))), (12, u8s (((hmac_Keyed_Write x1 b).1).2.1)), (13, (hO 14 ((hmac_Keyed_Write x1 b).2))), (14, u8s (((hmac_Keyed_Write x1 b).2).2.1))] } })], pg := [12, 14], fd := some [11, 12, 13, 14] } [] [4, 5] _ [(4, .addr 10 0), (5, .addr 15 0)] [(10, z32), (15, [.addr 11 0, .addr 13 0]), (11, (hO 12 ((hmac_Keyed_Write x1 b).1))), (12, u8s (((hmac_Keyed_Write x1 b).1).2.1)), (13, (hO 14 ((hmac_Keyed_Write x1 b).2))), (14, u8s (((hmac_Keyed_Write x1 b).2).2.1))] hk rfl kr (.cons (Meets.sw [(0, 15), (80, 11), (81, 12), (82, 13), (83, 14)] (hmac_Keyed_Write_m (g_b := g_b) x1 b qe2_9 qe2_9 qe2_2) : Meets Tryd.prog 97 [.addr 15 0, .sl 1 g_b b.length (u8s b)] [(15, [.addr 11 0, .addr 13 0]), (11, (hO 12 x1.1)), (12, u8s ((x1.1).2.1)), (13, (hO 14 x1.2)), (14, u8s ((x1.2).2.1))] [15] (.tup []) [(15, [.addr 11 0, .addr 13 0]), (11, (hO 12 ((hmac_Keyed_Write x1 b).1))), (12, u8s (((hmac_Keyed_Write x1 b).1).2.1)), (13, (hO 14 ((hmac_Keyed_Write x1 b).2))), (14, u8s (((hmac_Keyed_Write x1 b).2).2.1))]) (.cons (sb : subN (idsL [.addr 15 0, .sl 1 g_b b.length (u8s b)]) [15, 11, 12, 13, 14] = true) (.cons (sb : subN (idsL [.addr 11 0, .addr 13 0]) [15, 11, 12, 13, 14] = true) (.cons (sb : subN (idsL (hO 12 x1.1)) [15, 11, 12, 13, 14] = true) (.cons (by rw [(mp_ids (g := zU) ((x1.1).2.1) (fun _ => rfl))]; rfl : subN (idsL (u8s ((x1.1).2.1))) [15, 11, 12, 13, 14] = true) (.cons (sb : subN (idsL (hO 14 x1.2)) [15, 11, 12, 13, 14] = true) (.cons (by rw [(mp_ids (g := zU) ((x1.2).2.1) (fun _ => rfl))]; rfl : subN (idsL (u8s ((x1.2).2.1))) [15, 11, 12, 13, 14] = true) (.cons (mp_mem (i := 11) (g := zU) ((x1.1).2.1) (fun _ => rfl)) (.cons (mp_mem (i := 11) (g := zU) ((x1.2).2.1) (fun _ => rfl)) (.cons (mp_mem (i := 12) (g := zU) ((x1.2).2.1) (fun _ => rfl)) (.cons (mp_mem (i := 13) (g := zU) ((x1.2).2.1) (fun _ => rfl)) .nil))))))))))) ?_
 clear hk; intro k hk
 refine Go.bnd (Pf := (PostX Γ hmac_Mac_enc)) (v := (hmac_Keyed_Write x1 b)) (fun x2 => [(4, .addr 10 0), (5, .addr 15 0)]) (fun x2 => [(10, z32), (15, [.addr 11 0, .addr 13 0]), (11, (hO 12 x2.1)), (12, u8s ((x2.1).2.1)), (13, (hO 14 x2.2)), (14, u8s ((x2.2).2.1))]) ?_
 intro x2 hx2
 have fx2 := kw_len x1 b qe2_6 qe2_6
 rw [← hx2] at fx2
 obtain ⟨fx20, fx21⟩ := fx2
 refine Go.rx 20 { ws := [(1, { call := some { ids := [15, 11, 12, 13, 14], S := [15], M := [], R := .agg (u8s ((hmac_Keyed_Sum x2).1)), H' := [(15, [.addr 11 0, .addr 13 0]), (11, (hO 12 (((hmac_Keyed_Sum x2).2).1))), (12, u8s ((((hmac_Keyed_Sum x2).2).1).2.1)), (13, (hO 14 (((hmac_Keyed_Sum x2).2).2))), (14, u8s ((((hmac_Keyed_Sum x2).2).2).2.1))] } }), (2, { c := some (u8s ((hmac_Keyed_Sum x2).1)), sym := true })], ps := [12], pg := [10, 12, 14], fd := some [11, 12, 13, 14] } [15, 11, 12, 13, 14] [4] _ [(4, .addr 10 0)] [(10, u8s ((hmac_Keyed_Sum x2).1))] hk rfl kr (.cons (Meets.sw [(0, 15), (80, 11), (81, 12), (82, 13), (83, 14)] (hmac_Keyed_Sum_m x2 qe2_9 qe2_9) : Meets Tryd.prog 98 [.addr 15 0] [(15, [.addr 11 0, .addr 13 0]), (11, (hO 12 x2.1)), (12, u8s ((x2.1).2.1)), (13, (hO 14 x2.2)), (14, u8s ((x2.2).2.1))] [15] (.agg (u8s ((hmac_Keyed_Sum x2).1))) [(15, [.addr 11 0, .addr 13 0]), (11, (hO 12 (((hmac_Keyed_Sum x2).2).1))), (12, u8s ((((hmac_Keyed_Sum x2).2).1).2.1)), (13, (hO 14 (((hmac_Keyed_Sum x2).2).2))), (14, u8s ((((hmac_Keyed_Sum x2).2).2).2.1))]) (.cons (sb : subN (idsL [.addr 15 0]) [15, 11, 12, 13, 14] = true) (.cons (sb : subN (idsL [.addr 11 0, .addr 13 0]) [15, 11, 12, 13, 14] = true) (.cons (sb : subN (idsL (hO 12 x2.1)) [15, 11, 12, 13, 14] = true) (.cons (by rw [(mp_ids (g := zU) ((x2.1).2.1) (fun _ => rfl))]; rfl : subN (idsL (u8s ((x2.1).2.1))) [15, 11, 12, 13, 14] = true) (.cons (sb : subN (idsL (hO 14 x2.2)) [15, 11, 12, 13, 14] = true) (.cons (by rw [(mp_ids (g := zU) ((x2.2).2.1) (fun _ => rfl))]; rfl : subN (idsL (u8s ((x2.2).2.1))) [15, 11, 12, 13, 14] = true) (.cons (sb : memN 11 (idsL z32) = false) (.cons (mp_mem (i := 11) (g := zU) ((x2.1).2.1) (fun _ => rfl)) (.cons (mp_mem (i := 11) (g := zU) ((x2.2).2.1) (fun _ => rfl)) (.cons (sb : memN 12 (idsL z32) = false) (.cons (mp_mem (i := 12) (g := zU) ((x2.2).2.1) (fun _ => rfl)) (.cons (sb : memN 13 (idsL z32) = false) (.cons (mp_mem (i := 13) (g := zU) ((x2.2).2.1) (fun _ => rfl)) (.cons (sb : memN 14 (idsL z32) = false) (.cons (mp_scal ((hmac_Keyed_Sum x2).1) (fun _ => rfl) : scalL (u8s ((hmac_Keyed_Sum x2).1)) = true) (.cons (by rw [List.length_map, (qe2_1 : ((hmac_Keyed_Sum x2).1).length = 32)]; decide : (u8s ((hmac_Keyed_Sum x2).1)).length ≤ 32) (.cons (by rw [List.length_map, (qe2_1 : ((hmac_Keyed_Sum x2).1).length = 32)]; decide : 32 ≤ (u8s ((hmac_Keyed_Sum x2).1)).length) (.cons (by rw [List.length_map, (qe2_1 : ((hmac_Keyed_Sum x2).1).length = 32)]; exact Nat.le_of_ble_eq_true rfl : 0 + (u8s ((hmac_Keyed_Sum x2).1)).length ≤ (z32 : List T).length) (.cons (splice_whole (cs := z32) (v := u8s ((hmac_Keyed_Sum x2).1)) (by rw [List.length_map, (qe2_1 : ((hmac_Keyed_Sum x2).1).length = 32)]; rfl)) (.cons (mp_memA (i := 15) (g := zU) ((hmac_Keyed_Sum x2).1) (fun _ => rfl)) (.cons (mp_mem (i := 15) (g := zU) ((hmac_Keyed_Sum x2).1) (fun _ => rfl)) (.cons (mp_mem (i := 15) (g := zU) ((((hmac_Keyed_Sum x2).2).1).2.1) (fun _ => rfl)) (.cons (mp_mem (i := 15) (g := zU) ((((hmac_Keyed_Sum x2).2).2).2.1) (fun _ => rfl)) (.cons (mp_memA (i := 11) (g := zU) ((hmac_Keyed_Sum x2).1) (fun _ => rfl)) (.cons (mp_mem (i := 11) (g := zU) ((hmac_Keyed_Sum x2).1) (fun _ => rfl)) (.cons (mp_mem (i := 11) (g := zU) ((((hmac_Keyed_Sum x2).2).1).2.1) (fun _ => rfl)) (.cons (mp_mem (i := 11) (g := zU) ((((hmac_Keyed_Sum x2).2).2).2.1) (fun _ => rfl)) (.cons (mp_memA (i := 12) (g := zU) ((hmac_Keyed_Sum x2).1) (fun _ => rfl)) (.cons (mp_mem (i := 12) (g := zU) ((hmac_Keyed_Sum x2).1) (fun _ => rfl)) (.cons (mp_mem (i := 12) (g := zU) ((((hmac_Keyed_Sum x2).2).2).2.1) (fun _ => rfl)) (.cons (mp_memA (i := 13) (g := zU) ((hmac_Keyed_Sum x2).1) (fun _ => rfl)) (.cons (mp_mem (i := 13) (g := zU) ((hmac_Keyed_Sum x2).1) (fun _ => rfl)) (.cons (mp_mem (i := 13) (g := zU) ((((hmac_Keyed_Sum x2).2).2).2.1) (fun _ => rfl)) (.cons (mp_memA (i := 14) (g := zU) ((hmac_Keyed_Sum x2).1) (fun _ => rfl)) (.cons (mp_mem (i := 14) (g := zU) ((hmac_Keyed_Sum x2).1) (fun _ => rfl)) .nil)))))))))))))))))))))))))))))))))))) ?_
 clear hk; intro k hk
 refine Go.bnd (Pf := (PostX Γ hmac_Mac_enc)) (v := (hmac_Keyed_Sum x2)) (fun x3 => [(4, .addr 10 0)]) (fun x3 => [(10, u8s x3.1)]) ?_
 intro x3 hx3
 have fx3 := ksum_len x2 qe2_6 qe2_6
 rw [← hx3] at fx3
 obtain ⟨fx30, fx31, fx32⟩ := fx3
 exact Go.lvx 20 [] _ [.agg (sub (u8s x3.1) 0 32)] Tryd.func92 hk rfl kr (.cons (by rw [List.length_map, (qe2_1 : (x3.1).length = 32)]; exact Nat.le_of_ble_eq_true rfl : 0 + 32 ≤ (u8s x3.1).length) .nil) (T.Le.of_eq (congrArg T.agg (arr_all (qe2_1 : (x3.1).length = 32)))) rfl (by first | rfl | (simp only [hmac_Mac_enc, T.ids, idsL, er_ids, List.append_nil, List.nil_append]; first | rfl | (rw [mp_ids _ (fun _ => rfl)]; rfl))) .nil
theorem hmac_eq (key b : List UInt8) : hmac_Mac key b = mac key b := by
 rw [hmac_Mac]
 simp only [bnd_eq, new_Ks, kw_Ks, ksum_Ks, List.nil_append]
@[simp] theorem hmac_len (key b : List UInt8) : (hmac_Mac key b).length = 32 := by rw [hmac_eq, mac_len]
attribute [irreducible] hmac_Mac
end Go.Proofs.YtbppcnhfeobefabDoor

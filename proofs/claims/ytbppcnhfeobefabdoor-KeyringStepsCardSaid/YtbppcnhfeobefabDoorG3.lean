import Derived.Test.YtbppcnhfeobefabDoorG2
import Derived.Test.YtbppcnhfeobefabDoorIt1
import Derived.Test.YtbppcnhfeobefabDoorEnVy0
set_option linter.unusedVariables false
namespace Go.Proofs.YtbppcnhfeobefabDoor
open Go Go.Vw Go.Proofs
theorem qg3_1 {p : Prop} (h : p := by first | omega | (have hrf := fx1 (by assumption); omega) | (have hrf := fx1 (by assumption); simp; omega) | (have hrf := fx1 (by assumption); simp only [id_eq, List.length_append, List.length_cons, List.length_nil]; omega) | (simp <;> omega) | (simp at * <;> omega)) : p := h
noncomputable def kr_Encode_k1 (o2 : List UInt8) : List UInt8 × Int :=
 (o2, 0)
noncomputable def kr_Encode_l1 (r0 : List Tn) : Nat → Int → (List UInt8) → Lo (List UInt8) (List UInt8 × Int)
 | 0, _, _ => .brk default
 | ml1 + 1, t241, o1 =>
  bif decide (t241 < (r0.length : Int)) then
   kr_Encode_l1 r0 ml1 (t241 + 1) (o1 ++ (fxa 32 ((r0.getD t241.toNat ((0, []) : UInt32 × List UInt8)).2)))
  else
   Lo.brk o1
noncomputable def kr_Encode (r0 : List Tn) : List UInt8 × Int :=
 bnd (kr_Check r0) fun x1 =>
 bif !(decide (x1 = 0)) then
  ([], x1)
 else
  Lo.el (kr_Encode_l1 r0 (((r0.length : Int) - (0 : Int)).toNat + 1) 0 [107, 114, u8i (r0.length : Int)]) (fun z : List UInt8 => kr_Encode_k1 z)
def kr_Encode_enc (x : List UInt8 × Int) : T × List (Nat × List T) := (.tup [.sl 1 .shr x.1.length (u8s x.1), er 105 x.2], [])
theorem kr_Encode_m {g_r0 : Tag} (r0 : List Tn) : Meets Tryd.prog 33 [.agg ([.sl 33 g_r0 r0.length (fl gTm r0)])] [] [] (.tup [.sl 1 .shr ((kr_Encode r0).1).length (u8s ((kr_Encode r0).1)), er 105 ((kr_Encode r0).2)]) [] := by
 refine Meets.enterX (E := E) (N := 34) (enc := kr_Encode_enc) (x := (kr_Encode r0)) Tryd.func33 Tryd.call33 rfl rfl ?_
 intro Γ k hk
 refine Go.rx 20 { ws := [(0, { id := 10, gv := true })] } [10] [1] _ [(1, .pt .shr 0 ([.sl 33 g_r0 r0.length (fl gTm r0)]))] [] hk rfl kr (.cons (rfl : idsL ([.sl 33 g_r0 r0.length (fl gTm r0)]) = []) .nil) ?_
 clear hk; intro k hk
 refine Go.rx 20 { ws := [(1, { call := some { ids := [], S := [], M := [], R := er 105 (kr_Check r0), H' := [] } })] } [] [1, 4] _ [(1, .pt .shr 0 ([.sl 33 g_r0 r0.length (fl gTm r0)])), (4, er 105 (kr_Check r0))] [] hk rfl kr (.cons (kr_Check_m (g_r0 := g_r0) r0) (.cons (sb : subN (idsL [.agg ([.sl 33 g_r0 r0.length (fl gTm r0)])]) [] = true) .nil)) ?_
 clear hk; intro k hk
 refine Go.bnd (Pf := (PostX Γ kr_Encode_enc)) (v := (kr_Check r0)) (fun x1 => [(1, .pt .shr 0 ([.sl 33 g_r0 r0.length (fl gTm r0)])), (4, er 105 x1)]) (fun x1 => []) ?_
 intro x1 hx1
 have fx1 := ring_fact r0
 rw [← hx1] at fx1
 refine Go.rx 20 { ws := [(1, { er := some (105, x1) })] } [] [1, 4, 11] _ [(1, .pt .shr 0 ([.sl 33 g_r0 r0.length (fl gTm r0)])), (4, er 105 x1), (11, tb (!(decide (x1 = 0))))] [] hk rfl kr (.cons (⟨rfl, rfl⟩ : (er 105 x1) = er 105 x1 ∧ (.leaf .nilIface : T) = .leaf .nilIface) .nil) ?_
 clear hk; intro k hk
 refine Go.br 20 (Pf := (PostX Γ kr_Encode_enc)) hk rfl rfl ?_ ?_ <;> clear hk <;> intro ct1 k hk
 ·have ct1' : (decide (x1 = 0)) = false := ntT ct1
  have ct1'p := of_decide_eq_false ct1'
  refine Go.rx 20 {} [] [2, 3] _ [(2, .leaf (.slice none 0 0)), (3, er 105 x1)] [] hk rfl kr .nil ?_
  clear hk; intro k hk
  exact Go.lvx 20 [] _ [.leaf (.slice none 0 0), er 105 x1] Tryd.func33 hk rfl kr .nil (T.Le.tup (.cons (T.Le.nil _ _) (.cons (T.Le.of_eq rfl) .nil))) rfl (by first | rfl | (simp only [kr_Encode_enc, T.ids, idsL, er_ids, List.append_nil, List.nil_append]; first | rfl | (rw [mp_ids _ (fun _ => rfl)]; rfl))) .nil
 ·have ct1' : (decide (x1 = 0)) = true := ntF ct1
  have ct1'p := of_decide_eq_true ct1'
  refine Go.rx 20 { ws := [(0, { id := 11 }), (5, { v := some (t8 (u8i (r0.length : Int))) }), (6, { id := 12 }), (7, { id := 11 })], ps := [4], fd := some [11] } [12] [1, 5] _ [(1, .pt .shr 0 ([.sl 33 g_r0 r0.length (fl gTm r0)])), (5, .ref 11 1 0 3)] [(11, [t8 107, t8 114, t8 (u8i (r0.length : Int))])] hk rfl kr (.cons (cvi_8 (r0.length : Int)) (.cons (by decide : (2 + 1) * 1 ≤ 140737488355328) (.cons (er_mem (i := 11) 105 x1) (.cons (er_mem (i := 12) 105 x1) .nil)))) ?_
  clear hk; intro k hk
  refine Go.rx 20 {} [] [5, 22, 23, 24] _ [(5, .ref 11 1 0 3), (22, .sl 33 g_r0 r0.length (fl gTm r0)), (23, ti (r0.length : Int)), (24, ti 0)] [(11, [t8 107, t8 114, t8 (u8i (r0.length : Int))])] hk rfl kr .nil ?_
  clear hk; intro k hk
  refine Go.loopX 20 hk rfl ?_
  clear hk; intro kl1 kxl1 hl1 hxl1
  have Xl1 : ∀ (o2 : List UInt8), Go E Γ 33 34 [] ((PostX Γ kr_Encode_enc) (kr_Encode_k1 o2)) kxl1 (stL [(5, .ref 11 1 0 o2.length)] [(11, u8s o2)]) := by
   intro o2
   refine Go.rx 20 {} [] [2, 3] _ [(2, .ref 11 1 0 o2.length), (3, .leaf .nilIface)] [(11, u8s o2)] hxl1 rfl kr .nil ?_
   clear hxl1; intro kxl1 hxl1
   refine Go.frz [] [] 2 11 (u8s o2) _ [(2, .dead), (3, .leaf .nilIface)] [] rfl rfl (mp_ids (g := zU) o2 (fun _ => rfl)) (by simp only [List.length_map]; omega) (mp_all (g := zU) o2) kr .nil ?_
   exact Go.lvx 20 [] _ [.sl 1 .shr o2.length (u8s o2), .leaf .nilIface] Tryd.func33 hxl1 rfl kr .nil (T.Le.tup (.cons (T.Le.of_eq rfl) (.cons (T.Le.of_eq rfl) .nil))) rfl rfl .nil
  have Ll1 : ∀ (ml1 : Nat) (t241 : Int) (o1 : List UInt8), (0 ≤ t241) → (t241 ≤ (r0.length : Int)) → ((o1.length : Int) = 3 + 32 * t241) → (((r0.length : Int) - t241).toNat < ml1) → Go E Γ 33 34 [] ((PostX Γ kr_Encode_enc) (Lo.el (kr_Encode_l1 r0 ml1 t241 o1) (fun z : List UInt8 => kr_Encode_k1 z))) kl1 (stL [(5, .ref 11 1 0 o1.length), (22, .sl 33 g_r0 r0.length (fl gTm r0)), (23, ti (r0.length : Int)), (24, ti t241)] [(11, u8s o1)]) := by
   intro ml1
   induction ml1 with
   | zero => intro t241 o1 i0l1 i1l1 i2l1 hml1; exact absurd hml1 (Nat.not_lt_zero _)
   | succ ml1 ihl1 =>
    intro t241 o1 i0l1 i1l1 i2l1 hml1
    rw [kr_Encode_l1]
    refine Go.round hl1 ?_
    intro k hk
    refine Go.rx 20 {} [] [5, 22, 23, 24, 25] _ [(5, .ref 11 1 0 o1.length), (22, .sl 33 g_r0 r0.length (fl gTm r0)), (23, ti (r0.length : Int)), (24, ti t241), (25, tb (decide (t241 < (r0.length : Int))))] [(11, u8s o1)] hk rfl kr (.cons trivial .nil) ?_
    clear hk; intro k hk
    refine Go.br 20 (Pf := (fun z : Lo (List UInt8) (List UInt8 × Int) => (PostX Γ kr_Encode_enc) (Lo.el z (fun z : List UInt8 => kr_Encode_k1 z)))) hk rfl rfl ?_ ?_ <;> clear hk <;> intro ct2 k hk
    ·have ct2p := of_decide_eq_true ct2
     refine Go.rx 20 { ws := [(1, { v := some (.agg ([t32 ((r0.getD t241.toNat ((0, []) : UInt32 × List UInt8)).1)] ++ u8s (fxa 32 ((r0.getD t241.toNat ((0, []) : UInt32 × List UInt8)).2)))) }), (2, { id := 13 })] } [] [5, 7, 22, 23, 24] _ [(5, .ref 11 1 0 o1.length), (7, .addr 13 0), (22, .sl 33 g_r0 r0.length (fl gTm r0)), (23, ti (r0.length : Int)), (24, ti t241)] [(11, u8s o1), (13, ([t32 ((r0.getD t241.toNat ((0, []) : UInt32 × List UInt8)).1)] ++ u8s (fxa 32 ((r0.getD t241.toNat ((0, []) : UInt32 × List UInt8)).2))))] hk rfl kr (.cons (qg3_1 : 0 ≤ (t241 : Int) ∧ (t241 : Int) < ((r0.length : Nat) : Int)) (.cons (fl_part (m := 33) (g := gTm) (k := t241.toNat * 33) (n := t241.toNat) (l := r0) (d := ((0, []) : UInt32 × List UInt8)) (kr : (E.ti 93).agg = true) rfl (fun _ => rfl) rfl qg3_1 rfl) .nil)) ?_
     clear hk; intro k hk
     refine Go.rx 20 { ws := [(2, { v := some (.ref 13 1 1 32) }), (3, { v := some (.ref 11 1 0 ((o1 ++ (fxa 32 ((r0.getD t241.toNat ((0, []) : UInt32 × List UInt8)).2))).length)), c := some (u8s (o1 ++ (fxa 32 ((r0.getD t241.toNat ((0, []) : UInt32 × List UInt8)).2)))), id := 11, sym := true })], pg := [11], fd := some [11] } [13] [5, 22, 23, 24] _ [(5, .ref 11 1 0 ((o1 ++ (fxa 32 ((r0.getD t241.toNat ((0, []) : UInt32 × List UInt8)).2))).length)), (22, .sl 33 g_r0 r0.length (fl gTm r0)), (23, ti (r0.length : Int)), (24, ti t241)] [(11, u8s (o1 ++ (fxa 32 ((r0.getD t241.toNat ((0, []) : UInt32 × List UInt8)).2))))] hk rfl kr (.cons (by decide : 0 ≤ (0 : Int) ∧ (0 : Int) ≤ ((32 : Nat) : Int) ∧ ((32 : Nat) : Int) ≤ ((32 : Nat) : Int) ∧ ((32 : Nat) : Int) ≤ ((32 : Nat) : Int)) (.cons (rfl : T.ref 13 1 (1 + (0 : Int).toNat * 1) ((((32 : Nat) : Int)).toNat - (0 : Int).toNat) = .ref 13 1 1 32) (.cons (Nat.le_of_ble_eq_true rfl : 1 + 32 * 1 ≤ (([t32 ((r0.getD t241.toNat ((0, []) : UInt32 × List UInt8)).1)] ++ u8s (fxa 32 ((r0.getD t241.toNat ((0, []) : UInt32 × List UInt8)).2))) : List T).length) (.cons (by simp only [List.length_map]; omega : 0 + o1.length * 1 ≤ (u8s o1).length) (.cons (rfl : scalL (u8s (fxa 32 ((r0.getD t241.toNat ((0, []) : UInt32 × List UInt8)).2))) = true) (.cons (qg3_1 : (o1.length + 32) * 1 ≤ 140737488355328) (.cons (mp_app (g := zU) (o1) (fxa 32 ((r0.getD t241.toNat ((0, []) : UInt32 × List UInt8)).2)) rfl) (.cons (mp_mem (i := 11) (g := zU) (o1 ++ (fxa 32 ((r0.getD t241.toNat ((0, []) : UInt32 × List UInt8)).2))) (fun _ => rfl)) (.cons (by first | rfl | (simp; done) | (refine congrArg (fun q => T.ref 11 1 0 q) ?_; simp <;> omega) : T.ref 11 1 0 (o1.length + 32) = .ref 11 1 0 ((o1 ++ (fxa 32 ((r0.getD t241.toNat ((0, []) : UInt32 × List UInt8)).2))).length)) (.cons (mp_mem (i := 13) (g := zU) (o1 ++ (fxa 32 ((r0.getD t241.toNat ((0, []) : UInt32 × List UInt8)).2))) (fun _ => rfl)) .nil)))))))))) ?_
     clear hk; intro k hk
     refine Go.rx 20 { ws := [(0, { v := some (ti (t241 + 1)) })] } [] [5, 22, 23, 24] _ [(5, .ref 11 1 0 ((o1 ++ (fxa 32 ((r0.getD t241.toNat ((0, []) : UInt32 × List UInt8)).2))).length)), (22, .sl 33 g_r0 r0.length (fl gTm r0)), (23, ti (r0.length : Int)), (24, ti (t241 + 1))] [(11, u8s (o1 ++ (fxa 32 ((r0.getD t241.toNat ((0, []) : UInt32 × List UInt8)).2))))] hk rfl kr (.cons trivial (.cons (iw (t241 + 1) qg3_1) .nil)) ?_
     clear hk; intro k hk
     exact Go.join 20 hk hl1 rfl (ihl1 (t241 + 1) (o1 ++ (fxa 32 ((r0.getD t241.toNat ((0, []) : UInt32 × List UInt8)).2))) qg3_1 qg3_1 qg3_1 qg3_1)
    ·have ct2p := of_decide_eq_false ct2
     refine Go.keepN [5] (L' := [(5, .ref 11 1 0 o1.length)]) rfl ?_
     exact Go.exitX (Pf := (PostX Γ kr_Encode_enc)) (F := fun z : List UInt8 => kr_Encode_k1 z) (a := o1) (Go.join 20 hk hxl1 rfl (Xl1 o1))
  exact Ll1 _ 0 [107, 114, u8i (r0.length : Int)] (by first | omega | (simp; done)) (by first | omega | (simp; done)) (by first | omega | (simp; done)) (Nat.lt_succ_self _)
theorem kr_Encode_l1_gen : True := by have := @kr_Encode_l1.eq_1; have := @kr_Encode_l1.eq_2; trivial
attribute [irreducible] kr_Encode_k1 kr_Encode_l1 kr_Encode
def slices_Chunk_byte_byte_enc (s : List UInt8) (n : Int) (_ : Unit) : T × List (Nat × List T) := (.fn (.func 83) [] [.addr 10 0, .addr 11 0], [(10, [.sl 1 .shr s.length (u8s s)]), (11, [ti n])])
theorem slices_Chunk_byte_byte_m (s : List UInt8) (n : Int) (hn : decide (n < 1) = false) : Meets Tryd.prog 67 [.sl 1 .shr s.length (u8s s), ti n] [] [] (.fn (.func 83) [] [.addr 10 0, .addr 11 0]) ([(10, [.sl 1 .shr s.length (u8s s)]), (11, [ti n])]) := by
 refine Meets.enterX (E := E) (N := 9) (enc := slices_Chunk_byte_byte_enc s n) (x := ()) Tryd.func67 Tryd.call67 rfl rfl ?_
 intro Γ k hk
 refine Go.rx 20 { ws := [(0, { id := 10 }), (1, { id := 11 })] } [] [2, 3] _ [(2, .addr 10 0), (3, .addr 11 0)] [(10, [.sl 1 .shr s.length (u8s s)]), (11, [ti n])] hk rfl kr .nil ?_
 clear hk; intro k hk
 refine Go.rx 20 { ws := [(1, { v := some (tb false) })] } [] [2, 3, 6] _ [(2, .addr 10 0), (3, .addr 11 0), (6, tb false)] [(10, [.sl 1 .shr s.length (u8s s)]), (11, [ti n])] hk rfl kr (.cons trivial (.cons (eb hn) .nil)) ?_
 clear hk; intro k hk
 refine Go.cond 20 hk rfl (t := false) rfl ?_; clear hk; intro k hk
 refine Go.rx 20 {} [] [4] _ [(4, .fn (.func 83) [] [.addr 10 0, .addr 11 0])] [(10, [.sl 1 .shr s.length (u8s s)]), (11, [ti n])] hk rfl kr .nil ?_
 clear hk; intro k hk
 exact Go.lvx 20 [10, 11] _ [.fn (.func 83) [] [.addr 10 0, .addr 11 0]] Tryd.func67 hk rfl kr .nil (T.Le.of_eq rfl) rfl rfl (.cons sb (.cons sb .nil))
noncomputable def kr_Decode_rb1 (b : List UInt8) (kk : Nat) (o1 : List Tn) : (List Tn) ⊕ Empty :=
 Sum.inl (o1 ++ [(u32i ((o1.length : Int) + 1), chk (slc b 3 (b.length : Int)) 32 kk)])
theorem kr_Decode_rb1_m (b : List UInt8) (kk : Nat) (o1 : List Tn) (hy0 : kk * 32 < (slc b 3 (b.length : Int)).length) (hy1 : o1.length = kk) (hy2 : b.length % 32 = 3) (hy3 : b.length ≤ 9000) : RoundM Tryd.prog 35 (rfB Tryd.f35 0) [.dead, .dead, .dead, .dead, .addr 11 0, .sl 1 .shr (chk (slc b 3 (b.length : Int)) 32 kk).length (u8s (chk (slc b 3 (b.length : Int)) 32 kk)), .dead, .dead, .dead, .dead, .dead, .dead, .dead, .dead, .dead, .dead, .dead, .dead, .dead, .dead, .dead, .dead, .dead, .dead, .dead, .dead, .dead, .dead, .dead, .dead, .dead, .dead, .dead, .dead, .dead, .dead, .dead, .dead, .dead, .dead, .dead, .dead, .dead, .dead, .dead, .dead, .dead, .dead, .dead, .dead, .dead, .dead] [(11, [.ref 14 33 0 o1.length]), (14, fl gTm o1)] [11] (rdB (kr_Decode_rb1 b kk o1)) (rdH (fun z : (List Tn) => [(11, [.ref 14 33 0 z.length]), (14, fl gTm z)]) (fun z : Empty => nomatch z) (kr_Decode_rb1 b kk o1)) := by
 refine RoundM.enterX (E := E) (N := 52) (x := kr_Decode_rb1 b kk o1) (e1 := (fun z : (List Tn) => [(11, [.ref 14 33 0 z.length]), (14, fl gTm z)])) (e2 := (fun z : Empty => nomatch z)) rfl ?_
 intro Γ k l hrl hk
 have hch := chk_len (slc b 3 (b.length : Int)) 32 kk
 have hck := chk_len (slc b 3 (b.length : Int)) 32 kk
 have hsl := slc_len b 3 (b.length : Int)
 have hc2 : (chk (slc b 3 (b.length : Int)) 32 kk).length = 32 := by rw [hck]; omega
 refine Go.keepN [4, 5] (L' := [(4, .addr 11 0), (5, .sl 1 .shr (chk (slc b 3 (b.length : Int)) 32 kk).length (u8s (chk (slc b 3 (b.length : Int)) 32 kk)))]) rfl ?_
 rw [kr_Decode_rb1]
 refine Go.dx 20 [0, 1, 2, 3, 4, 5, 6, 7, 8, 9, 10, 11, 12, 13, 14] { ws := [(5, { v := some (ti ((o1.length : Int) + 1)) }), (6, { v := some (t32 (u32i ((o1.length : Int) + 1))) }), (9, { v := some (.agg (u8s (fxa 32 (chk (slc b 3 (b.length : Int)) 32 kk)))) }), (11, { id := 15 }), (12, { v := some (.ref 14 33 0 ((o1 ++ [(u32i ((o1.length : Int) + 1), chk (slc b 3 (b.length : Int)) 32 kk)]).length)), c := some (fl gTm (o1 ++ [(u32i ((o1.length : Int) + 1), chk (slc b 3 (b.length : Int)) 32 kk)])), id := 14, sym := true })], pg := [14], fd := some [14] } [15] [] _ [] [(11, [.ref 14 33 0 ((o1 ++ [(u32i ((o1.length : Int) + 1), chk (slc b 3 (b.length : Int)) 32 kk)]).length)]), (14, fl gTm (o1 ++ [(u32i ((o1.length : Int) + 1), chk (slc b 3 (b.length : Int)) 32 kk)]))] hk rfl kr (.cons trivial (.cons (iw ((o1.length : Int) + 1) om) (.cons (cvi_32 ((o1.length : Int) + 1)) (.cons (om : 32 ≤ (chk (slc b 3 (b.length : Int)) 32 kk).length) (.cons (fx_whole (kr : (E.ti 74).agg = true) (kr : (E.ti 74).size = 32) (by first | (simp; done) | (with_reducible assumption) | omega | (simp <;> omega) | rfl : (chk (slc b 3 (b.length : Int)) 32 kk).length = 32)) (.cons (Nat.le_of_ble_eq_true rfl : 0 + 1 * 33 ≤ (([t32 (u32i ((o1.length : Int) + 1))] ++ u8s (fxa 32 (chk (slc b 3 (b.length : Int)) 32 kk))) : List T).length) (.cons (by rw [fl_len (m := 33) (fun _ => rfl)]; omega : 0 + o1.length * 33 ≤ (fl gTm o1).length) (.cons (rfl : scalL ([t32 (u32i ((o1.length : Int) + 1))] ++ u8s (fxa 32 (chk (slc b 3 (b.length : Int)) 32 kk))) = true) (.cons (om : (o1.length + 1) * 36 ≤ 140737488355328) (.cons (fl_app' (g := gTm) (m := 33) (k := o1.length) (fun _ => rfl) o1 [(u32i ((o1.length : Int) + 1), chk (slc b 3 (b.length : Int)) 32 kk)] rfl rfl) (.cons (fl_mem (i := 14) (g := gTm) (o1 ++ [(u32i ((o1.length : Int) + 1), chk (slc b 3 (b.length : Int)) 32 kk)]) (fun _ => rfl)) (.cons (by first | rfl | (simp; done) | (refine congrArg (fun q => T.ref 14 33 0 q) ?_; simp <;> omega) : T.ref 14 33 0 (o1.length + 1) = .ref 14 33 0 ((o1 ++ [(u32i ((o1.length : Int) + 1), chk (slc b 3 (b.length : Int)) 32 kk)]).length)) (.cons (fl_mem (i := 15) (g := gTm) (o1 ++ [(u32i ((o1.length : Int) + 1), chk (slc b 3 (b.length : Int)) 32 kk)]) (fun _ => rfl)) .nil))))))))))))) ?_
 clear hk; intro k hk
 exact Go.lvB 20 [11, 14] true hrl hk rfl rfl (.cons sb (.cons (by rw [(fl_ids (g := gTm) (fun _ => rfl) (o1 ++ [(u32i ((o1.length : Int) + 1), chk (slc b 3 (b.length : Int)) 32 kk)]))]; rfl) .nil))
noncomputable def kr_Decode_rk1 (o1 : List Tn) : ((List Tn)) × Int :=
 bnd (kr_Check o1) fun x1 =>
 bif !(decide (x1 = 0)) then
  ([], 4)
 else
  (o1, 0)
noncomputable def kr_Decode (b : List UInt8) : ((List Tn)) × Int :=
 bif (decide ((b.length : Int) < 3)) || (((slc b 0 2) != [107, 114]) || ((b.length : Int) != (3 + (((b.getD 2 0).toNat : Int) * 32)))) then
  ([], 4)
 else
  rngE (fun z : (List Tn) => kr_Decode_rk1 z) (fun z : Empty => nomatch z) (rng (fun kk z => kr_Decode_rb1 b kk z) (nch (slc b 3 (b.length : Int)).length 32) 0 ([] : List Tn))
def kr_Decode_enc (x : ((List Tn)) × Int) : T × List (Nat × List T) := (.tup [.agg ([.sl 33 .shr x.1.length (fl gTm x.1)]), er 105 x.2], [])
theorem kr_Decode_m (b : List UInt8) : Meets Tryd.prog 35 [.sl 1 .shr b.length (u8s b)] [] [] (.tup [.agg ([.sl 33 .shr ((kr_Decode b).1).length (fl gTm ((kr_Decode b).1))]), er 105 ((kr_Decode b).2)]) [] := by
 refine Meets.enterRd (E := E) (N := 52) (enc := kr_Decode_enc) (x := (kr_Decode b)) Tryd.func35 Tryd.call35 rfl rfl ?_
 intro Γ k hrd hk
 have hb2 := (b.getD 2 0).toNat_lt
 refine Go.rx 20 { ws := [(0, { id := 10 })] } [] [0, 2] _ [(0, .sl 1 .shr b.length (u8s b)), (2, .addr 10 0)] [(10, [.leaf (.slice none 0 0)])] hk rfl kr .nil ?_
 clear hk; intro k hk
 refine Go.regJ 20 [(0, .sl 1 .shr b.length (u8s b)), (2, .addr 10 0), (25, tb ((decide ((b.length : Int) < 3)) || (((slc b 0 2) != [107, 114]) || ((b.length : Int) != (3 + (((b.getD 2 0).toNat : Int) * 32))))))] [(10, [.leaf (.slice none 0 0)])] hk rfl ?_ ?_
 ·clear hk; intro k hk
  refine Go.br 20 (Pf := (PostX Γ kr_Decode_enc)) hk rfl rfl ?_ ?_ <;> clear hk <;> intro ct1 k hk
  ·refine Go.rx 20 {} [] [2, 3] _ [(2, .addr 10 0), (3, er 105 4)] [(10, [.leaf (.slice none 0 0)])] hk rfl kr .nil ?_
   clear hk; intro k hk
   exact Go.lvx 20 [] _ [.agg [.leaf (.slice none 0 0)], er 105 4] Tryd.func35 hk rfl kr (.cons (by decide : 0 + 1 ≤ 1) .nil) (T.Le.tup (.cons (T.Le.agg (.cons (T.Le.nil _ _) .nil)) (.cons (T.Le.of_eq rfl) .nil))) rfl (by first | rfl | (simp only [kr_Decode_enc, T.ids, idsL, er_ids, List.append_nil, List.nil_append]; first | rfl | (rw [mp_ids _ (fun _ => rfl)]; rfl))) .nil
  ·have ct11 : (decide ((b.length : Int) < 3)) = false := (Bool.or_eq_false_iff.1 ct1).1
   have ct12 : (((slc b 0 2) != [107, 114]) || ((b.length : Int) != (3 + (((b.getD 2 0).toNat : Int) * 32)))) = false := (Bool.or_eq_false_iff.1 ct1).2
   have ct11p := of_decide_eq_false ct11
   have ct121 : ((slc b 0 2) != [107, 114]) = false := (Bool.or_eq_false_iff.1 ct12).1
   have ct122 : ((b.length : Int) != (3 + (((b.getD 2 0).toNat : Int) * 32))) = false := (Bool.or_eq_false_iff.1 ct12).2
   have ct122p := neIf ct122
   refine Go.rx 20 { ws := [(0, { id := 11 })] } [] [0, 2, 4] _ [(0, .sl 1 .shr b.length (u8s b)), (2, .addr 10 0), (4, .addr 11 0)] [(10, [.leaf (.slice none 0 0)]), (11, [.leaf (.slice none 0 0)])] hk rfl kr .nil ?_
   clear hk; intro k hk
   refine Go.rx 20 { ws := [(1, { v := some (.sl 1 .shr (slc b 3 (b.length : Int)).length (u8s (slc b 3 (b.length : Int)))) }), (2, { call := some { ids := [], S := [], M := [], R := .fn (.func 83) [] [.addr 12 0, .addr 13 0], H' := [(12, [.sl 1 .shr (slc b 3 (b.length : Int)).length (u8s (slc b 3 (b.length : Int)))]), (13, [ti 32])] } })] } [] [2, 4, 30] _ [(2, .addr 10 0), (4, .addr 11 0), (30, .fn (.func 83) [] [.addr 12 0, .addr 13 0])] [(10, [.leaf (.slice none 0 0)]), (11, [.leaf (.slice none 0 0)]), (12, [.sl 1 .shr (slc b 3 (b.length : Int)).length (u8s (slc b 3 (b.length : Int)))]), (13, [ti 32])] hk rfl kr (.cons (om : 0 ≤ (3 : Int) ∧ (3 : Int) ≤ (b.length : Int) ∧ (b.length : Int) ≤ (b.length : Int) ∧ (b.length : Int) ≤ (b.length : Nat)) (.cons (sl_slc (t := .shr) (g := zU) (lo := 3) (hi := (b.length : Int)) b om rfl rfl) (.cons (Meets.sw [(10, 12), (11, 13)] (slices_Chunk_byte_byte_m (slc b 3 (b.length : Int)) 32 rfl) : Meets Tryd.prog 67 [.sl 1 .shr (slc b 3 (b.length : Int)).length (u8s (slc b 3 (b.length : Int))), ti 32] [] [] (.fn (.func 83) [] [.addr 12 0, .addr 13 0]) [(12, [.sl 1 .shr (slc b 3 (b.length : Int)).length (u8s (slc b 3 (b.length : Int)))]), (13, [ti 32])]) (.cons (sb : subN (idsL [.sl 1 .shr (slc b 3 (b.length : Int)).length (u8s (slc b 3 (b.length : Int))), ti 32]) [] = true) .nil)))) ?_
   clear hk; intro k hk
   refine Go.phnC 11 0 14 33 ([.ref 14 33 0 0]) rfl rfl (.inl rfl) rfl rfl rfl rfl ?_
   refine Go.ord [10, 12, 13, 11, 14] ([(10, [.leaf (.slice none 0 0)]), (12, [.sl 1 .shr (slc b 3 (b.length : Int)).length (u8s (slc b 3 (b.length : Int)))]), (13, [ti 32]), (11, [.ref 14 33 0 0]), (14, [])]) rfl rfl ?_
   refine Go.rangeChunk (E := E) (Hr := [(10, [.leaf (.slice none 0 0)]), (12, [.sl 1 .shr (slc b 3 (b.length : Int)).length (u8s (slc b 3 (b.length : Int)))]), (13, [ti 32])]) (z0 := ([] : List Tn)) (L := [(2, .addr 10 0), (4, .addr 11 0), (30, .fn (.func 83) [] [.addr 12 0, .addr 13 0])]) 20 32 12 13 .shr (slc b 3 (b.length : Int)) (fun kk z => kr_Decode_rb1 b kk z) (fun z : (List Tn) => [(11, [.ref 14 33 0 z.length]), (14, fl gTm z)]) (fun z : Empty => nomatch z) (fun kk (z : (List Tn)) => (z.length = kk)) [4, 5] [11] [14] [11, 14] [11, 14] (fun (p : List UInt8) => [.dead, .dead, .dead, .dead, .addr 11 0, .sl 1 .shr (p).length (u8s (p)), .dead, .dead, .dead, .dead, .dead, .dead, .dead, .dead, .dead, .dead, .dead, .dead, .dead, .dead, .dead, .dead, .dead, .dead, .dead, .dead, .dead, .dead, .dead, .dead, .dead, .dead, .dead, .dead, .dead, .dead, .dead, .dead, .dead, .dead, .dead, .dead, .dead, .dead, .dead, .dead, .dead, .dead, .dead, .dead, .dead, .dead]) (fun z : (List Tn) => kr_Decode_rk1 z) (fun z : Empty => nomatch z) (chunk_ok 32 (by decide) (by decide)) (by decide) om rfl rfl hrd hk rfl rfl Tryd.call83 rfl rfl rfl (fun _ => rfl) (fun d => nomatch d) rfl rfl (fun _ => rfl) (fun d => nomatch d) (.cons sb (.cons sb (.cons sb .nil))) (.cons sb (.cons sb (.cons sb .nil))) (fun z => (.cons sb (.cons (by rw [(fl_ids (g := gTm) (fun _ => rfl) z)]; rfl) .nil))) (fun _ => kr) (fun _ => rfl) (by rfl) (fun kk z hk0 hi => kr_Decode_rb1_m b kk z (by exact hk0) (by have j0 := hi; exact j0) (by have j0 := hi; first | omega | (simp <;> omega) | (simp at * <;> omega) | (split <;> omega) | (split <;> (first | omega | (simp <;> omega) | (simp at * <;> omega)))) (by have j0 := hi; first | omega | (simp <;> omega) | (simp at * <;> omega) | (split <;> omega) | (split <;> (first | omega | (simp <;> omega) | (simp at * <;> omega))))) (fun kk z z' hk0 hi he => by have j0 := hi; rw [kr_Decode_rb1] at he; injection he with he; rw [← he]; simp; exact hi) ?_ ?_
   ·clear hrd; rintro o1 j0 Γ kr1 hrd hr1
    show Go E Γ 35 52 [] ((PostX Γ kr_Decode_enc) (kr_Decode_rk1 o1)) kr1 (stL [(2, .addr 10 0), (4, .addr 11 0), (30, .fn (.func 83) [] [.addr 12 0, .addr 13 0])] [(10, [.leaf (.slice none 0 0)]), (12, [.sl 1 .shr (slc b 3 (b.length : Int)).length (u8s (slc b 3 (b.length : Int)))]), (13, [ti 32]), (11, [.ref 14 33 0 o1.length]), (14, fl gTm o1)])
    have hsl := slc_len b 3 (b.length : Int)
    refine Go.keepN [2, 4] (L' := [(2, .addr 10 0), (4, .addr 11 0)]) rfl ?_
    refine Go.frzC [] [] 11 0 14 (fl gTm o1) ([.sl 33 .shr o1.length (fl gTm o1)]) _ [(2, .addr 10 0), (4, .addr 11 0)] [(10, [.leaf (.slice none 0 0)]), (12, [.sl 1 .shr (slc b 3 (b.length : Int)).length (u8s (slc b 3 (b.length : Int)))]), (13, [ti 32]), (11, [.dead])] rfl rfl rfl rfl (fl_ids (g := gTm) (fun _ => rfl) o1) (by rw [fl_len (m := 33) (fun _ => rfl)]; omega) (fl_all (g := gTm) (m := 33) (fun _ => rfl) o1) kr .nil rfl rfl ?_
    refine Go.rx 20 { ws := [(1, { call := some { ids := [], S := [], M := [], R := er 105 (kr_Check o1), H' := [] } }), (2, { er := some (105, (kr_Check o1)) })], ps := [47] } [12, 13] [2, 4, 48] _ [(2, .addr 10 0), (4, .addr 11 0), (48, tb (!(decide ((kr_Check o1) = 0))))] [(10, [.leaf (.slice none 0 0)]), (11, [.sl 33 .shr o1.length (fl gTm o1)])] hr1 rfl kr (.cons (kr_Check_m (g_r0 := .shr) o1) (.cons (sb : subN (idsL [.agg ([.sl 33 .shr o1.length (fl gTm o1)])]) [] = true) (.cons (⟨rfl, rfl⟩ : (er 105 (kr_Check o1)) = er 105 (kr_Check o1) ∧ (.leaf .nilIface : T) = .leaf .nilIface) (.cons (er_mem (i := 12) 105 (kr_Check o1)) (.cons (er_mem (i := 13) 105 (kr_Check o1)) .nil))))) ?_
    clear hr1; intro kr1 hr1
    refine Go.bnd (Pf := (PostX Γ kr_Decode_enc)) (v := (kr_Check o1)) (fun x1 => [(2, .addr 10 0), (4, .addr 11 0), (48, tb (!(decide (x1 = 0))))]) (fun x1 => [(10, [.leaf (.slice none 0 0)]), (11, [.sl 33 .shr o1.length (fl gTm o1)])]) ?_
    intro x1 hx1
    have fx1 := ring_fact o1
    rw [← hx1] at fx1
    refine Go.br 20 (Pf := (PostX Γ kr_Decode_enc)) hr1 rfl rfl ?_ ?_ <;> clear hr1 <;> intro ct2 kr1 hr1
    ·have ct2' : (decide (x1 = 0)) = false := ntT ct2
     have ct2'p := of_decide_eq_false ct2'
     refine Go.rx 20 { ps := [3, 50] } [11] [2, 3] _ [(2, .addr 10 0), (3, er 105 4)] [(10, [.leaf (.slice none 0 0)])] hr1 rfl kr (.cons (er_mem (i := 11) 105 4) (.cons (er_mem (i := 11) 105 4) .nil)) ?_
     clear hr1; intro kr1 hr1
     exact Go.lvx 20 [] _ [.agg [.leaf (.slice none 0 0)], er 105 4] Tryd.func35 hr1 rfl kr (.cons (by decide : 0 + 1 ≤ 1) .nil) (T.Le.tup (.cons (T.Le.agg (.cons (T.Le.nil _ _) .nil)) (.cons (T.Le.of_eq rfl) .nil))) rfl (by first | rfl | (simp only [kr_Decode_enc, T.ids, idsL, er_ids, List.append_nil, List.nil_append]; first | rfl | (rw [mp_ids _ (fun _ => rfl)]; rfl))) .nil
    ·have ct2' : (decide (x1 = 0)) = true := ntF ct2
     have ct2'p := of_decide_eq_true ct2'
     refine Go.rx 20 {} [11] [2, 3] _ [(2, .addr 10 0), (3, .leaf .nilIface)] [(10, [.sl 33 .shr o1.length (fl gTm o1)])] hr1 rfl kr .nil ?_
     clear hr1; intro kr1 hr1
     exact Go.lvx 20 [] _ [.agg ([.sl 33 .shr o1.length (fl gTm o1)]), .leaf .nilIface] Tryd.func35 hr1 rfl kr (.cons (by decide : 0 + 1 ≤ 1) .nil) (T.Le.tup (.cons (T.Le.of_eq rfl) (.cons (T.Le.of_eq rfl) .nil))) rfl rfl .nil
   ·intro d; exact nomatch d
 ·intro hk J
  rcases Bool.eq_false_or_eq_true (decide ((b.length : Int) < 3)) with gd1 | gd1
  ·have gd1p := of_decide_eq_true gd1
   refine Go.rx 20 { ws := [(2, { v := some (tb true) })] } [] [0, 2, 25] _ [(0, .sl 1 .shr b.length (u8s b)), (2, .addr 10 0), (25, tb true)] [(10, [.leaf (.slice none 0 0)])] hk rfl kr (.cons trivial (.cons (eb gd1) .nil)) ?_
   intro k' hk'
   refine Go.slotEq 25 (tb ((decide ((b.length : Int) < 3)) || (((slc b 0 2) != [107, 114]) || ((b.length : Int) != (3 + (((b.getD 2 0).toNat : Int) * 32)))))) rfl (eb (orT gd1).symm) ?_
   exact J k' hk'
  ·have gd1p := of_decide_eq_false gd1
   rcases Bool.eq_false_or_eq_true ((slc b 0 2) != [107, 114]) with gd2 | gd2
   ·refine Go.rx 20 { ws := [(2, { v := some (tb false) }), (5, { v := some (.sl 1 .shr (slc b 0 2).length (u8s (slc b 0 2))) }), (6, { b := slc b 0 2 }), (7, { v := some (tb true) })] } [] [0, 2, 25] _ [(0, .sl 1 .shr b.length (u8s b)), (2, .addr 10 0), (25, tb true)] [(10, [.leaf (.slice none 0 0)])] hk rfl kr (.cons trivial (.cons (eb gd1) (.cons (om : 0 ≤ (0 : Int) ∧ (0 : Int) ≤ 2 ∧ 2 ≤ (b.length : Int) ∧ (b.length : Int) ≤ (b.length : Nat)) (.cons (sl_slc (t := .shr) (g := zU) (lo := 0) (hi := 2) b om rfl rfl) (.cons (rfl : u8s (slc b 0 2) = u8s (slc b 0 2)) (.cons trivial (.cons ((s_ne (slc b 0 2) [107, 114]).trans (eb gd2)) .nil))))))) ?_
    intro k' hk'
    refine Go.slotEq 25 (tb ((decide ((b.length : Int) < 3)) || (((slc b 0 2) != [107, 114]) || ((b.length : Int) != (3 + (((b.getD 2 0).toNat : Int) * 32)))))) rfl (eb (orF gd1 (orT gd2)).symm) ?_
    exact J k' hk'
   ·have := lt8 (b.getD 2 0)
    refine Go.rx 20 { ws := [(2, { v := some (tb false) }), (5, { v := some (.sl 1 .shr (slc b 0 2).length (u8s (slc b 0 2))) }), (6, { b := slc b 0 2 }), (7, { v := some (tb false) }), (14, { v := some (t8 (b.getD 2 0)) }), (15, { v := some (ti ((b.getD 2 0).toNat : Int)) }), (16, { v := some (ti (((b.getD 2 0).toNat : Int) * 32)) }), (17, { v := some (ti (3 + (((b.getD 2 0).toNat : Int) * 32))) })] } [] [0, 2, 25] _ [(0, .sl 1 .shr b.length (u8s b)), (2, .addr 10 0), (25, tb ((b.length : Int) != (3 + (((b.getD 2 0).toNat : Int) * 32))))] [(10, [.leaf (.slice none 0 0)])] hk rfl kr (.cons trivial (.cons (eb gd1) (.cons (om : 0 ≤ (0 : Int) ∧ (0 : Int) ≤ 2 ∧ 2 ≤ (b.length : Int) ∧ (b.length : Int) ≤ (b.length : Nat)) (.cons (sl_slc (t := .shr) (g := zU) (lo := 0) (hi := 2) b om rfl rfl) (.cons (rfl : u8s (slc b 0 2) = u8s (slc b 0 2)) (.cons trivial (.cons ((s_ne (slc b 0 2) [107, 114]).trans (eb gd2)) (.cons (om : 0 ≤ (2 : Int) ∧ (2 : Int) < ((b.length : Nat) : Int)) (.cons (part1 (kr : (E.ti 5).agg = false) (mp_get (g := zU) (k := 2) (n := 2) b (0 : UInt8) rfl om)) (.cons (cv8_i (b.getD 2 0)) (.cons trivial (.cons (iw (((b.getD 2 0).toNat : Int) * 32) om) (.cons trivial (.cons (iw (3 + (((b.getD 2 0).toNat : Int) * 32)) om) (.cons trivial .nil))))))))))))))) ?_
    intro k' hk'
    refine Go.slotEq 25 (tb ((decide ((b.length : Int) < 3)) || (((slc b 0 2) != [107, 114]) || ((b.length : Int) != (3 + (((b.getD 2 0).toNat : Int) * 32)))))) rfl (eb (orF gd1 (orF gd2 rfl)).symm) ?_
    exact J k' hk'
attribute [irreducible] kr_Decode_rb1 kr_Decode_rk1 kr_Decode
noncomputable def kr_Use (t0 : UInt32) (t1 : List UInt8) (use : List UInt8) : List UInt8 × Int :=
 bnd (hkdf_Key (fxa 32 t1 : List UInt8) use t0) fun x1 =>
 (x1.1, x1.2)
def kr_Use_enc (x : List UInt8 × Int) : T × List (Nat × List T) := (.tup [.sl 1 .shr x.1.length (u8s x.1), er 105 x.2], [])
theorem kr_Use_m (t0 : UInt32) (t1 : List UInt8) (use : List UInt8) : Meets Tryd.prog 44 [.agg ([t32 t0] ++ u8s (fxa 32 t1)), ts use] [] [] (.tup [.sl 1 .shr ((kr_Use t0 t1 use).1).length (u8s ((kr_Use t0 t1 use).1)), er 105 ((kr_Use t0 t1 use).2)]) [] := by
 refine Meets.enterX (E := E) (N := 14) (enc := kr_Use_enc) (x := (kr_Use t0 t1 use)) Tryd.func44 Tryd.call44 rfl rfl ?_
 intro Γ k hk
 refine Go.rx 20 { ws := [(0, { id := 10, gv := true })] } [10] [1, 2] _ [(1, ts use), (2, .pt .shr 0 ([t32 t0] ++ u8s (fxa 32 t1)))] [] hk rfl kr (.cons (rfl : idsL ([t32 t0] ++ u8s (fxa 32 t1)) = []) .nil) ?_
 clear hk; intro k hk
 refine Go.dx 20 [0, 1, 2, 3, 4, 5, 6, 7, 8, 9] { ws := [(1, { v := some (.sl 1 .shr (fxa 32 t1 : List UInt8).length (u8s (fxa 32 t1 : List UInt8))) }), (5, { call := some { ids := [], S := [], M := [], R := .tup [.sl 1 .shr ((hkdf_Key (fxa 32 t1 : List UInt8) use t0).1).length (u8s ((hkdf_Key (fxa 32 t1 : List UInt8) use t0).1)), er 105 ((hkdf_Key (fxa 32 t1 : List UInt8) use t0).2)], H' := [] } })] } [] [4, 5] _ [(4, .sl 1 .shr ((hkdf_Key (fxa 32 t1 : List UInt8) use t0).1).length (u8s ((hkdf_Key (fxa 32 t1 : List UInt8) use t0).1))), (5, er 105 ((hkdf_Key (fxa 32 t1 : List UInt8) use t0).2))] [] hk rfl kr (.cons (by decide : 0 ≤ (0 : Int) ∧ (0 : Int) ≤ ((32 : Nat) : Int) ∧ ((32 : Nat) : Int) ≤ ((32 : Nat) : Int) ∧ ((32 : Nat) : Int) ≤ ((32 : Nat) : Int)) (.cons (by kernel_rfl : T.sl 1 .shr 32 (sub ([t32 t0] ++ u8s (fxa 32 t1)) 1 (32 * 1)) = .sl 1 .shr (fxa 32 t1 : List UInt8).length (u8s (fxa 32 t1 : List UInt8))) (.cons (hkdf_Key_m (fxa 32 t1 : List UInt8) use t0) (.cons (sb : subN (idsL [.sl 1 .shr (fxa 32 t1 : List UInt8).length (u8s (fxa 32 t1 : List UInt8)), ts use, t32 t0]) [] = true) .nil)))) ?_
 clear hk; intro k hk
 refine Go.bnd (Pf := (PostX Γ kr_Use_enc)) (v := (hkdf_Key (fxa 32 t1 : List UInt8) use t0)) (fun x1 => [(4, .sl 1 .shr x1.1.length (u8s x1.1)), (5, er 105 x1.2)]) (fun x1 => []) ?_
 intro x1 hx1
 exact Go.lvx 20 [] _ [.sl 1 .shr x1.1.length (u8s x1.1), er 105 x1.2] Tryd.func44 hk rfl kr .nil (T.Le.tup (.cons (T.Le.of_eq rfl) (.cons (T.Le.of_eq rfl) .nil))) rfl (by first | rfl | (simp only [kr_Use_enc, T.ids, idsL, er_ids, List.append_nil, List.nil_append]; first | rfl | (rw [mp_ids _ (fun _ => rfl)]; rfl))) .nil
attribute [irreducible] kr_Use
end Go.Proofs.YtbppcnhfeobefabDoor

import Derived.Test.YtbppcnhfeobefabDoorPK2
import Derived.Test.YtbppcnhfeobefabDoorEnVy9
set_option linter.unusedVariables false
namespace Go.Proofs.YtbppcnhfeobefabDoor
open Go Go.Vw Go.Proofs
theorem qg4b_1 {p : Prop} (h : p := by first | omega | (have hrf := fx1 (by assumption); omega) | (have hrf := fx1 (by assumption); simp; omega) | (have hrf := fx1 (by assumption); simp only [id_eq, List.length_append, List.length_cons, List.length_nil]; omega) | (simp <;> omega) | (simp at * <;> omega)) : p := h
theorem qg4b_2 {p : Prop} (h : p := by rw [fl_len (m := 33) (fun _ => rfl)]; omega) : p := h
noncomputable def r9_Rotate (l : List Tn) (key : List UInt8) : (List Tn) × Int :=
 bnd (r9_May l) fun x1 =>
 bif !x1 then
  ([], 1)
 else
  bif (l.length : Int) == 16 then
   ([], 7)
  else
   ((l ++ [(u32i ((l.length : Int) + 1), key)]), 0)
def r9_Rotate_enc (x : (List Tn) × Int) : T × List (Nat × List T) := (.tup [.sl 33 .shr x.1.length (fl gTm x.1), ti x.2], [])
theorem r9_Rotate_m {g_l : Tag} (l : List Tn) (key : List UInt8) (hl_key : key.length = 32) (hl : l.length ≤ 1000) : Meets Tryd.prog 39 [.sl 33 g_l l.length (fl gTm l), .agg (u8s key)] [] [] (.tup [.sl 33 .shr ((r9_Rotate l key).1).length (fl gTm ((r9_Rotate l key).1)), ti ((r9_Rotate l key).2)]) [] := by
 refine Meets.enterX (E := E) (N := 26) (enc := r9_Rotate_enc) (x := (r9_Rotate l key)) Tryd.func39 Tryd.call39 rfl rfl ?_
 intro Γ k hk
 refine Go.rx 20 { ws := [(0, { id := 10 })] } [] [0, 3] _ [(0, .sl 33 g_l l.length (fl gTm l)), (3, .addr 10 0)] [(10, u8s key)] hk rfl kr .nil ?_
 clear hk; intro k hk
 refine Go.rx 20 { ws := [(1, { call := some { ids := [], S := [], M := [], R := tb (r9_May l), H' := [] } })] } [] [0, 3, 8] _ [(0, .sl 33 g_l l.length (fl gTm l)), (3, .addr 10 0), (8, tb (!(r9_May l)))] [(10, u8s key)] hk rfl kr (.cons (r9_May_m (g_l := g_l) l (by first | omega | (simp only [List.length_append, List.length_cons, List.length_nil]; omega) | (simp; omega) | (simp; done))) (.cons (sb : subN (idsL [.sl 33 g_l l.length (fl gTm l)]) [] = true) .nil)) ?_
 clear hk; intro k hk
 refine Go.bnd (Pf := (PostX Γ r9_Rotate_enc)) (v := (r9_May l)) (fun x1 => [(0, .sl 33 g_l l.length (fl gTm l)), (3, .addr 10 0), (8, tb (!x1))]) (fun x1 => [(10, u8s key)]) ?_
 intro x1 hx1
 have fx1 := may_fact l
 rw [← hx1] at fx1
 refine Go.br 20 (Pf := (PostX Γ r9_Rotate_enc)) hk rfl rfl ?_ ?_ <;> clear hk <;> intro ct1 k hk
 ·have ct1' : x1 = false := ntT ct1
  refine Go.rx 20 {} [10] [4, 5] _ [(4, .leaf (.slice none 0 0)), (5, ti 1)] [] hk rfl kr .nil ?_
  clear hk; intro k hk
  exact Go.lvx 20 [] _ [.leaf (.slice none 0 0), ti 1] Tryd.func39 hk rfl kr .nil (T.Le.tup (.cons (T.Le.nil _ _) (.cons (T.Le.of_eq rfl) .nil))) rfl rfl .nil
 ·have ct1' : x1 = true := ntF ct1
  refine Go.rx 20 {} [] [0, 3, 11] _ [(0, .sl 33 g_l l.length (fl gTm l)), (3, .addr 10 0), (11, tb ((l.length : Int) == 16))] [(10, u8s key)] hk rfl kr (.cons trivial .nil) ?_
  clear hk; intro k hk
  refine Go.br 20 (Pf := (PostX Γ r9_Rotate_enc)) hk rfl rfl ?_ ?_ <;> clear hk <;> intro ct2 k hk
  ·have ct2p := eqIt ct2
   refine Go.rx 20 {} [10] [4, 5] _ [(4, .leaf (.slice none 0 0)), (5, ti 7)] [] hk rfl kr .nil ?_
   clear hk; intro k hk
   exact Go.lvx 20 [] _ [.leaf (.slice none 0 0), ti 7] Tryd.func39 hk rfl kr .nil (T.Le.tup (.cons (T.Le.nil _ _) (.cons (T.Le.of_eq rfl) .nil))) rfl rfl .nil
  ·have ct2p := eqIf ct2
   refine Go.dx 20 [0, 1, 2, 3, 4, 5, 6, 7, 8, 9, 10, 11, 12, 13, 14, 15] { ws := [(5, { v := some (.xl 33 g_l l.length (fl gTm l)), gv := true }), (8, { v := some (ti ((l.length : Int) + 1)) }), (9, { v := some (t32 (u32i ((l.length : Int) + 1))) }), (10, { v := some (.agg (u8s (fxa 32 key))) }), (12, { id := 11 }), (13, { v := some (.ref 12 33 0 ((l ++ [(u32i ((l.length : Int) + 1), key)]).length)), c := some (fl gTm (l ++ [(u32i ((l.length : Int) + 1), key)])), id := 12 })], pg := [12] } [10, 11] [4, 5] _ [(4, .ref 12 33 0 ((l ++ [(u32i ((l.length : Int) + 1), key)]).length)), (5, ti 0)] [(12, fl gTm (l ++ [(u32i ((l.length : Int) + 1), key)]))] hk rfl kr (.cons (om : 0 ≤ (0 : Int) ∧ (0 : Int) ≤ (l.length : Int) ∧ (l.length : Int) ≤ (l.length : Int) ∧ (l.length : Int) ≤ (l.length : Nat)) (.cons (rfl : ((l.length : Int)).toNat = ((l.length : Int)).toNat) (.cons (fl_xl (t := g_l) (g := gTm) (m := 33) (fun _ => rfl) l rfl rfl) (.cons trivial (.cons (iw ((l.length : Int) + 1) om) (.cons (cvi_32 ((l.length : Int) + 1)) (.cons (fx_whole (kr : (E.ti 74).agg = true) (kr : (E.ti 74).size = 32) (by first | (simp; done) | (with_reducible assumption) | omega | (simp <;> omega) | rfl : (key).length = 32)) (.cons (by exact ⟨by decide, by first | omega | (simp <;> omega) | (simp at * <;> omega) | (split <;> omega) | (split <;> (first | omega | (simp <;> omega) | (simp at * <;> omega)))⟩ : (0 : Nat) < 1 ∧ (l.length + 1) * 36 ≤ 140737488355328) (.cons (fl_xapp (g := gTm) l [(u32i ((l.length : Int) + 1), key)] rfl) (.cons (congrArg (fun q => T.ref 12 33 0 q) (by simp <;> omega : l.length + 1 = (l ++ [(u32i ((l.length : Int) + 1), key)]).length) : T.ref 12 33 0 (l.length + 1) = .ref 12 33 0 ((l ++ [(u32i ((l.length : Int) + 1), key)]).length)) (.cons (fl_mem (i := 10) (g := gTm) (l ++ [(u32i ((l.length : Int) + 1), key)]) (fun _ => rfl)) (.cons (fl_mem (i := 11) (g := gTm) (l ++ [(u32i ((l.length : Int) + 1), key)]) (fun _ => rfl)) .nil)))))))))))) ?_
   clear hk; intro k hk
   refine Go.frz [] [] 4 12 (fl gTm (l ++ [(u32i ((l.length : Int) + 1), key)])) _ [(4, .dead), (5, ti 0)] [] rfl rfl (fl_ids (g := gTm) (fun _ => rfl) (l ++ [(u32i ((l.length : Int) + 1), key)])) qg4b_2 (fl_all (g := gTm) (m := 33) (fun _ => rfl) (l ++ [(u32i ((l.length : Int) + 1), key)])) kr .nil ?_
   exact Go.lvx 20 [] _ [.sl 33 .shr (l ++ [(u32i ((l.length : Int) + 1), key)]).length (fl gTm (l ++ [(u32i ((l.length : Int) + 1), key)])), ti 0] Tryd.func39 hk rfl kr .nil (T.Le.tup (.cons (T.Le.of_eq rfl) (.cons (T.Le.of_eq rfl) .nil))) rfl rfl .nil
attribute [irreducible] r9_Rotate
noncomputable def r9_Encode_k1 (o2 : List UInt8) : List UInt8 × Int :=
 (o2, 0)
noncomputable def r9_Encode_l2 (l : List Tn) (i1 : Int) : Nat → Int → (List UInt8) → Lo (List UInt8) (Lo (List UInt8) (List UInt8 × Int))
 | 0, _, _ => .brk default
 | ml2 + 1, k1, o3 =>
  bif decide (k1 < 32) then
   r9_Encode_l2 l i1 ml2 (k1 + 1) (o3 ++ ([((l.getD i1.toNat ((0, []) : UInt32 × List UInt8)).2).getD k1.toNat 0]))
  else
   Lo.brk o3
noncomputable def r9_Encode_l1 (l : List Tn) : Nat → Int → (List UInt8) → Lo (List UInt8) (List UInt8 × Int)
 | 0, _, _ => .brk default
 | ml1 + 1, i1, o1 =>
  bif decide (i1 < (l.length : Int)) then
   Lo.el (r9_Encode_l2 l i1 ((32 - (0 : Int)).toNat + 1) 0 o1) (fun z : List UInt8 => (fun (o4 : List UInt8) => r9_Encode_l1 l ml1 (i1 + 1) o4) z)
  else
   Lo.brk o1
noncomputable def r9_Encode (l : List Tn) : List UInt8 × Int :=
 bnd (r9_May l) fun x1 =>
 bif !x1 then
  ([], 1)
 else
  Lo.el (r9_Encode_l1 l (((l.length : Int) - (0 : Int)).toNat + 1) 0 [107, 114, u8i (l.length : Int)]) (fun z : List UInt8 => r9_Encode_k1 z)
def r9_Encode_enc (x : List UInt8 × Int) : T × List (Nat × List T) := (.tup [.sl 1 .shr x.1.length (u8s x.1), ti x.2], [])
theorem r9_Encode_m {g_l : Tag} (l : List Tn) (hl : l.length ≤ 1000) : Meets Tryd.prog 40 [.sl 33 g_l l.length (fl gTm l)] [] [] (.tup [.sl 1 .shr ((r9_Encode l).1).length (u8s ((r9_Encode l).1)), ti ((r9_Encode l).2)]) [] := by
 refine Meets.enterX (E := E) (N := 35) (enc := r9_Encode_enc) (x := (r9_Encode l)) Tryd.func40 Tryd.call40 rfl rfl ?_
 intro Γ k hk
 refine Go.rx 20 {} [] [0] _ [(0, .sl 33 g_l l.length (fl gTm l))] [] hk rfl kr .nil ?_
 clear hk; intro k hk
 refine Go.rx 20 { ws := [(1, { call := some { ids := [], S := [], M := [], R := tb (r9_May l), H' := [] } })] } [] [0, 9] _ [(0, .sl 33 g_l l.length (fl gTm l)), (9, tb (!(r9_May l)))] [] hk rfl kr (.cons (r9_May_m (g_l := g_l) l (by first | omega | (simp only [List.length_append, List.length_cons, List.length_nil]; omega) | (simp; omega) | (simp; done))) (.cons (sb : subN (idsL [.sl 33 g_l l.length (fl gTm l)]) [] = true) .nil)) ?_
 clear hk; intro k hk
 refine Go.bnd (Pf := (PostX Γ r9_Encode_enc)) (v := (r9_May l)) (fun x1 => [(0, .sl 33 g_l l.length (fl gTm l)), (9, tb (!x1))]) (fun x1 => []) ?_
 intro x1 hx1
 have fx1 := may_fact l
 rw [← hx1] at fx1
 refine Go.br 20 (Pf := (PostX Γ r9_Encode_enc)) hk rfl rfl ?_ ?_ <;> clear hk <;> intro ct1 k hk
 ·have ct1' : x1 = false := ntT ct1
  refine Go.rx 20 {} [] [2, 3] _ [(2, .leaf (.slice none 0 0)), (3, ti 1)] [] hk rfl kr .nil ?_
  clear hk; intro k hk
  exact Go.lvx 20 [] _ [.leaf (.slice none 0 0), ti 1] Tryd.func40 hk rfl kr .nil (T.Le.tup (.cons (T.Le.nil _ _) (.cons (T.Le.of_eq rfl) .nil))) rfl rfl .nil
 ·have ct1' : x1 = true := ntF ct1
  refine Go.rx 20 { ws := [(2, { v := some (t8 (u8i (l.length : Int))) }), (3, { id := 10 })] } [] [0, 4] _ [(0, .sl 33 g_l l.length (fl gTm l)), (4, .ref 10 1 0 3)] [(10, [t8 107, t8 114, t8 (u8i (l.length : Int))])] hk rfl kr (.cons (cvi_8 (l.length : Int)) .nil) ?_
  clear hk; intro k hk
  refine Go.rx 20 {} [] [0, 4, 5] _ [(0, .sl 33 g_l l.length (fl gTm l)), (4, .ref 10 1 0 3), (5, ti 0)] [(10, [t8 107, t8 114, t8 (u8i (l.length : Int))])] hk rfl kr .nil ?_
  clear hk; intro k hk
  refine Go.loopX 20 hk rfl ?_
  clear hk; intro kl1 kxl1 hl1 hxl1
  have Xl1 : ∀ (o2 : List UInt8), Go E Γ 40 35 [] ((PostX Γ r9_Encode_enc) (r9_Encode_k1 o2)) kxl1 (stL [(4, .ref 10 1 0 o2.length)] [(10, u8s o2)]) := by
   intro o2
   refine Go.rx 20 {} [] [2, 3] _ [(2, .ref 10 1 0 o2.length), (3, ti 0)] [(10, u8s o2)] hxl1 rfl kr .nil ?_
   clear hxl1; intro kxl1 hxl1
   refine Go.frz [] [] 2 10 (u8s o2) _ [(2, .dead), (3, ti 0)] [] rfl rfl (mp_ids (g := zU) o2 (fun _ => rfl)) (by simp only [List.length_map]; omega) (mp_all (g := zU) o2) kr .nil ?_
   exact Go.lvx 20 [] _ [.sl 1 .shr o2.length (u8s o2), ti 0] Tryd.func40 hxl1 rfl kr .nil (T.Le.tup (.cons (T.Le.of_eq rfl) (.cons (T.Le.of_eq rfl) .nil))) rfl rfl .nil
  have Ll1 : ∀ (ml1 : Nat) (i1 : Int) (o1 : List UInt8), (0 ≤ i1) → (i1 ≤ (l.length : Int)) → ((o1.length : Int) = 3 + 32 * i1) → (((l.length : Int) - i1).toNat < ml1) → Go E Γ 40 35 [] ((PostX Γ r9_Encode_enc) (Lo.el (r9_Encode_l1 l ml1 i1 o1) (fun z : List UInt8 => r9_Encode_k1 z))) kl1 (stL [(0, .sl 33 g_l l.length (fl gTm l)), (4, .ref 10 1 0 o1.length), (5, ti i1)] [(10, u8s o1)]) := by
   intro ml1
   induction ml1 with
   | zero => intro i1 o1 i0l1 i1l1 i2l1 hml1; exact absurd hml1 (Nat.not_lt_zero _)
   | succ ml1 ihl1 =>
    intro i1 o1 i0l1 i1l1 i2l1 hml1
    rw [r9_Encode_l1]
    refine Go.round hl1 ?_
    intro k hk
    refine Go.rx 20 {} [] [0, 4, 5, 17] _ [(0, .sl 33 g_l l.length (fl gTm l)), (4, .ref 10 1 0 o1.length), (5, ti i1), (17, tb (decide (i1 < (l.length : Int))))] [(10, u8s o1)] hk rfl kr (.cons trivial .nil) ?_
    clear hk; intro k hk
    refine Go.br 20 (Pf := (fun z : Lo (List UInt8) (List UInt8 × Int) => (PostX Γ r9_Encode_enc) (Lo.el z (fun z : List UInt8 => r9_Encode_k1 z)))) hk rfl rfl ?_ ?_ <;> clear hk <;> intro ct2 k hk
    ·have ct2p := of_decide_eq_true ct2
     refine Go.rx 20 {} [] [0, 4, 5, 6] _ [(0, .sl 33 g_l l.length (fl gTm l)), (4, .ref 10 1 0 o1.length), (5, ti i1), (6, ti 0)] [(10, u8s o1)] hk rfl kr .nil ?_
     clear hk; intro k hk
     refine Go.loopX 20 hk rfl ?_
     clear hk; intro kl2 kxl2 hl2 hxl2
     have Xl2 : ∀ (o4 : List UInt8) (f0l2 : (o4.length : Int) = 3 + 32 * i1 + 32), Go E Γ 40 35 [] ((fun z : Lo (List UInt8) (List UInt8 × Int) => (PostX Γ r9_Encode_enc) (Lo.el z (fun z : List UInt8 => r9_Encode_k1 z))) (r9_Encode_l1 l ml1 (i1 + 1) o4)) kxl2 (stL [(0, .sl 33 g_l l.length (fl gTm l)), (4, .ref 10 1 0 o4.length), (5, ti i1)] [(10, u8s o4)]) := by
      intro o4 f0l2
      refine Go.rx 20 { ws := [(1, { v := some (ti (i1 + 1)) })] } [] [0, 4, 5] _ [(0, .sl 33 g_l l.length (fl gTm l)), (4, .ref 10 1 0 o4.length), (5, ti (i1 + 1))] [(10, u8s o4)] hxl2 rfl kr (.cons trivial (.cons (iw (i1 + 1) qg4b_1) .nil)) ?_
      clear hxl2; intro kxl2 hxl2
      exact Go.join 20 hxl2 hl1 rfl (ihl1 (i1 + 1) o4 qg4b_1 qg4b_1 qg4b_1 qg4b_1)
     have Ll2 : ∀ (ml2 : Nat) (k1 : Int) (o3 : List UInt8), (0 ≤ k1) → (k1 ≤ 32) → ((o3.length : Int) = 3 + 32 * i1 + k1) → ((32 - k1).toNat < ml2) → Go E Γ 40 35 [] ((fun z : Lo (List UInt8) (List UInt8 × Int) => (PostX Γ r9_Encode_enc) (Lo.el z (fun z : List UInt8 => r9_Encode_k1 z))) (Lo.el (r9_Encode_l2 l i1 ml2 k1 o3) (fun z : List UInt8 => (fun (o4 : List UInt8) => r9_Encode_l1 l ml1 (i1 + 1) o4) z))) kl2 (stL [(0, .sl 33 g_l l.length (fl gTm l)), (4, .ref 10 1 0 o3.length), (5, ti i1), (6, ti k1)] [(10, u8s o3)]) := by
      intro ml2
      induction ml2 with
      | zero => intro k1 o3 i0l2 i1l2 i2l2 hml2; exact absurd hml2 (Nat.not_lt_zero _)
      | succ ml2 ihl2 =>
       intro k1 o3 i0l2 i1l2 i2l2 hml2
       rw [r9_Encode_l2]
       refine Go.round hl2 ?_
       intro k hk
       refine Go.rx 20 {} [] [0, 4, 5, 6, 21] _ [(0, .sl 33 g_l l.length (fl gTm l)), (4, .ref 10 1 0 o3.length), (5, ti i1), (6, ti k1), (21, tb (decide (k1 < 32)))] [(10, u8s o3)] hk rfl kr (.cons trivial .nil) ?_
       clear hk; intro k hk
       refine Go.br 20 (Pf := (fun z : Lo (List UInt8) (Lo (List UInt8) (List UInt8 × Int)) => (fun z : Lo (List UInt8) (List UInt8 × Int) => (PostX Γ r9_Encode_enc) (Lo.el z (fun z : List UInt8 => r9_Encode_k1 z))) (Lo.el z (fun z : List UInt8 => (fun (o4 : List UInt8) => r9_Encode_l1 l ml1 (i1 + 1) o4) z)))) hk rfl rfl ?_ ?_ <;> clear hk <;> intro ct3 k hk
       ·have ct3p := of_decide_eq_true ct3
        refine Go.rx 20 { ws := [(7, { v := some (t8 (((l.getD i1.toNat ((0, []) : UInt32 × List UInt8)).2).getD k1.toNat 0)) }), (8, { id := 11 }), (9, { v := some (.ref 10 1 0 ((o3 ++ ([((l.getD i1.toNat ((0, []) : UInt32 × List UInt8)).2).getD k1.toNat 0])).length)), c := some (u8s (o3 ++ ([((l.getD i1.toNat ((0, []) : UInt32 × List UInt8)).2).getD k1.toNat 0]))), id := 10, sym := true })], pg := [10], fd := some [10] } [11] [0, 4, 5, 6] _ [(0, .sl 33 g_l l.length (fl gTm l)), (4, .ref 10 1 0 ((o3 ++ ([((l.getD i1.toNat ((0, []) : UInt32 × List UInt8)).2).getD k1.toNat 0])).length)), (5, ti i1), (6, ti k1)] [(10, u8s (o3 ++ ([((l.getD i1.toNat ((0, []) : UInt32 × List UInt8)).2).getD k1.toNat 0])))] hk rfl kr (.cons (qg4b_1 : 0 ≤ (i1 : Int) ∧ (i1 : Int) < ((l.length : Nat) : Int)) (.cons (qg4b_1 : 0 ≤ (k1 : Int) ∧ (k1 : Int) < 32) (.cons (fl_part1 (g := gTm) (m := 33) (k := i1.toNat * 33 + 1 + k1.toNat * 1) (n := i1.toNat) (j := 1 + k1.toNat) (l := l) (d := ((0, []) : UInt32 × List UInt8)) (kr : (E.ti 5).agg = false) (fun _ => rfl) (by omega) qg4b_1 qg4b_1 (fxa_at (p := 1) rfl qg4b_1)) (.cons (Nat.le_of_ble_eq_true rfl : 0 + 1 * 1 ≤ ([t8 (((l.getD i1.toNat ((0, []) : UInt32 × List UInt8)).2).getD k1.toNat 0)] : List T).length) (.cons (by simp only [List.length_map]; omega : 0 + o3.length * 1 ≤ (u8s o3).length) (.cons (rfl : scalL ([t8 (((l.getD i1.toNat ((0, []) : UInt32 × List UInt8)).2).getD k1.toNat 0)]) = true) (.cons (qg4b_1 : (o3.length + 1) * 1 ≤ 140737488355328) (.cons (mp_app (g := zU) (o3) ([((l.getD i1.toNat ((0, []) : UInt32 × List UInt8)).2).getD k1.toNat 0]) rfl) (.cons (mp_mem (i := 10) (g := zU) (o3 ++ ([((l.getD i1.toNat ((0, []) : UInt32 × List UInt8)).2).getD k1.toNat 0])) (fun _ => rfl)) (.cons (by first | rfl | (simp; done) | (refine congrArg (fun q => T.ref 10 1 0 q) ?_; simp <;> omega) : T.ref 10 1 0 (o3.length + 1) = .ref 10 1 0 ((o3 ++ ([((l.getD i1.toNat ((0, []) : UInt32 × List UInt8)).2).getD k1.toNat 0])).length)) (.cons (mp_mem (i := 11) (g := zU) (o3 ++ ([((l.getD i1.toNat ((0, []) : UInt32 × List UInt8)).2).getD k1.toNat 0])) (fun _ => rfl)) .nil))))))))))) ?_
        clear hk; intro k hk
        refine Go.rx 20 { ws := [(1, { v := some (ti (k1 + 1)) })] } [] [0, 4, 5, 6] _ [(0, .sl 33 g_l l.length (fl gTm l)), (4, .ref 10 1 0 ((o3 ++ ([((l.getD i1.toNat ((0, []) : UInt32 × List UInt8)).2).getD k1.toNat 0])).length)), (5, ti i1), (6, ti (k1 + 1))] [(10, u8s (o3 ++ ([((l.getD i1.toNat ((0, []) : UInt32 × List UInt8)).2).getD k1.toNat 0])))] hk rfl kr (.cons trivial (.cons (iw (k1 + 1) qg4b_1) .nil)) ?_
        clear hk; intro k hk
        exact Go.join 20 hk hl2 rfl (ihl2 (k1 + 1) (o3 ++ ([((l.getD i1.toNat ((0, []) : UInt32 × List UInt8)).2).getD k1.toNat 0])) qg4b_1 qg4b_1 qg4b_1 qg4b_1)
       ·have ct3p := of_decide_eq_false ct3
        refine Go.keepN [0, 4, 5] (L' := [(0, .sl 33 g_l l.length (fl gTm l)), (4, .ref 10 1 0 o3.length), (5, ti i1)]) rfl ?_
        exact Go.exitX (Pf := (fun z : Lo (List UInt8) (List UInt8 × Int) => (PostX Γ r9_Encode_enc) (Lo.el z (fun z : List UInt8 => r9_Encode_k1 z)))) (F := fun z : List UInt8 => (fun (o4 : List UInt8) => r9_Encode_l1 l ml1 (i1 + 1) o4) z) (a := o3) (Go.join 20 hk hxl2 rfl (Xl2 o3 qg4b_1))
     exact Ll2 _ 0 o1 qg4b_1 qg4b_1 qg4b_1 (Nat.lt_succ_self _)
    ·have ct2p := of_decide_eq_false ct2
     refine Go.keepN [4] (L' := [(4, .ref 10 1 0 o1.length)]) rfl ?_
     exact Go.exitX (Pf := (PostX Γ r9_Encode_enc)) (F := fun z : List UInt8 => r9_Encode_k1 z) (a := o1) (Go.join 20 hk hxl1 rfl (Xl1 o1))
  exact Ll1 _ 0 [107, 114, u8i (l.length : Int)] (by first | omega | (simp; done)) (by first | omega | (simp; done)) (by first | omega | (simp; done)) (Nat.lt_succ_self _)
theorem r9_Encode_l2_gen : True := by have := @r9_Encode_l2.eq_1; have := @r9_Encode_l2.eq_2; trivial
theorem r9_Encode_l1_gen : True := by have := @r9_Encode_l1.eq_1; have := @r9_Encode_l1.eq_2; trivial
attribute [irreducible] r9_Encode_k1 r9_Encode_l2 r9_Encode_l1 r9_Encode
noncomputable def r9_Decode_k1 (o2 : List Tn) : (List Tn) × Int :=
 (o2, 0)
noncomputable def r9_Decode_l2 (a0 : List UInt8) (t51 : Int) : Nat → Int → (List UInt8) → Lo (List UInt8) (Lo ((List Tn)) ((List Tn) × Int))
 | 0, _, _ => .brk default
 | ml2 + 1, t71, f11_1_1 =>
  bif decide (t71 < 32) then
   r9_Decode_l2 a0 t51 ml2 (t71 + 1) ((fxa 32 f11_1_1).set t71.toNat (a0.getD ((3 + (32 * t51) + t71).toNat) 0))
  else
   Lo.brk f11_1_1
noncomputable def r9_Decode_l1 (a0 : List UInt8) : Nat → Int → (List Tn) → Lo (List Tn) ((List Tn) × Int)
 | 0, _, _ => .brk default
 | ml1 + 1, t51, o1 =>
  bif decide (t51 < ((a0.getD 2 0).toNat : Int)) then
   Lo.el (r9_Decode_l2 a0 t51 ((32 - (0 : Int)).toNat + 1) 0 (List.replicate 32 (0 : UInt8))) (fun z : List UInt8 => (fun (f11_1_2 : List UInt8) => r9_Decode_l1 a0 ml1 (t51 + 1) (o1 ++ [(u32i (t51 + 1), f11_1_2)])) z)
  else
   Lo.brk o1
noncomputable def r9_Decode (a0 : List UInt8) : (List Tn) × Int :=
 bif (decide ((a0.length : Int) < 3)) || (((a0.getD 0 0) != 107) || (((a0.getD 1 0) != 114) || ((decide ((a0.getD 2 0) < 1)) || ((decide ((a0.getD 2 0) > 16)) || ((a0.length : Int) != (3 + (32 * ((a0.getD 2 0).toNat : Int)))))))) then
  ([], 4)
 else
  Lo.el (r9_Decode_l1 a0 ((((a0.getD 2 0).toNat : Int) - (0 : Int)).toNat + 1) 0 []) (fun z : (List Tn) => r9_Decode_k1 z)
def r9_Decode_enc (x : (List Tn) × Int) : T × List (Nat × List T) := (.tup [.sl 33 .shr x.1.length (fl gTm x.1), ti x.2], [])
theorem r9_Decode_m {g_a0 : Tag} (a0 : List UInt8) : Meets Tryd.prog 41 [.sl 1 g_a0 a0.length (u8s a0)] [] [] (.tup [.sl 33 .shr ((r9_Decode a0).1).length (fl gTm ((r9_Decode a0).1)), ti ((r9_Decode a0).2)]) [] := by
 refine Meets.enterX (E := E) (N := 78) (enc := r9_Decode_enc) (x := (r9_Decode a0)) Tryd.func41 Tryd.call41 rfl rfl ?_
 intro Γ k hk
 have hz2 := lt8 (a0.getD 2 0)
 refine Go.rx 20 {} [] [0] _ [(0, .sl 1 g_a0 a0.length (u8s a0))] [] hk rfl kr .nil ?_
 clear hk; intro k hk
 refine Go.regJ 20 [(0, .sl 1 g_a0 a0.length (u8s a0)), (45, tb ((decide ((a0.length : Int) < 3)) || (((a0.getD 0 0) != 107) || (((a0.getD 1 0) != 114) || ((decide ((a0.getD 2 0) < 1)) || ((decide ((a0.getD 2 0) > 16)) || ((a0.length : Int) != (3 + (32 * ((a0.getD 2 0).toNat : Int))))))))))] [] hk rfl ?_ ?_
 ·clear hk; intro k hk
  refine Go.br 20 (Pf := (PostX Γ r9_Decode_enc)) hk rfl rfl ?_ ?_ <;> clear hk <;> intro ct1 k hk
  ·refine Go.rx 20 {} [] [2, 3] _ [(2, .leaf (.slice none 0 0)), (3, ti 4)] [] hk rfl kr .nil ?_
   clear hk; intro k hk
   exact Go.lvx 20 [] _ [.leaf (.slice none 0 0), ti 4] Tryd.func41 hk rfl kr .nil (T.Le.tup (.cons (T.Le.nil _ _) (.cons (T.Le.of_eq rfl) .nil))) rfl rfl .nil
  ·have ct11 : (decide ((a0.length : Int) < 3)) = false := (Bool.or_eq_false_iff.1 ct1).1
   have ct12 : (((a0.getD 0 0) != 107) || (((a0.getD 1 0) != 114) || ((decide ((a0.getD 2 0) < 1)) || ((decide ((a0.getD 2 0) > 16)) || ((a0.length : Int) != (3 + (32 * ((a0.getD 2 0).toNat : Int)))))))) = false := (Bool.or_eq_false_iff.1 ct1).2
   have ct11p := of_decide_eq_false ct11
   have ct121 : ((a0.getD 0 0) != 107) = false := (Bool.or_eq_false_iff.1 ct12).1
   have ct122 : (((a0.getD 1 0) != 114) || ((decide ((a0.getD 2 0) < 1)) || ((decide ((a0.getD 2 0) > 16)) || ((a0.length : Int) != (3 + (32 * ((a0.getD 2 0).toNat : Int))))))) = false := (Bool.or_eq_false_iff.1 ct12).2
   have ct1221 : ((a0.getD 1 0) != 114) = false := (Bool.or_eq_false_iff.1 ct122).1
   have ct1222 : ((decide ((a0.getD 2 0) < 1)) || ((decide ((a0.getD 2 0) > 16)) || ((a0.length : Int) != (3 + (32 * ((a0.getD 2 0).toNat : Int)))))) = false := (Bool.or_eq_false_iff.1 ct122).2
   have ct12221 : (decide ((a0.getD 2 0) < 1)) = false := (Bool.or_eq_false_iff.1 ct1222).1
   have ct12222 : ((decide ((a0.getD 2 0) > 16)) || ((a0.length : Int) != (3 + (32 * ((a0.getD 2 0).toNat : Int))))) = false := (Bool.or_eq_false_iff.1 ct1222).2
   have ct122221 : (decide ((a0.getD 2 0) > 16)) = false := (Bool.or_eq_false_iff.1 ct12222).1
   have ct122222 : ((a0.length : Int) != (3 + (32 * ((a0.getD 2 0).toNat : Int)))) = false := (Bool.or_eq_false_iff.1 ct12222).2
   have ct122222p := neIf ct122222
   refine Go.rx 20 {} [] [0, 4] _ [(0, .sl 1 g_a0 a0.length (u8s a0)), (4, .leaf (.slice none 0 0))] [] hk rfl kr .nil ?_
   clear hk; intro k hk
   refine Go.rx 20 {} [] [0, 4, 5] _ [(0, .sl 1 g_a0 a0.length (u8s a0)), (4, .leaf (.slice none 0 0)), (5, ti 0)] [] hk rfl kr .nil ?_
   clear hk; intro k hk
   refine Go.phn 4 10 33 rfl (.inl rfl) rfl rfl ?_
   refine Go.loopX 20 hk rfl ?_
   clear hk; intro kl1 kxl1 hl1 hxl1
   have Xl1 : ∀ (o2 : List Tn), Go E Γ 41 78 [] ((PostX Γ r9_Decode_enc) (r9_Decode_k1 o2)) kxl1 (stL [(4, .ref 10 33 0 o2.length)] [(10, fl gTm o2)]) := by
    intro o2
    refine Go.rx 20 {} [] [2, 3] _ [(2, .ref 10 33 0 o2.length), (3, ti 0)] [(10, fl gTm o2)] hxl1 rfl kr .nil ?_
    clear hxl1; intro kxl1 hxl1
    refine Go.frz [] [] 2 10 (fl gTm o2) _ [(2, .dead), (3, ti 0)] [] rfl rfl (fl_ids (g := gTm) (fun _ => rfl) o2) qg4b_2 (fl_all (g := gTm) (m := 33) (fun _ => rfl) o2) kr .nil ?_
    exact Go.lvx 20 [] _ [.sl 33 .shr o2.length (fl gTm o2), ti 0] Tryd.func41 hxl1 rfl kr .nil (T.Le.tup (.cons (T.Le.of_eq rfl) (.cons (T.Le.of_eq rfl) .nil))) rfl rfl .nil
   have Ll1 : ∀ (ml1 : Nat) (t51 : Int) (o1 : List Tn), (0 ≤ t51) → (t51 ≤ 256) → ((o1.length : Int) = t51) → ((((a0.getD 2 0).toNat : Int) - t51).toNat < ml1) → Go E Γ 41 78 [] ((PostX Γ r9_Decode_enc) (Lo.el (r9_Decode_l1 a0 ml1 t51 o1) (fun z : (List Tn) => r9_Decode_k1 z))) kl1 (stL [(0, .sl 1 g_a0 a0.length (u8s a0)), (4, .ref 10 33 0 o1.length), (5, ti t51)] [(10, fl gTm o1)]) := by
    intro ml1
    induction ml1 with
    | zero => intro t51 o1 i0l1 i1l1 i2l1 hml1; exact absurd hml1 (Nat.not_lt_zero _)
    | succ ml1 ihl1 =>
     intro t51 o1 i0l1 i1l1 i2l1 hml1
     rw [r9_Decode_l1]
     refine Go.round hl1 ?_
     intro k hk
     have := lt8 (a0.getD 2 0)
     refine Go.rx 20 { ws := [(3, { v := some (t8 (a0.getD 2 0)) }), (4, { v := some (ti ((a0.getD 2 0).toNat : Int)) })] } [] [0, 4, 5, 51] _ [(0, .sl 1 g_a0 a0.length (u8s a0)), (4, .ref 10 33 0 o1.length), (5, ti t51), (51, tb (decide (t51 < ((a0.getD 2 0).toNat : Int))))] [(10, fl gTm o1)] hk rfl kr (.cons (om : 0 ≤ (2 : Int) ∧ (2 : Int) < ((a0.length : Nat) : Int)) (.cons (part1 (kr : (E.ti 5).agg = false) (mp_get (g := zU) (k := 2) (n := 2) a0 (0 : UInt8) rfl om)) (.cons (cv8_i (a0.getD 2 0)) (.cons trivial .nil)))) ?_
     clear hk; intro k hk
     refine Go.br 20 (Pf := (fun z : Lo ((List Tn)) ((List Tn) × Int) => (PostX Γ r9_Decode_enc) (Lo.el z (fun z : (List Tn) => r9_Decode_k1 z)))) hk rfl rfl ?_ ?_ <;> clear hk <;> intro ct2 k hk
     ·have ct2p := of_decide_eq_true ct2
      refine Go.rx 20 { ws := [(1, { v := some (ti (t51 + 1)) }), (2, { v := some (t32 (u32i (t51 + 1))) }), (4, { id := 11 })] } [] [0, 4, 5, 6] _ [(0, .sl 1 g_a0 a0.length (u8s a0)), (4, .ref 10 33 0 o1.length), (5, ti t51), (6, .addr 11 0)] [(10, fl gTm o1), (11, [t32 (u32i (t51 + 1)), t8 0, t8 0, t8 0, t8 0, t8 0, t8 0, t8 0, t8 0, t8 0, t8 0, t8 0, t8 0, t8 0, t8 0, t8 0, t8 0, t8 0, t8 0, t8 0, t8 0, t8 0, t8 0, t8 0, t8 0, t8 0, t8 0, t8 0, t8 0, t8 0, t8 0, t8 0, t8 0])] hk rfl kr (.cons trivial (.cons (iw (t51 + 1) om) (.cons (cvi_32 (t51 + 1)) .nil))) ?_
      clear hk; intro k hk
      refine Go.rx 20 {} [] [0, 4, 5, 6, 7] _ [(0, .sl 1 g_a0 a0.length (u8s a0)), (4, .ref 10 33 0 o1.length), (5, ti t51), (6, .addr 11 0), (7, ti 0)] [(10, fl gTm o1), (11, [t32 (u32i (t51 + 1)), t8 0, t8 0, t8 0, t8 0, t8 0, t8 0, t8 0, t8 0, t8 0, t8 0, t8 0, t8 0, t8 0, t8 0, t8 0, t8 0, t8 0, t8 0, t8 0, t8 0, t8 0, t8 0, t8 0, t8 0, t8 0, t8 0, t8 0, t8 0, t8 0, t8 0, t8 0, t8 0])] hk rfl kr .nil ?_
      clear hk; intro k hk
      refine Go.loopX 20 hk rfl ?_
      clear hk; intro kl2 kxl2 hl2 hxl2
      have Xl2 : ∀ (f11_1_2 : List UInt8), Go E Γ 41 78 [] ((fun z : Lo ((List Tn)) ((List Tn) × Int) => (PostX Γ r9_Decode_enc) (Lo.el z (fun z : (List Tn) => r9_Decode_k1 z))) (r9_Decode_l1 a0 ml1 (t51 + 1) (o1 ++ [(u32i (t51 + 1), f11_1_2)]))) kxl2 (stL [(0, .sl 1 g_a0 a0.length (u8s a0)), (4, .ref 10 33 0 o1.length), (5, ti t51), (6, .addr 11 0)] [(10, fl gTm o1), (11, ([t32 (u32i (t51 + 1))] ++ u8s (fxa 32 f11_1_2)))]) := by
       intro f11_1_2
       refine Go.rx 20 { ws := [(2, { id := 12 }), (3, { v := some (.ref 10 33 0 ((o1 ++ [(u32i (t51 + 1), f11_1_2)]).length)), c := some (fl gTm (o1 ++ [(u32i (t51 + 1), f11_1_2)])), id := 10, sym := true })], pg := [10], fd := some [10] } [11, 12] [0, 4, 5] _ [(0, .sl 1 g_a0 a0.length (u8s a0)), (4, .ref 10 33 0 ((o1 ++ [(u32i (t51 + 1), f11_1_2)]).length)), (5, ti t51)] [(10, fl gTm (o1 ++ [(u32i (t51 + 1), f11_1_2)]))] hxl2 rfl kr (.cons (Nat.le_of_ble_eq_true rfl : 0 + 1 * 33 ≤ (([t32 (u32i (t51 + 1))] ++ u8s (fxa 32 f11_1_2)) : List T).length) (.cons (qg4b_2 : 0 + o1.length * 33 ≤ (fl gTm o1).length) (.cons (rfl : scalL ([t32 (u32i (t51 + 1))] ++ u8s (fxa 32 f11_1_2)) = true) (.cons (om : (o1.length + 1) * 36 ≤ 140737488355328) (.cons (fl_app' (g := gTm) (m := 33) (k := o1.length) (fun _ => rfl) o1 [(u32i (t51 + 1), f11_1_2)] rfl rfl) (.cons (fl_mem (i := 10) (g := gTm) (o1 ++ [(u32i (t51 + 1), f11_1_2)]) (fun _ => rfl)) (.cons (by first | rfl | (simp; done) | (refine congrArg (fun q => T.ref 10 33 0 q) ?_; simp <;> omega) : T.ref 10 33 0 (o1.length + 1) = .ref 10 33 0 ((o1 ++ [(u32i (t51 + 1), f11_1_2)]).length)) (.cons (fl_mem (i := 11) (g := gTm) (o1 ++ [(u32i (t51 + 1), f11_1_2)]) (fun _ => rfl)) (.cons (fl_mem (i := 12) (g := gTm) (o1 ++ [(u32i (t51 + 1), f11_1_2)]) (fun _ => rfl)) .nil))))))))) ?_
       clear hxl2; intro kxl2 hxl2
       refine Go.rx 20 { ws := [(1, { v := some (ti (t51 + 1)) })] } [] [0, 4, 5] _ [(0, .sl 1 g_a0 a0.length (u8s a0)), (4, .ref 10 33 0 ((o1 ++ [(u32i (t51 + 1), f11_1_2)]).length)), (5, ti (t51 + 1))] [(10, fl gTm (o1 ++ [(u32i (t51 + 1), f11_1_2)]))] hxl2 rfl kr (.cons trivial (.cons (iw (t51 + 1) om) .nil)) ?_
       clear hxl2; intro kxl2 hxl2
       exact Go.join 20 hxl2 hl1 rfl (ihl1 (t51 + 1) (o1 ++ [(u32i (t51 + 1), f11_1_2)]) om om om om)
      have Ll2 : ∀ (ml2 : Nat) (t71 : Int) (f11_1_1 : List UInt8), (0 ≤ t71) → (t71 ≤ 32) → ((32 - t71).toNat < ml2) → Go E Γ 41 78 [] ((fun z : Lo ((List Tn)) ((List Tn) × Int) => (PostX Γ r9_Decode_enc) (Lo.el z (fun z : (List Tn) => r9_Decode_k1 z))) (Lo.el (r9_Decode_l2 a0 t51 ml2 t71 f11_1_1) (fun z : List UInt8 => (fun (f11_1_2 : List UInt8) => r9_Decode_l1 a0 ml1 (t51 + 1) (o1 ++ [(u32i (t51 + 1), f11_1_2)])) z))) kl2 (stL [(0, .sl 1 g_a0 a0.length (u8s a0)), (4, .ref 10 33 0 o1.length), (5, ti t51), (6, .addr 11 0), (7, ti t71)] [(10, fl gTm o1), (11, ([t32 (u32i (t51 + 1))] ++ u8s (fxa 32 f11_1_1)))]) := by
       intro ml2
       induction ml2 with
       | zero => intro t71 f11_1_1 i0l2 i1l2 hml2; exact absurd hml2 (Nat.not_lt_zero _)
       | succ ml2 ihl2 =>
        intro t71 f11_1_1 i0l2 i1l2 hml2
        rw [r9_Decode_l2]
        refine Go.round hl2 ?_
        intro k hk
        refine Go.rx 20 {} [] [0, 4, 5, 6, 7, 59] _ [(0, .sl 1 g_a0 a0.length (u8s a0)), (4, .ref 10 33 0 o1.length), (5, ti t51), (6, .addr 11 0), (7, ti t71), (59, tb (decide (t71 < 32)))] [(10, fl gTm o1), (11, ([t32 (u32i (t51 + 1))] ++ u8s (fxa 32 f11_1_1)))] hk rfl kr (.cons trivial .nil) ?_
        clear hk; intro k hk
        refine Go.br 20 (Pf := (fun z : Lo (List UInt8) (Lo ((List Tn)) ((List Tn) × Int)) => (fun z : Lo ((List Tn)) ((List Tn) × Int) => (PostX Γ r9_Decode_enc) (Lo.el z (fun z : (List Tn) => r9_Decode_k1 z))) (Lo.el z (fun z : List UInt8 => (fun (f11_1_2 : List UInt8) => r9_Decode_l1 a0 ml1 (t51 + 1) (o1 ++ [(u32i (t51 + 1), f11_1_2)])) z)))) hk rfl rfl ?_ ?_ <;> clear hk <;> intro ct3 k hk
        ·have ct3p := of_decide_eq_true ct3
         refine Go.rx 20 { ws := [(3, { v := some (ti (32 * t51)) }), (4, { v := some (ti (3 + (32 * t51))) }), (6, { v := some (ti (3 + (32 * t51) + t71)) }), (8, { v := some (t8 (a0.getD ((3 + (32 * t51) + t71).toNat) 0)) }), (11, { c := some ([t32 (u32i (t51 + 1))] ++ u8s (fxa 32 ((fxa 32 f11_1_1).set t71.toNat (a0.getD ((3 + (32 * t51) + t71).toNat) 0)))), sym := true })] } [] [0, 4, 5, 6, 7] _ [(0, .sl 1 g_a0 a0.length (u8s a0)), (4, .ref 10 33 0 o1.length), (5, ti t51), (6, .addr 11 0), (7, ti t71)] [(10, fl gTm o1), (11, ([t32 (u32i (t51 + 1))] ++ u8s (fxa 32 ((fxa 32 f11_1_1).set t71.toNat (a0.getD ((3 + (32 * t51) + t71).toNat) 0)))))] hk rfl kr (.cons trivial (.cons (iw (32 * t51) om) (.cons trivial (.cons (iw (3 + (32 * t51)) om) (.cons trivial (.cons (iw (3 + (32 * t51) + t71) om) (.cons (om : 0 ≤ (3 + (32 * t51) + t71 : Int) ∧ (3 + (32 * t51) + t71 : Int) < ((a0.length : Nat) : Int)) (.cons (part1 (kr : (E.ti 5).agg = false) (mp_get (g := zU) (k := (3 + (32 * t51) + t71).toNat * 1) (n := (3 + (32 * t51) + t71).toNat) a0 (0 : UInt8) (by omega) om)) (.cons (om : 0 ≤ (t71 : Int) ∧ (t71 : Int) < 32) (.cons (rfl : scalL [t8 (a0.getD ((3 + (32 * t51) + t71).toNat) 0)] = true) (.cons (by decide : 1 ≤ 1) (.cons (by decide : 1 ≤ 1) (.cons (by simp only [List.length_append, List.length_map, List.length_cons, List.length_nil, fxa_len]; first | omega | (simp <;> omega) | (simp at * <;> omega) | (split <;> omega) | (split <;> (first | omega | (simp <;> omega) | (simp at * <;> omega))) : 1 + t71.toNat * 1 + 1 ≤ ([t32 (u32i (t51 + 1))] ++ u8s (fxa 32 f11_1_1)).length) (.cons (seg_set (pre := [t32 (u32i (t51 + 1))]) (n := 32) (i := t71.toNat) (k := 1 + t71.toNat * 1) (s := f11_1_1) (v := a0.getD ((3 + (32 * t51) + t71).toNat) 0) (by simp only [List.length_cons, List.length_nil]; omega) om) .nil)))))))))))))) ?_
         clear hk; intro k hk
         refine Go.rx 20 { ws := [(1, { v := some (ti (t71 + 1)) })] } [] [0, 4, 5, 6, 7] _ [(0, .sl 1 g_a0 a0.length (u8s a0)), (4, .ref 10 33 0 o1.length), (5, ti t51), (6, .addr 11 0), (7, ti (t71 + 1))] [(10, fl gTm o1), (11, ([t32 (u32i (t51 + 1))] ++ u8s (fxa 32 ((fxa 32 f11_1_1).set t71.toNat (a0.getD ((3 + (32 * t51) + t71).toNat) 0)))))] hk rfl kr (.cons trivial (.cons (iw (t71 + 1) om) .nil)) ?_
         clear hk; intro k hk
         exact Go.join 20 hk hl2 rfl (ihl2 (t71 + 1) ((fxa 32 f11_1_1).set t71.toNat (a0.getD ((3 + (32 * t51) + t71).toNat) 0)) om om om)
        ·have ct3p := of_decide_eq_false ct3
         refine Go.keepN [0, 4, 5, 6] (L' := [(0, .sl 1 g_a0 a0.length (u8s a0)), (4, .ref 10 33 0 o1.length), (5, ti t51), (6, .addr 11 0)]) rfl ?_
         exact Go.exitX (Pf := (fun z : Lo ((List Tn)) ((List Tn) × Int) => (PostX Γ r9_Decode_enc) (Lo.el z (fun z : (List Tn) => r9_Decode_k1 z)))) (F := fun z : List UInt8 => (fun (f11_1_2 : List UInt8) => r9_Decode_l1 a0 ml1 (t51 + 1) (o1 ++ [(u32i (t51 + 1), f11_1_2)])) z) (a := f11_1_1) (Go.join 20 hk hxl2 rfl (Xl2 f11_1_1))
      exact Ll2 _ 0 (List.replicate 32 (0 : UInt8)) om om (Nat.lt_succ_self _)
     ·have ct2p := of_decide_eq_false ct2
      refine Go.keepN [4] (L' := [(4, .ref 10 33 0 o1.length)]) rfl ?_
      exact Go.exitX (Pf := (PostX Γ r9_Decode_enc)) (F := fun z : (List Tn) => r9_Decode_k1 z) (a := o1) (Go.join 20 hk hxl1 rfl (Xl1 o1))
   exact Ll1 _ 0 [] om om om (Nat.lt_succ_self _)
 ·intro hk J
  rcases Bool.eq_false_or_eq_true (decide ((a0.length : Int) < 3)) with gd1 | gd1
  ·have gd1p := of_decide_eq_true gd1
   refine Go.rx 20 { ws := [(2, { v := some (tb true) })] } [] [0, 45] _ [(0, .sl 1 g_a0 a0.length (u8s a0)), (45, tb true)] [] hk rfl kr (.cons trivial (.cons (eb gd1) .nil)) ?_
   intro k' hk'
   refine Go.slotEq 45 (tb ((decide ((a0.length : Int) < 3)) || (((a0.getD 0 0) != 107) || (((a0.getD 1 0) != 114) || ((decide ((a0.getD 2 0) < 1)) || ((decide ((a0.getD 2 0) > 16)) || ((a0.length : Int) != (3 + (32 * ((a0.getD 2 0).toNat : Int)))))))))) rfl (eb (orT gd1).symm) ?_
   exact J k' hk'
  ·have gd1p := of_decide_eq_false gd1
   rcases Bool.eq_false_or_eq_true ((a0.getD 0 0) != 107) with gd2 | gd2
   ·refine Go.rx 20 { ws := [(2, { v := some (tb false) }), (6, { v := some (t8 (a0.getD 0 0)) }), (7, { v := some (tb true) })] } [] [0, 45] _ [(0, .sl 1 g_a0 a0.length (u8s a0)), (45, tb true)] [] hk rfl kr (.cons trivial (.cons (eb gd1) (.cons (om : 0 ≤ (0 : Int) ∧ (0 : Int) < ((a0.length : Nat) : Int)) (.cons (part1 (kr : (E.ti 5).agg = false) (mp_get (g := zU) (k := 0) (n := 0) a0 (0 : UInt8) rfl om)) (.cons trivial (.cons ((neB8 (a0.getD 0 0) 107).trans (eb gd2)) .nil)))))) ?_
    intro k' hk'
    refine Go.slotEq 45 (tb ((decide ((a0.length : Int) < 3)) || (((a0.getD 0 0) != 107) || (((a0.getD 1 0) != 114) || ((decide ((a0.getD 2 0) < 1)) || ((decide ((a0.getD 2 0) > 16)) || ((a0.length : Int) != (3 + (32 * ((a0.getD 2 0).toNat : Int)))))))))) rfl (eb (orF gd1 (orT gd2)).symm) ?_
    exact J k' hk'
   ·rcases Bool.eq_false_or_eq_true ((a0.getD 1 0) != 114) with gd3 | gd3
    ·refine Go.rx 20 { ws := [(2, { v := some (tb false) }), (6, { v := some (t8 (a0.getD 0 0)) }), (7, { v := some (tb false) }), (12, { v := some (t8 (a0.getD 1 0)) }), (13, { v := some (tb true) })] } [] [0, 45] _ [(0, .sl 1 g_a0 a0.length (u8s a0)), (45, tb true)] [] hk rfl kr (.cons trivial (.cons (eb gd1) (.cons (om : 0 ≤ (0 : Int) ∧ (0 : Int) < ((a0.length : Nat) : Int)) (.cons (part1 (kr : (E.ti 5).agg = false) (mp_get (g := zU) (k := 0) (n := 0) a0 (0 : UInt8) rfl om)) (.cons trivial (.cons ((neB8 (a0.getD 0 0) 107).trans (eb gd2)) (.cons (om : 0 ≤ (1 : Int) ∧ (1 : Int) < ((a0.length : Nat) : Int)) (.cons (part1 (kr : (E.ti 5).agg = false) (mp_get (g := zU) (k := 1) (n := 1) a0 (0 : UInt8) rfl om)) (.cons trivial (.cons ((neB8 (a0.getD 1 0) 114).trans (eb gd3)) .nil)))))))))) ?_
     intro k' hk'
     refine Go.slotEq 45 (tb ((decide ((a0.length : Int) < 3)) || (((a0.getD 0 0) != 107) || (((a0.getD 1 0) != 114) || ((decide ((a0.getD 2 0) < 1)) || ((decide ((a0.getD 2 0) > 16)) || ((a0.length : Int) != (3 + (32 * ((a0.getD 2 0).toNat : Int)))))))))) rfl (eb (orF gd1 (orF gd2 (orT gd3))).symm) ?_
     exact J k' hk'
    ·rcases Bool.eq_false_or_eq_true (decide ((a0.getD 2 0) < 1)) with gd4 | gd4
     ·refine Go.rx 20 { ws := [(2, { v := some (tb false) }), (6, { v := some (t8 (a0.getD 0 0)) }), (7, { v := some (tb false) }), (12, { v := some (t8 (a0.getD 1 0)) }), (13, { v := some (tb false) }), (18, { v := some (t8 (a0.getD 2 0)) }), (19, { v := some (tb true) })] } [] [0, 45] _ [(0, .sl 1 g_a0 a0.length (u8s a0)), (45, tb true)] [] hk rfl kr (.cons trivial (.cons (eb gd1) (.cons (om : 0 ≤ (0 : Int) ∧ (0 : Int) < ((a0.length : Nat) : Int)) (.cons (part1 (kr : (E.ti 5).agg = false) (mp_get (g := zU) (k := 0) (n := 0) a0 (0 : UInt8) rfl om)) (.cons trivial (.cons ((neB8 (a0.getD 0 0) 107).trans (eb gd2)) (.cons (om : 0 ≤ (1 : Int) ∧ (1 : Int) < ((a0.length : Nat) : Int)) (.cons (part1 (kr : (E.ti 5).agg = false) (mp_get (g := zU) (k := 1) (n := 1) a0 (0 : UInt8) rfl om)) (.cons trivial (.cons ((neB8 (a0.getD 1 0) 114).trans (eb gd3)) (.cons (om : 0 ≤ (2 : Int) ∧ (2 : Int) < ((a0.length : Nat) : Int)) (.cons (part1 (kr : (E.ti 5).agg = false) (mp_get (g := zU) (k := 2) (n := 2) a0 (0 : UInt8) rfl om)) (.cons trivial (.cons ((ltB8 (a0.getD 2 0) 1).trans (eb gd4)) .nil)))))))))))))) ?_
      intro k' hk'
      refine Go.slotEq 45 (tb ((decide ((a0.length : Int) < 3)) || (((a0.getD 0 0) != 107) || (((a0.getD 1 0) != 114) || ((decide ((a0.getD 2 0) < 1)) || ((decide ((a0.getD 2 0) > 16)) || ((a0.length : Int) != (3 + (32 * ((a0.getD 2 0).toNat : Int)))))))))) rfl (eb (orF gd1 (orF gd2 (orF gd3 (orT gd4)))).symm) ?_
      exact J k' hk'
     ·rcases Bool.eq_false_or_eq_true (decide ((a0.getD 2 0) > 16)) with gd5 | gd5
      ·refine Go.rx 20 { ws := [(2, { v := some (tb false) }), (6, { v := some (t8 (a0.getD 0 0)) }), (7, { v := some (tb false) }), (12, { v := some (t8 (a0.getD 1 0)) }), (13, { v := some (tb false) }), (18, { v := some (t8 (a0.getD 2 0)) }), (19, { v := some (tb false) }), (24, { v := some (t8 (a0.getD 2 0)) }), (25, { v := some (tb true) })] } [] [0, 45] _ [(0, .sl 1 g_a0 a0.length (u8s a0)), (45, tb true)] [] hk rfl kr (.cons trivial (.cons (eb gd1) (.cons (om : 0 ≤ (0 : Int) ∧ (0 : Int) < ((a0.length : Nat) : Int)) (.cons (part1 (kr : (E.ti 5).agg = false) (mp_get (g := zU) (k := 0) (n := 0) a0 (0 : UInt8) rfl om)) (.cons trivial (.cons ((neB8 (a0.getD 0 0) 107).trans (eb gd2)) (.cons (om : 0 ≤ (1 : Int) ∧ (1 : Int) < ((a0.length : Nat) : Int)) (.cons (part1 (kr : (E.ti 5).agg = false) (mp_get (g := zU) (k := 1) (n := 1) a0 (0 : UInt8) rfl om)) (.cons trivial (.cons ((neB8 (a0.getD 1 0) 114).trans (eb gd3)) (.cons (om : 0 ≤ (2 : Int) ∧ (2 : Int) < ((a0.length : Nat) : Int)) (.cons (part1 (kr : (E.ti 5).agg = false) (mp_get (g := zU) (k := 2) (n := 2) a0 (0 : UInt8) rfl om)) (.cons trivial (.cons ((ltB8 (a0.getD 2 0) 1).trans (eb gd4)) (.cons (om : 0 ≤ (2 : Int) ∧ (2 : Int) < ((a0.length : Nat) : Int)) (.cons (part1 (kr : (E.ti 5).agg = false) (mp_get (g := zU) (k := 2) (n := 2) a0 (0 : UInt8) rfl om)) (.cons trivial (.cons ((gtB8 (a0.getD 2 0) 16).trans (eb gd5)) .nil)))))))))))))))))) ?_
       intro k' hk'
       refine Go.slotEq 45 (tb ((decide ((a0.length : Int) < 3)) || (((a0.getD 0 0) != 107) || (((a0.getD 1 0) != 114) || ((decide ((a0.getD 2 0) < 1)) || ((decide ((a0.getD 2 0) > 16)) || ((a0.length : Int) != (3 + (32 * ((a0.getD 2 0).toNat : Int)))))))))) rfl (eb (orF gd1 (orF gd2 (orF gd3 (orF gd4 (orT gd5))))).symm) ?_
       exact J k' hk'
      ·have := lt8 (a0.getD 2 0)
       refine Go.rx 20 { ws := [(2, { v := some (tb false) }), (6, { v := some (t8 (a0.getD 0 0)) }), (7, { v := some (tb false) }), (12, { v := some (t8 (a0.getD 1 0)) }), (13, { v := some (tb false) }), (18, { v := some (t8 (a0.getD 2 0)) }), (19, { v := some (tb false) }), (24, { v := some (t8 (a0.getD 2 0)) }), (25, { v := some (tb false) }), (32, { v := some (t8 (a0.getD 2 0)) }), (33, { v := some (ti ((a0.getD 2 0).toNat : Int)) }), (34, { v := some (ti (32 * ((a0.getD 2 0).toNat : Int))) }), (35, { v := some (ti (3 + (32 * ((a0.getD 2 0).toNat : Int)))) })] } [] [0, 45] _ [(0, .sl 1 g_a0 a0.length (u8s a0)), (45, tb ((a0.length : Int) != (3 + (32 * ((a0.getD 2 0).toNat : Int)))))] [] hk rfl kr (.cons trivial (.cons (eb gd1) (.cons (om : 0 ≤ (0 : Int) ∧ (0 : Int) < ((a0.length : Nat) : Int)) (.cons (part1 (kr : (E.ti 5).agg = false) (mp_get (g := zU) (k := 0) (n := 0) a0 (0 : UInt8) rfl om)) (.cons trivial (.cons ((neB8 (a0.getD 0 0) 107).trans (eb gd2)) (.cons (om : 0 ≤ (1 : Int) ∧ (1 : Int) < ((a0.length : Nat) : Int)) (.cons (part1 (kr : (E.ti 5).agg = false) (mp_get (g := zU) (k := 1) (n := 1) a0 (0 : UInt8) rfl om)) (.cons trivial (.cons ((neB8 (a0.getD 1 0) 114).trans (eb gd3)) (.cons (om : 0 ≤ (2 : Int) ∧ (2 : Int) < ((a0.length : Nat) : Int)) (.cons (part1 (kr : (E.ti 5).agg = false) (mp_get (g := zU) (k := 2) (n := 2) a0 (0 : UInt8) rfl om)) (.cons trivial (.cons ((ltB8 (a0.getD 2 0) 1).trans (eb gd4)) (.cons (om : 0 ≤ (2 : Int) ∧ (2 : Int) < ((a0.length : Nat) : Int)) (.cons (part1 (kr : (E.ti 5).agg = false) (mp_get (g := zU) (k := 2) (n := 2) a0 (0 : UInt8) rfl om)) (.cons trivial (.cons ((gtB8 (a0.getD 2 0) 16).trans (eb gd5)) (.cons (om : 0 ≤ (2 : Int) ∧ (2 : Int) < ((a0.length : Nat) : Int)) (.cons (part1 (kr : (E.ti 5).agg = false) (mp_get (g := zU) (k := 2) (n := 2) a0 (0 : UInt8) rfl om)) (.cons (cv8_i (a0.getD 2 0)) (.cons trivial (.cons (iw (32 * ((a0.getD 2 0).toNat : Int)) om) (.cons trivial (.cons (iw (3 + (32 * ((a0.getD 2 0).toNat : Int))) om) (.cons trivial .nil)))))))))))))))))))))))))) ?_
       intro k' hk'
       refine Go.slotEq 45 (tb ((decide ((a0.length : Int) < 3)) || (((a0.getD 0 0) != 107) || (((a0.getD 1 0) != 114) || ((decide ((a0.getD 2 0) < 1)) || ((decide ((a0.getD 2 0) > 16)) || ((a0.length : Int) != (3 + (32 * ((a0.getD 2 0).toNat : Int)))))))))) rfl (eb (orF gd1 (orF gd2 (orF gd3 (orF gd4 (orF gd5 rfl))))).symm) ?_
       exact J k' hk'
theorem r9_Decode_l2_gen : True := by have := @r9_Decode_l2.eq_1; have := @r9_Decode_l2.eq_2; trivial
theorem r9_Decode_l1_gen : True := by have := @r9_Decode_l1.eq_1; have := @r9_Decode_l1.eq_2; trivial
attribute [irreducible] r9_Decode_k1 r9_Decode_l2 r9_Decode_l1 r9_Decode
noncomputable def r9_Use (t0 : UInt32) (t1 : List UInt8) (use : List UInt8) : List UInt8 × Int :=
 bnd (r7_Key (fxa 32 t1 : List UInt8) use t0) fun x1 =>
 (x1.1, x1.2)
def r9_Use_enc (x : List UInt8 × Int) : T × List (Nat × List T) := (.tup [.sl 1 .shr x.1.length (u8s x.1), ti x.2], [])
theorem r9_Use_m (t0 : UInt32) (t1 : List UInt8) (use : List UInt8) : Meets Tryd.prog 45 [.agg ([t32 t0] ++ u8s (fxa 32 t1)), ts use] [] [] (.tup [.sl 1 .shr ((r9_Use t0 t1 use).1).length (u8s ((r9_Use t0 t1 use).1)), ti ((r9_Use t0 t1 use).2)]) [] := by
 refine Meets.enterX (E := E) (N := 14) (enc := r9_Use_enc) (x := (r9_Use t0 t1 use)) Tryd.func45 Tryd.call45 rfl rfl ?_
 intro Γ k hk
 refine Go.rx 20 { ws := [(0, { id := 10, gv := true })] } [10] [1, 2] _ [(1, ts use), (2, .pt .shr 0 ([t32 t0] ++ u8s (fxa 32 t1)))] [] hk rfl kr (.cons (rfl : idsL ([t32 t0] ++ u8s (fxa 32 t1)) = []) .nil) ?_
 clear hk; intro k hk
 refine Go.dx 20 [0, 1, 2, 3, 4, 5, 6, 7, 8, 9] { ws := [(1, { v := some (.sl 1 .shr (fxa 32 t1 : List UInt8).length (u8s (fxa 32 t1 : List UInt8))) }), (5, { call := some { ids := [], S := [], M := [], R := .tup [.sl 1 .shr ((r7_Key (fxa 32 t1 : List UInt8) use t0).1).length (u8s ((r7_Key (fxa 32 t1 : List UInt8) use t0).1)), ti ((r7_Key (fxa 32 t1 : List UInt8) use t0).2)], H' := [] } })] } [] [4, 5] _ [(4, .sl 1 .shr ((r7_Key (fxa 32 t1 : List UInt8) use t0).1).length (u8s ((r7_Key (fxa 32 t1 : List UInt8) use t0).1))), (5, ti ((r7_Key (fxa 32 t1 : List UInt8) use t0).2))] [] hk rfl kr (.cons (by decide : 0 ≤ (0 : Int) ∧ (0 : Int) ≤ ((32 : Nat) : Int) ∧ ((32 : Nat) : Int) ≤ ((32 : Nat) : Int) ∧ ((32 : Nat) : Int) ≤ ((32 : Nat) : Int)) (.cons (by kernel_rfl : T.sl 1 .shr 32 (sub ([t32 t0] ++ u8s (fxa 32 t1)) 1 (32 * 1)) = .sl 1 .shr (fxa 32 t1 : List UInt8).length (u8s (fxa 32 t1 : List UInt8))) (.cons (r7_Key_m (g_key := .shr) (fxa 32 t1 : List UInt8) use t0) (.cons (sb : subN (idsL [.sl 1 .shr (fxa 32 t1 : List UInt8).length (u8s (fxa 32 t1 : List UInt8)), ts use, t32 t0]) [] = true) .nil)))) ?_
 clear hk; intro k hk
 refine Go.bnd (Pf := (PostX Γ r9_Use_enc)) (v := (r7_Key (fxa 32 t1 : List UInt8) use t0)) (fun x1 => [(4, .sl 1 .shr x1.1.length (u8s x1.1)), (5, ti x1.2)]) (fun x1 => []) ?_
 intro x1 hx1
 exact Go.lvx 20 [] _ [.sl 1 .shr x1.1.length (u8s x1.1), ti x1.2] Tryd.func45 hk rfl kr .nil (T.Le.tup (.cons (T.Le.of_eq rfl) (.cons (T.Le.of_eq rfl) .nil))) rfl rfl .nil
attribute [irreducible] r9_Use
end Go.Proofs.YtbppcnhfeobefabDoor

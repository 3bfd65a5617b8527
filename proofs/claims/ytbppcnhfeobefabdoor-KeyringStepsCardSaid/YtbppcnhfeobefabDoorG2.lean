import Derived.Test.YtbppcnhfeobefabDoorPK1
set_option linter.unusedVariables false
namespace Go.Proofs.YtbppcnhfeobefabDoor
open Go Go.Vw Go.Proofs
theorem qg2_1 {p : Prop} (h : p := by first | omega | (have hrf := fx1 (by assumption); omega) | (have hrf := fx1 (by assumption); simp; omega) | (have hrf := fx1 (by assumption); simp only [id_eq, List.length_append, List.length_cons, List.length_nil]; omega) | (simp <;> omega) | (simp at * <;> omega)) : p := h
abbrev qg2_2 : List T := [t32 0, t8 0, t8 0, t8 0, t8 0, t8 0, t8 0, t8 0, t8 0, t8 0, t8 0, t8 0, t8 0, t8 0, t8 0, t8 0, t8 0, t8 0, t8 0, t8 0, t8 0, t8 0, t8 0, t8 0, t8 0, t8 0, t8 0, t8 0, t8 0, t8 0, t8 0, t8 0, t8 0]
noncomputable def kr_Rotate (r0 : List Tn) (key : List UInt8) : ((List Tn)) × Int :=
 bnd (kr_Check r0) fun x1 =>
 bif !(decide (x1 = 0)) then
  ([], 1)
 else
  bif (r0.length : Int) == 16 then
   ([], 7)
  else
   bnd (id r0) fun x2 =>
   (x2 ++ [(u32i ((r0.length : Int) + 1), key)], 0)
def kr_Rotate_enc (x : ((List Tn)) × Int) : T × List (Nat × List T) := (.tup [.agg ([.sl 33 .shr x.1.length (fl gTm x.1)]), er 105 x.2], [])
theorem kr_Rotate_m {g_r0 : Tag} (r0 : List Tn) (key : List UInt8) (hl_key : key.length = 32) : Meets Tryd.prog 32 [.agg ([.sl 33 g_r0 r0.length (fl gTm r0)]), .agg (u8s key)] [] [] (.tup [.agg ([.sl 33 .shr ((kr_Rotate r0 key).1).length (fl gTm ((kr_Rotate r0 key).1))]), er 105 ((kr_Rotate r0 key).2)]) [] := by
 refine Meets.enterX (E := E) (N := 32) (enc := kr_Rotate_enc) (x := (kr_Rotate r0 key)) Tryd.func32 Tryd.call32 rfl rfl ?_
 intro Γ k hk
 refine Go.rx 20 { ws := [(0, { id := 10 }), (1, { id := 11 }), (2, { id := 12 })] } [] [2, 3, 4] _ [(2, .addr 10 0), (3, .addr 11 0), (4, .addr 12 0)] [(10, [.sl 33 g_r0 r0.length (fl gTm r0)]), (11, u8s key), (12, [.leaf (.slice none 0 0)])] hk rfl kr .nil ?_
 clear hk; intro k hk
 refine Go.rx 20 { ws := [(1, { call := some { ids := [], S := [], M := [], R := er 105 (kr_Check r0), H' := [] } }), (2, { er := some (105, (kr_Check r0)) })] } [] [2, 3, 4, 6] _ [(2, .addr 10 0), (3, .addr 11 0), (4, .addr 12 0), (6, tb (!(decide ((kr_Check r0) = 0))))] [(10, [.sl 33 g_r0 r0.length (fl gTm r0)]), (11, u8s key), (12, [.leaf (.slice none 0 0)])] hk rfl kr (.cons (kr_Check_m (g_r0 := g_r0) r0) (.cons (sb : subN (idsL [.agg ([.sl 33 g_r0 r0.length (fl gTm r0)])]) [] = true) (.cons (⟨rfl, rfl⟩ : (er 105 (kr_Check r0)) = er 105 (kr_Check r0) ∧ (.leaf .nilIface : T) = .leaf .nilIface) .nil))) ?_
 clear hk; intro k hk
 refine Go.bnd (Pf := (PostX Γ kr_Rotate_enc)) (v := (kr_Check r0)) (fun x1 => [(2, .addr 10 0), (3, .addr 11 0), (4, .addr 12 0), (6, tb (!(decide (x1 = 0))))]) (fun x1 => [(10, [.sl 33 g_r0 r0.length (fl gTm r0)]), (11, u8s key), (12, [.leaf (.slice none 0 0)])]) ?_
 intro x1 hx1
 have fx1 := ring_fact r0
 rw [← hx1] at fx1
 refine Go.br 20 (Pf := (PostX Γ kr_Rotate_enc)) hk rfl rfl ?_ ?_ <;> clear hk <;> intro ct1 k hk
 ·have ct1' : (decide (x1 = 0)) = false := ntT ct1
  have ct1'p := of_decide_eq_false ct1'
  refine Go.rx 20 { ps := [5, 11], pg := [11] } [10, 11] [4, 5] _ [(4, .addr 12 0), (5, er 105 1)] [(12, [.leaf (.slice none 0 0)])] hk rfl kr (.cons (er_mem (i := 10) 105 1) (.cons (er_mem (i := 10) 105 1) (.cons (mp_mem (i := 10) (g := zU) key (fun _ => rfl)) (.cons (er_mem (i := 11) 105 1) (.cons (er_mem (i := 11) 105 1) .nil))))) ?_
  clear hk; intro k hk
  exact Go.lvx 20 [] _ [.agg [.leaf (.slice none 0 0)], er 105 1] Tryd.func32 hk rfl kr (.cons (by decide : 0 + 1 ≤ 1) .nil) (T.Le.tup (.cons (T.Le.agg (.cons (T.Le.nil _ _) .nil)) (.cons (T.Le.of_eq rfl) .nil))) rfl (by first | rfl | (simp only [kr_Rotate_enc, T.ids, idsL, er_ids, List.append_nil, List.nil_append]; first | rfl | (rw [mp_ids _ (fun _ => rfl)]; rfl))) .nil
 ·have ct1' : (decide (x1 = 0)) = true := ntF ct1
  have ct1'p := of_decide_eq_true ct1'
  refine Go.rx 20 {} [] [2, 3, 4, 12] _ [(2, .addr 10 0), (3, .addr 11 0), (4, .addr 12 0), (12, tb ((r0.length : Int) == 16))] [(10, [.sl 33 g_r0 r0.length (fl gTm r0)]), (11, u8s key), (12, [.leaf (.slice none 0 0)])] hk rfl kr (.cons trivial .nil) ?_
  clear hk; intro k hk
  refine Go.br 20 (Pf := (PostX Γ kr_Rotate_enc)) hk rfl rfl ?_ ?_ <;> clear hk <;> intro ct2 k hk
  ·have ct2p := eqIt ct2
   refine Go.rx 20 { ps := [5, 18], pg := [11] } [10, 11] [4, 5] _ [(4, .addr 12 0), (5, er 105 7)] [(12, [.leaf (.slice none 0 0)])] hk rfl kr (.cons (er_mem (i := 10) 105 7) (.cons (er_mem (i := 10) 105 7) (.cons (mp_mem (i := 10) (g := zU) key (fun _ => rfl)) (.cons (er_mem (i := 11) 105 7) (.cons (er_mem (i := 11) 105 7) .nil))))) ?_
   clear hk; intro k hk
   exact Go.lvx 20 [] _ [.agg [.leaf (.slice none 0 0)], er 105 7] Tryd.func32 hk rfl kr (.cons (by decide : 0 + 1 ≤ 1) .nil) (T.Le.tup (.cons (T.Le.agg (.cons (T.Le.nil _ _) .nil)) (.cons (T.Le.of_eq rfl) .nil))) rfl (by first | rfl | (simp only [kr_Rotate_enc, T.ids, idsL, er_ids, List.append_nil, List.nil_append]; first | rfl | (rw [mp_ids _ (fun _ => rfl)]; rfl))) .nil
  ·have ct2p := eqIf ct2
   refine Go.dx 20 [0, 1, 2, 3, 4, 5, 6, 7, 8, 9, 10, 11, 12, 13, 14] { ws := [(2, { call := some { ids := [], S := [], M := [], R := .ref 13 33 0 ((id r0).length), H' := [(13, fl gTm (id r0))] } }), (6, { v := some (ti ((r0.length : Int) + 1)) }), (7, { v := some (t32 (u32i ((r0.length : Int) + 1))) }), (8, { v := some (.agg (u8s (fxa 32 key))) }), (10, { id := 14 }), (11, { v := some (.sl 33 .shr ((id r0) ++ [(u32i ((r0.length : Int) + 1), key)]).length (fl gTm ((id r0) ++ [(u32i ((r0.length : Int) + 1), key)]))), c := some (fl gTm ((id r0) ++ [(u32i ((r0.length : Int) + 1), key)])), id := 13, sym := true, gv := true })], pg := [11], fd := some [13] } [10, 11, 14, 13] [4, 5] _ [(4, .addr 12 0), (5, .leaf .nilIface)] [(12, [.sl 33 .shr ((id r0) ++ [(u32i ((r0.length : Int) + 1), key)]).length (fl gTm ((id r0) ++ [(u32i ((r0.length : Int) + 1), key)]))])] hk rfl kr (.cons (Meets.sw [(99, 13)] (tclone_m (g_s := g_r0) r0 qg2_1) : Meets Tryd.prog 66 [.sl 33 g_r0 r0.length (fl gTm r0)] [] [] (.ref 13 33 0 ((id r0).length)) [(13, fl gTm (id r0))]) (.cons (sb : subN (idsL [.sl 33 g_r0 r0.length (fl gTm r0)]) [] = true) (.cons trivial (.cons (iw ((r0.length : Int) + 1) qg2_1) (.cons (cvi_32 ((r0.length : Int) + 1)) (.cons (fx_whole (kr : (E.ti 74).agg = true) (kr : (E.ti 74).size = 32) (by first | (simp; done) | (with_reducible assumption) | omega | (simp <;> omega) | rfl : (key).length = 32)) (.cons (Nat.le_of_ble_eq_true rfl : 0 + 1 * 33 ≤ (([t32 (u32i ((r0.length : Int) + 1))] ++ u8s (fxa 32 key)) : List T).length) (.cons (by rw [fl_len (m := 33) (fun _ => rfl)]; omega : 0 + (id r0).length * 33 ≤ (fl gTm (id r0)).length) (.cons (rfl : scalL ([t32 (u32i ((r0.length : Int) + 1))] ++ u8s (fxa 32 key)) = true) (.cons (qg2_1 : ((id r0).length + 1) * 36 ≤ 140737488355328) (.cons (fl_app' (g := gTm) (m := 33) (k := (id r0).length) (fun _ => rfl) (id r0) [(u32i ((r0.length : Int) + 1), key)] rfl rfl) (.cons (fl_mem (i := 13) (g := gTm) ((id r0) ++ [(u32i ((r0.length : Int) + 1), key)]) (fun _ => rfl)) (.cons (gaOk (m := 33) (g := gTm) (fun _ => rfl) (fun _ => rfl) ((id r0) ++ [(u32i ((r0.length : Int) + 1), key)]) (by simp <;> omega : ((id r0).length + 1) = ((id r0) ++ [(u32i ((r0.length : Int) + 1), key)]).length)) (.cons (gaEq (m := 33) (g := gTm) (fun _ => rfl) ((id r0) ++ [(u32i ((r0.length : Int) + 1), key)]) (by simp <;> omega : ((id r0).length + 1) = ((id r0) ++ [(u32i ((r0.length : Int) + 1), key)]).length)) (.cons (mp_mem (i := 13) (g := zU) key (fun _ => rfl)) (.cons (mp_mem (i := 10) (g := zU) key (fun _ => rfl)) .nil)))))))))))))))) ?_
   clear hk; intro k hk
   refine Go.bnd (Pf := (PostX Γ kr_Rotate_enc)) (v := (id r0)) (fun x2 => [(4, .addr 12 0), (5, .leaf .nilIface)]) (fun x2 => [(12, [.sl 33 .shr (x2 ++ [(u32i ((r0.length : Int) + 1), key)]).length (fl gTm (x2 ++ [(u32i ((r0.length : Int) + 1), key)]))])]) ?_
   intro x2 hx2
   have gx2 : x2 = r0 := hx2
   exact Go.lvx 20 [] _ [.agg ([.sl 33 .shr (x2 ++ [(u32i ((r0.length : Int) + 1), key)]).length (fl gTm (x2 ++ [(u32i ((r0.length : Int) + 1), key)]))]), .leaf .nilIface] Tryd.func32 hk rfl kr (.cons (by decide : 0 + 1 ≤ 1) .nil) (T.Le.tup (.cons (T.Le.of_eq rfl) (.cons (T.Le.of_eq rfl) .nil))) rfl rfl .nil
attribute [irreducible] kr_Rotate
noncomputable def kr_Find (r0 : List Tn) (term : UInt32) : List UInt8 × Int :=
 bnd (kr_Check r0) fun x1 =>
 bif !(decide (x1 = 0)) then
  ((List.replicate 32 0), x1)
 else
  bif (decide (term < 1)) || (decide (term > (u32i (r0.length : Int)))) then
   ((List.replicate 32 0), 5)
  else
   (fxa 32 ((r0.getD (((term - 1).toNat : Int).toNat) ((0, []) : UInt32 × List UInt8)).2), 0)
def kr_Find_enc (x : List UInt8 × Int) : T × List (Nat × List T) := (.tup [.agg (u8s x.1), er 105 x.2], [])
theorem kr_Find_m {g_r0 : Tag} (r0 : List Tn) (term : UInt32) : Meets Tryd.prog 42 [.agg ([.sl 33 g_r0 r0.length (fl gTm r0)]), t32 term] [] [] (.tup [.agg (u8s ((kr_Find r0 term).1)), er 105 ((kr_Find r0 term).2)]) [] := by
 refine Meets.enterX (E := E) (N := 32) (enc := kr_Find_enc) (x := (kr_Find r0 term)) Tryd.func42 Tryd.call42 rfl rfl ?_
 intro Γ k hk
 refine Go.rx 20 { ws := [(0, { id := 10 }), (1, { id := 11 })] } [] [1, 2, 4] _ [(1, t32 term), (2, .addr 10 0), (4, .addr 11 0)] [(10, [.sl 33 g_r0 r0.length (fl gTm r0)]), (11, z32)] hk rfl kr .nil ?_
 clear hk; intro k hk
 refine Go.rx 20 { ws := [(1, { call := some { ids := [], S := [], M := [], R := er 105 (kr_Check r0), H' := [] } })] } [] [1, 2, 4, 6] _ [(1, t32 term), (2, .addr 10 0), (4, .addr 11 0), (6, er 105 (kr_Check r0))] [(10, [.sl 33 g_r0 r0.length (fl gTm r0)]), (11, z32)] hk rfl kr (.cons (kr_Check_m (g_r0 := g_r0) r0) (.cons (sb : subN (idsL [.agg ([.sl 33 g_r0 r0.length (fl gTm r0)])]) [] = true) .nil)) ?_
 clear hk; intro k hk
 refine Go.bnd (Pf := (PostX Γ kr_Find_enc)) (v := (kr_Check r0)) (fun x1 => [(1, t32 term), (2, .addr 10 0), (4, .addr 11 0), (6, er 105 x1)]) (fun x1 => [(10, [.sl 33 g_r0 r0.length (fl gTm r0)]), (11, z32)]) ?_
 intro x1 hx1
 have fx1 := ring_fact r0
 rw [← hx1] at fx1
 refine Go.rx 20 { ws := [(1, { er := some (105, x1) })] } [] [1, 2, 4, 6, 10] _ [(1, t32 term), (2, .addr 10 0), (4, .addr 11 0), (6, er 105 x1), (10, tb (!(decide (x1 = 0))))] [(10, [.sl 33 g_r0 r0.length (fl gTm r0)]), (11, z32)] hk rfl kr (.cons (⟨rfl, rfl⟩ : (er 105 x1) = er 105 x1 ∧ (.leaf .nilIface : T) = .leaf .nilIface) .nil) ?_
 clear hk; intro k hk
 refine Go.br 20 (Pf := (PostX Γ kr_Find_enc)) hk rfl rfl ?_ ?_ <;> clear hk <;> intro ct1 k hk
 ·have ct1' : (decide (x1 = 0)) = false := ntT ct1
  have ct1'p := of_decide_eq_false ct1'
  refine Go.rx 20 { ps := [5, 6, 12] } [10] [4, 5] _ [(4, .addr 11 0), (5, er 105 x1)] [(11, z32)] hk rfl kr (.cons (er_mem (i := 10) 105 x1) (.cons (er_mem (i := 10) 105 x1) (.cons (er_mem (i := 10) 105 x1) .nil))) ?_
  clear hk; intro k hk
  exact Go.lvx 20 [] _ [.agg z32, er 105 x1] Tryd.func42 hk rfl kr (.cons (by decide : 0 + 32 ≤ 32) .nil) (T.Le.tup (.cons (T.Le.of_eq rfl) (.cons (T.Le.of_eq rfl) .nil))) rfl (by first | rfl | (simp only [kr_Find_enc, T.ids, idsL, er_ids, List.append_nil, List.nil_append]; first | rfl | (rw [mp_ids _ (fun _ => rfl)]; rfl))) .nil
 ·have ct1' : (decide (x1 = 0)) = true := ntF ct1
  have ct1'p := of_decide_eq_true ct1'
  refine Go.regJ 20 [(1, t32 term), (2, .addr 10 0), (4, .addr 11 0), (22, tb ((decide (term < 1)) || (decide (term > (u32i (r0.length : Int))))))] [(10, [.sl 33 g_r0 r0.length (fl gTm r0)]), (11, z32)] hk rfl ?_ ?_
  ·clear hk; intro k hk
   refine Go.br 20 (Pf := (PostX Γ kr_Find_enc)) hk rfl rfl ?_ ?_ <;> clear hk <;> intro ct2 k hk
   ·refine Go.rx 20 { ps := [5, 24] } [10] [4, 5] _ [(4, .addr 11 0), (5, er 105 5)] [(11, z32)] hk rfl kr (.cons (er_mem (i := 10) 105 5) (.cons (er_mem (i := 10) 105 5) .nil)) ?_
    clear hk; intro k hk
    exact Go.lvx 20 [] _ [.agg z32, er 105 5] Tryd.func42 hk rfl kr (.cons (by decide : 0 + 32 ≤ 32) .nil) (T.Le.tup (.cons (T.Le.of_eq rfl) (.cons (T.Le.of_eq rfl) .nil))) rfl (by first | rfl | (simp only [kr_Find_enc, T.ids, idsL, er_ids, List.append_nil, List.nil_append]; first | rfl | (rw [mp_ids _ (fun _ => rfl)]; rfl))) .nil
   ·have ct21 : (decide (term < 1)) = false := (Bool.or_eq_false_iff.1 ct2).1
    have ct22 : (decide (term > (u32i (r0.length : Int)))) = false := (Bool.or_eq_false_iff.1 ct2).2
    have := lt32 (term - 1)
    refine Go.rx 20 { ws := [(3, { v := some (t32 (term - 1)) }), (6, { v := some (.agg (u8s (fxa 32 ((r0.getD (((term - 1).toNat : Int).toNat) ((0, []) : UInt32 × List UInt8)).2)))) })] } [10] [4, 5] _ [(4, .addr 11 0), (5, .leaf .nilIface)] [(11, (u8s (fxa 32 ((r0.getD (((term - 1).toNat : Int).toNat) ((0, []) : UInt32 × List UInt8)).2))))] hk rfl kr (.cons trivial (.cons (sub32 term 1) (.cons (by first | omega | (have hrf := fx1 (by assumption); have hix := find_ix hrf.2 (by assumption); omega) | (have hrf := fx1 (by assumption); omega) | (have hrf := fx1 (by assumption); simp; omega) | (have hrf := fx1 (by assumption); simp only [id_eq, List.length_append, List.length_cons, List.length_nil]; omega) | (simp <;> omega) | (simp at * <;> omega) : 0 ≤ (((term - 1).toNat : Int) : Int) ∧ (((term - 1).toNat : Int) : Int) < ((r0.length : Nat) : Int)) (.cons (fl_partj (m := 33) (g := gTm) (k := ((term - 1).toNat : Int).toNat * 33 + 1) (n := ((term - 1).toNat : Int).toNat) (j := 1) (s := 32) (l := r0) (d := ((0, []) : UInt32 × List UInt8)) (kr : (E.ti 74).agg = true) kr (fun _ => rfl) (by omega) (by decide) (by first | omega | (have hrf := fx1 (by assumption); have hix := find_ix hrf.2 (by assumption); omega) | (have hrf := fx1 (by assumption); omega) | (have hrf := fx1 (by assumption); simp; omega) | (have hrf := fx1 (by assumption); simp only [id_eq, List.length_append, List.length_cons, List.length_nil]; omega) | (simp <;> omega) | (simp at * <;> omega)) (v := .agg (u8s (fxa 32 ((r0.getD (((term - 1).toNat : Int).toNat) ((0, []) : UInt32 × List UInt8)).2)))) (by kernel_rfl)) .nil)))) ?_
    clear hk; intro k hk
    exact Go.lvx 20 [] _ [.agg (u8s (fxa 32 ((r0.getD (((term - 1).toNat : Int).toNat) ((0, []) : UInt32 × List UInt8)).2))), .leaf .nilIface] Tryd.func42 hk rfl kr (.cons (by decide : 0 + 32 ≤ 32) .nil) (T.Le.tup (.cons (T.Le.of_eq rfl) (.cons (T.Le.of_eq rfl) .nil))) rfl rfl .nil
  ·intro hk J
   rcases Bool.eq_false_or_eq_true (decide (term < 1)) with gd1 | gd1
   ·refine Go.rx 20 { ws := [(1, { v := some (tb true) })] } [] [1, 2, 4, 22] _ [(1, t32 term), (2, .addr 10 0), (4, .addr 11 0), (22, tb true)] [(10, [.sl 33 g_r0 r0.length (fl gTm r0)]), (11, z32)] hk rfl kr (.cons trivial (.cons ((ltB32 term 1).trans (eb gd1)) .nil)) ?_
    intro k' hk'
    refine Go.slotEq 22 (tb ((decide (term < 1)) || (decide (term > (u32i (r0.length : Int)))))) rfl (eb (orT gd1).symm) ?_
    exact J k' hk'
   ·refine Go.rx 20 { ws := [(1, { v := some (tb false) }), (7, { v := some (t32 (u32i (r0.length : Int))) }), (8, { v := some (tb (decide (term > (u32i (r0.length : Int))))) })] } [] [1, 2, 4, 22] _ [(1, t32 term), (2, .addr 10 0), (4, .addr 11 0), (22, tb (decide (term > (u32i (r0.length : Int)))))] [(10, [.sl 33 g_r0 r0.length (fl gTm r0)]), (11, z32)] hk rfl kr (.cons trivial (.cons ((ltB32 term 1).trans (eb gd1)) (.cons (cvi_32 (r0.length : Int)) (.cons trivial (.cons (gtB32 term (u32i (r0.length : Int))) .nil))))) ?_
    intro k' hk'
    refine Go.slotEq 22 (tb ((decide (term < 1)) || (decide (term > (u32i (r0.length : Int)))))) rfl (eb (orF gd1 rfl).symm) ?_
    exact J k' hk'
attribute [irreducible] kr_Find
noncomputable def kr_Active (r0 : List Tn) : Tn × Int :=
 bnd (kr_Check r0) fun x1 =>
 bif !(decide (x1 = 0)) then
  ((0, List.replicate 32 (0 : UInt8)), x1)
 else
  (((r0.getD (((r0.length : Int) - 1).toNat) ((0, []) : UInt32 × List UInt8)).1, (r0.getD (((r0.length : Int) - 1).toNat) ((0, []) : UInt32 × List UInt8)).2), 0)
def kr_Active_enc (x : Tn × Int) : T × List (Nat × List T) := (.tup [.agg ([t32 x.1.1] ++ u8s (fxa 32 x.1.2)), er 105 x.2], [])
theorem kr_Active_m {g_r0 : Tag} (r0 : List Tn) : Meets Tryd.prog 43 [.agg ([.sl 33 g_r0 r0.length (fl gTm r0)])] [] [] (.tup [.agg ([t32 (((kr_Active r0).1).1)] ++ u8s (fxa 32 (((kr_Active r0).1).2))), er 105 ((kr_Active r0).2)]) [] := by
 refine Meets.enterX (E := E) (N := 19) (enc := kr_Active_enc) (x := (kr_Active r0)) Tryd.func43 Tryd.call43 rfl rfl ?_
 intro Γ k hk
 refine Go.rx 20 { ws := [(0, { id := 10 }), (1, { id := 11 })] } [] [1, 2] _ [(1, .addr 10 0), (2, .addr 11 0)] [(10, [.sl 33 g_r0 r0.length (fl gTm r0)]), (11, qg2_2)] hk rfl kr .nil ?_
 clear hk; intro k hk
 refine Go.rx 20 { ws := [(1, { call := some { ids := [], S := [], M := [], R := er 105 (kr_Check r0), H' := [] } })] } [] [1, 2, 4] _ [(1, .addr 10 0), (2, .addr 11 0), (4, er 105 (kr_Check r0))] [(10, [.sl 33 g_r0 r0.length (fl gTm r0)]), (11, qg2_2)] hk rfl kr (.cons (kr_Check_m (g_r0 := g_r0) r0) (.cons (sb : subN (idsL [.agg ([.sl 33 g_r0 r0.length (fl gTm r0)])]) [] = true) .nil)) ?_
 clear hk; intro k hk
 refine Go.bnd (Pf := (PostX Γ kr_Active_enc)) (v := (kr_Check r0)) (fun x1 => [(1, .addr 10 0), (2, .addr 11 0), (4, er 105 x1)]) (fun x1 => [(10, [.sl 33 g_r0 r0.length (fl gTm r0)]), (11, qg2_2)]) ?_
 intro x1 hx1
 have fx1 := ring_fact r0
 rw [← hx1] at fx1
 refine Go.rx 20 { ws := [(1, { er := some (105, x1) })] } [] [1, 2, 4, 8] _ [(1, .addr 10 0), (2, .addr 11 0), (4, er 105 x1), (8, tb (!(decide (x1 = 0))))] [(10, [.sl 33 g_r0 r0.length (fl gTm r0)]), (11, qg2_2)] hk rfl kr (.cons (⟨rfl, rfl⟩ : (er 105 x1) = er 105 x1 ∧ (.leaf .nilIface : T) = .leaf .nilIface) .nil) ?_
 clear hk; intro k hk
 refine Go.br 20 (Pf := (PostX Γ kr_Active_enc)) hk rfl rfl ?_ ?_ <;> clear hk <;> intro ct1 k hk
 ·have ct1' : (decide (x1 = 0)) = false := ntT ct1
  have ct1'p := of_decide_eq_false ct1'
  refine Go.rx 20 { ps := [3, 4, 10] } [10] [2, 3] _ [(2, .addr 11 0), (3, er 105 x1)] [(11, qg2_2)] hk rfl kr (.cons (er_mem (i := 10) 105 x1) (.cons (er_mem (i := 10) 105 x1) (.cons (er_mem (i := 10) 105 x1) .nil))) ?_
  clear hk; intro k hk
  exact Go.lvx 20 [] _ [.agg qg2_2, er 105 x1] Tryd.func43 hk rfl kr (.cons (by decide : 0 + 33 ≤ 33) .nil) (T.Le.tup (.cons (T.Le.of_eq rfl) (.cons (T.Le.of_eq rfl) .nil))) rfl (by first | rfl | (simp only [kr_Active_enc, T.ids, idsL, er_ids, List.append_nil, List.nil_append]; first | rfl | (rw [mp_ids _ (fun _ => rfl)]; rfl))) .nil
 ·have ct1' : (decide (x1 = 0)) = true := ntF ct1
  have ct1'p := of_decide_eq_true ct1'
  refine Go.rx 20 { ws := [(5, { v := some (ti ((r0.length : Int) - 1)) }), (7, { v := some (.agg ([t32 ((r0.getD (((r0.length : Int) - 1).toNat) ((0, []) : UInt32 × List UInt8)).1)] ++ u8s (fxa 32 ((r0.getD (((r0.length : Int) - 1).toNat) ((0, []) : UInt32 × List UInt8)).2)))) })], ps := [4] } [10] [2, 3] _ [(2, .addr 11 0), (3, .leaf .nilIface)] [(11, ([t32 ((r0.getD (((r0.length : Int) - 1).toNat) ((0, []) : UInt32 × List UInt8)).1)] ++ u8s (fxa 32 ((r0.getD (((r0.length : Int) - 1).toNat) ((0, []) : UInt32 × List UInt8)).2))))] hk rfl kr (.cons trivial (.cons (iw ((r0.length : Int) - 1) qg2_1) (.cons (qg2_1 : 0 ≤ ((r0.length : Int) - 1 : Int) ∧ ((r0.length : Int) - 1 : Int) < ((r0.length : Nat) : Int)) (.cons (fl_part (m := 33) (g := gTm) (k := ((r0.length : Int) - 1).toNat * 33) (n := ((r0.length : Int) - 1).toNat) (l := r0) (d := ((0, []) : UInt32 × List UInt8)) (kr : (E.ti 93).agg = true) rfl (fun _ => rfl) rfl qg2_1 rfl) (.cons (er_mem (i := 10) 105 x1) .nil))))) ?_
  clear hk; intro k hk
  exact Go.lvx 20 [] _ [.agg ([t32 ((r0.getD (((r0.length : Int) - 1).toNat) ((0, []) : UInt32 × List UInt8)).1)] ++ u8s (fxa 32 ((r0.getD (((r0.length : Int) - 1).toNat) ((0, []) : UInt32 × List UInt8)).2))), .leaf .nilIface] Tryd.func43 hk rfl kr (.cons (by decide : 0 + 33 ≤ 33) .nil) (T.Le.tup (.cons (T.Le.of_eq rfl) (.cons (T.Le.of_eq rfl) .nil))) rfl rfl .nil
attribute [irreducible] kr_Active
end Go.Proofs.YtbppcnhfeobefabDoor

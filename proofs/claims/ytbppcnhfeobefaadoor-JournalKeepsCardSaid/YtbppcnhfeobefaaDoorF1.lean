import Derived.Test.YtbppcnhfeobefaaDoorEr
import Derived.Test.YtbppcnhfeobefaaDoorEnVx8
set_option linter.unusedVariables false
namespace Go.Proofs.YtbppcnhfeobefaaDoor
open Go Go.Vw Go.Proofs
theorem qf1_1 {p : Prop} (h : p := by simp only [List.length_map]; first | omega | (simp <;> omega) | (simp at * <;> omega) | (split <;> omega) | (split <;> (first | omega | (simp <;> omega) | (simp at * <;> omega)))) : p := h
theorem qf1_2 {p : Prop} (h : p := by simp only [List.length_map]; omega) : p := h
noncomputable def fr_Sectors (size : Int) : Int :=
 bif (decide (size < 0)) || (decide (size > 14280)) then
  0
 else
  (if ((size + 56) - 1) / 56 > 1 then ((size + 56) - 1) / 56 else 1)
def fr_Sectors_enc (x : Int) : T × List (Nat × List T) := (ti x, [])
theorem fr_Sectors_m (size : Int) : Meets Tryd.prog 105 [ti size] [] [] (ti (fr_Sectors size)) [] := by
 refine Meets.enterX (E := E) (N := 14) (enc := fr_Sectors_enc) (x := (fr_Sectors size)) Tryd.func105 Tryd.call105 rfl rfl ?_
 intro Γ k hk
 refine Go.rx 20 {} [] [0] _ [(0, ti size)] [] hk rfl kr .nil ?_
 clear hk; intro k hk
 refine Go.regJ 20 [(0, ti size), (8, tb ((decide (size < 0)) || (decide (size > 14280))))] [] hk rfl ?_ ?_
 ·clear hk; intro k hk
  refine Go.br 20 (Pf := (PostX Γ fr_Sectors_enc)) hk rfl rfl ?_ ?_ <;> clear hk <;> intro ct1 k hk
  ·refine Go.rx 20 {} [] [2] _ [(2, ti 0)] [] hk rfl kr .nil ?_
   clear hk; intro k hk
   exact Go.lvx 20 [] _ [ti 0] Tryd.func105 hk rfl kr .nil (T.Le.of_eq rfl) rfl rfl .nil
  ·have ct11 : (decide (size < 0)) = false := (Bool.or_eq_false_iff.1 ct1).1
   have ct12 : (decide (size > 14280)) = false := (Bool.or_eq_false_iff.1 ct1).2
   have ct11p := of_decide_eq_false ct11
   have ct12p := of_decide_eq_false ct12
   refine Go.rx 20 { ws := [(1, { v := some (ti (size + 56)) }), (2, { v := some (ti ((size + 56) - 1)) }), (3, { v := some (ti (((size + 56) - 1) / 56)) })] } [] [2] _ [(2, ti (if ((size + 56) - 1) / 56 > 1 then ((size + 56) - 1) / 56 else 1))] [] hk rfl kr (.cons trivial (.cons (iw (size + 56) (by omega)) (.cons trivial (.cons (iw ((size + 56) - 1) (by omega)) (.cons (by decide : 56 ≠ (0 : Int)) (.cons (quoI ((size + 56) - 1) 56 (by omega)) .nil)))))) ?_
   clear hk; intro k hk
   exact Go.lvx 20 [] _ [ti (if ((size + 56) - 1) / 56 > 1 then ((size + 56) - 1) / 56 else 1)] Tryd.func105 hk rfl kr .nil (T.Le.of_eq rfl) rfl rfl .nil
 ·intro hk J
  rcases Bool.eq_false_or_eq_true (decide (size < 0)) with gd1 | gd1
  ·have gd1p := of_decide_eq_true gd1
   refine Go.rx 20 { ws := [(1, { v := some (tb true) })] } [] [0, 8] _ [(0, ti size), (8, tb true)] [] hk rfl kr (.cons trivial (.cons (eb gd1) .nil)) ?_
   intro k' hk'
   refine Go.slotEq 8 (tb ((decide (size < 0)) || (decide (size > 14280)))) rfl (eb (orT gd1).symm) ?_
   exact J k' hk'
  ·have gd1p := of_decide_eq_false gd1
   refine Go.rx 20 { ws := [(1, { v := some (tb false) })] } [] [0, 8] _ [(0, ti size), (8, tb (decide (size > 14280)))] [] hk rfl kr (.cons trivial (.cons (eb gd1) (.cons trivial .nil))) ?_
   intro k' hk'
   refine Go.slotEq 8 (tb ((decide (size < 0)) || (decide (size > 14280)))) rfl (eb (orF gd1 rfl).symm) ?_
   exact J k' hk'
theorem sectors_fact (s : Int) : 0 ≤ fr_Sectors s ∧ fr_Sectors s ≤ 255 ∧ (fr_Sectors s = 0 ∨ fr_Sectors s = 1 ∨ 56 * (fr_Sectors s - 1) < s) ∧ (fr_Sectors s = 0 ∨ (0 ≤ s ∧ s ≤ 14280)) := by
 rw [fr_Sectors]
 by_cases h : s < 0 ∨ s > 14280
 ·have : ((decide (s < 0)) || (decide (s > 14280))) = true := by simpa using h
  rw [this, cond_true]; exact ⟨by omega, by omega, .inl rfl, .inl rfl⟩
 ·have : ((decide (s < 0)) || (decide (s > 14280))) = false := by simp; omega
  rw [this, cond_false]
  split <;> (refine ⟨by omega, by omega, ?_, ?_⟩ <;> omega)
attribute [irreducible] fr_Sectors
noncomputable def fr_Seq (s : List UInt8) : UInt32 × Int :=
 bif (s.length : Int) != 64 then
  (0, 4)
 else
  ((((shl32 ((s.getD 0 0).toUInt32) 24) ||| (shl32 ((s.getD 1 0).toUInt32) 16)) ||| (shl32 ((s.getD 2 0).toUInt32) 8)) ||| ((s.getD 3 0).toUInt32), 0)
def fr_Seq_enc (x : UInt32 × Int) : T × List (Nat × List T) := (.tup [t32 x.1, er 149 x.2], [])
theorem fr_Seq_m {g_s : Tag} (s : List UInt8) : Meets Tryd.prog 108 [.sl 1 g_s s.length (u8s s)] [] [] (.tup [t32 ((fr_Seq s).1), er 149 ((fr_Seq s).2)]) [] := by
 refine Meets.enterX (E := E) (N := 30) (enc := fr_Seq_enc) (x := (fr_Seq s)) Tryd.func108 Tryd.call108 rfl rfl ?_
 intro Γ k hk
 refine Go.rx 20 {} [] [0] _ [(0, .sl 1 g_s s.length (u8s s))] [] hk rfl kr .nil ?_
 clear hk; intro k hk
 refine Go.rx 20 {} [] [0, 6] _ [(0, .sl 1 g_s s.length (u8s s)), (6, tb ((s.length : Int) != 64))] [] hk rfl kr (.cons trivial .nil) ?_
 clear hk; intro k hk
 refine Go.br 20 (Pf := (PostX Γ fr_Seq_enc)) hk rfl rfl ?_ ?_ <;> clear hk <;> intro ct1 k hk
 ·have ct1p := neIt ct1
  refine Go.rx 20 {} [] [2, 3] _ [(2, t32 0), (3, er 149 4)] [] hk rfl kr .nil ?_
  clear hk; intro k hk
  exact Go.lvx 20 [] _ [t32 0, er 149 4] Tryd.func108 hk rfl kr .nil (T.Le.tup (.cons (T.Le.of_eq rfl) (.cons (T.Le.of_eq rfl) .nil))) rfl (by first | rfl | (simp only [fr_Seq_enc, T.ids, idsL, er_ids, List.append_nil, List.nil_append]; first | rfl | (rw [mp_ids _ (fun _ => rfl)]; rfl))) .nil
 ·have ct1p := neIf ct1
  refine Go.dx 20 [0, 1, 2, 3, 4, 5, 6, 7, 8, 9, 10, 11, 12, 13, 14, 15, 16, 17, 18, 19, 20, 21, 22, 23] { ws := [(2, { v := some (t8 (s.getD 0 0)) }), (3, { v := some (t32 ((s.getD 0 0).toUInt32)) }), (4, { v := some (t32 (shl32 ((s.getD 0 0).toUInt32) 24)) }), (7, { v := some (t8 (s.getD 1 0)) }), (8, { v := some (t32 ((s.getD 1 0).toUInt32)) }), (9, { v := some (t32 (shl32 ((s.getD 1 0).toUInt32) 16)) }), (10, { v := some (t32 ((shl32 ((s.getD 0 0).toUInt32) 24) ||| (shl32 ((s.getD 1 0).toUInt32) 16))) }), (13, { v := some (t8 (s.getD 2 0)) }), (14, { v := some (t32 ((s.getD 2 0).toUInt32)) }), (15, { v := some (t32 (shl32 ((s.getD 2 0).toUInt32) 8)) }), (16, { v := some (t32 (((shl32 ((s.getD 0 0).toUInt32) 24) ||| (shl32 ((s.getD 1 0).toUInt32) 16)) ||| (shl32 ((s.getD 2 0).toUInt32) 8))) }), (19, { v := some (t8 (s.getD 3 0)) }), (20, { v := some (t32 ((s.getD 3 0).toUInt32)) }), (21, { v := some (t32 ((((shl32 ((s.getD 0 0).toUInt32) 24) ||| (shl32 ((s.getD 1 0).toUInt32) 16)) ||| (shl32 ((s.getD 2 0).toUInt32) 8)) ||| ((s.getD 3 0).toUInt32))) })] } [] [2, 3] _ [(2, t32 ((((shl32 ((s.getD 0 0).toUInt32) 24) ||| (shl32 ((s.getD 1 0).toUInt32) 16)) ||| (shl32 ((s.getD 2 0).toUInt32) 8)) ||| ((s.getD 3 0).toUInt32))), (3, .leaf .nilIface)] [] hk rfl kr (.cons (by omega : 0 ≤ (0 : Int) ∧ (0 : Int) < ((s.length : Nat) : Int)) (.cons (part1 (kr : (E.ti 5).agg = false) (mp_get (g := zU) (k := 0) (n := 0) s (0 : UInt8) rfl (by omega))) (.cons (cv8_32 (s.getD 0 0)) (.cons (by decide : 0 ≤ (24 : Int)) (.cons (shlT32 ((s.getD 0 0).toUInt32) 24) (.cons (by omega : 0 ≤ (1 : Int) ∧ (1 : Int) < ((s.length : Nat) : Int)) (.cons (part1 (kr : (E.ti 5).agg = false) (mp_get (g := zU) (k := 1) (n := 1) s (0 : UInt8) rfl (by omega))) (.cons (cv8_32 (s.getD 1 0)) (.cons (by decide : 0 ≤ (16 : Int)) (.cons (shlT32 ((s.getD 1 0).toUInt32) 16) (.cons trivial (.cons (or32 (shl32 ((s.getD 0 0).toUInt32) 24) (shl32 ((s.getD 1 0).toUInt32) 16)) (.cons (by omega : 0 ≤ (2 : Int) ∧ (2 : Int) < ((s.length : Nat) : Int)) (.cons (part1 (kr : (E.ti 5).agg = false) (mp_get (g := zU) (k := 2) (n := 2) s (0 : UInt8) rfl (by omega))) (.cons (cv8_32 (s.getD 2 0)) (.cons (by decide : 0 ≤ (8 : Int)) (.cons (shlT32 ((s.getD 2 0).toUInt32) 8) (.cons trivial (.cons (or32 ((shl32 ((s.getD 0 0).toUInt32) 24) ||| (shl32 ((s.getD 1 0).toUInt32) 16)) (shl32 ((s.getD 2 0).toUInt32) 8)) (.cons (by omega : 0 ≤ (3 : Int) ∧ (3 : Int) < ((s.length : Nat) : Int)) (.cons (part1 (kr : (E.ti 5).agg = false) (mp_get (g := zU) (k := 3) (n := 3) s (0 : UInt8) rfl (by omega))) (.cons (cv8_32 (s.getD 3 0)) (.cons trivial (.cons (or32 (((shl32 ((s.getD 0 0).toUInt32) 24) ||| (shl32 ((s.getD 1 0).toUInt32) 16)) ||| (shl32 ((s.getD 2 0).toUInt32) 8)) ((s.getD 3 0).toUInt32)) .nil)))))))))))))))))))))))) ?_
  clear hk; intro k hk
  exact Go.lvx 20 [] _ [t32 ((((shl32 ((s.getD 0 0).toUInt32) 24) ||| (shl32 ((s.getD 1 0).toUInt32) 16)) ||| (shl32 ((s.getD 2 0).toUInt32) 8)) ||| ((s.getD 3 0).toUInt32)), .leaf .nilIface] Tryd.func108 hk rfl kr .nil (T.Le.tup (.cons (T.Le.of_eq rfl) (.cons (T.Le.of_eq rfl) .nil))) rfl rfl .nil
attribute [irreducible] fr_Seq
noncomputable def fr_Split_k1 (o2 : tLB) : tLB × Int :=
 (o2, 0)
noncomputable def fr_Split_l1 (a0 : UInt32) (a1 : List UInt8) (x1 : Int) : Nat → Int → (tLB) → Lo (tLB) (tLB × Int)
 | 0, _, _ => .brk default
 | ml1 + 1, t231, o1 =>
  bif decide (t231 < x1) then
   fr_Split_l1 a0 a1 x1 ml1 (t231 + 1) (o1 ++ [cpy ((((((((z64.set 0 ((shr32 a0 24).toUInt8)).set 1 ((shr32 a0 16).toUInt8)).set 2 ((shr32 a0 8).toUInt8)).set 3 a0.toUInt8).set 4 (u8i t231)).set 5 (u8i x1)).set 6 (u8i ((a1.length : Int) / 256))).set 7 (u8i (a1.length : Int))) 8 (z64.length - 8) (slc a1 (t231 * 56) (a1.length : Int))])
  else
   Lo.brk o1
noncomputable def fr_Split (a0 : UInt32) (a1 : List UInt8) : tLB × Int :=
 bnd (fr_Sectors (a1.length : Int)) fun x1 =>
 bif (a0 == 0) || (x1 == 0) then
  ([], 1)
 else
  Lo.el (fr_Split_l1 a0 a1 x1 ((x1 - (0 : Int)).toNat + 1) 0 []) (fun z : tLB => fr_Split_k1 z)
def fr_Split_enc (x : tLB × Int) : T × List (Nat × List T) := (.tup [.sl 1 .shr x.1.length (b8s .shr x.1), er 149 x.2], [])
theorem fr_Split_m {g_a1 : Tag} (a0 : UInt32) (a1 : List UInt8) : Meets Tryd.prog 106 [t32 a0, .sl 1 g_a1 a1.length (u8s a1)] [] [] (.tup [.sl 1 .shr ((fr_Split a0 a1).1).length (b8s .shr ((fr_Split a0 a1).1)), er 149 ((fr_Split a0 a1).2)]) [] := by
 refine Meets.enterX (E := E) (N := 78) (enc := fr_Split_enc) (x := (fr_Split a0 a1)) Tryd.func106 Tryd.call106 rfl rfl ?_
 intro Γ k hk
 refine Go.rx 20 {} [] [0, 1] _ [(0, t32 a0), (1, .sl 1 g_a1 a1.length (u8s a1))] [] hk rfl kr .nil ?_
 clear hk; intro k hk
 refine Go.rx 20 { ws := [(2, { call := some { ids := [], S := [], M := [], R := ti (fr_Sectors (a1.length : Int)), H' := [] } })] } [] [0, 1, 6] _ [(0, t32 a0), (1, .sl 1 g_a1 a1.length (u8s a1)), (6, ti (fr_Sectors (a1.length : Int)))] [] hk rfl kr (.cons (fr_Sectors_m (a1.length : Int)) (.cons (sb : subN (idsL [ti (a1.length : Int)]) [] = true) .nil)) ?_
 clear hk; intro k hk
 refine Go.bnd (Pf := (PostX Γ fr_Split_enc)) (v := (fr_Sectors (a1.length : Int))) (fun x1 => [(0, t32 a0), (1, .sl 1 g_a1 a1.length (u8s a1)), (6, ti x1)]) (fun x1 => []) ?_
 intro x1 hx1
 have fx1 := sectors_fact (a1.length : Int)
 rw [← hx1] at fx1
 obtain ⟨fx10, fx11, fx12, fx13⟩ := fx1
 refine Go.regJ 20 [(0, t32 a0), (1, .sl 1 g_a1 a1.length (u8s a1)), (6, ti x1), (18, tb ((a0 == 0) || (x1 == 0)))] [] hk rfl ?_ ?_
 ·clear hk; intro k hk
  refine Go.br 20 (Pf := (PostX Γ fr_Split_enc)) hk rfl rfl ?_ ?_ <;> clear hk <;> intro ct1 k hk
  ·refine Go.rx 20 {} [] [4, 5] _ [(4, .leaf (.slice none 0 0)), (5, er 149 1)] [] hk rfl kr .nil ?_
   clear hk; intro k hk
   exact Go.lvx 20 [] _ [.leaf (.slice none 0 0), er 149 1] Tryd.func106 hk rfl kr .nil (T.Le.tup (.cons (T.Le.nil _ _) (.cons (T.Le.of_eq rfl) .nil))) rfl (by first | rfl | (simp only [fr_Split_enc, T.ids, idsL, er_ids, List.append_nil, List.nil_append]; first | rfl | (rw [mp_ids _ (fun _ => rfl)]; rfl))) .nil
  ·have ct11 : (a0 == 0) = false := (Bool.or_eq_false_iff.1 ct1).1
   have ct12 : (x1 == 0) = false := (Bool.or_eq_false_iff.1 ct1).2
   have ct12p := eqIf ct12
   refine Go.rx 20 { ws := [(1, { id := 10 })] } [] [0, 1, 6, 7] _ [(0, t32 a0), (1, .sl 1 g_a1 a1.length (u8s a1)), (6, ti x1), (7, .ref 10 1 0 0)] [(10, [])] hk rfl kr (.cons (om : 0 ≤ (0 : Int) ∧ (0 : Int) ≤ x1 ∧ (x1 : Int) < 9223372036854775808 ∧ ((24 : Nat) : Int) * x1 ≤ 281474976710656) .nil) ?_
   clear hk; intro k hk
   refine Go.rx 20 {} [] [0, 1, 6, 7, 22, 23] _ [(0, t32 a0), (1, .sl 1 g_a1 a1.length (u8s a1)), (6, ti x1), (7, .ref 10 1 0 0), (22, ti x1), (23, ti 0)] [(10, [])] hk rfl kr .nil ?_
   clear hk; intro k hk
   refine Go.loopX 20 hk rfl ?_
   clear hk; intro kl1 kxl1 hl1 hxl1
   have Xl1 : ∀ (o2 : tLB), Go E Γ 106 78 [] ((PostX Γ fr_Split_enc) (fr_Split_k1 o2)) kxl1 (stL [(7, .ref 10 1 0 o2.length)] [(10, b8s .shr o2)]) := by
    intro o2
    refine Go.rx 20 {} [] [4, 5] _ [(4, .ref 10 1 0 o2.length), (5, .leaf .nilIface)] [(10, b8s .shr o2)] hxl1 rfl kr .nil ?_
    clear hxl1; intro kxl1 hxl1
    refine Go.frz [] [] 4 10 (b8s .shr o2) _ [(4, .dead), (5, .leaf .nilIface)] [] rfl rfl (mp_ids (g := gLq) o2 (fun _ => rfl)) qf1_2 (mp_all (g := gLq) o2) kr .nil ?_
    exact Go.lvx 20 [] _ [.sl 1 .shr o2.length (b8s .shr o2), .leaf .nilIface] Tryd.func106 hxl1 rfl kr .nil (T.Le.tup (.cons (T.Le.of_eq rfl) (.cons (T.Le.of_eq rfl) .nil))) rfl rfl .nil
   have Ll1 : ∀ (ml1 : Nat) (t231 : Int) (o1 : tLB), (0 ≤ t231) → (t231 ≤ x1) → ((o1.length : Int) = t231) → ((x1 - t231).toNat < ml1) → Go E Γ 106 78 [] ((PostX Γ fr_Split_enc) (Lo.el (fr_Split_l1 a0 a1 x1 ml1 t231 o1) (fun z : tLB => fr_Split_k1 z))) kl1 (stL [(0, t32 a0), (1, .sl 1 g_a1 a1.length (u8s a1)), (6, ti x1), (7, .ref 10 1 0 o1.length), (22, ti x1), (23, ti t231)] [(10, b8s .shr o1)]) := by
    intro ml1
    induction ml1 with
    | zero => intro t231 o1 i0l1 i1l1 i2l1 hml1; exact absurd hml1 (Nat.not_lt_zero _)
    | succ ml1 ihl1 =>
     intro t231 o1 i0l1 i1l1 i2l1 hml1
     rw [fr_Split_l1]
     refine Go.round hl1 ?_
     intro k hk
     refine Go.rx 20 {} [] [0, 1, 6, 7, 22, 23, 24] _ [(0, t32 a0), (1, .sl 1 g_a1 a1.length (u8s a1)), (6, ti x1), (7, .ref 10 1 0 o1.length), (22, ti x1), (23, ti t231), (24, tb (decide (t231 < x1)))] [(10, b8s .shr o1)] hk rfl kr (.cons trivial .nil) ?_
     clear hk; intro k hk
     refine Go.br 20 (Pf := (fun z : Lo (tLB) (tLB × Int) => (PostX Γ fr_Split_enc) (Lo.el z (fun z : tLB => fr_Split_k1 z)))) hk rfl rfl ?_ ?_ <;> clear hk <;> intro ct2 k hk
     ·have ct2p := of_decide_eq_true ct2
      refine Go.rx 20 {} [] [0, 1, 6, 7, 8, 22, 23] _ [(0, t32 a0), (1, .sl 1 g_a1 a1.length (u8s a1)), (6, ti x1), (7, .ref 10 1 0 o1.length), (8, ti t231), (22, ti x1), (23, ti t231)] [(10, b8s .shr o1)] hk rfl kr .nil ?_
      clear hk; intro k hk
      refine Go.rx 20 { ws := [(0, { v := some (.ref 11 1 0 (z64.length)), c := some (u8s z64), id := 11 })] } [] [0, 1, 6, 7, 8, 9, 22, 23] _ [(0, t32 a0), (1, .sl 1 g_a1 a1.length (u8s a1)), (6, ti x1), (7, .ref 10 1 0 o1.length), (8, ti t231), (9, .ref 11 1 0 (z64.length)), (22, ti x1), (23, ti t231)] [(10, b8s .shr o1), (11, u8s z64)] hk rfl kr (.cons (by decide : 0 ≤ (64 : Int) ∧ (64 : Int) ≤ 64 ∧ (64 : Int) < 9223372036854775808 ∧ ((1 : Nat) : Int) * 64 ≤ 281474976710656) (.cons (mp_zeros (g := zU) (n := Int.toNat 64) (x := (0 : UInt8)) (z := [.int .u8 0]) rfl) (.cons (by simp : T.ref 11 1 0 (Int.toNat 64) = .ref 11 1 0 (z64.length)) .nil))) ?_
      clear hk; intro k hk
      refine Go.rx 20 { ws := [(5, { v := some (t32 (shr32 a0 24)) }), (6, { v := some (t8 ((shr32 a0 24).toUInt8)) }), (8, { v := some (t32 (shr32 a0 16)) }), (9, { v := some (t8 ((shr32 a0 16).toUInt8)) }), (11, { v := some (t32 (shr32 a0 8)) }), (12, { v := some (t8 ((shr32 a0 8).toUInt8)) }), (14, { v := some (t8 a0.toUInt8) }), (16, { c := some (u8s (z64.set 0 ((shr32 a0 24).toUInt8))), sym := true }), (18, { c := some (u8s ((z64.set 0 ((shr32 a0 24).toUInt8)).set 1 ((shr32 a0 16).toUInt8))), sym := true }), (20, { c := some (u8s (((z64.set 0 ((shr32 a0 24).toUInt8)).set 1 ((shr32 a0 16).toUInt8)).set 2 ((shr32 a0 8).toUInt8))), sym := true }), (22, { c := some (u8s ((((z64.set 0 ((shr32 a0 24).toUInt8)).set 1 ((shr32 a0 16).toUInt8)).set 2 ((shr32 a0 8).toUInt8)).set 3 a0.toUInt8)), sym := true })] } [] [0, 1, 6, 7, 8, 9, 22, 23] _ [(0, t32 a0), (1, .sl 1 g_a1 a1.length (u8s a1)), (6, ti x1), (7, .ref 10 1 0 o1.length), (8, ti t231), (9, .ref 11 1 0 (z64.length)), (22, ti x1), (23, ti t231)] [(10, b8s .shr o1), (11, u8s ((((z64.set 0 ((shr32 a0 24).toUInt8)).set 1 ((shr32 a0 16).toUInt8)).set 2 ((shr32 a0 8).toUInt8)).set 3 a0.toUInt8))] hk rfl kr (.cons (by decide : 0 ≤ (24 : Int)) (.cons (shrT32 a0 24) (.cons (cv32_8 (shr32 a0 24)) (.cons (by decide : 0 ≤ (16 : Int)) (.cons (shrT32 a0 16) (.cons (cv32_8 (shr32 a0 16)) (.cons (by decide : 0 ≤ (8 : Int)) (.cons (shrT32 a0 8) (.cons (cv32_8 (shr32 a0 8)) (.cons (cv32_8 a0) (.cons (om : 0 ≤ (0 : Int) ∧ (0 : Int) < ((z64.length : Nat) : Int)) (.cons (rfl : scalL [t8 ((shr32 a0 24).toUInt8)] = true) (.cons (by decide : 1 ≤ 1) (.cons (by decide : 1 ≤ 1) (.cons (qf1_1 : 0 + 1 ≤ (u8s z64).length) (.cons (mp_set (g := zU) (k := 0) (n := 0) (x := (shr32 a0 24).toUInt8) z64 rfl rfl om) (.cons (om : 0 ≤ (1 : Int) ∧ (1 : Int) < ((z64.length : Nat) : Int)) (.cons (rfl : scalL [t8 ((shr32 a0 16).toUInt8)] = true) (.cons (by decide : 1 ≤ 1) (.cons (by decide : 1 ≤ 1) (.cons (qf1_1 : 1 + 1 ≤ (u8s (z64.set 0 ((shr32 a0 24).toUInt8))).length) (.cons (mp_set (g := zU) (k := 1) (n := 1) (x := (shr32 a0 16).toUInt8) (z64.set 0 ((shr32 a0 24).toUInt8)) rfl rfl om) (.cons (om : 0 ≤ (2 : Int) ∧ (2 : Int) < ((z64.length : Nat) : Int)) (.cons (rfl : scalL [t8 ((shr32 a0 8).toUInt8)] = true) (.cons (by decide : 1 ≤ 1) (.cons (by decide : 1 ≤ 1) (.cons (qf1_1 : 2 + 1 ≤ (u8s ((z64.set 0 ((shr32 a0 24).toUInt8)).set 1 ((shr32 a0 16).toUInt8))).length) (.cons (mp_set (g := zU) (k := 2) (n := 2) (x := (shr32 a0 8).toUInt8) ((z64.set 0 ((shr32 a0 24).toUInt8)).set 1 ((shr32 a0 16).toUInt8)) rfl rfl om) (.cons (om : 0 ≤ (3 : Int) ∧ (3 : Int) < ((z64.length : Nat) : Int)) (.cons (rfl : scalL [t8 a0.toUInt8] = true) (.cons (by decide : 1 ≤ 1) (.cons (by decide : 1 ≤ 1) (.cons (qf1_1 : 3 + 1 ≤ (u8s (((z64.set 0 ((shr32 a0 24).toUInt8)).set 1 ((shr32 a0 16).toUInt8)).set 2 ((shr32 a0 8).toUInt8))).length) (.cons (mp_set (g := zU) (k := 3) (n := 3) (x := a0.toUInt8) (((z64.set 0 ((shr32 a0 24).toUInt8)).set 1 ((shr32 a0 16).toUInt8)).set 2 ((shr32 a0 8).toUInt8)) rfl rfl om) .nil)))))))))))))))))))))))))))))))))) ?_
      clear hk; intro k hk
      refine Go.rx 20 { ws := [(5, { v := some (t8 (u8i t231)) }), (7, { v := some (t8 (u8i x1)) }), (10, { v := some (ti ((a1.length : Int) / 256)) }), (11, { v := some (t8 (u8i ((a1.length : Int) / 256))) }), (14, { v := some (t8 (u8i (a1.length : Int))) }), (16, { c := some (u8s (((((z64.set 0 ((shr32 a0 24).toUInt8)).set 1 ((shr32 a0 16).toUInt8)).set 2 ((shr32 a0 8).toUInt8)).set 3 a0.toUInt8).set 4 (u8i t231))), sym := true }), (18, { c := some (u8s ((((((z64.set 0 ((shr32 a0 24).toUInt8)).set 1 ((shr32 a0 16).toUInt8)).set 2 ((shr32 a0 8).toUInt8)).set 3 a0.toUInt8).set 4 (u8i t231)).set 5 (u8i x1))), sym := true }), (20, { c := some (u8s (((((((z64.set 0 ((shr32 a0 24).toUInt8)).set 1 ((shr32 a0 16).toUInt8)).set 2 ((shr32 a0 8).toUInt8)).set 3 a0.toUInt8).set 4 (u8i t231)).set 5 (u8i x1)).set 6 (u8i ((a1.length : Int) / 256)))), sym := true }), (22, { c := some (u8s ((((((((z64.set 0 ((shr32 a0 24).toUInt8)).set 1 ((shr32 a0 16).toUInt8)).set 2 ((shr32 a0 8).toUInt8)).set 3 a0.toUInt8).set 4 (u8i t231)).set 5 (u8i x1)).set 6 (u8i ((a1.length : Int) / 256))).set 7 (u8i (a1.length : Int)))), sym := true })] } [] [0, 1, 6, 7, 8, 9, 22, 23] _ [(0, t32 a0), (1, .sl 1 g_a1 a1.length (u8s a1)), (6, ti x1), (7, .ref 10 1 0 o1.length), (8, ti t231), (9, .ref 11 1 0 (z64.length)), (22, ti x1), (23, ti t231)] [(10, b8s .shr o1), (11, u8s ((((((((z64.set 0 ((shr32 a0 24).toUInt8)).set 1 ((shr32 a0 16).toUInt8)).set 2 ((shr32 a0 8).toUInt8)).set 3 a0.toUInt8).set 4 (u8i t231)).set 5 (u8i x1)).set 6 (u8i ((a1.length : Int) / 256))).set 7 (u8i (a1.length : Int))))] hk rfl kr (.cons (cvi_8 t231) (.cons (cvi_8 x1) (.cons (by decide : 0 ≤ (8 : Int)) (.cons (shrI 8 (a1.length : Int)) (.cons (cvi_8 ((a1.length : Int) / 256)) (.cons (cvi_8 (a1.length : Int)) (.cons (om : 0 ≤ (4 : Int) ∧ (4 : Int) < ((z64.length : Nat) : Int)) (.cons (rfl : scalL [t8 (u8i t231)] = true) (.cons (by decide : 1 ≤ 1) (.cons (by decide : 1 ≤ 1) (.cons (qf1_1 : 4 + 1 ≤ (u8s ((((z64.set 0 ((shr32 a0 24).toUInt8)).set 1 ((shr32 a0 16).toUInt8)).set 2 ((shr32 a0 8).toUInt8)).set 3 a0.toUInt8)).length) (.cons (mp_set (g := zU) (k := 4) (n := 4) (x := u8i t231) ((((z64.set 0 ((shr32 a0 24).toUInt8)).set 1 ((shr32 a0 16).toUInt8)).set 2 ((shr32 a0 8).toUInt8)).set 3 a0.toUInt8) rfl rfl om) (.cons (om : 0 ≤ (5 : Int) ∧ (5 : Int) < ((z64.length : Nat) : Int)) (.cons (rfl : scalL [t8 (u8i x1)] = true) (.cons (by decide : 1 ≤ 1) (.cons (by decide : 1 ≤ 1) (.cons (qf1_1 : 5 + 1 ≤ (u8s (((((z64.set 0 ((shr32 a0 24).toUInt8)).set 1 ((shr32 a0 16).toUInt8)).set 2 ((shr32 a0 8).toUInt8)).set 3 a0.toUInt8).set 4 (u8i t231))).length) (.cons (mp_set (g := zU) (k := 5) (n := 5) (x := u8i x1) (((((z64.set 0 ((shr32 a0 24).toUInt8)).set 1 ((shr32 a0 16).toUInt8)).set 2 ((shr32 a0 8).toUInt8)).set 3 a0.toUInt8).set 4 (u8i t231)) rfl rfl om) (.cons (om : 0 ≤ (6 : Int) ∧ (6 : Int) < ((z64.length : Nat) : Int)) (.cons (rfl : scalL [t8 (u8i ((a1.length : Int) / 256))] = true) (.cons (by decide : 1 ≤ 1) (.cons (by decide : 1 ≤ 1) (.cons (qf1_1 : 6 + 1 ≤ (u8s ((((((z64.set 0 ((shr32 a0 24).toUInt8)).set 1 ((shr32 a0 16).toUInt8)).set 2 ((shr32 a0 8).toUInt8)).set 3 a0.toUInt8).set 4 (u8i t231)).set 5 (u8i x1))).length) (.cons (mp_set (g := zU) (k := 6) (n := 6) (x := u8i ((a1.length : Int) / 256)) ((((((z64.set 0 ((shr32 a0 24).toUInt8)).set 1 ((shr32 a0 16).toUInt8)).set 2 ((shr32 a0 8).toUInt8)).set 3 a0.toUInt8).set 4 (u8i t231)).set 5 (u8i x1)) rfl rfl om) (.cons (om : 0 ≤ (7 : Int) ∧ (7 : Int) < ((z64.length : Nat) : Int)) (.cons (rfl : scalL [t8 (u8i (a1.length : Int))] = true) (.cons (by decide : 1 ≤ 1) (.cons (by decide : 1 ≤ 1) (.cons (qf1_1 : 7 + 1 ≤ (u8s (((((((z64.set 0 ((shr32 a0 24).toUInt8)).set 1 ((shr32 a0 16).toUInt8)).set 2 ((shr32 a0 8).toUInt8)).set 3 a0.toUInt8).set 4 (u8i t231)).set 5 (u8i x1)).set 6 (u8i ((a1.length : Int) / 256)))).length) (.cons (mp_set (g := zU) (k := 7) (n := 7) (x := u8i (a1.length : Int)) (((((((z64.set 0 ((shr32 a0 24).toUInt8)).set 1 ((shr32 a0 16).toUInt8)).set 2 ((shr32 a0 8).toUInt8)).set 3 a0.toUInt8).set 4 (u8i t231)).set 5 (u8i x1)).set 6 (u8i ((a1.length : Int) / 256))) rfl rfl om) .nil)))))))))))))))))))))))))))))) ?_
      clear hk; intro k hk
      refine Go.dx 20 [0, 1, 2, 3, 4, 5, 6] { ws := [(1, { v := some (.ref 11 1 8 (z64.length - 8)) }), (4, { v := some (ti (t231 * 56)) }), (5, { v := some (.sl 1 g_a1 (slc a1 (t231 * 56) (a1.length : Int)).length (u8s (slc a1 (t231 * 56) (a1.length : Int)))) }), (6, { c := some (u8s (cpy ((((((((z64.set 0 ((shr32 a0 24).toUInt8)).set 1 ((shr32 a0 16).toUInt8)).set 2 ((shr32 a0 8).toUInt8)).set 3 a0.toUInt8).set 4 (u8i t231)).set 5 (u8i x1)).set 6 (u8i ((a1.length : Int) / 256))).set 7 (u8i (a1.length : Int))) 8 (z64.length - 8) (slc a1 (t231 * 56) (a1.length : Int)))), sym := true })] } [] [0, 1, 6, 7, 9, 22, 23] _ [(0, t32 a0), (1, .sl 1 g_a1 a1.length (u8s a1)), (6, ti x1), (7, .ref 10 1 0 o1.length), (9, .ref 11 1 0 (z64.length)), (22, ti x1), (23, ti t231)] [(10, b8s .shr o1), (11, u8s (cpy ((((((((z64.set 0 ((shr32 a0 24).toUInt8)).set 1 ((shr32 a0 16).toUInt8)).set 2 ((shr32 a0 8).toUInt8)).set 3 a0.toUInt8).set 4 (u8i t231)).set 5 (u8i x1)).set 6 (u8i ((a1.length : Int) / 256))).set 7 (u8i (a1.length : Int))) 8 (z64.length - 8) (slc a1 (t231 * 56) (a1.length : Int))))] hk rfl kr (.cons (om : 0 ≤ (8 : Int) ∧ (8 : Int) ≤ ((z64.length : Nat) : Int) ∧ ((z64.length : Nat) : Int) ≤ ((z64.length : Nat) : Int) ∧ ((z64.length : Nat) : Int) ≤ ((z64.length : Nat) : Int)) (.cons (by first | rfl | simp | (simp; omega) : T.ref 11 1 (0 + ((8 : Int)).toNat * 1) ((((z64.length : Nat) : Int)).toNat - ((8 : Int)).toNat) = .ref 11 1 8 (z64.length - 8)) (.cons trivial (.cons (iw (t231 * 56) om) (.cons (om : 0 ≤ (t231 * 56 : Int) ∧ (t231 * 56 : Int) ≤ (a1.length : Int) ∧ (a1.length : Int) ≤ (a1.length : Int) ∧ (a1.length : Int) ≤ (a1.length : Nat)) (.cons (sl_slc (t := g_a1) (g := zU) (lo := t231 * 56) (hi := (a1.length : Int)) a1 om rfl rfl) (.cons (by simp only [List.length_map, List.length_cons, List.length_nil]; first | omega | (simp <;> omega) | (simp at * <;> omega) | (split <;> omega) | (split <;> (first | omega | (simp <;> omega) | (simp at * <;> omega))) : 8 + z64.length - 8 * 1 ≤ (u8s ((((((((z64.set 0 ((shr32 a0 24).toUInt8)).set 1 ((shr32 a0 16).toUInt8)).set 2 ((shr32 a0 8).toUInt8)).set 3 a0.toUInt8).set 4 (u8i t231)).set 5 (u8i x1)).set 6 (u8i ((a1.length : Int) / 256))).set 7 (u8i (a1.length : Int)))).length) (.cons (mp_scal (slc a1 (t231 * 56) (a1.length : Int)) (fun _ => rfl) : scalL (u8s (slc a1 (t231 * 56) (a1.length : Int))) = true) (.cons (mp_cpy (g := zU) (k := min ((slc a1 (t231 * 56) (a1.length : Int)).length) (z64.length - 8)) (c := u8s (slc a1 (t231 * 56) (a1.length : Int))) ((((((((z64.set 0 ((shr32 a0 24).toUInt8)).set 1 ((shr32 a0 16).toUInt8)).set 2 ((shr32 a0 8).toUInt8)).set 3 a0.toUInt8).set 4 (u8i t231)).set 5 (u8i x1)).set 6 (u8i ((a1.length : Int) / 256))).set 7 (u8i (a1.length : Int))) (slc a1 (t231 * 56) (a1.length : Int)) 8 (z64.length - 8) rfl rfl) .nil))))))))) ?_
      clear hk; intro k hk
      refine Go.slotEq 9 (.ref 11 1 0 ((cpy ((((((((z64.set 0 ((shr32 a0 24).toUInt8)).set 1 ((shr32 a0 16).toUInt8)).set 2 ((shr32 a0 8).toUInt8)).set 3 a0.toUInt8).set 4 (u8i t231)).set 5 (u8i x1)).set 6 (u8i ((a1.length : Int) / 256))).set 7 (u8i (a1.length : Int))) 8 (z64.length - 8) (slc a1 (t231 * 56) (a1.length : Int))).length)) rfl (congrArg (fun q => T.ref 11 1 0 q) (by first | (simp only [List.length_set, cpy_length, List.length_replicate, List.length_cons, List.length_nil, List.length_append]; omega) | (simp [cpy_length]; omega) | simp : z64.length = (cpy ((((((((z64.set 0 ((shr32 a0 24).toUInt8)).set 1 ((shr32 a0 16).toUInt8)).set 2 ((shr32 a0 8).toUInt8)).set 3 a0.toUInt8).set 4 (u8i t231)).set 5 (u8i x1)).set 6 (u8i ((a1.length : Int) / 256))).set 7 (u8i (a1.length : Int))) 8 (z64.length - 8) (slc a1 (t231 * 56) (a1.length : Int))).length)) ?_
      refine Go.frz [] [10] 9 11 (u8s (cpy ((((((((z64.set 0 ((shr32 a0 24).toUInt8)).set 1 ((shr32 a0 16).toUInt8)).set 2 ((shr32 a0 8).toUInt8)).set 3 a0.toUInt8).set 4 (u8i t231)).set 5 (u8i x1)).set 6 (u8i ((a1.length : Int) / 256))).set 7 (u8i (a1.length : Int))) 8 (z64.length - 8) (slc a1 (t231 * 56) (a1.length : Int)))) _ [(0, t32 a0), (1, .sl 1 g_a1 a1.length (u8s a1)), (6, ti x1), (7, .ref 10 1 0 o1.length), (9, .dead), (22, ti x1), (23, ti t231)] [(10, b8s .shr o1)] rfl rfl (mp_ids (g := zU) (cpy ((((((((z64.set 0 ((shr32 a0 24).toUInt8)).set 1 ((shr32 a0 16).toUInt8)).set 2 ((shr32 a0 8).toUInt8)).set 3 a0.toUInt8).set 4 (u8i t231)).set 5 (u8i x1)).set 6 (u8i ((a1.length : Int) / 256))).set 7 (u8i (a1.length : Int))) 8 (z64.length - 8) (slc a1 (t231 * 56) (a1.length : Int))) (fun _ => rfl)) qf1_2 (mp_all (g := zU) (cpy ((((((((z64.set 0 ((shr32 a0 24).toUInt8)).set 1 ((shr32 a0 16).toUInt8)).set 2 ((shr32 a0 8).toUInt8)).set 3 a0.toUInt8).set 4 (u8i t231)).set 5 (u8i x1)).set 6 (u8i ((a1.length : Int) / 256))).set 7 (u8i (a1.length : Int))) 8 (z64.length - 8) (slc a1 (t231 * 56) (a1.length : Int)))) kr (.cons (mp_mem (i := 11) (g := gLq) o1 (fun _ => rfl)) .nil) ?_
      refine Go.rx 20 { ws := [(2, { id := 12 }), (3, { v := some (.ref 10 1 0 ((o1 ++ [cpy ((((((((z64.set 0 ((shr32 a0 24).toUInt8)).set 1 ((shr32 a0 16).toUInt8)).set 2 ((shr32 a0 8).toUInt8)).set 3 a0.toUInt8).set 4 (u8i t231)).set 5 (u8i x1)).set 6 (u8i ((a1.length : Int) / 256))).set 7 (u8i (a1.length : Int))) 8 (z64.length - 8) (slc a1 (t231 * 56) (a1.length : Int))]).length)), c := some (b8s .shr (o1 ++ [cpy ((((((((z64.set 0 ((shr32 a0 24).toUInt8)).set 1 ((shr32 a0 16).toUInt8)).set 2 ((shr32 a0 8).toUInt8)).set 3 a0.toUInt8).set 4 (u8i t231)).set 5 (u8i x1)).set 6 (u8i ((a1.length : Int) / 256))).set 7 (u8i (a1.length : Int))) 8 (z64.length - 8) (slc a1 (t231 * 56) (a1.length : Int))])), id := 10, sym := true })], pg := [10], fd := some [10] } [12] [0, 1, 6, 7, 22, 23] _ [(0, t32 a0), (1, .sl 1 g_a1 a1.length (u8s a1)), (6, ti x1), (7, .ref 10 1 0 ((o1 ++ [cpy ((((((((z64.set 0 ((shr32 a0 24).toUInt8)).set 1 ((shr32 a0 16).toUInt8)).set 2 ((shr32 a0 8).toUInt8)).set 3 a0.toUInt8).set 4 (u8i t231)).set 5 (u8i x1)).set 6 (u8i ((a1.length : Int) / 256))).set 7 (u8i (a1.length : Int))) 8 (z64.length - 8) (slc a1 (t231 * 56) (a1.length : Int))]).length)), (22, ti x1), (23, ti t231)] [(10, b8s .shr (o1 ++ [cpy ((((((((z64.set 0 ((shr32 a0 24).toUInt8)).set 1 ((shr32 a0 16).toUInt8)).set 2 ((shr32 a0 8).toUInt8)).set 3 a0.toUInt8).set 4 (u8i t231)).set 5 (u8i x1)).set 6 (u8i ((a1.length : Int) / 256))).set 7 (u8i (a1.length : Int))) 8 (z64.length - 8) (slc a1 (t231 * 56) (a1.length : Int))]))] hk rfl kr (.cons (Nat.le_of_ble_eq_true rfl : 0 + 1 * 1 ≤ ([.sl 1 .shr (cpy ((((((((z64.set 0 ((shr32 a0 24).toUInt8)).set 1 ((shr32 a0 16).toUInt8)).set 2 ((shr32 a0 8).toUInt8)).set 3 a0.toUInt8).set 4 (u8i t231)).set 5 (u8i x1)).set 6 (u8i ((a1.length : Int) / 256))).set 7 (u8i (a1.length : Int))) 8 (z64.length - 8) (slc a1 (t231 * 56) (a1.length : Int))).length (u8s (cpy ((((((((z64.set 0 ((shr32 a0 24).toUInt8)).set 1 ((shr32 a0 16).toUInt8)).set 2 ((shr32 a0 8).toUInt8)).set 3 a0.toUInt8).set 4 (u8i t231)).set 5 (u8i x1)).set 6 (u8i ((a1.length : Int) / 256))).set 7 (u8i (a1.length : Int))) 8 (z64.length - 8) (slc a1 (t231 * 56) (a1.length : Int))))] : List T).length) (.cons (qf1_2 : 0 + o1.length * 1 ≤ (b8s .shr o1).length) (.cons (rfl : scalL [.sl 1 .shr (cpy ((((((((z64.set 0 ((shr32 a0 24).toUInt8)).set 1 ((shr32 a0 16).toUInt8)).set 2 ((shr32 a0 8).toUInt8)).set 3 a0.toUInt8).set 4 (u8i t231)).set 5 (u8i x1)).set 6 (u8i ((a1.length : Int) / 256))).set 7 (u8i (a1.length : Int))) 8 (z64.length - 8) (slc a1 (t231 * 56) (a1.length : Int))).length (u8s (cpy ((((((((z64.set 0 ((shr32 a0 24).toUInt8)).set 1 ((shr32 a0 16).toUInt8)).set 2 ((shr32 a0 8).toUInt8)).set 3 a0.toUInt8).set 4 (u8i t231)).set 5 (u8i x1)).set 6 (u8i ((a1.length : Int) / 256))).set 7 (u8i (a1.length : Int))) 8 (z64.length - 8) (slc a1 (t231 * 56) (a1.length : Int))))] = true) (.cons (om : (o1.length + 1) * 24 ≤ 140737488355328) (.cons (mp_app (g := gLq) (o1) [cpy ((((((((z64.set 0 ((shr32 a0 24).toUInt8)).set 1 ((shr32 a0 16).toUInt8)).set 2 ((shr32 a0 8).toUInt8)).set 3 a0.toUInt8).set 4 (u8i t231)).set 5 (u8i x1)).set 6 (u8i ((a1.length : Int) / 256))).set 7 (u8i (a1.length : Int))) 8 (z64.length - 8) (slc a1 (t231 * 56) (a1.length : Int))] rfl) (.cons (mp_mem (i := 10) (g := gLq) (o1 ++ [cpy ((((((((z64.set 0 ((shr32 a0 24).toUInt8)).set 1 ((shr32 a0 16).toUInt8)).set 2 ((shr32 a0 8).toUInt8)).set 3 a0.toUInt8).set 4 (u8i t231)).set 5 (u8i x1)).set 6 (u8i ((a1.length : Int) / 256))).set 7 (u8i (a1.length : Int))) 8 (z64.length - 8) (slc a1 (t231 * 56) (a1.length : Int))]) (fun _ => rfl)) (.cons (by first | rfl | (simp; done) | (refine congrArg (fun q => T.ref 10 1 0 q) ?_; simp <;> omega) : T.ref 10 1 0 (o1.length + 1) = .ref 10 1 0 ((o1 ++ [cpy ((((((((z64.set 0 ((shr32 a0 24).toUInt8)).set 1 ((shr32 a0 16).toUInt8)).set 2 ((shr32 a0 8).toUInt8)).set 3 a0.toUInt8).set 4 (u8i t231)).set 5 (u8i x1)).set 6 (u8i ((a1.length : Int) / 256))).set 7 (u8i (a1.length : Int))) 8 (z64.length - 8) (slc a1 (t231 * 56) (a1.length : Int))]).length)) (.cons (mp_mem (i := 12) (g := gLq) (o1 ++ [cpy ((((((((z64.set 0 ((shr32 a0 24).toUInt8)).set 1 ((shr32 a0 16).toUInt8)).set 2 ((shr32 a0 8).toUInt8)).set 3 a0.toUInt8).set 4 (u8i t231)).set 5 (u8i x1)).set 6 (u8i ((a1.length : Int) / 256))).set 7 (u8i (a1.length : Int))) 8 (z64.length - 8) (slc a1 (t231 * 56) (a1.length : Int))]) (fun _ => rfl)) .nil)))))))) ?_
      clear hk; intro k hk
      refine Go.rx 20 { ws := [(0, { v := some (ti (t231 + 1)) })] } [] [0, 1, 6, 7, 22, 23] _ [(0, t32 a0), (1, .sl 1 g_a1 a1.length (u8s a1)), (6, ti x1), (7, .ref 10 1 0 ((o1 ++ [cpy ((((((((z64.set 0 ((shr32 a0 24).toUInt8)).set 1 ((shr32 a0 16).toUInt8)).set 2 ((shr32 a0 8).toUInt8)).set 3 a0.toUInt8).set 4 (u8i t231)).set 5 (u8i x1)).set 6 (u8i ((a1.length : Int) / 256))).set 7 (u8i (a1.length : Int))) 8 (z64.length - 8) (slc a1 (t231 * 56) (a1.length : Int))]).length)), (22, ti x1), (23, ti (t231 + 1))] [(10, b8s .shr (o1 ++ [cpy ((((((((z64.set 0 ((shr32 a0 24).toUInt8)).set 1 ((shr32 a0 16).toUInt8)).set 2 ((shr32 a0 8).toUInt8)).set 3 a0.toUInt8).set 4 (u8i t231)).set 5 (u8i x1)).set 6 (u8i ((a1.length : Int) / 256))).set 7 (u8i (a1.length : Int))) 8 (z64.length - 8) (slc a1 (t231 * 56) (a1.length : Int))]))] hk rfl kr (.cons trivial (.cons (iw (t231 + 1) om) .nil)) ?_
      clear hk; intro k hk
      exact Go.join 20 hk hl1 rfl (ihl1 (t231 + 1) (o1 ++ [cpy ((((((((z64.set 0 ((shr32 a0 24).toUInt8)).set 1 ((shr32 a0 16).toUInt8)).set 2 ((shr32 a0 8).toUInt8)).set 3 a0.toUInt8).set 4 (u8i t231)).set 5 (u8i x1)).set 6 (u8i ((a1.length : Int) / 256))).set 7 (u8i (a1.length : Int))) 8 (z64.length - 8) (slc a1 (t231 * 56) (a1.length : Int))]) om om om om)
     ·have ct2p := of_decide_eq_false ct2
      refine Go.keepN [7] (L' := [(7, .ref 10 1 0 o1.length)]) rfl ?_
      exact Go.exitX (Pf := (PostX Γ fr_Split_enc)) (F := fun z : tLB => fr_Split_k1 z) (a := o1) (Go.join 20 hk hxl1 rfl (Xl1 o1))
   exact Ll1 _ 0 [] (by first | omega | rfl) (by first | omega | rfl) (by first | omega | rfl) (Nat.lt_succ_self _)
 ·intro hk J
  rcases Bool.eq_false_or_eq_true (a0 == 0) with gd1 | gd1
  ·refine Go.rx 20 { ws := [(1, { v := some (tb true) })] } [] [0, 1, 6, 18] _ [(0, t32 a0), (1, .sl 1 g_a1 a1.length (u8s a1)), (6, ti x1), (18, tb true)] [] hk rfl kr (.cons trivial (.cons ((eqB32 a0 0).trans (eb gd1)) .nil)) ?_
   intro k' hk'
   refine Go.slotEq 18 (tb ((a0 == 0) || (x1 == 0))) rfl (eb (orT gd1).symm) ?_
   exact J k' hk'
  ·refine Go.rx 20 { ws := [(1, { v := some (tb false) })] } [] [0, 1, 6, 18] _ [(0, t32 a0), (1, .sl 1 g_a1 a1.length (u8s a1)), (6, ti x1), (18, tb (x1 == 0))] [] hk rfl kr (.cons trivial (.cons ((eqB32 a0 0).trans (eb gd1)) (.cons trivial .nil))) ?_
   intro k' hk'
   refine Go.slotEq 18 (tb ((a0 == 0) || (x1 == 0))) rfl (eb (orF gd1 rfl).symm) ?_
   exact J k' hk'
noncomputable def sct (a0 : UInt32) (a1 : List UInt8) (x1 t231 : Int) : List UInt8 := cpy ((((((((z64.set 0 ((shr32 a0 24).toUInt8)).set 1 ((shr32 a0 16).toUInt8)).set 2 ((shr32 a0 8).toUInt8)).set 3 a0.toUInt8).set 4 (u8i t231)).set 5 (u8i x1)).set 6 (u8i ((a1.length : Int) / 256))).set 7 (u8i (a1.length : Int))) 8 (z64.length - 8) (slc a1 (t231 * 56) (a1.length : Int))
theorem sct_length (a0 : UInt32) (a1 : List UInt8) (x1 t : Int) : (sct a0 a1 x1 t).length = 64 := by
 rw [sct, cpy_length]
 simp only [List.length_set, List.length_replicate]
 omega
theorem split_loop (a0 : UInt32) (a1 : List UInt8) (x1 : Int) : ∀ (m : Nat) (t : Int) (o : tLB), (x1 - t).toNat < m → fr_Split_l1 a0 a1 x1 m t o = .brk (o ++ (List.range (x1 - t).toNat).map (fun i : Nat => sct a0 a1 x1 (t + i))) := by
 intro m
 induction m with
 | zero => intro t o h; exact absurd h (Nat.not_lt_zero _)
 | succ m ih =>
  intro t o h
  rw [fr_Split_l1]
  by_cases c : t < x1
  ·rw [decide_eq_true c, cond_true, ih (t + 1) _ (by omega)]
   have e : (x1 - t).toNat = (x1 - (t + 1)).toNat + 1 := by omega
   rw [e, List.range_succ_eq_map, List.map_cons, List.map_map, List.append_assoc]
   have e2 : ∀ i : Nat, t + 1 + (i : Int) = t + ((i + 1 : Nat) : Int) := by intro i; omega
   simp only [e2]
   rw [show t + ((0 : Nat) : Int) = t by omega]
   rfl
  ·rw [decide_eq_false c, cond_false, show (x1 - t).toNat = 0 by omega]
   simp
theorem split_eq (a0 : UInt32) (a1 : List UInt8) : fr_Split a0 a1 = bif (a0 == 0) || (fr_Sectors (a1.length : Int) == 0) then ([], 1) else ((List.range (fr_Sectors (a1.length : Int)).toNat).map (fun i : Nat => sct a0 a1 (fr_Sectors (a1.length : Int)) i), 0) := by
 rw [fr_Split, bnd_eq]
 congr 1
 rw [split_loop _ _ _ _ _ _ (by omega)]
 simp only [Int.sub_zero, Int.zero_add, List.nil_append]
 rfl
theorem getD_range {α : Type} (n : Nat) (f : Nat → α) (d : α) (i : Nat) : ((List.range n).map f).getD i d = if i < n then f i else d := by
 rw [List.getD_eq_getElem?_getD, List.getElem?_map]
 by_cases h : i < n
 ·rw [if_pos h, List.getElem?_range h]; rfl
 ·rw [if_neg h, List.getElem?_eq_none (by simpa using h)]; rfl
theorem split_fact (a0 : UInt32) (a1 : List UInt8) : ((fr_Split a0 a1).1.length ≤ 255) ∧ (∀ i : Nat, ((fr_Split a0 a1).1.getD i []).length ≤ 64) ∧ ((fr_Split a0 a1).2 = 0 → (fr_Split a0 a1).1.length = (fr_Sectors (a1.length : Int)).toNat) := by
 have hs := sectors_fact (a1.length : Int)
 rw [split_eq]
 cases h : (a0 == 0) || (fr_Sectors (a1.length : Int) == 0) with
 | true =>
  rw [cond_true]
  exact ⟨by simp, fun i => by simp, fun h => by simp at h⟩
 | false =>
  rw [cond_false]
  refine ⟨by simp; omega, fun i => ?_, fun _ => by simp⟩
  show (((List.range (fr_Sectors (a1.length : Int)).toNat).map (fun i : Nat => sct a0 a1 (fr_Sectors (a1.length : Int)) i)).getD i []).length ≤ 64
  rw [getD_range]
  split
  ·rw [sct_length]; omega
  ·simp
theorem fr_Split_l1_gen : True := by have := @fr_Split_l1.eq_1; have := @fr_Split_l1.eq_2; trivial
attribute [irreducible] fr_Split_k1 fr_Split_l1 fr_Split
end Go.Proofs.YtbppcnhfeobefaaDoor

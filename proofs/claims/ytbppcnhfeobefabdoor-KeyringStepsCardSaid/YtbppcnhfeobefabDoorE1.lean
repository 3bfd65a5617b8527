import Derived.Test.YtbppcnhfeobefabDoorD8
import Derived.Test.YtbppcnhfeobefabDoorEnVx8
set_option linter.unusedVariables false
namespace Go.Proofs.YtbppcnhfeobefabDoor
open Go Go.Vw Go.Proofs
theorem qe1_1 {p : Prop} (h : p := by first | rfl | (rw [mp_ids (g := zU) _ (fun _ => rfl)]; rfl)) : p := h
abbrev kOT := hOT × hOT
noncomputable def slices_Grow (n : Int) : List UInt8 :=
 bif decide (n < 0) then
  default
 else
  bif decide (n - 0 > 0) then
   []
  else
   []
def slices_Grow_enc (x : List UInt8) : T × List (Nat × List T) := (.ref 99 1 0 x.length, [(99, u8s x)])
theorem slices_Grow_m (n : Int) (hn : 0 ≤ n ∧ n ≤ 140737488355328) : Meets Tryd.prog 81 [.leaf (.slice none 0 0), ti n] [] [] (.ref 99 1 0 ((slices_Grow n).length)) [(99, u8s (slices_Grow n))] := by
 refine Meets.enterX (E := E) (N := 27) (enc := slices_Grow_enc) (x := (slices_Grow n)) Tryd.func81 Tryd.call81 rfl rfl ?_
 intro Γ k hk
 refine Go.rx 20 {} [] [0, 1] _ [(0, .leaf (.slice none 0 0)), (1, ti n)] [] hk rfl kr .nil ?_
 clear hk; intro k hk
 refine Go.rx 20 {} [] [0, 1, 6] _ [(0, .leaf (.slice none 0 0)), (1, ti n), (6, tb (decide (n < 0)))] [] hk rfl kr (.cons trivial .nil) ?_
 clear hk; intro k hk
 refine Go.br 20 (Pf := (PostX Γ slices_Grow_enc)) hk rfl rfl ?_ ?_ <;> clear hk <;> intro ct1 k hk
 ·have ct1p := of_decide_eq_true ct1
  exact (show False by first | omega | (simp <;> omega) | (simp at * <;> omega) | (split <;> omega) | (split <;> (first | omega | (simp <;> omega) | (simp at * <;> omega)))).elim
 ·have ct1p := of_decide_eq_false ct1
  refine Go.rx 20 { ws := [(6, { v := some (ti (n - 0)) })] } [] [0, 1] _ [(0, .leaf (.slice none 0 0)), (1, ti (n - 0))] [] hk rfl kr (.cons trivial (.cons trivial (.cons (iw (n - 0) (by omega)) .nil))) ?_
  clear hk; intro k hk
  refine Go.rx 20 {} [] [0, 1, 16] _ [(0, .leaf (.slice none 0 0)), (1, ti (n - 0)), (16, tb (decide (n - 0 > 0)))] [] hk rfl kr (.cons trivial .nil) ?_
  clear hk; intro k hk
  refine Go.br 20 (Pf := (PostX Γ slices_Grow_enc)) hk rfl rfl ?_ ?_ <;> clear hk <;> intro ct2 k hk
  ·have ct2p := of_decide_eq_true ct2
   refine Go.rx 20 { ws := [(5, { v := some (.ref 10 1 0 ((List.replicate ((n - 0).toNat) (0 : UInt8)).length)), c := some (u8s (List.replicate ((n - 0).toNat) (0 : UInt8))), id := 10 }), (8, { v := some (.ref 10 1 0 0) })] } [] [0] _ [(0, .ref 10 1 0 0)] [(10, u8s (List.replicate ((n - 0).toNat) (0 : UInt8)))] hk rfl kr (.cons (by decide : 0 ≤ (0 : Int) ∧ (0 : Int) ≤ 0 ∧ 0 ≤ ((0 : Nat) : Int) ∧ ((0 : Nat) : Int) ≤ ((0 : Nat) : Int)) (.cons (by omega : 0 ≤ (n - 0 : Int) ∧ (n - 0 : Int) * ((1 : Nat) : Int) ≤ 140737488355328) (.cons (mp_zeros (g := zU) (n := Int.toNat (n - 0)) (x := (0 : UInt8)) (z := [.int .u8 0]) rfl) (.cons (by simp only [List.length_replicate] : T.ref 10 1 0 (Int.toNat (n - 0)) = .ref 10 1 0 ((List.replicate ((n - 0).toNat) (0 : UInt8)).length)) (.cons (om : 0 ≤ (0 : Int) ∧ (0 : Int) ≤ 0 ∧ 0 ≤ (((List.replicate ((n - 0).toNat) (0 : UInt8)).length : Nat) : Int) ∧ (((List.replicate ((n - 0).toNat) (0 : UInt8)).length : Nat) : Int) ≤ (((List.replicate ((n - 0).toNat) (0 : UInt8)).length : Nat) : Int)) (.cons (by first | rfl | simp | (simp; omega) : T.ref 10 1 (0 + ((0 : Int)).toNat * 1) (((0 : Int)).toNat - ((0 : Int)).toNat) = .ref 10 1 0 0) .nil)))))) ?_
   clear hk; intro k hk
   refine Go.cutH 10 0 ([] : List T) rfl rfl ?_
   refine Go.rx 20 {} [] [4] _ [(4, .ref 10 1 0 0)] [(10, [])] hk rfl kr .nil ?_
   clear hk; intro k hk
   refine Go.sw (L' := [(4, .ref 99 1 0 0)]) (H' := [(99, [])]) [(99, 10)] ?_
   exact Go.lvx 20 [99] _ [.ref 99 1 0 0] Tryd.func81 hk rfl kr .nil (T.Le.of_eq rfl) rfl rfl (.cons qe1_1 .nil)
  ·have ct2p := of_decide_eq_false ct2
   refine Go.rx 20 {} [] [4] _ [(4, .leaf (.slice none 0 0))] [] hk rfl kr .nil ?_
   clear hk; intro k hk
   refine Go.phn 4 99 1 rfl (.inl rfl) rfl rfl ?_
   exact Go.lvx 20 [99] _ [.ref 99 1 0 0] Tryd.func81 hk rfl kr .nil (T.Le.of_eq rfl) rfl rfl (.cons qe1_1 .nil)
theorem grow_nil (n : Int) : slices_Grow n = [] := by
 rw [slices_Grow]
 cases decide (n < 0) with
 | true => rfl
 | false => cases decide (n - 0 > 0) <;> rfl
attribute [irreducible] slices_Grow
noncomputable def sCc_k2 (o2 : List UInt8) : List UInt8 :=
 o2
noncomputable def sCc_l2 (slices : List (List UInt8)) : Nat → Int → (List UInt8) → Lo (List UInt8) (List UInt8)
 | 0, _, _ => .brk default
 | ml2 + 1, t271, o1 =>
  bif decide (t271 < (slices.length : Int)) then
   sCc_l2 slices ml2 (t271 + 1) (o1 ++ (slices.getD t271.toNat []))
  else
   Lo.brk o1
noncomputable def sCc_k1 (slices : List (List UInt8)) (size2 : Int) : List UInt8 :=
 bnd (slices_Grow size2) fun x1 =>
 Lo.el (sCc_l2 slices (((slices.length : Int) - (0 : Int)).toNat + 1) 0 x1) (fun z : List UInt8 => sCc_k2 z)
noncomputable def sCc_l1 (slices : List (List UInt8)) : Nat → Int → Int → Lo Int (List UInt8)
 | 0, _, _ => .brk default
 | ml1 + 1, size1, t111 =>
  bif decide (t111 < (slices.length : Int)) then
   bif decide (size1 + ((slices.getD t111.toNat []).length : Int) < 0) then
    default
   else
    sCc_l1 slices ml1 (size1 + ((slices.getD t111.toNat []).length : Int)) (t111 + 1)
  else
   Lo.brk size1
noncomputable def sCc (slices : List (List UInt8)) : List UInt8 :=
 Lo.el (sCc_l1 slices (((slices.length : Int) - (0 : Int)).toNat + 1) 0 0) (fun z : Int => sCc_k1 slices z)
def sCc_enc (x : List UInt8) : T × List (Nat × List T) := (.ref 99 1 0 x.length, [(99, u8s x)])
theorem sCc_m {g_slices : Tag} (slices : List (List UInt8)) (hl : slices.length ≤ 1000) (hm : ∀ i : Nat, (slices.getD i []).length ≤ 4294967296) : Meets Tryd.prog 63 [.sl 1 g_slices slices.length (b8s .shr slices)] [] [] (.ref 99 1 0 ((sCc slices).length)) [(99, u8s (sCc slices))] := by
 refine Meets.enterX (E := E) (N := 36) (enc := sCc_enc) (x := (sCc slices)) Tryd.func63 Tryd.call63 rfl rfl ?_
 intro Γ k hk
 refine Go.rx 20 {} [] [0] _ [(0, .sl 1 g_slices slices.length (b8s .shr slices))] [] hk rfl kr .nil ?_
 clear hk; intro k hk
 refine Go.rx 20 {} [] [0, 3] _ [(0, .sl 1 g_slices slices.length (b8s .shr slices)), (3, ti 0)] [] hk rfl kr .nil ?_
 clear hk; intro k hk
 refine Go.rx 20 {} [] [0, 3, 9, 10, 11] _ [(0, .sl 1 g_slices slices.length (b8s .shr slices)), (3, ti 0), (9, .sl 1 g_slices slices.length (b8s .shr slices)), (10, ti (slices.length : Int)), (11, ti 0)] [] hk rfl kr .nil ?_
 clear hk; intro k hk
 refine Go.loopX 20 hk rfl ?_
 clear hk; intro kl1 kxl1 hl1 hxl1
 have Xl1 : ∀ (size2 : Int) (f0l1 : 0 ≤ size2) (f1l1 : size2 ≤ 4294967296000), Go E Γ 63 36 [] ((PostX Γ sCc_enc) (sCc_k1 slices size2)) kxl1 (stL [(0, .sl 1 g_slices slices.length (b8s .shr slices)), (3, ti size2)] []) := by
  intro size2 f0l1 f1l1
  refine Go.rx 20 { ws := [(1, { call := some { ids := [], S := [], M := [], R := .ref 10 1 0 ((slices_Grow size2).length), H' := [(10, u8s (slices_Grow size2))] } })] } [] [0, 6] _ [(0, .sl 1 g_slices slices.length (b8s .shr slices)), (6, .ref 10 1 0 ((slices_Grow size2).length))] [(10, u8s (slices_Grow size2))] hxl1 rfl kr (.cons (Meets.sw [(99, 10)] (slices_Grow_m size2 om) : Meets Tryd.prog 81 [.leaf (.slice none 0 0), ti size2] [] [] (.ref 10 1 0 ((slices_Grow size2).length)) [(10, u8s (slices_Grow size2))]) (.cons (sb : subN (idsL [.leaf (.slice none 0 0), ti size2]) [] = true) .nil)) ?_
  clear hxl1; intro kxl1 hxl1
  refine Go.bnd (Pf := (PostX Γ sCc_enc)) (v := (slices_Grow size2)) (fun x1 => [(0, .sl 1 g_slices slices.length (b8s .shr slices)), (6, .ref 10 1 0 x1.length)]) (fun x1 => [(10, u8s x1)]) ?_
  intro x1 hx1
  have fx1 : x1 = [] := hx1.trans (grow_nil _)
  refine Go.rx 20 {} [] [6, 25, 26, 27] _ [(6, .ref 10 1 0 x1.length), (25, .sl 1 g_slices slices.length (b8s .shr slices)), (26, ti (slices.length : Int)), (27, ti 0)] [(10, u8s x1)] hxl1 rfl kr .nil ?_
  clear hxl1; intro kxl1 hxl1
  refine Go.loopX 20 hxl1 rfl ?_
  clear hxl1; intro kl2 kxl2 hl2 hxl2
  have Xl2 : ∀ (o2 : List UInt8), Go E Γ 63 36 [] ((PostX Γ sCc_enc) (sCc_k2 o2)) kxl2 (stL [(6, .ref 10 1 0 o2.length)] [(10, u8s o2)]) := by
   intro o2
   refine Go.rx 20 {} [] [2] _ [(2, .ref 10 1 0 o2.length)] [(10, u8s o2)] hxl2 rfl kr .nil ?_
   clear hxl2; intro kxl2 hxl2
   refine Go.sw (L' := [(2, .ref 99 1 0 o2.length)]) (H' := [(99, u8s o2)]) [(99, 10)] ?_
   exact Go.lvx 20 [99] _ [.ref 99 1 0 o2.length] Tryd.func63 hxl2 rfl kr .nil (T.Le.of_eq rfl) rfl rfl (.cons qe1_1 .nil)
  have Ll2 : ∀ (ml2 : Nat) (t271 : Int) (o1 : List UInt8), (0 ≤ t271) → (t271 ≤ (slices.length : Int)) → ((o1.length : Int) ≤ 4294967296 * t271) → (((slices.length : Int) - t271).toNat < ml2) → Go E Γ 63 36 [] ((PostX Γ sCc_enc) (Lo.el (sCc_l2 slices ml2 t271 o1) (fun z : List UInt8 => sCc_k2 z))) kl2 (stL [(6, .ref 10 1 0 o1.length), (25, .sl 1 g_slices slices.length (b8s .shr slices)), (26, ti (slices.length : Int)), (27, ti t271)] [(10, u8s o1)]) := by
   intro ml2
   induction ml2 with
   | zero => intro t271 o1 i0l2 i1l2 i2l2 hml2; exact absurd hml2 (Nat.not_lt_zero _)
   | succ ml2 ihl2 =>
    intro t271 o1 i0l2 i1l2 i2l2 hml2
    rw [sCc_l2]
    refine Go.round hl2 ?_
    intro k hk
    have hz := hm t271.toNat
    refine Go.rx 20 {} [] [6, 25, 26, 27, 28] _ [(6, .ref 10 1 0 o1.length), (25, .sl 1 g_slices slices.length (b8s .shr slices)), (26, ti (slices.length : Int)), (27, ti t271), (28, tb (decide (t271 < (slices.length : Int))))] [(10, u8s o1)] hk rfl kr (.cons trivial .nil) ?_
    clear hk; intro k hk
    refine Go.br 20 (Pf := (fun z : Lo (List UInt8) (List UInt8) => (PostX Γ sCc_enc) (Lo.el z (fun z : List UInt8 => sCc_k2 z)))) hk rfl rfl ?_ ?_ <;> clear hk <;> intro ct1 k hk
    ·have ct1p := of_decide_eq_true ct1
     refine Go.rx 20 { ws := [(1, { v := some (.sl 1 .shr (slices.getD t271.toNat []).length (u8s (slices.getD t271.toNat []))) })] } [] [6, 8, 25, 26, 27] _ [(6, .ref 10 1 0 o1.length), (8, .sl 1 .shr (slices.getD t271.toNat []).length (u8s (slices.getD t271.toNat []))), (25, .sl 1 g_slices slices.length (b8s .shr slices)), (26, ti (slices.length : Int)), (27, ti t271)] [(10, u8s o1)] hk rfl kr (.cons (om : 0 ≤ (t271 : Int) ∧ (t271 : Int) < ((slices.length : Nat) : Int)) (.cons (part1 (kr : (E.ti 36).agg = false) (mp_get (g := (fun c : List UInt8 => tl .shr c)) (k := t271.toNat * 1) (n := t271.toNat) slices [] (by omega) om)) .nil)) ?_
     clear hk; intro k hk
     refine Go.rx 20 { ws := [(2, { v := some (.ref 10 1 0 ((o1 ++ (slices.getD t271.toNat [])).length)), c := some (u8s (o1 ++ (slices.getD t271.toNat []))), id := 10, sym := true })], fd := some [10] } [] [6, 25, 26, 27] _ [(6, .ref 10 1 0 ((o1 ++ (slices.getD t271.toNat [])).length)), (25, .sl 1 g_slices slices.length (b8s .shr slices)), (26, ti (slices.length : Int)), (27, ti t271)] [(10, u8s (o1 ++ (slices.getD t271.toNat [])))] hk rfl kr (.cons (by simp only [List.length_map]; omega : 0 + o1.length * 1 ≤ (u8s o1).length) (.cons (mp_scal (slices.getD t271.toNat []) (fun _ => rfl) : scalL (u8s (slices.getD t271.toNat [])) = true) (.cons (om : (o1.length + (slices.getD t271.toNat []).length) * 1 ≤ 140737488355328) (.cons (mp_app (g := zU) (o1) (slices.getD t271.toNat []) rfl) (.cons (mp_mem (i := 10) (g := zU) (o1 ++ (slices.getD t271.toNat [])) (fun _ => rfl)) (.cons (by first | rfl | (simp; done) | (refine congrArg (fun q => T.ref 10 1 0 q) ?_; simp <;> omega) : T.ref 10 1 0 (o1.length + (slices.getD t271.toNat []).length) = .ref 10 1 0 ((o1 ++ (slices.getD t271.toNat [])).length)) .nil)))))) ?_
     clear hk; intro k hk
     refine Go.rx 20 { ws := [(0, { v := some (ti (t271 + 1)) })] } [] [6, 25, 26, 27] _ [(6, .ref 10 1 0 ((o1 ++ (slices.getD t271.toNat [])).length)), (25, .sl 1 g_slices slices.length (b8s .shr slices)), (26, ti (slices.length : Int)), (27, ti (t271 + 1))] [(10, u8s (o1 ++ (slices.getD t271.toNat [])))] hk rfl kr (.cons trivial (.cons (iw (t271 + 1) om) .nil)) ?_
     clear hk; intro k hk
     exact Go.join 20 hk hl2 rfl (ihl2 (t271 + 1) (o1 ++ (slices.getD t271.toNat [])) om om om om)
    ·have ct1p := of_decide_eq_false ct1
     refine Go.keepN [6] (L' := [(6, .ref 10 1 0 o1.length)]) rfl ?_
     exact Go.exitX (Pf := (PostX Γ sCc_enc)) (F := fun z : List UInt8 => sCc_k2 z) (a := o1) (Go.join 20 hk hxl2 rfl (Xl2 o1))
  exact Ll2 _ 0 x1 (by first | omega | (rw [fx1]; simp)) (by first | omega | (rw [fx1]; simp)) (by first | omega | (rw [fx1]; simp)) (Nat.lt_succ_self _)
 have Ll1 : ∀ (ml1 : Nat) (size1 : Int) (t111 : Int), (0 ≤ size1) → (0 ≤ t111) → (size1 ≤ 4294967296 * t111) → (t111 ≤ (slices.length : Int)) → (((slices.length : Int) - t111).toNat < ml1) → Go E Γ 63 36 [] ((PostX Γ sCc_enc) (Lo.el (sCc_l1 slices ml1 size1 t111) (fun z : Int => sCc_k1 slices z))) kl1 (stL [(0, .sl 1 g_slices slices.length (b8s .shr slices)), (3, ti size1), (9, .sl 1 g_slices slices.length (b8s .shr slices)), (10, ti (slices.length : Int)), (11, ti t111)] []) := by
  intro ml1
  induction ml1 with
  | zero => intro size1 t111 i0l1 i1l1 i2l1 i3l1 hml1; exact absurd hml1 (Nat.not_lt_zero _)
  | succ ml1 ihl1 =>
   intro size1 t111 i0l1 i1l1 i2l1 i3l1 hml1
   rw [sCc_l1]
   refine Go.round hl1 ?_
   intro k hk
   have hz := hm t111.toNat
   refine Go.rx 20 {} [] [0, 3, 9, 10, 11, 12] _ [(0, .sl 1 g_slices slices.length (b8s .shr slices)), (3, ti size1), (9, .sl 1 g_slices slices.length (b8s .shr slices)), (10, ti (slices.length : Int)), (11, ti t111), (12, tb (decide (t111 < (slices.length : Int))))] [] hk rfl kr (.cons trivial .nil) ?_
   clear hk; intro k hk
   refine Go.br 20 (Pf := (fun z : Lo (Int) (List UInt8) => (PostX Γ sCc_enc) (Lo.el z (fun z : Int => sCc_k1 slices z)))) hk rfl rfl ?_ ?_ <;> clear hk <;> intro ct2 k hk
   ·have ct2p := of_decide_eq_true ct2
    refine Go.rx 20 { ws := [(1, { v := some (.sl 1 .shr (slices.getD t111.toNat []).length (u8s (slices.getD t111.toNat []))) })] } [] [0, 3, 5, 9, 10, 11] _ [(0, .sl 1 g_slices slices.length (b8s .shr slices)), (3, ti size1), (5, .sl 1 .shr (slices.getD t111.toNat []).length (u8s (slices.getD t111.toNat []))), (9, .sl 1 g_slices slices.length (b8s .shr slices)), (10, ti (slices.length : Int)), (11, ti t111)] [] hk rfl kr (.cons (om : 0 ≤ (t111 : Int) ∧ (t111 : Int) < ((slices.length : Nat) : Int)) (.cons (part1 (kr : (E.ti 36).agg = false) (mp_get (g := (fun c : List UInt8 => tl .shr c)) (k := t111.toNat * 1) (n := t111.toNat) slices [] (by omega) om)) .nil)) ?_
    clear hk; intro k hk
    refine Go.rx 20 { ws := [(3, { v := some (ti (size1 + ((slices.getD t111.toNat []).length : Int))) })] } [] [0, 3, 9, 10, 11] _ [(0, .sl 1 g_slices slices.length (b8s .shr slices)), (3, ti (size1 + ((slices.getD t111.toNat []).length : Int))), (9, .sl 1 g_slices slices.length (b8s .shr slices)), (10, ti (slices.length : Int)), (11, ti t111)] [] hk rfl kr (.cons trivial (.cons (iw (size1 + ((slices.getD t111.toNat []).length : Int)) om) .nil)) ?_
    clear hk; intro k hk
    refine Go.rx 20 {} [] [0, 3, 9, 10, 11, 20] _ [(0, .sl 1 g_slices slices.length (b8s .shr slices)), (3, ti (size1 + ((slices.getD t111.toNat []).length : Int))), (9, .sl 1 g_slices slices.length (b8s .shr slices)), (10, ti (slices.length : Int)), (11, ti t111), (20, tb (decide (size1 + ((slices.getD t111.toNat []).length : Int) < 0)))] [] hk rfl kr (.cons trivial .nil) ?_
    clear hk; intro k hk
    refine Go.br 20 (Pf := (fun z : Lo (Int) (List UInt8) => (PostX Γ sCc_enc) (Lo.el z (fun z : Int => sCc_k1 slices z)))) hk rfl rfl ?_ ?_ <;> clear hk <;> intro ct3 k hk
    ·have ct3p := of_decide_eq_true ct3
     exact (show False by first | omega | (simp <;> omega) | (simp at * <;> omega) | (split <;> omega) | (split <;> (first | omega | (simp <;> omega) | (simp at * <;> omega)))).elim
    ·have ct3p := of_decide_eq_false ct3
     refine Go.rx 20 { ws := [(0, { v := some (ti (t111 + 1)) })] } [] [0, 3, 9, 10, 11] _ [(0, .sl 1 g_slices slices.length (b8s .shr slices)), (3, ti (size1 + ((slices.getD t111.toNat []).length : Int))), (9, .sl 1 g_slices slices.length (b8s .shr slices)), (10, ti (slices.length : Int)), (11, ti (t111 + 1))] [] hk rfl kr (.cons trivial (.cons (iw (t111 + 1) om) .nil)) ?_
     clear hk; intro k hk
     exact Go.join 20 hk hl1 rfl (ihl1 (size1 + ((slices.getD t111.toNat []).length : Int)) (t111 + 1) om om om om om)
   ·have ct2p := of_decide_eq_false ct2
    refine Go.keepN [0, 3] (L' := [(0, .sl 1 g_slices slices.length (b8s .shr slices)), (3, ti size1)]) rfl ?_
    exact Go.exitX (Pf := (PostX Γ sCc_enc)) (F := fun z : Int => sCc_k1 slices z) (a := size1) (Go.join 20 hk hxl1 rfl (Xl1 size1 om om))
 exact Ll1 _ 0 0 om om om om (Nat.lt_succ_self _)
theorem concat_l1 (l : List (List UInt8)) : ∀ (m : Nat) (s i : Int), 0 ≤ s → ((l.length : Int) - i).toNat < m → ∃ z, sCc_l1 l m s i = .brk z := by
 intro m
 induction m with
 | zero => intro s i _ h; exact absurd h (Nat.not_lt_zero _)
 | succ m ih =>
  intro s i h0 hm
  rw [sCc_l1]
  by_cases c : i < (l.length : Int)
  ·rw [decide_eq_true c, cond_true, decide_eq_false (by omega), cond_false]
   exact ih _ _ (by omega) (by omega)
  ·rw [decide_eq_false c, cond_false]; exact ⟨_, rfl⟩
theorem concat_eq (l : List (List UInt8)) : sCc l = l.flatten := by
 rw [sCc]
 obtain ⟨z, hz⟩ := concat_l1 l _ 0 0 (by omega) (Nat.lt_succ_self _)
 rw [hz]
 show sCc_k1 l z = _
 rw [sCc_k1, bnd_eq, grow_nil, appLoop (f := sCc_l2 l) (g := fun i => l.getD i.toNat []) (fun m i o _ => by rw [sCc_l2]) _ _ _ (by omega) (Nat.lt_succ_self _)]
 show [] ++ _ = _
 rw [List.nil_append, ← flat_all, Int.sub_zero, Int.toNat_natCast]
 simp only [Int.zero_add, Int.toNat_natCast]
theorem sCc_l2_gen : True := by have := @sCc_l2.eq_1; have := @sCc_l2.eq_2; trivial
theorem sCc_l1_gen : True := by have := @sCc_l1.eq_1; have := @sCc_l1.eq_2; trivial
attribute [irreducible] sCc_k2 sCc_l2 sCc_k1 sCc_l1 sCc
end Go.Proofs.YtbppcnhfeobefabDoor

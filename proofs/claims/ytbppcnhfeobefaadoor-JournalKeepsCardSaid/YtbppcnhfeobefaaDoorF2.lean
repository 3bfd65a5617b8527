import Derived.Test.YtbppcnhfeobefaaDoorF1
set_option linter.unusedVariables false
namespace Go.Proofs.YtbppcnhfeobefaaDoor
open Go Go.Vw Go.Proofs
theorem qf2_1 {p : Prop} (h : p := by first | rfl | (simp only [fr_Join_enc, T.ids, idsL, er_ids, List.append_nil, List.nil_append]; first | rfl | (rw [mp_ids _ (fun _ => rfl)]; rfl))) : p := h
noncomputable def sEb_k1  : Bool :=
 true
noncomputable def sEb_l1 (s1 : List UInt8) (s2 : List UInt8) : Nat → Int → Lo Unit Bool
 | 0, _ => .brk default
 | ml1 + 1, t131 =>
  bif decide (t131 < (s1.length : Int)) then
   bif (s1.getD t131.toNat 0) != (s2.getD t131.toNat 0) then
    Lo.ret false
   else
    sEb_l1 s1 s2 ml1 (t131 + 1)
  else
   Lo.brk ()
noncomputable def sEb (s1 : List UInt8) (s2 : List UInt8) : Bool :=
 bif (s1.length : Int) != (s2.length : Int) then
  false
 else
  Lo.el (sEb_l1 s1 s2 (((s1.length : Int) - (0 : Int)).toNat + 1) 0) (fun z : Unit => sEb_k1)
def sEb_enc (x : Bool) : T × List (Nat × List T) := (tb x, [])
theorem sEb_m {g_s1 : Tag} {g_s2 : Tag} (s1 : List UInt8) (s2 : List UInt8) (hl1 : s1.length ≤ 9223372036854775807) : Meets Tryd.prog 142 [.sl 1 g_s1 s1.length (u8s s1), .sl 1 g_s2 s2.length (u8s s2)] [] [] (tb (sEb s1 s2)) [] := by
 refine Meets.enterX (E := E) (N := 26) (enc := sEb_enc) (x := (sEb s1 s2)) Tryd.func142 Tryd.call142 rfl rfl ?_
 intro Γ k hk
 refine Go.rx 20 {} [] [0, 1] _ [(0, .sl 1 g_s1 s1.length (u8s s1)), (1, .sl 1 g_s2 s2.length (u8s s2))] [] hk rfl kr .nil ?_
 clear hk; intro k hk
 refine Go.rx 20 {} [] [0, 1, 10] _ [(0, .sl 1 g_s1 s1.length (u8s s1)), (1, .sl 1 g_s2 s2.length (u8s s2)), (10, tb ((s1.length : Int) != (s2.length : Int)))] [] hk rfl kr (.cons trivial .nil) ?_
 clear hk; intro k hk
 refine Go.br 20 (Pf := (PostX Γ sEb_enc)) hk rfl rfl ?_ ?_ <;> clear hk <;> intro ct1 k hk
 ·have ct1p := neIt ct1
  refine Go.rx 20 {} [] [4] _ [(4, tb false)] [] hk rfl kr .nil ?_
  clear hk; intro k hk
  exact Go.lvx 20 [] _ [tb false] Tryd.func142 hk rfl kr .nil (T.Le.of_eq rfl) rfl rfl .nil
 ·have ct1p := neIf ct1
  refine Go.rx 20 {} [] [0, 1, 12, 13] _ [(0, .sl 1 g_s1 s1.length (u8s s1)), (1, .sl 1 g_s2 s2.length (u8s s2)), (12, ti (s1.length : Int)), (13, ti 0)] [] hk rfl kr .nil ?_
  clear hk; intro k hk
  refine Go.loopX 20 hk rfl ?_
  clear hk; intro kl1 kxl1 hl1 hxl1
  have Xl1 : ∀ (_ : True), Go E Γ 142 26 [] ((PostX Γ sEb_enc) (sEb_k1)) kxl1 (stL [] []) := by
   intro _
   refine Go.rx 20 {} [] [4] _ [(4, tb true)] [] hxl1 rfl kr .nil ?_
   clear hxl1; intro kxl1 hxl1
   exact Go.lvx 20 [] _ [tb true] Tryd.func142 hxl1 rfl kr .nil (T.Le.of_eq rfl) rfl rfl .nil
  have Ll1 : ∀ (ml1 : Nat) (t131 : Int), (0 ≤ t131) → (((s1.length : Int) - t131).toNat < ml1) → Go E Γ 142 26 [] ((PostX Γ sEb_enc) (Lo.el (sEb_l1 s1 s2 ml1 t131) (fun z : Unit => sEb_k1))) kl1 (stL [(0, .sl 1 g_s1 s1.length (u8s s1)), (1, .sl 1 g_s2 s2.length (u8s s2)), (12, ti (s1.length : Int)), (13, ti t131)] []) := by
   intro ml1
   induction ml1 with
   | zero => intro t131 i0l1 hml1; exact absurd hml1 (Nat.not_lt_zero _)
   | succ ml1 ihl1 =>
    intro t131 i0l1 hml1
    rw [sEb_l1]
    refine Go.round hl1 ?_
    intro k hk
    refine Go.rx 20 {} [] [0, 1, 12, 13, 14] _ [(0, .sl 1 g_s1 s1.length (u8s s1)), (1, .sl 1 g_s2 s2.length (u8s s2)), (12, ti (s1.length : Int)), (13, ti t131), (14, tb (decide (t131 < (s1.length : Int))))] [] hk rfl kr (.cons trivial .nil) ?_
    clear hk; intro k hk
    refine Go.br 20 (Pf := (fun z : Lo (Unit) (Bool) => (PostX Γ sEb_enc) (Lo.el z (fun z : Unit => sEb_k1)))) hk rfl rfl ?_ ?_ <;> clear hk <;> intro ct2 k hk
    ·have ct2p := of_decide_eq_true ct2
     refine Go.rx 20 {} [] [0, 1, 5, 12, 13] _ [(0, .sl 1 g_s1 s1.length (u8s s1)), (1, .sl 1 g_s2 s2.length (u8s s2)), (5, ti t131), (12, ti (s1.length : Int)), (13, ti t131)] [] hk rfl kr .nil ?_
     clear hk; intro k hk
     refine Go.dx 20 [0, 1, 2, 3, 4, 5, 6, 7, 8] { ws := [(3, { v := some (t8 (s1.getD t131.toNat 0)) }), (7, { v := some (t8 (s2.getD t131.toNat 0)) }), (8, { v := some (tb ((s1.getD t131.toNat 0) != (s2.getD t131.toNat 0))) })] } [] [0, 1, 12, 13, 24] _ [(0, .sl 1 g_s1 s1.length (u8s s1)), (1, .sl 1 g_s2 s2.length (u8s s2)), (12, ti (s1.length : Int)), (13, ti t131), (24, tb ((s1.getD t131.toNat 0) != (s2.getD t131.toNat 0)))] [] hk rfl kr (.cons (by omega : 0 ≤ (t131 : Int) ∧ (t131 : Int) < ((s1.length : Nat) : Int)) (.cons (part1 (kr : (E.ti 5).agg = false) (mp_get (g := zU) (k := t131.toNat * 1) (n := t131.toNat) s1 (0 : UInt8) (by omega) (by omega))) (.cons (by omega : 0 ≤ (t131 : Int) ∧ (t131 : Int) < ((s2.length : Nat) : Int)) (.cons (part1 (kr : (E.ti 5).agg = false) (mp_get (g := zU) (k := t131.toNat * 1) (n := t131.toNat) s2 (0 : UInt8) (by omega) (by omega))) (.cons trivial (.cons (neB8 (s1.getD t131.toNat 0) (s2.getD t131.toNat 0)) .nil)))))) ?_
     clear hk; intro k hk
     refine Go.br 20 (Pf := (fun z : Lo (Unit) (Bool) => (PostX Γ sEb_enc) (Lo.el z (fun z : Unit => sEb_k1)))) hk rfl rfl ?_ ?_ <;> clear hk <;> intro ct3 k hk
     ·refine Go.rx 20 {} [] [4] _ [(4, tb false)] [] hk rfl kr .nil ?_
      clear hk; intro k hk
      exact Go.lvx 20 [] _ [tb false] Tryd.func142 hk rfl kr .nil (T.Le.of_eq rfl) rfl rfl .nil
     ·refine Go.rx 20 { ws := [(0, { v := some (ti (t131 + 1)) })] } [] [0, 1, 12, 13] _ [(0, .sl 1 g_s1 s1.length (u8s s1)), (1, .sl 1 g_s2 s2.length (u8s s2)), (12, ti (s1.length : Int)), (13, ti (t131 + 1))] [] hk rfl kr (.cons trivial (.cons (iw (t131 + 1) (by omega)) .nil)) ?_
      clear hk; intro k hk
      exact Go.join 20 hk hl1 rfl (ihl1 (t131 + 1) (by omega) (by omega))
    ·have ct2p := of_decide_eq_false ct2
     refine Go.keepN [] (L' := []) rfl ?_
     exact Go.exitX (Pf := (PostX Γ sEb_enc)) (F := fun z : Unit => sEb_k1) (a := ()) (Go.join 20 hk hxl1 rfl (Xl1 trivial))
  exact Ll1 _ 0 (by omega) (Nat.lt_succ_self _)
theorem sEb_l1_gen : True := by have := @sEb_l1.eq_1; have := @sEb_l1.eq_2; trivial
attribute [irreducible] sEb_k1 sEb_l1 sEb
noncomputable def eqFuncEq_k1  : Bool :=
 true
noncomputable def eqFuncEq_l1 (s1 : tLB) (s2 : tLB) : Nat → Int → Lo Unit Bool
 | 0, _ => .brk default
 | ml1 + 1, t171 =>
  bif decide (t171 < (s1.length : Int)) then
   bnd (sEb (s1.getD t171.toNat []) (s2.getD t171.toNat [])) fun x1 =>
   bif !x1 then
    Lo.ret false
   else
    eqFuncEq_l1 s1 s2 ml1 (t171 + 1)
  else
   Lo.brk ()
noncomputable def eqFuncEq (s1 : tLB) (s2 : tLB) : Bool :=
 bif (s1.length : Int) != (s2.length : Int) then
  false
 else
  Lo.el (eqFuncEq_l1 s1 s2 (((s1.length : Int) - (0 : Int)).toNat + 1) 0) (fun z : Unit => eqFuncEq_k1)
def eqFuncEq_enc (x : Bool) : T × List (Nat × List T) := (tb x, [])
theorem eqFuncEq_m {g_s1 : Tag} {g_s2 : Tag} (s1 : tLB) (s2 : tLB) (hl1 : s1.length ≤ 9223372036854775807) (hl2 : ∀ i : Nat, (s1.getD i []).length ≤ 9223372036854775807) : Meets Tryd.prog 141 [.sl 1 g_s1 s1.length (b8s .shr s1), .sl 1 g_s2 s2.length (b8s .shr s2), .fn (.func 142) [] []] [] [] (tb (eqFuncEq s1 s2)) [] := by
 refine Meets.enterX (E := E) (N := 32) (enc := eqFuncEq_enc) (x := (eqFuncEq s1 s2)) Tryd.func141 Tryd.call141 rfl rfl ?_
 intro Γ k hk
 refine Go.rx 20 {} [] [0, 1, 2] _ [(0, .sl 1 g_s1 s1.length (b8s .shr s1)), (1, .sl 1 g_s2 s2.length (b8s .shr s2)), (2, .fn (.func 142) [] [])] [] hk rfl kr .nil ?_
 clear hk; intro k hk
 refine Go.rx 20 {} [] [0, 1, 2, 14] _ [(0, .sl 1 g_s1 s1.length (b8s .shr s1)), (1, .sl 1 g_s2 s2.length (b8s .shr s2)), (2, .fn (.func 142) [] []), (14, tb ((s1.length : Int) != (s2.length : Int)))] [] hk rfl kr (.cons trivial .nil) ?_
 clear hk; intro k hk
 refine Go.br 20 (Pf := (PostX Γ eqFuncEq_enc)) hk rfl rfl ?_ ?_ <;> clear hk <;> intro ct1 k hk
 ·have ct1p := neIt ct1
  refine Go.rx 20 {} [] [6] _ [(6, tb false)] [] hk rfl kr .nil ?_
  clear hk; intro k hk
  exact Go.lvx 20 [] _ [tb false] Tryd.func141 hk rfl kr .nil (T.Le.of_eq rfl) rfl rfl .nil
 ·have ct1p := neIf ct1
  refine Go.rx 20 {} [] [1, 2, 15, 16, 17] _ [(1, .sl 1 g_s2 s2.length (b8s .shr s2)), (2, .fn (.func 142) [] []), (15, .sl 1 g_s1 s1.length (b8s .shr s1)), (16, ti (s1.length : Int)), (17, ti 0)] [] hk rfl kr .nil ?_
  clear hk; intro k hk
  refine Go.loopX 20 hk rfl ?_
  clear hk; intro kl1 kxl1 hl1 hxl1
  have Xl1 : ∀ (_ : True), Go E Γ 141 32 [] ((PostX Γ eqFuncEq_enc) (eqFuncEq_k1)) kxl1 (stL [] []) := by
   intro _
   refine Go.rx 20 {} [] [6] _ [(6, tb true)] [] hxl1 rfl kr .nil ?_
   clear hxl1; intro kxl1 hxl1
   exact Go.lvx 20 [] _ [tb true] Tryd.func141 hxl1 rfl kr .nil (T.Le.of_eq rfl) rfl rfl .nil
  have Ll1 : ∀ (ml1 : Nat) (t171 : Int), (0 ≤ t171) → (((s1.length : Int) - t171).toNat < ml1) → Go E Γ 141 32 [] ((PostX Γ eqFuncEq_enc) (Lo.el (eqFuncEq_l1 s1 s2 ml1 t171) (fun z : Unit => eqFuncEq_k1))) kl1 (stL [(1, .sl 1 g_s2 s2.length (b8s .shr s2)), (2, .fn (.func 142) [] []), (15, .sl 1 g_s1 s1.length (b8s .shr s1)), (16, ti (s1.length : Int)), (17, ti t171)] []) := by
   intro ml1
   induction ml1 with
   | zero => intro t171 i0l1 hml1; exact absurd hml1 (Nat.not_lt_zero _)
   | succ ml1 ihl1 =>
    intro t171 i0l1 hml1
    rw [eqFuncEq_l1]
    refine Go.round hl1 ?_
    intro k hk
    refine Go.rx 20 {} [] [1, 2, 15, 16, 17, 18] _ [(1, .sl 1 g_s2 s2.length (b8s .shr s2)), (2, .fn (.func 142) [] []), (15, .sl 1 g_s1 s1.length (b8s .shr s1)), (16, ti (s1.length : Int)), (17, ti t171), (18, tb (decide (t171 < (s1.length : Int))))] [] hk rfl kr (.cons trivial .nil) ?_
    clear hk; intro k hk
    refine Go.br 20 (Pf := (fun z : Lo (Unit) (Bool) => (PostX Γ eqFuncEq_enc) (Lo.el z (fun z : Unit => eqFuncEq_k1)))) hk rfl rfl ?_ ?_ <;> clear hk <;> intro ct2 k hk
    ·have ct2p := of_decide_eq_true ct2
     refine Go.rx 20 { ws := [(2, { v := some (.sl 1 .shr (s1.getD t171.toNat []).length (u8s (s1.getD t171.toNat []))) })] } [] [1, 2, 7, 8, 15, 16, 17] _ [(1, .sl 1 g_s2 s2.length (b8s .shr s2)), (2, .fn (.func 142) [] []), (7, ti t171), (8, .sl 1 .shr (s1.getD t171.toNat []).length (u8s (s1.getD t171.toNat []))), (15, .sl 1 g_s1 s1.length (b8s .shr s1)), (16, ti (s1.length : Int)), (17, ti t171)] [] hk rfl kr (.cons (by omega : 0 ≤ (t171 : Int) ∧ (t171 : Int) < ((s1.length : Nat) : Int)) (.cons (part1 (kr : (E.ti 22).agg = false) (mp_get (g := gLq) (k := t171.toNat * 1) (n := t171.toNat) s1 [] (by omega) (by omega))) .nil)) ?_
     clear hk; intro k hk
     refine Go.rx 20 { ws := [(3, { v := some (.sl 1 .shr (s2.getD t171.toNat []).length (u8s (s2.getD t171.toNat []))) })] } [] [1, 2, 8, 9, 15, 16, 17] _ [(1, .sl 1 g_s2 s2.length (b8s .shr s2)), (2, .fn (.func 142) [] []), (8, .sl 1 .shr (s1.getD t171.toNat []).length (u8s (s1.getD t171.toNat []))), (9, .sl 1 .shr (s2.getD t171.toNat []).length (u8s (s2.getD t171.toNat []))), (15, .sl 1 g_s1 s1.length (b8s .shr s1)), (16, ti (s1.length : Int)), (17, ti t171)] [] hk rfl kr (.cons (by omega : 0 ≤ (t171 : Int) ∧ (t171 : Int) < ((s2.length : Nat) : Int)) (.cons (part1 (kr : (E.ti 22).agg = false) (mp_get (g := gLq) (k := t171.toNat * 1) (n := t171.toNat) s2 [] (by omega) (by omega))) .nil)) ?_
     clear hk; intro k hk
     refine Go.rx 20 { ws := [(3, { call := some { ids := [], S := [], M := [], R := tb (sEb (s1.getD t171.toNat []) (s2.getD t171.toNat [])), H' := [] } })] } [] [1, 2, 15, 16, 17, 30] _ [(1, .sl 1 g_s2 s2.length (b8s .shr s2)), (2, .fn (.func 142) [] []), (15, .sl 1 g_s1 s1.length (b8s .shr s1)), (16, ti (s1.length : Int)), (17, ti t171), (30, tb (!(sEb (s1.getD t171.toNat []) (s2.getD t171.toNat []))))] [] hk rfl kr (.cons (sEb_m (g_s1 := .shr) (g_s2 := .shr) (s1.getD t171.toNat []) (s2.getD t171.toNat []) (by first | assumption | (have := hl2 0; simp_all; done) | exact hl2 _)) (.cons (sb : subN (idsL [.sl 1 .shr (s1.getD t171.toNat []).length (u8s (s1.getD t171.toNat [])), .sl 1 .shr (s2.getD t171.toNat []).length (u8s (s2.getD t171.toNat []))]) [] = true) .nil)) ?_
     clear hk; intro k hk
     refine Go.bnd (Pf := (fun z : Lo (Unit) (Bool) => (PostX Γ eqFuncEq_enc) (Lo.el z (fun z : Unit => eqFuncEq_k1)))) (v := (sEb (s1.getD t171.toNat []) (s2.getD t171.toNat []))) (fun x1 => [(1, .sl 1 g_s2 s2.length (b8s .shr s2)), (2, .fn (.func 142) [] []), (15, .sl 1 g_s1 s1.length (b8s .shr s1)), (16, ti (s1.length : Int)), (17, ti t171), (30, tb (!x1))]) (fun x1 => []) ?_
     intro x1 hx1
     refine Go.br 20 (Pf := (fun z : Lo (Unit) (Bool) => (PostX Γ eqFuncEq_enc) (Lo.el z (fun z : Unit => eqFuncEq_k1)))) hk rfl rfl ?_ ?_ <;> clear hk <;> intro ct3 k hk
     ·have ct3' : x1 = false := ntT ct3
      refine Go.rx 20 {} [] [6] _ [(6, tb false)] [] hk rfl kr .nil ?_
      clear hk; intro k hk
      exact Go.lvx 20 [] _ [tb false] Tryd.func141 hk rfl kr .nil (T.Le.of_eq rfl) rfl rfl .nil
     ·have ct3' : x1 = true := ntF ct3
      refine Go.rx 20 { ws := [(0, { v := some (ti (t171 + 1)) })] } [] [1, 2, 15, 16, 17] _ [(1, .sl 1 g_s2 s2.length (b8s .shr s2)), (2, .fn (.func 142) [] []), (15, .sl 1 g_s1 s1.length (b8s .shr s1)), (16, ti (s1.length : Int)), (17, ti (t171 + 1))] [] hk rfl kr (.cons trivial (.cons (iw (t171 + 1) (by omega)) .nil)) ?_
      clear hk; intro k hk
      exact Go.join 20 hk hl1 rfl (ihl1 (t171 + 1) (by omega) (by omega))
    ·have ct2p := of_decide_eq_false ct2
     refine Go.keepN [] (L' := []) rfl ?_
     exact Go.exitX (Pf := (PostX Γ eqFuncEq_enc)) (F := fun z : Unit => eqFuncEq_k1) (a := ()) (Go.join 20 hk hxl1 rfl (Xl1 trivial))
  exact Ll1 _ 0 (by omega) (Nat.lt_succ_self _)
theorem eqFuncEq_l1_gen : True := by have := @eqFuncEq_l1.eq_1; have := @eqFuncEq_l1.eq_2; trivial
attribute [irreducible] eqFuncEq_k1 eqFuncEq_l1 eqFuncEq
noncomputable def fr_Join_k1 (a0 : tLB) (x1 : UInt32 × Int) (o2 : List UInt8) : UInt32 × List UInt8 × Int × Int :=
 bnd (fr_Split x1.1 (prt o2 0 (((if (o2.length : Int) < orI ((((a0.getD 0 []).getD 6 0).toNat : Int) * 256) (((a0.getD 0 []).getD 7 0).toNat : Int) then (o2.length : Int) else orI ((((a0.getD 0 []).getD 6 0).toNat : Int) * 256) (((a0.getD 0 []).getD 7 0).toNat : Int))).toNat))) fun x3 =>
 bnd (eqFuncEq x3.1 (slc a0 0 (((a0.getD 0 []).getD 5 0).toNat : Int))) fun x4 =>
 bif (!(decide (x3.2 = 0))) || (!x4) then
  (0, [], 0, 4)
 else
  (x1.1, (prt o2 0 (((if (o2.length : Int) < orI ((((a0.getD 0 []).getD 6 0).toNat : Int) * 256) (((a0.getD 0 []).getD 7 0).toNat : Int) then (o2.length : Int) else orI ((((a0.getD 0 []).getD 6 0).toNat : Int) * 256) (((a0.getD 0 []).getD 7 0).toNat : Int))).toNat)), (((a0.getD 0 []).getD 5 0).toNat : Int), 0)
noncomputable def fr_Join_l1 (a0 : tLB) : Nat → Int → (List UInt8) → Lo (List UInt8) (UInt32 × List UInt8 × Int × Int)
 | 0, _, _ => .brk default
 | ml1 + 1, t751, o1 =>
  bif decide (t751 < ((slc a0 0 (((a0.getD 0 []).getD 5 0).toNat : Int)).length : Int)) then
   fr_Join_l1 a0 ml1 (t751 + 1) (o1 ++ (slc ((slc a0 0 (((a0.getD 0 []).getD 5 0).toNat : Int)).getD t751.toNat []) (if (((slc a0 0 (((a0.getD 0 []).getD 5 0).toNat : Int)).getD t751.toNat []).length : Int) < 8 then (((slc a0 0 (((a0.getD 0 []).getD 5 0).toNat : Int)).getD t751.toNat []).length : Int) else 8) (((slc a0 0 (((a0.getD 0 []).getD 5 0).toNat : Int)).getD t751.toNat []).length : Int)))
  else
   Lo.brk o1
noncomputable def fr_Join (a0 : tLB) : UInt32 × List UInt8 × Int × Int :=
 bif ((a0.length : Int) == 0) || (((a0.getD 0 []).length : Int) != 64) then
  (0, [], 0, 4)
 else
  bnd (fr_Seq (a0.getD 0 [])) fun x1 =>
  bnd (fr_Sectors (orI ((((a0.getD 0 []).getD 6 0).toNat : Int) * 256) (((a0.getD 0 []).getD 7 0).toNat : Int))) fun x2 =>
  bif (!(decide (x1.2 = 0))) || ((x1.1 == 0) || (((((a0.getD 0 []).getD 5 0).toNat : Int) != x2) || (decide ((a0.length : Int) < (((a0.getD 0 []).getD 5 0).toNat : Int))))) then
   (0, [], 0, 4)
  else
   Lo.el (fr_Join_l1 a0 ((((slc a0 0 (((a0.getD 0 []).getD 5 0).toNat : Int)).length : Int) - (0 : Int)).toNat + 1) 0 []) (fun z : List UInt8 => fr_Join_k1 a0 x1 z)
def fr_Join_enc (x : UInt32 × List UInt8 × Int × Int) : T × List (Nat × List T) := (.tup [t32 x.1, .sl 1 .shr x.2.1.length (u8s x.2.1), ti x.2.2.1, er 149 x.2.2.2], [])
theorem fr_Join_m {g_a0 : Tag} (a0 : tLB) (hm : ∀ i : Nat, (a0.getD i []).length ≤ 200) : Meets Tryd.prog 130 [.sl 1 g_a0 a0.length (b8s .shr a0)] [] [] (.tup [t32 ((fr_Join a0).1), .sl 1 .shr ((fr_Join a0).2.1).length (u8s ((fr_Join a0).2.1)), ti ((fr_Join a0).2.2.1), er 149 ((fr_Join a0).2.2.2)]) [] := by
 refine Meets.enterX (E := E) (N := 113) (enc := fr_Join_enc) (x := (fr_Join a0)) Tryd.func130 Tryd.call130 rfl rfl ?_
 intro Γ k hk
 refine Go.rx 20 {} [] [0] _ [(0, .sl 1 g_a0 a0.length (b8s .shr a0))] [] hk rfl kr .nil ?_
 clear hk; intro k hk
 refine Go.regJ 20 [(0, .sl 1 g_a0 a0.length (b8s .shr a0)), (23, tb (((a0.length : Int) == 0) || (((a0.getD 0 []).length : Int) != 64)))] [] hk rfl ?_ ?_
 ·clear hk; intro k hk
  refine Go.br 20 (Pf := (PostX Γ fr_Join_enc)) hk rfl rfl ?_ ?_ <;> clear hk <;> intro ct1 k hk
  ·refine Go.rx 20 {} [] [2, 3, 4, 5] _ [(2, t32 0), (3, .leaf (.slice none 0 0)), (4, ti 0), (5, er 149 4)] [] hk rfl kr .nil ?_
   clear hk; intro k hk
   exact Go.lvx 20 [] _ [t32 0, .leaf (.slice none 0 0), ti 0, er 149 4] Tryd.func130 hk rfl kr .nil (T.Le.tup (.cons (T.Le.of_eq rfl) (.cons (T.Le.nil _ _) (.cons (T.Le.of_eq rfl) (.cons (T.Le.of_eq rfl) .nil))))) rfl qf2_1 .nil
  ·have ct11 : ((a0.length : Int) == 0) = false := (Bool.or_eq_false_iff.1 ct1).1
   have ct12 : (((a0.getD 0 []).length : Int) != 64) = false := (Bool.or_eq_false_iff.1 ct1).2
   have ct11p := eqIf ct11
   have ct12p := neIf ct12
   refine Go.rx 20 { ws := [(2, { v := some (.sl 1 .shr (a0.getD 0 []).length (u8s (a0.getD 0 []))) }), (3, { call := some { ids := [], S := [], M := [], R := .tup [t32 ((fr_Seq (a0.getD 0 [])).1), er 149 ((fr_Seq (a0.getD 0 [])).2)], H' := [] } })] } [] [0, 6, 7] _ [(0, .sl 1 g_a0 a0.length (b8s .shr a0)), (6, t32 ((fr_Seq (a0.getD 0 [])).1)), (7, er 149 ((fr_Seq (a0.getD 0 [])).2))] [] hk rfl kr (.cons (om : 0 ≤ (0 : Int) ∧ (0 : Int) < ((a0.length : Nat) : Int)) (.cons (part1 (kr : (E.ti 22).agg = false) (mp_get (g := gLq) (k := 0) (n := 0) a0 [] rfl om)) (.cons (fr_Seq_m (g_s := .shr) (a0.getD 0 [])) (.cons (sb : subN (idsL [.sl 1 .shr (a0.getD 0 []).length (u8s (a0.getD 0 []))]) [] = true) .nil)))) ?_
   clear hk; intro k hk
   refine Go.bnd (Pf := (PostX Γ fr_Join_enc)) (v := (fr_Seq (a0.getD 0 []))) (fun x1 => [(0, .sl 1 g_a0 a0.length (b8s .shr a0)), (6, t32 x1.1), (7, er 149 x1.2)]) (fun x1 => []) ?_
   intro x1 hx1
   have := lt8 ((a0.getD 0 []).getD 5 0)
   have := lt8 ((a0.getD 0 []).getD 6 0)
   have := lt8 ((a0.getD 0 []).getD 7 0)
   refine Go.dx 20 [0, 1, 2, 3, 4, 5, 20, 6, 7, 8, 9, 10, 11, 12, 13, 14, 15, 16, 17, 18, 19, 21] { ws := [(2, { v := some (.sl 1 .shr (a0.getD 0 []).length (u8s (a0.getD 0 []))) }), (4, { v := some (t8 ((a0.getD 0 []).getD 5 0)) }), (5, { v := some (ti (((a0.getD 0 []).getD 5 0).toNat : Int)) }), (8, { v := some (.sl 1 .shr (a0.getD 0 []).length (u8s (a0.getD 0 []))) }), (10, { v := some (t8 ((a0.getD 0 []).getD 6 0)) }), (11, { v := some (ti (((a0.getD 0 []).getD 6 0).toNat : Int)) }), (12, { v := some (ti ((((a0.getD 0 []).getD 6 0).toNat : Int) * 256)) }), (15, { v := some (.sl 1 .shr (a0.getD 0 []).length (u8s (a0.getD 0 []))) }), (17, { v := some (t8 ((a0.getD 0 []).getD 7 0)) }), (18, { v := some (ti (((a0.getD 0 []).getD 7 0).toNat : Int)) })] } [] [0, 6, 7, 8, 9] _ [(0, .sl 1 g_a0 a0.length (b8s .shr a0)), (6, t32 x1.1), (7, er 149 x1.2), (8, ti (((a0.getD 0 []).getD 5 0).toNat : Int)), (9, ti (orI ((((a0.getD 0 []).getD 6 0).toNat : Int) * 256) (((a0.getD 0 []).getD 7 0).toNat : Int)))] [] hk rfl kr (.cons (om : 0 ≤ (0 : Int) ∧ (0 : Int) < ((a0.length : Nat) : Int)) (.cons (part1 (kr : (E.ti 22).agg = false) (mp_get (g := gLq) (k := 0) (n := 0) a0 [] rfl om)) (.cons (om : 0 ≤ (5 : Int) ∧ (5 : Int) < (((a0.getD 0 []).length : Nat) : Int)) (.cons (part1 (kr : (E.ti 5).agg = false) (mp_get (g := zU) (k := 5) (n := 5) (a0.getD 0 []) (0 : UInt8) rfl om)) (.cons (cv8_i ((a0.getD 0 []).getD 5 0)) (.cons (om : 0 ≤ (0 : Int) ∧ (0 : Int) < ((a0.length : Nat) : Int)) (.cons (part1 (kr : (E.ti 22).agg = false) (mp_get (g := gLq) (k := 0) (n := 0) a0 [] rfl om)) (.cons (om : 0 ≤ (6 : Int) ∧ (6 : Int) < (((a0.getD 0 []).length : Nat) : Int)) (.cons (part1 (kr : (E.ti 5).agg = false) (mp_get (g := zU) (k := 6) (n := 6) (a0.getD 0 []) (0 : UInt8) rfl om)) (.cons (cv8_i ((a0.getD 0 []).getD 6 0)) (.cons (by decide : 0 ≤ (8 : Int)) (.cons (shlC 8 (((a0.getD 0 []).getD 6 0).toNat : Int) 256 (by decide) om) (.cons (om : 0 ≤ (0 : Int) ∧ (0 : Int) < ((a0.length : Nat) : Int)) (.cons (part1 (kr : (E.ti 22).agg = false) (mp_get (g := gLq) (k := 0) (n := 0) a0 [] rfl om)) (.cons (om : 0 ≤ (7 : Int) ∧ (7 : Int) < (((a0.getD 0 []).length : Nat) : Int)) (.cons (part1 (kr : (E.ti 5).agg = false) (mp_get (g := zU) (k := 7) (n := 7) (a0.getD 0 []) (0 : UInt8) rfl om)) (.cons (cv8_i ((a0.getD 0 []).getD 7 0)) (.cons trivial .nil)))))))))))))))))) ?_
   clear hk; intro k hk
   refine Go.regJ 20 [(0, .sl 1 g_a0 a0.length (b8s .shr a0)), (6, t32 x1.1), (8, ti (((a0.getD 0 []).getD 5 0).toNat : Int)), (9, ti (orI ((((a0.getD 0 []).getD 6 0).toNat : Int) * 256) (((a0.getD 0 []).getD 7 0).toNat : Int))), (69, tb ((!(decide (x1.2 = 0))) || ((x1.1 == 0) || (((((a0.getD 0 []).getD 5 0).toNat : Int) != (fr_Sectors (orI ((((a0.getD 0 []).getD 6 0).toNat : Int) * 256) (((a0.getD 0 []).getD 7 0).toNat : Int)))) || (decide ((a0.length : Int) < (((a0.getD 0 []).getD 5 0).toNat : Int)))))))] [] hk rfl ?_ ?_
   ·clear hk; intro k hk
    refine Go.bnd (Pf := (PostX Γ fr_Join_enc)) (v := (fr_Sectors (orI ((((a0.getD 0 []).getD 6 0).toNat : Int) * 256) (((a0.getD 0 []).getD 7 0).toNat : Int)))) (fun x2 => [(0, .sl 1 g_a0 a0.length (b8s .shr a0)), (6, t32 x1.1), (8, ti (((a0.getD 0 []).getD 5 0).toNat : Int)), (9, ti (orI ((((a0.getD 0 []).getD 6 0).toNat : Int) * 256) (((a0.getD 0 []).getD 7 0).toNat : Int))), (69, tb ((!(decide (x1.2 = 0))) || ((x1.1 == 0) || (((((a0.getD 0 []).getD 5 0).toNat : Int) != x2) || (decide ((a0.length : Int) < (((a0.getD 0 []).getD 5 0).toNat : Int)))))))]) (fun x2 => []) ?_
    intro x2 hx2
    have fx2 := sectors_fact (orI ((((a0.getD 0 []).getD 6 0).toNat : Int) * 256) (((a0.getD 0 []).getD 7 0).toNat : Int))
    rw [← hx2] at fx2
    obtain ⟨fx20, fx21, fx22, fx23⟩ := fx2
    have gx2 : 0 ≤ (orI ((((a0.getD 0 []).getD 6 0).toNat : Int) * 256) (((a0.getD 0 []).getD 7 0).toNat : Int)) := orI_nonneg (by omega) (by omega)
    refine Go.br 20 (Pf := (PostX Γ fr_Join_enc)) hk rfl rfl ?_ ?_ <;> clear hk <;> intro ct2 k hk
    ·refine Go.rx 20 {} [] [2, 3, 4, 5] _ [(2, t32 0), (3, .leaf (.slice none 0 0)), (4, ti 0), (5, er 149 4)] [] hk rfl kr .nil ?_
     clear hk; intro k hk
     exact Go.lvx 20 [] _ [t32 0, .leaf (.slice none 0 0), ti 0, er 149 4] Tryd.func130 hk rfl kr .nil (T.Le.tup (.cons (T.Le.of_eq rfl) (.cons (T.Le.nil _ _) (.cons (T.Le.of_eq rfl) (.cons (T.Le.of_eq rfl) .nil))))) rfl qf2_1 .nil
    ·have ct21 : (!(decide (x1.2 = 0))) = false := (Bool.or_eq_false_iff.1 ct2).1
     have ct22 : ((x1.1 == 0) || (((((a0.getD 0 []).getD 5 0).toNat : Int) != x2) || (decide ((a0.length : Int) < (((a0.getD 0 []).getD 5 0).toNat : Int))))) = false := (Bool.or_eq_false_iff.1 ct2).2
     have ct21' : (decide (x1.2 = 0)) = true := ntF ct21
     have ct21'p := of_decide_eq_true ct21'
     have ct221 : (x1.1 == 0) = false := (Bool.or_eq_false_iff.1 ct22).1
     have ct222 : (((((a0.getD 0 []).getD 5 0).toNat : Int) != x2) || (decide ((a0.length : Int) < (((a0.getD 0 []).getD 5 0).toNat : Int)))) = false := (Bool.or_eq_false_iff.1 ct22).2
     have ct2221 : ((((a0.getD 0 []).getD 5 0).toNat : Int) != x2) = false := (Bool.or_eq_false_iff.1 ct222).1
     have ct2222 : (decide ((a0.length : Int) < (((a0.getD 0 []).getD 5 0).toNat : Int))) = false := (Bool.or_eq_false_iff.1 ct222).2
     have ct2221p := neIf ct2221
     have ct2222p := of_decide_eq_false ct2222
     refine Go.rx 20 {} [] [0, 6, 8, 9, 10] _ [(0, .sl 1 g_a0 a0.length (b8s .shr a0)), (6, t32 x1.1), (8, ti (((a0.getD 0 []).getD 5 0).toNat : Int)), (9, ti (orI ((((a0.getD 0 []).getD 6 0).toNat : Int) * 256) (((a0.getD 0 []).getD 7 0).toNat : Int))), (10, .leaf (.slice none 0 0))] [] hk rfl kr .nil ?_
     clear hk; intro k hk
     refine Go.rx 20 { ws := [(2, { v := some (.sl 1 g_a0 (slc a0 0 (((a0.getD 0 []).getD 5 0).toNat : Int)).length (b8s .shr (slc a0 0 (((a0.getD 0 []).getD 5 0).toNat : Int)))) })] } [] [0, 6, 8, 9, 10, 73, 74, 75] _ [(0, .sl 1 g_a0 a0.length (b8s .shr a0)), (6, t32 x1.1), (8, ti (((a0.getD 0 []).getD 5 0).toNat : Int)), (9, ti (orI ((((a0.getD 0 []).getD 6 0).toNat : Int) * 256) (((a0.getD 0 []).getD 7 0).toNat : Int))), (10, .leaf (.slice none 0 0)), (73, .sl 1 g_a0 (slc a0 0 (((a0.getD 0 []).getD 5 0).toNat : Int)).length (b8s .shr (slc a0 0 (((a0.getD 0 []).getD 5 0).toNat : Int)))), (74, ti ((slc a0 0 (((a0.getD 0 []).getD 5 0).toNat : Int)).length : Int)), (75, ti 0)] [] hk rfl kr (.cons (om : 0 ≤ (0 : Int) ∧ (0 : Int) ≤ (((a0.getD 0 []).getD 5 0).toNat : Int) ∧ (((a0.getD 0 []).getD 5 0).toNat : Int) ≤ (a0.length : Int) ∧ (a0.length : Int) ≤ (a0.length : Nat)) (.cons (sl_slc (t := g_a0) (g := gLq) (lo := 0) (hi := (((a0.getD 0 []).getD 5 0).toNat : Int)) a0 om rfl rfl) .nil)) ?_
     clear hk; intro k hk
     refine Go.phn 10 10 1 rfl (.inl rfl) rfl rfl ?_
     refine Go.loopX 20 hk rfl ?_
     clear hk; intro kl1 kxl1 hl1 hxl1
     have Xl1 : ∀ (o2 : List UInt8), Go E Γ 130 113 [] ((PostX Γ fr_Join_enc) (fr_Join_k1 a0 x1 o2)) kxl1 (stL [(0, .sl 1 g_a0 a0.length (b8s .shr a0)), (6, t32 x1.1), (8, ti (((a0.getD 0 []).getD 5 0).toNat : Int)), (9, ti (orI ((((a0.getD 0 []).getD 6 0).toNat : Int) * 256) (((a0.getD 0 []).getD 7 0).toNat : Int))), (10, .ref 10 1 0 o2.length)] [(10, u8s o2)]) := by
      intro o2
      refine Go.rx 20 { ws := [(5, { v := some (.ref 10 1 0 (((if (o2.length : Int) < orI ((((a0.getD 0 []).getD 6 0).toNat : Int) * 256) (((a0.getD 0 []).getD 7 0).toNat : Int) then (o2.length : Int) else orI ((((a0.getD 0 []).getD 6 0).toNat : Int) * 256) (((a0.getD 0 []).getD 7 0).toNat : Int))).toNat)) })] } [] [0, 6, 8, 10] _ [(0, .sl 1 g_a0 a0.length (b8s .shr a0)), (6, t32 x1.1), (8, ti (((a0.getD 0 []).getD 5 0).toNat : Int)), (10, .ref 10 1 0 (((if (o2.length : Int) < orI ((((a0.getD 0 []).getD 6 0).toNat : Int) * 256) (((a0.getD 0 []).getD 7 0).toNat : Int) then (o2.length : Int) else orI ((((a0.getD 0 []).getD 6 0).toNat : Int) * 256) (((a0.getD 0 []).getD 7 0).toNat : Int))).toNat))] [(10, u8s o2)] hxl1 rfl kr (.cons (om : 0 ≤ (0 : Int) ∧ (0 : Int) ≤ (if (o2.length : Int) < orI ((((a0.getD 0 []).getD 6 0).toNat : Int) * 256) (((a0.getD 0 []).getD 7 0).toNat : Int) then (o2.length : Int) else orI ((((a0.getD 0 []).getD 6 0).toNat : Int) * 256) (((a0.getD 0 []).getD 7 0).toNat : Int)) ∧ (if (o2.length : Int) < orI ((((a0.getD 0 []).getD 6 0).toNat : Int) * 256) (((a0.getD 0 []).getD 7 0).toNat : Int) then (o2.length : Int) else orI ((((a0.getD 0 []).getD 6 0).toNat : Int) * 256) (((a0.getD 0 []).getD 7 0).toNat : Int)) ≤ ((o2.length : Nat) : Int) ∧ ((o2.length : Nat) : Int) ≤ ((o2.length : Nat) : Int)) (.cons (by first | rfl | simp | (simp; omega) : T.ref 10 1 (0 + ((0 : Int)).toNat * 1) (((if (o2.length : Int) < orI ((((a0.getD 0 []).getD 6 0).toNat : Int) * 256) (((a0.getD 0 []).getD 7 0).toNat : Int) then (o2.length : Int) else orI ((((a0.getD 0 []).getD 6 0).toNat : Int) * 256) (((a0.getD 0 []).getD 7 0).toNat : Int))).toNat - ((0 : Int)).toNat) = .ref 10 1 0 (((if (o2.length : Int) < orI ((((a0.getD 0 []).getD 6 0).toNat : Int) * 256) (((a0.getD 0 []).getD 7 0).toNat : Int) then (o2.length : Int) else orI ((((a0.getD 0 []).getD 6 0).toNat : Int) * 256) (((a0.getD 0 []).getD 7 0).toNat : Int))).toNat)) .nil)) ?_
      clear hxl1; intro kxl1 hxl1
      refine Go.rx 20 { ws := [(2, { call := some { ids := [], S := [], M := [10], R := .tup [.sl 1 .shr ((fr_Split x1.1 (prt o2 0 (((if (o2.length : Int) < orI ((((a0.getD 0 []).getD 6 0).toNat : Int) * 256) (((a0.getD 0 []).getD 7 0).toNat : Int) then (o2.length : Int) else orI ((((a0.getD 0 []).getD 6 0).toNat : Int) * 256) (((a0.getD 0 []).getD 7 0).toNat : Int))).toNat))).1).length (b8s .shr ((fr_Split x1.1 (prt o2 0 (((if (o2.length : Int) < orI ((((a0.getD 0 []).getD 6 0).toNat : Int) * 256) (((a0.getD 0 []).getD 7 0).toNat : Int) then (o2.length : Int) else orI ((((a0.getD 0 []).getD 6 0).toNat : Int) * 256) (((a0.getD 0 []).getD 7 0).toNat : Int))).toNat))).1)), er 149 ((fr_Split x1.1 (prt o2 0 (((if (o2.length : Int) < orI ((((a0.getD 0 []).getD 6 0).toNat : Int) * 256) (((a0.getD 0 []).getD 7 0).toNat : Int) then (o2.length : Int) else orI ((((a0.getD 0 []).getD 6 0).toNat : Int) * 256) (((a0.getD 0 []).getD 7 0).toNat : Int))).toNat))).2)], H' := [] } })] } [] [0, 6, 7, 8, 10, 13] _ [(0, .sl 1 g_a0 a0.length (b8s .shr a0)), (6, t32 x1.1), (7, er 149 ((fr_Split x1.1 (prt o2 0 (((if (o2.length : Int) < orI ((((a0.getD 0 []).getD 6 0).toNat : Int) * 256) (((a0.getD 0 []).getD 7 0).toNat : Int) then (o2.length : Int) else orI ((((a0.getD 0 []).getD 6 0).toNat : Int) * 256) (((a0.getD 0 []).getD 7 0).toNat : Int))).toNat))).2)), (8, ti (((a0.getD 0 []).getD 5 0).toNat : Int)), (10, .ref 10 1 0 (((if (o2.length : Int) < orI ((((a0.getD 0 []).getD 6 0).toNat : Int) * 256) (((a0.getD 0 []).getD 7 0).toNat : Int) then (o2.length : Int) else orI ((((a0.getD 0 []).getD 6 0).toNat : Int) * 256) (((a0.getD 0 []).getD 7 0).toNat : Int))).toNat)), (13, .sl 1 .shr ((fr_Split x1.1 (prt o2 0 (((if (o2.length : Int) < orI ((((a0.getD 0 []).getD 6 0).toNat : Int) * 256) (((a0.getD 0 []).getD 7 0).toNat : Int) then (o2.length : Int) else orI ((((a0.getD 0 []).getD 6 0).toNat : Int) * 256) (((a0.getD 0 []).getD 7 0).toNat : Int))).toNat))).1).length (b8s .shr ((fr_Split x1.1 (prt o2 0 (((if (o2.length : Int) < orI ((((a0.getD 0 []).getD 6 0).toNat : Int) * 256) (((a0.getD 0 []).getD 7 0).toNat : Int) then (o2.length : Int) else orI ((((a0.getD 0 []).getD 6 0).toNat : Int) * 256) (((a0.getD 0 []).getD 7 0).toNat : Int))).toNat))).1)))] [(10, u8s o2)] hxl1 rfl kr (.cons (Meets.eqA (A := [t32 x1.1, .sl 1 .brw (((if (o2.length : Int) < orI ((((a0.getD 0 []).getD 6 0).toNat : Int) * 256) (((a0.getD 0 []).getD 7 0).toNat : Int) then (o2.length : Int) else orI ((((a0.getD 0 []).getD 6 0).toNat : Int) * 256) (((a0.getD 0 []).getD 7 0).toNat : Int))).toNat) (sub (u8s o2) 0 ((((if (o2.length : Int) < orI ((((a0.getD 0 []).getD 6 0).toNat : Int) * 256) (((a0.getD 0 []).getD 7 0).toNat : Int) then (o2.length : Int) else orI ((((a0.getD 0 []).getD 6 0).toNat : Int) * 256) (((a0.getD 0 []).getD 7 0).toNat : Int))).toNat) * 1))]) (by rw [show T.sl 1 .brw (((if (o2.length : Int) < orI ((((a0.getD 0 []).getD 6 0).toNat : Int) * 256) (((a0.getD 0 []).getD 7 0).toNat : Int) then (o2.length : Int) else orI ((((a0.getD 0 []).getD 6 0).toNat : Int) * 256) (((a0.getD 0 []).getD 7 0).toNat : Int))).toNat) (sub (u8s o2) 0 ((((if (o2.length : Int) < orI ((((a0.getD 0 []).getD 6 0).toNat : Int) * 256) (((a0.getD 0 []).getD 7 0).toNat : Int) then (o2.length : Int) else orI ((((a0.getD 0 []).getD 6 0).toNat : Int) * 256) (((a0.getD 0 []).getD 7 0).toNat : Int))).toNat) * 1)) = _ from lend_part (g := zU) o2 0 (((if (o2.length : Int) < orI ((((a0.getD 0 []).getD 6 0).toNat : Int) * 256) (((a0.getD 0 []).getD 7 0).toNat : Int) then (o2.length : Int) else orI ((((a0.getD 0 []).getD 6 0).toNat : Int) * 256) (((a0.getD 0 []).getD 7 0).toNat : Int))).toNat) om]; try rfl; try simp only [mp_all]; try rfl) (fr_Split_m (g_a1 := .brw) x1.1 (prt o2 0 (((if (o2.length : Int) < orI ((((a0.getD 0 []).getD 6 0).toNat : Int) * 256) (((a0.getD 0 []).getD 7 0).toNat : Int) then (o2.length : Int) else orI ((((a0.getD 0 []).getD 6 0).toNat : Int) * 256) (((a0.getD 0 []).getD 7 0).toNat : Int))).toNat)))) (.cons (mp_ids (g := zU) o2 (fun _ => rfl)) (.cons (by simp only [List.length_map]; first | omega | (simp <;> omega) | (simp at * <;> omega) | (split <;> omega) | (split <;> (first | omega | (simp <;> omega) | (simp at * <;> omega))) : 0 + (((if (o2.length : Int) < orI ((((a0.getD 0 []).getD 6 0).toNat : Int) * 256) (((a0.getD 0 []).getD 7 0).toNat : Int) then (o2.length : Int) else orI ((((a0.getD 0 []).getD 6 0).toNat : Int) * 256) (((a0.getD 0 []).getD 7 0).toNat : Int))).toNat) * 1 ≤ (u8s o2).length) (.cons (sb : subN (idsL [t32 x1.1, .sl 1 .brw (((if (o2.length : Int) < orI ((((a0.getD 0 []).getD 6 0).toNat : Int) * 256) (((a0.getD 0 []).getD 7 0).toNat : Int) then (o2.length : Int) else orI ((((a0.getD 0 []).getD 6 0).toNat : Int) * 256) (((a0.getD 0 []).getD 7 0).toNat : Int))).toNat) (sub (u8s o2) 0 ((((if (o2.length : Int) < orI ((((a0.getD 0 []).getD 6 0).toNat : Int) * 256) (((a0.getD 0 []).getD 7 0).toNat : Int) then (o2.length : Int) else orI ((((a0.getD 0 []).getD 6 0).toNat : Int) * 256) (((a0.getD 0 []).getD 7 0).toNat : Int))).toNat) * 1))]) [] = true) (.cons (nb : T.noB (.tup [.sl 1 .shr ((fr_Split x1.1 (prt o2 0 (((if (o2.length : Int) < orI ((((a0.getD 0 []).getD 6 0).toNat : Int) * 256) (((a0.getD 0 []).getD 7 0).toNat : Int) then (o2.length : Int) else orI ((((a0.getD 0 []).getD 6 0).toNat : Int) * 256) (((a0.getD 0 []).getD 7 0).toNat : Int))).toNat))).1).length (b8s .shr ((fr_Split x1.1 (prt o2 0 (((if (o2.length : Int) < orI ((((a0.getD 0 []).getD 6 0).toNat : Int) * 256) (((a0.getD 0 []).getD 7 0).toNat : Int) then (o2.length : Int) else orI ((((a0.getD 0 []).getD 6 0).toNat : Int) * 256) (((a0.getD 0 []).getD 7 0).toNat : Int))).toNat))).1)), er 149 ((fr_Split x1.1 (prt o2 0 (((if (o2.length : Int) < orI ((((a0.getD 0 []).getD 6 0).toNat : Int) * 256) (((a0.getD 0 []).getD 7 0).toNat : Int) then (o2.length : Int) else orI ((((a0.getD 0 []).getD 6 0).toNat : Int) * 256) (((a0.getD 0 []).getD 7 0).toNat : Int))).toNat))).2)]) = true) .nil))))) ?_
      clear hxl1; intro kxl1 hxl1
      refine Go.bnd (Pf := (PostX Γ fr_Join_enc)) (v := (fr_Split x1.1 (prt o2 0 (((if (o2.length : Int) < orI ((((a0.getD 0 []).getD 6 0).toNat : Int) * 256) (((a0.getD 0 []).getD 7 0).toNat : Int) then (o2.length : Int) else orI ((((a0.getD 0 []).getD 6 0).toNat : Int) * 256) (((a0.getD 0 []).getD 7 0).toNat : Int))).toNat)))) (fun x3 => [(0, .sl 1 g_a0 a0.length (b8s .shr a0)), (6, t32 x1.1), (7, er 149 x3.2), (8, ti (((a0.getD 0 []).getD 5 0).toNat : Int)), (10, .ref 10 1 0 (((if (o2.length : Int) < orI ((((a0.getD 0 []).getD 6 0).toNat : Int) * 256) (((a0.getD 0 []).getD 7 0).toNat : Int) then (o2.length : Int) else orI ((((a0.getD 0 []).getD 6 0).toNat : Int) * 256) (((a0.getD 0 []).getD 7 0).toNat : Int))).toNat)), (13, .sl 1 .shr x3.1.length (b8s .shr x3.1))]) (fun x3 => [(10, u8s o2)]) ?_
      intro x3 hx3
      have fx3 := split_fact x1.1 (prt o2 0 (((if (o2.length : Int) < orI ((((a0.getD 0 []).getD 6 0).toNat : Int) * 256) (((a0.getD 0 []).getD 7 0).toNat : Int) then (o2.length : Int) else orI ((((a0.getD 0 []).getD 6 0).toNat : Int) * 256) (((a0.getD 0 []).getD 7 0).toNat : Int))).toNat))
      rw [← hx3] at fx3
      obtain ⟨fx30, fx31, fx32⟩ := fx3
      refine Go.regJ 20 [(6, t32 x1.1), (8, ti (((a0.getD 0 []).getD 5 0).toNat : Int)), (10, .ref 10 1 0 (((if (o2.length : Int) < orI ((((a0.getD 0 []).getD 6 0).toNat : Int) * 256) (((a0.getD 0 []).getD 7 0).toNat : Int) then (o2.length : Int) else orI ((((a0.getD 0 []).getD 6 0).toNat : Int) * 256) (((a0.getD 0 []).getD 7 0).toNat : Int))).toNat)), (108, tb ((!(decide (x3.2 = 0))) || (!(eqFuncEq x3.1 (slc a0 0 (((a0.getD 0 []).getD 5 0).toNat : Int))))))] [(10, u8s o2)] hxl1 rfl ?_ ?_
      ·clear hxl1; intro kxl1 hxl1
       refine Go.bnd (Pf := (PostX Γ fr_Join_enc)) (v := (eqFuncEq x3.1 (slc a0 0 (((a0.getD 0 []).getD 5 0).toNat : Int)))) (fun x4 => [(6, t32 x1.1), (8, ti (((a0.getD 0 []).getD 5 0).toNat : Int)), (10, .ref 10 1 0 (((if (o2.length : Int) < orI ((((a0.getD 0 []).getD 6 0).toNat : Int) * 256) (((a0.getD 0 []).getD 7 0).toNat : Int) then (o2.length : Int) else orI ((((a0.getD 0 []).getD 6 0).toNat : Int) * 256) (((a0.getD 0 []).getD 7 0).toNat : Int))).toNat)), (108, tb ((!(decide (x3.2 = 0))) || (!x4)))]) (fun x4 => [(10, u8s o2)]) ?_
       intro x4 hx4
       refine Go.br 20 (Pf := (PostX Γ fr_Join_enc)) hxl1 rfl rfl ?_ ?_ <;> clear hxl1 <;> intro ct3 kxl1 hxl1
       ·refine Go.rx 20 { ps := [5, 109] } [10] [2, 3, 4, 5] _ [(2, t32 0), (3, .leaf (.slice none 0 0)), (4, ti 0), (5, er 149 4)] [] hxl1 rfl kr (.cons (er_mem (i := 10) 149 4) (.cons (er_mem (i := 10) 149 4) .nil)) ?_
        clear hxl1; intro kxl1 hxl1
        exact Go.lvx 20 [] _ [t32 0, .leaf (.slice none 0 0), ti 0, er 149 4] Tryd.func130 hxl1 rfl kr .nil (T.Le.tup (.cons (T.Le.of_eq rfl) (.cons (T.Le.nil _ _) (.cons (T.Le.of_eq rfl) (.cons (T.Le.of_eq rfl) .nil))))) rfl qf2_1 .nil
       ·have ct31 : (!(decide (x3.2 = 0))) = false := (Bool.or_eq_false_iff.1 ct3).1
        have ct32 : (!x4) = false := (Bool.or_eq_false_iff.1 ct3).2
        have ct31' : (decide (x3.2 = 0)) = true := ntF ct31
        have ct31'p := of_decide_eq_true ct31'
        have ct32' : x4 = true := ntF ct32
        refine Go.rx 20 {} [] [2, 3, 4, 5] _ [(2, t32 x1.1), (3, .ref 10 1 0 (((if (o2.length : Int) < orI ((((a0.getD 0 []).getD 6 0).toNat : Int) * 256) (((a0.getD 0 []).getD 7 0).toNat : Int) then (o2.length : Int) else orI ((((a0.getD 0 []).getD 6 0).toNat : Int) * 256) (((a0.getD 0 []).getD 7 0).toNat : Int))).toNat)), (4, ti (((a0.getD 0 []).getD 5 0).toNat : Int)), (5, .leaf .nilIface)] [(10, u8s o2)] hxl1 rfl kr .nil ?_
        clear hxl1; intro kxl1 hxl1
        refine Go.frz [] [] 3 10 (u8s (prt o2 0 (((if (o2.length : Int) < orI ((((a0.getD 0 []).getD 6 0).toNat : Int) * 256) (((a0.getD 0 []).getD 7 0).toNat : Int) then (o2.length : Int) else orI ((((a0.getD 0 []).getD 6 0).toNat : Int) * 256) (((a0.getD 0 []).getD 7 0).toNat : Int))).toNat))) _ [(2, t32 x1.1), (3, .dead), (4, ti (((a0.getD 0 []).getD 5 0).toNat : Int)), (5, .leaf .nilIface)] [] rfl rfl (mp_ids (g := zU) o2 (fun _ => rfl)) (by simp only [List.length_map]; first | omega | (simp <;> omega) | (simp at * <;> omega) | (split <;> omega) | (split <;> (first | omega | (simp <;> omega) | (simp at * <;> omega)))) (mp_part o2 0 (((if (o2.length : Int) < orI ((((a0.getD 0 []).getD 6 0).toNat : Int) * 256) (((a0.getD 0 []).getD 7 0).toNat : Int) then (o2.length : Int) else orI ((((a0.getD 0 []).getD 6 0).toNat : Int) * 256) (((a0.getD 0 []).getD 7 0).toNat : Int))).toNat)) kr .nil ?_
        refine Go.slotEq 3 (.sl 1 .shr (prt o2 0 (((if (o2.length : Int) < orI ((((a0.getD 0 []).getD 6 0).toNat : Int) * 256) (((a0.getD 0 []).getD 7 0).toNat : Int) then (o2.length : Int) else orI ((((a0.getD 0 []).getD 6 0).toNat : Int) * 256) (((a0.getD 0 []).getD 7 0).toNat : Int))).toNat)).length (u8s (prt o2 0 (((if (o2.length : Int) < orI ((((a0.getD 0 []).getD 6 0).toNat : Int) * 256) (((a0.getD 0 []).getD 7 0).toNat : Int) then (o2.length : Int) else orI ((((a0.getD 0 []).getD 6 0).toNat : Int) * 256) (((a0.getD 0 []).getD 7 0).toNat : Int))).toNat)))) rfl (by rw [prt_len o2 0 (((if (o2.length : Int) < orI ((((a0.getD 0 []).getD 6 0).toNat : Int) * 256) (((a0.getD 0 []).getD 7 0).toNat : Int) then (o2.length : Int) else orI ((((a0.getD 0 []).getD 6 0).toNat : Int) * 256) (((a0.getD 0 []).getD 7 0).toNat : Int))).toNat) om]) ?_
        exact Go.lvx 20 [] _ [t32 x1.1, .sl 1 .shr (prt o2 0 (((if (o2.length : Int) < orI ((((a0.getD 0 []).getD 6 0).toNat : Int) * 256) (((a0.getD 0 []).getD 7 0).toNat : Int) then (o2.length : Int) else orI ((((a0.getD 0 []).getD 6 0).toNat : Int) * 256) (((a0.getD 0 []).getD 7 0).toNat : Int))).toNat)).length (u8s (prt o2 0 (((if (o2.length : Int) < orI ((((a0.getD 0 []).getD 6 0).toNat : Int) * 256) (((a0.getD 0 []).getD 7 0).toNat : Int) then (o2.length : Int) else orI ((((a0.getD 0 []).getD 6 0).toNat : Int) * 256) (((a0.getD 0 []).getD 7 0).toNat : Int))).toNat))), ti (((a0.getD 0 []).getD 5 0).toNat : Int), .leaf .nilIface] Tryd.func130 hxl1 rfl kr .nil (T.Le.tup (.cons (T.Le.of_eq rfl) (.cons (T.Le.of_eq rfl) (.cons (T.Le.of_eq rfl) (.cons (T.Le.of_eq rfl) .nil))))) rfl rfl .nil
      ·intro hxl1 J
       rcases Bool.eq_false_or_eq_true (!(decide (x3.2 = 0))) with gd5 | gd5
       ·have gd5' : (decide (x3.2 = 0)) = false := ntT gd5
        have gd5'p := of_decide_eq_false gd5'
        refine Go.rx 20 { ws := [(1, { v := some (tb true), er := some (149, x3.2) })] } [] [6, 8, 10, 108] _ [(6, t32 x1.1), (8, ti (((a0.getD 0 []).getD 5 0).toNat : Int)), (10, .ref 10 1 0 (((if (o2.length : Int) < orI ((((a0.getD 0 []).getD 6 0).toNat : Int) * 256) (((a0.getD 0 []).getD 7 0).toNat : Int) then (o2.length : Int) else orI ((((a0.getD 0 []).getD 6 0).toNat : Int) * 256) (((a0.getD 0 []).getD 7 0).toNat : Int))).toNat)), (108, tb true)] [(10, u8s o2)] hxl1 rfl kr (.cons (⟨rfl, rfl⟩ : (er 149 x3.2) = er 149 x3.2 ∧ (.leaf .nilIface : T) = .leaf .nilIface) (.cons (eb gd5) .nil)) ?_
        intro k' hk'
        refine Go.slotEq 108 (tb ((!(decide (x3.2 = 0))) || (!(eqFuncEq x3.1 (slc a0 0 (((a0.getD 0 []).getD 5 0).toNat : Int)))))) rfl (eb (orT gd5).symm) ?_
        exact J k' hk'
       ·have gd5' : (decide (x3.2 = 0)) = true := ntF gd5
        have gd5'p := of_decide_eq_true gd5'
        refine Go.rx 20 { ws := [(1, { v := some (tb false), er := some (149, x3.2) }), (6, { v := some (.sl 1 g_a0 (slc a0 0 (((a0.getD 0 []).getD 5 0).toNat : Int)).length (b8s .shr (slc a0 0 (((a0.getD 0 []).getD 5 0).toNat : Int)))) }), (7, { call := some { ids := [], S := [], M := [], R := tb (eqFuncEq x3.1 (slc a0 0 (((a0.getD 0 []).getD 5 0).toNat : Int))), H' := [] } })] } [] [6, 8, 10, 108] _ [(6, t32 x1.1), (8, ti (((a0.getD 0 []).getD 5 0).toNat : Int)), (10, .ref 10 1 0 (((if (o2.length : Int) < orI ((((a0.getD 0 []).getD 6 0).toNat : Int) * 256) (((a0.getD 0 []).getD 7 0).toNat : Int) then (o2.length : Int) else orI ((((a0.getD 0 []).getD 6 0).toNat : Int) * 256) (((a0.getD 0 []).getD 7 0).toNat : Int))).toNat)), (108, tb (!(eqFuncEq x3.1 (slc a0 0 (((a0.getD 0 []).getD 5 0).toNat : Int)))))] [(10, u8s o2)] hxl1 rfl kr (.cons (⟨rfl, rfl⟩ : (er 149 x3.2) = er 149 x3.2 ∧ (.leaf .nilIface : T) = .leaf .nilIface) (.cons (eb gd5) (.cons (om : 0 ≤ (0 : Int) ∧ (0 : Int) ≤ (((a0.getD 0 []).getD 5 0).toNat : Int) ∧ (((a0.getD 0 []).getD 5 0).toNat : Int) ≤ (a0.length : Int) ∧ (a0.length : Int) ≤ (a0.length : Nat)) (.cons (sl_slc (t := g_a0) (g := gLq) (lo := 0) (hi := (((a0.getD 0 []).getD 5 0).toNat : Int)) a0 om rfl rfl) (.cons (eqFuncEq_m (g_s1 := .shr) (g_s2 := g_a0) x3.1 (slc a0 0 (((a0.getD 0 []).getD 5 0).toNat : Int)) (by omega) (by exact fun i => Nat.le_trans (fx31 i) (by decide))) (.cons (sb : subN (idsL [.sl 1 .shr x3.1.length (b8s .shr x3.1), .sl 1 g_a0 (slc a0 0 (((a0.getD 0 []).getD 5 0).toNat : Int)).length (b8s .shr (slc a0 0 (((a0.getD 0 []).getD 5 0).toNat : Int))), .fn (.func 142) [] []]) [] = true) .nil)))))) ?_
        intro k' hk'
        refine Go.slotEq 108 (tb ((!(decide (x3.2 = 0))) || (!(eqFuncEq x3.1 (slc a0 0 (((a0.getD 0 []).getD 5 0).toNat : Int)))))) rfl (eb (orF gd5 rfl).symm) ?_
        exact J k' hk'
     have Ll1 : ∀ (ml1 : Nat) (t751 : Int) (o1 : List UInt8), (0 ≤ t751) → (t751 ≤ 255) → ((o1.length : Int) ≤ 200 * t751) → ((((slc a0 0 (((a0.getD 0 []).getD 5 0).toNat : Int)).length : Int) - t751).toNat < ml1) → Go E Γ 130 113 [] ((PostX Γ fr_Join_enc) (Lo.el (fr_Join_l1 a0 ml1 t751 o1) (fun z : List UInt8 => fr_Join_k1 a0 x1 z))) kl1 (stL [(0, .sl 1 g_a0 a0.length (b8s .shr a0)), (6, t32 x1.1), (8, ti (((a0.getD 0 []).getD 5 0).toNat : Int)), (9, ti (orI ((((a0.getD 0 []).getD 6 0).toNat : Int) * 256) (((a0.getD 0 []).getD 7 0).toNat : Int))), (10, .ref 10 1 0 o1.length), (73, .sl 1 g_a0 (slc a0 0 (((a0.getD 0 []).getD 5 0).toNat : Int)).length (b8s .shr (slc a0 0 (((a0.getD 0 []).getD 5 0).toNat : Int)))), (74, ti ((slc a0 0 (((a0.getD 0 []).getD 5 0).toNat : Int)).length : Int)), (75, ti t751)] [(10, u8s o1)]) := by
      intro ml1
      induction ml1 with
      | zero => intro t751 o1 i0l1 i1l1 i2l1 hml1; exact absurd hml1 (Nat.not_lt_zero _)
      | succ ml1 ihl1 =>
       intro t751 o1 i0l1 i1l1 i2l1 hml1
       rw [fr_Join_l1]
       refine Go.round hl1 ?_
       intro k hk
       have hz := slc_le hm 0 (((a0.getD 0 []).getD 5 0).toNat : Int) t751.toNat
       refine Go.rx 20 {} [] [0, 6, 8, 9, 10, 73, 74, 75, 76] _ [(0, .sl 1 g_a0 a0.length (b8s .shr a0)), (6, t32 x1.1), (8, ti (((a0.getD 0 []).getD 5 0).toNat : Int)), (9, ti (orI ((((a0.getD 0 []).getD 6 0).toNat : Int) * 256) (((a0.getD 0 []).getD 7 0).toNat : Int))), (10, .ref 10 1 0 o1.length), (73, .sl 1 g_a0 (slc a0 0 (((a0.getD 0 []).getD 5 0).toNat : Int)).length (b8s .shr (slc a0 0 (((a0.getD 0 []).getD 5 0).toNat : Int)))), (74, ti ((slc a0 0 (((a0.getD 0 []).getD 5 0).toNat : Int)).length : Int)), (75, ti t751), (76, tb (decide (t751 < ((slc a0 0 (((a0.getD 0 []).getD 5 0).toNat : Int)).length : Int))))] [(10, u8s o1)] hk rfl kr (.cons trivial .nil) ?_
       clear hk; intro k hk
       refine Go.br 20 (Pf := (fun z : Lo (List UInt8) (UInt32 × List UInt8 × Int × Int) => (PostX Γ fr_Join_enc) (Lo.el z (fun z : List UInt8 => fr_Join_k1 a0 x1 z)))) hk rfl rfl ?_ ?_ <;> clear hk <;> intro ct4 k hk
       ·have ct4p := of_decide_eq_true ct4
        refine Go.rx 20 { ws := [(1, { v := some (.sl 1 .shr ((slc a0 0 (((a0.getD 0 []).getD 5 0).toNat : Int)).getD t751.toNat []).length (u8s ((slc a0 0 (((a0.getD 0 []).getD 5 0).toNat : Int)).getD t751.toNat []))) })] } [] [0, 6, 8, 9, 10, 12, 73, 74, 75] _ [(0, .sl 1 g_a0 a0.length (b8s .shr a0)), (6, t32 x1.1), (8, ti (((a0.getD 0 []).getD 5 0).toNat : Int)), (9, ti (orI ((((a0.getD 0 []).getD 6 0).toNat : Int) * 256) (((a0.getD 0 []).getD 7 0).toNat : Int))), (10, .ref 10 1 0 o1.length), (12, .sl 1 .shr ((slc a0 0 (((a0.getD 0 []).getD 5 0).toNat : Int)).getD t751.toNat []).length (u8s ((slc a0 0 (((a0.getD 0 []).getD 5 0).toNat : Int)).getD t751.toNat []))), (73, .sl 1 g_a0 (slc a0 0 (((a0.getD 0 []).getD 5 0).toNat : Int)).length (b8s .shr (slc a0 0 (((a0.getD 0 []).getD 5 0).toNat : Int)))), (74, ti ((slc a0 0 (((a0.getD 0 []).getD 5 0).toNat : Int)).length : Int)), (75, ti t751)] [(10, u8s o1)] hk rfl kr (.cons (om : 0 ≤ (t751 : Int) ∧ (t751 : Int) < (((slc a0 0 (((a0.getD 0 []).getD 5 0).toNat : Int)).length : Nat) : Int)) (.cons (part1 (kr : (E.ti 22).agg = false) (mp_get (g := gLq) (k := t751.toNat * 1) (n := t751.toNat) (slc a0 0 (((a0.getD 0 []).getD 5 0).toNat : Int)) [] (by omega) om)) .nil)) ?_
        clear hk; intro k hk
        refine Go.rx 20 { ws := [(5, { v := some (.sl 1 .shr (slc ((slc a0 0 (((a0.getD 0 []).getD 5 0).toNat : Int)).getD t751.toNat []) (if (((slc a0 0 (((a0.getD 0 []).getD 5 0).toNat : Int)).getD t751.toNat []).length : Int) < 8 then (((slc a0 0 (((a0.getD 0 []).getD 5 0).toNat : Int)).getD t751.toNat []).length : Int) else 8) (((slc a0 0 (((a0.getD 0 []).getD 5 0).toNat : Int)).getD t751.toNat []).length : Int)).length (u8s (slc ((slc a0 0 (((a0.getD 0 []).getD 5 0).toNat : Int)).getD t751.toNat []) (if (((slc a0 0 (((a0.getD 0 []).getD 5 0).toNat : Int)).getD t751.toNat []).length : Int) < 8 then (((slc a0 0 (((a0.getD 0 []).getD 5 0).toNat : Int)).getD t751.toNat []).length : Int) else 8) (((slc a0 0 (((a0.getD 0 []).getD 5 0).toNat : Int)).getD t751.toNat []).length : Int)))) }), (6, { v := some (.ref 10 1 0 ((o1 ++ (slc ((slc a0 0 (((a0.getD 0 []).getD 5 0).toNat : Int)).getD t751.toNat []) (if (((slc a0 0 (((a0.getD 0 []).getD 5 0).toNat : Int)).getD t751.toNat []).length : Int) < 8 then (((slc a0 0 (((a0.getD 0 []).getD 5 0).toNat : Int)).getD t751.toNat []).length : Int) else 8) (((slc a0 0 (((a0.getD 0 []).getD 5 0).toNat : Int)).getD t751.toNat []).length : Int))).length)), c := some (u8s (o1 ++ (slc ((slc a0 0 (((a0.getD 0 []).getD 5 0).toNat : Int)).getD t751.toNat []) (if (((slc a0 0 (((a0.getD 0 []).getD 5 0).toNat : Int)).getD t751.toNat []).length : Int) < 8 then (((slc a0 0 (((a0.getD 0 []).getD 5 0).toNat : Int)).getD t751.toNat []).length : Int) else 8) (((slc a0 0 (((a0.getD 0 []).getD 5 0).toNat : Int)).getD t751.toNat []).length : Int)))), id := 10, sym := true })], fd := some [10] } [] [0, 6, 8, 9, 10, 73, 74, 75] _ [(0, .sl 1 g_a0 a0.length (b8s .shr a0)), (6, t32 x1.1), (8, ti (((a0.getD 0 []).getD 5 0).toNat : Int)), (9, ti (orI ((((a0.getD 0 []).getD 6 0).toNat : Int) * 256) (((a0.getD 0 []).getD 7 0).toNat : Int))), (10, .ref 10 1 0 ((o1 ++ (slc ((slc a0 0 (((a0.getD 0 []).getD 5 0).toNat : Int)).getD t751.toNat []) (if (((slc a0 0 (((a0.getD 0 []).getD 5 0).toNat : Int)).getD t751.toNat []).length : Int) < 8 then (((slc a0 0 (((a0.getD 0 []).getD 5 0).toNat : Int)).getD t751.toNat []).length : Int) else 8) (((slc a0 0 (((a0.getD 0 []).getD 5 0).toNat : Int)).getD t751.toNat []).length : Int))).length)), (73, .sl 1 g_a0 (slc a0 0 (((a0.getD 0 []).getD 5 0).toNat : Int)).length (b8s .shr (slc a0 0 (((a0.getD 0 []).getD 5 0).toNat : Int)))), (74, ti ((slc a0 0 (((a0.getD 0 []).getD 5 0).toNat : Int)).length : Int)), (75, ti t751)] [(10, u8s (o1 ++ (slc ((slc a0 0 (((a0.getD 0 []).getD 5 0).toNat : Int)).getD t751.toNat []) (if (((slc a0 0 (((a0.getD 0 []).getD 5 0).toNat : Int)).getD t751.toNat []).length : Int) < 8 then (((slc a0 0 (((a0.getD 0 []).getD 5 0).toNat : Int)).getD t751.toNat []).length : Int) else 8) (((slc a0 0 (((a0.getD 0 []).getD 5 0).toNat : Int)).getD t751.toNat []).length : Int))))] hk rfl kr (.cons (om : 0 ≤ ((if (((slc a0 0 (((a0.getD 0 []).getD 5 0).toNat : Int)).getD t751.toNat []).length : Int) < 8 then (((slc a0 0 (((a0.getD 0 []).getD 5 0).toNat : Int)).getD t751.toNat []).length : Int) else 8) : Int) ∧ ((if (((slc a0 0 (((a0.getD 0 []).getD 5 0).toNat : Int)).getD t751.toNat []).length : Int) < 8 then (((slc a0 0 (((a0.getD 0 []).getD 5 0).toNat : Int)).getD t751.toNat []).length : Int) else 8) : Int) ≤ (((slc a0 0 (((a0.getD 0 []).getD 5 0).toNat : Int)).getD t751.toNat []).length : Int) ∧ (((slc a0 0 (((a0.getD 0 []).getD 5 0).toNat : Int)).getD t751.toNat []).length : Int) ≤ (((slc a0 0 (((a0.getD 0 []).getD 5 0).toNat : Int)).getD t751.toNat []).length : Int) ∧ (((slc a0 0 (((a0.getD 0 []).getD 5 0).toNat : Int)).getD t751.toNat []).length : Int) ≤ (((slc a0 0 (((a0.getD 0 []).getD 5 0).toNat : Int)).getD t751.toNat []).length : Nat)) (.cons (sl_slc (t := .shr) (g := zU) (lo := (if (((slc a0 0 (((a0.getD 0 []).getD 5 0).toNat : Int)).getD t751.toNat []).length : Int) < 8 then (((slc a0 0 (((a0.getD 0 []).getD 5 0).toNat : Int)).getD t751.toNat []).length : Int) else 8)) (hi := (((slc a0 0 (((a0.getD 0 []).getD 5 0).toNat : Int)).getD t751.toNat []).length : Int)) ((slc a0 0 (((a0.getD 0 []).getD 5 0).toNat : Int)).getD t751.toNat []) om rfl rfl) (.cons (by simp only [List.length_map]; omega : 0 + o1.length * 1 ≤ (u8s o1).length) (.cons (mp_scal (slc ((slc a0 0 (((a0.getD 0 []).getD 5 0).toNat : Int)).getD t751.toNat []) (if (((slc a0 0 (((a0.getD 0 []).getD 5 0).toNat : Int)).getD t751.toNat []).length : Int) < 8 then (((slc a0 0 (((a0.getD 0 []).getD 5 0).toNat : Int)).getD t751.toNat []).length : Int) else 8) (((slc a0 0 (((a0.getD 0 []).getD 5 0).toNat : Int)).getD t751.toNat []).length : Int)) (fun _ => rfl) : scalL (u8s (slc ((slc a0 0 (((a0.getD 0 []).getD 5 0).toNat : Int)).getD t751.toNat []) (if (((slc a0 0 (((a0.getD 0 []).getD 5 0).toNat : Int)).getD t751.toNat []).length : Int) < 8 then (((slc a0 0 (((a0.getD 0 []).getD 5 0).toNat : Int)).getD t751.toNat []).length : Int) else 8) (((slc a0 0 (((a0.getD 0 []).getD 5 0).toNat : Int)).getD t751.toNat []).length : Int))) = true) (.cons (om : (o1.length + (slc ((slc a0 0 (((a0.getD 0 []).getD 5 0).toNat : Int)).getD t751.toNat []) (if (((slc a0 0 (((a0.getD 0 []).getD 5 0).toNat : Int)).getD t751.toNat []).length : Int) < 8 then (((slc a0 0 (((a0.getD 0 []).getD 5 0).toNat : Int)).getD t751.toNat []).length : Int) else 8) (((slc a0 0 (((a0.getD 0 []).getD 5 0).toNat : Int)).getD t751.toNat []).length : Int)).length) * 1 ≤ 140737488355328) (.cons (mp_app (g := zU) (o1) (slc ((slc a0 0 (((a0.getD 0 []).getD 5 0).toNat : Int)).getD t751.toNat []) (if (((slc a0 0 (((a0.getD 0 []).getD 5 0).toNat : Int)).getD t751.toNat []).length : Int) < 8 then (((slc a0 0 (((a0.getD 0 []).getD 5 0).toNat : Int)).getD t751.toNat []).length : Int) else 8) (((slc a0 0 (((a0.getD 0 []).getD 5 0).toNat : Int)).getD t751.toNat []).length : Int)) rfl) (.cons (mp_mem (i := 10) (g := zU) (o1 ++ (slc ((slc a0 0 (((a0.getD 0 []).getD 5 0).toNat : Int)).getD t751.toNat []) (if (((slc a0 0 (((a0.getD 0 []).getD 5 0).toNat : Int)).getD t751.toNat []).length : Int) < 8 then (((slc a0 0 (((a0.getD 0 []).getD 5 0).toNat : Int)).getD t751.toNat []).length : Int) else 8) (((slc a0 0 (((a0.getD 0 []).getD 5 0).toNat : Int)).getD t751.toNat []).length : Int))) (fun _ => rfl)) (.cons (by first | rfl | (simp; done) | (refine congrArg (fun q => T.ref 10 1 0 q) ?_; simp <;> omega) : T.ref 10 1 0 (o1.length + (slc ((slc a0 0 (((a0.getD 0 []).getD 5 0).toNat : Int)).getD t751.toNat []) (if (((slc a0 0 (((a0.getD 0 []).getD 5 0).toNat : Int)).getD t751.toNat []).length : Int) < 8 then (((slc a0 0 (((a0.getD 0 []).getD 5 0).toNat : Int)).getD t751.toNat []).length : Int) else 8) (((slc a0 0 (((a0.getD 0 []).getD 5 0).toNat : Int)).getD t751.toNat []).length : Int)).length) = .ref 10 1 0 ((o1 ++ (slc ((slc a0 0 (((a0.getD 0 []).getD 5 0).toNat : Int)).getD t751.toNat []) (if (((slc a0 0 (((a0.getD 0 []).getD 5 0).toNat : Int)).getD t751.toNat []).length : Int) < 8 then (((slc a0 0 (((a0.getD 0 []).getD 5 0).toNat : Int)).getD t751.toNat []).length : Int) else 8) (((slc a0 0 (((a0.getD 0 []).getD 5 0).toNat : Int)).getD t751.toNat []).length : Int))).length)) .nil)))))))) ?_
        clear hk; intro k hk
        refine Go.rx 20 { ws := [(0, { v := some (ti (t751 + 1)) })] } [] [0, 6, 8, 9, 10, 73, 74, 75] _ [(0, .sl 1 g_a0 a0.length (b8s .shr a0)), (6, t32 x1.1), (8, ti (((a0.getD 0 []).getD 5 0).toNat : Int)), (9, ti (orI ((((a0.getD 0 []).getD 6 0).toNat : Int) * 256) (((a0.getD 0 []).getD 7 0).toNat : Int))), (10, .ref 10 1 0 ((o1 ++ (slc ((slc a0 0 (((a0.getD 0 []).getD 5 0).toNat : Int)).getD t751.toNat []) (if (((slc a0 0 (((a0.getD 0 []).getD 5 0).toNat : Int)).getD t751.toNat []).length : Int) < 8 then (((slc a0 0 (((a0.getD 0 []).getD 5 0).toNat : Int)).getD t751.toNat []).length : Int) else 8) (((slc a0 0 (((a0.getD 0 []).getD 5 0).toNat : Int)).getD t751.toNat []).length : Int))).length)), (73, .sl 1 g_a0 (slc a0 0 (((a0.getD 0 []).getD 5 0).toNat : Int)).length (b8s .shr (slc a0 0 (((a0.getD 0 []).getD 5 0).toNat : Int)))), (74, ti ((slc a0 0 (((a0.getD 0 []).getD 5 0).toNat : Int)).length : Int)), (75, ti (t751 + 1))] [(10, u8s (o1 ++ (slc ((slc a0 0 (((a0.getD 0 []).getD 5 0).toNat : Int)).getD t751.toNat []) (if (((slc a0 0 (((a0.getD 0 []).getD 5 0).toNat : Int)).getD t751.toNat []).length : Int) < 8 then (((slc a0 0 (((a0.getD 0 []).getD 5 0).toNat : Int)).getD t751.toNat []).length : Int) else 8) (((slc a0 0 (((a0.getD 0 []).getD 5 0).toNat : Int)).getD t751.toNat []).length : Int))))] hk rfl kr (.cons trivial (.cons (iw (t751 + 1) om) .nil)) ?_
        clear hk; intro k hk
        exact Go.join 20 hk hl1 rfl (ihl1 (t751 + 1) (o1 ++ (slc ((slc a0 0 (((a0.getD 0 []).getD 5 0).toNat : Int)).getD t751.toNat []) (if (((slc a0 0 (((a0.getD 0 []).getD 5 0).toNat : Int)).getD t751.toNat []).length : Int) < 8 then (((slc a0 0 (((a0.getD 0 []).getD 5 0).toNat : Int)).getD t751.toNat []).length : Int) else 8) (((slc a0 0 (((a0.getD 0 []).getD 5 0).toNat : Int)).getD t751.toNat []).length : Int))) om om om om)
       ·have ct4p := of_decide_eq_false ct4
        refine Go.keepN [0, 6, 8, 9, 10] (L' := [(0, .sl 1 g_a0 a0.length (b8s .shr a0)), (6, t32 x1.1), (8, ti (((a0.getD 0 []).getD 5 0).toNat : Int)), (9, ti (orI ((((a0.getD 0 []).getD 6 0).toNat : Int) * 256) (((a0.getD 0 []).getD 7 0).toNat : Int))), (10, .ref 10 1 0 o1.length)]) rfl ?_
        exact Go.exitX (Pf := (PostX Γ fr_Join_enc)) (F := fun z : List UInt8 => fr_Join_k1 a0 x1 z) (a := o1) (Go.join 20 hk hxl1 rfl (Xl1 o1))
     exact Ll1 _ 0 [] (by first | omega | simp) (by first | omega | simp) (by first | omega | simp) (Nat.lt_succ_self _)
   ·intro hk J
    rcases Bool.eq_false_or_eq_true (!(decide (x1.2 = 0))) with gd2 | gd2
    ·have gd2' : (decide (x1.2 = 0)) = false := ntT gd2
     have gd2'p := of_decide_eq_false gd2'
     refine Go.rx 20 { ws := [(1, { v := some (tb true), er := some (149, x1.2) })] } [] [0, 6, 8, 9, 69] _ [(0, .sl 1 g_a0 a0.length (b8s .shr a0)), (6, t32 x1.1), (8, ti (((a0.getD 0 []).getD 5 0).toNat : Int)), (9, ti (orI ((((a0.getD 0 []).getD 6 0).toNat : Int) * 256) (((a0.getD 0 []).getD 7 0).toNat : Int))), (69, tb true)] [] hk rfl kr (.cons (⟨rfl, rfl⟩ : (er 149 x1.2) = er 149 x1.2 ∧ (.leaf .nilIface : T) = .leaf .nilIface) (.cons (eb gd2) .nil)) ?_
     intro k' hk'
     refine Go.slotEq 69 (tb ((!(decide (x1.2 = 0))) || ((x1.1 == 0) || (((((a0.getD 0 []).getD 5 0).toNat : Int) != (fr_Sectors (orI ((((a0.getD 0 []).getD 6 0).toNat : Int) * 256) (((a0.getD 0 []).getD 7 0).toNat : Int)))) || (decide ((a0.length : Int) < (((a0.getD 0 []).getD 5 0).toNat : Int))))))) rfl (eb (orT gd2).symm) ?_
     exact J k' hk'
    ·have gd2' : (decide (x1.2 = 0)) = true := ntF gd2
     have gd2'p := of_decide_eq_true gd2'
     rcases Bool.eq_false_or_eq_true (x1.1 == 0) with gd3 | gd3
     ·refine Go.rx 20 { ws := [(1, { v := some (tb false), er := some (149, x1.2) }), (4, { v := some (tb true) })] } [] [0, 6, 8, 9, 69] _ [(0, .sl 1 g_a0 a0.length (b8s .shr a0)), (6, t32 x1.1), (8, ti (((a0.getD 0 []).getD 5 0).toNat : Int)), (9, ti (orI ((((a0.getD 0 []).getD 6 0).toNat : Int) * 256) (((a0.getD 0 []).getD 7 0).toNat : Int))), (69, tb true)] [] hk rfl kr (.cons (⟨rfl, rfl⟩ : (er 149 x1.2) = er 149 x1.2 ∧ (.leaf .nilIface : T) = .leaf .nilIface) (.cons (eb gd2) (.cons trivial (.cons ((eqB32 x1.1 0).trans (eb gd3)) .nil)))) ?_
      intro k' hk'
      refine Go.slotEq 69 (tb ((!(decide (x1.2 = 0))) || ((x1.1 == 0) || (((((a0.getD 0 []).getD 5 0).toNat : Int) != (fr_Sectors (orI ((((a0.getD 0 []).getD 6 0).toNat : Int) * 256) (((a0.getD 0 []).getD 7 0).toNat : Int)))) || (decide ((a0.length : Int) < (((a0.getD 0 []).getD 5 0).toNat : Int))))))) rfl (eb (orF gd2 (orT gd3)).symm) ?_
      exact J k' hk'
     ·rcases Bool.eq_false_or_eq_true ((((a0.getD 0 []).getD 5 0).toNat : Int) != (fr_Sectors (orI ((((a0.getD 0 []).getD 6 0).toNat : Int) * 256) (((a0.getD 0 []).getD 7 0).toNat : Int)))) with gd4 | gd4
      ·have gd4p := neIt gd4
       refine Go.rx 20 { ws := [(1, { v := some (tb false), er := some (149, x1.2) }), (4, { v := some (tb false) }), (9, { call := some { ids := [], S := [], M := [], R := ti (fr_Sectors (orI ((((a0.getD 0 []).getD 6 0).toNat : Int) * 256) (((a0.getD 0 []).getD 7 0).toNat : Int))), H' := [] } }), (10, { v := some (tb true) })] } [] [0, 6, 8, 9, 69] _ [(0, .sl 1 g_a0 a0.length (b8s .shr a0)), (6, t32 x1.1), (8, ti (((a0.getD 0 []).getD 5 0).toNat : Int)), (9, ti (orI ((((a0.getD 0 []).getD 6 0).toNat : Int) * 256) (((a0.getD 0 []).getD 7 0).toNat : Int))), (69, tb true)] [] hk rfl kr (.cons (⟨rfl, rfl⟩ : (er 149 x1.2) = er 149 x1.2 ∧ (.leaf .nilIface : T) = .leaf .nilIface) (.cons (eb gd2) (.cons trivial (.cons ((eqB32 x1.1 0).trans (eb gd3)) (.cons (fr_Sectors_m (orI ((((a0.getD 0 []).getD 6 0).toNat : Int) * 256) (((a0.getD 0 []).getD 7 0).toNat : Int))) (.cons (sb : subN (idsL [ti (orI ((((a0.getD 0 []).getD 6 0).toNat : Int) * 256) (((a0.getD 0 []).getD 7 0).toNat : Int))]) [] = true) (.cons trivial (.cons (eb gd4) .nil)))))))) ?_
       intro k' hk'
       refine Go.slotEq 69 (tb ((!(decide (x1.2 = 0))) || ((x1.1 == 0) || (((((a0.getD 0 []).getD 5 0).toNat : Int) != (fr_Sectors (orI ((((a0.getD 0 []).getD 6 0).toNat : Int) * 256) (((a0.getD 0 []).getD 7 0).toNat : Int)))) || (decide ((a0.length : Int) < (((a0.getD 0 []).getD 5 0).toNat : Int))))))) rfl (eb (orF gd2 (orF gd3 (orT gd4))).symm) ?_
       exact J k' hk'
      ·have gd4p := neIf gd4
       refine Go.rx 20 { ws := [(1, { v := some (tb false), er := some (149, x1.2) }), (4, { v := some (tb false) }), (9, { call := some { ids := [], S := [], M := [], R := ti (fr_Sectors (orI ((((a0.getD 0 []).getD 6 0).toNat : Int) * 256) (((a0.getD 0 []).getD 7 0).toNat : Int))), H' := [] } }), (10, { v := some (tb false) })] } [] [0, 6, 8, 9, 69] _ [(0, .sl 1 g_a0 a0.length (b8s .shr a0)), (6, t32 x1.1), (8, ti (((a0.getD 0 []).getD 5 0).toNat : Int)), (9, ti (orI ((((a0.getD 0 []).getD 6 0).toNat : Int) * 256) (((a0.getD 0 []).getD 7 0).toNat : Int))), (69, tb (decide ((a0.length : Int) < (((a0.getD 0 []).getD 5 0).toNat : Int))))] [] hk rfl kr (.cons (⟨rfl, rfl⟩ : (er 149 x1.2) = er 149 x1.2 ∧ (.leaf .nilIface : T) = .leaf .nilIface) (.cons (eb gd2) (.cons trivial (.cons ((eqB32 x1.1 0).trans (eb gd3)) (.cons (fr_Sectors_m (orI ((((a0.getD 0 []).getD 6 0).toNat : Int) * 256) (((a0.getD 0 []).getD 7 0).toNat : Int))) (.cons (sb : subN (idsL [ti (orI ((((a0.getD 0 []).getD 6 0).toNat : Int) * 256) (((a0.getD 0 []).getD 7 0).toNat : Int))]) [] = true) (.cons trivial (.cons (eb gd4) (.cons trivial .nil))))))))) ?_
       intro k' hk'
       refine Go.slotEq 69 (tb ((!(decide (x1.2 = 0))) || ((x1.1 == 0) || (((((a0.getD 0 []).getD 5 0).toNat : Int) != (fr_Sectors (orI ((((a0.getD 0 []).getD 6 0).toNat : Int) * 256) (((a0.getD 0 []).getD 7 0).toNat : Int)))) || (decide ((a0.length : Int) < (((a0.getD 0 []).getD 5 0).toNat : Int))))))) rfl (eb (orF gd2 (orF gd3 (orF gd4 rfl))).symm) ?_
       exact J k' hk'
 ·intro hk J
  rcases Bool.eq_false_or_eq_true ((a0.length : Int) == 0) with gd1 | gd1
  ·have gd1p := eqIt gd1
   refine Go.rx 20 { ws := [(2, { v := some (tb true) })] } [] [0, 23] _ [(0, .sl 1 g_a0 a0.length (b8s .shr a0)), (23, tb true)] [] hk rfl kr (.cons trivial (.cons (eb gd1) .nil)) ?_
   intro k' hk'
   refine Go.slotEq 23 (tb (((a0.length : Int) == 0) || (((a0.getD 0 []).length : Int) != 64))) rfl (eb (orT gd1).symm) ?_
   exact J k' hk'
  ·have gd1p := eqIf gd1
   refine Go.rx 20 { ws := [(2, { v := some (tb false) }), (6, { v := some (.sl 1 .shr (a0.getD 0 []).length (u8s (a0.getD 0 []))) })] } [] [0, 23] _ [(0, .sl 1 g_a0 a0.length (b8s .shr a0)), (23, tb (((a0.getD 0 []).length : Int) != 64))] [] hk rfl kr (.cons trivial (.cons (eb gd1) (.cons (om : 0 ≤ (0 : Int) ∧ (0 : Int) < ((a0.length : Nat) : Int)) (.cons (part1 (kr : (E.ti 22).agg = false) (mp_get (g := gLq) (k := 0) (n := 0) a0 [] rfl om)) (.cons trivial .nil))))) ?_
   intro k' hk'
   refine Go.slotEq 23 (tb (((a0.length : Int) == 0) || (((a0.getD 0 []).length : Int) != 64))) rfl (eb (orF gd1 rfl).symm) ?_
   exact J k' hk'
theorem fr_Join_l1_gen : True := by have := @fr_Join_l1.eq_1; have := @fr_Join_l1.eq_2; trivial
attribute [irreducible] fr_Join_k1 fr_Join_l1 fr_Join
end Go.Proofs.YtbppcnhfeobefaaDoor

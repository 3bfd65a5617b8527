import Derived.Test.YtbppcnhfeobefabDoorG3
set_option linter.unusedVariables false
namespace Go.Proofs.YtbppcnhfeobefabDoor
open Go Go.Vw Go.Proofs
noncomputable def r9_May_k1 (l : List Tn) : Bool :=
 (decide ((l.length : Int) ≥ 1)) && (decide ((l.length : Int) ≤ 16))
noncomputable def r9_May_l1 (l : List Tn) : Nat → Int → Lo Unit Bool
 | 0, _ => .brk default
 | ml1 + 1, i1 =>
  bif decide (i1 < (l.length : Int)) then
   bif (((l.getD i1.toNat ((0, []) : UInt32 × List UInt8)).1).toNat : Int) != (i1 + 1) then
    Lo.ret false
   else
    r9_May_l1 l ml1 (i1 + 1)
  else
   Lo.brk ()
noncomputable def r9_May (l : List Tn) : Bool :=
 Lo.el (r9_May_l1 l (((l.length : Int) - (0 : Int)).toNat + 1) 0) (fun z : Unit => r9_May_k1 l)
def r9_May_enc (x : Bool) : T × List (Nat × List T) := (tb x, [])
theorem r9_May_m {g_l : Tag} (l : List Tn) (hl : l.length ≤ 1000) : Meets Tryd.prog 38 [.sl 33 g_l l.length (fl gTm l)] [] [] (tb (r9_May l)) [] := by
 refine Meets.enterX (E := E) (N := 27) (enc := r9_May_enc) (x := (r9_May l)) Tryd.func38 Tryd.call38 rfl rfl ?_
 intro Γ k hk
 refine Go.rx 20 {} [] [0] _ [(0, .sl 33 g_l l.length (fl gTm l))] [] hk rfl kr .nil ?_
 clear hk; intro k hk
 refine Go.rx 20 {} [] [0, 3] _ [(0, .sl 33 g_l l.length (fl gTm l)), (3, ti 0)] [] hk rfl kr .nil ?_
 clear hk; intro k hk
 refine Go.loopX 20 hk rfl ?_
 clear hk; intro kl1 kxl1 hl1 hxl1
 have Xl1 : ∀ (_ : True), Go E Γ 38 27 [] ((PostX Γ r9_May_enc) (r9_May_k1 l)) kxl1 (stL [(0, .sl 33 g_l l.length (fl gTm l))] []) := by
  intro _
  refine Go.regJ 20 [(2, tb ((decide ((l.length : Int) ≥ 1)) && (decide ((l.length : Int) ≤ 16))))] [] hxl1 rfl ?_ ?_
  ·clear hxl1; intro kxl1 hxl1
   exact Go.lvx 20 [] _ [tb ((decide ((l.length : Int) ≥ 1)) && (decide ((l.length : Int) ≤ 16)))] Tryd.func38 hxl1 rfl kr .nil (T.Le.of_eq rfl) rfl rfl .nil
  ·intro hxl1 J
   rcases Bool.eq_false_or_eq_true (decide ((l.length : Int) ≥ 1)) with gd1 | gd1
   ·have gd1p := of_decide_eq_true gd1
    refine Go.rx 20 { ws := [(2, { v := some (tb true) })] } [] [2] _ [(2, tb (decide ((l.length : Int) ≤ 16)))] [] hxl1 rfl kr (.cons trivial (.cons (eb gd1) (.cons trivial .nil))) ?_
    intro k' hk'
    refine Go.slotEq 2 (tb ((decide ((l.length : Int) ≥ 1)) && (decide ((l.length : Int) ≤ 16)))) rfl (eb (andT gd1 rfl).symm) ?_
    exact J k' hk'
   ·have gd1p := of_decide_eq_false gd1
    refine Go.rx 20 { ws := [(2, { v := some (tb false) })] } [] [2] _ [(2, tb false)] [] hxl1 rfl kr (.cons trivial (.cons (eb gd1) .nil)) ?_
    intro k' hk'
    refine Go.slotEq 2 (tb ((decide ((l.length : Int) ≥ 1)) && (decide ((l.length : Int) ≤ 16)))) rfl (eb (andF gd1).symm) ?_
    exact J k' hk'
 have Ll1 : ∀ (ml1 : Nat) (i1 : Int), (0 ≤ i1) → (((l.length : Int) - i1).toNat < ml1) → Go E Γ 38 27 [] ((PostX Γ r9_May_enc) (Lo.el (r9_May_l1 l ml1 i1) (fun z : Unit => r9_May_k1 l))) kl1 (stL [(0, .sl 33 g_l l.length (fl gTm l)), (3, ti i1)] []) := by
  intro ml1
  induction ml1 with
  | zero => intro i1 i0l1 hml1; exact absurd hml1 (Nat.not_lt_zero _)
  | succ ml1 ihl1 =>
   intro i1 i0l1 hml1
   rw [r9_May_l1]
   refine Go.round hl1 ?_
   intro k hk
   refine Go.rx 20 {} [] [0, 3, 7] _ [(0, .sl 33 g_l l.length (fl gTm l)), (3, ti i1), (7, tb (decide (i1 < (l.length : Int))))] [] hk rfl kr (.cons trivial .nil) ?_
   clear hk; intro k hk
   refine Go.br 20 (Pf := (fun z : Lo (Unit) (Bool) => (PostX Γ r9_May_enc) (Lo.el z (fun z : Unit => r9_May_k1 l)))) hk rfl rfl ?_ ?_ <;> clear hk <;> intro ct1 k hk
   ·have ct1p := of_decide_eq_true ct1
    have := lt32 ((l.getD i1.toNat ((0, []) : UInt32 × List UInt8)).1)
    refine Go.rx 20 { ws := [(4, { v := some (t32 ((l.getD i1.toNat ((0, []) : UInt32 × List UInt8)).1)) }), (5, { v := some (ti (((l.getD i1.toNat ((0, []) : UInt32 × List UInt8)).1).toNat : Int)) }), (7, { v := some (ti (i1 + 1)) })] } [] [0, 3, 18] _ [(0, .sl 33 g_l l.length (fl gTm l)), (3, ti i1), (18, tb ((((l.getD i1.toNat ((0, []) : UInt32 × List UInt8)).1).toNat : Int) != (i1 + 1)))] [] hk rfl kr (.cons (om : 0 ≤ (i1 : Int) ∧ (i1 : Int) < ((l.length : Nat) : Int)) (.cons (fl_part1 (g := gTm) (m := 33) (k := i1.toNat * 33 + 0) (n := i1.toNat) (j := 0) (l := l) (d := ((0, []) : UInt32 × List UInt8)) (kr : (E.ti 81).agg = false) (fun _ => rfl) rfl (by decide) om rfl) (.cons (cv32_i ((l.getD i1.toNat ((0, []) : UInt32 × List UInt8)).1)) (.cons trivial (.cons (iw (i1 + 1) om) (.cons trivial .nil)))))) ?_
    clear hk; intro k hk
    refine Go.br 20 (Pf := (fun z : Lo (Unit) (Bool) => (PostX Γ r9_May_enc) (Lo.el z (fun z : Unit => r9_May_k1 l)))) hk rfl rfl ?_ ?_ <;> clear hk <;> intro ct2 k hk
    ·have ct2p := neIt ct2
     refine Go.rx 20 {} [] [2] _ [(2, tb false)] [] hk rfl kr .nil ?_
     clear hk; intro k hk
     exact Go.lvx 20 [] _ [tb false] Tryd.func38 hk rfl kr .nil (T.Le.of_eq rfl) rfl rfl .nil
    ·have ct2p := neIf ct2
     refine Go.rx 20 { ws := [(1, { v := some (ti (i1 + 1)) })] } [] [0, 3] _ [(0, .sl 33 g_l l.length (fl gTm l)), (3, ti (i1 + 1))] [] hk rfl kr (.cons trivial (.cons (iw (i1 + 1) om) .nil)) ?_
     clear hk; intro k hk
     exact Go.join 20 hk hl1 rfl (ihl1 (i1 + 1) om om)
   ·have ct1p := of_decide_eq_false ct1
    refine Go.keepN [0] (L' := [(0, .sl 33 g_l l.length (fl gTm l))]) rfl ?_
    exact Go.exitX (Pf := (PostX Γ r9_May_enc)) (F := fun z : Unit => r9_May_k1 l) (a := ()) (Go.join 20 hk hxl1 rfl (Xl1 trivial))
 exact Ll1 _ 0 om (Nat.lt_succ_self _)
theorem r9_May_l1_gen : True := by have := @r9_May_l1.eq_1; have := @r9_May_l1.eq_2; trivial
attribute [irreducible] r9_May_k1 r9_May_l1 r9_May
end Go.Proofs.YtbppcnhfeobefabDoor

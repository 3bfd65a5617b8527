import Derived.Test.YtbppcnhfeobefabDoorG4b
set_option linter.unusedVariables false
namespace Go.Proofs.YtbppcnhfeobefabDoor
open Go Go.Vw Go.Proofs
abbrev k6 : List UInt8 := ([6, 0, 0, 0, 0, 0, 0, 0, 0, 0, 0, 0, 0, 0, 0, 0, 0, 0, 0, 0, 0, 0, 0, 0, 0, 0, 0, 0, 0, 0, 0, 0] : List UInt8)
noncomputable def b9_giveRing_k1 (o2 : List Tn) : ((List Tn)) :=
 o2
noncomputable def b9_giveRing_l1 (l : List Tn) : Nat → Int → (List Tn) → Lo (List Tn) ((List Tn))
 | 0, _, _ => .brk default
 | ml1 + 1, i1, o1 =>
  bif decide (i1 < (l.length : Int)) then
   b9_giveRing_l1 l ml1 (i1 + 1) (o1 ++ ([(l.getD i1.toNat ((0, []) : UInt32 × List UInt8))]))
  else
   Lo.brk o1
noncomputable def b9_giveRing (l : List Tn) : ((List Tn)) :=
 Lo.el (b9_giveRing_l1 l (((l.length : Int) - (0 : Int)).toNat + 1) 0 []) (fun z : (List Tn) => b9_giveRing_k1 z)
def b9_giveRing_enc (x : ((List Tn))) : T × List (Nat × List T) := (.agg ([.sl 33 .shr x.length (fl gTm x)]), [])
theorem b9_giveRing_m {g_l : Tag} (l : List Tn) (hl : l.length ≤ 1000) : Meets Tryd.prog 37 [.sl 33 g_l l.length (fl gTm l)] [] [] (.agg ([.sl 33 .shr (b9_giveRing l).length (fl gTm (b9_giveRing l))])) [] := by
 refine Meets.enterX (E := E) (N := 21) (enc := b9_giveRing_enc) (x := (b9_giveRing l)) Tryd.func37 Tryd.call37 rfl rfl ?_
 intro Γ k hk
 refine Go.rx 20 { ws := [(0, { id := 10 })] } [] [0, 2] _ [(0, .sl 33 g_l l.length (fl gTm l)), (2, .addr 10 0)] [(10, [.leaf (.slice none 0 0)])] hk rfl kr .nil ?_
 clear hk; intro k hk
 refine Go.rx 20 { ws := [(0, { id := 11 })] } [] [0, 2, 3] _ [(0, .sl 33 g_l l.length (fl gTm l)), (2, .addr 10 0), (3, .addr 11 0)] [(10, [.leaf (.slice none 0 0)]), (11, [.leaf (.slice none 0 0)])] hk rfl kr .nil ?_
 clear hk; intro k hk
 refine Go.rx 20 {} [] [0, 2, 3, 4] _ [(0, .sl 33 g_l l.length (fl gTm l)), (2, .addr 10 0), (3, .addr 11 0), (4, ti 0)] [(10, [.leaf (.slice none 0 0)]), (11, [.leaf (.slice none 0 0)])] hk rfl kr .nil ?_
 clear hk; intro k hk
 refine Go.phnC 11 0 12 33 ([.ref 12 33 0 0]) rfl rfl (.inl rfl) rfl rfl rfl rfl ?_
 refine Go.loopX 20 hk rfl ?_
 clear hk; intro kl1 kxl1 hl1 hxl1
 have Xl1 : ∀ (o2 : List Tn), Go E Γ 37 21 [] ((PostX Γ b9_giveRing_enc) (b9_giveRing_k1 o2)) kxl1 (stL [(2, .addr 10 0), (3, .addr 11 0)] [(10, [.leaf (.slice none 0 0)]), (11, [.ref 12 33 0 o2.length]), (12, fl gTm o2)]) := by
  intro o2
  refine Go.frzC [] [] 11 0 12 (fl gTm o2) ([.sl 33 .shr o2.length (fl gTm o2)]) _ [(2, .addr 10 0), (3, .addr 11 0)] [(10, [.leaf (.slice none 0 0)]), (11, [.dead])] rfl rfl rfl rfl (fl_ids (g := gTm) (fun _ => rfl) o2) (by rw [fl_len (m := 33) (fun _ => rfl)]; omega) (fl_all (g := gTm) (m := 33) (fun _ => rfl) o2) kr .nil rfl rfl ?_
  refine Go.rx 20 {} [11] [2] _ [(2, .addr 10 0)] [(10, [.sl 33 .shr o2.length (fl gTm o2)])] hxl1 rfl kr .nil ?_
  clear hxl1; intro kxl1 hxl1
  exact Go.lvx 20 [] _ [.agg ([.sl 33 .shr o2.length (fl gTm o2)])] Tryd.func37 hxl1 rfl kr (.cons (by decide : 0 + 1 ≤ 1) .nil) (T.Le.of_eq rfl) rfl rfl .nil
 have Ll1 : ∀ (ml1 : Nat) (i1 : Int) (o1 : List Tn), (0 ≤ i1) → (i1 ≤ (l.length : Int)) → ((o1.length : Int) = i1) → (((l.length : Int) - i1).toNat < ml1) → Go E Γ 37 21 [] ((PostX Γ b9_giveRing_enc) (Lo.el (b9_giveRing_l1 l ml1 i1 o1) (fun z : (List Tn) => b9_giveRing_k1 z))) kl1 (stL [(0, .sl 33 g_l l.length (fl gTm l)), (2, .addr 10 0), (3, .addr 11 0), (4, ti i1)] [(10, [.leaf (.slice none 0 0)]), (11, [.ref 12 33 0 o1.length]), (12, fl gTm o1)]) := by
  intro ml1
  induction ml1 with
  | zero => intro i1 o1 i0l1 i1l1 i2l1 hml1; exact absurd hml1 (Nat.not_lt_zero _)
  | succ ml1 ihl1 =>
   intro i1 o1 i0l1 i1l1 i2l1 hml1
   rw [b9_giveRing_l1]
   refine Go.round hl1 ?_
   intro k hk
   refine Go.rx 20 {} [] [0, 2, 3, 4, 8] _ [(0, .sl 33 g_l l.length (fl gTm l)), (2, .addr 10 0), (3, .addr 11 0), (4, ti i1), (8, tb (decide (i1 < (l.length : Int))))] [(10, [.leaf (.slice none 0 0)]), (11, [.ref 12 33 0 o1.length]), (12, fl gTm o1)] hk rfl kr (.cons trivial .nil) ?_
   clear hk; intro k hk
   refine Go.br 20 (Pf := (fun z : Lo ((List Tn)) (((List Tn))) => (PostX Γ b9_giveRing_enc) (Lo.el z (fun z : (List Tn) => b9_giveRing_k1 z)))) hk rfl rfl ?_ ?_ <;> clear hk <;> intro ct1 k hk
   ·have ct1p := of_decide_eq_true ct1
    refine Go.dx 20 [0, 1, 2, 3, 4, 5, 6, 7, 8, 9] { ws := [(5, { v := some (.agg ([t32 ((l.getD i1.toNat ((0, []) : UInt32 × List UInt8)).1)] ++ u8s (fxa 32 ((l.getD i1.toNat ((0, []) : UInt32 × List UInt8)).2)))) }), (6, { id := 13 }), (7, { v := some (.ref 12 33 0 ((o1 ++ ([(l.getD i1.toNat ((0, []) : UInt32 × List UInt8))])).length)), c := some (fl gTm (o1 ++ ([(l.getD i1.toNat ((0, []) : UInt32 × List UInt8))]))), id := 12, sym := true })], pg := [12], fd := some [12] } [13] [0, 2, 3, 4] _ [(0, .sl 33 g_l l.length (fl gTm l)), (2, .addr 10 0), (3, .addr 11 0), (4, ti i1)] [(10, [.leaf (.slice none 0 0)]), (11, [.ref 12 33 0 ((o1 ++ ([(l.getD i1.toNat ((0, []) : UInt32 × List UInt8))])).length)]), (12, fl gTm (o1 ++ ([(l.getD i1.toNat ((0, []) : UInt32 × List UInt8))])))] hk rfl kr (.cons (om : 0 ≤ (i1 : Int) ∧ (i1 : Int) < ((l.length : Nat) : Int)) (.cons (fl_part (m := 33) (g := gTm) (k := i1.toNat * 33) (n := i1.toNat) (l := l) (d := ((0, []) : UInt32 × List UInt8)) (kr : (E.ti 98).agg = true) rfl (fun _ => rfl) rfl om rfl) (.cons (Nat.le_of_ble_eq_true rfl : 0 + 1 * 33 ≤ (([t32 ((l.getD i1.toNat ((0, []) : UInt32 × List UInt8)).1)] ++ u8s (fxa 32 ((l.getD i1.toNat ((0, []) : UInt32 × List UInt8)).2))) : List T).length) (.cons (by rw [fl_len (m := 33) (fun _ => rfl)]; omega : 0 + o1.length * 33 ≤ (fl gTm o1).length) (.cons (rfl : scalL ([t32 ((l.getD i1.toNat ((0, []) : UInt32 × List UInt8)).1)] ++ u8s (fxa 32 ((l.getD i1.toNat ((0, []) : UInt32 × List UInt8)).2))) = true) (.cons (om : (o1.length + 1) * 36 ≤ 140737488355328) (.cons (fl_app' (g := gTm) (m := 33) (k := o1.length) (fun _ => rfl) o1 ([(l.getD i1.toNat ((0, []) : UInt32 × List UInt8))]) rfl rfl) (.cons (fl_mem (i := 12) (g := gTm) (o1 ++ ([(l.getD i1.toNat ((0, []) : UInt32 × List UInt8))])) (fun _ => rfl)) (.cons (by first | rfl | (simp; done) | (refine congrArg (fun q => T.ref 12 33 0 q) ?_; simp <;> omega) : T.ref 12 33 0 (o1.length + 1) = .ref 12 33 0 ((o1 ++ ([(l.getD i1.toNat ((0, []) : UInt32 × List UInt8))])).length)) (.cons (fl_mem (i := 13) (g := gTm) (o1 ++ ([(l.getD i1.toNat ((0, []) : UInt32 × List UInt8))])) (fun _ => rfl)) .nil)))))))))) ?_
    clear hk; intro k hk
    refine Go.rx 20 { ws := [(1, { v := some (ti (i1 + 1)) })] } [] [0, 2, 3, 4] _ [(0, .sl 33 g_l l.length (fl gTm l)), (2, .addr 10 0), (3, .addr 11 0), (4, ti (i1 + 1))] [(10, [.leaf (.slice none 0 0)]), (11, [.ref 12 33 0 ((o1 ++ ([(l.getD i1.toNat ((0, []) : UInt32 × List UInt8))])).length)]), (12, fl gTm (o1 ++ ([(l.getD i1.toNat ((0, []) : UInt32 × List UInt8))])))] hk rfl kr (.cons trivial (.cons (iw (i1 + 1) om) .nil)) ?_
    clear hk; intro k hk
    exact Go.join 20 hk hl1 rfl (ihl1 (i1 + 1) (o1 ++ ([(l.getD i1.toNat ((0, []) : UInt32 × List UInt8))])) om om om om)
   ·have ct1p := of_decide_eq_false ct1
    refine Go.keepN [2, 3] (L' := [(2, .addr 10 0), (3, .addr 11 0)]) rfl ?_
    exact Go.exitX (Pf := (PostX Γ b9_giveRing_enc)) (F := fun z : (List Tn) => b9_giveRing_k1 z) (a := o1) (Go.join 20 hk hxl1 rfl (Xl1 o1))
 exact Ll1 _ 0 [] (by first | omega | (simp; done)) (by first | omega | (simp; done)) (by first | omega | (simp; done)) (Nat.lt_succ_self _)
theorem b9_giveRing_l1_gen : True := by have := @b9_giveRing_l1.eq_1; have := @b9_giveRing_l1.eq_2; trivial
attribute [irreducible] b9_giveRing_k1 b9_giveRing_l1 b9_giveRing
noncomputable def b9_isRing_k1  : Bool :=
 true
noncomputable def b9_isRing_l1 (r0 : List Tn) (l : List Tn) : Nat → Int → Lo Unit Bool
 | 0, _ => .brk default
 | ml1 + 1, i1 =>
  bif decide (i1 < (l.length : Int)) then
   bif !((((r0.getD i1.toNat ((0, []) : UInt32 × List UInt8)).1) == ((l.getD i1.toNat ((0, []) : UInt32 × List UInt8)).1)) && (fxa 32 ((r0.getD i1.toNat ((0, []) : UInt32 × List UInt8)).2) == fxa 32 ((l.getD i1.toNat ((0, []) : UInt32 × List UInt8)).2))) then
    Lo.ret false
   else
    b9_isRing_l1 r0 l ml1 (i1 + 1)
  else
   Lo.brk ()
noncomputable def b9_isRing (r0 : List Tn) (l : List Tn) : Bool :=
 bif (r0.length : Int) != (l.length : Int) then
  false
 else
  Lo.el (b9_isRing_l1 r0 l (((l.length : Int) - (0 : Int)).toNat + 1) 0) (fun z : Unit => b9_isRing_k1)
def b9_isRing_enc (x : Bool) : T × List (Nat × List T) := (tb x, [])
theorem b9_isRing_m {g_r0 : Tag} {g_l : Tag} (r0 : List Tn) (l : List Tn) (hl : l.length ≤ 1000) : Meets Tryd.prog 46 [.agg ([.sl 33 g_r0 r0.length (fl gTm r0)]), .sl 33 g_l l.length (fl gTm l)] [] [] (tb (b9_isRing r0 l)) [] := by
 refine Meets.enterX (E := E) (N := 28) (enc := b9_isRing_enc) (x := (b9_isRing r0 l)) Tryd.func46 Tryd.call46 rfl rfl ?_
 intro Γ k hk
 refine Go.rx 20 { ws := [(0, { id := 10 })] } [] [1, 2] _ [(1, .sl 33 g_l l.length (fl gTm l)), (2, .addr 10 0)] [(10, [.sl 33 g_r0 r0.length (fl gTm r0)])] hk rfl kr .nil ?_
 clear hk; intro k hk
 refine Go.rx 20 {} [] [1, 2, 11] _ [(1, .sl 33 g_l l.length (fl gTm l)), (2, .addr 10 0), (11, tb ((r0.length : Int) != (l.length : Int)))] [(10, [.sl 33 g_r0 r0.length (fl gTm r0)])] hk rfl kr (.cons trivial .nil) ?_
 clear hk; intro k hk
 refine Go.br 20 (Pf := (PostX Γ b9_isRing_enc)) hk rfl rfl ?_ ?_ <;> clear hk <;> intro ct1 k hk
 ·have ct1p := neIt ct1
  refine Go.rx 20 {} [10] [4] _ [(4, tb false)] [] hk rfl kr .nil ?_
  clear hk; intro k hk
  exact Go.lvx 20 [] _ [tb false] Tryd.func46 hk rfl kr .nil (T.Le.of_eq rfl) rfl rfl .nil
 ·have ct1p := neIf ct1
  refine Go.rx 20 {} [] [1, 2, 5] _ [(1, .sl 33 g_l l.length (fl gTm l)), (2, .addr 10 0), (5, ti 0)] [(10, [.sl 33 g_r0 r0.length (fl gTm r0)])] hk rfl kr .nil ?_
  clear hk; intro k hk
  refine Go.loopX 20 hk rfl ?_
  clear hk; intro kl1 kxl1 hl1 hxl1
  have Xl1 : ∀ (_ : True), Go E Γ 46 28 [] ((PostX Γ b9_isRing_enc) (b9_isRing_k1)) kxl1 (stL [] [(10, [.sl 33 g_r0 r0.length (fl gTm r0)])]) := by
   intro _
   refine Go.rx 20 {} [10] [4] _ [(4, tb true)] [] hxl1 rfl kr .nil ?_
   clear hxl1; intro kxl1 hxl1
   exact Go.lvx 20 [] _ [tb true] Tryd.func46 hxl1 rfl kr .nil (T.Le.of_eq rfl) rfl rfl .nil
  have Ll1 : ∀ (ml1 : Nat) (i1 : Int), (0 ≤ i1) → (((l.length : Int) - i1).toNat < ml1) → Go E Γ 46 28 [] ((PostX Γ b9_isRing_enc) (Lo.el (b9_isRing_l1 r0 l ml1 i1) (fun z : Unit => b9_isRing_k1))) kl1 (stL [(1, .sl 33 g_l l.length (fl gTm l)), (2, .addr 10 0), (5, ti i1)] [(10, [.sl 33 g_r0 r0.length (fl gTm r0)])]) := by
   intro ml1
   induction ml1 with
   | zero => intro i1 i0l1 hml1; exact absurd hml1 (Nat.not_lt_zero _)
   | succ ml1 ihl1 =>
    intro i1 i0l1 hml1
    rw [b9_isRing_l1]
    refine Go.round hl1 ?_
    intro k hk
    refine Go.rx 20 {} [] [1, 2, 5, 15] _ [(1, .sl 33 g_l l.length (fl gTm l)), (2, .addr 10 0), (5, ti i1), (15, tb (decide (i1 < (l.length : Int))))] [(10, [.sl 33 g_r0 r0.length (fl gTm r0)])] hk rfl kr (.cons trivial .nil) ?_
    clear hk; intro k hk
    refine Go.br 20 (Pf := (fun z : Lo (Unit) (Bool) => (PostX Γ b9_isRing_enc) (Lo.el z (fun z : Unit => b9_isRing_k1)))) hk rfl rfl ?_ ?_ <;> clear hk <;> intro ct2 k hk
    ·have ct2p := of_decide_eq_true ct2
     refine Go.dx 20 [0, 1, 2, 3, 4, 5, 6, 7, 8, 9] { ws := [(4, { v := some (.agg ([t32 ((r0.getD i1.toNat ((0, []) : UInt32 × List UInt8)).1)] ++ u8s (fxa 32 ((r0.getD i1.toNat ((0, []) : UInt32 × List UInt8)).2)))) }), (8, { v := some (.agg ([t32 ((l.getD i1.toNat ((0, []) : UInt32 × List UInt8)).1)] ++ u8s (fxa 32 ((l.getD i1.toNat ((0, []) : UInt32 × List UInt8)).2)))) }), (9, { v := some (tb (!((((r0.getD i1.toNat ((0, []) : UInt32 × List UInt8)).1) == ((l.getD i1.toNat ((0, []) : UInt32 × List UInt8)).1)) && (fxa 32 ((r0.getD i1.toNat ((0, []) : UInt32 × List UInt8)).2) == fxa 32 ((l.getD i1.toNat ((0, []) : UInt32 × List UInt8)).2))))) })] } [] [1, 2, 5, 27] _ [(1, .sl 33 g_l l.length (fl gTm l)), (2, .addr 10 0), (5, ti i1), (27, tb (!((((r0.getD i1.toNat ((0, []) : UInt32 × List UInt8)).1) == ((l.getD i1.toNat ((0, []) : UInt32 × List UInt8)).1)) && (fxa 32 ((r0.getD i1.toNat ((0, []) : UInt32 × List UInt8)).2) == fxa 32 ((l.getD i1.toNat ((0, []) : UInt32 × List UInt8)).2)))))] [(10, [.sl 33 g_r0 r0.length (fl gTm r0)])] hk rfl kr (.cons (om : 0 ≤ (i1 : Int) ∧ (i1 : Int) < ((r0.length : Nat) : Int)) (.cons (fl_part (m := 33) (g := gTm) (k := i1.toNat * 33) (n := i1.toNat) (l := r0) (d := ((0, []) : UInt32 × List UInt8)) (kr : (E.ti 93).agg = true) rfl (fun _ => rfl) rfl om rfl) (.cons (om : 0 ≤ (i1 : Int) ∧ (i1 : Int) < ((l.length : Nat) : Int)) (.cons (fl_part (m := 33) (g := gTm) (k := i1.toNat * 33) (n := i1.toNat) (l := l) (d := ((0, []) : UInt32 × List UInt8)) (kr : (E.ti 98).agg = true) rfl (fun _ => rfl) rfl om rfl) (.cons (eqMf (eqLc (leq32 ((r0.getD i1.toNat ((0, []) : UInt32 × List UInt8)).1) ((l.getD i1.toNat ((0, []) : UInt32 × List UInt8)).1)) (eqL_fxa 32 ((r0.getD i1.toNat ((0, []) : UInt32 × List UInt8)).2) ((l.getD i1.toNat ((0, []) : UInt32 × List UInt8)).2)))) .nil))))) ?_
     clear hk; intro k hk
     refine Go.br 20 (Pf := (fun z : Lo (Unit) (Bool) => (PostX Γ b9_isRing_enc) (Lo.el z (fun z : Unit => b9_isRing_k1)))) hk rfl rfl ?_ ?_ <;> clear hk <;> intro ct3 k hk
     ·have ct3' : ((((r0.getD i1.toNat ((0, []) : UInt32 × List UInt8)).1) == ((l.getD i1.toNat ((0, []) : UInt32 × List UInt8)).1)) && (fxa 32 ((r0.getD i1.toNat ((0, []) : UInt32 × List UInt8)).2) == fxa 32 ((l.getD i1.toNat ((0, []) : UInt32 × List UInt8)).2))) = false := ntT ct3
      refine Go.rx 20 {} [10] [4] _ [(4, tb false)] [] hk rfl kr .nil ?_
      clear hk; intro k hk
      exact Go.lvx 20 [] _ [tb false] Tryd.func46 hk rfl kr .nil (T.Le.of_eq rfl) rfl rfl .nil
     ·have ct3' : ((((r0.getD i1.toNat ((0, []) : UInt32 × List UInt8)).1) == ((l.getD i1.toNat ((0, []) : UInt32 × List UInt8)).1)) && (fxa 32 ((r0.getD i1.toNat ((0, []) : UInt32 × List UInt8)).2) == fxa 32 ((l.getD i1.toNat ((0, []) : UInt32 × List UInt8)).2))) = true := ntF ct3
      have ct3'1 : (((r0.getD i1.toNat ((0, []) : UInt32 × List UInt8)).1) == ((l.getD i1.toNat ((0, []) : UInt32 × List UInt8)).1)) = true := (Bool.and_eq_true_iff.1 ct3').1
      have ct3'2 : (fxa 32 ((r0.getD i1.toNat ((0, []) : UInt32 × List UInt8)).2) == fxa 32 ((l.getD i1.toNat ((0, []) : UInt32 × List UInt8)).2)) = true := (Bool.and_eq_true_iff.1 ct3').2
      refine Go.rx 20 { ws := [(1, { v := some (ti (i1 + 1)) })] } [] [1, 2, 5] _ [(1, .sl 33 g_l l.length (fl gTm l)), (2, .addr 10 0), (5, ti (i1 + 1))] [(10, [.sl 33 g_r0 r0.length (fl gTm r0)])] hk rfl kr (.cons trivial (.cons (iw (i1 + 1) om) .nil)) ?_
      clear hk; intro k hk
      exact Go.join 20 hk hl1 rfl (ihl1 (i1 + 1) om om)
    ·have ct2p := of_decide_eq_false ct2
     refine Go.keepN [] (L' := []) rfl ?_
     exact Go.exitX (Pf := (PostX Γ b9_isRing_enc)) (F := fun z : Unit => b9_isRing_k1) (a := ()) (Go.join 20 hk hxl1 rfl (Xl1 trivial))
  exact Ll1 _ 0 om (Nat.lt_succ_self _)
theorem b9_isRing_l1_gen : True := by have := @b9_isRing_l1.eq_1; have := @b9_isRing_l1.eq_2; trivial
attribute [irreducible] b9_isRing_k1 b9_isRing_l1 b9_isRing
noncomputable def b9_sure  : Bool :=
 bnd (kr_First ([5, 0, 0, 0, 0, 0, 0, 0, 0, 0, 0, 0, 0, 0, 0, 0, 0, 0, 0, 0, 0, 0, 0, 0, 0, 0, 0, 0, 0, 0, 0, 0] : List UInt8)) fun x1 =>
 bnd (kr_Encode ((kr_Rotate x1 k6).1)) fun x2 =>
 bnd (kr_Active ((kr_Rotate x1 k6).1)) fun x3 =>
 bnd (kr_Use ((x3.1).1) ((x3.1).2) [120]) fun x4 =>
 (decide ((kr_Rotate x1 k6).2 = 0)) && ((decide (x2.2 = 0)) && ((decide (x3.2 = 0)) && ((decide (x4.2 = 0)) && (((x2.1.length : Int) == 67) && ((((x3.1).1) == 2) && (((((x3.1).2).getD 0 0) == 6) && ((x4.1.length : Int) == 32)))))))
def b9_sure_enc (x : Bool) : T × List (Nat × List T) := (tb x, [])
theorem b9_sure_m  : Meets Tryd.prog 34 [] [] [] (tb b9_sure) [] := by
 refine Meets.enterX (E := E) (N := 66) (enc := b9_sure_enc) (x := b9_sure) Tryd.func34 Tryd.call34 rfl rfl ?_
 intro Γ k hk
 refine Go.rx 20 {} [] [] _ [] [] hk rfl kr .nil ?_
 clear hk; intro k hk
 refine Go.rx 20 { ws := [(1, { call := some { ids := [], S := [], M := [], R := .agg ([.sl 33 .shr (kr_First ([5, 0, 0, 0, 0, 0, 0, 0, 0, 0, 0, 0, 0, 0, 0, 0, 0, 0, 0, 0, 0, 0, 0, 0, 0, 0, 0, 0, 0, 0, 0, 0] : List UInt8)).length (fl gTm (kr_First ([5, 0, 0, 0, 0, 0, 0, 0, 0, 0, 0, 0, 0, 0, 0, 0, 0, 0, 0, 0, 0, 0, 0, 0, 0, 0, 0, 0, 0, 0, 0, 0] : List UInt8)))]), H' := [] } }), (3, { call := some { ids := [], S := [], M := [], R := .tup [.agg ([.sl 33 .shr ((kr_Rotate (kr_First ([5, 0, 0, 0, 0, 0, 0, 0, 0, 0, 0, 0, 0, 0, 0, 0, 0, 0, 0, 0, 0, 0, 0, 0, 0, 0, 0, 0, 0, 0, 0, 0] : List UInt8)) k6).1).length (fl gTm ((kr_Rotate (kr_First ([5, 0, 0, 0, 0, 0, 0, 0, 0, 0, 0, 0, 0, 0, 0, 0, 0, 0, 0, 0, 0, 0, 0, 0, 0, 0, 0, 0, 0, 0, 0, 0] : List UInt8)) k6).1))]), er 105 ((kr_Rotate (kr_First ([5, 0, 0, 0, 0, 0, 0, 0, 0, 0, 0, 0, 0, 0, 0, 0, 0, 0, 0, 0, 0, 0, 0, 0, 0, 0, 0, 0, 0, 0, 0, 0] : List UInt8)) k6).2)], H' := [] } }), (7, { id := 10 })] } [] [1, 2] _ [(1, .addr 10 0), (2, er 105 ((kr_Rotate (kr_First ([5, 0, 0, 0, 0, 0, 0, 0, 0, 0, 0, 0, 0, 0, 0, 0, 0, 0, 0, 0, 0, 0, 0, 0, 0, 0, 0, 0, 0, 0, 0, 0] : List UInt8)) k6).2))] [(10, [.sl 33 .shr ((kr_Rotate (kr_First ([5, 0, 0, 0, 0, 0, 0, 0, 0, 0, 0, 0, 0, 0, 0, 0, 0, 0, 0, 0, 0, 0, 0, 0, 0, 0, 0, 0, 0, 0, 0, 0] : List UInt8)) k6).1).length (fl gTm ((kr_Rotate (kr_First ([5, 0, 0, 0, 0, 0, 0, 0, 0, 0, 0, 0, 0, 0, 0, 0, 0, 0, 0, 0, 0, 0, 0, 0, 0, 0, 0, 0, 0, 0, 0, 0] : List UInt8)) k6).1))])] hk rfl kr (.cons (kr_First_m ([5, 0, 0, 0, 0, 0, 0, 0, 0, 0, 0, 0, 0, 0, 0, 0, 0, 0, 0, 0, 0, 0, 0, 0, 0, 0, 0, 0, 0, 0, 0, 0] : List UInt8) (by first | (simp; done) | (with_reducible assumption) | omega | (simp <;> omega) | rfl)) (.cons (sb : subN (idsL [.agg [t8 5, t8 0, t8 0, t8 0, t8 0, t8 0, t8 0, t8 0, t8 0, t8 0, t8 0, t8 0, t8 0, t8 0, t8 0, t8 0, t8 0, t8 0, t8 0, t8 0, t8 0, t8 0, t8 0, t8 0, t8 0, t8 0, t8 0, t8 0, t8 0, t8 0, t8 0, t8 0]]) [] = true) (.cons (kr_Rotate_m (g_r0 := .shr) (kr_First ([5, 0, 0, 0, 0, 0, 0, 0, 0, 0, 0, 0, 0, 0, 0, 0, 0, 0, 0, 0, 0, 0, 0, 0, 0, 0, 0, 0, 0, 0, 0, 0] : List UInt8)) k6 (by first | (simp; done) | (with_reducible assumption) | omega | (simp <;> omega) | rfl)) (.cons (sb : subN (idsL [.agg ([.sl 33 .shr (kr_First ([5, 0, 0, 0, 0, 0, 0, 0, 0, 0, 0, 0, 0, 0, 0, 0, 0, 0, 0, 0, 0, 0, 0, 0, 0, 0, 0, 0, 0, 0, 0, 0] : List UInt8)).length (fl gTm (kr_First ([5, 0, 0, 0, 0, 0, 0, 0, 0, 0, 0, 0, 0, 0, 0, 0, 0, 0, 0, 0, 0, 0, 0, 0, 0, 0, 0, 0, 0, 0, 0, 0] : List UInt8)))]), .agg [t8 6, t8 0, t8 0, t8 0, t8 0, t8 0, t8 0, t8 0, t8 0, t8 0, t8 0, t8 0, t8 0, t8 0, t8 0, t8 0, t8 0, t8 0, t8 0, t8 0, t8 0, t8 0, t8 0, t8 0, t8 0, t8 0, t8 0, t8 0, t8 0, t8 0, t8 0, t8 0]]) [] = true) .nil)))) ?_
 clear hk; intro k hk
 refine Go.bnd (Pf := (PostX Γ b9_sure_enc)) (v := (kr_First ([5, 0, 0, 0, 0, 0, 0, 0, 0, 0, 0, 0, 0, 0, 0, 0, 0, 0, 0, 0, 0, 0, 0, 0, 0, 0, 0, 0, 0, 0, 0, 0] : List UInt8))) (fun x1 => [(1, .addr 10 0), (2, er 105 ((kr_Rotate x1 k6).2))]) (fun x1 => [(10, [.sl 33 .shr ((kr_Rotate x1 k6).1).length (fl gTm ((kr_Rotate x1 k6).1))])]) ?_
 intro x1 hx1
 refine Go.rx 20 { ws := [(1, { call := some { ids := [], S := [], M := [], R := .tup [.sl 1 .shr ((kr_Encode ((kr_Rotate x1 k6).1)).1).length (u8s ((kr_Encode ((kr_Rotate x1 k6).1)).1)), er 105 ((kr_Encode ((kr_Rotate x1 k6).1)).2)], H' := [] } })] } [] [1, 2, 3, 4] _ [(1, .addr 10 0), (2, er 105 ((kr_Rotate x1 k6).2)), (3, .sl 1 .shr ((kr_Encode ((kr_Rotate x1 k6).1)).1).length (u8s ((kr_Encode ((kr_Rotate x1 k6).1)).1))), (4, er 105 ((kr_Encode ((kr_Rotate x1 k6).1)).2))] [(10, [.sl 33 .shr ((kr_Rotate x1 k6).1).length (fl gTm ((kr_Rotate x1 k6).1))])] hk rfl kr (.cons (kr_Encode_m (g_r0 := .shr) ((kr_Rotate x1 k6).1)) (.cons (sb : subN (idsL [.agg ([.sl 33 .shr ((kr_Rotate x1 k6).1).length (fl gTm ((kr_Rotate x1 k6).1))])]) [] = true) .nil)) ?_
 clear hk; intro k hk
 refine Go.bnd (Pf := (PostX Γ b9_sure_enc)) (v := (kr_Encode ((kr_Rotate x1 k6).1))) (fun x2 => [(1, .addr 10 0), (2, er 105 ((kr_Rotate x1 k6).2)), (3, .sl 1 .shr x2.1.length (u8s x2.1)), (4, er 105 x2.2)]) (fun x2 => [(10, [.sl 33 .shr ((kr_Rotate x1 k6).1).length (fl gTm ((kr_Rotate x1 k6).1))])]) ?_
 intro x2 hx2
 refine Go.rx 20 { ws := [(1, { call := some { ids := [], S := [], M := [], R := .tup [.agg ([t32 (((kr_Active ((kr_Rotate x1 k6).1)).1).1)] ++ u8s (fxa 32 (((kr_Active ((kr_Rotate x1 k6).1)).1).2))), er 105 ((kr_Active ((kr_Rotate x1 k6).1)).2)], H' := [] } }), (5, { id := 11 })], ps := [2, 4, 6, 21, 23, 25] } [10] [2, 3, 4, 5, 6] _ [(2, er 105 ((kr_Rotate x1 k6).2)), (3, .sl 1 .shr x2.1.length (u8s x2.1)), (4, er 105 x2.2), (5, .addr 11 0), (6, er 105 ((kr_Active ((kr_Rotate x1 k6).1)).2))] [(11, ([t32 (((kr_Active ((kr_Rotate x1 k6).1)).1).1)] ++ u8s (fxa 32 (((kr_Active ((kr_Rotate x1 k6).1)).1).2))))] hk rfl kr (.cons (kr_Active_m (g_r0 := .shr) ((kr_Rotate x1 k6).1)) (.cons (sb : subN (idsL [.agg ([.sl 33 .shr ((kr_Rotate x1 k6).1).length (fl gTm ((kr_Rotate x1 k6).1))])]) [] = true) (.cons (er_mem (i := 10) 105 ((kr_Rotate x1 k6).2)) (.cons (er_mem (i := 10) 105 x2.2) (.cons (sb : memN 10 (T.ids (.tup [.agg ([t32 (((kr_Active ((kr_Rotate x1 k6).1)).1).1)] ++ u8s (fxa 32 (((kr_Active ((kr_Rotate x1 k6).1)).1).2))), er 105 ((kr_Active ((kr_Rotate x1 k6).1)).2)])) = false) (.cons (sb : memN 10 (T.ids (.tup [.agg ([t32 (((kr_Active ((kr_Rotate x1 k6).1)).1).1)] ++ u8s (fxa 32 (((kr_Active ((kr_Rotate x1 k6).1)).1).2))), er 105 ((kr_Active ((kr_Rotate x1 k6).1)).2)])) = false) (.cons (er_mem (i := 10) 105 ((kr_Active ((kr_Rotate x1 k6).1)).2)) (.cons (er_mem (i := 10) 105 ((kr_Active ((kr_Rotate x1 k6).1)).2)) .nil)))))))) ?_
 clear hk; intro k hk
 refine Go.bnd (Pf := (PostX Γ b9_sure_enc)) (v := (kr_Active ((kr_Rotate x1 k6).1))) (fun x3 => [(2, er 105 ((kr_Rotate x1 k6).2)), (3, .sl 1 .shr x2.1.length (u8s x2.1)), (4, er 105 x2.2), (5, .addr 11 0), (6, er 105 x3.2)]) (fun x3 => [(11, ([t32 ((x3.1).1)] ++ u8s (fxa 32 ((x3.1).2))))]) ?_
 intro x3 hx3
 refine Go.rx 20 { ws := [(1, { call := some { ids := [], S := [], M := [], R := .tup [.sl 1 .shr ((kr_Use ((x3.1).1) ((x3.1).2) [120]).1).length (u8s ((kr_Use ((x3.1).1) ((x3.1).2) [120]).1)), er 105 ((kr_Use ((x3.1).1) ((x3.1).2) [120]).2)], H' := [] } })] } [] [2, 3, 4, 5, 6, 7, 8] _ [(2, er 105 ((kr_Rotate x1 k6).2)), (3, .sl 1 .shr x2.1.length (u8s x2.1)), (4, er 105 x2.2), (5, .addr 11 0), (6, er 105 x3.2), (7, .sl 1 .shr ((kr_Use ((x3.1).1) ((x3.1).2) [120]).1).length (u8s ((kr_Use ((x3.1).1) ((x3.1).2) [120]).1))), (8, er 105 ((kr_Use ((x3.1).1) ((x3.1).2) [120]).2))] [(11, ([t32 ((x3.1).1)] ++ u8s (fxa 32 ((x3.1).2))))] hk rfl kr (.cons (kr_Use_m ((x3.1).1) ((x3.1).2) [120]) (.cons (sb : subN (idsL [.agg ([t32 ((x3.1).1)] ++ u8s (fxa 32 ((x3.1).2))), ts [120]]) [] = true) .nil)) ?_
 clear hk; intro k hk
 refine Go.bnd (Pf := (PostX Γ b9_sure_enc)) (v := (kr_Use ((x3.1).1) ((x3.1).2) [120])) (fun x4 => [(2, er 105 ((kr_Rotate x1 k6).2)), (3, .sl 1 .shr x2.1.length (u8s x2.1)), (4, er 105 x2.2), (5, .addr 11 0), (6, er 105 x3.2), (7, .sl 1 .shr x4.1.length (u8s x4.1)), (8, er 105 x4.2)]) (fun x4 => [(11, ([t32 ((x3.1).1)] ++ u8s (fxa 32 ((x3.1).2))))]) ?_
 intro x4 hx4
 refine Go.regJ 20 [(0, tb ((decide ((kr_Rotate x1 k6).2 = 0)) && ((decide (x2.2 = 0)) && ((decide (x3.2 = 0)) && ((decide (x4.2 = 0)) && (((x2.1.length : Int) == 67) && ((((x3.1).1) == 2) && (((((x3.1).2).getD 0 0) == 6) && ((x4.1.length : Int) == 32)))))))))] [] hk rfl ?_ ?_
 ·clear hk; intro k hk
  exact Go.lvx 20 [] _ [tb ((decide ((kr_Rotate x1 k6).2 = 0)) && ((decide (x2.2 = 0)) && ((decide (x3.2 = 0)) && ((decide (x4.2 = 0)) && (((x2.1.length : Int) == 67) && ((((x3.1).1) == 2) && (((((x3.1).2).getD 0 0) == 6) && ((x4.1.length : Int) == 32))))))))] Tryd.func34 hk rfl kr .nil (T.Le.of_eq rfl) rfl rfl .nil
 ·intro hk J
  rcases Bool.eq_false_or_eq_true (decide ((kr_Rotate x1 k6).2 = 0)) with gd1 | gd1
  ·have gd1p := of_decide_eq_true gd1
   rcases Bool.eq_false_or_eq_true (decide (x2.2 = 0)) with gd2 | gd2
   ·have gd2p := of_decide_eq_true gd2
    rcases Bool.eq_false_or_eq_true (decide (x3.2 = 0)) with gd3 | gd3
    ·have gd3p := of_decide_eq_true gd3
     rcases Bool.eq_false_or_eq_true (decide (x4.2 = 0)) with gd4 | gd4
     ·have gd4p := of_decide_eq_true gd4
      rcases Bool.eq_false_or_eq_true ((x2.1.length : Int) == 67) with gd5 | gd5
      ·have gd5p := eqIt gd5
       rcases Bool.eq_false_or_eq_true (((x3.1).1) == 2) with gd6 | gd6
       ·rcases Bool.eq_false_or_eq_true ((((x3.1).2).getD 0 0) == 6) with gd7 | gd7
        ·refine Go.rx 20 { ws := [(1, { v := some (tb true), er := some (105, (kr_Rotate x1 k6).2) }), (4, { v := some (tb true), er := some (105, x2.2) }), (8, { v := some (tb true), er := some (105, x3.2) }), (12, { v := some (tb true), er := some (105, x4.2) }), (17, { v := some (tb true) }), (22, { v := some (tb true) }), (28, { v := some (tb true) })], ps := [2, 4, 6, 8, 31, 34, 38, 42] } [11] [0] _ [(0, tb ((x4.1.length : Int) == 32))] [] hk rfl kr (.cons (⟨rfl, rfl⟩ : (er 105 ((kr_Rotate x1 k6).2)) = er 105 ((kr_Rotate x1 k6).2) ∧ (.leaf .nilIface : T) = .leaf .nilIface) (.cons (eb gd1) (.cons (⟨rfl, rfl⟩ : (er 105 x2.2) = er 105 x2.2 ∧ (.leaf .nilIface : T) = .leaf .nilIface) (.cons (eb gd2) (.cons (⟨rfl, rfl⟩ : (er 105 x3.2) = er 105 x3.2 ∧ (.leaf .nilIface : T) = .leaf .nilIface) (.cons (eb gd3) (.cons (⟨rfl, rfl⟩ : (er 105 x4.2) = er 105 x4.2 ∧ (.leaf .nilIface : T) = .leaf .nilIface) (.cons (eb gd4) (.cons trivial (.cons (eb gd5) (.cons trivial (.cons ((eqB32 ((x3.1).1) 2).trans (eb gd6)) (.cons (by decide : 0 ≤ (0 : Int) ∧ (0 : Int) < 32) (.cons trivial (.cons ((eqB8 (((x3.1).2).getD 0 0) 6).trans (eb gd7)) (.cons trivial (.cons (er_mem (i := 11) 105 ((kr_Rotate x1 k6).2)) (.cons (er_mem (i := 11) 105 x2.2) (.cons (er_mem (i := 11) 105 x3.2) (.cons (er_mem (i := 11) 105 x4.2) (.cons (er_mem (i := 11) 105 ((kr_Rotate x1 k6).2)) (.cons (er_mem (i := 11) 105 x2.2) (.cons (er_mem (i := 11) 105 x3.2) (.cons (er_mem (i := 11) 105 x4.2) .nil)))))))))))))))))))))))) ?_
         intro k' hk'
         refine Go.slotEq 0 (tb ((decide ((kr_Rotate x1 k6).2 = 0)) && ((decide (x2.2 = 0)) && ((decide (x3.2 = 0)) && ((decide (x4.2 = 0)) && (((x2.1.length : Int) == 67) && ((((x3.1).1) == 2) && (((((x3.1).2).getD 0 0) == 6) && ((x4.1.length : Int) == 32))))))))) rfl (eb (andT gd1 (andT gd2 (andT gd3 (andT gd4 (andT gd5 (andT gd6 (andT gd7 rfl))))))).symm) ?_
         exact J k' hk'
        ·refine Go.rx 20 { ws := [(1, { v := some (tb true), er := some (105, (kr_Rotate x1 k6).2) }), (4, { v := some (tb true), er := some (105, x2.2) }), (8, { v := some (tb true), er := some (105, x3.2) }), (12, { v := some (tb true), er := some (105, x4.2) }), (17, { v := some (tb true) }), (22, { v := some (tb true) }), (28, { v := some (tb false) })], ps := [2, 4, 6, 8, 31, 34, 38, 42] } [11] [0] _ [(0, tb false)] [] hk rfl kr (.cons (⟨rfl, rfl⟩ : (er 105 ((kr_Rotate x1 k6).2)) = er 105 ((kr_Rotate x1 k6).2) ∧ (.leaf .nilIface : T) = .leaf .nilIface) (.cons (eb gd1) (.cons (⟨rfl, rfl⟩ : (er 105 x2.2) = er 105 x2.2 ∧ (.leaf .nilIface : T) = .leaf .nilIface) (.cons (eb gd2) (.cons (⟨rfl, rfl⟩ : (er 105 x3.2) = er 105 x3.2 ∧ (.leaf .nilIface : T) = .leaf .nilIface) (.cons (eb gd3) (.cons (⟨rfl, rfl⟩ : (er 105 x4.2) = er 105 x4.2 ∧ (.leaf .nilIface : T) = .leaf .nilIface) (.cons (eb gd4) (.cons trivial (.cons (eb gd5) (.cons trivial (.cons ((eqB32 ((x3.1).1) 2).trans (eb gd6)) (.cons (by decide : 0 ≤ (0 : Int) ∧ (0 : Int) < 32) (.cons trivial (.cons ((eqB8 (((x3.1).2).getD 0 0) 6).trans (eb gd7)) (.cons (er_mem (i := 11) 105 ((kr_Rotate x1 k6).2)) (.cons (er_mem (i := 11) 105 x2.2) (.cons (er_mem (i := 11) 105 x3.2) (.cons (er_mem (i := 11) 105 x4.2) (.cons (er_mem (i := 11) 105 ((kr_Rotate x1 k6).2)) (.cons (er_mem (i := 11) 105 x2.2) (.cons (er_mem (i := 11) 105 x3.2) (.cons (er_mem (i := 11) 105 x4.2) .nil))))))))))))))))))))))) ?_
         intro k' hk'
         refine Go.slotEq 0 (tb ((decide ((kr_Rotate x1 k6).2 = 0)) && ((decide (x2.2 = 0)) && ((decide (x3.2 = 0)) && ((decide (x4.2 = 0)) && (((x2.1.length : Int) == 67) && ((((x3.1).1) == 2) && (((((x3.1).2).getD 0 0) == 6) && ((x4.1.length : Int) == 32))))))))) rfl (eb (andT gd1 (andT gd2 (andT gd3 (andT gd4 (andT gd5 (andT gd6 (andF gd7))))))).symm) ?_
         exact J k' hk'
       ·refine Go.rx 20 { ws := [(1, { v := some (tb true), er := some (105, (kr_Rotate x1 k6).2) }), (4, { v := some (tb true), er := some (105, x2.2) }), (8, { v := some (tb true), er := some (105, x3.2) }), (12, { v := some (tb true), er := some (105, x4.2) }), (17, { v := some (tb true) }), (22, { v := some (tb false) })], ps := [2, 4, 6, 8, 31, 34, 38, 42] } [11] [0] _ [(0, tb false)] [] hk rfl kr (.cons (⟨rfl, rfl⟩ : (er 105 ((kr_Rotate x1 k6).2)) = er 105 ((kr_Rotate x1 k6).2) ∧ (.leaf .nilIface : T) = .leaf .nilIface) (.cons (eb gd1) (.cons (⟨rfl, rfl⟩ : (er 105 x2.2) = er 105 x2.2 ∧ (.leaf .nilIface : T) = .leaf .nilIface) (.cons (eb gd2) (.cons (⟨rfl, rfl⟩ : (er 105 x3.2) = er 105 x3.2 ∧ (.leaf .nilIface : T) = .leaf .nilIface) (.cons (eb gd3) (.cons (⟨rfl, rfl⟩ : (er 105 x4.2) = er 105 x4.2 ∧ (.leaf .nilIface : T) = .leaf .nilIface) (.cons (eb gd4) (.cons trivial (.cons (eb gd5) (.cons trivial (.cons ((eqB32 ((x3.1).1) 2).trans (eb gd6)) (.cons (er_mem (i := 11) 105 ((kr_Rotate x1 k6).2)) (.cons (er_mem (i := 11) 105 x2.2) (.cons (er_mem (i := 11) 105 x3.2) (.cons (er_mem (i := 11) 105 x4.2) (.cons (er_mem (i := 11) 105 ((kr_Rotate x1 k6).2)) (.cons (er_mem (i := 11) 105 x2.2) (.cons (er_mem (i := 11) 105 x3.2) (.cons (er_mem (i := 11) 105 x4.2) .nil)))))))))))))))))))) ?_
        intro k' hk'
        refine Go.slotEq 0 (tb ((decide ((kr_Rotate x1 k6).2 = 0)) && ((decide (x2.2 = 0)) && ((decide (x3.2 = 0)) && ((decide (x4.2 = 0)) && (((x2.1.length : Int) == 67) && ((((x3.1).1) == 2) && (((((x3.1).2).getD 0 0) == 6) && ((x4.1.length : Int) == 32))))))))) rfl (eb (andT gd1 (andT gd2 (andT gd3 (andT gd4 (andT gd5 (andF gd6)))))).symm) ?_
        exact J k' hk'
      ·have gd5p := eqIf gd5
       refine Go.rx 20 { ws := [(1, { v := some (tb true), er := some (105, (kr_Rotate x1 k6).2) }), (4, { v := some (tb true), er := some (105, x2.2) }), (8, { v := some (tb true), er := some (105, x3.2) }), (12, { v := some (tb true), er := some (105, x4.2) }), (17, { v := some (tb false) })], ps := [2, 4, 6, 8, 31, 34, 38, 42] } [11] [0] _ [(0, tb false)] [] hk rfl kr (.cons (⟨rfl, rfl⟩ : (er 105 ((kr_Rotate x1 k6).2)) = er 105 ((kr_Rotate x1 k6).2) ∧ (.leaf .nilIface : T) = .leaf .nilIface) (.cons (eb gd1) (.cons (⟨rfl, rfl⟩ : (er 105 x2.2) = er 105 x2.2 ∧ (.leaf .nilIface : T) = .leaf .nilIface) (.cons (eb gd2) (.cons (⟨rfl, rfl⟩ : (er 105 x3.2) = er 105 x3.2 ∧ (.leaf .nilIface : T) = .leaf .nilIface) (.cons (eb gd3) (.cons (⟨rfl, rfl⟩ : (er 105 x4.2) = er 105 x4.2 ∧ (.leaf .nilIface : T) = .leaf .nilIface) (.cons (eb gd4) (.cons trivial (.cons (eb gd5) (.cons (er_mem (i := 11) 105 ((kr_Rotate x1 k6).2)) (.cons (er_mem (i := 11) 105 x2.2) (.cons (er_mem (i := 11) 105 x3.2) (.cons (er_mem (i := 11) 105 x4.2) (.cons (er_mem (i := 11) 105 ((kr_Rotate x1 k6).2)) (.cons (er_mem (i := 11) 105 x2.2) (.cons (er_mem (i := 11) 105 x3.2) (.cons (er_mem (i := 11) 105 x4.2) .nil)))))))))))))))))) ?_
       intro k' hk'
       refine Go.slotEq 0 (tb ((decide ((kr_Rotate x1 k6).2 = 0)) && ((decide (x2.2 = 0)) && ((decide (x3.2 = 0)) && ((decide (x4.2 = 0)) && (((x2.1.length : Int) == 67) && ((((x3.1).1) == 2) && (((((x3.1).2).getD 0 0) == 6) && ((x4.1.length : Int) == 32))))))))) rfl (eb (andT gd1 (andT gd2 (andT gd3 (andT gd4 (andF gd5))))).symm) ?_
       exact J k' hk'
     ·have gd4p := of_decide_eq_false gd4
      refine Go.rx 20 { ws := [(1, { v := some (tb true), er := some (105, (kr_Rotate x1 k6).2) }), (4, { v := some (tb true), er := some (105, x2.2) }), (8, { v := some (tb true), er := some (105, x3.2) }), (12, { v := some (tb false), er := some (105, x4.2) })], ps := [2, 4, 6, 8, 31, 34, 38, 42] } [11] [0] _ [(0, tb false)] [] hk rfl kr (.cons (⟨rfl, rfl⟩ : (er 105 ((kr_Rotate x1 k6).2)) = er 105 ((kr_Rotate x1 k6).2) ∧ (.leaf .nilIface : T) = .leaf .nilIface) (.cons (eb gd1) (.cons (⟨rfl, rfl⟩ : (er 105 x2.2) = er 105 x2.2 ∧ (.leaf .nilIface : T) = .leaf .nilIface) (.cons (eb gd2) (.cons (⟨rfl, rfl⟩ : (er 105 x3.2) = er 105 x3.2 ∧ (.leaf .nilIface : T) = .leaf .nilIface) (.cons (eb gd3) (.cons (⟨rfl, rfl⟩ : (er 105 x4.2) = er 105 x4.2 ∧ (.leaf .nilIface : T) = .leaf .nilIface) (.cons (eb gd4) (.cons (er_mem (i := 11) 105 ((kr_Rotate x1 k6).2)) (.cons (er_mem (i := 11) 105 x2.2) (.cons (er_mem (i := 11) 105 x3.2) (.cons (er_mem (i := 11) 105 x4.2) (.cons (er_mem (i := 11) 105 ((kr_Rotate x1 k6).2)) (.cons (er_mem (i := 11) 105 x2.2) (.cons (er_mem (i := 11) 105 x3.2) (.cons (er_mem (i := 11) 105 x4.2) .nil)))))))))))))))) ?_
      intro k' hk'
      refine Go.slotEq 0 (tb ((decide ((kr_Rotate x1 k6).2 = 0)) && ((decide (x2.2 = 0)) && ((decide (x3.2 = 0)) && ((decide (x4.2 = 0)) && (((x2.1.length : Int) == 67) && ((((x3.1).1) == 2) && (((((x3.1).2).getD 0 0) == 6) && ((x4.1.length : Int) == 32))))))))) rfl (eb (andT gd1 (andT gd2 (andT gd3 (andF gd4)))).symm) ?_
      exact J k' hk'
    ·have gd3p := of_decide_eq_false gd3
     refine Go.rx 20 { ws := [(1, { v := some (tb true), er := some (105, (kr_Rotate x1 k6).2) }), (4, { v := some (tb true), er := some (105, x2.2) }), (8, { v := some (tb false), er := some (105, x3.2) })], ps := [2, 4, 6, 8, 31, 34, 38] } [11] [0] _ [(0, tb false)] [] hk rfl kr (.cons (⟨rfl, rfl⟩ : (er 105 ((kr_Rotate x1 k6).2)) = er 105 ((kr_Rotate x1 k6).2) ∧ (.leaf .nilIface : T) = .leaf .nilIface) (.cons (eb gd1) (.cons (⟨rfl, rfl⟩ : (er 105 x2.2) = er 105 x2.2 ∧ (.leaf .nilIface : T) = .leaf .nilIface) (.cons (eb gd2) (.cons (⟨rfl, rfl⟩ : (er 105 x3.2) = er 105 x3.2 ∧ (.leaf .nilIface : T) = .leaf .nilIface) (.cons (eb gd3) (.cons (er_mem (i := 11) 105 ((kr_Rotate x1 k6).2)) (.cons (er_mem (i := 11) 105 x2.2) (.cons (er_mem (i := 11) 105 x3.2) (.cons (er_mem (i := 11) 105 x4.2) (.cons (er_mem (i := 11) 105 ((kr_Rotate x1 k6).2)) (.cons (er_mem (i := 11) 105 x2.2) (.cons (er_mem (i := 11) 105 x3.2) .nil))))))))))))) ?_
     intro k' hk'
     refine Go.slotEq 0 (tb ((decide ((kr_Rotate x1 k6).2 = 0)) && ((decide (x2.2 = 0)) && ((decide (x3.2 = 0)) && ((decide (x4.2 = 0)) && (((x2.1.length : Int) == 67) && ((((x3.1).1) == 2) && (((((x3.1).2).getD 0 0) == 6) && ((x4.1.length : Int) == 32))))))))) rfl (eb (andT gd1 (andT gd2 (andF gd3))).symm) ?_
     exact J k' hk'
   ·have gd2p := of_decide_eq_false gd2
    refine Go.rx 20 { ws := [(1, { v := some (tb true), er := some (105, (kr_Rotate x1 k6).2) }), (4, { v := some (tb false), er := some (105, x2.2) })], ps := [2, 4, 6, 8, 31, 34] } [11] [0] _ [(0, tb false)] [] hk rfl kr (.cons (⟨rfl, rfl⟩ : (er 105 ((kr_Rotate x1 k6).2)) = er 105 ((kr_Rotate x1 k6).2) ∧ (.leaf .nilIface : T) = .leaf .nilIface) (.cons (eb gd1) (.cons (⟨rfl, rfl⟩ : (er 105 x2.2) = er 105 x2.2 ∧ (.leaf .nilIface : T) = .leaf .nilIface) (.cons (eb gd2) (.cons (er_mem (i := 11) 105 ((kr_Rotate x1 k6).2)) (.cons (er_mem (i := 11) 105 x2.2) (.cons (er_mem (i := 11) 105 x3.2) (.cons (er_mem (i := 11) 105 x4.2) (.cons (er_mem (i := 11) 105 ((kr_Rotate x1 k6).2)) (.cons (er_mem (i := 11) 105 x2.2) .nil)))))))))) ?_
    intro k' hk'
    refine Go.slotEq 0 (tb ((decide ((kr_Rotate x1 k6).2 = 0)) && ((decide (x2.2 = 0)) && ((decide (x3.2 = 0)) && ((decide (x4.2 = 0)) && (((x2.1.length : Int) == 67) && ((((x3.1).1) == 2) && (((((x3.1).2).getD 0 0) == 6) && ((x4.1.length : Int) == 32))))))))) rfl (eb (andT gd1 (andF gd2)).symm) ?_
    exact J k' hk'
  ·have gd1p := of_decide_eq_false gd1
   refine Go.rx 20 { ws := [(1, { v := some (tb false), er := some (105, (kr_Rotate x1 k6).2) })], ps := [2, 4, 6, 8, 31] } [11] [0] _ [(0, tb false)] [] hk rfl kr (.cons (⟨rfl, rfl⟩ : (er 105 ((kr_Rotate x1 k6).2)) = er 105 ((kr_Rotate x1 k6).2) ∧ (.leaf .nilIface : T) = .leaf .nilIface) (.cons (eb gd1) (.cons (er_mem (i := 11) 105 ((kr_Rotate x1 k6).2)) (.cons (er_mem (i := 11) 105 x2.2) (.cons (er_mem (i := 11) 105 x3.2) (.cons (er_mem (i := 11) 105 x4.2) (.cons (er_mem (i := 11) 105 ((kr_Rotate x1 k6).2)) .nil))))))) ?_
   intro k' hk'
   refine Go.slotEq 0 (tb ((decide ((kr_Rotate x1 k6).2 = 0)) && ((decide (x2.2 = 0)) && ((decide (x3.2 = 0)) && ((decide (x4.2 = 0)) && (((x2.1.length : Int) == 67) && ((((x3.1).1) == 2) && (((((x3.1).2).getD 0 0) == 6) && ((x4.1.length : Int) == 32))))))))) rfl (eb (andF gd1).symm) ?_
   exact J k' hk'
attribute [irreducible] b9_sure
end Go.Proofs.YtbppcnhfeobefabDoor

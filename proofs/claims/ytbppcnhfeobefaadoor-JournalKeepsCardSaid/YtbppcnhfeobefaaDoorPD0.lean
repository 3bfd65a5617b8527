import Derived.Test.YtbppcnhfeobefaaDoorEr
import Derived.Test.YtbppcnhfeobefaaDoorEnVy8
set_option linter.unusedVariables false
namespace Go.Proofs.YtbppcnhfeobefaaDoor
open Go Go.Vw Go.Proofs
abbrev Wr : Type := Int × List UInt8
def okD (m : Nat) (d0 : tLB) (d1 : List Wr) (d2 : Int) : Prop :=
 d0.length ≤ 3000 ∧ d1.length ≤ m ∧ (∀ j : Nat, j < d1.length → 0 ≤ (d1.getD j (0, [])).1 ∧ (d1.getD j (0, [])).1 < (d0.length : Int)) ∧ (∀ j : Nat, (d0.getD j []).length ≤ 64) ∧ (∀ j : Nat, (d1.getD j (0, [])).2.length ≤ 64) ∧ 0 ≤ d2 ∧ d2 ≤ 9223372036854775807
theorem okD_mono {m m' : Nat} {d0 : tLB} {d1 : List Wr} {d2 : Int} (h : okD m d0 d1 d2) (hm : m ≤ m') : okD m' d0 d1 d2 := ⟨h.1, Nat.le_trans h.2.1 hm, h.2.2⟩
end Go.Proofs.YtbppcnhfeobefaaDoor
namespace Go.Proofs.YtbppcnhfeobefaaDoor
open Go Go.Vw Go.Proofs
noncomputable def new_ok_k1 (o2 : tLB) : (tLB × (tLW) × Int × Bool) × Int :=
 ((o2, [], 0, false), 0)
noncomputable def new_ok_l1 (n : Int) : Nat → Int → (tLB) → Lo (tLB) ((tLB × (tLW) × Int × Bool) × Int)
 | 0, _, _ => .brk default
 | ml1 + 1, t221, o1 =>
  bif decide (t221 < ((List.replicate (Int.toNat n) ([] : List UInt8)).length : Int)) then
   new_ok_l1 n ml1 (t221 + 1) (o1.set t221.toNat z64)
  else
   Lo.brk o1
noncomputable def new_ok (n : Int) : (tLB × (tLW) × Int × Bool) × Int :=
 Lo.el (new_ok_l1 n ((((List.replicate (Int.toNat n) ([] : List UInt8)).length : Int) - (0 : Int)).toNat + 1) 0 (List.replicate (Int.toNat n) ([] : List UInt8))) (fun z : tLB => new_ok_k1 z)
def new_ok_enc (x : (tLB × (tLW) × Int × Bool) × Int) : T × List (Nat × List T) := (.tup [.addr 30 0, er 149 x.2], [(30, [.ref 31 1 0 x.1.1.length, .ref 32 2 0 x.1.2.1.length, ti x.1.2.2.1, tb x.1.2.2.2]), (31, b8s .shr x.1.1), (32, fl gWq x.1.2.1)])
theorem new_ok_m (n : Int) (hn : ((decide (n < 1)) || (decide (n > 2048))) = false) : Meets Tryd.prog 14 [ti n] [] [] (.tup [.addr 30 0, er 149 ((new_ok n).2)]) ([(30, [.ref 31 1 0 ((((new_ok n).1).1).length), .ref 32 2 0 ((((new_ok n).1).2.1).length), ti (((new_ok n).1).2.2.1), tb (((new_ok n).1).2.2.2)]), (31, b8s .shr (((new_ok n).1).1)), (32, fl gWq (((new_ok n).1).2.1))]) := by
 refine Meets.enterX (E := E) (N := 34) (enc := new_ok_enc) (x := (new_ok n)) Tryd.func14 Tryd.call14 rfl rfl ?_
 intro Γ k hk
 have hn1 := of_decide_eq_false (Bool.or_eq_false_iff.1 hn).1
 have hn2 := of_decide_eq_false (Bool.or_eq_false_iff.1 hn).2
 have hrl : (List.replicate (Int.toNat n) ([] : List UInt8)).length = Int.toNat n := List.length_replicate
 have hnn := Int.toNat_of_nonneg (show 0 ≤ n by omega)
 refine Go.rx 20 {} [] [0] _ [(0, ti n)] [] hk rfl kr .nil ?_
 clear hk; intro k hk
 refine Go.regJ 20 [(0, ti n), (11, tb ((decide (n < 1)) || (decide (n > 2048))))] [] hk rfl ?_ ?_
 ·clear hk; intro k hk
  refine Go.slotEq 11 (tb false) rfl (eb hn) ?_
  refine Go.cond 20 hk rfl (t := false) rfl ?_; clear hk; intro k hk
  refine Go.rx 20 { ws := [(1, { v := some (.ref 10 1 0 ((List.replicate (Int.toNat n) ([] : List UInt8)).length)), c := some (zerosT [.slice none 0 0] (Int.toNat n)), id := 10 }), (3, { id := 11 })] } [] [4] _ [(4, .addr 11 0)] [(10, zerosT [.slice none 0 0] (Int.toNat n)), (11, [.ref 10 1 0 ((List.replicate (Int.toNat n) ([] : List UInt8)).length), .leaf (.slice none 0 0), ti 0, tb false])] hk rfl kr (.cons (by omega : 0 ≤ (n : Int) ∧ (n : Int) ≤ n ∧ (n : Int) < 9223372036854775808 ∧ ((24 : Nat) : Int) * n ≤ 281474976710656) (.cons (rfl : zerosT [.slice none 0 0] (Int.toNat n) = zerosT [.slice none 0 0] (Int.toNat n)) (.cons (by simp : T.ref 10 1 0 (Int.toNat n) = .ref 10 1 0 ((List.replicate (Int.toNat n) ([] : List UInt8)).length)) .nil))) ?_
  clear hk; intro k hk
  refine Go.objLe 10 _ (b8s .shr (List.replicate (Int.toNat n) ([] : List UInt8))) rfl (zb_leC (Int.toNat n)) ?_
  refine Go.rx 20 {} [] [4, 21, 22] _ [(4, .addr 11 0), (21, ti ((List.replicate (Int.toNat n) ([] : List UInt8)).length : Int)), (22, ti 0)] [(10, b8s .shr (List.replicate (Int.toNat n) ([] : List UInt8))), (11, [.ref 10 1 0 ((List.replicate (Int.toNat n) ([] : List UInt8)).length), .leaf (.slice none 0 0), ti 0, tb false])] hk rfl kr .nil ?_
  clear hk; intro k hk
  refine Go.loopX 20 hk rfl ?_
  clear hk; intro kl1 kxl1 hl1 hxl1
  have Xl1 : ∀ (o2 : tLB) (f0l1 : (o2.length : Int) = n), Go E Γ 14 34 [] ((PostX Γ new_ok_enc) (new_ok_k1 o2)) kxl1 (stL [(4, .addr 11 0)] [(10, b8s .shr o2), (11, [.ref 10 1 0 ((List.replicate (Int.toNat n) ([] : List UInt8)).length), .leaf (.slice none 0 0), ti 0, tb false])]) := by
   intro o2 f0l1
   refine Go.rx 20 {} [] [2, 3] _ [(2, .addr 11 0), (3, .leaf .nilIface)] [(10, b8s .shr o2), (11, [.ref 10 1 0 ((List.replicate (Int.toNat n) ([] : List UInt8)).length), .leaf (.slice none 0 0), ti 0, tb false])] hxl1 rfl kr .nil ?_
   clear hxl1; intro kxl1 hxl1
   refine Go.objEq 11 _ ([.ref 10 1 0 o2.length, .leaf (.slice none 0 0), ti 0, tb false]) rfl (congrArg (fun q => [T.ref 10 1 0 q, .leaf (.slice none 0 0), ti 0, tb false]) (by first | (simp only [List.length_set, cpy_length, List.length_replicate, List.length_cons, List.length_nil, List.length_append]; omega) | (simp [cpy_length]; omega) | simp : (List.replicate (Int.toNat n) ([] : List UInt8)).length = o2.length)) ?_
   refine Go.sw (L' := [(2, .addr 30 0), (3, .leaf .nilIface)]) (H' := [(10, b8s .shr o2), (30, [.ref 10 1 0 o2.length, .leaf (.slice none 0 0), ti 0, tb false])]) [(30, 11)] ?_
   refine Go.sw (L' := [(2, .addr 30 0), (3, .leaf .nilIface)]) (H' := [(31, b8s .shr o2), (30, [.ref 31 1 0 o2.length, .leaf (.slice none 0 0), ti 0, tb false])]) [(31, 10)] ?_
   refine Go.ord [30, 31] ([(30, [.ref 31 1 0 o2.length, .leaf (.slice none 0 0), ti 0, tb false]), (31, b8s .shr o2)]) rfl rfl ?_
   refine Go.phnC 30 1 32 2 ([.ref 31 1 0 o2.length, .ref 32 2 0 0, ti 0, tb false]) rfl rfl (.inl rfl) rfl rfl rfl rfl ?_
   exact Go.lvx 20 [30, 31, 32] _ [.addr 30 0, .leaf .nilIface] Tryd.func14 hxl1 rfl kr .nil (T.Le.tup (.cons (T.Le.of_eq rfl) (.cons (T.Le.of_eq rfl) .nil))) rfl rfl (.cons sb (.cons (by first | rfl | (rw [mp_ids _ (fun _ => rfl)]; rfl)) (.cons sb .nil)))
  have Ll1 : ∀ (ml1 : Nat) (t221 : Int) (o1 : tLB), (0 ≤ t221) → ((o1.length : Int) = n) → ((((List.replicate (Int.toNat n) ([] : List UInt8)).length : Int) - t221).toNat < ml1) → Go E Γ 14 34 [] ((PostX Γ new_ok_enc) (Lo.el (new_ok_l1 n ml1 t221 o1) (fun z : tLB => new_ok_k1 z))) kl1 (stL [(4, .addr 11 0), (21, ti ((List.replicate (Int.toNat n) ([] : List UInt8)).length : Int)), (22, ti t221)] [(10, b8s .shr o1), (11, [.ref 10 1 0 ((List.replicate (Int.toNat n) ([] : List UInt8)).length), .leaf (.slice none 0 0), ti 0, tb false])]) := by
   intro ml1
   induction ml1 with
   | zero => intro t221 o1 i0l1 i1l1 hml1; exact absurd hml1 (Nat.not_lt_zero _)
   | succ ml1 ihl1 =>
    intro t221 o1 i0l1 i1l1 hml1
    rw [new_ok_l1]
    refine Go.round hl1 ?_
    intro k hk
    refine Go.rx 20 {} [] [4, 21, 22, 23] _ [(4, .addr 11 0), (21, ti ((List.replicate (Int.toNat n) ([] : List UInt8)).length : Int)), (22, ti t221), (23, tb (decide (t221 < ((List.replicate (Int.toNat n) ([] : List UInt8)).length : Int))))] [(10, b8s .shr o1), (11, [.ref 10 1 0 ((List.replicate (Int.toNat n) ([] : List UInt8)).length), .leaf (.slice none 0 0), ti 0, tb false])] hk rfl kr (.cons trivial .nil) ?_
    clear hk; intro k hk
    refine Go.br 20 (Pf := (fun z : Lo (tLB) ((tLB × (tLW) × Int × Bool) × Int) => (PostX Γ new_ok_enc) (Lo.el z (fun z : tLB => new_ok_k1 z)))) hk rfl rfl ?_ ?_ <;> clear hk <;> intro ct1 k hk
    ·have ct1p := of_decide_eq_true ct1
     refine Go.rx 20 {} [] [4, 5, 21, 22] _ [(4, .addr 11 0), (5, ti t221), (21, ti ((List.replicate (Int.toNat n) ([] : List UInt8)).length : Int)), (22, ti t221)] [(10, b8s .shr o1), (11, [.ref 10 1 0 ((List.replicate (Int.toNat n) ([] : List UInt8)).length), .leaf (.slice none 0 0), ti 0, tb false])] hk rfl kr .nil ?_
     clear hk; intro k hk
     refine Go.dx 20 [0, 1, 2, 3, 4, 5, 6, 7] { ws := [(5, { v := some (.sl 1 .shr z64.length (u8s z64)), c := some (u8s z64), id := 12, gv := true }), (7, { c := some (b8s .shr (o1.set t221.toNat z64)), sym := true })], pg := [10] } [12] [4, 21, 22] _ [(4, .addr 11 0), (21, ti ((List.replicate (Int.toNat n) ([] : List UInt8)).length : Int)), (22, ti t221)] [(10, b8s .shr (o1.set t221.toNat z64)), (11, [.ref 10 1 0 ((List.replicate (Int.toNat n) ([] : List UInt8)).length), .leaf (.slice none 0 0), ti 0, tb false])] hk rfl kr (.cons (by decide : 0 ≤ (64 : Int) ∧ (64 : Int) ≤ 64 ∧ (64 : Int) < 9223372036854775808 ∧ ((1 : Nat) : Int) * 64 ≤ 281474976710656) (.cons (mp_zeros (g := zU) (n := Int.toNat 64) (x := (0 : UInt8)) (z := [.int .u8 0]) rfl) (.cons (giveOk (g := zU) (n := Int.toNat 64) z64 (by simp) (fun _ => rfl)) (.cons (giveEq (g := zU) (n := Int.toNat 64) z64 (by simp)) (.cons (by omega : 0 ≤ (t221 : Int) ∧ (t221 : Int) < (((List.replicate (Int.toNat n) ([] : List UInt8)).length : Nat) : Int)) (.cons (rfl : scalL [.sl 1 .shr z64.length (u8s z64)] = true) (.cons (by decide : 1 ≤ 1) (.cons (by decide : 1 ≤ 1) (.cons (by simp only [List.length_map]; omega : 0 + t221.toNat * 1 + 1 ≤ (b8s .shr o1).length) (.cons (mp_set (g := gLq) (k := 0 + t221.toNat * 1) (n := t221.toNat) (x := List.replicate 64 (0 : UInt8)) o1 rfl (by omega) (by omega)) (.cons (mp_mem (i := 12) (g := gLq) (o1.set t221.toNat z64) (fun _ => rfl)) .nil))))))))))) ?_
     clear hk; intro k hk
     refine Go.rx 20 { ws := [(0, { v := some (ti (t221 + 1)) })] } [] [4, 21, 22] _ [(4, .addr 11 0), (21, ti ((List.replicate (Int.toNat n) ([] : List UInt8)).length : Int)), (22, ti (t221 + 1))] [(10, b8s .shr (o1.set t221.toNat z64)), (11, [.ref 10 1 0 ((List.replicate (Int.toNat n) ([] : List UInt8)).length), .leaf (.slice none 0 0), ti 0, tb false])] hk rfl kr (.cons trivial (.cons (iw (t221 + 1) (by omega)) .nil)) ?_
     clear hk; intro k hk
     exact Go.join 20 hk hl1 rfl (ihl1 (t221 + 1) (o1.set t221.toNat z64) (by first | omega | (rw [List.length_set]; omega)) (by first | omega | (rw [List.length_set]; omega)) (by omega))
    ·have ct1p := of_decide_eq_false ct1
     refine Go.keepN [4] (L' := [(4, .addr 11 0)]) rfl ?_
     exact Go.exitX (Pf := (PostX Γ new_ok_enc)) (F := fun z : tLB => new_ok_k1 z) (a := o1) (Go.join 20 hk hxl1 rfl (Xl1 o1 (by first | omega | assumption)))
  exact Ll1 _ 0 (List.replicate (Int.toNat n) ([] : List UInt8)) (by omega) (by omega) (Nat.lt_succ_self _)
 ·intro hk J
  rcases Bool.eq_false_or_eq_true (decide (n < 1)) with gd1 | gd1
  ·have gd1p := of_decide_eq_true gd1
   refine Go.rx 20 { ws := [(1, { v := some (tb true) })] } [] [0, 11] _ [(0, ti n), (11, tb true)] [] hk rfl kr (.cons trivial (.cons (eb gd1) .nil)) ?_
   intro k' hk'
   refine Go.slotEq 11 (tb ((decide (n < 1)) || (decide (n > 2048)))) rfl (eb (orT gd1).symm) ?_
   exact J k' hk'
  ·have gd1p := of_decide_eq_false gd1
   refine Go.rx 20 { ws := [(1, { v := some (tb false) })] } [] [0, 11] _ [(0, ti n), (11, tb (decide (n > 2048)))] [] hk rfl kr (.cons trivial (.cons (eb gd1) (.cons trivial .nil))) ?_
   intro k' hk'
   refine Go.slotEq 11 (tb ((decide (n < 1)) || (decide (n > 2048)))) rfl (eb (orF gd1 rfl).symm) ?_
   exact J k' hk'
theorem new_ok_l1_gen : True := by have := @new_ok_l1.eq_1; have := @new_ok_l1.eq_2; trivial
attribute [irreducible] new_ok_k1 new_ok_l1 new_ok
end Go.Proofs.YtbppcnhfeobefaaDoor

import Derived.Test.YtbppcnhfeobefaaDoorTy
import Derived.Test.YtbppcnhfeobefaaDoorEnVy8
import Derived.Shelf.Abstract
import Derived.Shelf.RegionOpen
import Derived.WalkKit
import Derived.OwnWalkIn
import Derived.TacticsInMore
import Derived.LoopNIn
import Derived.LoopIn
import Derived.Test.YtbppcnhfeobefaaDoorH2
set_option linter.unusedVariables false
namespace Go.Proofs.YtbppcnhfeobefaaDoor
open Go Go.RowKit Go.Shelf Go.Proofs Go.Vw
attribute [local go_sem] Oper.semAt_some
set_option maxRecDepth 100000 in
set_option maxHeartbeats 4000000 in
theorem back_ok : BackOk Tryd.prog 121 2 := by
 intro l Bs os b off len cap ad vs J Jx had hvl hlen hcap hJd hRd hY W h0
 refine callsIn_of_wp Tryd.func121 rfl trivial ?_ rfl
 simp only [Tryd.ntmps121, List.size_toArray, List.length_cons, List.length_nil, Nat.reduceAdd, Nat.reduceSub, Array.replicate_succ, Array.replicate_zero, List.push_toArray, List.append_toArray, List.nil_append, List.cons_append]
 have hmo : Tryd.prog.follows .mixedOrders = true := by kernel_rfl
 obtain ⟨hcs0, hcv0⟩ := hRd 0 W h0
 gi_wp2
 gi_loopw [3] (fun i wr => ∃ k : Nat, k ≤ len ∧ i = .int .i64 ((len : Int) - 1 - k) ∧ J k wr)
  (fun i _ => (intOf i + 1).toNat)
 case atStart => exact ⟨0, Nat.zero_le _, by simp, h0⟩
 case round =>
  obtain ⟨k, hk, rfl, hJs⟩ := hrel
  obtain ⟨hcs, hcv⟩ := hRd k wr hJs
  by_cases hlt : k < len
  ·have hi : (0 : Int) ≤ (len : Int) - 1 - k := by omega
   obtain rfl := had.resolve_left (by omega)
   have hq : ((len : Int) - 1 - k) = ((len - 1 - k : Nat) : Int) := by omega
   rw [hq] at *
   generalize hqq : len - 1 - k = q at *
   have hql : q < len := by omega
   have hx0 : vs[q * 2]? = some (vs[q * 2]'(by omega)) := List.getElem?_eq_getElem _
   have hx1 : vs[q * 2 + 1]? = some (vs[q * 2 + 1]'(by omega)) := List.getElem?_eq_getElem _
   have hc0 := hcv _ _ hx0
   have hc1 := hcv _ _ hx1
   rw [← Nat.add_assoc] at hc1
   have hYk := hY k wr hlt hJs
   have hex : vs.toArray.extract (q * 2) (q * 2 + 2) = #[vs[q * 2]'(by omega), vs[q * 2 + 1]'(by omega)] := by
    apply Array.ext'
    simp only [List.extract_toArray, List.extract_eq_take_drop]
    rw [show q * 2 + 2 - q * 2 = 2 by omega, List.drop_eq_getElem_cons (by omega : q * 2 < vs.length), List.drop_eq_getElem_cons (by omega : q * 2 + 1 < vs.length)]
    rfl
   rw [hqq, hex] at hYk
   generalize vs[q * 2]'(by omega) = y0 at *
   generalize vs[q * 2 + 1]'(by omega) = y1 at *
   obtain ⟨fn, tmps, assign, body, hy, hR⟩ := hYk
   gi_wp2
   refine ⟨rfl, hR.mono ?_⟩
   rintro e' W3 (⟨rfl, hJ3⟩ | ⟨rfl, hJx3⟩)
   ·obtain ⟨hcs3, hcn3⟩ := hRd (k + 1) W3 hJ3
    gi_wp2
    go_roundw
    case rel => exact ⟨k + 1, by omega, by congr 1 <;> omega, hJ3⟩
    case measure => simp [intOf] <;> omega
   ·gi_wp2
    refine bodyPost_ret (results_none rfl _ _ _) rfl ?_
    exact ⟨⟨_, rfl⟩, .inr ⟨k + 1, by omega, hJx3⟩⟩
  ·have hi : ¬ (0 : Int) ≤ (len : Int) - 1 - k := by omega
   have hkl : k = len := by omega
   gi_wp2
   go_end0
   exact ⟨⟨_, rfl⟩, .inl (hkl ▸ hJs)⟩
end Go.Proofs.YtbppcnhfeobefaaDoor
namespace Go.Proofs.YtbppcnhfeobefaaDoor
open Go Go.Vw Go.Proofs
theorem qh3_1 {p : Prop} (h : p := by rw [(fl_ids (g := gWq) (fun _ => rfl) d1)]; rfl) : p := h
theorem qh3_2 {p : Prop} (h : p := by first | rfl | (rw [mp_ids _ (fun _ => rfl)]; rfl)) : p := h
def slices_Backward_disk_write_disk_write_enc (s : tLW) (_ : Unit) : T × List (Nat × List T) := (.fn (.func 121) [] [.addr 10 0], [(0, fl gWq s), (10, [.ref 0 2 0 s.length])])
theorem slices_Backward_disk_write_disk_write_m (s : tLW) : Meets Tryd.prog 87 [.ref 0 2 0 s.length] ([(0, fl gWq s)]) [0] (.fn (.func 121) [] [.addr 10 0]) ([(0, fl gWq s), (10, [.ref 0 2 0 s.length])]) := by
 refine Meets.enterX (E := E) (N := 4) (enc := slices_Backward_disk_write_disk_write_enc s) (x := ()) Tryd.func87 Tryd.call87 rfl rfl ?_
 intro Γ k hk
 refine Go.rx 20 { ws := [(0, { id := 10 })] } [] [1] _ [(1, .addr 10 0)] [(0, fl gWq s), (10, [.ref 0 2 0 s.length])] hk rfl kr .nil ?_
 clear hk; intro k hk
 refine Go.rx 20 {} [] [2] _ [(2, .fn (.func 121) [] [.addr 10 0])] [(0, fl gWq s), (10, [.ref 0 2 0 s.length])] hk rfl kr .nil ?_
 clear hk; intro k hk
 exact Go.lvx 20 [0, 10] _ [.fn (.func 121) [] [.addr 10 0]] Tryd.func87 hk rfl kr .nil (T.Le.of_eq rfl) rfl rfl (.cons (by rw [(fl_ids (g := gWq) (fun _ => rfl) s)]; rfl) (.cons sb .nil))
noncomputable def dDRead_rb1 (d1 : tLW) (i : Int) (kk : Nat)  : Unit ⊕ (List UInt8) :=
 bif ((d1.getD (d1.length - 1 - kk) ((0, []) : Int × List UInt8)).1) == i then
  bnd (id ((d1.getD (d1.length - 1 - kk) ((0, []) : Int × List UInt8)).2)) fun x1 =>
  Sum.inr x1
 else
  Sum.inl ()
theorem dDRead_rb1_m (d1 : tLW) (i : Int) (kk : Nat)  (hy0 : kk < d1.length) (hy1 : ∀ j : Nat, (d1.getD j (0, [])).2.length ≤ 64) : RoundM Tryd.prog 21 (rfB Tryd.f21 0) [.dead, .dead, .dead, .addr 10 0, .addr 11 0, .addr 12 0, .dead, .pt .shr 0 ([ti ((d1.getD (d1.length - 1 - kk) ((0, []) : Int × List UInt8)).1), .sl 1 .shr ((d1.getD (d1.length - 1 - kk) ((0, []) : Int × List UInt8)).2).length (u8s ((d1.getD (d1.length - 1 - kk) ((0, []) : Int × List UInt8)).2))]), .dead, .dead, .dead, .dead, .dead, .dead, .dead, .dead, .dead, .dead, .dead, .dead, .dead, .dead, .dead, .dead, .dead, .dead, .dead, .dead, .dead, .dead, .dead, .dead, .dead, .dead, .dead, .dead, .dead, .dead, .dead, .dead, .dead, .dead] [(10, [ti i]), (11, [.leaf (.slice none 0 0)]), (12, [.leaf .nilIface])] [10, 11, 12] (rdB (dDRead_rb1 d1 i kk)) (rdH (fun _ : Unit => [(10, [ti i]), (11, [.leaf (.slice none 0 0)]), (12, [.leaf .nilIface])]) (fun z : List UInt8 => [(10, [ti i]), (11, [.sl 1 .shr z.length (u8s z)]), (12, [.leaf .nilIface])]) (dDRead_rb1 d1 i kk)) := by
 refine RoundM.enterX (E := E) (N := 42) (x := dDRead_rb1 d1 i kk) (e1 := (fun _ : Unit => [(10, [ti i]), (11, [.leaf (.slice none 0 0)]), (12, [.leaf .nilIface])])) (e2 := (fun z : List UInt8 => [(10, [ti i]), (11, [.sl 1 .shr z.length (u8s z)]), (12, [.leaf .nilIface])])) rfl ?_
 intro Γ k l hrl hk
 have hq := hy1 (d1.length - 1 - kk)
 refine Go.keepN [3, 4, 5, 7] (L' := [(3, .addr 10 0), (4, .addr 11 0), (5, .addr 12 0), (7, .pt .shr 0 ([ti ((d1.getD (d1.length - 1 - kk) ((0, []) : Int × List UInt8)).1), .sl 1 .shr ((d1.getD (d1.length - 1 - kk) ((0, []) : Int × List UInt8)).2).length (u8s ((d1.getD (d1.length - 1 - kk) ((0, []) : Int × List UInt8)).2))]))]) rfl ?_
 rw [dDRead_rb1]
 refine Go.rx 20 {} [] [4, 5, 7, 30] _ [(4, .addr 11 0), (5, .addr 12 0), (7, .pt .shr 0 ([ti ((d1.getD (d1.length - 1 - kk) ((0, []) : Int × List UInt8)).1), .sl 1 .shr ((d1.getD (d1.length - 1 - kk) ((0, []) : Int × List UInt8)).2).length (u8s ((d1.getD (d1.length - 1 - kk) ((0, []) : Int × List UInt8)).2))])), (30, tb (((d1.getD (d1.length - 1 - kk) ((0, []) : Int × List UInt8)).1) == i))] [(10, [ti i]), (11, [.leaf (.slice none 0 0)]), (12, [.leaf .nilIface])] hk rfl kr (.cons trivial .nil) ?_
 clear hk; intro k hk
 refine Go.br 20 (Pf := (PostY Γ (fun _ : Unit => [(10, [ti i]), (11, [.leaf (.slice none 0 0)]), (12, [.leaf .nilIface])]) (fun z : List UInt8 => [(10, [ti i]), (11, [.sl 1 .shr z.length (u8s z)]), (12, [.leaf .nilIface])]))) hk rfl rfl ?_ ?_ <;> clear hk <;> intro ct3 k hk
 ·have ct3p := eqIt ct3
  refine Go.rx 20 { ws := [(2, { call := some { ids := [], S := [], M := [], R := .sl 1 .shr (id ((d1.getD (d1.length - 1 - kk) ((0, []) : Int × List UInt8)).2)).length (u8s (id ((d1.getD (d1.length - 1 - kk) ((0, []) : Int × List UInt8)).2))), H' := [] } })] } [] [] _ [] [(10, [ti i]), (11, [.sl 1 .shr (id ((d1.getD (d1.length - 1 - kk) ((0, []) : Int × List UInt8)).2)).length (u8s (id ((d1.getD (d1.length - 1 - kk) ((0, []) : Int × List UInt8)).2)))]), (12, [.leaf .nilIface])] hk rfl kr (.cons (Meets.sw [] (clone_m (g_s := .shr) ((d1.getD (d1.length - 1 - kk) ((0, []) : Int × List UInt8)).2) om) : Meets Tryd.prog 85 [.sl 1 .shr ((d1.getD (d1.length - 1 - kk) ((0, []) : Int × List UInt8)).2).length (u8s ((d1.getD (d1.length - 1 - kk) ((0, []) : Int × List UInt8)).2))] [] [] (.sl 1 .shr (id ((d1.getD (d1.length - 1 - kk) ((0, []) : Int × List UInt8)).2)).length (u8s (id ((d1.getD (d1.length - 1 - kk) ((0, []) : Int × List UInt8)).2)))) []) (.cons (sb : subN (idsL [.sl 1 .shr ((d1.getD (d1.length - 1 - kk) ((0, []) : Int × List UInt8)).2).length (u8s ((d1.getD (d1.length - 1 - kk) ((0, []) : Int × List UInt8)).2))]) [] = true) .nil)) ?_
  clear hk; intro k hk
  refine Go.bnd (Pf := (PostY Γ (fun _ : Unit => [(10, [ti i]), (11, [.leaf (.slice none 0 0)]), (12, [.leaf .nilIface])]) (fun z : List UInt8 => [(10, [ti i]), (11, [.sl 1 .shr z.length (u8s z)]), (12, [.leaf .nilIface])]))) (v := (id ((d1.getD (d1.length - 1 - kk) ((0, []) : Int × List UInt8)).2))) (fun x1 => []) (fun x1 => [(10, [ti i]), (11, [.sl 1 .shr x1.length (u8s x1)]), (12, [.leaf .nilIface])]) ?_
  intro x1 hx1
  have gx1 : x1 = ((d1.getD (d1.length - 1 - kk) ((0, []) : Int × List UInt8)).2) := hx1
  exact Go.lvB 20 [10, 11, 12] false hrl hk rfl rfl (.cons sb (.cons sb (.cons sb .nil)))
 ·have ct3p := eqIf ct3
  exact Go.lvB 20 [10, 11, 12] true hrl hk rfl rfl (.cons sb (.cons sb (.cons sb .nil)))
noncomputable def dDRead_rk1 (d0 : tLB) (i : Int) : List UInt8 × Int × (Unit × Unit × Unit × Unit) :=
 bnd (id (d0.getD i.toNat [])) fun x2 =>
 (x2, 0, ((), (), (), ()))
noncomputable def dDRead_rx1 (c11_0_1 : List UInt8) : List UInt8 × Int × (Unit × Unit × Unit × Unit) :=
 (c11_0_1, 0, ((), (), (), ()))
noncomputable def dDRead (d0 : tLB) (d1 : tLW) (d2 : Int) (d3 : Bool) (i : Int) : List UInt8 × Int × (Unit × Unit × Unit × Unit) :=
 bif !((decide (i ≥ 0)) && (decide (i < (d0.length : Int)))) then
  ([], 1, ((), (), (), ()))
 else
  bif d3 then
   ([], 23, ((), (), (), ()))
  else
   rngE (fun _ : Unit => dDRead_rk1 d0 i) (fun z : List UInt8 => dDRead_rx1 z) (rng (fun kk (_ : Unit) => dDRead_rb1 d1 i kk) (d1.length) 0 ())
def dDRead_enc (d0 : tLB) (d1 : tLW) (d2 : Int) (d3 : Bool) (x : List UInt8 × Int × (Unit × Unit × Unit × Unit)) : T × List (Nat × List T) := (.tup [.sl 1 .shr x.1.length (u8s x.1), er 149 x.2.1], [(0, [.ref 21 1 0 d0.length, .ref 22 2 0 d1.length, ti d2, tb d3]), (21, b8s .shr d0), (22, fl gWq d1)])
theorem dDRead_m (d0 : tLB) (d1 : tLW) (d2 : Int) (d3 : Bool) (i : Int) (hD : okD 1000 d0 d1 d2) : Meets Tryd.prog 21 [.addr 0 0, ti i] ([(0, [.ref 21 1 0 d0.length, .ref 22 2 0 d1.length, ti d2, tb d3]), (21, b8s .shr d0), (22, fl gWq d1)]) [0, 21, 22] (.tup [.sl 1 .shr ((dDRead d0 d1 d2 d3 i).1).length (u8s ((dDRead d0 d1 d2 d3 i).1)), er 149 ((dDRead d0 d1 d2 d3 i).2.1)]) ([(0, [.ref 21 1 0 d0.length, .ref 22 2 0 d1.length, ti d2, tb d3]), (21, b8s .shr d0), (22, fl gWq d1)]) := by
 refine Meets.enterRd (E := E) (N := 42) (enc := (dDRead_enc d0 d1 d2 d3)) (x := (dDRead d0 d1 d2 d3 i)) Tryd.func21 Tryd.call21 rfl rfl ?_
 intro Γ k hrd hk
 refine Go.rx 20 { ws := [(0, { id := 10 }), (1, { id := 11 }), (2, { id := 12 })] } [] [0, 3, 4, 5] _ [(0, .addr 0 0), (3, .addr 10 0), (4, .addr 11 0), (5, .addr 12 0)] [(0, [.ref 21 1 0 d0.length, .ref 22 2 0 d1.length, ti d2, tb d3]), (21, b8s .shr d0), (22, fl gWq d1), (10, [ti i]), (11, [.leaf (.slice none 0 0)]), (12, [.leaf .nilIface])] hk rfl kr .nil ?_
 clear hk; intro k hk
 refine Go.rx 20 { ws := [(2, { call := some { ids := [0, 21, 22], S := [0, 21, 22], M := [], R := tb ((decide (i ≥ 0)) && (decide (i < (d0.length : Int)))), H' := [(0, [.ref 21 1 0 d0.length, .ref 22 2 0 d1.length, ti d2, tb d3]), (21, b8s .shr d0), (22, fl gWq d1)] } })] } [] [0, 3, 4, 5, 8] _ [(0, .addr 0 0), (3, .addr 10 0), (4, .addr 11 0), (5, .addr 12 0), (8, tb (!((decide (i ≥ 0)) && (decide (i < (d0.length : Int))))))] [(0, [.ref 21 1 0 d0.length, .ref 22 2 0 d1.length, ti d2, tb d3]), (21, b8s .shr d0), (22, fl gWq d1), (10, [ti i]), (11, [.leaf (.slice none 0 0)]), (12, [.leaf .nilIface])] hk rfl kr (.cons (Meets.sw [] (dDhas_m d0 d1 d2 d3 i) : Meets Tryd.prog 83 [.addr 0 0, ti i] [(0, [.ref 21 1 0 d0.length, .ref 22 2 0 d1.length, ti d2, tb d3]), (21, b8s .shr d0), (22, fl gWq d1)] [0, 21, 22] (tb ((decide (i ≥ 0)) && (decide (i < (d0.length : Int))))) [(0, [.ref 21 1 0 d0.length, .ref 22 2 0 d1.length, ti d2, tb d3]), (21, b8s .shr d0), (22, fl gWq d1)]) (.cons (sb : subN (idsL [.addr 0 0, ti i]) [0, 21, 22] = true) (.cons (sb : subN (idsL [.ref 21 1 0 d0.length, .ref 22 2 0 d1.length, ti d2, tb d3]) [0, 21, 22] = true) (.cons (by rw [(mp_ids (g := gLq) d0 (fun _ => rfl))]; rfl : subN (idsL (b8s .shr d0)) [0, 21, 22] = true) (.cons (qh3_1 : subN (idsL (fl gWq d1)) [0, 21, 22] = true) .nil))))) ?_
 clear hk; intro k hk
 refine Go.br 20 (Pf := (PostX Γ (dDRead_enc d0 d1 d2 d3))) hk rfl rfl ?_ ?_ <;> clear hk <;> intro ct1 k hk
 ·have ct1' : ((decide (i ≥ 0)) && (decide (i < (d0.length : Int)))) = false := ntT ct1
  refine Go.rx 20 { ps := [13], pg := [12, 21, 22] } [10] [4, 5] _ [(4, .addr 11 0), (5, .addr 12 0)] [(0, [.ref 21 1 0 d0.length, .ref 22 2 0 d1.length, ti d2, tb d3]), (21, b8s .shr d0), (22, fl gWq d1), (11, [.leaf (.slice none 0 0)]), (12, [er 149 1])] hk rfl kr (.cons (er_mem (i := 10) 149 1) (.cons (mp_mem (i := 10) (g := gLq) d0 (fun _ => rfl)) (.cons (fl_mem (i := 10) (g := gWq) d1 (fun _ => rfl)) (.cons (sb : memN 10 (idsL [er 149 1]) = false) .nil)))) ?_
  clear hk; intro k hk
  exact Go.lvx 20 [0, 21, 22] _ [.leaf (.slice none 0 0), er 149 1] Tryd.func21 hk rfl kr .nil (T.Le.tup (.cons (T.Le.nil _ _) (.cons (T.Le.of_eq rfl) .nil))) rfl (by first | rfl | (simp only [dDRead_enc, T.ids, idsL, er_ids, List.append_nil, List.nil_append]; first | rfl | (rw [mp_ids _ (fun _ => rfl)]; rfl))) (.cons sb (.cons qh3_2 (.cons ((congrArg (fun z => subN z [0, 21, 22]) (fl_ids (g := gWq) (fun _ => rfl) d1)).trans rfl) .nil)))
 ·have ct1' : ((decide (i ≥ 0)) && (decide (i < (d0.length : Int)))) = true := ntF ct1
  have ct1'1 : (decide (i ≥ 0)) = true := (Bool.and_eq_true_iff.1 ct1').1
  have ct1'2 : (decide (i < (d0.length : Int))) = true := (Bool.and_eq_true_iff.1 ct1').2
  have ct1'1p := of_decide_eq_true ct1'1
  have ct1'2p := of_decide_eq_true ct1'2
  refine Go.rx 20 {} [] [0, 3, 4, 5, 14] _ [(0, .addr 0 0), (3, .addr 10 0), (4, .addr 11 0), (5, .addr 12 0), (14, tb d3)] [(0, [.ref 21 1 0 d0.length, .ref 22 2 0 d1.length, ti d2, tb d3]), (21, b8s .shr d0), (22, fl gWq d1), (10, [ti i]), (11, [.leaf (.slice none 0 0)]), (12, [.leaf .nilIface])] hk rfl kr .nil ?_
  clear hk; intro k hk
  refine Go.br 20 (Pf := (PostX Γ (dDRead_enc d0 d1 d2 d3))) hk rfl rfl ?_ ?_ <;> clear hk <;> intro ct2 k hk
  ·refine Go.rx 20 { ps := [19], pg := [12, 21, 22] } [10] [4, 5] _ [(4, .addr 11 0), (5, .addr 12 0)] [(0, [.ref 21 1 0 d0.length, .ref 22 2 0 d1.length, ti d2, tb d3]), (21, b8s .shr d0), (22, fl gWq d1), (11, [.leaf (.slice none 0 0)]), (12, [er 149 23])] hk rfl kr (.cons (er_mem (i := 10) 149 23) (.cons (mp_mem (i := 10) (g := gLq) d0 (fun _ => rfl)) (.cons (fl_mem (i := 10) (g := gWq) d1 (fun _ => rfl)) (.cons (sb : memN 10 (idsL [er 149 23]) = false) .nil)))) ?_
   clear hk; intro k hk
   exact Go.lvx 20 [0, 21, 22] _ [.leaf (.slice none 0 0), er 149 23] Tryd.func21 hk rfl kr .nil (T.Le.tup (.cons (T.Le.nil _ _) (.cons (T.Le.of_eq rfl) .nil))) rfl (by first | rfl | (simp only [dDRead_enc, T.ids, idsL, er_ids, List.append_nil, List.nil_append]; first | rfl | (rw [mp_ids _ (fun _ => rfl)]; rfl))) (.cons sb (.cons qh3_2 (.cons ((congrArg (fun z => subN z [0, 21, 22]) (fl_ids (g := gWq) (fun _ => rfl) d1)).trans rfl) .nil)))
  ·refine Go.rx 20 { ws := [(4, { call := some { ids := [22], S := [22], M := [], R := .fn (.func 121) [] [.addr 13 0], H' := [(22, fl gWq d1), (13, [.ref 22 2 0 d1.length])] } })] } [] [0, 3, 4, 5, 24] _ [(0, .addr 0 0), (3, .addr 10 0), (4, .addr 11 0), (5, .addr 12 0), (24, .fn (.func 121) [] [.addr 13 0])] [(0, [.ref 21 1 0 d0.length, .ref 22 2 0 d1.length, ti d2, tb d3]), (21, b8s .shr d0), (22, fl gWq d1), (10, [ti i]), (11, [.leaf (.slice none 0 0)]), (12, [.leaf .nilIface]), (13, [.ref 22 2 0 d1.length])] hk rfl kr (.cons (Meets.sw [(0, 22), (10, 13)] (slices_Backward_disk_write_disk_write_m d1) : Meets Tryd.prog 87 [.ref 22 2 0 d1.length] [(22, fl gWq d1)] [22] (.fn (.func 121) [] [.addr 13 0]) [(22, fl gWq d1), (13, [.ref 22 2 0 d1.length])]) (.cons (sb : subN (idsL [.ref 22 2 0 d1.length]) [22] = true) (.cons (qh3_1 : subN (idsL (fl gWq d1)) [22] = true) .nil))) ?_
   clear hk; intro k hk
   refine Go.ord [0, 21, 22, 13, 10, 11, 12] ([(0, [.ref 21 1 0 d0.length, .ref 22 2 0 d1.length, ti d2, tb d3]), (21, b8s .shr d0), (22, fl gWq d1), (13, [.ref 22 2 0 d1.length]), (10, [ti i]), (11, [.leaf (.slice none 0 0)]), (12, [.leaf .nilIface])]) rfl rfl ?_
   refine Go.rangeBack (E := E) (Hr := [(0, [.ref 21 1 0 d0.length, .ref 22 2 0 d1.length, ti d2, tb d3]), (21, b8s .shr d0), (22, fl gWq d1), (13, [.ref 22 2 0 d1.length])]) (z0 := ()) (L := [(0, .addr 0 0), (3, .addr 10 0), (4, .addr 11 0), (5, .addr 12 0), (24, .fn (.func 121) [] [.addr 13 0])]) 20 13 22 2 (putPt 7 26) (isAggL 26 (E.ti 155).size) gWq ((0, []) : Int × List UInt8) (fun _ => rfl) d1 (fun kk (_ : Unit) => dDRead_rb1 d1 i kk) (fun _ : Unit => [(10, [ti i]), (11, [.leaf (.slice none 0 0)]), (12, [.leaf .nilIface])]) (fun z : List UInt8 => [(10, [ti i]), (11, [.sl 1 .shr z.length (u8s z)]), (12, [.leaf .nilIface])]) (fun kk (_ : Unit) => True) [3, 4, 5, 7] [10, 11, 12] [] [10, 11, 12] [10, 11, 12] (fun (_ : Int) (p : List T) => T.dead :: T.dead :: T.dead :: T.addr 10 0 :: T.addr 11 0 :: T.addr 12 0 :: T.dead :: T.pt .shr 0 p :: T.dead :: T.dead :: T.dead :: T.dead :: T.dead :: T.dead :: T.dead :: T.dead :: T.dead :: T.dead :: T.dead :: T.dead :: T.dead :: T.dead :: T.dead :: T.dead :: T.dead :: T.dead :: T.dead :: T.dead :: T.dead :: T.dead :: T.dead :: T.dead :: T.dead :: T.dead :: T.dead :: T.dead :: T.dead :: T.dead :: T.dead :: T.dead :: T.dead :: T.dead :: []) (fun _ : Unit => dDRead_rk1 d0 i) (fun z : List UInt8 => dDRead_rx1 z) back_ok (by have hq0 := hD.2.1; omega) rfl rfl hrd hk rfl rfl Tryd.call121 (asgOk_alloc (d := 7) (p := 26) (ty := 155) rfl (E.TOk (kNe (by kernel_rfl))) rfl rfl) rfl (fun _ _ => ⟨_, rfl, rfl, rfl, by kernel_rfl⟩) (fun _ => rfl) (fun _ => rfl) rfl rfl (fun _ => rfl) (fun _ => rfl) (.cons sb (.cons sb (.cons sb (.cons sb (.cons sb .nil))))) (.cons sb (.cons (by rw [(mp_ids (g := gLq) d0 (fun _ => rfl))]; rfl) (.cons qh3_1 (.cons sb .nil)))) (fun z => (.cons sb (.cons sb (.cons sb .nil)))) (fun _ _ => kr) (fun _ _ => rfl) (by trivial) (fun kk z hk0 hi => dDRead_rb1_m d1 i kk  (by exact hk0) (by exact hD.2.2.2.2.1)) (fun kk z z' hk0 hi he => by trivial) ?_ ?_
   ·clear hrd; rintro z hi Γ kr1 hrd hr1
    show Go E Γ 21 42 [0, 21, 22] ((PostX Γ (dDRead_enc d0 d1 d2 d3)) (dDRead_rk1 d0 i)) kr1 (stL [(0, .addr 0 0), (3, .addr 10 0), (4, .addr 11 0), (5, .addr 12 0), (24, .fn (.func 121) [] [.addr 13 0])] [(0, [.ref 21 1 0 d0.length, .ref 22 2 0 d1.length, ti d2, tb d3]), (21, b8s .shr d0), (22, fl gWq d1), (13, [.ref 22 2 0 d1.length]), (10, [ti i]), (11, [.leaf (.slice none 0 0)]), (12, [.leaf .nilIface])])
    have hq0 := hD.2.2.2.1 i.toNat
    refine Go.dx 20 [0, 1, 2, 3, 4, 5, 6, 7, 8, 9] { ws := [(6, { v := some (.sl 1 .shr (d0.getD i.toNat []).length (u8s (d0.getD i.toNat []))) }), (7, { call := some { ids := [], S := [], M := [], R := .sl 1 .shr (id (d0.getD i.toNat [])).length (u8s (id (d0.getD i.toNat []))), H' := [] } })], pg := [21, 22] } [13, 10] [4, 5] _ [(4, .addr 11 0), (5, .addr 12 0)] [(0, [.ref 21 1 0 d0.length, .ref 22 2 0 d1.length, ti d2, tb d3]), (21, b8s .shr d0), (22, fl gWq d1), (11, [.sl 1 .shr (id (d0.getD i.toNat [])).length (u8s (id (d0.getD i.toNat [])))]), (12, [.leaf .nilIface])] hr1 rfl kr (.cons (om : 0 ≤ (i : Int) ∧ (i : Int) < ((d0.length : Nat) : Int)) (.cons (part1 (kr : (E.ti 22).agg = false) (mp_get (g := gLq) (k := 0 + i.toNat * 1) (n := i.toNat) d0 [] (by omega) om)) (.cons (Meets.sw [] (clone_m (g_s := .shr) (d0.getD i.toNat []) om) : Meets Tryd.prog 85 [.sl 1 .shr (d0.getD i.toNat []).length (u8s (d0.getD i.toNat []))] [] [] (.sl 1 .shr (id (d0.getD i.toNat [])).length (u8s (id (d0.getD i.toNat [])))) []) (.cons (sb : subN (idsL [.sl 1 .shr (d0.getD i.toNat []).length (u8s (d0.getD i.toNat []))]) [] = true) (.cons (mp_mem (i := 13) (g := gLq) d0 (fun _ => rfl)) (.cons (fl_mem (i := 13) (g := gWq) d1 (fun _ => rfl)) (.cons (mp_mem (i := 10) (g := gLq) d0 (fun _ => rfl)) (.cons (fl_mem (i := 10) (g := gWq) d1 (fun _ => rfl)) .nil)))))))) ?_
    clear hr1; intro kr1 hr1
    refine Go.bnd (Pf := (PostX Γ (dDRead_enc d0 d1 d2 d3))) (v := (id (d0.getD i.toNat []))) (fun x2 => [(4, .addr 11 0), (5, .addr 12 0)]) (fun x2 => [(0, [.ref 21 1 0 d0.length, .ref 22 2 0 d1.length, ti d2, tb d3]), (21, b8s .shr d0), (22, fl gWq d1), (11, [.sl 1 .shr x2.length (u8s x2)]), (12, [.leaf .nilIface])]) ?_
    intro x2 hx2
    have gx2 : x2 = (d0.getD i.toNat []) := hx2
    exact Go.lvx 20 [0, 21, 22] _ [.sl 1 .shr x2.length (u8s x2), .leaf .nilIface] Tryd.func21 hr1 rfl kr .nil (T.Le.tup (.cons (T.Le.of_eq rfl) (.cons (T.Le.of_eq rfl) .nil))) rfl rfl (.cons sb (.cons qh3_2 (.cons ((congrArg (fun z => subN z [0, 21, 22]) (fl_ids (g := gWq) (fun _ => rfl) d1)).trans rfl) .nil)))
   ·clear hrd; rintro c11_0_1 hrx Γ kr1 hrd hr1
    show Go E Γ 21 42 [0, 21, 22] ((PostX Γ (dDRead_enc d0 d1 d2 d3)) (dDRead_rx1 c11_0_1)) kr1 (stL [(0, .addr 0 0), (3, .addr 10 0), (4, .addr 11 0), (5, .addr 12 0), (24, .fn (.func 121) [] [.addr 13 0])] [(0, [.ref 21 1 0 d0.length, .ref 22 2 0 d1.length, ti d2, tb d3]), (21, b8s .shr d0), (22, fl gWq d1), (13, [.ref 22 2 0 d1.length]), (10, [ti i]), (11, [.sl 1 .shr c11_0_1.length (u8s c11_0_1)]), (12, [.leaf .nilIface])])
    exact Go.lvx 20 [0, 21, 22] _ [.sl 1 .shr c11_0_1.length (u8s c11_0_1), .leaf .nilIface] Tryd.func21 hr1 rfl kr .nil (T.Le.tup (.cons (T.Le.of_eq rfl) (.cons (T.Le.of_eq rfl) .nil))) rfl rfl (.cons sb (.cons qh3_2 (.cons ((congrArg (fun z => subN z [0, 21, 22]) (fl_ids (g := gWq) (fun _ => rfl) d1)).trans rfl) .nil)))
attribute [irreducible] dDRead_rb1 dDRead_rk1 dDRead_rx1 dDRead
end Go.Proofs.YtbppcnhfeobefaaDoor
namespace Go.Proofs.YtbppcnhfeobefaaDoor
open Go Go.Vw Go.Proofs
noncomputable def slices_IndexFunc_disk_write_disk_write_k1 (f400 : Int) : Int × Int :=
 ((-1), f400)
noncomputable def slices_IndexFunc_disk_write_disk_write_l1 (s : tLW) (f400 : Int) : Nat → Int → Lo Unit (Int × Int)
 | 0, _ => .brk default
 | ml1 + 1, t81 =>
  bif decide (t81 < (s.length : Int)) then
   bif ((s.getD t81.toNat ((0, []) : Int × List UInt8)).1) == f400 then
    Lo.ret (t81, f400)
   else
    slices_IndexFunc_disk_write_disk_write_l1 s f400 ml1 (t81 + 1)
  else
   Lo.brk ()
noncomputable def slices_IndexFunc_disk_write_disk_write (s : tLW) (f400 : Int) : Int × Int :=
 Lo.el (slices_IndexFunc_disk_write_disk_write_l1 s f400 (((s.length : Int) - (0 : Int)).toNat + 1) 0) (fun z : Unit => slices_IndexFunc_disk_write_disk_write_k1 f400)
theorem slices_IndexFunc_disk_write_disk_write_l1_gen : True := by have := @slices_IndexFunc_disk_write_disk_write_l1.eq_1; have := @slices_IndexFunc_disk_write_disk_write_l1.eq_2; trivial
attribute [irreducible] slices_IndexFunc_disk_write_disk_write_k1 slices_IndexFunc_disk_write_disk_write_l1 slices_IndexFunc_disk_write_disk_write
end Go.Proofs.YtbppcnhfeobefaaDoor
namespace Go.Proofs.YtbppcnhfeobefaaDoor
open Go Go.Vw Go.Proofs
noncomputable abbrev ixW := slices_IndexFunc_disk_write_disk_write
theorem ix_or (s : List Wr) (k : Int) : (ixW s k = (-1, k) ∧ ∀ j : Nat, j < s.length → (s.getD j (0, [])).1 ≠ k) ∨ ∃ n : Nat, n < s.length ∧ ixW s k = ((n : Int), k) ∧ (s.getD n (0, [])).1 = k ∧ ∀ j : Nat, j < n → (s.getD j (0, [])).1 ≠ k := by
 have key : ∀ (m i : Nat), i ≤ s.length → s.length - i < m → (∀ j : Nat, j < i → (s.getD j (0, [])).1 ≠ k) →
   ((slices_IndexFunc_disk_write_disk_write_l1 s k m (i : Int) = .brk () ∧ ∀ j : Nat, j < s.length → (s.getD j (0, [])).1 ≠ k) ∨ ∃ n : Nat, n < s.length ∧ slices_IndexFunc_disk_write_disk_write_l1 s k m (i : Int) = .ret ((n : Int), k) ∧ (s.getD n (0, [])).1 = k ∧ ∀ j : Nat, j < n → (s.getD j (0, [])).1 ≠ k) := by
  intro m
  induction m with
  | zero => intro i _ h; exact absurd h (Nat.not_lt_zero _)
  | succ m ih =>
   intro i hi hm hall
   rw [slices_IndexFunc_disk_write_disk_write_l1]
   by_cases c : i < s.length
   ·rw [decide_eq_true (by omega : (i : Int) < (s.length : Int)), cond_true, Int.toNat_natCast]
    by_cases q : (s.getD i ((0, []) : Wr)).1 = k
    ·rw [show ((s.getD i ((0, []) : Wr)).1 == k) = true by rw [beq_iff_eq]; exact q, cond_true]
     exact .inr ⟨i, c, rfl, q, hall⟩
    ·rw [show ((s.getD i ((0, []) : Wr)).1 == k) = false by rw [beq_eq_false_iff_ne]; exact q, cond_false]
     have := ih (i + 1) (by omega) (by omega) (fun j hj => by
      by_cases e : j = i
      ·rw [e]; exact q
      ·exact hall j (by omega))
     rw [Int.natCast_add i 1] at this
     exact this
   ·rw [decide_eq_false (by omega : ¬ (i : Int) < (s.length : Int)), cond_false]
    exact .inl ⟨rfl, fun j hj => hall j (by omega)⟩
 unfold ixW
 rw [slices_IndexFunc_disk_write_disk_write]
 rcases key (((s.length : Int) - (0 : Int)).toNat + 1) 0 (Nat.zero_le _) (by omega) (fun j hj => by omega) with ⟨e, h⟩ | ⟨n, h1, e, h2, h3⟩
 ·left
  refine ⟨?_, h⟩
  rw [show slices_IndexFunc_disk_write_disk_write_l1 s k _ 0 = _ from e]
  show slices_IndexFunc_disk_write_disk_write_k1 k = _
  rw [slices_IndexFunc_disk_write_disk_write_k1]
 ·right
  refine ⟨n, h1, ?_, h2, h3⟩
  rw [show slices_IndexFunc_disk_write_disk_write_l1 s k _ 0 = _ from e]
  rfl
end Go.Proofs.YtbppcnhfeobefaaDoor

import Derived.Test.YtbppcnhfeobefaaDoorH2
set_option linter.unusedVariables false
set_option linter.unusedSimpArgs false
namespace Go.Proofs.YtbppcnhfeobefaaDoor
open Go Go.Vw Go.Proofs
theorem qh7_1 {p : Prop} (h : p := by first | omega | (have hq1 := congrArg List.length fx11; omega)) : p := h
theorem qh7_2 {p : Prop} (h : p := by first | omega | (rw [List.length_append]; simp; omega)) : p := h
theorem qh7_3 {p : Prop} (h : p := by first | omega | (simp; done)) : p := h
theorem qh7_4 {p : Prop} (h : p := by simp only [List.length_map]; omega) : p := h
theorem qh7_5 {p : Prop} (h : p := by first | omega | (rw [List.length_append]; omega)) : p := h
theorem qh7_6 {p : Prop} (h : p := by rw [fl_len (m := 2) (fun _ => rfl)]; omega) : p := h
noncomputable def bursaryref13_New_k1 (o2 : List (List UInt8)) : (List (List UInt8) × (List (Int × List UInt8)) × Int × Bool) :=
  (o2, [], 0, false)
noncomputable def bursaryref13_New_l1 (n : Int) : Nat → Int → (List (List UInt8)) → Lo (List (List UInt8)) (List (List UInt8) × (List (Int × List UInt8)) × Int × Bool)
  | 0, _, _ => .brk default
  | ml1 + 1, i1, o1 =>
    bif decide (i1 < n) then
      bursaryref13_New_l1 n ml1 (i1 + 1) (o1 ++ [List.replicate 64 (0 : UInt8)])
    else
      Lo.brk o1
noncomputable def bursaryref13_New (n : Int) : (List (List UInt8) × (List (Int × List UInt8)) × Int × Bool) :=
  Lo.el (bursaryref13_New_l1 n ((n - (0 : Int)).toNat + 1) 0 []) (fun z : List (List UInt8) => bursaryref13_New_k1 z)
def bursaryref13_New_enc (x : (List (List UInt8) × (List (Int × List UInt8)) × Int × Bool)) : T × List (Nat × List T) := (.agg ([.sl 1 .shr x.1.length (b8s .shr x.1), .sl 2 .shr x.2.1.length (fl (fun c : Int × List UInt8 => [ti c.1, .sl 1 .shr c.2.length (u8s c.2)]) x.2.1), ti x.2.2.1, tb x.2.2.2]), [])
theorem bursaryref13_New_m (n : Int) (hn : n ≤ 2048) : Meets Tryd.prog 29 [ti n] [] [] (.agg ([.sl 1 .shr ((bursaryref13_New n).1).length (b8s .shr ((bursaryref13_New n).1)), .sl 2 .shr ((bursaryref13_New n).2.1).length (fl (fun c : Int × List UInt8 => [ti c.1, .sl 1 .shr c.2.length (u8s c.2)]) ((bursaryref13_New n).2.1)), ti ((bursaryref13_New n).2.2.1), tb ((bursaryref13_New n).2.2.2)])) [] := by
  refine Meets.enterX (E := E) (N := 18) (enc := bursaryref13_New_enc) (x := (bursaryref13_New n)) Tryd.func29 Tryd.call29 rfl rfl ?_
  intro Γ k hk
  refine Go.rx 20 { ws := [(0, { id := 10 })] } [] [0, 2] _ [(0, ti n), (2, .addr 10 0)] [(10, [.leaf (.slice none 0 0), .leaf (.slice none 0 0), ti 0, tb false])] hk rfl kr .nil ?_
  clear hk; intro k hk
  refine Go.rx 20 { ws := [(1, { id := 11 })] } [] [0, 2, 3] _ [(0, ti n), (2, .addr 10 0), (3, .addr 11 0)] [(10, [.leaf (.slice none 0 0), .leaf (.slice none 0 0), ti 0, tb false]), (11, [.leaf (.slice none 0 0), .leaf (.slice none 0 0), ti 0, tb false])] hk rfl kr .nil ?_
  clear hk; intro k hk
  refine Go.rx 20 {} [] [0, 2, 3, 4] _ [(0, ti n), (2, .addr 10 0), (3, .addr 11 0), (4, ti 0)] [(10, [.leaf (.slice none 0 0), .leaf (.slice none 0 0), ti 0, tb false]), (11, [.leaf (.slice none 0 0), .leaf (.slice none 0 0), ti 0, tb false])] hk rfl kr .nil ?_
  clear hk; intro k hk
  refine Go.phnC 11 0 12 1 ([.ref 12 1 0 0, .leaf (.slice none 0 0), ti 0, tb false]) rfl rfl (.inl rfl) rfl rfl rfl rfl ?_
  refine Go.loopX 20 hk rfl ?_
  clear hk; intro kl1 kxl1 hl1 hxl1
  have Xl1 : ∀ (o2 : List (List UInt8)), Go E Γ 29 18 [] ((PostX Γ bursaryref13_New_enc) (bursaryref13_New_k1 o2)) kxl1 (stL [(2, .addr 10 0), (3, .addr 11 0)] [(10, [.leaf (.slice none 0 0), .leaf (.slice none 0 0), ti 0, tb false]), (11, [.ref 12 1 0 o2.length, .leaf (.slice none 0 0), ti 0, tb false]), (12, b8s .shr o2)]) := by
    intro o2
    refine Go.frzC [] [] 11 0 12 (b8s .shr o2) ([.sl 1 .shr o2.length (b8s .shr o2), .leaf (.slice none 0 0), ti 0, tb false]) _ [(2, .addr 10 0), (3, .addr 11 0)] [(10, [.leaf (.slice none 0 0), .leaf (.slice none 0 0), ti 0, tb false]), (11, [.dead, .leaf (.slice none 0 0), ti 0, tb false])] rfl rfl rfl rfl (mp_ids (g := (fun c : List UInt8 => tl .shr c)) o2 (fun _ => rfl)) qh7_4 (mp_all (g := (fun c : List UInt8 => tl .shr c)) o2) kr .nil rfl rfl ?_
    refine Go.rx 20 {} [11] [2] _ [(2, .addr 10 0)] [(10, [.sl 1 .shr o2.length (b8s .shr o2), .leaf (.slice none 0 0), ti 0, tb false])] hxl1 rfl kr .nil ?_
    clear hxl1; intro kxl1 hxl1
    exact Go.lvx 20 [] _ [.agg [.sl 1 .shr o2.length (b8s .shr o2), .leaf (.slice none 0 0), ti 0, tb false]] Tryd.func29 hxl1 rfl kr (.cons (by decide : 0 + 4 ≤ 4) .nil) (T.Le.agg (.cons (T.Le.of_eq rfl) (.cons (T.Le.nil _ _) (.cons (T.Le.of_eq rfl) (.cons (T.Le.of_eq rfl) .nil))))) rfl rfl .nil
  have Ll1 : ∀ (ml1 : Nat) (i1 : Int) (o1 : List (List UInt8)), (0 ≤ i1) → ((o1.length : Int) = i1) → (i1 ≤ 2048) → ((n - i1).toNat < ml1) → Go E Γ 29 18 [] ((PostX Γ bursaryref13_New_enc) (Lo.el (bursaryref13_New_l1 n ml1 i1 o1) (fun z : List (List UInt8) => bursaryref13_New_k1 z))) kl1 (stL [(0, ti n), (2, .addr 10 0), (3, .addr 11 0), (4, ti i1)] [(10, [.leaf (.slice none 0 0), .leaf (.slice none 0 0), ti 0, tb false]), (11, [.ref 12 1 0 o1.length, .leaf (.slice none 0 0), ti 0, tb false]), (12, b8s .shr o1)]) := by
    intro ml1
    induction ml1 with
    | zero => intro i1 o1 i0l1 i1l1 i2l1 hml1; exact absurd hml1 (Nat.not_lt_zero _)
    | succ ml1 ihl1 =>
      intro i1 o1 i0l1 i1l1 i2l1 hml1
      rw [bursaryref13_New_l1]
      refine Go.round hl1 ?_
      intro k hk
      refine Go.rx 20 {} [] [0, 2, 3, 4, 8] _ [(0, ti n), (2, .addr 10 0), (3, .addr 11 0), (4, ti i1), (8, tb (decide (i1 < n)))] [(10, [.leaf (.slice none 0 0), .leaf (.slice none 0 0), ti 0, tb false]), (11, [.ref 12 1 0 o1.length, .leaf (.slice none 0 0), ti 0, tb false]), (12, b8s .shr o1)] hk rfl kr (.cons trivial .nil) ?_
      clear hk; intro k hk
      refine Go.br 20 (Pf := (fun z : Lo (List (List UInt8)) ((List (List UInt8) × (List (Int × List UInt8)) × Int × Bool)) => (PostX Γ bursaryref13_New_enc) (Lo.el z (fun z : List (List UInt8) => bursaryref13_New_k1 z)))) hk rfl rfl ?_ ?_ <;> clear hk <;> intro ct1 k hk
      · have ct1p := of_decide_eq_true ct1
        refine Go.dx 20 [0, 1, 2, 3, 4, 5, 6] { ws := [(2, { v := some (.sl 1 .shr (List.replicate 64 (0 : UInt8)).length (u8s (List.replicate 64 (0 : UInt8)))), c := some (u8s (List.replicate 64 (0 : UInt8))), id := 13, gv := true }), (3, { id := 14 }), (4, { v := some (.ref 12 1 0 ((o1 ++ [List.replicate 64 (0 : UInt8)]).length)), c := some (b8s .shr (o1 ++ [List.replicate 64 (0 : UInt8)])), id := 12, sym := true })], pg := [12], fd := some [12] } [13, 14] [0, 2, 3, 4] _ [(0, ti n), (2, .addr 10 0), (3, .addr 11 0), (4, ti i1)] [(10, [.leaf (.slice none 0 0), .leaf (.slice none 0 0), ti 0, tb false]), (11, [.ref 12 1 0 ((o1 ++ [List.replicate 64 (0 : UInt8)]).length), .leaf (.slice none 0 0), ti 0, tb false]), (12, b8s .shr (o1 ++ [List.replicate 64 (0 : UInt8)]))] hk rfl kr (.cons (by decide : 0 ≤ (64 : Int) ∧ (64 : Int) ≤ 64 ∧ (64 : Int) < 9223372036854775808 ∧ ((1 : Nat) : Int) * 64 ≤ 281474976710656) (.cons (mp_zeros (g := (fun c : UInt8 => T.leaf (.int .u8 c.toNat))) (n := Int.toNat 64) (x := (0 : UInt8)) (z := [.int .u8 0]) rfl) (.cons (giveOk (g := (fun c : UInt8 => T.leaf (.int .u8 c.toNat))) (n := Int.toNat 64) (List.replicate 64 (0 : UInt8)) (by simp) (fun _ => rfl)) (.cons (giveEq (g := (fun c : UInt8 => T.leaf (.int .u8 c.toNat))) (n := Int.toNat 64) (List.replicate 64 (0 : UInt8)) (by simp)) (.cons (Nat.le_of_ble_eq_true rfl : 0 + 1 * 1 ≤ ([.sl 1 .shr (List.replicate 64 (0 : UInt8)).length (u8s (List.replicate 64 (0 : UInt8)))] : List T).length) (.cons (qh7_4 : 0 + o1.length * 1 ≤ (b8s .shr o1).length) (.cons (rfl : scalL [.sl 1 .shr (List.replicate 64 (0 : UInt8)).length (u8s (List.replicate 64 (0 : UInt8)))] = true) (.cons (om : (o1.length + 1) * 24 ≤ 140737488355328) (.cons (mp_app (g := (fun c : List UInt8 => tl .shr c)) (o1) [List.replicate 64 (0 : UInt8)] rfl) (.cons (mp_mem (i := 12) (g := (fun c : List UInt8 => tl .shr c)) (o1 ++ [List.replicate 64 (0 : UInt8)]) (fun _ => rfl)) (.cons (by first | rfl | (simp; done) | (refine congrArg (fun q => T.ref 12 1 0 q) ?_; simp <;> omega) : T.ref 12 1 0 (o1.length + 1) = .ref 12 1 0 ((o1 ++ [List.replicate 64 (0 : UInt8)]).length)) (.cons (mp_mem (i := 13) (g := (fun c : List UInt8 => tl .shr c)) (o1 ++ [List.replicate 64 (0 : UInt8)]) (fun _ => rfl)) (.cons (mp_mem (i := 14) (g := (fun c : List UInt8 => tl .shr c)) (o1 ++ [List.replicate 64 (0 : UInt8)]) (fun _ => rfl)) .nil))))))))))))) ?_
        clear hk; intro k hk
        refine Go.rx 20 { ws := [(1, { v := some (ti (i1 + 1)) })] } [] [0, 2, 3, 4] _ [(0, ti n), (2, .addr 10 0), (3, .addr 11 0), (4, ti (i1 + 1))] [(10, [.leaf (.slice none 0 0), .leaf (.slice none 0 0), ti 0, tb false]), (11, [.ref 12 1 0 ((o1 ++ [List.replicate 64 (0 : UInt8)]).length), .leaf (.slice none 0 0), ti 0, tb false]), (12, b8s .shr (o1 ++ [List.replicate 64 (0 : UInt8)]))] hk rfl kr (.cons trivial (.cons (iw (i1 + 1) om) .nil)) ?_
        clear hk; intro k hk
        exact Go.join 20 hk hl1 rfl (ihl1 (i1 + 1) (o1 ++ [List.replicate 64 (0 : UInt8)]) (by first | omega | (simp; omega)) (by first | omega | (simp; omega)) (by first | omega | (simp; omega)) om)
      · have ct1p := of_decide_eq_false ct1
        refine Go.keepN [2, 3] (L' := [(2, .addr 10 0), (3, .addr 11 0)]) rfl ?_
        exact Go.exitX (Pf := (PostX Γ bursaryref13_New_enc)) (F := fun z : List (List UInt8) => bursaryref13_New_k1 z) (a := o1) (Go.join 20 hk hxl1 rfl (Xl1 o1))
  exact Ll1 _ 0 [] qh7_3 qh7_3 qh7_3 (Nat.lt_succ_self _)
theorem bursaryref13_New_l1_gen : True := by have := @bursaryref13_New_l1.eq_1; have := @bursaryref13_New_l1.eq_2; trivial
attribute [irreducible] bursaryref13_New_k1 bursaryref13_New_l1 bursaryref13_New
noncomputable def bursaryref13_step (d0 : List (List UInt8)) (d1 : List (Int × List UInt8)) (d2 : Int) (d3 : Bool) : (List (List UInt8) × (List (Int × List UInt8)) × Int × Bool) :=
  bif d2 == 1 then
    (d0, d1, (if d2 - 1 > 0 then d2 - 1 else 0), true)
  else
    (d0, d1, (if d2 - 1 > 0 then d2 - 1 else 0), d3)
def bursaryref13_step_enc (x : (List (List UInt8) × (List (Int × List UInt8)) × Int × Bool)) : T × List (Nat × List T) := (.agg ([.sl 1 .shr x.1.length (b8s .shr x.1), .sl 2 .shr x.2.1.length (fl (fun c : Int × List UInt8 => [ti c.1, .sl 1 .shr c.2.length (u8s c.2)]) x.2.1), ti x.2.2.1, tb x.2.2.2]), [])
theorem bursaryref13_step_m (d0 : List (List UInt8)) (d1 : List (Int × List UInt8)) (d2 : Int) (d3 : Bool) (ha : 0 ≤ d2 ∧ d2 ≤ 9223372036854775807) : Meets Tryd.prog 94 [.agg ([.sl 1 .shr d0.length (b8s .shr d0), .sl 2 .shr d1.length (fl (fun c : Int × List UInt8 => [ti c.1, .sl 1 .shr c.2.length (u8s c.2)]) d1), ti d2, tb d3])] [] [] (.agg ([.sl 1 .shr ((bursaryref13_step d0 d1 d2 d3).1).length (b8s .shr ((bursaryref13_step d0 d1 d2 d3).1)), .sl 2 .shr ((bursaryref13_step d0 d1 d2 d3).2.1).length (fl (fun c : Int × List UInt8 => [ti c.1, .sl 1 .shr c.2.length (u8s c.2)]) ((bursaryref13_step d0 d1 d2 d3).2.1)), ti ((bursaryref13_step d0 d1 d2 d3).2.2.1), tb ((bursaryref13_step d0 d1 d2 d3).2.2.2)])) [] := by
  refine Meets.enterX (E := E) (N := 13) (enc := bursaryref13_step_enc) (x := (bursaryref13_step d0 d1 d2 d3)) Tryd.func94 Tryd.call94 rfl rfl ?_
  intro Γ k hk
  refine Go.rx 20 { ws := [(0, { id := 10 }), (1, { id := 11 })] } [] [1, 2] _ [(1, .addr 10 0), (2, .addr 11 0)] [(10, [.sl 1 .shr d0.length (b8s .shr d0), .sl 2 .shr d1.length (fl (fun c : Int × List UInt8 => [ti c.1, .sl 1 .shr c.2.length (u8s c.2)]) d1), ti d2, tb d3]), (11, [.leaf (.slice none 0 0), .leaf (.slice none 0 0), ti 0, tb false])] hk rfl kr .nil ?_
  clear hk; intro k hk
  refine Go.rx 20 {} [] [1, 2, 5] _ [(1, .addr 10 0), (2, .addr 11 0), (5, tb (d2 == 1))] [(10, [.sl 1 .shr d0.length (b8s .shr d0), .sl 2 .shr d1.length (fl (fun c : Int × List UInt8 => [ti c.1, .sl 1 .shr c.2.length (u8s c.2)]) d1), ti d2, tb d3]), (11, [.leaf (.slice none 0 0), .leaf (.slice none 0 0), ti 0, tb false])] hk rfl kr (.cons trivial .nil) ?_
  clear hk; intro k hk
  refine Go.br 20 (Pf := (PostX Γ bursaryref13_step_enc)) hk rfl rfl ?_ ?_ <;> clear hk <;> intro ct2 k hk
  · have ct2p := eqIt ct2
    refine Go.rx 20 {} [] [1, 2] _ [(1, .addr 10 0), (2, .addr 11 0)] [(10, [.sl 1 .shr d0.length (b8s .shr d0), .sl 2 .shr d1.length (fl (fun c : Int × List UInt8 => [ti c.1, .sl 1 .shr c.2.length (u8s c.2)]) d1), ti d2, tb true]), (11, [.leaf (.slice none 0 0), .leaf (.slice none 0 0), ti 0, tb false])] hk rfl kr .nil ?_
    clear hk; intro k hk
    refine Go.rx 20 { ws := [(2, { v := some (ti (d2 - 1)) })] } [] [1, 2] _ [(1, .addr 10 0), (2, .addr 11 0)] [(10, [.sl 1 .shr d0.length (b8s .shr d0), .sl 2 .shr d1.length (fl (fun c : Int × List UInt8 => [ti c.1, .sl 1 .shr c.2.length (u8s c.2)]) d1), ti (if d2 - 1 > 0 then d2 - 1 else 0), tb true]), (11, [.leaf (.slice none 0 0), .leaf (.slice none 0 0), ti 0, tb false])] hk rfl kr (.cons trivial (.cons (iw (d2 - 1) om) .nil)) ?_
    clear hk; intro k hk
    refine Go.rx 20 {} [10] [2] _ [(2, .addr 11 0)] [(11, [.sl 1 .shr d0.length (b8s .shr d0), .sl 2 .shr d1.length (fl (fun c : Int × List UInt8 => [ti c.1, .sl 1 .shr c.2.length (u8s c.2)]) d1), ti (if d2 - 1 > 0 then d2 - 1 else 0), tb true])] hk rfl kr .nil ?_
    clear hk; intro k hk
    exact Go.lvx 20 [] _ [.agg ([.sl 1 .shr d0.length (b8s .shr d0), .sl 2 .shr d1.length (fl (fun c : Int × List UInt8 => [ti c.1, .sl 1 .shr c.2.length (u8s c.2)]) d1), ti (if d2 - 1 > 0 then d2 - 1 else 0), tb true])] Tryd.func94 hk rfl kr (.cons (by decide : 0 + 4 ≤ 4) .nil) (T.Le.of_eq rfl) rfl rfl .nil
  · have ct2p := eqIf ct2
    refine Go.rx 20 { ws := [(2, { v := some (ti (d2 - 1)) })] } [] [1, 2] _ [(1, .addr 10 0), (2, .addr 11 0)] [(10, [.sl 1 .shr d0.length (b8s .shr d0), .sl 2 .shr d1.length (fl (fun c : Int × List UInt8 => [ti c.1, .sl 1 .shr c.2.length (u8s c.2)]) d1), ti (if d2 - 1 > 0 then d2 - 1 else 0), tb d3]), (11, [.leaf (.slice none 0 0), .leaf (.slice none 0 0), ti 0, tb false])] hk rfl kr (.cons trivial (.cons (iw (d2 - 1) om) .nil)) ?_
    clear hk; intro k hk
    refine Go.rx 20 {} [10] [2] _ [(2, .addr 11 0)] [(11, [.sl 1 .shr d0.length (b8s .shr d0), .sl 2 .shr d1.length (fl (fun c : Int × List UInt8 => [ti c.1, .sl 1 .shr c.2.length (u8s c.2)]) d1), ti (if d2 - 1 > 0 then d2 - 1 else 0), tb d3])] hk rfl kr .nil ?_
    clear hk; intro k hk
    exact Go.lvx 20 [] _ [.agg ([.sl 1 .shr d0.length (b8s .shr d0), .sl 2 .shr d1.length (fl (fun c : Int × List UInt8 => [ti c.1, .sl 1 .shr c.2.length (u8s c.2)]) d1), ti (if d2 - 1 > 0 then d2 - 1 else 0), tb d3])] Tryd.func94 hk rfl kr (.cons (by decide : 0 + 4 ≤ 4) .nil) (T.Le.of_eq rfl) rfl rfl .nil
theorem rstep_fact (d0 : List (List UInt8)) (d1 : List (Int × List UInt8)) (d2 : Int) (d3 : Bool) : (bursaryref13_step d0 d1 d2 d3).1 = d0 ∧ (bursaryref13_step d0 d1 d2 d3).2.1 = d1 := by
  rw [bursaryref13_step]; cases d2 == 1 <;> exact ⟨rfl, rfl⟩
attribute [irreducible] bursaryref13_step
noncomputable def bursaryref13_with (l : List (List UInt8)) (i : Int) (b : List UInt8) : List (List UInt8) :=
  (l.set i.toNat b)
def bursaryref13_with_enc (x : List (List UInt8)) : T × List (Nat × List T) := (.sl 1 .shr x.length (b8s .shr x), [])
theorem bursaryref13_with_m (l : List (List UInt8)) (i : Int) (b : List UInt8) (hi : 0 ≤ i ∧ i < (l.length : Int)) (hl : l.length ≤ 100000) : Meets Tryd.prog 95 [.sl 1 .shr l.length (b8s .shr l), ti i, .sl 1 .shr b.length (u8s b)] [] [] (.sl 1 .shr (bursaryref13_with l i b).length (b8s .shr (bursaryref13_with l i b))) [] := by
  refine Meets.enterX (E := E) (N := 16) (enc := bursaryref13_with_enc) (x := (bursaryref13_with l i b)) Tryd.func95 Tryd.call95 rfl rfl ?_
  intro Γ k hk
  refine Go.rx 20 {} [] [0, 1, 2] _ [(0, .sl 1 .shr l.length (b8s .shr l)), (1, ti i), (2, .sl 1 .shr b.length (u8s b))] [] hk rfl kr .nil ?_
  clear hk; intro k hk
  refine Go.rx 20 {} [] [0, 1, 2, 7] _ [(0, .sl 1 .shr l.length (b8s .shr l)), (1, ti i), (2, .sl 1 .shr b.length (u8s b)), (7, .leaf (.slice none 0 0))] [] hk rfl kr .nil ?_
  clear hk; intro k hk
  refine Go.rx 20 { ws := [(2, { id := 10, sym := true })] } [] [1, 2, 7] _ [(1, ti i), (2, .sl 1 .shr b.length (u8s b)), (7, .ref 10 1 0 l.length)] [(10, b8s .shr l)] hk rfl kr (.cons (om : l.length * 24 ≤ 140737488355328) .nil) ?_
  clear hk; intro k hk
  refine Go.rx 20 { ws := [(4, { c := some (b8s .shr (l.set i.toNat b)), sym := true })] } [] [7] _ [(7, .ref 10 1 0 l.length)] [(10, b8s .shr (l.set i.toNat b))] hk rfl kr (.cons (om : 0 ≤ (i : Int) ∧ (i : Int) < ((l.length : Nat) : Int)) (.cons (rfl : scalL [.sl 1 .shr b.length (u8s b)] = true) (.cons (by decide : 1 ≤ 1) (.cons (by decide : 1 ≤ 1) (.cons (by simp only [List.length_map]; first | omega | (simp <;> omega) | (simp at * <;> omega) | (split <;> omega) | (split <;> (first | omega | (simp <;> omega) | (simp at * <;> omega))) : 0 + i.toNat * 1 + 1 ≤ (b8s .shr l).length) (.cons (mp_set (g := (fun c : List UInt8 => tl .shr c)) (k := 0 + i.toNat * 1) (n := i.toNat) (x := b) l rfl (by omega) om) .nil)))))) ?_
  clear hk; intro k hk
  refine Go.rx 20 {} [] [6] _ [(6, .ref 10 1 0 l.length)] [(10, b8s .shr (l.set i.toNat b))] hk rfl kr .nil ?_
  clear hk; intro k hk
  refine Go.slotEq 6 (.ref 10 1 0 ((l.set i.toNat b).length)) rfl (congrArg (fun q => T.ref 10 1 0 q) (by first | (simp only [List.length_set, cpy_length, List.length_replicate, List.length_cons, List.length_nil, List.length_append]; omega) | (simp [cpy_length]; omega) | simp : l.length = (l.set i.toNat b).length)) ?_
  refine Go.frz [] [] 6 10 (b8s .shr (l.set i.toNat b)) _ [(6, .dead)] [] rfl rfl (mp_ids (g := (fun c : List UInt8 => tl .shr c)) (l.set i.toNat b) (fun _ => rfl)) qh7_4 (mp_all (g := (fun c : List UInt8 => tl .shr c)) (l.set i.toNat b)) kr .nil ?_
  exact Go.lvx 20 [] _ [.sl 1 .shr (l.set i.toNat b).length (b8s .shr (l.set i.toNat b))] Tryd.func95 hk rfl kr .nil (T.Le.of_eq rfl) rfl rfl .nil
theorem with_fact (l : List (List UInt8)) (i : Int) (b : List UInt8) : (bursaryref13_with l i b).length = l.length := by rw [bursaryref13_with, List.length_set]
attribute [irreducible] bursaryref13_with
noncomputable def bursaryref13_Read_k1 (b2 : List UInt8) : List UInt8 × Int :=
  (b2, 0)
noncomputable def bursaryref13_Read_l1 (d1 : List (Int × List UInt8)) (i : Int) : Nat → (List UInt8) → Int → Lo (List UInt8) (List UInt8 × Int)
  | 0, _, _ => .brk default
  | ml1 + 1, b1, k1 =>
    bif decide (k1 < (d1.length : Int)) then
      bnd (bif ((d1.getD k1.toNat ((0, []) : Int × List UInt8)).1) == i then (d1.getD k1.toNat ((0, []) : Int × List UInt8)).2 else b1) fun y1 =>
      bursaryref13_Read_l1 d1 i ml1 y1 (k1 + 1)
    else
      Lo.brk b1
noncomputable def bursaryref13_Read (d0 : List (List UInt8)) (d1 : List (Int × List UInt8)) (d2 : Int) (d3 : Bool) (i : Int) : List UInt8 × Int :=
  bif (decide (i < 0)) || (decide (i ≥ (d0.length : Int))) then
    ([], 1)
  else
    bif d3 then
      ([], 23)
    else
      Lo.el (bursaryref13_Read_l1 d1 i (((d1.length : Int) - (0 : Int)).toNat + 1) (d0.getD i.toNat []) 0) (fun z : List UInt8 => bursaryref13_Read_k1 z)
def bursaryref13_Read_enc (x : List UInt8 × Int) : T × List (Nat × List T) := (.tup [.sl 1 .shr x.1.length (u8s x.1), ti x.2], [])
theorem bursaryref13_Read_m (d0 : List (List UInt8)) (d1 : List (Int × List UInt8)) (d2 : Int) (d3 : Bool) (i : Int) (hD : okD 1000 d0 d1 d2) : Meets Tryd.prog 34 [.agg ([.sl 1 .shr d0.length (b8s .shr d0), .sl 2 .shr d1.length (fl (fun c : Int × List UInt8 => [ti c.1, .sl 1 .shr c.2.length (u8s c.2)]) d1), ti d2, tb d3]), ti i] [] [] (.tup [.sl 1 .shr ((bursaryref13_Read d0 d1 d2 d3 i).1).length (u8s ((bursaryref13_Read d0 d1 d2 d3 i).1)), ti ((bursaryref13_Read d0 d1 d2 d3 i).2)]) [] := by
  refine Meets.enterX (E := E) (N := 46) (enc := bursaryref13_Read_enc) (x := (bursaryref13_Read d0 d1 d2 d3 i)) Tryd.func34 Tryd.call34 rfl rfl ?_
  intro Γ k hk
  obtain ⟨hl0, hl1, hw, hm0, hm1, ha⟩ := hD
  refine Go.rx 20 { ws := [(0, { id := 10 })] } [] [1, 2] _ [(1, ti i), (2, .addr 10 0)] [(10, [.sl 1 .shr d0.length (b8s .shr d0), .sl 2 .shr d1.length (fl (fun c : Int × List UInt8 => [ti c.1, .sl 1 .shr c.2.length (u8s c.2)]) d1), ti d2, tb d3])] hk rfl kr .nil ?_
  clear hk; intro k hk
  refine Go.regJ 20 [(1, ti i), (2, .addr 10 0), (16, tb ((decide (i < 0)) || (decide (i ≥ (d0.length : Int)))))] [(10, [.sl 1 .shr d0.length (b8s .shr d0), .sl 2 .shr d1.length (fl (fun c : Int × List UInt8 => [ti c.1, .sl 1 .shr c.2.length (u8s c.2)]) d1), ti d2, tb d3])] hk rfl ?_ ?_
  · clear hk; intro k hk
    refine Go.br 20 (Pf := (PostX Γ bursaryref13_Read_enc)) hk rfl rfl ?_ ?_ <;> clear hk <;> intro ct1 k hk
    · refine Go.rx 20 {} [10] [4, 5] _ [(4, .leaf (.slice none 0 0)), (5, ti 1)] [] hk rfl kr .nil ?_
      clear hk; intro k hk
      exact Go.lvx 20 [] _ [.leaf (.slice none 0 0), ti 1] Tryd.func34 hk rfl kr .nil (T.Le.tup (.cons (T.Le.nil _ _) (.cons (T.Le.of_eq rfl) .nil))) rfl rfl .nil
    · have ct11 : (decide (i < 0)) = false := (Bool.or_eq_false_iff.1 ct1).1
      have ct12 : (decide (i ≥ (d0.length : Int))) = false := (Bool.or_eq_false_iff.1 ct1).2
      have ct11p := of_decide_eq_false ct11
      have ct12p := of_decide_eq_false ct12
      refine Go.rx 20 {} [] [1, 2, 18] _ [(1, ti i), (2, .addr 10 0), (18, tb d3)] [(10, [.sl 1 .shr d0.length (b8s .shr d0), .sl 2 .shr d1.length (fl (fun c : Int × List UInt8 => [ti c.1, .sl 1 .shr c.2.length (u8s c.2)]) d1), ti d2, tb d3])] hk rfl kr .nil ?_
      clear hk; intro k hk
      refine Go.br 20 (Pf := (PostX Γ bursaryref13_Read_enc)) hk rfl rfl ?_ ?_ <;> clear hk <;> intro ct2 k hk
      · refine Go.rx 20 {} [10] [4, 5] _ [(4, .leaf (.slice none 0 0)), (5, ti 23)] [] hk rfl kr .nil ?_
        clear hk; intro k hk
        exact Go.lvx 20 [] _ [.leaf (.slice none 0 0), ti 23] Tryd.func34 hk rfl kr .nil (T.Le.tup (.cons (T.Le.nil _ _) (.cons (T.Le.of_eq rfl) .nil))) rfl rfl .nil
      · refine Go.rx 20 { ws := [(4, { v := some (.sl 1 .shr (d0.getD i.toNat []).length (u8s (d0.getD i.toNat []))) })] } [] [1, 2, 6] _ [(1, ti i), (2, .addr 10 0), (6, .sl 1 .shr (d0.getD i.toNat []).length (u8s (d0.getD i.toNat [])))] [(10, [.sl 1 .shr d0.length (b8s .shr d0), .sl 2 .shr d1.length (fl (fun c : Int × List UInt8 => [ti c.1, .sl 1 .shr c.2.length (u8s c.2)]) d1), ti d2, tb d3])] hk rfl kr (.cons (om : 0 ≤ (i : Int) ∧ (i : Int) < ((d0.length : Nat) : Int)) (.cons (part1 (kr : (E.ti 22).agg = false) (mp_get (g := (fun c : List UInt8 => tl .shr c)) (k := i.toNat * 1) (n := i.toNat) d0 [] (by omega) om)) .nil)) ?_
        clear hk; intro k hk
        refine Go.rx 20 {} [] [1, 2, 6, 7] _ [(1, ti i), (2, .addr 10 0), (6, .sl 1 .shr (d0.getD i.toNat []).length (u8s (d0.getD i.toNat []))), (7, ti 0)] [(10, [.sl 1 .shr d0.length (b8s .shr d0), .sl 2 .shr d1.length (fl (fun c : Int × List UInt8 => [ti c.1, .sl 1 .shr c.2.length (u8s c.2)]) d1), ti d2, tb d3])] hk rfl kr .nil ?_
        clear hk; intro k hk
        refine Go.loopX 20 hk rfl ?_
        clear hk; intro kl1 kxl1 hl1 hxl1
        have Xl1 : ∀ (b2 : List UInt8), Go E Γ 34 46 [] ((PostX Γ bursaryref13_Read_enc) (bursaryref13_Read_k1 b2)) kxl1 (stL [(6, .sl 1 .shr b2.length (u8s b2))] [(10, [.sl 1 .shr d0.length (b8s .shr d0), .sl 2 .shr d1.length (fl (fun c : Int × List UInt8 => [ti c.1, .sl 1 .shr c.2.length (u8s c.2)]) d1), ti d2, tb d3])]) := by
          intro b2
          refine Go.rx 20 {} [10] [4, 5] _ [(4, .sl 1 .shr b2.length (u8s b2)), (5, ti 0)] [] hxl1 rfl kr .nil ?_
          clear hxl1; intro kxl1 hxl1
          exact Go.lvx 20 [] _ [.sl 1 .shr b2.length (u8s b2), ti 0] Tryd.func34 hxl1 rfl kr .nil (T.Le.tup (.cons (T.Le.of_eq rfl) (.cons (T.Le.of_eq rfl) .nil))) rfl rfl .nil
        have Ll1 : ∀ (ml1 : Nat) (b1 : List UInt8) (k1 : Int), (0 ≤ k1) → (((d1.length : Int) - k1).toNat < ml1) → Go E Γ 34 46 [] ((PostX Γ bursaryref13_Read_enc) (Lo.el (bursaryref13_Read_l1 d1 i ml1 b1 k1) (fun z : List UInt8 => bursaryref13_Read_k1 z))) kl1 (stL [(1, ti i), (2, .addr 10 0), (6, .sl 1 .shr b1.length (u8s b1)), (7, ti k1)] [(10, [.sl 1 .shr d0.length (b8s .shr d0), .sl 2 .shr d1.length (fl (fun c : Int × List UInt8 => [ti c.1, .sl 1 .shr c.2.length (u8s c.2)]) d1), ti d2, tb d3])]) := by
          intro ml1
          induction ml1 with
          | zero => intro b1 k1 i0l1 hml1; exact absurd hml1 (Nat.not_lt_zero _)
          | succ ml1 ihl1 =>
            intro b1 k1 i0l1 hml1
            rw [bursaryref13_Read_l1]
            refine Go.round hl1 ?_
            intro k hk
            refine Go.rx 20 {} [] [1, 2, 6, 7, 28] _ [(1, ti i), (2, .addr 10 0), (6, .sl 1 .shr b1.length (u8s b1)), (7, ti k1), (28, tb (decide (k1 < (d1.length : Int))))] [(10, [.sl 1 .shr d0.length (b8s .shr d0), .sl 2 .shr d1.length (fl (fun c : Int × List UInt8 => [ti c.1, .sl 1 .shr c.2.length (u8s c.2)]) d1), ti d2, tb d3])] hk rfl kr (.cons trivial .nil) ?_
            clear hk; intro k hk
            refine Go.br 20 (Pf := (fun z : Lo (List UInt8) (List UInt8 × Int) => (PostX Γ bursaryref13_Read_enc) (Lo.el z (fun z : List UInt8 => bursaryref13_Read_k1 z)))) hk rfl rfl ?_ ?_ <;> clear hk <;> intro ct3 k hk
            · have ct3p := of_decide_eq_true ct3
              refine Go.rx 20 { ws := [(5, { v := some (ti ((d1.getD k1.toNat ((0, []) : Int × List UInt8)).1)) })] } [] [1, 2, 6, 7, 38] _ [(1, ti i), (2, .addr 10 0), (6, .sl 1 .shr b1.length (u8s b1)), (7, ti k1), (38, tb (((d1.getD k1.toNat ((0, []) : Int × List UInt8)).1) == i))] [(10, [.sl 1 .shr d0.length (b8s .shr d0), .sl 2 .shr d1.length (fl (fun c : Int × List UInt8 => [ti c.1, .sl 1 .shr c.2.length (u8s c.2)]) d1), ti d2, tb d3])] hk rfl kr (.cons (om : 0 ≤ (k1 : Int) ∧ (k1 : Int) < ((d1.length : Nat) : Int)) (.cons (fl_part1 (g := (fun c : Int × List UInt8 => [ti c.1, .sl 1 .shr c.2.length (u8s c.2)])) (m := 2) (k := k1.toNat * 2 + 0) (n := k1.toNat) (j := 0) (l := d1) (d := ((0, []) : Int × List UInt8)) (kr : (E.ti 3).agg = false) (fun _ => rfl) rfl (by decide) om rfl) (.cons trivial .nil))) ?_
              clear hk; intro k hk
              refine Go.condJ 20 [(1, ti i), (2, .addr 10 0), (6, .sl 1 .shr (bif ((d1.getD k1.toNat ((0, []) : Int × List UInt8)).1) == i then (d1.getD k1.toNat ((0, []) : Int × List UInt8)).2 else b1).length (u8s (bif ((d1.getD k1.toNat ((0, []) : Int × List UInt8)).1) == i then (d1.getD k1.toNat ((0, []) : Int × List UInt8)).2 else b1))), (7, ti k1)] [(10, [.sl 1 .shr d0.length (b8s .shr d0), .sl 2 .shr d1.length (fl (fun c : Int × List UInt8 => [ti c.1, .sl 1 .shr c.2.length (u8s c.2)]) d1), ti d2, tb d3])] hk rfl rfl ?_ ?_ ?_
              · clear hk; intro k hk
                refine Go.bnd (Pf := (fun z : Lo (List UInt8) (List UInt8 × Int) => (PostX Γ bursaryref13_Read_enc) (Lo.el z (fun z : List UInt8 => bursaryref13_Read_k1 z)))) (v := (bif ((d1.getD k1.toNat ((0, []) : Int × List UInt8)).1) == i then (d1.getD k1.toNat ((0, []) : Int × List UInt8)).2 else b1)) (fun y1 => [(1, ti i), (2, .addr 10 0), (6, .sl 1 .shr y1.length (u8s y1)), (7, ti k1)]) (fun y1 => [(10, [.sl 1 .shr d0.length (b8s .shr d0), .sl 2 .shr d1.length (fl (fun c : Int × List UInt8 => [ti c.1, .sl 1 .shr c.2.length (u8s c.2)]) d1), ti d2, tb d3])]) ?_
                intro y1 hy1
                refine Go.rx 20 { ws := [(1, { v := some (ti (k1 + 1)) })] } [] [1, 2, 6, 7] _ [(1, ti i), (2, .addr 10 0), (6, .sl 1 .shr y1.length (u8s y1)), (7, ti (k1 + 1))] [(10, [.sl 1 .shr d0.length (b8s .shr d0), .sl 2 .shr d1.length (fl (fun c : Int × List UInt8 => [ti c.1, .sl 1 .shr c.2.length (u8s c.2)]) d1), ti d2, tb d3])] hk rfl kr (.cons trivial (.cons (iw (k1 + 1) om) .nil)) ?_
                clear hk; intro k hk
                exact Go.join 20 hk hl1 rfl (ihl1 y1 (k1 + 1) om om)
              · clear hk; intro Jct4 ct4 k hk
                have ct4p := eqIt ct4
                refine Go.rx 20 { ws := [(5, { v := some (.sl 1 .shr ((d1.getD k1.toNat ((0, []) : Int × List UInt8)).2).length (u8s ((d1.getD k1.toNat ((0, []) : Int × List UInt8)).2))) })] } [] [1, 2, 6, 7] _ [(1, ti i), (2, .addr 10 0), (6, .sl 1 .shr ((d1.getD k1.toNat ((0, []) : Int × List UInt8)).2).length (u8s ((d1.getD k1.toNat ((0, []) : Int × List UInt8)).2))), (7, ti k1)] [(10, [.sl 1 .shr d0.length (b8s .shr d0), .sl 2 .shr d1.length (fl (fun c : Int × List UInt8 => [ti c.1, .sl 1 .shr c.2.length (u8s c.2)]) d1), ti d2, tb d3])] hk rfl kr (.cons (om : 0 ≤ (k1 : Int) ∧ (k1 : Int) < ((d1.length : Nat) : Int)) (.cons (fl_part1 (g := (fun c : Int × List UInt8 => [ti c.1, .sl 1 .shr c.2.length (u8s c.2)])) (m := 2) (k := k1.toNat * 2 + 1) (n := k1.toNat) (j := 1) (l := d1) (d := ((0, []) : Int × List UInt8)) (kr : (E.ti 22).agg = false) (fun _ => rfl) rfl (by decide) om rfl) .nil)) ?_
                clear hk; intro k hk
                refine Go.slotEq 6 (.sl 1 .shr (bif ((d1.getD k1.toNat ((0, []) : Int × List UInt8)).1) == i then (d1.getD k1.toNat ((0, []) : Int × List UInt8)).2 else b1).length (u8s (bif ((d1.getD k1.toNat ((0, []) : Int × List UInt8)).1) == i then (d1.getD k1.toNat ((0, []) : Int × List UInt8)).2 else b1))) rfl (congrArg (fun z => (.sl 1 .shr z.length (u8s z) : T)) (condT ct4).symm) ?_
                exact Go.joinJ 20 hk Jct4 rfl
              · clear hk; intro Jct4 ct4 k hk
                have ct4p := eqIf ct4
                refine Go.keepN [1, 2, 6, 7] (L' := [(1, ti i), (2, .addr 10 0), (6, .sl 1 .shr b1.length (u8s b1)), (7, ti k1)]) rfl ?_
                refine Go.slotEq 6 (.sl 1 .shr (bif ((d1.getD k1.toNat ((0, []) : Int × List UInt8)).1) == i then (d1.getD k1.toNat ((0, []) : Int × List UInt8)).2 else b1).length (u8s (bif ((d1.getD k1.toNat ((0, []) : Int × List UInt8)).1) == i then (d1.getD k1.toNat ((0, []) : Int × List UInt8)).2 else b1))) rfl (congrArg (fun z => (.sl 1 .shr z.length (u8s z) : T)) (condF ct4).symm) ?_
                exact Go.joinJ 20 hk Jct4 rfl
            · have ct3p := of_decide_eq_false ct3
              refine Go.keepN [6] (L' := [(6, .sl 1 .shr b1.length (u8s b1))]) rfl ?_
              exact Go.exitX (Pf := (PostX Γ bursaryref13_Read_enc)) (F := fun z : List UInt8 => bursaryref13_Read_k1 z) (a := b1) (Go.join 20 hk hxl1 rfl (Xl1 b1))
        exact Ll1 _ (d0.getD i.toNat []) 0 om (Nat.lt_succ_self _)
  · intro hk J
    rcases Bool.eq_false_or_eq_true (decide (i < 0)) with gd1 | gd1
    · have gd1p := of_decide_eq_true gd1
      refine Go.rx 20 { ws := [(1, { v := some (tb true) })] } [] [1, 2, 16] _ [(1, ti i), (2, .addr 10 0), (16, tb true)] [(10, [.sl 1 .shr d0.length (b8s .shr d0), .sl 2 .shr d1.length (fl (fun c : Int × List UInt8 => [ti c.1, .sl 1 .shr c.2.length (u8s c.2)]) d1), ti d2, tb d3])] hk rfl kr (.cons trivial (.cons (eb gd1) .nil)) ?_
      intro k' hk'
      refine Go.slotEq 16 (tb ((decide (i < 0)) || (decide (i ≥ (d0.length : Int))))) rfl (eb (orT gd1).symm) ?_
      exact J k' hk'
    · have gd1p := of_decide_eq_false gd1
      refine Go.rx 20 { ws := [(1, { v := some (tb false) })] } [] [1, 2, 16] _ [(1, ti i), (2, .addr 10 0), (16, tb (decide (i ≥ (d0.length : Int))))] [(10, [.sl 1 .shr d0.length (b8s .shr d0), .sl 2 .shr d1.length (fl (fun c : Int × List UInt8 => [ti c.1, .sl 1 .shr c.2.length (u8s c.2)]) d1), ti d2, tb d3])] hk rfl kr (.cons trivial (.cons (eb gd1) (.cons trivial .nil))) ?_
      intro k' hk'
      refine Go.slotEq 16 (tb ((decide (i < 0)) || (decide (i ≥ (d0.length : Int))))) rfl (eb (orF gd1 rfl).symm) ?_
      exact J k' hk'
theorem bursaryref13_Read_l1_gen : True := by have := @bursaryref13_Read_l1.eq_1; have := @bursaryref13_Read_l1.eq_2; trivial
attribute [irreducible] bursaryref13_Read_k1 bursaryref13_Read_l1 bursaryref13_Read
noncomputable def bursaryref13_Put (d0 : List (List UInt8)) (d1 : List (Int × List UInt8)) (d2 : Int) (d3 : Bool) (i : Int) (b : List UInt8) : (List (List UInt8) × (List (Int × List UInt8)) × Int × Bool) × Int :=
  bif (decide (i < 0)) || ((decide (i ≥ (d0.length : Int))) || ((b.length : Int) != 64)) then
    ((d0, d1, d2, d3), 1)
  else
    bnd (bursaryref13_step d0 d1 d2 d3) fun x1 =>
    bif x1.2.2.2 then
      ((x1.1, x1.2.1, x1.2.2.1, x1.2.2.2), 23)
    else
      ((x1.1, x1.2.1 ++ [(i, b)], x1.2.2.1, x1.2.2.2), 0)
def bursaryref13_Put_enc (x : (List (List UInt8) × (List (Int × List UInt8)) × Int × Bool) × Int) : T × List (Nat × List T) := (.tup [.agg ([.sl 1 .shr x.1.1.length (b8s .shr x.1.1), .sl 2 .shr x.1.2.1.length (fl (fun c : Int × List UInt8 => [ti c.1, .sl 1 .shr c.2.length (u8s c.2)]) x.1.2.1), ti x.1.2.2.1, tb x.1.2.2.2]), ti x.2], [])
theorem bursaryref13_Put_m (d0 : List (List UInt8)) (d1 : List (Int × List UInt8)) (d2 : Int) (d3 : Bool) (i : Int) (b : List UInt8) (hD : okD 1000 d0 d1 d2) : Meets Tryd.prog 33 [.agg ([.sl 1 .shr d0.length (b8s .shr d0), .sl 2 .shr d1.length (fl (fun c : Int × List UInt8 => [ti c.1, .sl 1 .shr c.2.length (u8s c.2)]) d1), ti d2, tb d3]), ti i, .sl 1 .shr b.length (u8s b)] [] [] (.tup [.agg ([.sl 1 .shr (((bursaryref13_Put d0 d1 d2 d3 i b).1).1).length (b8s .shr (((bursaryref13_Put d0 d1 d2 d3 i b).1).1)), .sl 2 .shr (((bursaryref13_Put d0 d1 d2 d3 i b).1).2.1).length (fl (fun c : Int × List UInt8 => [ti c.1, .sl 1 .shr c.2.length (u8s c.2)]) (((bursaryref13_Put d0 d1 d2 d3 i b).1).2.1)), ti (((bursaryref13_Put d0 d1 d2 d3 i b).1).2.2.1), tb (((bursaryref13_Put d0 d1 d2 d3 i b).1).2.2.2)]), ti ((bursaryref13_Put d0 d1 d2 d3 i b).2)]) [] := by
  refine Meets.enterX (E := E) (N := 44) (enc := bursaryref13_Put_enc) (x := (bursaryref13_Put d0 d1 d2 d3 i b)) Tryd.func33 Tryd.call33 rfl rfl ?_
  intro Γ k hk
  obtain ⟨hl0, hl1, hw, hm0, hm1, ha⟩ := hD
  refine Go.rx 20 { ws := [(0, { id := 10 }), (1, { id := 11 })] } [] [1, 2, 3, 6] _ [(1, ti i), (2, .sl 1 .shr b.length (u8s b)), (3, .addr 10 0), (6, .addr 11 0)] [(10, [.sl 1 .shr d0.length (b8s .shr d0), .sl 2 .shr d1.length (fl (fun c : Int × List UInt8 => [ti c.1, .sl 1 .shr c.2.length (u8s c.2)]) d1), ti d2, tb d3]), (11, [.leaf (.slice none 0 0), .leaf (.slice none 0 0), ti 0, tb false])] hk rfl kr .nil ?_
  clear hk; intro k hk
  refine Go.regJ 20 [(1, ti i), (2, .sl 1 .shr b.length (u8s b)), (3, .addr 10 0), (6, .addr 11 0), (21, tb ((decide (i < 0)) || ((decide (i ≥ (d0.length : Int))) || ((b.length : Int) != 64))))] [(10, [.sl 1 .shr d0.length (b8s .shr d0), .sl 2 .shr d1.length (fl (fun c : Int × List UInt8 => [ti c.1, .sl 1 .shr c.2.length (u8s c.2)]) d1), ti d2, tb d3]), (11, [.leaf (.slice none 0 0), .leaf (.slice none 0 0), ti 0, tb false])] hk rfl ?_ ?_
  · clear hk; intro k hk
    refine Go.br 20 (Pf := (PostX Γ bursaryref13_Put_enc)) hk rfl rfl ?_ ?_ <;> clear hk <;> intro ct1 k hk
    · refine Go.rx 20 {} [10] [6, 7] _ [(6, .addr 11 0), (7, ti 1)] [(11, [.sl 1 .shr d0.length (b8s .shr d0), .sl 2 .shr d1.length (fl (fun c : Int × List UInt8 => [ti c.1, .sl 1 .shr c.2.length (u8s c.2)]) d1), ti d2, tb d3])] hk rfl kr .nil ?_
      clear hk; intro k hk
      exact Go.lvx 20 [] _ [.agg ([.sl 1 .shr d0.length (b8s .shr d0), .sl 2 .shr d1.length (fl (fun c : Int × List UInt8 => [ti c.1, .sl 1 .shr c.2.length (u8s c.2)]) d1), ti d2, tb d3]), ti 1] Tryd.func33 hk rfl kr (.cons (by decide : 0 + 4 ≤ 4) .nil) (T.Le.tup (.cons (T.Le.of_eq rfl) (.cons (T.Le.of_eq rfl) .nil))) rfl rfl .nil
    · have ct11 : (decide (i < 0)) = false := (Bool.or_eq_false_iff.1 ct1).1
      have ct12 : ((decide (i ≥ (d0.length : Int))) || ((b.length : Int) != 64)) = false := (Bool.or_eq_false_iff.1 ct1).2
      have ct11p := of_decide_eq_false ct11
      have ct121 : (decide (i ≥ (d0.length : Int))) = false := (Bool.or_eq_false_iff.1 ct12).1
      have ct122 : ((b.length : Int) != 64) = false := (Bool.or_eq_false_iff.1 ct12).2
      have ct121p := of_decide_eq_false ct121
      have ct122p := neIf ct122
      refine Go.rx 20 { ws := [(1, { call := some { ids := [], S := [], M := [], R := .agg ([.sl 1 .shr ((bursaryref13_step d0 d1 d2 d3).1).length (b8s .shr ((bursaryref13_step d0 d1 d2 d3).1)), .sl 2 .shr ((bursaryref13_step d0 d1 d2 d3).2.1).length (fl (fun c : Int × List UInt8 => [ti c.1, .sl 1 .shr c.2.length (u8s c.2)]) ((bursaryref13_step d0 d1 d2 d3).2.1)), ti ((bursaryref13_step d0 d1 d2 d3).2.2.1), tb ((bursaryref13_step d0 d1 d2 d3).2.2.2)]), H' := [] } })] } [] [1, 2, 3, 6] _ [(1, ti i), (2, .sl 1 .shr b.length (u8s b)), (3, .addr 10 0), (6, .addr 11 0)] [(10, [.sl 1 .shr ((bursaryref13_step d0 d1 d2 d3).1).length (b8s .shr ((bursaryref13_step d0 d1 d2 d3).1)), .sl 2 .shr ((bursaryref13_step d0 d1 d2 d3).2.1).length (fl (fun c : Int × List UInt8 => [ti c.1, .sl 1 .shr c.2.length (u8s c.2)]) ((bursaryref13_step d0 d1 d2 d3).2.1)), ti ((bursaryref13_step d0 d1 d2 d3).2.2.1), tb ((bursaryref13_step d0 d1 d2 d3).2.2.2)]), (11, [.leaf (.slice none 0 0), .leaf (.slice none 0 0), ti 0, tb false])] hk rfl kr (.cons (bursaryref13_step_m d0 d1 d2 d3 (by first | omega | (rw [fx11]; omega) | (simp <;> omega))) (.cons (sb : subN (idsL [.agg ([.sl 1 .shr d0.length (b8s .shr d0), .sl 2 .shr d1.length (fl (fun c : Int × List UInt8 => [ti c.1, .sl 1 .shr c.2.length (u8s c.2)]) d1), ti d2, tb d3])]) [] = true) .nil)) ?_
      clear hk; intro k hk
      refine Go.bnd (Pf := (PostX Γ bursaryref13_Put_enc)) (v := (bursaryref13_step d0 d1 d2 d3)) (fun x1 => [(1, ti i), (2, .sl 1 .shr b.length (u8s b)), (3, .addr 10 0), (6, .addr 11 0)]) (fun x1 => [(10, [.sl 1 .shr x1.1.length (b8s .shr x1.1), .sl 2 .shr x1.2.1.length (fl (fun c : Int × List UInt8 => [ti c.1, .sl 1 .shr c.2.length (u8s c.2)]) x1.2.1), ti x1.2.2.1, tb x1.2.2.2]), (11, [.leaf (.slice none 0 0), .leaf (.slice none 0 0), ti 0, tb false])]) ?_
      intro x1 hx1
      have fx1 := rstep_fact d0 d1 d2 d3
      rw [← hx1] at fx1
      obtain ⟨fx10, fx11⟩ := fx1
      refine Go.rx 20 {} [] [1, 2, 3, 6, 26] _ [(1, ti i), (2, .sl 1 .shr b.length (u8s b)), (3, .addr 10 0), (6, .addr 11 0), (26, tb x1.2.2.2)] [(10, [.sl 1 .shr x1.1.length (b8s .shr x1.1), .sl 2 .shr x1.2.1.length (fl (fun c : Int × List UInt8 => [ti c.1, .sl 1 .shr c.2.length (u8s c.2)]) x1.2.1), ti x1.2.2.1, tb x1.2.2.2]), (11, [.leaf (.slice none 0 0), .leaf (.slice none 0 0), ti 0, tb false])] hk rfl kr .nil ?_
      clear hk; intro k hk
      refine Go.br 20 (Pf := (PostX Γ bursaryref13_Put_enc)) hk rfl rfl ?_ ?_ <;> clear hk <;> intro ct2 k hk
      · refine Go.rx 20 {} [10] [6, 7] _ [(6, .addr 11 0), (7, ti 23)] [(11, [.sl 1 .shr x1.1.length (b8s .shr x1.1), .sl 2 .shr x1.2.1.length (fl (fun c : Int × List UInt8 => [ti c.1, .sl 1 .shr c.2.length (u8s c.2)]) x1.2.1), ti x1.2.2.1, tb x1.2.2.2])] hk rfl kr .nil ?_
        clear hk; intro k hk
        exact Go.lvx 20 [] _ [.agg ([.sl 1 .shr x1.1.length (b8s .shr x1.1), .sl 2 .shr x1.2.1.length (fl (fun c : Int × List UInt8 => [ti c.1, .sl 1 .shr c.2.length (u8s c.2)]) x1.2.1), ti x1.2.2.1, tb x1.2.2.2]), ti 23] Tryd.func33 hk rfl kr (.cons (by decide : 0 + 4 ≤ 4) .nil) (T.Le.tup (.cons (T.Le.of_eq rfl) (.cons (T.Le.of_eq rfl) .nil))) rfl rfl .nil
      · refine Go.rx 20 { ws := [(8, { v := some (.xl 2 .shr x1.2.1.length (fl (fun c : Int × List UInt8 => [ti c.1, .sl 1 .shr c.2.length (u8s c.2)]) x1.2.1)), gv := true }), (12, { id := 12 }), (13, { v := some (.ref 13 2 0 ((x1.2.1 ++ [(i, b)]).length)), c := some (fl (fun c : Int × List UInt8 => [ti c.1, .sl 1 .shr c.2.length (u8s c.2)]) (x1.2.1 ++ [(i, b)])), id := 13 })], pg := [13] } [12] [3, 6] _ [(3, .addr 10 0), (6, .addr 11 0)] [(10, [.sl 1 .shr x1.1.length (b8s .shr x1.1), .ref 13 2 0 ((x1.2.1 ++ [(i, b)]).length), ti x1.2.2.1, tb x1.2.2.2]), (11, [.leaf (.slice none 0 0), .leaf (.slice none 0 0), ti 0, tb false]), (13, fl (fun c : Int × List UInt8 => [ti c.1, .sl 1 .shr c.2.length (u8s c.2)]) (x1.2.1 ++ [(i, b)]))] hk rfl kr (.cons (by first | omega | (rw [fx11]; omega) | (simp <;> omega) : 0 ≤ (0 : Int) ∧ (0 : Int) ≤ (x1.2.1.length : Int) ∧ (x1.2.1.length : Int) ≤ (x1.2.1.length : Int) ∧ (x1.2.1.length : Int) ≤ (x1.2.1.length : Nat)) (.cons (rfl : ((x1.2.1.length : Int)).toNat = ((x1.2.1.length : Int)).toNat) (.cons (fl_xl (t := .shr) (g := (fun c : Int × List UInt8 => [ti c.1, .sl 1 .shr c.2.length (u8s c.2)])) (m := 2) (fun _ => rfl) x1.2.1 rfl rfl) (.cons (by exact ⟨by decide, by first | omega | (rw [fx11]; omega) | (simp <;> omega)⟩ : (0 : Nat) < 1 ∧ (x1.2.1.length + 1) * 32 ≤ 140737488355328) (.cons (fl_xapp (g := (fun c : Int × List UInt8 => [ti c.1, .sl 1 .shr c.2.length (u8s c.2)])) x1.2.1 [(i, b)] rfl) (.cons (congrArg (fun q => T.ref 13 2 0 q) (by simp <;> omega : x1.2.1.length + 1 = (x1.2.1 ++ [(i, b)]).length) : T.ref 13 2 0 (x1.2.1.length + 1) = .ref 13 2 0 ((x1.2.1 ++ [(i, b)]).length)) (.cons (fl_mem (i := 12) (g := (fun c : Int × List UInt8 => [ti c.1, .sl 1 .shr c.2.length (u8s c.2)])) (x1.2.1 ++ [(i, b)]) (fun _ => rfl)) .nil))))))) ?_
        clear hk; intro k hk
        refine Go.frzC [] [] 10 1 13 (fl (fun c : Int × List UInt8 => [ti c.1, .sl 1 .shr c.2.length (u8s c.2)]) (x1.2.1 ++ [(i, b)])) ([.sl 1 .shr x1.1.length (b8s .shr x1.1), .sl 2 .shr (x1.2.1 ++ [(i, b)]).length (fl (fun c : Int × List UInt8 => [ti c.1, .sl 1 .shr c.2.length (u8s c.2)]) (x1.2.1 ++ [(i, b)])), ti x1.2.2.1, tb x1.2.2.2]) _ [(3, .addr 10 0), (6, .addr 11 0)] [(10, [.sl 1 .shr x1.1.length (b8s .shr x1.1), .dead, ti x1.2.2.1, tb x1.2.2.2]), (11, [.leaf (.slice none 0 0), .leaf (.slice none 0 0), ti 0, tb false])] rfl rfl rfl rfl (fl_ids (g := (fun c : Int × List UInt8 => [ti c.1, .sl 1 .shr c.2.length (u8s c.2)])) (fun _ => rfl) (x1.2.1 ++ [(i, b)])) qh7_6 (fl_all (g := (fun c : Int × List UInt8 => [ti c.1, .sl 1 .shr c.2.length (u8s c.2)])) (m := 2) (fun _ => rfl) (x1.2.1 ++ [(i, b)])) kr .nil rfl rfl ?_
        refine Go.rx 20 {} [10] [6, 7] _ [(6, .addr 11 0), (7, ti 0)] [(11, [.sl 1 .shr x1.1.length (b8s .shr x1.1), .sl 2 .shr (x1.2.1 ++ [(i, b)]).length (fl (fun c : Int × List UInt8 => [ti c.1, .sl 1 .shr c.2.length (u8s c.2)]) (x1.2.1 ++ [(i, b)])), ti x1.2.2.1, tb x1.2.2.2])] hk rfl kr .nil ?_
        clear hk; intro k hk
        exact Go.lvx 20 [] _ [.agg ([.sl 1 .shr x1.1.length (b8s .shr x1.1), .sl 2 .shr (x1.2.1 ++ [(i, b)]).length (fl (fun c : Int × List UInt8 => [ti c.1, .sl 1 .shr c.2.length (u8s c.2)]) (x1.2.1 ++ [(i, b)])), ti x1.2.2.1, tb x1.2.2.2]), ti 0] Tryd.func33 hk rfl kr (.cons (by decide : 0 + 4 ≤ 4) .nil) (T.Le.tup (.cons (T.Le.of_eq rfl) (.cons (T.Le.of_eq rfl) .nil))) rfl rfl .nil
  · intro hk J
    rcases Bool.eq_false_or_eq_true (decide (i < 0)) with gd1 | gd1
    · have gd1p := of_decide_eq_true gd1
      refine Go.rx 20 { ws := [(1, { v := some (tb true) })] } [] [1, 2, 3, 6, 21] _ [(1, ti i), (2, .sl 1 .shr b.length (u8s b)), (3, .addr 10 0), (6, .addr 11 0), (21, tb true)] [(10, [.sl 1 .shr d0.length (b8s .shr d0), .sl 2 .shr d1.length (fl (fun c : Int × List UInt8 => [ti c.1, .sl 1 .shr c.2.length (u8s c.2)]) d1), ti d2, tb d3]), (11, [.leaf (.slice none 0 0), .leaf (.slice none 0 0), ti 0, tb false])] hk rfl kr (.cons trivial (.cons (eb gd1) .nil)) ?_
      intro k' hk'
      refine Go.slotEq 21 (tb ((decide (i < 0)) || ((decide (i ≥ (d0.length : Int))) || ((b.length : Int) != 64)))) rfl (eb (orT gd1).symm) ?_
      exact J k' hk'
    · have gd1p := of_decide_eq_false gd1
      rcases Bool.eq_false_or_eq_true (decide (i ≥ (d0.length : Int))) with gd2 | gd2
      · have gd2p := of_decide_eq_true gd2
        refine Go.rx 20 { ws := [(1, { v := some (tb false) }), (7, { v := some (tb true) })] } [] [1, 2, 3, 6, 21] _ [(1, ti i), (2, .sl 1 .shr b.length (u8s b)), (3, .addr 10 0), (6, .addr 11 0), (21, tb true)] [(10, [.sl 1 .shr d0.length (b8s .shr d0), .sl 2 .shr d1.length (fl (fun c : Int × List UInt8 => [ti c.1, .sl 1 .shr c.2.length (u8s c.2)]) d1), ti d2, tb d3]), (11, [.leaf (.slice none 0 0), .leaf (.slice none 0 0), ti 0, tb false])] hk rfl kr (.cons trivial (.cons (eb gd1) (.cons trivial (.cons (eb gd2) .nil)))) ?_
        intro k' hk'
        refine Go.slotEq 21 (tb ((decide (i < 0)) || ((decide (i ≥ (d0.length : Int))) || ((b.length : Int) != 64)))) rfl (eb (orF gd1 (orT gd2)).symm) ?_
        exact J k' hk'
      · have gd2p := of_decide_eq_false gd2
        refine Go.rx 20 { ws := [(1, { v := some (tb false) }), (7, { v := some (tb false) })] } [] [1, 2, 3, 6, 21] _ [(1, ti i), (2, .sl 1 .shr b.length (u8s b)), (3, .addr 10 0), (6, .addr 11 0), (21, tb ((b.length : Int) != 64))] [(10, [.sl 1 .shr d0.length (b8s .shr d0), .sl 2 .shr d1.length (fl (fun c : Int × List UInt8 => [ti c.1, .sl 1 .shr c.2.length (u8s c.2)]) d1), ti d2, tb d3]), (11, [.leaf (.slice none 0 0), .leaf (.slice none 0 0), ti 0, tb false])] hk rfl kr (.cons trivial (.cons (eb gd1) (.cons trivial (.cons (eb gd2) (.cons trivial .nil))))) ?_
        intro k' hk'
        refine Go.slotEq 21 (tb ((decide (i < 0)) || ((decide (i ≥ (d0.length : Int))) || ((b.length : Int) != 64)))) rfl (eb (orF gd1 (orF gd2 rfl)).symm) ?_
        exact J k' hk'
attribute [irreducible] bursaryref13_Put
noncomputable def bursaryref13_Sync_k1 (x1 : (List (List UInt8) × (List (Int × List UInt8)) × Int × Bool)) (c10_0_2 : List (List UInt8)) : (List (List UInt8) × (List (Int × List UInt8)) × Int × Bool) × Int :=
  ((c10_0_2, [], x1.2.2.1, x1.2.2.2), 0)
noncomputable def bursaryref13_Sync_l1 (x1 : (List (List UInt8) × (List (Int × List UInt8)) × Int × Bool)) : Nat → Int → (List (List UInt8)) → Lo (List (List UInt8)) ((List (List UInt8) × (List (Int × List UInt8)) × Int × Bool) × Int)
  | 0, _, _ => .brk default
  | ml1 + 1, k1, c10_0_1 =>
    bif decide (k1 < (x1.2.1.length : Int)) then
      bnd (bursaryref13_with c10_0_1 ((x1.2.1.getD k1.toNat ((0, []) : Int × List UInt8)).1) ((x1.2.1.getD k1.toNat ((0, []) : Int × List UInt8)).2)) fun x2 =>
      bursaryref13_Sync_l1 x1 ml1 (k1 + 1) x2
    else
      Lo.brk c10_0_1
noncomputable def bursaryref13_Sync (d0 : List (List UInt8)) (d1 : List (Int × List UInt8)) (d2 : Int) (d3 : Bool) : (List (List UInt8) × (List (Int × List UInt8)) × Int × Bool) × Int :=
  bnd (bursaryref13_step d0 d1 d2 d3) fun x1 =>
  bif x1.2.2.2 then
    ((x1.1, x1.2.1, x1.2.2.1, x1.2.2.2), 23)
  else
    Lo.el (bursaryref13_Sync_l1 x1 (((x1.2.1.length : Int) - (0 : Int)).toNat + 1) 0 x1.1) (fun z : List (List UInt8) => bursaryref13_Sync_k1 x1 z)
def bursaryref13_Sync_enc (x : (List (List UInt8) × (List (Int × List UInt8)) × Int × Bool) × Int) : T × List (Nat × List T) := (.tup [.agg ([.sl 1 .shr x.1.1.length (b8s .shr x.1.1), .sl 2 .shr x.1.2.1.length (fl (fun c : Int × List UInt8 => [ti c.1, .sl 1 .shr c.2.length (u8s c.2)]) x.1.2.1), ti x.1.2.2.1, tb x.1.2.2.2]), ti x.2], [])
theorem bursaryref13_Sync_m (d0 : List (List UInt8)) (d1 : List (Int × List UInt8)) (d2 : Int) (d3 : Bool) (hD : okD 1000 d0 d1 d2) : Meets Tryd.prog 30 [.agg ([.sl 1 .shr d0.length (b8s .shr d0), .sl 2 .shr d1.length (fl (fun c : Int × List UInt8 => [ti c.1, .sl 1 .shr c.2.length (u8s c.2)]) d1), ti d2, tb d3])] [] [] (.tup [.agg ([.sl 1 .shr (((bursaryref13_Sync d0 d1 d2 d3).1).1).length (b8s .shr (((bursaryref13_Sync d0 d1 d2 d3).1).1)), .sl 2 .shr (((bursaryref13_Sync d0 d1 d2 d3).1).2.1).length (fl (fun c : Int × List UInt8 => [ti c.1, .sl 1 .shr c.2.length (u8s c.2)]) (((bursaryref13_Sync d0 d1 d2 d3).1).2.1)), ti (((bursaryref13_Sync d0 d1 d2 d3).1).2.2.1), tb (((bursaryref13_Sync d0 d1 d2 d3).1).2.2.2)]), ti ((bursaryref13_Sync d0 d1 d2 d3).2)]) [] := by
  refine Meets.enterX (E := E) (N := 35) (enc := bursaryref13_Sync_enc) (x := (bursaryref13_Sync d0 d1 d2 d3)) Tryd.func30 Tryd.call30 rfl rfl ?_
  intro Γ k hk
  obtain ⟨hl0, hl1, hw, hm0, hm1, ha⟩ := hD
  refine Go.rx 20 { ws := [(0, { id := 10 }), (1, { id := 11 })] } [] [1, 2] _ [(1, .addr 10 0), (2, .addr 11 0)] [(10, [.sl 1 .shr d0.length (b8s .shr d0), .sl 2 .shr d1.length (fl (fun c : Int × List UInt8 => [ti c.1, .sl 1 .shr c.2.length (u8s c.2)]) d1), ti d2, tb d3]), (11, [.leaf (.slice none 0 0), .leaf (.slice none 0 0), ti 0, tb false])] hk rfl kr .nil ?_
  clear hk; intro k hk
  refine Go.rx 20 { ws := [(1, { call := some { ids := [], S := [], M := [], R := .agg ([.sl 1 .shr ((bursaryref13_step d0 d1 d2 d3).1).length (b8s .shr ((bursaryref13_step d0 d1 d2 d3).1)), .sl 2 .shr ((bursaryref13_step d0 d1 d2 d3).2.1).length (fl (fun c : Int × List UInt8 => [ti c.1, .sl 1 .shr c.2.length (u8s c.2)]) ((bursaryref13_step d0 d1 d2 d3).2.1)), ti ((bursaryref13_step d0 d1 d2 d3).2.2.1), tb ((bursaryref13_step d0 d1 d2 d3).2.2.2)]), H' := [] } })] } [] [1, 2] _ [(1, .addr 10 0), (2, .addr 11 0)] [(10, [.sl 1 .shr ((bursaryref13_step d0 d1 d2 d3).1).length (b8s .shr ((bursaryref13_step d0 d1 d2 d3).1)), .sl 2 .shr ((bursaryref13_step d0 d1 d2 d3).2.1).length (fl (fun c : Int × List UInt8 => [ti c.1, .sl 1 .shr c.2.length (u8s c.2)]) ((bursaryref13_step d0 d1 d2 d3).2.1)), ti ((bursaryref13_step d0 d1 d2 d3).2.2.1), tb ((bursaryref13_step d0 d1 d2 d3).2.2.2)]), (11, [.leaf (.slice none 0 0), .leaf (.slice none 0 0), ti 0, tb false])] hk rfl kr (.cons (bursaryref13_step_m d0 d1 d2 d3 qh7_1) (.cons (sb : subN (idsL [.agg ([.sl 1 .shr d0.length (b8s .shr d0), .sl 2 .shr d1.length (fl (fun c : Int × List UInt8 => [ti c.1, .sl 1 .shr c.2.length (u8s c.2)]) d1), ti d2, tb d3])]) [] = true) .nil)) ?_
  clear hk; intro k hk
  refine Go.bnd (Pf := (PostX Γ bursaryref13_Sync_enc)) (v := (bursaryref13_step d0 d1 d2 d3)) (fun x1 => [(1, .addr 10 0), (2, .addr 11 0)]) (fun x1 => [(10, [.sl 1 .shr x1.1.length (b8s .shr x1.1), .sl 2 .shr x1.2.1.length (fl (fun c : Int × List UInt8 => [ti c.1, .sl 1 .shr c.2.length (u8s c.2)]) x1.2.1), ti x1.2.2.1, tb x1.2.2.2]), (11, [.leaf (.slice none 0 0), .leaf (.slice none 0 0), ti 0, tb false])]) ?_
  intro x1 hx1
  have fx1 := rstep_fact d0 d1 d2 d3
  rw [← hx1] at fx1
  obtain ⟨fx10, fx11⟩ := fx1
  refine Go.rx 20 {} [] [1, 2, 8] _ [(1, .addr 10 0), (2, .addr 11 0), (8, tb x1.2.2.2)] [(10, [.sl 1 .shr x1.1.length (b8s .shr x1.1), .sl 2 .shr x1.2.1.length (fl (fun c : Int × List UInt8 => [ti c.1, .sl 1 .shr c.2.length (u8s c.2)]) x1.2.1), ti x1.2.2.1, tb x1.2.2.2]), (11, [.leaf (.slice none 0 0), .leaf (.slice none 0 0), ti 0, tb false])] hk rfl kr .nil ?_
  clear hk; intro k hk
  refine Go.br 20 (Pf := (PostX Γ bursaryref13_Sync_enc)) hk rfl rfl ?_ ?_ <;> clear hk <;> intro ct1 k hk
  · refine Go.rx 20 {} [10] [2, 3] _ [(2, .addr 11 0), (3, ti 23)] [(11, [.sl 1 .shr x1.1.length (b8s .shr x1.1), .sl 2 .shr x1.2.1.length (fl (fun c : Int × List UInt8 => [ti c.1, .sl 1 .shr c.2.length (u8s c.2)]) x1.2.1), ti x1.2.2.1, tb x1.2.2.2])] hk rfl kr .nil ?_
    clear hk; intro k hk
    exact Go.lvx 20 [] _ [.agg ([.sl 1 .shr x1.1.length (b8s .shr x1.1), .sl 2 .shr x1.2.1.length (fl (fun c : Int × List UInt8 => [ti c.1, .sl 1 .shr c.2.length (u8s c.2)]) x1.2.1), ti x1.2.2.1, tb x1.2.2.2]), ti 23] Tryd.func30 hk rfl kr (.cons (by decide : 0 + 4 ≤ 4) .nil) (T.Le.tup (.cons (T.Le.of_eq rfl) (.cons (T.Le.of_eq rfl) .nil))) rfl rfl .nil
  · refine Go.rx 20 {} [] [1, 2, 4] _ [(1, .addr 10 0), (2, .addr 11 0), (4, ti 0)] [(10, [.sl 1 .shr x1.1.length (b8s .shr x1.1), .sl 2 .shr x1.2.1.length (fl (fun c : Int × List UInt8 => [ti c.1, .sl 1 .shr c.2.length (u8s c.2)]) x1.2.1), ti x1.2.2.1, tb x1.2.2.2]), (11, [.leaf (.slice none 0 0), .leaf (.slice none 0 0), ti 0, tb false])] hk rfl kr .nil ?_
    clear hk; intro k hk
    refine Go.loopX 20 hk rfl ?_
    clear hk; intro kl1 kxl1 hl1 hxl1
    have Xl1 : ∀ (c10_0_2 : List (List UInt8)), Go E Γ 30 35 [] ((PostX Γ bursaryref13_Sync_enc) (bursaryref13_Sync_k1 x1 c10_0_2)) kxl1 (stL [(1, .addr 10 0), (2, .addr 11 0)] [(10, [.sl 1 .shr c10_0_2.length (b8s .shr c10_0_2), .sl 2 .shr x1.2.1.length (fl (fun c : Int × List UInt8 => [ti c.1, .sl 1 .shr c.2.length (u8s c.2)]) x1.2.1), ti x1.2.2.1, tb x1.2.2.2]), (11, [.leaf (.slice none 0 0), .leaf (.slice none 0 0), ti 0, tb false])]) := by
      intro c10_0_2
      refine Go.rx 20 {} [] [1, 2] _ [(1, .addr 10 0), (2, .addr 11 0)] [(10, [.sl 1 .shr c10_0_2.length (b8s .shr c10_0_2), .leaf (.slice none 0 0), ti x1.2.2.1, tb x1.2.2.2]), (11, [.leaf (.slice none 0 0), .leaf (.slice none 0 0), ti 0, tb false])] hxl1 rfl kr .nil ?_
      clear hxl1; intro kxl1 hxl1
      refine Go.rx 20 {} [10] [2, 3] _ [(2, .addr 11 0), (3, ti 0)] [(11, [.sl 1 .shr c10_0_2.length (b8s .shr c10_0_2), .leaf (.slice none 0 0), ti x1.2.2.1, tb x1.2.2.2])] hxl1 rfl kr .nil ?_
      clear hxl1; intro kxl1 hxl1
      exact Go.lvx 20 [] _ [.agg [.sl 1 .shr c10_0_2.length (b8s .shr c10_0_2), .leaf (.slice none 0 0), ti x1.2.2.1, tb x1.2.2.2], ti 0] Tryd.func30 hxl1 rfl kr (.cons (by decide : 0 + 4 ≤ 4) .nil) (T.Le.tup (.cons (T.Le.agg (.cons (T.Le.of_eq rfl) (.cons (T.Le.nil _ _) (.cons (T.Le.of_eq rfl) (.cons (T.Le.of_eq rfl) .nil))))) (.cons (T.Le.of_eq rfl) .nil))) rfl rfl .nil
    have Ll1 : ∀ (ml1 : Nat) (k1 : Int) (c10_0_1 : List (List UInt8)), (0 ≤ k1) → (c10_0_1.length = d0.length) → (((x1.2.1.length : Int) - k1).toNat < ml1) → Go E Γ 30 35 [] ((PostX Γ bursaryref13_Sync_enc) (Lo.el (bursaryref13_Sync_l1 x1 ml1 k1 c10_0_1) (fun z : List (List UInt8) => bursaryref13_Sync_k1 x1 z))) kl1 (stL [(1, .addr 10 0), (2, .addr 11 0), (4, ti k1)] [(10, [.sl 1 .shr c10_0_1.length (b8s .shr c10_0_1), .sl 2 .shr x1.2.1.length (fl (fun c : Int × List UInt8 => [ti c.1, .sl 1 .shr c.2.length (u8s c.2)]) x1.2.1), ti x1.2.2.1, tb x1.2.2.2]), (11, [.leaf (.slice none 0 0), .leaf (.slice none 0 0), ti 0, tb false])]) := by
      intro ml1
      induction ml1 with
      | zero => intro k1 c10_0_1 i0l1 i1l1 hml1; exact absurd hml1 (Nat.not_lt_zero _)
      | succ ml1 ihl1 =>
        intro k1 c10_0_1 i0l1 i1l1 hml1
        rw [bursaryref13_Sync_l1]
        refine Go.round hl1 ?_
        intro k hk
        have hq := hw k1.toNat
        rw [← fx11] at hq
        have hq1 := congrArg List.length fx11
        refine Go.rx 20 {} [] [1, 2, 4, 14] _ [(1, .addr 10 0), (2, .addr 11 0), (4, ti k1), (14, tb (decide (k1 < (x1.2.1.length : Int))))] [(10, [.sl 1 .shr c10_0_1.length (b8s .shr c10_0_1), .sl 2 .shr x1.2.1.length (fl (fun c : Int × List UInt8 => [ti c.1, .sl 1 .shr c.2.length (u8s c.2)]) x1.2.1), ti x1.2.2.1, tb x1.2.2.2]), (11, [.leaf (.slice none 0 0), .leaf (.slice none 0 0), ti 0, tb false])] hk rfl kr (.cons trivial .nil) ?_
        clear hk; intro k hk
        refine Go.br 20 (Pf := (fun z : Lo (List (List UInt8)) ((List (List UInt8) × (List (Int × List UInt8)) × Int × Bool) × Int) => (PostX Γ bursaryref13_Sync_enc) (Lo.el z (fun z : List (List UInt8) => bursaryref13_Sync_k1 x1 z)))) hk rfl rfl ?_ ?_ <;> clear hk <;> intro ct2 k hk
        · have ct2p := of_decide_eq_true ct2
          refine Go.dx 20 [0, 1, 2, 3, 4, 5, 6, 7, 8, 9, 10, 11, 12, 13, 14, 15, 16] { ws := [(7, { v := some (ti ((x1.2.1.getD k1.toNat ((0, []) : Int × List UInt8)).1)) }), (13, { v := some (.sl 1 .shr ((x1.2.1.getD k1.toNat ((0, []) : Int × List UInt8)).2).length (u8s ((x1.2.1.getD k1.toNat ((0, []) : Int × List UInt8)).2))) }), (14, { call := some { ids := [], S := [], M := [], R := .sl 1 .shr (bursaryref13_with c10_0_1 ((x1.2.1.getD k1.toNat ((0, []) : Int × List UInt8)).1) ((x1.2.1.getD k1.toNat ((0, []) : Int × List UInt8)).2)).length (b8s .shr (bursaryref13_with c10_0_1 ((x1.2.1.getD k1.toNat ((0, []) : Int × List UInt8)).1) ((x1.2.1.getD k1.toNat ((0, []) : Int × List UInt8)).2))), H' := [] } })] } [] [1, 2, 4] _ [(1, .addr 10 0), (2, .addr 11 0), (4, ti k1)] [(10, [.sl 1 .shr (bursaryref13_with c10_0_1 ((x1.2.1.getD k1.toNat ((0, []) : Int × List UInt8)).1) ((x1.2.1.getD k1.toNat ((0, []) : Int × List UInt8)).2)).length (b8s .shr (bursaryref13_with c10_0_1 ((x1.2.1.getD k1.toNat ((0, []) : Int × List UInt8)).1) ((x1.2.1.getD k1.toNat ((0, []) : Int × List UInt8)).2))), .sl 2 .shr x1.2.1.length (fl (fun c : Int × List UInt8 => [ti c.1, .sl 1 .shr c.2.length (u8s c.2)]) x1.2.1), ti x1.2.2.1, tb x1.2.2.2]), (11, [.leaf (.slice none 0 0), .leaf (.slice none 0 0), ti 0, tb false])] hk rfl kr (.cons (qh7_1 : 0 ≤ (k1 : Int) ∧ (k1 : Int) < ((x1.2.1.length : Nat) : Int)) (.cons (fl_part1 (g := (fun c : Int × List UInt8 => [ti c.1, .sl 1 .shr c.2.length (u8s c.2)])) (m := 2) (k := k1.toNat * 2 + 0) (n := k1.toNat) (j := 0) (l := x1.2.1) (d := ((0, []) : Int × List UInt8)) (kr : (E.ti 3).agg = false) (fun _ => rfl) rfl (by decide) qh7_1 rfl) (.cons (qh7_1 : 0 ≤ (k1 : Int) ∧ (k1 : Int) < ((x1.2.1.length : Nat) : Int)) (.cons (fl_part1 (g := (fun c : Int × List UInt8 => [ti c.1, .sl 1 .shr c.2.length (u8s c.2)])) (m := 2) (k := k1.toNat * 2 + 1) (n := k1.toNat) (j := 1) (l := x1.2.1) (d := ((0, []) : Int × List UInt8)) (kr : (E.ti 22).agg = false) (fun _ => rfl) rfl (by decide) qh7_1 rfl) (.cons (bursaryref13_with_m c10_0_1 ((x1.2.1.getD k1.toNat ((0, []) : Int × List UInt8)).1) ((x1.2.1.getD k1.toNat ((0, []) : Int × List UInt8)).2) qh7_1 qh7_1) (.cons (sb : subN (idsL [.sl 1 .shr c10_0_1.length (b8s .shr c10_0_1), ti ((x1.2.1.getD k1.toNat ((0, []) : Int × List UInt8)).1), .sl 1 .shr ((x1.2.1.getD k1.toNat ((0, []) : Int × List UInt8)).2).length (u8s ((x1.2.1.getD k1.toNat ((0, []) : Int × List UInt8)).2))]) [] = true) .nil)))))) ?_
          clear hk; intro k hk
          refine Go.bnd (Pf := (fun z : Lo (List (List UInt8)) ((List (List UInt8) × (List (Int × List UInt8)) × Int × Bool) × Int) => (PostX Γ bursaryref13_Sync_enc) (Lo.el z (fun z : List (List UInt8) => bursaryref13_Sync_k1 x1 z)))) (v := (bursaryref13_with c10_0_1 ((x1.2.1.getD k1.toNat ((0, []) : Int × List UInt8)).1) ((x1.2.1.getD k1.toNat ((0, []) : Int × List UInt8)).2))) (fun x2 => [(1, .addr 10 0), (2, .addr 11 0), (4, ti k1)]) (fun x2 => [(10, [.sl 1 .shr x2.length (b8s .shr x2), .sl 2 .shr x1.2.1.length (fl (fun c : Int × List UInt8 => [ti c.1, .sl 1 .shr c.2.length (u8s c.2)]) x1.2.1), ti x1.2.2.1, tb x1.2.2.2]), (11, [.leaf (.slice none 0 0), .leaf (.slice none 0 0), ti 0, tb false])]) ?_
          intro x2 hx2
          have fx2 := with_fact c10_0_1 ((x1.2.1.getD k1.toNat ((0, []) : Int × List UInt8)).1) ((x1.2.1.getD k1.toNat ((0, []) : Int × List UInt8)).2)
          rw [← hx2] at fx2
          refine Go.rx 20 { ws := [(1, { v := some (ti (k1 + 1)) })] } [] [1, 2, 4] _ [(1, .addr 10 0), (2, .addr 11 0), (4, ti (k1 + 1))] [(10, [.sl 1 .shr x2.length (b8s .shr x2), .sl 2 .shr x1.2.1.length (fl (fun c : Int × List UInt8 => [ti c.1, .sl 1 .shr c.2.length (u8s c.2)]) x1.2.1), ti x1.2.2.1, tb x1.2.2.2]), (11, [.leaf (.slice none 0 0), .leaf (.slice none 0 0), ti 0, tb false])] hk rfl kr (.cons trivial (.cons (iw (k1 + 1) qh7_1) .nil)) ?_
          clear hk; intro k hk
          exact Go.join 20 hk hl1 rfl (ihl1 (k1 + 1) x2 qh7_1 qh7_1 qh7_1)
        · have ct2p := of_decide_eq_false ct2
          refine Go.keepN [1, 2] (L' := [(1, .addr 10 0), (2, .addr 11 0)]) rfl ?_
          exact Go.exitX (Pf := (PostX Γ bursaryref13_Sync_enc)) (F := fun z : List (List UInt8) => bursaryref13_Sync_k1 x1 z) (a := c10_0_1) (Go.join 20 hk hxl1 rfl (Xl1 c10_0_1))
    exact Ll1 _ 0 x1.1 (by first | omega | (rw [fx10])) (by first | omega | (rw [fx10])) (Nat.lt_succ_self _)
theorem bursaryref13_Sync_l1_gen : True := by have := @bursaryref13_Sync_l1.eq_1; have := @bursaryref13_Sync_l1.eq_2; trivial
attribute [irreducible] bursaryref13_Sync_k1 bursaryref13_Sync_l1 bursaryref13_Sync
noncomputable def bursaryref13_Crash_k1 (c12_0_2 : List (List UInt8)) : (List (List UInt8) × (List (Int × List UInt8)) × Int × Bool) :=
  (c12_0_2, [], 0, false)
noncomputable def bursaryref13_Crash_l1 (d1 : List (Int × List UInt8)) (keep : List Bool) : Nat → Int → (List (List UInt8)) → Lo (List (List UInt8)) (List (List UInt8) × (List (Int × List UInt8)) × Int × Bool)
  | 0, _, _ => .brk default
  | ml1 + 1, k1, c12_0_1 =>
    bif (decide (k1 < (d1.length : Int))) && (decide (k1 < (keep.length : Int))) then
      bif keep.getD k1.toNat false then
        bnd (bursaryref13_with c12_0_1 ((d1.getD k1.toNat ((0, []) : Int × List UInt8)).1) ((d1.getD k1.toNat ((0, []) : Int × List UInt8)).2)) fun x1 =>
        bursaryref13_Crash_l1 d1 keep ml1 (k1 + 1) x1
      else
        bursaryref13_Crash_l1 d1 keep ml1 (k1 + 1) c12_0_1
    else
      Lo.brk c12_0_1
noncomputable def bursaryref13_Crash (d0 : List (List UInt8)) (d1 : List (Int × List UInt8)) (d2 : Int) (d3 : Bool) (keep : List Bool) : (List (List UInt8) × (List (Int × List UInt8)) × Int × Bool) :=
  Lo.el (bursaryref13_Crash_l1 d1 keep (((d1.length : Int) - (0 : Int)).toNat + 1) 0 d0) (fun z : List (List UInt8) => bursaryref13_Crash_k1 z)
def bursaryref13_Crash_enc (x : (List (List UInt8) × (List (Int × List UInt8)) × Int × Bool)) : T × List (Nat × List T) := (.agg ([.sl 1 .shr x.1.length (b8s .shr x.1), .sl 2 .shr x.2.1.length (fl (fun c : Int × List UInt8 => [ti c.1, .sl 1 .shr c.2.length (u8s c.2)]) x.2.1), ti x.2.2.1, tb x.2.2.2]), [])
theorem bursaryref13_Crash_m (d0 : List (List UInt8)) (d1 : List (Int × List UInt8)) (d2 : Int) (d3 : Bool) (keep : List Bool) (hD : okD 1000 d0 d1 d2) : Meets Tryd.prog 31 [.agg ([.sl 1 .shr d0.length (b8s .shr d0), .sl 2 .shr d1.length (fl (fun c : Int × List UInt8 => [ti c.1, .sl 1 .shr c.2.length (u8s c.2)]) d1), ti d2, tb d3]), .sl 1 .shr keep.length (bos keep)] [] [] (.agg ([.sl 1 .shr ((bursaryref13_Crash d0 d1 d2 d3 keep).1).length (b8s .shr ((bursaryref13_Crash d0 d1 d2 d3 keep).1)), .sl 2 .shr ((bursaryref13_Crash d0 d1 d2 d3 keep).2.1).length (fl (fun c : Int × List UInt8 => [ti c.1, .sl 1 .shr c.2.length (u8s c.2)]) ((bursaryref13_Crash d0 d1 d2 d3 keep).2.1)), ti ((bursaryref13_Crash d0 d1 d2 d3 keep).2.2.1), tb ((bursaryref13_Crash d0 d1 d2 d3 keep).2.2.2)])) [] := by
  refine Meets.enterX (E := E) (N := 44) (enc := bursaryref13_Crash_enc) (x := (bursaryref13_Crash d0 d1 d2 d3 keep)) Tryd.func31 Tryd.call31 rfl rfl ?_
  intro Γ k hk
  obtain ⟨hl0, hl1, hw, hm0, hm1, ha⟩ := hD
  refine Go.rx 20 { ws := [(0, { id := 10 }), (1, { id := 11 })] } [] [1, 2, 4] _ [(1, .sl 1 .shr keep.length (bos keep)), (2, .addr 10 0), (4, .addr 11 0)] [(10, [.sl 1 .shr d0.length (b8s .shr d0), .sl 2 .shr d1.length (fl (fun c : Int × List UInt8 => [ti c.1, .sl 1 .shr c.2.length (u8s c.2)]) d1), ti d2, tb d3]), (11, [.leaf (.slice none 0 0), .leaf (.slice none 0 0), ti 0, tb false])] hk rfl kr .nil ?_
  clear hk; intro k hk
  refine Go.rx 20 { ws := [(3, { id := 12 })] } [] [1, 2, 4, 5] _ [(1, .sl 1 .shr keep.length (bos keep)), (2, .addr 10 0), (4, .addr 11 0), (5, .addr 12 0)] [(10, [.sl 1 .shr d0.length (b8s .shr d0), .sl 2 .shr d1.length (fl (fun c : Int × List UInt8 => [ti c.1, .sl 1 .shr c.2.length (u8s c.2)]) d1), ti d2, tb d3]), (11, [.leaf (.slice none 0 0), .leaf (.slice none 0 0), ti 0, tb false]), (12, [.sl 1 .shr d0.length (b8s .shr d0), .leaf (.slice none 0 0), ti 0, tb false])] hk rfl kr .nil ?_
  clear hk; intro k hk
  refine Go.rx 20 {} [] [1, 2, 4, 5, 6] _ [(1, .sl 1 .shr keep.length (bos keep)), (2, .addr 10 0), (4, .addr 11 0), (5, .addr 12 0), (6, ti 0)] [(10, [.sl 1 .shr d0.length (b8s .shr d0), .sl 2 .shr d1.length (fl (fun c : Int × List UInt8 => [ti c.1, .sl 1 .shr c.2.length (u8s c.2)]) d1), ti d2, tb d3]), (11, [.leaf (.slice none 0 0), .leaf (.slice none 0 0), ti 0, tb false]), (12, [.sl 1 .shr d0.length (b8s .shr d0), .leaf (.slice none 0 0), ti 0, tb false])] hk rfl kr .nil ?_
  clear hk; intro k hk
  refine Go.loopX 20 hk rfl ?_
  clear hk; intro kl1 kxl1 hl1 hxl1
  have Xl1 : ∀ (c12_0_2 : List (List UInt8)), Go E Γ 31 44 [] ((PostX Γ bursaryref13_Crash_enc) (bursaryref13_Crash_k1 c12_0_2)) kxl1 (stL [(4, .addr 11 0), (5, .addr 12 0)] [(10, [.sl 1 .shr d0.length (b8s .shr d0), .sl 2 .shr d1.length (fl (fun c : Int × List UInt8 => [ti c.1, .sl 1 .shr c.2.length (u8s c.2)]) d1), ti d2, tb d3]), (11, [.leaf (.slice none 0 0), .leaf (.slice none 0 0), ti 0, tb false]), (12, [.sl 1 .shr c12_0_2.length (b8s .shr c12_0_2), .leaf (.slice none 0 0), ti 0, tb false])]) := by
    intro c12_0_2
    refine Go.rx 20 {} [10, 12] [4] _ [(4, .addr 11 0)] [(11, [.sl 1 .shr c12_0_2.length (b8s .shr c12_0_2), .leaf (.slice none 0 0), ti 0, tb false])] hxl1 rfl kr .nil ?_
    clear hxl1; intro kxl1 hxl1
    exact Go.lvx 20 [] _ [.agg [.sl 1 .shr c12_0_2.length (b8s .shr c12_0_2), .leaf (.slice none 0 0), ti 0, tb false]] Tryd.func31 hxl1 rfl kr (.cons (by decide : 0 + 4 ≤ 4) .nil) (T.Le.agg (.cons (T.Le.of_eq rfl) (.cons (T.Le.nil _ _) (.cons (T.Le.of_eq rfl) (.cons (T.Le.of_eq rfl) .nil))))) rfl rfl .nil
  have Ll1 : ∀ (ml1 : Nat) (k1 : Int) (c12_0_1 : List (List UInt8)), (0 ≤ k1) → (c12_0_1.length = d0.length) → (((d1.length : Int) - k1).toNat < ml1) → Go E Γ 31 44 [] ((PostX Γ bursaryref13_Crash_enc) (Lo.el (bursaryref13_Crash_l1 d1 keep ml1 k1 c12_0_1) (fun z : List (List UInt8) => bursaryref13_Crash_k1 z))) kl1 (stL [(1, .sl 1 .shr keep.length (bos keep)), (2, .addr 10 0), (4, .addr 11 0), (5, .addr 12 0), (6, ti k1)] [(10, [.sl 1 .shr d0.length (b8s .shr d0), .sl 2 .shr d1.length (fl (fun c : Int × List UInt8 => [ti c.1, .sl 1 .shr c.2.length (u8s c.2)]) d1), ti d2, tb d3]), (11, [.leaf (.slice none 0 0), .leaf (.slice none 0 0), ti 0, tb false]), (12, [.sl 1 .shr c12_0_1.length (b8s .shr c12_0_1), .leaf (.slice none 0 0), ti 0, tb false])]) := by
    intro ml1
    induction ml1 with
    | zero => intro k1 c12_0_1 i0l1 i1l1 hml1; exact absurd hml1 (Nat.not_lt_zero _)
    | succ ml1 ihl1 =>
      intro k1 c12_0_1 i0l1 i1l1 hml1
      rw [bursaryref13_Crash_l1]
      refine Go.round hl1 ?_
      intro k hk
      have hq := hw k1.toNat
      refine Go.regJ 20 [(1, .sl 1 .shr keep.length (bos keep)), (2, .addr 10 0), (4, .addr 11 0), (5, .addr 12 0), (6, ti k1), (20, tb ((decide (k1 < (d1.length : Int))) && (decide (k1 < (keep.length : Int)))))] [(10, [.sl 1 .shr d0.length (b8s .shr d0), .sl 2 .shr d1.length (fl (fun c : Int × List UInt8 => [ti c.1, .sl 1 .shr c.2.length (u8s c.2)]) d1), ti d2, tb d3]), (11, [.leaf (.slice none 0 0), .leaf (.slice none 0 0), ti 0, tb false]), (12, [.sl 1 .shr c12_0_1.length (b8s .shr c12_0_1), .leaf (.slice none 0 0), ti 0, tb false])] hk rfl ?_ ?_
      · clear hk; intro k hk
        refine Go.br 20 (Pf := (fun z : Lo (List (List UInt8)) ((List (List UInt8) × (List (Int × List UInt8)) × Int × Bool)) => (PostX Γ bursaryref13_Crash_enc) (Lo.el z (fun z : List (List UInt8) => bursaryref13_Crash_k1 z)))) hk rfl rfl ?_ ?_ <;> clear hk <;> intro ct1 k hk
        · have ct11 : (decide (k1 < (d1.length : Int))) = true := (Bool.and_eq_true_iff.1 ct1).1
          have ct12 : (decide (k1 < (keep.length : Int))) = true := (Bool.and_eq_true_iff.1 ct1).2
          have ct11p := of_decide_eq_true ct11
          have ct12p := of_decide_eq_true ct12
          refine Go.rx 20 { ws := [(3, { v := some (tb (keep.getD k1.toNat false)) })] } [] [1, 2, 4, 5, 6, 26] _ [(1, .sl 1 .shr keep.length (bos keep)), (2, .addr 10 0), (4, .addr 11 0), (5, .addr 12 0), (6, ti k1), (26, tb (keep.getD k1.toNat false))] [(10, [.sl 1 .shr d0.length (b8s .shr d0), .sl 2 .shr d1.length (fl (fun c : Int × List UInt8 => [ti c.1, .sl 1 .shr c.2.length (u8s c.2)]) d1), ti d2, tb d3]), (11, [.leaf (.slice none 0 0), .leaf (.slice none 0 0), ti 0, tb false]), (12, [.sl 1 .shr c12_0_1.length (b8s .shr c12_0_1), .leaf (.slice none 0 0), ti 0, tb false])] hk rfl kr (.cons (om : 0 ≤ (k1 : Int) ∧ (k1 : Int) < ((keep.length : Nat) : Int)) (.cons (part1 (kr : (E.ti 4).agg = false) (mp_get (g := (fun c : Bool => T.leaf (.bool c))) (k := k1.toNat * 1) (n := k1.toNat) keep false (by omega) om)) .nil)) ?_
          clear hk; intro k hk
          refine Go.br 20 (Pf := (fun z : Lo (List (List UInt8)) ((List (List UInt8) × (List (Int × List UInt8)) × Int × Bool)) => (PostX Γ bursaryref13_Crash_enc) (Lo.el z (fun z : List (List UInt8) => bursaryref13_Crash_k1 z)))) hk rfl rfl ?_ ?_ <;> clear hk <;> intro ct3 k hk
          · refine Go.dx 20 [0, 1, 2, 3, 4, 5, 6, 7, 8, 9, 10, 11, 12, 13, 14, 15, 16] { ws := [(7, { v := some (ti ((d1.getD k1.toNat ((0, []) : Int × List UInt8)).1)) }), (13, { v := some (.sl 1 .shr ((d1.getD k1.toNat ((0, []) : Int × List UInt8)).2).length (u8s ((d1.getD k1.toNat ((0, []) : Int × List UInt8)).2))) }), (14, { call := some { ids := [], S := [], M := [], R := .sl 1 .shr (bursaryref13_with c12_0_1 ((d1.getD k1.toNat ((0, []) : Int × List UInt8)).1) ((d1.getD k1.toNat ((0, []) : Int × List UInt8)).2)).length (b8s .shr (bursaryref13_with c12_0_1 ((d1.getD k1.toNat ((0, []) : Int × List UInt8)).1) ((d1.getD k1.toNat ((0, []) : Int × List UInt8)).2))), H' := [] } })] } [] [1, 2, 4, 5, 6] _ [(1, .sl 1 .shr keep.length (bos keep)), (2, .addr 10 0), (4, .addr 11 0), (5, .addr 12 0), (6, ti k1)] [(10, [.sl 1 .shr d0.length (b8s .shr d0), .sl 2 .shr d1.length (fl (fun c : Int × List UInt8 => [ti c.1, .sl 1 .shr c.2.length (u8s c.2)]) d1), ti d2, tb d3]), (11, [.leaf (.slice none 0 0), .leaf (.slice none 0 0), ti 0, tb false]), (12, [.sl 1 .shr (bursaryref13_with c12_0_1 ((d1.getD k1.toNat ((0, []) : Int × List UInt8)).1) ((d1.getD k1.toNat ((0, []) : Int × List UInt8)).2)).length (b8s .shr (bursaryref13_with c12_0_1 ((d1.getD k1.toNat ((0, []) : Int × List UInt8)).1) ((d1.getD k1.toNat ((0, []) : Int × List UInt8)).2))), .leaf (.slice none 0 0), ti 0, tb false])] hk rfl kr (.cons (om : 0 ≤ (k1 : Int) ∧ (k1 : Int) < ((d1.length : Nat) : Int)) (.cons (fl_part1 (g := (fun c : Int × List UInt8 => [ti c.1, .sl 1 .shr c.2.length (u8s c.2)])) (m := 2) (k := k1.toNat * 2 + 0) (n := k1.toNat) (j := 0) (l := d1) (d := ((0, []) : Int × List UInt8)) (kr : (E.ti 3).agg = false) (fun _ => rfl) rfl (by decide) om rfl) (.cons (om : 0 ≤ (k1 : Int) ∧ (k1 : Int) < ((d1.length : Nat) : Int)) (.cons (fl_part1 (g := (fun c : Int × List UInt8 => [ti c.1, .sl 1 .shr c.2.length (u8s c.2)])) (m := 2) (k := k1.toNat * 2 + 1) (n := k1.toNat) (j := 1) (l := d1) (d := ((0, []) : Int × List UInt8)) (kr : (E.ti 22).agg = false) (fun _ => rfl) rfl (by decide) om rfl) (.cons (bursaryref13_with_m c12_0_1 ((d1.getD k1.toNat ((0, []) : Int × List UInt8)).1) ((d1.getD k1.toNat ((0, []) : Int × List UInt8)).2) om om) (.cons (sb : subN (idsL [.sl 1 .shr c12_0_1.length (b8s .shr c12_0_1), ti ((d1.getD k1.toNat ((0, []) : Int × List UInt8)).1), .sl 1 .shr ((d1.getD k1.toNat ((0, []) : Int × List UInt8)).2).length (u8s ((d1.getD k1.toNat ((0, []) : Int × List UInt8)).2))]) [] = true) .nil)))))) ?_
            clear hk; intro k hk
            refine Go.bnd (Pf := (fun z : Lo (List (List UInt8)) ((List (List UInt8) × (List (Int × List UInt8)) × Int × Bool)) => (PostX Γ bursaryref13_Crash_enc) (Lo.el z (fun z : List (List UInt8) => bursaryref13_Crash_k1 z)))) (v := (bursaryref13_with c12_0_1 ((d1.getD k1.toNat ((0, []) : Int × List UInt8)).1) ((d1.getD k1.toNat ((0, []) : Int × List UInt8)).2))) (fun x1 => [(1, .sl 1 .shr keep.length (bos keep)), (2, .addr 10 0), (4, .addr 11 0), (5, .addr 12 0), (6, ti k1)]) (fun x1 => [(10, [.sl 1 .shr d0.length (b8s .shr d0), .sl 2 .shr d1.length (fl (fun c : Int × List UInt8 => [ti c.1, .sl 1 .shr c.2.length (u8s c.2)]) d1), ti d2, tb d3]), (11, [.leaf (.slice none 0 0), .leaf (.slice none 0 0), ti 0, tb false]), (12, [.sl 1 .shr x1.length (b8s .shr x1), .leaf (.slice none 0 0), ti 0, tb false])]) ?_
            intro x1 hx1
            have fx1 := with_fact c12_0_1 ((d1.getD k1.toNat ((0, []) : Int × List UInt8)).1) ((d1.getD k1.toNat ((0, []) : Int × List UInt8)).2)
            rw [← hx1] at fx1
            refine Go.rx 20 { ws := [(1, { v := some (ti (k1 + 1)) })] } [] [1, 2, 4, 5, 6] _ [(1, .sl 1 .shr keep.length (bos keep)), (2, .addr 10 0), (4, .addr 11 0), (5, .addr 12 0), (6, ti (k1 + 1))] [(10, [.sl 1 .shr d0.length (b8s .shr d0), .sl 2 .shr d1.length (fl (fun c : Int × List UInt8 => [ti c.1, .sl 1 .shr c.2.length (u8s c.2)]) d1), ti d2, tb d3]), (11, [.leaf (.slice none 0 0), .leaf (.slice none 0 0), ti 0, tb false]), (12, [.sl 1 .shr x1.length (b8s .shr x1), .leaf (.slice none 0 0), ti 0, tb false])] hk rfl kr (.cons trivial (.cons (iw (k1 + 1) om) .nil)) ?_
            clear hk; intro k hk
            exact Go.join 20 hk hl1 rfl (ihl1 (k1 + 1) x1 om om om)
          · refine Go.rx 20 { ws := [(1, { v := some (ti (k1 + 1)) })] } [] [1, 2, 4, 5, 6] _ [(1, .sl 1 .shr keep.length (bos keep)), (2, .addr 10 0), (4, .addr 11 0), (5, .addr 12 0), (6, ti (k1 + 1))] [(10, [.sl 1 .shr d0.length (b8s .shr d0), .sl 2 .shr d1.length (fl (fun c : Int × List UInt8 => [ti c.1, .sl 1 .shr c.2.length (u8s c.2)]) d1), ti d2, tb d3]), (11, [.leaf (.slice none 0 0), .leaf (.slice none 0 0), ti 0, tb false]), (12, [.sl 1 .shr c12_0_1.length (b8s .shr c12_0_1), .leaf (.slice none 0 0), ti 0, tb false])] hk rfl kr (.cons trivial (.cons (iw (k1 + 1) om) .nil)) ?_
            clear hk; intro k hk
            exact Go.join 20 hk hl1 rfl (ihl1 (k1 + 1) c12_0_1 om om om)
        · refine Go.keepN [4, 5] (L' := [(4, .addr 11 0), (5, .addr 12 0)]) rfl ?_
          exact Go.exitX (Pf := (PostX Γ bursaryref13_Crash_enc)) (F := fun z : List (List UInt8) => bursaryref13_Crash_k1 z) (a := c12_0_1) (Go.join 20 hk hxl1 rfl (Xl1 c12_0_1))
      · intro hk J
        rcases Bool.eq_false_or_eq_true (decide (k1 < (d1.length : Int))) with gd1 | gd1
        · have gd1p := of_decide_eq_true gd1
          refine Go.rx 20 { ws := [(4, { v := some (tb true) })] } [] [1, 2, 4, 5, 6, 20] _ [(1, .sl 1 .shr keep.length (bos keep)), (2, .addr 10 0), (4, .addr 11 0), (5, .addr 12 0), (6, ti k1), (20, tb (decide (k1 < (keep.length : Int))))] [(10, [.sl 1 .shr d0.length (b8s .shr d0), .sl 2 .shr d1.length (fl (fun c : Int × List UInt8 => [ti c.1, .sl 1 .shr c.2.length (u8s c.2)]) d1), ti d2, tb d3]), (11, [.leaf (.slice none 0 0), .leaf (.slice none 0 0), ti 0, tb false]), (12, [.sl 1 .shr c12_0_1.length (b8s .shr c12_0_1), .leaf (.slice none 0 0), ti 0, tb false])] hk rfl kr (.cons trivial (.cons (eb gd1) (.cons trivial .nil))) ?_
          intro k' hk'
          refine Go.slotEq 20 (tb ((decide (k1 < (d1.length : Int))) && (decide (k1 < (keep.length : Int))))) rfl (eb (andT gd1 rfl).symm) ?_
          exact J k' hk'
        · have gd1p := of_decide_eq_false gd1
          refine Go.rx 20 { ws := [(4, { v := some (tb false) })] } [] [1, 2, 4, 5, 6, 20] _ [(1, .sl 1 .shr keep.length (bos keep)), (2, .addr 10 0), (4, .addr 11 0), (5, .addr 12 0), (6, ti k1), (20, tb false)] [(10, [.sl 1 .shr d0.length (b8s .shr d0), .sl 2 .shr d1.length (fl (fun c : Int × List UInt8 => [ti c.1, .sl 1 .shr c.2.length (u8s c.2)]) d1), ti d2, tb d3]), (11, [.leaf (.slice none 0 0), .leaf (.slice none 0 0), ti 0, tb false]), (12, [.sl 1 .shr c12_0_1.length (b8s .shr c12_0_1), .leaf (.slice none 0 0), ti 0, tb false])] hk rfl kr (.cons trivial (.cons (eb gd1) .nil)) ?_
          intro k' hk'
          refine Go.slotEq 20 (tb ((decide (k1 < (d1.length : Int))) && (decide (k1 < (keep.length : Int))))) rfl (eb (andF gd1).symm) ?_
          exact J k' hk'
  exact Ll1 _ 0 d0 om om (Nat.lt_succ_self _)
theorem bursaryref13_Crash_l1_gen : True := by have := @bursaryref13_Crash_l1.eq_1; have := @bursaryref13_Crash_l1.eq_2; trivial
attribute [irreducible] bursaryref13_Crash_k1 bursaryref13_Crash_l1 bursaryref13_Crash
noncomputable def bursaryref13_Tamper_k1 (d0 : List (List UInt8)) (d2 : Int) (d3 : Bool) (i : Int) (b : List UInt8) (o2 : List (Int × List UInt8)) : (List (List UInt8) × (List (Int × List UInt8)) × Int × Bool) × Int :=
  bnd (bursaryref13_with d0 i b) fun x1 =>
  ((x1, o2, d2, d3), 0)
noncomputable def bursaryref13_Tamper_l1 (d1 : List (Int × List UInt8)) (i : Int) : Nat → Int → (List (Int × List UInt8)) → Lo (List (Int × List UInt8)) ((List (List UInt8) × (List (Int × List UInt8)) × Int × Bool) × Int)
  | 0, _, _ => .brk default
  | ml1 + 1, k1, o1 =>
    bif decide (k1 < (d1.length : Int)) then
      bif ((d1.getD k1.toNat ((0, []) : Int × List UInt8)).1) != i then
        bursaryref13_Tamper_l1 d1 i ml1 (k1 + 1) (o1 ++ ([((d1.getD k1.toNat ((0, []) : Int × List UInt8)).1, (d1.getD k1.toNat ((0, []) : Int × List UInt8)).2)]))
      else
        bursaryref13_Tamper_l1 d1 i ml1 (k1 + 1) o1
    else
      Lo.brk o1
noncomputable def bursaryref13_Tamper (d0 : List (List UInt8)) (d1 : List (Int × List UInt8)) (d2 : Int) (d3 : Bool) (i : Int) (b : List UInt8) : (List (List UInt8) × (List (Int × List UInt8)) × Int × Bool) × Int :=
  bif (decide (i < 0)) || ((decide (i ≥ (d0.length : Int))) || ((b.length : Int) != 64)) then
    ((d0, d1, d2, d3), 1)
  else
    Lo.el (bursaryref13_Tamper_l1 d1 i (((d1.length : Int) - (0 : Int)).toNat + 1) 0 []) (fun z : (List (Int × List UInt8)) => bursaryref13_Tamper_k1 d0 d2 d3 i b z)
def bursaryref13_Tamper_enc (x : (List (List UInt8) × (List (Int × List UInt8)) × Int × Bool) × Int) : T × List (Nat × List T) := (.tup [.agg ([.sl 1 .shr x.1.1.length (b8s .shr x.1.1), .sl 2 .shr x.1.2.1.length (fl (fun c : Int × List UInt8 => [ti c.1, .sl 1 .shr c.2.length (u8s c.2)]) x.1.2.1), ti x.1.2.2.1, tb x.1.2.2.2]), ti x.2], [])
theorem bursaryref13_Tamper_m (d0 : List (List UInt8)) (d1 : List (Int × List UInt8)) (d2 : Int) (d3 : Bool) (i : Int) (b : List UInt8) (hD : okD 1000 d0 d1 d2) : Meets Tryd.prog 32 [.agg ([.sl 1 .shr d0.length (b8s .shr d0), .sl 2 .shr d1.length (fl (fun c : Int × List UInt8 => [ti c.1, .sl 1 .shr c.2.length (u8s c.2)]) d1), ti d2, tb d3]), ti i, .sl 1 .shr b.length (u8s b)] [] [] (.tup [.agg ([.sl 1 .shr (((bursaryref13_Tamper d0 d1 d2 d3 i b).1).1).length (b8s .shr (((bursaryref13_Tamper d0 d1 d2 d3 i b).1).1)), .sl 2 .shr (((bursaryref13_Tamper d0 d1 d2 d3 i b).1).2.1).length (fl (fun c : Int × List UInt8 => [ti c.1, .sl 1 .shr c.2.length (u8s c.2)]) (((bursaryref13_Tamper d0 d1 d2 d3 i b).1).2.1)), ti (((bursaryref13_Tamper d0 d1 d2 d3 i b).1).2.2.1), tb (((bursaryref13_Tamper d0 d1 d2 d3 i b).1).2.2.2)]), ti ((bursaryref13_Tamper d0 d1 d2 d3 i b).2)]) [] := by
  refine Meets.enterX (E := E) (N := 57) (enc := bursaryref13_Tamper_enc) (x := (bursaryref13_Tamper d0 d1 d2 d3 i b)) Tryd.func32 Tryd.call32 rfl rfl ?_
  intro Γ k hk
  obtain ⟨hl0, hl1, hw, hm0, hm1, ha⟩ := hD
  refine Go.rx 20 { ws := [(0, { id := 10 }), (1, { id := 11 })] } [] [1, 2, 3, 6] _ [(1, ti i), (2, .sl 1 .shr b.length (u8s b)), (3, .addr 10 0), (6, .addr 11 0)] [(10, [.sl 1 .shr d0.length (b8s .shr d0), .sl 2 .shr d1.length (fl (fun c : Int × List UInt8 => [ti c.1, .sl 1 .shr c.2.length (u8s c.2)]) d1), ti d2, tb d3]), (11, [.leaf (.slice none 0 0), .leaf (.slice none 0 0), ti 0, tb false])] hk rfl kr .nil ?_
  clear hk; intro k hk
  refine Go.regJ 20 [(1, ti i), (2, .sl 1 .shr b.length (u8s b)), (3, .addr 10 0), (6, .addr 11 0), (23, tb ((decide (i < 0)) || ((decide (i ≥ (d0.length : Int))) || ((b.length : Int) != 64))))] [(10, [.sl 1 .shr d0.length (b8s .shr d0), .sl 2 .shr d1.length (fl (fun c : Int × List UInt8 => [ti c.1, .sl 1 .shr c.2.length (u8s c.2)]) d1), ti d2, tb d3]), (11, [.leaf (.slice none 0 0), .leaf (.slice none 0 0), ti 0, tb false])] hk rfl ?_ ?_
  · clear hk; intro k hk
    refine Go.br 20 (Pf := (PostX Γ bursaryref13_Tamper_enc)) hk rfl rfl ?_ ?_ <;> clear hk <;> intro ct1 k hk
    · refine Go.rx 20 {} [10] [6, 7] _ [(6, .addr 11 0), (7, ti 1)] [(11, [.sl 1 .shr d0.length (b8s .shr d0), .sl 2 .shr d1.length (fl (fun c : Int × List UInt8 => [ti c.1, .sl 1 .shr c.2.length (u8s c.2)]) d1), ti d2, tb d3])] hk rfl kr .nil ?_
      clear hk; intro k hk
      exact Go.lvx 20 [] _ [.agg ([.sl 1 .shr d0.length (b8s .shr d0), .sl 2 .shr d1.length (fl (fun c : Int × List UInt8 => [ti c.1, .sl 1 .shr c.2.length (u8s c.2)]) d1), ti d2, tb d3]), ti 1] Tryd.func32 hk rfl kr (.cons (by decide : 0 + 4 ≤ 4) .nil) (T.Le.tup (.cons (T.Le.of_eq rfl) (.cons (T.Le.of_eq rfl) .nil))) rfl rfl .nil
    · have ct11 : (decide (i < 0)) = false := (Bool.or_eq_false_iff.1 ct1).1
      have ct12 : ((decide (i ≥ (d0.length : Int))) || ((b.length : Int) != 64)) = false := (Bool.or_eq_false_iff.1 ct1).2
      have ct11p := of_decide_eq_false ct11
      have ct121 : (decide (i ≥ (d0.length : Int))) = false := (Bool.or_eq_false_iff.1 ct12).1
      have ct122 : ((b.length : Int) != 64) = false := (Bool.or_eq_false_iff.1 ct12).2
      have ct121p := of_decide_eq_false ct121
      have ct122p := neIf ct122
      refine Go.rx 20 {} [] [1, 2, 3, 6, 8] _ [(1, ti i), (2, .sl 1 .shr b.length (u8s b)), (3, .addr 10 0), (6, .addr 11 0), (8, .leaf (.slice none 0 0))] [(10, [.sl 1 .shr d0.length (b8s .shr d0), .sl 2 .shr d1.length (fl (fun c : Int × List UInt8 => [ti c.1, .sl 1 .shr c.2.length (u8s c.2)]) d1), ti d2, tb d3]), (11, [.leaf (.slice none 0 0), .leaf (.slice none 0 0), ti 0, tb false])] hk rfl kr .nil ?_
      clear hk; intro k hk
      refine Go.rx 20 {} [] [1, 2, 3, 6, 8, 9] _ [(1, ti i), (2, .sl 1 .shr b.length (u8s b)), (3, .addr 10 0), (6, .addr 11 0), (8, .leaf (.slice none 0 0)), (9, ti 0)] [(10, [.sl 1 .shr d0.length (b8s .shr d0), .sl 2 .shr d1.length (fl (fun c : Int × List UInt8 => [ti c.1, .sl 1 .shr c.2.length (u8s c.2)]) d1), ti d2, tb d3]), (11, [.leaf (.slice none 0 0), .leaf (.slice none 0 0), ti 0, tb false])] hk rfl kr .nil ?_
      clear hk; intro k hk
      refine Go.phn 8 12 2 rfl (.inl rfl) rfl rfl ?_
      refine Go.loopX 20 hk rfl ?_
      clear hk; intro kl1 kxl1 hl1 hxl1
      have Xl1 : ∀ (o2 : List (Int × List UInt8)), Go E Γ 32 57 [] ((PostX Γ bursaryref13_Tamper_enc) (bursaryref13_Tamper_k1 d0 d2 d3 i b o2)) kxl1 (stL [(1, ti i), (2, .sl 1 .shr b.length (u8s b)), (3, .addr 10 0), (6, .addr 11 0), (8, .ref 12 2 0 o2.length)] [(10, [.sl 1 .shr d0.length (b8s .shr d0), .sl 2 .shr d1.length (fl (fun c : Int × List UInt8 => [ti c.1, .sl 1 .shr c.2.length (u8s c.2)]) d1), ti d2, tb d3]), (11, [.leaf (.slice none 0 0), .leaf (.slice none 0 0), ti 0, tb false]), (12, fl (fun c : Int × List UInt8 => [ti c.1, .sl 1 .shr c.2.length (u8s c.2)]) o2)]) := by
        intro o2
        refine Go.rx 20 {} [] [1, 2, 3, 6] _ [(1, ti i), (2, .sl 1 .shr b.length (u8s b)), (3, .addr 10 0), (6, .addr 11 0)] [(10, [.sl 1 .shr d0.length (b8s .shr d0), .ref 12 2 0 o2.length, ti d2, tb d3]), (11, [.leaf (.slice none 0 0), .leaf (.slice none 0 0), ti 0, tb false]), (12, fl (fun c : Int × List UInt8 => [ti c.1, .sl 1 .shr c.2.length (u8s c.2)]) o2)] hxl1 rfl kr .nil ?_
        clear hxl1; intro kxl1 hxl1
        refine Go.rx 20 { ws := [(4, { call := some { ids := [], S := [], M := [], R := .sl 1 .shr (bursaryref13_with d0 i b).length (b8s .shr (bursaryref13_with d0 i b)), H' := [] } })] } [] [3, 6] _ [(3, .addr 10 0), (6, .addr 11 0)] [(10, [.sl 1 .shr (bursaryref13_with d0 i b).length (b8s .shr (bursaryref13_with d0 i b)), .ref 12 2 0 o2.length, ti d2, tb d3]), (11, [.leaf (.slice none 0 0), .leaf (.slice none 0 0), ti 0, tb false]), (12, fl (fun c : Int × List UInt8 => [ti c.1, .sl 1 .shr c.2.length (u8s c.2)]) o2)] hxl1 rfl kr (.cons (bursaryref13_with_m d0 i b om om) (.cons (sb : subN (idsL [.sl 1 .shr d0.length (b8s .shr d0), ti i, .sl 1 .shr b.length (u8s b)]) [] = true) .nil)) ?_
        clear hxl1; intro kxl1 hxl1
        refine Go.bnd (Pf := (PostX Γ bursaryref13_Tamper_enc)) (v := (bursaryref13_with d0 i b)) (fun x1 => [(3, .addr 10 0), (6, .addr 11 0)]) (fun x1 => [(10, [.sl 1 .shr x1.length (b8s .shr x1), .ref 12 2 0 o2.length, ti d2, tb d3]), (11, [.leaf (.slice none 0 0), .leaf (.slice none 0 0), ti 0, tb false]), (12, fl (fun c : Int × List UInt8 => [ti c.1, .sl 1 .shr c.2.length (u8s c.2)]) o2)]) ?_
        intro x1 hx1
        have fx1 := with_fact d0 i b
        rw [← hx1] at fx1
        refine Go.frzC [] [] 10 1 12 (fl (fun c : Int × List UInt8 => [ti c.1, .sl 1 .shr c.2.length (u8s c.2)]) o2) ([.sl 1 .shr x1.length (b8s .shr x1), .sl 2 .shr o2.length (fl (fun c : Int × List UInt8 => [ti c.1, .sl 1 .shr c.2.length (u8s c.2)]) o2), ti d2, tb d3]) _ [(3, .addr 10 0), (6, .addr 11 0)] [(10, [.sl 1 .shr x1.length (b8s .shr x1), .dead, ti d2, tb d3]), (11, [.leaf (.slice none 0 0), .leaf (.slice none 0 0), ti 0, tb false])] rfl rfl rfl rfl (fl_ids (g := (fun c : Int × List UInt8 => [ti c.1, .sl 1 .shr c.2.length (u8s c.2)])) (fun _ => rfl) o2) qh7_6 (fl_all (g := (fun c : Int × List UInt8 => [ti c.1, .sl 1 .shr c.2.length (u8s c.2)])) (m := 2) (fun _ => rfl) o2) kr .nil rfl rfl ?_
        refine Go.rx 20 {} [10] [6, 7] _ [(6, .addr 11 0), (7, ti 0)] [(11, [.sl 1 .shr x1.length (b8s .shr x1), .sl 2 .shr o2.length (fl (fun c : Int × List UInt8 => [ti c.1, .sl 1 .shr c.2.length (u8s c.2)]) o2), ti d2, tb d3])] hxl1 rfl kr .nil ?_
        clear hxl1; intro kxl1 hxl1
        exact Go.lvx 20 [] _ [.agg ([.sl 1 .shr x1.length (b8s .shr x1), .sl 2 .shr o2.length (fl (fun c : Int × List UInt8 => [ti c.1, .sl 1 .shr c.2.length (u8s c.2)]) o2), ti d2, tb d3]), ti 0] Tryd.func32 hxl1 rfl kr (.cons (by decide : 0 + 4 ≤ 4) .nil) (T.Le.tup (.cons (T.Le.of_eq rfl) (.cons (T.Le.of_eq rfl) .nil))) rfl rfl .nil
      have Ll1 : ∀ (ml1 : Nat) (k1 : Int) (o1 : List (Int × List UInt8)), (0 ≤ k1) → (o1.length ≤ k1.toNat) → (k1 ≤ (d1.length : Int)) → (((d1.length : Int) - k1).toNat < ml1) → Go E Γ 32 57 [] ((PostX Γ bursaryref13_Tamper_enc) (Lo.el (bursaryref13_Tamper_l1 d1 i ml1 k1 o1) (fun z : (List (Int × List UInt8)) => bursaryref13_Tamper_k1 d0 d2 d3 i b z))) kl1 (stL [(1, ti i), (2, .sl 1 .shr b.length (u8s b)), (3, .addr 10 0), (6, .addr 11 0), (8, .ref 12 2 0 o1.length), (9, ti k1)] [(10, [.sl 1 .shr d0.length (b8s .shr d0), .sl 2 .shr d1.length (fl (fun c : Int × List UInt8 => [ti c.1, .sl 1 .shr c.2.length (u8s c.2)]) d1), ti d2, tb d3]), (11, [.leaf (.slice none 0 0), .leaf (.slice none 0 0), ti 0, tb false]), (12, fl (fun c : Int × List UInt8 => [ti c.1, .sl 1 .shr c.2.length (u8s c.2)]) o1)]) := by
        intro ml1
        induction ml1 with
        | zero => intro k1 o1 i0l1 i1l1 i2l1 hml1; exact absurd hml1 (Nat.not_lt_zero _)
        | succ ml1 ihl1 =>
          intro k1 o1 i0l1 i1l1 i2l1 hml1
          rw [bursaryref13_Tamper_l1]
          refine Go.round hl1 ?_
          intro k hk
          refine Go.rx 20 {} [] [1, 2, 3, 6, 8, 9, 29] _ [(1, ti i), (2, .sl 1 .shr b.length (u8s b)), (3, .addr 10 0), (6, .addr 11 0), (8, .ref 12 2 0 o1.length), (9, ti k1), (29, tb (decide (k1 < (d1.length : Int))))] [(10, [.sl 1 .shr d0.length (b8s .shr d0), .sl 2 .shr d1.length (fl (fun c : Int × List UInt8 => [ti c.1, .sl 1 .shr c.2.length (u8s c.2)]) d1), ti d2, tb d3]), (11, [.leaf (.slice none 0 0), .leaf (.slice none 0 0), ti 0, tb false]), (12, fl (fun c : Int × List UInt8 => [ti c.1, .sl 1 .shr c.2.length (u8s c.2)]) o1)] hk rfl kr (.cons trivial .nil) ?_
          clear hk; intro k hk
          refine Go.br 20 (Pf := (fun z : Lo ((List (Int × List UInt8))) ((List (List UInt8) × (List (Int × List UInt8)) × Int × Bool) × Int) => (PostX Γ bursaryref13_Tamper_enc) (Lo.el z (fun z : (List (Int × List UInt8)) => bursaryref13_Tamper_k1 d0 d2 d3 i b z)))) hk rfl rfl ?_ ?_ <;> clear hk <;> intro ct2 k hk
          · have ct2p := of_decide_eq_true ct2
            refine Go.rx 20 { ws := [(5, { v := some (ti ((d1.getD k1.toNat ((0, []) : Int × List UInt8)).1)) })] } [] [1, 2, 3, 6, 8, 9, 39] _ [(1, ti i), (2, .sl 1 .shr b.length (u8s b)), (3, .addr 10 0), (6, .addr 11 0), (8, .ref 12 2 0 o1.length), (9, ti k1), (39, tb (((d1.getD k1.toNat ((0, []) : Int × List UInt8)).1) != i))] [(10, [.sl 1 .shr d0.length (b8s .shr d0), .sl 2 .shr d1.length (fl (fun c : Int × List UInt8 => [ti c.1, .sl 1 .shr c.2.length (u8s c.2)]) d1), ti d2, tb d3]), (11, [.leaf (.slice none 0 0), .leaf (.slice none 0 0), ti 0, tb false]), (12, fl (fun c : Int × List UInt8 => [ti c.1, .sl 1 .shr c.2.length (u8s c.2)]) o1)] hk rfl kr (.cons (om : 0 ≤ (k1 : Int) ∧ (k1 : Int) < ((d1.length : Nat) : Int)) (.cons (fl_part1 (g := (fun c : Int × List UInt8 => [ti c.1, .sl 1 .shr c.2.length (u8s c.2)])) (m := 2) (k := k1.toNat * 2 + 0) (n := k1.toNat) (j := 0) (l := d1) (d := ((0, []) : Int × List UInt8)) (kr : (E.ti 3).agg = false) (fun _ => rfl) rfl (by decide) om rfl) (.cons trivial .nil))) ?_
            clear hk; intro k hk
            refine Go.br 20 (Pf := (fun z : Lo ((List (Int × List UInt8))) ((List (List UInt8) × (List (Int × List UInt8)) × Int × Bool) × Int) => (PostX Γ bursaryref13_Tamper_enc) (Lo.el z (fun z : (List (Int × List UInt8)) => bursaryref13_Tamper_k1 d0 d2 d3 i b z)))) hk rfl rfl ?_ ?_ <;> clear hk <;> intro ct4 k hk
            · have ct4p := neIt ct4
              refine Go.rx 20 { ws := [(5, { v := some (.agg ([ti ((d1.getD k1.toNat ((0, []) : Int × List UInt8)).1), .sl 1 .shr ((d1.getD k1.toNat ((0, []) : Int × List UInt8)).2).length (u8s ((d1.getD k1.toNat ((0, []) : Int × List UInt8)).2))])) }), (6, { id := 13 }), (7, { v := some (.ref 12 2 0 ((o1 ++ ([((d1.getD k1.toNat ((0, []) : Int × List UInt8)).1, (d1.getD k1.toNat ((0, []) : Int × List UInt8)).2)])).length)), c := some (fl (fun c : Int × List UInt8 => [ti c.1, .sl 1 .shr c.2.length (u8s c.2)]) (o1 ++ ([((d1.getD k1.toNat ((0, []) : Int × List UInt8)).1, (d1.getD k1.toNat ((0, []) : Int × List UInt8)).2)]))), id := 12, sym := true })], pg := [12], fd := some [12] } [13] [1, 2, 3, 6, 8, 9] _ [(1, ti i), (2, .sl 1 .shr b.length (u8s b)), (3, .addr 10 0), (6, .addr 11 0), (8, .ref 12 2 0 ((o1 ++ ([((d1.getD k1.toNat ((0, []) : Int × List UInt8)).1, (d1.getD k1.toNat ((0, []) : Int × List UInt8)).2)])).length)), (9, ti k1)] [(10, [.sl 1 .shr d0.length (b8s .shr d0), .sl 2 .shr d1.length (fl (fun c : Int × List UInt8 => [ti c.1, .sl 1 .shr c.2.length (u8s c.2)]) d1), ti d2, tb d3]), (11, [.leaf (.slice none 0 0), .leaf (.slice none 0 0), ti 0, tb false]), (12, fl (fun c : Int × List UInt8 => [ti c.1, .sl 1 .shr c.2.length (u8s c.2)]) (o1 ++ ([((d1.getD k1.toNat ((0, []) : Int × List UInt8)).1, (d1.getD k1.toNat ((0, []) : Int × List UInt8)).2)])))] hk rfl kr (.cons (om : 0 ≤ (k1 : Int) ∧ (k1 : Int) < ((d1.length : Nat) : Int)) (.cons (fl_part (m := 2) (g := (fun c : Int × List UInt8 => [ti c.1, .sl 1 .shr c.2.length (u8s c.2)])) (k := k1.toNat * 2) (n := k1.toNat) (l := d1) (d := ((0, []) : Int × List UInt8)) (kr : (E.ti 170).agg = true) rfl (fun _ => rfl) rfl om rfl) (.cons (Nat.le_of_ble_eq_true rfl : 0 + 1 * 2 ≤ ([ti ((d1.getD k1.toNat ((0, []) : Int × List UInt8)).1), .sl 1 .shr ((d1.getD k1.toNat ((0, []) : Int × List UInt8)).2).length (u8s ((d1.getD k1.toNat ((0, []) : Int × List UInt8)).2))] : List T).length) (.cons (qh7_6 : 0 + o1.length * 2 ≤ (fl (fun c : Int × List UInt8 => [ti c.1, .sl 1 .shr c.2.length (u8s c.2)]) o1).length) (.cons (rfl : scalL ([ti ((d1.getD k1.toNat ((0, []) : Int × List UInt8)).1), .sl 1 .shr ((d1.getD k1.toNat ((0, []) : Int × List UInt8)).2).length (u8s ((d1.getD k1.toNat ((0, []) : Int × List UInt8)).2))]) = true) (.cons (om : (o1.length + 1) * 32 ≤ 140737488355328) (.cons (fl_app' (g := (fun c : Int × List UInt8 => [ti c.1, .sl 1 .shr c.2.length (u8s c.2)])) (m := 2) (k := o1.length) (fun _ => rfl) o1 ([((d1.getD k1.toNat ((0, []) : Int × List UInt8)).1, (d1.getD k1.toNat ((0, []) : Int × List UInt8)).2)]) rfl rfl) (.cons (fl_mem (i := 12) (g := (fun c : Int × List UInt8 => [ti c.1, .sl 1 .shr c.2.length (u8s c.2)])) (o1 ++ ([((d1.getD k1.toNat ((0, []) : Int × List UInt8)).1, (d1.getD k1.toNat ((0, []) : Int × List UInt8)).2)])) (fun _ => rfl)) (.cons (by first | rfl | (simp; done) | (refine congrArg (fun q => T.ref 12 2 0 q) ?_; simp <;> omega) : T.ref 12 2 0 (o1.length + 1) = .ref 12 2 0 ((o1 ++ ([((d1.getD k1.toNat ((0, []) : Int × List UInt8)).1, (d1.getD k1.toNat ((0, []) : Int × List UInt8)).2)])).length)) (.cons (fl_mem (i := 13) (g := (fun c : Int × List UInt8 => [ti c.1, .sl 1 .shr c.2.length (u8s c.2)])) (o1 ++ ([((d1.getD k1.toNat ((0, []) : Int × List UInt8)).1, (d1.getD k1.toNat ((0, []) : Int × List UInt8)).2)])) (fun _ => rfl)) .nil)))))))))) ?_
              clear hk; intro k hk
              refine Go.rx 20 { ws := [(1, { v := some (ti (k1 + 1)) })] } [] [1, 2, 3, 6, 8, 9] _ [(1, ti i), (2, .sl 1 .shr b.length (u8s b)), (3, .addr 10 0), (6, .addr 11 0), (8, .ref 12 2 0 ((o1 ++ ([((d1.getD k1.toNat ((0, []) : Int × List UInt8)).1, (d1.getD k1.toNat ((0, []) : Int × List UInt8)).2)])).length)), (9, ti (k1 + 1))] [(10, [.sl 1 .shr d0.length (b8s .shr d0), .sl 2 .shr d1.length (fl (fun c : Int × List UInt8 => [ti c.1, .sl 1 .shr c.2.length (u8s c.2)]) d1), ti d2, tb d3]), (11, [.leaf (.slice none 0 0), .leaf (.slice none 0 0), ti 0, tb false]), (12, fl (fun c : Int × List UInt8 => [ti c.1, .sl 1 .shr c.2.length (u8s c.2)]) (o1 ++ ([((d1.getD k1.toNat ((0, []) : Int × List UInt8)).1, (d1.getD k1.toNat ((0, []) : Int × List UInt8)).2)])))] hk rfl kr (.cons trivial (.cons (iw (k1 + 1) om) .nil)) ?_
              clear hk; intro k hk
              exact Go.join 20 hk hl1 rfl (ihl1 (k1 + 1) (o1 ++ ([((d1.getD k1.toNat ((0, []) : Int × List UInt8)).1, (d1.getD k1.toNat ((0, []) : Int × List UInt8)).2)])) qh7_2 qh7_2 qh7_2 om)
            · have ct4p := neIf ct4
              refine Go.rx 20 { ws := [(1, { v := some (ti (k1 + 1)) })] } [] [1, 2, 3, 6, 8, 9] _ [(1, ti i), (2, .sl 1 .shr b.length (u8s b)), (3, .addr 10 0), (6, .addr 11 0), (8, .ref 12 2 0 o1.length), (9, ti (k1 + 1))] [(10, [.sl 1 .shr d0.length (b8s .shr d0), .sl 2 .shr d1.length (fl (fun c : Int × List UInt8 => [ti c.1, .sl 1 .shr c.2.length (u8s c.2)]) d1), ti d2, tb d3]), (11, [.leaf (.slice none 0 0), .leaf (.slice none 0 0), ti 0, tb false]), (12, fl (fun c : Int × List UInt8 => [ti c.1, .sl 1 .shr c.2.length (u8s c.2)]) o1)] hk rfl kr (.cons trivial (.cons (iw (k1 + 1) om) .nil)) ?_
              clear hk; intro k hk
              exact Go.join 20 hk hl1 rfl (ihl1 (k1 + 1) o1 qh7_2 qh7_2 qh7_2 om)
          · have ct2p := of_decide_eq_false ct2
            refine Go.keepN [1, 2, 3, 6, 8] (L' := [(1, ti i), (2, .sl 1 .shr b.length (u8s b)), (3, .addr 10 0), (6, .addr 11 0), (8, .ref 12 2 0 o1.length)]) rfl ?_
            exact Go.exitX (Pf := (PostX Γ bursaryref13_Tamper_enc)) (F := fun z : (List (Int × List UInt8)) => bursaryref13_Tamper_k1 d0 d2 d3 i b z) (a := o1) (Go.join 20 hk hxl1 rfl (Xl1 o1))
      exact Ll1 _ 0 [] qh7_3 qh7_3 qh7_3 (Nat.lt_succ_self _)
  · intro hk J
    rcases Bool.eq_false_or_eq_true (decide (i < 0)) with gd1 | gd1
    · have gd1p := of_decide_eq_true gd1
      refine Go.rx 20 { ws := [(1, { v := some (tb true) })] } [] [1, 2, 3, 6, 23] _ [(1, ti i), (2, .sl 1 .shr b.length (u8s b)), (3, .addr 10 0), (6, .addr 11 0), (23, tb true)] [(10, [.sl 1 .shr d0.length (b8s .shr d0), .sl 2 .shr d1.length (fl (fun c : Int × List UInt8 => [ti c.1, .sl 1 .shr c.2.length (u8s c.2)]) d1), ti d2, tb d3]), (11, [.leaf (.slice none 0 0), .leaf (.slice none 0 0), ti 0, tb false])] hk rfl kr (.cons trivial (.cons (eb gd1) .nil)) ?_
      intro k' hk'
      refine Go.slotEq 23 (tb ((decide (i < 0)) || ((decide (i ≥ (d0.length : Int))) || ((b.length : Int) != 64)))) rfl (eb (orT gd1).symm) ?_
      exact J k' hk'
    · have gd1p := of_decide_eq_false gd1
      rcases Bool.eq_false_or_eq_true (decide (i ≥ (d0.length : Int))) with gd2 | gd2
      · have gd2p := of_decide_eq_true gd2
        refine Go.rx 20 { ws := [(1, { v := some (tb false) }), (7, { v := some (tb true) })] } [] [1, 2, 3, 6, 23] _ [(1, ti i), (2, .sl 1 .shr b.length (u8s b)), (3, .addr 10 0), (6, .addr 11 0), (23, tb true)] [(10, [.sl 1 .shr d0.length (b8s .shr d0), .sl 2 .shr d1.length (fl (fun c : Int × List UInt8 => [ti c.1, .sl 1 .shr c.2.length (u8s c.2)]) d1), ti d2, tb d3]), (11, [.leaf (.slice none 0 0), .leaf (.slice none 0 0), ti 0, tb false])] hk rfl kr (.cons trivial (.cons (eb gd1) (.cons trivial (.cons (eb gd2) .nil)))) ?_
        intro k' hk'
        refine Go.slotEq 23 (tb ((decide (i < 0)) || ((decide (i ≥ (d0.length : Int))) || ((b.length : Int) != 64)))) rfl (eb (orF gd1 (orT gd2)).symm) ?_
        exact J k' hk'
      · have gd2p := of_decide_eq_false gd2
        refine Go.rx 20 { ws := [(1, { v := some (tb false) }), (7, { v := some (tb false) })] } [] [1, 2, 3, 6, 23] _ [(1, ti i), (2, .sl 1 .shr b.length (u8s b)), (3, .addr 10 0), (6, .addr 11 0), (23, tb ((b.length : Int) != 64))] [(10, [.sl 1 .shr d0.length (b8s .shr d0), .sl 2 .shr d1.length (fl (fun c : Int × List UInt8 => [ti c.1, .sl 1 .shr c.2.length (u8s c.2)]) d1), ti d2, tb d3]), (11, [.leaf (.slice none 0 0), .leaf (.slice none 0 0), ti 0, tb false])] hk rfl kr (.cons trivial (.cons (eb gd1) (.cons trivial (.cons (eb gd2) (.cons trivial .nil))))) ?_
        intro k' hk'
        refine Go.slotEq 23 (tb ((decide (i < 0)) || ((decide (i ≥ (d0.length : Int))) || ((b.length : Int) != 64)))) rfl (eb (orF gd1 (orF gd2 rfl)).symm) ?_
        exact J k' hk'
theorem bursaryref13_Tamper_l1_gen : True := by have := @bursaryref13_Tamper_l1.eq_1; have := @bursaryref13_Tamper_l1.eq_2; trivial
attribute [irreducible] bursaryref13_Tamper_k1 bursaryref13_Tamper_l1 bursaryref13_Tamper
noncomputable def bursaryref13_All_k1 (o2 : List UInt8) : List UInt8 :=
  o2
noncomputable def bursaryref13_All_l1 (d0 : List (List UInt8)) : Nat → Int → (List UInt8) → Lo (List UInt8) (List UInt8)
  | 0, _, _ => .brk default
  | ml1 + 1, i1, o1 =>
    bif decide (i1 < (d0.length : Int)) then
      bursaryref13_All_l1 d0 ml1 (i1 + 1) (o1 ++ (d0.getD i1.toNat []))
    else
      Lo.brk o1
noncomputable def bursaryref13_All (d0 : List (List UInt8)) (d1 : List (Int × List UInt8)) (d2 : Int) (d3 : Bool) : List UInt8 :=
  Lo.el (bursaryref13_All_l1 d0 (((d0.length : Int) - (0 : Int)).toNat + 1) 0 []) (fun z : List UInt8 => bursaryref13_All_k1 z)
def bursaryref13_All_enc (x : List UInt8) : T × List (Nat × List T) := (.sl 1 .shr x.length (u8s x), [])
theorem bursaryref13_All_m (d0 : List (List UInt8)) (d1 : List (Int × List UInt8)) (d2 : Int) (d3 : Bool) (hD : okD 1000 d0 d1 d2) : Meets Tryd.prog 35 [.agg ([.sl 1 .shr d0.length (b8s .shr d0), .sl 2 .shr d1.length (fl (fun c : Int × List UInt8 => [ti c.1, .sl 1 .shr c.2.length (u8s c.2)]) d1), ti d2, tb d3])] [] [] (.sl 1 .shr (bursaryref13_All d0 d1 d2 d3).length (u8s (bursaryref13_All d0 d1 d2 d3))) [] := by
  refine Meets.enterX (E := E) (N := 20) (enc := bursaryref13_All_enc) (x := (bursaryref13_All d0 d1 d2 d3)) Tryd.func35 Tryd.call35 rfl rfl ?_
  intro Γ k hk
  obtain ⟨hl0, hl1, hw, hm0, hm1, ha⟩ := hD
  refine Go.rx 20 { ws := [(0, { id := 10 })] } [] [1] _ [(1, .addr 10 0)] [(10, [.sl 1 .shr d0.length (b8s .shr d0), .sl 2 .shr d1.length (fl (fun c : Int × List UInt8 => [ti c.1, .sl 1 .shr c.2.length (u8s c.2)]) d1), ti d2, tb d3])] hk rfl kr .nil ?_
  clear hk; intro k hk
  refine Go.rx 20 {} [] [1, 3] _ [(1, .addr 10 0), (3, .leaf (.slice none 0 0))] [(10, [.sl 1 .shr d0.length (b8s .shr d0), .sl 2 .shr d1.length (fl (fun c : Int × List UInt8 => [ti c.1, .sl 1 .shr c.2.length (u8s c.2)]) d1), ti d2, tb d3])] hk rfl kr .nil ?_
  clear hk; intro k hk
  refine Go.rx 20 {} [] [1, 3, 4] _ [(1, .addr 10 0), (3, .leaf (.slice none 0 0)), (4, ti 0)] [(10, [.sl 1 .shr d0.length (b8s .shr d0), .sl 2 .shr d1.length (fl (fun c : Int × List UInt8 => [ti c.1, .sl 1 .shr c.2.length (u8s c.2)]) d1), ti d2, tb d3])] hk rfl kr .nil ?_
  clear hk; intro k hk
  refine Go.phn 3 11 1 rfl (.inl rfl) rfl rfl ?_
  refine Go.loopX 20 hk rfl ?_
  clear hk; intro kl1 kxl1 hl1 hxl1
  have Xl1 : ∀ (o2 : List UInt8), Go E Γ 35 20 [] ((PostX Γ bursaryref13_All_enc) (bursaryref13_All_k1 o2)) kxl1 (stL [(3, .ref 11 1 0 o2.length)] [(10, [.sl 1 .shr d0.length (b8s .shr d0), .sl 2 .shr d1.length (fl (fun c : Int × List UInt8 => [ti c.1, .sl 1 .shr c.2.length (u8s c.2)]) d1), ti d2, tb d3]), (11, u8s o2)]) := by
    intro o2
    refine Go.rx 20 { pg := [11] } [10] [2] _ [(2, .ref 11 1 0 o2.length)] [(11, u8s o2)] hxl1 rfl kr (.cons (mp_mem (i := 10) (g := (fun c : UInt8 => T.leaf (.int .u8 c.toNat))) o2 (fun _ => rfl)) .nil) ?_
    clear hxl1; intro kxl1 hxl1
    refine Go.frz [] [] 2 11 (u8s o2) _ [(2, .dead)] [] rfl rfl (mp_ids (g := (fun c : UInt8 => T.leaf (.int .u8 c.toNat))) o2 (fun _ => rfl)) qh7_4 (mp_all (g := (fun c : UInt8 => T.leaf (.int .u8 c.toNat))) o2) kr .nil ?_
    exact Go.lvx 20 [] _ [.sl 1 .shr o2.length (u8s o2)] Tryd.func35 hxl1 rfl kr .nil (T.Le.of_eq rfl) rfl rfl .nil
  have Ll1 : ∀ (ml1 : Nat) (i1 : Int) (o1 : List UInt8), (0 ≤ i1) → ((o1.length : Int) ≤ 64 * i1) → (i1 ≤ (d0.length : Int)) → (((d0.length : Int) - i1).toNat < ml1) → Go E Γ 35 20 [] ((PostX Γ bursaryref13_All_enc) (Lo.el (bursaryref13_All_l1 d0 ml1 i1 o1) (fun z : List UInt8 => bursaryref13_All_k1 z))) kl1 (stL [(1, .addr 10 0), (3, .ref 11 1 0 o1.length), (4, ti i1)] [(10, [.sl 1 .shr d0.length (b8s .shr d0), .sl 2 .shr d1.length (fl (fun c : Int × List UInt8 => [ti c.1, .sl 1 .shr c.2.length (u8s c.2)]) d1), ti d2, tb d3]), (11, u8s o1)]) := by
    intro ml1
    induction ml1 with
    | zero => intro i1 o1 i0l1 i1l1 i2l1 hml1; exact absurd hml1 (Nat.not_lt_zero _)
    | succ ml1 ihl1 =>
      intro i1 o1 i0l1 i1l1 i2l1 hml1
      rw [bursaryref13_All_l1]
      refine Go.round hl1 ?_
      intro k hk
      have hq := hm0 i1.toNat
      refine Go.rx 20 {} [] [1, 3, 4, 9] _ [(1, .addr 10 0), (3, .ref 11 1 0 o1.length), (4, ti i1), (9, tb (decide (i1 < (d0.length : Int))))] [(10, [.sl 1 .shr d0.length (b8s .shr d0), .sl 2 .shr d1.length (fl (fun c : Int × List UInt8 => [ti c.1, .sl 1 .shr c.2.length (u8s c.2)]) d1), ti d2, tb d3]), (11, u8s o1)] hk rfl kr (.cons trivial .nil) ?_
      clear hk; intro k hk
      refine Go.br 20 (Pf := (fun z : Lo (List UInt8) (List UInt8) => (PostX Γ bursaryref13_All_enc) (Lo.el z (fun z : List UInt8 => bursaryref13_All_k1 z)))) hk rfl rfl ?_ ?_ <;> clear hk <;> intro ct1 k hk
      · have ct1p := of_decide_eq_true ct1
        refine Go.rx 20 { ws := [(5, { v := some (.sl 1 .shr (d0.getD i1.toNat []).length (u8s (d0.getD i1.toNat []))) }), (6, { v := some (.ref 11 1 0 ((o1 ++ (d0.getD i1.toNat [])).length)), c := some (u8s (o1 ++ (d0.getD i1.toNat []))), id := 11, sym := true })], fd := some [11] } [] [1, 3, 4] _ [(1, .addr 10 0), (3, .ref 11 1 0 ((o1 ++ (d0.getD i1.toNat [])).length)), (4, ti i1)] [(10, [.sl 1 .shr d0.length (b8s .shr d0), .sl 2 .shr d1.length (fl (fun c : Int × List UInt8 => [ti c.1, .sl 1 .shr c.2.length (u8s c.2)]) d1), ti d2, tb d3]), (11, u8s (o1 ++ (d0.getD i1.toNat [])))] hk rfl kr (.cons (om : 0 ≤ (i1 : Int) ∧ (i1 : Int) < ((d0.length : Nat) : Int)) (.cons (part1 (kr : (E.ti 22).agg = false) (mp_get (g := (fun c : List UInt8 => tl .shr c)) (k := i1.toNat * 1) (n := i1.toNat) d0 [] (by omega) om)) (.cons (qh7_4 : 0 + o1.length * 1 ≤ (u8s o1).length) (.cons (mp_scal (d0.getD i1.toNat []) (fun _ => rfl) : scalL (u8s (d0.getD i1.toNat [])) = true) (.cons (om : (o1.length + (d0.getD i1.toNat []).length) * 1 ≤ 140737488355328) (.cons (mp_app (g := (fun c : UInt8 => T.leaf (.int .u8 c.toNat))) (o1) (d0.getD i1.toNat []) rfl) (.cons (mp_mem (i := 11) (g := (fun c : UInt8 => T.leaf (.int .u8 c.toNat))) (o1 ++ (d0.getD i1.toNat [])) (fun _ => rfl)) (.cons (by first | rfl | (simp; done) | (refine congrArg (fun q => T.ref 11 1 0 q) ?_; simp <;> omega) : T.ref 11 1 0 (o1.length + (d0.getD i1.toNat []).length) = .ref 11 1 0 ((o1 ++ (d0.getD i1.toNat [])).length)) .nil)))))))) ?_
        clear hk; intro k hk
        refine Go.rx 20 { ws := [(1, { v := some (ti (i1 + 1)) })] } [] [1, 3, 4] _ [(1, .addr 10 0), (3, .ref 11 1 0 ((o1 ++ (d0.getD i1.toNat [])).length)), (4, ti (i1 + 1))] [(10, [.sl 1 .shr d0.length (b8s .shr d0), .sl 2 .shr d1.length (fl (fun c : Int × List UInt8 => [ti c.1, .sl 1 .shr c.2.length (u8s c.2)]) d1), ti d2, tb d3]), (11, u8s (o1 ++ (d0.getD i1.toNat [])))] hk rfl kr (.cons trivial (.cons (iw (i1 + 1) om) .nil)) ?_
        clear hk; intro k hk
        exact Go.join 20 hk hl1 rfl (ihl1 (i1 + 1) (o1 ++ (d0.getD i1.toNat [])) qh7_5 qh7_5 qh7_5 om)
      · have ct1p := of_decide_eq_false ct1
        refine Go.keepN [3] (L' := [(3, .ref 11 1 0 o1.length)]) rfl ?_
        exact Go.exitX (Pf := (PostX Γ bursaryref13_All_enc)) (F := fun z : List UInt8 => bursaryref13_All_k1 z) (a := o1) (Go.join 20 hk hxl1 rfl (Xl1 o1))
  exact Ll1 _ 0 [] qh7_3 qh7_3 qh7_3 (Nat.lt_succ_self _)
theorem bursaryref13_All_l1_gen : True := by have := @bursaryref13_All_l1.eq_1; have := @bursaryref13_All_l1.eq_2; trivial
attribute [irreducible] bursaryref13_All_k1 bursaryref13_All_l1 bursaryref13_All
end Go.Proofs.YtbppcnhfeobefaaDoor

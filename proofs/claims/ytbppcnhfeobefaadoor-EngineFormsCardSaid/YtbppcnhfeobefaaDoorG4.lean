import Derived.Test.YtbppcnhfeobefaaDoorG3
set_option linter.unusedVariables false
set_option linter.unusedSimpArgs false
namespace Go.Proofs.YtbppcnhfeobefaaDoor
open Go Go.Vw Go.Proofs
noncomputable def bursaryref30_May_k1  : Bool :=
  true
noncomputable def bursaryref30_May_l1 (a00 : List (UInt32 × List UInt8 × UInt64 × Int)) : Nat → Int → Int → Lo Unit Bool
  | 0, _, _ => .brk default
  | ml1 + 1, t31, t41 =>
    bif decide (t41 ≥ 0) then
      bif (decide (t31 < 1)) || (((((a00.getD t41.toNat ((0, [], 0, 0) : UInt32 × List UInt8 × UInt64 × Int)).1).toNat : Int) != t31) || ((decide ((a00.getD t41.toNat ((0, [], 0, 0) : UInt32 × List UInt8 × UInt64 × Int)).2.2.2 < 0)) || ((decide ((a00.getD t41.toNat ((0, [], 0, 0) : UInt32 × List UInt8 × UInt64 × Int)).2.2.2 > 2)) || ((decide ((((a00.getD t41.toNat ((0, [], 0, 0) : UInt32 × List UInt8 × UInt64 × Int)).2.1).length : Int) > 100)) || ((((a00.getD t41.toNat ((0, [], 0, 0) : UInt32 × List UInt8 × UInt64 × Int)).2.2.2) == 2) && (decide ((((a00.getD t41.toNat ((0, [], 0, 0) : UInt32 × List UInt8 × UInt64 × Int)).2.1).length : Int) > 0))))))) then
        Lo.ret false
      else
        bursaryref30_May_l1 a00 ml1 (t31 - 1) (t41 - 1)
    else
      Lo.brk ()
noncomputable def bursaryref30_May (a00 : List (UInt32 × List UInt8 × UInt64 × Int)) (a01 : UInt32) (a02 : Int) : Bool :=
  bif (decide (a02 < 1)) || ((decide (a02 > 8)) || ((decide ((a00.length : Int) > a02)) || (((a00.length : Int) == 0) && (a01 != 0)))) then
    false
  else
    Lo.el (bursaryref30_May_l1 a00 ((((a00.length : Int) - 1) + 1).toNat + 1) (a01.toNat : Int) ((a00.length : Int) - 1)) (fun z : Unit => bursaryref30_May_k1)
def bursaryref30_May_enc (x : Bool) : T × List (Nat × List T) := (tb x, [])
theorem bursaryref30_May_m {g_a00 : Tag} (a00 : List (UInt32 × List UInt8 × UInt64 × Int)) (a01 : UInt32) (a02 : Int) : Meets Tryd.prog 52 [.agg ([.sl 4 g_a00 a00.length (fl (fun c : UInt32 × List UInt8 × UInt64 × Int => [t32 c.1, .sl 1 .shr c.2.1.length (u8s c.2.1), t64 c.2.2.1, ti c.2.2.2]) a00), t32 a01, ti a02])] [] [] (tb (bursaryref30_May a00 a01 a02)) [] := by
  refine Meets.enterX (E := E) (N := 87) (enc := bursaryref30_May_enc) (x := (bursaryref30_May a00 a01 a02)) Tryd.func52 Tryd.call52 rfl rfl ?_
  intro Γ k hk
  have hlast := a01.toNat_lt
  refine Go.rx 20 { ws := [(0, { id := 10 })] } [] [1] _ [(1, .addr 10 0)] [(10, [.sl 4 g_a00 a00.length (fl (fun c : UInt32 × List UInt8 × UInt64 × Int => [t32 c.1, .sl 1 .shr c.2.1.length (u8s c.2.1), t64 c.2.2.1, ti c.2.2.2]) a00), t32 a01, ti a02])] hk rfl kr .nil ?_
  clear hk; intro k hk
  refine Go.regJ 20 [(1, .addr 10 0), (32, tb ((decide (a02 < 1)) || ((decide (a02 > 8)) || ((decide ((a00.length : Int) > a02)) || (((a00.length : Int) == 0) && (a01 != 0))))))] [(10, [.sl 4 g_a00 a00.length (fl (fun c : UInt32 × List UInt8 × UInt64 × Int => [t32 c.1, .sl 1 .shr c.2.1.length (u8s c.2.1), t64 c.2.2.1, ti c.2.2.2]) a00), t32 a01, ti a02])] hk rfl ?_ ?_
  · clear hk; intro k hk
    refine Go.br 20 (Pf := (PostX Γ bursaryref30_May_enc)) hk rfl rfl ?_ ?_ <;> clear hk <;> intro ct1 k hk
    · refine Go.rx 20 {} [10] [2] _ [(2, tb false)] [] hk rfl kr .nil ?_
      clear hk; intro k hk
      exact Go.lvx 20 [] _ [tb false] Tryd.func52 hk rfl kr .nil (T.Le.of_eq rfl) rfl rfl .nil
    · have ct11 : (decide (a02 < 1)) = false := (Bool.or_eq_false_iff.1 ct1).1
      have ct12 : ((decide (a02 > 8)) || ((decide ((a00.length : Int) > a02)) || (((a00.length : Int) == 0) && (a01 != 0)))) = false := (Bool.or_eq_false_iff.1 ct1).2
      have ct11p := of_decide_eq_false ct11
      have ct121 : (decide (a02 > 8)) = false := (Bool.or_eq_false_iff.1 ct12).1
      have ct122 : ((decide ((a00.length : Int) > a02)) || (((a00.length : Int) == 0) && (a01 != 0))) = false := (Bool.or_eq_false_iff.1 ct12).2
      have ct121p := of_decide_eq_false ct121
      have ct1221 : (decide ((a00.length : Int) > a02)) = false := (Bool.or_eq_false_iff.1 ct122).1
      have ct1222 : (((a00.length : Int) == 0) && (a01 != 0)) = false := (Bool.or_eq_false_iff.1 ct122).2
      have ct1221p := of_decide_eq_false ct1221
      have := lt32 a01
      refine Go.rx 20 { ws := [(2, { v := some (ti (a01.toNat : Int)) })] } [] [1, 3] _ [(1, .addr 10 0), (3, ti (a01.toNat : Int))] [(10, [.sl 4 g_a00 a00.length (fl (fun c : UInt32 × List UInt8 × UInt64 × Int => [t32 c.1, .sl 1 .shr c.2.1.length (u8s c.2.1), t64 c.2.2.1, ti c.2.2.2]) a00), t32 a01, ti a02])] hk rfl kr (.cons (cv32_i a01) .nil) ?_
      clear hk; intro k hk
      refine Go.rx 20 { ws := [(3, { v := some (ti ((a00.length : Int) - 1)) })] } [] [1, 3, 4] _ [(1, .addr 10 0), (3, ti (a01.toNat : Int)), (4, ti ((a00.length : Int) - 1))] [(10, [.sl 4 g_a00 a00.length (fl (fun c : UInt32 × List UInt8 × UInt64 × Int => [t32 c.1, .sl 1 .shr c.2.1.length (u8s c.2.1), t64 c.2.2.1, ti c.2.2.2]) a00), t32 a01, ti a02])] hk rfl kr (.cons trivial (.cons (iw ((a00.length : Int) - 1) om) .nil)) ?_
      clear hk; intro k hk
      refine Go.loopX 20 hk rfl ?_
      clear hk; intro kl1 kxl1 hl1 hxl1
      have Xl1 : ∀ (_ : True), Go E Γ 52 87 [] ((PostX Γ bursaryref30_May_enc) (bursaryref30_May_k1)) kxl1 (stL [] [(10, [.sl 4 g_a00 a00.length (fl (fun c : UInt32 × List UInt8 × UInt64 × Int => [t32 c.1, .sl 1 .shr c.2.1.length (u8s c.2.1), t64 c.2.2.1, ti c.2.2.2]) a00), t32 a01, ti a02])]) := by
        intro _
        refine Go.rx 20 {} [10] [2] _ [(2, tb true)] [] hxl1 rfl kr .nil ?_
        clear hxl1; intro kxl1 hxl1
        exact Go.lvx 20 [] _ [tb true] Tryd.func52 hxl1 rfl kr .nil (T.Le.of_eq rfl) rfl rfl .nil
      have Ll1 : ∀ (ml1 : Nat) (t31 : Int) (t41 : Int), (0 ≤ t31) → (t31 ≤ 4294967296) → (-1 ≤ t41) → (t41 < (a00.length : Int)) → ((t41 + 1).toNat < ml1) → Go E Γ 52 87 [] ((PostX Γ bursaryref30_May_enc) (Lo.el (bursaryref30_May_l1 a00 ml1 t31 t41) (fun z : Unit => bursaryref30_May_k1))) kl1 (stL [(1, .addr 10 0), (3, ti t31), (4, ti t41)] [(10, [.sl 4 g_a00 a00.length (fl (fun c : UInt32 × List UInt8 × UInt64 × Int => [t32 c.1, .sl 1 .shr c.2.1.length (u8s c.2.1), t64 c.2.2.1, ti c.2.2.2]) a00), t32 a01, ti a02])]) := by
        intro ml1
        induction ml1 with
        | zero => intro t31 t41 i0l1 i1l1 i2l1 i3l1 hml1; exact absurd hml1 (Nat.not_lt_zero _)
        | succ ml1 ihl1 =>
          intro t31 t41 i0l1 i1l1 i2l1 i3l1 hml1
          rw [bursaryref30_May_l1]
          refine Go.round hl1 ?_
          intro k hk
          refine Go.rx 20 {} [] [1, 3, 4, 41] _ [(1, .addr 10 0), (3, ti t31), (4, ti t41), (41, tb (decide (t41 ≥ 0)))] [(10, [.sl 4 g_a00 a00.length (fl (fun c : UInt32 × List UInt8 × UInt64 × Int => [t32 c.1, .sl 1 .shr c.2.1.length (u8s c.2.1), t64 c.2.2.1, ti c.2.2.2]) a00), t32 a01, ti a02])] hk rfl kr (.cons trivial .nil) ?_
          clear hk; intro k hk
          refine Go.br 20 (Pf := (fun z : Lo (Unit) (Bool) => (PostX Γ bursaryref30_May_enc) (Lo.el z (fun z : Unit => bursaryref30_May_k1)))) hk rfl rfl ?_ ?_ <;> clear hk <;> intro ct2 k hk
          · have ct2p := of_decide_eq_true ct2
            refine Go.rx 20 { ws := [(4, { v := some (.agg ([t32 ((a00.getD t41.toNat ((0, [], 0, 0) : UInt32 × List UInt8 × UInt64 × Int)).1), .sl 1 .shr ((a00.getD t41.toNat ((0, [], 0, 0) : UInt32 × List UInt8 × UInt64 × Int)).2.1).length (u8s ((a00.getD t41.toNat ((0, [], 0, 0) : UInt32 × List UInt8 × UInt64 × Int)).2.1)), t64 ((a00.getD t41.toNat ((0, [], 0, 0) : UInt32 × List UInt8 × UInt64 × Int)).2.2.1), ti ((a00.getD t41.toNat ((0, [], 0, 0) : UInt32 × List UInt8 × UInt64 × Int)).2.2.2)])) }), (5, { id := 11 })] } [] [1, 3, 4, 5] _ [(1, .addr 10 0), (3, ti t31), (4, ti t41), (5, .addr 11 0)] [(10, [.sl 4 g_a00 a00.length (fl (fun c : UInt32 × List UInt8 × UInt64 × Int => [t32 c.1, .sl 1 .shr c.2.1.length (u8s c.2.1), t64 c.2.2.1, ti c.2.2.2]) a00), t32 a01, ti a02]), (11, [t32 ((a00.getD t41.toNat ((0, [], 0, 0) : UInt32 × List UInt8 × UInt64 × Int)).1), .sl 1 .shr ((a00.getD t41.toNat ((0, [], 0, 0) : UInt32 × List UInt8 × UInt64 × Int)).2.1).length (u8s ((a00.getD t41.toNat ((0, [], 0, 0) : UInt32 × List UInt8 × UInt64 × Int)).2.1)), t64 ((a00.getD t41.toNat ((0, [], 0, 0) : UInt32 × List UInt8 × UInt64 × Int)).2.2.1), ti ((a00.getD t41.toNat ((0, [], 0, 0) : UInt32 × List UInt8 × UInt64 × Int)).2.2.2)])] hk rfl kr (.cons (om : 0 ≤ (t41 : Int) ∧ (t41 : Int) < ((a00.length : Nat) : Int)) (.cons (fl_part (m := 4) (g := (fun c : UInt32 × List UInt8 × UInt64 × Int => [t32 c.1, .sl 1 .shr c.2.1.length (u8s c.2.1), t64 c.2.2.1, ti c.2.2.2])) (k := t41.toNat * 4) (n := t41.toNat) (l := a00) (d := ((0, [], 0, 0) : UInt32 × List UInt8 × UInt64 × Int)) (kr : (E.ti 82).agg = true) rfl (fun _ => rfl) rfl om rfl) .nil)) ?_
            clear hk; intro k hk
            refine Go.regJ 20 [(1, .addr 10 0), (3, ti t31), (4, ti t41), (84, tb ((decide (t31 < 1)) || (((((a00.getD t41.toNat ((0, [], 0, 0) : UInt32 × List UInt8 × UInt64 × Int)).1).toNat : Int) != t31) || ((decide ((a00.getD t41.toNat ((0, [], 0, 0) : UInt32 × List UInt8 × UInt64 × Int)).2.2.2 < 0)) || ((decide ((a00.getD t41.toNat ((0, [], 0, 0) : UInt32 × List UInt8 × UInt64 × Int)).2.2.2 > 2)) || ((decide ((((a00.getD t41.toNat ((0, [], 0, 0) : UInt32 × List UInt8 × UInt64 × Int)).2.1).length : Int) > 100)) || ((((a00.getD t41.toNat ((0, [], 0, 0) : UInt32 × List UInt8 × UInt64 × Int)).2.2.2) == 2) && (decide ((((a00.getD t41.toNat ((0, [], 0, 0) : UInt32 × List UInt8 × UInt64 × Int)).2.1).length : Int) > 0)))))))))] [(10, [.sl 4 g_a00 a00.length (fl (fun c : UInt32 × List UInt8 × UInt64 × Int => [t32 c.1, .sl 1 .shr c.2.1.length (u8s c.2.1), t64 c.2.2.1, ti c.2.2.2]) a00), t32 a01, ti a02])] hk rfl ?_ ?_
            · clear hk; intro k hk
              refine Go.br 20 (Pf := (fun z : Lo (Unit) (Bool) => (PostX Γ bursaryref30_May_enc) (Lo.el z (fun z : Unit => bursaryref30_May_k1)))) hk rfl rfl ?_ ?_ <;> clear hk <;> intro ct3 k hk
              · refine Go.rx 20 {} [10] [2] _ [(2, tb false)] [] hk rfl kr .nil ?_
                clear hk; intro k hk
                exact Go.lvx 20 [] _ [tb false] Tryd.func52 hk rfl kr .nil (T.Le.of_eq rfl) rfl rfl .nil
              · have ct31 : (decide (t31 < 1)) = false := (Bool.or_eq_false_iff.1 ct3).1
                have ct32 : (((((a00.getD t41.toNat ((0, [], 0, 0) : UInt32 × List UInt8 × UInt64 × Int)).1).toNat : Int) != t31) || ((decide ((a00.getD t41.toNat ((0, [], 0, 0) : UInt32 × List UInt8 × UInt64 × Int)).2.2.2 < 0)) || ((decide ((a00.getD t41.toNat ((0, [], 0, 0) : UInt32 × List UInt8 × UInt64 × Int)).2.2.2 > 2)) || ((decide ((((a00.getD t41.toNat ((0, [], 0, 0) : UInt32 × List UInt8 × UInt64 × Int)).2.1).length : Int) > 100)) || ((((a00.getD t41.toNat ((0, [], 0, 0) : UInt32 × List UInt8 × UInt64 × Int)).2.2.2) == 2) && (decide ((((a00.getD t41.toNat ((0, [], 0, 0) : UInt32 × List UInt8 × UInt64 × Int)).2.1).length : Int) > 0))))))) = false := (Bool.or_eq_false_iff.1 ct3).2
                have ct31p := of_decide_eq_false ct31
                have ct321 : ((((a00.getD t41.toNat ((0, [], 0, 0) : UInt32 × List UInt8 × UInt64 × Int)).1).toNat : Int) != t31) = false := (Bool.or_eq_false_iff.1 ct32).1
                have ct322 : ((decide ((a00.getD t41.toNat ((0, [], 0, 0) : UInt32 × List UInt8 × UInt64 × Int)).2.2.2 < 0)) || ((decide ((a00.getD t41.toNat ((0, [], 0, 0) : UInt32 × List UInt8 × UInt64 × Int)).2.2.2 > 2)) || ((decide ((((a00.getD t41.toNat ((0, [], 0, 0) : UInt32 × List UInt8 × UInt64 × Int)).2.1).length : Int) > 100)) || ((((a00.getD t41.toNat ((0, [], 0, 0) : UInt32 × List UInt8 × UInt64 × Int)).2.2.2) == 2) && (decide ((((a00.getD t41.toNat ((0, [], 0, 0) : UInt32 × List UInt8 × UInt64 × Int)).2.1).length : Int) > 0)))))) = false := (Bool.or_eq_false_iff.1 ct32).2
                have ct321p := neIf ct321
                have ct3221 : (decide ((a00.getD t41.toNat ((0, [], 0, 0) : UInt32 × List UInt8 × UInt64 × Int)).2.2.2 < 0)) = false := (Bool.or_eq_false_iff.1 ct322).1
                have ct3222 : ((decide ((a00.getD t41.toNat ((0, [], 0, 0) : UInt32 × List UInt8 × UInt64 × Int)).2.2.2 > 2)) || ((decide ((((a00.getD t41.toNat ((0, [], 0, 0) : UInt32 × List UInt8 × UInt64 × Int)).2.1).length : Int) > 100)) || ((((a00.getD t41.toNat ((0, [], 0, 0) : UInt32 × List UInt8 × UInt64 × Int)).2.2.2) == 2) && (decide ((((a00.getD t41.toNat ((0, [], 0, 0) : UInt32 × List UInt8 × UInt64 × Int)).2.1).length : Int) > 0))))) = false := (Bool.or_eq_false_iff.1 ct322).2
                have ct3221p := of_decide_eq_false ct3221
                have ct32221 : (decide ((a00.getD t41.toNat ((0, [], 0, 0) : UInt32 × List UInt8 × UInt64 × Int)).2.2.2 > 2)) = false := (Bool.or_eq_false_iff.1 ct3222).1
                have ct32222 : ((decide ((((a00.getD t41.toNat ((0, [], 0, 0) : UInt32 × List UInt8 × UInt64 × Int)).2.1).length : Int) > 100)) || ((((a00.getD t41.toNat ((0, [], 0, 0) : UInt32 × List UInt8 × UInt64 × Int)).2.2.2) == 2) && (decide ((((a00.getD t41.toNat ((0, [], 0, 0) : UInt32 × List UInt8 × UInt64 × Int)).2.1).length : Int) > 0)))) = false := (Bool.or_eq_false_iff.1 ct3222).2
                have ct32221p := of_decide_eq_false ct32221
                have ct322221 : (decide ((((a00.getD t41.toNat ((0, [], 0, 0) : UInt32 × List UInt8 × UInt64 × Int)).2.1).length : Int) > 100)) = false := (Bool.or_eq_false_iff.1 ct32222).1
                have ct322222 : ((((a00.getD t41.toNat ((0, [], 0, 0) : UInt32 × List UInt8 × UInt64 × Int)).2.2.2) == 2) && (decide ((((a00.getD t41.toNat ((0, [], 0, 0) : UInt32 × List UInt8 × UInt64 × Int)).2.1).length : Int) > 0))) = false := (Bool.or_eq_false_iff.1 ct32222).2
                have ct322221p := of_decide_eq_false ct322221
                refine Go.rx 20 { ws := [(1, { v := some (ti (t31 - 1)) })] } [] [1, 3, 4] _ [(1, .addr 10 0), (3, ti (t31 - 1)), (4, ti t41)] [(10, [.sl 4 g_a00 a00.length (fl (fun c : UInt32 × List UInt8 × UInt64 × Int => [t32 c.1, .sl 1 .shr c.2.1.length (u8s c.2.1), t64 c.2.2.1, ti c.2.2.2]) a00), t32 a01, ti a02])] hk rfl kr (.cons trivial (.cons (iw (t31 - 1) om) .nil)) ?_
                clear hk; intro k hk
                refine Go.rx 20 { ws := [(1, { v := some (ti (t41 - 1)) })] } [] [1, 3, 4] _ [(1, .addr 10 0), (3, ti (t31 - 1)), (4, ti (t41 - 1))] [(10, [.sl 4 g_a00 a00.length (fl (fun c : UInt32 × List UInt8 × UInt64 × Int => [t32 c.1, .sl 1 .shr c.2.1.length (u8s c.2.1), t64 c.2.2.1, ti c.2.2.2]) a00), t32 a01, ti a02])] hk rfl kr (.cons trivial (.cons (iw (t41 - 1) om) .nil)) ?_
                clear hk; intro k hk
                exact Go.join 20 hk hl1 rfl (ihl1 (t31 - 1) (t41 - 1) om om om om om)
            · intro hk J
              rcases Bool.eq_false_or_eq_true (decide (t31 < 1)) with gd5 | gd5
              · have gd5p := of_decide_eq_true gd5
                refine Go.rx 20 { ws := [(1, { v := some (tb true) })] } [11] [1, 3, 4, 84] _ [(1, .addr 10 0), (3, ti t31), (4, ti t41), (84, tb true)] [(10, [.sl 4 g_a00 a00.length (fl (fun c : UInt32 × List UInt8 × UInt64 × Int => [t32 c.1, .sl 1 .shr c.2.1.length (u8s c.2.1), t64 c.2.2.1, ti c.2.2.2]) a00), t32 a01, ti a02])] hk rfl kr (.cons trivial (.cons (eb gd5) .nil)) ?_
                intro k' hk'
                refine Go.slotEq 84 (tb ((decide (t31 < 1)) || (((((a00.getD t41.toNat ((0, [], 0, 0) : UInt32 × List UInt8 × UInt64 × Int)).1).toNat : Int) != t31) || ((decide ((a00.getD t41.toNat ((0, [], 0, 0) : UInt32 × List UInt8 × UInt64 × Int)).2.2.2 < 0)) || ((decide ((a00.getD t41.toNat ((0, [], 0, 0) : UInt32 × List UInt8 × UInt64 × Int)).2.2.2 > 2)) || ((decide ((((a00.getD t41.toNat ((0, [], 0, 0) : UInt32 × List UInt8 × UInt64 × Int)).2.1).length : Int) > 100)) || ((((a00.getD t41.toNat ((0, [], 0, 0) : UInt32 × List UInt8 × UInt64 × Int)).2.2.2) == 2) && (decide ((((a00.getD t41.toNat ((0, [], 0, 0) : UInt32 × List UInt8 × UInt64 × Int)).2.1).length : Int) > 0))))))))) rfl (eb (orT gd5).symm) ?_
                exact J k' hk'
              · have gd5p := of_decide_eq_false gd5
                rcases Bool.eq_false_or_eq_true ((((a00.getD t41.toNat ((0, [], 0, 0) : UInt32 × List UInt8 × UInt64 × Int)).1).toNat : Int) != t31) with gd6 | gd6
                · have gd6p := neIt gd6
                  have := lt32 ((a00.getD t41.toNat ((0, [], 0, 0) : UInt32 × List UInt8 × UInt64 × Int)).1)
                  refine Go.rx 20 { ws := [(1, { v := some (tb false) }), (5, { v := some (ti (((a00.getD t41.toNat ((0, [], 0, 0) : UInt32 × List UInt8 × UInt64 × Int)).1).toNat : Int)) }), (7, { v := some (tb true) })] } [11] [1, 3, 4, 84] _ [(1, .addr 10 0), (3, ti t31), (4, ti t41), (84, tb true)] [(10, [.sl 4 g_a00 a00.length (fl (fun c : UInt32 × List UInt8 × UInt64 × Int => [t32 c.1, .sl 1 .shr c.2.1.length (u8s c.2.1), t64 c.2.2.1, ti c.2.2.2]) a00), t32 a01, ti a02])] hk rfl kr (.cons trivial (.cons (eb gd5) (.cons (cv32_i ((a00.getD t41.toNat ((0, [], 0, 0) : UInt32 × List UInt8 × UInt64 × Int)).1)) (.cons trivial (.cons (eb gd6) .nil))))) ?_
                  intro k' hk'
                  refine Go.slotEq 84 (tb ((decide (t31 < 1)) || (((((a00.getD t41.toNat ((0, [], 0, 0) : UInt32 × List UInt8 × UInt64 × Int)).1).toNat : Int) != t31) || ((decide ((a00.getD t41.toNat ((0, [], 0, 0) : UInt32 × List UInt8 × UInt64 × Int)).2.2.2 < 0)) || ((decide ((a00.getD t41.toNat ((0, [], 0, 0) : UInt32 × List UInt8 × UInt64 × Int)).2.2.2 > 2)) || ((decide ((((a00.getD t41.toNat ((0, [], 0, 0) : UInt32 × List UInt8 × UInt64 × Int)).2.1).length : Int) > 100)) || ((((a00.getD t41.toNat ((0, [], 0, 0) : UInt32 × List UInt8 × UInt64 × Int)).2.2.2) == 2) && (decide ((((a00.getD t41.toNat ((0, [], 0, 0) : UInt32 × List UInt8 × UInt64 × Int)).2.1).length : Int) > 0))))))))) rfl (eb (orF gd5 (orT gd6)).symm) ?_
                  exact J k' hk'
                · have gd6p := neIf gd6
                  rcases Bool.eq_false_or_eq_true (decide ((a00.getD t41.toNat ((0, [], 0, 0) : UInt32 × List UInt8 × UInt64 × Int)).2.2.2 < 0)) with gd7 | gd7
                  · have gd7p := of_decide_eq_true gd7
                    have := lt32 ((a00.getD t41.toNat ((0, [], 0, 0) : UInt32 × List UInt8 × UInt64 × Int)).1)
                    refine Go.rx 20 { ws := [(1, { v := some (tb false) }), (5, { v := some (ti (((a00.getD t41.toNat ((0, [], 0, 0) : UInt32 × List UInt8 × UInt64 × Int)).1).toNat : Int)) }), (7, { v := some (tb false) }), (12, { v := some (tb true) })] } [11] [1, 3, 4, 84] _ [(1, .addr 10 0), (3, ti t31), (4, ti t41), (84, tb true)] [(10, [.sl 4 g_a00 a00.length (fl (fun c : UInt32 × List UInt8 × UInt64 × Int => [t32 c.1, .sl 1 .shr c.2.1.length (u8s c.2.1), t64 c.2.2.1, ti c.2.2.2]) a00), t32 a01, ti a02])] hk rfl kr (.cons trivial (.cons (eb gd5) (.cons (cv32_i ((a00.getD t41.toNat ((0, [], 0, 0) : UInt32 × List UInt8 × UInt64 × Int)).1)) (.cons trivial (.cons (eb gd6) (.cons trivial (.cons (eb gd7) .nil))))))) ?_
                    intro k' hk'
                    refine Go.slotEq 84 (tb ((decide (t31 < 1)) || (((((a00.getD t41.toNat ((0, [], 0, 0) : UInt32 × List UInt8 × UInt64 × Int)).1).toNat : Int) != t31) || ((decide ((a00.getD t41.toNat ((0, [], 0, 0) : UInt32 × List UInt8 × UInt64 × Int)).2.2.2 < 0)) || ((decide ((a00.getD t41.toNat ((0, [], 0, 0) : UInt32 × List UInt8 × UInt64 × Int)).2.2.2 > 2)) || ((decide ((((a00.getD t41.toNat ((0, [], 0, 0) : UInt32 × List UInt8 × UInt64 × Int)).2.1).length : Int) > 100)) || ((((a00.getD t41.toNat ((0, [], 0, 0) : UInt32 × List UInt8 × UInt64 × Int)).2.2.2) == 2) && (decide ((((a00.getD t41.toNat ((0, [], 0, 0) : UInt32 × List UInt8 × UInt64 × Int)).2.1).length : Int) > 0))))))))) rfl (eb (orF gd5 (orF gd6 (orT gd7))).symm) ?_
                    exact J k' hk'
                  · have gd7p := of_decide_eq_false gd7
                    rcases Bool.eq_false_or_eq_true (decide ((a00.getD t41.toNat ((0, [], 0, 0) : UInt32 × List UInt8 × UInt64 × Int)).2.2.2 > 2)) with gd8 | gd8
                    · have gd8p := of_decide_eq_true gd8
                      have := lt32 ((a00.getD t41.toNat ((0, [], 0, 0) : UInt32 × List UInt8 × UInt64 × Int)).1)
                      refine Go.rx 20 { ws := [(1, { v := some (tb false) }), (5, { v := some (ti (((a00.getD t41.toNat ((0, [], 0, 0) : UInt32 × List UInt8 × UInt64 × Int)).1).toNat : Int)) }), (7, { v := some (tb false) }), (12, { v := some (tb false) }), (17, { v := some (tb true) })] } [11] [1, 3, 4, 84] _ [(1, .addr 10 0), (3, ti t31), (4, ti t41), (84, tb true)] [(10, [.sl 4 g_a00 a00.length (fl (fun c : UInt32 × List UInt8 × UInt64 × Int => [t32 c.1, .sl 1 .shr c.2.1.length (u8s c.2.1), t64 c.2.2.1, ti c.2.2.2]) a00), t32 a01, ti a02])] hk rfl kr (.cons trivial (.cons (eb gd5) (.cons (cv32_i ((a00.getD t41.toNat ((0, [], 0, 0) : UInt32 × List UInt8 × UInt64 × Int)).1)) (.cons trivial (.cons (eb gd6) (.cons trivial (.cons (eb gd7) (.cons trivial (.cons (eb gd8) .nil))))))))) ?_
                      intro k' hk'
                      refine Go.slotEq 84 (tb ((decide (t31 < 1)) || (((((a00.getD t41.toNat ((0, [], 0, 0) : UInt32 × List UInt8 × UInt64 × Int)).1).toNat : Int) != t31) || ((decide ((a00.getD t41.toNat ((0, [], 0, 0) : UInt32 × List UInt8 × UInt64 × Int)).2.2.2 < 0)) || ((decide ((a00.getD t41.toNat ((0, [], 0, 0) : UInt32 × List UInt8 × UInt64 × Int)).2.2.2 > 2)) || ((decide ((((a00.getD t41.toNat ((0, [], 0, 0) : UInt32 × List UInt8 × UInt64 × Int)).2.1).length : Int) > 100)) || ((((a00.getD t41.toNat ((0, [], 0, 0) : UInt32 × List UInt8 × UInt64 × Int)).2.2.2) == 2) && (decide ((((a00.getD t41.toNat ((0, [], 0, 0) : UInt32 × List UInt8 × UInt64 × Int)).2.1).length : Int) > 0))))))))) rfl (eb (orF gd5 (orF gd6 (orF gd7 (orT gd8)))).symm) ?_
                      exact J k' hk'
                    · have gd8p := of_decide_eq_false gd8
                      rcases Bool.eq_false_or_eq_true (decide ((((a00.getD t41.toNat ((0, [], 0, 0) : UInt32 × List UInt8 × UInt64 × Int)).2.1).length : Int) > 100)) with gd9 | gd9
                      · have gd9p := of_decide_eq_true gd9
                        have := lt32 ((a00.getD t41.toNat ((0, [], 0, 0) : UInt32 × List UInt8 × UInt64 × Int)).1)
                        refine Go.rx 20 { ws := [(1, { v := some (tb false) }), (5, { v := some (ti (((a00.getD t41.toNat ((0, [], 0, 0) : UInt32 × List UInt8 × UInt64 × Int)).1).toNat : Int)) }), (7, { v := some (tb false) }), (12, { v := some (tb false) }), (17, { v := some (tb false) }), (23, { v := some (tb true) })] } [11] [1, 3, 4, 84] _ [(1, .addr 10 0), (3, ti t31), (4, ti t41), (84, tb true)] [(10, [.sl 4 g_a00 a00.length (fl (fun c : UInt32 × List UInt8 × UInt64 × Int => [t32 c.1, .sl 1 .shr c.2.1.length (u8s c.2.1), t64 c.2.2.1, ti c.2.2.2]) a00), t32 a01, ti a02])] hk rfl kr (.cons trivial (.cons (eb gd5) (.cons (cv32_i ((a00.getD t41.toNat ((0, [], 0, 0) : UInt32 × List UInt8 × UInt64 × Int)).1)) (.cons trivial (.cons (eb gd6) (.cons trivial (.cons (eb gd7) (.cons trivial (.cons (eb gd8) (.cons trivial (.cons (eb gd9) .nil))))))))))) ?_
                        intro k' hk'
                        refine Go.slotEq 84 (tb ((decide (t31 < 1)) || (((((a00.getD t41.toNat ((0, [], 0, 0) : UInt32 × List UInt8 × UInt64 × Int)).1).toNat : Int) != t31) || ((decide ((a00.getD t41.toNat ((0, [], 0, 0) : UInt32 × List UInt8 × UInt64 × Int)).2.2.2 < 0)) || ((decide ((a00.getD t41.toNat ((0, [], 0, 0) : UInt32 × List UInt8 × UInt64 × Int)).2.2.2 > 2)) || ((decide ((((a00.getD t41.toNat ((0, [], 0, 0) : UInt32 × List UInt8 × UInt64 × Int)).2.1).length : Int) > 100)) || ((((a00.getD t41.toNat ((0, [], 0, 0) : UInt32 × List UInt8 × UInt64 × Int)).2.2.2) == 2) && (decide ((((a00.getD t41.toNat ((0, [], 0, 0) : UInt32 × List UInt8 × UInt64 × Int)).2.1).length : Int) > 0))))))))) rfl (eb (orF gd5 (orF gd6 (orF gd7 (orF gd8 (orT gd9))))).symm) ?_
                        exact J k' hk'
                      · have gd9p := of_decide_eq_false gd9
                        rcases Bool.eq_false_or_eq_true (((a00.getD t41.toNat ((0, [], 0, 0) : UInt32 × List UInt8 × UInt64 × Int)).2.2.2) == 2) with gd10 | gd10
                        · have gd10p := eqIt gd10
                          have := lt32 ((a00.getD t41.toNat ((0, [], 0, 0) : UInt32 × List UInt8 × UInt64 × Int)).1)
                          refine Go.rx 20 { ws := [(1, { v := some (tb false) }), (5, { v := some (ti (((a00.getD t41.toNat ((0, [], 0, 0) : UInt32 × List UInt8 × UInt64 × Int)).1).toNat : Int)) }), (7, { v := some (tb false) }), (12, { v := some (tb false) }), (17, { v := some (tb false) }), (23, { v := some (tb false) }), (28, { v := some (tb true) })] } [11] [1, 3, 4, 84] _ [(1, .addr 10 0), (3, ti t31), (4, ti t41), (84, tb (decide ((((a00.getD t41.toNat ((0, [], 0, 0) : UInt32 × List UInt8 × UInt64 × Int)).2.1).length : Int) > 0)))] [(10, [.sl 4 g_a00 a00.length (fl (fun c : UInt32 × List UInt8 × UInt64 × Int => [t32 c.1, .sl 1 .shr c.2.1.length (u8s c.2.1), t64 c.2.2.1, ti c.2.2.2]) a00), t32 a01, ti a02])] hk rfl kr (.cons trivial (.cons (eb gd5) (.cons (cv32_i ((a00.getD t41.toNat ((0, [], 0, 0) : UInt32 × List UInt8 × UInt64 × Int)).1)) (.cons trivial (.cons (eb gd6) (.cons trivial (.cons (eb gd7) (.cons trivial (.cons (eb gd8) (.cons trivial (.cons (eb gd9) (.cons trivial (.cons (eb gd10) (.cons trivial .nil)))))))))))))) ?_
                          intro k' hk'
                          refine Go.slotEq 84 (tb ((decide (t31 < 1)) || (((((a00.getD t41.toNat ((0, [], 0, 0) : UInt32 × List UInt8 × UInt64 × Int)).1).toNat : Int) != t31) || ((decide ((a00.getD t41.toNat ((0, [], 0, 0) : UInt32 × List UInt8 × UInt64 × Int)).2.2.2 < 0)) || ((decide ((a00.getD t41.toNat ((0, [], 0, 0) : UInt32 × List UInt8 × UInt64 × Int)).2.2.2 > 2)) || ((decide ((((a00.getD t41.toNat ((0, [], 0, 0) : UInt32 × List UInt8 × UInt64 × Int)).2.1).length : Int) > 100)) || ((((a00.getD t41.toNat ((0, [], 0, 0) : UInt32 × List UInt8 × UInt64 × Int)).2.2.2) == 2) && (decide ((((a00.getD t41.toNat ((0, [], 0, 0) : UInt32 × List UInt8 × UInt64 × Int)).2.1).length : Int) > 0))))))))) rfl (eb (orF gd5 (orF gd6 (orF gd7 (orF gd8 (orF gd9 (andT gd10 rfl)))))).symm) ?_
                          exact J k' hk'
                        · have gd10p := eqIf gd10
                          have := lt32 ((a00.getD t41.toNat ((0, [], 0, 0) : UInt32 × List UInt8 × UInt64 × Int)).1)
                          refine Go.rx 20 { ws := [(1, { v := some (tb false) }), (5, { v := some (ti (((a00.getD t41.toNat ((0, [], 0, 0) : UInt32 × List UInt8 × UInt64 × Int)).1).toNat : Int)) }), (7, { v := some (tb false) }), (12, { v := some (tb false) }), (17, { v := some (tb false) }), (23, { v := some (tb false) }), (28, { v := some (tb false) })] } [11] [1, 3, 4, 84] _ [(1, .addr 10 0), (3, ti t31), (4, ti t41), (84, tb false)] [(10, [.sl 4 g_a00 a00.length (fl (fun c : UInt32 × List UInt8 × UInt64 × Int => [t32 c.1, .sl 1 .shr c.2.1.length (u8s c.2.1), t64 c.2.2.1, ti c.2.2.2]) a00), t32 a01, ti a02])] hk rfl kr (.cons trivial (.cons (eb gd5) (.cons (cv32_i ((a00.getD t41.toNat ((0, [], 0, 0) : UInt32 × List UInt8 × UInt64 × Int)).1)) (.cons trivial (.cons (eb gd6) (.cons trivial (.cons (eb gd7) (.cons trivial (.cons (eb gd8) (.cons trivial (.cons (eb gd9) (.cons trivial (.cons (eb gd10) .nil))))))))))))) ?_
                          intro k' hk'
                          refine Go.slotEq 84 (tb ((decide (t31 < 1)) || (((((a00.getD t41.toNat ((0, [], 0, 0) : UInt32 × List UInt8 × UInt64 × Int)).1).toNat : Int) != t31) || ((decide ((a00.getD t41.toNat ((0, [], 0, 0) : UInt32 × List UInt8 × UInt64 × Int)).2.2.2 < 0)) || ((decide ((a00.getD t41.toNat ((0, [], 0, 0) : UInt32 × List UInt8 × UInt64 × Int)).2.2.2 > 2)) || ((decide ((((a00.getD t41.toNat ((0, [], 0, 0) : UInt32 × List UInt8 × UInt64 × Int)).2.1).length : Int) > 100)) || ((((a00.getD t41.toNat ((0, [], 0, 0) : UInt32 × List UInt8 × UInt64 × Int)).2.2.2) == 2) && (decide ((((a00.getD t41.toNat ((0, [], 0, 0) : UInt32 × List UInt8 × UInt64 × Int)).2.1).length : Int) > 0))))))))) rfl (eb (orF gd5 (orF gd6 (orF gd7 (orF gd8 (orF gd9 (andF gd10)))))).symm) ?_
                          exact J k' hk'
          · have ct2p := of_decide_eq_false ct2
            refine Go.keepN [] (L' := []) rfl ?_
            exact Go.exitX (Pf := (PostX Γ bursaryref30_May_enc)) (F := fun z : Unit => bursaryref30_May_k1) (a := ()) (Go.join 20 hk hxl1 rfl (Xl1 trivial))
      exact Ll1 _ (a01.toNat : Int) ((a00.length : Int) - 1) om om om om (Nat.lt_succ_self _)
  · intro hk J
    rcases Bool.eq_false_or_eq_true (decide (a02 < 1)) with gd1 | gd1
    · have gd1p := of_decide_eq_true gd1
      refine Go.rx 20 { ws := [(2, { v := some (tb true) })] } [] [1, 32] _ [(1, .addr 10 0), (32, tb true)] [(10, [.sl 4 g_a00 a00.length (fl (fun c : UInt32 × List UInt8 × UInt64 × Int => [t32 c.1, .sl 1 .shr c.2.1.length (u8s c.2.1), t64 c.2.2.1, ti c.2.2.2]) a00), t32 a01, ti a02])] hk rfl kr (.cons trivial (.cons (eb gd1) .nil)) ?_
      intro k' hk'
      refine Go.slotEq 32 (tb ((decide (a02 < 1)) || ((decide (a02 > 8)) || ((decide ((a00.length : Int) > a02)) || (((a00.length : Int) == 0) && (a01 != 0)))))) rfl (eb (orT gd1).symm) ?_
      exact J k' hk'
    · have gd1p := of_decide_eq_false gd1
      rcases Bool.eq_false_or_eq_true (decide (a02 > 8)) with gd2 | gd2
      · have gd2p := of_decide_eq_true gd2
        refine Go.rx 20 { ws := [(2, { v := some (tb false) }), (6, { v := some (tb true) })] } [] [1, 32] _ [(1, .addr 10 0), (32, tb true)] [(10, [.sl 4 g_a00 a00.length (fl (fun c : UInt32 × List UInt8 × UInt64 × Int => [t32 c.1, .sl 1 .shr c.2.1.length (u8s c.2.1), t64 c.2.2.1, ti c.2.2.2]) a00), t32 a01, ti a02])] hk rfl kr (.cons trivial (.cons (eb gd1) (.cons trivial (.cons (eb gd2) .nil)))) ?_
        intro k' hk'
        refine Go.slotEq 32 (tb ((decide (a02 < 1)) || ((decide (a02 > 8)) || ((decide ((a00.length : Int) > a02)) || (((a00.length : Int) == 0) && (a01 != 0)))))) rfl (eb (orF gd1 (orT gd2)).symm) ?_
        exact J k' hk'
      · have gd2p := of_decide_eq_false gd2
        rcases Bool.eq_false_or_eq_true (decide ((a00.length : Int) > a02)) with gd3 | gd3
        · have gd3p := of_decide_eq_true gd3
          refine Go.rx 20 { ws := [(2, { v := some (tb false) }), (6, { v := some (tb false) }), (14, { v := some (tb true) })] } [] [1, 32] _ [(1, .addr 10 0), (32, tb true)] [(10, [.sl 4 g_a00 a00.length (fl (fun c : UInt32 × List UInt8 × UInt64 × Int => [t32 c.1, .sl 1 .shr c.2.1.length (u8s c.2.1), t64 c.2.2.1, ti c.2.2.2]) a00), t32 a01, ti a02])] hk rfl kr (.cons trivial (.cons (eb gd1) (.cons trivial (.cons (eb gd2) (.cons trivial (.cons (eb gd3) .nil)))))) ?_
          intro k' hk'
          refine Go.slotEq 32 (tb ((decide (a02 < 1)) || ((decide (a02 > 8)) || ((decide ((a00.length : Int) > a02)) || (((a00.length : Int) == 0) && (a01 != 0)))))) rfl (eb (orF gd1 (orF gd2 (orT gd3))).symm) ?_
          exact J k' hk'
        · have gd3p := of_decide_eq_false gd3
          rcases Bool.eq_false_or_eq_true ((a00.length : Int) == 0) with gd4 | gd4
          · have gd4p := eqIt gd4
            refine Go.rx 20 { ws := [(2, { v := some (tb false) }), (6, { v := some (tb false) }), (14, { v := some (tb false) }), (20, { v := some (tb true) }), (24, { v := some (tb (a01 != 0)) })] } [] [1, 32] _ [(1, .addr 10 0), (32, tb (a01 != 0))] [(10, [.sl 4 g_a00 a00.length (fl (fun c : UInt32 × List UInt8 × UInt64 × Int => [t32 c.1, .sl 1 .shr c.2.1.length (u8s c.2.1), t64 c.2.2.1, ti c.2.2.2]) a00), t32 a01, ti a02])] hk rfl kr (.cons trivial (.cons (eb gd1) (.cons trivial (.cons (eb gd2) (.cons trivial (.cons (eb gd3) (.cons trivial (.cons (eb gd4) (.cons trivial (.cons (neB32 a01 0) .nil)))))))))) ?_
            intro k' hk'
            refine Go.slotEq 32 (tb ((decide (a02 < 1)) || ((decide (a02 > 8)) || ((decide ((a00.length : Int) > a02)) || (((a00.length : Int) == 0) && (a01 != 0)))))) rfl (eb (orF gd1 (orF gd2 (orF gd3 (andT gd4 rfl)))).symm) ?_
            exact J k' hk'
          · have gd4p := eqIf gd4
            refine Go.rx 20 { ws := [(2, { v := some (tb false) }), (6, { v := some (tb false) }), (14, { v := some (tb false) }), (20, { v := some (tb false) })] } [] [1, 32] _ [(1, .addr 10 0), (32, tb false)] [(10, [.sl 4 g_a00 a00.length (fl (fun c : UInt32 × List UInt8 × UInt64 × Int => [t32 c.1, .sl 1 .shr c.2.1.length (u8s c.2.1), t64 c.2.2.1, ti c.2.2.2]) a00), t32 a01, ti a02])] hk rfl kr (.cons trivial (.cons (eb gd1) (.cons trivial (.cons (eb gd2) (.cons trivial (.cons (eb gd3) (.cons trivial (.cons (eb gd4) .nil)))))))) ?_
            intro k' hk'
            refine Go.slotEq 32 (tb ((decide (a02 < 1)) || ((decide (a02 > 8)) || ((decide ((a00.length : Int) > a02)) || (((a00.length : Int) == 0) && (a01 != 0)))))) rfl (eb (orF gd1 (orF gd2 (orF gd3 (andF gd4)))).symm) ?_
            exact J k' hk'
theorem bursaryref30_May_l1_gen : True := by have := @bursaryref30_May_l1.eq_1; have := @bursaryref30_May_l1.eq_2; trivial
attribute [irreducible] bursaryref30_May_k1 bursaryref30_May_l1 bursaryref30_May
end Go.Proofs.YtbppcnhfeobefaaDoor

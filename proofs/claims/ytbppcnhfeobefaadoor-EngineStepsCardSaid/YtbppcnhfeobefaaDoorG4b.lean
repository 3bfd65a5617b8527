import Derived.Test.YtbppcnhfeobefaaDoorPE3
set_option linter.unusedVariables false
set_option linter.unusedSimpArgs false
namespace Go.Proofs.YtbppcnhfeobefaaDoor
open Go Go.Vw Go.Proofs
theorem qg4b_1 {p : Prop} (h : p := by first | omega | (have h8 := fx10 (by assumption); omega) | (simp <;> omega) | (simp at * <;> omega)) : p := h
theorem qg4b_2 {p : Prop} (h : p := by first | omega | (have h8 := fx10 (by assumption); have hpy := put_y (fx11 (by assumption)) hy1; have hsl := slc_len a00 y1 (a00.length : Int); first | omega | (simp; omega)) | (simp <;> omega) | (simp at * <;> omega)) : p := h
noncomputable def bursaryref30_Put (a00 : List (UInt32 × List UInt8 × UInt64 × Int)) (a01 : UInt32) (a02 : Int) (a1 : List UInt8) (a2 : Int) (a3 : UInt64) : ((List (UInt32 × List UInt8 × UInt64 × Int)) × UInt32 × Int) × Int :=
  bnd (bursaryref30_May a00 a01 a02) fun x1 =>
  bif (!x1) || (decide ((a1.length : Int) > 100)) then
    (([], 0, 0), 1)
  else
    bif (decide (a2 ≥ 0)) && (a2 != (a01.toNat : Int)) then
      (([], 0, 0), 20)
    else
      bif a01 == 4294967295 then
        (([], 0, 0), 19)
      else
        bnd (bif (a00.length : Int) == a02 then 1 else 0) fun y1 =>
        ((slc a00 y1 (a00.length : Int) ++ [(a01 + 1, a1, a3, 0)], a01 + 1, a02), 0)
def bursaryref30_Put_enc (x : ((List (UInt32 × List UInt8 × UInt64 × Int)) × UInt32 × Int) × Int) : T × List (Nat × List T) := (.tup [.agg ([.sl 4 .shr x.1.1.length (fl (fun c : UInt32 × List UInt8 × UInt64 × Int => [t32 c.1, .sl 1 .shr c.2.1.length (u8s c.2.1), t64 c.2.2.1, ti c.2.2.2]) x.1.1), t32 x.1.2.1, ti x.1.2.2]), ti x.2], [])
theorem bursaryref30_Put_m (a00 : List (UInt32 × List UInt8 × UInt64 × Int)) (a01 : UInt32) (a02 : Int) (a1 : List UInt8) (a2 : Int) (a3 : UInt64) : Meets Tryd.prog 43 [.agg ([.sl 4 .shr a00.length (fl (fun c : UInt32 × List UInt8 × UInt64 × Int => [t32 c.1, .sl 1 .shr c.2.1.length (u8s c.2.1), t64 c.2.2.1, ti c.2.2.2]) a00), t32 a01, ti a02]), .sl 1 .shr a1.length (u8s a1), ti a2, t64 a3] [] [] (.tup [.agg ([.sl 4 .shr (((bursaryref30_Put a00 a01 a02 a1 a2 a3).1).1).length (fl (fun c : UInt32 × List UInt8 × UInt64 × Int => [t32 c.1, .sl 1 .shr c.2.1.length (u8s c.2.1), t64 c.2.2.1, ti c.2.2.2]) (((bursaryref30_Put a00 a01 a02 a1 a2 a3).1).1)), t32 (((bursaryref30_Put a00 a01 a02 a1 a2 a3).1).2.1), ti (((bursaryref30_Put a00 a01 a02 a1 a2 a3).1).2.2)]), ti ((bursaryref30_Put a00 a01 a02 a1 a2 a3).2)]) [] := by
  refine Meets.enterX (E := E) (N := 67) (enc := bursaryref30_Put_enc) (x := (bursaryref30_Put a00 a01 a02 a1 a2 a3)) Tryd.func43 Tryd.call43 rfl rfl ?_
  intro Γ k hk
  refine Go.rx 20 { ws := [(0, { id := 10 }), (1, { id := 11 })] } [] [1, 2, 3, 4, 8] _ [(1, .sl 1 .shr a1.length (u8s a1)), (2, ti a2), (3, t64 a3), (4, .addr 10 0), (8, .addr 11 0)] [(10, [.sl 4 .shr a00.length (fl (fun c : UInt32 × List UInt8 × UInt64 × Int => [t32 c.1, .sl 1 .shr c.2.1.length (u8s c.2.1), t64 c.2.2.1, ti c.2.2.2]) a00), t32 a01, ti a02]), (11, [.leaf (.slice none 0 0), t32 0, ti 0])] hk rfl kr .nil ?_
  clear hk; intro k hk
  refine Go.regJ 20 [(1, .sl 1 .shr a1.length (u8s a1)), (2, ti a2), (3, t64 a3), (4, .addr 10 0), (8, .addr 11 0), (19, tb ((!(bursaryref30_May a00 a01 a02)) || (decide ((a1.length : Int) > 100))))] [(10, [.sl 4 .shr a00.length (fl (fun c : UInt32 × List UInt8 × UInt64 × Int => [t32 c.1, .sl 1 .shr c.2.1.length (u8s c.2.1), t64 c.2.2.1, ti c.2.2.2]) a00), t32 a01, ti a02]), (11, [.leaf (.slice none 0 0), t32 0, ti 0])] hk rfl ?_ ?_
  · clear hk; intro k hk
    refine Go.bnd (Pf := (PostX Γ bursaryref30_Put_enc)) (v := (bursaryref30_May a00 a01 a02)) (fun x1 => [(1, .sl 1 .shr a1.length (u8s a1)), (2, ti a2), (3, t64 a3), (4, .addr 10 0), (8, .addr 11 0), (19, tb ((!x1) || (decide ((a1.length : Int) > 100))))]) (fun x1 => [(10, [.sl 4 .shr a00.length (fl (fun c : UInt32 × List UInt8 × UInt64 × Int => [t32 c.1, .sl 1 .shr c.2.1.length (u8s c.2.1), t64 c.2.2.1, ti c.2.2.2]) a00), t32 a01, ti a02]), (11, [.leaf (.slice none 0 0), t32 0, ti 0])]) ?_
    intro x1 hx1
    have fx1 := mayS_fact a00 a01 a02
    rw [← hx1] at fx1
    obtain ⟨fx10, fx11⟩ := fx1
    refine Go.br 20 (Pf := (PostX Γ bursaryref30_Put_enc)) hk rfl rfl ?_ ?_ <;> clear hk <;> intro ct1 k hk
    · refine Go.rx 20 {} [10] [8, 9] _ [(8, .addr 11 0), (9, ti 1)] [(11, [.leaf (.slice none 0 0), t32 0, ti 0])] hk rfl kr .nil ?_
      clear hk; intro k hk
      exact Go.lvx 20 [] _ [.agg [.leaf (.slice none 0 0), t32 0, ti 0], ti 1] Tryd.func43 hk rfl kr (.cons (by decide : 0 + 3 ≤ 3) .nil) (T.Le.tup (.cons (T.Le.agg (.cons (T.Le.nil _ _) (.cons (T.Le.of_eq rfl) (.cons (T.Le.of_eq rfl) .nil)))) (.cons (T.Le.of_eq rfl) .nil))) rfl rfl .nil
    · have ct11 : (!x1) = false := (Bool.or_eq_false_iff.1 ct1).1
      have ct12 : (decide ((a1.length : Int) > 100)) = false := (Bool.or_eq_false_iff.1 ct1).2
      have ct11' : x1 = true := ntF ct11
      have ct12p := of_decide_eq_false ct12
      refine Go.regJ 20 [(1, .sl 1 .shr a1.length (u8s a1)), (3, t64 a3), (4, .addr 10 0), (8, .addr 11 0), (29, tb ((decide (a2 ≥ 0)) && (a2 != (a01.toNat : Int))))] [(10, [.sl 4 .shr a00.length (fl (fun c : UInt32 × List UInt8 × UInt64 × Int => [t32 c.1, .sl 1 .shr c.2.1.length (u8s c.2.1), t64 c.2.2.1, ti c.2.2.2]) a00), t32 a01, ti a02]), (11, [.leaf (.slice none 0 0), t32 0, ti 0])] hk rfl ?_ ?_
      · clear hk; intro k hk
        refine Go.br 20 (Pf := (PostX Γ bursaryref30_Put_enc)) hk rfl rfl ?_ ?_ <;> clear hk <;> intro ct2 k hk
        · have ct21 : (decide (a2 ≥ 0)) = true := (Bool.and_eq_true_iff.1 ct2).1
          have ct22 : (a2 != (a01.toNat : Int)) = true := (Bool.and_eq_true_iff.1 ct2).2
          have ct21p := of_decide_eq_true ct21
          have ct22p := neIt ct22
          refine Go.rx 20 {} [10] [8, 9] _ [(8, .addr 11 0), (9, ti 20)] [(11, [.leaf (.slice none 0 0), t32 0, ti 0])] hk rfl kr .nil ?_
          clear hk; intro k hk
          exact Go.lvx 20 [] _ [.agg [.leaf (.slice none 0 0), t32 0, ti 0], ti 20] Tryd.func43 hk rfl kr (.cons (by decide : 0 + 3 ≤ 3) .nil) (T.Le.tup (.cons (T.Le.agg (.cons (T.Le.nil _ _) (.cons (T.Le.of_eq rfl) (.cons (T.Le.of_eq rfl) .nil)))) (.cons (T.Le.of_eq rfl) .nil))) rfl rfl .nil
        · refine Go.rx 20 { ws := [(2, { v := some (tb (a01 == 4294967295)) })] } [] [1, 3, 4, 8, 33] _ [(1, .sl 1 .shr a1.length (u8s a1)), (3, t64 a3), (4, .addr 10 0), (8, .addr 11 0), (33, tb (a01 == 4294967295))] [(10, [.sl 4 .shr a00.length (fl (fun c : UInt32 × List UInt8 × UInt64 × Int => [t32 c.1, .sl 1 .shr c.2.1.length (u8s c.2.1), t64 c.2.2.1, ti c.2.2.2]) a00), t32 a01, ti a02]), (11, [.leaf (.slice none 0 0), t32 0, ti 0])] hk rfl kr (.cons trivial (.cons (eqB32 a01 4294967295) .nil)) ?_
          clear hk; intro k hk
          refine Go.br 20 (Pf := (PostX Γ bursaryref30_Put_enc)) hk rfl rfl ?_ ?_ <;> clear hk <;> intro ct3 k hk
          · refine Go.rx 20 {} [10] [8, 9] _ [(8, .addr 11 0), (9, ti 19)] [(11, [.leaf (.slice none 0 0), t32 0, ti 0])] hk rfl kr .nil ?_
            clear hk; intro k hk
            exact Go.lvx 20 [] _ [.agg [.leaf (.slice none 0 0), t32 0, ti 0], ti 19] Tryd.func43 hk rfl kr (.cons (by decide : 0 + 3 ≤ 3) .nil) (T.Le.tup (.cons (T.Le.agg (.cons (T.Le.nil _ _) (.cons (T.Le.of_eq rfl) (.cons (T.Le.of_eq rfl) .nil)))) (.cons (T.Le.of_eq rfl) .nil))) rfl rfl .nil
          · refine Go.rx 20 { ws := [(2, { v := some (t32 (a01 + 1)) }), (6, { id := 12 })] } [] [1, 3, 4, 8, 10] _ [(1, .sl 1 .shr a1.length (u8s a1)), (3, t64 a3), (4, .addr 10 0), (8, .addr 11 0), (10, .addr 12 0)] [(10, [.sl 4 .shr a00.length (fl (fun c : UInt32 × List UInt8 × UInt64 × Int => [t32 c.1, .sl 1 .shr c.2.1.length (u8s c.2.1), t64 c.2.2.1, ti c.2.2.2]) a00), t32 a01, ti a02]), (11, [.leaf (.slice none 0 0), t32 0, ti 0]), (12, [.leaf (.slice none 0 0), t32 (a01 + 1), ti a02])] hk rfl kr (.cons trivial (.cons (add32 a01 1) .nil)) ?_
            clear hk; intro k hk
            refine Go.rx 20 {} [] [1, 3, 4, 8, 10, 11] _ [(1, .sl 1 .shr a1.length (u8s a1)), (3, t64 a3), (4, .addr 10 0), (8, .addr 11 0), (10, .addr 12 0), (11, ti 0)] [(10, [.sl 4 .shr a00.length (fl (fun c : UInt32 × List UInt8 × UInt64 × Int => [t32 c.1, .sl 1 .shr c.2.1.length (u8s c.2.1), t64 c.2.2.1, ti c.2.2.2]) a00), t32 a01, ti a02]), (11, [.leaf (.slice none 0 0), t32 0, ti 0]), (12, [.leaf (.slice none 0 0), t32 (a01 + 1), ti a02])] hk rfl kr .nil ?_
            clear hk; intro k hk
            refine Go.rx 20 {} [] [1, 3, 4, 8, 10, 11, 46] _ [(1, .sl 1 .shr a1.length (u8s a1)), (3, t64 a3), (4, .addr 10 0), (8, .addr 11 0), (10, .addr 12 0), (11, ti 0), (46, tb ((a00.length : Int) == a02))] [(10, [.sl 4 .shr a00.length (fl (fun c : UInt32 × List UInt8 × UInt64 × Int => [t32 c.1, .sl 1 .shr c.2.1.length (u8s c.2.1), t64 c.2.2.1, ti c.2.2.2]) a00), t32 a01, ti a02]), (11, [.leaf (.slice none 0 0), t32 0, ti 0]), (12, [.leaf (.slice none 0 0), t32 (a01 + 1), ti a02])] hk rfl kr (.cons trivial .nil) ?_
            clear hk; intro k hk
            refine Go.condJ 20 [(1, .sl 1 .shr a1.length (u8s a1)), (3, t64 a3), (4, .addr 10 0), (8, .addr 11 0), (10, .addr 12 0), (11, ti (bif (a00.length : Int) == a02 then 1 else 0))] [(10, [.sl 4 .shr a00.length (fl (fun c : UInt32 × List UInt8 × UInt64 × Int => [t32 c.1, .sl 1 .shr c.2.1.length (u8s c.2.1), t64 c.2.2.1, ti c.2.2.2]) a00), t32 a01, ti a02]), (11, [.leaf (.slice none 0 0), t32 0, ti 0]), (12, [.leaf (.slice none 0 0), t32 (a01 + 1), ti a02])] hk rfl rfl ?_ ?_ ?_
            · clear hk; intro k hk
              refine Go.bnd (Pf := (PostX Γ bursaryref30_Put_enc)) (v := (bif (a00.length : Int) == a02 then 1 else 0)) (fun y1 => [(1, .sl 1 .shr a1.length (u8s a1)), (3, t64 a3), (4, .addr 10 0), (8, .addr 11 0), (10, .addr 12 0), (11, ti y1)]) (fun y1 => [(10, [.sl 4 .shr a00.length (fl (fun c : UInt32 × List UInt8 × UInt64 × Int => [t32 c.1, .sl 1 .shr c.2.1.length (u8s c.2.1), t64 c.2.2.1, ti c.2.2.2]) a00), t32 a01, ti a02]), (11, [.leaf (.slice none 0 0), t32 0, ti 0]), (12, [.leaf (.slice none 0 0), t32 (a01 + 1), ti a02])]) ?_
              intro y1 hy1
              refine Go.dx 20 [0, 1, 2, 3, 4, 5, 6, 7, 8] { ws := [(5, { v := some (.sl 4 .shr (slc a00 y1 (a00.length : Int)).length (fl (fun c : UInt32 × List UInt8 × UInt64 × Int => [t32 c.1, .sl 1 .shr c.2.1.length (u8s c.2.1), t64 c.2.2.1, ti c.2.2.2]) (slc a00 y1 (a00.length : Int)))) }), (6, { id := 13, sym := true })] } [] [1, 3, 4, 8, 10] _ [(1, .sl 1 .shr a1.length (u8s a1)), (3, t64 a3), (4, .addr 10 0), (8, .addr 11 0), (10, .addr 12 0)] [(10, [.sl 4 .shr a00.length (fl (fun c : UInt32 × List UInt8 × UInt64 × Int => [t32 c.1, .sl 1 .shr c.2.1.length (u8s c.2.1), t64 c.2.2.1, ti c.2.2.2]) a00), t32 a01, ti a02]), (11, [.leaf (.slice none 0 0), t32 0, ti 0]), (12, [.ref 13 4 0 ((slc a00 y1 (a00.length : Int)).length), t32 (a01 + 1), ti a02]), (13, fl (fun c : UInt32 × List UInt8 × UInt64 × Int => [t32 c.1, .sl 1 .shr c.2.1.length (u8s c.2.1), t64 c.2.2.1, ti c.2.2.2]) (slc a00 y1 (a00.length : Int)))] hk rfl kr (.cons (qg4b_2 : 0 ≤ (y1 : Int) ∧ (y1 : Int) ≤ (a00.length : Int) ∧ (a00.length : Int) ≤ (a00.length : Int) ∧ (a00.length : Int) ≤ (a00.length : Nat)) (.cons (fl_slc (t := .shr) (g := (fun c : UInt32 × List UInt8 × UInt64 × Int => [t32 c.1, .sl 1 .shr c.2.1.length (u8s c.2.1), t64 c.2.2.1, ti c.2.2.2])) (m := 4) (lo := y1) (hi := (a00.length : Int)) (fun _ => rfl) a00 qg4b_2 rfl rfl) (.cons (qg4b_2 : (slc a00 y1 (a00.length : Int)).length * 48 ≤ 140737488355328) .nil))) ?_
              clear hk; intro k hk
              refine Go.rx 20 { ws := [(4, { v := some (t32 (a01 + 1)) }), (8, { id := 14 }), (9, { v := some (.ref 13 4 0 ((slc a00 y1 (a00.length : Int) ++ [(a01 + 1, a1, a3, 0)]).length)), c := some (fl (fun c : UInt32 × List UInt8 × UInt64 × Int => [t32 c.1, .sl 1 .shr c.2.1.length (u8s c.2.1), t64 c.2.2.1, ti c.2.2.2]) (slc a00 y1 (a00.length : Int) ++ [(a01 + 1, a1, a3, 0)])), id := 13, sym := true })], pg := [13], fd := some [13] } [10, 14] [8, 10] _ [(8, .addr 11 0), (10, .addr 12 0)] [(11, [.leaf (.slice none 0 0), t32 0, ti 0]), (12, [.ref 13 4 0 ((slc a00 y1 (a00.length : Int) ++ [(a01 + 1, a1, a3, 0)]).length), t32 (a01 + 1), ti a02]), (13, fl (fun c : UInt32 × List UInt8 × UInt64 × Int => [t32 c.1, .sl 1 .shr c.2.1.length (u8s c.2.1), t64 c.2.2.1, ti c.2.2.2]) (slc a00 y1 (a00.length : Int) ++ [(a01 + 1, a1, a3, 0)]))] hk rfl kr (.cons trivial (.cons (add32 a01 1) (.cons (Nat.le_of_ble_eq_true rfl : 0 + 1 * 4 ≤ ([t32 (a01 + 1), .sl 1 .shr a1.length (u8s a1), t64 a3, ti 0] : List T).length) (.cons (by rw [fl_len (m := 4) (fun _ => rfl)]; omega : 0 + (slc a00 y1 (a00.length : Int)).length * 4 ≤ (fl (fun c : UInt32 × List UInt8 × UInt64 × Int => [t32 c.1, .sl 1 .shr c.2.1.length (u8s c.2.1), t64 c.2.2.1, ti c.2.2.2]) (slc a00 y1 (a00.length : Int))).length) (.cons (rfl : scalL [t32 (a01 + 1), .sl 1 .shr a1.length (u8s a1), t64 a3, ti 0] = true) (.cons (qg4b_2 : ((slc a00 y1 (a00.length : Int)).length + 1) * 48 ≤ 140737488355328) (.cons (fl_app' (g := (fun c : UInt32 × List UInt8 × UInt64 × Int => [t32 c.1, .sl 1 .shr c.2.1.length (u8s c.2.1), t64 c.2.2.1, ti c.2.2.2])) (m := 4) (k := (slc a00 y1 (a00.length : Int)).length) (fun _ => rfl) (slc a00 y1 (a00.length : Int)) [(a01 + 1, a1, a3, 0)] rfl rfl) (.cons (fl_mem (i := 13) (g := (fun c : UInt32 × List UInt8 × UInt64 × Int => [t32 c.1, .sl 1 .shr c.2.1.length (u8s c.2.1), t64 c.2.2.1, ti c.2.2.2])) (slc a00 y1 (a00.length : Int) ++ [(a01 + 1, a1, a3, 0)]) (fun _ => rfl)) (.cons (by first | rfl | (simp; done) | (refine congrArg (fun q => T.ref 13 4 0 q) ?_; simp <;> omega) : T.ref 13 4 0 ((slc a00 y1 (a00.length : Int)).length + 1) = .ref 13 4 0 ((slc a00 y1 (a00.length : Int) ++ [(a01 + 1, a1, a3, 0)]).length)) (.cons (fl_mem (i := 10) (g := (fun c : UInt32 × List UInt8 × UInt64 × Int => [t32 c.1, .sl 1 .shr c.2.1.length (u8s c.2.1), t64 c.2.2.1, ti c.2.2.2])) (slc a00 y1 (a00.length : Int) ++ [(a01 + 1, a1, a3, 0)]) (fun _ => rfl)) (.cons (fl_mem (i := 14) (g := (fun c : UInt32 × List UInt8 × UInt64 × Int => [t32 c.1, .sl 1 .shr c.2.1.length (u8s c.2.1), t64 c.2.2.1, ti c.2.2.2])) (slc a00 y1 (a00.length : Int) ++ [(a01 + 1, a1, a3, 0)]) (fun _ => rfl)) .nil))))))))))) ?_
              clear hk; intro k hk
              refine Go.frzC [] [] 12 0 13 (fl (fun c : UInt32 × List UInt8 × UInt64 × Int => [t32 c.1, .sl 1 .shr c.2.1.length (u8s c.2.1), t64 c.2.2.1, ti c.2.2.2]) (slc a00 y1 (a00.length : Int) ++ [(a01 + 1, a1, a3, 0)])) ([.sl 4 .shr (slc a00 y1 (a00.length : Int) ++ [(a01 + 1, a1, a3, 0)]).length (fl (fun c : UInt32 × List UInt8 × UInt64 × Int => [t32 c.1, .sl 1 .shr c.2.1.length (u8s c.2.1), t64 c.2.2.1, ti c.2.2.2]) (slc a00 y1 (a00.length : Int) ++ [(a01 + 1, a1, a3, 0)])), t32 (a01 + 1), ti a02]) _ [(8, .addr 11 0), (10, .addr 12 0)] [(11, [.leaf (.slice none 0 0), t32 0, ti 0]), (12, [.dead, t32 (a01 + 1), ti a02])] rfl rfl rfl rfl (fl_ids (g := (fun c : UInt32 × List UInt8 × UInt64 × Int => [t32 c.1, .sl 1 .shr c.2.1.length (u8s c.2.1), t64 c.2.2.1, ti c.2.2.2])) (fun _ => rfl) (slc a00 y1 (a00.length : Int) ++ [(a01 + 1, a1, a3, 0)])) (by rw [fl_len (m := 4) (fun _ => rfl)]; omega) (fl_all (g := (fun c : UInt32 × List UInt8 × UInt64 × Int => [t32 c.1, .sl 1 .shr c.2.1.length (u8s c.2.1), t64 c.2.2.1, ti c.2.2.2])) (m := 4) (fun _ => rfl) (slc a00 y1 (a00.length : Int) ++ [(a01 + 1, a1, a3, 0)])) kr .nil rfl rfl ?_
              refine Go.rx 20 {} [12] [8, 9] _ [(8, .addr 11 0), (9, ti 0)] [(11, [.sl 4 .shr (slc a00 y1 (a00.length : Int) ++ [(a01 + 1, a1, a3, 0)]).length (fl (fun c : UInt32 × List UInt8 × UInt64 × Int => [t32 c.1, .sl 1 .shr c.2.1.length (u8s c.2.1), t64 c.2.2.1, ti c.2.2.2]) (slc a00 y1 (a00.length : Int) ++ [(a01 + 1, a1, a3, 0)])), t32 (a01 + 1), ti a02])] hk rfl kr .nil ?_
              clear hk; intro k hk
              exact Go.lvx 20 [] _ [.agg ([.sl 4 .shr (slc a00 y1 (a00.length : Int) ++ [(a01 + 1, a1, a3, 0)]).length (fl (fun c : UInt32 × List UInt8 × UInt64 × Int => [t32 c.1, .sl 1 .shr c.2.1.length (u8s c.2.1), t64 c.2.2.1, ti c.2.2.2]) (slc a00 y1 (a00.length : Int) ++ [(a01 + 1, a1, a3, 0)])), t32 (a01 + 1), ti a02]), ti 0] Tryd.func43 hk rfl kr (.cons (by decide : 0 + 3 ≤ 3) .nil) (T.Le.tup (.cons (T.Le.of_eq rfl) (.cons (T.Le.of_eq rfl) .nil))) rfl rfl .nil
            · clear hk; intro Jct4 ct4 k hk
              have ct4p := eqIt ct4
              refine Go.rx 20 {} [] [1, 3, 4, 8, 10, 11] _ [(1, .sl 1 .shr a1.length (u8s a1)), (3, t64 a3), (4, .addr 10 0), (8, .addr 11 0), (10, .addr 12 0), (11, ti 1)] [(10, [.sl 4 .shr a00.length (fl (fun c : UInt32 × List UInt8 × UInt64 × Int => [t32 c.1, .sl 1 .shr c.2.1.length (u8s c.2.1), t64 c.2.2.1, ti c.2.2.2]) a00), t32 a01, ti a02]), (11, [.leaf (.slice none 0 0), t32 0, ti 0]), (12, [.leaf (.slice none 0 0), t32 (a01 + 1), ti a02])] hk rfl kr .nil ?_
              clear hk; intro k hk
              refine Go.slotEq 11 (ti (bif (a00.length : Int) == a02 then 1 else 0)) rfl (congrArg (fun z => (ti z : T)) (condT ct4).symm) ?_
              exact Go.joinJ 20 hk Jct4 rfl
            · clear hk; intro Jct4 ct4 k hk
              have ct4p := eqIf ct4
              refine Go.keepN [1, 3, 4, 8, 10, 11] (L' := [(1, .sl 1 .shr a1.length (u8s a1)), (3, t64 a3), (4, .addr 10 0), (8, .addr 11 0), (10, .addr 12 0), (11, ti 0)]) rfl ?_
              refine Go.slotEq 11 (ti (bif (a00.length : Int) == a02 then 1 else 0)) rfl (congrArg (fun z => (ti z : T)) (condF ct4).symm) ?_
              exact Go.joinJ 20 hk Jct4 rfl
      · intro hk J
        rcases Bool.eq_false_or_eq_true (decide (a2 ≥ 0)) with gd2 | gd2
        · have gd2p := of_decide_eq_true gd2
          have := lt32 a01
          refine Go.rx 20 { ws := [(1, { v := some (tb true) }), (6, { v := some (ti (a01.toNat : Int)) })] } [] [1, 3, 4, 8, 29] _ [(1, .sl 1 .shr a1.length (u8s a1)), (3, t64 a3), (4, .addr 10 0), (8, .addr 11 0), (29, tb (a2 != (a01.toNat : Int)))] [(10, [.sl 4 .shr a00.length (fl (fun c : UInt32 × List UInt8 × UInt64 × Int => [t32 c.1, .sl 1 .shr c.2.1.length (u8s c.2.1), t64 c.2.2.1, ti c.2.2.2]) a00), t32 a01, ti a02]), (11, [.leaf (.slice none 0 0), t32 0, ti 0])] hk rfl kr (.cons trivial (.cons (eb gd2) (.cons (cv32_i a01) (.cons trivial .nil)))) ?_
          intro k' hk'
          refine Go.slotEq 29 (tb ((decide (a2 ≥ 0)) && (a2 != (a01.toNat : Int)))) rfl (eb (andT gd2 rfl).symm) ?_
          exact J k' hk'
        · have gd2p := of_decide_eq_false gd2
          refine Go.rx 20 { ws := [(1, { v := some (tb false) })] } [] [1, 3, 4, 8, 29] _ [(1, .sl 1 .shr a1.length (u8s a1)), (3, t64 a3), (4, .addr 10 0), (8, .addr 11 0), (29, tb false)] [(10, [.sl 4 .shr a00.length (fl (fun c : UInt32 × List UInt8 × UInt64 × Int => [t32 c.1, .sl 1 .shr c.2.1.length (u8s c.2.1), t64 c.2.2.1, ti c.2.2.2]) a00), t32 a01, ti a02]), (11, [.leaf (.slice none 0 0), t32 0, ti 0])] hk rfl kr (.cons trivial (.cons (eb gd2) .nil)) ?_
          intro k' hk'
          refine Go.slotEq 29 (tb ((decide (a2 ≥ 0)) && (a2 != (a01.toNat : Int)))) rfl (eb (andF gd2).symm) ?_
          exact J k' hk'
  · intro hk J
    rcases Bool.eq_false_or_eq_true (!(bursaryref30_May a00 a01 a02)) with gd1 | gd1
    · have gd1' : (bursaryref30_May a00 a01 a02) = false := ntT gd1
      refine Go.rx 20 { ws := [(1, { v := some (tb false), call := some { ids := [], S := [], M := [], R := tb (bursaryref30_May a00 a01 a02), H' := [] } })] } [] [1, 2, 3, 4, 8, 19] _ [(1, .sl 1 .shr a1.length (u8s a1)), (2, ti a2), (3, t64 a3), (4, .addr 10 0), (8, .addr 11 0), (19, tb true)] [(10, [.sl 4 .shr a00.length (fl (fun c : UInt32 × List UInt8 × UInt64 × Int => [t32 c.1, .sl 1 .shr c.2.1.length (u8s c.2.1), t64 c.2.2.1, ti c.2.2.2]) a00), t32 a01, ti a02]), (11, [.leaf (.slice none 0 0), t32 0, ti 0])] hk rfl kr (.cons (bursaryref30_May_m (g_a00 := .shr) a00 a01 a02) (.cons (sb : subN (idsL [.agg ([.sl 4 .shr a00.length (fl (fun c : UInt32 × List UInt8 × UInt64 × Int => [t32 c.1, .sl 1 .shr c.2.1.length (u8s c.2.1), t64 c.2.2.1, ti c.2.2.2]) a00), t32 a01, ti a02])]) [] = true) (.cons (eb gd1') .nil))) ?_
      intro k' hk'
      refine Go.slotEq 19 (tb ((!(bursaryref30_May a00 a01 a02)) || (decide ((a1.length : Int) > 100)))) rfl (eb (orT gd1).symm) ?_
      exact J k' hk'
    · have gd1' : (bursaryref30_May a00 a01 a02) = true := ntF gd1
      refine Go.rx 20 { ws := [(1, { v := some (tb true), call := some { ids := [], S := [], M := [], R := tb (bursaryref30_May a00 a01 a02), H' := [] } })] } [] [1, 2, 3, 4, 8, 19] _ [(1, .sl 1 .shr a1.length (u8s a1)), (2, ti a2), (3, t64 a3), (4, .addr 10 0), (8, .addr 11 0), (19, tb (decide ((a1.length : Int) > 100)))] [(10, [.sl 4 .shr a00.length (fl (fun c : UInt32 × List UInt8 × UInt64 × Int => [t32 c.1, .sl 1 .shr c.2.1.length (u8s c.2.1), t64 c.2.2.1, ti c.2.2.2]) a00), t32 a01, ti a02]), (11, [.leaf (.slice none 0 0), t32 0, ti 0])] hk rfl kr (.cons (bursaryref30_May_m (g_a00 := .shr) a00 a01 a02) (.cons (sb : subN (idsL [.agg ([.sl 4 .shr a00.length (fl (fun c : UInt32 × List UInt8 × UInt64 × Int => [t32 c.1, .sl 1 .shr c.2.1.length (u8s c.2.1), t64 c.2.2.1, ti c.2.2.2]) a00), t32 a01, ti a02])]) [] = true) (.cons (eb gd1') (.cons trivial .nil)))) ?_
      intro k' hk'
      refine Go.slotEq 19 (tb ((!(bursaryref30_May a00 a01 a02)) || (decide ((a1.length : Int) > 100)))) rfl (eb (orF gd1 rfl).symm) ?_
      exact J k' hk'
attribute [irreducible] bursaryref30_Put
noncomputable def bursaryref30_At_k1  : Int × Int :=
  (0, 5)
noncomputable def bursaryref30_At_l1 (s0 : List (UInt32 × List UInt8 × UInt64 × Int)) (n : UInt32) : Nat → Int → Lo Unit (Int × Int)
  | 0, _ => .brk default
  | ml1 + 1, i1 =>
    bif decide (i1 < (s0.length : Int)) then
      bif (((s0.getD i1.toNat ((0, [], 0, 0) : UInt32 × List UInt8 × UInt64 × Int)).1) == n) || ((n == 0) && (i1 == ((s0.length : Int) - 1))) then
        Lo.ret (i1, 0)
      else
        bursaryref30_At_l1 s0 n ml1 (i1 + 1)
    else
      Lo.brk ()
noncomputable def bursaryref30_At (s0 : List (UInt32 × List UInt8 × UInt64 × Int)) (s1 : UInt32) (s2 : Int) (n : UInt32) : Int × Int :=
  bnd (bursaryref30_May s0 s1 s2) fun x1 =>
  bif !x1 then
    (0, 1)
  else
    Lo.el (bursaryref30_At_l1 s0 n (((s0.length : Int) - (0 : Int)).toNat + 1) 0) (fun z : Unit => bursaryref30_At_k1)
def bursaryref30_At_enc (x : Int × Int) : T × List (Nat × List T) := (.tup [ti x.1, ti x.2], [])
theorem bursaryref30_At_m (s0 : List (UInt32 × List UInt8 × UInt64 × Int)) (s1 : UInt32) (s2 : Int) (n : UInt32) : Meets Tryd.prog 100 [.agg ([.sl 4 .shr s0.length (fl (fun c : UInt32 × List UInt8 × UInt64 × Int => [t32 c.1, .sl 1 .shr c.2.1.length (u8s c.2.1), t64 c.2.2.1, ti c.2.2.2]) s0), t32 s1, ti s2]), t32 n] [] [] (.tup [ti ((bursaryref30_At s0 s1 s2 n).1), ti ((bursaryref30_At s0 s1 s2 n).2)]) [] := by
  refine Meets.enterX (E := E) (N := 38) (enc := bursaryref30_At_enc) (x := (bursaryref30_At s0 s1 s2 n)) Tryd.func100 Tryd.call100 rfl rfl ?_
  intro Γ k hk
  refine Go.rx 20 { ws := [(0, { id := 10 })] } [] [1, 2] _ [(1, t32 n), (2, .addr 10 0)] [(10, [.sl 4 .shr s0.length (fl (fun c : UInt32 × List UInt8 × UInt64 × Int => [t32 c.1, .sl 1 .shr c.2.1.length (u8s c.2.1), t64 c.2.2.1, ti c.2.2.2]) s0), t32 s1, ti s2])] hk rfl kr .nil ?_
  clear hk; intro k hk
  refine Go.rx 20 { ws := [(1, { call := some { ids := [], S := [], M := [], R := tb (bursaryref30_May s0 s1 s2), H' := [] } })] } [] [1, 2, 9] _ [(1, t32 n), (2, .addr 10 0), (9, tb (!(bursaryref30_May s0 s1 s2)))] [(10, [.sl 4 .shr s0.length (fl (fun c : UInt32 × List UInt8 × UInt64 × Int => [t32 c.1, .sl 1 .shr c.2.1.length (u8s c.2.1), t64 c.2.2.1, ti c.2.2.2]) s0), t32 s1, ti s2])] hk rfl kr (.cons (bursaryref30_May_m (g_a00 := .shr) s0 s1 s2) (.cons (sb : subN (idsL [.agg ([.sl 4 .shr s0.length (fl (fun c : UInt32 × List UInt8 × UInt64 × Int => [t32 c.1, .sl 1 .shr c.2.1.length (u8s c.2.1), t64 c.2.2.1, ti c.2.2.2]) s0), t32 s1, ti s2])]) [] = true) .nil)) ?_
  clear hk; intro k hk
  refine Go.bnd (Pf := (PostX Γ bursaryref30_At_enc)) (v := (bursaryref30_May s0 s1 s2)) (fun x1 => [(1, t32 n), (2, .addr 10 0), (9, tb (!x1))]) (fun x1 => [(10, [.sl 4 .shr s0.length (fl (fun c : UInt32 × List UInt8 × UInt64 × Int => [t32 c.1, .sl 1 .shr c.2.1.length (u8s c.2.1), t64 c.2.2.1, ti c.2.2.2]) s0), t32 s1, ti s2])]) ?_
  intro x1 hx1
  have fx1 := mayS_fact s0 s1 s2
  rw [← hx1] at fx1
  obtain ⟨fx10, fx11⟩ := fx1
  refine Go.br 20 (Pf := (PostX Γ bursaryref30_At_enc)) hk rfl rfl ?_ ?_ <;> clear hk <;> intro ct1 k hk
  · have ct1' : x1 = false := ntT ct1
    refine Go.rx 20 {} [10] [4, 5] _ [(4, ti 0), (5, ti 1)] [] hk rfl kr .nil ?_
    clear hk; intro k hk
    exact Go.lvx 20 [] _ [ti 0, ti 1] Tryd.func100 hk rfl kr .nil (T.Le.tup (.cons (T.Le.of_eq rfl) (.cons (T.Le.of_eq rfl) .nil))) rfl rfl .nil
  · have ct1' : x1 = true := ntF ct1
    refine Go.rx 20 {} [] [1, 2, 6] _ [(1, t32 n), (2, .addr 10 0), (6, ti 0)] [(10, [.sl 4 .shr s0.length (fl (fun c : UInt32 × List UInt8 × UInt64 × Int => [t32 c.1, .sl 1 .shr c.2.1.length (u8s c.2.1), t64 c.2.2.1, ti c.2.2.2]) s0), t32 s1, ti s2])] hk rfl kr .nil ?_
    clear hk; intro k hk
    refine Go.loopX 20 hk rfl ?_
    clear hk; intro kl1 kxl1 hl1 hxl1
    have Xl1 : ∀ (_ : True), Go E Γ 100 38 [] ((PostX Γ bursaryref30_At_enc) (bursaryref30_At_k1)) kxl1 (stL [] [(10, [.sl 4 .shr s0.length (fl (fun c : UInt32 × List UInt8 × UInt64 × Int => [t32 c.1, .sl 1 .shr c.2.1.length (u8s c.2.1), t64 c.2.2.1, ti c.2.2.2]) s0), t32 s1, ti s2])]) := by
      intro _
      refine Go.rx 20 {} [10] [4, 5] _ [(4, ti 0), (5, ti 5)] [] hxl1 rfl kr .nil ?_
      clear hxl1; intro kxl1 hxl1
      exact Go.lvx 20 [] _ [ti 0, ti 5] Tryd.func100 hxl1 rfl kr .nil (T.Le.tup (.cons (T.Le.of_eq rfl) (.cons (T.Le.of_eq rfl) .nil))) rfl rfl .nil
    have Ll1 : ∀ (ml1 : Nat) (i1 : Int), (0 ≤ i1) → (((s0.length : Int) - i1).toNat < ml1) → Go E Γ 100 38 [] ((PostX Γ bursaryref30_At_enc) (Lo.el (bursaryref30_At_l1 s0 n ml1 i1) (fun z : Unit => bursaryref30_At_k1))) kl1 (stL [(1, t32 n), (2, .addr 10 0), (6, ti i1)] [(10, [.sl 4 .shr s0.length (fl (fun c : UInt32 × List UInt8 × UInt64 × Int => [t32 c.1, .sl 1 .shr c.2.1.length (u8s c.2.1), t64 c.2.2.1, ti c.2.2.2]) s0), t32 s1, ti s2])]) := by
      intro ml1
      induction ml1 with
      | zero => intro i1 i0l1 hml1; exact absurd hml1 (Nat.not_lt_zero _)
      | succ ml1 ihl1 =>
        intro i1 i0l1 hml1
        rw [bursaryref30_At_l1]
        refine Go.round hl1 ?_
        intro k hk
        refine Go.rx 20 {} [] [1, 2, 6, 14] _ [(1, t32 n), (2, .addr 10 0), (6, ti i1), (14, tb (decide (i1 < (s0.length : Int))))] [(10, [.sl 4 .shr s0.length (fl (fun c : UInt32 × List UInt8 × UInt64 × Int => [t32 c.1, .sl 1 .shr c.2.1.length (u8s c.2.1), t64 c.2.2.1, ti c.2.2.2]) s0), t32 s1, ti s2])] hk rfl kr (.cons trivial .nil) ?_
        clear hk; intro k hk
        refine Go.br 20 (Pf := (fun z : Lo (Unit) (Int × Int) => (PostX Γ bursaryref30_At_enc) (Lo.el z (fun z : Unit => bursaryref30_At_k1)))) hk rfl rfl ?_ ?_ <;> clear hk <;> intro ct2 k hk
        · have ct2p := of_decide_eq_true ct2
          refine Go.regJ 20 [(1, t32 n), (2, .addr 10 0), (6, ti i1), (36, tb ((((s0.getD i1.toNat ((0, [], 0, 0) : UInt32 × List UInt8 × UInt64 × Int)).1) == n) || ((n == 0) && (i1 == ((s0.length : Int) - 1)))))] [(10, [.sl 4 .shr s0.length (fl (fun c : UInt32 × List UInt8 × UInt64 × Int => [t32 c.1, .sl 1 .shr c.2.1.length (u8s c.2.1), t64 c.2.2.1, ti c.2.2.2]) s0), t32 s1, ti s2])] hk rfl ?_ ?_
          · clear hk; intro k hk
            refine Go.br 20 (Pf := (fun z : Lo (Unit) (Int × Int) => (PostX Γ bursaryref30_At_enc) (Lo.el z (fun z : Unit => bursaryref30_At_k1)))) hk rfl rfl ?_ ?_ <;> clear hk <;> intro ct3 k hk
            · refine Go.rx 20 {} [10] [4, 5] _ [(4, ti i1), (5, ti 0)] [] hk rfl kr .nil ?_
              clear hk; intro k hk
              exact Go.lvx 20 [] _ [ti i1, ti 0] Tryd.func100 hk rfl kr .nil (T.Le.tup (.cons (T.Le.of_eq rfl) (.cons (T.Le.of_eq rfl) .nil))) rfl rfl .nil
            · have ct31 : (((s0.getD i1.toNat ((0, [], 0, 0) : UInt32 × List UInt8 × UInt64 × Int)).1) == n) = false := (Bool.or_eq_false_iff.1 ct3).1
              have ct32 : ((n == 0) && (i1 == ((s0.length : Int) - 1))) = false := (Bool.or_eq_false_iff.1 ct3).2
              refine Go.rx 20 { ws := [(1, { v := some (ti (i1 + 1)) })] } [] [1, 2, 6] _ [(1, t32 n), (2, .addr 10 0), (6, ti (i1 + 1))] [(10, [.sl 4 .shr s0.length (fl (fun c : UInt32 × List UInt8 × UInt64 × Int => [t32 c.1, .sl 1 .shr c.2.1.length (u8s c.2.1), t64 c.2.2.1, ti c.2.2.2]) s0), t32 s1, ti s2])] hk rfl kr (.cons trivial (.cons (iw (i1 + 1) qg4b_1) .nil)) ?_
              clear hk; intro k hk
              exact Go.join 20 hk hl1 rfl (ihl1 (i1 + 1) qg4b_1 qg4b_1)
          · intro hk J
            rcases Bool.eq_false_or_eq_true (((s0.getD i1.toNat ((0, [], 0, 0) : UInt32 × List UInt8 × UInt64 × Int)).1) == n) with gd1 | gd1
            · refine Go.rx 20 { ws := [(5, { v := some (t32 ((s0.getD i1.toNat ((0, [], 0, 0) : UInt32 × List UInt8 × UInt64 × Int)).1)) }), (7, { v := some (tb true) })] } [] [1, 2, 6, 36] _ [(1, t32 n), (2, .addr 10 0), (6, ti i1), (36, tb true)] [(10, [.sl 4 .shr s0.length (fl (fun c : UInt32 × List UInt8 × UInt64 × Int => [t32 c.1, .sl 1 .shr c.2.1.length (u8s c.2.1), t64 c.2.2.1, ti c.2.2.2]) s0), t32 s1, ti s2])] hk rfl kr (.cons (qg4b_1 : 0 ≤ (i1 : Int) ∧ (i1 : Int) < ((s0.length : Nat) : Int)) (.cons (fl_part1 (g := (fun c : UInt32 × List UInt8 × UInt64 × Int => [t32 c.1, .sl 1 .shr c.2.1.length (u8s c.2.1), t64 c.2.2.1, ti c.2.2.2])) (m := 4) (k := i1.toNat * 4 + 0) (n := i1.toNat) (j := 0) (l := s0) (d := ((0, [], 0, 0) : UInt32 × List UInt8 × UInt64 × Int)) (kr : (E.ti 61).agg = false) (fun _ => rfl) rfl (by decide) qg4b_1 rfl) (.cons trivial (.cons ((eqB32 ((s0.getD i1.toNat ((0, [], 0, 0) : UInt32 × List UInt8 × UInt64 × Int)).1) n).trans (eb gd1)) .nil)))) ?_
              intro k' hk'
              refine Go.slotEq 36 (tb ((((s0.getD i1.toNat ((0, [], 0, 0) : UInt32 × List UInt8 × UInt64 × Int)).1) == n) || ((n == 0) && (i1 == ((s0.length : Int) - 1))))) rfl (eb (orT gd1).symm) ?_
              exact J k' hk'
            · rcases Bool.eq_false_or_eq_true (n == 0) with gd2 | gd2
              · refine Go.rx 20 { ws := [(5, { v := some (t32 ((s0.getD i1.toNat ((0, [], 0, 0) : UInt32 × List UInt8 × UInt64 × Int)).1)) }), (7, { v := some (tb false) }), (10, { v := some (tb true) }), (16, { v := some (ti ((s0.length : Int) - 1)) })] } [] [1, 2, 6, 36] _ [(1, t32 n), (2, .addr 10 0), (6, ti i1), (36, tb (i1 == ((s0.length : Int) - 1)))] [(10, [.sl 4 .shr s0.length (fl (fun c : UInt32 × List UInt8 × UInt64 × Int => [t32 c.1, .sl 1 .shr c.2.1.length (u8s c.2.1), t64 c.2.2.1, ti c.2.2.2]) s0), t32 s1, ti s2])] hk rfl kr (.cons (qg4b_1 : 0 ≤ (i1 : Int) ∧ (i1 : Int) < ((s0.length : Nat) : Int)) (.cons (fl_part1 (g := (fun c : UInt32 × List UInt8 × UInt64 × Int => [t32 c.1, .sl 1 .shr c.2.1.length (u8s c.2.1), t64 c.2.2.1, ti c.2.2.2])) (m := 4) (k := i1.toNat * 4 + 0) (n := i1.toNat) (j := 0) (l := s0) (d := ((0, [], 0, 0) : UInt32 × List UInt8 × UInt64 × Int)) (kr : (E.ti 61).agg = false) (fun _ => rfl) rfl (by decide) qg4b_1 rfl) (.cons trivial (.cons ((eqB32 ((s0.getD i1.toNat ((0, [], 0, 0) : UInt32 × List UInt8 × UInt64 × Int)).1) n).trans (eb gd1)) (.cons trivial (.cons ((eqB32 n 0).trans (eb gd2)) (.cons trivial (.cons (iw ((s0.length : Int) - 1) qg4b_1) (.cons trivial .nil))))))))) ?_
                intro k' hk'
                refine Go.slotEq 36 (tb ((((s0.getD i1.toNat ((0, [], 0, 0) : UInt32 × List UInt8 × UInt64 × Int)).1) == n) || ((n == 0) && (i1 == ((s0.length : Int) - 1))))) rfl (eb (orF gd1 (andT gd2 rfl)).symm) ?_
                exact J k' hk'
              · refine Go.rx 20 { ws := [(5, { v := some (t32 ((s0.getD i1.toNat ((0, [], 0, 0) : UInt32 × List UInt8 × UInt64 × Int)).1)) }), (7, { v := some (tb false) }), (10, { v := some (tb false) })] } [] [1, 2, 6, 36] _ [(1, t32 n), (2, .addr 10 0), (6, ti i1), (36, tb false)] [(10, [.sl 4 .shr s0.length (fl (fun c : UInt32 × List UInt8 × UInt64 × Int => [t32 c.1, .sl 1 .shr c.2.1.length (u8s c.2.1), t64 c.2.2.1, ti c.2.2.2]) s0), t32 s1, ti s2])] hk rfl kr (.cons (qg4b_1 : 0 ≤ (i1 : Int) ∧ (i1 : Int) < ((s0.length : Nat) : Int)) (.cons (fl_part1 (g := (fun c : UInt32 × List UInt8 × UInt64 × Int => [t32 c.1, .sl 1 .shr c.2.1.length (u8s c.2.1), t64 c.2.2.1, ti c.2.2.2])) (m := 4) (k := i1.toNat * 4 + 0) (n := i1.toNat) (j := 0) (l := s0) (d := ((0, [], 0, 0) : UInt32 × List UInt8 × UInt64 × Int)) (kr : (E.ti 61).agg = false) (fun _ => rfl) rfl (by decide) qg4b_1 rfl) (.cons trivial (.cons ((eqB32 ((s0.getD i1.toNat ((0, [], 0, 0) : UInt32 × List UInt8 × UInt64 × Int)).1) n).trans (eb gd1)) (.cons trivial (.cons ((eqB32 n 0).trans (eb gd2)) .nil)))))) ?_
                intro k' hk'
                refine Go.slotEq 36 (tb ((((s0.getD i1.toNat ((0, [], 0, 0) : UInt32 × List UInt8 × UInt64 × Int)).1) == n) || ((n == 0) && (i1 == ((s0.length : Int) - 1))))) rfl (eb (orF gd1 (andF gd2)).symm) ?_
                exact J k' hk'
        · have ct2p := of_decide_eq_false ct2
          refine Go.keepN [] (L' := []) rfl ?_
          exact Go.exitX (Pf := (PostX Γ bursaryref30_At_enc)) (F := fun z : Unit => bursaryref30_At_k1) (a := ()) (Go.join 20 hk hxl1 rfl (Xl1 trivial))
    exact Ll1 _ 0 qg4b_1 (Nat.lt_succ_self _)
theorem bursaryref30_At_l1_gen : True := by have := @bursaryref30_At_l1.eq_1; have := @bursaryref30_At_l1.eq_2; trivial
attribute [irreducible] bursaryref30_At_k1 bursaryref30_At_l1 bursaryref30_At
end Go.Proofs.YtbppcnhfeobefaaDoor

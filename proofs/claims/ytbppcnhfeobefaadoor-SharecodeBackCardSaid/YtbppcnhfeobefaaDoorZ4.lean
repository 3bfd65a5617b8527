import Derived.Test.YtbppcnhfeobefaaDoorPA
set_option linter.unusedVariables false
set_option linter.unusedSimpArgs false
namespace Go.Proofs.YtbppcnhfeobefaaDoor
open Go Go.Vw Go.Proofs
theorem qz4_1 {p : Prop} (h : p := by first | omega | (simp <;> omega) | (have v := u64i_len x1.1.length (by omega); omega) | (have v := u64i_len x1.1.length (by omega); have q : 9 ≤ x1.1.length := fx11 (by simpa using (by assumption : decide (x1.2 = 0) = true)); omega) | (have v := u64i_len x1.1.length (by omega); have q : 9 ≤ x1.1.length := fx11 (by simpa using (by assumption : decide (x1.2 = 0) = true)); have u := Nat.mod_lt (u64i a2).toNat (show 0 < x1.1.length by omega); simp only [UInt64.toNat_mod, v]; omega) | (simp at * <;> omega)) : p := h
theorem qz4_2 {p : Prop} (h : p := by simpa using (by assumption : decide (x1.2 = 0) = true)) : p := h
def bursarylaw04_num_enc (x : Int) : T × List (Nat × List T) := (ti x, [])
theorem bursarylaw04_num_m (e : Int) : Meets Tryd.prog 80 [er 149 e] [] [] (ti e) [] := by
  by_cases p : e = 0
  · subst p
    rw [er_zero]
    refine Meets.enterX (E := E) (N := 10) (enc := bursarylaw04_num_enc) (x := (0 : Int)) Tryd.func80 Tryd.call80 rfl rfl ?_
    intro Γ k hk
    refine Go.rx 20 {} [] [0] _ [(0, .leaf .nilIface)] [] hk rfl kr .nil ?_
    clear hk; intro k hk
    refine Go.rx 20 { ws := [(0, { id := 10 })] } [] [0, 3] _ [(0, .leaf .nilIface), (3, .addr 10 0)] [(10, [ti 0])] hk rfl kr .nil ?_
    clear hk; intro k hk
    refine Go.rx 20 {} [] [0, 3, 5] _ [(0, .leaf .nilIface), (3, .addr 10 0), (5, tb true)] [(10, [ti 0])] hk rfl kr (.cons (kr : (E.ti 26).k = .iface) .nil) ?_
    clear hk; intro k hk
    refine Go.cond 20 hk rfl (t := true) rfl ?_; clear hk; intro k hk
    refine Go.rx 20 {} [10] [2] _ [(2, ti 0)] [] hk rfl kr .nil ?_
    clear hk; intro k hk
    exact Go.lvx 20 [] _ [ti 0] Tryd.func80 hk rfl kr .nil (T.Le.of_eq rfl) rfl rfl .nil
  · rw [er_ne p]
    refine Meets.enterX (E := E) (N := 10) (enc := bursarylaw04_num_enc) (x := (e : Int)) Tryd.func80 Tryd.call80 rfl rfl ?_
    intro Γ k hk
    refine Go.rx 20 {} [] [0] _ [(0, .iface 149 (ti e))] [] hk rfl kr .nil ?_
    clear hk; intro k hk
    refine Go.rx 20 { ws := [(0, { id := 10 })] } [] [0, 3] _ [(0, .iface 149 (ti e)), (3, .addr 10 0)] [(10, [ti 0])] hk rfl kr .nil ?_
    clear hk; intro k hk
    refine Go.rx 20 {} [] [0, 3, 5] _ [(0, .iface 149 (ti e)), (3, .addr 10 0), (5, tb false)] [(10, [ti 0])] hk rfl kr (.cons (kr : (E.ti 26).k = .iface) .nil) ?_
    clear hk; intro k hk
    refine Go.cond 20 hk rfl (t := false) rfl ?_; clear hk; intro k hk
    refine Go.rx 20 { ws := [(2, { call := some { ids := [10], S := [10], R := tb true, H' := [(10, [ti e])] } })] } [] [3, 8] _ [(3, .addr 10 0), (8, tb true)] [(10, [ti e])] hk rfl kr (.cons (meets_errAs 10 e 0) (.cons (rfl : subN (idsL [.iface 149 (ti e), .iface 161 (.addr 10 0)]) [10] = true) (.cons (rfl : subN (idsL [ti 0]) [10] = true) .nil))) ?_
    clear hk; intro k hk
    refine Go.cond 20 hk rfl (t := true) rfl ?_; clear hk; intro k hk
    refine Go.rx 20 {} [10] [2] _ [(2, ti e)] [] hk rfl kr .nil ?_
    clear hk; intro k hk
    exact Go.lvx 20 [] _ [ti e] Tryd.func80 hk rfl kr .nil (T.Le.of_eq rfl) rfl rfl .nil
noncomputable def bursarylaw04_isShare (a0 : UInt8) (a1 : UInt32) (a2 : List UInt8) (b0 : UInt8) (b1 : UInt32) (b2 : List UInt8) : Bool :=
  (a0 == b0) && ((a1 == b1) && (a2 == b2))
def bursarylaw04_isShare_enc (x : Bool) : T × List (Nat × List T) := (tb x, [])
theorem bursarylaw04_isShare_m {g_a2 : Tag} {g_b2 : Tag} (a0 : UInt8) (a1 : UInt32) (a2 : List UInt8) (b0 : UInt8) (b1 : UInt32) (b2 : List UInt8) : Meets Tryd.prog 82 [.agg [t8 a0, t32 a1, .sl 1 g_a2 a2.length (u8s a2)], .agg [t8 b0, t32 b1, .sl 1 g_b2 b2.length (u8s b2)]] [] [] (tb (bursarylaw04_isShare a0 a1 a2 b0 b1 b2)) [] := by
  refine Meets.enterX (E := E) (N := 26) (enc := bursarylaw04_isShare_enc) (x := (bursarylaw04_isShare a0 a1 a2 b0 b1 b2)) Tryd.func82 Tryd.call82 rfl rfl ?_
  intro Γ k hk
  refine Go.rx 20 { ws := [(0, { id := 10 }), (1, { id := 11 })] } [] [2, 3] _ [(2, .addr 10 0), (3, .addr 11 0)] [(10, [t8 a0, t32 a1, .sl 1 g_a2 a2.length (u8s a2)]), (11, [t8 b0, t32 b1, .sl 1 g_b2 b2.length (u8s b2)])] hk rfl kr .nil ?_
  clear hk; intro k hk
  refine Go.regJ 20 [(4, tb ((a0 == b0) && ((a1 == b1) && (a2 == b2))))] [] hk rfl ?_ ?_
  · clear hk; intro k hk
    exact Go.lvx 20 [] _ [tb ((a0 == b0) && ((a1 == b1) && (a2 == b2)))] Tryd.func82 hk rfl kr .nil (T.Le.of_eq rfl) rfl rfl .nil
  · intro hk J
    rcases Bool.eq_false_or_eq_true (a0 == b0) with gd1 | gd1
    · rcases Bool.eq_false_or_eq_true (a1 == b1) with gd2 | gd2
      · refine Go.rx 20 { ws := [(4, { v := some (tb true) }), (10, { v := some (tb true) }), (15, { b := a2 }), (18, { b := b2 }), (19, { v := some (tb (a2 == b2)) })] } [10, 11] [4] _ [(4, tb (a2 == b2))] [] hk rfl kr (.cons trivial (.cons ((eqB8 a0 b0).trans (eb gd1)) (.cons trivial (.cons ((eqB32 a1 b1).trans (eb gd2)) (.cons (rfl : u8s a2 = u8s a2) (.cons (rfl : u8s b2 = u8s b2) (.cons trivial (.cons (s_eq a2 b2) .nil)))))))) ?_
        intro k' hk'
        refine Go.slotEq 4 (tb ((a0 == b0) && ((a1 == b1) && (a2 == b2)))) rfl (eb (andT gd1 (andT gd2 rfl)).symm) ?_
        exact J k' hk'
      · refine Go.rx 20 { ws := [(4, { v := some (tb true) }), (10, { v := some (tb false) })] } [10, 11] [4] _ [(4, tb false)] [] hk rfl kr (.cons trivial (.cons ((eqB8 a0 b0).trans (eb gd1)) (.cons trivial (.cons ((eqB32 a1 b1).trans (eb gd2)) .nil)))) ?_
        intro k' hk'
        refine Go.slotEq 4 (tb ((a0 == b0) && ((a1 == b1) && (a2 == b2)))) rfl (eb (andT gd1 (andF gd2)).symm) ?_
        exact J k' hk'
    · refine Go.rx 20 { ws := [(4, { v := some (tb false) })] } [10, 11] [4] _ [(4, tb false)] [] hk rfl kr (.cons trivial (.cons ((eqB8 a0 b0).trans (eb gd1)) .nil)) ?_
      intro k' hk'
      refine Go.slotEq 4 (tb ((a0 == b0) && ((a1 == b1) && (a2 == b2)))) rfl (eb (andF gd1).symm) ?_
      exact J k' hk'
attribute [irreducible] bursarylaw04_isShare
noncomputable def bursarylaw04_sure  : Bool :=
  bnd (sharecode_Text 1 7 ([6] : List UInt8)) fun x1 =>
  bnd (sharecode_Parse x1.1) fun x2 =>
  bnd (sharecode_Decode ([115, 104] : List UInt8)) fun x3 =>
  bnd (id x3.2) fun x4 =>
  (decide (x1.2 = 0)) && ((decide (x2.2 = 0)) && ((x1.1 == [55, 51, 54, 56, 48, 48, 48, 48, 48, 48, 48, 55, 48, 49, 48, 49, 48, 54]) && ((((x2.1).2.1) == 7) && ((((x2.1).2.2) == [6]) && (x4 == 4)))))
def bursarylaw04_sure_enc (x : Bool) : T × List (Nat × List T) := (tb x, [])
theorem bursarylaw04_sure_m  : Meets Tryd.prog 72 [] [] [] (tb bursarylaw04_sure) [] := by
  refine Meets.enterX (E := E) (N := 50) (enc := bursarylaw04_sure_enc) (x := bursarylaw04_sure) Tryd.func72 Tryd.call72 rfl rfl ?_
  intro Γ k hk
  refine Go.rx 20 {} [] [] _ [] [] hk rfl kr .nil ?_
  clear hk; intro k hk
  refine Go.rx 20 { ws := [(0, { v := some (.sl 1 .shr ([6] : List UInt8).length (u8s ([6] : List UInt8))), id := 10, gv := true }), (2, { call := some { ids := [], S := [], M := [], R := .tup [ts ((sharecode_Text 1 7 ([6] : List UInt8)).1), er 149 ((sharecode_Text 1 7 ([6] : List UInt8)).2)], H' := [] } })], ps := [2, 7, 10, 12] } [10] [1, 2] _ [(1, ts ((sharecode_Text 1 7 ([6] : List UInt8)).1)), (2, er 149 ((sharecode_Text 1 7 ([6] : List UInt8)).2))] [] hk rfl kr (.cons (⟨rfl, Nat.le_of_ble_eq_true rfl⟩ : idsL [t8 6] = [] ∧ 1 * 1 ≤ ([t8 6] : List T).length) (.cons (rfl : T.sl 1 .shr 1 (sub [t8 6] 0 (1 * 1)) = .sl 1 .shr ([6] : List UInt8).length (u8s ([6] : List UInt8))) (.cons (sharecode_Text_m 1 7 ([6] : List UInt8)) (.cons (sb : subN (idsL [.agg ([t8 1, t32 7, .sl 1 .shr ([6] : List UInt8).length (u8s ([6] : List UInt8))])]) [] = true) (.cons (sb : memN 10 (T.ids (.tup [ts ((sharecode_Text 1 7 ([6] : List UInt8)).1), er 149 ((sharecode_Text 1 7 ([6] : List UInt8)).2)])) = false) (.cons (sb : memN 10 (T.ids (.tup [ts ((sharecode_Text 1 7 ([6] : List UInt8)).1), er 149 ((sharecode_Text 1 7 ([6] : List UInt8)).2)])) = false) (.cons (er_mem (i := 10) 149 ((sharecode_Text 1 7 ([6] : List UInt8)).2)) (.cons (er_mem (i := 10) 149 ((sharecode_Text 1 7 ([6] : List UInt8)).2)) .nil)))))))) ?_
  clear hk; intro k hk
  refine Go.bnd (Pf := (PostX Γ bursarylaw04_sure_enc)) (v := (sharecode_Text 1 7 ([6] : List UInt8))) (fun x1 => [(1, ts x1.1), (2, er 149 x1.2)]) (fun x1 => []) ?_
  intro x1 hx1
  have fx1 := text_fact 1 7 ([6] : List UInt8)
  rw [← hx1] at fx1
  refine Go.rx 20 { ws := [(1, { call := some { ids := [], S := [], M := [], R := .tup [.agg [t8 (((sharecode_Parse x1.1).1).1), t32 (((sharecode_Parse x1.1).1).2.1), .sl 1 .shr (((sharecode_Parse x1.1).1).2.2).length (u8s (((sharecode_Parse x1.1).1).2.2))], er 149 ((sharecode_Parse x1.1).2)], H' := [] } }), (5, { id := 11 })] } [] [1, 2, 3, 4] _ [(1, ts x1.1), (2, er 149 x1.2), (3, .addr 11 0), (4, er 149 ((sharecode_Parse x1.1).2))] [(11, [t8 (((sharecode_Parse x1.1).1).1), t32 (((sharecode_Parse x1.1).1).2.1), .sl 1 .shr (((sharecode_Parse x1.1).1).2.2).length (u8s (((sharecode_Parse x1.1).1).2.2))])] hk rfl kr (.cons (sharecode_Parse_m x1.1 om) (.cons (sb : subN (idsL [ts x1.1]) [] = true) .nil)) ?_
  clear hk; intro k hk
  refine Go.bnd (Pf := (PostX Γ bursarylaw04_sure_enc)) (v := (sharecode_Parse x1.1)) (fun x2 => [(1, ts x1.1), (2, er 149 x1.2), (3, .addr 11 0), (4, er 149 x2.2)]) (fun x2 => [(11, [t8 ((x2.1).1), t32 ((x2.1).2.1), .sl 1 .shr ((x2.1).2.2).length (u8s ((x2.1).2.2))])]) ?_
  intro x2 hx2
  refine Go.rx 20 { ws := [(0, { id := 12 }), (2, { call := some { ids := [], S := [], M := [12], R := .tup [.agg ([t8 (((sharecode_Decode ([115, 104] : List UInt8)).1).1), t32 (((sharecode_Decode ([115, 104] : List UInt8)).1).2.1), .sl 1 .shr (((sharecode_Decode ([115, 104] : List UInt8)).1).2.2).length (u8s (((sharecode_Decode ([115, 104] : List UInt8)).1).2.2))]), er 149 ((sharecode_Decode ([115, 104] : List UInt8)).2)], H' := [] } }), (6, { id := 13 })], ps := [2, 4, 6, 18, 21, 23] } [12, 13] [1, 2, 3, 4, 6] _ [(1, ts x1.1), (2, er 149 x1.2), (3, .addr 11 0), (4, er 149 x2.2), (6, er 149 ((sharecode_Decode ([115, 104] : List UInt8)).2))] [(11, [t8 ((x2.1).1), t32 ((x2.1).2.1), .sl 1 .shr ((x2.1).2.2).length (u8s ((x2.1).2.2))])] hk rfl kr (.cons (Meets.eqA (A := [.sl 1 .brw 2 (sub [t8 115, t8 104] 0 (2 * 1))]) (by first | rfl | (simp only [mp_all]; done) | (simp only [mp_all]; rfl) | simp only [fl_all (fun _ => rfl)]) (sharecode_Decode_m (g_b := .brw) ([115, 104] : List UInt8) om)) (.cons (rfl : idsL [t8 115, t8 104] = []) (.cons (by decide : 0 + 2 * 1 ≤ 2) (.cons (sb : subN (idsL [.sl 1 .brw 2 (sub [t8 115, t8 104] 0 (2 * 1))]) [] = true) (.cons (nb : T.noB (.tup [.agg ([t8 (((sharecode_Decode ([115, 104] : List UInt8)).1).1), t32 (((sharecode_Decode ([115, 104] : List UInt8)).1).2.1), .sl 1 .shr (((sharecode_Decode ([115, 104] : List UInt8)).1).2.2).length (u8s (((sharecode_Decode ([115, 104] : List UInt8)).1).2.2))]), er 149 ((sharecode_Decode ([115, 104] : List UInt8)).2)]) = true) (.cons (er_mem (i := 12) 149 x1.2) (.cons (er_mem (i := 12) 149 x2.2) (.cons (sb : memN 12 (T.ids (.tup [.agg ([t8 (((sharecode_Decode ([115, 104] : List UInt8)).1).1), t32 (((sharecode_Decode ([115, 104] : List UInt8)).1).2.1), .sl 1 .shr (((sharecode_Decode ([115, 104] : List UInt8)).1).2.2).length (u8s (((sharecode_Decode ([115, 104] : List UInt8)).1).2.2))]), er 149 ((sharecode_Decode ([115, 104] : List UInt8)).2)])) = false) (.cons (sb : memN 12 (T.ids (.tup [.agg ([t8 (((sharecode_Decode ([115, 104] : List UInt8)).1).1), t32 (((sharecode_Decode ([115, 104] : List UInt8)).1).2.1), .sl 1 .shr (((sharecode_Decode ([115, 104] : List UInt8)).1).2.2).length (u8s (((sharecode_Decode ([115, 104] : List UInt8)).1).2.2))]), er 149 ((sharecode_Decode ([115, 104] : List UInt8)).2)])) = false) (.cons (er_mem (i := 12) 149 ((sharecode_Decode ([115, 104] : List UInt8)).2)) (.cons (er_mem (i := 12) 149 ((sharecode_Decode ([115, 104] : List UInt8)).2)) (.cons (er_mem (i := 13) 149 x1.2) (.cons (er_mem (i := 13) 149 x2.2) (.cons (sb : memN 13 (T.ids (.tup [.agg ([t8 (((sharecode_Decode ([115, 104] : List UInt8)).1).1), t32 (((sharecode_Decode ([115, 104] : List UInt8)).1).2.1), .sl 1 .shr (((sharecode_Decode ([115, 104] : List UInt8)).1).2.2).length (u8s (((sharecode_Decode ([115, 104] : List UInt8)).1).2.2))]), er 149 ((sharecode_Decode ([115, 104] : List UInt8)).2)])) = false) (.cons (sb : memN 13 (T.ids (.tup [.agg ([t8 (((sharecode_Decode ([115, 104] : List UInt8)).1).1), t32 (((sharecode_Decode ([115, 104] : List UInt8)).1).2.1), .sl 1 .shr (((sharecode_Decode ([115, 104] : List UInt8)).1).2.2).length (u8s (((sharecode_Decode ([115, 104] : List UInt8)).1).2.2))]), er 149 ((sharecode_Decode ([115, 104] : List UInt8)).2)])) = false) (.cons (er_mem (i := 13) 149 ((sharecode_Decode ([115, 104] : List UInt8)).2)) (.cons (er_mem (i := 13) 149 ((sharecode_Decode ([115, 104] : List UInt8)).2)) .nil))))))))))))))))) ?_
  clear hk; intro k hk
  refine Go.bnd (Pf := (PostX Γ bursarylaw04_sure_enc)) (v := (sharecode_Decode ([115, 104] : List UInt8))) (fun x3 => [(1, ts x1.1), (2, er 149 x1.2), (3, .addr 11 0), (4, er 149 x2.2), (6, er 149 x3.2)]) (fun x3 => [(11, [t8 ((x2.1).1), t32 ((x2.1).2.1), .sl 1 .shr ((x2.1).2.2).length (u8s ((x2.1).2.2))])]) ?_
  intro x3 hx3
  refine Go.regJ 20 [(0, tb ((decide (x1.2 = 0)) && ((decide (x2.2 = 0)) && ((x1.1 == [55, 51, 54, 56, 48, 48, 48, 48, 48, 48, 48, 55, 48, 49, 48, 49, 48, 54]) && ((((x2.1).2.1) == 7) && ((((x2.1).2.2) == [6]) && ((id x3.2) == 4)))))))] [] hk rfl ?_ ?_
  · clear hk; intro k hk
    refine Go.bnd (Pf := (PostX Γ bursarylaw04_sure_enc)) (v := (id x3.2)) (fun x4 => [(0, tb ((decide (x1.2 = 0)) && ((decide (x2.2 = 0)) && ((x1.1 == [55, 51, 54, 56, 48, 48, 48, 48, 48, 48, 48, 55, 48, 49, 48, 49, 48, 54]) && ((((x2.1).2.1) == 7) && ((((x2.1).2.2) == [6]) && (x4 == 4)))))))]) (fun x4 => []) ?_
    intro x4 hx4
    exact Go.lvx 20 [] _ [tb ((decide (x1.2 = 0)) && ((decide (x2.2 = 0)) && ((x1.1 == [55, 51, 54, 56, 48, 48, 48, 48, 48, 48, 48, 55, 48, 49, 48, 49, 48, 54]) && ((((x2.1).2.1) == 7) && ((((x2.1).2.2) == [6]) && (x4 == 4))))))] Tryd.func72 hk rfl kr .nil (T.Le.of_eq rfl) rfl rfl .nil
  · intro hk J
    rcases Bool.eq_false_or_eq_true (decide (x1.2 = 0)) with gd1 | gd1
    · have gd1p := of_decide_eq_true gd1
      rcases Bool.eq_false_or_eq_true (decide (x2.2 = 0)) with gd2 | gd2
      · have gd2p := of_decide_eq_true gd2
        rcases Bool.eq_false_or_eq_true (x1.1 == [55, 51, 54, 56, 48, 48, 48, 48, 48, 48, 48, 55, 48, 49, 48, 49, 48, 54]) with gd3 | gd3
        · rcases Bool.eq_false_or_eq_true (((x2.1).2.1) == 7) with gd4 | gd4
          · rcases Bool.eq_false_or_eq_true (((x2.1).2.2) == [6]) with gd5 | gd5
            · refine Go.rx 20 { ws := [(1, { v := some (tb true), er := some (149, x1.2) }), (4, { v := some (tb true), er := some (149, x2.2) }), (8, { v := some (tb true) }), (13, { v := some (tb true) }), (18, { b := (x2.1).2.2 }), (19, { v := some (tb true) }), (23, { call := some { ids := [], S := [], M := [], R := ti (id x3.2), H' := [] } })], ps := [2, 4, 6, 24, 27, 46] } [11] [0] _ [(0, tb ((id x3.2) == 4))] [] hk rfl kr (.cons (⟨rfl, rfl⟩ : (er 149 x1.2) = er 149 x1.2 ∧ (.leaf .nilIface : T) = .leaf .nilIface) (.cons (eb gd1) (.cons (⟨rfl, rfl⟩ : (er 149 x2.2) = er 149 x2.2 ∧ (.leaf .nilIface : T) = .leaf .nilIface) (.cons (eb gd2) (.cons trivial (.cons ((s_eq x1.1 [55, 51, 54, 56, 48, 48, 48, 48, 48, 48, 48, 55, 48, 49, 48, 49, 48, 54]).trans (eb gd3)) (.cons trivial (.cons ((eqB32 ((x2.1).2.1) 7).trans (eb gd4)) (.cons (rfl : u8s ((x2.1).2.2) = u8s ((x2.1).2.2)) (.cons trivial (.cons ((s_eq ((x2.1).2.2) [6]).trans (eb gd5)) (.cons (bursarylaw04_num_m x3.2) (.cons (sb : subN (idsL [er 149 x3.2]) [] = true) (.cons trivial (.cons (er_mem (i := 11) 149 x1.2) (.cons (er_mem (i := 11) 149 x2.2) (.cons (er_mem (i := 11) 149 x3.2) (.cons (er_mem (i := 11) 149 x1.2) (.cons (er_mem (i := 11) 149 x2.2) (.cons (er_mem (i := 11) 149 x3.2) .nil)))))))))))))))))))) ?_
              intro k' hk'
              refine Go.slotEq 0 (tb ((decide (x1.2 = 0)) && ((decide (x2.2 = 0)) && ((x1.1 == [55, 51, 54, 56, 48, 48, 48, 48, 48, 48, 48, 55, 48, 49, 48, 49, 48, 54]) && ((((x2.1).2.1) == 7) && ((((x2.1).2.2) == [6]) && ((id x3.2) == 4))))))) rfl (eb (andT gd1 (andT gd2 (andT gd3 (andT gd4 (andT gd5 rfl))))).symm) ?_
              exact J k' hk'
            · refine Go.rx 20 { ws := [(1, { v := some (tb true), er := some (149, x1.2) }), (4, { v := some (tb true), er := some (149, x2.2) }), (8, { v := some (tb true) }), (13, { v := some (tb true) }), (18, { b := (x2.1).2.2 }), (19, { v := some (tb false) })], ps := [2, 4, 6, 24, 27] } [11] [0] _ [(0, tb false)] [] hk rfl kr (.cons (⟨rfl, rfl⟩ : (er 149 x1.2) = er 149 x1.2 ∧ (.leaf .nilIface : T) = .leaf .nilIface) (.cons (eb gd1) (.cons (⟨rfl, rfl⟩ : (er 149 x2.2) = er 149 x2.2 ∧ (.leaf .nilIface : T) = .leaf .nilIface) (.cons (eb gd2) (.cons trivial (.cons ((s_eq x1.1 [55, 51, 54, 56, 48, 48, 48, 48, 48, 48, 48, 55, 48, 49, 48, 49, 48, 54]).trans (eb gd3)) (.cons trivial (.cons ((eqB32 ((x2.1).2.1) 7).trans (eb gd4)) (.cons (rfl : u8s ((x2.1).2.2) = u8s ((x2.1).2.2)) (.cons trivial (.cons ((s_eq ((x2.1).2.2) [6]).trans (eb gd5)) (.cons (er_mem (i := 11) 149 x1.2) (.cons (er_mem (i := 11) 149 x2.2) (.cons (er_mem (i := 11) 149 x3.2) (.cons (er_mem (i := 11) 149 x1.2) (.cons (er_mem (i := 11) 149 x2.2) .nil)))))))))))))))) ?_
              intro k' hk'
              refine Go.slotEq 0 (tb ((decide (x1.2 = 0)) && ((decide (x2.2 = 0)) && ((x1.1 == [55, 51, 54, 56, 48, 48, 48, 48, 48, 48, 48, 55, 48, 49, 48, 49, 48, 54]) && ((((x2.1).2.1) == 7) && ((((x2.1).2.2) == [6]) && ((id x3.2) == 4))))))) rfl (eb (andT gd1 (andT gd2 (andT gd3 (andT gd4 (andF gd5))))).symm) ?_
              exact J k' hk'
          · refine Go.rx 20 { ws := [(1, { v := some (tb true), er := some (149, x1.2) }), (4, { v := some (tb true), er := some (149, x2.2) }), (8, { v := some (tb true) }), (13, { v := some (tb false) })], ps := [2, 4, 6, 24, 27] } [11] [0] _ [(0, tb false)] [] hk rfl kr (.cons (⟨rfl, rfl⟩ : (er 149 x1.2) = er 149 x1.2 ∧ (.leaf .nilIface : T) = .leaf .nilIface) (.cons (eb gd1) (.cons (⟨rfl, rfl⟩ : (er 149 x2.2) = er 149 x2.2 ∧ (.leaf .nilIface : T) = .leaf .nilIface) (.cons (eb gd2) (.cons trivial (.cons ((s_eq x1.1 [55, 51, 54, 56, 48, 48, 48, 48, 48, 48, 48, 55, 48, 49, 48, 49, 48, 54]).trans (eb gd3)) (.cons trivial (.cons ((eqB32 ((x2.1).2.1) 7).trans (eb gd4)) (.cons (er_mem (i := 11) 149 x1.2) (.cons (er_mem (i := 11) 149 x2.2) (.cons (er_mem (i := 11) 149 x3.2) (.cons (er_mem (i := 11) 149 x1.2) (.cons (er_mem (i := 11) 149 x2.2) .nil))))))))))))) ?_
            intro k' hk'
            refine Go.slotEq 0 (tb ((decide (x1.2 = 0)) && ((decide (x2.2 = 0)) && ((x1.1 == [55, 51, 54, 56, 48, 48, 48, 48, 48, 48, 48, 55, 48, 49, 48, 49, 48, 54]) && ((((x2.1).2.1) == 7) && ((((x2.1).2.2) == [6]) && ((id x3.2) == 4))))))) rfl (eb (andT gd1 (andT gd2 (andT gd3 (andF gd4)))).symm) ?_
            exact J k' hk'
        · refine Go.rx 20 { ws := [(1, { v := some (tb true), er := some (149, x1.2) }), (4, { v := some (tb true), er := some (149, x2.2) }), (8, { v := some (tb false) })], ps := [2, 4, 6, 24, 27] } [11] [0] _ [(0, tb false)] [] hk rfl kr (.cons (⟨rfl, rfl⟩ : (er 149 x1.2) = er 149 x1.2 ∧ (.leaf .nilIface : T) = .leaf .nilIface) (.cons (eb gd1) (.cons (⟨rfl, rfl⟩ : (er 149 x2.2) = er 149 x2.2 ∧ (.leaf .nilIface : T) = .leaf .nilIface) (.cons (eb gd2) (.cons trivial (.cons ((s_eq x1.1 [55, 51, 54, 56, 48, 48, 48, 48, 48, 48, 48, 55, 48, 49, 48, 49, 48, 54]).trans (eb gd3)) (.cons (er_mem (i := 11) 149 x1.2) (.cons (er_mem (i := 11) 149 x2.2) (.cons (er_mem (i := 11) 149 x3.2) (.cons (er_mem (i := 11) 149 x1.2) (.cons (er_mem (i := 11) 149 x2.2) .nil))))))))))) ?_
          intro k' hk'
          refine Go.slotEq 0 (tb ((decide (x1.2 = 0)) && ((decide (x2.2 = 0)) && ((x1.1 == [55, 51, 54, 56, 48, 48, 48, 48, 48, 48, 48, 55, 48, 49, 48, 49, 48, 54]) && ((((x2.1).2.1) == 7) && ((((x2.1).2.2) == [6]) && ((id x3.2) == 4))))))) rfl (eb (andT gd1 (andT gd2 (andF gd3))).symm) ?_
          exact J k' hk'
      · have gd2p := of_decide_eq_false gd2
        refine Go.rx 20 { ws := [(1, { v := some (tb true), er := some (149, x1.2) }), (4, { v := some (tb false), er := some (149, x2.2) })], ps := [2, 4, 6, 24, 27] } [11] [0] _ [(0, tb false)] [] hk rfl kr (.cons (⟨rfl, rfl⟩ : (er 149 x1.2) = er 149 x1.2 ∧ (.leaf .nilIface : T) = .leaf .nilIface) (.cons (eb gd1) (.cons (⟨rfl, rfl⟩ : (er 149 x2.2) = er 149 x2.2 ∧ (.leaf .nilIface : T) = .leaf .nilIface) (.cons (eb gd2) (.cons (er_mem (i := 11) 149 x1.2) (.cons (er_mem (i := 11) 149 x2.2) (.cons (er_mem (i := 11) 149 x3.2) (.cons (er_mem (i := 11) 149 x1.2) (.cons (er_mem (i := 11) 149 x2.2) .nil))))))))) ?_
        intro k' hk'
        refine Go.slotEq 0 (tb ((decide (x1.2 = 0)) && ((decide (x2.2 = 0)) && ((x1.1 == [55, 51, 54, 56, 48, 48, 48, 48, 48, 48, 48, 55, 48, 49, 48, 49, 48, 54]) && ((((x2.1).2.1) == 7) && ((((x2.1).2.2) == [6]) && ((id x3.2) == 4))))))) rfl (eb (andT gd1 (andF gd2)).symm) ?_
        exact J k' hk'
    · have gd1p := of_decide_eq_false gd1
      refine Go.rx 20 { ws := [(1, { v := some (tb false), er := some (149, x1.2) })], ps := [2, 4, 6, 24] } [11] [0] _ [(0, tb false)] [] hk rfl kr (.cons (⟨rfl, rfl⟩ : (er 149 x1.2) = er 149 x1.2 ∧ (.leaf .nilIface : T) = .leaf .nilIface) (.cons (eb gd1) (.cons (er_mem (i := 11) 149 x1.2) (.cons (er_mem (i := 11) 149 x2.2) (.cons (er_mem (i := 11) 149 x3.2) (.cons (er_mem (i := 11) 149 x1.2) .nil)))))) ?_
      intro k' hk'
      refine Go.slotEq 0 (tb ((decide (x1.2 = 0)) && ((decide (x2.2 = 0)) && ((x1.1 == [55, 51, 54, 56, 48, 48, 48, 48, 48, 48, 48, 55, 48, 49, 48, 49, 48, 54]) && ((((x2.1).2.1) == 7) && ((((x2.1).2.2) == [6]) && ((id x3.2) == 4))))))) rfl (eb (andF gd1).symm) ?_
      exact J k' hk'
attribute [irreducible] bursarylaw04_sure
noncomputable def bursarylaw04_SharecodeBack (a00 : UInt8) (a01 : UInt32) (a02 : List UInt8) (a1 : List UInt8) (a2 : Int) : Bool :=
  bif (decide ((a02.length : Int) > 300)) || (decide ((a1.length : Int) > 1000)) then
    bursarylaw04_sure
  else
    bnd (sharecode_Encode a00 a01 a02) fun x1 =>
    bnd (sharecode_Text a00 a01 a02) fun x2 =>
    bif ((decide (x1.2 = 0)) != (decide (x2.2 = 0))) || (bif decide (x1.2 = 0) then (true != (decide (x2.2 = 0))) || ((x1.1.length : Int) == 0) else false != (decide (x2.2 = 0))) then
      false
    else
      bif decide (x1.2 = 0) then
        bnd (sharecode_Decode x1.1) fun x3 =>
        bnd (sharecode_Parse x2.1) fun x4 =>
        bnd (sharecode_Decode (slc x1.1 0 (((u64i a2) % (u64i (x1.1.length : Int))).toNat : Int))) fun x5 =>
        bnd (sharecode_Decode ([] ++ x1.1 ++ [0])) fun x6 =>
        bnd (bursarylaw04_isShare ((x3.1).1) ((x3.1).2.1) ((x3.1).2.2) a00 a01 a02) fun x7 =>
        bnd (bursarylaw04_isShare ((x4.1).1) ((x4.1).2.1) ((x4.1).2.2) a00 a01 a02) fun x8 =>
        bnd (id x5.2) fun x9 =>
        bnd (id x6.2) fun x10 =>
        bif (!(decide (x3.2 = 0))) || ((!(decide (x4.2 = 0))) || ((!x7) || ((!x8) || ((x9 != 4) || (x10 != 4))))) then
          false
        else
          bnd (sharecode_Decode a1) fun x11 =>
          bif !(decide (x11.2 = 0)) then
            (((x11.1).1) == 0) && (((((x11.1).2.2).length : Int) == 0) && bursarylaw04_sure)
          else
            bnd (sharecode_Encode ((x11.1).1) ((x11.1).2.1) ((x11.1).2.2)) fun x12 =>
            (decide (x12.2 = 0)) && ((x12.1 == a1) && bursarylaw04_sure)
      else
        bnd (sharecode_Decode a1) fun x13 =>
        bif !(decide (x13.2 = 0)) then
          (((x13.1).1) == 0) && (((((x13.1).2.2).length : Int) == 0) && bursarylaw04_sure)
        else
          bnd (sharecode_Encode ((x13.1).1) ((x13.1).2.1) ((x13.1).2.2)) fun x14 =>
          (decide (x14.2 = 0)) && ((x14.1 == a1) && bursarylaw04_sure)
def bursarylaw04_SharecodeBack_enc (x : Bool) : T × List (Nat × List T) := (tb x, [])
theorem bursarylaw04_SharecodeBack_m (a00 : UInt8) (a01 : UInt32) (a02 : List UInt8) (a1 : List UInt8) (a2 : Int) : Meets Tryd.prog 13 [.agg [t8 a00, t32 a01, .sl 1 .shr a02.length (u8s a02)], .sl 1 .shr a1.length (u8s a1), ti a2] [] [] (tb (bursarylaw04_SharecodeBack a00 a01 a02 a1 a2)) [] := by
  refine Meets.enterX (E := E) (N := 155) (enc := bursarylaw04_SharecodeBack_enc) (x := (bursarylaw04_SharecodeBack a00 a01 a02 a1 a2)) Tryd.func13 Tryd.call13 rfl rfl ?_
  intro Γ k hk
  refine Go.rx 20 { ws := [(0, { id := 10 })] } [] [1, 2, 3] _ [(1, .sl 1 .shr a1.length (u8s a1)), (2, ti a2), (3, .addr 10 0)] [(10, [t8 a00, t32 a01, .sl 1 .shr a02.length (u8s a02)])] hk rfl kr .nil ?_
  clear hk; intro k hk
  refine Go.regJ 20 [(1, .sl 1 .shr a1.length (u8s a1)), (2, ti a2), (3, .addr 10 0), (31, tb ((decide ((a02.length : Int) > 300)) || (decide ((a1.length : Int) > 1000))))] [(10, [t8 a00, t32 a01, .sl 1 .shr a02.length (u8s a02)])] hk rfl ?_ ?_
  · clear hk; intro k hk
    refine Go.br 20 (Pf := (PostX Γ bursarylaw04_SharecodeBack_enc)) hk rfl rfl ?_ ?_ <;> clear hk <;> intro ct1 k hk
    · refine Go.rx 20 { ws := [(0, { call := some { ids := [], S := [], M := [], R := tb bursarylaw04_sure, H' := [] } })] } [10] [6] _ [(6, tb bursarylaw04_sure)] [] hk rfl kr (.cons (bursarylaw04_sure_m) (.cons (sb : subN (idsL []) [] = true) .nil)) ?_
      clear hk; intro k hk
      exact Go.lvx 20 [] _ [tb bursarylaw04_sure] Tryd.func13 hk rfl kr .nil (T.Le.of_eq rfl) rfl rfl .nil
    · have ct11 : (decide ((a02.length : Int) > 300)) = false := (Bool.or_eq_false_iff.1 ct1).1
      have ct12 : (decide ((a1.length : Int) > 1000)) = false := (Bool.or_eq_false_iff.1 ct1).2
      have ct11p := of_decide_eq_false ct11
      have ct12p := of_decide_eq_false ct12
      refine Go.rx 20 { ws := [(1, { call := some { ids := [], S := [], M := [], R := .tup [.sl 1 .shr ((sharecode_Encode a00 a01 a02).1).length (u8s ((sharecode_Encode a00 a01 a02).1)), er 149 ((sharecode_Encode a00 a01 a02).2)], H' := [] } })] } [] [1, 2, 3, 7, 8] _ [(1, .sl 1 .shr a1.length (u8s a1)), (2, ti a2), (3, .addr 10 0), (7, .sl 1 .shr ((sharecode_Encode a00 a01 a02).1).length (u8s ((sharecode_Encode a00 a01 a02).1))), (8, er 149 ((sharecode_Encode a00 a01 a02).2))] [(10, [t8 a00, t32 a01, .sl 1 .shr a02.length (u8s a02)])] hk rfl kr (.cons (sharecode_Encode_m a00 a01 a02) (.cons (sb : subN (idsL [.agg [t8 a00, t32 a01, .sl 1 .shr a02.length (u8s a02)]]) [] = true) .nil)) ?_
      clear hk; intro k hk
      refine Go.bnd (Pf := (PostX Γ bursarylaw04_SharecodeBack_enc)) (v := (sharecode_Encode a00 a01 a02)) (fun x1 => [(1, .sl 1 .shr a1.length (u8s a1)), (2, ti a2), (3, .addr 10 0), (7, .sl 1 .shr x1.1.length (u8s x1.1)), (8, er 149 x1.2)]) (fun x1 => [(10, [t8 a00, t32 a01, .sl 1 .shr a02.length (u8s a02)])]) ?_
      intro x1 hx1
      have fx1 := encode_fact2 a00 a01 a02
      rw [← hx1] at fx1
      obtain ⟨fx10, fx11⟩ := fx1
      refine Go.rx 20 { ws := [(1, { call := some { ids := [], S := [], M := [], R := .tup [ts ((sharecode_Text a00 a01 a02).1), er 149 ((sharecode_Text a00 a01 a02).2)], H' := [] } })] } [] [1, 2, 3, 7, 8, 9, 10] _ [(1, .sl 1 .shr a1.length (u8s a1)), (2, ti a2), (3, .addr 10 0), (7, .sl 1 .shr x1.1.length (u8s x1.1)), (8, er 149 x1.2), (9, ts ((sharecode_Text a00 a01 a02).1)), (10, er 149 ((sharecode_Text a00 a01 a02).2))] [(10, [t8 a00, t32 a01, .sl 1 .shr a02.length (u8s a02)])] hk rfl kr (.cons (sharecode_Text_m a00 a01 a02) (.cons (sb : subN (idsL [.agg [t8 a00, t32 a01, .sl 1 .shr a02.length (u8s a02)]]) [] = true) .nil)) ?_
      clear hk; intro k hk
      refine Go.bnd (Pf := (PostX Γ bursarylaw04_SharecodeBack_enc)) (v := (sharecode_Text a00 a01 a02)) (fun x2 => [(1, .sl 1 .shr a1.length (u8s a1)), (2, ti a2), (3, .addr 10 0), (7, .sl 1 .shr x1.1.length (u8s x1.1)), (8, er 149 x1.2), (9, ts x2.1), (10, er 149 x2.2)]) (fun x2 => [(10, [t8 a00, t32 a01, .sl 1 .shr a02.length (u8s a02)])]) ?_
      intro x2 hx2
      have fx2 := text_fact a00 a01 a02
      rw [← hx2] at fx2
      refine Go.regJ 20 [(1, .sl 1 .shr a1.length (u8s a1)), (2, ti a2), (3, .addr 10 0), (7, .sl 1 .shr x1.1.length (u8s x1.1)), (8, er 149 x1.2), (9, ts x2.1), (56, tb (((decide (x1.2 = 0)) != (decide (x2.2 = 0))) || (bif decide (x1.2 = 0) then (true != (decide (x2.2 = 0))) || ((x1.1.length : Int) == 0) else false != (decide (x2.2 = 0)))))] [(10, [t8 a00, t32 a01, .sl 1 .shr a02.length (u8s a02)])] hk rfl ?_ ?_
      · clear hk; intro k hk
        refine Go.br 20 (Pf := (PostX Γ bursarylaw04_SharecodeBack_enc)) hk rfl rfl ?_ ?_ <;> clear hk <;> intro ct2 k hk
        · refine Go.rx 20 { ps := [8] } [10] [6] _ [(6, tb false)] [] hk rfl kr (.cons (er_mem (i := 10) 149 x1.2) .nil) ?_
          clear hk; intro k hk
          exact Go.lvx 20 [] _ [tb false] Tryd.func13 hk rfl kr .nil (T.Le.of_eq rfl) rfl rfl .nil
        · have ct21 : ((decide (x1.2 = 0)) != (decide (x2.2 = 0))) = false := (Bool.or_eq_false_iff.1 ct2).1
          have ct22 : (bif decide (x1.2 = 0) then (true != (decide (x2.2 = 0))) || ((x1.1.length : Int) == 0) else false != (decide (x2.2 = 0))) = false := (Bool.or_eq_false_iff.1 ct2).2
          refine Go.rx 20 { ws := [(1, { er := some (149, x1.2) })] } [] [1, 2, 3, 7, 9, 58] _ [(1, .sl 1 .shr a1.length (u8s a1)), (2, ti a2), (3, .addr 10 0), (7, .sl 1 .shr x1.1.length (u8s x1.1)), (9, ts x2.1), (58, tb (decide (x1.2 = 0)))] [(10, [t8 a00, t32 a01, .sl 1 .shr a02.length (u8s a02)])] hk rfl kr (.cons (⟨rfl, rfl⟩ : (er 149 x1.2) = er 149 x1.2 ∧ (.leaf .nilIface : T) = .leaf .nilIface) .nil) ?_
          clear hk; intro k hk
          refine Go.br 20 (Pf := (PostX Γ bursarylaw04_SharecodeBack_enc)) hk rfl rfl ?_ ?_ <;> clear hk <;> intro ct3 k hk
          · have ct3p := of_decide_eq_true ct3
            refine Go.rx 20 { ws := [(1, { call := some { ids := [], S := [], M := [], R := .tup [.agg [t8 (((sharecode_Decode x1.1).1).1), t32 (((sharecode_Decode x1.1).1).2.1), .sl 1 .shr (((sharecode_Decode x1.1).1).2.2).length (u8s (((sharecode_Decode x1.1).1).2.2))], er 149 ((sharecode_Decode x1.1).2)], H' := [] } }), (5, { id := 11 })] } [] [1, 2, 3, 7, 9, 11, 12] _ [(1, .sl 1 .shr a1.length (u8s a1)), (2, ti a2), (3, .addr 10 0), (7, .sl 1 .shr x1.1.length (u8s x1.1)), (9, ts x2.1), (11, .addr 11 0), (12, er 149 ((sharecode_Decode x1.1).2))] [(10, [t8 a00, t32 a01, .sl 1 .shr a02.length (u8s a02)]), (11, [t8 (((sharecode_Decode x1.1).1).1), t32 (((sharecode_Decode x1.1).1).2.1), .sl 1 .shr (((sharecode_Decode x1.1).1).2.2).length (u8s (((sharecode_Decode x1.1).1).2.2))])] hk rfl kr (.cons (sharecode_Decode_m (g_b := .shr) x1.1 qz4_1) (.cons (sb : subN (idsL [.sl 1 .shr x1.1.length (u8s x1.1)]) [] = true) .nil)) ?_
            clear hk; intro k hk
            refine Go.bnd (Pf := (PostX Γ bursarylaw04_SharecodeBack_enc)) (v := (sharecode_Decode x1.1)) (fun x3 => [(1, .sl 1 .shr a1.length (u8s a1)), (2, ti a2), (3, .addr 10 0), (7, .sl 1 .shr x1.1.length (u8s x1.1)), (9, ts x2.1), (11, .addr 11 0), (12, er 149 x3.2)]) (fun x3 => [(10, [t8 a00, t32 a01, .sl 1 .shr a02.length (u8s a02)]), (11, [t8 ((x3.1).1), t32 ((x3.1).2.1), .sl 1 .shr ((x3.1).2.2).length (u8s ((x3.1).2.2))])]) ?_
            intro x3 hx3
            refine Go.rx 20 { ws := [(1, { call := some { ids := [], S := [], M := [], R := .tup [.agg [t8 (((sharecode_Parse x2.1).1).1), t32 (((sharecode_Parse x2.1).1).2.1), .sl 1 .shr (((sharecode_Parse x2.1).1).2.2).length (u8s (((sharecode_Parse x2.1).1).2.2))], er 149 ((sharecode_Parse x2.1).2)], H' := [] } }), (5, { id := 12 })] } [] [1, 2, 3, 7, 11, 12, 13, 14] _ [(1, .sl 1 .shr a1.length (u8s a1)), (2, ti a2), (3, .addr 10 0), (7, .sl 1 .shr x1.1.length (u8s x1.1)), (11, .addr 11 0), (12, er 149 x3.2), (13, .addr 12 0), (14, er 149 ((sharecode_Parse x2.1).2))] [(10, [t8 a00, t32 a01, .sl 1 .shr a02.length (u8s a02)]), (11, [t8 ((x3.1).1), t32 ((x3.1).2.1), .sl 1 .shr ((x3.1).2.2).length (u8s ((x3.1).2.2))]), (12, [t8 (((sharecode_Parse x2.1).1).1), t32 (((sharecode_Parse x2.1).1).2.1), .sl 1 .shr (((sharecode_Parse x2.1).1).2.2).length (u8s (((sharecode_Parse x2.1).1).2.2))])] hk rfl kr (.cons (sharecode_Parse_m x2.1 qz4_1) (.cons (sb : subN (idsL [ts x2.1]) [] = true) .nil)) ?_
            clear hk; intro k hk
            refine Go.bnd (Pf := (PostX Γ bursarylaw04_SharecodeBack_enc)) (v := (sharecode_Parse x2.1)) (fun x4 => [(1, .sl 1 .shr a1.length (u8s a1)), (2, ti a2), (3, .addr 10 0), (7, .sl 1 .shr x1.1.length (u8s x1.1)), (11, .addr 11 0), (12, er 149 x3.2), (13, .addr 12 0), (14, er 149 x4.2)]) (fun x4 => [(10, [t8 a00, t32 a01, .sl 1 .shr a02.length (u8s a02)]), (11, [t8 ((x3.1).1), t32 ((x3.1).2.1), .sl 1 .shr ((x3.1).2.2).length (u8s ((x3.1).2.2))]), (12, [t8 ((x4.1).1), t32 ((x4.1).2.1), .sl 1 .shr ((x4.1).2.2).length (u8s ((x4.1).2.2))])]) ?_
            intro x4 hx4
            refine Go.rx 20 { ws := [(2, { v := some (t64 (u64i a2)) }), (5, { v := some (t64 (u64i (x1.1.length : Int))) }), (6, { v := some (t64 ((u64i a2) % (u64i (x1.1.length : Int)))) }), (7, { v := some (ti (((u64i a2) % (u64i (x1.1.length : Int))).toNat : Int)) }), (8, { v := some (.sl 1 .shr (slc x1.1 0 (((u64i a2) % (u64i (x1.1.length : Int))).toNat : Int)).length (u8s (slc x1.1 0 (((u64i a2) % (u64i (x1.1.length : Int))).toNat : Int)))) }), (9, { call := some { ids := [], S := [], M := [], R := .tup [.agg [t8 (((sharecode_Decode (slc x1.1 0 (((u64i a2) % (u64i (x1.1.length : Int))).toNat : Int))).1).1), t32 (((sharecode_Decode (slc x1.1 0 (((u64i a2) % (u64i (x1.1.length : Int))).toNat : Int))).1).2.1), .sl 1 .shr (((sharecode_Decode (slc x1.1 0 (((u64i a2) % (u64i (x1.1.length : Int))).toNat : Int))).1).2.2).length (u8s (((sharecode_Decode (slc x1.1 0 (((u64i a2) % (u64i (x1.1.length : Int))).toNat : Int))).1).2.2))], er 149 ((sharecode_Decode (slc x1.1 0 (((u64i a2) % (u64i (x1.1.length : Int))).toNat : Int))).2)], H' := [] } }), (13, { id := 13 })], ps := [12, 14, 16, 69, 79, 81] } [13] [1, 3, 7, 11, 12, 13, 14, 16] _ [(1, .sl 1 .shr a1.length (u8s a1)), (3, .addr 10 0), (7, .sl 1 .shr x1.1.length (u8s x1.1)), (11, .addr 11 0), (12, er 149 x3.2), (13, .addr 12 0), (14, er 149 x4.2), (16, er 149 ((sharecode_Decode (slc x1.1 0 (((u64i a2) % (u64i (x1.1.length : Int))).toNat : Int))).2))] [(10, [t8 a00, t32 a01, .sl 1 .shr a02.length (u8s a02)]), (11, [t8 ((x3.1).1), t32 ((x3.1).2.1), .sl 1 .shr ((x3.1).2.2).length (u8s ((x3.1).2.2))]), (12, [t8 ((x4.1).1), t32 ((x4.1).2.1), .sl 1 .shr ((x4.1).2.2).length (u8s ((x4.1).2.2))])] hk rfl kr (.cons (cvi_64 a2) (.cons (cvi_64 (x1.1.length : Int)) (.cons (qz4_1 : ((u64i (x1.1.length : Int) : UInt64).toNat : Int) ≠ (0 : Int)) (.cons (rem64 (u64i a2) (u64i (x1.1.length : Int))) (.cons (iw ((((u64i a2) % (u64i (x1.1.length : Int))).toNat : Int)) qz4_1) (.cons (qz4_1 : 0 ≤ (0 : Int) ∧ (0 : Int) ≤ (((u64i a2) % (u64i (x1.1.length : Int))).toNat : Int) ∧ (((u64i a2) % (u64i (x1.1.length : Int))).toNat : Int) ≤ (x1.1.length : Int) ∧ (x1.1.length : Int) ≤ (x1.1.length : Nat)) (.cons (sl_slc (t := .shr) (g := (fun c : UInt8 => T.leaf (.int .u8 c.toNat))) (lo := 0) (hi := (((u64i a2) % (u64i (x1.1.length : Int))).toNat : Int)) x1.1 qz4_1 rfl rfl) (.cons (sharecode_Decode_m (g_b := .shr) (slc x1.1 0 (((u64i a2) % (u64i (x1.1.length : Int))).toNat : Int)) qz4_1) (.cons (sb : subN (idsL [.sl 1 .shr (slc x1.1 0 (((u64i a2) % (u64i (x1.1.length : Int))).toNat : Int)).length (u8s (slc x1.1 0 (((u64i a2) % (u64i (x1.1.length : Int))).toNat : Int)))]) [] = true) (.cons (er_mem (i := 13) 149 x3.2) (.cons (er_mem (i := 13) 149 x4.2) (.cons (sb : memN 13 (T.ids (.tup [.agg [t8 (((sharecode_Decode (slc x1.1 0 (((u64i a2) % (u64i (x1.1.length : Int))).toNat : Int))).1).1), t32 (((sharecode_Decode (slc x1.1 0 (((u64i a2) % (u64i (x1.1.length : Int))).toNat : Int))).1).2.1), .sl 1 .shr (((sharecode_Decode (slc x1.1 0 (((u64i a2) % (u64i (x1.1.length : Int))).toNat : Int))).1).2.2).length (u8s (((sharecode_Decode (slc x1.1 0 (((u64i a2) % (u64i (x1.1.length : Int))).toNat : Int))).1).2.2))], er 149 ((sharecode_Decode (slc x1.1 0 (((u64i a2) % (u64i (x1.1.length : Int))).toNat : Int))).2)])) = false) (.cons (sb : memN 13 (T.ids (.tup [.agg [t8 (((sharecode_Decode (slc x1.1 0 (((u64i a2) % (u64i (x1.1.length : Int))).toNat : Int))).1).1), t32 (((sharecode_Decode (slc x1.1 0 (((u64i a2) % (u64i (x1.1.length : Int))).toNat : Int))).1).2.1), .sl 1 .shr (((sharecode_Decode (slc x1.1 0 (((u64i a2) % (u64i (x1.1.length : Int))).toNat : Int))).1).2.2).length (u8s (((sharecode_Decode (slc x1.1 0 (((u64i a2) % (u64i (x1.1.length : Int))).toNat : Int))).1).2.2))], er 149 ((sharecode_Decode (slc x1.1 0 (((u64i a2) % (u64i (x1.1.length : Int))).toNat : Int))).2)])) = false) (.cons (er_mem (i := 13) 149 ((sharecode_Decode (slc x1.1 0 (((u64i a2) % (u64i (x1.1.length : Int))).toNat : Int))).2)) (.cons (er_mem (i := 13) 149 ((sharecode_Decode (slc x1.1 0 (((u64i a2) % (u64i (x1.1.length : Int))).toNat : Int))).2)) .nil))))))))))))))) ?_
            clear hk; intro k hk
            refine Go.bnd (Pf := (PostX Γ bursarylaw04_SharecodeBack_enc)) (v := (sharecode_Decode (slc x1.1 0 (((u64i a2) % (u64i (x1.1.length : Int))).toNat : Int)))) (fun x5 => [(1, .sl 1 .shr a1.length (u8s a1)), (3, .addr 10 0), (7, .sl 1 .shr x1.1.length (u8s x1.1)), (11, .addr 11 0), (12, er 149 x3.2), (13, .addr 12 0), (14, er 149 x4.2), (16, er 149 x5.2)]) (fun x5 => [(10, [t8 a00, t32 a01, .sl 1 .shr a02.length (u8s a02)]), (11, [t8 ((x3.1).1), t32 ((x3.1).2.1), .sl 1 .shr ((x3.1).2.2).length (u8s ((x3.1).2.2))]), (12, [t8 ((x4.1).1), t32 ((x4.1).2.1), .sl 1 .shr ((x4.1).2.2).length (u8s ((x4.1).2.2))])]) ?_
            intro x5 hx5
            refine Go.rx 20 { ws := [(0, { id := 14 }), (2, { v := some (.ref 14 1 0 (([] ++ x1.1).length)), c := some (u8s ([] ++ x1.1)), id := 14, sym := true }), (3, { id := 15 }), (4, { v := some (.ref 14 1 0 (([] ++ x1.1 ++ [0]).length)), c := some (u8s ([] ++ x1.1 ++ [0])), id := 14, sym := true }), (5, { call := some { ids := [], S := [], M := [14], R := .tup [.agg ([t8 (((sharecode_Decode ([] ++ x1.1 ++ [0])).1).1), t32 (((sharecode_Decode ([] ++ x1.1 ++ [0])).1).2.1), .sl 1 .shr (((sharecode_Decode ([] ++ x1.1 ++ [0])).1).2.2).length (u8s (((sharecode_Decode ([] ++ x1.1 ++ [0])).1).2.2))]), er 149 ((sharecode_Decode ([] ++ x1.1 ++ [0])).2)], H' := [] } }), (9, { id := 16 })], ps := [12, 14, 16, 18, 82, 88, 90], pg := [14], fd := some [14] } [15, 14, 16] [1, 3, 11, 12, 13, 14, 16, 18] _ [(1, .sl 1 .shr a1.length (u8s a1)), (3, .addr 10 0), (11, .addr 11 0), (12, er 149 x3.2), (13, .addr 12 0), (14, er 149 x4.2), (16, er 149 x5.2), (18, er 149 ((sharecode_Decode ([] ++ x1.1 ++ [0])).2))] [(10, [t8 a00, t32 a01, .sl 1 .shr a02.length (u8s a02)]), (11, [t8 ((x3.1).1), t32 ((x3.1).2.1), .sl 1 .shr ((x3.1).2.2).length (u8s ((x3.1).2.2))]), (12, [t8 ((x4.1).1), t32 ((x4.1).2.1), .sl 1 .shr ((x4.1).2.2).length (u8s ((x4.1).2.2))])] hk rfl kr (.cons (by first | decide | simp : 0 + 0 * 1 ≤ (([] : List T)).length) (.cons (mp_scal x1.1 (fun _ => rfl) : scalL (u8s x1.1) = true) (.cons (qz4_1 : (0 + x1.1.length) * 1 ≤ 140737488355328) (.cons (mp_app' (g := (fun c : UInt8 => T.leaf (.int .u8 c.toNat))) (m := 0) [] x1.1 rfl rfl) (.cons (mp_mem (i := 14) (g := (fun c : UInt8 => T.leaf (.int .u8 c.toNat))) ([] ++ x1.1) (fun _ => rfl)) (.cons (by first | rfl | (simp; done) | (refine congrArg (fun q => T.ref 14 1 0 q) ?_; simp <;> omega) : T.ref 14 1 0 (0 + x1.1.length) = .ref 14 1 0 (([] ++ x1.1).length)) (.cons (er_mem (i := 14) 149 x3.2) (.cons (er_mem (i := 14) 149 x4.2) (.cons (er_mem (i := 14) 149 x5.2) (.cons (Nat.le_of_ble_eq_true rfl : 0 + 1 * 1 ≤ ([t8 0] : List T).length) (.cons (by simp only [List.length_map]; omega : 0 + ([] ++ x1.1).length * 1 ≤ (u8s ([] ++ x1.1)).length) (.cons (rfl : scalL [t8 0] = true) (.cons (qz4_1 : (([] ++ x1.1).length + 1) * 1 ≤ 140737488355328) (.cons (mp_app (g := (fun c : UInt8 => T.leaf (.int .u8 c.toNat))) ([] ++ x1.1) [0] rfl) (.cons (mp_mem (i := 14) (g := (fun c : UInt8 => T.leaf (.int .u8 c.toNat))) ([] ++ x1.1 ++ [0]) (fun _ => rfl)) (.cons (by first | rfl | (simp; done) | (refine congrArg (fun q => T.ref 14 1 0 q) ?_; simp <;> omega) : T.ref 14 1 0 (([] ++ x1.1).length + 1) = .ref 14 1 0 (([] ++ x1.1 ++ [0]).length)) (.cons (er_mem (i := 14) 149 x3.2) (.cons (er_mem (i := 14) 149 x4.2) (.cons (er_mem (i := 14) 149 x5.2) (.cons (Meets.eqA (A := [.sl 1 .brw (([] ++ x1.1 ++ [0]).length) (sub (u8s ([] ++ x1.1 ++ [0])) 0 ((([] ++ x1.1 ++ [0]).length) * 1))]) (by first | rfl | (simp only [mp_all]; done) | (simp only [mp_all]; rfl) | simp only [fl_all (fun _ => rfl)]) (sharecode_Decode_m (g_b := .brw) ([] ++ x1.1 ++ [0]) qz4_1)) (.cons (mp_ids (g := (fun c : UInt8 => T.leaf (.int .u8 c.toNat))) ([] ++ x1.1 ++ [0]) (fun _ => rfl)) (.cons (by simp only [List.length_map]; first | omega | (simp <;> omega) | (have v := u64i_len x1.1.length (by omega); omega) | (have v := u64i_len x1.1.length (by omega); have q : 9 ≤ x1.1.length := fx11 qz4_2; omega) | (have v := u64i_len x1.1.length (by omega); have q : 9 ≤ x1.1.length := fx11 qz4_2; have u := Nat.mod_lt (u64i a2).toNat (show 0 < x1.1.length by omega); simp only [UInt64.toNat_mod, v]; omega) | (simp at * <;> omega) : 0 + (([] ++ x1.1 ++ [0]).length) * 1 ≤ (u8s ([] ++ x1.1 ++ [0])).length) (.cons (sb : subN (idsL [.sl 1 .brw (([] ++ x1.1 ++ [0]).length) (sub (u8s ([] ++ x1.1 ++ [0])) 0 ((([] ++ x1.1 ++ [0]).length) * 1))]) [] = true) (.cons (nb : T.noB (.tup [.agg ([t8 (((sharecode_Decode ([] ++ x1.1 ++ [0])).1).1), t32 (((sharecode_Decode ([] ++ x1.1 ++ [0])).1).2.1), .sl 1 .shr (((sharecode_Decode ([] ++ x1.1 ++ [0])).1).2.2).length (u8s (((sharecode_Decode ([] ++ x1.1 ++ [0])).1).2.2))]), er 149 ((sharecode_Decode ([] ++ x1.1 ++ [0])).2)]) = true) (.cons (er_mem (i := 15) 149 x3.2) (.cons (er_mem (i := 15) 149 x4.2) (.cons (er_mem (i := 15) 149 x5.2) (.cons (sb : memN 15 (T.ids (.tup [.agg ([t8 (((sharecode_Decode ([] ++ x1.1 ++ [0])).1).1), t32 (((sharecode_Decode ([] ++ x1.1 ++ [0])).1).2.1), .sl 1 .shr (((sharecode_Decode ([] ++ x1.1 ++ [0])).1).2.2).length (u8s (((sharecode_Decode ([] ++ x1.1 ++ [0])).1).2.2))]), er 149 ((sharecode_Decode ([] ++ x1.1 ++ [0])).2)])) = false) (.cons (sb : memN 15 (T.ids (.tup [.agg ([t8 (((sharecode_Decode ([] ++ x1.1 ++ [0])).1).1), t32 (((sharecode_Decode ([] ++ x1.1 ++ [0])).1).2.1), .sl 1 .shr (((sharecode_Decode ([] ++ x1.1 ++ [0])).1).2.2).length (u8s (((sharecode_Decode ([] ++ x1.1 ++ [0])).1).2.2))]), er 149 ((sharecode_Decode ([] ++ x1.1 ++ [0])).2)])) = false) (.cons (er_mem (i := 15) 149 ((sharecode_Decode ([] ++ x1.1 ++ [0])).2)) (.cons (er_mem (i := 15) 149 ((sharecode_Decode ([] ++ x1.1 ++ [0])).2)) (.cons (mp_mem (i := 15) (g := (fun c : UInt8 => T.leaf (.int .u8 c.toNat))) ([] ++ x1.1 ++ [0]) (fun _ => rfl)) (.cons (er_mem (i := 14) 149 x3.2) (.cons (er_mem (i := 14) 149 x4.2) (.cons (er_mem (i := 14) 149 x5.2) (.cons (sb : memN 14 (T.ids (.tup [.agg ([t8 (((sharecode_Decode ([] ++ x1.1 ++ [0])).1).1), t32 (((sharecode_Decode ([] ++ x1.1 ++ [0])).1).2.1), .sl 1 .shr (((sharecode_Decode ([] ++ x1.1 ++ [0])).1).2.2).length (u8s (((sharecode_Decode ([] ++ x1.1 ++ [0])).1).2.2))]), er 149 ((sharecode_Decode ([] ++ x1.1 ++ [0])).2)])) = false) (.cons (sb : memN 14 (T.ids (.tup [.agg ([t8 (((sharecode_Decode ([] ++ x1.1 ++ [0])).1).1), t32 (((sharecode_Decode ([] ++ x1.1 ++ [0])).1).2.1), .sl 1 .shr (((sharecode_Decode ([] ++ x1.1 ++ [0])).1).2.2).length (u8s (((sharecode_Decode ([] ++ x1.1 ++ [0])).1).2.2))]), er 149 ((sharecode_Decode ([] ++ x1.1 ++ [0])).2)])) = false) (.cons (er_mem (i := 14) 149 ((sharecode_Decode ([] ++ x1.1 ++ [0])).2)) (.cons (er_mem (i := 14) 149 ((sharecode_Decode ([] ++ x1.1 ++ [0])).2)) (.cons (er_mem (i := 16) 149 x3.2) (.cons (er_mem (i := 16) 149 x4.2) (.cons (er_mem (i := 16) 149 x5.2) (.cons (sb : memN 16 (T.ids (.tup [.agg ([t8 (((sharecode_Decode ([] ++ x1.1 ++ [0])).1).1), t32 (((sharecode_Decode ([] ++ x1.1 ++ [0])).1).2.1), .sl 1 .shr (((sharecode_Decode ([] ++ x1.1 ++ [0])).1).2.2).length (u8s (((sharecode_Decode ([] ++ x1.1 ++ [0])).1).2.2))]), er 149 ((sharecode_Decode ([] ++ x1.1 ++ [0])).2)])) = false) (.cons (sb : memN 16 (T.ids (.tup [.agg ([t8 (((sharecode_Decode ([] ++ x1.1 ++ [0])).1).1), t32 (((sharecode_Decode ([] ++ x1.1 ++ [0])).1).2.1), .sl 1 .shr (((sharecode_Decode ([] ++ x1.1 ++ [0])).1).2.2).length (u8s (((sharecode_Decode ([] ++ x1.1 ++ [0])).1).2.2))]), er 149 ((sharecode_Decode ([] ++ x1.1 ++ [0])).2)])) = false) (.cons (er_mem (i := 16) 149 ((sharecode_Decode ([] ++ x1.1 ++ [0])).2)) (.cons (er_mem (i := 16) 149 ((sharecode_Decode ([] ++ x1.1 ++ [0])).2)) .nil)))))))))))))))))))))))))))))))))))))))))))))) ?_
            clear hk; intro k hk
            refine Go.bnd (Pf := (PostX Γ bursarylaw04_SharecodeBack_enc)) (v := (sharecode_Decode ([] ++ x1.1 ++ [0]))) (fun x6 => [(1, .sl 1 .shr a1.length (u8s a1)), (3, .addr 10 0), (11, .addr 11 0), (12, er 149 x3.2), (13, .addr 12 0), (14, er 149 x4.2), (16, er 149 x5.2), (18, er 149 x6.2)]) (fun x6 => [(10, [t8 a00, t32 a01, .sl 1 .shr a02.length (u8s a02)]), (11, [t8 ((x3.1).1), t32 ((x3.1).2.1), .sl 1 .shr ((x3.1).2.2).length (u8s ((x3.1).2.2))]), (12, [t8 ((x4.1).1), t32 ((x4.1).2.1), .sl 1 .shr ((x4.1).2.2).length (u8s ((x4.1).2.2))])]) ?_
            intro x6 hx6
            refine Go.regJ 20 [(1, .sl 1 .shr a1.length (u8s a1)), (118, tb ((!(decide (x3.2 = 0))) || ((!(decide (x4.2 = 0))) || ((!(bursarylaw04_isShare ((x3.1).1) ((x3.1).2.1) ((x3.1).2.2) a00 a01 a02)) || ((!(bursarylaw04_isShare ((x4.1).1) ((x4.1).2.1) ((x4.1).2.2) a00 a01 a02)) || (((id x5.2) != 4) || ((id x6.2) != 4)))))))] [] hk rfl ?_ ?_
            · clear hk; intro k hk
              refine Go.bnd (Pf := (PostX Γ bursarylaw04_SharecodeBack_enc)) (v := (bursarylaw04_isShare ((x3.1).1) ((x3.1).2.1) ((x3.1).2.2) a00 a01 a02)) (fun x7 => [(1, .sl 1 .shr a1.length (u8s a1)), (118, tb ((!(decide (x3.2 = 0))) || ((!(decide (x4.2 = 0))) || ((!x7) || ((!(bursarylaw04_isShare ((x4.1).1) ((x4.1).2.1) ((x4.1).2.2) a00 a01 a02)) || (((id x5.2) != 4) || ((id x6.2) != 4)))))))]) (fun x7 => []) ?_
              intro x7 hx7
              refine Go.bnd (Pf := (PostX Γ bursarylaw04_SharecodeBack_enc)) (v := (bursarylaw04_isShare ((x4.1).1) ((x4.1).2.1) ((x4.1).2.2) a00 a01 a02)) (fun x8 => [(1, .sl 1 .shr a1.length (u8s a1)), (118, tb ((!(decide (x3.2 = 0))) || ((!(decide (x4.2 = 0))) || ((!x7) || ((!x8) || (((id x5.2) != 4) || ((id x6.2) != 4)))))))]) (fun x8 => []) ?_
              intro x8 hx8
              refine Go.bnd (Pf := (PostX Γ bursarylaw04_SharecodeBack_enc)) (v := (id x5.2)) (fun x9 => [(1, .sl 1 .shr a1.length (u8s a1)), (118, tb ((!(decide (x3.2 = 0))) || ((!(decide (x4.2 = 0))) || ((!x7) || ((!x8) || ((x9 != 4) || ((id x6.2) != 4)))))))]) (fun x9 => []) ?_
              intro x9 hx9
              refine Go.bnd (Pf := (PostX Γ bursarylaw04_SharecodeBack_enc)) (v := (id x6.2)) (fun x10 => [(1, .sl 1 .shr a1.length (u8s a1)), (118, tb ((!(decide (x3.2 = 0))) || ((!(decide (x4.2 = 0))) || ((!x7) || ((!x8) || ((x9 != 4) || (x10 != 4)))))))]) (fun x10 => []) ?_
              intro x10 hx10
              refine Go.br 20 (Pf := (PostX Γ bursarylaw04_SharecodeBack_enc)) hk rfl rfl ?_ ?_ <;> clear hk <;> intro ct4 k hk
              · refine Go.rx 20 {} [] [6] _ [(6, tb false)] [] hk rfl kr .nil ?_
                clear hk; intro k hk
                exact Go.lvx 20 [] _ [tb false] Tryd.func13 hk rfl kr .nil (T.Le.of_eq rfl) rfl rfl .nil
              · have ct41 : (!(decide (x3.2 = 0))) = false := (Bool.or_eq_false_iff.1 ct4).1
                have ct42 : ((!(decide (x4.2 = 0))) || ((!x7) || ((!x8) || ((x9 != 4) || (x10 != 4))))) = false := (Bool.or_eq_false_iff.1 ct4).2
                have ct41' : (decide (x3.2 = 0)) = true := ntF ct41
                have ct41'p := of_decide_eq_true ct41'
                have ct421 : (!(decide (x4.2 = 0))) = false := (Bool.or_eq_false_iff.1 ct42).1
                have ct422 : ((!x7) || ((!x8) || ((x9 != 4) || (x10 != 4)))) = false := (Bool.or_eq_false_iff.1 ct42).2
                have ct421' : (decide (x4.2 = 0)) = true := ntF ct421
                have ct421'p := of_decide_eq_true ct421'
                have ct4221 : (!x7) = false := (Bool.or_eq_false_iff.1 ct422).1
                have ct4222 : ((!x8) || ((x9 != 4) || (x10 != 4))) = false := (Bool.or_eq_false_iff.1 ct422).2
                have ct4221' : x7 = true := ntF ct4221
                have ct42221 : (!x8) = false := (Bool.or_eq_false_iff.1 ct4222).1
                have ct42222 : ((x9 != 4) || (x10 != 4)) = false := (Bool.or_eq_false_iff.1 ct4222).2
                have ct42221' : x8 = true := ntF ct42221
                have ct422221 : (x9 != 4) = false := (Bool.or_eq_false_iff.1 ct42222).1
                have ct422222 : (x10 != 4) = false := (Bool.or_eq_false_iff.1 ct42222).2
                have ct422221p := neIf ct422221
                have ct422222p := neIf ct422222
                refine Go.rx 20 { ws := [(1, { call := some { ids := [], S := [], M := [], R := .tup [.agg [t8 (((sharecode_Decode a1).1).1), t32 (((sharecode_Decode a1).1).2.1), .sl 1 .shr (((sharecode_Decode a1).1).2.2).length (u8s (((sharecode_Decode a1).1).2.2))], er 149 ((sharecode_Decode a1).2)], H' := [] } }), (5, { id := 17 })] } [] [1, 19, 20] _ [(1, .sl 1 .shr a1.length (u8s a1)), (19, .addr 17 0), (20, er 149 ((sharecode_Decode a1).2))] [(17, [t8 (((sharecode_Decode a1).1).1), t32 (((sharecode_Decode a1).1).2.1), .sl 1 .shr (((sharecode_Decode a1).1).2.2).length (u8s (((sharecode_Decode a1).1).2.2))])] hk rfl kr (.cons (sharecode_Decode_m (g_b := .shr) a1 qz4_1) (.cons (sb : subN (idsL [.sl 1 .shr a1.length (u8s a1)]) [] = true) .nil)) ?_
                clear hk; intro k hk
                refine Go.bnd (Pf := (PostX Γ bursarylaw04_SharecodeBack_enc)) (v := (sharecode_Decode a1)) (fun x11 => [(1, .sl 1 .shr a1.length (u8s a1)), (19, .addr 17 0), (20, er 149 x11.2)]) (fun x11 => [(17, [t8 ((x11.1).1), t32 ((x11.1).2.1), .sl 1 .shr ((x11.1).2.2).length (u8s ((x11.1).2.2))])]) ?_
                intro x11 hx11
                refine Go.rx 20 { ws := [(1, { er := some (149, x11.2) })] } [] [1, 19, 125] _ [(1, .sl 1 .shr a1.length (u8s a1)), (19, .addr 17 0), (125, tb (!(decide (x11.2 = 0))))] [(17, [t8 ((x11.1).1), t32 ((x11.1).2.1), .sl 1 .shr ((x11.1).2.2).length (u8s ((x11.1).2.2))])] hk rfl kr (.cons (⟨rfl, rfl⟩ : (er 149 x11.2) = er 149 x11.2 ∧ (.leaf .nilIface : T) = .leaf .nilIface) .nil) ?_
                clear hk; intro k hk
                refine Go.br 20 (Pf := (PostX Γ bursarylaw04_SharecodeBack_enc)) hk rfl rfl ?_ ?_ <;> clear hk <;> intro ct5 k hk
                · have ct5' : (decide (x11.2 = 0)) = false := ntT ct5
                  have ct5'p := of_decide_eq_false ct5'
                  refine Go.regJ 20 [(6, tb ((((x11.1).1) == 0) && (((((x11.1).2.2).length : Int) == 0) && bursarylaw04_sure)))] [] hk rfl ?_ ?_
                  · clear hk; intro k hk
                    exact Go.lvx 20 [] _ [tb ((((x11.1).1) == 0) && (((((x11.1).2.2).length : Int) == 0) && bursarylaw04_sure))] Tryd.func13 hk rfl kr .nil (T.Le.of_eq rfl) rfl rfl .nil
                  · intro hk J
                    rcases Bool.eq_false_or_eq_true (((x11.1).1) == 0) with gd11 | gd11
                    · rcases Bool.eq_false_or_eq_true ((((x11.1).2.2).length : Int) == 0) with gd12 | gd12
                      · have gd12p := eqIt gd12
                        refine Go.rx 20 { ws := [(2, { v := some (tb true) }), (7, { v := some (tb true) }), (10, { call := some { ids := [], S := [], M := [], R := tb bursarylaw04_sure, H' := [] } })] } [17] [6] _ [(6, tb bursarylaw04_sure)] [] hk rfl kr (.cons trivial (.cons ((eqB8 ((x11.1).1) 0).trans (eb gd11)) (.cons trivial (.cons (eb gd12) (.cons (bursarylaw04_sure_m) (.cons (sb : subN (idsL []) [] = true) .nil)))))) ?_
                        intro k' hk'
                        refine Go.slotEq 6 (tb ((((x11.1).1) == 0) && (((((x11.1).2.2).length : Int) == 0) && bursarylaw04_sure))) rfl (eb (andT gd11 (andT gd12 rfl)).symm) ?_
                        exact J k' hk'
                      · have gd12p := eqIf gd12
                        refine Go.rx 20 { ws := [(2, { v := some (tb true) }), (7, { v := some (tb false) })] } [17] [6] _ [(6, tb false)] [] hk rfl kr (.cons trivial (.cons ((eqB8 ((x11.1).1) 0).trans (eb gd11)) (.cons trivial (.cons (eb gd12) .nil)))) ?_
                        intro k' hk'
                        refine Go.slotEq 6 (tb ((((x11.1).1) == 0) && (((((x11.1).2.2).length : Int) == 0) && bursarylaw04_sure))) rfl (eb (andT gd11 (andF gd12)).symm) ?_
                        exact J k' hk'
                    · refine Go.rx 20 { ws := [(2, { v := some (tb false) })] } [17] [6] _ [(6, tb false)] [] hk rfl kr (.cons trivial (.cons ((eqB8 ((x11.1).1) 0).trans (eb gd11)) .nil)) ?_
                      intro k' hk'
                      refine Go.slotEq 6 (tb ((((x11.1).1) == 0) && (((((x11.1).2.2).length : Int) == 0) && bursarylaw04_sure))) rfl (eb (andF gd11).symm) ?_
                      exact J k' hk'
                · have ct5' : (decide (x11.2 = 0)) = true := ntF ct5
                  have ct5'p := of_decide_eq_true ct5'
                  refine Go.rx 20 { ws := [(1, { call := some { ids := [], S := [], M := [], R := .tup [.sl 1 .shr ((sharecode_Encode ((x11.1).1) ((x11.1).2.1) ((x11.1).2.2)).1).length (u8s ((sharecode_Encode ((x11.1).1) ((x11.1).2.1) ((x11.1).2.2)).1)), er 149 ((sharecode_Encode ((x11.1).1) ((x11.1).2.1) ((x11.1).2.2)).2)], H' := [] } })], ps := [22, 138, 140, 142] } [17] [1, 21, 22] _ [(1, .sl 1 .shr a1.length (u8s a1)), (21, .sl 1 .shr ((sharecode_Encode ((x11.1).1) ((x11.1).2.1) ((x11.1).2.2)).1).length (u8s ((sharecode_Encode ((x11.1).1) ((x11.1).2.1) ((x11.1).2.2)).1))), (22, er 149 ((sharecode_Encode ((x11.1).1) ((x11.1).2.1) ((x11.1).2.2)).2))] [] hk rfl kr (.cons (sharecode_Encode_m ((x11.1).1) ((x11.1).2.1) ((x11.1).2.2)) (.cons (sb : subN (idsL [.agg [t8 ((x11.1).1), t32 ((x11.1).2.1), .sl 1 .shr ((x11.1).2.2).length (u8s ((x11.1).2.2))]]) [] = true) (.cons (sb : memN 17 (T.ids (.tup [.sl 1 .shr ((sharecode_Encode ((x11.1).1) ((x11.1).2.1) ((x11.1).2.2)).1).length (u8s ((sharecode_Encode ((x11.1).1) ((x11.1).2.1) ((x11.1).2.2)).1)), er 149 ((sharecode_Encode ((x11.1).1) ((x11.1).2.1) ((x11.1).2.2)).2)])) = false) (.cons (sb : memN 17 (T.ids (.tup [.sl 1 .shr ((sharecode_Encode ((x11.1).1) ((x11.1).2.1) ((x11.1).2.2)).1).length (u8s ((sharecode_Encode ((x11.1).1) ((x11.1).2.1) ((x11.1).2.2)).1)), er 149 ((sharecode_Encode ((x11.1).1) ((x11.1).2.1) ((x11.1).2.2)).2)])) = false) (.cons (er_mem (i := 17) 149 ((sharecode_Encode ((x11.1).1) ((x11.1).2.1) ((x11.1).2.2)).2)) (.cons (er_mem (i := 17) 149 ((sharecode_Encode ((x11.1).1) ((x11.1).2.1) ((x11.1).2.2)).2)) .nil)))))) ?_
                  clear hk; intro k hk
                  refine Go.bnd (Pf := (PostX Γ bursarylaw04_SharecodeBack_enc)) (v := (sharecode_Encode ((x11.1).1) ((x11.1).2.1) ((x11.1).2.2))) (fun x12 => [(1, .sl 1 .shr a1.length (u8s a1)), (21, .sl 1 .shr x12.1.length (u8s x12.1)), (22, er 149 x12.2)]) (fun x12 => []) ?_
                  intro x12 hx12
                  have fx12 := encode_fact2 ((x11.1).1) ((x11.1).2.1) ((x11.1).2.2)
                  rw [← hx12] at fx12
                  obtain ⟨fx120, fx121⟩ := fx12
                  refine Go.regJ 20 [(6, tb ((decide (x12.2 = 0)) && ((x12.1 == a1) && bursarylaw04_sure)))] [] hk rfl ?_ ?_
                  · clear hk; intro k hk
                    exact Go.lvx 20 [] _ [tb ((decide (x12.2 = 0)) && ((x12.1 == a1) && bursarylaw04_sure))] Tryd.func13 hk rfl kr .nil (T.Le.of_eq rfl) rfl rfl .nil
                  · intro hk J
                    rcases Bool.eq_false_or_eq_true (decide (x12.2 = 0)) with gd13 | gd13
                    · have gd13p := of_decide_eq_true gd13
                      rcases Bool.eq_false_or_eq_true (x12.1 == a1) with gd14 | gd14
                      · refine Go.rx 20 { ws := [(1, { v := some (tb true), er := some (149, x12.2) }), (4, { b := x12.1 }), (6, { b := a1 }), (7, { v := some (tb true) }), (10, { call := some { ids := [], S := [], M := [], R := tb bursarylaw04_sure, H' := [] } })] } [] [6] _ [(6, tb bursarylaw04_sure)] [] hk rfl kr (.cons (⟨rfl, rfl⟩ : (er 149 x12.2) = er 149 x12.2 ∧ (.leaf .nilIface : T) = .leaf .nilIface) (.cons (eb gd13) (.cons (rfl : u8s x12.1 = u8s x12.1) (.cons (rfl : u8s a1 = u8s a1) (.cons trivial (.cons ((s_eq x12.1 a1).trans (eb gd14)) (.cons (bursarylaw04_sure_m) (.cons (sb : subN (idsL []) [] = true) .nil)))))))) ?_
                        intro k' hk'
                        refine Go.slotEq 6 (tb ((decide (x12.2 = 0)) && ((x12.1 == a1) && bursarylaw04_sure))) rfl (eb (andT gd13 (andT gd14 rfl)).symm) ?_
                        exact J k' hk'
                      · refine Go.rx 20 { ws := [(1, { v := some (tb true), er := some (149, x12.2) }), (4, { b := x12.1 }), (6, { b := a1 }), (7, { v := some (tb false) })] } [] [6] _ [(6, tb false)] [] hk rfl kr (.cons (⟨rfl, rfl⟩ : (er 149 x12.2) = er 149 x12.2 ∧ (.leaf .nilIface : T) = .leaf .nilIface) (.cons (eb gd13) (.cons (rfl : u8s x12.1 = u8s x12.1) (.cons (rfl : u8s a1 = u8s a1) (.cons trivial (.cons ((s_eq x12.1 a1).trans (eb gd14)) .nil)))))) ?_
                        intro k' hk'
                        refine Go.slotEq 6 (tb ((decide (x12.2 = 0)) && ((x12.1 == a1) && bursarylaw04_sure))) rfl (eb (andT gd13 (andF gd14)).symm) ?_
                        exact J k' hk'
                    · have gd13p := of_decide_eq_false gd13
                      refine Go.rx 20 { ws := [(1, { v := some (tb false), er := some (149, x12.2) })] } [] [6] _ [(6, tb false)] [] hk rfl kr (.cons (⟨rfl, rfl⟩ : (er 149 x12.2) = er 149 x12.2 ∧ (.leaf .nilIface : T) = .leaf .nilIface) (.cons (eb gd13) .nil)) ?_
                      intro k' hk'
                      refine Go.slotEq 6 (tb ((decide (x12.2 = 0)) && ((x12.1 == a1) && bursarylaw04_sure))) rfl (eb (andF gd13).symm) ?_
                      exact J k' hk'
            · intro hk J
              rcases Bool.eq_false_or_eq_true (!(decide (x3.2 = 0))) with gd6 | gd6
              · have gd6' : (decide (x3.2 = 0)) = false := ntT gd6
                have gd6'p := of_decide_eq_false gd6'
                refine Go.rx 20 { ws := [(1, { v := some (tb true), er := some (149, x3.2) })], ps := [12, 14, 16, 18, 91] } [10, 11, 12] [1, 118] _ [(1, .sl 1 .shr a1.length (u8s a1)), (118, tb true)] [] hk rfl kr (.cons (⟨rfl, rfl⟩ : (er 149 x3.2) = er 149 x3.2 ∧ (.leaf .nilIface : T) = .leaf .nilIface) (.cons (eb gd6) (.cons (er_mem (i := 10) 149 x3.2) (.cons (er_mem (i := 10) 149 x4.2) (.cons (er_mem (i := 10) 149 x5.2) (.cons (er_mem (i := 10) 149 x6.2) (.cons (er_mem (i := 10) 149 x3.2) (.cons (er_mem (i := 11) 149 x3.2) (.cons (er_mem (i := 11) 149 x4.2) (.cons (er_mem (i := 11) 149 x5.2) (.cons (er_mem (i := 11) 149 x6.2) (.cons (er_mem (i := 11) 149 x3.2) (.cons (er_mem (i := 12) 149 x3.2) (.cons (er_mem (i := 12) 149 x4.2) (.cons (er_mem (i := 12) 149 x5.2) (.cons (er_mem (i := 12) 149 x6.2) (.cons (er_mem (i := 12) 149 x3.2) .nil))))))))))))))))) ?_
                intro k' hk'
                refine Go.slotEq 118 (tb ((!(decide (x3.2 = 0))) || ((!(decide (x4.2 = 0))) || ((!(bursarylaw04_isShare ((x3.1).1) ((x3.1).2.1) ((x3.1).2.2) a00 a01 a02)) || ((!(bursarylaw04_isShare ((x4.1).1) ((x4.1).2.1) ((x4.1).2.2) a00 a01 a02)) || (((id x5.2) != 4) || ((id x6.2) != 4))))))) rfl (eb (orT gd6).symm) ?_
                exact J k' hk'
              · have gd6' : (decide (x3.2 = 0)) = true := ntF gd6
                have gd6'p := of_decide_eq_true gd6'
                rcases Bool.eq_false_or_eq_true (!(decide (x4.2 = 0))) with gd7 | gd7
                · have gd7' : (decide (x4.2 = 0)) = false := ntT gd7
                  have gd7'p := of_decide_eq_false gd7'
                  refine Go.rx 20 { ws := [(1, { v := some (tb false), er := some (149, x3.2) }), (4, { v := some (tb true), er := some (149, x4.2) })], ps := [12, 14, 16, 18, 91, 94] } [10, 11, 12] [1, 118] _ [(1, .sl 1 .shr a1.length (u8s a1)), (118, tb true)] [] hk rfl kr (.cons (⟨rfl, rfl⟩ : (er 149 x3.2) = er 149 x3.2 ∧ (.leaf .nilIface : T) = .leaf .nilIface) (.cons (eb gd6) (.cons (⟨rfl, rfl⟩ : (er 149 x4.2) = er 149 x4.2 ∧ (.leaf .nilIface : T) = .leaf .nilIface) (.cons (eb gd7) (.cons (er_mem (i := 10) 149 x3.2) (.cons (er_mem (i := 10) 149 x4.2) (.cons (er_mem (i := 10) 149 x5.2) (.cons (er_mem (i := 10) 149 x6.2) (.cons (er_mem (i := 10) 149 x3.2) (.cons (er_mem (i := 10) 149 x4.2) (.cons (er_mem (i := 11) 149 x3.2) (.cons (er_mem (i := 11) 149 x4.2) (.cons (er_mem (i := 11) 149 x5.2) (.cons (er_mem (i := 11) 149 x6.2) (.cons (er_mem (i := 11) 149 x3.2) (.cons (er_mem (i := 11) 149 x4.2) (.cons (er_mem (i := 12) 149 x3.2) (.cons (er_mem (i := 12) 149 x4.2) (.cons (er_mem (i := 12) 149 x5.2) (.cons (er_mem (i := 12) 149 x6.2) (.cons (er_mem (i := 12) 149 x3.2) (.cons (er_mem (i := 12) 149 x4.2) .nil)))))))))))))))))))))) ?_
                  intro k' hk'
                  refine Go.slotEq 118 (tb ((!(decide (x3.2 = 0))) || ((!(decide (x4.2 = 0))) || ((!(bursarylaw04_isShare ((x3.1).1) ((x3.1).2.1) ((x3.1).2.2) a00 a01 a02)) || ((!(bursarylaw04_isShare ((x4.1).1) ((x4.1).2.1) ((x4.1).2.2) a00 a01 a02)) || (((id x5.2) != 4) || ((id x6.2) != 4))))))) rfl (eb (orF gd6 (orT gd7)).symm) ?_
                  exact J k' hk'
                · have gd7' : (decide (x4.2 = 0)) = true := ntF gd7
                  have gd7'p := of_decide_eq_true gd7'
                  rcases Bool.eq_false_or_eq_true (!(bursarylaw04_isShare ((x3.1).1) ((x3.1).2.1) ((x3.1).2.2) a00 a01 a02)) with gd8 | gd8
                  · have gd8' : (bursarylaw04_isShare ((x3.1).1) ((x3.1).2.1) ((x3.1).2.2) a00 a01 a02) = false := ntT gd8
                    refine Go.rx 20 { ws := [(1, { v := some (tb false), er := some (149, x3.2) }), (4, { v := some (tb false), er := some (149, x4.2) }), (9, { v := some (tb false), call := some { ids := [], S := [], M := [], R := tb (bursarylaw04_isShare ((x3.1).1) ((x3.1).2.1) ((x3.1).2.2) a00 a01 a02), H' := [] } })], ps := [12, 14, 16, 18, 91, 94] } [10, 11, 12] [1, 118] _ [(1, .sl 1 .shr a1.length (u8s a1)), (118, tb true)] [] hk rfl kr (.cons (⟨rfl, rfl⟩ : (er 149 x3.2) = er 149 x3.2 ∧ (.leaf .nilIface : T) = .leaf .nilIface) (.cons (eb gd6) (.cons (⟨rfl, rfl⟩ : (er 149 x4.2) = er 149 x4.2 ∧ (.leaf .nilIface : T) = .leaf .nilIface) (.cons (eb gd7) (.cons (bursarylaw04_isShare_m (g_a2 := .shr) (g_b2 := .shr) ((x3.1).1) ((x3.1).2.1) ((x3.1).2.2) a00 a01 a02) (.cons (sb : subN (idsL [.agg [t8 ((x3.1).1), t32 ((x3.1).2.1), .sl 1 .shr ((x3.1).2.2).length (u8s ((x3.1).2.2))], .agg [t8 a00, t32 a01, .sl 1 .shr a02.length (u8s a02)]]) [] = true) (.cons (eb gd8') (.cons (er_mem (i := 10) 149 x3.2) (.cons (er_mem (i := 10) 149 x4.2) (.cons (er_mem (i := 10) 149 x5.2) (.cons (er_mem (i := 10) 149 x6.2) (.cons (er_mem (i := 10) 149 x3.2) (.cons (er_mem (i := 10) 149 x4.2) (.cons (er_mem (i := 11) 149 x3.2) (.cons (er_mem (i := 11) 149 x4.2) (.cons (er_mem (i := 11) 149 x5.2) (.cons (er_mem (i := 11) 149 x6.2) (.cons (er_mem (i := 11) 149 x3.2) (.cons (er_mem (i := 11) 149 x4.2) (.cons (er_mem (i := 12) 149 x3.2) (.cons (er_mem (i := 12) 149 x4.2) (.cons (er_mem (i := 12) 149 x5.2) (.cons (er_mem (i := 12) 149 x6.2) (.cons (er_mem (i := 12) 149 x3.2) (.cons (er_mem (i := 12) 149 x4.2) .nil))))))))))))))))))))))))) ?_
                    intro k' hk'
                    refine Go.slotEq 118 (tb ((!(decide (x3.2 = 0))) || ((!(decide (x4.2 = 0))) || ((!(bursarylaw04_isShare ((x3.1).1) ((x3.1).2.1) ((x3.1).2.2) a00 a01 a02)) || ((!(bursarylaw04_isShare ((x4.1).1) ((x4.1).2.1) ((x4.1).2.2) a00 a01 a02)) || (((id x5.2) != 4) || ((id x6.2) != 4))))))) rfl (eb (orF gd6 (orF gd7 (orT gd8))).symm) ?_
                    exact J k' hk'
                  · have gd8' : (bursarylaw04_isShare ((x3.1).1) ((x3.1).2.1) ((x3.1).2.2) a00 a01 a02) = true := ntF gd8
                    rcases Bool.eq_false_or_eq_true (!(bursarylaw04_isShare ((x4.1).1) ((x4.1).2.1) ((x4.1).2.2) a00 a01 a02)) with gd9 | gd9
                    · have gd9' : (bursarylaw04_isShare ((x4.1).1) ((x4.1).2.1) ((x4.1).2.2) a00 a01 a02) = false := ntT gd9
                      refine Go.rx 20 { ws := [(1, { v := some (tb false), er := some (149, x3.2) }), (4, { v := some (tb false), er := some (149, x4.2) }), (9, { v := some (tb true), call := some { ids := [], S := [], M := [], R := tb (bursarylaw04_isShare ((x3.1).1) ((x3.1).2.1) ((x3.1).2.2) a00 a01 a02), H' := [] } }), (15, { v := some (tb false), call := some { ids := [], S := [], M := [], R := tb (bursarylaw04_isShare ((x4.1).1) ((x4.1).2.1) ((x4.1).2.2) a00 a01 a02), H' := [] } })], ps := [12, 14, 16, 18, 91, 94] } [10, 11, 12] [1, 118] _ [(1, .sl 1 .shr a1.length (u8s a1)), (118, tb true)] [] hk rfl kr (.cons (⟨rfl, rfl⟩ : (er 149 x3.2) = er 149 x3.2 ∧ (.leaf .nilIface : T) = .leaf .nilIface) (.cons (eb gd6) (.cons (⟨rfl, rfl⟩ : (er 149 x4.2) = er 149 x4.2 ∧ (.leaf .nilIface : T) = .leaf .nilIface) (.cons (eb gd7) (.cons (bursarylaw04_isShare_m (g_a2 := .shr) (g_b2 := .shr) ((x3.1).1) ((x3.1).2.1) ((x3.1).2.2) a00 a01 a02) (.cons (sb : subN (idsL [.agg [t8 ((x3.1).1), t32 ((x3.1).2.1), .sl 1 .shr ((x3.1).2.2).length (u8s ((x3.1).2.2))], .agg [t8 a00, t32 a01, .sl 1 .shr a02.length (u8s a02)]]) [] = true) (.cons (eb gd8') (.cons (bursarylaw04_isShare_m (g_a2 := .shr) (g_b2 := .shr) ((x4.1).1) ((x4.1).2.1) ((x4.1).2.2) a00 a01 a02) (.cons (sb : subN (idsL [.agg [t8 ((x4.1).1), t32 ((x4.1).2.1), .sl 1 .shr ((x4.1).2.2).length (u8s ((x4.1).2.2))], .agg [t8 a00, t32 a01, .sl 1 .shr a02.length (u8s a02)]]) [] = true) (.cons (eb gd9') (.cons (er_mem (i := 10) 149 x3.2) (.cons (er_mem (i := 10) 149 x4.2) (.cons (er_mem (i := 10) 149 x5.2) (.cons (er_mem (i := 10) 149 x6.2) (.cons (er_mem (i := 10) 149 x3.2) (.cons (er_mem (i := 10) 149 x4.2) (.cons (er_mem (i := 11) 149 x3.2) (.cons (er_mem (i := 11) 149 x4.2) (.cons (er_mem (i := 11) 149 x5.2) (.cons (er_mem (i := 11) 149 x6.2) (.cons (er_mem (i := 11) 149 x3.2) (.cons (er_mem (i := 11) 149 x4.2) (.cons (er_mem (i := 12) 149 x3.2) (.cons (er_mem (i := 12) 149 x4.2) (.cons (er_mem (i := 12) 149 x5.2) (.cons (er_mem (i := 12) 149 x6.2) (.cons (er_mem (i := 12) 149 x3.2) (.cons (er_mem (i := 12) 149 x4.2) .nil)))))))))))))))))))))))))))) ?_
                      intro k' hk'
                      refine Go.slotEq 118 (tb ((!(decide (x3.2 = 0))) || ((!(decide (x4.2 = 0))) || ((!(bursarylaw04_isShare ((x3.1).1) ((x3.1).2.1) ((x3.1).2.2) a00 a01 a02)) || ((!(bursarylaw04_isShare ((x4.1).1) ((x4.1).2.1) ((x4.1).2.2) a00 a01 a02)) || (((id x5.2) != 4) || ((id x6.2) != 4))))))) rfl (eb (orF gd6 (orF gd7 (orF gd8 (orT gd9)))).symm) ?_
                      exact J k' hk'
                    · have gd9' : (bursarylaw04_isShare ((x4.1).1) ((x4.1).2.1) ((x4.1).2.2) a00 a01 a02) = true := ntF gd9
                      rcases Bool.eq_false_or_eq_true ((id x5.2) != 4) with gd10 | gd10
                      · have gd10p := neIt gd10
                        refine Go.rx 20 { ws := [(1, { v := some (tb false), er := some (149, x3.2) }), (4, { v := some (tb false), er := some (149, x4.2) }), (9, { v := some (tb true), call := some { ids := [], S := [], M := [], R := tb (bursarylaw04_isShare ((x3.1).1) ((x3.1).2.1) ((x3.1).2.2) a00 a01 a02), H' := [] } }), (15, { v := some (tb true), call := some { ids := [], S := [], M := [], R := tb (bursarylaw04_isShare ((x4.1).1) ((x4.1).2.1) ((x4.1).2.2) a00 a01 a02), H' := [] } }), (20, { call := some { ids := [], S := [], M := [], R := ti (id x5.2), H' := [] } }), (21, { v := some (tb true) })], ps := [12, 14, 16, 18, 91, 94, 110] } [10, 11, 12] [1, 118] _ [(1, .sl 1 .shr a1.length (u8s a1)), (118, tb true)] [] hk rfl kr (.cons (⟨rfl, rfl⟩ : (er 149 x3.2) = er 149 x3.2 ∧ (.leaf .nilIface : T) = .leaf .nilIface) (.cons (eb gd6) (.cons (⟨rfl, rfl⟩ : (er 149 x4.2) = er 149 x4.2 ∧ (.leaf .nilIface : T) = .leaf .nilIface) (.cons (eb gd7) (.cons (bursarylaw04_isShare_m (g_a2 := .shr) (g_b2 := .shr) ((x3.1).1) ((x3.1).2.1) ((x3.1).2.2) a00 a01 a02) (.cons (sb : subN (idsL [.agg [t8 ((x3.1).1), t32 ((x3.1).2.1), .sl 1 .shr ((x3.1).2.2).length (u8s ((x3.1).2.2))], .agg [t8 a00, t32 a01, .sl 1 .shr a02.length (u8s a02)]]) [] = true) (.cons (eb gd8') (.cons (bursarylaw04_isShare_m (g_a2 := .shr) (g_b2 := .shr) ((x4.1).1) ((x4.1).2.1) ((x4.1).2.2) a00 a01 a02) (.cons (sb : subN (idsL [.agg [t8 ((x4.1).1), t32 ((x4.1).2.1), .sl 1 .shr ((x4.1).2.2).length (u8s ((x4.1).2.2))], .agg [t8 a00, t32 a01, .sl 1 .shr a02.length (u8s a02)]]) [] = true) (.cons (eb gd9') (.cons (bursarylaw04_num_m x5.2) (.cons (sb : subN (idsL [er 149 x5.2]) [] = true) (.cons trivial (.cons (eb gd10) (.cons (er_mem (i := 10) 149 x3.2) (.cons (er_mem (i := 10) 149 x4.2) (.cons (er_mem (i := 10) 149 x5.2) (.cons (er_mem (i := 10) 149 x6.2) (.cons (er_mem (i := 10) 149 x3.2) (.cons (er_mem (i := 10) 149 x4.2) (.cons (er_mem (i := 10) 149 x5.2) (.cons (er_mem (i := 11) 149 x3.2) (.cons (er_mem (i := 11) 149 x4.2) (.cons (er_mem (i := 11) 149 x5.2) (.cons (er_mem (i := 11) 149 x6.2) (.cons (er_mem (i := 11) 149 x3.2) (.cons (er_mem (i := 11) 149 x4.2) (.cons (er_mem (i := 11) 149 x5.2) (.cons (er_mem (i := 12) 149 x3.2) (.cons (er_mem (i := 12) 149 x4.2) (.cons (er_mem (i := 12) 149 x5.2) (.cons (er_mem (i := 12) 149 x6.2) (.cons (er_mem (i := 12) 149 x3.2) (.cons (er_mem (i := 12) 149 x4.2) (.cons (er_mem (i := 12) 149 x5.2) .nil))))))))))))))))))))))))))))))))))) ?_
                        intro k' hk'
                        refine Go.slotEq 118 (tb ((!(decide (x3.2 = 0))) || ((!(decide (x4.2 = 0))) || ((!(bursarylaw04_isShare ((x3.1).1) ((x3.1).2.1) ((x3.1).2.2) a00 a01 a02)) || ((!(bursarylaw04_isShare ((x4.1).1) ((x4.1).2.1) ((x4.1).2.2) a00 a01 a02)) || (((id x5.2) != 4) || ((id x6.2) != 4))))))) rfl (eb (orF gd6 (orF gd7 (orF gd8 (orF gd9 (orT gd10))))).symm) ?_
                        exact J k' hk'
                      · have gd10p := neIf gd10
                        refine Go.rx 20 { ws := [(1, { v := some (tb false), er := some (149, x3.2) }), (4, { v := some (tb false), er := some (149, x4.2) }), (9, { v := some (tb true), call := some { ids := [], S := [], M := [], R := tb (bursarylaw04_isShare ((x3.1).1) ((x3.1).2.1) ((x3.1).2.2) a00 a01 a02), H' := [] } }), (15, { v := some (tb true), call := some { ids := [], S := [], M := [], R := tb (bursarylaw04_isShare ((x4.1).1) ((x4.1).2.1) ((x4.1).2.2) a00 a01 a02), H' := [] } }), (20, { call := some { ids := [], S := [], M := [], R := ti (id x5.2), H' := [] } }), (21, { v := some (tb false) }), (25, { call := some { ids := [], S := [], M := [], R := ti (id x6.2), H' := [] } })], ps := [12, 14, 16, 18, 91, 94, 110, 115] } [10, 11, 12] [1, 118] _ [(1, .sl 1 .shr a1.length (u8s a1)), (118, tb ((id x6.2) != 4))] [] hk rfl kr (.cons (⟨rfl, rfl⟩ : (er 149 x3.2) = er 149 x3.2 ∧ (.leaf .nilIface : T) = .leaf .nilIface) (.cons (eb gd6) (.cons (⟨rfl, rfl⟩ : (er 149 x4.2) = er 149 x4.2 ∧ (.leaf .nilIface : T) = .leaf .nilIface) (.cons (eb gd7) (.cons (bursarylaw04_isShare_m (g_a2 := .shr) (g_b2 := .shr) ((x3.1).1) ((x3.1).2.1) ((x3.1).2.2) a00 a01 a02) (.cons (sb : subN (idsL [.agg [t8 ((x3.1).1), t32 ((x3.1).2.1), .sl 1 .shr ((x3.1).2.2).length (u8s ((x3.1).2.2))], .agg [t8 a00, t32 a01, .sl 1 .shr a02.length (u8s a02)]]) [] = true) (.cons (eb gd8') (.cons (bursarylaw04_isShare_m (g_a2 := .shr) (g_b2 := .shr) ((x4.1).1) ((x4.1).2.1) ((x4.1).2.2) a00 a01 a02) (.cons (sb : subN (idsL [.agg [t8 ((x4.1).1), t32 ((x4.1).2.1), .sl 1 .shr ((x4.1).2.2).length (u8s ((x4.1).2.2))], .agg [t8 a00, t32 a01, .sl 1 .shr a02.length (u8s a02)]]) [] = true) (.cons (eb gd9') (.cons (bursarylaw04_num_m x5.2) (.cons (sb : subN (idsL [er 149 x5.2]) [] = true) (.cons trivial (.cons (eb gd10) (.cons (bursarylaw04_num_m x6.2) (.cons (sb : subN (idsL [er 149 x6.2]) [] = true) (.cons trivial (.cons (er_mem (i := 10) 149 x3.2) (.cons (er_mem (i := 10) 149 x4.2) (.cons (er_mem (i := 10) 149 x5.2) (.cons (er_mem (i := 10) 149 x6.2) (.cons (er_mem (i := 10) 149 x3.2) (.cons (er_mem (i := 10) 149 x4.2) (.cons (er_mem (i := 10) 149 x5.2) (.cons (er_mem (i := 10) 149 x6.2) (.cons (er_mem (i := 11) 149 x3.2) (.cons (er_mem (i := 11) 149 x4.2) (.cons (er_mem (i := 11) 149 x5.2) (.cons (er_mem (i := 11) 149 x6.2) (.cons (er_mem (i := 11) 149 x3.2) (.cons (er_mem (i := 11) 149 x4.2) (.cons (er_mem (i := 11) 149 x5.2) (.cons (er_mem (i := 11) 149 x6.2) (.cons (er_mem (i := 12) 149 x3.2) (.cons (er_mem (i := 12) 149 x4.2) (.cons (er_mem (i := 12) 149 x5.2) (.cons (er_mem (i := 12) 149 x6.2) (.cons (er_mem (i := 12) 149 x3.2) (.cons (er_mem (i := 12) 149 x4.2) (.cons (er_mem (i := 12) 149 x5.2) (.cons (er_mem (i := 12) 149 x6.2) .nil))))))))))))))))))))))))))))))))))))))))) ?_
                        intro k' hk'
                        refine Go.slotEq 118 (tb ((!(decide (x3.2 = 0))) || ((!(decide (x4.2 = 0))) || ((!(bursarylaw04_isShare ((x3.1).1) ((x3.1).2.1) ((x3.1).2.2) a00 a01 a02)) || ((!(bursarylaw04_isShare ((x4.1).1) ((x4.1).2.1) ((x4.1).2.2) a00 a01 a02)) || (((id x5.2) != 4) || ((id x6.2) != 4))))))) rfl (eb (orF gd6 (orF gd7 (orF gd8 (orF gd9 (orF gd10 rfl))))).symm) ?_
                        exact J k' hk'
          · have ct3p := of_decide_eq_false ct3
            refine Go.rx 20 { ws := [(1, { call := some { ids := [], S := [], M := [], R := .tup [.agg [t8 (((sharecode_Decode a1).1).1), t32 (((sharecode_Decode a1).1).2.1), .sl 1 .shr (((sharecode_Decode a1).1).2.2).length (u8s (((sharecode_Decode a1).1).2.2))], er 149 ((sharecode_Decode a1).2)], H' := [] } }), (5, { id := 17 })], ps := [20, 119, 121, 123] } [10] [1, 19, 20] _ [(1, .sl 1 .shr a1.length (u8s a1)), (19, .addr 17 0), (20, er 149 ((sharecode_Decode a1).2))] [(17, [t8 (((sharecode_Decode a1).1).1), t32 (((sharecode_Decode a1).1).2.1), .sl 1 .shr (((sharecode_Decode a1).1).2.2).length (u8s (((sharecode_Decode a1).1).2.2))])] hk rfl kr (.cons (sharecode_Decode_m (g_b := .shr) a1 qz4_1) (.cons (sb : subN (idsL [.sl 1 .shr a1.length (u8s a1)]) [] = true) (.cons (sb : memN 10 (T.ids (.tup [.agg [t8 (((sharecode_Decode a1).1).1), t32 (((sharecode_Decode a1).1).2.1), .sl 1 .shr (((sharecode_Decode a1).1).2.2).length (u8s (((sharecode_Decode a1).1).2.2))], er 149 ((sharecode_Decode a1).2)])) = false) (.cons (sb : memN 10 (T.ids (.tup [.agg [t8 (((sharecode_Decode a1).1).1), t32 (((sharecode_Decode a1).1).2.1), .sl 1 .shr (((sharecode_Decode a1).1).2.2).length (u8s (((sharecode_Decode a1).1).2.2))], er 149 ((sharecode_Decode a1).2)])) = false) (.cons (er_mem (i := 10) 149 ((sharecode_Decode a1).2)) (.cons (er_mem (i := 10) 149 ((sharecode_Decode a1).2)) .nil)))))) ?_
            clear hk; intro k hk
            refine Go.bnd (Pf := (PostX Γ bursarylaw04_SharecodeBack_enc)) (v := (sharecode_Decode a1)) (fun x13 => [(1, .sl 1 .shr a1.length (u8s a1)), (19, .addr 17 0), (20, er 149 x13.2)]) (fun x13 => [(17, [t8 ((x13.1).1), t32 ((x13.1).2.1), .sl 1 .shr ((x13.1).2.2).length (u8s ((x13.1).2.2))])]) ?_
            intro x13 hx13
            refine Go.rx 20 { ws := [(1, { er := some (149, x13.2) })] } [] [1, 19, 125] _ [(1, .sl 1 .shr a1.length (u8s a1)), (19, .addr 17 0), (125, tb (!(decide (x13.2 = 0))))] [(17, [t8 ((x13.1).1), t32 ((x13.1).2.1), .sl 1 .shr ((x13.1).2.2).length (u8s ((x13.1).2.2))])] hk rfl kr (.cons (⟨rfl, rfl⟩ : (er 149 x13.2) = er 149 x13.2 ∧ (.leaf .nilIface : T) = .leaf .nilIface) .nil) ?_
            clear hk; intro k hk
            refine Go.br 20 (Pf := (PostX Γ bursarylaw04_SharecodeBack_enc)) hk rfl rfl ?_ ?_ <;> clear hk <;> intro ct6 k hk
            · have ct6' : (decide (x13.2 = 0)) = false := ntT ct6
              have ct6'p := of_decide_eq_false ct6'
              refine Go.regJ 20 [(6, tb ((((x13.1).1) == 0) && (((((x13.1).2.2).length : Int) == 0) && bursarylaw04_sure)))] [] hk rfl ?_ ?_
              · clear hk; intro k hk
                exact Go.lvx 20 [] _ [tb ((((x13.1).1) == 0) && (((((x13.1).2.2).length : Int) == 0) && bursarylaw04_sure))] Tryd.func13 hk rfl kr .nil (T.Le.of_eq rfl) rfl rfl .nil
              · intro hk J
                rcases Bool.eq_false_or_eq_true (((x13.1).1) == 0) with gd15 | gd15
                · rcases Bool.eq_false_or_eq_true ((((x13.1).2.2).length : Int) == 0) with gd16 | gd16
                  · have gd16p := eqIt gd16
                    refine Go.rx 20 { ws := [(2, { v := some (tb true) }), (7, { v := some (tb true) }), (10, { call := some { ids := [], S := [], M := [], R := tb bursarylaw04_sure, H' := [] } })] } [17] [6] _ [(6, tb bursarylaw04_sure)] [] hk rfl kr (.cons trivial (.cons ((eqB8 ((x13.1).1) 0).trans (eb gd15)) (.cons trivial (.cons (eb gd16) (.cons (bursarylaw04_sure_m) (.cons (sb : subN (idsL []) [] = true) .nil)))))) ?_
                    intro k' hk'
                    refine Go.slotEq 6 (tb ((((x13.1).1) == 0) && (((((x13.1).2.2).length : Int) == 0) && bursarylaw04_sure))) rfl (eb (andT gd15 (andT gd16 rfl)).symm) ?_
                    exact J k' hk'
                  · have gd16p := eqIf gd16
                    refine Go.rx 20 { ws := [(2, { v := some (tb true) }), (7, { v := some (tb false) })] } [17] [6] _ [(6, tb false)] [] hk rfl kr (.cons trivial (.cons ((eqB8 ((x13.1).1) 0).trans (eb gd15)) (.cons trivial (.cons (eb gd16) .nil)))) ?_
                    intro k' hk'
                    refine Go.slotEq 6 (tb ((((x13.1).1) == 0) && (((((x13.1).2.2).length : Int) == 0) && bursarylaw04_sure))) rfl (eb (andT gd15 (andF gd16)).symm) ?_
                    exact J k' hk'
                · refine Go.rx 20 { ws := [(2, { v := some (tb false) })] } [17] [6] _ [(6, tb false)] [] hk rfl kr (.cons trivial (.cons ((eqB8 ((x13.1).1) 0).trans (eb gd15)) .nil)) ?_
                  intro k' hk'
                  refine Go.slotEq 6 (tb ((((x13.1).1) == 0) && (((((x13.1).2.2).length : Int) == 0) && bursarylaw04_sure))) rfl (eb (andF gd15).symm) ?_
                  exact J k' hk'
            · have ct6' : (decide (x13.2 = 0)) = true := ntF ct6
              have ct6'p := of_decide_eq_true ct6'
              refine Go.rx 20 { ws := [(1, { call := some { ids := [], S := [], M := [], R := .tup [.sl 1 .shr ((sharecode_Encode ((x13.1).1) ((x13.1).2.1) ((x13.1).2.2)).1).length (u8s ((sharecode_Encode ((x13.1).1) ((x13.1).2.1) ((x13.1).2.2)).1)), er 149 ((sharecode_Encode ((x13.1).1) ((x13.1).2.1) ((x13.1).2.2)).2)], H' := [] } })], ps := [22, 138, 140, 142] } [17] [1, 21, 22] _ [(1, .sl 1 .shr a1.length (u8s a1)), (21, .sl 1 .shr ((sharecode_Encode ((x13.1).1) ((x13.1).2.1) ((x13.1).2.2)).1).length (u8s ((sharecode_Encode ((x13.1).1) ((x13.1).2.1) ((x13.1).2.2)).1))), (22, er 149 ((sharecode_Encode ((x13.1).1) ((x13.1).2.1) ((x13.1).2.2)).2))] [] hk rfl kr (.cons (sharecode_Encode_m ((x13.1).1) ((x13.1).2.1) ((x13.1).2.2)) (.cons (sb : subN (idsL [.agg [t8 ((x13.1).1), t32 ((x13.1).2.1), .sl 1 .shr ((x13.1).2.2).length (u8s ((x13.1).2.2))]]) [] = true) (.cons (sb : memN 17 (T.ids (.tup [.sl 1 .shr ((sharecode_Encode ((x13.1).1) ((x13.1).2.1) ((x13.1).2.2)).1).length (u8s ((sharecode_Encode ((x13.1).1) ((x13.1).2.1) ((x13.1).2.2)).1)), er 149 ((sharecode_Encode ((x13.1).1) ((x13.1).2.1) ((x13.1).2.2)).2)])) = false) (.cons (sb : memN 17 (T.ids (.tup [.sl 1 .shr ((sharecode_Encode ((x13.1).1) ((x13.1).2.1) ((x13.1).2.2)).1).length (u8s ((sharecode_Encode ((x13.1).1) ((x13.1).2.1) ((x13.1).2.2)).1)), er 149 ((sharecode_Encode ((x13.1).1) ((x13.1).2.1) ((x13.1).2.2)).2)])) = false) (.cons (er_mem (i := 17) 149 ((sharecode_Encode ((x13.1).1) ((x13.1).2.1) ((x13.1).2.2)).2)) (.cons (er_mem (i := 17) 149 ((sharecode_Encode ((x13.1).1) ((x13.1).2.1) ((x13.1).2.2)).2)) .nil)))))) ?_
              clear hk; intro k hk
              refine Go.bnd (Pf := (PostX Γ bursarylaw04_SharecodeBack_enc)) (v := (sharecode_Encode ((x13.1).1) ((x13.1).2.1) ((x13.1).2.2))) (fun x14 => [(1, .sl 1 .shr a1.length (u8s a1)), (21, .sl 1 .shr x14.1.length (u8s x14.1)), (22, er 149 x14.2)]) (fun x14 => []) ?_
              intro x14 hx14
              have fx14 := encode_fact2 ((x13.1).1) ((x13.1).2.1) ((x13.1).2.2)
              rw [← hx14] at fx14
              obtain ⟨fx140, fx141⟩ := fx14
              refine Go.regJ 20 [(6, tb ((decide (x14.2 = 0)) && ((x14.1 == a1) && bursarylaw04_sure)))] [] hk rfl ?_ ?_
              · clear hk; intro k hk
                exact Go.lvx 20 [] _ [tb ((decide (x14.2 = 0)) && ((x14.1 == a1) && bursarylaw04_sure))] Tryd.func13 hk rfl kr .nil (T.Le.of_eq rfl) rfl rfl .nil
              · intro hk J
                rcases Bool.eq_false_or_eq_true (decide (x14.2 = 0)) with gd17 | gd17
                · have gd17p := of_decide_eq_true gd17
                  rcases Bool.eq_false_or_eq_true (x14.1 == a1) with gd18 | gd18
                  · refine Go.rx 20 { ws := [(1, { v := some (tb true), er := some (149, x14.2) }), (4, { b := x14.1 }), (6, { b := a1 }), (7, { v := some (tb true) }), (10, { call := some { ids := [], S := [], M := [], R := tb bursarylaw04_sure, H' := [] } })] } [] [6] _ [(6, tb bursarylaw04_sure)] [] hk rfl kr (.cons (⟨rfl, rfl⟩ : (er 149 x14.2) = er 149 x14.2 ∧ (.leaf .nilIface : T) = .leaf .nilIface) (.cons (eb gd17) (.cons (rfl : u8s x14.1 = u8s x14.1) (.cons (rfl : u8s a1 = u8s a1) (.cons trivial (.cons ((s_eq x14.1 a1).trans (eb gd18)) (.cons (bursarylaw04_sure_m) (.cons (sb : subN (idsL []) [] = true) .nil)))))))) ?_
                    intro k' hk'
                    refine Go.slotEq 6 (tb ((decide (x14.2 = 0)) && ((x14.1 == a1) && bursarylaw04_sure))) rfl (eb (andT gd17 (andT gd18 rfl)).symm) ?_
                    exact J k' hk'
                  · refine Go.rx 20 { ws := [(1, { v := some (tb true), er := some (149, x14.2) }), (4, { b := x14.1 }), (6, { b := a1 }), (7, { v := some (tb false) })] } [] [6] _ [(6, tb false)] [] hk rfl kr (.cons (⟨rfl, rfl⟩ : (er 149 x14.2) = er 149 x14.2 ∧ (.leaf .nilIface : T) = .leaf .nilIface) (.cons (eb gd17) (.cons (rfl : u8s x14.1 = u8s x14.1) (.cons (rfl : u8s a1 = u8s a1) (.cons trivial (.cons ((s_eq x14.1 a1).trans (eb gd18)) .nil)))))) ?_
                    intro k' hk'
                    refine Go.slotEq 6 (tb ((decide (x14.2 = 0)) && ((x14.1 == a1) && bursarylaw04_sure))) rfl (eb (andT gd17 (andF gd18)).symm) ?_
                    exact J k' hk'
                · have gd17p := of_decide_eq_false gd17
                  refine Go.rx 20 { ws := [(1, { v := some (tb false), er := some (149, x14.2) })] } [] [6] _ [(6, tb false)] [] hk rfl kr (.cons (⟨rfl, rfl⟩ : (er 149 x14.2) = er 149 x14.2 ∧ (.leaf .nilIface : T) = .leaf .nilIface) (.cons (eb gd17) .nil)) ?_
                  intro k' hk'
                  refine Go.slotEq 6 (tb ((decide (x14.2 = 0)) && ((x14.1 == a1) && bursarylaw04_sure))) rfl (eb (andF gd17).symm) ?_
                  exact J k' hk'
      · intro hk J
        rcases Bool.eq_false_or_eq_true ((decide (x1.2 = 0)) != (decide (x2.2 = 0))) with gd2 | gd2
        · refine Go.dx 20 [0, 1, 2, 3, 4, 5, 6, 7, 8, 9, 10, 11, 12, 13] { ws := [(1, { er := some (149, x1.2) }), (3, { er := some (149, x2.2) }), (4, { v := some (tb true) })] } [] [1, 2, 3, 7, 8, 9, 56] _ [(1, .sl 1 .shr a1.length (u8s a1)), (2, ti a2), (3, .addr 10 0), (7, .sl 1 .shr x1.1.length (u8s x1.1)), (8, er 149 x1.2), (9, ts x2.1), (56, tb true)] [(10, [t8 a00, t32 a01, .sl 1 .shr a02.length (u8s a02)])] hk rfl kr (.cons (⟨rfl, rfl⟩ : (er 149 x1.2) = er 149 x1.2 ∧ (.leaf .nilIface : T) = .leaf .nilIface) (.cons (⟨rfl, rfl⟩ : (er 149 x2.2) = er 149 x2.2 ∧ (.leaf .nilIface : T) = .leaf .nilIface) (.cons (eb gd2) .nil))) ?_
          intro k' hk'
          refine Go.slotEq 56 (tb (((decide (x1.2 = 0)) != (decide (x2.2 = 0))) || (bif decide (x1.2 = 0) then (true != (decide (x2.2 = 0))) || ((x1.1.length : Int) == 0) else false != (decide (x2.2 = 0))))) rfl (eb (orT gd2).symm) ?_
          exact J k' hk'
        · rcases Bool.eq_false_or_eq_true (decide (x1.2 = 0)) with gd3 | gd3
          · have gd3p := of_decide_eq_true gd3
            rcases Bool.eq_false_or_eq_true (true != (decide (x2.2 = 0))) with gd4 | gd4
            · refine Go.dx 20 [0, 1, 2, 3, 4, 5, 6, 7, 8, 9, 10, 11, 12, 13] { ws := [(1, { v := some (tb true), er := some (149, x1.2) }), (3, { er := some (149, x2.2) }), (4, { v := some (tb true) })] } [] [1, 2, 3, 7, 8, 9, 56] _ [(1, .sl 1 .shr a1.length (u8s a1)), (2, ti a2), (3, .addr 10 0), (7, .sl 1 .shr x1.1.length (u8s x1.1)), (8, er 149 x1.2), (9, ts x2.1), (56, tb true)] [(10, [t8 a00, t32 a01, .sl 1 .shr a02.length (u8s a02)])] hk rfl kr (.cons (⟨rfl, rfl⟩ : (er 149 x1.2) = er 149 x1.2 ∧ (.leaf .nilIface : T) = .leaf .nilIface) (.cons (eb gd3) (.cons (⟨rfl, rfl⟩ : (er 149 x2.2) = er 149 x2.2 ∧ (.leaf .nilIface : T) = .leaf .nilIface) (.cons (eb gd4) .nil)))) ?_
              intro k' hk'
              refine Go.slotEq 56 (tb (((decide (x1.2 = 0)) != (decide (x2.2 = 0))) || (bif decide (x1.2 = 0) then (true != (decide (x2.2 = 0))) || ((x1.1.length : Int) == 0) else false != (decide (x2.2 = 0))))) rfl (eb (orF gd2 ((condT gd3).trans (orT gd4))).symm) ?_
              exact J k' hk'
            · refine Go.dx 20 [0, 1, 2, 3, 4, 5, 6, 7, 8, 9, 10, 11, 12, 13] { ws := [(1, { v := some (tb true), er := some (149, x1.2) }), (3, { er := some (149, x2.2) }), (4, { v := some (tb false) }), (7, { v := some (tb true), er := some (149, x1.2) })] } [] [1, 2, 3, 7, 8, 9, 56] _ [(1, .sl 1 .shr a1.length (u8s a1)), (2, ti a2), (3, .addr 10 0), (7, .sl 1 .shr x1.1.length (u8s x1.1)), (8, er 149 x1.2), (9, ts x2.1), (56, tb ((x1.1.length : Int) == 0))] [(10, [t8 a00, t32 a01, .sl 1 .shr a02.length (u8s a02)])] hk rfl kr (.cons (⟨rfl, rfl⟩ : (er 149 x1.2) = er 149 x1.2 ∧ (.leaf .nilIface : T) = .leaf .nilIface) (.cons (eb gd3) (.cons (⟨rfl, rfl⟩ : (er 149 x2.2) = er 149 x2.2 ∧ (.leaf .nilIface : T) = .leaf .nilIface) (.cons (eb gd4) (.cons (⟨rfl, rfl⟩ : (er 149 x1.2) = er 149 x1.2 ∧ (.leaf .nilIface : T) = .leaf .nilIface) (.cons (eb gd3) (.cons trivial .nil))))))) ?_
              intro k' hk'
              refine Go.slotEq 56 (tb (((decide (x1.2 = 0)) != (decide (x2.2 = 0))) || (bif decide (x1.2 = 0) then (true != (decide (x2.2 = 0))) || ((x1.1.length : Int) == 0) else false != (decide (x2.2 = 0))))) rfl (eb (orF gd2 ((condT gd3).trans (orF gd4 rfl))).symm) ?_
              exact J k' hk'
          · have gd3p := of_decide_eq_false gd3
            rcases Bool.eq_false_or_eq_true (false != (decide (x2.2 = 0))) with gd5 | gd5
            · refine Go.dx 20 [0, 1, 2, 3, 4, 5, 6, 7, 8, 9, 10, 11, 12, 13] { ws := [(1, { v := some (tb false), er := some (149, x1.2) }), (3, { er := some (149, x2.2) }), (4, { v := some (tb true) })] } [] [1, 2, 3, 7, 8, 9, 56] _ [(1, .sl 1 .shr a1.length (u8s a1)), (2, ti a2), (3, .addr 10 0), (7, .sl 1 .shr x1.1.length (u8s x1.1)), (8, er 149 x1.2), (9, ts x2.1), (56, tb true)] [(10, [t8 a00, t32 a01, .sl 1 .shr a02.length (u8s a02)])] hk rfl kr (.cons (⟨rfl, rfl⟩ : (er 149 x1.2) = er 149 x1.2 ∧ (.leaf .nilIface : T) = .leaf .nilIface) (.cons (eb gd3) (.cons (⟨rfl, rfl⟩ : (er 149 x2.2) = er 149 x2.2 ∧ (.leaf .nilIface : T) = .leaf .nilIface) (.cons (eb gd5) .nil)))) ?_
              intro k' hk'
              refine Go.slotEq 56 (tb (((decide (x1.2 = 0)) != (decide (x2.2 = 0))) || (bif decide (x1.2 = 0) then (true != (decide (x2.2 = 0))) || ((x1.1.length : Int) == 0) else false != (decide (x2.2 = 0))))) rfl (eb (orF gd2 ((condF gd3).trans gd5)).symm) ?_
              exact J k' hk'
            · refine Go.dx 20 [0, 1, 2, 3, 4, 5, 6, 7, 8, 9, 10, 11, 12, 13] { ws := [(1, { v := some (tb false), er := some (149, x1.2) }), (3, { er := some (149, x2.2) }), (4, { v := some (tb false) }), (7, { v := some (tb false), er := some (149, x1.2) })] } [] [1, 2, 3, 7, 8, 9, 56] _ [(1, .sl 1 .shr a1.length (u8s a1)), (2, ti a2), (3, .addr 10 0), (7, .sl 1 .shr x1.1.length (u8s x1.1)), (8, er 149 x1.2), (9, ts x2.1), (56, tb false)] [(10, [t8 a00, t32 a01, .sl 1 .shr a02.length (u8s a02)])] hk rfl kr (.cons (⟨rfl, rfl⟩ : (er 149 x1.2) = er 149 x1.2 ∧ (.leaf .nilIface : T) = .leaf .nilIface) (.cons (eb gd3) (.cons (⟨rfl, rfl⟩ : (er 149 x2.2) = er 149 x2.2 ∧ (.leaf .nilIface : T) = .leaf .nilIface) (.cons (eb gd5) (.cons (⟨rfl, rfl⟩ : (er 149 x1.2) = er 149 x1.2 ∧ (.leaf .nilIface : T) = .leaf .nilIface) (.cons (eb gd3) .nil)))))) ?_
              intro k' hk'
              refine Go.slotEq 56 (tb (((decide (x1.2 = 0)) != (decide (x2.2 = 0))) || (bif decide (x1.2 = 0) then (true != (decide (x2.2 = 0))) || ((x1.1.length : Int) == 0) else false != (decide (x2.2 = 0))))) rfl (eb (orF gd2 ((condF gd3).trans gd5)).symm) ?_
              exact J k' hk'
  · intro hk J
    rcases Bool.eq_false_or_eq_true (decide ((a02.length : Int) > 300)) with gd1 | gd1
    · have gd1p := of_decide_eq_true gd1
      refine Go.rx 20 { ws := [(3, { v := some (tb true) })] } [] [1, 2, 3, 31] _ [(1, .sl 1 .shr a1.length (u8s a1)), (2, ti a2), (3, .addr 10 0), (31, tb true)] [(10, [t8 a00, t32 a01, .sl 1 .shr a02.length (u8s a02)])] hk rfl kr (.cons trivial (.cons (eb gd1) .nil)) ?_
      intro k' hk'
      refine Go.slotEq 31 (tb ((decide ((a02.length : Int) > 300)) || (decide ((a1.length : Int) > 1000)))) rfl (eb (orT gd1).symm) ?_
      exact J k' hk'
    · have gd1p := of_decide_eq_false gd1
      refine Go.rx 20 { ws := [(3, { v := some (tb false) })] } [] [1, 2, 3, 31] _ [(1, .sl 1 .shr a1.length (u8s a1)), (2, ti a2), (3, .addr 10 0), (31, tb (decide ((a1.length : Int) > 1000)))] [(10, [t8 a00, t32 a01, .sl 1 .shr a02.length (u8s a02)])] hk rfl kr (.cons trivial (.cons (eb gd1) (.cons trivial .nil))) ?_
      intro k' hk'
      refine Go.slotEq 31 (tb ((decide ((a02.length : Int) > 300)) || (decide ((a1.length : Int) > 1000)))) rfl (eb (orF gd1 rfl).symm) ?_
      exact J k' hk'
attribute [irreducible] bursarylaw04_SharecodeBack
end Go.Proofs.YtbppcnhfeobefaaDoor

import Derived.Test.YtbppcnhfeobefaaDoorPE1
set_option linter.unusedVariables false
set_option linter.unusedSimpArgs false
namespace Go.Proofs.YtbppcnhfeobefaaDoor
open Go Go.Vw Go.Proofs
theorem qg1b_1 {p : Prop} (h : p := by first | rfl | (simp only [engine_Put_enc, T.ids, idsL, er_ids, List.append_nil, List.nil_append]; first | rfl | (rw [mp_ids _ (fun _ => rfl)]; rfl))) : p := h
theorem qg1b_2 {p : Prop} (h : p := by rw [fl_len (m := 4) (fun _ => rfl)]; omega) : p := h
noncomputable def engine_New (most : Int) : ((List (UInt32 × List UInt8 × UInt64 × Int)) × UInt32 × Int) × Int :=
  bnd (engine_Check [] 0 most) fun x1 =>
  bif !(decide (x1 = 0)) then
    (([], 0, 0), x1)
  else
    (([], 0, most), 0)
def engine_New_enc (x : ((List (UInt32 × List UInt8 × UInt64 × Int)) × UInt32 × Int) × Int) : T × List (Nat × List T) := (.tup [.agg ([.sl 4 .shr x.1.1.length (fl (fun c : UInt32 × List UInt8 × UInt64 × Int => [t32 c.1, .sl 1 .shr c.2.1.length (u8s c.2.1), t64 c.2.2.1, ti c.2.2.2]) x.1.1), t32 x.1.2.1, ti x.1.2.2]), er 149 x.2], [])
theorem engine_New_m (most : Int) : Meets Tryd.prog 49 [ti most] [] [] (.tup [.agg ([.sl 4 .shr (((engine_New most).1).1).length (fl (fun c : UInt32 × List UInt8 × UInt64 × Int => [t32 c.1, .sl 1 .shr c.2.1.length (u8s c.2.1), t64 c.2.2.1, ti c.2.2.2]) (((engine_New most).1).1)), t32 (((engine_New most).1).2.1), ti (((engine_New most).1).2.2)]), er 149 ((engine_New most).2)]) [] := by
  refine Meets.enterX (E := E) (N := 15) (enc := engine_New_enc) (x := (engine_New most)) Tryd.func49 Tryd.call49 rfl rfl ?_
  intro Γ k hk
  refine Go.rx 20 { ws := [(0, { id := 10 })] } [] [0, 2] _ [(0, ti most), (2, .addr 10 0)] [(10, [.leaf (.slice none 0 0), t32 0, ti 0])] hk rfl kr .nil ?_
  clear hk; intro k hk
  refine Go.rx 20 { ws := [(2, { id := 11 })] } [] [2, 4] _ [(2, .addr 10 0), (4, .addr 11 0)] [(10, [.leaf (.slice none 0 0), t32 0, ti 0]), (11, [.leaf (.slice none 0 0), t32 0, ti most])] hk rfl kr .nil ?_
  clear hk; intro k hk
  refine Go.rx 20 { ws := [(1, { call := some { ids := [], S := [], M := [], R := er 149 (engine_Check [] 0 most), H' := [] } })] } [] [2, 4, 5] _ [(2, .addr 10 0), (4, .addr 11 0), (5, er 149 (engine_Check [] 0 most))] [(10, [.leaf (.slice none 0 0), t32 0, ti 0]), (11, [.leaf (.slice none 0 0), t32 0, ti most])] hk rfl kr (.cons (Meets.leA (A := [.agg [.leaf (.slice none 0 0), t32 0, ti most]]) (engine_Check_m (g_a00 := .shr) [] 0 most) (.cons (T.Le.agg (.cons (T.Le.nil _ _) (.cons (T.Le.refl _) (.cons (T.Le.refl _) .nil)))) .nil)) (.cons (sb : subN (idsL [.agg [.leaf (.slice none 0 0), t32 0, ti most]]) [] = true) .nil)) ?_
  clear hk; intro k hk
  refine Go.bnd (Pf := (PostX Γ engine_New_enc)) (v := (engine_Check [] 0 most)) (fun x1 => [(2, .addr 10 0), (4, .addr 11 0), (5, er 149 x1)]) (fun x1 => [(10, [.leaf (.slice none 0 0), t32 0, ti 0]), (11, [.leaf (.slice none 0 0), t32 0, ti most])]) ?_
  intro x1 hx1
  have fx1 := check_fact [] 0 most
  rw [← hx1] at fx1
  obtain ⟨fx10, fx11⟩ := fx1
  refine Go.rx 20 { ws := [(1, { er := some (149, x1) })] } [] [2, 4, 5, 11] _ [(2, .addr 10 0), (4, .addr 11 0), (5, er 149 x1), (11, tb (!(decide (x1 = 0))))] [(10, [.leaf (.slice none 0 0), t32 0, ti 0]), (11, [.leaf (.slice none 0 0), t32 0, ti most])] hk rfl kr (.cons (⟨rfl, rfl⟩ : (er 149 x1) = er 149 x1 ∧ (.leaf .nilIface : T) = .leaf .nilIface) .nil) ?_
  clear hk; intro k hk
  refine Go.br 20 (Pf := (PostX Γ engine_New_enc)) hk rfl rfl ?_ ?_ <;> clear hk <;> intro ct1 k hk
  · have ct1' : (decide (x1 = 0)) = false := ntT ct1
    have ct1'p := of_decide_eq_false ct1'
    refine Go.rx 20 { ps := [3, 5, 13] } [11] [2, 3] _ [(2, .addr 10 0), (3, er 149 x1)] [(10, [.leaf (.slice none 0 0), t32 0, ti 0])] hk rfl kr (.cons (er_mem (i := 11) 149 x1) (.cons (er_mem (i := 11) 149 x1) (.cons (er_mem (i := 11) 149 x1) .nil))) ?_
    clear hk; intro k hk
    exact Go.lvx 20 [] _ [.agg [.leaf (.slice none 0 0), t32 0, ti 0], er 149 x1] Tryd.func49 hk rfl kr (.cons (by decide : 0 + 3 ≤ 3) .nil) (T.Le.tup (.cons (T.Le.agg (.cons (T.Le.nil _ _) (.cons (T.Le.of_eq rfl) (.cons (T.Le.of_eq rfl) .nil)))) (.cons (T.Le.of_eq rfl) .nil))) rfl (by first | rfl | (simp only [engine_New_enc, T.ids, idsL, er_ids, List.append_nil, List.nil_append]; first | rfl | (rw [mp_ids _ (fun _ => rfl)]; rfl))) .nil
  · have ct1' : (decide (x1 = 0)) = true := ntF ct1
    have ct1'p := of_decide_eq_true ct1'
    refine Go.rx 20 { ps := [5] } [11] [2, 3] _ [(2, .addr 10 0), (3, .leaf .nilIface)] [(10, [.leaf (.slice none 0 0), t32 0, ti most])] hk rfl kr (.cons (er_mem (i := 11) 149 x1) .nil) ?_
    clear hk; intro k hk
    exact Go.lvx 20 [] _ [.agg [.leaf (.slice none 0 0), t32 0, ti most], .leaf .nilIface] Tryd.func49 hk rfl kr (.cons (by decide : 0 + 3 ≤ 3) .nil) (T.Le.tup (.cons (T.Le.agg (.cons (T.Le.nil _ _) (.cons (T.Le.of_eq rfl) (.cons (T.Le.of_eq rfl) .nil)))) (.cons (T.Le.of_eq rfl) .nil))) rfl rfl .nil
attribute [irreducible] engine_New
noncomputable def engine_Put (a00 : List (UInt32 × List UInt8 × UInt64 × Int)) (a01 : UInt32) (a02 : Int) (a1 : List UInt8) (a2 : Int) (a3 : UInt64) : ((List (UInt32 × List UInt8 × UInt64 × Int)) × UInt32 × Int) × Int :=
  bnd (engine_Check a00 a01 a02) fun x1 =>
  bif (!(decide (x1 = 0))) || (decide ((a1.length : Int) > 100)) then
    (([], 0, 0), 1)
  else
    bif (decide (a2 ≥ 0)) && ((u64i a2) != a01.toUInt64) then
      (([], 0, 0), 20)
    else
      bif a01 == 4294967295 then
        (([], 0, 0), 19)
      else
        bnd (engine_copied a00 a01 a02) fun x2 =>
        bnd (id a1) fun x3 =>
        bif decide (((x2.1 ++ [(x2.2.1 + 1, x3, a3, 0)]).length : Int) > x2.2.2) then
          bnd (dlt (x2.1 ++ [(x2.2.1 + 1, x3, a3, 0)]) 0 1) fun x4 =>
          ((x4, x2.2.1 + 1, x2.2.2), 0)
        else
          ((x2.1 ++ [(x2.2.1 + 1, x3, a3, 0)], x2.2.1 + 1, x2.2.2), 0)
def engine_Put_enc (x : ((List (UInt32 × List UInt8 × UInt64 × Int)) × UInt32 × Int) × Int) : T × List (Nat × List T) := (.tup [.agg ([.sl 4 .shr x.1.1.length (fl (fun c : UInt32 × List UInt8 × UInt64 × Int => [t32 c.1, .sl 1 .shr c.2.1.length (u8s c.2.1), t64 c.2.2.1, ti c.2.2.2]) x.1.1), t32 x.1.2.1, ti x.1.2.2]), er 149 x.2], [])
theorem engine_Put_m (a00 : List (UInt32 × List UInt8 × UInt64 × Int)) (a01 : UInt32) (a02 : Int) (a1 : List UInt8) (a2 : Int) (a3 : UInt64) : Meets Tryd.prog 40 [.agg ([.sl 4 .shr a00.length (fl (fun c : UInt32 × List UInt8 × UInt64 × Int => [t32 c.1, .sl 1 .shr c.2.1.length (u8s c.2.1), t64 c.2.2.1, ti c.2.2.2]) a00), t32 a01, ti a02]), .sl 1 .shr a1.length (u8s a1), ti a2, t64 a3] [] [] (.tup [.agg ([.sl 4 .shr (((engine_Put a00 a01 a02 a1 a2 a3).1).1).length (fl (fun c : UInt32 × List UInt8 × UInt64 × Int => [t32 c.1, .sl 1 .shr c.2.1.length (u8s c.2.1), t64 c.2.2.1, ti c.2.2.2]) (((engine_Put a00 a01 a02 a1 a2 a3).1).1)), t32 (((engine_Put a00 a01 a02 a1 a2 a3).1).2.1), ti (((engine_Put a00 a01 a02 a1 a2 a3).1).2.2)]), er 149 ((engine_Put a00 a01 a02 a1 a2 a3).2)]) [] := by
  refine Meets.enterX (E := E) (N := 69) (enc := engine_Put_enc) (x := (engine_Put a00 a01 a02 a1 a2 a3)) Tryd.func40 Tryd.call40 rfl rfl ?_
  intro Γ k hk
  refine Go.rx 20 { ws := [(0, { id := 10 }), (1, { id := 11 })] } [] [1, 2, 3, 4, 8] _ [(1, .sl 1 .shr a1.length (u8s a1)), (2, ti a2), (3, t64 a3), (4, .addr 10 0), (8, .addr 11 0)] [(10, [.sl 4 .shr a00.length (fl (fun c : UInt32 × List UInt8 × UInt64 × Int => [t32 c.1, .sl 1 .shr c.2.1.length (u8s c.2.1), t64 c.2.2.1, ti c.2.2.2]) a00), t32 a01, ti a02]), (11, [.leaf (.slice none 0 0), t32 0, ti 0])] hk rfl kr .nil ?_
  clear hk; intro k hk
  refine Go.regJ 20 [(1, .sl 1 .shr a1.length (u8s a1)), (2, ti a2), (3, t64 a3), (4, .addr 10 0), (8, .addr 11 0), (11, tb ((!(decide ((engine_Check a00 a01 a02) = 0))) || (decide ((a1.length : Int) > 100))))] [(10, [.sl 4 .shr a00.length (fl (fun c : UInt32 × List UInt8 × UInt64 × Int => [t32 c.1, .sl 1 .shr c.2.1.length (u8s c.2.1), t64 c.2.2.1, ti c.2.2.2]) a00), t32 a01, ti a02]), (11, [.leaf (.slice none 0 0), t32 0, ti 0])] hk rfl ?_ ?_
  · clear hk; intro k hk
    refine Go.bnd (Pf := (PostX Γ engine_Put_enc)) (v := (engine_Check a00 a01 a02)) (fun x1 => [(1, .sl 1 .shr a1.length (u8s a1)), (2, ti a2), (3, t64 a3), (4, .addr 10 0), (8, .addr 11 0), (11, tb ((!(decide (x1 = 0))) || (decide ((a1.length : Int) > 100))))]) (fun x1 => [(10, [.sl 4 .shr a00.length (fl (fun c : UInt32 × List UInt8 × UInt64 × Int => [t32 c.1, .sl 1 .shr c.2.1.length (u8s c.2.1), t64 c.2.2.1, ti c.2.2.2]) a00), t32 a01, ti a02]), (11, [.leaf (.slice none 0 0), t32 0, ti 0])]) ?_
    intro x1 hx1
    have fx1 := check_fact a00 a01 a02
    rw [← hx1] at fx1
    obtain ⟨fx10, fx11⟩ := fx1
    refine Go.br 20 (Pf := (PostX Γ engine_Put_enc)) hk rfl rfl ?_ ?_ <;> clear hk <;> intro ct1 k hk
    · refine Go.rx 20 { ps := [9, 21] } [10] [8, 9] _ [(8, .addr 11 0), (9, er 149 1)] [(11, [.leaf (.slice none 0 0), t32 0, ti 0])] hk rfl kr (.cons (er_mem (i := 10) 149 1) (.cons (er_mem (i := 10) 149 1) .nil)) ?_
      clear hk; intro k hk
      exact Go.lvx 20 [] _ [.agg [.leaf (.slice none 0 0), t32 0, ti 0], er 149 1] Tryd.func40 hk rfl kr (.cons (by decide : 0 + 3 ≤ 3) .nil) (T.Le.tup (.cons (T.Le.agg (.cons (T.Le.nil _ _) (.cons (T.Le.of_eq rfl) (.cons (T.Le.of_eq rfl) .nil)))) (.cons (T.Le.of_eq rfl) .nil))) rfl qg1b_1 .nil
    · have ct11 : (!(decide (x1 = 0))) = false := (Bool.or_eq_false_iff.1 ct1).1
      have ct12 : (decide ((a1.length : Int) > 100)) = false := (Bool.or_eq_false_iff.1 ct1).2
      have ct11' : (decide (x1 = 0)) = true := ntF ct11
      have ct11'p := of_decide_eq_true ct11'
      have ct12p := of_decide_eq_false ct12
      refine Go.regJ 20 [(1, .sl 1 .shr a1.length (u8s a1)), (3, t64 a3), (4, .addr 10 0), (8, .addr 11 0), (22, tb ((decide (a2 ≥ 0)) && ((u64i a2) != a01.toUInt64)))] [(10, [.sl 4 .shr a00.length (fl (fun c : UInt32 × List UInt8 × UInt64 × Int => [t32 c.1, .sl 1 .shr c.2.1.length (u8s c.2.1), t64 c.2.2.1, ti c.2.2.2]) a00), t32 a01, ti a02]), (11, [.leaf (.slice none 0 0), t32 0, ti 0])] hk rfl ?_ ?_
      · clear hk; intro k hk
        refine Go.br 20 (Pf := (PostX Γ engine_Put_enc)) hk rfl rfl ?_ ?_ <;> clear hk <;> intro ct2 k hk
        · have ct21 : (decide (a2 ≥ 0)) = true := (Bool.and_eq_true_iff.1 ct2).1
          have ct22 : ((u64i a2) != a01.toUInt64) = true := (Bool.and_eq_true_iff.1 ct2).2
          have ct21p := of_decide_eq_true ct21
          refine Go.rx 20 { ps := [9, 34] } [10] [8, 9] _ [(8, .addr 11 0), (9, er 149 20)] [(11, [.leaf (.slice none 0 0), t32 0, ti 0])] hk rfl kr (.cons (er_mem (i := 10) 149 20) (.cons (er_mem (i := 10) 149 20) .nil)) ?_
          clear hk; intro k hk
          exact Go.lvx 20 [] _ [.agg [.leaf (.slice none 0 0), t32 0, ti 0], er 149 20] Tryd.func40 hk rfl kr (.cons (by decide : 0 + 3 ≤ 3) .nil) (T.Le.tup (.cons (T.Le.agg (.cons (T.Le.nil _ _) (.cons (T.Le.of_eq rfl) (.cons (T.Le.of_eq rfl) .nil)))) (.cons (T.Le.of_eq rfl) .nil))) rfl qg1b_1 .nil
        · refine Go.rx 20 { ws := [(2, { v := some (tb (a01 == 4294967295)) })] } [] [1, 3, 4, 8, 35] _ [(1, .sl 1 .shr a1.length (u8s a1)), (3, t64 a3), (4, .addr 10 0), (8, .addr 11 0), (35, tb (a01 == 4294967295))] [(10, [.sl 4 .shr a00.length (fl (fun c : UInt32 × List UInt8 × UInt64 × Int => [t32 c.1, .sl 1 .shr c.2.1.length (u8s c.2.1), t64 c.2.2.1, ti c.2.2.2]) a00), t32 a01, ti a02]), (11, [.leaf (.slice none 0 0), t32 0, ti 0])] hk rfl kr (.cons trivial (.cons (eqB32 a01 4294967295) .nil)) ?_
          clear hk; intro k hk
          refine Go.br 20 (Pf := (PostX Γ engine_Put_enc)) hk rfl rfl ?_ ?_ <;> clear hk <;> intro ct3 k hk
          · refine Go.rx 20 { ps := [9, 40] } [10] [8, 9] _ [(8, .addr 11 0), (9, er 149 19)] [(11, [.leaf (.slice none 0 0), t32 0, ti 0])] hk rfl kr (.cons (er_mem (i := 10) 149 19) (.cons (er_mem (i := 10) 149 19) .nil)) ?_
            clear hk; intro k hk
            exact Go.lvx 20 [] _ [.agg [.leaf (.slice none 0 0), t32 0, ti 0], er 149 19] Tryd.func40 hk rfl kr (.cons (by decide : 0 + 3 ≤ 3) .nil) (T.Le.tup (.cons (T.Le.agg (.cons (T.Le.nil _ _) (.cons (T.Le.of_eq rfl) (.cons (T.Le.of_eq rfl) .nil)))) (.cons (T.Le.of_eq rfl) .nil))) rfl qg1b_1 .nil
          · refine Go.rx 20 { ws := [(1, { call := some { ids := [], S := [], M := [], R := .agg [.ref 12 4 0 (((engine_copied a00 a01 a02).1).length), t32 ((engine_copied a00 a01 a02).2.1), ti ((engine_copied a00 a01 a02).2.2)], H' := [(12, fl (fun c : UInt32 × List UInt8 × UInt64 × Int => [t32 c.1, .sl 1 .shr c.2.1.length (u8s c.2.1), t64 c.2.2.1, ti c.2.2.2]) ((engine_copied a00 a01 a02).1))] } }), (2, { id := 13 })], pg := [12] } [10] [1, 3, 8, 10] _ [(1, .sl 1 .shr a1.length (u8s a1)), (3, t64 a3), (8, .addr 11 0), (10, .addr 13 0)] [(11, [.leaf (.slice none 0 0), t32 0, ti 0]), (12, fl (fun c : UInt32 × List UInt8 × UInt64 × Int => [t32 c.1, .sl 1 .shr c.2.1.length (u8s c.2.1), t64 c.2.2.1, ti c.2.2.2]) ((engine_copied a00 a01 a02).1)), (13, [.ref 12 4 0 (((engine_copied a00 a01 a02).1).length), t32 ((engine_copied a00 a01 a02).2.1), ti ((engine_copied a00 a01 a02).2.2)])] hk rfl kr (.cons (Meets.sw [(99, 12)] (engine_copied_m a00 a01 a02 (by exact small_of (fx11 (by assumption)))) : Meets Tryd.prog 97 [.agg ([.sl 4 .shr a00.length (fl (fun c : UInt32 × List UInt8 × UInt64 × Int => [t32 c.1, .sl 1 .shr c.2.1.length (u8s c.2.1), t64 c.2.2.1, ti c.2.2.2]) a00), t32 a01, ti a02])] [] [] (.agg [.ref 12 4 0 (((engine_copied a00 a01 a02).1).length), t32 ((engine_copied a00 a01 a02).2.1), ti ((engine_copied a00 a01 a02).2.2)]) [(12, fl (fun c : UInt32 × List UInt8 × UInt64 × Int => [t32 c.1, .sl 1 .shr c.2.1.length (u8s c.2.1), t64 c.2.2.1, ti c.2.2.2]) ((engine_copied a00 a01 a02).1))]) (.cons (sb : subN (idsL [.agg ([.sl 4 .shr a00.length (fl (fun c : UInt32 × List UInt8 × UInt64 × Int => [t32 c.1, .sl 1 .shr c.2.1.length (u8s c.2.1), t64 c.2.2.1, ti c.2.2.2]) a00), t32 a01, ti a02])]) [] = true) (.cons (fl_mem (i := 10) (g := (fun c : UInt32 × List UInt8 × UInt64 × Int => [t32 c.1, .sl 1 .shr c.2.1.length (u8s c.2.1), t64 c.2.2.1, ti c.2.2.2])) ((engine_copied a00 a01 a02).1) (fun _ => rfl)) .nil))) ?_
            clear hk; intro k hk
            refine Go.bnd (Pf := (PostX Γ engine_Put_enc)) (v := (engine_copied a00 a01 a02)) (fun x2 => [(1, .sl 1 .shr a1.length (u8s a1)), (3, t64 a3), (8, .addr 11 0), (10, .addr 13 0)]) (fun x2 => [(11, [.leaf (.slice none 0 0), t32 0, ti 0]), (12, fl (fun c : UInt32 × List UInt8 × UInt64 × Int => [t32 c.1, .sl 1 .shr c.2.1.length (u8s c.2.1), t64 c.2.2.1, ti c.2.2.2]) x2.1), (13, [.ref 12 4 0 ((x2.1).length), t32 x2.2.1, ti x2.2.2])]) ?_
            intro x2 hx2
            have fx2 := copied_fact a00 a01 a02
            rw [← hx2] at fx2
            obtain ⟨fx20, fx21⟩ := fx2
            refine Go.rx 20 { ws := [(2, { v := some (t32 (x2.2.1 + 1)) })] } [] [1, 3, 8, 10] _ [(1, .sl 1 .shr a1.length (u8s a1)), (3, t64 a3), (8, .addr 11 0), (10, .addr 13 0)] [(11, [.leaf (.slice none 0 0), t32 0, ti 0]), (12, fl (fun c : UInt32 × List UInt8 × UInt64 × Int => [t32 c.1, .sl 1 .shr c.2.1.length (u8s c.2.1), t64 c.2.2.1, ti c.2.2.2]) x2.1), (13, [.ref 12 4 0 ((x2.1).length), t32 (x2.2.1 + 1), ti x2.2.2])] hk rfl kr (.cons trivial (.cons (add32 x2.2.1 1) .nil)) ?_
            clear hk; intro k hk
            refine Go.dx 20 [0, 1, 2, 3, 4, 5, 6, 7, 8, 9, 10, 11] { ws := [(5, { call := some { ids := [], S := [], M := [], R := .sl 1 .shr (id a1).length (u8s (id a1)), H' := [] } }), (8, { id := 14 }), (9, { v := some (.ref 12 4 0 ((x2.1 ++ [(x2.2.1 + 1, (id a1), a3, 0)]).length)), c := some (fl (fun c : UInt32 × List UInt8 × UInt64 × Int => [t32 c.1, .sl 1 .shr c.2.1.length (u8s c.2.1), t64 c.2.2.1, ti c.2.2.2]) (x2.1 ++ [(x2.2.1 + 1, (id a1), a3, 0)])), id := 12, sym := true })], pg := [12], fd := some [12] } [14] [8, 10] _ [(8, .addr 11 0), (10, .addr 13 0)] [(11, [.leaf (.slice none 0 0), t32 0, ti 0]), (13, [.ref 12 4 0 ((x2.1 ++ [(x2.2.1 + 1, (id a1), a3, 0)]).length), t32 (x2.2.1 + 1), ti x2.2.2]), (12, fl (fun c : UInt32 × List UInt8 × UInt64 × Int => [t32 c.1, .sl 1 .shr c.2.1.length (u8s c.2.1), t64 c.2.2.1, ti c.2.2.2]) (x2.1 ++ [(x2.2.1 + 1, (id a1), a3, 0)]))] hk rfl kr (.cons (Meets.sw [] (clone_m (g_s := .shr) a1 om) : Meets Tryd.prog 85 [.sl 1 .shr a1.length (u8s a1)] [] [] (.sl 1 .shr (id a1).length (u8s (id a1))) []) (.cons (sb : subN (idsL [.sl 1 .shr a1.length (u8s a1)]) [] = true) (.cons (Nat.le_of_ble_eq_true rfl : 0 + 1 * 4 ≤ ([t32 (x2.2.1 + 1), .sl 1 .shr (id a1).length (u8s (id a1)), t64 a3, ti 0] : List T).length) (.cons (qg1b_2 : 0 + (x2.1).length * 4 ≤ (fl (fun c : UInt32 × List UInt8 × UInt64 × Int => [t32 c.1, .sl 1 .shr c.2.1.length (u8s c.2.1), t64 c.2.2.1, ti c.2.2.2]) x2.1).length) (.cons (rfl : scalL [t32 (x2.2.1 + 1), .sl 1 .shr (id a1).length (u8s (id a1)), t64 a3, ti 0] = true) (.cons (om : ((x2.1).length + 1) * 48 ≤ 140737488355328) (.cons (fl_app' (g := (fun c : UInt32 × List UInt8 × UInt64 × Int => [t32 c.1, .sl 1 .shr c.2.1.length (u8s c.2.1), t64 c.2.2.1, ti c.2.2.2])) (m := 4) (k := (x2.1).length) (fun _ => rfl) x2.1 [(x2.2.1 + 1, (id a1), a3, 0)] rfl rfl) (.cons (fl_mem (i := 12) (g := (fun c : UInt32 × List UInt8 × UInt64 × Int => [t32 c.1, .sl 1 .shr c.2.1.length (u8s c.2.1), t64 c.2.2.1, ti c.2.2.2])) (x2.1 ++ [(x2.2.1 + 1, (id a1), a3, 0)]) (fun _ => rfl)) (.cons (by first | rfl | (simp; done) | (refine congrArg (fun q => T.ref 12 4 0 q) ?_; simp <;> omega) : T.ref 12 4 0 ((x2.1).length + 1) = .ref 12 4 0 ((x2.1 ++ [(x2.2.1 + 1, (id a1), a3, 0)]).length)) (.cons (fl_mem (i := 14) (g := (fun c : UInt32 × List UInt8 × UInt64 × Int => [t32 c.1, .sl 1 .shr c.2.1.length (u8s c.2.1), t64 c.2.2.1, ti c.2.2.2])) (x2.1 ++ [(x2.2.1 + 1, (id a1), a3, 0)]) (fun _ => rfl)) .nil)))))))))) ?_
            clear hk; intro k hk
            refine Go.bnd (Pf := (PostX Γ engine_Put_enc)) (v := (id a1)) (fun x3 => [(8, .addr 11 0), (10, .addr 13 0)]) (fun x3 => [(11, [.leaf (.slice none 0 0), t32 0, ti 0]), (13, [.ref 12 4 0 ((x2.1 ++ [(x2.2.1 + 1, x3, a3, 0)]).length), t32 (x2.2.1 + 1), ti x2.2.2]), (12, fl (fun c : UInt32 × List UInt8 × UInt64 × Int => [t32 c.1, .sl 1 .shr c.2.1.length (u8s c.2.1), t64 c.2.2.1, ti c.2.2.2]) (x2.1 ++ [(x2.2.1 + 1, x3, a3, 0)]))]) ?_
            intro x3 hx3
            have gx3 : x3 = a1 := hx3
            refine Go.rx 20 {} [] [8, 10, 63] _ [(8, .addr 11 0), (10, .addr 13 0), (63, tb (decide (((x2.1 ++ [(x2.2.1 + 1, x3, a3, 0)]).length : Int) > x2.2.2)))] [(11, [.leaf (.slice none 0 0), t32 0, ti 0]), (13, [.ref 12 4 0 ((x2.1 ++ [(x2.2.1 + 1, x3, a3, 0)]).length), t32 (x2.2.1 + 1), ti x2.2.2]), (12, fl (fun c : UInt32 × List UInt8 × UInt64 × Int => [t32 c.1, .sl 1 .shr c.2.1.length (u8s c.2.1), t64 c.2.2.1, ti c.2.2.2]) (x2.1 ++ [(x2.2.1 + 1, x3, a3, 0)]))] hk rfl kr (.cons trivial .nil) ?_
            clear hk; intro k hk
            refine Go.br 20 (Pf := (PostX Γ engine_Put_enc)) hk rfl rfl ?_ ?_ <;> clear hk <;> intro ct4 k hk
            · have ct4p := of_decide_eq_true ct4
              refine Go.rx 20 { ws := [(2, { call := some { ids := [12], S := [12], M := [], R := .ref 12 4 0 ((dlt (x2.1 ++ [(x2.2.1 + 1, x3, a3, 0)]) 0 1).length), H' := [(12, fl (fun c : UInt32 × List UInt8 × UInt64 × Int => [t32 c.1, .sl 1 .shr c.2.1.length (u8s c.2.1), t64 c.2.2.1, ti c.2.2.2]) (dlt (x2.1 ++ [(x2.2.1 + 1, x3, a3, 0)]) 0 1))] } })] } [] [8, 10] _ [(8, .addr 11 0), (10, .addr 13 0)] [(11, [.leaf (.slice none 0 0), t32 0, ti 0]), (13, [.ref 12 4 0 ((dlt (x2.1 ++ [(x2.2.1 + 1, x3, a3, 0)]) 0 1).length), t32 (x2.2.1 + 1), ti x2.2.2]), (12, fl (fun c : UInt32 × List UInt8 × UInt64 × Int => [t32 c.1, .sl 1 .shr c.2.1.length (u8s c.2.1), t64 c.2.2.1, ti c.2.2.2]) (dlt (x2.1 ++ [(x2.2.1 + 1, x3, a3, 0)]) 0 1))] hk rfl kr (.cons (Meets.sw [(0, 12)] (del_m (x2.1 ++ [(x2.2.1 + 1, x3, a3, 0)]) 0 1 (by refine ⟨by decide, by decide, ?_⟩; rw [List.length_append]; simp; omega)) : Meets Tryd.prog 98 [.ref 12 4 0 ((x2.1 ++ [(x2.2.1 + 1, x3, a3, 0)]).length), ti 0, ti 1] [(12, fl (fun c : UInt32 × List UInt8 × UInt64 × Int => [t32 c.1, .sl 1 .shr c.2.1.length (u8s c.2.1), t64 c.2.2.1, ti c.2.2.2]) (x2.1 ++ [(x2.2.1 + 1, x3, a3, 0)]))] [12] (.ref 12 4 0 ((dlt (x2.1 ++ [(x2.2.1 + 1, x3, a3, 0)]) 0 1).length)) [(12, fl (fun c : UInt32 × List UInt8 × UInt64 × Int => [t32 c.1, .sl 1 .shr c.2.1.length (u8s c.2.1), t64 c.2.2.1, ti c.2.2.2]) (dlt (x2.1 ++ [(x2.2.1 + 1, x3, a3, 0)]) 0 1))]) (.cons (sb : subN (idsL [.ref 12 4 0 ((x2.1 ++ [(x2.2.1 + 1, x3, a3, 0)]).length), ti 0, ti 1]) [12] = true) (.cons (by rw [(fl_ids (g := (fun c : UInt32 × List UInt8 × UInt64 × Int => [t32 c.1, .sl 1 .shr c.2.1.length (u8s c.2.1), t64 c.2.2.1, ti c.2.2.2])) (fun _ => rfl) (x2.1 ++ [(x2.2.1 + 1, x3, a3, 0)]))]; rfl : subN (idsL (fl (fun c : UInt32 × List UInt8 × UInt64 × Int => [t32 c.1, .sl 1 .shr c.2.1.length (u8s c.2.1), t64 c.2.2.1, ti c.2.2.2]) (x2.1 ++ [(x2.2.1 + 1, x3, a3, 0)]))) [12] = true) .nil))) ?_
              clear hk; intro k hk
              refine Go.bnd (Pf := (PostX Γ engine_Put_enc)) (v := (dlt (x2.1 ++ [(x2.2.1 + 1, x3, a3, 0)]) 0 1)) (fun x4 => [(8, .addr 11 0), (10, .addr 13 0)]) (fun x4 => [(11, [.leaf (.slice none 0 0), t32 0, ti 0]), (13, [.ref 12 4 0 x4.length, t32 (x2.2.1 + 1), ti x2.2.2]), (12, fl (fun c : UInt32 × List UInt8 × UInt64 × Int => [t32 c.1, .sl 1 .shr c.2.1.length (u8s c.2.1), t64 c.2.2.1, ti c.2.2.2]) x4)]) ?_
              intro x4 hx4
              have fx4 : x4.length = min (0 : Int).toNat (x2.1 ++ [(x2.2.1 + 1, x3, a3, 0)]).length + ((x2.1 ++ [(x2.2.1 + 1, x3, a3, 0)]).length - (1 : Int).toNat) := by rw [hx4]; exact dlt_len (x2.1 ++ [(x2.2.1 + 1, x3, a3, 0)]) 0 1
              refine Go.frzC [] [] 13 0 12 (fl (fun c : UInt32 × List UInt8 × UInt64 × Int => [t32 c.1, .sl 1 .shr c.2.1.length (u8s c.2.1), t64 c.2.2.1, ti c.2.2.2]) x4) ([.sl 4 .shr x4.length (fl (fun c : UInt32 × List UInt8 × UInt64 × Int => [t32 c.1, .sl 1 .shr c.2.1.length (u8s c.2.1), t64 c.2.2.1, ti c.2.2.2]) x4), t32 (x2.2.1 + 1), ti x2.2.2]) _ [(8, .addr 11 0), (10, .addr 13 0)] [(11, [.leaf (.slice none 0 0), t32 0, ti 0]), (13, [.dead, t32 (x2.2.1 + 1), ti x2.2.2])] rfl rfl rfl rfl (fl_ids (g := (fun c : UInt32 × List UInt8 × UInt64 × Int => [t32 c.1, .sl 1 .shr c.2.1.length (u8s c.2.1), t64 c.2.2.1, ti c.2.2.2])) (fun _ => rfl) x4) qg1b_2 (fl_all (g := (fun c : UInt32 × List UInt8 × UInt64 × Int => [t32 c.1, .sl 1 .shr c.2.1.length (u8s c.2.1), t64 c.2.2.1, ti c.2.2.2])) (m := 4) (fun _ => rfl) x4) kr .nil rfl rfl ?_
              refine Go.rx 20 {} [13] [8, 9] _ [(8, .addr 11 0), (9, .leaf .nilIface)] [(11, [.sl 4 .shr x4.length (fl (fun c : UInt32 × List UInt8 × UInt64 × Int => [t32 c.1, .sl 1 .shr c.2.1.length (u8s c.2.1), t64 c.2.2.1, ti c.2.2.2]) x4), t32 (x2.2.1 + 1), ti x2.2.2])] hk rfl kr .nil ?_
              clear hk; intro k hk
              exact Go.lvx 20 [] _ [.agg ([.sl 4 .shr x4.length (fl (fun c : UInt32 × List UInt8 × UInt64 × Int => [t32 c.1, .sl 1 .shr c.2.1.length (u8s c.2.1), t64 c.2.2.1, ti c.2.2.2]) x4), t32 (x2.2.1 + 1), ti x2.2.2]), .leaf .nilIface] Tryd.func40 hk rfl kr (.cons (by decide : 0 + 3 ≤ 3) .nil) (T.Le.tup (.cons (T.Le.of_eq rfl) (.cons (T.Le.of_eq rfl) .nil))) rfl rfl .nil
            · have ct4p := of_decide_eq_false ct4
              refine Go.keepN [8, 10] (L' := [(8, .addr 11 0), (10, .addr 13 0)]) rfl ?_
              refine Go.frzC [] [] 13 0 12 (fl (fun c : UInt32 × List UInt8 × UInt64 × Int => [t32 c.1, .sl 1 .shr c.2.1.length (u8s c.2.1), t64 c.2.2.1, ti c.2.2.2]) (x2.1 ++ [(x2.2.1 + 1, x3, a3, 0)])) ([.sl 4 .shr (x2.1 ++ [(x2.2.1 + 1, x3, a3, 0)]).length (fl (fun c : UInt32 × List UInt8 × UInt64 × Int => [t32 c.1, .sl 1 .shr c.2.1.length (u8s c.2.1), t64 c.2.2.1, ti c.2.2.2]) (x2.1 ++ [(x2.2.1 + 1, x3, a3, 0)])), t32 (x2.2.1 + 1), ti x2.2.2]) _ [(8, .addr 11 0), (10, .addr 13 0)] [(11, [.leaf (.slice none 0 0), t32 0, ti 0]), (13, [.dead, t32 (x2.2.1 + 1), ti x2.2.2])] rfl rfl rfl rfl (fl_ids (g := (fun c : UInt32 × List UInt8 × UInt64 × Int => [t32 c.1, .sl 1 .shr c.2.1.length (u8s c.2.1), t64 c.2.2.1, ti c.2.2.2])) (fun _ => rfl) (x2.1 ++ [(x2.2.1 + 1, x3, a3, 0)])) qg1b_2 (fl_all (g := (fun c : UInt32 × List UInt8 × UInt64 × Int => [t32 c.1, .sl 1 .shr c.2.1.length (u8s c.2.1), t64 c.2.2.1, ti c.2.2.2])) (m := 4) (fun _ => rfl) (x2.1 ++ [(x2.2.1 + 1, x3, a3, 0)])) kr .nil rfl rfl ?_
              refine Go.rx 20 {} [13] [8, 9] _ [(8, .addr 11 0), (9, .leaf .nilIface)] [(11, [.sl 4 .shr (x2.1 ++ [(x2.2.1 + 1, x3, a3, 0)]).length (fl (fun c : UInt32 × List UInt8 × UInt64 × Int => [t32 c.1, .sl 1 .shr c.2.1.length (u8s c.2.1), t64 c.2.2.1, ti c.2.2.2]) (x2.1 ++ [(x2.2.1 + 1, x3, a3, 0)])), t32 (x2.2.1 + 1), ti x2.2.2])] hk rfl kr .nil ?_
              clear hk; intro k hk
              exact Go.lvx 20 [] _ [.agg ([.sl 4 .shr (x2.1 ++ [(x2.2.1 + 1, x3, a3, 0)]).length (fl (fun c : UInt32 × List UInt8 × UInt64 × Int => [t32 c.1, .sl 1 .shr c.2.1.length (u8s c.2.1), t64 c.2.2.1, ti c.2.2.2]) (x2.1 ++ [(x2.2.1 + 1, x3, a3, 0)])), t32 (x2.2.1 + 1), ti x2.2.2]), .leaf .nilIface] Tryd.func40 hk rfl kr (.cons (by decide : 0 + 3 ≤ 3) .nil) (T.Le.tup (.cons (T.Le.of_eq rfl) (.cons (T.Le.of_eq rfl) .nil))) rfl rfl .nil
      · intro hk J
        rcases Bool.eq_false_or_eq_true (decide (a2 ≥ 0)) with gd2 | gd2
        · have gd2p := of_decide_eq_true gd2
          refine Go.rx 20 { ws := [(1, { v := some (tb true) }), (4, { v := some (t64 (u64i a2)) }), (7, { v := some (t64 a01.toUInt64) }), (8, { v := some (tb ((u64i a2) != a01.toUInt64)) })] } [] [1, 3, 4, 8, 22] _ [(1, .sl 1 .shr a1.length (u8s a1)), (3, t64 a3), (4, .addr 10 0), (8, .addr 11 0), (22, tb ((u64i a2) != a01.toUInt64))] [(10, [.sl 4 .shr a00.length (fl (fun c : UInt32 × List UInt8 × UInt64 × Int => [t32 c.1, .sl 1 .shr c.2.1.length (u8s c.2.1), t64 c.2.2.1, ti c.2.2.2]) a00), t32 a01, ti a02]), (11, [.leaf (.slice none 0 0), t32 0, ti 0])] hk rfl kr (.cons trivial (.cons (eb gd2) (.cons (cvi_64 a2) (.cons (cv32_64 a01) (.cons trivial (.cons (neB64 (u64i a2) a01.toUInt64) .nil)))))) ?_
          intro k' hk'
          refine Go.slotEq 22 (tb ((decide (a2 ≥ 0)) && ((u64i a2) != a01.toUInt64))) rfl (eb (andT gd2 rfl).symm) ?_
          exact J k' hk'
        · have gd2p := of_decide_eq_false gd2
          refine Go.rx 20 { ws := [(1, { v := some (tb false) })] } [] [1, 3, 4, 8, 22] _ [(1, .sl 1 .shr a1.length (u8s a1)), (3, t64 a3), (4, .addr 10 0), (8, .addr 11 0), (22, tb false)] [(10, [.sl 4 .shr a00.length (fl (fun c : UInt32 × List UInt8 × UInt64 × Int => [t32 c.1, .sl 1 .shr c.2.1.length (u8s c.2.1), t64 c.2.2.1, ti c.2.2.2]) a00), t32 a01, ti a02]), (11, [.leaf (.slice none 0 0), t32 0, ti 0])] hk rfl kr (.cons trivial (.cons (eb gd2) .nil)) ?_
          intro k' hk'
          refine Go.slotEq 22 (tb ((decide (a2 ≥ 0)) && ((u64i a2) != a01.toUInt64))) rfl (eb (andF gd2).symm) ?_
          exact J k' hk'
  · intro hk J
    rcases Bool.eq_false_or_eq_true (!(decide ((engine_Check a00 a01 a02) = 0))) with gd1 | gd1
    · have gd1' : (decide ((engine_Check a00 a01 a02) = 0)) = false := ntT gd1
      have gd1'p := of_decide_eq_false gd1'
      refine Go.rx 20 { ws := [(1, { call := some { ids := [], S := [], M := [], R := er 149 (engine_Check a00 a01 a02), H' := [] } }), (2, { v := some (tb true), er := some (149, (engine_Check a00 a01 a02)) })] } [] [1, 2, 3, 4, 8, 11] _ [(1, .sl 1 .shr a1.length (u8s a1)), (2, ti a2), (3, t64 a3), (4, .addr 10 0), (8, .addr 11 0), (11, tb true)] [(10, [.sl 4 .shr a00.length (fl (fun c : UInt32 × List UInt8 × UInt64 × Int => [t32 c.1, .sl 1 .shr c.2.1.length (u8s c.2.1), t64 c.2.2.1, ti c.2.2.2]) a00), t32 a01, ti a02]), (11, [.leaf (.slice none 0 0), t32 0, ti 0])] hk rfl kr (.cons (engine_Check_m (g_a00 := .shr) a00 a01 a02) (.cons (sb : subN (idsL [.agg ([.sl 4 .shr a00.length (fl (fun c : UInt32 × List UInt8 × UInt64 × Int => [t32 c.1, .sl 1 .shr c.2.1.length (u8s c.2.1), t64 c.2.2.1, ti c.2.2.2]) a00), t32 a01, ti a02])]) [] = true) (.cons (⟨rfl, rfl⟩ : (er 149 (engine_Check a00 a01 a02)) = er 149 (engine_Check a00 a01 a02) ∧ (.leaf .nilIface : T) = .leaf .nilIface) (.cons (eb gd1) .nil)))) ?_
      intro k' hk'
      refine Go.slotEq 11 (tb ((!(decide ((engine_Check a00 a01 a02) = 0))) || (decide ((a1.length : Int) > 100)))) rfl (eb (orT gd1).symm) ?_
      exact J k' hk'
    · have gd1' : (decide ((engine_Check a00 a01 a02) = 0)) = true := ntF gd1
      have gd1'p := of_decide_eq_true gd1'
      refine Go.rx 20 { ws := [(1, { call := some { ids := [], S := [], M := [], R := er 149 (engine_Check a00 a01 a02), H' := [] } }), (2, { v := some (tb false), er := some (149, (engine_Check a00 a01 a02)) })] } [] [1, 2, 3, 4, 8, 11] _ [(1, .sl 1 .shr a1.length (u8s a1)), (2, ti a2), (3, t64 a3), (4, .addr 10 0), (8, .addr 11 0), (11, tb (decide ((a1.length : Int) > 100)))] [(10, [.sl 4 .shr a00.length (fl (fun c : UInt32 × List UInt8 × UInt64 × Int => [t32 c.1, .sl 1 .shr c.2.1.length (u8s c.2.1), t64 c.2.2.1, ti c.2.2.2]) a00), t32 a01, ti a02]), (11, [.leaf (.slice none 0 0), t32 0, ti 0])] hk rfl kr (.cons (engine_Check_m (g_a00 := .shr) a00 a01 a02) (.cons (sb : subN (idsL [.agg ([.sl 4 .shr a00.length (fl (fun c : UInt32 × List UInt8 × UInt64 × Int => [t32 c.1, .sl 1 .shr c.2.1.length (u8s c.2.1), t64 c.2.2.1, ti c.2.2.2]) a00), t32 a01, ti a02])]) [] = true) (.cons (⟨rfl, rfl⟩ : (er 149 (engine_Check a00 a01 a02)) = er 149 (engine_Check a00 a01 a02) ∧ (.leaf .nilIface : T) = .leaf .nilIface) (.cons (eb gd1) (.cons trivial .nil))))) ?_
      intro k' hk'
      refine Go.slotEq 11 (tb ((!(decide ((engine_Check a00 a01 a02) = 0))) || (decide ((a1.length : Int) > 100)))) rfl (eb (orF gd1 rfl).symm) ?_
      exact J k' hk'
attribute [irreducible] engine_Put
end Go.Proofs.YtbppcnhfeobefaaDoor

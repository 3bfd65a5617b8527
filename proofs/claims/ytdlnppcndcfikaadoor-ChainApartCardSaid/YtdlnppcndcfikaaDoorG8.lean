import Derived.Test.YtdlnppcndcfikaaDoorG9
set_option linter.unusedVariables false
set_option linter.unusedSimpArgs false
namespace Go.Proofs.YtdlnppcndcfikaaDoor
open Go Go.Vw Go.Proofs
theorem qg8_1 {p : Prop} (h : p := by first | assumption | exact nil_le | exact (fun i => Nat.le_trans ((fx1 ct121).2 i) (by decide)) | exact (fun i => Nat.le_trans ((fx2 ct1221).2 i) (by decide)) | exact slc_le (fun i => Nat.le_trans ((fx1 ct121).2 i) (by decide)) _ _ | exact (cons_le (by simp) nil_le) | exact app_le (app_le nil_le (fun i => Nat.le_trans ((fx1 ct121).2 i) (by decide))) (cons_le (by simp) nil_le) | exact app_le (app_le nil_le (fun i => Nat.le_trans ((fx1 ct121).2 i) (by decide))) (cons_le (by first | omega | (simp; done)) nil_le)) : p := h
theorem qg8_2 {p : Prop} (h : p := by first | omega | (simp only [List.length_append, List.length_cons, List.length_nil, slc_len]; omega) | (simp; done) | (simp; omega)) : p := h
theorem qg8_3 {p : Prop} (h : p := by first | omega | (simp; done) | (rw [summed_len]; omega) | (rw [concat_eq]; simp only [List.flatten_cons, List.flatten_nil, List.append_nil, List.length_append, List.length_cons, List.length_nil]; omega) | (simp only [List.length_append, fxa_len]; omega) | (simp; omega)) : p := h
theorem qg8_4 {p : Prop} (h : p := by first | omega | (simp; done) | (simp; omega)) : p := h
theorem qg8_5 {p : Prop} (h : p := by first | omega | (simp; done)) : p := h
theorem qg8_6 {p : Prop} (h : p := by first | (simp; done) | (with_reducible assumption) | omega | (simp <;> omega) | rfl) : p := h
noncomputable def bursarylaw34_ChainApart (a0 : List UInt8) (a1 : List (List UInt8)) (a2 : List (List UInt8)) : Bool :=
  bnd (bursarylaw34_bigList a1) fun x1 =>
  bnd (bursarylaw34_bigList a2) fun x2 =>
  bif (decide ((a0.length : Int) > 200)) || (x1 || (x2 || ((decide ((a1.length : Int) > 12)) || (decide ((a2.length : Int) > 12))))) then
    bursarylaw34_sure
  else
    bnd (chain_Apart a0 a1 a2) fun x3 =>
    bnd (chain_Apart a0 a1 a1) fun x4 =>
    bif x4.2.2 || (decide ((x4.1.length : Int) + (x4.2.1.length : Int) > 0)) then
      false
    else
      bnd (chain_Of a0 a1) fun x5 =>
      bnd (bursarylaw34_lists a1 a2) fun x6 =>
      bif (chain_Verify a0 a2 (x5.1) (x5.2)) && (!x6) then
        bnd (hmac_Mac a0 x3.1) fun x7 =>
        bnd (hmac_Mac a0 x3.2.1) fun x8 =>
        x3.2.2 && ((x3.1 != x3.2.1) && ((fxa 32 x7 == fxa 32 x8) && bursarylaw34_sure))
      else
        (!x3.2.2) && ((((x3.1.length : Int) + (x3.2.1.length : Int)) == 0) && bursarylaw34_sure)
def bursarylaw34_ChainApart_enc (x : Bool) : T × List (Nat × List T) := (tb x, [])
theorem bursarylaw34_ChainApart_m (a0 : List UInt8) (a1 : List (List UInt8)) (a2 : List (List UInt8)) : Meets Tryd.prog 8 [.sl 1 .shr a0.length (u8s a0), .sl 1 .shr a1.length (b8s .shr a1), .sl 1 .shr a2.length (b8s .shr a2)] [] [] (tb (bursarylaw34_ChainApart a0 a1 a2)) [] := by
  refine Meets.enterX (E := E) (N := 105) (enc := bursarylaw34_ChainApart_enc) (x := (bursarylaw34_ChainApart a0 a1 a2)) Tryd.func8 Tryd.call8 rfl rfl ?_
  intro Γ k hk
  refine Go.rx 20 {} [] [0, 1, 2] _ [(0, .sl 1 .shr a0.length (u8s a0)), (1, .sl 1 .shr a1.length (b8s .shr a1)), (2, .sl 1 .shr a2.length (b8s .shr a2))] [] hk rfl kr .nil ?_
  clear hk; intro k hk
  refine Go.regJ 20 [(0, .sl 1 .shr a0.length (u8s a0)), (1, .sl 1 .shr a1.length (b8s .shr a1)), (2, .sl 1 .shr a2.length (b8s .shr a2)), (33, tb ((decide ((a0.length : Int) > 200)) || ((bursarylaw34_bigList a1) || ((bursarylaw34_bigList a2) || ((decide ((a1.length : Int) > 12)) || (decide ((a2.length : Int) > 12)))))))] [] hk rfl ?_ ?_
  · clear hk; intro k hk
    refine Go.bnd (Pf := (PostX Γ bursarylaw34_ChainApart_enc)) (v := (bursarylaw34_bigList a1)) (fun x1 => [(0, .sl 1 .shr a0.length (u8s a0)), (1, .sl 1 .shr a1.length (b8s .shr a1)), (2, .sl 1 .shr a2.length (b8s .shr a2)), (33, tb ((decide ((a0.length : Int) > 200)) || (x1 || ((bursarylaw34_bigList a2) || ((decide ((a1.length : Int) > 12)) || (decide ((a2.length : Int) > 12)))))))]) (fun x1 => []) ?_
    intro x1 hx1
    have fx1 := bigList_fact a1
    rw [← hx1] at fx1
    refine Go.bnd (Pf := (PostX Γ bursarylaw34_ChainApart_enc)) (v := (bursarylaw34_bigList a2)) (fun x2 => [(0, .sl 1 .shr a0.length (u8s a0)), (1, .sl 1 .shr a1.length (b8s .shr a1)), (2, .sl 1 .shr a2.length (b8s .shr a2)), (33, tb ((decide ((a0.length : Int) > 200)) || (x1 || (x2 || ((decide ((a1.length : Int) > 12)) || (decide ((a2.length : Int) > 12)))))))]) (fun x2 => []) ?_
    intro x2 hx2
    have fx2 := bigList_fact a2
    rw [← hx2] at fx2
    refine Go.br 20 (Pf := (PostX Γ bursarylaw34_ChainApart_enc)) hk rfl rfl ?_ ?_ <;> clear hk <;> intro ct1 k hk
    · refine Go.rx 20 { ws := [(0, { call := some { ids := [], S := [], M := [], R := tb bursarylaw34_sure, H' := [] } })] } [] [6] _ [(6, tb bursarylaw34_sure)] [] hk rfl kr (.cons (bursarylaw34_sure_m) (.cons (sb : subN (idsL []) [] = true) .nil)) ?_
      clear hk; intro k hk
      exact Go.lvx 20 [] _ [tb bursarylaw34_sure] Tryd.func8 hk rfl kr .nil (T.Le.of_eq rfl) rfl rfl .nil
    · have ct11 : (decide ((a0.length : Int) > 200)) = false := (Bool.or_eq_false_iff.1 ct1).1
      have ct12 : (x1 || (x2 || ((decide ((a1.length : Int) > 12)) || (decide ((a2.length : Int) > 12))))) = false := (Bool.or_eq_false_iff.1 ct1).2
      have ct11p := of_decide_eq_false ct11
      have ct121 : x1 = false := (Bool.or_eq_false_iff.1 ct12).1
      have ct122 : (x2 || ((decide ((a1.length : Int) > 12)) || (decide ((a2.length : Int) > 12)))) = false := (Bool.or_eq_false_iff.1 ct12).2
      have ct1221 : x2 = false := (Bool.or_eq_false_iff.1 ct122).1
      have ct1222 : ((decide ((a1.length : Int) > 12)) || (decide ((a2.length : Int) > 12))) = false := (Bool.or_eq_false_iff.1 ct122).2
      have ct12221 : (decide ((a1.length : Int) > 12)) = false := (Bool.or_eq_false_iff.1 ct1222).1
      have ct12222 : (decide ((a2.length : Int) > 12)) = false := (Bool.or_eq_false_iff.1 ct1222).2
      have ct12221p := of_decide_eq_false ct12221
      have ct12222p := of_decide_eq_false ct12222
      refine Go.rx 20 { ws := [(3, { call := some { ids := [], S := [], M := [], R := .tup [.sl 1 .shr ((chain_Apart a0 a1 a2).1).length (u8s ((chain_Apart a0 a1 a2).1)), .sl 1 .shr ((chain_Apart a0 a1 a2).2.1).length (u8s ((chain_Apart a0 a1 a2).2.1)), tb ((chain_Apart a0 a1 a2).2.2)], H' := [] } })] } [] [0, 1, 2, 7, 8, 9] _ [(0, .sl 1 .shr a0.length (u8s a0)), (1, .sl 1 .shr a1.length (b8s .shr a1)), (2, .sl 1 .shr a2.length (b8s .shr a2)), (7, .sl 1 .shr ((chain_Apart a0 a1 a2).1).length (u8s ((chain_Apart a0 a1 a2).1))), (8, .sl 1 .shr ((chain_Apart a0 a1 a2).2.1).length (u8s ((chain_Apart a0 a1 a2).2.1))), (9, tb ((chain_Apart a0 a1 a2).2.2))] [] hk rfl kr (.cons (chain_Apart_m (g_a := .shr) (g_b := .shr) a0 a1 a2 qg8_4 qg8_1 qg8_1 qg8_2 qg8_2) (.cons (sb : subN (idsL [.sl 1 .shr a0.length (u8s a0), .sl 1 .shr a1.length (b8s .shr a1), .sl 1 .shr a2.length (b8s .shr a2)]) [] = true) .nil)) ?_
      clear hk; intro k hk
      refine Go.bnd (Pf := (PostX Γ bursarylaw34_ChainApart_enc)) (v := (chain_Apart a0 a1 a2)) (fun x3 => [(0, .sl 1 .shr a0.length (u8s a0)), (1, .sl 1 .shr a1.length (b8s .shr a1)), (2, .sl 1 .shr a2.length (b8s .shr a2)), (7, .sl 1 .shr x3.1.length (u8s x3.1)), (8, .sl 1 .shr x3.2.1.length (u8s x3.2.1)), (9, tb x3.2.2)]) (fun x3 => []) ?_
      intro x3 hx3
      have fx3 := apart_fact a0 a1 a2 qg8_1 qg8_1
      rw [← hx3] at fx3
      obtain ⟨fx3a, fx3b⟩ := fx3
      refine Go.rx 20 { ws := [(3, { call := some { ids := [], S := [], M := [], R := .tup [.sl 1 .shr ((chain_Apart a0 a1 a1).1).length (u8s ((chain_Apart a0 a1 a1).1)), .sl 1 .shr ((chain_Apart a0 a1 a1).2.1).length (u8s ((chain_Apart a0 a1 a1).2.1)), tb ((chain_Apart a0 a1 a1).2.2)], H' := [] } })] } [] [0, 1, 2, 7, 8, 9, 10, 11, 12] _ [(0, .sl 1 .shr a0.length (u8s a0)), (1, .sl 1 .shr a1.length (b8s .shr a1)), (2, .sl 1 .shr a2.length (b8s .shr a2)), (7, .sl 1 .shr x3.1.length (u8s x3.1)), (8, .sl 1 .shr x3.2.1.length (u8s x3.2.1)), (9, tb x3.2.2), (10, .sl 1 .shr ((chain_Apart a0 a1 a1).1).length (u8s ((chain_Apart a0 a1 a1).1))), (11, .sl 1 .shr ((chain_Apart a0 a1 a1).2.1).length (u8s ((chain_Apart a0 a1 a1).2.1))), (12, tb ((chain_Apart a0 a1 a1).2.2))] [] hk rfl kr (.cons (chain_Apart_m (g_a := .shr) (g_b := .shr) a0 a1 a1 qg8_4 qg8_1 qg8_1 qg8_2 qg8_2) (.cons (sb : subN (idsL [.sl 1 .shr a0.length (u8s a0), .sl 1 .shr a1.length (b8s .shr a1), .sl 1 .shr a1.length (b8s .shr a1)]) [] = true) .nil)) ?_
      clear hk; intro k hk
      refine Go.bnd (Pf := (PostX Γ bursarylaw34_ChainApart_enc)) (v := (chain_Apart a0 a1 a1)) (fun x4 => [(0, .sl 1 .shr a0.length (u8s a0)), (1, .sl 1 .shr a1.length (b8s .shr a1)), (2, .sl 1 .shr a2.length (b8s .shr a2)), (7, .sl 1 .shr x3.1.length (u8s x3.1)), (8, .sl 1 .shr x3.2.1.length (u8s x3.2.1)), (9, tb x3.2.2), (10, .sl 1 .shr x4.1.length (u8s x4.1)), (11, .sl 1 .shr x4.2.1.length (u8s x4.2.1)), (12, tb x4.2.2)]) (fun x4 => []) ?_
      intro x4 hx4
      have fx4 := apart_fact a0 a1 a1 qg8_1 qg8_1
      rw [← hx4] at fx4
      obtain ⟨fx4a, fx4b⟩ := fx4
      refine Go.regJ 20 [(0, .sl 1 .shr a0.length (u8s a0)), (1, .sl 1 .shr a1.length (b8s .shr a1)), (2, .sl 1 .shr a2.length (b8s .shr a2)), (7, .sl 1 .shr x3.1.length (u8s x3.1)), (8, .sl 1 .shr x3.2.1.length (u8s x3.2.1)), (9, tb x3.2.2), (59, tb (x4.2.2 || (decide ((x4.1.length : Int) + (x4.2.1.length : Int) > 0))))] [] hk rfl ?_ ?_
      · clear hk; intro k hk
        refine Go.br 20 (Pf := (PostX Γ bursarylaw34_ChainApart_enc)) hk rfl rfl ?_ ?_ <;> clear hk <;> intro ct2 k hk
        · refine Go.rx 20 {} [] [6] _ [(6, tb false)] [] hk rfl kr .nil ?_
          clear hk; intro k hk
          exact Go.lvx 20 [] _ [tb false] Tryd.func8 hk rfl kr .nil (T.Le.of_eq rfl) rfl rfl .nil
        · have ct21 : x4.2.2 = false := (Bool.or_eq_false_iff.1 ct2).1
          have ct22 : (decide ((x4.1.length : Int) + (x4.2.1.length : Int) > 0)) = false := (Bool.or_eq_false_iff.1 ct2).2
          have ct22p := of_decide_eq_false ct22
          refine Go.regJ 20 [(0, .sl 1 .shr a0.length (u8s a0)), (7, .sl 1 .shr x3.1.length (u8s x3.1)), (8, .sl 1 .shr x3.2.1.length (u8s x3.2.1)), (9, tb x3.2.2), (71, tb ((chain_Verify a0 a2 ((chain_Of a0 a1).1) ((chain_Of a0 a1).2)) && (!(bursarylaw34_lists a1 a2))))] [] hk rfl ?_ ?_
          · clear hk; intro k hk
            refine Go.bnd (Pf := (PostX Γ bursarylaw34_ChainApart_enc)) (v := (chain_Of a0 a1)) (fun x5 => [(0, .sl 1 .shr a0.length (u8s a0)), (7, .sl 1 .shr x3.1.length (u8s x3.1)), (8, .sl 1 .shr x3.2.1.length (u8s x3.2.1)), (9, tb x3.2.2), (71, tb ((chain_Verify a0 a2 (x5.1) (x5.2)) && (!(bursarylaw34_lists a1 a2))))]) (fun x5 => []) ?_
            intro x5 hx5
            refine Go.bnd (Pf := (PostX Γ bursarylaw34_ChainApart_enc)) (v := (bursarylaw34_lists a1 a2)) (fun x6 => [(0, .sl 1 .shr a0.length (u8s a0)), (7, .sl 1 .shr x3.1.length (u8s x3.1)), (8, .sl 1 .shr x3.2.1.length (u8s x3.2.1)), (9, tb x3.2.2), (71, tb ((chain_Verify a0 a2 (x5.1) (x5.2)) && (!x6)))]) (fun x6 => []) ?_
            intro x6 hx6
            refine Go.br 20 (Pf := (PostX Γ bursarylaw34_ChainApart_enc)) hk rfl rfl ?_ ?_ <;> clear hk <;> intro ct3 k hk
            · have ct31 : (chain_Verify a0 a2 (x5.1) (x5.2)) = true := (Bool.and_eq_true_iff.1 ct3).1
              have ct32 : (!x6) = true := (Bool.and_eq_true_iff.1 ct3).2
              have ct32' : x6 = false := ntT ct32
              refine Go.regJ 20 [(6, tb (x3.2.2 && ((x3.1 != x3.2.1) && ((fxa 32 (hmac_Mac a0 x3.1) == fxa 32 (hmac_Mac a0 x3.2.1)) && bursarylaw34_sure))))] [] hk rfl ?_ ?_
              · clear hk; intro k hk
                refine Go.bnd (Pf := (PostX Γ bursarylaw34_ChainApart_enc)) (v := (hmac_Mac a0 x3.1)) (fun x7 => [(6, tb (x3.2.2 && ((x3.1 != x3.2.1) && ((fxa 32 x7 == fxa 32 (hmac_Mac a0 x3.2.1)) && bursarylaw34_sure))))]) (fun x7 => []) ?_
                intro x7 hx7
                have fx7 := hmac_len a0 x3.1
                rw [← hx7] at fx7
                refine Go.bnd (Pf := (PostX Γ bursarylaw34_ChainApart_enc)) (v := (hmac_Mac a0 x3.2.1)) (fun x8 => [(6, tb (x3.2.2 && ((x3.1 != x3.2.1) && ((fxa 32 x7 == fxa 32 x8) && bursarylaw34_sure))))]) (fun x8 => []) ?_
                intro x8 hx8
                have fx8 := hmac_len a0 x3.2.1
                rw [← hx8] at fx8
                exact Go.lvx 20 [] _ [tb (x3.2.2 && ((x3.1 != x3.2.1) && ((fxa 32 x7 == fxa 32 x8) && bursarylaw34_sure)))] Tryd.func8 hk rfl kr .nil (T.Le.of_eq rfl) rfl rfl .nil
              · intro hk J
                rcases Bool.eq_false_or_eq_true x3.2.2 with gd7 | gd7
                · rcases Bool.eq_false_or_eq_true (x3.1 != x3.2.1) with gd8 | gd8
                  · rcases Bool.eq_false_or_eq_true (fxa 32 (hmac_Mac a0 x3.1) == fxa 32 (hmac_Mac a0 x3.2.1)) with gd9 | gd9
                    · refine Go.rx 20 { ws := [(0, { v := some (tb true) }), (3, { b := x3.1 }), (5, { b := x3.2.1 }), (6, { v := some (tb true) }), (11, { call := some { ids := [], S := [], M := [], R := .agg (u8s (fxa 32 (hmac_Mac a0 x3.1))), H' := [] } }), (14, { call := some { ids := [], S := [], M := [], R := .agg (u8s (fxa 32 (hmac_Mac a0 x3.2.1))), H' := [] } }), (15, { v := some (tb true) }), (18, { call := some { ids := [], S := [], M := [], R := tb bursarylaw34_sure, H' := [] } })] } [] [6] _ [(6, tb bursarylaw34_sure)] [] hk rfl kr (.cons (eb gd7) (.cons (rfl : u8s x3.1 = u8s x3.1) (.cons (rfl : u8s x3.2.1 = u8s x3.2.1) (.cons trivial (.cons ((s_ne x3.1 x3.2.1).trans (eb gd8)) (.cons (Meets.fx 32 (hmac_Mac_m (g_b := .shr) a0 x3.1 qg8_4 qg8_3) qg8_6) (.cons (sb : subN (idsL [.sl 1 .shr a0.length (u8s a0), .sl 1 .shr x3.1.length (u8s x3.1)]) [] = true) (.cons (Meets.fx 32 (hmac_Mac_m (g_b := .shr) a0 x3.2.1 qg8_4 qg8_3) qg8_6) (.cons (sb : subN (idsL [.sl 1 .shr a0.length (u8s a0), .sl 1 .shr x3.2.1.length (u8s x3.2.1)]) [] = true) (.cons (someT (eqMt (eqL_fxa 32 (hmac_Mac a0 x3.1) (hmac_Mac a0 x3.2.1))) (eb gd9)) (.cons (bursarylaw34_sure_m) (.cons (sb : subN (idsL []) [] = true) .nil)))))))))))) ?_
                      intro k' hk'
                      refine Go.slotEq 6 (tb (x3.2.2 && ((x3.1 != x3.2.1) && ((fxa 32 (hmac_Mac a0 x3.1) == fxa 32 (hmac_Mac a0 x3.2.1)) && bursarylaw34_sure)))) rfl (eb (andT gd7 (andT gd8 (andT gd9 rfl))).symm) ?_
                      exact J k' hk'
                    · refine Go.rx 20 { ws := [(0, { v := some (tb true) }), (3, { b := x3.1 }), (5, { b := x3.2.1 }), (6, { v := some (tb true) }), (11, { call := some { ids := [], S := [], M := [], R := .agg (u8s (fxa 32 (hmac_Mac a0 x3.1))), H' := [] } }), (14, { call := some { ids := [], S := [], M := [], R := .agg (u8s (fxa 32 (hmac_Mac a0 x3.2.1))), H' := [] } }), (15, { v := some (tb false) })] } [] [6] _ [(6, tb false)] [] hk rfl kr (.cons (eb gd7) (.cons (rfl : u8s x3.1 = u8s x3.1) (.cons (rfl : u8s x3.2.1 = u8s x3.2.1) (.cons trivial (.cons ((s_ne x3.1 x3.2.1).trans (eb gd8)) (.cons (Meets.fx 32 (hmac_Mac_m (g_b := .shr) a0 x3.1 qg8_4 qg8_3) qg8_6) (.cons (sb : subN (idsL [.sl 1 .shr a0.length (u8s a0), .sl 1 .shr x3.1.length (u8s x3.1)]) [] = true) (.cons (Meets.fx 32 (hmac_Mac_m (g_b := .shr) a0 x3.2.1 qg8_4 qg8_3) qg8_6) (.cons (sb : subN (idsL [.sl 1 .shr a0.length (u8s a0), .sl 1 .shr x3.2.1.length (u8s x3.2.1)]) [] = true) (.cons (someT (eqMt (eqL_fxa 32 (hmac_Mac a0 x3.1) (hmac_Mac a0 x3.2.1))) (eb gd9)) .nil)))))))))) ?_
                      intro k' hk'
                      refine Go.slotEq 6 (tb (x3.2.2 && ((x3.1 != x3.2.1) && ((fxa 32 (hmac_Mac a0 x3.1) == fxa 32 (hmac_Mac a0 x3.2.1)) && bursarylaw34_sure)))) rfl (eb (andT gd7 (andT gd8 (andF gd9))).symm) ?_
                      exact J k' hk'
                  · refine Go.rx 20 { ws := [(0, { v := some (tb true) }), (3, { b := x3.1 }), (5, { b := x3.2.1 }), (6, { v := some (tb false) })] } [] [6] _ [(6, tb false)] [] hk rfl kr (.cons (eb gd7) (.cons (rfl : u8s x3.1 = u8s x3.1) (.cons (rfl : u8s x3.2.1 = u8s x3.2.1) (.cons trivial (.cons ((s_ne x3.1 x3.2.1).trans (eb gd8)) .nil))))) ?_
                    intro k' hk'
                    refine Go.slotEq 6 (tb (x3.2.2 && ((x3.1 != x3.2.1) && ((fxa 32 (hmac_Mac a0 x3.1) == fxa 32 (hmac_Mac a0 x3.2.1)) && bursarylaw34_sure)))) rfl (eb (andT gd7 (andF gd8)).symm) ?_
                    exact J k' hk'
                · refine Go.rx 20 { ws := [(0, { v := some (tb false) })] } [] [6] _ [(6, tb false)] [] hk rfl kr (.cons (eb gd7) .nil) ?_
                  intro k' hk'
                  refine Go.slotEq 6 (tb (x3.2.2 && ((x3.1 != x3.2.1) && ((fxa 32 (hmac_Mac a0 x3.1) == fxa 32 (hmac_Mac a0 x3.2.1)) && bursarylaw34_sure)))) rfl (eb (andF gd7).symm) ?_
                  exact J k' hk'
            · refine Go.regJ 20 [(6, tb ((!x3.2.2) && ((((x3.1.length : Int) + (x3.2.1.length : Int)) == 0) && bursarylaw34_sure)))] [] hk rfl ?_ ?_
              · clear hk; intro k hk
                exact Go.lvx 20 [] _ [tb ((!x3.2.2) && ((((x3.1.length : Int) + (x3.2.1.length : Int)) == 0) && bursarylaw34_sure))] Tryd.func8 hk rfl kr .nil (T.Le.of_eq rfl) rfl rfl .nil
              · intro hk J
                rcases Bool.eq_false_or_eq_true (!x3.2.2) with gd10 | gd10
                · have gd10' : x3.2.2 = false := ntT gd10
                  rcases Bool.eq_false_or_eq_true (((x3.1.length : Int) + (x3.2.1.length : Int)) == 0) with gd11 | gd11
                  · have gd11p := eqIt gd11
                    refine Go.rx 20 { ws := [(0, { v := some (tb false) }), (7, { v := some (ti ((x3.1.length : Int) + (x3.2.1.length : Int))) }), (8, { v := some (tb true) }), (11, { call := some { ids := [], S := [], M := [], R := tb bursarylaw34_sure, H' := [] } })] } [] [6] _ [(6, tb bursarylaw34_sure)] [] hk rfl kr (.cons (eb gd10') (.cons trivial (.cons (iw ((x3.1.length : Int) + (x3.2.1.length : Int)) om) (.cons trivial (.cons (eb gd11) (.cons (bursarylaw34_sure_m) (.cons (sb : subN (idsL []) [] = true) .nil))))))) ?_
                    intro k' hk'
                    refine Go.slotEq 6 (tb ((!x3.2.2) && ((((x3.1.length : Int) + (x3.2.1.length : Int)) == 0) && bursarylaw34_sure))) rfl (eb (andT gd10 (andT gd11 rfl)).symm) ?_
                    exact J k' hk'
                  · have gd11p := eqIf gd11
                    refine Go.rx 20 { ws := [(0, { v := some (tb false) }), (7, { v := some (ti ((x3.1.length : Int) + (x3.2.1.length : Int))) }), (8, { v := some (tb false) })] } [] [6] _ [(6, tb false)] [] hk rfl kr (.cons (eb gd10') (.cons trivial (.cons (iw ((x3.1.length : Int) + (x3.2.1.length : Int)) om) (.cons trivial (.cons (eb gd11) .nil))))) ?_
                    intro k' hk'
                    refine Go.slotEq 6 (tb ((!x3.2.2) && ((((x3.1.length : Int) + (x3.2.1.length : Int)) == 0) && bursarylaw34_sure))) rfl (eb (andT gd10 (andF gd11)).symm) ?_
                    exact J k' hk'
                · have gd10' : x3.2.2 = true := ntF gd10
                  refine Go.rx 20 { ws := [(0, { v := some (tb true) })] } [] [6] _ [(6, tb false)] [] hk rfl kr (.cons (eb gd10') .nil) ?_
                  intro k' hk'
                  refine Go.slotEq 6 (tb ((!x3.2.2) && ((((x3.1.length : Int) + (x3.2.1.length : Int)) == 0) && bursarylaw34_sure))) rfl (eb (andF gd10).symm) ?_
                  exact J k' hk'
          · intro hk J
            rcases Bool.eq_false_or_eq_true (chain_Verify a0 a2 ((chain_Of a0 a1).1) ((chain_Of a0 a1).2)) with gd6 | gd6
            · refine Go.rx 20 { ws := [(4, { call := some { ids := [], S := [], M := [], R := .agg (hD (chain_Of a0 a1)), H' := [] } }), (5, { v := some (tb true), call := some { ids := [], S := [], M := [], R := tb (chain_Verify a0 a2 ((chain_Of a0 a1).1) ((chain_Of a0 a1).2)), H' := [] } }), (9, { call := some { ids := [], S := [], M := [], R := tb (bursarylaw34_lists a1 a2), H' := [] } })] } [] [0, 7, 8, 9, 71] _ [(0, .sl 1 .shr a0.length (u8s a0)), (7, .sl 1 .shr x3.1.length (u8s x3.1)), (8, .sl 1 .shr x3.2.1.length (u8s x3.2.1)), (9, tb x3.2.2), (71, tb (!(bursarylaw34_lists a1 a2)))] [] hk rfl kr (.cons (chain_Of_m (g_l := .shr) a0 a1 qg8_4 qg8_1 qg8_2) (.cons (sb : subN (idsL [.sl 1 .shr a0.length (u8s a0), .sl 1 .shr a1.length (b8s .shr a1)]) [] = true) (.cons (chain_Verify_m (g_l := .shr) a0 a2 ((chain_Of a0 a1).1) ((chain_Of a0 a1).2) qg8_4 qg8_1 qg8_2) (.cons (sb : subN (idsL [.sl 1 .shr a0.length (u8s a0), .sl 1 .shr a2.length (b8s .shr a2), .agg (hD (chain_Of a0 a1))]) [] = true) (.cons (eb gd6) (.cons (bursarylaw34_lists_m (g_a := .shr) (g_b := .shr) a1 a2 qg8_2) (.cons (sb : subN (idsL [.sl 1 .shr a1.length (b8s .shr a1), .sl 1 .shr a2.length (b8s .shr a2)]) [] = true) .nil))))))) ?_
              intro k' hk'
              refine Go.slotEq 71 (tb ((chain_Verify a0 a2 ((chain_Of a0 a1).1) ((chain_Of a0 a1).2)) && (!(bursarylaw34_lists a1 a2)))) rfl (eb (andT gd6 rfl).symm) ?_
              exact J k' hk'
            · refine Go.rx 20 { ws := [(4, { call := some { ids := [], S := [], M := [], R := .agg (hD (chain_Of a0 a1)), H' := [] } }), (5, { v := some (tb false), call := some { ids := [], S := [], M := [], R := tb (chain_Verify a0 a2 ((chain_Of a0 a1).1) ((chain_Of a0 a1).2)), H' := [] } })] } [] [0, 7, 8, 9, 71] _ [(0, .sl 1 .shr a0.length (u8s a0)), (7, .sl 1 .shr x3.1.length (u8s x3.1)), (8, .sl 1 .shr x3.2.1.length (u8s x3.2.1)), (9, tb x3.2.2), (71, tb false)] [] hk rfl kr (.cons (chain_Of_m (g_l := .shr) a0 a1 qg8_4 qg8_1 qg8_2) (.cons (sb : subN (idsL [.sl 1 .shr a0.length (u8s a0), .sl 1 .shr a1.length (b8s .shr a1)]) [] = true) (.cons (chain_Verify_m (g_l := .shr) a0 a2 ((chain_Of a0 a1).1) ((chain_Of a0 a1).2) qg8_4 qg8_1 qg8_2) (.cons (sb : subN (idsL [.sl 1 .shr a0.length (u8s a0), .sl 1 .shr a2.length (b8s .shr a2), .agg (hD (chain_Of a0 a1))]) [] = true) (.cons (eb gd6) .nil))))) ?_
              intro k' hk'
              refine Go.slotEq 71 (tb ((chain_Verify a0 a2 ((chain_Of a0 a1).1) ((chain_Of a0 a1).2)) && (!(bursarylaw34_lists a1 a2)))) rfl (eb (andF gd6).symm) ?_
              exact J k' hk'
      · intro hk J
        rcases Bool.eq_false_or_eq_true x4.2.2 with gd5 | gd5
        · refine Go.rx 20 { ws := [(0, { v := some (tb true) })] } [] [0, 1, 2, 7, 8, 9, 59] _ [(0, .sl 1 .shr a0.length (u8s a0)), (1, .sl 1 .shr a1.length (b8s .shr a1)), (2, .sl 1 .shr a2.length (b8s .shr a2)), (7, .sl 1 .shr x3.1.length (u8s x3.1)), (8, .sl 1 .shr x3.2.1.length (u8s x3.2.1)), (9, tb x3.2.2), (59, tb true)] [] hk rfl kr (.cons (eb gd5) .nil) ?_
          intro k' hk'
          refine Go.slotEq 59 (tb (x4.2.2 || (decide ((x4.1.length : Int) + (x4.2.1.length : Int) > 0)))) rfl (eb (orT gd5).symm) ?_
          exact J k' hk'
        · refine Go.rx 20 { ws := [(0, { v := some (tb false) }), (6, { v := some (ti ((x4.1.length : Int) + (x4.2.1.length : Int))) })] } [] [0, 1, 2, 7, 8, 9, 59] _ [(0, .sl 1 .shr a0.length (u8s a0)), (1, .sl 1 .shr a1.length (b8s .shr a1)), (2, .sl 1 .shr a2.length (b8s .shr a2)), (7, .sl 1 .shr x3.1.length (u8s x3.1)), (8, .sl 1 .shr x3.2.1.length (u8s x3.2.1)), (9, tb x3.2.2), (59, tb (decide ((x4.1.length : Int) + (x4.2.1.length : Int) > 0)))] [] hk rfl kr (.cons (eb gd5) (.cons trivial (.cons (iw ((x4.1.length : Int) + (x4.2.1.length : Int)) om) (.cons trivial .nil)))) ?_
          intro k' hk'
          refine Go.slotEq 59 (tb (x4.2.2 || (decide ((x4.1.length : Int) + (x4.2.1.length : Int) > 0)))) rfl (eb (orF gd5 rfl).symm) ?_
          exact J k' hk'
  · intro hk J
    rcases Bool.eq_false_or_eq_true (decide ((a0.length : Int) > 200)) with gd1 | gd1
    · have gd1p := of_decide_eq_true gd1
      refine Go.rx 20 { ws := [(2, { v := some (tb true) })] } [] [0, 1, 2, 33] _ [(0, .sl 1 .shr a0.length (u8s a0)), (1, .sl 1 .shr a1.length (b8s .shr a1)), (2, .sl 1 .shr a2.length (b8s .shr a2)), (33, tb true)] [] hk rfl kr (.cons trivial (.cons (eb gd1) .nil)) ?_
      intro k' hk'
      refine Go.slotEq 33 (tb ((decide ((a0.length : Int) > 200)) || ((bursarylaw34_bigList a1) || ((bursarylaw34_bigList a2) || ((decide ((a1.length : Int) > 12)) || (decide ((a2.length : Int) > 12))))))) rfl (eb (orT gd1).symm) ?_
      exact J k' hk'
    · have gd1p := of_decide_eq_false gd1
      rcases Bool.eq_false_or_eq_true (bursarylaw34_bigList a1) with gd2 | gd2
      · refine Go.rx 20 { ws := [(2, { v := some (tb false) }), (5, { v := some (tb true), call := some { ids := [], S := [], M := [], R := tb (bursarylaw34_bigList a1), H' := [] } })] } [] [0, 1, 2, 33] _ [(0, .sl 1 .shr a0.length (u8s a0)), (1, .sl 1 .shr a1.length (b8s .shr a1)), (2, .sl 1 .shr a2.length (b8s .shr a2)), (33, tb true)] [] hk rfl kr (.cons trivial (.cons (eb gd1) (.cons (bursarylaw34_bigList_m (g_l := .shr) a1) (.cons (sb : subN (idsL [.sl 1 .shr a1.length (b8s .shr a1)]) [] = true) (.cons (eb gd2) .nil))))) ?_
        intro k' hk'
        refine Go.slotEq 33 (tb ((decide ((a0.length : Int) > 200)) || ((bursarylaw34_bigList a1) || ((bursarylaw34_bigList a2) || ((decide ((a1.length : Int) > 12)) || (decide ((a2.length : Int) > 12))))))) rfl (eb (orF gd1 (orT gd2)).symm) ?_
        exact J k' hk'
      · rcases Bool.eq_false_or_eq_true (bursarylaw34_bigList a2) with gd3 | gd3
        · refine Go.rx 20 { ws := [(2, { v := some (tb false) }), (5, { v := some (tb false), call := some { ids := [], S := [], M := [], R := tb (bursarylaw34_bigList a1), H' := [] } }), (9, { v := some (tb true), call := some { ids := [], S := [], M := [], R := tb (bursarylaw34_bigList a2), H' := [] } })] } [] [0, 1, 2, 33] _ [(0, .sl 1 .shr a0.length (u8s a0)), (1, .sl 1 .shr a1.length (b8s .shr a1)), (2, .sl 1 .shr a2.length (b8s .shr a2)), (33, tb true)] [] hk rfl kr (.cons trivial (.cons (eb gd1) (.cons (bursarylaw34_bigList_m (g_l := .shr) a1) (.cons (sb : subN (idsL [.sl 1 .shr a1.length (b8s .shr a1)]) [] = true) (.cons (eb gd2) (.cons (bursarylaw34_bigList_m (g_l := .shr) a2) (.cons (sb : subN (idsL [.sl 1 .shr a2.length (b8s .shr a2)]) [] = true) (.cons (eb gd3) .nil)))))))) ?_
          intro k' hk'
          refine Go.slotEq 33 (tb ((decide ((a0.length : Int) > 200)) || ((bursarylaw34_bigList a1) || ((bursarylaw34_bigList a2) || ((decide ((a1.length : Int) > 12)) || (decide ((a2.length : Int) > 12))))))) rfl (eb (orF gd1 (orF gd2 (orT gd3))).symm) ?_
          exact J k' hk'
        · rcases Bool.eq_false_or_eq_true (decide ((a1.length : Int) > 12)) with gd4 | gd4
          · have gd4p := of_decide_eq_true gd4
            refine Go.rx 20 { ws := [(2, { v := some (tb false) }), (5, { v := some (tb false), call := some { ids := [], S := [], M := [], R := tb (bursarylaw34_bigList a1), H' := [] } }), (9, { v := some (tb false), call := some { ids := [], S := [], M := [], R := tb (bursarylaw34_bigList a2), H' := [] } }), (14, { v := some (tb true) })] } [] [0, 1, 2, 33] _ [(0, .sl 1 .shr a0.length (u8s a0)), (1, .sl 1 .shr a1.length (b8s .shr a1)), (2, .sl 1 .shr a2.length (b8s .shr a2)), (33, tb true)] [] hk rfl kr (.cons trivial (.cons (eb gd1) (.cons (bursarylaw34_bigList_m (g_l := .shr) a1) (.cons (sb : subN (idsL [.sl 1 .shr a1.length (b8s .shr a1)]) [] = true) (.cons (eb gd2) (.cons (bursarylaw34_bigList_m (g_l := .shr) a2) (.cons (sb : subN (idsL [.sl 1 .shr a2.length (b8s .shr a2)]) [] = true) (.cons (eb gd3) (.cons trivial (.cons (eb gd4) .nil)))))))))) ?_
            intro k' hk'
            refine Go.slotEq 33 (tb ((decide ((a0.length : Int) > 200)) || ((bursarylaw34_bigList a1) || ((bursarylaw34_bigList a2) || ((decide ((a1.length : Int) > 12)) || (decide ((a2.length : Int) > 12))))))) rfl (eb (orF gd1 (orF gd2 (orF gd3 (orT gd4)))).symm) ?_
            exact J k' hk'
          · have gd4p := of_decide_eq_false gd4
            refine Go.rx 20 { ws := [(2, { v := some (tb false) }), (5, { v := some (tb false), call := some { ids := [], S := [], M := [], R := tb (bursarylaw34_bigList a1), H' := [] } }), (9, { v := some (tb false), call := some { ids := [], S := [], M := [], R := tb (bursarylaw34_bigList a2), H' := [] } }), (14, { v := some (tb false) })] } [] [0, 1, 2, 33] _ [(0, .sl 1 .shr a0.length (u8s a0)), (1, .sl 1 .shr a1.length (b8s .shr a1)), (2, .sl 1 .shr a2.length (b8s .shr a2)), (33, tb (decide ((a2.length : Int) > 12)))] [] hk rfl kr (.cons trivial (.cons (eb gd1) (.cons (bursarylaw34_bigList_m (g_l := .shr) a1) (.cons (sb : subN (idsL [.sl 1 .shr a1.length (b8s .shr a1)]) [] = true) (.cons (eb gd2) (.cons (bursarylaw34_bigList_m (g_l := .shr) a2) (.cons (sb : subN (idsL [.sl 1 .shr a2.length (b8s .shr a2)]) [] = true) (.cons (eb gd3) (.cons trivial (.cons (eb gd4) (.cons trivial .nil))))))))))) ?_
            intro k' hk'
            refine Go.slotEq 33 (tb ((decide ((a0.length : Int) > 200)) || ((bursarylaw34_bigList a1) || ((bursarylaw34_bigList a2) || ((decide ((a1.length : Int) > 12)) || (decide ((a2.length : Int) > 12))))))) rfl (eb (orF gd1 (orF gd2 (orF gd3 (orF gd4 rfl)))).symm) ?_
            exact J k' hk'
attribute [irreducible] bursarylaw34_ChainApart
end Go.Proofs.YtdlnppcndcfikaaDoor

import Derived.Test.YtdlnppcndcfikaaDoorG9
set_option linter.unusedVariables false
set_option linter.unusedSimpArgs false
namespace Go.Proofs.YtdlnppcndcfikaaDoor
open Go Go.Vw Go.Proofs
theorem qg7_1 {p : Prop} (h : p := by first | assumption | exact nil_le | exact (fun i => Nat.le_trans ((fx1 ct121).2 i) (by decide)) | exact (fun i => Nat.le_trans ((fx2 ct1221).2 i) (by decide)) | exact slc_le (fun i => Nat.le_trans ((fx1 ct121).2 i) (by decide)) _ _ | exact (cons_le (by simp) nil_le) | exact app_le (app_le nil_le (fun i => Nat.le_trans ((fx1 ct121).2 i) (by decide))) (cons_le (by simp) nil_le) | exact app_le (app_le nil_le (fun i => Nat.le_trans ((fx1 ct121).2 i) (by decide))) (cons_le (by first | omega | (simp; done)) nil_le)) : p := h
theorem qg7_2 {p : Prop} (h : p := by first | omega | (simp only [List.length_append, List.length_cons, List.length_nil, slc_len]; omega) | (simp; done) | (simp; omega)) : p := h
theorem qg7_3 {p : Prop} (h : p := by first | omega | (simp; done) | (simp; omega)) : p := h
theorem qg7_4 {p : Prop} (h : p := by first | omega | (simp; done)) : p := h
noncomputable def bursarylaw34_ChainCuts_k1 (key : List UInt8) (l : List (List UInt8)) (more : List UInt8) (x2 : (UInt64 × List UInt8)) : Bool :=
  bnd (chain_Verify key l x2.1 x2.2) fun x3 =>
  bnd (chain_Verify key ([] ++ l ++ [more]) x2.1 x2.2) fun x4 =>
  x3 && ((!x4) && bursarylaw34_sure)
noncomputable def bursarylaw34_ChainCuts_l1 (key : List UInt8) (l : List (List UInt8)) (x2 : (UInt64 × List UInt8)) : Nat → Int → Lo Unit Bool
  | 0, _ => .brk default
  | ml1 + 1, i1 =>
    bif decide (i1 < (l.length : Int)) then
      bnd (chain_Verify key (slc l 0 i1) x2.1 x2.2) fun x5 =>
      bif x5 then
        Lo.ret false
      else
        bursarylaw34_ChainCuts_l1 key l x2 ml1 (i1 + 1)
    else
      Lo.brk ()
noncomputable def bursarylaw34_ChainCuts (key : List UInt8) (l : List (List UInt8)) (more : List UInt8) : Bool :=
  bnd (bursarylaw34_bigList l) fun x1 =>
  bif (decide ((key.length : Int) > 200)) || (x1 || ((decide ((l.length : Int) > 12)) || (decide ((more.length : Int) > 300)))) then
    bursarylaw34_sure
  else
    bnd (chain_Of key l) fun x2 =>
    Lo.el (bursarylaw34_ChainCuts_l1 key l x2 (((l.length : Int) - (0 : Int)).toNat + 1) 0) (fun z : Unit => bursarylaw34_ChainCuts_k1 key l more x2)
def bursarylaw34_ChainCuts_enc (x : Bool) : T × List (Nat × List T) := (tb x, [])
theorem bursarylaw34_ChainCuts_m (key : List UInt8) (l : List (List UInt8)) (more : List UInt8) : Meets Tryd.prog 7 [.sl 1 .shr key.length (u8s key), .sl 1 .shr l.length (b8s .shr l), .sl 1 .shr more.length (u8s more)] [] [] (tb (bursarylaw34_ChainCuts key l more)) [] := by
  refine Meets.enterX (E := E) (N := 61) (enc := bursarylaw34_ChainCuts_enc) (x := (bursarylaw34_ChainCuts key l more)) Tryd.func7 Tryd.call7 rfl rfl ?_
  intro Γ k hk
  refine Go.rx 20 {} [] [0, 1, 2] _ [(0, .sl 1 .shr key.length (u8s key)), (1, .sl 1 .shr l.length (b8s .shr l)), (2, .sl 1 .shr more.length (u8s more))] [] hk rfl kr .nil ?_
  clear hk; intro k hk
  refine Go.regJ 20 [(0, .sl 1 .shr key.length (u8s key)), (1, .sl 1 .shr l.length (b8s .shr l)), (2, .sl 1 .shr more.length (u8s more)), (25, tb ((decide ((key.length : Int) > 200)) || ((bursarylaw34_bigList l) || ((decide ((l.length : Int) > 12)) || (decide ((more.length : Int) > 300))))))] [] hk rfl ?_ ?_
  · clear hk; intro k hk
    refine Go.bnd (Pf := (PostX Γ bursarylaw34_ChainCuts_enc)) (v := (bursarylaw34_bigList l)) (fun x1 => [(0, .sl 1 .shr key.length (u8s key)), (1, .sl 1 .shr l.length (b8s .shr l)), (2, .sl 1 .shr more.length (u8s more)), (25, tb ((decide ((key.length : Int) > 200)) || (x1 || ((decide ((l.length : Int) > 12)) || (decide ((more.length : Int) > 300))))))]) (fun x1 => []) ?_
    intro x1 hx1
    have fx1 := bigList_fact l
    rw [← hx1] at fx1
    refine Go.br 20 (Pf := (PostX Γ bursarylaw34_ChainCuts_enc)) hk rfl rfl ?_ ?_ <;> clear hk <;> intro ct1 k hk
    · refine Go.rx 20 { ws := [(0, { call := some { ids := [], S := [], M := [], R := tb bursarylaw34_sure, H' := [] } })] } [] [6] _ [(6, tb bursarylaw34_sure)] [] hk rfl kr (.cons (bursarylaw34_sure_m) (.cons (sb : subN (idsL []) [] = true) .nil)) ?_
      clear hk; intro k hk
      exact Go.lvx 20 [] _ [tb bursarylaw34_sure] Tryd.func7 hk rfl kr .nil (T.Le.of_eq rfl) rfl rfl .nil
    · have ct11 : (decide ((key.length : Int) > 200)) = false := (Bool.or_eq_false_iff.1 ct1).1
      have ct12 : (x1 || ((decide ((l.length : Int) > 12)) || (decide ((more.length : Int) > 300)))) = false := (Bool.or_eq_false_iff.1 ct1).2
      have ct11p := of_decide_eq_false ct11
      have ct121 : x1 = false := (Bool.or_eq_false_iff.1 ct12).1
      have ct122 : ((decide ((l.length : Int) > 12)) || (decide ((more.length : Int) > 300))) = false := (Bool.or_eq_false_iff.1 ct12).2
      have ct1221 : (decide ((l.length : Int) > 12)) = false := (Bool.or_eq_false_iff.1 ct122).1
      have ct1222 : (decide ((more.length : Int) > 300)) = false := (Bool.or_eq_false_iff.1 ct122).2
      have ct1221p := of_decide_eq_false ct1221
      have ct1222p := of_decide_eq_false ct1222
      refine Go.rx 20 { ws := [(2, { call := some { ids := [], S := [], M := [], R := .agg (hD (chain_Of key l)), H' := [] } }), (3, { id := 10 })] } [] [0, 1, 2, 7] _ [(0, .sl 1 .shr key.length (u8s key)), (1, .sl 1 .shr l.length (b8s .shr l)), (2, .sl 1 .shr more.length (u8s more)), (7, .addr 10 0)] [(10, (hD (chain_Of key l)))] hk rfl kr (.cons (chain_Of_m (g_l := .shr) key l qg7_3 qg7_1 qg7_2) (.cons (sb : subN (idsL [.sl 1 .shr key.length (u8s key), .sl 1 .shr l.length (b8s .shr l)]) [] = true) .nil)) ?_
      clear hk; intro k hk
      refine Go.bnd (Pf := (PostX Γ bursarylaw34_ChainCuts_enc)) (v := (chain_Of key l)) (fun x2 => [(0, .sl 1 .shr key.length (u8s key)), (1, .sl 1 .shr l.length (b8s .shr l)), (2, .sl 1 .shr more.length (u8s more)), (7, .addr 10 0)]) (fun x2 => [(10, (hD x2))]) ?_
      intro x2 hx2
      refine Go.rx 20 {} [] [0, 1, 2, 7, 8] _ [(0, .sl 1 .shr key.length (u8s key)), (1, .sl 1 .shr l.length (b8s .shr l)), (2, .sl 1 .shr more.length (u8s more)), (7, .addr 10 0), (8, ti 0)] [(10, (hD x2))] hk rfl kr .nil ?_
      clear hk; intro k hk
      refine Go.loopX 20 hk rfl ?_
      clear hk; intro kl1 kxl1 hl1 hxl1
      have Xl1 : ∀ (_ : True), Go E Γ 7 61 [] ((PostX Γ bursarylaw34_ChainCuts_enc) (bursarylaw34_ChainCuts_k1 key l more x2)) kxl1 (stL [(0, .sl 1 .shr key.length (u8s key)), (1, .sl 1 .shr l.length (b8s .shr l)), (2, .sl 1 .shr more.length (u8s more)), (7, .addr 10 0)] [(10, (hD x2))]) := by
        intro _
        refine Go.regJ 20 [(6, tb ((chain_Verify key l x2.1 x2.2) && ((!(chain_Verify key ([] ++ l ++ [more]) x2.1 x2.2)) && bursarylaw34_sure)))] [] hxl1 rfl ?_ ?_
        · clear hxl1; intro kxl1 hxl1
          refine Go.bnd (Pf := (PostX Γ bursarylaw34_ChainCuts_enc)) (v := (chain_Verify key l x2.1 x2.2)) (fun x3 => [(6, tb (x3 && ((!(chain_Verify key ([] ++ l ++ [more]) x2.1 x2.2)) && bursarylaw34_sure)))]) (fun x3 => []) ?_
          intro x3 hx3
          refine Go.bnd (Pf := (PostX Γ bursarylaw34_ChainCuts_enc)) (v := (chain_Verify key ([] ++ l ++ [more]) x2.1 x2.2)) (fun x4 => [(6, tb (x3 && ((!x4) && bursarylaw34_sure)))]) (fun x4 => []) ?_
          intro x4 hx4
          exact Go.lvx 20 [] _ [tb (x3 && ((!x4) && bursarylaw34_sure))] Tryd.func7 hxl1 rfl kr .nil (T.Le.of_eq rfl) rfl rfl .nil
        · intro hxl1 J
          rcases Bool.eq_false_or_eq_true (chain_Verify key l x2.1 x2.2) with gd4 | gd4
          · rcases Bool.eq_false_or_eq_true (!(chain_Verify key ([] ++ l ++ [more]) x2.1 x2.2)) with gd5 | gd5
            · have gd5' : (chain_Verify key ([] ++ l ++ [more]) x2.1 x2.2) = false := ntT gd5
              refine Go.dx 20 [0, 1, 2, 3, 4, 5, 6, 7, 8, 9, 10, 11, 12, 13, 14, 15, 16, 17, 18, 19] { ws := [(3, { v := some (tb true), call := some { ids := [], S := [], M := [], R := tb (chain_Verify key l x2.1 x2.2), H' := [] } }), (6, { id := 11 }), (8, { v := some (.ref 11 1 0 (([] ++ l).length)), c := some (b8s .shr ([] ++ l)), id := 11, sym := true }), (10, { id := 12 }), (11, { v := some (.ref 11 1 0 (([] ++ l ++ [more]).length)), c := some (b8s .shr ([] ++ l ++ [more])), id := 11, sym := true }), (13, { v := some (tb false), call := some { ids := [], S := [], M := [11], R := tb (chain_Verify key ([] ++ l ++ [more]) x2.1 x2.2), H' := [] } }), (17, { call := some { ids := [], S := [], M := [], R := tb bursarylaw34_sure, H' := [] } })], pg := [11], fd := some [11] } [10, 12, 11] [6] _ [(6, tb bursarylaw34_sure)] [] hxl1 rfl kr (.cons (chain_Verify_m (g_l := .shr) key l x2.1 x2.2 qg7_3 qg7_1 qg7_2) (.cons (sb : subN (idsL [.sl 1 .shr key.length (u8s key), .sl 1 .shr l.length (b8s .shr l), .agg (hD x2)]) [] = true) (.cons (eb gd4) (.cons (by first | decide | simp : 0 + 0 * 1 ≤ (([] : List T)).length) (.cons (mp_scal l (fun _ => rfl) : scalL (b8s .shr l) = true) (.cons (om : (0 + l.length) * 24 ≤ 140737488355328) (.cons (mp_app' (g := (fun c : List UInt8 => tl .shr c)) (m := 0) [] l rfl rfl) (.cons (mp_mem (i := 11) (g := (fun c : List UInt8 => tl .shr c)) ([] ++ l) (fun _ => rfl)) (.cons (by first | rfl | (simp; done) | (refine congrArg (fun q => T.ref 11 1 0 q) ?_; simp <;> omega) : T.ref 11 1 0 (0 + l.length) = .ref 11 1 0 (([] ++ l).length)) (.cons (Nat.le_of_ble_eq_true rfl : 0 + 1 * 1 ≤ ([.sl 1 .shr more.length (u8s more)] : List T).length) (.cons (by simp only [List.length_map]; omega : 0 + ([] ++ l).length * 1 ≤ (b8s .shr ([] ++ l)).length) (.cons (rfl : scalL [.sl 1 .shr more.length (u8s more)] = true) (.cons (om : (([] ++ l).length + 1) * 24 ≤ 140737488355328) (.cons (mp_app (g := (fun c : List UInt8 => tl .shr c)) ([] ++ l) [more] rfl) (.cons (mp_mem (i := 11) (g := (fun c : List UInt8 => tl .shr c)) ([] ++ l ++ [more]) (fun _ => rfl)) (.cons (by first | rfl | (simp; done) | (refine congrArg (fun q => T.ref 11 1 0 q) ?_; simp <;> omega) : T.ref 11 1 0 (([] ++ l).length + 1) = .ref 11 1 0 (([] ++ l ++ [more]).length)) (.cons (Meets.eqA (A := [.sl 1 .shr key.length (u8s key), .sl 1 .brw (([] ++ l ++ [more]).length) (sub (b8s .shr ([] ++ l ++ [more])) 0 ((([] ++ l ++ [more]).length) * 1)), .agg (hD x2)]) (by first | rfl | (simp only [mp_all]; done) | (simp only [mp_all]; rfl) | simp only [fl_all (fun _ => rfl)]) (chain_Verify_m (g_l := .brw) key ([] ++ l ++ [more]) x2.1 x2.2 qg7_3 qg7_1 qg7_2)) (.cons (mp_ids (g := (fun c : List UInt8 => tl .shr c)) ([] ++ l ++ [more]) (fun _ => rfl)) (.cons (by simp only [List.length_map]; first | omega | (simp <;> omega) | (simp at * <;> omega) | (split <;> omega) | (split <;> (first | omega | (simp <;> omega) | (simp at * <;> omega))) : 0 + (([] ++ l ++ [more]).length) * 1 ≤ (b8s .shr ([] ++ l ++ [more])).length) (.cons (⟨trivial, ⟨trivial, ⟨trivial, ⟨trivial, ⟨trivial, ⟨trivial, ⟨trivial, ⟨trivial, ⟨trivial, ⟨trivial, ⟨trivial, ⟨trivial, ⟨trivial, ⟨trivial, ⟨trivial, ⟨trivial, ⟨trivial, ⟨trivial, ⟨trivial, ⟨trivial, ⟨trivial, ⟨trivial, ⟨trivial, ⟨trivial, ⟨trivial, ⟨trivial, ⟨trivial, ⟨trivial, ⟨trivial, ⟨trivial, ⟨trivial, ⟨trivial, ⟨trivial, trivial⟩⟩⟩⟩⟩⟩⟩⟩⟩⟩⟩⟩⟩⟩⟩⟩⟩⟩⟩⟩⟩⟩⟩⟩⟩⟩⟩⟩⟩⟩⟩⟩⟩ : T.snapOk (fun _ => none) [] (.agg (hD x2))) (.cons (sb : subN (idsL [.sl 1 .shr key.length (u8s key), .sl 1 .brw (([] ++ l ++ [more]).length) (sub (b8s .shr ([] ++ l ++ [more])) 0 ((([] ++ l ++ [more]).length) * 1)), .agg (hD x2)]) [] = true) (.cons (nb : T.noB (tb (chain_Verify key ([] ++ l ++ [more]) x2.1 x2.2)) = true) (.cons (eb gd5') (.cons (bursarylaw34_sure_m) (.cons (sb : subN (idsL []) [] = true) (.cons (mp_mem (i := 10) (g := (fun c : List UInt8 => tl .shr c)) ([] ++ l ++ [more]) (fun _ => rfl)) (.cons (mp_mem (i := 12) (g := (fun c : List UInt8 => tl .shr c)) ([] ++ l ++ [more]) (fun _ => rfl)) .nil))))))))))))))))))))))))))) ?_
              intro k' hk'
              refine Go.slotEq 6 (tb ((chain_Verify key l x2.1 x2.2) && ((!(chain_Verify key ([] ++ l ++ [more]) x2.1 x2.2)) && bursarylaw34_sure))) rfl (eb (andT gd4 (andT gd5 rfl)).symm) ?_
              exact J k' hk'
            · have gd5' : (chain_Verify key ([] ++ l ++ [more]) x2.1 x2.2) = true := ntF gd5
              refine Go.dx 20 [0, 1, 2, 3, 4, 5, 6, 7, 8, 9, 10, 11, 12, 13, 14, 15, 16, 17, 18, 19] { ws := [(3, { v := some (tb true), call := some { ids := [], S := [], M := [], R := tb (chain_Verify key l x2.1 x2.2), H' := [] } }), (6, { id := 11 }), (8, { v := some (.ref 11 1 0 (([] ++ l).length)), c := some (b8s .shr ([] ++ l)), id := 11, sym := true }), (10, { id := 12 }), (11, { v := some (.ref 11 1 0 (([] ++ l ++ [more]).length)), c := some (b8s .shr ([] ++ l ++ [more])), id := 11, sym := true }), (13, { v := some (tb true), call := some { ids := [], S := [], M := [11], R := tb (chain_Verify key ([] ++ l ++ [more]) x2.1 x2.2), H' := [] } })], pg := [11], fd := some [11] } [10, 12, 11] [6] _ [(6, tb false)] [] hxl1 rfl kr (.cons (chain_Verify_m (g_l := .shr) key l x2.1 x2.2 qg7_3 qg7_1 qg7_2) (.cons (sb : subN (idsL [.sl 1 .shr key.length (u8s key), .sl 1 .shr l.length (b8s .shr l), .agg (hD x2)]) [] = true) (.cons (eb gd4) (.cons (by first | decide | simp : 0 + 0 * 1 ≤ (([] : List T)).length) (.cons (mp_scal l (fun _ => rfl) : scalL (b8s .shr l) = true) (.cons (om : (0 + l.length) * 24 ≤ 140737488355328) (.cons (mp_app' (g := (fun c : List UInt8 => tl .shr c)) (m := 0) [] l rfl rfl) (.cons (mp_mem (i := 11) (g := (fun c : List UInt8 => tl .shr c)) ([] ++ l) (fun _ => rfl)) (.cons (by first | rfl | (simp; done) | (refine congrArg (fun q => T.ref 11 1 0 q) ?_; simp <;> omega) : T.ref 11 1 0 (0 + l.length) = .ref 11 1 0 (([] ++ l).length)) (.cons (Nat.le_of_ble_eq_true rfl : 0 + 1 * 1 ≤ ([.sl 1 .shr more.length (u8s more)] : List T).length) (.cons (by simp only [List.length_map]; omega : 0 + ([] ++ l).length * 1 ≤ (b8s .shr ([] ++ l)).length) (.cons (rfl : scalL [.sl 1 .shr more.length (u8s more)] = true) (.cons (om : (([] ++ l).length + 1) * 24 ≤ 140737488355328) (.cons (mp_app (g := (fun c : List UInt8 => tl .shr c)) ([] ++ l) [more] rfl) (.cons (mp_mem (i := 11) (g := (fun c : List UInt8 => tl .shr c)) ([] ++ l ++ [more]) (fun _ => rfl)) (.cons (by first | rfl | (simp; done) | (refine congrArg (fun q => T.ref 11 1 0 q) ?_; simp <;> omega) : T.ref 11 1 0 (([] ++ l).length + 1) = .ref 11 1 0 (([] ++ l ++ [more]).length)) (.cons (Meets.eqA (A := [.sl 1 .shr key.length (u8s key), .sl 1 .brw (([] ++ l ++ [more]).length) (sub (b8s .shr ([] ++ l ++ [more])) 0 ((([] ++ l ++ [more]).length) * 1)), .agg (hD x2)]) (by first | rfl | (simp only [mp_all]; done) | (simp only [mp_all]; rfl) | simp only [fl_all (fun _ => rfl)]) (chain_Verify_m (g_l := .brw) key ([] ++ l ++ [more]) x2.1 x2.2 qg7_3 qg7_1 qg7_2)) (.cons (mp_ids (g := (fun c : List UInt8 => tl .shr c)) ([] ++ l ++ [more]) (fun _ => rfl)) (.cons (by simp only [List.length_map]; first | omega | (simp <;> omega) | (simp at * <;> omega) | (split <;> omega) | (split <;> (first | omega | (simp <;> omega) | (simp at * <;> omega))) : 0 + (([] ++ l ++ [more]).length) * 1 ≤ (b8s .shr ([] ++ l ++ [more])).length) (.cons (⟨trivial, ⟨trivial, ⟨trivial, ⟨trivial, ⟨trivial, ⟨trivial, ⟨trivial, ⟨trivial, ⟨trivial, ⟨trivial, ⟨trivial, ⟨trivial, ⟨trivial, ⟨trivial, ⟨trivial, ⟨trivial, ⟨trivial, ⟨trivial, ⟨trivial, ⟨trivial, ⟨trivial, ⟨trivial, ⟨trivial, ⟨trivial, ⟨trivial, ⟨trivial, ⟨trivial, ⟨trivial, ⟨trivial, ⟨trivial, ⟨trivial, ⟨trivial, ⟨trivial, trivial⟩⟩⟩⟩⟩⟩⟩⟩⟩⟩⟩⟩⟩⟩⟩⟩⟩⟩⟩⟩⟩⟩⟩⟩⟩⟩⟩⟩⟩⟩⟩⟩⟩ : T.snapOk (fun _ => none) [] (.agg (hD x2))) (.cons (sb : subN (idsL [.sl 1 .shr key.length (u8s key), .sl 1 .brw (([] ++ l ++ [more]).length) (sub (b8s .shr ([] ++ l ++ [more])) 0 ((([] ++ l ++ [more]).length) * 1)), .agg (hD x2)]) [] = true) (.cons (nb : T.noB (tb (chain_Verify key ([] ++ l ++ [more]) x2.1 x2.2)) = true) (.cons (eb gd5') (.cons (mp_mem (i := 10) (g := (fun c : List UInt8 => tl .shr c)) ([] ++ l ++ [more]) (fun _ => rfl)) (.cons (mp_mem (i := 12) (g := (fun c : List UInt8 => tl .shr c)) ([] ++ l ++ [more]) (fun _ => rfl)) .nil))))))))))))))))))))))))) ?_
              intro k' hk'
              refine Go.slotEq 6 (tb ((chain_Verify key l x2.1 x2.2) && ((!(chain_Verify key ([] ++ l ++ [more]) x2.1 x2.2)) && bursarylaw34_sure))) rfl (eb (andT gd4 (andF gd5)).symm) ?_
              exact J k' hk'
          · refine Go.dx 20 [0, 1, 2, 3, 4, 5, 6, 7, 8, 9, 10, 11, 12, 13, 14, 15, 16, 17, 18, 19] { ws := [(3, { v := some (tb false), call := some { ids := [], S := [], M := [], R := tb (chain_Verify key l x2.1 x2.2), H' := [] } })] } [10] [6] _ [(6, tb false)] [] hxl1 rfl kr (.cons (chain_Verify_m (g_l := .shr) key l x2.1 x2.2 qg7_3 qg7_1 qg7_2) (.cons (sb : subN (idsL [.sl 1 .shr key.length (u8s key), .sl 1 .shr l.length (b8s .shr l), .agg (hD x2)]) [] = true) (.cons (eb gd4) .nil))) ?_
            intro k' hk'
            refine Go.slotEq 6 (tb ((chain_Verify key l x2.1 x2.2) && ((!(chain_Verify key ([] ++ l ++ [more]) x2.1 x2.2)) && bursarylaw34_sure))) rfl (eb (andF gd4).symm) ?_
            exact J k' hk'
      have Ll1 : ∀ (ml1 : Nat) (i1 : Int), (0 ≤ i1) → (((l.length : Int) - i1).toNat < ml1) → Go E Γ 7 61 [] ((PostX Γ bursarylaw34_ChainCuts_enc) (Lo.el (bursarylaw34_ChainCuts_l1 key l x2 ml1 i1) (fun z : Unit => bursarylaw34_ChainCuts_k1 key l more x2))) kl1 (stL [(0, .sl 1 .shr key.length (u8s key)), (1, .sl 1 .shr l.length (b8s .shr l)), (2, .sl 1 .shr more.length (u8s more)), (7, .addr 10 0), (8, ti i1)] [(10, (hD x2))]) := by
        intro ml1
        induction ml1 with
        | zero => intro i1 i0l1 hml1; exact absurd hml1 (Nat.not_lt_zero _)
        | succ ml1 ihl1 =>
          intro i1 i0l1 hml1
          rw [bursarylaw34_ChainCuts_l1]
          refine Go.round hl1 ?_
          intro k hk
          refine Go.rx 20 {} [] [0, 1, 2, 7, 8, 33] _ [(0, .sl 1 .shr key.length (u8s key)), (1, .sl 1 .shr l.length (b8s .shr l)), (2, .sl 1 .shr more.length (u8s more)), (7, .addr 10 0), (8, ti i1), (33, tb (decide (i1 < (l.length : Int))))] [(10, (hD x2))] hk rfl kr (.cons trivial .nil) ?_
          clear hk; intro k hk
          refine Go.br 20 (Pf := (fun z : Lo (Unit) (Bool) => (PostX Γ bursarylaw34_ChainCuts_enc) (Lo.el z (fun z : Unit => bursarylaw34_ChainCuts_k1 key l more x2)))) hk rfl rfl ?_ ?_ <;> clear hk <;> intro ct2 k hk
          · have ct2p := of_decide_eq_true ct2
            refine Go.dx 20 [0, 1, 2, 3, 4, 5] { ws := [(3, { v := some (.sl 1 .shr (slc l 0 i1).length (b8s .shr (slc l 0 i1))) }), (5, { call := some { ids := [], S := [], M := [], R := tb (chain_Verify key (slc l 0 i1) x2.1 x2.2), H' := [] } })] } [] [0, 1, 2, 7, 8, 41] _ [(0, .sl 1 .shr key.length (u8s key)), (1, .sl 1 .shr l.length (b8s .shr l)), (2, .sl 1 .shr more.length (u8s more)), (7, .addr 10 0), (8, ti i1), (41, tb (chain_Verify key (slc l 0 i1) x2.1 x2.2))] [(10, (hD x2))] hk rfl kr (.cons (om : 0 ≤ (0 : Int) ∧ (0 : Int) ≤ i1 ∧ i1 ≤ (l.length : Int) ∧ (l.length : Int) ≤ (l.length : Nat)) (.cons (sl_slc (t := .shr) (g := (fun c : List UInt8 => tl .shr c)) (lo := 0) (hi := i1) l om rfl rfl) (.cons (chain_Verify_m (g_l := .shr) key (slc l 0 i1) x2.1 x2.2 qg7_3 qg7_1 qg7_2) (.cons (sb : subN (idsL [.sl 1 .shr key.length (u8s key), .sl 1 .shr (slc l 0 i1).length (b8s .shr (slc l 0 i1)), .agg (hD x2)]) [] = true) .nil)))) ?_
            clear hk; intro k hk
            refine Go.bnd (Pf := (fun z : Lo (Unit) (Bool) => (PostX Γ bursarylaw34_ChainCuts_enc) (Lo.el z (fun z : Unit => bursarylaw34_ChainCuts_k1 key l more x2)))) (v := (chain_Verify key (slc l 0 i1) x2.1 x2.2)) (fun x5 => [(0, .sl 1 .shr key.length (u8s key)), (1, .sl 1 .shr l.length (b8s .shr l)), (2, .sl 1 .shr more.length (u8s more)), (7, .addr 10 0), (8, ti i1), (41, tb x5)]) (fun x5 => [(10, (hD x2))]) ?_
            intro x5 hx5
            refine Go.br 20 (Pf := (fun z : Lo (Unit) (Bool) => (PostX Γ bursarylaw34_ChainCuts_enc) (Lo.el z (fun z : Unit => bursarylaw34_ChainCuts_k1 key l more x2)))) hk rfl rfl ?_ ?_ <;> clear hk <;> intro ct3 k hk
            · refine Go.rx 20 {} [10] [6] _ [(6, tb false)] [] hk rfl kr .nil ?_
              clear hk; intro k hk
              exact Go.lvx 20 [] _ [tb false] Tryd.func7 hk rfl kr .nil (T.Le.of_eq rfl) rfl rfl .nil
            · refine Go.rx 20 { ws := [(1, { v := some (ti (i1 + 1)) })] } [] [0, 1, 2, 7, 8] _ [(0, .sl 1 .shr key.length (u8s key)), (1, .sl 1 .shr l.length (b8s .shr l)), (2, .sl 1 .shr more.length (u8s more)), (7, .addr 10 0), (8, ti (i1 + 1))] [(10, (hD x2))] hk rfl kr (.cons trivial (.cons (iw (i1 + 1) om) .nil)) ?_
              clear hk; intro k hk
              exact Go.join 20 hk hl1 rfl (ihl1 (i1 + 1) om om)
          · have ct2p := of_decide_eq_false ct2
            refine Go.keepN [0, 1, 2, 7] (L' := [(0, .sl 1 .shr key.length (u8s key)), (1, .sl 1 .shr l.length (b8s .shr l)), (2, .sl 1 .shr more.length (u8s more)), (7, .addr 10 0)]) rfl ?_
            exact Go.exitX (Pf := (PostX Γ bursarylaw34_ChainCuts_enc)) (F := fun z : Unit => bursarylaw34_ChainCuts_k1 key l more x2) (a := ()) (Go.join 20 hk hxl1 rfl (Xl1 trivial))
      exact Ll1 _ 0 om (Nat.lt_succ_self _)
  · intro hk J
    rcases Bool.eq_false_or_eq_true (decide ((key.length : Int) > 200)) with gd1 | gd1
    · have gd1p := of_decide_eq_true gd1
      refine Go.rx 20 { ws := [(2, { v := some (tb true) })] } [] [0, 1, 2, 25] _ [(0, .sl 1 .shr key.length (u8s key)), (1, .sl 1 .shr l.length (b8s .shr l)), (2, .sl 1 .shr more.length (u8s more)), (25, tb true)] [] hk rfl kr (.cons trivial (.cons (eb gd1) .nil)) ?_
      intro k' hk'
      refine Go.slotEq 25 (tb ((decide ((key.length : Int) > 200)) || ((bursarylaw34_bigList l) || ((decide ((l.length : Int) > 12)) || (decide ((more.length : Int) > 300)))))) rfl (eb (orT gd1).symm) ?_
      exact J k' hk'
    · have gd1p := of_decide_eq_false gd1
      rcases Bool.eq_false_or_eq_true (bursarylaw34_bigList l) with gd2 | gd2
      · refine Go.rx 20 { ws := [(2, { v := some (tb false) }), (5, { v := some (tb true), call := some { ids := [], S := [], M := [], R := tb (bursarylaw34_bigList l), H' := [] } })] } [] [0, 1, 2, 25] _ [(0, .sl 1 .shr key.length (u8s key)), (1, .sl 1 .shr l.length (b8s .shr l)), (2, .sl 1 .shr more.length (u8s more)), (25, tb true)] [] hk rfl kr (.cons trivial (.cons (eb gd1) (.cons (bursarylaw34_bigList_m (g_l := .shr) l) (.cons (sb : subN (idsL [.sl 1 .shr l.length (b8s .shr l)]) [] = true) (.cons (eb gd2) .nil))))) ?_
        intro k' hk'
        refine Go.slotEq 25 (tb ((decide ((key.length : Int) > 200)) || ((bursarylaw34_bigList l) || ((decide ((l.length : Int) > 12)) || (decide ((more.length : Int) > 300)))))) rfl (eb (orF gd1 (orT gd2)).symm) ?_
        exact J k' hk'
      · rcases Bool.eq_false_or_eq_true (decide ((l.length : Int) > 12)) with gd3 | gd3
        · have gd3p := of_decide_eq_true gd3
          refine Go.rx 20 { ws := [(2, { v := some (tb false) }), (5, { v := some (tb false), call := some { ids := [], S := [], M := [], R := tb (bursarylaw34_bigList l), H' := [] } }), (10, { v := some (tb true) })] } [] [0, 1, 2, 25] _ [(0, .sl 1 .shr key.length (u8s key)), (1, .sl 1 .shr l.length (b8s .shr l)), (2, .sl 1 .shr more.length (u8s more)), (25, tb true)] [] hk rfl kr (.cons trivial (.cons (eb gd1) (.cons (bursarylaw34_bigList_m (g_l := .shr) l) (.cons (sb : subN (idsL [.sl 1 .shr l.length (b8s .shr l)]) [] = true) (.cons (eb gd2) (.cons trivial (.cons (eb gd3) .nil))))))) ?_
          intro k' hk'
          refine Go.slotEq 25 (tb ((decide ((key.length : Int) > 200)) || ((bursarylaw34_bigList l) || ((decide ((l.length : Int) > 12)) || (decide ((more.length : Int) > 300)))))) rfl (eb (orF gd1 (orF gd2 (orT gd3))).symm) ?_
          exact J k' hk'
        · have gd3p := of_decide_eq_false gd3
          refine Go.rx 20 { ws := [(2, { v := some (tb false) }), (5, { v := some (tb false), call := some { ids := [], S := [], M := [], R := tb (bursarylaw34_bigList l), H' := [] } }), (10, { v := some (tb false) })] } [] [0, 1, 2, 25] _ [(0, .sl 1 .shr key.length (u8s key)), (1, .sl 1 .shr l.length (b8s .shr l)), (2, .sl 1 .shr more.length (u8s more)), (25, tb (decide ((more.length : Int) > 300)))] [] hk rfl kr (.cons trivial (.cons (eb gd1) (.cons (bursarylaw34_bigList_m (g_l := .shr) l) (.cons (sb : subN (idsL [.sl 1 .shr l.length (b8s .shr l)]) [] = true) (.cons (eb gd2) (.cons trivial (.cons (eb gd3) (.cons trivial .nil)))))))) ?_
          intro k' hk'
          refine Go.slotEq 25 (tb ((decide ((key.length : Int) > 200)) || ((bursarylaw34_bigList l) || ((decide ((l.length : Int) > 12)) || (decide ((more.length : Int) > 300)))))) rfl (eb (orF gd1 (orF gd2 (orF gd3 rfl))).symm) ?_
          exact J k' hk'
attribute [irreducible] bursarylaw34_ChainCuts_k1 bursarylaw34_ChainCuts_l1 bursarylaw34_ChainCuts
end Go.Proofs.YtdlnppcndcfikaaDoor

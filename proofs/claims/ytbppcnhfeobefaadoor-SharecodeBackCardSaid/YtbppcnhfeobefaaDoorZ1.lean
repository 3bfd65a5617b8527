import Derived.Test.YtbppcnhfeobefaaDoorY
set_option linter.unusedVariables false
set_option linter.unusedSimpArgs false
namespace Go.Proofs.YtbppcnhfeobefaaDoor
open Go Go.Vw Go.Proofs
noncomputable def sharecode_check (s0 : UInt8) (s1 : UInt32) (s2 : List UInt8) : Int :=
  bif (s0 == 0) || ((decide ((s2.length : Int) < 1)) || (decide ((s2.length : Int) > 64))) then
    4
  else
    0
def sharecode_check_enc (x : Int) : T × List (Nat × List T) := (er 149 x, [])
theorem sharecode_check_m {g_s2 : Tag} (s0 : UInt8) (s1 : UInt32) (s2 : List UInt8) : Meets Tryd.prog 115 [.agg [t8 s0, t32 s1, .sl 1 g_s2 s2.length (u8s s2)]] [] [] (er 149 (sharecode_check s0 s1 s2)) [] := by
  refine Meets.enterX (E := E) (N := 19) (enc := sharecode_check_enc) (x := (sharecode_check s0 s1 s2)) Tryd.func115 Tryd.call115 rfl rfl ?_
  intro Γ k hk
  refine Go.rx 20 { ws := [(0, { id := 10 })] } [] [1] _ [(1, .addr 10 0)] [(10, [t8 s0, t32 s1, .sl 1 g_s2 s2.length (u8s s2)])] hk rfl kr .nil ?_
  clear hk; intro k hk
  refine Go.regJ 20 [(17, tb ((s0 == 0) || ((decide ((s2.length : Int) < 1)) || (decide ((s2.length : Int) > 64)))))] [] hk rfl ?_ ?_
  · clear hk; intro k hk
    refine Go.br 20 (Pf := (PostX Γ sharecode_check_enc)) hk rfl rfl ?_ ?_ <;> clear hk <;> intro ct1 k hk
    · refine Go.rx 20 {} [] [2] _ [(2, er 149 4)] [] hk rfl kr .nil ?_
      clear hk; intro k hk
      exact Go.lvx 20 [] _ [er 149 4] Tryd.func115 hk rfl kr .nil (T.Le.of_eq rfl) rfl (by first | rfl | (simp only [sharecode_check_enc, T.ids, idsL, er_ids, List.append_nil, List.nil_append]; first | rfl | (rw [mp_ids _ (fun _ => rfl)]; rfl))) .nil
    · have ct11 : (s0 == 0) = false := (Bool.or_eq_false_iff.1 ct1).1
      have ct12 : ((decide ((s2.length : Int) < 1)) || (decide ((s2.length : Int) > 64))) = false := (Bool.or_eq_false_iff.1 ct1).2
      have ct121 : (decide ((s2.length : Int) < 1)) = false := (Bool.or_eq_false_iff.1 ct12).1
      have ct122 : (decide ((s2.length : Int) > 64)) = false := (Bool.or_eq_false_iff.1 ct12).2
      have ct121p := of_decide_eq_false ct121
      have ct122p := of_decide_eq_false ct122
      refine Go.rx 20 {} [] [2] _ [(2, .leaf .nilIface)] [] hk rfl kr .nil ?_
      clear hk; intro k hk
      exact Go.lvx 20 [] _ [.leaf .nilIface] Tryd.func115 hk rfl kr .nil (T.Le.of_eq rfl) rfl rfl .nil
  · intro hk J
    rcases Bool.eq_false_or_eq_true (s0 == 0) with gd1 | gd1
    · refine Go.rx 20 { ws := [(2, { v := some (tb true) })] } [10] [17] _ [(17, tb true)] [] hk rfl kr (.cons trivial (.cons ((eqB8 s0 0).trans (eb gd1)) .nil)) ?_
      intro k' hk'
      refine Go.slotEq 17 (tb ((s0 == 0) || ((decide ((s2.length : Int) < 1)) || (decide ((s2.length : Int) > 64))))) rfl (eb (orT gd1).symm) ?_
      exact J k' hk'
    · rcases Bool.eq_false_or_eq_true (decide ((s2.length : Int) < 1)) with gd2 | gd2
      · have gd2p := of_decide_eq_true gd2
        refine Go.rx 20 { ws := [(2, { v := some (tb false) }), (7, { v := some (tb true) })] } [10] [17] _ [(17, tb true)] [] hk rfl kr (.cons trivial (.cons ((eqB8 s0 0).trans (eb gd1)) (.cons trivial (.cons (eb gd2) .nil)))) ?_
        intro k' hk'
        refine Go.slotEq 17 (tb ((s0 == 0) || ((decide ((s2.length : Int) < 1)) || (decide ((s2.length : Int) > 64))))) rfl (eb (orF gd1 (orT gd2)).symm) ?_
        exact J k' hk'
      · have gd2p := of_decide_eq_false gd2
        refine Go.rx 20 { ws := [(2, { v := some (tb false) }), (7, { v := some (tb false) })] } [10] [17] _ [(17, tb (decide ((s2.length : Int) > 64)))] [] hk rfl kr (.cons trivial (.cons ((eqB8 s0 0).trans (eb gd1)) (.cons trivial (.cons (eb gd2) (.cons trivial .nil))))) ?_
        intro k' hk'
        refine Go.slotEq 17 (tb ((s0 == 0) || ((decide ((s2.length : Int) < 1)) || (decide ((s2.length : Int) > 64))))) rfl (eb (orF gd1 (orF gd2 rfl)).symm) ?_
        exact J k' hk'
theorem check_fact (a : UInt8) (g : UInt32) (c : List UInt8) : sharecode_check a g c = 0 → 1 ≤ c.length ∧ c.length ≤ 64 := by
  rw [sharecode_check]
  cases e : ((a == 0) || ((decide ((c.length : Int) < 1)) || (decide ((c.length : Int) > 64)))) with
  | true => intro h; exact absurd h (by decide)
  | false => intro _; simp at e; omega
attribute [irreducible] sharecode_check
noncomputable def sharecode_Encode (s0 : UInt8) (s1 : UInt32) (s2 : List UInt8) : List UInt8 × Int :=
  bnd (sharecode_check s0 s1 s2) fun x1 =>
  bif !(decide (x1 = 0)) then
    ([], x1)
  else
    bnd (slices_Concat ([([115, 104] : List UInt8), ([(shr32 s1 24).toUInt8, (shr32 s1 16).toUInt8, (shr32 s1 8).toUInt8, s1.toUInt8, s0, u8i (s2.length : Int)] : List UInt8), s2] : List (List UInt8))) fun x2 =>
    (x2, 0)
def sharecode_Encode_enc (x : List UInt8 × Int) : T × List (Nat × List T) := (.tup [.sl 1 .shr x.1.length (u8s x.1), er 149 x.2], [])
theorem sharecode_Encode_m (s0 : UInt8) (s1 : UInt32) (s2 : List UInt8) : Meets Tryd.prog 73 [.agg [t8 s0, t32 s1, .sl 1 .shr s2.length (u8s s2)]] [] [] (.tup [.sl 1 .shr ((sharecode_Encode s0 s1 s2).1).length (u8s ((sharecode_Encode s0 s1 s2).1)), er 149 ((sharecode_Encode s0 s1 s2).2)]) [] := by
  refine Meets.enterX (E := E) (N := 37) (enc := sharecode_Encode_enc) (x := (sharecode_Encode s0 s1 s2)) Tryd.func73 Tryd.call73 rfl rfl ?_
  intro Γ k hk
  refine Go.rx 20 { ws := [(0, { id := 10 })] } [] [1] _ [(1, .addr 10 0)] [(10, [t8 s0, t32 s1, .sl 1 .shr s2.length (u8s s2)])] hk rfl kr .nil ?_
  clear hk; intro k hk
  refine Go.rx 20 { ws := [(1, { call := some { ids := [], S := [], M := [], R := er 149 (sharecode_check s0 s1 s2), H' := [] } })] } [] [1, 4] _ [(1, .addr 10 0), (4, er 149 (sharecode_check s0 s1 s2))] [(10, [t8 s0, t32 s1, .sl 1 .shr s2.length (u8s s2)])] hk rfl kr (.cons (sharecode_check_m (g_s2 := .shr) s0 s1 s2) (.cons (sb : subN (idsL [.agg [t8 s0, t32 s1, .sl 1 .shr s2.length (u8s s2)]]) [] = true) .nil)) ?_
  clear hk; intro k hk
  refine Go.bnd (Pf := (PostX Γ sharecode_Encode_enc)) (v := (sharecode_check s0 s1 s2)) (fun x1 => [(1, .addr 10 0), (4, er 149 x1)]) (fun x1 => [(10, [t8 s0, t32 s1, .sl 1 .shr s2.length (u8s s2)])]) ?_
  intro x1 hx1
  have fx1 := check_fact s0 s1 s2
  rw [← hx1] at fx1
  refine Go.rx 20 { ws := [(1, { er := some (149, x1) })] } [] [1, 4, 9] _ [(1, .addr 10 0), (4, er 149 x1), (9, tb (!(decide (x1 = 0))))] [(10, [t8 s0, t32 s1, .sl 1 .shr s2.length (u8s s2)])] hk rfl kr (.cons (⟨rfl, rfl⟩ : (er 149 x1) = er 149 x1 ∧ (.leaf .nilIface : T) = .leaf .nilIface) .nil) ?_
  clear hk; intro k hk
  refine Go.br 20 (Pf := (PostX Γ sharecode_Encode_enc)) hk rfl rfl ?_ ?_ <;> clear hk <;> intro ct1 k hk
  · have ct1' : (decide (x1 = 0)) = false := ntT ct1
    have ct1'p := of_decide_eq_false ct1'
    refine Go.rx 20 { ps := [3, 4, 10] } [10] [2, 3] _ [(2, .leaf (.slice none 0 0)), (3, er 149 x1)] [] hk rfl kr (.cons (er_mem (i := 10) 149 x1) (.cons (er_mem (i := 10) 149 x1) (.cons (er_mem (i := 10) 149 x1) .nil))) ?_
    clear hk; intro k hk
    exact Go.lvx 20 [] _ [.leaf (.slice none 0 0), er 149 x1] Tryd.func73 hk rfl kr .nil (T.Le.tup (.cons (T.Le.nil _ _) (.cons (T.Le.of_eq rfl) .nil))) rfl (by first | rfl | (simp only [sharecode_Encode_enc, T.ids, idsL, er_ids, List.append_nil, List.nil_append]; first | rfl | (rw [mp_ids _ (fun _ => rfl)]; rfl))) .nil
  · have ct1' : (decide (x1 = 0)) = true := ntF ct1
    have ct1'p := of_decide_eq_true ct1'
    refine Go.rx 20 {} [] [1, 5] _ [(1, .addr 10 0), (5, t32 s1)] [(10, [t8 s0, t32 s1, .sl 1 .shr s2.length (u8s s2)])] hk rfl kr .nil ?_
    clear hk; intro k hk
    refine Go.rx 20 { ws := [(0, { id := 11 }), (1, { v := some (.sl 1 .shr ([115, 104] : List UInt8).length (u8s ([115, 104] : List UInt8))), gv := true }), (3, { v := some (t32 (shr32 s1 24)) }), (4, { v := some (t8 ((shr32 s1 24).toUInt8)) }), (6, { v := some (t32 (shr32 s1 16)) }), (7, { v := some (t8 ((shr32 s1 16).toUInt8)) }), (9, { v := some (t32 (shr32 s1 8)) }), (10, { v := some (t8 ((shr32 s1 8).toUInt8)) }), (12, { v := some (t8 s1.toUInt8) }), (18, { v := some (t8 (u8i (s2.length : Int))) }), (19, { v := some (.sl 1 .shr ([(shr32 s1 24).toUInt8, (shr32 s1 16).toUInt8, (shr32 s1 8).toUInt8, s1.toUInt8, s0, u8i (s2.length : Int)] : List UInt8).length (u8s ([(shr32 s1 24).toUInt8, (shr32 s1 16).toUInt8, (shr32 s1 8).toUInt8, s1.toUInt8, s0, u8i (s2.length : Int)] : List UInt8))), id := 12, gv := true }), (22, { id := 13 }), (23, { call := some { ids := [], S := [], M := [13], R := .ref 14 1 0 ((slices_Concat ([([115, 104] : List UInt8), ([(shr32 s1 24).toUInt8, (shr32 s1 16).toUInt8, (shr32 s1 8).toUInt8, s1.toUInt8, s0, u8i (s2.length : Int)] : List UInt8), s2] : List (List UInt8))).length), H' := [(14, u8s (slices_Concat ([([115, 104] : List UInt8), ([(shr32 s1 24).toUInt8, (shr32 s1 16).toUInt8, (shr32 s1 8).toUInt8, s1.toUInt8, s0, u8i (s2.length : Int)] : List UInt8), s2] : List (List UInt8))))] } })], pg := [14], fd := some [11] } [10, 12, 13] [2, 3] _ [(2, .ref 14 1 0 ((slices_Concat ([([115, 104] : List UInt8), ([(shr32 s1 24).toUInt8, (shr32 s1 16).toUInt8, (shr32 s1 8).toUInt8, s1.toUInt8, s0, u8i (s2.length : Int)] : List UInt8), s2] : List (List UInt8))).length)), (3, .leaf .nilIface)] [(14, u8s (slices_Concat ([([115, 104] : List UInt8), ([(shr32 s1 24).toUInt8, (shr32 s1 16).toUInt8, (shr32 s1 8).toUInt8, s1.toUInt8, s0, u8i (s2.length : Int)] : List UInt8), s2] : List (List UInt8))))] hk rfl kr (.cons (⟨rfl, Nat.le_of_ble_eq_true rfl⟩ : idsL [t8 115, t8 104] = [] ∧ 0 + 2 * 1 ≤ ([t8 115, t8 104] : List T).length) (.cons (rfl : T.sl 1 .shr 2 (sub [t8 115, t8 104] 0 (2 * 1)) = .sl 1 .shr ([115, 104] : List UInt8).length (u8s ([115, 104] : List UInt8))) (.cons (by decide : 0 ≤ (24 : Int)) (.cons (shrT32 s1 24) (.cons (cv32_8 (shr32 s1 24)) (.cons (by decide : 0 ≤ (16 : Int)) (.cons (shrT32 s1 16) (.cons (cv32_8 (shr32 s1 16)) (.cons (by decide : 0 ≤ (8 : Int)) (.cons (shrT32 s1 8) (.cons (cv32_8 (shr32 s1 8)) (.cons (cv32_8 s1) (.cons (cvi_8 (s2.length : Int)) (.cons (⟨rfl, Nat.le_of_ble_eq_true rfl⟩ : idsL [t8 ((shr32 s1 24).toUInt8), t8 ((shr32 s1 16).toUInt8), t8 ((shr32 s1 8).toUInt8), t8 s1.toUInt8, t8 s0, t8 (u8i (s2.length : Int))] = [] ∧ 6 * 1 ≤ ([t8 ((shr32 s1 24).toUInt8), t8 ((shr32 s1 16).toUInt8), t8 ((shr32 s1 8).toUInt8), t8 s1.toUInt8, t8 s0, t8 (u8i (s2.length : Int))] : List T).length) (.cons (rfl : T.sl 1 .shr 6 (sub [t8 ((shr32 s1 24).toUInt8), t8 ((shr32 s1 16).toUInt8), t8 ((shr32 s1 8).toUInt8), t8 s1.toUInt8, t8 s0, t8 (u8i (s2.length : Int))] 0 (6 * 1)) = .sl 1 .shr ([(shr32 s1 24).toUInt8, (shr32 s1 16).toUInt8, (shr32 s1 8).toUInt8, s1.toUInt8, s0, u8i (s2.length : Int)] : List UInt8).length (u8s ([(shr32 s1 24).toUInt8, (shr32 s1 16).toUInt8, (shr32 s1 8).toUInt8, s1.toUInt8, s0, u8i (s2.length : Int)] : List UInt8))) (.cons (Meets.sw [(99, 14)] (Meets.eqA (A := [.sl 1 .brw 3 (sub ([.sl 1 .shr ([115, 104] : List UInt8).length (u8s ([115, 104] : List UInt8)), .sl 1 .shr ([(shr32 s1 24).toUInt8, (shr32 s1 16).toUInt8, (shr32 s1 8).toUInt8, s1.toUInt8, s0, u8i (s2.length : Int)] : List UInt8).length (u8s ([(shr32 s1 24).toUInt8, (shr32 s1 16).toUInt8, (shr32 s1 8).toUInt8, s1.toUInt8, s0, u8i (s2.length : Int)] : List UInt8)), .sl 1 .shr s2.length (u8s s2)]) 0 (3 * 1))]) (by first | rfl | (simp only [mp_all]; done) | (simp only [mp_all]; rfl)) (slices_Concat_m (g_slices := .brw) ([([115, 104] : List UInt8), ([(shr32 s1 24).toUInt8, (shr32 s1 16).toUInt8, (shr32 s1 8).toUInt8, s1.toUInt8, s0, u8i (s2.length : Int)] : List UInt8), s2] : List (List UInt8)) (by first | (simp; done) | (simp <;> omega) | omega) (by refine (cons_le ?_ (cons_le ?_ (cons_le ?_ nil_le))) <;> first | omega | (simp only [List.length_replicate, List.length_cons, List.length_nil, List.length_append]; omega) | (simp <;> omega)))) : Meets Tryd.prog 91 [.sl 1 .brw 3 (sub ([.sl 1 .shr ([115, 104] : List UInt8).length (u8s ([115, 104] : List UInt8)), .sl 1 .shr ([(shr32 s1 24).toUInt8, (shr32 s1 16).toUInt8, (shr32 s1 8).toUInt8, s1.toUInt8, s0, u8i (s2.length : Int)] : List UInt8).length (u8s ([(shr32 s1 24).toUInt8, (shr32 s1 16).toUInt8, (shr32 s1 8).toUInt8, s1.toUInt8, s0, u8i (s2.length : Int)] : List UInt8)), .sl 1 .shr s2.length (u8s s2)]) 0 (3 * 1))] [] [] (.ref 14 1 0 ((slices_Concat ([([115, 104] : List UInt8), ([(shr32 s1 24).toUInt8, (shr32 s1 16).toUInt8, (shr32 s1 8).toUInt8, s1.toUInt8, s0, u8i (s2.length : Int)] : List UInt8), s2] : List (List UInt8))).length)) [(14, u8s (slices_Concat ([([115, 104] : List UInt8), ([(shr32 s1 24).toUInt8, (shr32 s1 16).toUInt8, (shr32 s1 8).toUInt8, s1.toUInt8, s0, u8i (s2.length : Int)] : List UInt8), s2] : List (List UInt8))))]) (.cons (rfl : idsL ([.sl 1 .shr ([115, 104] : List UInt8).length (u8s ([115, 104] : List UInt8)), .sl 1 .shr ([(shr32 s1 24).toUInt8, (shr32 s1 16).toUInt8, (shr32 s1 8).toUInt8, s1.toUInt8, s0, u8i (s2.length : Int)] : List UInt8).length (u8s ([(shr32 s1 24).toUInt8, (shr32 s1 16).toUInt8, (shr32 s1 8).toUInt8, s1.toUInt8, s0, u8i (s2.length : Int)] : List UInt8)), .sl 1 .shr s2.length (u8s s2)]) = []) (.cons (by decide : 0 + 3 * 1 ≤ 3) (.cons (sb : subN (idsL [.sl 1 .brw 3 (sub ([.sl 1 .shr ([115, 104] : List UInt8).length (u8s ([115, 104] : List UInt8)), .sl 1 .shr ([(shr32 s1 24).toUInt8, (shr32 s1 16).toUInt8, (shr32 s1 8).toUInt8, s1.toUInt8, s0, u8i (s2.length : Int)] : List UInt8).length (u8s ([(shr32 s1 24).toUInt8, (shr32 s1 16).toUInt8, (shr32 s1 8).toUInt8, s1.toUInt8, s0, u8i (s2.length : Int)] : List UInt8)), .sl 1 .shr s2.length (u8s s2)]) 0 (3 * 1))]) [] = true) (.cons (nb : T.noB (.ref 14 1 0 ((slices_Concat ([([115, 104] : List UInt8), ([(shr32 s1 24).toUInt8, (shr32 s1 16).toUInt8, (shr32 s1 8).toUInt8, s1.toUInt8, s0, u8i (s2.length : Int)] : List UInt8), s2] : List (List UInt8))).length)) = true) (.cons (mp_noB (g := (fun c : UInt8 => T.leaf (.int .u8 c.toNat))) (slices_Concat ([([115, 104] : List UInt8), ([(shr32 s1 24).toUInt8, (shr32 s1 16).toUInt8, (shr32 s1 8).toUInt8, s1.toUInt8, s0, u8i (s2.length : Int)] : List UInt8), s2] : List (List UInt8))) (fun _ => rfl)) (.cons (mp_mem (i := 10) (g := (fun c : UInt8 => T.leaf (.int .u8 c.toNat))) (slices_Concat ([([115, 104] : List UInt8), ([(shr32 s1 24).toUInt8, (shr32 s1 16).toUInt8, (shr32 s1 8).toUInt8, s1.toUInt8, s0, u8i (s2.length : Int)] : List UInt8), s2] : List (List UInt8))) (fun _ => rfl)) (.cons (mp_mem (i := 12) (g := (fun c : UInt8 => T.leaf (.int .u8 c.toNat))) (slices_Concat ([([115, 104] : List UInt8), ([(shr32 s1 24).toUInt8, (shr32 s1 16).toUInt8, (shr32 s1 8).toUInt8, s1.toUInt8, s0, u8i (s2.length : Int)] : List UInt8), s2] : List (List UInt8))) (fun _ => rfl)) (.cons (mp_mem (i := 13) (g := (fun c : UInt8 => T.leaf (.int .u8 c.toNat))) (slices_Concat ([([115, 104] : List UInt8), ([(shr32 s1 24).toUInt8, (shr32 s1 16).toUInt8, (shr32 s1 8).toUInt8, s1.toUInt8, s0, u8i (s2.length : Int)] : List UInt8), s2] : List (List UInt8))) (fun _ => rfl)) .nil)))))))))))))))))))))))) ?_
    clear hk; intro k hk
    refine Go.bnd (Pf := (PostX Γ sharecode_Encode_enc)) (v := (slices_Concat ([([115, 104] : List UInt8), ([(shr32 s1 24).toUInt8, (shr32 s1 16).toUInt8, (shr32 s1 8).toUInt8, s1.toUInt8, s0, u8i (s2.length : Int)] : List UInt8), s2] : List (List UInt8)))) (fun x2 => [(2, .ref 14 1 0 x2.length), (3, .leaf .nilIface)]) (fun x2 => [(14, u8s x2)]) ?_
    intro x2 hx2
    have fx2 := concat_eq ([([115, 104] : List UInt8), ([(shr32 s1 24).toUInt8, (shr32 s1 16).toUInt8, (shr32 s1 8).toUInt8, s1.toUInt8, s0, u8i (s2.length : Int)] : List UInt8), s2] : List (List UInt8))
    rw [← hx2] at fx2
    have gx2 := congrArg List.length fx2
    simp only [List.flatten_cons, List.flatten_nil, List.append_nil, List.length_append, List.length_cons, List.length_nil] at fx2 gx2
    refine Go.frz [] [] 2 14 (u8s x2) _ [(2, .dead), (3, .leaf .nilIface)] [] rfl rfl (mp_ids (g := (fun c : UInt8 => T.leaf (.int .u8 c.toNat))) x2 (fun _ => rfl)) (by simp only [List.length_map]; omega) (mp_all (g := (fun c : UInt8 => T.leaf (.int .u8 c.toNat))) x2) kr .nil ?_
    exact Go.lvx 20 [] _ [.sl 1 .shr x2.length (u8s x2), .leaf .nilIface] Tryd.func73 hk rfl kr .nil (T.Le.tup (.cons (T.Le.of_eq rfl) (.cons (T.Le.of_eq rfl) .nil))) rfl rfl .nil
theorem encode_eq (a : UInt8) (g : UInt32) (c : List UInt8) : sharecode_Encode a g c = if sharecode_check a g c = 0 then ([115, 104] ++ ([(shr32 g 24).toUInt8, (shr32 g 16).toUInt8, (shr32 g 8).toUInt8, g.toUInt8, a, u8i (c.length : Int)] ++ c), 0) else ([], sharecode_check a g c) := by
  rw [sharecode_Encode]
  simp only [bnd_eq, concat_eq]
  by_cases h : sharecode_check a g c = 0
  · rw [if_pos h, decide_eq_true h]; simp
  · rw [if_neg h, decide_eq_false h]; rfl
theorem shr84 (c : UInt8) : (shr8 c 4).toNat < 16 := by
  have h : (shr8 c 4).toNat = c.toNat / 16 % 256 := by unfold shr8; rfl
  have := c.toNat_lt; omega
theorem and15 (c : UInt8) : (c &&& 15).toNat < 16 := by
  rw [UInt8.toNat_and]; exact Nat.lt_succ_of_le Nat.and_le_right
theorem encode_fact (a : UInt8) (g : UInt32) (c : List UInt8) : (sharecode_Encode a g c).1.length ≤ 72 := by
  rw [encode_eq]
  split
  · have := check_fact a g c (by assumption); simp; omega
  · simp
attribute [irreducible] sharecode_Encode
noncomputable def sharecode_Decode_k1 (b : List UInt8) (x1 : List UInt8) (c11_1_2 : UInt32) : (UInt8 × UInt32 × List UInt8) × Int :=
  bnd (sharecode_check (b.getD 6 0) c11_1_2 x1) fun x2 =>
  bif !(decide (x2 = 0)) then
    ((0, 0, []), x2)
  else
    ((b.getD 6 0, c11_1_2, x1), 0)
noncomputable def sharecode_Decode_l1 (b : List UInt8) : Nat → Int → UInt32 → Lo UInt32 ((UInt8 × UInt32 × List UInt8) × Int)
  | 0, _, _ => .brk default
  | ml1 + 1, t391, c11_1_1 =>
    bif decide (t391 < ((slc b 2 6).length : Int)) then
      sharecode_Decode_l1 b ml1 (t391 + 1) ((shl32 c11_1_1 8) ||| (((slc b 2 6).getD t391.toNat 0).toUInt32))
    else
      Lo.brk c11_1_1
noncomputable def sharecode_Decode (b : List UInt8) : (UInt8 × UInt32 × List UInt8) × Int :=
  bif (decide ((b.length : Int) < 8)) || (((slc b 0 2) != [115, 104]) || (((b.getD 7 0).toNat : Int) != ((b.length : Int) - 8))) then
    ((0, 0, []), 4)
  else
    bnd (id (slc b 8 (b.length : Int))) fun x1 =>
    Lo.el (sharecode_Decode_l1 b ((((slc b 2 6).length : Int) - (0 : Int)).toNat + 1) 0 0) (fun z : UInt32 => sharecode_Decode_k1 b x1 z)
def sharecode_Decode_enc (x : (UInt8 × UInt32 × List UInt8) × Int) : T × List (Nat × List T) := (.tup [.agg [t8 x.1.1, t32 x.1.2.1, .sl 1 .shr x.1.2.2.length (u8s x.1.2.2)], er 149 x.2], [])
theorem sharecode_Decode_m {g_b : Tag} (b : List UInt8) (hb : b.length ≤ 4000) : Meets Tryd.prog 76 [.sl 1 g_b b.length (u8s b)] [] [] (.tup [.agg [t8 (((sharecode_Decode b).1).1), t32 (((sharecode_Decode b).1).2.1), .sl 1 .shr (((sharecode_Decode b).1).2.2).length (u8s (((sharecode_Decode b).1).2.2))], er 149 ((sharecode_Decode b).2)]) [] := by
  refine Meets.enterX (E := E) (N := 58) (enc := sharecode_Decode_enc) (x := (sharecode_Decode b)) Tryd.func76 Tryd.call76 rfl rfl ?_
  intro Γ k hk
  have hz1 := slc_len b 8 (b.length : Int)
  have hz2 := slc_len b 2 6
  refine Go.rx 20 { ws := [(0, { id := 10 })] } [] [0, 2] _ [(0, .sl 1 g_b b.length (u8s b)), (2, .addr 10 0)] [(10, [t8 0, t32 0, .leaf (.slice none 0 0)])] hk rfl kr .nil ?_
  clear hk; intro k hk
  refine Go.regJ 20 [(0, .sl 1 g_b b.length (u8s b)), (2, .addr 10 0), (26, tb ((decide ((b.length : Int) < 8)) || (((slc b 0 2) != [115, 104]) || (((b.getD 7 0).toNat : Int) != ((b.length : Int) - 8)))))] [(10, [t8 0, t32 0, .leaf (.slice none 0 0)])] hk rfl ?_ ?_
  · clear hk; intro k hk
    refine Go.br 20 (Pf := (PostX Γ sharecode_Decode_enc)) hk rfl rfl ?_ ?_ <;> clear hk <;> intro ct1 k hk
    · refine Go.rx 20 {} [] [2, 3] _ [(2, .addr 10 0), (3, er 149 4)] [(10, [t8 0, t32 0, .leaf (.slice none 0 0)])] hk rfl kr .nil ?_
      clear hk; intro k hk
      exact Go.lvx 20 [] _ [.agg [t8 0, t32 0, .leaf (.slice none 0 0)], er 149 4] Tryd.func76 hk rfl kr (.cons (by decide : 0 + 3 ≤ 3) .nil) (T.Le.tup (.cons (T.Le.agg (.cons (T.Le.of_eq rfl) (.cons (T.Le.of_eq rfl) (.cons (T.Le.nil _ _) .nil)))) (.cons (T.Le.of_eq rfl) .nil))) rfl (by first | rfl | (simp only [sharecode_Decode_enc, T.ids, idsL, er_ids, List.append_nil, List.nil_append]; first | rfl | (rw [mp_ids _ (fun _ => rfl)]; rfl))) .nil
    · have ct11 : (decide ((b.length : Int) < 8)) = false := (Bool.or_eq_false_iff.1 ct1).1
      have ct12 : (((slc b 0 2) != [115, 104]) || (((b.getD 7 0).toNat : Int) != ((b.length : Int) - 8))) = false := (Bool.or_eq_false_iff.1 ct1).2
      have ct11p := of_decide_eq_false ct11
      have ct121 : ((slc b 0 2) != [115, 104]) = false := (Bool.or_eq_false_iff.1 ct12).1
      have ct122 : (((b.getD 7 0).toNat : Int) != ((b.length : Int) - 8)) = false := (Bool.or_eq_false_iff.1 ct12).2
      have ct122p := neIf ct122
      refine Go.dx 20 [0, 1, 2, 3, 4, 5, 6, 7, 8] { ws := [(2, { v := some (t8 (b.getD 6 0)) }), (4, { v := some (.sl 1 g_b (slc b 8 (b.length : Int)).length (u8s (slc b 8 (b.length : Int)))) }), (5, { call := some { ids := [], S := [], M := [], R := .sl 1 .shr (id (slc b 8 (b.length : Int))).length (u8s (id (slc b 8 (b.length : Int)))), H' := [] } }), (7, { id := 11 })] } [] [0, 2, 4] _ [(0, .sl 1 g_b b.length (u8s b)), (2, .addr 10 0), (4, .addr 11 0)] [(10, [t8 0, t32 0, .leaf (.slice none 0 0)]), (11, [t8 (b.getD 6 0), t32 0, .sl 1 .shr (id (slc b 8 (b.length : Int))).length (u8s (id (slc b 8 (b.length : Int))))])] hk rfl kr (.cons (om : 0 ≤ (6 : Int) ∧ (6 : Int) < ((b.length : Nat) : Int)) (.cons (part1 (kr : (E.ti 5).agg = false) (mp_get (g := (fun c : UInt8 => T.leaf (.int .u8 c.toNat))) (k := 6) (n := 6) b (0 : UInt8) rfl om)) (.cons (om : 0 ≤ (8 : Int) ∧ (8 : Int) ≤ (b.length : Int) ∧ (b.length : Int) ≤ (b.length : Int) ∧ (b.length : Int) ≤ (b.length : Nat)) (.cons (sl_slc (t := g_b) (g := (fun c : UInt8 => T.leaf (.int .u8 c.toNat))) (lo := 8) (hi := (b.length : Int)) b om rfl rfl) (.cons (Meets.sw [] (clone_m (g_s := g_b) (slc b 8 (b.length : Int)) om) : Meets Tryd.prog 85 [.sl 1 g_b (slc b 8 (b.length : Int)).length (u8s (slc b 8 (b.length : Int)))] [] [] (.sl 1 .shr (id (slc b 8 (b.length : Int))).length (u8s (id (slc b 8 (b.length : Int))))) []) (.cons (sb : subN (idsL [.sl 1 g_b (slc b 8 (b.length : Int)).length (u8s (slc b 8 (b.length : Int)))]) [] = true) .nil)))))) ?_
      clear hk; intro k hk
      refine Go.bnd (Pf := (PostX Γ sharecode_Decode_enc)) (v := (id (slc b 8 (b.length : Int)))) (fun x1 => [(0, .sl 1 g_b b.length (u8s b)), (2, .addr 10 0), (4, .addr 11 0)]) (fun x1 => [(10, [t8 0, t32 0, .leaf (.slice none 0 0)]), (11, [t8 (b.getD 6 0), t32 0, .sl 1 .shr x1.length (u8s x1)])]) ?_
      intro x1 hx1
      have gx1 : x1 = (slc b 8 (b.length : Int)) := hx1
      refine Go.rx 20 { ws := [(1, { v := some (.sl 1 g_b (slc b 2 6).length (u8s (slc b 2 6))) })] } [] [2, 4, 37, 38, 39] _ [(2, .addr 10 0), (4, .addr 11 0), (37, .sl 1 g_b (slc b 2 6).length (u8s (slc b 2 6))), (38, ti ((slc b 2 6).length : Int)), (39, ti 0)] [(10, [t8 0, t32 0, .leaf (.slice none 0 0)]), (11, [t8 (b.getD 6 0), t32 0, .sl 1 .shr x1.length (u8s x1)])] hk rfl kr (.cons (om : 0 ≤ (2 : Int) ∧ (2 : Int) ≤ 6 ∧ 6 ≤ (b.length : Int) ∧ (b.length : Int) ≤ (b.length : Nat)) (.cons (sl_slc (t := g_b) (g := (fun c : UInt8 => T.leaf (.int .u8 c.toNat))) (lo := 2) (hi := 6) b om rfl rfl) .nil)) ?_
      clear hk; intro k hk
      refine Go.loopX 20 hk rfl ?_
      clear hk; intro kl1 kxl1 hl1 hxl1
      have Xl1 : ∀ (c11_1_2 : UInt32), Go E Γ 76 58 [] ((PostX Γ sharecode_Decode_enc) (sharecode_Decode_k1 b x1 c11_1_2)) kxl1 (stL [(2, .addr 10 0), (4, .addr 11 0)] [(10, [t8 0, t32 0, .leaf (.slice none 0 0)]), (11, [t8 (b.getD 6 0), t32 c11_1_2, .sl 1 .shr x1.length (u8s x1)])]) := by
        intro c11_1_2
        refine Go.rx 20 { ws := [(1, { call := some { ids := [], S := [], M := [], R := er 149 (sharecode_check (b.getD 6 0) c11_1_2 x1), H' := [] } })] } [] [2, 4, 7] _ [(2, .addr 10 0), (4, .addr 11 0), (7, er 149 (sharecode_check (b.getD 6 0) c11_1_2 x1))] [(10, [t8 0, t32 0, .leaf (.slice none 0 0)]), (11, [t8 (b.getD 6 0), t32 c11_1_2, .sl 1 .shr x1.length (u8s x1)])] hxl1 rfl kr (.cons (sharecode_check_m (g_s2 := .shr) (b.getD 6 0) c11_1_2 x1) (.cons (sb : subN (idsL [.agg [t8 (b.getD 6 0), t32 c11_1_2, .sl 1 .shr x1.length (u8s x1)]]) [] = true) .nil)) ?_
        clear hxl1; intro kxl1 hxl1
        refine Go.bnd (Pf := (PostX Γ sharecode_Decode_enc)) (v := (sharecode_check (b.getD 6 0) c11_1_2 x1)) (fun x2 => [(2, .addr 10 0), (4, .addr 11 0), (7, er 149 x2)]) (fun x2 => [(10, [t8 0, t32 0, .leaf (.slice none 0 0)]), (11, [t8 (b.getD 6 0), t32 c11_1_2, .sl 1 .shr x1.length (u8s x1)])]) ?_
        intro x2 hx2
        have fx2 := check_fact (b.getD 6 0) c11_1_2 x1
        rw [← hx2] at fx2
        refine Go.rx 20 { ws := [(1, { er := some (149, x2) })] } [] [2, 4, 7, 54] _ [(2, .addr 10 0), (4, .addr 11 0), (7, er 149 x2), (54, tb (!(decide (x2 = 0))))] [(10, [t8 0, t32 0, .leaf (.slice none 0 0)]), (11, [t8 (b.getD 6 0), t32 c11_1_2, .sl 1 .shr x1.length (u8s x1)])] hxl1 rfl kr (.cons (⟨rfl, rfl⟩ : (er 149 x2) = er 149 x2 ∧ (.leaf .nilIface : T) = .leaf .nilIface) .nil) ?_
        clear hxl1; intro kxl1 hxl1
        refine Go.br 20 (Pf := (PostX Γ sharecode_Decode_enc)) hxl1 rfl rfl ?_ ?_ <;> clear hxl1 <;> intro ct2 kxl1 hxl1
        · have ct2' : (decide (x2 = 0)) = false := ntT ct2
          have ct2'p := of_decide_eq_false ct2'
          refine Go.rx 20 { ps := [3, 7, 56] } [11] [2, 3] _ [(2, .addr 10 0), (3, er 149 x2)] [(10, [t8 0, t32 0, .leaf (.slice none 0 0)])] hxl1 rfl kr (.cons (er_mem (i := 11) 149 x2) (.cons (er_mem (i := 11) 149 x2) (.cons (er_mem (i := 11) 149 x2) .nil))) ?_
          clear hxl1; intro kxl1 hxl1
          exact Go.lvx 20 [] _ [.agg [t8 0, t32 0, .leaf (.slice none 0 0)], er 149 x2] Tryd.func76 hxl1 rfl kr (.cons (by decide : 0 + 3 ≤ 3) .nil) (T.Le.tup (.cons (T.Le.agg (.cons (T.Le.of_eq rfl) (.cons (T.Le.of_eq rfl) (.cons (T.Le.nil _ _) .nil)))) (.cons (T.Le.of_eq rfl) .nil))) rfl (by first | rfl | (simp only [sharecode_Decode_enc, T.ids, idsL, er_ids, List.append_nil, List.nil_append]; first | rfl | (rw [mp_ids _ (fun _ => rfl)]; rfl))) .nil
        · have ct2' : (decide (x2 = 0)) = true := ntF ct2
          have ct2'p := of_decide_eq_true ct2'
          refine Go.rx 20 { ps := [7] } [11] [2, 3] _ [(2, .addr 10 0), (3, .leaf .nilIface)] [(10, [t8 (b.getD 6 0), t32 c11_1_2, .sl 1 .shr x1.length (u8s x1)])] hxl1 rfl kr (.cons (er_mem (i := 11) 149 x2) .nil) ?_
          clear hxl1; intro kxl1 hxl1
          exact Go.lvx 20 [] _ [.agg [t8 (b.getD 6 0), t32 c11_1_2, .sl 1 .shr x1.length (u8s x1)], .leaf .nilIface] Tryd.func76 hxl1 rfl kr (.cons (by decide : 0 + 3 ≤ 3) .nil) (T.Le.tup (.cons (T.Le.of_eq rfl) (.cons (T.Le.of_eq rfl) .nil))) rfl rfl .nil
      have Ll1 : ∀ (ml1 : Nat) (t391 : Int) (c11_1_1 : UInt32), (0 ≤ t391) → ((((slc b 2 6).length : Int) - t391).toNat < ml1) → Go E Γ 76 58 [] ((PostX Γ sharecode_Decode_enc) (Lo.el (sharecode_Decode_l1 b ml1 t391 c11_1_1) (fun z : UInt32 => sharecode_Decode_k1 b x1 z))) kl1 (stL [(2, .addr 10 0), (4, .addr 11 0), (37, .sl 1 g_b (slc b 2 6).length (u8s (slc b 2 6))), (38, ti ((slc b 2 6).length : Int)), (39, ti t391)] [(10, [t8 0, t32 0, .leaf (.slice none 0 0)]), (11, [t8 (b.getD 6 0), t32 c11_1_1, .sl 1 .shr x1.length (u8s x1)])]) := by
        intro ml1
        induction ml1 with
        | zero => intro t391 c11_1_1 i0l1 hml1; exact absurd hml1 (Nat.not_lt_zero _)
        | succ ml1 ihl1 =>
          intro t391 c11_1_1 i0l1 hml1
          rw [sharecode_Decode_l1]
          refine Go.round hl1 ?_
          intro k hk
          refine Go.rx 20 {} [] [2, 4, 37, 38, 39, 40] _ [(2, .addr 10 0), (4, .addr 11 0), (37, .sl 1 g_b (slc b 2 6).length (u8s (slc b 2 6))), (38, ti ((slc b 2 6).length : Int)), (39, ti t391), (40, tb (decide (t391 < ((slc b 2 6).length : Int))))] [(10, [t8 0, t32 0, .leaf (.slice none 0 0)]), (11, [t8 (b.getD 6 0), t32 c11_1_1, .sl 1 .shr x1.length (u8s x1)])] hk rfl kr (.cons trivial .nil) ?_
          clear hk; intro k hk
          refine Go.br 20 (Pf := (fun z : Lo (UInt32) ((UInt8 × UInt32 × List UInt8) × Int) => (PostX Γ sharecode_Decode_enc) (Lo.el z (fun z : UInt32 => sharecode_Decode_k1 b x1 z)))) hk rfl rfl ?_ ?_ <;> clear hk <;> intro ct3 k hk
          · have ct3p := of_decide_eq_true ct3
            refine Go.rx 20 { ws := [(1, { v := some (t8 ((slc b 2 6).getD t391.toNat 0)) })] } [] [2, 4, 6, 37, 38, 39] _ [(2, .addr 10 0), (4, .addr 11 0), (6, t8 ((slc b 2 6).getD t391.toNat 0)), (37, .sl 1 g_b (slc b 2 6).length (u8s (slc b 2 6))), (38, ti ((slc b 2 6).length : Int)), (39, ti t391)] [(10, [t8 0, t32 0, .leaf (.slice none 0 0)]), (11, [t8 (b.getD 6 0), t32 c11_1_1, .sl 1 .shr x1.length (u8s x1)])] hk rfl kr (.cons (om : 0 ≤ (t391 : Int) ∧ (t391 : Int) < (((slc b 2 6).length : Nat) : Int)) (.cons (part1 (kr : (E.ti 5).agg = false) (mp_get (g := (fun c : UInt8 => T.leaf (.int .u8 c.toNat))) (k := t391.toNat * 1) (n := t391.toNat) (slc b 2 6) (0 : UInt8) (by omega) om)) .nil)) ?_
            clear hk; intro k hk
            refine Go.rx 20 { ws := [(2, { v := some (t32 (shl32 c11_1_1 8)) }), (4, { v := some (t32 (((slc b 2 6).getD t391.toNat 0).toUInt32)) }), (5, { v := some (t32 ((shl32 c11_1_1 8) ||| (((slc b 2 6).getD t391.toNat 0).toUInt32))) })] } [] [2, 4, 37, 38, 39] _ [(2, .addr 10 0), (4, .addr 11 0), (37, .sl 1 g_b (slc b 2 6).length (u8s (slc b 2 6))), (38, ti ((slc b 2 6).length : Int)), (39, ti t391)] [(10, [t8 0, t32 0, .leaf (.slice none 0 0)]), (11, [t8 (b.getD 6 0), t32 ((shl32 c11_1_1 8) ||| (((slc b 2 6).getD t391.toNat 0).toUInt32)), .sl 1 .shr x1.length (u8s x1)])] hk rfl kr (.cons (by decide : 0 ≤ (8 : Int)) (.cons (shlT32 c11_1_1 8) (.cons (cv8_32 ((slc b 2 6).getD t391.toNat 0)) (.cons trivial (.cons (or32 (shl32 c11_1_1 8) (((slc b 2 6).getD t391.toNat 0).toUInt32)) .nil))))) ?_
            clear hk; intro k hk
            refine Go.rx 20 { ws := [(0, { v := some (ti (t391 + 1)) })] } [] [2, 4, 37, 38, 39] _ [(2, .addr 10 0), (4, .addr 11 0), (37, .sl 1 g_b (slc b 2 6).length (u8s (slc b 2 6))), (38, ti ((slc b 2 6).length : Int)), (39, ti (t391 + 1))] [(10, [t8 0, t32 0, .leaf (.slice none 0 0)]), (11, [t8 (b.getD 6 0), t32 ((shl32 c11_1_1 8) ||| (((slc b 2 6).getD t391.toNat 0).toUInt32)), .sl 1 .shr x1.length (u8s x1)])] hk rfl kr (.cons trivial (.cons (iw (t391 + 1) om) .nil)) ?_
            clear hk; intro k hk
            exact Go.join 20 hk hl1 rfl (ihl1 (t391 + 1) ((shl32 c11_1_1 8) ||| (((slc b 2 6).getD t391.toNat 0).toUInt32)) om om)
          · have ct3p := of_decide_eq_false ct3
            refine Go.keepN [2, 4] (L' := [(2, .addr 10 0), (4, .addr 11 0)]) rfl ?_
            exact Go.exitX (Pf := (PostX Γ sharecode_Decode_enc)) (F := fun z : UInt32 => sharecode_Decode_k1 b x1 z) (a := c11_1_1) (Go.join 20 hk hxl1 rfl (Xl1 c11_1_1))
      exact Ll1 _ 0 0 om (Nat.lt_succ_self _)
  · intro hk J
    rcases Bool.eq_false_or_eq_true (decide ((b.length : Int) < 8)) with gd1 | gd1
    · have gd1p := of_decide_eq_true gd1
      refine Go.rx 20 { ws := [(2, { v := some (tb true) })] } [] [0, 2, 26] _ [(0, .sl 1 g_b b.length (u8s b)), (2, .addr 10 0), (26, tb true)] [(10, [t8 0, t32 0, .leaf (.slice none 0 0)])] hk rfl kr (.cons trivial (.cons (eb gd1) .nil)) ?_
      intro k' hk'
      refine Go.slotEq 26 (tb ((decide ((b.length : Int) < 8)) || (((slc b 0 2) != [115, 104]) || (((b.getD 7 0).toNat : Int) != ((b.length : Int) - 8))))) rfl (eb (orT gd1).symm) ?_
      exact J k' hk'
    · have gd1p := of_decide_eq_false gd1
      rcases Bool.eq_false_or_eq_true ((slc b 0 2) != [115, 104]) with gd2 | gd2
      · refine Go.rx 20 { ws := [(2, { v := some (tb false) }), (5, { v := some (.sl 1 g_b (slc b 0 2).length (u8s (slc b 0 2))) }), (6, { b := slc b 0 2 }), (7, { v := some (tb true) })] } [] [0, 2, 26] _ [(0, .sl 1 g_b b.length (u8s b)), (2, .addr 10 0), (26, tb true)] [(10, [t8 0, t32 0, .leaf (.slice none 0 0)])] hk rfl kr (.cons trivial (.cons (eb gd1) (.cons (om : 0 ≤ (0 : Int) ∧ (0 : Int) ≤ 2 ∧ 2 ≤ (b.length : Int) ∧ (b.length : Int) ≤ (b.length : Nat)) (.cons (sl_slc (t := g_b) (g := (fun c : UInt8 => T.leaf (.int .u8 c.toNat))) (lo := 0) (hi := 2) b om rfl rfl) (.cons (rfl : u8s (slc b 0 2) = u8s (slc b 0 2)) (.cons trivial (.cons ((s_ne (slc b 0 2) [115, 104]).trans (eb gd2)) .nil))))))) ?_
        intro k' hk'
        refine Go.slotEq 26 (tb ((decide ((b.length : Int) < 8)) || (((slc b 0 2) != [115, 104]) || (((b.getD 7 0).toNat : Int) != ((b.length : Int) - 8))))) rfl (eb (orF gd1 (orT gd2)).symm) ?_
        exact J k' hk'
      · have := lt8 (b.getD 7 0)
        refine Go.rx 20 { ws := [(2, { v := some (tb false) }), (5, { v := some (.sl 1 g_b (slc b 0 2).length (u8s (slc b 0 2))) }), (6, { b := slc b 0 2 }), (7, { v := some (tb false) }), (12, { v := some (t8 (b.getD 7 0)) }), (13, { v := some (ti ((b.getD 7 0).toNat : Int)) }), (16, { v := some (ti ((b.length : Int) - 8)) })] } [] [0, 2, 26] _ [(0, .sl 1 g_b b.length (u8s b)), (2, .addr 10 0), (26, tb (((b.getD 7 0).toNat : Int) != ((b.length : Int) - 8)))] [(10, [t8 0, t32 0, .leaf (.slice none 0 0)])] hk rfl kr (.cons trivial (.cons (eb gd1) (.cons (om : 0 ≤ (0 : Int) ∧ (0 : Int) ≤ 2 ∧ 2 ≤ (b.length : Int) ∧ (b.length : Int) ≤ (b.length : Nat)) (.cons (sl_slc (t := g_b) (g := (fun c : UInt8 => T.leaf (.int .u8 c.toNat))) (lo := 0) (hi := 2) b om rfl rfl) (.cons (rfl : u8s (slc b 0 2) = u8s (slc b 0 2)) (.cons trivial (.cons ((s_ne (slc b 0 2) [115, 104]).trans (eb gd2)) (.cons (om : 0 ≤ (7 : Int) ∧ (7 : Int) < ((b.length : Nat) : Int)) (.cons (part1 (kr : (E.ti 5).agg = false) (mp_get (g := (fun c : UInt8 => T.leaf (.int .u8 c.toNat))) (k := 7) (n := 7) b (0 : UInt8) rfl om)) (.cons (cv8_i (b.getD 7 0)) (.cons trivial (.cons (iw ((b.length : Int) - 8) om) (.cons trivial .nil))))))))))))) ?_
        intro k' hk'
        refine Go.slotEq 26 (tb ((decide ((b.length : Int) < 8)) || (((slc b 0 2) != [115, 104]) || (((b.getD 7 0).toNat : Int) != ((b.length : Int) - 8))))) rfl (eb (orF gd1 (orF gd2 rfl)).symm) ?_
        exact J k' hk'
attribute [irreducible] sharecode_Decode_k1 sharecode_Decode_l1 sharecode_Decode
noncomputable def sharecode_Text_k1 (o2 : List UInt8) : List UInt8 × Int :=
  (o2, 0)
noncomputable def sharecode_Text_l1 (x1 : List UInt8 × Int) : Nat → Int → (List UInt8) → Lo (List UInt8) (List UInt8 × Int)
  | 0, _, _ => .brk default
  | ml1 + 1, t231, o1 =>
    bif decide (t231 < (x1.1.length : Int)) then
      sharecode_Text_l1 x1 ml1 (t231 + 1) (o1 ++ ([[48, 49, 50, 51, 52, 53, 54, 55, 56, 57, 97, 98, 99, 100, 101, 102].getD ((shr8 (x1.1.getD t231.toNat 0) 4).toNat : Int).toNat 0, [48, 49, 50, 51, 52, 53, 54, 55, 56, 57, 97, 98, 99, 100, 101, 102].getD (((x1.1.getD t231.toNat 0) &&& 15).toNat : Int).toNat 0]))
    else
      Lo.brk o1
noncomputable def sharecode_Text (s0 : UInt8) (s1 : UInt32) (s2 : List UInt8) : List UInt8 × Int :=
  bnd (sharecode_Encode s0 s1 s2) fun x1 =>
  bif !(decide (x1.2 = 0)) then
    ([], x1.2)
  else
    Lo.el (sharecode_Text_l1 x1 (((x1.1.length : Int) - (0 : Int)).toNat + 1) 0 []) (fun z : List UInt8 => sharecode_Text_k1 z)
def sharecode_Text_enc (x : List UInt8 × Int) : T × List (Nat × List T) := (.tup [ts x.1, er 149 x.2], [])
theorem sharecode_Text_m (s0 : UInt8) (s1 : UInt32) (s2 : List UInt8) : Meets Tryd.prog 75 [.agg [t8 s0, t32 s1, .sl 1 .shr s2.length (u8s s2)]] [] [] (.tup [ts ((sharecode_Text s0 s1 s2).1), er 149 ((sharecode_Text s0 s1 s2).2)]) [] := by
  refine Meets.enterX (E := E) (N := 39) (enc := sharecode_Text_enc) (x := (sharecode_Text s0 s1 s2)) Tryd.func75 Tryd.call75 rfl rfl ?_
  intro Γ k hk
  refine Go.rx 20 { ws := [(0, { id := 10 })] } [] [1] _ [(1, .addr 10 0)] [(10, [t8 s0, t32 s1, .sl 1 .shr s2.length (u8s s2)])] hk rfl kr .nil ?_
  clear hk; intro k hk
  refine Go.rx 20 { ws := [(1, { call := some { ids := [], S := [], M := [], R := .tup [.sl 1 .shr ((sharecode_Encode s0 s1 s2).1).length (u8s ((sharecode_Encode s0 s1 s2).1)), er 149 ((sharecode_Encode s0 s1 s2).2)], H' := [] } })], ps := [5, 9, 11, 13] } [10] [4, 5] _ [(4, .sl 1 .shr ((sharecode_Encode s0 s1 s2).1).length (u8s ((sharecode_Encode s0 s1 s2).1))), (5, er 149 ((sharecode_Encode s0 s1 s2).2))] [] hk rfl kr (.cons (sharecode_Encode_m s0 s1 s2) (.cons (sb : subN (idsL [.agg [t8 s0, t32 s1, .sl 1 .shr s2.length (u8s s2)]]) [] = true) (.cons (sb : memN 10 (T.ids (.tup [.sl 1 .shr ((sharecode_Encode s0 s1 s2).1).length (u8s ((sharecode_Encode s0 s1 s2).1)), er 149 ((sharecode_Encode s0 s1 s2).2)])) = false) (.cons (sb : memN 10 (T.ids (.tup [.sl 1 .shr ((sharecode_Encode s0 s1 s2).1).length (u8s ((sharecode_Encode s0 s1 s2).1)), er 149 ((sharecode_Encode s0 s1 s2).2)])) = false) (.cons (er_mem (i := 10) 149 ((sharecode_Encode s0 s1 s2).2)) (.cons (er_mem (i := 10) 149 ((sharecode_Encode s0 s1 s2).2)) .nil)))))) ?_
  clear hk; intro k hk
  refine Go.bnd (Pf := (PostX Γ sharecode_Text_enc)) (v := (sharecode_Encode s0 s1 s2)) (fun x1 => [(4, .sl 1 .shr x1.1.length (u8s x1.1)), (5, er 149 x1.2)]) (fun x1 => []) ?_
  intro x1 hx1
  have fx1 := encode_fact s0 s1 s2
  rw [← hx1] at fx1
  refine Go.rx 20 { ws := [(1, { er := some (149, x1.2) })] } [] [4, 5, 15] _ [(4, .sl 1 .shr x1.1.length (u8s x1.1)), (5, er 149 x1.2), (15, tb (!(decide (x1.2 = 0))))] [] hk rfl kr (.cons (⟨rfl, rfl⟩ : (er 149 x1.2) = er 149 x1.2 ∧ (.leaf .nilIface : T) = .leaf .nilIface) .nil) ?_
  clear hk; intro k hk
  refine Go.br 20 (Pf := (PostX Γ sharecode_Text_enc)) hk rfl rfl ?_ ?_ <;> clear hk <;> intro ct1 k hk
  · have ct1' : (decide (x1.2 = 0)) = false := ntT ct1
    have ct1'p := of_decide_eq_false ct1'
    refine Go.rx 20 {} [] [2, 3] _ [(2, ts []), (3, er 149 x1.2)] [] hk rfl kr .nil ?_
    clear hk; intro k hk
    exact Go.lvx 20 [] _ [ts [], er 149 x1.2] Tryd.func75 hk rfl kr .nil (T.Le.tup (.cons (T.Le.of_eq rfl) (.cons (T.Le.of_eq rfl) .nil))) rfl (by first | rfl | (simp only [sharecode_Text_enc, T.ids, idsL, er_ids, List.append_nil, List.nil_append]; first | rfl | (rw [mp_ids _ (fun _ => rfl)]; rfl))) .nil
  · have ct1' : (decide (x1.2 = 0)) = true := ntF ct1
    have ct1'p := of_decide_eq_true ct1'
    refine Go.rx 20 { ws := [(2, { v := some (ti (2 * (x1.1.length : Int))) }), (3, { id := 11 })] } [] [4, 6] _ [(4, .sl 1 .shr x1.1.length (u8s x1.1)), (6, .ref 11 1 0 0)] [(11, [])] hk rfl kr (.cons trivial (.cons (iw (2 * (x1.1.length : Int)) om) (.cons (om : 0 ≤ (0 : Int) ∧ (0 : Int) ≤ 2 * (x1.1.length : Int) ∧ (2 * (x1.1.length : Int) : Int) < 9223372036854775808 ∧ ((1 : Nat) : Int) * (2 * (x1.1.length : Int)) ≤ 281474976710656) .nil))) ?_
    clear hk; intro k hk
    refine Go.rx 20 {} [] [6, 21, 22, 23] _ [(6, .ref 11 1 0 0), (21, .sl 1 .shr x1.1.length (u8s x1.1)), (22, ti (x1.1.length : Int)), (23, ti 0)] [(11, [])] hk rfl kr .nil ?_
    clear hk; intro k hk
    refine Go.loopX 20 hk rfl ?_
    clear hk; intro kl1 kxl1 hl1 hxl1
    have Xl1 : ∀ (o2 : List UInt8), Go E Γ 75 39 [] ((PostX Γ sharecode_Text_enc) (sharecode_Text_k1 o2)) kxl1 (stL [(6, .ref 11 1 0 o2.length)] [(11, u8s o2)]) := by
      intro o2
      refine Go.rx 20 { ws := [(1, { sym := true, b := o2 })] } [11] [2, 3] _ [(2, ts o2), (3, .leaf .nilIface)] [] hxl1 rfl kr (.cons (by simp only [List.length_map]; omega : 0 + o2.length * 1 ≤ (u8s o2).length) (.cons (mp_all (g := (fun c : UInt8 => T.leaf (.int .u8 c.toNat))) o2) .nil)) ?_
      clear hxl1; intro kxl1 hxl1
      exact Go.lvx 20 [] _ [ts o2, .leaf .nilIface] Tryd.func75 hxl1 rfl kr .nil (T.Le.tup (.cons (T.Le.of_eq rfl) (.cons (T.Le.of_eq rfl) .nil))) rfl rfl .nil
    have Ll1 : ∀ (ml1 : Nat) (t231 : Int) (o1 : List UInt8), (0 ≤ t231) → (t231 ≤ (x1.1.length : Int)) → ((o1.length : Int) = 2 * t231) → (((x1.1.length : Int) - t231).toNat < ml1) → Go E Γ 75 39 [] ((PostX Γ sharecode_Text_enc) (Lo.el (sharecode_Text_l1 x1 ml1 t231 o1) (fun z : List UInt8 => sharecode_Text_k1 z))) kl1 (stL [(6, .ref 11 1 0 o1.length), (21, .sl 1 .shr x1.1.length (u8s x1.1)), (22, ti (x1.1.length : Int)), (23, ti t231)] [(11, u8s o1)]) := by
      intro ml1
      induction ml1 with
      | zero => intro t231 o1 i0l1 i1l1 i2l1 hml1; exact absurd hml1 (Nat.not_lt_zero _)
      | succ ml1 ihl1 =>
        intro t231 o1 i0l1 i1l1 i2l1 hml1
        rw [sharecode_Text_l1]
        refine Go.round hl1 ?_
        intro k hk
        have hq1 := shr84 (x1.1.getD t231.toNat 0)
        have hq2 := and15 (x1.1.getD t231.toNat 0)
        refine Go.rx 20 {} [] [6, 21, 22, 23, 24] _ [(6, .ref 11 1 0 o1.length), (21, .sl 1 .shr x1.1.length (u8s x1.1)), (22, ti (x1.1.length : Int)), (23, ti t231), (24, tb (decide (t231 < (x1.1.length : Int))))] [(11, u8s o1)] hk rfl kr (.cons trivial .nil) ?_
        clear hk; intro k hk
        refine Go.br 20 (Pf := (fun z : Lo (List UInt8) (List UInt8 × Int) => (PostX Γ sharecode_Text_enc) (Lo.el z (fun z : List UInt8 => sharecode_Text_k1 z)))) hk rfl rfl ?_ ?_ <;> clear hk <;> intro ct2 k hk
        · have ct2p := of_decide_eq_true ct2
          refine Go.rx 20 { ws := [(1, { v := some (t8 (x1.1.getD t231.toNat 0)) })] } [] [6, 8, 21, 22, 23] _ [(6, .ref 11 1 0 o1.length), (8, t8 (x1.1.getD t231.toNat 0)), (21, .sl 1 .shr x1.1.length (u8s x1.1)), (22, ti (x1.1.length : Int)), (23, ti t231)] [(11, u8s o1)] hk rfl kr (.cons (om : 0 ≤ (t231 : Int) ∧ (t231 : Int) < ((x1.1.length : Nat) : Int)) (.cons (part1 (kr : (E.ti 5).agg = false) (mp_get (g := (fun c : UInt8 => T.leaf (.int .u8 c.toNat))) (k := t231.toNat * 1) (n := t231.toNat) x1.1 (0 : UInt8) (by omega) om)) .nil)) ?_
          clear hk; intro k hk
          have := lt8 (shr8 (x1.1.getD t231.toNat 0) 4)
          have := lt8 ((x1.1.getD t231.toNat 0) &&& 15)
          refine Go.dx 20 [0, 1, 2, 3, 4, 5, 6, 7, 8, 9] { ws := [(2, { v := some (t8 (shr8 (x1.1.getD t231.toNat 0) 4)) }), (3, { b := [[48, 49, 50, 51, 52, 53, 54, 55, 56, 57, 97, 98, 99, 100, 101, 102].getD ((shr8 (x1.1.getD t231.toNat 0) 4).toNat : Int).toNat 0] }), (5, { v := some (t8 ((x1.1.getD t231.toNat 0) &&& 15)) }), (6, { b := [[48, 49, 50, 51, 52, 53, 54, 55, 56, 57, 97, 98, 99, 100, 101, 102].getD (((x1.1.getD t231.toNat 0) &&& 15).toNat : Int).toNat 0] }), (7, { id := 12 }), (8, { v := some (.ref 11 1 0 ((o1 ++ ([[48, 49, 50, 51, 52, 53, 54, 55, 56, 57, 97, 98, 99, 100, 101, 102].getD ((shr8 (x1.1.getD t231.toNat 0) 4).toNat : Int).toNat 0, [48, 49, 50, 51, 52, 53, 54, 55, 56, 57, 97, 98, 99, 100, 101, 102].getD (((x1.1.getD t231.toNat 0) &&& 15).toNat : Int).toNat 0])).length)), c := some (u8s (o1 ++ ([[48, 49, 50, 51, 52, 53, 54, 55, 56, 57, 97, 98, 99, 100, 101, 102].getD ((shr8 (x1.1.getD t231.toNat 0) 4).toNat : Int).toNat 0, [48, 49, 50, 51, 52, 53, 54, 55, 56, 57, 97, 98, 99, 100, 101, 102].getD (((x1.1.getD t231.toNat 0) &&& 15).toNat : Int).toNat 0]))), id := 11, sym := true })], pg := [11], fd := some [11] } [12] [6, 21, 22, 23] _ [(6, .ref 11 1 0 ((o1 ++ ([[48, 49, 50, 51, 52, 53, 54, 55, 56, 57, 97, 98, 99, 100, 101, 102].getD ((shr8 (x1.1.getD t231.toNat 0) 4).toNat : Int).toNat 0, [48, 49, 50, 51, 52, 53, 54, 55, 56, 57, 97, 98, 99, 100, 101, 102].getD (((x1.1.getD t231.toNat 0) &&& 15).toNat : Int).toNat 0])).length)), (21, .sl 1 .shr x1.1.length (u8s x1.1)), (22, ti (x1.1.length : Int)), (23, ti t231)] [(11, u8s (o1 ++ ([[48, 49, 50, 51, 52, 53, 54, 55, 56, 57, 97, 98, 99, 100, 101, 102].getD ((shr8 (x1.1.getD t231.toNat 0) 4).toNat : Int).toNat 0, [48, 49, 50, 51, 52, 53, 54, 55, 56, 57, 97, 98, 99, 100, 101, 102].getD (((x1.1.getD t231.toNat 0) &&& 15).toNat : Int).toNat 0])))] hk rfl kr (.cons (by decide : 0 ≤ (4 : Int)) (.cons (shrT8 (x1.1.getD t231.toNat 0) 4) (.cons (sOf_get (n := ((shr8 (x1.1.getD t231.toNat 0) 4).toNat : Int)) ([48, 49, 50, 51, 52, 53, 54, 55, 56, 57, 97, 98, 99, 100, 101, 102] : List UInt8) om) (.cons trivial (.cons (and8 (x1.1.getD t231.toNat 0) 15) (.cons (sOf_get (n := (((x1.1.getD t231.toNat 0) &&& 15).toNat : Int)) ([48, 49, 50, 51, 52, 53, 54, 55, 56, 57, 97, 98, 99, 100, 101, 102] : List UInt8) om) (.cons (Nat.le_of_ble_eq_true rfl : 0 + 2 * 1 ≤ ([t8 ([48, 49, 50, 51, 52, 53, 54, 55, 56, 57, 97, 98, 99, 100, 101, 102].getD ((shr8 (x1.1.getD t231.toNat 0) 4).toNat : Int).toNat 0), t8 ([48, 49, 50, 51, 52, 53, 54, 55, 56, 57, 97, 98, 99, 100, 101, 102].getD (((x1.1.getD t231.toNat 0) &&& 15).toNat : Int).toNat 0)] : List T).length) (.cons (by simp only [List.length_map]; omega : 0 + o1.length * 1 ≤ (u8s o1).length) (.cons (rfl : scalL ([t8 ([48, 49, 50, 51, 52, 53, 54, 55, 56, 57, 97, 98, 99, 100, 101, 102].getD ((shr8 (x1.1.getD t231.toNat 0) 4).toNat : Int).toNat 0), t8 ([48, 49, 50, 51, 52, 53, 54, 55, 56, 57, 97, 98, 99, 100, 101, 102].getD (((x1.1.getD t231.toNat 0) &&& 15).toNat : Int).toNat 0)]) = true) (.cons (om : (o1.length + 2) * 1 ≤ 140737488355328) (.cons (mp_app (g := (fun c : UInt8 => T.leaf (.int .u8 c.toNat))) (o1) ([[48, 49, 50, 51, 52, 53, 54, 55, 56, 57, 97, 98, 99, 100, 101, 102].getD ((shr8 (x1.1.getD t231.toNat 0) 4).toNat : Int).toNat 0, [48, 49, 50, 51, 52, 53, 54, 55, 56, 57, 97, 98, 99, 100, 101, 102].getD (((x1.1.getD t231.toNat 0) &&& 15).toNat : Int).toNat 0]) rfl) (.cons (mp_mem (i := 11) (g := (fun c : UInt8 => T.leaf (.int .u8 c.toNat))) (o1 ++ ([[48, 49, 50, 51, 52, 53, 54, 55, 56, 57, 97, 98, 99, 100, 101, 102].getD ((shr8 (x1.1.getD t231.toNat 0) 4).toNat : Int).toNat 0, [48, 49, 50, 51, 52, 53, 54, 55, 56, 57, 97, 98, 99, 100, 101, 102].getD (((x1.1.getD t231.toNat 0) &&& 15).toNat : Int).toNat 0])) (fun _ => rfl)) (.cons (by first | rfl | (simp; done) | (refine congrArg (fun q => T.ref 11 1 0 q) ?_; simp <;> omega) : T.ref 11 1 0 (o1.length + 2) = .ref 11 1 0 ((o1 ++ ([[48, 49, 50, 51, 52, 53, 54, 55, 56, 57, 97, 98, 99, 100, 101, 102].getD ((shr8 (x1.1.getD t231.toNat 0) 4).toNat : Int).toNat 0, [48, 49, 50, 51, 52, 53, 54, 55, 56, 57, 97, 98, 99, 100, 101, 102].getD (((x1.1.getD t231.toNat 0) &&& 15).toNat : Int).toNat 0])).length)) (.cons (mp_mem (i := 12) (g := (fun c : UInt8 => T.leaf (.int .u8 c.toNat))) (o1 ++ ([[48, 49, 50, 51, 52, 53, 54, 55, 56, 57, 97, 98, 99, 100, 101, 102].getD ((shr8 (x1.1.getD t231.toNat 0) 4).toNat : Int).toNat 0, [48, 49, 50, 51, 52, 53, 54, 55, 56, 57, 97, 98, 99, 100, 101, 102].getD (((x1.1.getD t231.toNat 0) &&& 15).toNat : Int).toNat 0])) (fun _ => rfl)) .nil)))))))))))))) ?_
          clear hk; intro k hk
          refine Go.rx 20 { ws := [(0, { v := some (ti (t231 + 1)) })] } [] [6, 21, 22, 23] _ [(6, .ref 11 1 0 ((o1 ++ ([[48, 49, 50, 51, 52, 53, 54, 55, 56, 57, 97, 98, 99, 100, 101, 102].getD ((shr8 (x1.1.getD t231.toNat 0) 4).toNat : Int).toNat 0, [48, 49, 50, 51, 52, 53, 54, 55, 56, 57, 97, 98, 99, 100, 101, 102].getD (((x1.1.getD t231.toNat 0) &&& 15).toNat : Int).toNat 0])).length)), (21, .sl 1 .shr x1.1.length (u8s x1.1)), (22, ti (x1.1.length : Int)), (23, ti (t231 + 1))] [(11, u8s (o1 ++ ([[48, 49, 50, 51, 52, 53, 54, 55, 56, 57, 97, 98, 99, 100, 101, 102].getD ((shr8 (x1.1.getD t231.toNat 0) 4).toNat : Int).toNat 0, [48, 49, 50, 51, 52, 53, 54, 55, 56, 57, 97, 98, 99, 100, 101, 102].getD (((x1.1.getD t231.toNat 0) &&& 15).toNat : Int).toNat 0])))] hk rfl kr (.cons trivial (.cons (iw (t231 + 1) om) .nil)) ?_
          clear hk; intro k hk
          exact Go.join 20 hk hl1 rfl (ihl1 (t231 + 1) (o1 ++ ([[48, 49, 50, 51, 52, 53, 54, 55, 56, 57, 97, 98, 99, 100, 101, 102].getD ((shr8 (x1.1.getD t231.toNat 0) 4).toNat : Int).toNat 0, [48, 49, 50, 51, 52, 53, 54, 55, 56, 57, 97, 98, 99, 100, 101, 102].getD (((x1.1.getD t231.toNat 0) &&& 15).toNat : Int).toNat 0])) om om om om)
        · have ct2p := of_decide_eq_false ct2
          refine Go.keepN [6] (L' := [(6, .ref 11 1 0 o1.length)]) rfl ?_
          exact Go.exitX (Pf := (PostX Γ sharecode_Text_enc)) (F := fun z : List UInt8 => sharecode_Text_k1 z) (a := o1) (Go.join 20 hk hxl1 rfl (Xl1 o1))
    exact Ll1 _ 0 [] om om om (Nat.lt_succ_self _)
attribute [irreducible] sharecode_Text_k1 sharecode_Text_l1 sharecode_Text
end Go.Proofs.YtbppcnhfeobefaaDoor

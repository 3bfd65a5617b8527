import Derived.Test.YtbppcnhfeobefaaDoorZ1
set_option linter.unusedVariables false
set_option linter.unusedSimpArgs false
namespace Go.Proofs.YtbppcnhfeobefaaDoor
open Go Go.Vw Go.Proofs
theorem qz2_1 {p : Prop} (h : p := by simp only [sOf_size]; first | omega | (simp <;> omega) | (simp at * <;> omega) | (split <;> omega) | (split <;> (first | omega | (simp <;> omega) | (simp at * <;> omega)))) : p := h
theorem qz2_2 {p : Prop} (h : p := by first | omega | (simp; omega) | exact unit_next (by assumption) (by omega)) : p := h
theorem qz2_3 {p : Prop} (h : p := by simp only [List.length_map]; omega) : p := h
theorem qz2_4 {p : Prop} (h : p := by first | omega | (simp; done) | exact unit_0) : p := h
def unitok (i : Int) (u : UInt32) : Prop := (i = 0 ∧ u = 16777216) ∨ (i = 1 ∧ u = 65536) ∨ (i = 2 ∧ u = 256) ∨ (i = 3 ∧ u = 1) ∨ i = 4
theorem unit_0 : unitok 0 16777216 := .inl ⟨rfl, rfl⟩
theorem unit_ne {i : Int} {u : UInt32} (h : unitok i u) (h4 : i < 4) : (u.toNat : Int) ≠ 0 := by
  rcases h with ⟨_, rfl⟩ | ⟨_, rfl⟩ | ⟨_, rfl⟩ | ⟨_, rfl⟩ | h
  · decide
  · decide
  · decide
  · decide
  · omega
theorem unit_next {i : Int} {u : UInt32} (h : unitok i u) (h4 : i < 4) : unitok (i + 1) (u / 256) := by
  rcases h with ⟨rfl, rfl⟩ | ⟨rfl, rfl⟩ | ⟨rfl, rfl⟩ | ⟨rfl, rfl⟩ | h
  · exact .inr (.inl ⟨rfl, by decide⟩)
  · exact .inr (.inr (.inl ⟨rfl, by decide⟩))
  · exact .inr (.inr (.inr (.inl ⟨rfl, by decide⟩)))
  · exact .inr (.inr (.inr (.inr rfl)))
  · omega
noncomputable def bursaryref04_May (s0 : UInt8) (s1 : UInt32) (s2 : List UInt8) : Bool :=
  (s0 != 0) && ((decide ((s2.length : Int) ≥ 1)) && (decide ((s2.length : Int) ≤ 64)))
def bursaryref04_May_enc (x : Bool) : T × List (Nat × List T) := (tb x, [])
theorem bursaryref04_May_m {g_s2 : Tag} (s0 : UInt8) (s1 : UInt32) (s2 : List UInt8) : Meets Tryd.prog 116 [.agg [t8 s0, t32 s1, .sl 1 g_s2 s2.length (u8s s2)]] [] [] (tb (bursaryref04_May s0 s1 s2)) [] := by
  refine Meets.enterX (E := E) (N := 18) (enc := bursaryref04_May_enc) (x := (bursaryref04_May s0 s1 s2)) Tryd.func116 Tryd.call116 rfl rfl ?_
  intro Γ k hk
  refine Go.rx 20 { ws := [(0, { id := 10 })] } [] [1] _ [(1, .addr 10 0)] [(10, [t8 s0, t32 s1, .sl 1 g_s2 s2.length (u8s s2)])] hk rfl kr .nil ?_
  clear hk; intro k hk
  refine Go.regJ 20 [(2, tb ((s0 != 0) && ((decide ((s2.length : Int) ≥ 1)) && (decide ((s2.length : Int) ≤ 64)))))] [] hk rfl ?_ ?_
  · clear hk; intro k hk
    exact Go.lvx 20 [] _ [tb ((s0 != 0) && ((decide ((s2.length : Int) ≥ 1)) && (decide ((s2.length : Int) ≤ 64))))] Tryd.func116 hk rfl kr .nil (T.Le.of_eq rfl) rfl rfl .nil
  · intro hk J
    rcases Bool.eq_false_or_eq_true (s0 != 0) with gd1 | gd1
    · rcases Bool.eq_false_or_eq_true (decide ((s2.length : Int) ≥ 1)) with gd2 | gd2
      · have gd2p := of_decide_eq_true gd2
        refine Go.rx 20 { ws := [(2, { v := some (tb true) }), (7, { v := some (tb true) })] } [10] [2] _ [(2, tb (decide ((s2.length : Int) ≤ 64)))] [] hk rfl kr (.cons trivial (.cons ((neB8 s0 0).trans (eb gd1)) (.cons trivial (.cons (eb gd2) (.cons trivial .nil))))) ?_
        intro k' hk'
        refine Go.slotEq 2 (tb ((s0 != 0) && ((decide ((s2.length : Int) ≥ 1)) && (decide ((s2.length : Int) ≤ 64))))) rfl (eb (andT gd1 (andT gd2 rfl)).symm) ?_
        exact J k' hk'
      · have gd2p := of_decide_eq_false gd2
        refine Go.rx 20 { ws := [(2, { v := some (tb true) }), (7, { v := some (tb false) })] } [10] [2] _ [(2, tb false)] [] hk rfl kr (.cons trivial (.cons ((neB8 s0 0).trans (eb gd1)) (.cons trivial (.cons (eb gd2) .nil)))) ?_
        intro k' hk'
        refine Go.slotEq 2 (tb ((s0 != 0) && ((decide ((s2.length : Int) ≥ 1)) && (decide ((s2.length : Int) ≤ 64))))) rfl (eb (andT gd1 (andF gd2)).symm) ?_
        exact J k' hk'
    · refine Go.rx 20 { ws := [(2, { v := some (tb false) })] } [10] [2] _ [(2, tb false)] [] hk rfl kr (.cons trivial (.cons ((neB8 s0 0).trans (eb gd1)) .nil)) ?_
      intro k' hk'
      refine Go.slotEq 2 (tb ((s0 != 0) && ((decide ((s2.length : Int) ≥ 1)) && (decide ((s2.length : Int) ≤ 64))))) rfl (eb (andF gd1).symm) ?_
      exact J k' hk'
attribute [irreducible] bursaryref04_May
noncomputable def bursaryref04_Encode_k1 (s0 : UInt8) (s2 : List UInt8) (o2 : List UInt8) : List UInt8 × Int :=
  ((o2 ++ [s0, u8i (s2.length : Int)] ++ s2), 0)
noncomputable def bursaryref04_Encode_l1 (s1 : UInt32) : Nat → UInt32 → Int → (List UInt8) → Lo (List UInt8) (List UInt8 × Int)
  | 0, _, _, _ => .brk default
  | ml1 + 1, unit1, i1, o1 =>
    bif decide (i1 < 4) then
      bursaryref04_Encode_l1 s1 ml1 (unit1 / 256) (i1 + 1) (o1 ++ [((s1 / unit1) % 256).toUInt8])
    else
      Lo.brk o1
noncomputable def bursaryref04_Encode (s0 : UInt8) (s1 : UInt32) (s2 : List UInt8) : List UInt8 × Int :=
  bnd (bursaryref04_May s0 s1 s2) fun x1 =>
  bif !x1 then
    ([], 4)
  else
    Lo.el (bursaryref04_Encode_l1 s1 ((4 - (0 : Int)).toNat + 1) 16777216 0 [115, 104]) (fun z : List UInt8 => bursaryref04_Encode_k1 s0 s2 z)
def bursaryref04_Encode_enc (x : List UInt8 × Int) : T × List (Nat × List T) := (.tup [.sl 1 .shr x.1.length (u8s x.1), ti x.2], [])
theorem bursaryref04_Encode_m {g_s2 : Tag} (s0 : UInt8) (s1 : UInt32) (s2 : List UInt8) (hs : s2.length ≤ 300) : Meets Tryd.prog 74 [.agg [t8 s0, t32 s1, .sl 1 g_s2 s2.length (u8s s2)]] [] [] (.tup [.sl 1 .shr ((bursaryref04_Encode s0 s1 s2).1).length (u8s ((bursaryref04_Encode s0 s1 s2).1)), ti ((bursaryref04_Encode s0 s1 s2).2)]) [] := by
  refine Meets.enterX (E := E) (N := 39) (enc := bursaryref04_Encode_enc) (x := (bursaryref04_Encode s0 s1 s2)) Tryd.func74 Tryd.call74 rfl rfl ?_
  intro Γ k hk
  refine Go.rx 20 { ws := [(0, { id := 10 })] } [] [1] _ [(1, .addr 10 0)] [(10, [t8 s0, t32 s1, .sl 1 g_s2 s2.length (u8s s2)])] hk rfl kr .nil ?_
  clear hk; intro k hk
  refine Go.rx 20 { ws := [(1, { call := some { ids := [], S := [], M := [], R := tb (bursaryref04_May s0 s1 s2), H' := [] } })] } [] [1, 9] _ [(1, .addr 10 0), (9, tb (!(bursaryref04_May s0 s1 s2)))] [(10, [t8 s0, t32 s1, .sl 1 g_s2 s2.length (u8s s2)])] hk rfl kr (.cons (bursaryref04_May_m (g_s2 := g_s2) s0 s1 s2) (.cons (sb : subN (idsL [.agg [t8 s0, t32 s1, .sl 1 g_s2 s2.length (u8s s2)]]) [] = true) .nil)) ?_
  clear hk; intro k hk
  refine Go.bnd (Pf := (PostX Γ bursaryref04_Encode_enc)) (v := (bursaryref04_May s0 s1 s2)) (fun x1 => [(1, .addr 10 0), (9, tb (!x1))]) (fun x1 => [(10, [t8 s0, t32 s1, .sl 1 g_s2 s2.length (u8s s2)])]) ?_
  intro x1 hx1
  refine Go.br 20 (Pf := (PostX Γ bursaryref04_Encode_enc)) hk rfl rfl ?_ ?_ <;> clear hk <;> intro ct1 k hk
  · have ct1' : x1 = false := ntT ct1
    refine Go.rx 20 {} [10] [2, 3] _ [(2, .leaf (.slice none 0 0)), (3, ti 4)] [] hk rfl kr .nil ?_
    clear hk; intro k hk
    exact Go.lvx 20 [] _ [.leaf (.slice none 0 0), ti 4] Tryd.func74 hk rfl kr .nil (T.Le.tup (.cons (T.Le.nil _ _) (.cons (T.Le.of_eq rfl) .nil))) rfl rfl .nil
  · have ct1' : x1 = true := ntF ct1
    refine Go.rx 20 { ws := [(0, { id := 11 })] } [] [1, 4] _ [(1, .addr 10 0), (4, .ref 11 1 0 2)] [(10, [t8 s0, t32 s1, .sl 1 g_s2 s2.length (u8s s2)]), (11, [t8 115, t8 104])] hk rfl kr .nil ?_
    clear hk; intro k hk
    refine Go.rx 20 {} [] [1, 4, 5] _ [(1, .addr 10 0), (4, .ref 11 1 0 2), (5, t32 16777216)] [(10, [t8 s0, t32 s1, .sl 1 g_s2 s2.length (u8s s2)]), (11, [t8 115, t8 104])] hk rfl kr .nil ?_
    clear hk; intro k hk
    refine Go.rx 20 {} [] [1, 4, 5, 6] _ [(1, .addr 10 0), (4, .ref 11 1 0 2), (5, t32 16777216), (6, ti 0)] [(10, [t8 s0, t32 s1, .sl 1 g_s2 s2.length (u8s s2)]), (11, [t8 115, t8 104])] hk rfl kr .nil ?_
    clear hk; intro k hk
    refine Go.loopX 20 hk rfl ?_
    clear hk; intro kl1 kxl1 hl1 hxl1
    have Xl1 : ∀ (o2 : List UInt8) (f0l1 : o2.length ≤ 6), Go E Γ 74 39 [] ((PostX Γ bursaryref04_Encode_enc) (bursaryref04_Encode_k1 s0 s2 o2)) kxl1 (stL [(1, .addr 10 0), (4, .ref 11 1 0 o2.length)] [(10, [t8 s0, t32 s1, .sl 1 g_s2 s2.length (u8s s2)]), (11, u8s o2)]) := by
      intro o2 f0l1
      refine Go.rx 20 { ws := [(6, { v := some (t8 (u8i (s2.length : Int))) }), (7, { id := 12 }), (8, { v := some (.ref 11 1 0 ((o2 ++ [s0, u8i (s2.length : Int)]).length)), c := some (u8s (o2 ++ [s0, u8i (s2.length : Int)])), id := 11, sym := true })], pg := [11], fd := some [11] } [12] [1, 4] _ [(1, .addr 10 0), (4, .ref 11 1 0 ((o2 ++ [s0, u8i (s2.length : Int)]).length))] [(10, [t8 s0, t32 s1, .sl 1 g_s2 s2.length (u8s s2)]), (11, u8s (o2 ++ [s0, u8i (s2.length : Int)]))] hxl1 rfl kr (.cons (cvi_8 (s2.length : Int)) (.cons (Nat.le_of_ble_eq_true rfl : 0 + 2 * 1 ≤ ([t8 s0, t8 (u8i (s2.length : Int))] : List T).length) (.cons (qz2_3 : 0 + o2.length * 1 ≤ (u8s o2).length) (.cons (rfl : scalL [t8 s0, t8 (u8i (s2.length : Int))] = true) (.cons (om : (o2.length + 2) * 1 ≤ 140737488355328) (.cons (mp_app (g := (fun c : UInt8 => T.leaf (.int .u8 c.toNat))) (o2) [s0, u8i (s2.length : Int)] rfl) (.cons (mp_mem (i := 11) (g := (fun c : UInt8 => T.leaf (.int .u8 c.toNat))) (o2 ++ [s0, u8i (s2.length : Int)]) (fun _ => rfl)) (.cons (by first | rfl | (simp; done) | (refine congrArg (fun q => T.ref 11 1 0 q) ?_; simp <;> omega) : T.ref 11 1 0 (o2.length + 2) = .ref 11 1 0 ((o2 ++ [s0, u8i (s2.length : Int)]).length)) (.cons (mp_mem (i := 12) (g := (fun c : UInt8 => T.leaf (.int .u8 c.toNat))) (o2 ++ [s0, u8i (s2.length : Int)]) (fun _ => rfl)) .nil))))))))) ?_
      clear hxl1; intro kxl1 hxl1
      refine Go.rx 20 { ws := [(3, { v := some (.ref 11 1 0 ((o2 ++ [s0, u8i (s2.length : Int)] ++ s2).length)), c := some (u8s (o2 ++ [s0, u8i (s2.length : Int)] ++ s2)), id := 11, sym := true })], pg := [11], fd := some [11] } [10] [2, 3] _ [(2, .ref 11 1 0 ((o2 ++ [s0, u8i (s2.length : Int)] ++ s2).length)), (3, ti 0)] [(11, u8s (o2 ++ [s0, u8i (s2.length : Int)] ++ s2))] hxl1 rfl kr (.cons (qz2_3 : 0 + (o2 ++ [s0, u8i (s2.length : Int)]).length * 1 ≤ (u8s (o2 ++ [s0, u8i (s2.length : Int)])).length) (.cons (mp_scal s2 (fun _ => rfl) : scalL (u8s s2) = true) (.cons (om : ((o2 ++ [s0, u8i (s2.length : Int)]).length + s2.length) * 1 ≤ 140737488355328) (.cons (mp_app (g := (fun c : UInt8 => T.leaf (.int .u8 c.toNat))) (o2 ++ [s0, u8i (s2.length : Int)]) s2 rfl) (.cons (mp_mem (i := 11) (g := (fun c : UInt8 => T.leaf (.int .u8 c.toNat))) (o2 ++ [s0, u8i (s2.length : Int)] ++ s2) (fun _ => rfl)) (.cons (by first | rfl | (simp; done) | (refine congrArg (fun q => T.ref 11 1 0 q) ?_; simp <;> omega) : T.ref 11 1 0 ((o2 ++ [s0, u8i (s2.length : Int)]).length + s2.length) = .ref 11 1 0 ((o2 ++ [s0, u8i (s2.length : Int)] ++ s2).length)) (.cons (mp_mem (i := 10) (g := (fun c : UInt8 => T.leaf (.int .u8 c.toNat))) (o2 ++ [s0, u8i (s2.length : Int)] ++ s2) (fun _ => rfl)) .nil))))))) ?_
      clear hxl1; intro kxl1 hxl1
      refine Go.frz [] [] 2 11 (u8s (o2 ++ [s0, u8i (s2.length : Int)] ++ s2)) _ [(2, .dead), (3, ti 0)] [] rfl rfl (mp_ids (g := (fun c : UInt8 => T.leaf (.int .u8 c.toNat))) (o2 ++ [s0, u8i (s2.length : Int)] ++ s2) (fun _ => rfl)) qz2_3 (mp_all (g := (fun c : UInt8 => T.leaf (.int .u8 c.toNat))) (o2 ++ [s0, u8i (s2.length : Int)] ++ s2)) kr .nil ?_
      exact Go.lvx 20 [] _ [.sl 1 .shr (o2 ++ [s0, u8i (s2.length : Int)] ++ s2).length (u8s (o2 ++ [s0, u8i (s2.length : Int)] ++ s2)), ti 0] Tryd.func74 hxl1 rfl kr .nil (T.Le.tup (.cons (T.Le.of_eq rfl) (.cons (T.Le.of_eq rfl) .nil))) rfl rfl .nil
    have Ll1 : ∀ (ml1 : Nat) (unit1 : UInt32) (i1 : Int) (o1 : List UInt8), (0 ≤ i1) → (i1 ≤ 4) → ((o1.length : Int) = 2 + i1) → (unitok i1 unit1) → ((4 - i1).toNat < ml1) → Go E Γ 74 39 [] ((PostX Γ bursaryref04_Encode_enc) (Lo.el (bursaryref04_Encode_l1 s1 ml1 unit1 i1 o1) (fun z : List UInt8 => bursaryref04_Encode_k1 s0 s2 z))) kl1 (stL [(1, .addr 10 0), (4, .ref 11 1 0 o1.length), (5, t32 unit1), (6, ti i1)] [(10, [t8 s0, t32 s1, .sl 1 g_s2 s2.length (u8s s2)]), (11, u8s o1)]) := by
      intro ml1
      induction ml1 with
      | zero => intro unit1 i1 o1 i0l1 i1l1 i2l1 i3l1 hml1; exact absurd hml1 (Nat.not_lt_zero _)
      | succ ml1 ihl1 =>
        intro unit1 i1 o1 i0l1 i1l1 i2l1 i3l1 hml1
        rw [bursaryref04_Encode_l1]
        refine Go.round hl1 ?_
        intro k hk
        have hu : i1 < 4 → (unit1.toNat : Int) ≠ 0 := unit_ne (by assumption)
        refine Go.rx 20 {} [] [1, 4, 5, 6, 12] _ [(1, .addr 10 0), (4, .ref 11 1 0 o1.length), (5, t32 unit1), (6, ti i1), (12, tb (decide (i1 < 4)))] [(10, [t8 s0, t32 s1, .sl 1 g_s2 s2.length (u8s s2)]), (11, u8s o1)] hk rfl kr (.cons trivial .nil) ?_
        clear hk; intro k hk
        refine Go.br 20 (Pf := (fun z : Lo (List UInt8) (List UInt8 × Int) => (PostX Γ bursaryref04_Encode_enc) (Lo.el z (fun z : List UInt8 => bursaryref04_Encode_k1 s0 s2 z)))) hk rfl rfl ?_ ?_ <;> clear hk <;> intro ct2 k hk
        · have ct2p := of_decide_eq_true ct2
          refine Go.rx 20 { ws := [(4, { v := some (t32 (s1 / unit1)) }), (5, { v := some (t32 ((s1 / unit1) % 256)) }), (6, { v := some (t8 (((s1 / unit1) % 256).toUInt8)) }), (7, { id := 13 }), (8, { v := some (.ref 11 1 0 ((o1 ++ [((s1 / unit1) % 256).toUInt8]).length)), c := some (u8s (o1 ++ [((s1 / unit1) % 256).toUInt8])), id := 11, sym := true })], pg := [11], fd := some [11] } [13] [1, 4, 5, 6] _ [(1, .addr 10 0), (4, .ref 11 1 0 ((o1 ++ [((s1 / unit1) % 256).toUInt8]).length)), (5, t32 unit1), (6, ti i1)] [(10, [t8 s0, t32 s1, .sl 1 g_s2 s2.length (u8s s2)]), (11, u8s (o1 ++ [((s1 / unit1) % 256).toUInt8]))] hk rfl kr (.cons (om : ((unit1 : UInt32).toNat : Int) ≠ (0 : Int)) (.cons (quo32 s1 unit1) (.cons (by decide : ((256 : UInt32).toNat : Int) ≠ (0 : Int)) (.cons (rem32 (s1 / unit1) 256) (.cons (cv32_8 ((s1 / unit1) % 256)) (.cons (Nat.le_of_ble_eq_true rfl : 0 + 1 * 1 ≤ ([t8 (((s1 / unit1) % 256).toUInt8)] : List T).length) (.cons (qz2_3 : 0 + o1.length * 1 ≤ (u8s o1).length) (.cons (rfl : scalL [t8 (((s1 / unit1) % 256).toUInt8)] = true) (.cons (om : (o1.length + 1) * 1 ≤ 140737488355328) (.cons (mp_app (g := (fun c : UInt8 => T.leaf (.int .u8 c.toNat))) (o1) [((s1 / unit1) % 256).toUInt8] rfl) (.cons (mp_mem (i := 11) (g := (fun c : UInt8 => T.leaf (.int .u8 c.toNat))) (o1 ++ [((s1 / unit1) % 256).toUInt8]) (fun _ => rfl)) (.cons (by first | rfl | (simp; done) | (refine congrArg (fun q => T.ref 11 1 0 q) ?_; simp <;> omega) : T.ref 11 1 0 (o1.length + 1) = .ref 11 1 0 ((o1 ++ [((s1 / unit1) % 256).toUInt8]).length)) (.cons (mp_mem (i := 13) (g := (fun c : UInt8 => T.leaf (.int .u8 c.toNat))) (o1 ++ [((s1 / unit1) % 256).toUInt8]) (fun _ => rfl)) .nil))))))))))))) ?_
          clear hk; intro k hk
          refine Go.rx 20 { ws := [(1, { v := some (t32 (unit1 / 256)) })] } [] [1, 4, 5, 6] _ [(1, .addr 10 0), (4, .ref 11 1 0 ((o1 ++ [((s1 / unit1) % 256).toUInt8]).length)), (5, t32 (unit1 / 256)), (6, ti i1)] [(10, [t8 s0, t32 s1, .sl 1 g_s2 s2.length (u8s s2)]), (11, u8s (o1 ++ [((s1 / unit1) % 256).toUInt8]))] hk rfl kr (.cons (by decide : ((256 : UInt32).toNat : Int) ≠ (0 : Int)) (.cons (quo32 unit1 256) .nil)) ?_
          clear hk; intro k hk
          refine Go.rx 20 { ws := [(1, { v := some (ti (i1 + 1)) })] } [] [1, 4, 5, 6] _ [(1, .addr 10 0), (4, .ref 11 1 0 ((o1 ++ [((s1 / unit1) % 256).toUInt8]).length)), (5, t32 (unit1 / 256)), (6, ti (i1 + 1))] [(10, [t8 s0, t32 s1, .sl 1 g_s2 s2.length (u8s s2)]), (11, u8s (o1 ++ [((s1 / unit1) % 256).toUInt8]))] hk rfl kr (.cons trivial (.cons (iw (i1 + 1) om) .nil)) ?_
          clear hk; intro k hk
          exact Go.join 20 hk hl1 rfl (ihl1 (unit1 / 256) (i1 + 1) (o1 ++ [((s1 / unit1) % 256).toUInt8]) qz2_2 qz2_2 qz2_2 qz2_2 om)
        · have ct2p := of_decide_eq_false ct2
          refine Go.keepN [1, 4] (L' := [(1, .addr 10 0), (4, .ref 11 1 0 o1.length)]) rfl ?_
          exact Go.exitX (Pf := (PostX Γ bursaryref04_Encode_enc)) (F := fun z : List UInt8 => bursaryref04_Encode_k1 s0 s2 z) (a := o1) (Go.join 20 hk hxl1 rfl (Xl1 o1 om))
    exact Ll1 _ 16777216 0 [115, 104] qz2_4 qz2_4 qz2_4 qz2_4 (Nat.lt_succ_self _)
attribute [irreducible] bursaryref04_Encode_k1 bursaryref04_Encode_l1 bursaryref04_Encode
noncomputable def bursaryref04_Decode_k1 (b : List UInt8) (g2 : UInt32) : (UInt8 × UInt32 × List UInt8) × Int :=
  ((b.getD 6 0, g2, slc b 8 (b.length : Int)), 0)
noncomputable def bursaryref04_Decode_l1 (b : List UInt8) : Nat → UInt32 → Int → Lo UInt32 ((UInt8 × UInt32 × List UInt8) × Int)
  | 0, _, _ => .brk default
  | ml1 + 1, g1, i1 =>
    bif decide (i1 < 6) then
      bursaryref04_Decode_l1 b ml1 ((256 * g1) + ((b.getD i1.toNat 0).toUInt32)) (i1 + 1)
    else
      Lo.brk g1
noncomputable def bursaryref04_Decode (b : List UInt8) : (UInt8 × UInt32 × List UInt8) × Int :=
  bif (decide ((b.length : Int) < 9)) || (((b.getD 0 0) != 115) || (((b.getD 1 0) != 104) || (((b.getD 6 0) == 0) || ((decide (((b.getD 7 0).toNat : Int) > 64)) || ((b.length : Int) != (8 + ((b.getD 7 0).toNat : Int))))))) then
    ((0, 0, []), 4)
  else
    Lo.el (bursaryref04_Decode_l1 b ((6 - (2 : Int)).toNat + 1) 0 2) (fun z : UInt32 => bursaryref04_Decode_k1 b z)
def bursaryref04_Decode_enc (x : (UInt8 × UInt32 × List UInt8) × Int) : T × List (Nat × List T) := (.tup [.agg [t8 x.1.1, t32 x.1.2.1, .sl 1 .shr x.1.2.2.length (u8s x.1.2.2)], ti x.2], [])
theorem bursaryref04_Decode_m (b : List UInt8) (hb : b.length ≤ 4000) : Meets Tryd.prog 77 [.sl 1 .shr b.length (u8s b)] [] [] (.tup [.agg [t8 (((bursaryref04_Decode b).1).1), t32 (((bursaryref04_Decode b).1).2.1), .sl 1 .shr (((bursaryref04_Decode b).1).2.2).length (u8s (((bursaryref04_Decode b).1).2.2))], ti ((bursaryref04_Decode b).2)]) [] := by
  refine Meets.enterX (E := E) (N := 64) (enc := bursaryref04_Decode_enc) (x := (bursaryref04_Decode b)) Tryd.func77 Tryd.call77 rfl rfl ?_
  intro Γ k hk
  refine Go.rx 20 { ws := [(0, { id := 10 })] } [] [0, 2] _ [(0, .sl 1 .shr b.length (u8s b)), (2, .addr 10 0)] [(10, [t8 0, t32 0, .leaf (.slice none 0 0)])] hk rfl kr .nil ?_
  clear hk; intro k hk
  refine Go.regJ 20 [(0, .sl 1 .shr b.length (u8s b)), (2, .addr 10 0), (43, tb ((decide ((b.length : Int) < 9)) || (((b.getD 0 0) != 115) || (((b.getD 1 0) != 104) || (((b.getD 6 0) == 0) || ((decide (((b.getD 7 0).toNat : Int) > 64)) || ((b.length : Int) != (8 + ((b.getD 7 0).toNat : Int)))))))))] [(10, [t8 0, t32 0, .leaf (.slice none 0 0)])] hk rfl ?_ ?_
  · clear hk; intro k hk
    refine Go.br 20 (Pf := (PostX Γ bursaryref04_Decode_enc)) hk rfl rfl ?_ ?_ <;> clear hk <;> intro ct1 k hk
    · refine Go.rx 20 {} [] [2, 3] _ [(2, .addr 10 0), (3, ti 4)] [(10, [t8 0, t32 0, .leaf (.slice none 0 0)])] hk rfl kr .nil ?_
      clear hk; intro k hk
      exact Go.lvx 20 [] _ [.agg [t8 0, t32 0, .leaf (.slice none 0 0)], ti 4] Tryd.func77 hk rfl kr (.cons (by decide : 0 + 3 ≤ 3) .nil) (T.Le.tup (.cons (T.Le.agg (.cons (T.Le.of_eq rfl) (.cons (T.Le.of_eq rfl) (.cons (T.Le.nil _ _) .nil)))) (.cons (T.Le.of_eq rfl) .nil))) rfl rfl .nil
    · have ct11 : (decide ((b.length : Int) < 9)) = false := (Bool.or_eq_false_iff.1 ct1).1
      have ct12 : (((b.getD 0 0) != 115) || (((b.getD 1 0) != 104) || (((b.getD 6 0) == 0) || ((decide (((b.getD 7 0).toNat : Int) > 64)) || ((b.length : Int) != (8 + ((b.getD 7 0).toNat : Int))))))) = false := (Bool.or_eq_false_iff.1 ct1).2
      have ct11p := of_decide_eq_false ct11
      have ct121 : ((b.getD 0 0) != 115) = false := (Bool.or_eq_false_iff.1 ct12).1
      have ct122 : (((b.getD 1 0) != 104) || (((b.getD 6 0) == 0) || ((decide (((b.getD 7 0).toNat : Int) > 64)) || ((b.length : Int) != (8 + ((b.getD 7 0).toNat : Int)))))) = false := (Bool.or_eq_false_iff.1 ct12).2
      have ct1221 : ((b.getD 1 0) != 104) = false := (Bool.or_eq_false_iff.1 ct122).1
      have ct1222 : (((b.getD 6 0) == 0) || ((decide (((b.getD 7 0).toNat : Int) > 64)) || ((b.length : Int) != (8 + ((b.getD 7 0).toNat : Int))))) = false := (Bool.or_eq_false_iff.1 ct122).2
      have ct12221 : ((b.getD 6 0) == 0) = false := (Bool.or_eq_false_iff.1 ct1222).1
      have ct12222 : ((decide (((b.getD 7 0).toNat : Int) > 64)) || ((b.length : Int) != (8 + ((b.getD 7 0).toNat : Int)))) = false := (Bool.or_eq_false_iff.1 ct1222).2
      have ct122221 : (decide (((b.getD 7 0).toNat : Int) > 64)) = false := (Bool.or_eq_false_iff.1 ct12222).1
      have ct122222 : ((b.length : Int) != (8 + ((b.getD 7 0).toNat : Int))) = false := (Bool.or_eq_false_iff.1 ct12222).2
      have ct122221p := of_decide_eq_false ct122221
      have ct122222p := neIf ct122222
      refine Go.rx 20 {} [] [0, 2, 4] _ [(0, .sl 1 .shr b.length (u8s b)), (2, .addr 10 0), (4, t32 0)] [(10, [t8 0, t32 0, .leaf (.slice none 0 0)])] hk rfl kr .nil ?_
      clear hk; intro k hk
      refine Go.rx 20 {} [] [0, 2, 4, 5] _ [(0, .sl 1 .shr b.length (u8s b)), (2, .addr 10 0), (4, t32 0), (5, ti 2)] [(10, [t8 0, t32 0, .leaf (.slice none 0 0)])] hk rfl kr .nil ?_
      clear hk; intro k hk
      refine Go.loopX 20 hk rfl ?_
      clear hk; intro kl1 kxl1 hl1 hxl1
      have Xl1 : ∀ (g2 : UInt32), Go E Γ 77 64 [] ((PostX Γ bursaryref04_Decode_enc) (bursaryref04_Decode_k1 b g2)) kxl1 (stL [(0, .sl 1 .shr b.length (u8s b)), (2, .addr 10 0), (4, t32 g2)] [(10, [t8 0, t32 0, .leaf (.slice none 0 0)])]) := by
        intro g2
        refine Go.dx 20 [0, 1, 2, 3, 4, 5, 6, 7, 8] { ws := [(2, { v := some (t8 (b.getD 6 0)) }), (5, { v := some (.sl 1 .shr (slc b 8 (b.length : Int)).length (u8s (slc b 8 (b.length : Int)))) })] } [] [2, 3] _ [(2, .addr 10 0), (3, ti 0)] [(10, [t8 (b.getD 6 0), t32 g2, .sl 1 .shr (slc b 8 (b.length : Int)).length (u8s (slc b 8 (b.length : Int)))])] hxl1 rfl kr (.cons (om : 0 ≤ (6 : Int) ∧ (6 : Int) < ((b.length : Nat) : Int)) (.cons (part1 (kr : (E.ti 5).agg = false) (mp_get (g := (fun c : UInt8 => T.leaf (.int .u8 c.toNat))) (k := 6) (n := 6) b (0 : UInt8) rfl om)) (.cons (om : 0 ≤ (8 : Int) ∧ (8 : Int) ≤ (b.length : Int) ∧ (b.length : Int) ≤ (b.length : Int) ∧ (b.length : Int) ≤ (b.length : Nat)) (.cons (sl_slc (t := .shr) (g := (fun c : UInt8 => T.leaf (.int .u8 c.toNat))) (lo := 8) (hi := (b.length : Int)) b om rfl rfl) .nil)))) ?_
        clear hxl1; intro kxl1 hxl1
        exact Go.lvx 20 [] _ [.agg [t8 (b.getD 6 0), t32 g2, .sl 1 .shr (slc b 8 (b.length : Int)).length (u8s (slc b 8 (b.length : Int)))], ti 0] Tryd.func77 hxl1 rfl kr (.cons (by decide : 0 + 3 ≤ 3) .nil) (T.Le.tup (.cons (T.Le.of_eq rfl) (.cons (T.Le.of_eq rfl) .nil))) rfl rfl .nil
      have Ll1 : ∀ (ml1 : Nat) (g1 : UInt32) (i1 : Int), (0 ≤ i1) → ((6 - i1).toNat < ml1) → Go E Γ 77 64 [] ((PostX Γ bursaryref04_Decode_enc) (Lo.el (bursaryref04_Decode_l1 b ml1 g1 i1) (fun z : UInt32 => bursaryref04_Decode_k1 b z))) kl1 (stL [(0, .sl 1 .shr b.length (u8s b)), (2, .addr 10 0), (4, t32 g1), (5, ti i1)] [(10, [t8 0, t32 0, .leaf (.slice none 0 0)])]) := by
        intro ml1
        induction ml1 with
        | zero => intro g1 i1 i0l1 hml1; exact absurd hml1 (Nat.not_lt_zero _)
        | succ ml1 ihl1 =>
          intro g1 i1 i0l1 hml1
          rw [bursaryref04_Decode_l1]
          refine Go.round hl1 ?_
          intro k hk
          refine Go.rx 20 {} [] [0, 2, 4, 5, 46] _ [(0, .sl 1 .shr b.length (u8s b)), (2, .addr 10 0), (4, t32 g1), (5, ti i1), (46, tb (decide (i1 < 6)))] [(10, [t8 0, t32 0, .leaf (.slice none 0 0)])] hk rfl kr (.cons trivial .nil) ?_
          clear hk; intro k hk
          refine Go.br 20 (Pf := (fun z : Lo (UInt32) ((UInt8 × UInt32 × List UInt8) × Int) => (PostX Γ bursaryref04_Decode_enc) (Lo.el z (fun z : UInt32 => bursaryref04_Decode_k1 b z)))) hk rfl rfl ?_ ?_ <;> clear hk <;> intro ct2 k hk
          · have ct2p := of_decide_eq_true ct2
            refine Go.rx 20 { ws := [(1, { v := some (t32 (256 * g1)) }), (5, { v := some (t8 (b.getD i1.toNat 0)) }), (6, { v := some (t32 ((b.getD i1.toNat 0).toUInt32)) }), (7, { v := some (t32 ((256 * g1) + ((b.getD i1.toNat 0).toUInt32))) })] } [] [0, 2, 4, 5] _ [(0, .sl 1 .shr b.length (u8s b)), (2, .addr 10 0), (4, t32 ((256 * g1) + ((b.getD i1.toNat 0).toUInt32))), (5, ti i1)] [(10, [t8 0, t32 0, .leaf (.slice none 0 0)])] hk rfl kr (.cons trivial (.cons (mul32 256 g1) (.cons (om : 0 ≤ (i1 : Int) ∧ (i1 : Int) < ((b.length : Nat) : Int)) (.cons (part1 (kr : (E.ti 5).agg = false) (mp_get (g := (fun c : UInt8 => T.leaf (.int .u8 c.toNat))) (k := i1.toNat * 1) (n := i1.toNat) b (0 : UInt8) (by omega) om)) (.cons (cv8_32 (b.getD i1.toNat 0)) (.cons trivial (.cons (add32 (256 * g1) ((b.getD i1.toNat 0).toUInt32)) .nil))))))) ?_
            clear hk; intro k hk
            refine Go.rx 20 { ws := [(1, { v := some (ti (i1 + 1)) })] } [] [0, 2, 4, 5] _ [(0, .sl 1 .shr b.length (u8s b)), (2, .addr 10 0), (4, t32 ((256 * g1) + ((b.getD i1.toNat 0).toUInt32))), (5, ti (i1 + 1))] [(10, [t8 0, t32 0, .leaf (.slice none 0 0)])] hk rfl kr (.cons trivial (.cons (iw (i1 + 1) om) .nil)) ?_
            clear hk; intro k hk
            exact Go.join 20 hk hl1 rfl (ihl1 ((256 * g1) + ((b.getD i1.toNat 0).toUInt32)) (i1 + 1) om om)
          · have ct2p := of_decide_eq_false ct2
            refine Go.keepN [0, 2, 4] (L' := [(0, .sl 1 .shr b.length (u8s b)), (2, .addr 10 0), (4, t32 g1)]) rfl ?_
            exact Go.exitX (Pf := (PostX Γ bursaryref04_Decode_enc)) (F := fun z : UInt32 => bursaryref04_Decode_k1 b z) (a := g1) (Go.join 20 hk hxl1 rfl (Xl1 g1))
      exact Ll1 _ 0 2 om (Nat.lt_succ_self _)
  · intro hk J
    rcases Bool.eq_false_or_eq_true (decide ((b.length : Int) < 9)) with gd1 | gd1
    · have gd1p := of_decide_eq_true gd1
      refine Go.rx 20 { ws := [(2, { v := some (tb true) })] } [] [0, 2, 43] _ [(0, .sl 1 .shr b.length (u8s b)), (2, .addr 10 0), (43, tb true)] [(10, [t8 0, t32 0, .leaf (.slice none 0 0)])] hk rfl kr (.cons trivial (.cons (eb gd1) .nil)) ?_
      intro k' hk'
      refine Go.slotEq 43 (tb ((decide ((b.length : Int) < 9)) || (((b.getD 0 0) != 115) || (((b.getD 1 0) != 104) || (((b.getD 6 0) == 0) || ((decide (((b.getD 7 0).toNat : Int) > 64)) || ((b.length : Int) != (8 + ((b.getD 7 0).toNat : Int))))))))) rfl (eb (orT gd1).symm) ?_
      exact J k' hk'
    · have gd1p := of_decide_eq_false gd1
      rcases Bool.eq_false_or_eq_true ((b.getD 0 0) != 115) with gd2 | gd2
      · refine Go.rx 20 { ws := [(2, { v := some (tb false) }), (6, { v := some (t8 (b.getD 0 0)) }), (7, { v := some (tb true) })] } [] [0, 2, 43] _ [(0, .sl 1 .shr b.length (u8s b)), (2, .addr 10 0), (43, tb true)] [(10, [t8 0, t32 0, .leaf (.slice none 0 0)])] hk rfl kr (.cons trivial (.cons (eb gd1) (.cons (om : 0 ≤ (0 : Int) ∧ (0 : Int) < ((b.length : Nat) : Int)) (.cons (part1 (kr : (E.ti 5).agg = false) (mp_get (g := (fun c : UInt8 => T.leaf (.int .u8 c.toNat))) (k := 0) (n := 0) b (0 : UInt8) rfl om)) (.cons trivial (.cons ((neB8 (b.getD 0 0) 115).trans (eb gd2)) .nil)))))) ?_
        intro k' hk'
        refine Go.slotEq 43 (tb ((decide ((b.length : Int) < 9)) || (((b.getD 0 0) != 115) || (((b.getD 1 0) != 104) || (((b.getD 6 0) == 0) || ((decide (((b.getD 7 0).toNat : Int) > 64)) || ((b.length : Int) != (8 + ((b.getD 7 0).toNat : Int))))))))) rfl (eb (orF gd1 (orT gd2)).symm) ?_
        exact J k' hk'
      · rcases Bool.eq_false_or_eq_true ((b.getD 1 0) != 104) with gd3 | gd3
        · refine Go.rx 20 { ws := [(2, { v := some (tb false) }), (6, { v := some (t8 (b.getD 0 0)) }), (7, { v := some (tb false) }), (12, { v := some (t8 (b.getD 1 0)) }), (13, { v := some (tb true) })] } [] [0, 2, 43] _ [(0, .sl 1 .shr b.length (u8s b)), (2, .addr 10 0), (43, tb true)] [(10, [t8 0, t32 0, .leaf (.slice none 0 0)])] hk rfl kr (.cons trivial (.cons (eb gd1) (.cons (om : 0 ≤ (0 : Int) ∧ (0 : Int) < ((b.length : Nat) : Int)) (.cons (part1 (kr : (E.ti 5).agg = false) (mp_get (g := (fun c : UInt8 => T.leaf (.int .u8 c.toNat))) (k := 0) (n := 0) b (0 : UInt8) rfl om)) (.cons trivial (.cons ((neB8 (b.getD 0 0) 115).trans (eb gd2)) (.cons (om : 0 ≤ (1 : Int) ∧ (1 : Int) < ((b.length : Nat) : Int)) (.cons (part1 (kr : (E.ti 5).agg = false) (mp_get (g := (fun c : UInt8 => T.leaf (.int .u8 c.toNat))) (k := 1) (n := 1) b (0 : UInt8) rfl om)) (.cons trivial (.cons ((neB8 (b.getD 1 0) 104).trans (eb gd3)) .nil)))))))))) ?_
          intro k' hk'
          refine Go.slotEq 43 (tb ((decide ((b.length : Int) < 9)) || (((b.getD 0 0) != 115) || (((b.getD 1 0) != 104) || (((b.getD 6 0) == 0) || ((decide (((b.getD 7 0).toNat : Int) > 64)) || ((b.length : Int) != (8 + ((b.getD 7 0).toNat : Int))))))))) rfl (eb (orF gd1 (orF gd2 (orT gd3))).symm) ?_
          exact J k' hk'
        · rcases Bool.eq_false_or_eq_true ((b.getD 6 0) == 0) with gd4 | gd4
          · refine Go.rx 20 { ws := [(2, { v := some (tb false) }), (6, { v := some (t8 (b.getD 0 0)) }), (7, { v := some (tb false) }), (12, { v := some (t8 (b.getD 1 0)) }), (13, { v := some (tb false) }), (18, { v := some (t8 (b.getD 6 0)) }), (19, { v := some (tb true) })] } [] [0, 2, 43] _ [(0, .sl 1 .shr b.length (u8s b)), (2, .addr 10 0), (43, tb true)] [(10, [t8 0, t32 0, .leaf (.slice none 0 0)])] hk rfl kr (.cons trivial (.cons (eb gd1) (.cons (om : 0 ≤ (0 : Int) ∧ (0 : Int) < ((b.length : Nat) : Int)) (.cons (part1 (kr : (E.ti 5).agg = false) (mp_get (g := (fun c : UInt8 => T.leaf (.int .u8 c.toNat))) (k := 0) (n := 0) b (0 : UInt8) rfl om)) (.cons trivial (.cons ((neB8 (b.getD 0 0) 115).trans (eb gd2)) (.cons (om : 0 ≤ (1 : Int) ∧ (1 : Int) < ((b.length : Nat) : Int)) (.cons (part1 (kr : (E.ti 5).agg = false) (mp_get (g := (fun c : UInt8 => T.leaf (.int .u8 c.toNat))) (k := 1) (n := 1) b (0 : UInt8) rfl om)) (.cons trivial (.cons ((neB8 (b.getD 1 0) 104).trans (eb gd3)) (.cons (om : 0 ≤ (6 : Int) ∧ (6 : Int) < ((b.length : Nat) : Int)) (.cons (part1 (kr : (E.ti 5).agg = false) (mp_get (g := (fun c : UInt8 => T.leaf (.int .u8 c.toNat))) (k := 6) (n := 6) b (0 : UInt8) rfl om)) (.cons trivial (.cons ((eqB8 (b.getD 6 0) 0).trans (eb gd4)) .nil)))))))))))))) ?_
            intro k' hk'
            refine Go.slotEq 43 (tb ((decide ((b.length : Int) < 9)) || (((b.getD 0 0) != 115) || (((b.getD 1 0) != 104) || (((b.getD 6 0) == 0) || ((decide (((b.getD 7 0).toNat : Int) > 64)) || ((b.length : Int) != (8 + ((b.getD 7 0).toNat : Int))))))))) rfl (eb (orF gd1 (orF gd2 (orF gd3 (orT gd4)))).symm) ?_
            exact J k' hk'
          · rcases Bool.eq_false_or_eq_true (decide (((b.getD 7 0).toNat : Int) > 64)) with gd5 | gd5
            · have gd5p := of_decide_eq_true gd5
              have := lt8 (b.getD 7 0)
              refine Go.rx 20 { ws := [(2, { v := some (tb false) }), (6, { v := some (t8 (b.getD 0 0)) }), (7, { v := some (tb false) }), (12, { v := some (t8 (b.getD 1 0)) }), (13, { v := some (tb false) }), (18, { v := some (t8 (b.getD 6 0)) }), (19, { v := some (tb false) }), (24, { v := some (t8 (b.getD 7 0)) }), (25, { v := some (ti ((b.getD 7 0).toNat : Int)) }), (26, { v := some (tb true) })] } [] [0, 2, 43] _ [(0, .sl 1 .shr b.length (u8s b)), (2, .addr 10 0), (43, tb true)] [(10, [t8 0, t32 0, .leaf (.slice none 0 0)])] hk rfl kr (.cons trivial (.cons (eb gd1) (.cons (om : 0 ≤ (0 : Int) ∧ (0 : Int) < ((b.length : Nat) : Int)) (.cons (part1 (kr : (E.ti 5).agg = false) (mp_get (g := (fun c : UInt8 => T.leaf (.int .u8 c.toNat))) (k := 0) (n := 0) b (0 : UInt8) rfl om)) (.cons trivial (.cons ((neB8 (b.getD 0 0) 115).trans (eb gd2)) (.cons (om : 0 ≤ (1 : Int) ∧ (1 : Int) < ((b.length : Nat) : Int)) (.cons (part1 (kr : (E.ti 5).agg = false) (mp_get (g := (fun c : UInt8 => T.leaf (.int .u8 c.toNat))) (k := 1) (n := 1) b (0 : UInt8) rfl om)) (.cons trivial (.cons ((neB8 (b.getD 1 0) 104).trans (eb gd3)) (.cons (om : 0 ≤ (6 : Int) ∧ (6 : Int) < ((b.length : Nat) : Int)) (.cons (part1 (kr : (E.ti 5).agg = false) (mp_get (g := (fun c : UInt8 => T.leaf (.int .u8 c.toNat))) (k := 6) (n := 6) b (0 : UInt8) rfl om)) (.cons trivial (.cons ((eqB8 (b.getD 6 0) 0).trans (eb gd4)) (.cons (om : 0 ≤ (7 : Int) ∧ (7 : Int) < ((b.length : Nat) : Int)) (.cons (part1 (kr : (E.ti 5).agg = false) (mp_get (g := (fun c : UInt8 => T.leaf (.int .u8 c.toNat))) (k := 7) (n := 7) b (0 : UInt8) rfl om)) (.cons (cv8_i (b.getD 7 0)) (.cons trivial (.cons (eb gd5) .nil))))))))))))))))))) ?_
              intro k' hk'
              refine Go.slotEq 43 (tb ((decide ((b.length : Int) < 9)) || (((b.getD 0 0) != 115) || (((b.getD 1 0) != 104) || (((b.getD 6 0) == 0) || ((decide (((b.getD 7 0).toNat : Int) > 64)) || ((b.length : Int) != (8 + ((b.getD 7 0).toNat : Int))))))))) rfl (eb (orF gd1 (orF gd2 (orF gd3 (orF gd4 (orT gd5))))).symm) ?_
              exact J k' hk'
            · have gd5p := of_decide_eq_false gd5
              have := lt8 (b.getD 7 0)
              have := lt8 (b.getD 7 0)
              refine Go.rx 20 { ws := [(2, { v := some (tb false) }), (6, { v := some (t8 (b.getD 0 0)) }), (7, { v := some (tb false) }), (12, { v := some (t8 (b.getD 1 0)) }), (13, { v := some (tb false) }), (18, { v := some (t8 (b.getD 6 0)) }), (19, { v := some (tb false) }), (24, { v := some (t8 (b.getD 7 0)) }), (25, { v := some (ti ((b.getD 7 0).toNat : Int)) }), (26, { v := some (tb false) }), (33, { v := some (t8 (b.getD 7 0)) }), (34, { v := some (ti ((b.getD 7 0).toNat : Int)) }), (35, { v := some (ti (8 + ((b.getD 7 0).toNat : Int))) })] } [] [0, 2, 43] _ [(0, .sl 1 .shr b.length (u8s b)), (2, .addr 10 0), (43, tb ((b.length : Int) != (8 + ((b.getD 7 0).toNat : Int))))] [(10, [t8 0, t32 0, .leaf (.slice none 0 0)])] hk rfl kr (.cons trivial (.cons (eb gd1) (.cons (om : 0 ≤ (0 : Int) ∧ (0 : Int) < ((b.length : Nat) : Int)) (.cons (part1 (kr : (E.ti 5).agg = false) (mp_get (g := (fun c : UInt8 => T.leaf (.int .u8 c.toNat))) (k := 0) (n := 0) b (0 : UInt8) rfl om)) (.cons trivial (.cons ((neB8 (b.getD 0 0) 115).trans (eb gd2)) (.cons (om : 0 ≤ (1 : Int) ∧ (1 : Int) < ((b.length : Nat) : Int)) (.cons (part1 (kr : (E.ti 5).agg = false) (mp_get (g := (fun c : UInt8 => T.leaf (.int .u8 c.toNat))) (k := 1) (n := 1) b (0 : UInt8) rfl om)) (.cons trivial (.cons ((neB8 (b.getD 1 0) 104).trans (eb gd3)) (.cons (om : 0 ≤ (6 : Int) ∧ (6 : Int) < ((b.length : Nat) : Int)) (.cons (part1 (kr : (E.ti 5).agg = false) (mp_get (g := (fun c : UInt8 => T.leaf (.int .u8 c.toNat))) (k := 6) (n := 6) b (0 : UInt8) rfl om)) (.cons trivial (.cons ((eqB8 (b.getD 6 0) 0).trans (eb gd4)) (.cons (om : 0 ≤ (7 : Int) ∧ (7 : Int) < ((b.length : Nat) : Int)) (.cons (part1 (kr : (E.ti 5).agg = false) (mp_get (g := (fun c : UInt8 => T.leaf (.int .u8 c.toNat))) (k := 7) (n := 7) b (0 : UInt8) rfl om)) (.cons (cv8_i (b.getD 7 0)) (.cons trivial (.cons (eb gd5) (.cons (om : 0 ≤ (7 : Int) ∧ (7 : Int) < ((b.length : Nat) : Int)) (.cons (part1 (kr : (E.ti 5).agg = false) (mp_get (g := (fun c : UInt8 => T.leaf (.int .u8 c.toNat))) (k := 7) (n := 7) b (0 : UInt8) rfl om)) (.cons (cv8_i (b.getD 7 0)) (.cons trivial (.cons (iw (8 + ((b.getD 7 0).toNat : Int)) om) (.cons trivial .nil))))))))))))))))))))))))) ?_
              intro k' hk'
              refine Go.slotEq 43 (tb ((decide ((b.length : Int) < 9)) || (((b.getD 0 0) != 115) || (((b.getD 1 0) != 104) || (((b.getD 6 0) == 0) || ((decide (((b.getD 7 0).toNat : Int) > 64)) || ((b.length : Int) != (8 + ((b.getD 7 0).toNat : Int))))))))) rfl (eb (orF gd1 (orF gd2 (orF gd3 (orF gd4 (orF gd5 rfl))))).symm) ?_
              exact J k' hk'
attribute [irreducible] bursaryref04_Decode_k1 bursaryref04_Decode_l1 bursaryref04_Decode
noncomputable def bursaryref04_Hex_k1 (s2 : List UInt8) : List UInt8 :=
  s2
noncomputable def bursaryref04_Hex_l1 (b : List UInt8) : Nat → (List UInt8) → Int → Lo (List UInt8) (List UInt8)
  | 0, _, _ => .brk default
  | ml1 + 1, s1, i1 =>
    bif decide (i1 < (b.length : Int)) then
      bursaryref04_Hex_l1 b ml1 (s1 ++ (slc ([48, 49, 50, 51, 52, 53, 54, 55, 56, 57, 97, 98, 99, 100, 101, 102] : List UInt8) (((b.getD i1.toNat 0).toNat : Int) / 16) (((b.getD i1.toNat 0).toNat : Int) / 16 + 1)) ++ (slc ([48, 49, 50, 51, 52, 53, 54, 55, 56, 57, 97, 98, 99, 100, 101, 102] : List UInt8) (((b.getD i1.toNat 0).toNat : Int) % 16) (((b.getD i1.toNat 0).toNat : Int) % 16 + 1))) (i1 + 1)
    else
      Lo.brk s1
noncomputable def bursaryref04_Hex (b : List UInt8) : List UInt8 :=
  Lo.el (bursaryref04_Hex_l1 b (((b.length : Int) - (0 : Int)).toNat + 1) [] 0) (fun z : List UInt8 => bursaryref04_Hex_k1 z)
def bursaryref04_Hex_enc (x : List UInt8) : T × List (Nat × List T) := (ts x, [])
theorem bursaryref04_Hex_m {g_b : Tag} (b : List UInt8) (hb : b.length ≤ 4000) : Meets Tryd.prog 81 [.sl 1 g_b b.length (u8s b)] [] [] (ts (bursaryref04_Hex b)) [] := by
  refine Meets.enterX (E := E) (N := 37) (enc := bursaryref04_Hex_enc) (x := (bursaryref04_Hex b)) Tryd.func81 Tryd.call81 rfl rfl ?_
  intro Γ k hk
  refine Go.rx 20 {} [] [0] _ [(0, .sl 1 g_b b.length (u8s b))] [] hk rfl kr .nil ?_
  clear hk; intro k hk
  refine Go.rx 20 {} [] [0, 3] _ [(0, .sl 1 g_b b.length (u8s b)), (3, ts [])] [] hk rfl kr .nil ?_
  clear hk; intro k hk
  refine Go.rx 20 {} [] [0, 3, 4] _ [(0, .sl 1 g_b b.length (u8s b)), (3, ts []), (4, ti 0)] [] hk rfl kr .nil ?_
  clear hk; intro k hk
  refine Go.loopX 20 hk rfl ?_
  clear hk; intro kl1 kxl1 hl1 hxl1
  have Xl1 : ∀ (s2 : List UInt8), Go E Γ 81 37 [] ((PostX Γ bursaryref04_Hex_enc) (bursaryref04_Hex_k1 s2)) kxl1 (stL [(3, ts s2)] []) := by
    intro s2
    refine Go.rx 20 {} [] [2] _ [(2, ts s2)] [] hxl1 rfl kr .nil ?_
    clear hxl1; intro kxl1 hxl1
    exact Go.lvx 20 [] _ [ts s2] Tryd.func81 hxl1 rfl kr .nil (T.Le.of_eq rfl) rfl rfl .nil
  have Ll1 : ∀ (ml1 : Nat) (s1 : List UInt8) (i1 : Int), (0 ≤ i1) → (i1 ≤ (b.length : Int)) → ((s1.length : Int) = 2 * i1) → (((b.length : Int) - i1).toNat < ml1) → Go E Γ 81 37 [] ((PostX Γ bursaryref04_Hex_enc) (Lo.el (bursaryref04_Hex_l1 b ml1 s1 i1) (fun z : List UInt8 => bursaryref04_Hex_k1 z))) kl1 (stL [(0, .sl 1 g_b b.length (u8s b)), (3, ts s1), (4, ti i1)] []) := by
    intro ml1
    induction ml1 with
    | zero => intro s1 i1 i0l1 i1l1 i2l1 hml1; exact absurd hml1 (Nat.not_lt_zero _)
    | succ ml1 ihl1 =>
      intro s1 i1 i0l1 i1l1 i2l1 hml1
      rw [bursaryref04_Hex_l1]
      refine Go.round hl1 ?_
      intro k hk
      refine Go.rx 20 {} [] [0, 3, 4, 10] _ [(0, .sl 1 g_b b.length (u8s b)), (3, ts s1), (4, ti i1), (10, tb (decide (i1 < (b.length : Int))))] [] hk rfl kr (.cons trivial .nil) ?_
      clear hk; intro k hk
      refine Go.br 20 (Pf := (fun z : Lo (List UInt8) (List UInt8) => (PostX Γ bursaryref04_Hex_enc) (Lo.el z (fun z : List UInt8 => bursaryref04_Hex_k1 z)))) hk rfl rfl ?_ ?_ <;> clear hk <;> intro ct1 k hk
      · have ct1p := of_decide_eq_true ct1
        have := lt8 (b.getD i1.toNat 0)
        have := lt8 (b.getD i1.toNat 0)
        refine Go.dx 20 [0, 1, 2, 3, 4, 5, 12, 6, 7, 8, 9, 10, 11, 13] { ws := [(3, { v := some (t8 (b.getD i1.toNat 0)) }), (4, { v := some (ti ((b.getD i1.toNat 0).toNat : Int)) }), (5, { v := some (ti (((b.getD i1.toNat 0).toNat : Int) / 16)) }), (9, { v := some (t8 (b.getD i1.toNat 0)) }), (10, { v := some (ti ((b.getD i1.toNat 0).toNat : Int)) }), (11, { v := some (ti (((b.getD i1.toNat 0).toNat : Int) % 16)) })] } [] [0, 3, 4, 5, 6] _ [(0, .sl 1 g_b b.length (u8s b)), (3, ts s1), (4, ti i1), (5, ti (((b.getD i1.toNat 0).toNat : Int) / 16)), (6, ti (((b.getD i1.toNat 0).toNat : Int) % 16))] [] hk rfl kr (.cons (om : 0 ≤ (i1 : Int) ∧ (i1 : Int) < ((b.length : Nat) : Int)) (.cons (part1 (kr : (E.ti 5).agg = false) (mp_get (g := (fun c : UInt8 => T.leaf (.int .u8 c.toNat))) (k := i1.toNat * 1) (n := i1.toNat) b (0 : UInt8) (by omega) om)) (.cons (cv8_i (b.getD i1.toNat 0)) (.cons (by decide : 16 ≠ (0 : Int)) (.cons (quoI ((b.getD i1.toNat 0).toNat : Int) 16 om) (.cons (om : 0 ≤ (i1 : Int) ∧ (i1 : Int) < ((b.length : Nat) : Int)) (.cons (part1 (kr : (E.ti 5).agg = false) (mp_get (g := (fun c : UInt8 => T.leaf (.int .u8 c.toNat))) (k := i1.toNat * 1) (n := i1.toNat) b (0 : UInt8) (by omega) om)) (.cons (cv8_i (b.getD i1.toNat 0)) (.cons (by decide : 16 ≠ (0 : Int)) (.cons (remI ((b.getD i1.toNat 0).toNat : Int) 16 om) .nil)))))))))) ?_
        clear hk; intro k hk
        refine Go.dx 20 [0, 1, 2, 3, 4, 5, 6, 7, 8, 9, 10, 11] { ws := [(3, { v := some (ti (((b.getD i1.toNat 0).toNat : Int) / 16 + 1)) }), (4, { v := some (ts (slc ([48, 49, 50, 51, 52, 53, 54, 55, 56, 57, 97, 98, 99, 100, 101, 102] : List UInt8) (((b.getD i1.toNat 0).toNat : Int) / 16) (((b.getD i1.toNat 0).toNat : Int) / 16 + 1))) }), (5, { v := some (ts (s1 ++ (slc ([48, 49, 50, 51, 52, 53, 54, 55, 56, 57, 97, 98, 99, 100, 101, 102] : List UInt8) (((b.getD i1.toNat 0).toNat : Int) / 16) (((b.getD i1.toNat 0).toNat : Int) / 16 + 1)))) }), (8, { v := some (ti (((b.getD i1.toNat 0).toNat : Int) % 16 + 1)) }), (9, { v := some (ts (slc ([48, 49, 50, 51, 52, 53, 54, 55, 56, 57, 97, 98, 99, 100, 101, 102] : List UInt8) (((b.getD i1.toNat 0).toNat : Int) % 16) (((b.getD i1.toNat 0).toNat : Int) % 16 + 1))) }), (10, { v := some (ts (s1 ++ (slc ([48, 49, 50, 51, 52, 53, 54, 55, 56, 57, 97, 98, 99, 100, 101, 102] : List UInt8) (((b.getD i1.toNat 0).toNat : Int) / 16) (((b.getD i1.toNat 0).toNat : Int) / 16 + 1)) ++ (slc ([48, 49, 50, 51, 52, 53, 54, 55, 56, 57, 97, 98, 99, 100, 101, 102] : List UInt8) (((b.getD i1.toNat 0).toNat : Int) % 16) (((b.getD i1.toNat 0).toNat : Int) % 16 + 1)))) })] } [] [0, 3, 4] _ [(0, .sl 1 g_b b.length (u8s b)), (3, ts (s1 ++ (slc ([48, 49, 50, 51, 52, 53, 54, 55, 56, 57, 97, 98, 99, 100, 101, 102] : List UInt8) (((b.getD i1.toNat 0).toNat : Int) / 16) (((b.getD i1.toNat 0).toNat : Int) / 16 + 1)) ++ (slc ([48, 49, 50, 51, 52, 53, 54, 55, 56, 57, 97, 98, 99, 100, 101, 102] : List UInt8) (((b.getD i1.toNat 0).toNat : Int) % 16) (((b.getD i1.toNat 0).toNat : Int) % 16 + 1)))), (4, ti i1)] [] hk rfl kr (.cons trivial (.cons (iw (((b.getD i1.toNat 0).toNat : Int) / 16 + 1) om) (.cons (qz2_1 : 0 ≤ (((b.getD i1.toNat 0).toNat : Int) / 16 : Int) ∧ (((b.getD i1.toNat 0).toNat : Int) / 16 : Int) ≤ ((b.getD i1.toNat 0).toNat : Int) / 16 + 1 ∧ ((b.getD i1.toNat 0).toNat : Int) / 16 + 1 ≤ (((sOf ([48, 49, 50, 51, 52, 53, 54, 55, 56, 57, 97, 98, 99, 100, 101, 102] : List UInt8)).size : Nat) : Int) ∧ (((sOf ([48, 49, 50, 51, 52, 53, 54, 55, 56, 57, 97, 98, 99, 100, 101, 102] : List UInt8)).size : Nat) : Int) ≤ (((sOf ([48, 49, 50, 51, 52, 53, 54, 55, 56, 57, 97, 98, 99, 100, 101, 102] : List UInt8)).size : Nat) : Int)) (.cons (s_slc (lo := ((b.getD i1.toNat 0).toNat : Int) / 16) (hi := ((b.getD i1.toNat 0).toNat : Int) / 16 + 1) ([48, 49, 50, 51, 52, 53, 54, 55, 56, 57, 97, 98, 99, 100, 101, 102] : List UInt8) om) (.cons (qz2_1 : (sOf s1).size + (sOf (slc ([48, 49, 50, 51, 52, 53, 54, 55, 56, 57, 97, 98, 99, 100, 101, 102] : List UInt8) (((b.getD i1.toNat 0).toNat : Int) / 16) (((b.getD i1.toNat 0).toNat : Int) / 16 + 1))).size < 9223372036854775807) (.cons (s_add s1 (slc ([48, 49, 50, 51, 52, 53, 54, 55, 56, 57, 97, 98, 99, 100, 101, 102] : List UInt8) (((b.getD i1.toNat 0).toNat : Int) / 16) (((b.getD i1.toNat 0).toNat : Int) / 16 + 1))) (.cons trivial (.cons (iw (((b.getD i1.toNat 0).toNat : Int) % 16 + 1) om) (.cons (qz2_1 : 0 ≤ (((b.getD i1.toNat 0).toNat : Int) % 16 : Int) ∧ (((b.getD i1.toNat 0).toNat : Int) % 16 : Int) ≤ ((b.getD i1.toNat 0).toNat : Int) % 16 + 1 ∧ ((b.getD i1.toNat 0).toNat : Int) % 16 + 1 ≤ (((sOf ([48, 49, 50, 51, 52, 53, 54, 55, 56, 57, 97, 98, 99, 100, 101, 102] : List UInt8)).size : Nat) : Int) ∧ (((sOf ([48, 49, 50, 51, 52, 53, 54, 55, 56, 57, 97, 98, 99, 100, 101, 102] : List UInt8)).size : Nat) : Int) ≤ (((sOf ([48, 49, 50, 51, 52, 53, 54, 55, 56, 57, 97, 98, 99, 100, 101, 102] : List UInt8)).size : Nat) : Int)) (.cons (s_slc (lo := ((b.getD i1.toNat 0).toNat : Int) % 16) (hi := ((b.getD i1.toNat 0).toNat : Int) % 16 + 1) ([48, 49, 50, 51, 52, 53, 54, 55, 56, 57, 97, 98, 99, 100, 101, 102] : List UInt8) om) (.cons (qz2_1 : (sOf (s1 ++ (slc ([48, 49, 50, 51, 52, 53, 54, 55, 56, 57, 97, 98, 99, 100, 101, 102] : List UInt8) (((b.getD i1.toNat 0).toNat : Int) / 16) (((b.getD i1.toNat 0).toNat : Int) / 16 + 1)))).size + (sOf (slc ([48, 49, 50, 51, 52, 53, 54, 55, 56, 57, 97, 98, 99, 100, 101, 102] : List UInt8) (((b.getD i1.toNat 0).toNat : Int) % 16) (((b.getD i1.toNat 0).toNat : Int) % 16 + 1))).size < 9223372036854775807) (.cons (s_add (s1 ++ (slc ([48, 49, 50, 51, 52, 53, 54, 55, 56, 57, 97, 98, 99, 100, 101, 102] : List UInt8) (((b.getD i1.toNat 0).toNat : Int) / 16) (((b.getD i1.toNat 0).toNat : Int) / 16 + 1))) (slc ([48, 49, 50, 51, 52, 53, 54, 55, 56, 57, 97, 98, 99, 100, 101, 102] : List UInt8) (((b.getD i1.toNat 0).toNat : Int) % 16) (((b.getD i1.toNat 0).toNat : Int) % 16 + 1))) .nil)))))))))))) ?_
        clear hk; intro k hk
        refine Go.rx 20 { ws := [(1, { v := some (ti (i1 + 1)) })] } [] [0, 3, 4] _ [(0, .sl 1 g_b b.length (u8s b)), (3, ts (s1 ++ (slc ([48, 49, 50, 51, 52, 53, 54, 55, 56, 57, 97, 98, 99, 100, 101, 102] : List UInt8) (((b.getD i1.toNat 0).toNat : Int) / 16) (((b.getD i1.toNat 0).toNat : Int) / 16 + 1)) ++ (slc ([48, 49, 50, 51, 52, 53, 54, 55, 56, 57, 97, 98, 99, 100, 101, 102] : List UInt8) (((b.getD i1.toNat 0).toNat : Int) % 16) (((b.getD i1.toNat 0).toNat : Int) % 16 + 1)))), (4, ti (i1 + 1))] [] hk rfl kr (.cons trivial (.cons (iw (i1 + 1) om) .nil)) ?_
        clear hk; intro k hk
        exact Go.join 20 hk hl1 rfl (ihl1 (s1 ++ (slc ([48, 49, 50, 51, 52, 53, 54, 55, 56, 57, 97, 98, 99, 100, 101, 102] : List UInt8) (((b.getD i1.toNat 0).toNat : Int) / 16) (((b.getD i1.toNat 0).toNat : Int) / 16 + 1)) ++ (slc ([48, 49, 50, 51, 52, 53, 54, 55, 56, 57, 97, 98, 99, 100, 101, 102] : List UInt8) (((b.getD i1.toNat 0).toNat : Int) % 16) (((b.getD i1.toNat 0).toNat : Int) % 16 + 1))) (i1 + 1) om om om om)
      · have ct1p := of_decide_eq_false ct1
        refine Go.keepN [3] (L' := [(3, ts s1)]) rfl ?_
        exact Go.exitX (Pf := (PostX Γ bursaryref04_Hex_enc)) (F := fun z : List UInt8 => bursaryref04_Hex_k1 z) (a := s1) (Go.join 20 hk hxl1 rfl (Xl1 s1))
  exact Ll1 _ [] 0 om om om (Nat.lt_succ_self _)
attribute [irreducible] bursaryref04_Hex_k1 bursaryref04_Hex_l1 bursaryref04_Hex
noncomputable def bursaryref04_digit_k1  : Int :=
  (-1)
noncomputable def bursaryref04_digit_l1 (c : UInt8) : Nat → Int → Lo Unit Int
  | 0, _ => .brk default
  | ml1 + 1, i1 =>
    bif decide (i1 < 16) then
      bif ([48, 49, 50, 51, 52, 53, 54, 55, 56, 57, 97, 98, 99, 100, 101, 102].getD i1.toNat 0) == c then
        Lo.ret i1
      else
        bursaryref04_digit_l1 c ml1 (i1 + 1)
    else
      Lo.brk ()
noncomputable def bursaryref04_digit (c : UInt8) : Int :=
  Lo.el (bursaryref04_digit_l1 c ((16 - (0 : Int)).toNat + 1) 0) (fun z : Unit => bursaryref04_digit_k1)
def bursaryref04_digit_enc (x : Int) : T × List (Nat × List T) := (ti x, [])
theorem bursaryref04_digit_m (c : UInt8) : Meets Tryd.prog 137 [t8 c] [] [] (ti (bursaryref04_digit c)) [] := by
  refine Meets.enterX (E := E) (N := 13) (enc := bursaryref04_digit_enc) (x := (bursaryref04_digit c)) Tryd.func137 Tryd.call137 rfl rfl ?_
  intro Γ k hk
  refine Go.rx 20 {} [] [0] _ [(0, t8 c)] [] hk rfl kr .nil ?_
  clear hk; intro k hk
  refine Go.rx 20 {} [] [0, 3] _ [(0, t8 c), (3, ti 0)] [] hk rfl kr .nil ?_
  clear hk; intro k hk
  refine Go.loopX 20 hk rfl ?_
  clear hk; intro kl1 kxl1 hl1 hxl1
  have Xl1 : ∀ (_ : True), Go E Γ 137 13 [] ((PostX Γ bursaryref04_digit_enc) (bursaryref04_digit_k1)) kxl1 (stL [] []) := by
    intro _
    refine Go.rx 20 {} [] [2] _ [(2, ti (-1))] [] hxl1 rfl kr .nil ?_
    clear hxl1; intro kxl1 hxl1
    exact Go.lvx 20 [] _ [ti (-1)] Tryd.func137 hxl1 rfl kr .nil (T.Le.of_eq rfl) rfl rfl .nil
  have Ll1 : ∀ (ml1 : Nat) (i1 : Int), (0 ≤ i1) → ((16 - i1).toNat < ml1) → Go E Γ 137 13 [] ((PostX Γ bursaryref04_digit_enc) (Lo.el (bursaryref04_digit_l1 c ml1 i1) (fun z : Unit => bursaryref04_digit_k1))) kl1 (stL [(0, t8 c), (3, ti i1)] []) := by
    intro ml1
    induction ml1 with
    | zero => intro i1 i0l1 hml1; exact absurd hml1 (Nat.not_lt_zero _)
    | succ ml1 ihl1 =>
      intro i1 i0l1 hml1
      rw [bursaryref04_digit_l1]
      refine Go.round hl1 ?_
      intro k hk
      refine Go.rx 20 {} [] [0, 3, 5] _ [(0, t8 c), (3, ti i1), (5, tb (decide (i1 < 16)))] [] hk rfl kr (.cons trivial .nil) ?_
      clear hk; intro k hk
      refine Go.br 20 (Pf := (fun z : Lo (Unit) (Int) => (PostX Γ bursaryref04_digit_enc) (Lo.el z (fun z : Unit => bursaryref04_digit_k1)))) hk rfl rfl ?_ ?_ <;> clear hk <;> intro ct1 k hk
      · have ct1p := of_decide_eq_true ct1
        refine Go.rx 20 { ws := [(1, { b := [[48, 49, 50, 51, 52, 53, 54, 55, 56, 57, 97, 98, 99, 100, 101, 102].getD i1.toNat 0] }), (3, { v := some (tb (([48, 49, 50, 51, 52, 53, 54, 55, 56, 57, 97, 98, 99, 100, 101, 102].getD i1.toNat 0) == c)) })] } [] [0, 3, 11] _ [(0, t8 c), (3, ti i1), (11, tb (([48, 49, 50, 51, 52, 53, 54, 55, 56, 57, 97, 98, 99, 100, 101, 102].getD i1.toNat 0) == c))] [] hk rfl kr (.cons (sOf_get (n := i1) ([48, 49, 50, 51, 52, 53, 54, 55, 56, 57, 97, 98, 99, 100, 101, 102] : List UInt8) om) (.cons trivial (.cons (eqB8 ([48, 49, 50, 51, 52, 53, 54, 55, 56, 57, 97, 98, 99, 100, 101, 102].getD i1.toNat 0) c) .nil))) ?_
        clear hk; intro k hk
        refine Go.br 20 (Pf := (fun z : Lo (Unit) (Int) => (PostX Γ bursaryref04_digit_enc) (Lo.el z (fun z : Unit => bursaryref04_digit_k1)))) hk rfl rfl ?_ ?_ <;> clear hk <;> intro ct2 k hk
        · refine Go.rx 20 {} [] [2] _ [(2, ti i1)] [] hk rfl kr .nil ?_
          clear hk; intro k hk
          exact Go.lvx 20 [] _ [ti i1] Tryd.func137 hk rfl kr .nil (T.Le.of_eq rfl) rfl rfl .nil
        · refine Go.rx 20 { ws := [(1, { v := some (ti (i1 + 1)) })] } [] [0, 3] _ [(0, t8 c), (3, ti (i1 + 1))] [] hk rfl kr (.cons trivial (.cons (iw (i1 + 1) om) .nil)) ?_
          clear hk; intro k hk
          exact Go.join 20 hk hl1 rfl (ihl1 (i1 + 1) om om)
      · have ct1p := of_decide_eq_false ct1
        refine Go.keepN [] (L' := []) rfl ?_
        exact Go.exitX (Pf := (PostX Γ bursaryref04_digit_enc)) (F := fun z : Unit => bursaryref04_digit_k1) (a := ()) (Go.join 20 hk hxl1 rfl (Xl1 trivial))
  exact Ll1 _ 0 om (Nat.lt_succ_self _)
def dig (c : UInt8) : Int := if 48 ≤ c.toNat ∧ c.toNat ≤ 57 then (c.toNat : Int) - 48 else if 97 ≤ c.toNat ∧ c.toNat ≤ 102 then (c.toNat : Int) - 87 else -1
theorem digit_all : (List.range 256).all (fun n => bursaryref04_digit (UInt8.ofNat n) == dig (UInt8.ofNat n)) = true := by kernel_rfl
theorem digit_eq (c : UInt8) : bursaryref04_digit c = dig c := by
  have h := List.all_eq_true.1 digit_all c.toNat (List.mem_range.2 (by have := c.toNat_lt; omega))
  have e : UInt8.ofNat c.toNat = c := by simp
  simpa [e] using h
theorem digit_fact (c : UInt8) : -1 ≤ bursaryref04_digit c ∧ bursaryref04_digit c ≤ 15 := by
  rw [digit_eq, dig]; split
  · omega
  · split <;> omega
attribute [irreducible] bursaryref04_digit_k1 bursaryref04_digit_l1 bursaryref04_digit
noncomputable def bursaryref04_Unhex_k1 (s : List UInt8) (o2 : List UInt8) : List UInt8 × Bool :=
  (o2, ((s.length : Int) % 2) == 0)
noncomputable def bursaryref04_Unhex_l1 (s : List UInt8) : Nat → Int → (List UInt8) → Lo (List UInt8) (List UInt8 × Bool)
  | 0, _, _ => .brk default
  | ml1 + 1, i1, o1 =>
    bif decide (i1 + 1 < (s.length : Int)) then
      bnd (bursaryref04_digit (s.getD i1.toNat 0)) fun x1 =>
      bnd (bursaryref04_digit (s.getD (i1 + 1).toNat 0)) fun x2 =>
      bif (decide (x1 < 0)) || (decide (x2 < 0)) then
        Lo.ret ([], false)
      else
        bursaryref04_Unhex_l1 s ml1 (i1 + 2) (o1 ++ [u8i (16 * x1 + x2)])
    else
      Lo.brk o1
noncomputable def bursaryref04_Unhex (s : List UInt8) : List UInt8 × Bool :=
  Lo.el (bursaryref04_Unhex_l1 s (((s.length : Int) - (0 : Int)).toNat + 1) 0 []) (fun z : List UInt8 => bursaryref04_Unhex_k1 s z)
def bursaryref04_Unhex_enc (x : List UInt8 × Bool) : T × List (Nat × List T) := (.tup [.sl 1 .shr x.1.length (u8s x.1), tb x.2], [])
theorem bursaryref04_Unhex_m (s : List UInt8) (hs : s.length ≤ 4000) : Meets Tryd.prog 120 [ts s] [] [] (.tup [.sl 1 .shr ((bursaryref04_Unhex s).1).length (u8s ((bursaryref04_Unhex s).1)), tb ((bursaryref04_Unhex s).2)]) [] := by
  refine Meets.enterX (E := E) (N := 43) (enc := bursaryref04_Unhex_enc) (x := (bursaryref04_Unhex s)) Tryd.func120 Tryd.call120 rfl rfl ?_
  intro Γ k hk
  refine Go.rx 20 {} [] [0] _ [(0, ts s)] [] hk rfl kr .nil ?_
  clear hk; intro k hk
  refine Go.rx 20 {} [] [0, 4] _ [(0, ts s), (4, .leaf (.slice none 0 0))] [] hk rfl kr .nil ?_
  clear hk; intro k hk
  refine Go.rx 20 {} [] [0, 4, 5] _ [(0, ts s), (4, .leaf (.slice none 0 0)), (5, ti 0)] [] hk rfl kr .nil ?_
  clear hk; intro k hk
  refine Go.phn 4 10 1 rfl (.inl rfl) rfl rfl ?_
  refine Go.loopX 20 hk rfl ?_
  clear hk; intro kl1 kxl1 hl1 hxl1
  have Xl1 : ∀ (o2 : List UInt8), Go E Γ 120 43 [] ((PostX Γ bursaryref04_Unhex_enc) (bursaryref04_Unhex_k1 s o2)) kxl1 (stL [(0, ts s), (4, .ref 10 1 0 o2.length)] [(10, u8s o2)]) := by
    intro o2
    refine Go.rx 20 { ws := [(2, { v := some (ti (s.length : Int)) }), (3, { v := some (ti ((s.length : Int) % 2)) })] } [] [2, 3] _ [(2, .ref 10 1 0 o2.length), (3, tb (((s.length : Int) % 2) == 0))] [(10, u8s o2)] hxl1 rfl kr (.cons (len_sOf s) (.cons (by decide : 2 ≠ (0 : Int)) (.cons (remI (s.length : Int) 2 om) (.cons trivial .nil)))) ?_
    clear hxl1; intro kxl1 hxl1
    refine Go.frz [] [] 2 10 (u8s o2) _ [(2, .dead), (3, tb (((s.length : Int) % 2) == 0))] [] rfl rfl (mp_ids (g := (fun c : UInt8 => T.leaf (.int .u8 c.toNat))) o2 (fun _ => rfl)) qz2_3 (mp_all (g := (fun c : UInt8 => T.leaf (.int .u8 c.toNat))) o2) kr .nil ?_
    exact Go.lvx 20 [] _ [.sl 1 .shr o2.length (u8s o2), tb (((s.length : Int) % 2) == 0)] Tryd.func120 hxl1 rfl kr .nil (T.Le.tup (.cons (T.Le.of_eq rfl) (.cons (T.Le.of_eq rfl) .nil))) rfl rfl .nil
  have Ll1 : ∀ (ml1 : Nat) (i1 : Int) (o1 : List UInt8), (0 ≤ i1) → (i1 ≤ (s.length : Int)) → ((o1.length : Int) ≤ i1) → (((s.length : Int) - i1).toNat < ml1) → Go E Γ 120 43 [] ((PostX Γ bursaryref04_Unhex_enc) (Lo.el (bursaryref04_Unhex_l1 s ml1 i1 o1) (fun z : List UInt8 => bursaryref04_Unhex_k1 s z))) kl1 (stL [(0, ts s), (4, .ref 10 1 0 o1.length), (5, ti i1)] [(10, u8s o1)]) := by
    intro ml1
    induction ml1 with
    | zero => intro i1 o1 i0l1 i1l1 i2l1 hml1; exact absurd hml1 (Nat.not_lt_zero _)
    | succ ml1 ihl1 =>
      intro i1 o1 i0l1 i1l1 i2l1 hml1
      rw [bursaryref04_Unhex_l1]
      refine Go.round hl1 ?_
      intro k hk
      refine Go.rx 20 { ws := [(1, { v := some (ti (i1 + 1)) }), (3, { v := some (ti (s.length : Int)) })] } [] [0, 4, 5, 12] _ [(0, ts s), (4, .ref 10 1 0 o1.length), (5, ti i1), (12, tb (decide (i1 + 1 < (s.length : Int))))] [(10, u8s o1)] hk rfl kr (.cons trivial (.cons (iw (i1 + 1) om) (.cons (len_sOf s) (.cons trivial .nil)))) ?_
      clear hk; intro k hk
      refine Go.br 20 (Pf := (fun z : Lo (List UInt8) (List UInt8 × Bool) => (PostX Γ bursaryref04_Unhex_enc) (Lo.el z (fun z : List UInt8 => bursaryref04_Unhex_k1 s z)))) hk rfl rfl ?_ ?_ <;> clear hk <;> intro ct1 k hk
      · have ct1p := of_decide_eq_true ct1
        refine Go.dx 20 [0, 1, 2, 3, 4, 5, 6, 7, 8, 9, 10] { ws := [(2, { b := [s.getD i1.toNat 0] }), (3, { call := some { ids := [], S := [], M := [], R := ti (bursaryref04_digit (s.getD i1.toNat 0)), H' := [] } }), (6, { v := some (ti (i1 + 1)) }), (7, { b := [s.getD (i1 + 1).toNat 0] }), (8, { call := some { ids := [], S := [], M := [], R := ti (bursaryref04_digit (s.getD (i1 + 1).toNat 0)), H' := [] } })] } [] [0, 4, 5, 6, 7] _ [(0, ts s), (4, .ref 10 1 0 o1.length), (5, ti i1), (6, ti (bursaryref04_digit (s.getD i1.toNat 0))), (7, ti (bursaryref04_digit (s.getD (i1 + 1).toNat 0)))] [(10, u8s o1)] hk rfl kr (.cons (sOf_get (n := i1) s om) (.cons (bursaryref04_digit_m (s.getD i1.toNat 0)) (.cons (sb : subN (idsL [t8 (s.getD i1.toNat 0)]) [] = true) (.cons trivial (.cons (iw (i1 + 1) om) (.cons (sOf_get (n := i1 + 1) s om) (.cons (bursaryref04_digit_m (s.getD (i1 + 1).toNat 0)) (.cons (sb : subN (idsL [t8 (s.getD (i1 + 1).toNat 0)]) [] = true) .nil)))))))) ?_
        clear hk; intro k hk
        refine Go.bnd (Pf := (fun z : Lo (List UInt8) (List UInt8 × Bool) => (PostX Γ bursaryref04_Unhex_enc) (Lo.el z (fun z : List UInt8 => bursaryref04_Unhex_k1 s z)))) (v := (bursaryref04_digit (s.getD i1.toNat 0))) (fun x1 => [(0, ts s), (4, .ref 10 1 0 o1.length), (5, ti i1), (6, ti x1), (7, ti (bursaryref04_digit (s.getD (i1 + 1).toNat 0)))]) (fun x1 => [(10, u8s o1)]) ?_
        intro x1 hx1
        have fx1 := digit_fact (s.getD i1.toNat 0)
        rw [← hx1] at fx1
        refine Go.bnd (Pf := (fun z : Lo (List UInt8) (List UInt8 × Bool) => (PostX Γ bursaryref04_Unhex_enc) (Lo.el z (fun z : List UInt8 => bursaryref04_Unhex_k1 s z)))) (v := (bursaryref04_digit (s.getD (i1 + 1).toNat 0))) (fun x2 => [(0, ts s), (4, .ref 10 1 0 o1.length), (5, ti i1), (6, ti x1), (7, ti x2)]) (fun x2 => [(10, u8s o1)]) ?_
        intro x2 hx2
        have fx2 := digit_fact (s.getD (i1 + 1).toNat 0)
        rw [← hx2] at fx2
        refine Go.regJ 20 [(0, ts s), (4, .ref 10 1 0 o1.length), (5, ti i1), (6, ti x1), (7, ti x2), (29, tb ((decide (x1 < 0)) || (decide (x2 < 0))))] [(10, u8s o1)] hk rfl ?_ ?_
        · clear hk; intro k hk
          refine Go.br 20 (Pf := (fun z : Lo (List UInt8) (List UInt8 × Bool) => (PostX Γ bursaryref04_Unhex_enc) (Lo.el z (fun z : List UInt8 => bursaryref04_Unhex_k1 s z)))) hk rfl rfl ?_ ?_ <;> clear hk <;> intro ct2 k hk
          · refine Go.rx 20 {} [10] [2, 3] _ [(2, .leaf (.slice none 0 0)), (3, tb false)] [] hk rfl kr .nil ?_
            clear hk; intro k hk
            exact Go.lvx 20 [] _ [.leaf (.slice none 0 0), tb false] Tryd.func120 hk rfl kr .nil (T.Le.tup (.cons (T.Le.nil _ _) (.cons (T.Le.of_eq rfl) .nil))) rfl rfl .nil
          · have ct21 : (decide (x1 < 0)) = false := (Bool.or_eq_false_iff.1 ct2).1
            have ct22 : (decide (x2 < 0)) = false := (Bool.or_eq_false_iff.1 ct2).2
            have ct21p := of_decide_eq_false ct21
            have ct22p := of_decide_eq_false ct22
            refine Go.rx 20 { ws := [(2, { v := some (ti (16 * x1)) }), (4, { v := some (ti (16 * x1 + x2)) }), (5, { v := some (t8 (u8i (16 * x1 + x2))) }), (6, { id := 11 }), (7, { v := some (.ref 10 1 0 ((o1 ++ [u8i (16 * x1 + x2)]).length)), c := some (u8s (o1 ++ [u8i (16 * x1 + x2)])), id := 10, sym := true })], pg := [10], fd := some [10] } [11] [0, 4, 5] _ [(0, ts s), (4, .ref 10 1 0 ((o1 ++ [u8i (16 * x1 + x2)]).length)), (5, ti i1)] [(10, u8s (o1 ++ [u8i (16 * x1 + x2)]))] hk rfl kr (.cons trivial (.cons (iw (16 * x1) om) (.cons trivial (.cons (iw (16 * x1 + x2) om) (.cons (cvi_8 (16 * x1 + x2)) (.cons (Nat.le_of_ble_eq_true rfl : 0 + 1 * 1 ≤ ([t8 (u8i (16 * x1 + x2))] : List T).length) (.cons (qz2_3 : 0 + o1.length * 1 ≤ (u8s o1).length) (.cons (rfl : scalL [t8 (u8i (16 * x1 + x2))] = true) (.cons (om : (o1.length + 1) * 1 ≤ 140737488355328) (.cons (mp_app (g := (fun c : UInt8 => T.leaf (.int .u8 c.toNat))) (o1) [u8i (16 * x1 + x2)] rfl) (.cons (mp_mem (i := 10) (g := (fun c : UInt8 => T.leaf (.int .u8 c.toNat))) (o1 ++ [u8i (16 * x1 + x2)]) (fun _ => rfl)) (.cons (by first | rfl | (simp; done) | (refine congrArg (fun q => T.ref 10 1 0 q) ?_; simp <;> omega) : T.ref 10 1 0 (o1.length + 1) = .ref 10 1 0 ((o1 ++ [u8i (16 * x1 + x2)]).length)) (.cons (mp_mem (i := 11) (g := (fun c : UInt8 => T.leaf (.int .u8 c.toNat))) (o1 ++ [u8i (16 * x1 + x2)]) (fun _ => rfl)) .nil))))))))))))) ?_
            clear hk; intro k hk
            refine Go.rx 20 { ws := [(1, { v := some (ti (i1 + 2)) })] } [] [0, 4, 5] _ [(0, ts s), (4, .ref 10 1 0 ((o1 ++ [u8i (16 * x1 + x2)]).length)), (5, ti (i1 + 2))] [(10, u8s (o1 ++ [u8i (16 * x1 + x2)]))] hk rfl kr (.cons trivial (.cons (iw (i1 + 2) om) .nil)) ?_
            clear hk; intro k hk
            exact Go.join 20 hk hl1 rfl (ihl1 (i1 + 2) (o1 ++ [u8i (16 * x1 + x2)]) om om om om)
        · intro hk J
          rcases Bool.eq_false_or_eq_true (decide (x1 < 0)) with gd1 | gd1
          · have gd1p := of_decide_eq_true gd1
            refine Go.rx 20 { ws := [(1, { v := some (tb true) })] } [] [0, 4, 5, 6, 7, 29] _ [(0, ts s), (4, .ref 10 1 0 o1.length), (5, ti i1), (6, ti x1), (7, ti x2), (29, tb true)] [(10, u8s o1)] hk rfl kr (.cons trivial (.cons (eb gd1) .nil)) ?_
            intro k' hk'
            refine Go.slotEq 29 (tb ((decide (x1 < 0)) || (decide (x2 < 0)))) rfl (eb (orT gd1).symm) ?_
            exact J k' hk'
          · have gd1p := of_decide_eq_false gd1
            refine Go.rx 20 { ws := [(1, { v := some (tb false) })] } [] [0, 4, 5, 6, 7, 29] _ [(0, ts s), (4, .ref 10 1 0 o1.length), (5, ti i1), (6, ti x1), (7, ti x2), (29, tb (decide (x2 < 0)))] [(10, u8s o1)] hk rfl kr (.cons trivial (.cons (eb gd1) (.cons trivial .nil))) ?_
            intro k' hk'
            refine Go.slotEq 29 (tb ((decide (x1 < 0)) || (decide (x2 < 0)))) rfl (eb (orF gd1 rfl).symm) ?_
            exact J k' hk'
      · have ct1p := of_decide_eq_false ct1
        refine Go.keepN [0, 4] (L' := [(0, ts s), (4, .ref 10 1 0 o1.length)]) rfl ?_
        exact Go.exitX (Pf := (PostX Γ bursaryref04_Unhex_enc)) (F := fun z : List UInt8 => bursaryref04_Unhex_k1 s z) (a := o1) (Go.join 20 hk hxl1 rfl (Xl1 o1))
  exact Ll1 _ 0 [] om om om (Nat.lt_succ_self _)
def unh : List UInt8 → Option (List UInt8)
  | a :: b :: r => if dig a < 0 ∨ dig b < 0 then none else (unh r).map (u8i (16 * dig a + dig b) :: ·)
  | _ => some []
theorem unh_len : ∀ (n : Nat) (l r : List UInt8), l.length ≤ n → unh l = some r → 2 * r.length ≤ l.length
  | n, [], r, _, h => by simp [unh] at h; subst h; simp
  | n, [_], r, _, h => by simp [unh] at h; subst h; simp
  | 0, _ :: _ :: _, _, hn, _ => absurd hn (by simp)
  | n + 1, a :: b :: l, r, hn, h => by
    rw [unh] at h
    split at h
    · exact absurd h (by simp)
    · cases e : unh l with
      | none => rw [e] at h; exact absurd h (by simp)
      | some q =>
        rw [e] at h; injection h with h; subst h
        have := unh_len n l q (by simp at hn; omega) e
        simp; omega
theorem unhex_l (s : List UInt8) : ∀ (m : Nat) (i : Int) (o : List UInt8), 0 ≤ i → i ≤ s.length → ((s.length : Int) - i).toNat < m → bursaryref04_Unhex_l1 s m i o = match unh (s.drop i.toNat) with | none => .ret ([], false) | some l => .brk (o ++ l)
  | 0, _, _, _, _, h => absurd h (Nat.not_lt_zero _)
  | m + 1, i, o, h0, h1, h => by
    rw [bursaryref04_Unhex_l1]
    by_cases c : i + 1 < (s.length : Int)
    · have e : s.drop i.toNat = s.getD i.toNat 0 :: s.getD (i + 1).toNat 0 :: s.drop (i + 2).toNat := by
        rw [drop_cons s i.toNat 0 (by omega), drop_cons s (i.toNat + 1) 0 (by omega), show (i + 1).toNat = i.toNat + 1 by omega, show (i + 2).toNat = i.toNat + 1 + 1 by omega]
      rw [decide_eq_true c, cond_true, e, unh]
      simp only [bnd_eq, digit_eq]
      by_cases d : dig (s.getD i.toNat 0) < 0 ∨ dig (s.getD (i + 1).toNat 0) < 0
      · rw [if_pos d, show ((decide (dig (s.getD i.toNat 0) < 0)) || (decide (dig (s.getD (i + 1).toNat 0) < 0))) = true by simpa using d, cond_true]
      · rw [if_neg d, show ((decide (dig (s.getD i.toNat 0) < 0)) || (decide (dig (s.getD (i + 1).toNat 0) < 0))) = false by simpa using d, cond_false, unhex_l s m _ _ (by omega) (by omega) (by omega)]
        cases unh (s.drop (i + 2).toNat) with
        | none => rfl
        | some l => simp
    · rw [decide_eq_false c, cond_false]
      have e : s.drop i.toNat = [] ∨ ∃ x, s.drop i.toNat = [x] := by
        by_cases q : i.toNat < s.length
        · right; refine ⟨s.getD i.toNat 0, ?_⟩; rw [drop_cons s i.toNat 0 q, List.drop_eq_nil_of_le (by omega)]
        · left; exact List.drop_eq_nil_of_le (by omega)
      rcases e with e | ⟨x, e⟩
      · rw [e, show unh [] = some [] by simp [unh]]; simp
      · rw [e, show unh [x] = some [] by simp [unh]]; simp
theorem unhex_eq (s : List UInt8) : bursaryref04_Unhex s = match unh s with | none => ([], false) | some l => (l, ((s.length : Int) % 2) == 0) := by
  rw [bursaryref04_Unhex, unhex_l s _ 0 [] (by omega) (by omega) (by omega)]
  show Lo.el (match unh s with | none => _ | some l => _) _ = _
  cases unh s with
  | none => rfl
  | some l => rfl
theorem unhex_fact (s : List UInt8) : (bursaryref04_Unhex s).1.length ≤ s.length := by
  rw [unhex_eq]
  cases e : unh s with
  | none => simp
  | some l => have := unh_len _ s l (Nat.le_refl _) e; simp; omega
attribute [irreducible] bursaryref04_Unhex_k1 bursaryref04_Unhex_l1 bursaryref04_Unhex
noncomputable def bursaryref04_Parse (s : List UInt8) : (UInt8 × UInt32 × List UInt8) × Int :=
  bnd (bursaryref04_Unhex s) fun x1 =>
  bif !x1.2 then
    ((0, 0, []), 4)
  else
    bnd (bursaryref04_Decode x1.1) fun x2 =>
    (((x2.1).1, (x2.1).2.1, (x2.1).2.2), x2.2)
def bursaryref04_Parse_enc (x : (UInt8 × UInt32 × List UInt8) × Int) : T × List (Nat × List T) := (.tup [.agg [t8 x.1.1, t32 x.1.2.1, .sl 1 .shr x.1.2.2.length (u8s x.1.2.2)], ti x.2], [])
theorem bursaryref04_Parse_m (s : List UInt8) (hs : s.length ≤ 4000) : Meets Tryd.prog 79 [ts s] [] [] (.tup [.agg [t8 (((bursaryref04_Parse s).1).1), t32 (((bursaryref04_Parse s).1).2.1), .sl 1 .shr (((bursaryref04_Parse s).1).2.2).length (u8s (((bursaryref04_Parse s).1).2.2))], ti ((bursaryref04_Parse s).2)]) [] := by
  refine Meets.enterX (E := E) (N := 18) (enc := bursaryref04_Parse_enc) (x := (bursaryref04_Parse s)) Tryd.func79 Tryd.call79 rfl rfl ?_
  intro Γ k hk
  refine Go.rx 20 { ws := [(0, { id := 10 })] } [] [0, 2] _ [(0, ts s), (2, .addr 10 0)] [(10, [t8 0, t32 0, .leaf (.slice none 0 0)])] hk rfl kr .nil ?_
  clear hk; intro k hk
  refine Go.rx 20 { ws := [(1, { call := some { ids := [], S := [], M := [], R := .tup [.sl 1 .shr ((bursaryref04_Unhex s).1).length (u8s ((bursaryref04_Unhex s).1)), tb ((bursaryref04_Unhex s).2)], H' := [] } })] } [] [2, 4, 5] _ [(2, .addr 10 0), (4, .sl 1 .shr ((bursaryref04_Unhex s).1).length (u8s ((bursaryref04_Unhex s).1))), (5, tb ((bursaryref04_Unhex s).2))] [(10, [t8 0, t32 0, .leaf (.slice none 0 0)])] hk rfl kr (.cons (bursaryref04_Unhex_m s om) (.cons (sb : subN (idsL [ts s]) [] = true) .nil)) ?_
  clear hk; intro k hk
  refine Go.bnd (Pf := (PostX Γ bursaryref04_Parse_enc)) (v := (bursaryref04_Unhex s)) (fun x1 => [(2, .addr 10 0), (4, .sl 1 .shr x1.1.length (u8s x1.1)), (5, tb x1.2)]) (fun x1 => [(10, [t8 0, t32 0, .leaf (.slice none 0 0)])]) ?_
  intro x1 hx1
  have fx1 := unhex_fact s
  rw [← hx1] at fx1
  refine Go.rx 20 {} [] [2, 4, 12] _ [(2, .addr 10 0), (4, .sl 1 .shr x1.1.length (u8s x1.1)), (12, tb (!x1.2))] [(10, [t8 0, t32 0, .leaf (.slice none 0 0)])] hk rfl kr .nil ?_
  clear hk; intro k hk
  refine Go.br 20 (Pf := (PostX Γ bursaryref04_Parse_enc)) hk rfl rfl ?_ ?_ <;> clear hk <;> intro ct1 k hk
  · have ct1' : x1.2 = false := ntT ct1
    refine Go.rx 20 {} [] [2, 3] _ [(2, .addr 10 0), (3, ti 4)] [(10, [t8 0, t32 0, .leaf (.slice none 0 0)])] hk rfl kr .nil ?_
    clear hk; intro k hk
    exact Go.lvx 20 [] _ [.agg [t8 0, t32 0, .leaf (.slice none 0 0)], ti 4] Tryd.func79 hk rfl kr (.cons (by decide : 0 + 3 ≤ 3) .nil) (T.Le.tup (.cons (T.Le.agg (.cons (T.Le.of_eq rfl) (.cons (T.Le.of_eq rfl) (.cons (T.Le.nil _ _) .nil)))) (.cons (T.Le.of_eq rfl) .nil))) rfl rfl .nil
  · have ct1' : x1.2 = true := ntF ct1
    refine Go.rx 20 { ws := [(1, { call := some { ids := [], S := [], M := [], R := .tup [.agg [t8 (((bursaryref04_Decode x1.1).1).1), t32 (((bursaryref04_Decode x1.1).1).2.1), .sl 1 .shr (((bursaryref04_Decode x1.1).1).2.2).length (u8s (((bursaryref04_Decode x1.1).1).2.2))], ti ((bursaryref04_Decode x1.1).2)], H' := [] } })] } [] [2, 3] _ [(2, .addr 10 0), (3, ti ((bursaryref04_Decode x1.1).2))] [(10, [t8 (((bursaryref04_Decode x1.1).1).1), t32 (((bursaryref04_Decode x1.1).1).2.1), .sl 1 .shr (((bursaryref04_Decode x1.1).1).2.2).length (u8s (((bursaryref04_Decode x1.1).1).2.2))])] hk rfl kr (.cons (bursaryref04_Decode_m x1.1 om) (.cons (sb : subN (idsL [.sl 1 .shr x1.1.length (u8s x1.1)]) [] = true) .nil)) ?_
    clear hk; intro k hk
    refine Go.bnd (Pf := (PostX Γ bursaryref04_Parse_enc)) (v := (bursaryref04_Decode x1.1)) (fun x2 => [(2, .addr 10 0), (3, ti x2.2)]) (fun x2 => [(10, [t8 ((x2.1).1), t32 ((x2.1).2.1), .sl 1 .shr ((x2.1).2.2).length (u8s ((x2.1).2.2))])]) ?_
    intro x2 hx2
    exact Go.lvx 20 [] _ [.agg [t8 ((x2.1).1), t32 ((x2.1).2.1), .sl 1 .shr ((x2.1).2.2).length (u8s ((x2.1).2.2))], ti x2.2] Tryd.func79 hk rfl kr (.cons (by decide : 0 + 3 ≤ 3) .nil) (T.Le.tup (.cons (T.Le.of_eq rfl) (.cons (T.Le.of_eq rfl) .nil))) rfl rfl .nil
attribute [irreducible] bursaryref04_Parse
end Go.Proofs.YtbppcnhfeobefaaDoor

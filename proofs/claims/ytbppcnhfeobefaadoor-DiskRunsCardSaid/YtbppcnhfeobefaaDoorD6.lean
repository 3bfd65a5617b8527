import Derived.Test.YtbppcnhfeobefaaDoorEr
import Derived.Test.YtbppcnhfeobefaaDoorEnVx8
set_option linter.unusedVariables false
set_option linter.unusedSimpArgs false
namespace Go.Proofs.YtbppcnhfeobefaaDoor
open Go Go.Vw Go.Proofs
theorem qd6_1 {p : Prop} (h : p := by first | rfl | (rw [mp_ids (g := (fun c : UInt8 => T.leaf (.int .u8 c.toNat))) _ (fun _ => rfl)]; rfl)) : p := h
noncomputable def slices_Grow (n : Int) : List UInt8 :=
  bif decide (n < 0) then
    default
  else
    bif decide (n - 0 > 0) then
      []
    else
      []
def slices_Grow_enc (x : List UInt8) : T × List (Nat × List T) := (.ref 99 1 0 x.length, [(99, u8s x)])
theorem slices_Grow_m (n : Int) (hn : 0 ≤ n ∧ n ≤ 140737488355328) : Meets Tryd.prog 127 [.leaf (.slice none 0 0), ti n] [] [] (.ref 99 1 0 ((slices_Grow n).length)) [(99, u8s (slices_Grow n))] := by
  refine Meets.enterX (E := E) (N := 27) (enc := slices_Grow_enc) (x := (slices_Grow n)) Tryd.func127 Tryd.call127 rfl rfl ?_
  intro Γ k hk
  refine Go.rx 20 {} [] [0, 1] _ [(0, .leaf (.slice none 0 0)), (1, ti n)] [] hk rfl kr .nil ?_
  clear hk; intro k hk
  refine Go.rx 20 {} [] [0, 1, 6] _ [(0, .leaf (.slice none 0 0)), (1, ti n), (6, tb (decide (n < 0)))] [] hk rfl kr (.cons trivial .nil) ?_
  clear hk; intro k hk
  refine Go.br 20 (Pf := (PostX Γ slices_Grow_enc)) hk rfl rfl ?_ ?_ <;> clear hk <;> intro ct1 k hk
  · have ct1p := of_decide_eq_true ct1
    exact (show False by first | omega | (simp <;> omega) | (simp at * <;> omega) | (split <;> omega) | (split <;> (first | omega | (simp <;> omega) | (simp at * <;> omega)))).elim
  · have ct1p := of_decide_eq_false ct1
    refine Go.rx 20 { ws := [(6, { v := some (ti (n - 0)) })] } [] [0, 1] _ [(0, .leaf (.slice none 0 0)), (1, ti (n - 0))] [] hk rfl kr (.cons trivial (.cons trivial (.cons (iw (n - 0) (by omega)) .nil))) ?_
    clear hk; intro k hk
    refine Go.rx 20 {} [] [0, 1, 16] _ [(0, .leaf (.slice none 0 0)), (1, ti (n - 0)), (16, tb (decide (n - 0 > 0)))] [] hk rfl kr (.cons trivial .nil) ?_
    clear hk; intro k hk
    refine Go.br 20 (Pf := (PostX Γ slices_Grow_enc)) hk rfl rfl ?_ ?_ <;> clear hk <;> intro ct2 k hk
    · have ct2p := of_decide_eq_true ct2
      refine Go.rx 20 { ws := [(5, { v := some (.ref 10 1 0 ((List.replicate ((n - 0).toNat) (0 : UInt8)).length)), c := some (u8s (List.replicate ((n - 0).toNat) (0 : UInt8))), id := 10 }), (8, { v := some (.ref 10 1 0 0) })] } [] [0] _ [(0, .ref 10 1 0 0)] [(10, u8s (List.replicate ((n - 0).toNat) (0 : UInt8)))] hk rfl kr (.cons (by decide : 0 ≤ (0 : Int) ∧ (0 : Int) ≤ 0 ∧ 0 ≤ ((0 : Nat) : Int) ∧ ((0 : Nat) : Int) ≤ ((0 : Nat) : Int)) (.cons (by omega : 0 ≤ (n - 0 : Int) ∧ (n - 0 : Int) * ((1 : Nat) : Int) ≤ 140737488355328) (.cons (mp_zeros (g := (fun c : UInt8 => T.leaf (.int .u8 c.toNat))) (n := Int.toNat (n - 0)) (x := (0 : UInt8)) (z := [.int .u8 0]) rfl) (.cons (by simp only [List.length_replicate] : T.ref 10 1 0 (Int.toNat (n - 0)) = .ref 10 1 0 ((List.replicate ((n - 0).toNat) (0 : UInt8)).length)) (.cons (om : 0 ≤ (0 : Int) ∧ (0 : Int) ≤ 0 ∧ 0 ≤ (((List.replicate ((n - 0).toNat) (0 : UInt8)).length : Nat) : Int) ∧ (((List.replicate ((n - 0).toNat) (0 : UInt8)).length : Nat) : Int) ≤ (((List.replicate ((n - 0).toNat) (0 : UInt8)).length : Nat) : Int)) (.cons (by first | rfl | simp | (simp; omega) : T.ref 10 1 (0 + ((0 : Int)).toNat * 1) (((0 : Int)).toNat - ((0 : Int)).toNat) = .ref 10 1 0 0) .nil)))))) ?_
      clear hk; intro k hk
      refine Go.cutH 10 0 ([] : List T) rfl rfl ?_
      refine Go.rx 20 {} [] [4] _ [(4, .ref 10 1 0 0)] [(10, [])] hk rfl kr .nil ?_
      clear hk; intro k hk
      refine Go.sw (L' := [(4, .ref 99 1 0 0)]) (H' := [(99, [])]) [(99, 10)] ?_
      exact Go.lvx 20 [99] _ [.ref 99 1 0 0] Tryd.func127 hk rfl kr .nil (T.Le.of_eq rfl) rfl rfl (.cons qd6_1 .nil)
    · have ct2p := of_decide_eq_false ct2
      refine Go.rx 20 {} [] [4] _ [(4, .leaf (.slice none 0 0))] [] hk rfl kr .nil ?_
      clear hk; intro k hk
      refine Go.phn 4 99 1 rfl (.inl rfl) rfl rfl ?_
      exact Go.lvx 20 [99] _ [.ref 99 1 0 0] Tryd.func127 hk rfl kr .nil (T.Le.of_eq rfl) rfl rfl (.cons qd6_1 .nil)
theorem grow_nil (n : Int) : slices_Grow n = [] := by
  rw [slices_Grow]
  cases decide (n < 0) with
  | true => rfl
  | false => cases decide (n - 0 > 0) <;> rfl
attribute [irreducible] slices_Grow
noncomputable def slices_Concat_k2 (o2 : List UInt8) : List UInt8 :=
  o2
noncomputable def slices_Concat_l2 (slices : List (List UInt8)) : Nat → Int → (List UInt8) → Lo (List UInt8) (List UInt8)
  | 0, _, _ => .brk default
  | ml2 + 1, t271, o1 =>
    bif decide (t271 < (slices.length : Int)) then
      slices_Concat_l2 slices ml2 (t271 + 1) (o1 ++ (slices.getD t271.toNat []))
    else
      Lo.brk o1
noncomputable def slices_Concat_k1 (slices : List (List UInt8)) (size2 : Int) : List UInt8 :=
  bnd (slices_Grow size2) fun x1 =>
  Lo.el (slices_Concat_l2 slices (((slices.length : Int) - (0 : Int)).toNat + 1) 0 x1) (fun z : List UInt8 => slices_Concat_k2 z)
noncomputable def slices_Concat_l1 (slices : List (List UInt8)) : Nat → Int → Int → Lo Int (List UInt8)
  | 0, _, _ => .brk default
  | ml1 + 1, size1, t111 =>
    bif decide (t111 < (slices.length : Int)) then
      bif decide (size1 + ((slices.getD t111.toNat []).length : Int) < 0) then
        default
      else
        slices_Concat_l1 slices ml1 (size1 + ((slices.getD t111.toNat []).length : Int)) (t111 + 1)
    else
      Lo.brk size1
noncomputable def slices_Concat (slices : List (List UInt8)) : List UInt8 :=
  Lo.el (slices_Concat_l1 slices (((slices.length : Int) - (0 : Int)).toNat + 1) 0 0) (fun z : Int => slices_Concat_k1 slices z)
def slices_Concat_enc (x : List UInt8) : T × List (Nat × List T) := (.ref 99 1 0 x.length, [(99, u8s x)])
theorem slices_Concat_m {g_slices : Tag} (slices : List (List UInt8)) (hl : slices.length ≤ 1000) (hm : ∀ i : Nat, (slices.getD i []).length ≤ 4294967296) : Meets Tryd.prog 91 [.sl 1 g_slices slices.length (b8s .shr slices)] [] [] (.ref 99 1 0 ((slices_Concat slices).length)) [(99, u8s (slices_Concat slices))] := by
  refine Meets.enterX (E := E) (N := 36) (enc := slices_Concat_enc) (x := (slices_Concat slices)) Tryd.func91 Tryd.call91 rfl rfl ?_
  intro Γ k hk
  refine Go.rx 20 {} [] [0] _ [(0, .sl 1 g_slices slices.length (b8s .shr slices))] [] hk rfl kr .nil ?_
  clear hk; intro k hk
  refine Go.rx 20 {} [] [0, 3] _ [(0, .sl 1 g_slices slices.length (b8s .shr slices)), (3, ti 0)] [] hk rfl kr .nil ?_
  clear hk; intro k hk
  refine Go.rx 20 {} [] [0, 3, 9, 10, 11] _ [(0, .sl 1 g_slices slices.length (b8s .shr slices)), (3, ti 0), (9, .sl 1 g_slices slices.length (b8s .shr slices)), (10, ti (slices.length : Int)), (11, ti 0)] [] hk rfl kr .nil ?_
  clear hk; intro k hk
  refine Go.loopX 20 hk rfl ?_
  clear hk; intro kl1 kxl1 hl1 hxl1
  have Xl1 : ∀ (size2 : Int) (f0l1 : 0 ≤ size2) (f1l1 : size2 ≤ 4294967296000), Go E Γ 91 36 [] ((PostX Γ slices_Concat_enc) (slices_Concat_k1 slices size2)) kxl1 (stL [(0, .sl 1 g_slices slices.length (b8s .shr slices)), (3, ti size2)] []) := by
    intro size2 f0l1 f1l1
    refine Go.rx 20 { ws := [(1, { call := some { ids := [], S := [], M := [], R := .ref 10 1 0 ((slices_Grow size2).length), H' := [(10, u8s (slices_Grow size2))] } })] } [] [0, 6] _ [(0, .sl 1 g_slices slices.length (b8s .shr slices)), (6, .ref 10 1 0 ((slices_Grow size2).length))] [(10, u8s (slices_Grow size2))] hxl1 rfl kr (.cons (Meets.sw [(99, 10)] (slices_Grow_m size2 om) : Meets Tryd.prog 127 [.leaf (.slice none 0 0), ti size2] [] [] (.ref 10 1 0 ((slices_Grow size2).length)) [(10, u8s (slices_Grow size2))]) (.cons (sb : subN (idsL [.leaf (.slice none 0 0), ti size2]) [] = true) .nil)) ?_
    clear hxl1; intro kxl1 hxl1
    refine Go.bnd (Pf := (PostX Γ slices_Concat_enc)) (v := (slices_Grow size2)) (fun x1 => [(0, .sl 1 g_slices slices.length (b8s .shr slices)), (6, .ref 10 1 0 x1.length)]) (fun x1 => [(10, u8s x1)]) ?_
    intro x1 hx1
    have fx1 : x1 = [] := hx1.trans (grow_nil _)
    refine Go.rx 20 {} [] [6, 25, 26, 27] _ [(6, .ref 10 1 0 x1.length), (25, .sl 1 g_slices slices.length (b8s .shr slices)), (26, ti (slices.length : Int)), (27, ti 0)] [(10, u8s x1)] hxl1 rfl kr .nil ?_
    clear hxl1; intro kxl1 hxl1
    refine Go.loopX 20 hxl1 rfl ?_
    clear hxl1; intro kl2 kxl2 hl2 hxl2
    have Xl2 : ∀ (o2 : List UInt8), Go E Γ 91 36 [] ((PostX Γ slices_Concat_enc) (slices_Concat_k2 o2)) kxl2 (stL [(6, .ref 10 1 0 o2.length)] [(10, u8s o2)]) := by
      intro o2
      refine Go.rx 20 {} [] [2] _ [(2, .ref 10 1 0 o2.length)] [(10, u8s o2)] hxl2 rfl kr .nil ?_
      clear hxl2; intro kxl2 hxl2
      refine Go.sw (L' := [(2, .ref 99 1 0 o2.length)]) (H' := [(99, u8s o2)]) [(99, 10)] ?_
      exact Go.lvx 20 [99] _ [.ref 99 1 0 o2.length] Tryd.func91 hxl2 rfl kr .nil (T.Le.of_eq rfl) rfl rfl (.cons qd6_1 .nil)
    have Ll2 : ∀ (ml2 : Nat) (t271 : Int) (o1 : List UInt8), (0 ≤ t271) → (t271 ≤ (slices.length : Int)) → ((o1.length : Int) ≤ 4294967296 * t271) → (((slices.length : Int) - t271).toNat < ml2) → Go E Γ 91 36 [] ((PostX Γ slices_Concat_enc) (Lo.el (slices_Concat_l2 slices ml2 t271 o1) (fun z : List UInt8 => slices_Concat_k2 z))) kl2 (stL [(6, .ref 10 1 0 o1.length), (25, .sl 1 g_slices slices.length (b8s .shr slices)), (26, ti (slices.length : Int)), (27, ti t271)] [(10, u8s o1)]) := by
      intro ml2
      induction ml2 with
      | zero => intro t271 o1 i0l2 i1l2 i2l2 hml2; exact absurd hml2 (Nat.not_lt_zero _)
      | succ ml2 ihl2 =>
        intro t271 o1 i0l2 i1l2 i2l2 hml2
        rw [slices_Concat_l2]
        refine Go.round hl2 ?_
        intro k hk
        have hz := hm t271.toNat
        refine Go.rx 20 {} [] [6, 25, 26, 27, 28] _ [(6, .ref 10 1 0 o1.length), (25, .sl 1 g_slices slices.length (b8s .shr slices)), (26, ti (slices.length : Int)), (27, ti t271), (28, tb (decide (t271 < (slices.length : Int))))] [(10, u8s o1)] hk rfl kr (.cons trivial .nil) ?_
        clear hk; intro k hk
        refine Go.br 20 (Pf := (fun z : Lo (List UInt8) (List UInt8) => (PostX Γ slices_Concat_enc) (Lo.el z (fun z : List UInt8 => slices_Concat_k2 z)))) hk rfl rfl ?_ ?_ <;> clear hk <;> intro ct1 k hk
        · have ct1p := of_decide_eq_true ct1
          refine Go.rx 20 { ws := [(1, { v := some (.sl 1 .shr (slices.getD t271.toNat []).length (u8s (slices.getD t271.toNat []))) })] } [] [6, 8, 25, 26, 27] _ [(6, .ref 10 1 0 o1.length), (8, .sl 1 .shr (slices.getD t271.toNat []).length (u8s (slices.getD t271.toNat []))), (25, .sl 1 g_slices slices.length (b8s .shr slices)), (26, ti (slices.length : Int)), (27, ti t271)] [(10, u8s o1)] hk rfl kr (.cons (om : 0 ≤ (t271 : Int) ∧ (t271 : Int) < ((slices.length : Nat) : Int)) (.cons (part1 (kr : (E.ti 22).agg = false) (mp_get (g := (fun c : List UInt8 => tl .shr c)) (k := t271.toNat * 1) (n := t271.toNat) slices [] (by omega) om)) .nil)) ?_
          clear hk; intro k hk
          refine Go.rx 20 { ws := [(2, { v := some (.ref 10 1 0 ((o1 ++ (slices.getD t271.toNat [])).length)), c := some (u8s (o1 ++ (slices.getD t271.toNat []))), id := 10, sym := true })], fd := some [10] } [] [6, 25, 26, 27] _ [(6, .ref 10 1 0 ((o1 ++ (slices.getD t271.toNat [])).length)), (25, .sl 1 g_slices slices.length (b8s .shr slices)), (26, ti (slices.length : Int)), (27, ti t271)] [(10, u8s (o1 ++ (slices.getD t271.toNat [])))] hk rfl kr (.cons (by simp only [List.length_map]; omega : 0 + o1.length * 1 ≤ (u8s o1).length) (.cons (mp_scal (slices.getD t271.toNat []) (fun _ => rfl) : scalL (u8s (slices.getD t271.toNat [])) = true) (.cons (om : (o1.length + (slices.getD t271.toNat []).length) * 1 ≤ 140737488355328) (.cons (mp_app (g := (fun c : UInt8 => T.leaf (.int .u8 c.toNat))) (o1) (slices.getD t271.toNat []) rfl) (.cons (mp_mem (i := 10) (g := (fun c : UInt8 => T.leaf (.int .u8 c.toNat))) (o1 ++ (slices.getD t271.toNat [])) (fun _ => rfl)) (.cons (by first | rfl | (simp; done) | (refine congrArg (fun q => T.ref 10 1 0 q) ?_; simp <;> omega) : T.ref 10 1 0 (o1.length + (slices.getD t271.toNat []).length) = .ref 10 1 0 ((o1 ++ (slices.getD t271.toNat [])).length)) .nil)))))) ?_
          clear hk; intro k hk
          refine Go.rx 20 { ws := [(0, { v := some (ti (t271 + 1)) })] } [] [6, 25, 26, 27] _ [(6, .ref 10 1 0 ((o1 ++ (slices.getD t271.toNat [])).length)), (25, .sl 1 g_slices slices.length (b8s .shr slices)), (26, ti (slices.length : Int)), (27, ti (t271 + 1))] [(10, u8s (o1 ++ (slices.getD t271.toNat [])))] hk rfl kr (.cons trivial (.cons (iw (t271 + 1) om) .nil)) ?_
          clear hk; intro k hk
          exact Go.join 20 hk hl2 rfl (ihl2 (t271 + 1) (o1 ++ (slices.getD t271.toNat [])) om om om om)
        · have ct1p := of_decide_eq_false ct1
          refine Go.keepN [6] (L' := [(6, .ref 10 1 0 o1.length)]) rfl ?_
          exact Go.exitX (Pf := (PostX Γ slices_Concat_enc)) (F := fun z : List UInt8 => slices_Concat_k2 z) (a := o1) (Go.join 20 hk hxl2 rfl (Xl2 o1))
    exact Ll2 _ 0 x1 (by first | omega | (rw [fx1]; simp)) (by first | omega | (rw [fx1]; simp)) (by first | omega | (rw [fx1]; simp)) (Nat.lt_succ_self _)
  have Ll1 : ∀ (ml1 : Nat) (size1 : Int) (t111 : Int), (0 ≤ size1) → (0 ≤ t111) → (size1 ≤ 4294967296 * t111) → (t111 ≤ (slices.length : Int)) → (((slices.length : Int) - t111).toNat < ml1) → Go E Γ 91 36 [] ((PostX Γ slices_Concat_enc) (Lo.el (slices_Concat_l1 slices ml1 size1 t111) (fun z : Int => slices_Concat_k1 slices z))) kl1 (stL [(0, .sl 1 g_slices slices.length (b8s .shr slices)), (3, ti size1), (9, .sl 1 g_slices slices.length (b8s .shr slices)), (10, ti (slices.length : Int)), (11, ti t111)] []) := by
    intro ml1
    induction ml1 with
    | zero => intro size1 t111 i0l1 i1l1 i2l1 i3l1 hml1; exact absurd hml1 (Nat.not_lt_zero _)
    | succ ml1 ihl1 =>
      intro size1 t111 i0l1 i1l1 i2l1 i3l1 hml1
      rw [slices_Concat_l1]
      refine Go.round hl1 ?_
      intro k hk
      have hz := hm t111.toNat
      refine Go.rx 20 {} [] [0, 3, 9, 10, 11, 12] _ [(0, .sl 1 g_slices slices.length (b8s .shr slices)), (3, ti size1), (9, .sl 1 g_slices slices.length (b8s .shr slices)), (10, ti (slices.length : Int)), (11, ti t111), (12, tb (decide (t111 < (slices.length : Int))))] [] hk rfl kr (.cons trivial .nil) ?_
      clear hk; intro k hk
      refine Go.br 20 (Pf := (fun z : Lo (Int) (List UInt8) => (PostX Γ slices_Concat_enc) (Lo.el z (fun z : Int => slices_Concat_k1 slices z)))) hk rfl rfl ?_ ?_ <;> clear hk <;> intro ct2 k hk
      · have ct2p := of_decide_eq_true ct2
        refine Go.rx 20 { ws := [(1, { v := some (.sl 1 .shr (slices.getD t111.toNat []).length (u8s (slices.getD t111.toNat []))) })] } [] [0, 3, 5, 9, 10, 11] _ [(0, .sl 1 g_slices slices.length (b8s .shr slices)), (3, ti size1), (5, .sl 1 .shr (slices.getD t111.toNat []).length (u8s (slices.getD t111.toNat []))), (9, .sl 1 g_slices slices.length (b8s .shr slices)), (10, ti (slices.length : Int)), (11, ti t111)] [] hk rfl kr (.cons (om : 0 ≤ (t111 : Int) ∧ (t111 : Int) < ((slices.length : Nat) : Int)) (.cons (part1 (kr : (E.ti 22).agg = false) (mp_get (g := (fun c : List UInt8 => tl .shr c)) (k := t111.toNat * 1) (n := t111.toNat) slices [] (by omega) om)) .nil)) ?_
        clear hk; intro k hk
        refine Go.rx 20 { ws := [(3, { v := some (ti (size1 + ((slices.getD t111.toNat []).length : Int))) })] } [] [0, 3, 9, 10, 11] _ [(0, .sl 1 g_slices slices.length (b8s .shr slices)), (3, ti (size1 + ((slices.getD t111.toNat []).length : Int))), (9, .sl 1 g_slices slices.length (b8s .shr slices)), (10, ti (slices.length : Int)), (11, ti t111)] [] hk rfl kr (.cons trivial (.cons (iw (size1 + ((slices.getD t111.toNat []).length : Int)) om) .nil)) ?_
        clear hk; intro k hk
        refine Go.rx 20 {} [] [0, 3, 9, 10, 11, 20] _ [(0, .sl 1 g_slices slices.length (b8s .shr slices)), (3, ti (size1 + ((slices.getD t111.toNat []).length : Int))), (9, .sl 1 g_slices slices.length (b8s .shr slices)), (10, ti (slices.length : Int)), (11, ti t111), (20, tb (decide (size1 + ((slices.getD t111.toNat []).length : Int) < 0)))] [] hk rfl kr (.cons trivial .nil) ?_
        clear hk; intro k hk
        refine Go.br 20 (Pf := (fun z : Lo (Int) (List UInt8) => (PostX Γ slices_Concat_enc) (Lo.el z (fun z : Int => slices_Concat_k1 slices z)))) hk rfl rfl ?_ ?_ <;> clear hk <;> intro ct3 k hk
        · have ct3p := of_decide_eq_true ct3
          exact (show False by first | omega | (simp <;> omega) | (simp at * <;> omega) | (split <;> omega) | (split <;> (first | omega | (simp <;> omega) | (simp at * <;> omega)))).elim
        · have ct3p := of_decide_eq_false ct3
          refine Go.rx 20 { ws := [(0, { v := some (ti (t111 + 1)) })] } [] [0, 3, 9, 10, 11] _ [(0, .sl 1 g_slices slices.length (b8s .shr slices)), (3, ti (size1 + ((slices.getD t111.toNat []).length : Int))), (9, .sl 1 g_slices slices.length (b8s .shr slices)), (10, ti (slices.length : Int)), (11, ti (t111 + 1))] [] hk rfl kr (.cons trivial (.cons (iw (t111 + 1) om) .nil)) ?_
          clear hk; intro k hk
          exact Go.join 20 hk hl1 rfl (ihl1 (size1 + ((slices.getD t111.toNat []).length : Int)) (t111 + 1) om om om om om)
      · have ct2p := of_decide_eq_false ct2
        refine Go.keepN [0, 3] (L' := [(0, .sl 1 g_slices slices.length (b8s .shr slices)), (3, ti size1)]) rfl ?_
        exact Go.exitX (Pf := (PostX Γ slices_Concat_enc)) (F := fun z : Int => slices_Concat_k1 slices z) (a := size1) (Go.join 20 hk hxl1 rfl (Xl1 size1 om om))
  exact Ll1 _ 0 0 om om om om (Nat.lt_succ_self _)
theorem concat_l1 (l : List (List UInt8)) : ∀ (m : Nat) (s i : Int), 0 ≤ s → ((l.length : Int) - i).toNat < m → ∃ z, slices_Concat_l1 l m s i = .brk z := by
  intro m
  induction m with
  | zero => intro s i _ h; exact absurd h (Nat.not_lt_zero _)
  | succ m ih =>
    intro s i h0 hm
    rw [slices_Concat_l1]
    by_cases c : i < (l.length : Int)
    · rw [decide_eq_true c, cond_true, decide_eq_false (by omega), cond_false]
      exact ih _ _ (by omega) (by omega)
    · rw [decide_eq_false c, cond_false]; exact ⟨_, rfl⟩
theorem concat_eq (l : List (List UInt8)) : slices_Concat l = l.flatten := by
  rw [slices_Concat]
  obtain ⟨z, hz⟩ := concat_l1 l _ 0 0 (by omega) (Nat.lt_succ_self _)
  rw [hz]
  show slices_Concat_k1 l z = _
  rw [slices_Concat_k1, bnd_eq, grow_nil, appLoop (f := slices_Concat_l2 l) (g := fun i => l.getD i.toNat []) (fun m i o _ => by rw [slices_Concat_l2]) _ _ _ (by omega) (Nat.lt_succ_self _)]
  show [] ++ _ = _
  rw [List.nil_append, ← flat_all, Int.sub_zero, Int.toNat_natCast]
  simp only [Int.zero_add, Int.toNat_natCast]
theorem slices_Concat_l2_gen : True := by have := @slices_Concat_l2.eq_1; have := @slices_Concat_l2.eq_2; trivial
theorem slices_Concat_l1_gen : True := by have := @slices_Concat_l1.eq_1; have := @slices_Concat_l1.eq_2; trivial
attribute [irreducible] slices_Concat_k2 slices_Concat_l2 slices_Concat_k1 slices_Concat_l1 slices_Concat
noncomputable def clone_x (ad : Addr) (cap : Nat) : List UInt8 :=
  []
def clone_x_enc (x : List UInt8) : T × List (Nat × List T) := (.sl 1 .shr x.length (u8s x), [])
theorem clone_x_m (ad : Addr) (cap : Nat) : Meets Tryd.prog 85 [.leaf (.slice (some ad) 0 cap)] [] [] (.sl 1 .shr (clone_x ad cap).length (u8s (clone_x ad cap))) [] := by
  refine Meets.enterX (E := E) (N := 8) (enc := clone_x_enc) (x := (clone_x ad cap)) Tryd.func85 Tryd.call85 rfl rfl ?_
  intro Γ k hk
  refine Go.rx 20 {} [] [0] _ [(0, .leaf (.slice (some ad) 0 cap))] [] hk rfl kr .nil ?_
  clear hk; intro k hk
  refine Go.rx 20 {} [] [0, 4] _ [(0, .leaf (.slice (some ad) 0 cap)), (4, tb false)] [] hk rfl kr (.cons (⟨5, by as_aux_lemma => kernel_rfl⟩ : ∃ e, (E.ti 22).k = .slice e) .nil) ?_
  clear hk; intro k hk
  refine Go.cond 20 hk rfl (t := false) rfl ?_; clear hk; intro k hk
  refine Go.rx 20 { ws := [(0, { id := 10 }), (2, { id := 10 })], ps := [0, 6], fd := some [10] } [] [2] _ [(2, .ref 10 1 0 0)] [(10, [])] hk rfl kr (.cons (by decide : (0 + 0) * 1 ≤ 140737488355328) (.cons (sb : memN 10 (T.ids (.leaf (.slice (some ad) 0 cap))) = false) (.cons (sb : memN 10 (T.ids (.leaf (.slice (some ad) 0 cap))) = false) .nil))) ?_
  clear hk; intro k hk
  refine Go.frz [] [] 2 10 ([]) _ [(2, .dead)] [] rfl rfl rfl (Nat.le_of_ble_eq_true rfl) rfl kr .nil ?_
  exact Go.lvx 20 [] _ [.sl 1 .shr 0 []] Tryd.func85 hk rfl kr .nil (T.Le.of_eq rfl) rfl (by first | rfl | (simp only [clone_x_enc, T.ids, idsL, er_ids, List.append_nil, List.nil_append]; first | rfl | (rw [mp_ids _ (fun _ => rfl)]; rfl))) .nil
attribute [irreducible] clone_x
noncomputable def clone_0 (cap : Nat) : List UInt8 :=
  []
def clone_0_enc (x : List UInt8) : T × List (Nat × List T) := (.sl 1 .shr x.length (u8s x), [])
theorem clone_0_m (cap : Nat) : Meets Tryd.prog 85 [.leaf (.slice none 0 cap)] [] [] (.sl 1 .shr (clone_0 cap).length (u8s (clone_0 cap))) [] := by
  refine Meets.enterX (E := E) (N := 8) (enc := clone_0_enc) (x := (clone_0 cap)) Tryd.func85 Tryd.call85 rfl rfl ?_
  intro Γ k hk
  refine Go.rx 20 {} [] [0] _ [(0, .leaf (.slice none 0 cap))] [] hk rfl kr .nil ?_
  clear hk; intro k hk
  refine Go.rx 20 {} [] [0, 4] _ [(0, .leaf (.slice none 0 cap)), (4, tb true)] [] hk rfl kr (.cons (⟨5, by as_aux_lemma => kernel_rfl⟩ : ∃ e, (E.ti 22).k = .slice e) .nil) ?_
  clear hk; intro k hk
  refine Go.cond 20 hk rfl (t := true) rfl ?_; clear hk; intro k hk
  refine Go.rx 20 {} [] [2] _ [(2, .leaf (.slice none 0 0))] [] hk rfl kr .nil ?_
  clear hk; intro k hk
  exact Go.lvx 20 [] _ [.leaf (.slice none 0 0)] Tryd.func85 hk rfl kr .nil (T.Le.nil _ _) rfl rfl .nil
attribute [irreducible] clone_0
noncomputable def clone_s (s : List UInt8) : List UInt8 :=
  ([] ++ s)
def clone_s_enc (x : List UInt8) : T × List (Nat × List T) := (.sl 1 .shr x.length (u8s x), [])
theorem clone_s_m {g_s : Tag} (s : List UInt8) (hs : 0 < s.length ∧ s.length ≤ 140737488355328) : Meets Tryd.prog 85 [.sl 1 g_s s.length (u8s s)] [] [] (.sl 1 .shr (clone_s s).length (u8s (clone_s s))) [] := by
  refine Meets.enterX (E := E) (N := 8) (enc := clone_s_enc) (x := (clone_s s)) Tryd.func85 Tryd.call85 rfl rfl ?_
  intro Γ k hk
  refine Go.rx 20 {} [] [0] _ [(0, .sl 1 g_s s.length (u8s s))] [] hk rfl kr .nil ?_
  clear hk; intro k hk
  refine Go.rx 20 {} [] [0, 4] _ [(0, .sl 1 g_s s.length (u8s s)), (4, tb false)] [] hk rfl kr (.cons (⟨by omega, ⟨5, by as_aux_lemma => kernel_rfl⟩⟩ : 0 < s.length ∧ ∃ e, (E.ti 22).k = .slice e) .nil) ?_
  clear hk; intro k hk
  refine Go.cond 20 hk rfl (t := false) rfl ?_; clear hk; intro k hk
  refine Go.rx 20 { ws := [(0, { id := 10 }), (2, { v := some (.ref 10 1 0 (([] ++ s).length)), c := some (u8s ([] ++ s)), id := 10, sym := true })], fd := some [10] } [] [2] _ [(2, .ref 10 1 0 (([] ++ s).length))] [(10, u8s ([] ++ s))] hk rfl kr (.cons (by first | decide | simp : 0 + 0 * 1 ≤ (([] : List T)).length) (.cons (mp_scal s (fun _ => rfl) : scalL (u8s s) = true) (.cons (om : (0 + s.length) * 1 ≤ 140737488355328) (.cons (mp_app' (g := (fun c : UInt8 => T.leaf (.int .u8 c.toNat))) (m := 0) [] s rfl rfl) (.cons (mp_mem (i := 10) (g := (fun c : UInt8 => T.leaf (.int .u8 c.toNat))) ([] ++ s) (fun _ => rfl)) (.cons (by first | rfl | (simp; done) | (refine congrArg (fun q => T.ref 10 1 0 q) ?_; simp <;> omega) : T.ref 10 1 0 (0 + s.length) = .ref 10 1 0 (([] ++ s).length)) .nil)))))) ?_
  clear hk; intro k hk
  refine Go.frz [] [] 2 10 (u8s ([] ++ s)) _ [(2, .dead)] [] rfl rfl (mp_ids (g := (fun c : UInt8 => T.leaf (.int .u8 c.toNat))) ([] ++ s) (fun _ => rfl)) (by simp only [List.length_map]; omega) (mp_all (g := (fun c : UInt8 => T.leaf (.int .u8 c.toNat))) ([] ++ s)) kr .nil ?_
  exact Go.lvx 20 [] _ [.sl 1 .shr ([] ++ s).length (u8s ([] ++ s))] Tryd.func85 hk rfl kr .nil (T.Le.of_eq rfl) rfl rfl .nil
attribute [irreducible] clone_s
theorem clone_m {g_s : Tag} (s : List UInt8) (hs : s.length ≤ 140737488355328) : Meets Tryd.prog 85 [.sl 1 g_s s.length (u8s s)] [] [] (.sl 1 .shr (id s).length (u8s (id s))) [] := by
  cases s with
  | nil =>
    have h0 : ∀ cap, clone_0 cap = [] := fun cap => by rw [clone_0]
    have hx : ∀ a cap, clone_x a cap = [] := fun a cap => by rw [clone_x]
    exact Meets.nilOr (m := 1) (g := g_s) (fun ad cap => match ad with | none => by have h := clone_0_m cap; rw [h0] at h; exact h | some a => by have h := clone_x_m a cap; rw [hx] at h; exact h)
  | cons x s =>
    have hq : ∀ s, clone_s s = s := fun s => by rw [clone_s]; first | rfl | simp
    have h := clone_s_m (g_s := g_s) (x :: s) ⟨by simp, hs⟩
    rw [hq] at h; exact h
end Go.Proofs.YtbppcnhfeobefaaDoor

/- Functions, told: what each call returns. -/
import Derived.Test.YtlfinldomjdljaaDoorD6
namespace Go.Proofs.YtlfinldomjdljaaDoor
open Go Go.Vw Go.Proofs
def bursarylaw32_num_enc (x : Int) : T × List (Nat × List T) := (ti x, [])
theorem bursarylaw32_num_m (e : Int) : Meets Tryd.prog 22 [er 67 e] [] [] (ti e) [] := by
  by_cases p : e = 0
  · subst p
    rw [er_zero]
    refine Meets.enterX (E := E) (N := 10) (enc := bursarylaw32_num_enc) (x := (0 : Int)) Tryd.func22 Tryd.call22 rfl rfl ?_
    intro Γ k hk
    refine Go.rx 20 {} [] [0] _ [(0, .leaf .nilIface)] [] hk rfl (by as_aux_lemma => kernel_rfl) .nil ?_
    clear hk; intro k hk
    refine Go.rx 20 { ws := [(0, { id := 10 })] } [] [0, 3] _ [(0, .leaf .nilIface), (3, .addr 10 0)] [(10, [ti 0])] hk rfl (by as_aux_lemma => kernel_rfl) .nil ?_
    clear hk; intro k hk
    refine Go.rx 20 {} [] [0, 3, 5] _ [(0, .leaf .nilIface), (3, .addr 10 0), (5, tb true)] [(10, [ti 0])] hk rfl (by as_aux_lemma => kernel_rfl) (.cons (by as_aux_lemma => kernel_rfl : (E.ti 41).k = .iface) .nil) ?_
    clear hk; intro k hk
    refine Go.cond 20 hk rfl (t := true) rfl ?_; clear hk; intro k hk
    refine Go.rx 20 {} [10] [2] _ [(2, ti 0)] [] hk rfl (by as_aux_lemma => kernel_rfl) .nil ?_
    clear hk; intro k hk
    exact Go.lvx 20 [] _ [ti 0] Tryd.func22 hk rfl (by as_aux_lemma => kernel_rfl) .nil (T.Le.of_eq rfl) rfl rfl .nil
  · rw [er_ne p]
    refine Meets.enterX (E := E) (N := 10) (enc := bursarylaw32_num_enc) (x := (e : Int)) Tryd.func22 Tryd.call22 rfl rfl ?_
    intro Γ k hk
    refine Go.rx 20 {} [] [0] _ [(0, .iface 67 (ti e))] [] hk rfl (by as_aux_lemma => kernel_rfl) .nil ?_
    clear hk; intro k hk
    refine Go.rx 20 { ws := [(0, { id := 10 })] } [] [0, 3] _ [(0, .iface 67 (ti e)), (3, .addr 10 0)] [(10, [ti 0])] hk rfl (by as_aux_lemma => kernel_rfl) .nil ?_
    clear hk; intro k hk
    refine Go.rx 20 {} [] [0, 3, 5] _ [(0, .iface 67 (ti e)), (3, .addr 10 0), (5, tb false)] [(10, [ti 0])] hk rfl (by as_aux_lemma => kernel_rfl) (.cons (by as_aux_lemma => kernel_rfl : (E.ti 41).k = .iface) .nil) ?_
    clear hk; intro k hk
    refine Go.cond 20 hk rfl (t := false) rfl ?_; clear hk; intro k hk
    refine Go.rx 20 { ws := [(2, { call := some { ids := [10], S := [10], R := tb true, H' := [(10, [ti e])] } })] } [] [3, 8] _ [(3, .addr 10 0), (8, tb true)] [(10, [ti e])] hk rfl (by as_aux_lemma => kernel_rfl) (.cons (meets_errAs 10 e 0) (.cons (rfl : subN (idsL [.iface 67 (ti e), .iface 77 (.addr 10 0)]) [10] = true) (.cons (rfl : subN (idsL [ti 0]) [10] = true) .nil))) ?_
    clear hk; intro k hk
    refine Go.cond 20 hk rfl (t := true) rfl ?_; clear hk; intro k hk
    refine Go.rx 20 {} [10] [2] _ [(2, ti e)] [] hk rfl (by as_aux_lemma => kernel_rfl) .nil ?_
    clear hk; intro k hk
    exact Go.lvx 20 [] _ [ti e] Tryd.func22 hk rfl (by as_aux_lemma => kernel_rfl) .nil (T.Le.of_eq rfl) rfl rfl .nil
noncomputable def wire_Encode_k1 (o2 : List UInt8) : List UInt8 × Int :=
  (o2, 0)
noncomputable def wire_Encode_l1 (l : List (List UInt8)) : Nat → Int → (List UInt8) → Lo (List UInt8) (List UInt8 × Int)
  | 0, _, _ => .brk default
  | ml1 + 1, t171, o1 =>
    bif decide (t171 < (l.length : Int)) then
      bif decide (((l.getD t171.toNat []).length : Int) > (1024 - (o1.length : Int)) - 2) then
        Lo.ret ([], 3)
      else
        bnd (slices_Concat ([o1, ([u8i (((l.getD t171.toNat []).length : Int) / 256), u8i ((l.getD t171.toNat []).length : Int)] : List UInt8), l.getD t171.toNat []] : List (List UInt8))) fun x1 =>
        wire_Encode_l1 l ml1 (t171 + 1) x1
    else
      Lo.brk o1
noncomputable def wire_Encode (l : List (List UInt8)) : List UInt8 × Int :=
  bif decide ((l.length : Int) > 16) then
    ([], 3)
  else
    Lo.el (wire_Encode_l1 l (((l.length : Int) - (0 : Int)).toNat + 1) 0 [u8i (l.length : Int)]) (fun z : List UInt8 => wire_Encode_k1 z)
def wire_Encode_enc (x : List UInt8 × Int) : T × List (Nat × List T) := (.tup [.sl 1 .shr x.1.length (u8s x.1), er 67 x.2], [])
theorem wire_Encode_m {g_l : Tag} (l : List (List UInt8)) : Meets Tryd.prog 29 [.sl 1 g_l l.length (b8s .shr l)] [] [] (.tup [.sl 1 .shr ((wire_Encode l).1).length (u8s ((wire_Encode l).1)), er 67 ((wire_Encode l).2)]) [] := by
  refine Meets.enterX (E := E) (N := 43) (enc := wire_Encode_enc) (x := (wire_Encode l)) Tryd.func29 Tryd.call29 rfl rfl ?_
  intro Γ k hk
  refine Go.rx 20 {} [] [0] _ [(0, .sl 1 g_l l.length (b8s .shr l))] [] hk rfl (by as_aux_lemma => kernel_rfl) .nil ?_
  clear hk; intro k hk
  refine Go.rx 20 {} [] [0, 9] _ [(0, .sl 1 g_l l.length (b8s .shr l)), (9, tb (decide ((l.length : Int) > 16)))] [] hk rfl (by as_aux_lemma => kernel_rfl) (.cons trivial .nil) ?_
  clear hk; intro k hk
  refine Go.br 20 (Pf := (PostX Γ wire_Encode_enc)) hk rfl rfl ?_ ?_ <;> clear hk <;> intro ct1 k hk
  · have ct1p := of_decide_eq_true ct1
    refine Go.rx 20 {} [] [2, 3] _ [(2, .leaf (.slice none 0 0)), (3, er 67 3)] [] hk rfl (by as_aux_lemma => kernel_rfl) .nil ?_
    clear hk; intro k hk
    exact Go.lvx 20 [] _ [.leaf (.slice none 0 0), er 67 3] Tryd.func29 hk rfl (by as_aux_lemma => kernel_rfl) .nil (T.Le.tup (.cons (T.Le.nil _ _) (.cons (T.Le.of_eq rfl) .nil))) rfl (by first | rfl | (simp only [wire_Encode_enc, T.ids, idsL, er_ids, List.append_nil, List.nil_append]; rfl)) .nil
  · have ct1p := of_decide_eq_false ct1
    refine Go.rx 20 { ws := [(2, { v := some (t8 (u8i (l.length : Int))) }), (3, { id := 10 })] } [] [0, 4] _ [(0, .sl 1 g_l l.length (b8s .shr l)), (4, .ref 10 1 0 1)] [(10, [t8 (u8i (l.length : Int))])] hk rfl (by as_aux_lemma => kernel_rfl) (.cons (cvi_8 (l.length : Int)) .nil) ?_
    clear hk; intro k hk
    refine Go.rx 20 {} [] [4, 15, 16, 17] _ [(4, .ref 10 1 0 1), (15, .sl 1 g_l l.length (b8s .shr l)), (16, ti (l.length : Int)), (17, ti 0)] [(10, [t8 (u8i (l.length : Int))])] hk rfl (by as_aux_lemma => kernel_rfl) .nil ?_
    clear hk; intro k hk
    refine Go.loopX 20 hk rfl ?_
    clear hk; intro kl1 kxl1 hl1 hxl1
    have Xl1 : ∀ (o2 : List UInt8), Go E Γ 29 43 [] ((PostX Γ wire_Encode_enc) (wire_Encode_k1 o2)) kxl1 (stL [(4, .ref 10 1 0 o2.length)] [(10, u8s o2)]) := by
      intro o2
      refine Go.rx 20 {} [] [2, 3] _ [(2, .ref 10 1 0 o2.length), (3, .leaf .nilIface)] [(10, u8s o2)] hxl1 rfl (by as_aux_lemma => kernel_rfl) .nil ?_
      clear hxl1; intro kxl1 hxl1
      refine Go.frz [] [] 2 10 (u8s o2) _ [(2, .dead), (3, .leaf .nilIface)] [] rfl rfl (mp_ids (g := (fun c : UInt8 => T.leaf (.int .u8 c.toNat))) o2 (fun _ => rfl)) (by simp only [List.length_map]; omega) (mp_all o2) (by as_aux_lemma => kernel_rfl) .nil ?_
      exact Go.lvx 20 [] _ [.sl 1 .shr o2.length (u8s o2), .leaf .nilIface] Tryd.func29 hxl1 rfl (by as_aux_lemma => kernel_rfl) .nil (T.Le.tup (.cons (T.Le.of_eq rfl) (.cons (T.Le.of_eq rfl) .nil))) rfl rfl .nil
    have Ll1 : ∀ (ml1 : Nat) (t171 : Int) (o1 : List UInt8), (0 ≤ t171) → ((o1.length : Int) ≤ 1024) → (((l.length : Int) - t171).toNat < ml1) → Go E Γ 29 43 [] ((PostX Γ wire_Encode_enc) (Lo.el (wire_Encode_l1 l ml1 t171 o1) (fun z : List UInt8 => wire_Encode_k1 z))) kl1 (stL [(4, .ref 10 1 0 o1.length), (15, .sl 1 g_l l.length (b8s .shr l)), (16, ti (l.length : Int)), (17, ti t171)] [(10, u8s o1)]) := by
      intro ml1
      induction ml1 with
      | zero => intro t171 o1 i0l1 i1l1 hml1; exact absurd hml1 (Nat.not_lt_zero _)
      | succ ml1 ihl1 =>
        intro t171 o1 i0l1 i1l1 hml1
        rw [wire_Encode_l1]
        refine Go.round hl1 ?_
        intro k hk
        refine Go.rx 20 {} [] [4, 15, 16, 17, 18] _ [(4, .ref 10 1 0 o1.length), (15, .sl 1 g_l l.length (b8s .shr l)), (16, ti (l.length : Int)), (17, ti t171), (18, tb (decide (t171 < (l.length : Int))))] [(10, u8s o1)] hk rfl (by as_aux_lemma => kernel_rfl) (.cons trivial .nil) ?_
        clear hk; intro k hk
        refine Go.br 20 (Pf := (fun z : Lo (List UInt8) (List UInt8 × Int) => (PostX Γ wire_Encode_enc) (Lo.el z (fun z : List UInt8 => wire_Encode_k1 z)))) hk rfl rfl ?_ ?_ <;> clear hk <;> intro ct2 k hk
        · have ct2p := of_decide_eq_true ct2
          refine Go.rx 20 { ws := [(1, { v := some (.sl 1 .shr (l.getD t171.toNat []).length (u8s (l.getD t171.toNat []))) })] } [] [4, 6, 15, 16, 17] _ [(4, .ref 10 1 0 o1.length), (6, .sl 1 .shr (l.getD t171.toNat []).length (u8s (l.getD t171.toNat []))), (15, .sl 1 g_l l.length (b8s .shr l)), (16, ti (l.length : Int)), (17, ti t171)] [(10, u8s o1)] hk rfl (by as_aux_lemma => kernel_rfl) (.cons (by first | omega | (simp <;> omega) | (simp at * <;> omega) | (split <;> omega) | (split <;> (first | omega | (simp <;> omega) | (simp at * <;> omega))) : 0 ≤ (t171 : Int) ∧ (t171 : Int) < ((l.length : Nat) : Int)) (.cons (part1 (by as_aux_lemma => kernel_rfl : (E.ti 33).agg = false) (mp_get (g := (fun c : List UInt8 => tl .shr c)) (k := t171.toNat * 1) (n := t171.toNat) l [] (by omega) (by first | omega | (simp <;> omega) | (simp at * <;> omega) | (split <;> omega) | (split <;> (first | omega | (simp <;> omega) | (simp at * <;> omega)))))) .nil)) ?_
          clear hk; intro k hk
          refine Go.rx 20 { ws := [(4, { v := some (ti (1024 - (o1.length : Int))) }), (5, { v := some (ti ((1024 - (o1.length : Int)) - 2)) })] } [] [4, 6, 15, 16, 17, 27] _ [(4, .ref 10 1 0 o1.length), (6, .sl 1 .shr (l.getD t171.toNat []).length (u8s (l.getD t171.toNat []))), (15, .sl 1 g_l l.length (b8s .shr l)), (16, ti (l.length : Int)), (17, ti t171), (27, tb (decide (((l.getD t171.toNat []).length : Int) > (1024 - (o1.length : Int)) - 2)))] [(10, u8s o1)] hk rfl (by as_aux_lemma => kernel_rfl) (.cons trivial (.cons (iw (1024 - (o1.length : Int)) (by first | omega | (simp <;> omega) | (simp at * <;> omega) | (split <;> omega) | (split <;> (first | omega | (simp <;> omega) | (simp at * <;> omega))))) (.cons trivial (.cons (iw ((1024 - (o1.length : Int)) - 2) (by first | omega | (simp <;> omega) | (simp at * <;> omega) | (split <;> omega) | (split <;> (first | omega | (simp <;> omega) | (simp at * <;> omega))))) (.cons trivial .nil))))) ?_
          clear hk; intro k hk
          refine Go.br 20 (Pf := (fun z : Lo (List UInt8) (List UInt8 × Int) => (PostX Γ wire_Encode_enc) (Lo.el z (fun z : List UInt8 => wire_Encode_k1 z)))) hk rfl rfl ?_ ?_ <;> clear hk <;> intro ct3 k hk
          · have ct3p := of_decide_eq_true ct3
            refine Go.rx 20 { ps := [3, 28] } [10] [2, 3] _ [(2, .leaf (.slice none 0 0)), (3, er 67 3)] [] hk rfl (by as_aux_lemma => kernel_rfl) (.cons (er_mem (i := 10) 67 3) (.cons (er_mem (i := 10) 67 3) .nil)) ?_
            clear hk; intro k hk
            exact Go.lvx 20 [] _ [.leaf (.slice none 0 0), er 67 3] Tryd.func29 hk rfl (by as_aux_lemma => kernel_rfl) .nil (T.Le.tup (.cons (T.Le.nil _ _) (.cons (T.Le.of_eq rfl) .nil))) rfl (by first | rfl | (simp only [wire_Encode_enc, T.ids, idsL, er_ids, List.append_nil, List.nil_append]; rfl)) .nil
          · have ct3p := of_decide_eq_false ct3
            refine Go.keepN [4, 6, 15, 16, 17] (L' := [(4, .ref 10 1 0 o1.length), (6, .sl 1 .shr (l.getD t171.toNat []).length (u8s (l.getD t171.toNat []))), (15, .sl 1 g_l l.length (b8s .shr l)), (16, ti (l.length : Int)), (17, ti t171)]) rfl ?_
            refine Go.frz [] [] 4 10 (u8s o1) _ [(4, .dead), (6, .sl 1 .shr (l.getD t171.toNat []).length (u8s (l.getD t171.toNat []))), (15, .sl 1 g_l l.length (b8s .shr l)), (16, ti (l.length : Int)), (17, ti t171)] [] rfl rfl (mp_ids (g := (fun c : UInt8 => T.leaf (.int .u8 c.toNat))) o1 (fun _ => rfl)) (by simp only [List.length_map]; omega) (mp_all o1) (by as_aux_lemma => kernel_rfl) .nil ?_
            refine Go.rx 20 { ws := [(3, { v := some (ti (((l.getD t171.toNat []).length : Int) / 256)) }), (4, { v := some (t8 (u8i (((l.getD t171.toNat []).length : Int) / 256))) }), (7, { v := some (t8 (u8i ((l.getD t171.toNat []).length : Int))) }), (8, { v := some (.sl 1 .shr ([u8i (((l.getD t171.toNat []).length : Int) / 256), u8i ((l.getD t171.toNat []).length : Int)] : List UInt8).length (u8s ([u8i (((l.getD t171.toNat []).length : Int) / 256), u8i ((l.getD t171.toNat []).length : Int)] : List UInt8))), id := 11, gv := true }), (10, { id := 12 }), (11, { call := some { ids := [], S := [], M := [12], R := .ref 13 1 0 ((slices_Concat ([o1, ([u8i (((l.getD t171.toNat []).length : Int) / 256), u8i ((l.getD t171.toNat []).length : Int)] : List UInt8), l.getD t171.toNat []] : List (List UInt8))).length), H' := [(13, u8s (slices_Concat ([o1, ([u8i (((l.getD t171.toNat []).length : Int) / 256), u8i ((l.getD t171.toNat []).length : Int)] : List UInt8), l.getD t171.toNat []] : List (List UInt8))))] } })], pg := [13] } [11, 12] [4, 15, 16, 17] _ [(4, .ref 13 1 0 ((slices_Concat ([o1, ([u8i (((l.getD t171.toNat []).length : Int) / 256), u8i ((l.getD t171.toNat []).length : Int)] : List UInt8), l.getD t171.toNat []] : List (List UInt8))).length)), (15, .sl 1 g_l l.length (b8s .shr l)), (16, ti (l.length : Int)), (17, ti t171)] [(13, u8s (slices_Concat ([o1, ([u8i (((l.getD t171.toNat []).length : Int) / 256), u8i ((l.getD t171.toNat []).length : Int)] : List UInt8), l.getD t171.toNat []] : List (List UInt8))))] hk rfl (by as_aux_lemma => kernel_rfl) (.cons (by decide : 0 ≤ (8 : Int)) (.cons (shrI 8 ((l.getD t171.toNat []).length : Int)) (.cons (cvi_8 (((l.getD t171.toNat []).length : Int) / 256)) (.cons (cvi_8 ((l.getD t171.toNat []).length : Int)) (.cons (⟨rfl, Nat.le_of_ble_eq_true rfl⟩ : idsL ([t8 (u8i (((l.getD t171.toNat []).length : Int) / 256)), t8 (u8i ((l.getD t171.toNat []).length : Int))]) = [] ∧ 2 * 1 ≤ ([t8 (u8i (((l.getD t171.toNat []).length : Int) / 256)), t8 (u8i ((l.getD t171.toNat []).length : Int))] : List T).length) (.cons (rfl : T.sl 1 .shr 2 (sub ([t8 (u8i (((l.getD t171.toNat []).length : Int) / 256)), t8 (u8i ((l.getD t171.toNat []).length : Int))]) 0 (2 * 1)) = .sl 1 .shr ([u8i (((l.getD t171.toNat []).length : Int) / 256), u8i ((l.getD t171.toNat []).length : Int)] : List UInt8).length (u8s ([u8i (((l.getD t171.toNat []).length : Int) / 256), u8i ((l.getD t171.toNat []).length : Int)] : List UInt8))) (.cons (Meets.swp [(99, 13)] (Meets.eqA (A := [.sl 1 .brw 3 (sub ([.sl 1 .shr o1.length (u8s o1), .sl 1 .shr ([u8i (((l.getD t171.toNat []).length : Int) / 256), u8i ((l.getD t171.toNat []).length : Int)] : List UInt8).length (u8s ([u8i (((l.getD t171.toNat []).length : Int) / 256), u8i ((l.getD t171.toNat []).length : Int)] : List UInt8)), .sl 1 .shr (l.getD t171.toNat []).length (u8s (l.getD t171.toNat []))]) 0 (3 * 1))]) (by first | rfl | simp only [mp_all]) (slices_Concat_m (g_slices := .brw) ([o1, ([u8i (((l.getD t171.toNat []).length : Int) / 256), u8i ((l.getD t171.toNat []).length : Int)] : List UInt8), l.getD t171.toNat []] : List (List UInt8)) (by first | (simp; done) | (simp <;> omega) | omega) (by first | exact cons_le (by simp <;> omega) nil_le | (refine cons_le ?_ (cons_le ?_ nil_le) <;> (simp <;> omega)) | (refine cons_le ?_ (cons_le ?_ (cons_le ?_ nil_le)) <;> first | omega | (simp <;> omega))))) (.cons (.same (by first | rfl | (simp only [T.ids, idsL, er_ids, List.append_nil, List.nil_append] <;> rfl))) .nil) .nil rfl (.ref rfl 1 0 ((slices_Concat ([o1, ([u8i (((l.getD t171.toNat []).length : Int) / 256), u8i ((l.getD t171.toNat []).length : Int)] : List UInt8), l.getD t171.toNat []] : List (List UInt8))).length)) (.cons rfl (.same (mp_ids (g := (fun c : UInt8 => T.leaf (.int .u8 c.toNat))) (slices_Concat ([o1, ([u8i (((l.getD t171.toNat []).length : Int) / 256), u8i ((l.getD t171.toNat []).length : Int)] : List UInt8), l.getD t171.toNat []] : List (List UInt8))) (fun _ => rfl))) .nil) : Meets Tryd.prog 36 [.sl 1 .brw 3 (sub ([.sl 1 .shr o1.length (u8s o1), .sl 1 .shr ([u8i (((l.getD t171.toNat []).length : Int) / 256), u8i ((l.getD t171.toNat []).length : Int)] : List UInt8).length (u8s ([u8i (((l.getD t171.toNat []).length : Int) / 256), u8i ((l.getD t171.toNat []).length : Int)] : List UInt8)), .sl 1 .shr (l.getD t171.toNat []).length (u8s (l.getD t171.toNat []))]) 0 (3 * 1))] [] [] (.ref 13 1 0 ((slices_Concat ([o1, ([u8i (((l.getD t171.toNat []).length : Int) / 256), u8i ((l.getD t171.toNat []).length : Int)] : List UInt8), l.getD t171.toNat []] : List (List UInt8))).length)) [(13, u8s (slices_Concat ([o1, ([u8i (((l.getD t171.toNat []).length : Int) / 256), u8i ((l.getD t171.toNat []).length : Int)] : List UInt8), l.getD t171.toNat []] : List (List UInt8))))]) (.cons (rfl : idsL ([.sl 1 .shr o1.length (u8s o1), .sl 1 .shr ([u8i (((l.getD t171.toNat []).length : Int) / 256), u8i ((l.getD t171.toNat []).length : Int)] : List UInt8).length (u8s ([u8i (((l.getD t171.toNat []).length : Int) / 256), u8i ((l.getD t171.toNat []).length : Int)] : List UInt8)), .sl 1 .shr (l.getD t171.toNat []).length (u8s (l.getD t171.toNat []))]) = []) (.cons (by decide : 0 + 3 * 1 ≤ 3) (.cons (by first | rfl | (simp only [T.ids, idsL, er_ids, List.append_nil, List.nil_append]; rfl) : subN (idsL [.sl 1 .brw 3 (sub ([.sl 1 .shr o1.length (u8s o1), .sl 1 .shr ([u8i (((l.getD t171.toNat []).length : Int) / 256), u8i ((l.getD t171.toNat []).length : Int)] : List UInt8).length (u8s ([u8i (((l.getD t171.toNat []).length : Int) / 256), u8i ((l.getD t171.toNat []).length : Int)] : List UInt8)), .sl 1 .shr (l.getD t171.toNat []).length (u8s (l.getD t171.toNat []))]) 0 (3 * 1))]) [] = true) (.cons (by first | rfl | (simp only [T.noB, noBL, er_noB, u8s_noB, b8s_noB, Bool.and_self, Bool.true_and, Bool.and_true]; rfl) | simp only [T.noB, noBL, er_noB, u8s_noB, b8s_noB, Bool.and_self, Bool.true_and, Bool.and_true] : T.noB (.ref 13 1 0 ((slices_Concat ([o1, ([u8i (((l.getD t171.toNat []).length : Int) / 256), u8i ((l.getD t171.toNat []).length : Int)] : List UInt8), l.getD t171.toNat []] : List (List UInt8))).length)) = true) (.cons (mp_noB (g := (fun c : UInt8 => T.leaf (.int .u8 c.toNat))) (slices_Concat ([o1, ([u8i (((l.getD t171.toNat []).length : Int) / 256), u8i ((l.getD t171.toNat []).length : Int)] : List UInt8), l.getD t171.toNat []] : List (List UInt8))) (fun _ => rfl)) (.cons (mp_mem (i := 11) (g := (fun c : UInt8 => T.leaf (.int .u8 c.toNat))) (slices_Concat ([o1, ([u8i (((l.getD t171.toNat []).length : Int) / 256), u8i ((l.getD t171.toNat []).length : Int)] : List UInt8), l.getD t171.toNat []] : List (List UInt8))) (fun _ => rfl)) (.cons (mp_mem (i := 12) (g := (fun c : UInt8 => T.leaf (.int .u8 c.toNat))) (slices_Concat ([o1, ([u8i (((l.getD t171.toNat []).length : Int) / 256), u8i ((l.getD t171.toNat []).length : Int)] : List UInt8), l.getD t171.toNat []] : List (List UInt8))) (fun _ => rfl)) .nil)))))))))))))) ?_
            clear hk; intro k hk
            refine Go.bnd (Pf := (fun z : Lo (List UInt8) (List UInt8 × Int) => (PostX Γ wire_Encode_enc) (Lo.el z (fun z : List UInt8 => wire_Encode_k1 z)))) (v := (slices_Concat ([o1, ([u8i (((l.getD t171.toNat []).length : Int) / 256), u8i ((l.getD t171.toNat []).length : Int)] : List UInt8), l.getD t171.toNat []] : List (List UInt8)))) (fun x1 => [(4, .ref 13 1 0 x1.length), (15, .sl 1 g_l l.length (b8s .shr l)), (16, ti (l.length : Int)), (17, ti t171)]) (fun x1 => [(13, u8s x1)]) ?_
            intro x1 hx1
            have fx1 := concat_eq ([o1, ([u8i (((l.getD t171.toNat []).length : Int) / 256), u8i ((l.getD t171.toNat []).length : Int)] : List UInt8), l.getD t171.toNat []] : List (List UInt8))
            rw [← hx1] at fx1
            have gx1 := congrArg List.length fx1
            simp only [List.flatten_cons, List.flatten_nil, List.append_nil, List.length_append, List.length_cons, List.length_nil] at fx1 gx1
            refine Go.rx 20 { ws := [(0, { v := some (ti (t171 + 1)) })] } [] [4, 15, 16, 17] _ [(4, .ref 13 1 0 x1.length), (15, .sl 1 g_l l.length (b8s .shr l)), (16, ti (l.length : Int)), (17, ti (t171 + 1))] [(13, u8s x1)] hk rfl (by as_aux_lemma => kernel_rfl) (.cons trivial (.cons (iw (t171 + 1) (by first | omega | (simp <;> omega) | (simp at * <;> omega) | (split <;> omega) | (split <;> (first | omega | (simp <;> omega) | (simp at * <;> omega))))) .nil)) ?_
            clear hk; intro k hk
            refine Go.swp (L' := [(4, .ref 10 1 0 x1.length), (15, .sl 1 g_l l.length (b8s .shr l)), (16, ti (l.length : Int)), (17, ti (t171 + 1))]) (H' := [(10, u8s x1)]) [(13, 10)] rfl (.cons (.ref rfl 1 0 x1.length) (.cons (.same (by first | rfl | (simp only [T.ids, idsL, er_ids, List.append_nil, List.nil_append] <;> rfl))) (.cons (.same (by first | rfl | (simp only [T.ids, idsL, er_ids, List.append_nil, List.nil_append] <;> rfl))) (.cons (.same (by first | rfl | (simp only [T.ids, idsL, er_ids, List.append_nil, List.nil_append] <;> rfl))) .nil)))) (.cons rfl (.same (mp_ids (g := (fun c : UInt8 => T.leaf (.int .u8 c.toNat))) x1 (fun _ => rfl))) .nil) ?_
            exact Go.join 20 hk hl1 rfl (ihl1 (t171 + 1) x1 (by first | omega | (simp <;> omega) | (simp at * <;> omega) | (split <;> omega) | (split <;> (first | omega | (simp <;> omega) | (simp at * <;> omega)))) (by first | omega | (simp <;> omega) | (simp at * <;> omega) | (split <;> omega) | (split <;> (first | omega | (simp <;> omega) | (simp at * <;> omega)))) (by first | omega | (simp <;> omega) | (simp at * <;> omega) | (split <;> omega) | (split <;> (first | omega | (simp <;> omega) | (simp at * <;> omega)))))
        · have ct2p := of_decide_eq_false ct2
          refine Go.keepN [4] (L' := [(4, .ref 10 1 0 o1.length)]) rfl ?_
          exact Go.join 20 hk hxl1 rfl (Xl1 o1)
    exact Ll1 _ 0 [u8i (l.length : Int)] (by first | omega | simp) (by first | omega | simp) (Nat.lt_succ_self _)
theorem encode_l1 (l : List (List UInt8)) : ∀ (m : Nat) (i : Int) (o : List UInt8), o.length ≤ 1024 → (0 < m → 1 ≤ o.length) → ((l.length : Int) - i).toNat < m → (Lo.el (wire_Encode_l1 l m i o) (fun z => wire_Encode_k1 z)).1.length ≤ 1024 ∧ ((Lo.el (wire_Encode_l1 l m i o) (fun z => wire_Encode_k1 z)).2 = 0 → 1 ≤ (Lo.el (wire_Encode_l1 l m i o) (fun z => wire_Encode_k1 z)).1.length) := by
  intro m
  induction m with
  | zero => intro i o _ _ h; exact absurd h (Nat.not_lt_zero _)
  | succ m ih =>
    intro i o ho h1 hm
    rw [wire_Encode_l1]
    by_cases d : i < (l.length : Int)
    · rw [decide_eq_true d, cond_true]
      by_cases c : ((l.getD i.toNat []).length : Int) > (1024 - (o.length : Int)) - 2
      · rw [decide_eq_true c, cond_true]; exact ⟨Nat.zero_le _, fun h => by simp [Lo.el] at h⟩
      · rw [decide_eq_false c, cond_false, bnd_eq]
        have e : (slices_Concat ([o, ([u8i (((l.getD i.toNat []).length : Int) / 256), u8i ((l.getD i.toNat []).length : Int)] : List UInt8), l.getD i.toNat []] : List (List UInt8))).length = o.length + (2 + (l.getD i.toNat []).length) := by
          rw [concat_eq]
          simp only [List.flatten_cons, List.flatten_nil, List.append_nil, List.length_append, List.length_cons, List.length_nil]
        refine ih _ _ (by rw [e]; omega) (fun _ => by rw [e]; omega) (by omega)
    · rw [decide_eq_false d, cond_false]; exact ⟨ho, fun _ => h1 (by omega)⟩
theorem encode_fact (l : List (List UInt8)) : (wire_Encode l).1.length ≤ 1024 ∧ ((wire_Encode l).2 = 0 → 1 ≤ (wire_Encode l).1.length) := by
  rw [wire_Encode]
  cases decide ((l.length : Int) > 16) with
  | true => exact ⟨Nat.zero_le _, fun h => by simp at h⟩
  | false => exact encode_l1 l _ _ _ (by simp) (by simp) (by omega)

noncomputable def bursaryref31_Encode_k1 (o2 : List UInt8) : List UInt8 × Int :=
  bif decide ((o2.length : Int) > 1024) then
    ([], 3)
  else
    (o2, 0)
noncomputable def bursaryref31_Encode_l1 (l : List (List UInt8)) : Nat → Int → (List UInt8) → Lo (List UInt8) (List UInt8 × Int)
  | 0, _, _ => .brk default
  | ml1 + 1, i1, o1 =>
    bif decide (i1 < (l.length : Int)) then
      bif decide (((l.getD i1.toNat []).length : Int) > 1024) then
        Lo.ret ([], 3)
      else
        bursaryref31_Encode_l1 l ml1 (i1 + 1) (o1 ++ ([u8i (((l.getD i1.toNat []).length : Int) / 256), u8i (((l.getD i1.toNat []).length : Int) % 256)]) ++ (l.getD i1.toNat []))
    else
      Lo.brk o1
noncomputable def bursaryref31_Encode (l : List (List UInt8)) : List UInt8 × Int :=
  bif decide ((l.length : Int) > 16) then
    ([], 3)
  else
    Lo.el (bursaryref31_Encode_l1 l (((l.length : Int) - (0 : Int)).toNat + 1) 0 [u8i (l.length : Int)]) (fun z : List UInt8 => bursaryref31_Encode_k1 z)
def bursaryref31_Encode_enc (x : List UInt8 × Int) : T × List (Nat × List T) := (.tup [.sl 1 .shr x.1.length (u8s x.1), ti x.2], [])
theorem bursaryref31_Encode_m {g_l : Tag} (l : List (List UInt8)) : Meets Tryd.prog 31 [.sl 1 g_l l.length (b8s .shr l)] [] [] (.tup [.sl 1 .shr ((bursaryref31_Encode l).1).length (u8s ((bursaryref31_Encode l).1)), ti ((bursaryref31_Encode l).2)]) [] := by
  refine Meets.enterX (E := E) (N := 51) (enc := bursaryref31_Encode_enc) (x := (bursaryref31_Encode l)) Tryd.func31 Tryd.call31 rfl rfl ?_
  intro Γ k hk
  refine Go.rx 20 {} [] [0] _ [(0, .sl 1 g_l l.length (b8s .shr l))] [] hk rfl (by as_aux_lemma => kernel_rfl) .nil ?_
  clear hk; intro k hk
  refine Go.rx 20 {} [] [0, 8] _ [(0, .sl 1 g_l l.length (b8s .shr l)), (8, tb (decide ((l.length : Int) > 16)))] [] hk rfl (by as_aux_lemma => kernel_rfl) (.cons trivial .nil) ?_
  clear hk; intro k hk
  refine Go.br 20 (Pf := (PostX Γ bursaryref31_Encode_enc)) hk rfl rfl ?_ ?_ <;> clear hk <;> intro ct1 k hk
  · have ct1p := of_decide_eq_true ct1
    refine Go.rx 20 {} [] [2, 3] _ [(2, .leaf (.slice none 0 0)), (3, ti 3)] [] hk rfl (by as_aux_lemma => kernel_rfl) .nil ?_
    clear hk; intro k hk
    exact Go.lvx 20 [] _ [.leaf (.slice none 0 0), ti 3] Tryd.func31 hk rfl (by as_aux_lemma => kernel_rfl) .nil (T.Le.tup (.cons (T.Le.nil _ _) (.cons (T.Le.of_eq rfl) .nil))) rfl rfl .nil
  · have ct1p := of_decide_eq_false ct1
    refine Go.rx 20 { ws := [(2, { v := some (t8 (u8i (l.length : Int))) }), (3, { id := 10 })] } [] [0, 4] _ [(0, .sl 1 g_l l.length (b8s .shr l)), (4, .ref 10 1 0 1)] [(10, [t8 (u8i (l.length : Int))])] hk rfl (by as_aux_lemma => kernel_rfl) (.cons (cvi_8 (l.length : Int)) .nil) ?_
    clear hk; intro k hk
    refine Go.rx 20 {} [] [0, 4, 5] _ [(0, .sl 1 g_l l.length (b8s .shr l)), (4, .ref 10 1 0 1), (5, ti 0)] [(10, [t8 (u8i (l.length : Int))])] hk rfl (by as_aux_lemma => kernel_rfl) .nil ?_
    clear hk; intro k hk
    refine Go.loopX 20 hk rfl ?_
    clear hk; intro kl1 kxl1 hl1 hxl1
    have Xl1 : ∀ (o2 : List UInt8), Go E Γ 31 51 [] ((PostX Γ bursaryref31_Encode_enc) (bursaryref31_Encode_k1 o2)) kxl1 (stL [(4, .ref 10 1 0 o2.length)] [(10, u8s o2)]) := by
      intro o2
      refine Go.rx 20 {} [] [4, 49] _ [(4, .ref 10 1 0 o2.length), (49, tb (decide ((o2.length : Int) > 1024)))] [(10, u8s o2)] hxl1 rfl (by as_aux_lemma => kernel_rfl) (.cons trivial .nil) ?_
      clear hxl1; intro kxl1 hxl1
      refine Go.br 20 (Pf := (PostX Γ bursaryref31_Encode_enc)) hxl1 rfl rfl ?_ ?_ <;> clear hxl1 <;> intro ct2 kxl1 hxl1
      · have ct2p := of_decide_eq_true ct2
        refine Go.rx 20 {} [10] [2, 3] _ [(2, .leaf (.slice none 0 0)), (3, ti 3)] [] hxl1 rfl (by as_aux_lemma => kernel_rfl) .nil ?_
        clear hxl1; intro kxl1 hxl1
        exact Go.lvx 20 [] _ [.leaf (.slice none 0 0), ti 3] Tryd.func31 hxl1 rfl (by as_aux_lemma => kernel_rfl) .nil (T.Le.tup (.cons (T.Le.nil _ _) (.cons (T.Le.of_eq rfl) .nil))) rfl rfl .nil
      · have ct2p := of_decide_eq_false ct2
        refine Go.rx 20 {} [] [2, 3] _ [(2, .ref 10 1 0 o2.length), (3, ti 0)] [(10, u8s o2)] hxl1 rfl (by as_aux_lemma => kernel_rfl) .nil ?_
        clear hxl1; intro kxl1 hxl1
        refine Go.frz [] [] 2 10 (u8s o2) _ [(2, .dead), (3, ti 0)] [] rfl rfl (mp_ids (g := (fun c : UInt8 => T.leaf (.int .u8 c.toNat))) o2 (fun _ => rfl)) (by simp only [List.length_map]; omega) (mp_all o2) (by as_aux_lemma => kernel_rfl) .nil ?_
        exact Go.lvx 20 [] _ [.sl 1 .shr o2.length (u8s o2), ti 0] Tryd.func31 hxl1 rfl (by as_aux_lemma => kernel_rfl) .nil (T.Le.tup (.cons (T.Le.of_eq rfl) (.cons (T.Le.of_eq rfl) .nil))) rfl rfl .nil
    have Ll1 : ∀ (ml1 : Nat) (i1 : Int) (o1 : List UInt8), (0 ≤ i1) → (i1 ≤ (l.length : Int)) → ((o1.length : Int) ≤ 1 + 1026 * i1) → (((l.length : Int) - i1).toNat < ml1) → Go E Γ 31 51 [] ((PostX Γ bursaryref31_Encode_enc) (Lo.el (bursaryref31_Encode_l1 l ml1 i1 o1) (fun z : List UInt8 => bursaryref31_Encode_k1 z))) kl1 (stL [(0, .sl 1 g_l l.length (b8s .shr l)), (4, .ref 10 1 0 o1.length), (5, ti i1)] [(10, u8s o1)]) := by
      intro ml1
      induction ml1 with
      | zero => intro i1 o1 i0l1 i1l1 i2l1 hml1; exact absurd hml1 (Nat.not_lt_zero _)
      | succ ml1 ihl1 =>
        intro i1 o1 i0l1 i1l1 i2l1 hml1
        rw [bursaryref31_Encode_l1]
        refine Go.round hl1 ?_
        intro k hk
        refine Go.rx 20 {} [] [0, 4, 5, 16] _ [(0, .sl 1 g_l l.length (b8s .shr l)), (4, .ref 10 1 0 o1.length), (5, ti i1), (16, tb (decide (i1 < (l.length : Int))))] [(10, u8s o1)] hk rfl (by as_aux_lemma => kernel_rfl) (.cons trivial .nil) ?_
        clear hk; intro k hk
        refine Go.br 20 (Pf := (fun z : Lo (List UInt8) (List UInt8 × Int) => (PostX Γ bursaryref31_Encode_enc) (Lo.el z (fun z : List UInt8 => bursaryref31_Encode_k1 z)))) hk rfl rfl ?_ ?_ <;> clear hk <;> intro ct3 k hk
        · have ct3p := of_decide_eq_true ct3
          refine Go.rx 20 { ws := [(3, { v := some (.sl 1 .shr (l.getD i1.toNat []).length (u8s (l.getD i1.toNat []))) })] } [] [0, 4, 5, 24] _ [(0, .sl 1 g_l l.length (b8s .shr l)), (4, .ref 10 1 0 o1.length), (5, ti i1), (24, tb (decide (((l.getD i1.toNat []).length : Int) > 1024)))] [(10, u8s o1)] hk rfl (by as_aux_lemma => kernel_rfl) (.cons (by first | omega | (simp <;> omega) | (simp at * <;> omega) | (split <;> omega) | (split <;> (first | omega | (simp <;> omega) | (simp at * <;> omega))) : 0 ≤ (i1 : Int) ∧ (i1 : Int) < ((l.length : Nat) : Int)) (.cons (part1 (by as_aux_lemma => kernel_rfl : (E.ti 33).agg = false) (mp_get (g := (fun c : List UInt8 => tl .shr c)) (k := i1.toNat * 1) (n := i1.toNat) l [] (by omega) (by first | omega | (simp <;> omega) | (simp at * <;> omega) | (split <;> omega) | (split <;> (first | omega | (simp <;> omega) | (simp at * <;> omega)))))) (.cons trivial .nil))) ?_
          clear hk; intro k hk
          refine Go.br 20 (Pf := (fun z : Lo (List UInt8) (List UInt8 × Int) => (PostX Γ bursaryref31_Encode_enc) (Lo.el z (fun z : List UInt8 => bursaryref31_Encode_k1 z)))) hk rfl rfl ?_ ?_ <;> clear hk <;> intro ct4 k hk
          · have ct4p := of_decide_eq_true ct4
            refine Go.rx 20 {} [10] [2, 3] _ [(2, .leaf (.slice none 0 0)), (3, ti 3)] [] hk rfl (by as_aux_lemma => kernel_rfl) .nil ?_
            clear hk; intro k hk
            exact Go.lvx 20 [] _ [.leaf (.slice none 0 0), ti 3] Tryd.func31 hk rfl (by as_aux_lemma => kernel_rfl) .nil (T.Le.tup (.cons (T.Le.nil _ _) (.cons (T.Le.of_eq rfl) .nil))) rfl rfl .nil
          · have ct4p := of_decide_eq_false ct4
            refine Go.dx 20 [0, 1, 2, 3, 4, 5, 6, 7, 8, 9, 10, 11, 12, 13, 14, 15, 16, 17, 18, 19, 20, 21, 22] { ws := [(4, { v := some (.sl 1 .shr (l.getD i1.toNat []).length (u8s (l.getD i1.toNat []))) }), (6, { v := some (ti (((l.getD i1.toNat []).length : Int) / 256)) }), (7, { v := some (t8 (u8i (((l.getD i1.toNat []).length : Int) / 256))) }), (11, { v := some (.sl 1 .shr (l.getD i1.toNat []).length (u8s (l.getD i1.toNat []))) }), (13, { v := some (ti (((l.getD i1.toNat []).length : Int) % 256)) }), (14, { v := some (t8 (u8i (((l.getD i1.toNat []).length : Int) % 256))) }), (15, { id := 11 }), (16, { v := some (.ref 10 1 0 ((o1 ++ ([u8i (((l.getD i1.toNat []).length : Int) / 256), u8i (((l.getD i1.toNat []).length : Int) % 256)])).length)), c := some (u8s (o1 ++ ([u8i (((l.getD i1.toNat []).length : Int) / 256), u8i (((l.getD i1.toNat []).length : Int) % 256)]))), id := 10, sym := true }), (20, { v := some (.sl 1 .shr (l.getD i1.toNat []).length (u8s (l.getD i1.toNat []))) }), (21, { v := some (.ref 10 1 0 ((o1 ++ ([u8i (((l.getD i1.toNat []).length : Int) / 256), u8i (((l.getD i1.toNat []).length : Int) % 256)]) ++ (l.getD i1.toNat [])).length)), c := some (u8s (o1 ++ ([u8i (((l.getD i1.toNat []).length : Int) / 256), u8i (((l.getD i1.toNat []).length : Int) % 256)]) ++ (l.getD i1.toNat []))), id := 10, sym := true })], pg := [10] } [11] [0, 4, 5] _ [(0, .sl 1 g_l l.length (b8s .shr l)), (4, .ref 10 1 0 ((o1 ++ ([u8i (((l.getD i1.toNat []).length : Int) / 256), u8i (((l.getD i1.toNat []).length : Int) % 256)]) ++ (l.getD i1.toNat [])).length)), (5, ti i1)] [(10, u8s (o1 ++ ([u8i (((l.getD i1.toNat []).length : Int) / 256), u8i (((l.getD i1.toNat []).length : Int) % 256)]) ++ (l.getD i1.toNat [])))] hk rfl (by as_aux_lemma => kernel_rfl) (.cons (by first | omega | (simp <;> omega) | (simp at * <;> omega) | (split <;> omega) | (split <;> (first | omega | (simp <;> omega) | (simp at * <;> omega))) : 0 ≤ (i1 : Int) ∧ (i1 : Int) < ((l.length : Nat) : Int)) (.cons (part1 (by as_aux_lemma => kernel_rfl : (E.ti 33).agg = false) (mp_get (g := (fun c : List UInt8 => tl .shr c)) (k := i1.toNat * 1) (n := i1.toNat) l [] (by omega) (by first | omega | (simp <;> omega) | (simp at * <;> omega) | (split <;> omega) | (split <;> (first | omega | (simp <;> omega) | (simp at * <;> omega)))))) (.cons (by decide : 256 ≠ (0 : Int)) (.cons (quoI ((l.getD i1.toNat []).length : Int) 256 (by first | omega | (simp <;> omega) | (simp at * <;> omega) | (split <;> omega) | (split <;> (first | omega | (simp <;> omega) | (simp at * <;> omega))))) (.cons (cvi_8 (((l.getD i1.toNat []).length : Int) / 256)) (.cons (by first | omega | (simp <;> omega) | (simp at * <;> omega) | (split <;> omega) | (split <;> (first | omega | (simp <;> omega) | (simp at * <;> omega))) : 0 ≤ (i1 : Int) ∧ (i1 : Int) < ((l.length : Nat) : Int)) (.cons (part1 (by as_aux_lemma => kernel_rfl : (E.ti 33).agg = false) (mp_get (g := (fun c : List UInt8 => tl .shr c)) (k := i1.toNat * 1) (n := i1.toNat) l [] (by omega) (by first | omega | (simp <;> omega) | (simp at * <;> omega) | (split <;> omega) | (split <;> (first | omega | (simp <;> omega) | (simp at * <;> omega)))))) (.cons (by decide : 256 ≠ (0 : Int)) (.cons (remI ((l.getD i1.toNat []).length : Int) 256 (by first | omega | (simp <;> omega) | (simp at * <;> omega) | (split <;> omega) | (split <;> (first | omega | (simp <;> omega) | (simp at * <;> omega))))) (.cons (cvi_8 (((l.getD i1.toNat []).length : Int) % 256)) (.cons (Nat.le_of_ble_eq_true rfl : 0 + 2 * 1 ≤ ([t8 (u8i (((l.getD i1.toNat []).length : Int) / 256)), t8 (u8i (((l.getD i1.toNat []).length : Int) % 256))] : List T).length) (.cons (by simp only [List.length_map]; omega : 0 + o1.length * 1 ≤ (u8s o1).length) (.cons (rfl : scalL ([t8 (u8i (((l.getD i1.toNat []).length : Int) / 256)), t8 (u8i (((l.getD i1.toNat []).length : Int) % 256))]) = true) (.cons (by first | omega | (simp <;> omega) | (simp at * <;> omega) | (split <;> omega) | (split <;> (first | omega | (simp <;> omega) | (simp at * <;> omega))) : (o1.length + 2) * 1 ≤ 140737488355328) (.cons (mp_app (g := (fun c : UInt8 => T.leaf (.int .u8 c.toNat))) (o1) ([u8i (((l.getD i1.toNat []).length : Int) / 256), u8i (((l.getD i1.toNat []).length : Int) % 256)]) rfl) (.cons (mp_mem (i := 10) (g := (fun c : UInt8 => T.leaf (.int .u8 c.toNat))) (o1 ++ ([u8i (((l.getD i1.toNat []).length : Int) / 256), u8i (((l.getD i1.toNat []).length : Int) % 256)])) (fun _ => rfl)) (.cons (by first | rfl | (simp; done) | (refine congrArg (fun q => T.ref 10 1 0 q) ?_; simp <;> omega) : T.ref 10 1 0 (o1.length + 2) = .ref 10 1 0 ((o1 ++ ([u8i (((l.getD i1.toNat []).length : Int) / 256), u8i (((l.getD i1.toNat []).length : Int) % 256)])).length)) (.cons (by first | omega | (simp <;> omega) | (simp at * <;> omega) | (split <;> omega) | (split <;> (first | omega | (simp <;> omega) | (simp at * <;> omega))) : 0 ≤ (i1 : Int) ∧ (i1 : Int) < ((l.length : Nat) : Int)) (.cons (part1 (by as_aux_lemma => kernel_rfl : (E.ti 33).agg = false) (mp_get (g := (fun c : List UInt8 => tl .shr c)) (k := i1.toNat * 1) (n := i1.toNat) l [] (by omega) (by first | omega | (simp <;> omega) | (simp at * <;> omega) | (split <;> omega) | (split <;> (first | omega | (simp <;> omega) | (simp at * <;> omega)))))) (.cons (by simp only [List.length_map]; omega : 0 + (o1 ++ ([u8i (((l.getD i1.toNat []).length : Int) / 256), u8i (((l.getD i1.toNat []).length : Int) % 256)])).length * 1 ≤ (u8s (o1 ++ ([u8i (((l.getD i1.toNat []).length : Int) / 256), u8i (((l.getD i1.toNat []).length : Int) % 256)]))).length) (.cons (mp_scal (l.getD i1.toNat []) (fun _ => rfl) : scalL (u8s (l.getD i1.toNat [])) = true) (.cons (by first | omega | (simp <;> omega) | (simp at * <;> omega) | (split <;> omega) | (split <;> (first | omega | (simp <;> omega) | (simp at * <;> omega))) : ((o1 ++ ([u8i (((l.getD i1.toNat []).length : Int) / 256), u8i (((l.getD i1.toNat []).length : Int) % 256)])).length + (l.getD i1.toNat []).length) * 1 ≤ 140737488355328) (.cons (mp_app (g := (fun c : UInt8 => T.leaf (.int .u8 c.toNat))) (o1 ++ ([u8i (((l.getD i1.toNat []).length : Int) / 256), u8i (((l.getD i1.toNat []).length : Int) % 256)])) (l.getD i1.toNat []) rfl) (.cons (mp_mem (i := 10) (g := (fun c : UInt8 => T.leaf (.int .u8 c.toNat))) (o1 ++ ([u8i (((l.getD i1.toNat []).length : Int) / 256), u8i (((l.getD i1.toNat []).length : Int) % 256)]) ++ (l.getD i1.toNat [])) (fun _ => rfl)) (.cons (by first | rfl | (simp; done) | (refine congrArg (fun q => T.ref 10 1 0 q) ?_; simp <;> omega) : T.ref 10 1 0 ((o1 ++ ([u8i (((l.getD i1.toNat []).length : Int) / 256), u8i (((l.getD i1.toNat []).length : Int) % 256)])).length + (l.getD i1.toNat []).length) = .ref 10 1 0 ((o1 ++ ([u8i (((l.getD i1.toNat []).length : Int) / 256), u8i (((l.getD i1.toNat []).length : Int) % 256)]) ++ (l.getD i1.toNat [])).length)) (.cons (mp_mem (i := 11) (g := (fun c : UInt8 => T.leaf (.int .u8 c.toNat))) (o1 ++ ([u8i (((l.getD i1.toNat []).length : Int) / 256), u8i (((l.getD i1.toNat []).length : Int) % 256)]) ++ (l.getD i1.toNat [])) (fun _ => rfl)) .nil)))))))))))))))))))))))))) ?_
            clear hk; intro k hk
            refine Go.rx 20 { ws := [(1, { v := some (ti (i1 + 1)) })] } [] [0, 4, 5] _ [(0, .sl 1 g_l l.length (b8s .shr l)), (4, .ref 10 1 0 ((o1 ++ ([u8i (((l.getD i1.toNat []).length : Int) / 256), u8i (((l.getD i1.toNat []).length : Int) % 256)]) ++ (l.getD i1.toNat [])).length)), (5, ti (i1 + 1))] [(10, u8s (o1 ++ ([u8i (((l.getD i1.toNat []).length : Int) / 256), u8i (((l.getD i1.toNat []).length : Int) % 256)]) ++ (l.getD i1.toNat [])))] hk rfl (by as_aux_lemma => kernel_rfl) (.cons trivial (.cons (iw (i1 + 1) (by first | omega | (simp <;> omega) | (simp at * <;> omega) | (split <;> omega) | (split <;> (first | omega | (simp <;> omega) | (simp at * <;> omega))))) .nil)) ?_
            clear hk; intro k hk
            exact Go.join 20 hk hl1 rfl (ihl1 (i1 + 1) (o1 ++ ([u8i (((l.getD i1.toNat []).length : Int) / 256), u8i (((l.getD i1.toNat []).length : Int) % 256)]) ++ (l.getD i1.toNat [])) (by first | omega | (simp <;> omega) | (simp at * <;> omega) | (split <;> omega) | (split <;> (first | omega | (simp <;> omega) | (simp at * <;> omega)))) (by first | omega | (simp <;> omega) | (simp at * <;> omega) | (split <;> omega) | (split <;> (first | omega | (simp <;> omega) | (simp at * <;> omega)))) (by first | omega | (simp <;> omega) | (simp at * <;> omega) | (split <;> omega) | (split <;> (first | omega | (simp <;> omega) | (simp at * <;> omega)))) (by first | omega | (simp <;> omega) | (simp at * <;> omega) | (split <;> omega) | (split <;> (first | omega | (simp <;> omega) | (simp at * <;> omega)))))
        · have ct3p := of_decide_eq_false ct3
          refine Go.keepN [4] (L' := [(4, .ref 10 1 0 o1.length)]) rfl ?_
          exact Go.join 20 hk hxl1 rfl (Xl1 o1)
    exact Ll1 _ 0 [u8i (l.length : Int)] (by first | omega | simp) (by first | omega | simp) (by first | omega | simp) (Nat.lt_succ_self _)
noncomputable def wire_Decode_k1 (t1 : List UInt8) (o2 : List (List UInt8)) : List (List UInt8) × Int :=
  bif decide ((t1.length : Int) > 0) then
    ([], 4)
  else
    (o2, 0)
noncomputable def wire_Decode_l1 (a0 : List UInt8) : Nat → (List UInt8) → Int → (List (List UInt8)) → Lo (List UInt8 × List (List UInt8)) (List (List UInt8) × Int)
  | 0, _, _, _ => .brk default
  | ml1 + 1, t01, t281, o1 =>
    bif decide (t281 < ((a0.getD 0 0).toNat : Int)) then
      bif decide ((t01.length : Int) < 2) then
        Lo.ret ([], 4)
      else
        bif decide (((slc t01 2 (t01.length : Int)).length : Int) < orI (((t01.getD 0 0).toNat : Int) * 256) ((t01.getD 1 0).toNat : Int)) then
          Lo.ret ([], 4)
        else
          bnd (id (slc (slc t01 2 (t01.length : Int)) 0 (orI (((t01.getD 0 0).toNat : Int) * 256) ((t01.getD 1 0).toNat : Int)))) fun x1 =>
          wire_Decode_l1 a0 ml1 (slc (slc t01 2 (t01.length : Int)) (orI (((t01.getD 0 0).toNat : Int) * 256) ((t01.getD 1 0).toNat : Int)) ((slc t01 2 (t01.length : Int)).length : Int)) (t281 + 1) (o1 ++ [x1])
    else
      Lo.brk (t01, o1)
noncomputable def wire_Decode (a0 : List UInt8) : List (List UInt8) × Int :=
  bif decide ((a0.length : Int) > 1024) then
    ([], 3)
  else
    bif ((a0.length : Int) == 0) || (decide ((a0.getD 0 0) > 16)) then
      ([], 4)
    else
      Lo.el (wire_Decode_l1 a0 ((((a0.getD 0 0).toNat : Int) - (0 : Int)).toNat + 1) (slc a0 1 (a0.length : Int)) 0 []) (fun z : List UInt8 × List (List UInt8) => wire_Decode_k1 z.1 z.2)
def wire_Decode_enc (x : List (List UInt8) × Int) : T × List (Nat × List T) := (.tup [.sl 1 .shr x.1.length (b8s .shr x.1), er 67 x.2], [])
theorem wire_Decode_m {g_a0 : Tag} (a0 : List UInt8) : Meets Tryd.prog 32 [.sl 1 g_a0 a0.length (u8s a0)] [] [] (.tup [.sl 1 .shr ((wire_Decode a0).1).length (b8s .shr ((wire_Decode a0).1)), er 67 ((wire_Decode a0).2)]) [] := by
  refine Meets.enterX (E := E) (N := 67) (enc := wire_Decode_enc) (x := (wire_Decode a0)) Tryd.func32 Tryd.call32 rfl rfl ?_
  intro Γ k hk
  refine Go.rx 20 {} [] [0] _ [(0, .sl 1 g_a0 a0.length (u8s a0))] [] hk rfl (by as_aux_lemma => kernel_rfl) .nil ?_
  clear hk; intro k hk
  refine Go.rx 20 {} [] [0, 9] _ [(0, .sl 1 g_a0 a0.length (u8s a0)), (9, tb (decide ((a0.length : Int) > 1024)))] [] hk rfl (by as_aux_lemma => kernel_rfl) (.cons trivial .nil) ?_
  clear hk; intro k hk
  refine Go.br 20 (Pf := (PostX Γ wire_Decode_enc)) hk rfl rfl ?_ ?_ <;> clear hk <;> intro ct1 k hk
  · have ct1p := of_decide_eq_true ct1
    refine Go.rx 20 {} [] [2, 3] _ [(2, .leaf (.slice none 0 0)), (3, er 67 3)] [] hk rfl (by as_aux_lemma => kernel_rfl) .nil ?_
    clear hk; intro k hk
    exact Go.lvx 20 [] _ [.leaf (.slice none 0 0), er 67 3] Tryd.func32 hk rfl (by as_aux_lemma => kernel_rfl) .nil (T.Le.tup (.cons (T.Le.nil _ _) (.cons (T.Le.of_eq rfl) .nil))) rfl (by first | rfl | (simp only [wire_Decode_enc, T.ids, idsL, er_ids, List.append_nil, List.nil_append]; rfl)) .nil
  · have ct1p := of_decide_eq_false ct1
    refine Go.regJ 20 [(0, .sl 1 g_a0 a0.length (u8s a0)), (19, tb (((a0.length : Int) == 0) || (decide ((a0.getD 0 0) > 16))))] [] hk rfl ?_ ?_
    · clear hk; intro k hk
      refine Go.br 20 (Pf := (PostX Γ wire_Decode_enc)) hk rfl rfl ?_ ?_ <;> clear hk <;> intro ct2 k hk
      · refine Go.rx 20 {} [] [2, 3] _ [(2, .leaf (.slice none 0 0)), (3, er 67 4)] [] hk rfl (by as_aux_lemma => kernel_rfl) .nil ?_
        clear hk; intro k hk
        exact Go.lvx 20 [] _ [.leaf (.slice none 0 0), er 67 4] Tryd.func32 hk rfl (by as_aux_lemma => kernel_rfl) .nil (T.Le.tup (.cons (T.Le.nil _ _) (.cons (T.Le.of_eq rfl) .nil))) rfl (by first | rfl | (simp only [wire_Decode_enc, T.ids, idsL, er_ids, List.append_nil, List.nil_append]; rfl)) .nil
      · have ct21 : ((a0.length : Int) == 0) = false := (Bool.or_eq_false_iff.1 ct2).1
        have ct22 : (decide ((a0.getD 0 0) > 16)) = false := (Bool.or_eq_false_iff.1 ct2).2
        have ct21p := eqIf ct21
        refine Go.rx 20 {} [] [0, 4] _ [(0, .sl 1 g_a0 a0.length (u8s a0)), (4, .leaf (.slice none 0 0))] [] hk rfl (by as_aux_lemma => kernel_rfl) .nil ?_
        clear hk; intro k hk
        have := lt8 (a0.getD 0 0)
        refine Go.rx 20 { ws := [(2, { v := some (t8 (a0.getD 0 0)) }), (3, { v := some (ti ((a0.getD 0 0).toNat : Int)) })] } [] [0, 4, 5] _ [(0, .sl 1 g_a0 a0.length (u8s a0)), (4, .leaf (.slice none 0 0)), (5, ti ((a0.getD 0 0).toNat : Int))] [] hk rfl (by as_aux_lemma => kernel_rfl) (.cons (by first | omega | (simp <;> omega) | (simp at * <;> omega) | (split <;> omega) | (split <;> (first | omega | (simp <;> omega) | (simp at * <;> omega))) : 0 ≤ (0 : Int) ∧ (0 : Int) < ((a0.length : Nat) : Int)) (.cons (part1 (by as_aux_lemma => kernel_rfl : (E.ti 5).agg = false) (mp_get (g := (fun c : UInt8 => T.leaf (.int .u8 c.toNat))) (k := 0) (n := 0) a0 (0 : UInt8) rfl (by first | omega | (simp <;> omega) | (simp at * <;> omega) | (split <;> omega) | (split <;> (first | omega | (simp <;> omega) | (simp at * <;> omega)))))) (.cons (cv8_i (a0.getD 0 0)) .nil))) ?_
        clear hk; intro k hk
        refine Go.rx 20 { ws := [(1, { v := some (.sl 1 g_a0 (slc a0 1 (a0.length : Int)).length (u8s (slc a0 1 (a0.length : Int)))) })] } [] [0, 4, 5] _ [(0, .sl 1 g_a0 (slc a0 1 (a0.length : Int)).length (u8s (slc a0 1 (a0.length : Int)))), (4, .leaf (.slice none 0 0)), (5, ti ((a0.getD 0 0).toNat : Int))] [] hk rfl (by as_aux_lemma => kernel_rfl) (.cons (by first | omega | (simp <;> omega) | (simp at * <;> omega) | (split <;> omega) | (split <;> (first | omega | (simp <;> omega) | (simp at * <;> omega))) : 0 ≤ (1 : Int) ∧ (1 : Int) ≤ (a0.length : Int) ∧ (a0.length : Int) ≤ (a0.length : Int) ∧ (a0.length : Int) ≤ (a0.length : Nat)) (.cons (sl_slc (t := g_a0) (g := (fun c : UInt8 => T.leaf (.int .u8 c.toNat))) (lo := 1) (hi := (a0.length : Int)) a0 (by first | omega | (simp <;> omega) | (simp at * <;> omega) | (split <;> omega) | (split <;> (first | omega | (simp <;> omega) | (simp at * <;> omega)))) rfl rfl) .nil)) ?_
        clear hk; intro k hk
        refine Go.rx 20 {} [] [0, 4, 27, 28] _ [(0, .sl 1 g_a0 (slc a0 1 (a0.length : Int)).length (u8s (slc a0 1 (a0.length : Int)))), (4, .leaf (.slice none 0 0)), (27, ti ((a0.getD 0 0).toNat : Int)), (28, ti 0)] [] hk rfl (by as_aux_lemma => kernel_rfl) .nil ?_
        clear hk; intro k hk
        refine Go.phn 4 10 1 rfl (.inl rfl) rfl rfl ?_
        refine Go.loopX 20 hk rfl ?_
        clear hk; intro kl1 kxl1 hl1 hxl1
        have Xl1 : ∀ (t1 : List UInt8) (o2 : List (List UInt8)), Go E Γ 32 67 [] ((PostX Γ wire_Decode_enc) (wire_Decode_k1 t1 o2)) kxl1 (stL [(0, .sl 1 g_a0 t1.length (u8s t1)), (4, .ref 10 1 0 o2.length)] [(10, b8s .shr o2)]) := by
          intro t1 o2
          refine Go.rx 20 {} [] [4, 64] _ [(4, .ref 10 1 0 o2.length), (64, tb (decide ((t1.length : Int) > 0)))] [(10, b8s .shr o2)] hxl1 rfl (by as_aux_lemma => kernel_rfl) (.cons trivial .nil) ?_
          clear hxl1; intro kxl1 hxl1
          refine Go.br 20 (Pf := (PostX Γ wire_Decode_enc)) hxl1 rfl rfl ?_ ?_ <;> clear hxl1 <;> intro ct3 kxl1 hxl1
          · have ct3p := of_decide_eq_true ct3
            refine Go.rx 20 { ps := [3, 65] } [10] [2, 3] _ [(2, .leaf (.slice none 0 0)), (3, er 67 4)] [] hxl1 rfl (by as_aux_lemma => kernel_rfl) (.cons (er_mem (i := 10) 67 4) (.cons (er_mem (i := 10) 67 4) .nil)) ?_
            clear hxl1; intro kxl1 hxl1
            exact Go.lvx 20 [] _ [.leaf (.slice none 0 0), er 67 4] Tryd.func32 hxl1 rfl (by as_aux_lemma => kernel_rfl) .nil (T.Le.tup (.cons (T.Le.nil _ _) (.cons (T.Le.of_eq rfl) .nil))) rfl (by first | rfl | (simp only [wire_Decode_enc, T.ids, idsL, er_ids, List.append_nil, List.nil_append]; rfl)) .nil
          · have ct3p := of_decide_eq_false ct3
            refine Go.rx 20 {} [] [2, 3] _ [(2, .ref 10 1 0 o2.length), (3, .leaf .nilIface)] [(10, b8s .shr o2)] hxl1 rfl (by as_aux_lemma => kernel_rfl) .nil ?_
            clear hxl1; intro kxl1 hxl1
            refine Go.frz [] [] 2 10 (b8s .shr o2) _ [(2, .dead), (3, .leaf .nilIface)] [] rfl rfl (mp_ids (g := (fun c : List UInt8 => tl .shr c)) o2 (fun _ => rfl)) (by simp only [List.length_map]; omega) (mp_all o2) (by as_aux_lemma => kernel_rfl) .nil ?_
            exact Go.lvx 20 [] _ [.sl 1 .shr o2.length (b8s .shr o2), .leaf .nilIface] Tryd.func32 hxl1 rfl (by as_aux_lemma => kernel_rfl) .nil (T.Le.tup (.cons (T.Le.of_eq rfl) (.cons (T.Le.of_eq rfl) .nil))) rfl rfl .nil
        have Ll1 : ∀ (ml1 : Nat) (t01 : List UInt8) (t281 : Int) (o1 : List (List UInt8)), (0 ≤ t281) → (t01.length ≤ 1024) → ((o1.length : Int) = t281) → ((((a0.getD 0 0).toNat : Int) - t281).toNat < ml1) → Go E Γ 32 67 [] ((PostX Γ wire_Decode_enc) (Lo.el (wire_Decode_l1 a0 ml1 t01 t281 o1) (fun z : List UInt8 × List (List UInt8) => wire_Decode_k1 z.1 z.2))) kl1 (stL [(0, .sl 1 g_a0 t01.length (u8s t01)), (4, .ref 10 1 0 o1.length), (27, ti ((a0.getD 0 0).toNat : Int)), (28, ti t281)] [(10, b8s .shr o1)]) := by
          intro ml1
          induction ml1 with
          | zero => intro t01 t281 o1 i0l1 i1l1 i2l1 hml1; exact absurd hml1 (Nat.not_lt_zero _)
          | succ ml1 ihl1 =>
            intro t01 t281 o1 i0l1 i1l1 i2l1 hml1
            rw [wire_Decode_l1]
            refine Go.round hl1 ?_
            intro k hk
            have hz := orB8 (t01.getD 0 0) (t01.getD 1 0)
            refine Go.rx 20 {} [] [0, 4, 27, 28, 29] _ [(0, .sl 1 g_a0 t01.length (u8s t01)), (4, .ref 10 1 0 o1.length), (27, ti ((a0.getD 0 0).toNat : Int)), (28, ti t281), (29, tb (decide (t281 < ((a0.getD 0 0).toNat : Int))))] [(10, b8s .shr o1)] hk rfl (by as_aux_lemma => kernel_rfl) (.cons trivial .nil) ?_
            clear hk; intro k hk
            refine Go.br 20 (Pf := (fun z : Lo (List UInt8 × List (List UInt8)) (List (List UInt8) × Int) => (PostX Γ wire_Decode_enc) (Lo.el z (fun z : List UInt8 × List (List UInt8) => wire_Decode_k1 z.1 z.2)))) hk rfl rfl ?_ ?_ <;> clear hk <;> intro ct4 k hk
            · have ct4p := of_decide_eq_true ct4
              refine Go.rx 20 {} [] [0, 4, 27, 28, 32] _ [(0, .sl 1 g_a0 t01.length (u8s t01)), (4, .ref 10 1 0 o1.length), (27, ti ((a0.getD 0 0).toNat : Int)), (28, ti t281), (32, tb (decide ((t01.length : Int) < 2)))] [(10, b8s .shr o1)] hk rfl (by as_aux_lemma => kernel_rfl) (.cons trivial .nil) ?_
              clear hk; intro k hk
              refine Go.br 20 (Pf := (fun z : Lo (List UInt8 × List (List UInt8)) (List (List UInt8) × Int) => (PostX Γ wire_Decode_enc) (Lo.el z (fun z : List UInt8 × List (List UInt8) => wire_Decode_k1 z.1 z.2)))) hk rfl rfl ?_ ?_ <;> clear hk <;> intro ct5 k hk
              · have ct5p := of_decide_eq_true ct5
                refine Go.rx 20 { ps := [3, 33] } [10] [2, 3] _ [(2, .leaf (.slice none 0 0)), (3, er 67 4)] [] hk rfl (by as_aux_lemma => kernel_rfl) (.cons (er_mem (i := 10) 67 4) (.cons (er_mem (i := 10) 67 4) .nil)) ?_
                clear hk; intro k hk
                exact Go.lvx 20 [] _ [.leaf (.slice none 0 0), er 67 4] Tryd.func32 hk rfl (by as_aux_lemma => kernel_rfl) .nil (T.Le.tup (.cons (T.Le.nil _ _) (.cons (T.Le.of_eq rfl) .nil))) rfl (by first | rfl | (simp only [wire_Decode_enc, T.ids, idsL, er_ids, List.append_nil, List.nil_append]; rfl)) .nil
              · have ct5p := of_decide_eq_false ct5
                have := lt8 (t01.getD 0 0)
                have := lt8 (t01.getD 1 0)
                refine Go.dx 20 [0, 1, 2, 3, 4, 5, 6, 7, 8, 9, 10] { ws := [(2, { v := some (t8 (t01.getD 0 0)) }), (3, { v := some (ti ((t01.getD 0 0).toNat : Int)) }), (4, { v := some (ti (((t01.getD 0 0).toNat : Int) * 256)) }), (7, { v := some (t8 (t01.getD 1 0)) }), (8, { v := some (ti ((t01.getD 1 0).toNat : Int)) })] } [] [0, 4, 6, 27, 28] _ [(0, .sl 1 g_a0 t01.length (u8s t01)), (4, .ref 10 1 0 o1.length), (6, ti (orI (((t01.getD 0 0).toNat : Int) * 256) ((t01.getD 1 0).toNat : Int))), (27, ti ((a0.getD 0 0).toNat : Int)), (28, ti t281)] [(10, b8s .shr o1)] hk rfl (by as_aux_lemma => kernel_rfl) (.cons (by first | omega | (simp <;> omega) | (simp at * <;> omega) | (split <;> omega) | (split <;> (first | omega | (simp <;> omega) | (simp at * <;> omega))) : 0 ≤ (0 : Int) ∧ (0 : Int) < ((t01.length : Nat) : Int)) (.cons (part1 (by as_aux_lemma => kernel_rfl : (E.ti 5).agg = false) (mp_get (g := (fun c : UInt8 => T.leaf (.int .u8 c.toNat))) (k := 0) (n := 0) t01 (0 : UInt8) rfl (by first | omega | (simp <;> omega) | (simp at * <;> omega) | (split <;> omega) | (split <;> (first | omega | (simp <;> omega) | (simp at * <;> omega)))))) (.cons (cv8_i (t01.getD 0 0)) (.cons (by decide : 0 ≤ (8 : Int)) (.cons (shlC 8 ((t01.getD 0 0).toNat : Int) 256 (by decide) (by first | omega | (simp <;> omega) | (simp at * <;> omega) | (split <;> omega) | (split <;> (first | omega | (simp <;> omega) | (simp at * <;> omega))))) (.cons (by first | omega | (simp <;> omega) | (simp at * <;> omega) | (split <;> omega) | (split <;> (first | omega | (simp <;> omega) | (simp at * <;> omega))) : 0 ≤ (1 : Int) ∧ (1 : Int) < ((t01.length : Nat) : Int)) (.cons (part1 (by as_aux_lemma => kernel_rfl : (E.ti 5).agg = false) (mp_get (g := (fun c : UInt8 => T.leaf (.int .u8 c.toNat))) (k := 1) (n := 1) t01 (0 : UInt8) rfl (by first | omega | (simp <;> omega) | (simp at * <;> omega) | (split <;> omega) | (split <;> (first | omega | (simp <;> omega) | (simp at * <;> omega)))))) (.cons (cv8_i (t01.getD 1 0)) (.cons trivial .nil))))))))) ?_
                clear hk; intro k hk
                refine Go.rx 20 { ws := [(1, { v := some (.sl 1 g_a0 (slc t01 2 (t01.length : Int)).length (u8s (slc t01 2 (t01.length : Int)))) })] } [] [0, 4, 6, 27, 28] _ [(0, .sl 1 g_a0 (slc t01 2 (t01.length : Int)).length (u8s (slc t01 2 (t01.length : Int)))), (4, .ref 10 1 0 o1.length), (6, ti (orI (((t01.getD 0 0).toNat : Int) * 256) ((t01.getD 1 0).toNat : Int))), (27, ti ((a0.getD 0 0).toNat : Int)), (28, ti t281)] [(10, b8s .shr o1)] hk rfl (by as_aux_lemma => kernel_rfl) (.cons (by first | omega | (simp <;> omega) | (simp at * <;> omega) | (split <;> omega) | (split <;> (first | omega | (simp <;> omega) | (simp at * <;> omega))) : 0 ≤ (2 : Int) ∧ (2 : Int) ≤ (t01.length : Int) ∧ (t01.length : Int) ≤ (t01.length : Int) ∧ (t01.length : Int) ≤ (t01.length : Nat)) (.cons (sl_slc (t := g_a0) (g := (fun c : UInt8 => T.leaf (.int .u8 c.toNat))) (lo := 2) (hi := (t01.length : Int)) t01 (by first | omega | (simp <;> omega) | (simp at * <;> omega) | (split <;> omega) | (split <;> (first | omega | (simp <;> omega) | (simp at * <;> omega)))) rfl rfl) .nil)) ?_
                clear hk; intro k hk
                refine Go.rx 20 {} [] [0, 4, 6, 27, 28, 49] _ [(0, .sl 1 g_a0 (slc t01 2 (t01.length : Int)).length (u8s (slc t01 2 (t01.length : Int)))), (4, .ref 10 1 0 o1.length), (6, ti (orI (((t01.getD 0 0).toNat : Int) * 256) ((t01.getD 1 0).toNat : Int))), (27, ti ((a0.getD 0 0).toNat : Int)), (28, ti t281), (49, tb (decide (((slc t01 2 (t01.length : Int)).length : Int) < orI (((t01.getD 0 0).toNat : Int) * 256) ((t01.getD 1 0).toNat : Int))))] [(10, b8s .shr o1)] hk rfl (by as_aux_lemma => kernel_rfl) (.cons trivial .nil) ?_
                clear hk; intro k hk
                refine Go.br 20 (Pf := (fun z : Lo (List UInt8 × List (List UInt8)) (List (List UInt8) × Int) => (PostX Γ wire_Decode_enc) (Lo.el z (fun z : List UInt8 × List (List UInt8) => wire_Decode_k1 z.1 z.2)))) hk rfl rfl ?_ ?_ <;> clear hk <;> intro ct6 k hk
                · have ct6p := of_decide_eq_true ct6
                  refine Go.rx 20 { ps := [3, 50] } [10] [2, 3] _ [(2, .leaf (.slice none 0 0)), (3, er 67 4)] [] hk rfl (by as_aux_lemma => kernel_rfl) (.cons (er_mem (i := 10) 67 4) (.cons (er_mem (i := 10) 67 4) .nil)) ?_
                  clear hk; intro k hk
                  exact Go.lvx 20 [] _ [.leaf (.slice none 0 0), er 67 4] Tryd.func32 hk rfl (by as_aux_lemma => kernel_rfl) .nil (T.Le.tup (.cons (T.Le.nil _ _) (.cons (T.Le.of_eq rfl) .nil))) rfl (by first | rfl | (simp only [wire_Decode_enc, T.ids, idsL, er_ids, List.append_nil, List.nil_append]; rfl)) .nil
                · have ct6p := of_decide_eq_false ct6
                  refine Go.rx 20 { ws := [(3, { v := some (.sl 1 g_a0 (slc (slc t01 2 (t01.length : Int)) 0 (orI (((t01.getD 0 0).toNat : Int) * 256) ((t01.getD 1 0).toNat : Int))).length (u8s (slc (slc t01 2 (t01.length : Int)) 0 (orI (((t01.getD 0 0).toNat : Int) * 256) ((t01.getD 1 0).toNat : Int))))) }), (4, { call := some { ids := [], S := [], M := [], R := .sl 1 .shr (id (slc (slc t01 2 (t01.length : Int)) 0 (orI (((t01.getD 0 0).toNat : Int) * 256) ((t01.getD 1 0).toNat : Int)))).length (u8s (id (slc (slc t01 2 (t01.length : Int)) 0 (orI (((t01.getD 0 0).toNat : Int) * 256) ((t01.getD 1 0).toNat : Int))))), H' := [] } }), (5, { id := 12 }), (6, { v := some (.ref 10 1 0 ((o1 ++ [(id (slc (slc t01 2 (t01.length : Int)) 0 (orI (((t01.getD 0 0).toNat : Int) * 256) ((t01.getD 1 0).toNat : Int))))]).length)), c := some (b8s .shr (o1 ++ [(id (slc (slc t01 2 (t01.length : Int)) 0 (orI (((t01.getD 0 0).toNat : Int) * 256) ((t01.getD 1 0).toNat : Int))))])), id := 10, sym := true })], pg := [10] } [12] [0, 4, 6, 27, 28] _ [(0, .sl 1 g_a0 (slc t01 2 (t01.length : Int)).length (u8s (slc t01 2 (t01.length : Int)))), (4, .ref 10 1 0 ((o1 ++ [(id (slc (slc t01 2 (t01.length : Int)) 0 (orI (((t01.getD 0 0).toNat : Int) * 256) ((t01.getD 1 0).toNat : Int))))]).length)), (6, ti (orI (((t01.getD 0 0).toNat : Int) * 256) ((t01.getD 1 0).toNat : Int))), (27, ti ((a0.getD 0 0).toNat : Int)), (28, ti t281)] [(10, b8s .shr (o1 ++ [(id (slc (slc t01 2 (t01.length : Int)) 0 (orI (((t01.getD 0 0).toNat : Int) * 256) ((t01.getD 1 0).toNat : Int))))]))] hk rfl (by as_aux_lemma => kernel_rfl) (.cons (by first | omega | (simp <;> omega) | (simp at * <;> omega) | (split <;> omega) | (split <;> (first | omega | (simp <;> omega) | (simp at * <;> omega))) : 0 ≤ (0 : Int) ∧ (0 : Int) ≤ orI (((t01.getD 0 0).toNat : Int) * 256) ((t01.getD 1 0).toNat : Int) ∧ orI (((t01.getD 0 0).toNat : Int) * 256) ((t01.getD 1 0).toNat : Int) ≤ ((slc t01 2 (t01.length : Int)).length : Int) ∧ ((slc t01 2 (t01.length : Int)).length : Int) ≤ ((slc t01 2 (t01.length : Int)).length : Nat)) (.cons (sl_slc (t := g_a0) (g := (fun c : UInt8 => T.leaf (.int .u8 c.toNat))) (lo := 0) (hi := orI (((t01.getD 0 0).toNat : Int) * 256) ((t01.getD 1 0).toNat : Int)) (slc t01 2 (t01.length : Int)) (by first | omega | (simp <;> omega) | (simp at * <;> omega) | (split <;> omega) | (split <;> (first | omega | (simp <;> omega) | (simp at * <;> omega)))) rfl rfl) (.cons (Meets.frz (Meets.swp [(99, 11)] (clone_m (g_s := g_a0) (slc (slc t01 2 (t01.length : Int)) 0 (orI (((t01.getD 0 0).toNat : Int) * 256) ((t01.getD 1 0).toNat : Int))) (by first | omega | (simp <;> omega) | (simp at * <;> omega) | (split <;> omega) | (split <;> (first | omega | (simp <;> omega) | (simp at * <;> omega))))) (.cons (.same (by first | rfl | (simp only [T.ids, idsL, er_ids, List.append_nil, List.nil_append] <;> rfl))) .nil) .nil rfl (.ref rfl 1 0 ((id (slc (slc t01 2 (t01.length : Int)) 0 (orI (((t01.getD 0 0).toNat : Int) * 256) ((t01.getD 1 0).toNat : Int)))).length)) (.cons rfl (.same (mp_ids (g := (fun c : UInt8 => T.leaf (.int .u8 c.toNat))) (id (slc (slc t01 2 (t01.length : Int)) 0 (orI (((t01.getD 0 0).toNat : Int) * 256) ((t01.getD 1 0).toNat : Int)))) (fun _ => rfl))) .nil) : Meets Tryd.prog 37 [.sl 1 g_a0 (slc (slc t01 2 (t01.length : Int)) 0 (orI (((t01.getD 0 0).toNat : Int) * 256) ((t01.getD 1 0).toNat : Int))).length (u8s (slc (slc t01 2 (t01.length : Int)) 0 (orI (((t01.getD 0 0).toNat : Int) * 256) ((t01.getD 1 0).toNat : Int))))] [] [] (.ref 11 1 0 ((id (slc (slc t01 2 (t01.length : Int)) 0 (orI (((t01.getD 0 0).toNat : Int) * 256) ((t01.getD 1 0).toNat : Int)))).length)) [(11, u8s (id (slc (slc t01 2 (t01.length : Int)) 0 (orI (((t01.getD 0 0).toNat : Int) * 256) ((t01.getD 1 0).toNat : Int)))))]) rfl (mp_ids (g := (fun c : UInt8 => T.leaf (.int .u8 c.toNat))) _ (fun _ => rfl)) (by simp) : Meets Tryd.prog 37 [.sl 1 g_a0 (slc (slc t01 2 (t01.length : Int)) 0 (orI (((t01.getD 0 0).toNat : Int) * 256) ((t01.getD 1 0).toNat : Int))).length (u8s (slc (slc t01 2 (t01.length : Int)) 0 (orI (((t01.getD 0 0).toNat : Int) * 256) ((t01.getD 1 0).toNat : Int))))] [] [] (.sl 1 .shr (id (slc (slc t01 2 (t01.length : Int)) 0 (orI (((t01.getD 0 0).toNat : Int) * 256) ((t01.getD 1 0).toNat : Int)))).length (u8s (id (slc (slc t01 2 (t01.length : Int)) 0 (orI (((t01.getD 0 0).toNat : Int) * 256) ((t01.getD 1 0).toNat : Int)))))) []) (.cons (by first | rfl | (simp only [T.ids, idsL, er_ids, List.append_nil, List.nil_append]; rfl) : subN (idsL [.sl 1 g_a0 (slc (slc t01 2 (t01.length : Int)) 0 (orI (((t01.getD 0 0).toNat : Int) * 256) ((t01.getD 1 0).toNat : Int))).length (u8s (slc (slc t01 2 (t01.length : Int)) 0 (orI (((t01.getD 0 0).toNat : Int) * 256) ((t01.getD 1 0).toNat : Int))))]) [] = true) (.cons (Nat.le_of_ble_eq_true rfl : 0 + 1 * 1 ≤ ([.sl 1 .shr (id (slc (slc t01 2 (t01.length : Int)) 0 (orI (((t01.getD 0 0).toNat : Int) * 256) ((t01.getD 1 0).toNat : Int)))).length (u8s (id (slc (slc t01 2 (t01.length : Int)) 0 (orI (((t01.getD 0 0).toNat : Int) * 256) ((t01.getD 1 0).toNat : Int)))))] : List T).length) (.cons (by simp only [List.length_map]; omega : 0 + o1.length * 1 ≤ (b8s .shr o1).length) (.cons (rfl : scalL [.sl 1 .shr (id (slc (slc t01 2 (t01.length : Int)) 0 (orI (((t01.getD 0 0).toNat : Int) * 256) ((t01.getD 1 0).toNat : Int)))).length (u8s (id (slc (slc t01 2 (t01.length : Int)) 0 (orI (((t01.getD 0 0).toNat : Int) * 256) ((t01.getD 1 0).toNat : Int)))))] = true) (.cons (by first | omega | (simp <;> omega) | (simp at * <;> omega) | (split <;> omega) | (split <;> (first | omega | (simp <;> omega) | (simp at * <;> omega))) : (o1.length + 1) * 24 ≤ 140737488355328) (.cons (mp_app (g := (fun c : List UInt8 => tl .shr c)) (o1) [(id (slc (slc t01 2 (t01.length : Int)) 0 (orI (((t01.getD 0 0).toNat : Int) * 256) ((t01.getD 1 0).toNat : Int))))] rfl) (.cons (mp_mem (i := 10) (g := (fun c : List UInt8 => tl .shr c)) (o1 ++ [(id (slc (slc t01 2 (t01.length : Int)) 0 (orI (((t01.getD 0 0).toNat : Int) * 256) ((t01.getD 1 0).toNat : Int))))]) (fun _ => rfl)) (.cons (by first | rfl | (simp; done) | (refine congrArg (fun q => T.ref 10 1 0 q) ?_; simp <;> omega) : T.ref 10 1 0 (o1.length + 1) = .ref 10 1 0 ((o1 ++ [(id (slc (slc t01 2 (t01.length : Int)) 0 (orI (((t01.getD 0 0).toNat : Int) * 256) ((t01.getD 1 0).toNat : Int))))]).length)) (.cons (mp_mem (i := 12) (g := (fun c : List UInt8 => tl .shr c)) (o1 ++ [(id (slc (slc t01 2 (t01.length : Int)) 0 (orI (((t01.getD 0 0).toNat : Int) * 256) ((t01.getD 1 0).toNat : Int))))]) (fun _ => rfl)) .nil)))))))))))) ?_
                  clear hk; intro k hk
                  refine Go.bnd (Pf := (fun z : Lo (List UInt8 × List (List UInt8)) (List (List UInt8) × Int) => (PostX Γ wire_Decode_enc) (Lo.el z (fun z : List UInt8 × List (List UInt8) => wire_Decode_k1 z.1 z.2)))) (v := (id (slc (slc t01 2 (t01.length : Int)) 0 (orI (((t01.getD 0 0).toNat : Int) * 256) ((t01.getD 1 0).toNat : Int))))) (fun x1 => [(0, .sl 1 g_a0 (slc t01 2 (t01.length : Int)).length (u8s (slc t01 2 (t01.length : Int)))), (4, .ref 10 1 0 ((o1 ++ [x1]).length)), (6, ti (orI (((t01.getD 0 0).toNat : Int) * 256) ((t01.getD 1 0).toNat : Int))), (27, ti ((a0.getD 0 0).toNat : Int)), (28, ti t281)]) (fun x1 => [(10, b8s .shr (o1 ++ [x1]))]) ?_
                  intro x1 hx1
                  have gx1 : x1 = (slc (slc t01 2 (t01.length : Int)) 0 (orI (((t01.getD 0 0).toNat : Int) * 256) ((t01.getD 1 0).toNat : Int))) := hx1
                  refine Go.rx 20 { ws := [(2, { v := some (.sl 1 g_a0 (slc (slc t01 2 (t01.length : Int)) (orI (((t01.getD 0 0).toNat : Int) * 256) ((t01.getD 1 0).toNat : Int)) ((slc t01 2 (t01.length : Int)).length : Int)).length (u8s (slc (slc t01 2 (t01.length : Int)) (orI (((t01.getD 0 0).toNat : Int) * 256) ((t01.getD 1 0).toNat : Int)) ((slc t01 2 (t01.length : Int)).length : Int)))) })] } [] [0, 4, 27, 28] _ [(0, .sl 1 g_a0 (slc (slc t01 2 (t01.length : Int)) (orI (((t01.getD 0 0).toNat : Int) * 256) ((t01.getD 1 0).toNat : Int)) ((slc t01 2 (t01.length : Int)).length : Int)).length (u8s (slc (slc t01 2 (t01.length : Int)) (orI (((t01.getD 0 0).toNat : Int) * 256) ((t01.getD 1 0).toNat : Int)) ((slc t01 2 (t01.length : Int)).length : Int)))), (4, .ref 10 1 0 ((o1 ++ [x1]).length)), (27, ti ((a0.getD 0 0).toNat : Int)), (28, ti t281)] [(10, b8s .shr (o1 ++ [x1]))] hk rfl (by as_aux_lemma => kernel_rfl) (.cons (by first | omega | (simp <;> omega) | (simp at * <;> omega) | (split <;> omega) | (split <;> (first | omega | (simp <;> omega) | (simp at * <;> omega))) : 0 ≤ (orI (((t01.getD 0 0).toNat : Int) * 256) ((t01.getD 1 0).toNat : Int) : Int) ∧ (orI (((t01.getD 0 0).toNat : Int) * 256) ((t01.getD 1 0).toNat : Int) : Int) ≤ ((slc t01 2 (t01.length : Int)).length : Int) ∧ ((slc t01 2 (t01.length : Int)).length : Int) ≤ ((slc t01 2 (t01.length : Int)).length : Int) ∧ ((slc t01 2 (t01.length : Int)).length : Int) ≤ ((slc t01 2 (t01.length : Int)).length : Nat)) (.cons (sl_slc (t := g_a0) (g := (fun c : UInt8 => T.leaf (.int .u8 c.toNat))) (lo := orI (((t01.getD 0 0).toNat : Int) * 256) ((t01.getD 1 0).toNat : Int)) (hi := ((slc t01 2 (t01.length : Int)).length : Int)) (slc t01 2 (t01.length : Int)) (by first | omega | (simp <;> omega) | (simp at * <;> omega) | (split <;> omega) | (split <;> (first | omega | (simp <;> omega) | (simp at * <;> omega)))) rfl rfl) .nil)) ?_
                  clear hk; intro k hk
                  refine Go.rx 20 { ws := [(0, { v := some (ti (t281 + 1)) })] } [] [0, 4, 27, 28] _ [(0, .sl 1 g_a0 (slc (slc t01 2 (t01.length : Int)) (orI (((t01.getD 0 0).toNat : Int) * 256) ((t01.getD 1 0).toNat : Int)) ((slc t01 2 (t01.length : Int)).length : Int)).length (u8s (slc (slc t01 2 (t01.length : Int)) (orI (((t01.getD 0 0).toNat : Int) * 256) ((t01.getD 1 0).toNat : Int)) ((slc t01 2 (t01.length : Int)).length : Int)))), (4, .ref 10 1 0 ((o1 ++ [x1]).length)), (27, ti ((a0.getD 0 0).toNat : Int)), (28, ti (t281 + 1))] [(10, b8s .shr (o1 ++ [x1]))] hk rfl (by as_aux_lemma => kernel_rfl) (.cons trivial (.cons (iw (t281 + 1) (by first | omega | (simp <;> omega) | (simp at * <;> omega) | (split <;> omega) | (split <;> (first | omega | (simp <;> omega) | (simp at * <;> omega))))) .nil)) ?_
                  clear hk; intro k hk
                  exact Go.join 20 hk hl1 rfl (ihl1 (slc (slc t01 2 (t01.length : Int)) (orI (((t01.getD 0 0).toNat : Int) * 256) ((t01.getD 1 0).toNat : Int)) ((slc t01 2 (t01.length : Int)).length : Int)) (t281 + 1) (o1 ++ [x1]) (by first | omega | (simp <;> omega) | (simp at * <;> omega) | (split <;> omega) | (split <;> (first | omega | (simp <;> omega) | (simp at * <;> omega)))) (by first | omega | (simp <;> omega) | (simp at * <;> omega) | (split <;> omega) | (split <;> (first | omega | (simp <;> omega) | (simp at * <;> omega)))) (by first | omega | (simp <;> omega) | (simp at * <;> omega) | (split <;> omega) | (split <;> (first | omega | (simp <;> omega) | (simp at * <;> omega)))) (by first | omega | (simp <;> omega) | (simp at * <;> omega) | (split <;> omega) | (split <;> (first | omega | (simp <;> omega) | (simp at * <;> omega)))))
            · have ct4p := of_decide_eq_false ct4
              refine Go.keepN [0, 4] (L' := [(0, .sl 1 g_a0 t01.length (u8s t01)), (4, .ref 10 1 0 o1.length)]) rfl ?_
              exact Go.join 20 hk hxl1 rfl (Xl1 t01 o1)
        exact Ll1 _ (slc a0 1 (a0.length : Int)) 0 [] (by first | omega | rfl | (simp <;> omega)) (by first | omega | rfl | (simp <;> omega)) (by first | omega | rfl | (simp <;> omega)) (Nat.lt_succ_self _)
    · intro hk J
      rcases Bool.eq_false_or_eq_true ((a0.length : Int) == 0) with gd1 | gd1
      · have gd1p := eqIt gd1
        refine Go.rx 20 { ws := [(2, { v := some (tb true) })] } [] [0, 19] _ [(0, .sl 1 g_a0 a0.length (u8s a0)), (19, tb true)] [] hk rfl (by as_aux_lemma => kernel_rfl) (.cons trivial (.cons (eb gd1) .nil)) ?_
        intro k' hk'
        refine Go.slotEq 19 (tb (((a0.length : Int) == 0) || (decide ((a0.getD 0 0) > 16)))) rfl (eb (orT gd1).symm) ?_
        exact J k' hk'
      · have gd1p := eqIf gd1
        refine Go.rx 20 { ws := [(2, { v := some (tb false) }), (6, { v := some (t8 (a0.getD 0 0)) }), (7, { v := some (tb (decide ((a0.getD 0 0) > 16))) })] } [] [0, 19] _ [(0, .sl 1 g_a0 a0.length (u8s a0)), (19, tb (decide ((a0.getD 0 0) > 16)))] [] hk rfl (by as_aux_lemma => kernel_rfl) (.cons trivial (.cons (eb gd1) (.cons (by first | omega | (simp <;> omega) | (simp at * <;> omega) | (split <;> omega) | (split <;> (first | omega | (simp <;> omega) | (simp at * <;> omega))) : 0 ≤ (0 : Int) ∧ (0 : Int) < ((a0.length : Nat) : Int)) (.cons (part1 (by as_aux_lemma => kernel_rfl : (E.ti 5).agg = false) (mp_get (g := (fun c : UInt8 => T.leaf (.int .u8 c.toNat))) (k := 0) (n := 0) a0 (0 : UInt8) rfl (by first | omega | (simp <;> omega) | (simp at * <;> omega) | (split <;> omega) | (split <;> (first | omega | (simp <;> omega) | (simp at * <;> omega)))))) (.cons trivial (.cons (gtB8 (a0.getD 0 0) 16) .nil)))))) ?_
        intro k' hk'
        refine Go.slotEq 19 (tb (((a0.length : Int) == 0) || (decide ((a0.getD 0 0) > 16)))) rfl (eb (orF gd1 rfl).symm) ?_
        exact J k' hk'
theorem decode_l1 (a0 : List UInt8) : ∀ (m : Nat) (t : List UInt8) (i : Int) (o : List (List UInt8)), (o.length : Int) = i → i ≤ 255 → t.length ≤ 1024 → (∀ j : Nat, (o.getD j []).length ≤ 1024) →
    (Lo.el (wire_Decode_l1 a0 m t i o) (fun z => wire_Decode_k1 z.1 z.2)).1.length ≤ 255 ∧ ∀ j : Nat, ((Lo.el (wire_Decode_l1 a0 m t i o) (fun z => wire_Decode_k1 z.1 z.2)).1.getD j []).length ≤ 1024 := by
  intro m
  have hnil : (([] : List (List UInt8)) , (4 : Int)).1.length ≤ 255 ∧ ∀ j : Nat, ((([] : List (List UInt8)), (4 : Int)).1.getD j []).length ≤ 1024 := ⟨Nat.zero_le _, nil_le⟩
  induction m with
  | zero => intro t i o _ _ _ _; exact ⟨Nat.zero_le _, nil_le⟩
  | succ m ih =>
    intro t i o h0 h1 ht h2
    rw [wire_Decode_l1]
    by_cases c : i < ((a0.getD 0 0).toNat : Int)
    · rw [decide_eq_true c, cond_true]
      have := (a0.getD 0 0).toNat_lt
      cases decide ((t.length : Int) < 2) with
      | true => exact hnil
      | false =>
        rw [cond_false]
        cases decide (((slc t 2 (t.length : Int)).length : Int) < orI (((t.getD 0 0).toNat : Int) * 256) ((t.getD 1 0).toNat : Int)) with
        | true => exact hnil
        | false =>
          rw [cond_false, bnd_eq]
          refine ih _ _ _ ?_ (by omega) ?_ (app_le h2 (one_le ?_))
          · rw [List.length_append]; simp only [List.length_cons, List.length_nil]; omega
          · rw [slc_len, slc_len]; omega
          · show (slc _ _ _).length ≤ 1024
            rw [slc_len, slc_len]; omega
    · rw [decide_eq_false c, cond_false]
      show (wire_Decode_k1 t o).1.length ≤ 255 ∧ _
      show _ ∧ ∀ j : Nat, ((wire_Decode_k1 t o).1.getD j []).length ≤ 1024
      rw [wire_Decode_k1]
      cases decide ((t.length : Int) > 0) with
      | true => exact hnil
      | false => exact ⟨by show o.length ≤ 255; omega, h2⟩
theorem decode_fact (a0 : List UInt8) : (wire_Decode a0).1.length ≤ 255 ∧ ∀ j : Nat, ((wire_Decode a0).1.getD j []).length ≤ 1024 := by
  rw [wire_Decode]
  by_cases c : (a0.length : Int) > 1024
  · rw [decide_eq_true c, cond_true]; exact ⟨Nat.zero_le _, nil_le⟩
  · rw [decide_eq_false c, cond_false]
    cases ((a0.length : Int) == 0) || (decide ((a0.getD 0 0) > 16)) with
    | true => exact ⟨Nat.zero_le _, nil_le⟩
    | false => exact decode_l1 a0 _ _ _ _ rfl (by omega) (by rw [slc_len]; omega) nil_le

noncomputable def bursaryref31_Decode_k1 (a0 : List UInt8) (t1 : Int) (o2 : List (List UInt8)) : List (List UInt8) × Int :=
  bif t1 != (a0.length : Int) then
    ([], 4)
  else
    (o2, 0)
noncomputable def bursaryref31_Decode_l1 (a0 : List UInt8) : Nat → Int → Int → (List (List UInt8)) → Lo (Int × List (List UInt8)) (List (List UInt8) × Int)
  | 0, _, _, _ => .brk default
  | ml1 + 1, t51, t61, o1 =>
    bif decide (t61 < ((a0.getD 0 0).toNat : Int)) then
      bif (decide ((a0.length : Int) - t51 < 2)) || (decide (((a0.length : Int) - t51) - 2 < 256 * ((a0.getD t51.toNat 0).toNat : Int) + ((a0.getD ((t51 + 1).toNat) 0).toNat : Int))) then
        Lo.ret ([], 4)
      else
        bursaryref31_Decode_l1 a0 ml1 (t51 + 2 + (256 * ((a0.getD t51.toNat 0).toNat : Int) + ((a0.getD ((t51 + 1).toNat) 0).toNat : Int))) (t61 + 1) (o1 ++ [slc a0 (t51 + 2) (t51 + 2 + (256 * ((a0.getD t51.toNat 0).toNat : Int) + ((a0.getD ((t51 + 1).toNat) 0).toNat : Int)))])
    else
      Lo.brk (t51, o1)
noncomputable def bursaryref31_Decode (a0 : List UInt8) : List (List UInt8) × Int :=
  bif decide ((a0.length : Int) > 1024) then
    ([], 3)
  else
    bif (decide ((a0.length : Int) < 1)) || (decide ((a0.getD 0 0) > 16)) then
      ([], 4)
    else
      Lo.el (bursaryref31_Decode_l1 a0 ((((a0.getD 0 0).toNat : Int) - (0 : Int)).toNat + 1) 1 0 []) (fun z : Int × List (List UInt8) => bursaryref31_Decode_k1 a0 z.1 z.2)
def bursaryref31_Decode_enc (x : List (List UInt8) × Int) : T × List (Nat × List T) := (.tup [.sl 1 .shr x.1.length (b8s .shr x.1), ti x.2], [])
theorem bursaryref31_Decode_m (a0 : List UInt8) : Meets Tryd.prog 33 [.sl 1 .shr a0.length (u8s a0)] [] [] (.tup [.sl 1 .shr ((bursaryref31_Decode a0).1).length (b8s .shr ((bursaryref31_Decode a0).1)), ti ((bursaryref31_Decode a0).2)]) [] := by
  refine Meets.enterX (E := E) (N := 87) (enc := bursaryref31_Decode_enc) (x := (bursaryref31_Decode a0)) Tryd.func33 Tryd.call33 rfl rfl ?_
  intro Γ k hk
  refine Go.rx 20 {} [] [0] _ [(0, .sl 1 .shr a0.length (u8s a0))] [] hk rfl (by as_aux_lemma => kernel_rfl) .nil ?_
  clear hk; intro k hk
  refine Go.rx 20 {} [] [0, 10] _ [(0, .sl 1 .shr a0.length (u8s a0)), (10, tb (decide ((a0.length : Int) > 1024)))] [] hk rfl (by as_aux_lemma => kernel_rfl) (.cons trivial .nil) ?_
  clear hk; intro k hk
  refine Go.br 20 (Pf := (PostX Γ bursaryref31_Decode_enc)) hk rfl rfl ?_ ?_ <;> clear hk <;> intro ct1 k hk
  · have ct1p := of_decide_eq_true ct1
    refine Go.rx 20 {} [] [2, 3] _ [(2, .leaf (.slice none 0 0)), (3, ti 3)] [] hk rfl (by as_aux_lemma => kernel_rfl) .nil ?_
    clear hk; intro k hk
    exact Go.lvx 20 [] _ [.leaf (.slice none 0 0), ti 3] Tryd.func33 hk rfl (by as_aux_lemma => kernel_rfl) .nil (T.Le.tup (.cons (T.Le.nil _ _) (.cons (T.Le.of_eq rfl) .nil))) rfl rfl .nil
  · have ct1p := of_decide_eq_false ct1
    refine Go.regJ 20 [(0, .sl 1 .shr a0.length (u8s a0)), (19, tb ((decide ((a0.length : Int) < 1)) || (decide ((a0.getD 0 0) > 16))))] [] hk rfl ?_ ?_
    · clear hk; intro k hk
      refine Go.br 20 (Pf := (PostX Γ bursaryref31_Decode_enc)) hk rfl rfl ?_ ?_ <;> clear hk <;> intro ct2 k hk
      · refine Go.rx 20 {} [] [2, 3] _ [(2, .leaf (.slice none 0 0)), (3, ti 4)] [] hk rfl (by as_aux_lemma => kernel_rfl) .nil ?_
        clear hk; intro k hk
        exact Go.lvx 20 [] _ [.leaf (.slice none 0 0), ti 4] Tryd.func33 hk rfl (by as_aux_lemma => kernel_rfl) .nil (T.Le.tup (.cons (T.Le.nil _ _) (.cons (T.Le.of_eq rfl) .nil))) rfl rfl .nil
      · have ct21 : (decide ((a0.length : Int) < 1)) = false := (Bool.or_eq_false_iff.1 ct2).1
        have ct22 : (decide ((a0.getD 0 0) > 16)) = false := (Bool.or_eq_false_iff.1 ct2).2
        have ct21p := of_decide_eq_false ct21
        refine Go.rx 20 {} [] [0, 4] _ [(0, .sl 1 .shr a0.length (u8s a0)), (4, .leaf (.slice none 0 0))] [] hk rfl (by as_aux_lemma => kernel_rfl) .nil ?_
        clear hk; intro k hk
        refine Go.rx 20 {} [] [0, 4, 5] _ [(0, .sl 1 .shr a0.length (u8s a0)), (4, .leaf (.slice none 0 0)), (5, ti 1)] [] hk rfl (by as_aux_lemma => kernel_rfl) .nil ?_
        clear hk; intro k hk
        refine Go.rx 20 {} [] [0, 4, 5, 6] _ [(0, .sl 1 .shr a0.length (u8s a0)), (4, .leaf (.slice none 0 0)), (5, ti 1), (6, ti 0)] [] hk rfl (by as_aux_lemma => kernel_rfl) .nil ?_
        clear hk; intro k hk
        refine Go.phn 4 10 1 rfl (.inl rfl) rfl rfl ?_
        refine Go.loopX 20 hk rfl ?_
        clear hk; intro kl1 kxl1 hl1 hxl1
        have Xl1 : ∀ (t1 : Int) (o2 : List (List UInt8)), Go E Γ 33 87 [] ((PostX Γ bursaryref31_Decode_enc) (bursaryref31_Decode_k1 a0 t1 o2)) kxl1 (stL [(0, .sl 1 .shr a0.length (u8s a0)), (4, .ref 10 1 0 o2.length), (5, ti t1)] [(10, b8s .shr o2)]) := by
          intro t1 o2
          refine Go.rx 20 {} [] [4, 85] _ [(4, .ref 10 1 0 o2.length), (85, tb (t1 != (a0.length : Int)))] [(10, b8s .shr o2)] hxl1 rfl (by as_aux_lemma => kernel_rfl) (.cons trivial .nil) ?_
          clear hxl1; intro kxl1 hxl1
          refine Go.br 20 (Pf := (PostX Γ bursaryref31_Decode_enc)) hxl1 rfl rfl ?_ ?_ <;> clear hxl1 <;> intro ct3 kxl1 hxl1
          · have ct3p := neIt ct3
            refine Go.rx 20 {} [10] [2, 3] _ [(2, .leaf (.slice none 0 0)), (3, ti 4)] [] hxl1 rfl (by as_aux_lemma => kernel_rfl) .nil ?_
            clear hxl1; intro kxl1 hxl1
            exact Go.lvx 20 [] _ [.leaf (.slice none 0 0), ti 4] Tryd.func33 hxl1 rfl (by as_aux_lemma => kernel_rfl) .nil (T.Le.tup (.cons (T.Le.nil _ _) (.cons (T.Le.of_eq rfl) .nil))) rfl rfl .nil
          · have ct3p := neIf ct3
            refine Go.rx 20 {} [] [2, 3] _ [(2, .ref 10 1 0 o2.length), (3, ti 0)] [(10, b8s .shr o2)] hxl1 rfl (by as_aux_lemma => kernel_rfl) .nil ?_
            clear hxl1; intro kxl1 hxl1
            refine Go.frz [] [] 2 10 (b8s .shr o2) _ [(2, .dead), (3, ti 0)] [] rfl rfl (mp_ids (g := (fun c : List UInt8 => tl .shr c)) o2 (fun _ => rfl)) (by simp only [List.length_map]; omega) (mp_all o2) (by as_aux_lemma => kernel_rfl) .nil ?_
            exact Go.lvx 20 [] _ [.sl 1 .shr o2.length (b8s .shr o2), ti 0] Tryd.func33 hxl1 rfl (by as_aux_lemma => kernel_rfl) .nil (T.Le.tup (.cons (T.Le.of_eq rfl) (.cons (T.Le.of_eq rfl) .nil))) rfl rfl .nil
        have Ll1 : ∀ (ml1 : Nat) (t51 : Int) (t61 : Int) (o1 : List (List UInt8)), (0 ≤ t51) → (t51 ≤ (a0.length : Int)) → (0 ≤ t61) → ((o1.length : Int) = t61) → ((((a0.getD 0 0).toNat : Int) - t61).toNat < ml1) → Go E Γ 33 87 [] ((PostX Γ bursaryref31_Decode_enc) (Lo.el (bursaryref31_Decode_l1 a0 ml1 t51 t61 o1) (fun z : Int × List (List UInt8) => bursaryref31_Decode_k1 a0 z.1 z.2))) kl1 (stL [(0, .sl 1 .shr a0.length (u8s a0)), (4, .ref 10 1 0 o1.length), (5, ti t51), (6, ti t61)] [(10, b8s .shr o1)]) := by
          intro ml1
          induction ml1 with
          | zero => intro t51 t61 o1 i0l1 i1l1 i2l1 i3l1 hml1; exact absurd hml1 (Nat.not_lt_zero _)
          | succ ml1 ihl1 =>
            intro t51 t61 o1 i0l1 i1l1 i2l1 i3l1 hml1
            rw [bursaryref31_Decode_l1]
            refine Go.round hl1 ?_
            intro k hk
            have := lt8 (a0.getD 0 0)
            refine Go.rx 20 { ws := [(3, { v := some (t8 (a0.getD 0 0)) }), (4, { v := some (ti ((a0.getD 0 0).toNat : Int)) })] } [] [0, 4, 5, 6, 25] _ [(0, .sl 1 .shr a0.length (u8s a0)), (4, .ref 10 1 0 o1.length), (5, ti t51), (6, ti t61), (25, tb (decide (t61 < ((a0.getD 0 0).toNat : Int))))] [(10, b8s .shr o1)] hk rfl (by as_aux_lemma => kernel_rfl) (.cons (by first | omega | (simp <;> omega) | (simp at * <;> omega) | (split <;> omega) | (split <;> (first | omega | (simp <;> omega) | (simp at * <;> omega))) : 0 ≤ (0 : Int) ∧ (0 : Int) < ((a0.length : Nat) : Int)) (.cons (part1 (by as_aux_lemma => kernel_rfl : (E.ti 5).agg = false) (mp_get (g := (fun c : UInt8 => T.leaf (.int .u8 c.toNat))) (k := 0) (n := 0) a0 (0 : UInt8) rfl (by first | omega | (simp <;> omega) | (simp at * <;> omega) | (split <;> omega) | (split <;> (first | omega | (simp <;> omega) | (simp at * <;> omega)))))) (.cons (cv8_i (a0.getD 0 0)) (.cons trivial .nil)))) ?_
            clear hk; intro k hk
            refine Go.br 20 (Pf := (fun z : Lo (Int × List (List UInt8)) (List (List UInt8) × Int) => (PostX Γ bursaryref31_Decode_enc) (Lo.el z (fun z : Int × List (List UInt8) => bursaryref31_Decode_k1 a0 z.1 z.2)))) hk rfl rfl ?_ ?_ <;> clear hk <;> intro ct4 k hk
            · have ct4p := of_decide_eq_true ct4
              refine Go.regJ 20 [(0, .sl 1 .shr a0.length (u8s a0)), (4, .ref 10 1 0 o1.length), (5, ti t51), (6, ti t61), (53, tb ((decide ((a0.length : Int) - t51 < 2)) || (decide (((a0.length : Int) - t51) - 2 < 256 * ((a0.getD t51.toNat 0).toNat : Int) + ((a0.getD ((t51 + 1).toNat) 0).toNat : Int)))))] [(10, b8s .shr o1)] hk rfl ?_ ?_
              · clear hk; intro k hk
                refine Go.br 20 (Pf := (fun z : Lo (Int × List (List UInt8)) (List (List UInt8) × Int) => (PostX Γ bursaryref31_Decode_enc) (Lo.el z (fun z : Int × List (List UInt8) => bursaryref31_Decode_k1 a0 z.1 z.2)))) hk rfl rfl ?_ ?_ <;> clear hk <;> intro ct5 k hk
                · refine Go.rx 20 {} [10] [2, 3] _ [(2, .leaf (.slice none 0 0)), (3, ti 4)] [] hk rfl (by as_aux_lemma => kernel_rfl) .nil ?_
                  clear hk; intro k hk
                  exact Go.lvx 20 [] _ [.leaf (.slice none 0 0), ti 4] Tryd.func33 hk rfl (by as_aux_lemma => kernel_rfl) .nil (T.Le.tup (.cons (T.Le.nil _ _) (.cons (T.Le.of_eq rfl) .nil))) rfl rfl .nil
                · have ct51 : (decide ((a0.length : Int) - t51 < 2)) = false := (Bool.or_eq_false_iff.1 ct5).1
                  have ct52 : (decide (((a0.length : Int) - t51) - 2 < 256 * ((a0.getD t51.toNat 0).toNat : Int) + ((a0.getD ((t51 + 1).toNat) 0).toNat : Int))) = false := (Bool.or_eq_false_iff.1 ct5).2
                  have ct51p := of_decide_eq_false ct51
                  have ct52p := of_decide_eq_false ct52
                  have := lt8 (a0.getD t51.toNat 0)
                  have := lt8 (a0.getD ((t51 + 1).toNat) 0)
                  refine Go.dx 20 [0, 1, 2, 3, 4, 5, 6, 7, 8, 9, 10, 11, 12, 13] { ws := [(3, { v := some (t8 (a0.getD t51.toNat 0)) }), (4, { v := some (ti ((a0.getD t51.toNat 0).toNat : Int)) }), (5, { v := some (ti (256 * ((a0.getD t51.toNat 0).toNat : Int))) }), (8, { v := some (ti (t51 + 1)) }), (10, { v := some (t8 (a0.getD ((t51 + 1).toNat) 0)) }), (11, { v := some (ti ((a0.getD ((t51 + 1).toNat) 0).toNat : Int)) }), (12, { v := some (ti (256 * ((a0.getD t51.toNat 0).toNat : Int) + ((a0.getD ((t51 + 1).toNat) 0).toNat : Int))) })] } [] [0, 4, 5, 6, 7] _ [(0, .sl 1 .shr a0.length (u8s a0)), (4, .ref 10 1 0 o1.length), (5, ti t51), (6, ti t61), (7, ti (256 * ((a0.getD t51.toNat 0).toNat : Int) + ((a0.getD ((t51 + 1).toNat) 0).toNat : Int)))] [(10, b8s .shr o1)] hk rfl (by as_aux_lemma => kernel_rfl) (.cons (by first | omega | (simp <;> omega) | (simp at * <;> omega) | (split <;> omega) | (split <;> (first | omega | (simp <;> omega) | (simp at * <;> omega))) : 0 ≤ (t51 : Int) ∧ (t51 : Int) < ((a0.length : Nat) : Int)) (.cons (part1 (by as_aux_lemma => kernel_rfl : (E.ti 5).agg = false) (mp_get (g := (fun c : UInt8 => T.leaf (.int .u8 c.toNat))) (k := t51.toNat * 1) (n := t51.toNat) a0 (0 : UInt8) (by omega) (by first | omega | (simp <;> omega) | (simp at * <;> omega) | (split <;> omega) | (split <;> (first | omega | (simp <;> omega) | (simp at * <;> omega)))))) (.cons (cv8_i (a0.getD t51.toNat 0)) (.cons trivial (.cons (iw (256 * ((a0.getD t51.toNat 0).toNat : Int)) (by first | omega | (simp <;> omega) | (simp at * <;> omega) | (split <;> omega) | (split <;> (first | omega | (simp <;> omega) | (simp at * <;> omega))))) (.cons trivial (.cons (iw (t51 + 1) (by first | omega | (simp <;> omega) | (simp at * <;> omega) | (split <;> omega) | (split <;> (first | omega | (simp <;> omega) | (simp at * <;> omega))))) (.cons (by first | omega | (simp <;> omega) | (simp at * <;> omega) | (split <;> omega) | (split <;> (first | omega | (simp <;> omega) | (simp at * <;> omega))) : 0 ≤ (t51 + 1 : Int) ∧ (t51 + 1 : Int) < ((a0.length : Nat) : Int)) (.cons (part1 (by as_aux_lemma => kernel_rfl : (E.ti 5).agg = false) (mp_get (g := (fun c : UInt8 => T.leaf (.int .u8 c.toNat))) (k := (t51 + 1).toNat * 1) (n := (t51 + 1).toNat) a0 (0 : UInt8) (by omega) (by first | omega | (simp <;> omega) | (simp at * <;> omega) | (split <;> omega) | (split <;> (first | omega | (simp <;> omega) | (simp at * <;> omega)))))) (.cons (cv8_i (a0.getD ((t51 + 1).toNat) 0)) (.cons trivial (.cons (iw (256 * ((a0.getD t51.toNat 0).toNat : Int) + ((a0.getD ((t51 + 1).toNat) 0).toNat : Int)) (by first | omega | (simp <;> omega) | (simp at * <;> omega) | (split <;> omega) | (split <;> (first | omega | (simp <;> omega) | (simp at * <;> omega))))) .nil)))))))))))) ?_
                  clear hk; intro k hk
                  refine Go.rx 20 { ws := [(3, { v := some (ti (t51 + 2)) }), (5, { v := some (ti (t51 + 2)) }), (7, { v := some (ti (t51 + 2 + (256 * ((a0.getD t51.toNat 0).toNat : Int) + ((a0.getD ((t51 + 1).toNat) 0).toNat : Int)))) }), (8, { v := some (.sl 1 .shr (slc a0 (t51 + 2) (t51 + 2 + (256 * ((a0.getD t51.toNat 0).toNat : Int) + ((a0.getD ((t51 + 1).toNat) 0).toNat : Int)))).length (u8s (slc a0 (t51 + 2) (t51 + 2 + (256 * ((a0.getD t51.toNat 0).toNat : Int) + ((a0.getD ((t51 + 1).toNat) 0).toNat : Int)))))) }), (9, { id := 11 }), (10, { v := some (.ref 10 1 0 ((o1 ++ [slc a0 (t51 + 2) (t51 + 2 + (256 * ((a0.getD t51.toNat 0).toNat : Int) + ((a0.getD ((t51 + 1).toNat) 0).toNat : Int)))]).length)), c := some (b8s .shr (o1 ++ [slc a0 (t51 + 2) (t51 + 2 + (256 * ((a0.getD t51.toNat 0).toNat : Int) + ((a0.getD ((t51 + 1).toNat) 0).toNat : Int)))])), id := 10, sym := true })], pg := [10] } [11] [0, 4, 5, 6, 7] _ [(0, .sl 1 .shr a0.length (u8s a0)), (4, .ref 10 1 0 ((o1 ++ [slc a0 (t51 + 2) (t51 + 2 + (256 * ((a0.getD t51.toNat 0).toNat : Int) + ((a0.getD ((t51 + 1).toNat) 0).toNat : Int)))]).length)), (5, ti t51), (6, ti t61), (7, ti (256 * ((a0.getD t51.toNat 0).toNat : Int) + ((a0.getD ((t51 + 1).toNat) 0).toNat : Int)))] [(10, b8s .shr (o1 ++ [slc a0 (t51 + 2) (t51 + 2 + (256 * ((a0.getD t51.toNat 0).toNat : Int) + ((a0.getD ((t51 + 1).toNat) 0).toNat : Int)))]))] hk rfl (by as_aux_lemma => kernel_rfl) (.cons trivial (.cons (iw (t51 + 2) (by first | omega | (simp <;> omega) | (simp at * <;> omega) | (split <;> omega) | (split <;> (first | omega | (simp <;> omega) | (simp at * <;> omega))))) (.cons trivial (.cons (iw (t51 + 2) (by first | omega | (simp <;> omega) | (simp at * <;> omega) | (split <;> omega) | (split <;> (first | omega | (simp <;> omega) | (simp at * <;> omega))))) (.cons trivial (.cons (iw (t51 + 2 + (256 * ((a0.getD t51.toNat 0).toNat : Int) + ((a0.getD ((t51 + 1).toNat) 0).toNat : Int))) (by first | omega | (simp <;> omega) | (simp at * <;> omega) | (split <;> omega) | (split <;> (first | omega | (simp <;> omega) | (simp at * <;> omega))))) (.cons (by first | omega | (simp <;> omega) | (simp at * <;> omega) | (split <;> omega) | (split <;> (first | omega | (simp <;> omega) | (simp at * <;> omega))) : 0 ≤ (t51 + 2 : Int) ∧ (t51 + 2 : Int) ≤ t51 + 2 + (256 * ((a0.getD t51.toNat 0).toNat : Int) + ((a0.getD ((t51 + 1).toNat) 0).toNat : Int)) ∧ t51 + 2 + (256 * ((a0.getD t51.toNat 0).toNat : Int) + ((a0.getD ((t51 + 1).toNat) 0).toNat : Int)) ≤ (a0.length : Int) ∧ (a0.length : Int) ≤ (a0.length : Nat)) (.cons (sl_slc (t := .shr) (g := (fun c : UInt8 => T.leaf (.int .u8 c.toNat))) (lo := t51 + 2) (hi := t51 + 2 + (256 * ((a0.getD t51.toNat 0).toNat : Int) + ((a0.getD ((t51 + 1).toNat) 0).toNat : Int))) a0 (by first | omega | (simp <;> omega) | (simp at * <;> omega) | (split <;> omega) | (split <;> (first | omega | (simp <;> omega) | (simp at * <;> omega)))) rfl rfl) (.cons (Nat.le_of_ble_eq_true rfl : 0 + 1 * 1 ≤ ([.sl 1 .shr (slc a0 (t51 + 2) (t51 + 2 + (256 * ((a0.getD t51.toNat 0).toNat : Int) + ((a0.getD ((t51 + 1).toNat) 0).toNat : Int)))).length (u8s (slc a0 (t51 + 2) (t51 + 2 + (256 * ((a0.getD t51.toNat 0).toNat : Int) + ((a0.getD ((t51 + 1).toNat) 0).toNat : Int)))))] : List T).length) (.cons (by simp only [List.length_map]; omega : 0 + o1.length * 1 ≤ (b8s .shr o1).length) (.cons (rfl : scalL [.sl 1 .shr (slc a0 (t51 + 2) (t51 + 2 + (256 * ((a0.getD t51.toNat 0).toNat : Int) + ((a0.getD ((t51 + 1).toNat) 0).toNat : Int)))).length (u8s (slc a0 (t51 + 2) (t51 + 2 + (256 * ((a0.getD t51.toNat 0).toNat : Int) + ((a0.getD ((t51 + 1).toNat) 0).toNat : Int)))))] = true) (.cons (by first | omega | (simp <;> omega) | (simp at * <;> omega) | (split <;> omega) | (split <;> (first | omega | (simp <;> omega) | (simp at * <;> omega))) : (o1.length + 1) * 24 ≤ 140737488355328) (.cons (mp_app (g := (fun c : List UInt8 => tl .shr c)) (o1) [slc a0 (t51 + 2) (t51 + 2 + (256 * ((a0.getD t51.toNat 0).toNat : Int) + ((a0.getD ((t51 + 1).toNat) 0).toNat : Int)))] rfl) (.cons (mp_mem (i := 10) (g := (fun c : List UInt8 => tl .shr c)) (o1 ++ [slc a0 (t51 + 2) (t51 + 2 + (256 * ((a0.getD t51.toNat 0).toNat : Int) + ((a0.getD ((t51 + 1).toNat) 0).toNat : Int)))]) (fun _ => rfl)) (.cons (by first | rfl | (simp; done) | (refine congrArg (fun q => T.ref 10 1 0 q) ?_; simp <;> omega) : T.ref 10 1 0 (o1.length + 1) = .ref 10 1 0 ((o1 ++ [slc a0 (t51 + 2) (t51 + 2 + (256 * ((a0.getD t51.toNat 0).toNat : Int) + ((a0.getD ((t51 + 1).toNat) 0).toNat : Int)))]).length)) (.cons (mp_mem (i := 11) (g := (fun c : List UInt8 => tl .shr c)) (o1 ++ [slc a0 (t51 + 2) (t51 + 2 + (256 * ((a0.getD t51.toNat 0).toNat : Int) + ((a0.getD ((t51 + 1).toNat) 0).toNat : Int)))]) (fun _ => rfl)) .nil)))))))))))))))) ?_
                  clear hk; intro k hk
                  refine Go.rx 20 { ws := [(1, { v := some (ti (t51 + 2)) }), (3, { v := some (ti (t51 + 2 + (256 * ((a0.getD t51.toNat 0).toNat : Int) + ((a0.getD ((t51 + 1).toNat) 0).toNat : Int)))) })] } [] [0, 4, 5, 6] _ [(0, .sl 1 .shr a0.length (u8s a0)), (4, .ref 10 1 0 ((o1 ++ [slc a0 (t51 + 2) (t51 + 2 + (256 * ((a0.getD t51.toNat 0).toNat : Int) + ((a0.getD ((t51 + 1).toNat) 0).toNat : Int)))]).length)), (5, ti (t51 + 2 + (256 * ((a0.getD t51.toNat 0).toNat : Int) + ((a0.getD ((t51 + 1).toNat) 0).toNat : Int)))), (6, ti t61)] [(10, b8s .shr (o1 ++ [slc a0 (t51 + 2) (t51 + 2 + (256 * ((a0.getD t51.toNat 0).toNat : Int) + ((a0.getD ((t51 + 1).toNat) 0).toNat : Int)))]))] hk rfl (by as_aux_lemma => kernel_rfl) (.cons trivial (.cons (iw (t51 + 2) (by first | omega | (simp <;> omega) | (simp at * <;> omega) | (split <;> omega) | (split <;> (first | omega | (simp <;> omega) | (simp at * <;> omega))))) (.cons trivial (.cons (iw (t51 + 2 + (256 * ((a0.getD t51.toNat 0).toNat : Int) + ((a0.getD ((t51 + 1).toNat) 0).toNat : Int))) (by first | omega | (simp <;> omega) | (simp at * <;> omega) | (split <;> omega) | (split <;> (first | omega | (simp <;> omega) | (simp at * <;> omega))))) .nil)))) ?_
                  clear hk; intro k hk
                  refine Go.rx 20 { ws := [(1, { v := some (ti (t61 + 1)) })] } [] [0, 4, 5, 6] _ [(0, .sl 1 .shr a0.length (u8s a0)), (4, .ref 10 1 0 ((o1 ++ [slc a0 (t51 + 2) (t51 + 2 + (256 * ((a0.getD t51.toNat 0).toNat : Int) + ((a0.getD ((t51 + 1).toNat) 0).toNat : Int)))]).length)), (5, ti (t51 + 2 + (256 * ((a0.getD t51.toNat 0).toNat : Int) + ((a0.getD ((t51 + 1).toNat) 0).toNat : Int)))), (6, ti (t61 + 1))] [(10, b8s .shr (o1 ++ [slc a0 (t51 + 2) (t51 + 2 + (256 * ((a0.getD t51.toNat 0).toNat : Int) + ((a0.getD ((t51 + 1).toNat) 0).toNat : Int)))]))] hk rfl (by as_aux_lemma => kernel_rfl) (.cons trivial (.cons (iw (t61 + 1) (by first | omega | (simp <;> omega) | (simp at * <;> omega) | (split <;> omega) | (split <;> (first | omega | (simp <;> omega) | (simp at * <;> omega))))) .nil)) ?_
                  clear hk; intro k hk
                  exact Go.join 20 hk hl1 rfl (ihl1 (t51 + 2 + (256 * ((a0.getD t51.toNat 0).toNat : Int) + ((a0.getD ((t51 + 1).toNat) 0).toNat : Int))) (t61 + 1) (o1 ++ [slc a0 (t51 + 2) (t51 + 2 + (256 * ((a0.getD t51.toNat 0).toNat : Int) + ((a0.getD ((t51 + 1).toNat) 0).toNat : Int)))]) (by first | omega | (simp <;> omega) | (simp at * <;> omega) | (split <;> omega) | (split <;> (first | omega | (simp <;> omega) | (simp at * <;> omega)))) (by first | omega | (simp <;> omega) | (simp at * <;> omega) | (split <;> omega) | (split <;> (first | omega | (simp <;> omega) | (simp at * <;> omega)))) (by first | omega | (simp <;> omega) | (simp at * <;> omega) | (split <;> omega) | (split <;> (first | omega | (simp <;> omega) | (simp at * <;> omega)))) (by first | omega | (simp <;> omega) | (simp at * <;> omega) | (split <;> omega) | (split <;> (first | omega | (simp <;> omega) | (simp at * <;> omega)))) (by first | omega | (simp <;> omega) | (simp at * <;> omega) | (split <;> omega) | (split <;> (first | omega | (simp <;> omega) | (simp at * <;> omega)))))
              · intro hk J
                rcases Bool.eq_false_or_eq_true (decide ((a0.length : Int) - t51 < 2)) with gd2 | gd2
                · have gd2p := of_decide_eq_true gd2
                  refine Go.dx 20 [0, 1, 2, 3, 4, 5, 6, 7, 8, 9, 10, 11, 12, 13, 14, 15, 16, 17, 18, 19, 20, 21, 22, 23, 24, 25] { ws := [(3, { v := some (ti ((a0.length : Int) - t51)) }), (4, { v := some (tb true) })] } [] [0, 4, 5, 6, 53] _ [(0, .sl 1 .shr a0.length (u8s a0)), (4, .ref 10 1 0 o1.length), (5, ti t51), (6, ti t61), (53, tb true)] [(10, b8s .shr o1)] hk rfl (by as_aux_lemma => kernel_rfl) (.cons trivial (.cons (iw ((a0.length : Int) - t51) (by first | omega | (simp <;> omega) | (simp at * <;> omega) | (split <;> omega) | (split <;> (first | omega | (simp <;> omega) | (simp at * <;> omega))))) (.cons trivial (.cons (eb gd2) .nil)))) ?_
                  intro k' hk'
                  refine Go.slotEq 53 (tb ((decide ((a0.length : Int) - t51 < 2)) || (decide (((a0.length : Int) - t51) - 2 < 256 * ((a0.getD t51.toNat 0).toNat : Int) + ((a0.getD ((t51 + 1).toNat) 0).toNat : Int))))) rfl (eb (orT gd2).symm) ?_
                  exact J k' hk'
                · have gd2p := of_decide_eq_false gd2
                  have := lt8 (a0.getD t51.toNat 0)
                  have := lt8 (a0.getD ((t51 + 1).toNat) 0)
                  refine Go.dx 20 [0, 1, 2, 3, 4, 5, 6, 7, 8, 9, 10, 11, 12, 13, 14, 15, 16, 17, 18, 19, 20, 21, 22, 23, 24, 25] { ws := [(3, { v := some (ti ((a0.length : Int) - t51)) }), (4, { v := some (tb false) }), (9, { v := some (ti ((a0.length : Int) - t51)) }), (10, { v := some (ti (((a0.length : Int) - t51) - 2)) }), (14, { v := some (t8 (a0.getD t51.toNat 0)) }), (15, { v := some (ti ((a0.getD t51.toNat 0).toNat : Int)) }), (16, { v := some (ti (256 * ((a0.getD t51.toNat 0).toNat : Int))) }), (19, { v := some (ti (t51 + 1)) }), (21, { v := some (t8 (a0.getD ((t51 + 1).toNat) 0)) }), (22, { v := some (ti ((a0.getD ((t51 + 1).toNat) 0).toNat : Int)) }), (23, { v := some (ti (256 * ((a0.getD t51.toNat 0).toNat : Int) + ((a0.getD ((t51 + 1).toNat) 0).toNat : Int))) })] } [] [0, 4, 5, 6, 53] _ [(0, .sl 1 .shr a0.length (u8s a0)), (4, .ref 10 1 0 o1.length), (5, ti t51), (6, ti t61), (53, tb (decide (((a0.length : Int) - t51) - 2 < 256 * ((a0.getD t51.toNat 0).toNat : Int) + ((a0.getD ((t51 + 1).toNat) 0).toNat : Int))))] [(10, b8s .shr o1)] hk rfl (by as_aux_lemma => kernel_rfl) (.cons trivial (.cons (iw ((a0.length : Int) - t51) (by first | omega | (simp <;> omega) | (simp at * <;> omega) | (split <;> omega) | (split <;> (first | omega | (simp <;> omega) | (simp at * <;> omega))))) (.cons trivial (.cons (eb gd2) (.cons trivial (.cons (iw ((a0.length : Int) - t51) (by first | omega | (simp <;> omega) | (simp at * <;> omega) | (split <;> omega) | (split <;> (first | omega | (simp <;> omega) | (simp at * <;> omega))))) (.cons trivial (.cons (iw (((a0.length : Int) - t51) - 2) (by first | omega | (simp <;> omega) | (simp at * <;> omega) | (split <;> omega) | (split <;> (first | omega | (simp <;> omega) | (simp at * <;> omega))))) (.cons (by first | omega | (simp <;> omega) | (simp at * <;> omega) | (split <;> omega) | (split <;> (first | omega | (simp <;> omega) | (simp at * <;> omega))) : 0 ≤ (t51 : Int) ∧ (t51 : Int) < ((a0.length : Nat) : Int)) (.cons (part1 (by as_aux_lemma => kernel_rfl : (E.ti 5).agg = false) (mp_get (g := (fun c : UInt8 => T.leaf (.int .u8 c.toNat))) (k := t51.toNat * 1) (n := t51.toNat) a0 (0 : UInt8) (by omega) (by first | omega | (simp <;> omega) | (simp at * <;> omega) | (split <;> omega) | (split <;> (first | omega | (simp <;> omega) | (simp at * <;> omega)))))) (.cons (cv8_i (a0.getD t51.toNat 0)) (.cons trivial (.cons (iw (256 * ((a0.getD t51.toNat 0).toNat : Int)) (by first | omega | (simp <;> omega) | (simp at * <;> omega) | (split <;> omega) | (split <;> (first | omega | (simp <;> omega) | (simp at * <;> omega))))) (.cons trivial (.cons (iw (t51 + 1) (by first | omega | (simp <;> omega) | (simp at * <;> omega) | (split <;> omega) | (split <;> (first | omega | (simp <;> omega) | (simp at * <;> omega))))) (.cons (by first | omega | (simp <;> omega) | (simp at * <;> omega) | (split <;> omega) | (split <;> (first | omega | (simp <;> omega) | (simp at * <;> omega))) : 0 ≤ (t51 + 1 : Int) ∧ (t51 + 1 : Int) < ((a0.length : Nat) : Int)) (.cons (part1 (by as_aux_lemma => kernel_rfl : (E.ti 5).agg = false) (mp_get (g := (fun c : UInt8 => T.leaf (.int .u8 c.toNat))) (k := (t51 + 1).toNat * 1) (n := (t51 + 1).toNat) a0 (0 : UInt8) (by omega) (by first | omega | (simp <;> omega) | (simp at * <;> omega) | (split <;> omega) | (split <;> (first | omega | (simp <;> omega) | (simp at * <;> omega)))))) (.cons (cv8_i (a0.getD ((t51 + 1).toNat) 0)) (.cons trivial (.cons (iw (256 * ((a0.getD t51.toNat 0).toNat : Int) + ((a0.getD ((t51 + 1).toNat) 0).toNat : Int)) (by first | omega | (simp <;> omega) | (simp at * <;> omega) | (split <;> omega) | (split <;> (first | omega | (simp <;> omega) | (simp at * <;> omega))))) (.cons trivial .nil))))))))))))))))))))) ?_
                  intro k' hk'
                  refine Go.slotEq 53 (tb ((decide ((a0.length : Int) - t51 < 2)) || (decide (((a0.length : Int) - t51) - 2 < 256 * ((a0.getD t51.toNat 0).toNat : Int) + ((a0.getD ((t51 + 1).toNat) 0).toNat : Int))))) rfl (eb (orF gd2 rfl).symm) ?_
                  exact J k' hk'
            · have ct4p := of_decide_eq_false ct4
              refine Go.keepN [0, 4, 5] (L' := [(0, .sl 1 .shr a0.length (u8s a0)), (4, .ref 10 1 0 o1.length), (5, ti t51)]) rfl ?_
              exact Go.join 20 hk hxl1 rfl (Xl1 t51 o1)
        exact Ll1 _ 1 0 [] (by first | omega | rfl) (by first | omega | rfl) (by first | omega | rfl) (by first | omega | rfl) (Nat.lt_succ_self _)
    · intro hk J
      rcases Bool.eq_false_or_eq_true (decide ((a0.length : Int) < 1)) with gd1 | gd1
      · have gd1p := of_decide_eq_true gd1
        refine Go.rx 20 { ws := [(2, { v := some (tb true) })] } [] [0, 19] _ [(0, .sl 1 .shr a0.length (u8s a0)), (19, tb true)] [] hk rfl (by as_aux_lemma => kernel_rfl) (.cons trivial (.cons (eb gd1) .nil)) ?_
        intro k' hk'
        refine Go.slotEq 19 (tb ((decide ((a0.length : Int) < 1)) || (decide ((a0.getD 0 0) > 16)))) rfl (eb (orT gd1).symm) ?_
        exact J k' hk'
      · have gd1p := of_decide_eq_false gd1
        refine Go.rx 20 { ws := [(2, { v := some (tb false) }), (6, { v := some (t8 (a0.getD 0 0)) }), (7, { v := some (tb (decide ((a0.getD 0 0) > 16))) })] } [] [0, 19] _ [(0, .sl 1 .shr a0.length (u8s a0)), (19, tb (decide ((a0.getD 0 0) > 16)))] [] hk rfl (by as_aux_lemma => kernel_rfl) (.cons trivial (.cons (eb gd1) (.cons (by first | omega | (simp <;> omega) | (simp at * <;> omega) | (split <;> omega) | (split <;> (first | omega | (simp <;> omega) | (simp at * <;> omega))) : 0 ≤ (0 : Int) ∧ (0 : Int) < ((a0.length : Nat) : Int)) (.cons (part1 (by as_aux_lemma => kernel_rfl : (E.ti 5).agg = false) (mp_get (g := (fun c : UInt8 => T.leaf (.int .u8 c.toNat))) (k := 0) (n := 0) a0 (0 : UInt8) rfl (by first | omega | (simp <;> omega) | (simp at * <;> omega) | (split <;> omega) | (split <;> (first | omega | (simp <;> omega) | (simp at * <;> omega)))))) (.cons trivial (.cons (gtB8 (a0.getD 0 0) 16) .nil)))))) ?_
        intro k' hk'
        refine Go.slotEq 19 (tb ((decide ((a0.length : Int) < 1)) || (decide ((a0.getD 0 0) > 16)))) rfl (eb (orF gd1 rfl).symm) ?_
        exact J k' hk'
theorem refdecode_fact (a0 : List UInt8) : True := trivial

end Go.Proofs.YtlfinldomjdljaaDoor

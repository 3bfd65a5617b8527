/- Functions, told: what each call returns. -/
import Derived.Test.YtkomeflgnikflaaDoorD4
import Derived.Test.YtkomeflgnikflaaDoorVx12
namespace Go.Proofs.YtkomeflgnikflaaDoor
open Go Go.Vw Go.Proofs
noncomputable def bursarylaw14_lists_k1  : Bool :=
  true
noncomputable def bursarylaw14_lists_l1 (a : List (List UInt8)) (b : List (List UInt8)) : Nat → Int → Lo Unit Bool
  | 0, _ => .brk default
  | ml1 + 1, i1 =>
    bif decide (i1 < (a.length : Int)) then
      bif (a.getD i1.toNat []) != (b.getD i1.toNat []) then
        Lo.ret false
      else
        bursarylaw14_lists_l1 a b ml1 (i1 + 1)
    else
      Lo.brk ()
noncomputable def bursarylaw14_lists (a : List (List UInt8)) (b : List (List UInt8)) : Bool :=
  bif (a.length : Int) != (b.length : Int) then
    false
  else
    Lo.el (bursarylaw14_lists_l1 a b (((a.length : Int) - (0 : Int)).toNat + 1) 0) (fun z : Unit => bursarylaw14_lists_k1)
def bursarylaw14_lists_enc (x : Bool) : T × List (Nat × List T) := (tb x, [])
theorem bursarylaw14_lists_m {g_a : Tag} {g_b : Tag} (a : List (List UInt8)) (b : List (List UInt8)) (ha : a.length ≤ 9223372036854775807) : Meets Tryd.prog 20 [.sl 1 g_a a.length (b8s .shr a), .sl 1 g_b b.length (b8s .shr b)] [] [] (tb (bursarylaw14_lists a b)) [] := by
  refine Meets.enterX (E := E) (N := 28) (enc := bursarylaw14_lists_enc) (x := (bursarylaw14_lists a b)) Tryd.func20 Tryd.call20 rfl rfl ?_
  intro Γ k hk
  refine Go.rx 20 {} [] [0, 1] _ [(0, .sl 1 g_a a.length (b8s .shr a)), (1, .sl 1 g_b b.length (b8s .shr b))] [] hk rfl (by as_aux_lemma => kernel_rfl) .nil ?_
  clear hk; intro k hk
  refine Go.rx 20 {} [] [0, 1, 10] _ [(0, .sl 1 g_a a.length (b8s .shr a)), (1, .sl 1 g_b b.length (b8s .shr b)), (10, tb ((a.length : Int) != (b.length : Int)))] [] hk rfl (by as_aux_lemma => kernel_rfl) (.cons trivial .nil) ?_
  clear hk; intro k hk
  refine Go.br 20 (Pf := (PostX Γ bursarylaw14_lists_enc)) hk rfl rfl ?_ ?_ <;> clear hk <;> intro ct1 k hk
  · have ct1p := neIt ct1
    refine Go.rx 20 {} [] [4] _ [(4, tb false)] [] hk rfl (by as_aux_lemma => kernel_rfl) .nil ?_
    clear hk; intro k hk
    exact Go.lvx 20 [] _ [tb false] Tryd.func20 hk rfl (by as_aux_lemma => kernel_rfl) .nil (T.Le.of_eq rfl) rfl rfl .nil
  · have ct1p := neIf ct1
    refine Go.rx 20 {} [] [0, 1, 5] _ [(0, .sl 1 g_a a.length (b8s .shr a)), (1, .sl 1 g_b b.length (b8s .shr b)), (5, ti 0)] [] hk rfl (by as_aux_lemma => kernel_rfl) .nil ?_
    clear hk; intro k hk
    refine Go.loopX 20 hk rfl ?_
    clear hk; intro kl1 kxl1 hl1 hxl1
    have Xl1 : ∀ (_ : True), Go E Γ 20 28 [] ((PostX Γ bursarylaw14_lists_enc) (bursarylaw14_lists_k1)) kxl1 (stL [] []) := by
      intro _
      refine Go.rx 20 {} [] [4] _ [(4, tb true)] [] hxl1 rfl (by as_aux_lemma => kernel_rfl) .nil ?_
      clear hxl1; intro kxl1 hxl1
      exact Go.lvx 20 [] _ [tb true] Tryd.func20 hxl1 rfl (by as_aux_lemma => kernel_rfl) .nil (T.Le.of_eq rfl) rfl rfl .nil
    have Ll1 : ∀ (ml1 : Nat) (i1 : Int), (0 ≤ i1) → (((a.length : Int) - i1).toNat < ml1) → Go E Γ 20 28 [] ((PostX Γ bursarylaw14_lists_enc) (Lo.el (bursarylaw14_lists_l1 a b ml1 i1) (fun z : Unit => bursarylaw14_lists_k1))) kl1 (stL [(0, .sl 1 g_a a.length (b8s .shr a)), (1, .sl 1 g_b b.length (b8s .shr b)), (5, ti i1)] []) := by
      intro ml1
      induction ml1 with
      | zero => intro i1 i0l1 hml1; exact absurd hml1 (Nat.not_lt_zero _)
      | succ ml1 ihl1 =>
        intro i1 i0l1 hml1
        rw [bursarylaw14_lists_l1]
        refine Go.round hl1 ?_
        intro k hk
        refine Go.rx 20 {} [] [0, 1, 5, 14] _ [(0, .sl 1 g_a a.length (b8s .shr a)), (1, .sl 1 g_b b.length (b8s .shr b)), (5, ti i1), (14, tb (decide (i1 < (a.length : Int))))] [] hk rfl (by as_aux_lemma => kernel_rfl) (.cons trivial .nil) ?_
        clear hk; intro k hk
        refine Go.br 20 (Pf := (fun z : Lo (Unit) (Bool) => (PostX Γ bursarylaw14_lists_enc) (Lo.el z (fun z : Unit => bursarylaw14_lists_k1)))) hk rfl rfl ?_ ?_ <;> clear hk <;> intro ct2 k hk
        · have ct2p := of_decide_eq_true ct2
          refine Go.dx 20 [0, 1, 2, 3, 4, 5, 6, 7, 8, 9, 10] { ws := [(3, { v := some (.sl 1 .shr (a.getD i1.toNat []).length (u8s (a.getD i1.toNat []))) }), (4, { b := a.getD i1.toNat [] }), (8, { v := some (.sl 1 .shr (b.getD i1.toNat []).length (u8s (b.getD i1.toNat []))) }), (9, { b := b.getD i1.toNat [] }), (10, { v := some (tb ((a.getD i1.toNat []) != (b.getD i1.toNat []))) })] } [] [0, 1, 5, 27] _ [(0, .sl 1 g_a a.length (b8s .shr a)), (1, .sl 1 g_b b.length (b8s .shr b)), (5, ti i1), (27, tb ((a.getD i1.toNat []) != (b.getD i1.toNat [])))] [] hk rfl (by as_aux_lemma => kernel_rfl) (.cons (by omega : 0 ≤ (i1 : Int) ∧ (i1 : Int) < ((a.length : Nat) : Int)) (.cons (part1 (by as_aux_lemma => kernel_rfl : (E.ti 23).agg = false) (mp_get (g := (fun c : List UInt8 => tl .shr c)) (k := i1.toNat * 1) (n := i1.toNat) a [] (by omega) (by omega))) (.cons (rfl : u8s (a.getD i1.toNat []) = u8s (a.getD i1.toNat [])) (.cons (by omega : 0 ≤ (i1 : Int) ∧ (i1 : Int) < ((b.length : Nat) : Int)) (.cons (part1 (by as_aux_lemma => kernel_rfl : (E.ti 23).agg = false) (mp_get (g := (fun c : List UInt8 => tl .shr c)) (k := i1.toNat * 1) (n := i1.toNat) b [] (by omega) (by omega))) (.cons (rfl : u8s (b.getD i1.toNat []) = u8s (b.getD i1.toNat [])) (.cons trivial (.cons (s_ne (a.getD i1.toNat []) (b.getD i1.toNat [])) .nil)))))))) ?_
          clear hk; intro k hk
          refine Go.br 20 (Pf := (fun z : Lo (Unit) (Bool) => (PostX Γ bursarylaw14_lists_enc) (Lo.el z (fun z : Unit => bursarylaw14_lists_k1)))) hk rfl rfl ?_ ?_ <;> clear hk <;> intro ct3 k hk
          · refine Go.rx 20 {} [] [4] _ [(4, tb false)] [] hk rfl (by as_aux_lemma => kernel_rfl) .nil ?_
            clear hk; intro k hk
            exact Go.lvx 20 [] _ [tb false] Tryd.func20 hk rfl (by as_aux_lemma => kernel_rfl) .nil (T.Le.of_eq rfl) rfl rfl .nil
          · refine Go.rx 20 { ws := [(1, { v := some (ti (i1 + 1)) })] } [] [0, 1, 5] _ [(0, .sl 1 g_a a.length (b8s .shr a)), (1, .sl 1 g_b b.length (b8s .shr b)), (5, ti (i1 + 1))] [] hk rfl (by as_aux_lemma => kernel_rfl) (.cons trivial (.cons (iw (i1 + 1) (by omega)) .nil)) ?_
            clear hk; intro k hk
            exact Go.join 20 hk hl1 rfl (ihl1 (i1 + 1) (by omega) (by omega))
        · have ct2p := of_decide_eq_false ct2
          refine Go.keepN [] (L' := []) rfl ?_
          exact Go.join 20 hk hxl1 rfl (Xl1 trivial)
    exact Ll1 _ 0 (by omega) (Nat.lt_succ_self _)
noncomputable def bursarylaw14_small_k1 (l : List (List UInt8)) : Bool :=
  decide ((l.length : Int) ≤ 30)
noncomputable def bursarylaw14_small_l1 (l : List (List UInt8)) : Nat → Int → Lo Unit Bool
  | 0, _ => .brk default
  | ml1 + 1, i1 =>
    bif (decide (i1 < (l.length : Int))) && (decide (i1 < 30)) then
      bif decide (((l.getD i1.toNat []).length : Int) > 200) then
        Lo.ret false
      else
        bursarylaw14_small_l1 l ml1 (i1 + 1)
    else
      Lo.brk ()
noncomputable def bursarylaw14_small (l : List (List UInt8)) : Bool :=
  Lo.el (bursarylaw14_small_l1 l (((l.length : Int) - (0 : Int)).toNat + 1) 0) (fun z : Unit => bursarylaw14_small_k1 l)
def bursarylaw14_small_enc (x : Bool) : T × List (Nat × List T) := (tb x, [])
theorem bursarylaw14_small_m {g_l : Tag} (l : List (List UInt8)) : Meets Tryd.prog 11 [.sl 1 g_l l.length (b8s .shr l)] [] [] (tb (bursarylaw14_small l)) [] := by
  refine Meets.enterX (E := E) (N := 23) (enc := bursarylaw14_small_enc) (x := (bursarylaw14_small l)) Tryd.func11 Tryd.call11 rfl rfl ?_
  intro Γ k hk
  refine Go.rx 20 {} [] [0] _ [(0, .sl 1 g_l l.length (b8s .shr l))] [] hk rfl (by as_aux_lemma => kernel_rfl) .nil ?_
  clear hk; intro k hk
  refine Go.rx 20 {} [] [0, 3] _ [(0, .sl 1 g_l l.length (b8s .shr l)), (3, ti 0)] [] hk rfl (by as_aux_lemma => kernel_rfl) .nil ?_
  clear hk; intro k hk
  refine Go.loopX 20 hk rfl ?_
  clear hk; intro kl1 kxl1 hl1 hxl1
  have Xl1 : ∀ (_ : True), Go E Γ 11 23 [] ((PostX Γ bursarylaw14_small_enc) (bursarylaw14_small_k1 l)) kxl1 (stL [(0, .sl 1 g_l l.length (b8s .shr l))] []) := by
    intro _
    refine Go.rx 20 {} [] [2] _ [(2, tb (decide ((l.length : Int) ≤ 30)))] [] hxl1 rfl (by as_aux_lemma => kernel_rfl) (.cons trivial .nil) ?_
    clear hxl1; intro kxl1 hxl1
    exact Go.lvx 20 [] _ [tb (decide ((l.length : Int) ≤ 30))] Tryd.func11 hxl1 rfl (by as_aux_lemma => kernel_rfl) .nil (T.Le.of_eq rfl) rfl rfl .nil
  have Ll1 : ∀ (ml1 : Nat) (i1 : Int), (0 ≤ i1) → (((l.length : Int) - i1).toNat < ml1) → Go E Γ 11 23 [] ((PostX Γ bursarylaw14_small_enc) (Lo.el (bursarylaw14_small_l1 l ml1 i1) (fun z : Unit => bursarylaw14_small_k1 l))) kl1 (stL [(0, .sl 1 g_l l.length (b8s .shr l)), (3, ti i1)] []) := by
    intro ml1
    induction ml1 with
    | zero => intro i1 i0l1 hml1; exact absurd hml1 (Nat.not_lt_zero _)
    | succ ml1 ihl1 =>
      intro i1 i0l1 hml1
      rw [bursarylaw14_small_l1]
      refine Go.round hl1 ?_
      intro k hk
      refine Go.regJ 20 [(0, .sl 1 g_l l.length (b8s .shr l)), (3, ti i1), (11, tb ((decide (i1 < (l.length : Int))) && (decide (i1 < 30))))] [] hk rfl ?_ ?_
      · clear hk; intro k hk
        refine Go.br 20 (Pf := (fun z : Lo (Unit) (Bool) => (PostX Γ bursarylaw14_small_enc) (Lo.el z (fun z : Unit => bursarylaw14_small_k1 l)))) hk rfl rfl ?_ ?_ <;> clear hk <;> intro ct1 k hk
        · have ct11 : (decide (i1 < (l.length : Int))) = true := (Bool.and_eq_true_iff.1 ct1).1
          have ct12 : (decide (i1 < 30)) = true := (Bool.and_eq_true_iff.1 ct1).2
          have ct11p := of_decide_eq_true ct11
          have ct12p := of_decide_eq_true ct12
          refine Go.rx 20 { ws := [(3, { v := some (.sl 1 .shr (l.getD i1.toNat []).length (u8s (l.getD i1.toNat []))) })] } [] [0, 3, 19] _ [(0, .sl 1 g_l l.length (b8s .shr l)), (3, ti i1), (19, tb (decide (((l.getD i1.toNat []).length : Int) > 200)))] [] hk rfl (by as_aux_lemma => kernel_rfl) (.cons (by omega : 0 ≤ (i1 : Int) ∧ (i1 : Int) < ((l.length : Nat) : Int)) (.cons (part1 (by as_aux_lemma => kernel_rfl : (E.ti 23).agg = false) (mp_get (g := (fun c : List UInt8 => tl .shr c)) (k := i1.toNat * 1) (n := i1.toNat) l [] (by omega) (by omega))) (.cons trivial .nil))) ?_
          clear hk; intro k hk
          refine Go.br 20 (Pf := (fun z : Lo (Unit) (Bool) => (PostX Γ bursarylaw14_small_enc) (Lo.el z (fun z : Unit => bursarylaw14_small_k1 l)))) hk rfl rfl ?_ ?_ <;> clear hk <;> intro ct2 k hk
          · have ct2p := of_decide_eq_true ct2
            refine Go.rx 20 {} [] [2] _ [(2, tb false)] [] hk rfl (by as_aux_lemma => kernel_rfl) .nil ?_
            clear hk; intro k hk
            exact Go.lvx 20 [] _ [tb false] Tryd.func11 hk rfl (by as_aux_lemma => kernel_rfl) .nil (T.Le.of_eq rfl) rfl rfl .nil
          · have ct2p := of_decide_eq_false ct2
            refine Go.rx 20 { ws := [(1, { v := some (ti (i1 + 1)) })] } [] [0, 3] _ [(0, .sl 1 g_l l.length (b8s .shr l)), (3, ti (i1 + 1))] [] hk rfl (by as_aux_lemma => kernel_rfl) (.cons trivial (.cons (iw (i1 + 1) (by omega)) .nil)) ?_
            clear hk; intro k hk
            exact Go.join 20 hk hl1 rfl (ihl1 (i1 + 1) (by omega) (by omega))
        · refine Go.keepN [0] (L' := [(0, .sl 1 g_l l.length (b8s .shr l))]) rfl ?_
          exact Go.join 20 hk hxl1 rfl (Xl1 trivial)
      · intro hk J
        rcases Bool.eq_false_or_eq_true (decide (i1 < (l.length : Int))) with gd1 | gd1
        · have gd1p := of_decide_eq_true gd1
          refine Go.rx 20 { ws := [(3, { v := some (tb true) })] } [] [0, 3, 11] _ [(0, .sl 1 g_l l.length (b8s .shr l)), (3, ti i1), (11, tb (decide (i1 < 30)))] [] hk rfl (by as_aux_lemma => kernel_rfl) (.cons trivial (.cons (eb gd1) (.cons trivial .nil))) ?_
          intro k' hk'
          refine Go.slotEq 11 (tb ((decide (i1 < (l.length : Int))) && (decide (i1 < 30)))) rfl (eb (andT gd1 rfl).symm) ?_
          exact J k' hk'
        · have gd1p := of_decide_eq_false gd1
          refine Go.rx 20 { ws := [(3, { v := some (tb false) })] } [] [0, 3, 11] _ [(0, .sl 1 g_l l.length (b8s .shr l)), (3, ti i1), (11, tb false)] [] hk rfl (by as_aux_lemma => kernel_rfl) (.cons trivial (.cons (eb gd1) .nil)) ?_
          intro k' hk'
          refine Go.slotEq 11 (tb ((decide (i1 < (l.length : Int))) && (decide (i1 < 30)))) rfl (eb (andF gd1).symm) ?_
          exact J k' hk'
  exact Ll1 _ 0 (by omega) (Nat.lt_succ_self _)
theorem small_loop (l : List (List UInt8)) : ∀ (m : Nat) (i : Int), 0 ≤ i → Lo.el (bursarylaw14_small_l1 l m i) (fun _ : Unit => bursarylaw14_small_k1 l) = true → ((l.length : Int) - i).toNat < m → (∀ j : Nat, i ≤ j → j < l.length → j < 30 → (l.getD j []).length ≤ 200) ∧ (l.length : Int) ≤ 30 := by
  intro m
  induction m with
  | zero => intro i _ _ hm; exact absurd hm (Nat.not_lt_zero _)
  | succ m ih =>
    intro i h0 h hm
    rw [bursarylaw14_small_l1] at h
    cases c : (decide (i < (l.length : Int))) && (decide (i < 30)) with
    | false =>
      rw [c, cond_false] at h
      have h2 : (l.length : Int) ≤ 30 := of_decide_eq_true h
      refine ⟨fun j hj hl h3 => ?_, h2⟩
      simp at c
      omega
    | true =>
      rw [c, cond_true] at h
      simp only [Bool.and_eq_true, decide_eq_true_eq] at c
      by_cases d : ((l.getD i.toNat []).length : Int) > 200
      · rw [decide_eq_true d, cond_true] at h
        exact absurd h Bool.false_ne_true
      · rw [decide_eq_false d, cond_false] at h
        obtain ⟨q, r⟩ := ih (i + 1) (by omega) h (by omega)
        refine ⟨fun j hj hl h3 => ?_, r⟩
        by_cases e : i = j
        · subst e; rw [Int.toNat_natCast] at d; omega
        · exact q j (by omega) hl h3
theorem small_fact (l : List (List UInt8)) (h : bursarylaw14_small l = true) : l.length ≤ 30 ∧ ∀ i : Nat, (l.getD i []).length ≤ 200 := by
  rw [bursarylaw14_small] at h
  obtain ⟨q, r⟩ := small_loop l _ 0 (by omega) h (by omega)
  refine ⟨by omega, fun i => ?_⟩
  by_cases c : i < l.length
  · exact q i (by omega) c (by omega)
  · rw [List.getD_eq_getElem?_getD, List.getElem?_eq_none (by omega)]; simp

noncomputable def bursarylaw14_sure  : Bool :=
  bnd (frame_Split 7 (List.replicate 57 (0 : UInt8))) fun x1 =>
  bif (!(decide (x1.2 = 0))) || ((x1.1.length : Int) != 2) then
    false
  else
    bnd (frame_Join x1.1) fun x2 =>
    bnd (frame_Join (slc x1.1 1 (x1.1.length : Int))) fun x3 =>
    bnd (frame_Seq (x1.1.getD 1 [])) fun x4 =>
    bnd (id x3.2.2.2) fun x5 =>
    bnd (frame_Sectors 0) fun x6 =>
    (decide (x2.2.2.2 = 0)) && ((decide (x4.2 = 0)) && ((x2.1 == 7) && ((x4.1 == 7) && (((x2.2.1.length : Int) == 57) && ((x2.2.2.1 == 2) && ((x5 == 4) && (x6 == 1)))))))
def bursarylaw14_sure_enc (x : Bool) : T × List (Nat × List T) := (tb x, [])
theorem bursarylaw14_sure_m  : Meets Tryd.prog 12 [] [] [] (tb bursarylaw14_sure) [] := by
  refine Meets.enterX (E := E) (N := 83) (enc := bursarylaw14_sure_enc) (x := bursarylaw14_sure) Tryd.func12 Tryd.call12 rfl rfl ?_
  intro Γ k hk
  refine Go.rx 20 {} [] [] _ [] [] hk rfl (by as_aux_lemma => kernel_rfl) .nil ?_
  clear hk; intro k hk
  refine Go.rx 20 { ws := [(0, { v := some (.ref 10 1 0 ((List.replicate 57 (0 : UInt8)).length)), c := some (u8s (List.replicate 57 (0 : UInt8))), id := 10 }), (1, { call := some { ids := [], S := [], M := [10], R := .tup [.sl 1 .shr ((frame_Split 7 (List.replicate 57 (0 : UInt8))).1).length (b8s .shr ((frame_Split 7 (List.replicate 57 (0 : UInt8))).1)), er 82 ((frame_Split 7 (List.replicate 57 (0 : UInt8))).2)], H' := [] } })], ps := [2, 13, 15, 17] } [10] [1, 2] _ [(1, .sl 1 .shr ((frame_Split 7 (List.replicate 57 (0 : UInt8))).1).length (b8s .shr ((frame_Split 7 (List.replicate 57 (0 : UInt8))).1))), (2, er 82 ((frame_Split 7 (List.replicate 57 (0 : UInt8))).2))] [] hk rfl (by as_aux_lemma => kernel_rfl) (.cons (by decide : 0 ≤ (57 : Int) ∧ (57 : Int) ≤ 57 ∧ (57 : Int) < 9223372036854775808 ∧ ((1 : Nat) : Int) * 57 ≤ 281474976710656) (.cons (mp_zeros (g := (fun c : UInt8 => T.leaf (.int .u8 c.toNat))) (n := Int.toNat 57) (x := (0 : UInt8)) (z := [.int .u8 0]) rfl) (.cons (by simp : T.ref 10 1 0 (Int.toNat 57) = .ref 10 1 0 ((List.replicate 57 (0 : UInt8)).length)) (.cons (Meets.eqA (A := [t32 7, .sl 1 .brw ((List.replicate 57 (0 : UInt8)).length) (sub (u8s (List.replicate 57 (0 : UInt8))) 0 ((List.replicate 57 (0 : UInt8)).length * 1))]) (by first | rfl | simp only [mp_all]) (frame_Split_m (g_a1 := .brw) 7 (List.replicate 57 (0 : UInt8)))) (.cons (mp_ids (g := (fun c : UInt8 => T.leaf (.int .u8 c.toNat))) (List.replicate 57 (0 : UInt8)) (fun _ => rfl)) (.cons (by simp only [List.length_map]; first | omega | (simp <;> omega) | (simp at * <;> omega) | (split <;> omega) | (split <;> (first | omega | (simp <;> omega) | (simp at * <;> omega))) : 0 + (List.replicate 57 (0 : UInt8)).length * 1 ≤ (u8s (List.replicate 57 (0 : UInt8))).length) (.cons (by first | rfl | (simp only [T.ids, idsL, er_ids, List.append_nil, List.nil_append]; rfl) : subN (idsL [t32 7, .sl 1 .brw ((List.replicate 57 (0 : UInt8)).length) (sub (u8s (List.replicate 57 (0 : UInt8))) 0 ((List.replicate 57 (0 : UInt8)).length * 1))]) [] = true) (.cons (by first | rfl | (simp only [T.noB, noBL, er_noB, u8s_noB, b8s_noB, Bool.and_self, Bool.true_and, Bool.and_true]; rfl) | simp only [T.noB, noBL, er_noB, u8s_noB, b8s_noB, Bool.and_self, Bool.true_and, Bool.and_true] : T.noB (.tup [.sl 1 .shr ((frame_Split 7 (List.replicate 57 (0 : UInt8))).1).length (b8s .shr ((frame_Split 7 (List.replicate 57 (0 : UInt8))).1)), er 82 ((frame_Split 7 (List.replicate 57 (0 : UInt8))).2)]) = true) (.cons (by first | rfl | (simp only [T.ids, idsL, er_ids, List.append_nil, List.nil_append]; rfl) : memN 10 (T.ids (.tup [.sl 1 .shr ((frame_Split 7 (List.replicate 57 (0 : UInt8))).1).length (b8s .shr ((frame_Split 7 (List.replicate 57 (0 : UInt8))).1)), er 82 ((frame_Split 7 (List.replicate 57 (0 : UInt8))).2)])) = false) (.cons (by first | rfl | (simp only [T.ids, idsL, er_ids, List.append_nil, List.nil_append]; rfl) : memN 10 (T.ids (.tup [.sl 1 .shr ((frame_Split 7 (List.replicate 57 (0 : UInt8))).1).length (b8s .shr ((frame_Split 7 (List.replicate 57 (0 : UInt8))).1)), er 82 ((frame_Split 7 (List.replicate 57 (0 : UInt8))).2)])) = false) (.cons (er_mem (i := 10) 82 ((frame_Split 7 (List.replicate 57 (0 : UInt8))).2)) (.cons (er_mem (i := 10) 82 ((frame_Split 7 (List.replicate 57 (0 : UInt8))).2)) .nil)))))))))))) ?_
  clear hk; intro k hk
  refine Go.bnd (Pf := (PostX Γ bursarylaw14_sure_enc)) (v := (frame_Split 7 (List.replicate 57 (0 : UInt8)))) (fun x1 => [(1, .sl 1 .shr x1.1.length (b8s .shr x1.1)), (2, er 82 x1.2)]) (fun x1 => []) ?_
  intro x1 hx1
  have fx1 := split_fact 7 (List.replicate 57 (0 : UInt8))
  rw [← hx1] at fx1
  obtain ⟨fx10, fx11, fx12⟩ := fx1
  refine Go.regJ 20 [(1, .sl 1 .shr x1.1.length (b8s .shr x1.1)), (24, tb ((!(decide (x1.2 = 0))) || ((x1.1.length : Int) != 2)))] [] hk rfl ?_ ?_
  · clear hk; intro k hk
    refine Go.br 20 (Pf := (PostX Γ bursarylaw14_sure_enc)) hk rfl rfl ?_ ?_ <;> clear hk <;> intro ct1 k hk
    · refine Go.rx 20 {} [] [0] _ [(0, tb false)] [] hk rfl (by as_aux_lemma => kernel_rfl) .nil ?_
      clear hk; intro k hk
      exact Go.lvx 20 [] _ [tb false] Tryd.func12 hk rfl (by as_aux_lemma => kernel_rfl) .nil (T.Le.of_eq rfl) rfl rfl .nil
    · have ct11 : (!(decide (x1.2 = 0))) = false := (Bool.or_eq_false_iff.1 ct1).1
      have ct12 : ((x1.1.length : Int) != 2) = false := (Bool.or_eq_false_iff.1 ct1).2
      have ct11' : (decide (x1.2 = 0)) = true := ntF ct11
      have ct11'p := of_decide_eq_true ct11'
      have ct12p := neIf ct12
      refine Go.rx 20 { ws := [(1, { call := some { ids := [], S := [], M := [], R := .tup [t32 ((frame_Join x1.1).1), .sl 1 .shr ((frame_Join x1.1).2.1).length (u8s ((frame_Join x1.1).2.1)), ti ((frame_Join x1.1).2.2.1), er 82 ((frame_Join x1.1).2.2.2)], H' := [] } })] } [] [1, 3, 4, 5, 6] _ [(1, .sl 1 .shr x1.1.length (b8s .shr x1.1)), (3, t32 ((frame_Join x1.1).1)), (4, .sl 1 .shr ((frame_Join x1.1).2.1).length (u8s ((frame_Join x1.1).2.1))), (5, ti ((frame_Join x1.1).2.2.1)), (6, er 82 ((frame_Join x1.1).2.2.2))] [] hk rfl (by as_aux_lemma => kernel_rfl) (.cons (frame_Join_m (g_a0 := .shr) x1.1 (by first | exact get_le fx11 (by decide) | exact slc_le (get_le fx11 (by decide)) _ _)) (.cons (by first | rfl | (simp only [T.ids, idsL, er_ids, List.append_nil, List.nil_append]; rfl) : subN (idsL [.sl 1 .shr x1.1.length (b8s .shr x1.1)]) [] = true) .nil)) ?_
      clear hk; intro k hk
      refine Go.bnd (Pf := (PostX Γ bursarylaw14_sure_enc)) (v := (frame_Join x1.1)) (fun x2 => [(1, .sl 1 .shr x1.1.length (b8s .shr x1.1)), (3, t32 x2.1), (4, .sl 1 .shr x2.2.1.length (u8s x2.2.1)), (5, ti x2.2.2.1), (6, er 82 x2.2.2.2)]) (fun x2 => []) ?_
      intro x2 hx2
      refine Go.rx 20 { ws := [(1, { v := some (.sl 1 .shr (slc x1.1 1 (x1.1.length : Int)).length (b8s .shr (slc x1.1 1 (x1.1.length : Int)))) }), (2, { call := some { ids := [], S := [], M := [], R := .tup [t32 ((frame_Join (slc x1.1 1 (x1.1.length : Int))).1), .sl 1 .shr ((frame_Join (slc x1.1 1 (x1.1.length : Int))).2.1).length (u8s ((frame_Join (slc x1.1 1 (x1.1.length : Int))).2.1)), ti ((frame_Join (slc x1.1 1 (x1.1.length : Int))).2.2.1), er 82 ((frame_Join (slc x1.1 1 (x1.1.length : Int))).2.2.2)], H' := [] } })] } [] [1, 3, 4, 5, 6, 10] _ [(1, .sl 1 .shr x1.1.length (b8s .shr x1.1)), (3, t32 x2.1), (4, .sl 1 .shr x2.2.1.length (u8s x2.2.1)), (5, ti x2.2.2.1), (6, er 82 x2.2.2.2), (10, er 82 ((frame_Join (slc x1.1 1 (x1.1.length : Int))).2.2.2))] [] hk rfl (by as_aux_lemma => kernel_rfl) (.cons (by omega : 0 ≤ (1 : Int) ∧ (1 : Int) ≤ (x1.1.length : Int) ∧ (x1.1.length : Int) ≤ (x1.1.length : Int) ∧ (x1.1.length : Int) ≤ (x1.1.length : Nat)) (.cons (sl_slc (t := .shr) (g := (fun c : List UInt8 => tl .shr c)) (lo := 1) (hi := (x1.1.length : Int)) x1.1 (by omega) rfl rfl) (.cons (frame_Join_m (g_a0 := .shr) (slc x1.1 1 (x1.1.length : Int)) (by first | exact get_le fx11 (by decide) | exact slc_le (get_le fx11 (by decide)) _ _)) (.cons (by first | rfl | (simp only [T.ids, idsL, er_ids, List.append_nil, List.nil_append]; rfl) : subN (idsL [.sl 1 .shr (slc x1.1 1 (x1.1.length : Int)).length (b8s .shr (slc x1.1 1 (x1.1.length : Int)))]) [] = true) .nil)))) ?_
      clear hk; intro k hk
      refine Go.bnd (Pf := (PostX Γ bursarylaw14_sure_enc)) (v := (frame_Join (slc x1.1 1 (x1.1.length : Int)))) (fun x3 => [(1, .sl 1 .shr x1.1.length (b8s .shr x1.1)), (3, t32 x2.1), (4, .sl 1 .shr x2.2.1.length (u8s x2.2.1)), (5, ti x2.2.2.1), (6, er 82 x2.2.2.2), (10, er 82 x3.2.2.2)]) (fun x3 => []) ?_
      intro x3 hx3
      refine Go.rx 20 { ws := [(2, { v := some (.sl 1 .shr (x1.1.getD 1 []).length (u8s (x1.1.getD 1 []))) }), (3, { call := some { ids := [], S := [], M := [], R := .tup [t32 ((frame_Seq (x1.1.getD 1 [])).1), er 82 ((frame_Seq (x1.1.getD 1 [])).2)], H' := [] } })] } [] [3, 4, 5, 6, 10, 11, 12] _ [(3, t32 x2.1), (4, .sl 1 .shr x2.2.1.length (u8s x2.2.1)), (5, ti x2.2.2.1), (6, er 82 x2.2.2.2), (10, er 82 x3.2.2.2), (11, t32 ((frame_Seq (x1.1.getD 1 [])).1)), (12, er 82 ((frame_Seq (x1.1.getD 1 [])).2))] [] hk rfl (by as_aux_lemma => kernel_rfl) (.cons (by omega : 0 ≤ (1 : Int) ∧ (1 : Int) < ((x1.1.length : Nat) : Int)) (.cons (part1 (by as_aux_lemma => kernel_rfl : (E.ti 23).agg = false) (mp_get (g := (fun c : List UInt8 => tl .shr c)) (k := 1) (n := 1) x1.1 [] rfl (by omega))) (.cons (frame_Seq_m (g_s := .shr) (x1.1.getD 1 [])) (.cons (by first | rfl | (simp only [T.ids, idsL, er_ids, List.append_nil, List.nil_append]; rfl) : subN (idsL [.sl 1 .shr (x1.1.getD 1 []).length (u8s (x1.1.getD 1 []))]) [] = true) .nil)))) ?_
      clear hk; intro k hk
      refine Go.bnd (Pf := (PostX Γ bursarylaw14_sure_enc)) (v := (frame_Seq (x1.1.getD 1 []))) (fun x4 => [(3, t32 x2.1), (4, .sl 1 .shr x2.2.1.length (u8s x2.2.1)), (5, ti x2.2.2.1), (6, er 82 x2.2.2.2), (10, er 82 x3.2.2.2), (11, t32 x4.1), (12, er 82 x4.2)]) (fun x4 => []) ?_
      intro x4 hx4
      refine Go.regJ 20 [(0, tb ((decide (x2.2.2.2 = 0)) && ((decide (x4.2 = 0)) && ((x2.1 == 7) && ((x4.1 == 7) && (((x2.2.1.length : Int) == 57) && ((x2.2.2.1 == 2) && (((id x3.2.2.2) == 4) && ((frame_Sectors 0) == 1)))))))))] [] hk rfl ?_ ?_
      · clear hk; intro k hk
        refine Go.bnd (Pf := (PostX Γ bursarylaw14_sure_enc)) (v := (id x3.2.2.2)) (fun x5 => [(0, tb ((decide (x2.2.2.2 = 0)) && ((decide (x4.2 = 0)) && ((x2.1 == 7) && ((x4.1 == 7) && (((x2.2.1.length : Int) == 57) && ((x2.2.2.1 == 2) && ((x5 == 4) && ((frame_Sectors 0) == 1)))))))))]) (fun x5 => []) ?_
        intro x5 hx5
        refine Go.bnd (Pf := (PostX Γ bursarylaw14_sure_enc)) (v := (frame_Sectors 0)) (fun x6 => [(0, tb ((decide (x2.2.2.2 = 0)) && ((decide (x4.2 = 0)) && ((x2.1 == 7) && ((x4.1 == 7) && (((x2.2.1.length : Int) == 57) && ((x2.2.2.1 == 2) && ((x5 == 4) && (x6 == 1)))))))))]) (fun x6 => []) ?_
        intro x6 hx6
        have fx6 := sectors_fact 0
        rw [← hx6] at fx6
        obtain ⟨fx60, fx61, fx62, fx63⟩ := fx6
        exact Go.lvx 20 [] _ [tb ((decide (x2.2.2.2 = 0)) && ((decide (x4.2 = 0)) && ((x2.1 == 7) && ((x4.1 == 7) && (((x2.2.1.length : Int) == 57) && ((x2.2.2.1 == 2) && ((x5 == 4) && (x6 == 1))))))))] Tryd.func12 hk rfl (by as_aux_lemma => kernel_rfl) .nil (T.Le.of_eq rfl) rfl rfl .nil
      · intro hk J
        rcases Bool.eq_false_or_eq_true (decide (x2.2.2.2 = 0)) with gd2 | gd2
        · have gd2p := of_decide_eq_true gd2
          rcases Bool.eq_false_or_eq_true (decide (x4.2 = 0)) with gd3 | gd3
          · have gd3p := of_decide_eq_true gd3
            rcases Bool.eq_false_or_eq_true (x2.1 == 7) with gd4 | gd4
            · rcases Bool.eq_false_or_eq_true (x4.1 == 7) with gd5 | gd5
              · rcases Bool.eq_false_or_eq_true ((x2.2.1.length : Int) == 57) with gd6 | gd6
                · have gd6p := eqIt gd6
                  rcases Bool.eq_false_or_eq_true (x2.2.2.1 == 2) with gd7 | gd7
                  · have gd7p := eqIt gd7
                    rcases Bool.eq_false_or_eq_true ((id x3.2.2.2) == 4) with gd8 | gd8
                    · have gd8p := eqIt gd8
                      rcases Bool.eq_false_or_eq_true ((frame_Sectors 0) == 1) with gd9 | gd9
                      · have gd9p := eqIt gd9
                        refine Go.rx 20 { ws := [(1, { v := some (tb true), er := some (82, x2.2.2.2) }), (4, { v := some (tb true), er := some (82, x4.2) }), (8, { v := some (tb true) }), (12, { v := some (tb true) }), (17, { v := some (tb true) }), (21, { v := some (tb true) }), (25, { call := some { ids := [], S := [], M := [], R := ti (id x3.2.2.2), H' := [] } }), (26, { v := some (tb true) }), (29, { call := some { ids := [], S := [], M := [], R := ti (frame_Sectors 0), H' := [] } }), (30, { v := some (tb true) })] } [] [0] _ [(0, tb true)] [] hk rfl (by as_aux_lemma => kernel_rfl) (.cons (⟨rfl, rfl⟩ : (er 82 x2.2.2.2) = er 82 x2.2.2.2 ∧ (.leaf .nilIface : T) = .leaf .nilIface) (.cons (eb gd2) (.cons (⟨rfl, rfl⟩ : (er 82 x4.2) = er 82 x4.2 ∧ (.leaf .nilIface : T) = .leaf .nilIface) (.cons (eb gd3) (.cons trivial (.cons ((eqB32 x2.1 7).trans (eb gd4)) (.cons trivial (.cons ((eqB32 x4.1 7).trans (eb gd5)) (.cons trivial (.cons (eb gd6) (.cons trivial (.cons (eb gd7) (.cons (bursarylaw14_num_m x3.2.2.2) (.cons (by first | rfl | (simp only [T.ids, idsL, er_ids, List.append_nil, List.nil_append]; rfl) : subN (idsL [er 82 x3.2.2.2]) [] = true) (.cons trivial (.cons (eb gd8) (.cons (frame_Sectors_m 0) (.cons (by first | rfl | (simp only [T.ids, idsL, er_ids, List.append_nil, List.nil_append]; rfl) : subN (idsL [ti 0]) [] = true) (.cons trivial (.cons (eb gd9) .nil)))))))))))))))))))) ?_
                        intro k' hk'
                        refine Go.slotEq 0 (tb ((decide (x2.2.2.2 = 0)) && ((decide (x4.2 = 0)) && ((x2.1 == 7) && ((x4.1 == 7) && (((x2.2.1.length : Int) == 57) && ((x2.2.2.1 == 2) && (((id x3.2.2.2) == 4) && ((frame_Sectors 0) == 1))))))))) rfl (eb (andT gd2 (andT gd3 (andT gd4 (andT gd5 (andT gd6 (andT gd7 (andT gd8 gd9))))))).symm) ?_
                        exact J k' hk'
                      · have gd9p := eqIf gd9
                        refine Go.rx 20 { ws := [(1, { v := some (tb true), er := some (82, x2.2.2.2) }), (4, { v := some (tb true), er := some (82, x4.2) }), (8, { v := some (tb true) }), (12, { v := some (tb true) }), (17, { v := some (tb true) }), (21, { v := some (tb true) }), (25, { call := some { ids := [], S := [], M := [], R := ti (id x3.2.2.2), H' := [] } }), (26, { v := some (tb true) }), (29, { call := some { ids := [], S := [], M := [], R := ti (frame_Sectors 0), H' := [] } }), (30, { v := some (tb false) })] } [] [0] _ [(0, tb false)] [] hk rfl (by as_aux_lemma => kernel_rfl) (.cons (⟨rfl, rfl⟩ : (er 82 x2.2.2.2) = er 82 x2.2.2.2 ∧ (.leaf .nilIface : T) = .leaf .nilIface) (.cons (eb gd2) (.cons (⟨rfl, rfl⟩ : (er 82 x4.2) = er 82 x4.2 ∧ (.leaf .nilIface : T) = .leaf .nilIface) (.cons (eb gd3) (.cons trivial (.cons ((eqB32 x2.1 7).trans (eb gd4)) (.cons trivial (.cons ((eqB32 x4.1 7).trans (eb gd5)) (.cons trivial (.cons (eb gd6) (.cons trivial (.cons (eb gd7) (.cons (bursarylaw14_num_m x3.2.2.2) (.cons (by first | rfl | (simp only [T.ids, idsL, er_ids, List.append_nil, List.nil_append]; rfl) : subN (idsL [er 82 x3.2.2.2]) [] = true) (.cons trivial (.cons (eb gd8) (.cons (frame_Sectors_m 0) (.cons (by first | rfl | (simp only [T.ids, idsL, er_ids, List.append_nil, List.nil_append]; rfl) : subN (idsL [ti 0]) [] = true) (.cons trivial (.cons (eb gd9) .nil)))))))))))))))))))) ?_
                        intro k' hk'
                        refine Go.slotEq 0 (tb ((decide (x2.2.2.2 = 0)) && ((decide (x4.2 = 0)) && ((x2.1 == 7) && ((x4.1 == 7) && (((x2.2.1.length : Int) == 57) && ((x2.2.2.1 == 2) && (((id x3.2.2.2) == 4) && ((frame_Sectors 0) == 1))))))))) rfl (eb (andT gd2 (andT gd3 (andT gd4 (andT gd5 (andT gd6 (andT gd7 (andT gd8 gd9))))))).symm) ?_
                        exact J k' hk'
                    · have gd8p := eqIf gd8
                      refine Go.rx 20 { ws := [(1, { v := some (tb true), er := some (82, x2.2.2.2) }), (4, { v := some (tb true), er := some (82, x4.2) }), (8, { v := some (tb true) }), (12, { v := some (tb true) }), (17, { v := some (tb true) }), (21, { v := some (tb true) }), (25, { call := some { ids := [], S := [], M := [], R := ti (id x3.2.2.2), H' := [] } }), (26, { v := some (tb false) })] } [] [0] _ [(0, tb false)] [] hk rfl (by as_aux_lemma => kernel_rfl) (.cons (⟨rfl, rfl⟩ : (er 82 x2.2.2.2) = er 82 x2.2.2.2 ∧ (.leaf .nilIface : T) = .leaf .nilIface) (.cons (eb gd2) (.cons (⟨rfl, rfl⟩ : (er 82 x4.2) = er 82 x4.2 ∧ (.leaf .nilIface : T) = .leaf .nilIface) (.cons (eb gd3) (.cons trivial (.cons ((eqB32 x2.1 7).trans (eb gd4)) (.cons trivial (.cons ((eqB32 x4.1 7).trans (eb gd5)) (.cons trivial (.cons (eb gd6) (.cons trivial (.cons (eb gd7) (.cons (bursarylaw14_num_m x3.2.2.2) (.cons (by first | rfl | (simp only [T.ids, idsL, er_ids, List.append_nil, List.nil_append]; rfl) : subN (idsL [er 82 x3.2.2.2]) [] = true) (.cons trivial (.cons (eb gd8) .nil)))))))))))))))) ?_
                      intro k' hk'
                      refine Go.slotEq 0 (tb ((decide (x2.2.2.2 = 0)) && ((decide (x4.2 = 0)) && ((x2.1 == 7) && ((x4.1 == 7) && (((x2.2.1.length : Int) == 57) && ((x2.2.2.1 == 2) && (((id x3.2.2.2) == 4) && ((frame_Sectors 0) == 1))))))))) rfl (eb (andT gd2 (andT gd3 (andT gd4 (andT gd5 (andT gd6 (andT gd7 (andF gd8))))))).symm) ?_
                      exact J k' hk'
                  · have gd7p := eqIf gd7
                    refine Go.rx 20 { ws := [(1, { v := some (tb true), er := some (82, x2.2.2.2) }), (4, { v := some (tb true), er := some (82, x4.2) }), (8, { v := some (tb true) }), (12, { v := some (tb true) }), (17, { v := some (tb true) }), (21, { v := some (tb false) })] } [] [0] _ [(0, tb false)] [] hk rfl (by as_aux_lemma => kernel_rfl) (.cons (⟨rfl, rfl⟩ : (er 82 x2.2.2.2) = er 82 x2.2.2.2 ∧ (.leaf .nilIface : T) = .leaf .nilIface) (.cons (eb gd2) (.cons (⟨rfl, rfl⟩ : (er 82 x4.2) = er 82 x4.2 ∧ (.leaf .nilIface : T) = .leaf .nilIface) (.cons (eb gd3) (.cons trivial (.cons ((eqB32 x2.1 7).trans (eb gd4)) (.cons trivial (.cons ((eqB32 x4.1 7).trans (eb gd5)) (.cons trivial (.cons (eb gd6) (.cons trivial (.cons (eb gd7) .nil)))))))))))) ?_
                    intro k' hk'
                    refine Go.slotEq 0 (tb ((decide (x2.2.2.2 = 0)) && ((decide (x4.2 = 0)) && ((x2.1 == 7) && ((x4.1 == 7) && (((x2.2.1.length : Int) == 57) && ((x2.2.2.1 == 2) && (((id x3.2.2.2) == 4) && ((frame_Sectors 0) == 1))))))))) rfl (eb (andT gd2 (andT gd3 (andT gd4 (andT gd5 (andT gd6 (andF gd7)))))).symm) ?_
                    exact J k' hk'
                · have gd6p := eqIf gd6
                  refine Go.rx 20 { ws := [(1, { v := some (tb true), er := some (82, x2.2.2.2) }), (4, { v := some (tb true), er := some (82, x4.2) }), (8, { v := some (tb true) }), (12, { v := some (tb true) }), (17, { v := some (tb false) })] } [] [0] _ [(0, tb false)] [] hk rfl (by as_aux_lemma => kernel_rfl) (.cons (⟨rfl, rfl⟩ : (er 82 x2.2.2.2) = er 82 x2.2.2.2 ∧ (.leaf .nilIface : T) = .leaf .nilIface) (.cons (eb gd2) (.cons (⟨rfl, rfl⟩ : (er 82 x4.2) = er 82 x4.2 ∧ (.leaf .nilIface : T) = .leaf .nilIface) (.cons (eb gd3) (.cons trivial (.cons ((eqB32 x2.1 7).trans (eb gd4)) (.cons trivial (.cons ((eqB32 x4.1 7).trans (eb gd5)) (.cons trivial (.cons (eb gd6) .nil)))))))))) ?_
                  intro k' hk'
                  refine Go.slotEq 0 (tb ((decide (x2.2.2.2 = 0)) && ((decide (x4.2 = 0)) && ((x2.1 == 7) && ((x4.1 == 7) && (((x2.2.1.length : Int) == 57) && ((x2.2.2.1 == 2) && (((id x3.2.2.2) == 4) && ((frame_Sectors 0) == 1))))))))) rfl (eb (andT gd2 (andT gd3 (andT gd4 (andT gd5 (andF gd6))))).symm) ?_
                  exact J k' hk'
              · refine Go.rx 20 { ws := [(1, { v := some (tb true), er := some (82, x2.2.2.2) }), (4, { v := some (tb true), er := some (82, x4.2) }), (8, { v := some (tb true) }), (12, { v := some (tb false) })] } [] [0] _ [(0, tb false)] [] hk rfl (by as_aux_lemma => kernel_rfl) (.cons (⟨rfl, rfl⟩ : (er 82 x2.2.2.2) = er 82 x2.2.2.2 ∧ (.leaf .nilIface : T) = .leaf .nilIface) (.cons (eb gd2) (.cons (⟨rfl, rfl⟩ : (er 82 x4.2) = er 82 x4.2 ∧ (.leaf .nilIface : T) = .leaf .nilIface) (.cons (eb gd3) (.cons trivial (.cons ((eqB32 x2.1 7).trans (eb gd4)) (.cons trivial (.cons ((eqB32 x4.1 7).trans (eb gd5)) .nil)))))))) ?_
                intro k' hk'
                refine Go.slotEq 0 (tb ((decide (x2.2.2.2 = 0)) && ((decide (x4.2 = 0)) && ((x2.1 == 7) && ((x4.1 == 7) && (((x2.2.1.length : Int) == 57) && ((x2.2.2.1 == 2) && (((id x3.2.2.2) == 4) && ((frame_Sectors 0) == 1))))))))) rfl (eb (andT gd2 (andT gd3 (andT gd4 (andF gd5)))).symm) ?_
                exact J k' hk'
            · refine Go.rx 20 { ws := [(1, { v := some (tb true), er := some (82, x2.2.2.2) }), (4, { v := some (tb true), er := some (82, x4.2) }), (8, { v := some (tb false) })] } [] [0] _ [(0, tb false)] [] hk rfl (by as_aux_lemma => kernel_rfl) (.cons (⟨rfl, rfl⟩ : (er 82 x2.2.2.2) = er 82 x2.2.2.2 ∧ (.leaf .nilIface : T) = .leaf .nilIface) (.cons (eb gd2) (.cons (⟨rfl, rfl⟩ : (er 82 x4.2) = er 82 x4.2 ∧ (.leaf .nilIface : T) = .leaf .nilIface) (.cons (eb gd3) (.cons trivial (.cons ((eqB32 x2.1 7).trans (eb gd4)) .nil)))))) ?_
              intro k' hk'
              refine Go.slotEq 0 (tb ((decide (x2.2.2.2 = 0)) && ((decide (x4.2 = 0)) && ((x2.1 == 7) && ((x4.1 == 7) && (((x2.2.1.length : Int) == 57) && ((x2.2.2.1 == 2) && (((id x3.2.2.2) == 4) && ((frame_Sectors 0) == 1))))))))) rfl (eb (andT gd2 (andT gd3 (andF gd4))).symm) ?_
              exact J k' hk'
          · have gd3p := of_decide_eq_false gd3
            refine Go.rx 20 { ws := [(1, { v := some (tb true), er := some (82, x2.2.2.2) }), (4, { v := some (tb false), er := some (82, x4.2) })] } [] [0] _ [(0, tb false)] [] hk rfl (by as_aux_lemma => kernel_rfl) (.cons (⟨rfl, rfl⟩ : (er 82 x2.2.2.2) = er 82 x2.2.2.2 ∧ (.leaf .nilIface : T) = .leaf .nilIface) (.cons (eb gd2) (.cons (⟨rfl, rfl⟩ : (er 82 x4.2) = er 82 x4.2 ∧ (.leaf .nilIface : T) = .leaf .nilIface) (.cons (eb gd3) .nil)))) ?_
            intro k' hk'
            refine Go.slotEq 0 (tb ((decide (x2.2.2.2 = 0)) && ((decide (x4.2 = 0)) && ((x2.1 == 7) && ((x4.1 == 7) && (((x2.2.1.length : Int) == 57) && ((x2.2.2.1 == 2) && (((id x3.2.2.2) == 4) && ((frame_Sectors 0) == 1))))))))) rfl (eb (andT gd2 (andF gd3)).symm) ?_
            exact J k' hk'
        · have gd2p := of_decide_eq_false gd2
          refine Go.rx 20 { ws := [(1, { v := some (tb false), er := some (82, x2.2.2.2) })] } [] [0] _ [(0, tb false)] [] hk rfl (by as_aux_lemma => kernel_rfl) (.cons (⟨rfl, rfl⟩ : (er 82 x2.2.2.2) = er 82 x2.2.2.2 ∧ (.leaf .nilIface : T) = .leaf .nilIface) (.cons (eb gd2) .nil)) ?_
          intro k' hk'
          refine Go.slotEq 0 (tb ((decide (x2.2.2.2 = 0)) && ((decide (x4.2 = 0)) && ((x2.1 == 7) && ((x4.1 == 7) && (((x2.2.1.length : Int) == 57) && ((x2.2.2.1 == 2) && (((id x3.2.2.2) == 4) && ((frame_Sectors 0) == 1))))))))) rfl (eb (andF gd2).symm) ?_
          exact J k' hk'
  · intro hk J
    rcases Bool.eq_false_or_eq_true (!(decide (x1.2 = 0))) with gd1 | gd1
    · have gd1' : (decide (x1.2 = 0)) = false := ntT gd1
      have gd1'p := of_decide_eq_false gd1'
      refine Go.rx 20 { ws := [(1, { v := some (tb true), er := some (82, x1.2) })] } [] [1, 24] _ [(1, .sl 1 .shr x1.1.length (b8s .shr x1.1)), (24, tb true)] [] hk rfl (by as_aux_lemma => kernel_rfl) (.cons (⟨rfl, rfl⟩ : (er 82 x1.2) = er 82 x1.2 ∧ (.leaf .nilIface : T) = .leaf .nilIface) (.cons (eb gd1) .nil)) ?_
      intro k' hk'
      refine Go.slotEq 24 (tb ((!(decide (x1.2 = 0))) || ((x1.1.length : Int) != 2))) rfl (eb (orT gd1).symm) ?_
      exact J k' hk'
    · have gd1' : (decide (x1.2 = 0)) = true := ntF gd1
      have gd1'p := of_decide_eq_true gd1'
      refine Go.rx 20 { ws := [(1, { v := some (tb false), er := some (82, x1.2) })] } [] [1, 24] _ [(1, .sl 1 .shr x1.1.length (b8s .shr x1.1)), (24, tb ((x1.1.length : Int) != 2))] [] hk rfl (by as_aux_lemma => kernel_rfl) (.cons (⟨rfl, rfl⟩ : (er 82 x1.2) = er 82 x1.2 ∧ (.leaf .nilIface : T) = .leaf .nilIface) (.cons (eb gd1) (.cons trivial .nil))) ?_
      intro k' hk'
      refine Go.slotEq 24 (tb ((!(decide (x1.2 = 0))) || ((x1.1.length : Int) != 2))) rfl (eb (orF gd1 rfl).symm) ?_
      exact J k' hk'
noncomputable def bursarylaw14_FrameForms_k1 (a0 : UInt32) (x2 : List (List UInt8) × Int) (x3 : List (List UInt8) × Int) (x4 : UInt32 × List UInt8 × Int × Int) (x5 : UInt32 × List UInt8 × Int × Int) : Bool :=
  bnd (bursarylaw14_lists x2.1 x3.1) fun x6 =>
  bnd (id x2.2) fun x7 =>
  bnd (id x4.2.2.2) fun x8 =>
  bnd (frame_Sectors ((a0.toNat : Int) - 100)) fun x9 =>
  bnd (bursaryref14_Sectors ((a0.toNat : Int) - 100)) fun x10 =>
  x6 && ((x7 == x3.2) && ((x4.1 == x5.1) && ((x4.2.1 == x5.2.1) && ((x4.2.2.1 == x5.2.2.1) && ((x8 == x5.2.2.2) && ((x9 == x10) && bursarylaw14_sure))))))
noncomputable def bursarylaw14_FrameForms_l1 (a2 : List (List UInt8)) : Nat → Int → Lo Unit Bool
  | 0, _ => .brk default
  | ml1 + 1, t191 =>
    bif decide (t191 < (a2.length : Int)) then
      bnd (frame_Seq (a2.getD t191.toNat [])) fun x11 =>
      bnd (bursaryref14_Seq (a2.getD t191.toNat [])) fun x12 =>
      bnd (id x11.2) fun x13 =>
      bif (x11.1 != x12.1) || (x13 != x12.2) then
        Lo.ret false
      else
        bursarylaw14_FrameForms_l1 a2 ml1 (t191 + 1)
    else
      Lo.brk ()
noncomputable def bursarylaw14_FrameForms (a0 : UInt32) (a1 : List UInt8) (a2 : List (List UInt8)) : Bool :=
  bnd (bursarylaw14_small a2) fun x1 =>
  bif bif decide ((a1.length : Int) > 900) then (decide ((a1.length : Int) ≤ 14280)) || (!x1) else !x1 then
    bursarylaw14_sure
  else
    bnd (frame_Split a0 a1) fun x2 =>
    bnd (bursaryref14_Split a0 a1) fun x3 =>
    bnd (frame_Join a2) fun x4 =>
    bnd (bursaryref14_Join a2) fun x5 =>
    Lo.el (bursarylaw14_FrameForms_l1 a2 (((a2.length : Int) - (0 : Int)).toNat + 1) 0) (fun z : Unit => bursarylaw14_FrameForms_k1 a0 x2 x3 x4 x5)
def bursarylaw14_FrameForms_enc (x : Bool) : T × List (Nat × List T) := (tb x, [])
theorem bursarylaw14_FrameForms_m {g_a1 : Tag} {g_a2 : Tag} (a0 : UInt32) (a1 : List UInt8) (a2 : List (List UInt8)) : Meets Tryd.prog 3 [t32 a0, .sl 1 g_a1 a1.length (u8s a1), .sl 1 g_a2 a2.length (b8s .shr a2)] [] [] (tb (bursarylaw14_FrameForms a0 a1 a2)) [] := by
  refine Meets.enterX (E := E) (N := 141) (enc := bursarylaw14_FrameForms_enc) (x := (bursarylaw14_FrameForms a0 a1 a2)) Tryd.func3 Tryd.call3 rfl rfl ?_
  intro Γ k hk
  refine Go.rx 20 {} [] [0, 1, 2] _ [(0, t32 a0), (1, .sl 1 g_a1 a1.length (u8s a1)), (2, .sl 1 g_a2 a2.length (b8s .shr a2))] [] hk rfl (by as_aux_lemma => kernel_rfl) .nil ?_
  clear hk; intro k hk
  refine Go.regJ 20 [(0, t32 a0), (1, .sl 1 g_a1 a1.length (u8s a1)), (2, .sl 1 g_a2 a2.length (b8s .shr a2)), (36, tb (bif decide ((a1.length : Int) > 900) then (decide ((a1.length : Int) ≤ 14280)) || (!(bursarylaw14_small a2)) else !(bursarylaw14_small a2)))] [] hk rfl ?_ ?_
  · clear hk; intro k hk
    refine Go.bnd (Pf := (PostX Γ bursarylaw14_FrameForms_enc)) (v := (bursarylaw14_small a2)) (fun x1 => [(0, t32 a0), (1, .sl 1 g_a1 a1.length (u8s a1)), (2, .sl 1 g_a2 a2.length (b8s .shr a2)), (36, tb (bif decide ((a1.length : Int) > 900) then (decide ((a1.length : Int) ≤ 14280)) || (!x1) else !x1))]) (fun x1 => []) ?_
    intro x1 hx1
    have fx1 := small_fact a2
    rw [← hx1] at fx1
    refine Go.br 20 (Pf := (PostX Γ bursarylaw14_FrameForms_enc)) hk rfl rfl ?_ ?_ <;> clear hk <;> intro ct1 k hk
    · refine Go.rx 20 { ws := [(0, { call := some { ids := [], S := [], M := [], R := tb bursarylaw14_sure, H' := [] } })] } [] [6] _ [(6, tb bursarylaw14_sure)] [] hk rfl (by as_aux_lemma => kernel_rfl) (.cons (bursarylaw14_sure_m) (.cons (by first | rfl | (simp only [T.ids, idsL, er_ids, List.append_nil, List.nil_append]; rfl) : subN (idsL []) [] = true) .nil)) ?_
      clear hk; intro k hk
      exact Go.lvx 20 [] _ [tb bursarylaw14_sure] Tryd.func3 hk rfl (by as_aux_lemma => kernel_rfl) .nil (T.Le.of_eq rfl) rfl rfl .nil
    · refine Go.rx 20 { ws := [(2, { call := some { ids := [], S := [], M := [], R := .tup [.sl 1 .shr ((frame_Split a0 a1).1).length (b8s .shr ((frame_Split a0 a1).1)), er 82 ((frame_Split a0 a1).2)], H' := [] } })] } [] [0, 1, 2, 7, 8] _ [(0, t32 a0), (1, .sl 1 g_a1 a1.length (u8s a1)), (2, .sl 1 g_a2 a2.length (b8s .shr a2)), (7, .sl 1 .shr ((frame_Split a0 a1).1).length (b8s .shr ((frame_Split a0 a1).1))), (8, er 82 ((frame_Split a0 a1).2))] [] hk rfl (by as_aux_lemma => kernel_rfl) (.cons (frame_Split_m (g_a1 := g_a1) a0 a1) (.cons (by first | rfl | (simp only [T.ids, idsL, er_ids, List.append_nil, List.nil_append]; rfl) : subN (idsL [t32 a0, .sl 1 g_a1 a1.length (u8s a1)]) [] = true) .nil)) ?_
      clear hk; intro k hk
      refine Go.bnd (Pf := (PostX Γ bursarylaw14_FrameForms_enc)) (v := (frame_Split a0 a1)) (fun x2 => [(0, t32 a0), (1, .sl 1 g_a1 a1.length (u8s a1)), (2, .sl 1 g_a2 a2.length (b8s .shr a2)), (7, .sl 1 .shr x2.1.length (b8s .shr x2.1)), (8, er 82 x2.2)]) (fun x2 => []) ?_
      intro x2 hx2
      have fx2 := split_fact a0 a1
      rw [← hx2] at fx2
      obtain ⟨fx20, fx21, fx22⟩ := fx2
      refine Go.rx 20 { ws := [(2, { call := some { ids := [], S := [], M := [], R := .tup [.sl 1 .shr ((bursaryref14_Split a0 a1).1).length (b8s .shr ((bursaryref14_Split a0 a1).1)), ti ((bursaryref14_Split a0 a1).2)], H' := [] } })] } [] [0, 2, 7, 8, 9, 10] _ [(0, t32 a0), (2, .sl 1 g_a2 a2.length (b8s .shr a2)), (7, .sl 1 .shr x2.1.length (b8s .shr x2.1)), (8, er 82 x2.2), (9, .sl 1 .shr ((bursaryref14_Split a0 a1).1).length (b8s .shr ((bursaryref14_Split a0 a1).1))), (10, ti ((bursaryref14_Split a0 a1).2))] [] hk rfl (by as_aux_lemma => kernel_rfl) (.cons (bursaryref14_Split_m (g_a1 := g_a1) a0 a1) (.cons (by first | rfl | (simp only [T.ids, idsL, er_ids, List.append_nil, List.nil_append]; rfl) : subN (idsL [t32 a0, .sl 1 g_a1 a1.length (u8s a1)]) [] = true) .nil)) ?_
      clear hk; intro k hk
      refine Go.bnd (Pf := (PostX Γ bursarylaw14_FrameForms_enc)) (v := (bursaryref14_Split a0 a1)) (fun x3 => [(0, t32 a0), (2, .sl 1 g_a2 a2.length (b8s .shr a2)), (7, .sl 1 .shr x2.1.length (b8s .shr x2.1)), (8, er 82 x2.2), (9, .sl 1 .shr x3.1.length (b8s .shr x3.1)), (10, ti x3.2)]) (fun x3 => []) ?_
      intro x3 hx3
      refine Go.rx 20 { ws := [(1, { call := some { ids := [], S := [], M := [], R := .tup [t32 ((frame_Join a2).1), .sl 1 .shr ((frame_Join a2).2.1).length (u8s ((frame_Join a2).2.1)), ti ((frame_Join a2).2.2.1), er 82 ((frame_Join a2).2.2.2)], H' := [] } })] } [] [0, 2, 7, 8, 9, 10, 11, 12, 13, 14] _ [(0, t32 a0), (2, .sl 1 g_a2 a2.length (b8s .shr a2)), (7, .sl 1 .shr x2.1.length (b8s .shr x2.1)), (8, er 82 x2.2), (9, .sl 1 .shr x3.1.length (b8s .shr x3.1)), (10, ti x3.2), (11, t32 ((frame_Join a2).1)), (12, .sl 1 .shr ((frame_Join a2).2.1).length (u8s ((frame_Join a2).2.1))), (13, ti ((frame_Join a2).2.2.1)), (14, er 82 ((frame_Join a2).2.2.2))] [] hk rfl (by as_aux_lemma => kernel_rfl) (.cons (frame_Join_m (g_a0 := g_a2) a2 (by exact (fx1 (by revert ct1; cases x1 <;> simp)).2)) (.cons (by first | rfl | (simp only [T.ids, idsL, er_ids, List.append_nil, List.nil_append]; rfl) : subN (idsL [.sl 1 g_a2 a2.length (b8s .shr a2)]) [] = true) .nil)) ?_
      clear hk; intro k hk
      refine Go.bnd (Pf := (PostX Γ bursarylaw14_FrameForms_enc)) (v := (frame_Join a2)) (fun x4 => [(0, t32 a0), (2, .sl 1 g_a2 a2.length (b8s .shr a2)), (7, .sl 1 .shr x2.1.length (b8s .shr x2.1)), (8, er 82 x2.2), (9, .sl 1 .shr x3.1.length (b8s .shr x3.1)), (10, ti x3.2), (11, t32 x4.1), (12, .sl 1 .shr x4.2.1.length (u8s x4.2.1)), (13, ti x4.2.2.1), (14, er 82 x4.2.2.2)]) (fun x4 => []) ?_
      intro x4 hx4
      refine Go.rx 20 { ws := [(1, { call := some { ids := [], S := [], M := [], R := .tup [t32 ((bursaryref14_Join a2).1), .sl 1 .shr ((bursaryref14_Join a2).2.1).length (u8s ((bursaryref14_Join a2).2.1)), ti ((bursaryref14_Join a2).2.2.1), ti ((bursaryref14_Join a2).2.2.2)], H' := [] } })] } [] [0, 2, 7, 8, 9, 10, 11, 12, 13, 14, 15, 16, 17, 18] _ [(0, t32 a0), (2, .sl 1 g_a2 a2.length (b8s .shr a2)), (7, .sl 1 .shr x2.1.length (b8s .shr x2.1)), (8, er 82 x2.2), (9, .sl 1 .shr x3.1.length (b8s .shr x3.1)), (10, ti x3.2), (11, t32 x4.1), (12, .sl 1 .shr x4.2.1.length (u8s x4.2.1)), (13, ti x4.2.2.1), (14, er 82 x4.2.2.2), (15, t32 ((bursaryref14_Join a2).1)), (16, .sl 1 .shr ((bursaryref14_Join a2).2.1).length (u8s ((bursaryref14_Join a2).2.1))), (17, ti ((bursaryref14_Join a2).2.2.1)), (18, ti ((bursaryref14_Join a2).2.2.2))] [] hk rfl (by as_aux_lemma => kernel_rfl) (.cons (bursaryref14_Join_m (g_a0 := g_a2) a2) (.cons (by first | rfl | (simp only [T.ids, idsL, er_ids, List.append_nil, List.nil_append]; rfl) : subN (idsL [.sl 1 g_a2 a2.length (b8s .shr a2)]) [] = true) .nil)) ?_
      clear hk; intro k hk
      refine Go.bnd (Pf := (PostX Γ bursarylaw14_FrameForms_enc)) (v := (bursaryref14_Join a2)) (fun x5 => [(0, t32 a0), (2, .sl 1 g_a2 a2.length (b8s .shr a2)), (7, .sl 1 .shr x2.1.length (b8s .shr x2.1)), (8, er 82 x2.2), (9, .sl 1 .shr x3.1.length (b8s .shr x3.1)), (10, ti x3.2), (11, t32 x4.1), (12, .sl 1 .shr x4.2.1.length (u8s x4.2.1)), (13, ti x4.2.2.1), (14, er 82 x4.2.2.2), (15, t32 x5.1), (16, .sl 1 .shr x5.2.1.length (u8s x5.2.1)), (17, ti x5.2.2.1), (18, ti x5.2.2.2)]) (fun x5 => []) ?_
      intro x5 hx5
      refine Go.rx 20 {} [] [0, 2, 7, 8, 9, 10, 11, 12, 13, 14, 15, 16, 17, 18, 19] _ [(0, t32 a0), (2, .sl 1 g_a2 a2.length (b8s .shr a2)), (7, .sl 1 .shr x2.1.length (b8s .shr x2.1)), (8, er 82 x2.2), (9, .sl 1 .shr x3.1.length (b8s .shr x3.1)), (10, ti x3.2), (11, t32 x4.1), (12, .sl 1 .shr x4.2.1.length (u8s x4.2.1)), (13, ti x4.2.2.1), (14, er 82 x4.2.2.2), (15, t32 x5.1), (16, .sl 1 .shr x5.2.1.length (u8s x5.2.1)), (17, ti x5.2.2.1), (18, ti x5.2.2.2), (19, ti 0)] [] hk rfl (by as_aux_lemma => kernel_rfl) .nil ?_
      clear hk; intro k hk
      refine Go.loopX 20 hk rfl ?_
      clear hk; intro kl1 kxl1 hl1 hxl1
      have Xl1 : ∀ (_ : True), Go E Γ 3 141 [] ((PostX Γ bursarylaw14_FrameForms_enc) (bursarylaw14_FrameForms_k1 a0 x2 x3 x4 x5)) kxl1 (stL [(0, t32 a0), (7, .sl 1 .shr x2.1.length (b8s .shr x2.1)), (8, er 82 x2.2), (9, .sl 1 .shr x3.1.length (b8s .shr x3.1)), (10, ti x3.2), (11, t32 x4.1), (12, .sl 1 .shr x4.2.1.length (u8s x4.2.1)), (13, ti x4.2.2.1), (14, er 82 x4.2.2.2), (15, t32 x5.1), (16, .sl 1 .shr x5.2.1.length (u8s x5.2.1)), (17, ti x5.2.2.1), (18, ti x5.2.2.2)] []) := by
        intro _
        refine Go.regJ 20 [(6, tb ((bursarylaw14_lists x2.1 x3.1) && (((id x2.2) == x3.2) && ((x4.1 == x5.1) && ((x4.2.1 == x5.2.1) && ((x4.2.2.1 == x5.2.2.1) && (((id x4.2.2.2) == x5.2.2.2) && (((frame_Sectors ((a0.toNat : Int) - 100)) == (bursaryref14_Sectors ((a0.toNat : Int) - 100))) && bursarylaw14_sure))))))))] [] hxl1 rfl ?_ ?_
        · clear hxl1; intro kxl1 hxl1
          refine Go.bnd (Pf := (PostX Γ bursarylaw14_FrameForms_enc)) (v := (bursarylaw14_lists x2.1 x3.1)) (fun x6 => [(6, tb (x6 && (((id x2.2) == x3.2) && ((x4.1 == x5.1) && ((x4.2.1 == x5.2.1) && ((x4.2.2.1 == x5.2.2.1) && (((id x4.2.2.2) == x5.2.2.2) && (((frame_Sectors ((a0.toNat : Int) - 100)) == (bursaryref14_Sectors ((a0.toNat : Int) - 100))) && bursarylaw14_sure))))))))]) (fun x6 => []) ?_
          intro x6 hx6
          refine Go.bnd (Pf := (PostX Γ bursarylaw14_FrameForms_enc)) (v := (id x2.2)) (fun x7 => [(6, tb (x6 && ((x7 == x3.2) && ((x4.1 == x5.1) && ((x4.2.1 == x5.2.1) && ((x4.2.2.1 == x5.2.2.1) && (((id x4.2.2.2) == x5.2.2.2) && (((frame_Sectors ((a0.toNat : Int) - 100)) == (bursaryref14_Sectors ((a0.toNat : Int) - 100))) && bursarylaw14_sure))))))))]) (fun x7 => []) ?_
          intro x7 hx7
          refine Go.bnd (Pf := (PostX Γ bursarylaw14_FrameForms_enc)) (v := (id x4.2.2.2)) (fun x8 => [(6, tb (x6 && ((x7 == x3.2) && ((x4.1 == x5.1) && ((x4.2.1 == x5.2.1) && ((x4.2.2.1 == x5.2.2.1) && ((x8 == x5.2.2.2) && (((frame_Sectors ((a0.toNat : Int) - 100)) == (bursaryref14_Sectors ((a0.toNat : Int) - 100))) && bursarylaw14_sure))))))))]) (fun x8 => []) ?_
          intro x8 hx8
          refine Go.bnd (Pf := (PostX Γ bursarylaw14_FrameForms_enc)) (v := (frame_Sectors ((a0.toNat : Int) - 100))) (fun x9 => [(6, tb (x6 && ((x7 == x3.2) && ((x4.1 == x5.1) && ((x4.2.1 == x5.2.1) && ((x4.2.2.1 == x5.2.2.1) && ((x8 == x5.2.2.2) && ((x9 == (bursaryref14_Sectors ((a0.toNat : Int) - 100))) && bursarylaw14_sure))))))))]) (fun x9 => []) ?_
          intro x9 hx9
          have fx9 := sectors_fact ((a0.toNat : Int) - 100)
          rw [← hx9] at fx9
          obtain ⟨fx90, fx91, fx92, fx93⟩ := fx9
          refine Go.bnd (Pf := (PostX Γ bursarylaw14_FrameForms_enc)) (v := (bursaryref14_Sectors ((a0.toNat : Int) - 100))) (fun x10 => [(6, tb (x6 && ((x7 == x3.2) && ((x4.1 == x5.1) && ((x4.2.1 == x5.2.1) && ((x4.2.2.1 == x5.2.2.1) && ((x8 == x5.2.2.2) && ((x9 == x10) && bursarylaw14_sure))))))))]) (fun x10 => []) ?_
          intro x10 hx10
          have fx10 := sectors_fact ((a0.toNat : Int) - 100)
          rw [sectors_ref, ← hx10] at fx10
          obtain ⟨fx100, fx101, fx102, fx103⟩ := fx10
          exact Go.lvx 20 [] _ [tb (x6 && ((x7 == x3.2) && ((x4.1 == x5.1) && ((x4.2.1 == x5.2.1) && ((x4.2.2.1 == x5.2.2.1) && ((x8 == x5.2.2.2) && ((x9 == x10) && bursarylaw14_sure)))))))] Tryd.func3 hxl1 rfl (by as_aux_lemma => kernel_rfl) .nil (T.Le.of_eq rfl) rfl rfl .nil
        · intro hxl1 J
          rcases Bool.eq_false_or_eq_true (bursarylaw14_lists x2.1 x3.1) with gd3 | gd3
          · rcases Bool.eq_false_or_eq_true ((id x2.2) == x3.2) with gd4 | gd4
            · have gd4p := eqIt gd4
              rcases Bool.eq_false_or_eq_true (x4.1 == x5.1) with gd5 | gd5
              · rcases Bool.eq_false_or_eq_true (x4.2.1 == x5.2.1) with gd6 | gd6
                · rcases Bool.eq_false_or_eq_true (x4.2.2.1 == x5.2.2.1) with gd7 | gd7
                  · have gd7p := eqIt gd7
                    rcases Bool.eq_false_or_eq_true ((id x4.2.2.2) == x5.2.2.2) with gd8 | gd8
                    · have gd8p := eqIt gd8
                      rcases Bool.eq_false_or_eq_true ((frame_Sectors ((a0.toNat : Int) - 100)) == (bursaryref14_Sectors ((a0.toNat : Int) - 100))) with gd9 | gd9
                      · have gd9p := eqIt gd9
                        have := lt32 a0
                        have := lt32 a0
                        refine Go.rx 20 { ws := [(2, { v := some (tb true), call := some { ids := [], S := [], M := [], R := tb (bursarylaw14_lists x2.1 x3.1), H' := [] } }), (5, { call := some { ids := [], S := [], M := [], R := ti (id x2.2), H' := [] } }), (7, { v := some (tb true) }), (12, { v := some (tb true) }), (16, { b := x4.2.1 }), (18, { b := x5.2.1 }), (19, { v := some (tb true) }), (24, { v := some (tb true) }), (28, { call := some { ids := [], S := [], M := [], R := ti (id x4.2.2.2), H' := [] } }), (30, { v := some (tb true) }), (34, { v := some (ti (a0.toNat : Int)) }), (35, { v := some (ti ((a0.toNat : Int) - 100)) }), (36, { call := some { ids := [], S := [], M := [], R := ti (frame_Sectors ((a0.toNat : Int) - 100)), H' := [] } }), (38, { v := some (ti (a0.toNat : Int)) }), (39, { v := some (ti ((a0.toNat : Int) - 100)) }), (40, { call := some { ids := [], S := [], M := [], R := ti (bursaryref14_Sectors ((a0.toNat : Int) - 100)), H' := [] } }), (41, { v := some (tb true) }), (44, { call := some { ids := [], S := [], M := [], R := tb bursarylaw14_sure, H' := [] } })] } [] [6] _ [(6, tb bursarylaw14_sure)] [] hxl1 rfl (by as_aux_lemma => kernel_rfl) (.cons (bursarylaw14_lists_m (g_a := .shr) (g_b := .shr) x2.1 x3.1 (by omega)) (.cons (by first | rfl | (simp only [T.ids, idsL, er_ids, List.append_nil, List.nil_append]; rfl) : subN (idsL [.sl 1 .shr x2.1.length (b8s .shr x2.1), .sl 1 .shr x3.1.length (b8s .shr x3.1)]) [] = true) (.cons (eb gd3) (.cons (bursarylaw14_num_m x2.2) (.cons (by first | rfl | (simp only [T.ids, idsL, er_ids, List.append_nil, List.nil_append]; rfl) : subN (idsL [er 82 x2.2]) [] = true) (.cons trivial (.cons (eb gd4) (.cons trivial (.cons ((eqB32 x4.1 x5.1).trans (eb gd5)) (.cons (rfl : u8s x4.2.1 = u8s x4.2.1) (.cons (rfl : u8s x5.2.1 = u8s x5.2.1) (.cons trivial (.cons ((s_eq x4.2.1 x5.2.1).trans (eb gd6)) (.cons trivial (.cons (eb gd7) (.cons (bursarylaw14_num_m x4.2.2.2) (.cons (by first | rfl | (simp only [T.ids, idsL, er_ids, List.append_nil, List.nil_append]; rfl) : subN (idsL [er 82 x4.2.2.2]) [] = true) (.cons trivial (.cons (eb gd8) (.cons (cv32_i a0) (.cons trivial (.cons (iw ((a0.toNat : Int) - 100) (by omega)) (.cons (frame_Sectors_m ((a0.toNat : Int) - 100)) (.cons (by first | rfl | (simp only [T.ids, idsL, er_ids, List.append_nil, List.nil_append]; rfl) : subN (idsL [ti ((a0.toNat : Int) - 100)]) [] = true) (.cons (cv32_i a0) (.cons trivial (.cons (iw ((a0.toNat : Int) - 100) (by omega)) (.cons (bursaryref14_Sectors_m ((a0.toNat : Int) - 100)) (.cons (by first | rfl | (simp only [T.ids, idsL, er_ids, List.append_nil, List.nil_append]; rfl) : subN (idsL [ti ((a0.toNat : Int) - 100)]) [] = true) (.cons trivial (.cons (eb gd9) (.cons (bursarylaw14_sure_m) (.cons (by first | rfl | (simp only [T.ids, idsL, er_ids, List.append_nil, List.nil_append]; rfl) : subN (idsL []) [] = true) .nil))))))))))))))))))))))))))))))))) ?_
                        intro k' hk'
                        refine Go.slotEq 6 (tb ((bursarylaw14_lists x2.1 x3.1) && (((id x2.2) == x3.2) && ((x4.1 == x5.1) && ((x4.2.1 == x5.2.1) && ((x4.2.2.1 == x5.2.2.1) && (((id x4.2.2.2) == x5.2.2.2) && (((frame_Sectors ((a0.toNat : Int) - 100)) == (bursaryref14_Sectors ((a0.toNat : Int) - 100))) && bursarylaw14_sure)))))))) rfl (eb (andT gd3 (andT gd4 (andT gd5 (andT gd6 (andT gd7 (andT gd8 (andT gd9 rfl))))))).symm) ?_
                        exact J k' hk'
                      · have gd9p := eqIf gd9
                        have := lt32 a0
                        have := lt32 a0
                        refine Go.rx 20 { ws := [(2, { v := some (tb true), call := some { ids := [], S := [], M := [], R := tb (bursarylaw14_lists x2.1 x3.1), H' := [] } }), (5, { call := some { ids := [], S := [], M := [], R := ti (id x2.2), H' := [] } }), (7, { v := some (tb true) }), (12, { v := some (tb true) }), (16, { b := x4.2.1 }), (18, { b := x5.2.1 }), (19, { v := some (tb true) }), (24, { v := some (tb true) }), (28, { call := some { ids := [], S := [], M := [], R := ti (id x4.2.2.2), H' := [] } }), (30, { v := some (tb true) }), (34, { v := some (ti (a0.toNat : Int)) }), (35, { v := some (ti ((a0.toNat : Int) - 100)) }), (36, { call := some { ids := [], S := [], M := [], R := ti (frame_Sectors ((a0.toNat : Int) - 100)), H' := [] } }), (38, { v := some (ti (a0.toNat : Int)) }), (39, { v := some (ti ((a0.toNat : Int) - 100)) }), (40, { call := some { ids := [], S := [], M := [], R := ti (bursaryref14_Sectors ((a0.toNat : Int) - 100)), H' := [] } }), (41, { v := some (tb false) })] } [] [6] _ [(6, tb false)] [] hxl1 rfl (by as_aux_lemma => kernel_rfl) (.cons (bursarylaw14_lists_m (g_a := .shr) (g_b := .shr) x2.1 x3.1 (by omega)) (.cons (by first | rfl | (simp only [T.ids, idsL, er_ids, List.append_nil, List.nil_append]; rfl) : subN (idsL [.sl 1 .shr x2.1.length (b8s .shr x2.1), .sl 1 .shr x3.1.length (b8s .shr x3.1)]) [] = true) (.cons (eb gd3) (.cons (bursarylaw14_num_m x2.2) (.cons (by first | rfl | (simp only [T.ids, idsL, er_ids, List.append_nil, List.nil_append]; rfl) : subN (idsL [er 82 x2.2]) [] = true) (.cons trivial (.cons (eb gd4) (.cons trivial (.cons ((eqB32 x4.1 x5.1).trans (eb gd5)) (.cons (rfl : u8s x4.2.1 = u8s x4.2.1) (.cons (rfl : u8s x5.2.1 = u8s x5.2.1) (.cons trivial (.cons ((s_eq x4.2.1 x5.2.1).trans (eb gd6)) (.cons trivial (.cons (eb gd7) (.cons (bursarylaw14_num_m x4.2.2.2) (.cons (by first | rfl | (simp only [T.ids, idsL, er_ids, List.append_nil, List.nil_append]; rfl) : subN (idsL [er 82 x4.2.2.2]) [] = true) (.cons trivial (.cons (eb gd8) (.cons (cv32_i a0) (.cons trivial (.cons (iw ((a0.toNat : Int) - 100) (by omega)) (.cons (frame_Sectors_m ((a0.toNat : Int) - 100)) (.cons (by first | rfl | (simp only [T.ids, idsL, er_ids, List.append_nil, List.nil_append]; rfl) : subN (idsL [ti ((a0.toNat : Int) - 100)]) [] = true) (.cons (cv32_i a0) (.cons trivial (.cons (iw ((a0.toNat : Int) - 100) (by omega)) (.cons (bursaryref14_Sectors_m ((a0.toNat : Int) - 100)) (.cons (by first | rfl | (simp only [T.ids, idsL, er_ids, List.append_nil, List.nil_append]; rfl) : subN (idsL [ti ((a0.toNat : Int) - 100)]) [] = true) (.cons trivial (.cons (eb gd9) .nil))))))))))))))))))))))))))))))) ?_
                        intro k' hk'
                        refine Go.slotEq 6 (tb ((bursarylaw14_lists x2.1 x3.1) && (((id x2.2) == x3.2) && ((x4.1 == x5.1) && ((x4.2.1 == x5.2.1) && ((x4.2.2.1 == x5.2.2.1) && (((id x4.2.2.2) == x5.2.2.2) && (((frame_Sectors ((a0.toNat : Int) - 100)) == (bursaryref14_Sectors ((a0.toNat : Int) - 100))) && bursarylaw14_sure)))))))) rfl (eb (andT gd3 (andT gd4 (andT gd5 (andT gd6 (andT gd7 (andT gd8 (andF gd9))))))).symm) ?_
                        exact J k' hk'
                    · have gd8p := eqIf gd8
                      refine Go.rx 20 { ws := [(2, { v := some (tb true), call := some { ids := [], S := [], M := [], R := tb (bursarylaw14_lists x2.1 x3.1), H' := [] } }), (5, { call := some { ids := [], S := [], M := [], R := ti (id x2.2), H' := [] } }), (7, { v := some (tb true) }), (12, { v := some (tb true) }), (16, { b := x4.2.1 }), (18, { b := x5.2.1 }), (19, { v := some (tb true) }), (24, { v := some (tb true) }), (28, { call := some { ids := [], S := [], M := [], R := ti (id x4.2.2.2), H' := [] } }), (30, { v := some (tb false) })] } [] [6] _ [(6, tb false)] [] hxl1 rfl (by as_aux_lemma => kernel_rfl) (.cons (bursarylaw14_lists_m (g_a := .shr) (g_b := .shr) x2.1 x3.1 (by omega)) (.cons (by first | rfl | (simp only [T.ids, idsL, er_ids, List.append_nil, List.nil_append]; rfl) : subN (idsL [.sl 1 .shr x2.1.length (b8s .shr x2.1), .sl 1 .shr x3.1.length (b8s .shr x3.1)]) [] = true) (.cons (eb gd3) (.cons (bursarylaw14_num_m x2.2) (.cons (by first | rfl | (simp only [T.ids, idsL, er_ids, List.append_nil, List.nil_append]; rfl) : subN (idsL [er 82 x2.2]) [] = true) (.cons trivial (.cons (eb gd4) (.cons trivial (.cons ((eqB32 x4.1 x5.1).trans (eb gd5)) (.cons (rfl : u8s x4.2.1 = u8s x4.2.1) (.cons (rfl : u8s x5.2.1 = u8s x5.2.1) (.cons trivial (.cons ((s_eq x4.2.1 x5.2.1).trans (eb gd6)) (.cons trivial (.cons (eb gd7) (.cons (bursarylaw14_num_m x4.2.2.2) (.cons (by first | rfl | (simp only [T.ids, idsL, er_ids, List.append_nil, List.nil_append]; rfl) : subN (idsL [er 82 x4.2.2.2]) [] = true) (.cons trivial (.cons (eb gd8) .nil))))))))))))))))))) ?_
                      intro k' hk'
                      refine Go.slotEq 6 (tb ((bursarylaw14_lists x2.1 x3.1) && (((id x2.2) == x3.2) && ((x4.1 == x5.1) && ((x4.2.1 == x5.2.1) && ((x4.2.2.1 == x5.2.2.1) && (((id x4.2.2.2) == x5.2.2.2) && (((frame_Sectors ((a0.toNat : Int) - 100)) == (bursaryref14_Sectors ((a0.toNat : Int) - 100))) && bursarylaw14_sure)))))))) rfl (eb (andT gd3 (andT gd4 (andT gd5 (andT gd6 (andT gd7 (andF gd8)))))).symm) ?_
                      exact J k' hk'
                  · have gd7p := eqIf gd7
                    refine Go.rx 20 { ws := [(2, { v := some (tb true), call := some { ids := [], S := [], M := [], R := tb (bursarylaw14_lists x2.1 x3.1), H' := [] } }), (5, { call := some { ids := [], S := [], M := [], R := ti (id x2.2), H' := [] } }), (7, { v := some (tb true) }), (12, { v := some (tb true) }), (16, { b := x4.2.1 }), (18, { b := x5.2.1 }), (19, { v := some (tb true) }), (24, { v := some (tb false) })] } [] [6] _ [(6, tb false)] [] hxl1 rfl (by as_aux_lemma => kernel_rfl) (.cons (bursarylaw14_lists_m (g_a := .shr) (g_b := .shr) x2.1 x3.1 (by omega)) (.cons (by first | rfl | (simp only [T.ids, idsL, er_ids, List.append_nil, List.nil_append]; rfl) : subN (idsL [.sl 1 .shr x2.1.length (b8s .shr x2.1), .sl 1 .shr x3.1.length (b8s .shr x3.1)]) [] = true) (.cons (eb gd3) (.cons (bursarylaw14_num_m x2.2) (.cons (by first | rfl | (simp only [T.ids, idsL, er_ids, List.append_nil, List.nil_append]; rfl) : subN (idsL [er 82 x2.2]) [] = true) (.cons trivial (.cons (eb gd4) (.cons trivial (.cons ((eqB32 x4.1 x5.1).trans (eb gd5)) (.cons (rfl : u8s x4.2.1 = u8s x4.2.1) (.cons (rfl : u8s x5.2.1 = u8s x5.2.1) (.cons trivial (.cons ((s_eq x4.2.1 x5.2.1).trans (eb gd6)) (.cons trivial (.cons (eb gd7) .nil))))))))))))))) ?_
                    intro k' hk'
                    refine Go.slotEq 6 (tb ((bursarylaw14_lists x2.1 x3.1) && (((id x2.2) == x3.2) && ((x4.1 == x5.1) && ((x4.2.1 == x5.2.1) && ((x4.2.2.1 == x5.2.2.1) && (((id x4.2.2.2) == x5.2.2.2) && (((frame_Sectors ((a0.toNat : Int) - 100)) == (bursaryref14_Sectors ((a0.toNat : Int) - 100))) && bursarylaw14_sure)))))))) rfl (eb (andT gd3 (andT gd4 (andT gd5 (andT gd6 (andF gd7))))).symm) ?_
                    exact J k' hk'
                · refine Go.rx 20 { ws := [(2, { v := some (tb true), call := some { ids := [], S := [], M := [], R := tb (bursarylaw14_lists x2.1 x3.1), H' := [] } }), (5, { call := some { ids := [], S := [], M := [], R := ti (id x2.2), H' := [] } }), (7, { v := some (tb true) }), (12, { v := some (tb true) }), (16, { b := x4.2.1 }), (18, { b := x5.2.1 }), (19, { v := some (tb false) })] } [] [6] _ [(6, tb false)] [] hxl1 rfl (by as_aux_lemma => kernel_rfl) (.cons (bursarylaw14_lists_m (g_a := .shr) (g_b := .shr) x2.1 x3.1 (by omega)) (.cons (by first | rfl | (simp only [T.ids, idsL, er_ids, List.append_nil, List.nil_append]; rfl) : subN (idsL [.sl 1 .shr x2.1.length (b8s .shr x2.1), .sl 1 .shr x3.1.length (b8s .shr x3.1)]) [] = true) (.cons (eb gd3) (.cons (bursarylaw14_num_m x2.2) (.cons (by first | rfl | (simp only [T.ids, idsL, er_ids, List.append_nil, List.nil_append]; rfl) : subN (idsL [er 82 x2.2]) [] = true) (.cons trivial (.cons (eb gd4) (.cons trivial (.cons ((eqB32 x4.1 x5.1).trans (eb gd5)) (.cons (rfl : u8s x4.2.1 = u8s x4.2.1) (.cons (rfl : u8s x5.2.1 = u8s x5.2.1) (.cons trivial (.cons ((s_eq x4.2.1 x5.2.1).trans (eb gd6)) .nil))))))))))))) ?_
                  intro k' hk'
                  refine Go.slotEq 6 (tb ((bursarylaw14_lists x2.1 x3.1) && (((id x2.2) == x3.2) && ((x4.1 == x5.1) && ((x4.2.1 == x5.2.1) && ((x4.2.2.1 == x5.2.2.1) && (((id x4.2.2.2) == x5.2.2.2) && (((frame_Sectors ((a0.toNat : Int) - 100)) == (bursaryref14_Sectors ((a0.toNat : Int) - 100))) && bursarylaw14_sure)))))))) rfl (eb (andT gd3 (andT gd4 (andT gd5 (andF gd6)))).symm) ?_
                  exact J k' hk'
              · refine Go.rx 20 { ws := [(2, { v := some (tb true), call := some { ids := [], S := [], M := [], R := tb (bursarylaw14_lists x2.1 x3.1), H' := [] } }), (5, { call := some { ids := [], S := [], M := [], R := ti (id x2.2), H' := [] } }), (7, { v := some (tb true) }), (12, { v := some (tb false) })] } [] [6] _ [(6, tb false)] [] hxl1 rfl (by as_aux_lemma => kernel_rfl) (.cons (bursarylaw14_lists_m (g_a := .shr) (g_b := .shr) x2.1 x3.1 (by omega)) (.cons (by first | rfl | (simp only [T.ids, idsL, er_ids, List.append_nil, List.nil_append]; rfl) : subN (idsL [.sl 1 .shr x2.1.length (b8s .shr x2.1), .sl 1 .shr x3.1.length (b8s .shr x3.1)]) [] = true) (.cons (eb gd3) (.cons (bursarylaw14_num_m x2.2) (.cons (by first | rfl | (simp only [T.ids, idsL, er_ids, List.append_nil, List.nil_append]; rfl) : subN (idsL [er 82 x2.2]) [] = true) (.cons trivial (.cons (eb gd4) (.cons trivial (.cons ((eqB32 x4.1 x5.1).trans (eb gd5)) .nil))))))))) ?_
                intro k' hk'
                refine Go.slotEq 6 (tb ((bursarylaw14_lists x2.1 x3.1) && (((id x2.2) == x3.2) && ((x4.1 == x5.1) && ((x4.2.1 == x5.2.1) && ((x4.2.2.1 == x5.2.2.1) && (((id x4.2.2.2) == x5.2.2.2) && (((frame_Sectors ((a0.toNat : Int) - 100)) == (bursaryref14_Sectors ((a0.toNat : Int) - 100))) && bursarylaw14_sure)))))))) rfl (eb (andT gd3 (andT gd4 (andF gd5))).symm) ?_
                exact J k' hk'
            · have gd4p := eqIf gd4
              refine Go.rx 20 { ws := [(2, { v := some (tb true), call := some { ids := [], S := [], M := [], R := tb (bursarylaw14_lists x2.1 x3.1), H' := [] } }), (5, { call := some { ids := [], S := [], M := [], R := ti (id x2.2), H' := [] } }), (7, { v := some (tb false) })] } [] [6] _ [(6, tb false)] [] hxl1 rfl (by as_aux_lemma => kernel_rfl) (.cons (bursarylaw14_lists_m (g_a := .shr) (g_b := .shr) x2.1 x3.1 (by omega)) (.cons (by first | rfl | (simp only [T.ids, idsL, er_ids, List.append_nil, List.nil_append]; rfl) : subN (idsL [.sl 1 .shr x2.1.length (b8s .shr x2.1), .sl 1 .shr x3.1.length (b8s .shr x3.1)]) [] = true) (.cons (eb gd3) (.cons (bursarylaw14_num_m x2.2) (.cons (by first | rfl | (simp only [T.ids, idsL, er_ids, List.append_nil, List.nil_append]; rfl) : subN (idsL [er 82 x2.2]) [] = true) (.cons trivial (.cons (eb gd4) .nil))))))) ?_
              intro k' hk'
              refine Go.slotEq 6 (tb ((bursarylaw14_lists x2.1 x3.1) && (((id x2.2) == x3.2) && ((x4.1 == x5.1) && ((x4.2.1 == x5.2.1) && ((x4.2.2.1 == x5.2.2.1) && (((id x4.2.2.2) == x5.2.2.2) && (((frame_Sectors ((a0.toNat : Int) - 100)) == (bursaryref14_Sectors ((a0.toNat : Int) - 100))) && bursarylaw14_sure)))))))) rfl (eb (andT gd3 (andF gd4)).symm) ?_
              exact J k' hk'
          · refine Go.rx 20 { ws := [(2, { v := some (tb false), call := some { ids := [], S := [], M := [], R := tb (bursarylaw14_lists x2.1 x3.1), H' := [] } })] } [] [6] _ [(6, tb false)] [] hxl1 rfl (by as_aux_lemma => kernel_rfl) (.cons (bursarylaw14_lists_m (g_a := .shr) (g_b := .shr) x2.1 x3.1 (by omega)) (.cons (by first | rfl | (simp only [T.ids, idsL, er_ids, List.append_nil, List.nil_append]; rfl) : subN (idsL [.sl 1 .shr x2.1.length (b8s .shr x2.1), .sl 1 .shr x3.1.length (b8s .shr x3.1)]) [] = true) (.cons (eb gd3) .nil))) ?_
            intro k' hk'
            refine Go.slotEq 6 (tb ((bursarylaw14_lists x2.1 x3.1) && (((id x2.2) == x3.2) && ((x4.1 == x5.1) && ((x4.2.1 == x5.2.1) && ((x4.2.2.1 == x5.2.2.1) && (((id x4.2.2.2) == x5.2.2.2) && (((frame_Sectors ((a0.toNat : Int) - 100)) == (bursaryref14_Sectors ((a0.toNat : Int) - 100))) && bursarylaw14_sure)))))))) rfl (eb (andF gd3).symm) ?_
            exact J k' hk'
      have Ll1 : ∀ (ml1 : Nat) (t191 : Int), (0 ≤ t191) → ((a2.length : Int) ≤ 30) → (((a2.length : Int) - t191).toNat < ml1) → Go E Γ 3 141 [] ((PostX Γ bursarylaw14_FrameForms_enc) (Lo.el (bursarylaw14_FrameForms_l1 a2 ml1 t191) (fun z : Unit => bursarylaw14_FrameForms_k1 a0 x2 x3 x4 x5))) kl1 (stL [(0, t32 a0), (2, .sl 1 g_a2 a2.length (b8s .shr a2)), (7, .sl 1 .shr x2.1.length (b8s .shr x2.1)), (8, er 82 x2.2), (9, .sl 1 .shr x3.1.length (b8s .shr x3.1)), (10, ti x3.2), (11, t32 x4.1), (12, .sl 1 .shr x4.2.1.length (u8s x4.2.1)), (13, ti x4.2.2.1), (14, er 82 x4.2.2.2), (15, t32 x5.1), (16, .sl 1 .shr x5.2.1.length (u8s x5.2.1)), (17, ti x5.2.2.1), (18, ti x5.2.2.2), (19, ti t191)] []) := by
        intro ml1
        induction ml1 with
        | zero => intro t191 i0l1 i1l1 hml1; exact absurd hml1 (Nat.not_lt_zero _)
        | succ ml1 ihl1 =>
          intro t191 i0l1 i1l1 hml1
          rw [bursarylaw14_FrameForms_l1]
          refine Go.round hl1 ?_
          intro k hk
          refine Go.rx 20 {} [] [0, 2, 7, 8, 9, 10, 11, 12, 13, 14, 15, 16, 17, 18, 19, 67] _ [(0, t32 a0), (2, .sl 1 g_a2 a2.length (b8s .shr a2)), (7, .sl 1 .shr x2.1.length (b8s .shr x2.1)), (8, er 82 x2.2), (9, .sl 1 .shr x3.1.length (b8s .shr x3.1)), (10, ti x3.2), (11, t32 x4.1), (12, .sl 1 .shr x4.2.1.length (u8s x4.2.1)), (13, ti x4.2.2.1), (14, er 82 x4.2.2.2), (15, t32 x5.1), (16, .sl 1 .shr x5.2.1.length (u8s x5.2.1)), (17, ti x5.2.2.1), (18, ti x5.2.2.2), (19, ti t191), (67, tb (decide (t191 < (a2.length : Int))))] [] hk rfl (by as_aux_lemma => kernel_rfl) (.cons trivial .nil) ?_
          clear hk; intro k hk
          refine Go.br 20 (Pf := (fun z : Lo (Unit) (Bool) => (PostX Γ bursarylaw14_FrameForms_enc) (Lo.el z (fun z : Unit => bursarylaw14_FrameForms_k1 a0 x2 x3 x4 x5)))) hk rfl rfl ?_ ?_ <;> clear hk <;> intro ct2 k hk
          · have ct2p := of_decide_eq_true ct2
            refine Go.rx 20 { ws := [(3, { v := some (.sl 1 .shr (a2.getD t191.toNat []).length (u8s (a2.getD t191.toNat []))) }), (4, { call := some { ids := [], S := [], M := [], R := .tup [t32 ((frame_Seq (a2.getD t191.toNat [])).1), er 82 ((frame_Seq (a2.getD t191.toNat [])).2)], H' := [] } })] } [] [0, 2, 7, 8, 9, 10, 11, 12, 13, 14, 15, 16, 17, 18, 19, 20, 21] _ [(0, t32 a0), (2, .sl 1 g_a2 a2.length (b8s .shr a2)), (7, .sl 1 .shr x2.1.length (b8s .shr x2.1)), (8, er 82 x2.2), (9, .sl 1 .shr x3.1.length (b8s .shr x3.1)), (10, ti x3.2), (11, t32 x4.1), (12, .sl 1 .shr x4.2.1.length (u8s x4.2.1)), (13, ti x4.2.2.1), (14, er 82 x4.2.2.2), (15, t32 x5.1), (16, .sl 1 .shr x5.2.1.length (u8s x5.2.1)), (17, ti x5.2.2.1), (18, ti x5.2.2.2), (19, ti t191), (20, t32 ((frame_Seq (a2.getD t191.toNat [])).1)), (21, er 82 ((frame_Seq (a2.getD t191.toNat [])).2))] [] hk rfl (by as_aux_lemma => kernel_rfl) (.cons (by omega : 0 ≤ (t191 : Int) ∧ (t191 : Int) < ((a2.length : Nat) : Int)) (.cons (part1 (by as_aux_lemma => kernel_rfl : (E.ti 23).agg = false) (mp_get (g := (fun c : List UInt8 => tl .shr c)) (k := t191.toNat * 1) (n := t191.toNat) a2 [] (by omega) (by omega))) (.cons (frame_Seq_m (g_s := .shr) (a2.getD t191.toNat [])) (.cons (by first | rfl | (simp only [T.ids, idsL, er_ids, List.append_nil, List.nil_append]; rfl) : subN (idsL [.sl 1 .shr (a2.getD t191.toNat []).length (u8s (a2.getD t191.toNat []))]) [] = true) .nil)))) ?_
            clear hk; intro k hk
            refine Go.bnd (Pf := (fun z : Lo (Unit) (Bool) => (PostX Γ bursarylaw14_FrameForms_enc) (Lo.el z (fun z : Unit => bursarylaw14_FrameForms_k1 a0 x2 x3 x4 x5)))) (v := (frame_Seq (a2.getD t191.toNat []))) (fun x11 => [(0, t32 a0), (2, .sl 1 g_a2 a2.length (b8s .shr a2)), (7, .sl 1 .shr x2.1.length (b8s .shr x2.1)), (8, er 82 x2.2), (9, .sl 1 .shr x3.1.length (b8s .shr x3.1)), (10, ti x3.2), (11, t32 x4.1), (12, .sl 1 .shr x4.2.1.length (u8s x4.2.1)), (13, ti x4.2.2.1), (14, er 82 x4.2.2.2), (15, t32 x5.1), (16, .sl 1 .shr x5.2.1.length (u8s x5.2.1)), (17, ti x5.2.2.1), (18, ti x5.2.2.2), (19, ti t191), (20, t32 x11.1), (21, er 82 x11.2)]) (fun x11 => []) ?_
            intro x11 hx11
            refine Go.rx 20 { ws := [(3, { v := some (.sl 1 .shr (a2.getD t191.toNat []).length (u8s (a2.getD t191.toNat []))) }), (4, { call := some { ids := [], S := [], M := [], R := .tup [t32 ((bursaryref14_Seq (a2.getD t191.toNat [])).1), ti ((bursaryref14_Seq (a2.getD t191.toNat [])).2)], H' := [] } })] } [] [0, 2, 7, 8, 9, 10, 11, 12, 13, 14, 15, 16, 17, 18, 19, 20, 21, 22, 23] _ [(0, t32 a0), (2, .sl 1 g_a2 a2.length (b8s .shr a2)), (7, .sl 1 .shr x2.1.length (b8s .shr x2.1)), (8, er 82 x2.2), (9, .sl 1 .shr x3.1.length (b8s .shr x3.1)), (10, ti x3.2), (11, t32 x4.1), (12, .sl 1 .shr x4.2.1.length (u8s x4.2.1)), (13, ti x4.2.2.1), (14, er 82 x4.2.2.2), (15, t32 x5.1), (16, .sl 1 .shr x5.2.1.length (u8s x5.2.1)), (17, ti x5.2.2.1), (18, ti x5.2.2.2), (19, ti t191), (20, t32 x11.1), (21, er 82 x11.2), (22, t32 ((bursaryref14_Seq (a2.getD t191.toNat [])).1)), (23, ti ((bursaryref14_Seq (a2.getD t191.toNat [])).2))] [] hk rfl (by as_aux_lemma => kernel_rfl) (.cons (by omega : 0 ≤ (t191 : Int) ∧ (t191 : Int) < ((a2.length : Nat) : Int)) (.cons (part1 (by as_aux_lemma => kernel_rfl : (E.ti 23).agg = false) (mp_get (g := (fun c : List UInt8 => tl .shr c)) (k := t191.toNat * 1) (n := t191.toNat) a2 [] (by omega) (by omega))) (.cons (bursaryref14_Seq_m (g_s := .shr) (a2.getD t191.toNat [])) (.cons (by first | rfl | (simp only [T.ids, idsL, er_ids, List.append_nil, List.nil_append]; rfl) : subN (idsL [.sl 1 .shr (a2.getD t191.toNat []).length (u8s (a2.getD t191.toNat []))]) [] = true) .nil)))) ?_
            clear hk; intro k hk
            refine Go.bnd (Pf := (fun z : Lo (Unit) (Bool) => (PostX Γ bursarylaw14_FrameForms_enc) (Lo.el z (fun z : Unit => bursarylaw14_FrameForms_k1 a0 x2 x3 x4 x5)))) (v := (bursaryref14_Seq (a2.getD t191.toNat []))) (fun x12 => [(0, t32 a0), (2, .sl 1 g_a2 a2.length (b8s .shr a2)), (7, .sl 1 .shr x2.1.length (b8s .shr x2.1)), (8, er 82 x2.2), (9, .sl 1 .shr x3.1.length (b8s .shr x3.1)), (10, ti x3.2), (11, t32 x4.1), (12, .sl 1 .shr x4.2.1.length (u8s x4.2.1)), (13, ti x4.2.2.1), (14, er 82 x4.2.2.2), (15, t32 x5.1), (16, .sl 1 .shr x5.2.1.length (u8s x5.2.1)), (17, ti x5.2.2.1), (18, ti x5.2.2.2), (19, ti t191), (20, t32 x11.1), (21, er 82 x11.2), (22, t32 x12.1), (23, ti x12.2)]) (fun x12 => []) ?_
            intro x12 hx12
            refine Go.regJ 20 [(0, t32 a0), (2, .sl 1 g_a2 a2.length (b8s .shr a2)), (7, .sl 1 .shr x2.1.length (b8s .shr x2.1)), (8, er 82 x2.2), (9, .sl 1 .shr x3.1.length (b8s .shr x3.1)), (10, ti x3.2), (11, t32 x4.1), (12, .sl 1 .shr x4.2.1.length (u8s x4.2.1)), (13, ti x4.2.2.1), (14, er 82 x4.2.2.2), (15, t32 x5.1), (16, .sl 1 .shr x5.2.1.length (u8s x5.2.1)), (17, ti x5.2.2.1), (18, ti x5.2.2.2), (19, ti t191), (94, tb ((x11.1 != x12.1) || ((id x11.2) != x12.2)))] [] hk rfl ?_ ?_
            · clear hk; intro k hk
              refine Go.bnd (Pf := (fun z : Lo (Unit) (Bool) => (PostX Γ bursarylaw14_FrameForms_enc) (Lo.el z (fun z : Unit => bursarylaw14_FrameForms_k1 a0 x2 x3 x4 x5)))) (v := (id x11.2)) (fun x13 => [(0, t32 a0), (2, .sl 1 g_a2 a2.length (b8s .shr a2)), (7, .sl 1 .shr x2.1.length (b8s .shr x2.1)), (8, er 82 x2.2), (9, .sl 1 .shr x3.1.length (b8s .shr x3.1)), (10, ti x3.2), (11, t32 x4.1), (12, .sl 1 .shr x4.2.1.length (u8s x4.2.1)), (13, ti x4.2.2.1), (14, er 82 x4.2.2.2), (15, t32 x5.1), (16, .sl 1 .shr x5.2.1.length (u8s x5.2.1)), (17, ti x5.2.2.1), (18, ti x5.2.2.2), (19, ti t191), (94, tb ((x11.1 != x12.1) || (x13 != x12.2)))]) (fun x13 => []) ?_
              intro x13 hx13
              refine Go.br 20 (Pf := (fun z : Lo (Unit) (Bool) => (PostX Γ bursarylaw14_FrameForms_enc) (Lo.el z (fun z : Unit => bursarylaw14_FrameForms_k1 a0 x2 x3 x4 x5)))) hk rfl rfl ?_ ?_ <;> clear hk <;> intro ct3 k hk
              · refine Go.rx 20 {} [] [6] _ [(6, tb false)] [] hk rfl (by as_aux_lemma => kernel_rfl) .nil ?_
                clear hk; intro k hk
                exact Go.lvx 20 [] _ [tb false] Tryd.func3 hk rfl (by as_aux_lemma => kernel_rfl) .nil (T.Le.of_eq rfl) rfl rfl .nil
              · have ct31 : (x11.1 != x12.1) = false := (Bool.or_eq_false_iff.1 ct3).1
                have ct32 : (x13 != x12.2) = false := (Bool.or_eq_false_iff.1 ct3).2
                have ct32p := neIf ct32
                refine Go.rx 20 { ws := [(1, { v := some (ti (t191 + 1)) })] } [] [0, 2, 7, 8, 9, 10, 11, 12, 13, 14, 15, 16, 17, 18, 19] _ [(0, t32 a0), (2, .sl 1 g_a2 a2.length (b8s .shr a2)), (7, .sl 1 .shr x2.1.length (b8s .shr x2.1)), (8, er 82 x2.2), (9, .sl 1 .shr x3.1.length (b8s .shr x3.1)), (10, ti x3.2), (11, t32 x4.1), (12, .sl 1 .shr x4.2.1.length (u8s x4.2.1)), (13, ti x4.2.2.1), (14, er 82 x4.2.2.2), (15, t32 x5.1), (16, .sl 1 .shr x5.2.1.length (u8s x5.2.1)), (17, ti x5.2.2.1), (18, ti x5.2.2.2), (19, ti (t191 + 1))] [] hk rfl (by as_aux_lemma => kernel_rfl) (.cons trivial (.cons (iw (t191 + 1) (by omega)) .nil)) ?_
                clear hk; intro k hk
                exact Go.join 20 hk hl1 rfl (ihl1 (t191 + 1) (by omega) (by omega) (by omega))
            · intro hk J
              rcases Bool.eq_false_or_eq_true (x11.1 != x12.1) with gd10 | gd10
              · refine Go.rx 20 { ws := [(2, { v := some (tb true) })] } [] [0, 2, 7, 8, 9, 10, 11, 12, 13, 14, 15, 16, 17, 18, 19, 94] _ [(0, t32 a0), (2, .sl 1 g_a2 a2.length (b8s .shr a2)), (7, .sl 1 .shr x2.1.length (b8s .shr x2.1)), (8, er 82 x2.2), (9, .sl 1 .shr x3.1.length (b8s .shr x3.1)), (10, ti x3.2), (11, t32 x4.1), (12, .sl 1 .shr x4.2.1.length (u8s x4.2.1)), (13, ti x4.2.2.1), (14, er 82 x4.2.2.2), (15, t32 x5.1), (16, .sl 1 .shr x5.2.1.length (u8s x5.2.1)), (17, ti x5.2.2.1), (18, ti x5.2.2.2), (19, ti t191), (94, tb true)] [] hk rfl (by as_aux_lemma => kernel_rfl) (.cons trivial (.cons ((neB32 x11.1 x12.1).trans (eb gd10)) .nil)) ?_
                intro k' hk'
                refine Go.slotEq 94 (tb ((x11.1 != x12.1) || ((id x11.2) != x12.2))) rfl (eb (orT gd10).symm) ?_
                exact J k' hk'
              · refine Go.rx 20 { ws := [(2, { v := some (tb false) }), (5, { call := some { ids := [], S := [], M := [], R := ti (id x11.2), H' := [] } })] } [] [0, 2, 7, 8, 9, 10, 11, 12, 13, 14, 15, 16, 17, 18, 19, 94] _ [(0, t32 a0), (2, .sl 1 g_a2 a2.length (b8s .shr a2)), (7, .sl 1 .shr x2.1.length (b8s .shr x2.1)), (8, er 82 x2.2), (9, .sl 1 .shr x3.1.length (b8s .shr x3.1)), (10, ti x3.2), (11, t32 x4.1), (12, .sl 1 .shr x4.2.1.length (u8s x4.2.1)), (13, ti x4.2.2.1), (14, er 82 x4.2.2.2), (15, t32 x5.1), (16, .sl 1 .shr x5.2.1.length (u8s x5.2.1)), (17, ti x5.2.2.1), (18, ti x5.2.2.2), (19, ti t191), (94, tb ((id x11.2) != x12.2))] [] hk rfl (by as_aux_lemma => kernel_rfl) (.cons trivial (.cons ((neB32 x11.1 x12.1).trans (eb gd10)) (.cons (bursarylaw14_num_m x11.2) (.cons (by first | rfl | (simp only [T.ids, idsL, er_ids, List.append_nil, List.nil_append]; rfl) : subN (idsL [er 82 x11.2]) [] = true) (.cons trivial .nil))))) ?_
                intro k' hk'
                refine Go.slotEq 94 (tb ((x11.1 != x12.1) || ((id x11.2) != x12.2))) rfl (eb (orF gd10 rfl).symm) ?_
                exact J k' hk'
          · have ct2p := of_decide_eq_false ct2
            refine Go.keepN [0, 7, 8, 9, 10, 11, 12, 13, 14, 15, 16, 17, 18] (L' := [(0, t32 a0), (7, .sl 1 .shr x2.1.length (b8s .shr x2.1)), (8, er 82 x2.2), (9, .sl 1 .shr x3.1.length (b8s .shr x3.1)), (10, ti x3.2), (11, t32 x4.1), (12, .sl 1 .shr x4.2.1.length (u8s x4.2.1)), (13, ti x4.2.2.1), (14, er 82 x4.2.2.2), (15, t32 x5.1), (16, .sl 1 .shr x5.2.1.length (u8s x5.2.1)), (17, ti x5.2.2.1), (18, ti x5.2.2.2)]) rfl ?_
            exact Go.join 20 hk hxl1 rfl (Xl1 trivial)
      exact Ll1 _ 0 (by first | omega | (have q := (fx1 (by revert ct1; cases x1 <;> simp)).1; omega)) (by first | omega | (have q := (fx1 (by revert ct1; cases x1 <;> simp)).1; omega)) (Nat.lt_succ_self _)
  · intro hk J
    rcases Bool.eq_false_or_eq_true (decide ((a1.length : Int) > 900)) with gd1 | gd1
    · have gd1p := of_decide_eq_true gd1
      rcases Bool.eq_false_or_eq_true (decide ((a1.length : Int) ≤ 14280)) with gd2 | gd2
      · have gd2p := of_decide_eq_true gd2
        refine Go.rx 20 { ws := [(2, { v := some (tb true) }), (6, { v := some (tb true) })] } [] [0, 1, 2, 36] _ [(0, t32 a0), (1, .sl 1 g_a1 a1.length (u8s a1)), (2, .sl 1 g_a2 a2.length (b8s .shr a2)), (36, tb true)] [] hk rfl (by as_aux_lemma => kernel_rfl) (.cons trivial (.cons (eb gd1) (.cons trivial (.cons (eb gd2) .nil)))) ?_
        intro k' hk'
        refine Go.slotEq 36 (tb (bif decide ((a1.length : Int) > 900) then (decide ((a1.length : Int) ≤ 14280)) || (!(bursarylaw14_small a2)) else !(bursarylaw14_small a2))) rfl (eb ((condT gd1).trans (orT gd2)).symm) ?_
        exact J k' hk'
      · have gd2p := of_decide_eq_false gd2
        refine Go.rx 20 { ws := [(2, { v := some (tb true) }), (6, { v := some (tb false) }), (10, { call := some { ids := [], S := [], M := [], R := tb (bursarylaw14_small a2), H' := [] } })] } [] [0, 1, 2, 36] _ [(0, t32 a0), (1, .sl 1 g_a1 a1.length (u8s a1)), (2, .sl 1 g_a2 a2.length (b8s .shr a2)), (36, tb (!(bursarylaw14_small a2)))] [] hk rfl (by as_aux_lemma => kernel_rfl) (.cons trivial (.cons (eb gd1) (.cons trivial (.cons (eb gd2) (.cons (bursarylaw14_small_m (g_l := g_a2) a2) (.cons (by first | rfl | (simp only [T.ids, idsL, er_ids, List.append_nil, List.nil_append]; rfl) : subN (idsL [.sl 1 g_a2 a2.length (b8s .shr a2)]) [] = true) .nil)))))) ?_
        intro k' hk'
        refine Go.slotEq 36 (tb (bif decide ((a1.length : Int) > 900) then (decide ((a1.length : Int) ≤ 14280)) || (!(bursarylaw14_small a2)) else !(bursarylaw14_small a2))) rfl (eb ((condT gd1).trans (orF gd2 rfl)).symm) ?_
        exact J k' hk'
    · have gd1p := of_decide_eq_false gd1
      refine Go.rx 20 { ws := [(2, { v := some (tb false) }), (10, { call := some { ids := [], S := [], M := [], R := tb (bursarylaw14_small a2), H' := [] } })] } [] [0, 1, 2, 36] _ [(0, t32 a0), (1, .sl 1 g_a1 a1.length (u8s a1)), (2, .sl 1 g_a2 a2.length (b8s .shr a2)), (36, tb (!(bursarylaw14_small a2)))] [] hk rfl (by as_aux_lemma => kernel_rfl) (.cons trivial (.cons (eb gd1) (.cons (bursarylaw14_small_m (g_l := g_a2) a2) (.cons (by first | rfl | (simp only [T.ids, idsL, er_ids, List.append_nil, List.nil_append]; rfl) : subN (idsL [.sl 1 g_a2 a2.length (b8s .shr a2)]) [] = true) .nil)))) ?_
      intro k' hk'
      refine Go.slotEq 36 (tb (bif decide ((a1.length : Int) > 900) then (decide ((a1.length : Int) ≤ 14280)) || (!(bursarylaw14_small a2)) else !(bursarylaw14_small a2))) rfl (eb ((condF gd1).trans rfl).symm) ?_
      exact J k' hk'
noncomputable def bursarylaw14_FrameBack (a0 : UInt32) (a1 : List UInt8) (a2 : List (List UInt8)) : Bool :=
  bnd (bursarylaw14_small a2) fun x1 =>
  bif (a0 == 0) || ((decide ((a1.length : Int) > 900)) || (!x1)) then
    bursarylaw14_sure
  else
    bnd (frame_Split a0 a1) fun x2 =>
    bif (!(decide (x2.2 = 0))) || ((x2.1.length : Int) == 0) then
      false
    else
      bnd (frame_Join ([] ++ x2.1 ++ a2)) fun x3 =>
      bnd (frame_Join (slc x2.1 0 ((x2.1.length : Int) - 1))) fun x4 =>
      bnd (frame_Sectors (a1.length : Int)) fun x5 =>
      bnd (id x4.2.2.2) fun x6 =>
      (decide (x3.2.2.2 = 0)) && ((x3.1 == a0) && ((x3.2.1 == a1) && ((x3.2.2.1 == (x2.1.length : Int)) && ((x3.2.2.1 == x5) && ((x6 == 4) && bursarylaw14_sure)))))
def bursarylaw14_FrameBack_enc (x : Bool) : T × List (Nat × List T) := (tb x, [])
theorem bursarylaw14_FrameBack_m {g_a1 : Tag} {g_a2 : Tag} (a0 : UInt32) (a1 : List UInt8) (a2 : List (List UInt8)) : Meets Tryd.prog 4 [t32 a0, .sl 1 g_a1 a1.length (u8s a1), .sl 1 g_a2 a2.length (b8s .shr a2)] [] [] (tb (bursarylaw14_FrameBack a0 a1 a2)) [] := by
  refine Meets.enterX (E := E) (N := 100) (enc := bursarylaw14_FrameBack_enc) (x := (bursarylaw14_FrameBack a0 a1 a2)) Tryd.func4 Tryd.call4 rfl rfl ?_
  intro Γ k hk
  refine Go.rx 20 {} [] [0, 1, 2] _ [(0, t32 a0), (1, .sl 1 g_a1 a1.length (u8s a1)), (2, .sl 1 g_a2 a2.length (b8s .shr a2))] [] hk rfl (by as_aux_lemma => kernel_rfl) .nil ?_
  clear hk; intro k hk
  refine Go.regJ 20 [(0, t32 a0), (1, .sl 1 g_a1 a1.length (u8s a1)), (2, .sl 1 g_a2 a2.length (b8s .shr a2)), (28, tb ((a0 == 0) || ((decide ((a1.length : Int) > 900)) || (!(bursarylaw14_small a2)))))] [] hk rfl ?_ ?_
  · clear hk; intro k hk
    refine Go.bnd (Pf := (PostX Γ bursarylaw14_FrameBack_enc)) (v := (bursarylaw14_small a2)) (fun x1 => [(0, t32 a0), (1, .sl 1 g_a1 a1.length (u8s a1)), (2, .sl 1 g_a2 a2.length (b8s .shr a2)), (28, tb ((a0 == 0) || ((decide ((a1.length : Int) > 900)) || (!x1))))]) (fun x1 => []) ?_
    intro x1 hx1
    have fx1 := small_fact a2
    rw [← hx1] at fx1
    refine Go.br 20 (Pf := (PostX Γ bursarylaw14_FrameBack_enc)) hk rfl rfl ?_ ?_ <;> clear hk <;> intro ct1 k hk
    · refine Go.rx 20 { ws := [(0, { call := some { ids := [], S := [], M := [], R := tb bursarylaw14_sure, H' := [] } })] } [] [6] _ [(6, tb bursarylaw14_sure)] [] hk rfl (by as_aux_lemma => kernel_rfl) (.cons (bursarylaw14_sure_m) (.cons (by first | rfl | (simp only [T.ids, idsL, er_ids, List.append_nil, List.nil_append]; rfl) : subN (idsL []) [] = true) .nil)) ?_
      clear hk; intro k hk
      exact Go.lvx 20 [] _ [tb bursarylaw14_sure] Tryd.func4 hk rfl (by as_aux_lemma => kernel_rfl) .nil (T.Le.of_eq rfl) rfl rfl .nil
    · have ct11 : (a0 == 0) = false := (Bool.or_eq_false_iff.1 ct1).1
      have ct12 : ((decide ((a1.length : Int) > 900)) || (!x1)) = false := (Bool.or_eq_false_iff.1 ct1).2
      have ct121 : (decide ((a1.length : Int) > 900)) = false := (Bool.or_eq_false_iff.1 ct12).1
      have ct122 : (!x1) = false := (Bool.or_eq_false_iff.1 ct12).2
      have ct121p := of_decide_eq_false ct121
      have ct122' : x1 = true := ntF ct122
      refine Go.rx 20 { ws := [(2, { call := some { ids := [], S := [], M := [], R := .tup [.sl 1 .shr ((frame_Split a0 a1).1).length (b8s .shr ((frame_Split a0 a1).1)), er 82 ((frame_Split a0 a1).2)], H' := [] } })] } [] [0, 1, 2, 7, 8] _ [(0, t32 a0), (1, .sl 1 g_a1 a1.length (u8s a1)), (2, .sl 1 g_a2 a2.length (b8s .shr a2)), (7, .sl 1 .shr ((frame_Split a0 a1).1).length (b8s .shr ((frame_Split a0 a1).1))), (8, er 82 ((frame_Split a0 a1).2))] [] hk rfl (by as_aux_lemma => kernel_rfl) (.cons (frame_Split_m (g_a1 := g_a1) a0 a1) (.cons (by first | rfl | (simp only [T.ids, idsL, er_ids, List.append_nil, List.nil_append]; rfl) : subN (idsL [t32 a0, .sl 1 g_a1 a1.length (u8s a1)]) [] = true) .nil)) ?_
      clear hk; intro k hk
      refine Go.bnd (Pf := (PostX Γ bursarylaw14_FrameBack_enc)) (v := (frame_Split a0 a1)) (fun x2 => [(0, t32 a0), (1, .sl 1 g_a1 a1.length (u8s a1)), (2, .sl 1 g_a2 a2.length (b8s .shr a2)), (7, .sl 1 .shr x2.1.length (b8s .shr x2.1)), (8, er 82 x2.2)]) (fun x2 => []) ?_
      intro x2 hx2
      have fx2 := split_fact a0 a1
      rw [← hx2] at fx2
      obtain ⟨fx20, fx21, fx22⟩ := fx2
      refine Go.regJ 20 [(0, t32 a0), (1, .sl 1 g_a1 a1.length (u8s a1)), (2, .sl 1 g_a2 a2.length (b8s .shr a2)), (7, .sl 1 .shr x2.1.length (b8s .shr x2.1)), (42, tb ((!(decide (x2.2 = 0))) || ((x2.1.length : Int) == 0)))] [] hk rfl ?_ ?_
      · clear hk; intro k hk
        refine Go.br 20 (Pf := (PostX Γ bursarylaw14_FrameBack_enc)) hk rfl rfl ?_ ?_ <;> clear hk <;> intro ct2 k hk
        · refine Go.rx 20 {} [] [6] _ [(6, tb false)] [] hk rfl (by as_aux_lemma => kernel_rfl) .nil ?_
          clear hk; intro k hk
          exact Go.lvx 20 [] _ [tb false] Tryd.func4 hk rfl (by as_aux_lemma => kernel_rfl) .nil (T.Le.of_eq rfl) rfl rfl .nil
        · have ct21 : (!(decide (x2.2 = 0))) = false := (Bool.or_eq_false_iff.1 ct2).1
          have ct22 : ((x2.1.length : Int) == 0) = false := (Bool.or_eq_false_iff.1 ct2).2
          have ct21' : (decide (x2.2 = 0)) = true := ntF ct21
          have ct21'p := of_decide_eq_true ct21'
          have ct22p := eqIf ct22
          refine Go.rx 20 { ws := [(0, { id := 10 }), (2, { v := some (.ref 10 1 0 (([] ++ x2.1).length)), c := some (b8s .shr ([] ++ x2.1)), id := 10, sym := true }), (4, { v := some (.ref 10 1 0 (([] ++ x2.1 ++ a2).length)), c := some (b8s .shr ([] ++ x2.1 ++ a2)), id := 10, sym := true }), (5, { call := some { ids := [], S := [], M := [10], R := .tup [t32 ((frame_Join ([] ++ x2.1 ++ a2)).1), .sl 1 .shr ((frame_Join ([] ++ x2.1 ++ a2)).2.1).length (u8s ((frame_Join ([] ++ x2.1 ++ a2)).2.1)), ti ((frame_Join ([] ++ x2.1 ++ a2)).2.2.1), er 82 ((frame_Join ([] ++ x2.1 ++ a2)).2.2.2)], H' := [] } })], ps := [12, 43, 49, 53] } [10] [0, 1, 7, 9, 10, 11, 12] _ [(0, t32 a0), (1, .sl 1 g_a1 a1.length (u8s a1)), (7, .sl 1 .shr x2.1.length (b8s .shr x2.1)), (9, t32 ((frame_Join ([] ++ x2.1 ++ a2)).1)), (10, .sl 1 .shr ((frame_Join ([] ++ x2.1 ++ a2)).2.1).length (u8s ((frame_Join ([] ++ x2.1 ++ a2)).2.1))), (11, ti ((frame_Join ([] ++ x2.1 ++ a2)).2.2.1)), (12, er 82 ((frame_Join ([] ++ x2.1 ++ a2)).2.2.2))] [] hk rfl (by as_aux_lemma => kernel_rfl) (.cons (by decide : 0 + 0 * 1 ≤ (([] : List T)).length) (.cons (mp_scal x2.1 (fun _ => rfl) : scalL (b8s .shr x2.1) = true) (.cons (by first | omega | (simp <;> omega) | (have q := (fx1 (by revert ct1; cases x1 <;> simp)).1; simp <;> omega) : (0 + x2.1.length) * 24 ≤ 140737488355328) (.cons (mp_app' (g := (fun c : List UInt8 => tl .shr c)) (m := 0) [] x2.1 rfl rfl) (.cons (mp_mem (i := 10) (g := (fun c : List UInt8 => tl .shr c)) ([] ++ x2.1) (fun _ => rfl)) (.cons (by simp : T.ref 10 1 0 (0 + x2.1.length) = .ref 10 1 0 (([] ++ x2.1).length)) (.cons (by simp only [List.length_map]; omega : 0 + ([] ++ x2.1).length * 1 ≤ (b8s .shr ([] ++ x2.1)).length) (.cons (mp_scal a2 (fun _ => rfl) : scalL (b8s .shr a2) = true) (.cons (by first | omega | (simp <;> omega) | (have q := (fx1 (by revert ct1; cases x1 <;> simp)).1; simp <;> omega) : (([] ++ x2.1).length + a2.length) * 24 ≤ 140737488355328) (.cons (mp_app (g := (fun c : List UInt8 => tl .shr c)) ([] ++ x2.1) a2 rfl) (.cons (mp_mem (i := 10) (g := (fun c : List UInt8 => tl .shr c)) ([] ++ x2.1 ++ a2) (fun _ => rfl)) (.cons (by simp : T.ref 10 1 0 (([] ++ x2.1).length + a2.length) = .ref 10 1 0 (([] ++ x2.1 ++ a2).length)) (.cons (Meets.eqA (A := [.sl 1 .brw (([] ++ x2.1 ++ a2).length) (sub (b8s .shr ([] ++ x2.1 ++ a2)) 0 (([] ++ x2.1 ++ a2).length * 1))]) (by first | rfl | simp only [mp_all]) (frame_Join_m (g_a0 := .brw) ([] ++ x2.1 ++ a2) (by first | exact app_le (app_le (by simp) (get_le fx21 (by decide))) (fx1 (by revert ct1; cases x1 <;> simp)).2 | exact slc_le (get_le fx21 (by decide)) _ _))) (.cons (mp_ids (g := (fun c : List UInt8 => tl .shr c)) ([] ++ x2.1 ++ a2) (fun _ => rfl)) (.cons (by simp only [List.length_map]; first | omega | (simp <;> omega) | (have q := (fx1 (by revert ct1; cases x1 <;> simp)).1; simp <;> omega) : 0 + ([] ++ x2.1 ++ a2).length * 1 ≤ (b8s .shr ([] ++ x2.1 ++ a2)).length) (.cons (by first | rfl | (simp only [T.ids, idsL, er_ids, List.append_nil, List.nil_append]; rfl) : subN (idsL [.sl 1 .brw (([] ++ x2.1 ++ a2).length) (sub (b8s .shr ([] ++ x2.1 ++ a2)) 0 (([] ++ x2.1 ++ a2).length * 1))]) [] = true) (.cons (by first | rfl | (simp only [T.noB, noBL, er_noB, u8s_noB, b8s_noB, Bool.and_self, Bool.true_and, Bool.and_true]; rfl) | simp only [T.noB, noBL, er_noB, u8s_noB, b8s_noB, Bool.and_self, Bool.true_and, Bool.and_true] : T.noB (.tup [t32 ((frame_Join ([] ++ x2.1 ++ a2)).1), .sl 1 .shr ((frame_Join ([] ++ x2.1 ++ a2)).2.1).length (u8s ((frame_Join ([] ++ x2.1 ++ a2)).2.1)), ti ((frame_Join ([] ++ x2.1 ++ a2)).2.2.1), er 82 ((frame_Join ([] ++ x2.1 ++ a2)).2.2.2)]) = true) (.cons (by first | rfl | (simp only [T.ids, idsL, er_ids, List.append_nil, List.nil_append]; rfl) : memN 10 (T.ids (.tup [t32 ((frame_Join ([] ++ x2.1 ++ a2)).1), .sl 1 .shr ((frame_Join ([] ++ x2.1 ++ a2)).2.1).length (u8s ((frame_Join ([] ++ x2.1 ++ a2)).2.1)), ti ((frame_Join ([] ++ x2.1 ++ a2)).2.2.1), er 82 ((frame_Join ([] ++ x2.1 ++ a2)).2.2.2)])) = false) (.cons (by first | rfl | (simp only [T.ids, idsL, er_ids, List.append_nil, List.nil_append]; rfl) : memN 10 (T.ids (.tup [t32 ((frame_Join ([] ++ x2.1 ++ a2)).1), .sl 1 .shr ((frame_Join ([] ++ x2.1 ++ a2)).2.1).length (u8s ((frame_Join ([] ++ x2.1 ++ a2)).2.1)), ti ((frame_Join ([] ++ x2.1 ++ a2)).2.2.1), er 82 ((frame_Join ([] ++ x2.1 ++ a2)).2.2.2)])) = false) (.cons (er_mem (i := 10) 82 ((frame_Join ([] ++ x2.1 ++ a2)).2.2.2)) (.cons (er_mem (i := 10) 82 ((frame_Join ([] ++ x2.1 ++ a2)).2.2.2)) .nil))))))))))))))))))))) ?_
          clear hk; intro k hk
          refine Go.bnd (Pf := (PostX Γ bursarylaw14_FrameBack_enc)) (v := (frame_Join ([] ++ x2.1 ++ a2))) (fun x3 => [(0, t32 a0), (1, .sl 1 g_a1 a1.length (u8s a1)), (7, .sl 1 .shr x2.1.length (b8s .shr x2.1)), (9, t32 x3.1), (10, .sl 1 .shr x3.2.1.length (u8s x3.2.1)), (11, ti x3.2.2.1), (12, er 82 x3.2.2.2)]) (fun x3 => []) ?_
          intro x3 hx3
          refine Go.rx 20 { ws := [(3, { v := some (ti ((x2.1.length : Int) - 1)) }), (4, { v := some (.sl 1 .shr (slc x2.1 0 ((x2.1.length : Int) - 1)).length (b8s .shr (slc x2.1 0 ((x2.1.length : Int) - 1)))) }), (5, { call := some { ids := [], S := [], M := [], R := .tup [t32 ((frame_Join (slc x2.1 0 ((x2.1.length : Int) - 1))).1), .sl 1 .shr ((frame_Join (slc x2.1 0 ((x2.1.length : Int) - 1))).2.1).length (u8s ((frame_Join (slc x2.1 0 ((x2.1.length : Int) - 1))).2.1)), ti ((frame_Join (slc x2.1 0 ((x2.1.length : Int) - 1))).2.2.1), er 82 ((frame_Join (slc x2.1 0 ((x2.1.length : Int) - 1))).2.2.2)], H' := [] } })] } [] [0, 1, 7, 9, 10, 11, 12, 16] _ [(0, t32 a0), (1, .sl 1 g_a1 a1.length (u8s a1)), (7, .sl 1 .shr x2.1.length (b8s .shr x2.1)), (9, t32 x3.1), (10, .sl 1 .shr x3.2.1.length (u8s x3.2.1)), (11, ti x3.2.2.1), (12, er 82 x3.2.2.2), (16, er 82 ((frame_Join (slc x2.1 0 ((x2.1.length : Int) - 1))).2.2.2))] [] hk rfl (by as_aux_lemma => kernel_rfl) (.cons trivial (.cons (iw ((x2.1.length : Int) - 1) (by first | omega | (simp <;> omega) | (have q := (fx1 (by revert ct1; cases x1 <;> simp)).1; simp <;> omega))) (.cons (by first | omega | (simp <;> omega) | (have q := (fx1 (by revert ct1; cases x1 <;> simp)).1; simp <;> omega) : 0 ≤ (0 : Int) ∧ (0 : Int) ≤ (x2.1.length : Int) - 1 ∧ (x2.1.length : Int) - 1 ≤ (x2.1.length : Int) ∧ (x2.1.length : Int) ≤ (x2.1.length : Nat)) (.cons (sl_slc (t := .shr) (g := (fun c : List UInt8 => tl .shr c)) (lo := 0) (hi := (x2.1.length : Int) - 1) x2.1 (by first | omega | (simp <;> omega) | (have q := (fx1 (by revert ct1; cases x1 <;> simp)).1; simp <;> omega)) rfl rfl) (.cons (frame_Join_m (g_a0 := .shr) (slc x2.1 0 ((x2.1.length : Int) - 1)) (by first | exact app_le (app_le (by simp) (get_le fx21 (by decide))) (fx1 (by revert ct1; cases x1 <;> simp)).2 | exact slc_le (get_le fx21 (by decide)) _ _)) (.cons (by first | rfl | (simp only [T.ids, idsL, er_ids, List.append_nil, List.nil_append]; rfl) : subN (idsL [.sl 1 .shr (slc x2.1 0 ((x2.1.length : Int) - 1)).length (b8s .shr (slc x2.1 0 ((x2.1.length : Int) - 1)))]) [] = true) .nil)))))) ?_
          clear hk; intro k hk
          refine Go.bnd (Pf := (PostX Γ bursarylaw14_FrameBack_enc)) (v := (frame_Join (slc x2.1 0 ((x2.1.length : Int) - 1)))) (fun x4 => [(0, t32 a0), (1, .sl 1 g_a1 a1.length (u8s a1)), (7, .sl 1 .shr x2.1.length (b8s .shr x2.1)), (9, t32 x3.1), (10, .sl 1 .shr x3.2.1.length (u8s x3.2.1)), (11, ti x3.2.2.1), (12, er 82 x3.2.2.2), (16, er 82 x4.2.2.2)]) (fun x4 => []) ?_
          intro x4 hx4
          refine Go.regJ 20 [(6, tb ((decide (x3.2.2.2 = 0)) && ((x3.1 == a0) && ((x3.2.1 == a1) && ((x3.2.2.1 == (x2.1.length : Int)) && ((x3.2.2.1 == (frame_Sectors (a1.length : Int))) && (((id x4.2.2.2) == 4) && bursarylaw14_sure)))))))] [] hk rfl ?_ ?_
          · clear hk; intro k hk
            refine Go.bnd (Pf := (PostX Γ bursarylaw14_FrameBack_enc)) (v := (frame_Sectors (a1.length : Int))) (fun x5 => [(6, tb ((decide (x3.2.2.2 = 0)) && ((x3.1 == a0) && ((x3.2.1 == a1) && ((x3.2.2.1 == (x2.1.length : Int)) && ((x3.2.2.1 == x5) && (((id x4.2.2.2) == 4) && bursarylaw14_sure)))))))]) (fun x5 => []) ?_
            intro x5 hx5
            have fx5 := sectors_fact (a1.length : Int)
            rw [← hx5] at fx5
            obtain ⟨fx50, fx51, fx52, fx53⟩ := fx5
            refine Go.bnd (Pf := (PostX Γ bursarylaw14_FrameBack_enc)) (v := (id x4.2.2.2)) (fun x6 => [(6, tb ((decide (x3.2.2.2 = 0)) && ((x3.1 == a0) && ((x3.2.1 == a1) && ((x3.2.2.1 == (x2.1.length : Int)) && ((x3.2.2.1 == x5) && ((x6 == 4) && bursarylaw14_sure)))))))]) (fun x6 => []) ?_
            intro x6 hx6
            exact Go.lvx 20 [] _ [tb ((decide (x3.2.2.2 = 0)) && ((x3.1 == a0) && ((x3.2.1 == a1) && ((x3.2.2.1 == (x2.1.length : Int)) && ((x3.2.2.1 == x5) && ((x6 == 4) && bursarylaw14_sure))))))] Tryd.func4 hk rfl (by as_aux_lemma => kernel_rfl) .nil (T.Le.of_eq rfl) rfl rfl .nil
          · intro hk J
            rcases Bool.eq_false_or_eq_true (decide (x3.2.2.2 = 0)) with gd4 | gd4
            · have gd4p := of_decide_eq_true gd4
              rcases Bool.eq_false_or_eq_true (x3.1 == a0) with gd5 | gd5
              · rcases Bool.eq_false_or_eq_true (x3.2.1 == a1) with gd6 | gd6
                · rcases Bool.eq_false_or_eq_true (x3.2.2.1 == (x2.1.length : Int)) with gd7 | gd7
                  · have gd7p := eqIt gd7
                    rcases Bool.eq_false_or_eq_true (x3.2.2.1 == (frame_Sectors (a1.length : Int))) with gd8 | gd8
                    · have gd8p := eqIt gd8
                      rcases Bool.eq_false_or_eq_true ((id x4.2.2.2) == 4) with gd9 | gd9
                      · have gd9p := eqIt gd9
                        refine Go.rx 20 { ws := [(1, { v := some (tb true), er := some (82, x3.2.2.2) }), (5, { v := some (tb true) }), (9, { b := x3.2.1 }), (11, { b := a1 }), (12, { v := some (tb true) }), (18, { v := some (tb true) }), (24, { call := some { ids := [], S := [], M := [], R := ti (frame_Sectors (a1.length : Int)), H' := [] } }), (25, { v := some (tb true) }), (29, { call := some { ids := [], S := [], M := [], R := ti (id x4.2.2.2), H' := [] } }), (30, { v := some (tb true) }), (33, { call := some { ids := [], S := [], M := [], R := tb bursarylaw14_sure, H' := [] } })] } [] [6] _ [(6, tb bursarylaw14_sure)] [] hk rfl (by as_aux_lemma => kernel_rfl) (.cons (⟨rfl, rfl⟩ : (er 82 x3.2.2.2) = er 82 x3.2.2.2 ∧ (.leaf .nilIface : T) = .leaf .nilIface) (.cons (eb gd4) (.cons trivial (.cons ((eqB32 x3.1 a0).trans (eb gd5)) (.cons (rfl : u8s x3.2.1 = u8s x3.2.1) (.cons (rfl : u8s a1 = u8s a1) (.cons trivial (.cons ((s_eq x3.2.1 a1).trans (eb gd6)) (.cons trivial (.cons (eb gd7) (.cons (frame_Sectors_m (a1.length : Int)) (.cons (by first | rfl | (simp only [T.ids, idsL, er_ids, List.append_nil, List.nil_append]; rfl) : subN (idsL [ti (a1.length : Int)]) [] = true) (.cons trivial (.cons (eb gd8) (.cons (bursarylaw14_num_m x4.2.2.2) (.cons (by first | rfl | (simp only [T.ids, idsL, er_ids, List.append_nil, List.nil_append]; rfl) : subN (idsL [er 82 x4.2.2.2]) [] = true) (.cons trivial (.cons (eb gd9) (.cons (bursarylaw14_sure_m) (.cons (by first | rfl | (simp only [T.ids, idsL, er_ids, List.append_nil, List.nil_append]; rfl) : subN (idsL []) [] = true) .nil)))))))))))))))))))) ?_
                        intro k' hk'
                        refine Go.slotEq 6 (tb ((decide (x3.2.2.2 = 0)) && ((x3.1 == a0) && ((x3.2.1 == a1) && ((x3.2.2.1 == (x2.1.length : Int)) && ((x3.2.2.1 == (frame_Sectors (a1.length : Int))) && (((id x4.2.2.2) == 4) && bursarylaw14_sure))))))) rfl (eb (andT gd4 (andT gd5 (andT gd6 (andT gd7 (andT gd8 (andT gd9 rfl)))))).symm) ?_
                        exact J k' hk'
                      · have gd9p := eqIf gd9
                        refine Go.rx 20 { ws := [(1, { v := some (tb true), er := some (82, x3.2.2.2) }), (5, { v := some (tb true) }), (9, { b := x3.2.1 }), (11, { b := a1 }), (12, { v := some (tb true) }), (18, { v := some (tb true) }), (24, { call := some { ids := [], S := [], M := [], R := ti (frame_Sectors (a1.length : Int)), H' := [] } }), (25, { v := some (tb true) }), (29, { call := some { ids := [], S := [], M := [], R := ti (id x4.2.2.2), H' := [] } }), (30, { v := some (tb false) })] } [] [6] _ [(6, tb false)] [] hk rfl (by as_aux_lemma => kernel_rfl) (.cons (⟨rfl, rfl⟩ : (er 82 x3.2.2.2) = er 82 x3.2.2.2 ∧ (.leaf .nilIface : T) = .leaf .nilIface) (.cons (eb gd4) (.cons trivial (.cons ((eqB32 x3.1 a0).trans (eb gd5)) (.cons (rfl : u8s x3.2.1 = u8s x3.2.1) (.cons (rfl : u8s a1 = u8s a1) (.cons trivial (.cons ((s_eq x3.2.1 a1).trans (eb gd6)) (.cons trivial (.cons (eb gd7) (.cons (frame_Sectors_m (a1.length : Int)) (.cons (by first | rfl | (simp only [T.ids, idsL, er_ids, List.append_nil, List.nil_append]; rfl) : subN (idsL [ti (a1.length : Int)]) [] = true) (.cons trivial (.cons (eb gd8) (.cons (bursarylaw14_num_m x4.2.2.2) (.cons (by first | rfl | (simp only [T.ids, idsL, er_ids, List.append_nil, List.nil_append]; rfl) : subN (idsL [er 82 x4.2.2.2]) [] = true) (.cons trivial (.cons (eb gd9) .nil)))))))))))))))))) ?_
                        intro k' hk'
                        refine Go.slotEq 6 (tb ((decide (x3.2.2.2 = 0)) && ((x3.1 == a0) && ((x3.2.1 == a1) && ((x3.2.2.1 == (x2.1.length : Int)) && ((x3.2.2.1 == (frame_Sectors (a1.length : Int))) && (((id x4.2.2.2) == 4) && bursarylaw14_sure))))))) rfl (eb (andT gd4 (andT gd5 (andT gd6 (andT gd7 (andT gd8 (andF gd9)))))).symm) ?_
                        exact J k' hk'
                    · have gd8p := eqIf gd8
                      refine Go.rx 20 { ws := [(1, { v := some (tb true), er := some (82, x3.2.2.2) }), (5, { v := some (tb true) }), (9, { b := x3.2.1 }), (11, { b := a1 }), (12, { v := some (tb true) }), (18, { v := some (tb true) }), (24, { call := some { ids := [], S := [], M := [], R := ti (frame_Sectors (a1.length : Int)), H' := [] } }), (25, { v := some (tb false) })] } [] [6] _ [(6, tb false)] [] hk rfl (by as_aux_lemma => kernel_rfl) (.cons (⟨rfl, rfl⟩ : (er 82 x3.2.2.2) = er 82 x3.2.2.2 ∧ (.leaf .nilIface : T) = .leaf .nilIface) (.cons (eb gd4) (.cons trivial (.cons ((eqB32 x3.1 a0).trans (eb gd5)) (.cons (rfl : u8s x3.2.1 = u8s x3.2.1) (.cons (rfl : u8s a1 = u8s a1) (.cons trivial (.cons ((s_eq x3.2.1 a1).trans (eb gd6)) (.cons trivial (.cons (eb gd7) (.cons (frame_Sectors_m (a1.length : Int)) (.cons (by first | rfl | (simp only [T.ids, idsL, er_ids, List.append_nil, List.nil_append]; rfl) : subN (idsL [ti (a1.length : Int)]) [] = true) (.cons trivial (.cons (eb gd8) .nil)))))))))))))) ?_
                      intro k' hk'
                      refine Go.slotEq 6 (tb ((decide (x3.2.2.2 = 0)) && ((x3.1 == a0) && ((x3.2.1 == a1) && ((x3.2.2.1 == (x2.1.length : Int)) && ((x3.2.2.1 == (frame_Sectors (a1.length : Int))) && (((id x4.2.2.2) == 4) && bursarylaw14_sure))))))) rfl (eb (andT gd4 (andT gd5 (andT gd6 (andT gd7 (andF gd8))))).symm) ?_
                      exact J k' hk'
                  · have gd7p := eqIf gd7
                    refine Go.rx 20 { ws := [(1, { v := some (tb true), er := some (82, x3.2.2.2) }), (5, { v := some (tb true) }), (9, { b := x3.2.1 }), (11, { b := a1 }), (12, { v := some (tb true) }), (18, { v := some (tb false) })] } [] [6] _ [(6, tb false)] [] hk rfl (by as_aux_lemma => kernel_rfl) (.cons (⟨rfl, rfl⟩ : (er 82 x3.2.2.2) = er 82 x3.2.2.2 ∧ (.leaf .nilIface : T) = .leaf .nilIface) (.cons (eb gd4) (.cons trivial (.cons ((eqB32 x3.1 a0).trans (eb gd5)) (.cons (rfl : u8s x3.2.1 = u8s x3.2.1) (.cons (rfl : u8s a1 = u8s a1) (.cons trivial (.cons ((s_eq x3.2.1 a1).trans (eb gd6)) (.cons trivial (.cons (eb gd7) .nil)))))))))) ?_
                    intro k' hk'
                    refine Go.slotEq 6 (tb ((decide (x3.2.2.2 = 0)) && ((x3.1 == a0) && ((x3.2.1 == a1) && ((x3.2.2.1 == (x2.1.length : Int)) && ((x3.2.2.1 == (frame_Sectors (a1.length : Int))) && (((id x4.2.2.2) == 4) && bursarylaw14_sure))))))) rfl (eb (andT gd4 (andT gd5 (andT gd6 (andF gd7)))).symm) ?_
                    exact J k' hk'
                · refine Go.rx 20 { ws := [(1, { v := some (tb true), er := some (82, x3.2.2.2) }), (5, { v := some (tb true) }), (9, { b := x3.2.1 }), (11, { b := a1 }), (12, { v := some (tb false) })] } [] [6] _ [(6, tb false)] [] hk rfl (by as_aux_lemma => kernel_rfl) (.cons (⟨rfl, rfl⟩ : (er 82 x3.2.2.2) = er 82 x3.2.2.2 ∧ (.leaf .nilIface : T) = .leaf .nilIface) (.cons (eb gd4) (.cons trivial (.cons ((eqB32 x3.1 a0).trans (eb gd5)) (.cons (rfl : u8s x3.2.1 = u8s x3.2.1) (.cons (rfl : u8s a1 = u8s a1) (.cons trivial (.cons ((s_eq x3.2.1 a1).trans (eb gd6)) .nil)))))))) ?_
                  intro k' hk'
                  refine Go.slotEq 6 (tb ((decide (x3.2.2.2 = 0)) && ((x3.1 == a0) && ((x3.2.1 == a1) && ((x3.2.2.1 == (x2.1.length : Int)) && ((x3.2.2.1 == (frame_Sectors (a1.length : Int))) && (((id x4.2.2.2) == 4) && bursarylaw14_sure))))))) rfl (eb (andT gd4 (andT gd5 (andF gd6))).symm) ?_
                  exact J k' hk'
              · refine Go.rx 20 { ws := [(1, { v := some (tb true), er := some (82, x3.2.2.2) }), (5, { v := some (tb false) })] } [] [6] _ [(6, tb false)] [] hk rfl (by as_aux_lemma => kernel_rfl) (.cons (⟨rfl, rfl⟩ : (er 82 x3.2.2.2) = er 82 x3.2.2.2 ∧ (.leaf .nilIface : T) = .leaf .nilIface) (.cons (eb gd4) (.cons trivial (.cons ((eqB32 x3.1 a0).trans (eb gd5)) .nil)))) ?_
                intro k' hk'
                refine Go.slotEq 6 (tb ((decide (x3.2.2.2 = 0)) && ((x3.1 == a0) && ((x3.2.1 == a1) && ((x3.2.2.1 == (x2.1.length : Int)) && ((x3.2.2.1 == (frame_Sectors (a1.length : Int))) && (((id x4.2.2.2) == 4) && bursarylaw14_sure))))))) rfl (eb (andT gd4 (andF gd5)).symm) ?_
                exact J k' hk'
            · have gd4p := of_decide_eq_false gd4
              refine Go.rx 20 { ws := [(1, { v := some (tb false), er := some (82, x3.2.2.2) })] } [] [6] _ [(6, tb false)] [] hk rfl (by as_aux_lemma => kernel_rfl) (.cons (⟨rfl, rfl⟩ : (er 82 x3.2.2.2) = er 82 x3.2.2.2 ∧ (.leaf .nilIface : T) = .leaf .nilIface) (.cons (eb gd4) .nil)) ?_
              intro k' hk'
              refine Go.slotEq 6 (tb ((decide (x3.2.2.2 = 0)) && ((x3.1 == a0) && ((x3.2.1 == a1) && ((x3.2.2.1 == (x2.1.length : Int)) && ((x3.2.2.1 == (frame_Sectors (a1.length : Int))) && (((id x4.2.2.2) == 4) && bursarylaw14_sure))))))) rfl (eb (andF gd4).symm) ?_
              exact J k' hk'
      · intro hk J
        rcases Bool.eq_false_or_eq_true (!(decide (x2.2 = 0))) with gd3 | gd3
        · have gd3' : (decide (x2.2 = 0)) = false := ntT gd3
          have gd3'p := of_decide_eq_false gd3'
          refine Go.rx 20 { ws := [(1, { v := some (tb true), er := some (82, x2.2) })] } [] [0, 1, 2, 7, 42] _ [(0, t32 a0), (1, .sl 1 g_a1 a1.length (u8s a1)), (2, .sl 1 g_a2 a2.length (b8s .shr a2)), (7, .sl 1 .shr x2.1.length (b8s .shr x2.1)), (42, tb true)] [] hk rfl (by as_aux_lemma => kernel_rfl) (.cons (⟨rfl, rfl⟩ : (er 82 x2.2) = er 82 x2.2 ∧ (.leaf .nilIface : T) = .leaf .nilIface) (.cons (eb gd3) .nil)) ?_
          intro k' hk'
          refine Go.slotEq 42 (tb ((!(decide (x2.2 = 0))) || ((x2.1.length : Int) == 0))) rfl (eb (orT gd3).symm) ?_
          exact J k' hk'
        · have gd3' : (decide (x2.2 = 0)) = true := ntF gd3
          have gd3'p := of_decide_eq_true gd3'
          refine Go.rx 20 { ws := [(1, { v := some (tb false), er := some (82, x2.2) })] } [] [0, 1, 2, 7, 42] _ [(0, t32 a0), (1, .sl 1 g_a1 a1.length (u8s a1)), (2, .sl 1 g_a2 a2.length (b8s .shr a2)), (7, .sl 1 .shr x2.1.length (b8s .shr x2.1)), (42, tb ((x2.1.length : Int) == 0))] [] hk rfl (by as_aux_lemma => kernel_rfl) (.cons (⟨rfl, rfl⟩ : (er 82 x2.2) = er 82 x2.2 ∧ (.leaf .nilIface : T) = .leaf .nilIface) (.cons (eb gd3) (.cons trivial .nil))) ?_
          intro k' hk'
          refine Go.slotEq 42 (tb ((!(decide (x2.2 = 0))) || ((x2.1.length : Int) == 0))) rfl (eb (orF gd3 rfl).symm) ?_
          exact J k' hk'
  · intro hk J
    rcases Bool.eq_false_or_eq_true (a0 == 0) with gd1 | gd1
    · refine Go.rx 20 { ws := [(1, { v := some (tb true) })] } [] [0, 1, 2, 28] _ [(0, t32 a0), (1, .sl 1 g_a1 a1.length (u8s a1)), (2, .sl 1 g_a2 a2.length (b8s .shr a2)), (28, tb true)] [] hk rfl (by as_aux_lemma => kernel_rfl) (.cons trivial (.cons ((eqB32 a0 0).trans (eb gd1)) .nil)) ?_
      intro k' hk'
      refine Go.slotEq 28 (tb ((a0 == 0) || ((decide ((a1.length : Int) > 900)) || (!(bursarylaw14_small a2))))) rfl (eb (orT gd1).symm) ?_
      exact J k' hk'
    · rcases Bool.eq_false_or_eq_true (decide ((a1.length : Int) > 900)) with gd2 | gd2
      · have gd2p := of_decide_eq_true gd2
        refine Go.rx 20 { ws := [(1, { v := some (tb false) }), (5, { v := some (tb true) })] } [] [0, 1, 2, 28] _ [(0, t32 a0), (1, .sl 1 g_a1 a1.length (u8s a1)), (2, .sl 1 g_a2 a2.length (b8s .shr a2)), (28, tb true)] [] hk rfl (by as_aux_lemma => kernel_rfl) (.cons trivial (.cons ((eqB32 a0 0).trans (eb gd1)) (.cons trivial (.cons (eb gd2) .nil)))) ?_
        intro k' hk'
        refine Go.slotEq 28 (tb ((a0 == 0) || ((decide ((a1.length : Int) > 900)) || (!(bursarylaw14_small a2))))) rfl (eb (orF gd1 (orT gd2)).symm) ?_
        exact J k' hk'
      · have gd2p := of_decide_eq_false gd2
        refine Go.rx 20 { ws := [(1, { v := some (tb false) }), (5, { v := some (tb false) }), (9, { call := some { ids := [], S := [], M := [], R := tb (bursarylaw14_small a2), H' := [] } })] } [] [0, 1, 2, 28] _ [(0, t32 a0), (1, .sl 1 g_a1 a1.length (u8s a1)), (2, .sl 1 g_a2 a2.length (b8s .shr a2)), (28, tb (!(bursarylaw14_small a2)))] [] hk rfl (by as_aux_lemma => kernel_rfl) (.cons trivial (.cons ((eqB32 a0 0).trans (eb gd1)) (.cons trivial (.cons (eb gd2) (.cons (bursarylaw14_small_m (g_l := g_a2) a2) (.cons (by first | rfl | (simp only [T.ids, idsL, er_ids, List.append_nil, List.nil_append]; rfl) : subN (idsL [.sl 1 g_a2 a2.length (b8s .shr a2)]) [] = true) .nil)))))) ?_
        intro k' hk'
        refine Go.slotEq 28 (tb ((a0 == 0) || ((decide ((a1.length : Int) > 900)) || (!(bursarylaw14_small a2))))) rfl (eb (orF gd1 (orF gd2 rfl)).symm) ?_
        exact J k' hk'
noncomputable def bursarylaw14_FrameMixed_k3 (a0 : List UInt8) (a1 : List UInt8) (x2 : List (List UInt8) × Int) (t1 : Int) (o4 : List (List UInt8)) (t2 : Int) : Bool :=
  bnd (frame_Join o4) fun x3 =>
  bif t1 == (x2.1.length : Int) then
    (decide (x3.2.2.2 = 0)) && ((x3.1 == 6) && ((x3.2.1 == a1) && bursarylaw14_sure))
  else
    bif t2 == 0 then
      (decide (x3.2.2.2 = 0)) && ((x3.1 == 5) && ((x3.2.1 == a0) && bursarylaw14_sure))
    else
      bnd (id x3.2.2.2) fun x4 =>
      (x4 == 4) && ((x3.1 == 0) && (((x3.2.1.length : Int) == 0) && bursarylaw14_sure))
noncomputable def bursarylaw14_FrameMixed_l3 (a2 : List Bool) (x1 : List (List UInt8) × Int) (x2 : List (List UInt8) × Int) : Nat → Int → Int → Lo Int Bool
  | 0, _, _ => .brk default
  | ml3 + 1, t141, t151 =>
    bif (decide (t151 < (x2.1.length : Int))) && (decide (t151 < (x1.1.length : Int))) then
      bnd (bif (decide (t151 < (a2.length : Int))) && (a2.getD t151.toNat false) then t141 + 1 else t141) fun y1 =>
      bursarylaw14_FrameMixed_l3 a2 x1 x2 ml3 y1 (t151 + 1)
    else
      Lo.brk t141
noncomputable def bursarylaw14_FrameMixed_k2 (a0 : List UInt8) (a1 : List UInt8) (a2 : List Bool) (x1 : List (List UInt8) × Int) (x2 : List (List UInt8) × Int) (t1 : Int) (o4 : List (List UInt8)) : Bool :=
  Lo.el (bursarylaw14_FrameMixed_l3 a2 x1 x2 (((x2.1.length : Int) - (0 : Int)).toNat + 1) 0 0) (fun z : Int => bursarylaw14_FrameMixed_k3 a0 a1 x2 t1 o4 z)
noncomputable def bursarylaw14_FrameMixed_l2 (a2 : List Bool) (x2 : List (List UInt8) × Int) : Nat → Int → Int → (List (List UInt8)) → Lo (Int × List (List UInt8)) Bool
  | 0, _, _, _ => .brk default
  | ml2 + 1, t121, t131, o3 =>
    bif decide (t131 < (x2.1.length : Int)) then
      bif (decide (t131 < (a2.length : Int))) && (a2.getD t131.toNat false) then
        bursarylaw14_FrameMixed_l2 a2 x2 ml2 (t121 + 1) (t131 + 1) (o3.set t131.toNat (x2.1.getD t131.toNat []))
      else
        bursarylaw14_FrameMixed_l2 a2 x2 ml2 t121 (t131 + 1) o3
    else
      Lo.brk (t121, o3)
noncomputable def bursarylaw14_FrameMixed_k1 (a0 : List UInt8) (a1 : List UInt8) (a2 : List Bool) (x1 : List (List UInt8) × Int) (x2 : List (List UInt8) × Int) (o2 : List (List UInt8)) : Bool :=
  Lo.el (bursarylaw14_FrameMixed_l2 a2 x2 (((x2.1.length : Int) - (0 : Int)).toNat + 1) 0 0 o2) (fun z : Int × List (List UInt8) => bursarylaw14_FrameMixed_k2 a0 a1 a2 x1 x2 z.1 z.2)
noncomputable def bursarylaw14_FrameMixed_l1 (x2 : List (List UInt8) × Int) : Nat → (List (List UInt8)) → Lo (List (List UInt8)) Bool
  | 0, _ => .brk default
  | ml1 + 1, o1 =>
    bif decide ((o1.length : Int) < (x2.1.length : Int)) then
      bursarylaw14_FrameMixed_l1 x2 ml1 (o1 ++ [List.replicate 64 (0 : UInt8)])
    else
      Lo.brk o1
noncomputable def bursarylaw14_FrameMixed (a0 : List UInt8) (a1 : List UInt8) (a2 : List Bool) : Bool :=
  bif (decide ((a0.length : Int) > 900)) || (decide ((a1.length : Int) > 900)) then
    bursarylaw14_sure
  else
    bnd (frame_Split 5 a0) fun x1 =>
    bnd (frame_Split 6 a1) fun x2 =>
    bif (!(decide (x1.2 = 0))) || ((!(decide (x2.2 = 0))) || (((x1.1.length : Int) == 0) || ((x2.1.length : Int) == 0))) then
      false
    else
      Lo.el (bursarylaw14_FrameMixed_l1 x2 (((x2.1.length : Int) - ([] ++ x1.1).length).toNat + 1) ([] ++ x1.1)) (fun z : List (List UInt8) => bursarylaw14_FrameMixed_k1 a0 a1 a2 x1 x2 z)
def bursarylaw14_FrameMixed_enc (x : Bool) : T × List (Nat × List T) := (tb x, [])
theorem bursarylaw14_FrameMixed_m {g_a0 : Tag} {g_a1 : Tag} {g_a2 : Tag} (a0 : List UInt8) (a1 : List UInt8) (a2 : List Bool) : Meets Tryd.prog 5 [.sl 1 g_a0 a0.length (u8s a0), .sl 1 g_a1 a1.length (u8s a1), .sl 1 g_a2 a2.length (bos a2)] [] [] (tb (bursarylaw14_FrameMixed a0 a1 a2)) [] := by
  refine Meets.enterX (E := E) (N := 176) (enc := bursarylaw14_FrameMixed_enc) (x := (bursarylaw14_FrameMixed a0 a1 a2)) Tryd.func5 Tryd.call5 rfl rfl ?_
  intro Γ k hk
  refine Go.rx 20 {} [] [0, 1, 2] _ [(0, .sl 1 g_a0 a0.length (u8s a0)), (1, .sl 1 g_a1 a1.length (u8s a1)), (2, .sl 1 g_a2 a2.length (bos a2))] [] hk rfl (by as_aux_lemma => kernel_rfl) .nil ?_
  clear hk; intro k hk
  refine Go.regJ 20 [(0, .sl 1 g_a0 a0.length (u8s a0)), (1, .sl 1 g_a1 a1.length (u8s a1)), (2, .sl 1 g_a2 a2.length (bos a2)), (27, tb ((decide ((a0.length : Int) > 900)) || (decide ((a1.length : Int) > 900))))] [] hk rfl ?_ ?_
  · clear hk; intro k hk
    refine Go.br 20 (Pf := (PostX Γ bursarylaw14_FrameMixed_enc)) hk rfl rfl ?_ ?_ <;> clear hk <;> intro ct1 k hk
    · refine Go.rx 20 { ws := [(0, { call := some { ids := [], S := [], M := [], R := tb bursarylaw14_sure, H' := [] } })] } [] [6] _ [(6, tb bursarylaw14_sure)] [] hk rfl (by as_aux_lemma => kernel_rfl) (.cons (bursarylaw14_sure_m) (.cons (by first | rfl | (simp only [T.ids, idsL, er_ids, List.append_nil, List.nil_append]; rfl) : subN (idsL []) [] = true) .nil)) ?_
      clear hk; intro k hk
      exact Go.lvx 20 [] _ [tb bursarylaw14_sure] Tryd.func5 hk rfl (by as_aux_lemma => kernel_rfl) .nil (T.Le.of_eq rfl) rfl rfl .nil
    · have ct11 : (decide ((a0.length : Int) > 900)) = false := (Bool.or_eq_false_iff.1 ct1).1
      have ct12 : (decide ((a1.length : Int) > 900)) = false := (Bool.or_eq_false_iff.1 ct1).2
      have ct11p := of_decide_eq_false ct11
      have ct12p := of_decide_eq_false ct12
      refine Go.rx 20 { ws := [(1, { call := some { ids := [], S := [], M := [], R := .tup [.sl 1 .shr ((frame_Split 5 a0).1).length (b8s .shr ((frame_Split 5 a0).1)), er 82 ((frame_Split 5 a0).2)], H' := [] } })] } [] [0, 1, 2, 7, 8] _ [(0, .sl 1 g_a0 a0.length (u8s a0)), (1, .sl 1 g_a1 a1.length (u8s a1)), (2, .sl 1 g_a2 a2.length (bos a2)), (7, .sl 1 .shr ((frame_Split 5 a0).1).length (b8s .shr ((frame_Split 5 a0).1))), (8, er 82 ((frame_Split 5 a0).2))] [] hk rfl (by as_aux_lemma => kernel_rfl) (.cons (frame_Split_m (g_a1 := g_a0) 5 a0) (.cons (by first | rfl | (simp only [T.ids, idsL, er_ids, List.append_nil, List.nil_append]; rfl) : subN (idsL [t32 5, .sl 1 g_a0 a0.length (u8s a0)]) [] = true) .nil)) ?_
      clear hk; intro k hk
      refine Go.bnd (Pf := (PostX Γ bursarylaw14_FrameMixed_enc)) (v := (frame_Split 5 a0)) (fun x1 => [(0, .sl 1 g_a0 a0.length (u8s a0)), (1, .sl 1 g_a1 a1.length (u8s a1)), (2, .sl 1 g_a2 a2.length (bos a2)), (7, .sl 1 .shr x1.1.length (b8s .shr x1.1)), (8, er 82 x1.2)]) (fun x1 => []) ?_
      intro x1 hx1
      have fx1 := split_fact 5 a0
      rw [← hx1] at fx1
      obtain ⟨fx10, fx11, fx12⟩ := fx1
      refine Go.rx 20 { ws := [(1, { call := some { ids := [], S := [], M := [], R := .tup [.sl 1 .shr ((frame_Split 6 a1).1).length (b8s .shr ((frame_Split 6 a1).1)), er 82 ((frame_Split 6 a1).2)], H' := [] } })] } [] [0, 1, 2, 7, 8, 9, 10] _ [(0, .sl 1 g_a0 a0.length (u8s a0)), (1, .sl 1 g_a1 a1.length (u8s a1)), (2, .sl 1 g_a2 a2.length (bos a2)), (7, .sl 1 .shr x1.1.length (b8s .shr x1.1)), (8, er 82 x1.2), (9, .sl 1 .shr ((frame_Split 6 a1).1).length (b8s .shr ((frame_Split 6 a1).1))), (10, er 82 ((frame_Split 6 a1).2))] [] hk rfl (by as_aux_lemma => kernel_rfl) (.cons (frame_Split_m (g_a1 := g_a1) 6 a1) (.cons (by first | rfl | (simp only [T.ids, idsL, er_ids, List.append_nil, List.nil_append]; rfl) : subN (idsL [t32 6, .sl 1 g_a1 a1.length (u8s a1)]) [] = true) .nil)) ?_
      clear hk; intro k hk
      refine Go.bnd (Pf := (PostX Γ bursarylaw14_FrameMixed_enc)) (v := (frame_Split 6 a1)) (fun x2 => [(0, .sl 1 g_a0 a0.length (u8s a0)), (1, .sl 1 g_a1 a1.length (u8s a1)), (2, .sl 1 g_a2 a2.length (bos a2)), (7, .sl 1 .shr x1.1.length (b8s .shr x1.1)), (8, er 82 x1.2), (9, .sl 1 .shr x2.1.length (b8s .shr x2.1)), (10, er 82 x2.2)]) (fun x2 => []) ?_
      intro x2 hx2
      have fx2 := split_fact 6 a1
      rw [← hx2] at fx2
      obtain ⟨fx20, fx21, fx22⟩ := fx2
      refine Go.regJ 20 [(0, .sl 1 g_a0 a0.length (u8s a0)), (1, .sl 1 g_a1 a1.length (u8s a1)), (2, .sl 1 g_a2 a2.length (bos a2)), (7, .sl 1 .shr x1.1.length (b8s .shr x1.1)), (9, .sl 1 .shr x2.1.length (b8s .shr x2.1)), (54, tb ((!(decide (x1.2 = 0))) || ((!(decide (x2.2 = 0))) || (((x1.1.length : Int) == 0) || ((x2.1.length : Int) == 0)))))] [] hk rfl ?_ ?_
      · clear hk; intro k hk
        refine Go.br 20 (Pf := (PostX Γ bursarylaw14_FrameMixed_enc)) hk rfl rfl ?_ ?_ <;> clear hk <;> intro ct2 k hk
        · refine Go.rx 20 {} [] [6] _ [(6, tb false)] [] hk rfl (by as_aux_lemma => kernel_rfl) .nil ?_
          clear hk; intro k hk
          exact Go.lvx 20 [] _ [tb false] Tryd.func5 hk rfl (by as_aux_lemma => kernel_rfl) .nil (T.Le.of_eq rfl) rfl rfl .nil
        · have ct21 : (!(decide (x1.2 = 0))) = false := (Bool.or_eq_false_iff.1 ct2).1
          have ct22 : ((!(decide (x2.2 = 0))) || (((x1.1.length : Int) == 0) || ((x2.1.length : Int) == 0))) = false := (Bool.or_eq_false_iff.1 ct2).2
          have ct21' : (decide (x1.2 = 0)) = true := ntF ct21
          have ct21'p := of_decide_eq_true ct21'
          have ct221 : (!(decide (x2.2 = 0))) = false := (Bool.or_eq_false_iff.1 ct22).1
          have ct222 : (((x1.1.length : Int) == 0) || ((x2.1.length : Int) == 0)) = false := (Bool.or_eq_false_iff.1 ct22).2
          have ct221' : (decide (x2.2 = 0)) = true := ntF ct221
          have ct221'p := of_decide_eq_true ct221'
          have ct2221 : ((x1.1.length : Int) == 0) = false := (Bool.or_eq_false_iff.1 ct222).1
          have ct2222 : ((x2.1.length : Int) == 0) = false := (Bool.or_eq_false_iff.1 ct222).2
          have ct2221p := eqIf ct2221
          have ct2222p := eqIf ct2222
          refine Go.rx 20 { ws := [(0, { id := 10 }), (2, { v := some (.ref 10 1 0 (([] ++ x1.1).length)), c := some (b8s .shr ([] ++ x1.1)), id := 10, sym := true })] } [] [0, 1, 2, 7, 9, 11] _ [(0, .sl 1 g_a0 a0.length (u8s a0)), (1, .sl 1 g_a1 a1.length (u8s a1)), (2, .sl 1 g_a2 a2.length (bos a2)), (7, .sl 1 .shr x1.1.length (b8s .shr x1.1)), (9, .sl 1 .shr x2.1.length (b8s .shr x2.1)), (11, .ref 10 1 0 (([] ++ x1.1).length))] [(10, b8s .shr ([] ++ x1.1))] hk rfl (by as_aux_lemma => kernel_rfl) (.cons (by decide : 0 + 0 * 1 ≤ (([] : List T)).length) (.cons (mp_scal x1.1 (fun _ => rfl) : scalL (b8s .shr x1.1) = true) (.cons (by first | omega | (simp <;> omega) | (simp at * <;> omega) | (split <;> omega) | (split <;> (first | omega | (simp <;> omega) | (simp at * <;> omega))) : (0 + x1.1.length) * 24 ≤ 140737488355328) (.cons (mp_app' (g := (fun c : List UInt8 => tl .shr c)) (m := 0) [] x1.1 rfl rfl) (.cons (mp_mem (i := 10) (g := (fun c : List UInt8 => tl .shr c)) ([] ++ x1.1) (fun _ => rfl)) (.cons (by simp : T.ref 10 1 0 (0 + x1.1.length) = .ref 10 1 0 (([] ++ x1.1).length)) .nil)))))) ?_
          clear hk; intro k hk
          refine Go.loopX 20 hk rfl ?_
          clear hk; intro kl1 kxl1 hl1 hxl1
          have Xl1 : ∀ (o2 : List (List UInt8)) (f0l1 : x2.1.length ≤ o2.length) (f1l1 : o2.length ≤ 255) (f2l1 : ∀ i : Nat, (o2.getD i []).length ≤ 200), Go E Γ 5 176 [] ((PostX Γ bursarylaw14_FrameMixed_enc) (bursarylaw14_FrameMixed_k1 a0 a1 a2 x1 x2 o2)) kxl1 (stL [(0, .sl 1 g_a0 a0.length (u8s a0)), (1, .sl 1 g_a1 a1.length (u8s a1)), (2, .sl 1 g_a2 a2.length (bos a2)), (7, .sl 1 .shr x1.1.length (b8s .shr x1.1)), (9, .sl 1 .shr x2.1.length (b8s .shr x2.1)), (11, .ref 10 1 0 o2.length)] [(10, b8s .shr o2)]) := by
            intro o2 f0l1 f1l1 f2l1
            refine Go.rx 20 {} [] [0, 1, 2, 7, 9, 11, 12] _ [(0, .sl 1 g_a0 a0.length (u8s a0)), (1, .sl 1 g_a1 a1.length (u8s a1)), (2, .sl 1 g_a2 a2.length (bos a2)), (7, .sl 1 .shr x1.1.length (b8s .shr x1.1)), (9, .sl 1 .shr x2.1.length (b8s .shr x2.1)), (11, .ref 10 1 0 o2.length), (12, ti 0)] [(10, b8s .shr o2)] hxl1 rfl (by as_aux_lemma => kernel_rfl) .nil ?_
            clear hxl1; intro kxl1 hxl1
            refine Go.rx 20 {} [] [0, 1, 2, 7, 9, 11, 12, 13] _ [(0, .sl 1 g_a0 a0.length (u8s a0)), (1, .sl 1 g_a1 a1.length (u8s a1)), (2, .sl 1 g_a2 a2.length (bos a2)), (7, .sl 1 .shr x1.1.length (b8s .shr x1.1)), (9, .sl 1 .shr x2.1.length (b8s .shr x2.1)), (11, .ref 10 1 0 o2.length), (12, ti 0), (13, ti 0)] [(10, b8s .shr o2)] hxl1 rfl (by as_aux_lemma => kernel_rfl) .nil ?_
            clear hxl1; intro kxl1 hxl1
            refine Go.loopX 20 hxl1 rfl ?_
            clear hxl1; intro kl2 kxl2 hl2 hxl2
            have Xl2 : ∀ (t1 : Int) (o4 : List (List UInt8)) (f0l2 : ∀ i : Nat, (o4.getD i []).length ≤ 200), Go E Γ 5 176 [] ((PostX Γ bursarylaw14_FrameMixed_enc) (bursarylaw14_FrameMixed_k2 a0 a1 a2 x1 x2 t1 o4)) kxl2 (stL [(0, .sl 1 g_a0 a0.length (u8s a0)), (1, .sl 1 g_a1 a1.length (u8s a1)), (2, .sl 1 g_a2 a2.length (bos a2)), (7, .sl 1 .shr x1.1.length (b8s .shr x1.1)), (9, .sl 1 .shr x2.1.length (b8s .shr x2.1)), (11, .ref 10 1 0 o4.length), (12, ti t1)] [(10, b8s .shr o4)]) := by
              intro t1 o4 f0l2
              refine Go.rx 20 {} [] [0, 1, 2, 7, 9, 11, 12, 14] _ [(0, .sl 1 g_a0 a0.length (u8s a0)), (1, .sl 1 g_a1 a1.length (u8s a1)), (2, .sl 1 g_a2 a2.length (bos a2)), (7, .sl 1 .shr x1.1.length (b8s .shr x1.1)), (9, .sl 1 .shr x2.1.length (b8s .shr x2.1)), (11, .ref 10 1 0 o4.length), (12, ti t1), (14, ti 0)] [(10, b8s .shr o4)] hxl2 rfl (by as_aux_lemma => kernel_rfl) .nil ?_
              clear hxl2; intro kxl2 hxl2
              refine Go.rx 20 {} [] [0, 1, 2, 7, 9, 11, 12, 14, 15] _ [(0, .sl 1 g_a0 a0.length (u8s a0)), (1, .sl 1 g_a1 a1.length (u8s a1)), (2, .sl 1 g_a2 a2.length (bos a2)), (7, .sl 1 .shr x1.1.length (b8s .shr x1.1)), (9, .sl 1 .shr x2.1.length (b8s .shr x2.1)), (11, .ref 10 1 0 o4.length), (12, ti t1), (14, ti 0), (15, ti 0)] [(10, b8s .shr o4)] hxl2 rfl (by as_aux_lemma => kernel_rfl) .nil ?_
              clear hxl2; intro kxl2 hxl2
              refine Go.loopX 20 hxl2 rfl ?_
              clear hxl2; intro kl3 kxl3 hl3 hxl3
              have Xl3 : ∀ (t2 : Int), Go E Γ 5 176 [] ((PostX Γ bursarylaw14_FrameMixed_enc) (bursarylaw14_FrameMixed_k3 a0 a1 x2 t1 o4 t2)) kxl3 (stL [(0, .sl 1 g_a0 a0.length (u8s a0)), (1, .sl 1 g_a1 a1.length (u8s a1)), (9, .sl 1 .shr x2.1.length (b8s .shr x2.1)), (11, .ref 10 1 0 o4.length), (12, ti t1), (14, ti t2)] [(10, b8s .shr o4)]) := by
                intro t2
                refine Go.rx 20 { ws := [(1, { call := some { ids := [], S := [], M := [10], R := .tup [t32 ((frame_Join o4).1), .sl 1 .shr ((frame_Join o4).2.1).length (u8s ((frame_Join o4).2.1)), ti ((frame_Join o4).2.2.1), er 82 ((frame_Join o4).2.2.2)], H' := [] } })], ps := [19, 116, 118, 122] } [10] [0, 1, 9, 12, 14, 16, 17, 19] _ [(0, .sl 1 g_a0 a0.length (u8s a0)), (1, .sl 1 g_a1 a1.length (u8s a1)), (9, .sl 1 .shr x2.1.length (b8s .shr x2.1)), (12, ti t1), (14, ti t2), (16, t32 ((frame_Join o4).1)), (17, .sl 1 .shr ((frame_Join o4).2.1).length (u8s ((frame_Join o4).2.1))), (19, er 82 ((frame_Join o4).2.2.2))] [] hxl3 rfl (by as_aux_lemma => kernel_rfl) (.cons (Meets.eqA (A := [.sl 1 .brw o4.length (sub (b8s .shr o4) 0 (o4.length * 1))]) (by first | rfl | simp only [mp_all]) (frame_Join_m (g_a0 := .brw) o4 (by assumption))) (.cons (mp_ids (g := (fun c : List UInt8 => tl .shr c)) o4 (fun _ => rfl)) (.cons (by simp only [List.length_map]; first | omega | (simp <;> omega) | (simp at * <;> omega) | (split <;> omega) | (split <;> (first | omega | (simp <;> omega) | (simp at * <;> omega))) : 0 + o4.length * 1 ≤ (b8s .shr o4).length) (.cons (by first | rfl | (simp only [T.ids, idsL, er_ids, List.append_nil, List.nil_append]; rfl) : subN (idsL [.sl 1 .brw o4.length (sub (b8s .shr o4) 0 (o4.length * 1))]) [] = true) (.cons (by first | rfl | (simp only [T.noB, noBL, er_noB, u8s_noB, b8s_noB, Bool.and_self, Bool.true_and, Bool.and_true]; rfl) | simp only [T.noB, noBL, er_noB, u8s_noB, b8s_noB, Bool.and_self, Bool.true_and, Bool.and_true] : T.noB (.tup [t32 ((frame_Join o4).1), .sl 1 .shr ((frame_Join o4).2.1).length (u8s ((frame_Join o4).2.1)), ti ((frame_Join o4).2.2.1), er 82 ((frame_Join o4).2.2.2)]) = true) (.cons (by first | rfl | (simp only [T.ids, idsL, er_ids, List.append_nil, List.nil_append]; rfl) : memN 10 (T.ids (.tup [t32 ((frame_Join o4).1), .sl 1 .shr ((frame_Join o4).2.1).length (u8s ((frame_Join o4).2.1)), ti ((frame_Join o4).2.2.1), er 82 ((frame_Join o4).2.2.2)])) = false) (.cons (by first | rfl | (simp only [T.ids, idsL, er_ids, List.append_nil, List.nil_append]; rfl) : memN 10 (T.ids (.tup [t32 ((frame_Join o4).1), .sl 1 .shr ((frame_Join o4).2.1).length (u8s ((frame_Join o4).2.1)), ti ((frame_Join o4).2.2.1), er 82 ((frame_Join o4).2.2.2)])) = false) (.cons (er_mem (i := 10) 82 ((frame_Join o4).2.2.2)) (.cons (er_mem (i := 10) 82 ((frame_Join o4).2.2.2)) .nil))))))))) ?_
                clear hxl3; intro kxl3 hxl3
                refine Go.bnd (Pf := (PostX Γ bursarylaw14_FrameMixed_enc)) (v := (frame_Join o4)) (fun x3 => [(0, .sl 1 g_a0 a0.length (u8s a0)), (1, .sl 1 g_a1 a1.length (u8s a1)), (9, .sl 1 .shr x2.1.length (b8s .shr x2.1)), (12, ti t1), (14, ti t2), (16, t32 x3.1), (17, .sl 1 .shr x3.2.1.length (u8s x3.2.1)), (19, er 82 x3.2.2.2)]) (fun x3 => []) ?_
                intro x3 hx3
                refine Go.rx 20 {} [] [0, 1, 14, 16, 17, 19, 126] _ [(0, .sl 1 g_a0 a0.length (u8s a0)), (1, .sl 1 g_a1 a1.length (u8s a1)), (14, ti t2), (16, t32 x3.1), (17, .sl 1 .shr x3.2.1.length (u8s x3.2.1)), (19, er 82 x3.2.2.2), (126, tb (t1 == (x2.1.length : Int)))] [] hxl3 rfl (by as_aux_lemma => kernel_rfl) (.cons trivial .nil) ?_
                clear hxl3; intro kxl3 hxl3
                refine Go.br 20 (Pf := (PostX Γ bursarylaw14_FrameMixed_enc)) hxl3 rfl rfl ?_ ?_ <;> clear hxl3 <;> intro ct3 kxl3 hxl3
                · have ct3p := eqIt ct3
                  refine Go.regJ 20 [(6, tb ((decide (x3.2.2.2 = 0)) && ((x3.1 == 6) && ((x3.2.1 == a1) && bursarylaw14_sure))))] [] hxl3 rfl ?_ ?_
                  · clear hxl3; intro kxl3 hxl3
                    exact Go.lvx 20 [] _ [tb ((decide (x3.2.2.2 = 0)) && ((x3.1 == 6) && ((x3.2.1 == a1) && bursarylaw14_sure)))] Tryd.func5 hxl3 rfl (by as_aux_lemma => kernel_rfl) .nil (T.Le.of_eq rfl) rfl rfl .nil
                  · intro hxl3 J
                    rcases Bool.eq_false_or_eq_true (decide (x3.2.2.2 = 0)) with gd5 | gd5
                    · have gd5p := of_decide_eq_true gd5
                      rcases Bool.eq_false_or_eq_true (x3.1 == 6) with gd6 | gd6
                      · rcases Bool.eq_false_or_eq_true (x3.2.1 == a1) with gd7 | gd7
                        · refine Go.rx 20 { ws := [(1, { v := some (tb true), er := some (82, x3.2.2.2) }), (4, { v := some (tb true) }), (8, { b := x3.2.1 }), (10, { b := a1 }), (11, { v := some (tb true) }), (14, { call := some { ids := [], S := [], M := [], R := tb bursarylaw14_sure, H' := [] } })] } [] [6] _ [(6, tb bursarylaw14_sure)] [] hxl3 rfl (by as_aux_lemma => kernel_rfl) (.cons (⟨rfl, rfl⟩ : (er 82 x3.2.2.2) = er 82 x3.2.2.2 ∧ (.leaf .nilIface : T) = .leaf .nilIface) (.cons (eb gd5) (.cons trivial (.cons ((eqB32 x3.1 6).trans (eb gd6)) (.cons (rfl : u8s x3.2.1 = u8s x3.2.1) (.cons (rfl : u8s a1 = u8s a1) (.cons trivial (.cons ((s_eq x3.2.1 a1).trans (eb gd7)) (.cons (bursarylaw14_sure_m) (.cons (by first | rfl | (simp only [T.ids, idsL, er_ids, List.append_nil, List.nil_append]; rfl) : subN (idsL []) [] = true) .nil)))))))))) ?_
                          intro k' hk'
                          refine Go.slotEq 6 (tb ((decide (x3.2.2.2 = 0)) && ((x3.1 == 6) && ((x3.2.1 == a1) && bursarylaw14_sure)))) rfl (eb (andT gd5 (andT gd6 (andT gd7 rfl))).symm) ?_
                          exact J k' hk'
                        · refine Go.rx 20 { ws := [(1, { v := some (tb true), er := some (82, x3.2.2.2) }), (4, { v := some (tb true) }), (8, { b := x3.2.1 }), (10, { b := a1 }), (11, { v := some (tb false) })] } [] [6] _ [(6, tb false)] [] hxl3 rfl (by as_aux_lemma => kernel_rfl) (.cons (⟨rfl, rfl⟩ : (er 82 x3.2.2.2) = er 82 x3.2.2.2 ∧ (.leaf .nilIface : T) = .leaf .nilIface) (.cons (eb gd5) (.cons trivial (.cons ((eqB32 x3.1 6).trans (eb gd6)) (.cons (rfl : u8s x3.2.1 = u8s x3.2.1) (.cons (rfl : u8s a1 = u8s a1) (.cons trivial (.cons ((s_eq x3.2.1 a1).trans (eb gd7)) .nil)))))))) ?_
                          intro k' hk'
                          refine Go.slotEq 6 (tb ((decide (x3.2.2.2 = 0)) && ((x3.1 == 6) && ((x3.2.1 == a1) && bursarylaw14_sure)))) rfl (eb (andT gd5 (andT gd6 (andF gd7))).symm) ?_
                          exact J k' hk'
                      · refine Go.rx 20 { ws := [(1, { v := some (tb true), er := some (82, x3.2.2.2) }), (4, { v := some (tb false) })] } [] [6] _ [(6, tb false)] [] hxl3 rfl (by as_aux_lemma => kernel_rfl) (.cons (⟨rfl, rfl⟩ : (er 82 x3.2.2.2) = er 82 x3.2.2.2 ∧ (.leaf .nilIface : T) = .leaf .nilIface) (.cons (eb gd5) (.cons trivial (.cons ((eqB32 x3.1 6).trans (eb gd6)) .nil)))) ?_
                        intro k' hk'
                        refine Go.slotEq 6 (tb ((decide (x3.2.2.2 = 0)) && ((x3.1 == 6) && ((x3.2.1 == a1) && bursarylaw14_sure)))) rfl (eb (andT gd5 (andF gd6)).symm) ?_
                        exact J k' hk'
                    · have gd5p := of_decide_eq_false gd5
                      refine Go.rx 20 { ws := [(1, { v := some (tb false), er := some (82, x3.2.2.2) })] } [] [6] _ [(6, tb false)] [] hxl3 rfl (by as_aux_lemma => kernel_rfl) (.cons (⟨rfl, rfl⟩ : (er 82 x3.2.2.2) = er 82 x3.2.2.2 ∧ (.leaf .nilIface : T) = .leaf .nilIface) (.cons (eb gd5) .nil)) ?_
                      intro k' hk'
                      refine Go.slotEq 6 (tb ((decide (x3.2.2.2 = 0)) && ((x3.1 == 6) && ((x3.2.1 == a1) && bursarylaw14_sure)))) rfl (eb (andF gd5).symm) ?_
                      exact J k' hk'
                · have ct3p := eqIf ct3
                  refine Go.rx 20 {} [] [0, 16, 17, 19, 144] _ [(0, .sl 1 g_a0 a0.length (u8s a0)), (16, t32 x3.1), (17, .sl 1 .shr x3.2.1.length (u8s x3.2.1)), (19, er 82 x3.2.2.2), (144, tb (t2 == 0))] [] hxl3 rfl (by as_aux_lemma => kernel_rfl) (.cons trivial .nil) ?_
                  clear hxl3; intro kxl3 hxl3
                  refine Go.br 20 (Pf := (PostX Γ bursarylaw14_FrameMixed_enc)) hxl3 rfl rfl ?_ ?_ <;> clear hxl3 <;> intro ct4 kxl3 hxl3
                  · have ct4p := eqIt ct4
                    refine Go.regJ 20 [(6, tb ((decide (x3.2.2.2 = 0)) && ((x3.1 == 5) && ((x3.2.1 == a0) && bursarylaw14_sure))))] [] hxl3 rfl ?_ ?_
                    · clear hxl3; intro kxl3 hxl3
                      exact Go.lvx 20 [] _ [tb ((decide (x3.2.2.2 = 0)) && ((x3.1 == 5) && ((x3.2.1 == a0) && bursarylaw14_sure)))] Tryd.func5 hxl3 rfl (by as_aux_lemma => kernel_rfl) .nil (T.Le.of_eq rfl) rfl rfl .nil
                    · intro hxl3 J
                      rcases Bool.eq_false_or_eq_true (decide (x3.2.2.2 = 0)) with gd8 | gd8
                      · have gd8p := of_decide_eq_true gd8
                        rcases Bool.eq_false_or_eq_true (x3.1 == 5) with gd9 | gd9
                        · rcases Bool.eq_false_or_eq_true (x3.2.1 == a0) with gd10 | gd10
                          · refine Go.rx 20 { ws := [(1, { v := some (tb true), er := some (82, x3.2.2.2) }), (4, { v := some (tb true) }), (8, { b := x3.2.1 }), (10, { b := a0 }), (11, { v := some (tb true) }), (14, { call := some { ids := [], S := [], M := [], R := tb bursarylaw14_sure, H' := [] } })] } [] [6] _ [(6, tb bursarylaw14_sure)] [] hxl3 rfl (by as_aux_lemma => kernel_rfl) (.cons (⟨rfl, rfl⟩ : (er 82 x3.2.2.2) = er 82 x3.2.2.2 ∧ (.leaf .nilIface : T) = .leaf .nilIface) (.cons (eb gd8) (.cons trivial (.cons ((eqB32 x3.1 5).trans (eb gd9)) (.cons (rfl : u8s x3.2.1 = u8s x3.2.1) (.cons (rfl : u8s a0 = u8s a0) (.cons trivial (.cons ((s_eq x3.2.1 a0).trans (eb gd10)) (.cons (bursarylaw14_sure_m) (.cons (by first | rfl | (simp only [T.ids, idsL, er_ids, List.append_nil, List.nil_append]; rfl) : subN (idsL []) [] = true) .nil)))))))))) ?_
                            intro k' hk'
                            refine Go.slotEq 6 (tb ((decide (x3.2.2.2 = 0)) && ((x3.1 == 5) && ((x3.2.1 == a0) && bursarylaw14_sure)))) rfl (eb (andT gd8 (andT gd9 (andT gd10 rfl))).symm) ?_
                            exact J k' hk'
                          · refine Go.rx 20 { ws := [(1, { v := some (tb true), er := some (82, x3.2.2.2) }), (4, { v := some (tb true) }), (8, { b := x3.2.1 }), (10, { b := a0 }), (11, { v := some (tb false) })] } [] [6] _ [(6, tb false)] [] hxl3 rfl (by as_aux_lemma => kernel_rfl) (.cons (⟨rfl, rfl⟩ : (er 82 x3.2.2.2) = er 82 x3.2.2.2 ∧ (.leaf .nilIface : T) = .leaf .nilIface) (.cons (eb gd8) (.cons trivial (.cons ((eqB32 x3.1 5).trans (eb gd9)) (.cons (rfl : u8s x3.2.1 = u8s x3.2.1) (.cons (rfl : u8s a0 = u8s a0) (.cons trivial (.cons ((s_eq x3.2.1 a0).trans (eb gd10)) .nil)))))))) ?_
                            intro k' hk'
                            refine Go.slotEq 6 (tb ((decide (x3.2.2.2 = 0)) && ((x3.1 == 5) && ((x3.2.1 == a0) && bursarylaw14_sure)))) rfl (eb (andT gd8 (andT gd9 (andF gd10))).symm) ?_
                            exact J k' hk'
                        · refine Go.rx 20 { ws := [(1, { v := some (tb true), er := some (82, x3.2.2.2) }), (4, { v := some (tb false) })] } [] [6] _ [(6, tb false)] [] hxl3 rfl (by as_aux_lemma => kernel_rfl) (.cons (⟨rfl, rfl⟩ : (er 82 x3.2.2.2) = er 82 x3.2.2.2 ∧ (.leaf .nilIface : T) = .leaf .nilIface) (.cons (eb gd8) (.cons trivial (.cons ((eqB32 x3.1 5).trans (eb gd9)) .nil)))) ?_
                          intro k' hk'
                          refine Go.slotEq 6 (tb ((decide (x3.2.2.2 = 0)) && ((x3.1 == 5) && ((x3.2.1 == a0) && bursarylaw14_sure)))) rfl (eb (andT gd8 (andF gd9)).symm) ?_
                          exact J k' hk'
                      · have gd8p := of_decide_eq_false gd8
                        refine Go.rx 20 { ws := [(1, { v := some (tb false), er := some (82, x3.2.2.2) })] } [] [6] _ [(6, tb false)] [] hxl3 rfl (by as_aux_lemma => kernel_rfl) (.cons (⟨rfl, rfl⟩ : (er 82 x3.2.2.2) = er 82 x3.2.2.2 ∧ (.leaf .nilIface : T) = .leaf .nilIface) (.cons (eb gd8) .nil)) ?_
                        intro k' hk'
                        refine Go.slotEq 6 (tb ((decide (x3.2.2.2 = 0)) && ((x3.1 == 5) && ((x3.2.1 == a0) && bursarylaw14_sure)))) rfl (eb (andF gd8).symm) ?_
                        exact J k' hk'
                  · have ct4p := eqIf ct4
                    refine Go.regJ 20 [(6, tb (((id x3.2.2.2) == 4) && ((x3.1 == 0) && (((x3.2.1.length : Int) == 0) && bursarylaw14_sure))))] [] hxl3 rfl ?_ ?_
                    · clear hxl3; intro kxl3 hxl3
                      refine Go.bnd (Pf := (PostX Γ bursarylaw14_FrameMixed_enc)) (v := (id x3.2.2.2)) (fun x4 => [(6, tb ((x4 == 4) && ((x3.1 == 0) && (((x3.2.1.length : Int) == 0) && bursarylaw14_sure))))]) (fun x4 => []) ?_
                      intro x4 hx4
                      exact Go.lvx 20 [] _ [tb ((x4 == 4) && ((x3.1 == 0) && (((x3.2.1.length : Int) == 0) && bursarylaw14_sure)))] Tryd.func5 hxl3 rfl (by as_aux_lemma => kernel_rfl) .nil (T.Le.of_eq rfl) rfl rfl .nil
                    · intro hxl3 J
                      rcases Bool.eq_false_or_eq_true ((id x3.2.2.2) == 4) with gd11 | gd11
                      · have gd11p := eqIt gd11
                        rcases Bool.eq_false_or_eq_true (x3.1 == 0) with gd12 | gd12
                        · rcases Bool.eq_false_or_eq_true ((x3.2.1.length : Int) == 0) with gd13 | gd13
                          · have gd13p := eqIt gd13
                            refine Go.rx 20 { ws := [(1, { call := some { ids := [], S := [], M := [], R := ti (id x3.2.2.2), H' := [] } }), (2, { v := some (tb true) }), (5, { v := some (tb true) }), (10, { v := some (tb true) }), (13, { call := some { ids := [], S := [], M := [], R := tb bursarylaw14_sure, H' := [] } })] } [] [6] _ [(6, tb bursarylaw14_sure)] [] hxl3 rfl (by as_aux_lemma => kernel_rfl) (.cons (bursarylaw14_num_m x3.2.2.2) (.cons (by first | rfl | (simp only [T.ids, idsL, er_ids, List.append_nil, List.nil_append]; rfl) : subN (idsL [er 82 x3.2.2.2]) [] = true) (.cons trivial (.cons (eb gd11) (.cons trivial (.cons ((eqB32 x3.1 0).trans (eb gd12)) (.cons trivial (.cons (eb gd13) (.cons (bursarylaw14_sure_m) (.cons (by first | rfl | (simp only [T.ids, idsL, er_ids, List.append_nil, List.nil_append]; rfl) : subN (idsL []) [] = true) .nil)))))))))) ?_
                            intro k' hk'
                            refine Go.slotEq 6 (tb (((id x3.2.2.2) == 4) && ((x3.1 == 0) && (((x3.2.1.length : Int) == 0) && bursarylaw14_sure)))) rfl (eb (andT gd11 (andT gd12 (andT gd13 rfl))).symm) ?_
                            exact J k' hk'
                          · have gd13p := eqIf gd13
                            refine Go.rx 20 { ws := [(1, { call := some { ids := [], S := [], M := [], R := ti (id x3.2.2.2), H' := [] } }), (2, { v := some (tb true) }), (5, { v := some (tb true) }), (10, { v := some (tb false) })] } [] [6] _ [(6, tb false)] [] hxl3 rfl (by as_aux_lemma => kernel_rfl) (.cons (bursarylaw14_num_m x3.2.2.2) (.cons (by first | rfl | (simp only [T.ids, idsL, er_ids, List.append_nil, List.nil_append]; rfl) : subN (idsL [er 82 x3.2.2.2]) [] = true) (.cons trivial (.cons (eb gd11) (.cons trivial (.cons ((eqB32 x3.1 0).trans (eb gd12)) (.cons trivial (.cons (eb gd13) .nil)))))))) ?_
                            intro k' hk'
                            refine Go.slotEq 6 (tb (((id x3.2.2.2) == 4) && ((x3.1 == 0) && (((x3.2.1.length : Int) == 0) && bursarylaw14_sure)))) rfl (eb (andT gd11 (andT gd12 (andF gd13))).symm) ?_
                            exact J k' hk'
                        · refine Go.rx 20 { ws := [(1, { call := some { ids := [], S := [], M := [], R := ti (id x3.2.2.2), H' := [] } }), (2, { v := some (tb true) }), (5, { v := some (tb false) })] } [] [6] _ [(6, tb false)] [] hxl3 rfl (by as_aux_lemma => kernel_rfl) (.cons (bursarylaw14_num_m x3.2.2.2) (.cons (by first | rfl | (simp only [T.ids, idsL, er_ids, List.append_nil, List.nil_append]; rfl) : subN (idsL [er 82 x3.2.2.2]) [] = true) (.cons trivial (.cons (eb gd11) (.cons trivial (.cons ((eqB32 x3.1 0).trans (eb gd12)) .nil)))))) ?_
                          intro k' hk'
                          refine Go.slotEq 6 (tb (((id x3.2.2.2) == 4) && ((x3.1 == 0) && (((x3.2.1.length : Int) == 0) && bursarylaw14_sure)))) rfl (eb (andT gd11 (andF gd12)).symm) ?_
                          exact J k' hk'
                      · have gd11p := eqIf gd11
                        refine Go.rx 20 { ws := [(1, { call := some { ids := [], S := [], M := [], R := ti (id x3.2.2.2), H' := [] } }), (2, { v := some (tb false) })] } [] [6] _ [(6, tb false)] [] hxl3 rfl (by as_aux_lemma => kernel_rfl) (.cons (bursarylaw14_num_m x3.2.2.2) (.cons (by first | rfl | (simp only [T.ids, idsL, er_ids, List.append_nil, List.nil_append]; rfl) : subN (idsL [er 82 x3.2.2.2]) [] = true) (.cons trivial (.cons (eb gd11) .nil)))) ?_
                        intro k' hk'
                        refine Go.slotEq 6 (tb (((id x3.2.2.2) == 4) && ((x3.1 == 0) && (((x3.2.1.length : Int) == 0) && bursarylaw14_sure)))) rfl (eb (andF gd11).symm) ?_
                        exact J k' hk'
              have Ll3 : ∀ (ml3 : Nat) (t141 : Int) (t151 : Int), (0 ≤ t141) → (0 ≤ t151) → (t141 ≤ t151) → (t151 ≤ x2.1.length) → (((x2.1.length : Int) - t151).toNat < ml3) → Go E Γ 5 176 [] ((PostX Γ bursarylaw14_FrameMixed_enc) (Lo.el (bursarylaw14_FrameMixed_l3 a2 x1 x2 ml3 t141 t151) (fun z : Int => bursarylaw14_FrameMixed_k3 a0 a1 x2 t1 o4 z))) kl3 (stL [(0, .sl 1 g_a0 a0.length (u8s a0)), (1, .sl 1 g_a1 a1.length (u8s a1)), (2, .sl 1 g_a2 a2.length (bos a2)), (7, .sl 1 .shr x1.1.length (b8s .shr x1.1)), (9, .sl 1 .shr x2.1.length (b8s .shr x2.1)), (11, .ref 10 1 0 o4.length), (12, ti t1), (14, ti t141), (15, ti t151)] [(10, b8s .shr o4)]) := by
                intro ml3
                induction ml3 with
                | zero => intro t141 t151 i0l3 i1l3 i2l3 i3l3 hml3; exact absurd hml3 (Nat.not_lt_zero _)
                | succ ml3 ihl3 =>
                  intro t141 t151 i0l3 i1l3 i2l3 i3l3 hml3
                  rw [bursarylaw14_FrameMixed_l3]
                  refine Go.round hl3 ?_
                  intro k hk
                  refine Go.regJ 20 [(0, .sl 1 g_a0 a0.length (u8s a0)), (1, .sl 1 g_a1 a1.length (u8s a1)), (2, .sl 1 g_a2 a2.length (bos a2)), (7, .sl 1 .shr x1.1.length (b8s .shr x1.1)), (9, .sl 1 .shr x2.1.length (b8s .shr x2.1)), (11, .ref 10 1 0 o4.length), (12, ti t1), (14, ti t141), (15, ti t151), (101, tb ((decide (t151 < (x2.1.length : Int))) && (decide (t151 < (x1.1.length : Int)))))] [(10, b8s .shr o4)] hk rfl ?_ ?_
                  · clear hk; intro k hk
                    refine Go.br 20 (Pf := (fun z : Lo (Int) (Bool) => (PostX Γ bursarylaw14_FrameMixed_enc) (Lo.el z (fun z : Int => bursarylaw14_FrameMixed_k3 a0 a1 x2 t1 o4 z)))) hk rfl rfl ?_ ?_ <;> clear hk <;> intro ct5 k hk
                    · have ct51 : (decide (t151 < (x2.1.length : Int))) = true := (Bool.and_eq_true_iff.1 ct5).1
                      have ct52 : (decide (t151 < (x1.1.length : Int))) = true := (Bool.and_eq_true_iff.1 ct5).2
                      have ct51p := of_decide_eq_true ct51
                      have ct52p := of_decide_eq_true ct52
                      refine Go.regJ 20 [(0, .sl 1 g_a0 a0.length (u8s a0)), (1, .sl 1 g_a1 a1.length (u8s a1)), (2, .sl 1 g_a2 a2.length (bos a2)), (7, .sl 1 .shr x1.1.length (b8s .shr x1.1)), (9, .sl 1 .shr x2.1.length (b8s .shr x2.1)), (11, .ref 10 1 0 o4.length), (12, ti t1), (14, ti t141), (15, ti t151), (113, tb ((decide (t151 < (a2.length : Int))) && (a2.getD t151.toNat false)))] [(10, b8s .shr o4)] hk rfl ?_ ?_
                      · clear hk; intro k hk
                        refine Go.condJ 20 [(0, .sl 1 g_a0 a0.length (u8s a0)), (1, .sl 1 g_a1 a1.length (u8s a1)), (2, .sl 1 g_a2 a2.length (bos a2)), (7, .sl 1 .shr x1.1.length (b8s .shr x1.1)), (9, .sl 1 .shr x2.1.length (b8s .shr x2.1)), (11, .ref 10 1 0 o4.length), (12, ti t1), (14, ti (bif (decide (t151 < (a2.length : Int))) && (a2.getD t151.toNat false) then t141 + 1 else t141)), (15, ti t151)] [(10, b8s .shr o4)] hk rfl rfl ?_ ?_ ?_
                        · clear hk; intro k hk
                          refine Go.bnd (Pf := (fun z : Lo (Int) (Bool) => (PostX Γ bursarylaw14_FrameMixed_enc) (Lo.el z (fun z : Int => bursarylaw14_FrameMixed_k3 a0 a1 x2 t1 o4 z)))) (v := (bif (decide (t151 < (a2.length : Int))) && (a2.getD t151.toNat false) then t141 + 1 else t141)) (fun y1 => [(0, .sl 1 g_a0 a0.length (u8s a0)), (1, .sl 1 g_a1 a1.length (u8s a1)), (2, .sl 1 g_a2 a2.length (bos a2)), (7, .sl 1 .shr x1.1.length (b8s .shr x1.1)), (9, .sl 1 .shr x2.1.length (b8s .shr x2.1)), (11, .ref 10 1 0 o4.length), (12, ti t1), (14, ti y1), (15, ti t151)]) (fun y1 => [(10, b8s .shr o4)]) ?_
                          intro y1 hy1
                          refine Go.rx 20 { ws := [(1, { v := some (ti (t151 + 1)) })] } [] [0, 1, 2, 7, 9, 11, 12, 14, 15] _ [(0, .sl 1 g_a0 a0.length (u8s a0)), (1, .sl 1 g_a1 a1.length (u8s a1)), (2, .sl 1 g_a2 a2.length (bos a2)), (7, .sl 1 .shr x1.1.length (b8s .shr x1.1)), (9, .sl 1 .shr x2.1.length (b8s .shr x2.1)), (11, .ref 10 1 0 o4.length), (12, ti t1), (14, ti y1), (15, ti (t151 + 1))] [(10, b8s .shr o4)] hk rfl (by as_aux_lemma => kernel_rfl) (.cons trivial (.cons (iw (t151 + 1) (by first | omega | (simp <;> omega) | (simp at * <;> omega) | (split <;> omega) | (split <;> (first | omega | (simp <;> omega) | (simp at * <;> omega))))) .nil)) ?_
                          clear hk; intro k hk
                          exact Go.join 20 hk hl3 rfl (ihl3 y1 (t151 + 1) (by first | omega | (rw [hy1]; cases (decide (t151 < (a2.length : Int))) && (a2.getD t151.toNat false) <;> simp only [cond_true, cond_false] <;> omega)) (by first | omega | (rw [hy1]; cases (decide (t151 < (a2.length : Int))) && (a2.getD t151.toNat false) <;> simp only [cond_true, cond_false] <;> omega)) (by first | omega | (rw [hy1]; cases (decide (t151 < (a2.length : Int))) && (a2.getD t151.toNat false) <;> simp only [cond_true, cond_false] <;> omega)) (by first | omega | (rw [hy1]; cases (decide (t151 < (a2.length : Int))) && (a2.getD t151.toNat false) <;> simp only [cond_true, cond_false] <;> omega)) (by first | omega | (simp <;> omega) | (simp at * <;> omega) | (split <;> omega) | (split <;> (first | omega | (simp <;> omega) | (simp at * <;> omega)))))
                        · clear hk; intro Jct6 ct6 k hk
                          have ct61 : (decide (t151 < (a2.length : Int))) = true := (Bool.and_eq_true_iff.1 ct6).1
                          have ct62 : (a2.getD t151.toNat false) = true := (Bool.and_eq_true_iff.1 ct6).2
                          have ct61p := of_decide_eq_true ct61
                          refine Go.rx 20 { ws := [(1, { v := some (ti (t141 + 1)) })] } [] [0, 1, 2, 7, 9, 11, 12, 14, 15] _ [(0, .sl 1 g_a0 a0.length (u8s a0)), (1, .sl 1 g_a1 a1.length (u8s a1)), (2, .sl 1 g_a2 a2.length (bos a2)), (7, .sl 1 .shr x1.1.length (b8s .shr x1.1)), (9, .sl 1 .shr x2.1.length (b8s .shr x2.1)), (11, .ref 10 1 0 o4.length), (12, ti t1), (14, ti (t141 + 1)), (15, ti t151)] [(10, b8s .shr o4)] hk rfl (by as_aux_lemma => kernel_rfl) (.cons trivial (.cons (iw (t141 + 1) (by first | omega | (simp <;> omega) | (simp at * <;> omega) | (split <;> omega) | (split <;> (first | omega | (simp <;> omega) | (simp at * <;> omega))))) .nil)) ?_
                          clear hk; intro k hk
                          refine Go.slotEq 14 (ti (bif (decide (t151 < (a2.length : Int))) && (a2.getD t151.toNat false) then t141 + 1 else t141)) rfl (congrArg (fun z => (ti z : T)) (condT ct6).symm) ?_
                          exact Go.joinJ 20 hk Jct6 rfl
                        · clear hk; intro Jct6 ct6 k hk
                          refine Go.keepN [0, 1, 2, 7, 9, 11, 12, 14, 15] (L' := [(0, .sl 1 g_a0 a0.length (u8s a0)), (1, .sl 1 g_a1 a1.length (u8s a1)), (2, .sl 1 g_a2 a2.length (bos a2)), (7, .sl 1 .shr x1.1.length (b8s .shr x1.1)), (9, .sl 1 .shr x2.1.length (b8s .shr x2.1)), (11, .ref 10 1 0 o4.length), (12, ti t1), (14, ti t141), (15, ti t151)]) rfl ?_
                          refine Go.slotEq 14 (ti (bif (decide (t151 < (a2.length : Int))) && (a2.getD t151.toNat false) then t141 + 1 else t141)) rfl (congrArg (fun z => (ti z : T)) (condF ct6).symm) ?_
                          exact Go.joinJ 20 hk Jct6 rfl
                      · intro hk J
                        rcases Bool.eq_false_or_eq_true (decide (t151 < (a2.length : Int))) with gd15 | gd15
                        · have gd15p := of_decide_eq_true gd15
                          refine Go.rx 20 { ws := [(3, { v := some (tb true) }), (8, { v := some (tb (a2.getD t151.toNat false)) })] } [] [0, 1, 2, 7, 9, 11, 12, 14, 15, 113] _ [(0, .sl 1 g_a0 a0.length (u8s a0)), (1, .sl 1 g_a1 a1.length (u8s a1)), (2, .sl 1 g_a2 a2.length (bos a2)), (7, .sl 1 .shr x1.1.length (b8s .shr x1.1)), (9, .sl 1 .shr x2.1.length (b8s .shr x2.1)), (11, .ref 10 1 0 o4.length), (12, ti t1), (14, ti t141), (15, ti t151), (113, tb (a2.getD t151.toNat false))] [(10, b8s .shr o4)] hk rfl (by as_aux_lemma => kernel_rfl) (.cons trivial (.cons (eb gd15) (.cons (by first | omega | (simp <;> omega) | (simp at * <;> omega) | (split <;> omega) | (split <;> (first | omega | (simp <;> omega) | (simp at * <;> omega))) : 0 ≤ (t151 : Int) ∧ (t151 : Int) < ((a2.length : Nat) : Int)) (.cons (part1 (by as_aux_lemma => kernel_rfl : (E.ti 4).agg = false) (mp_get (g := (fun c : Bool => T.leaf (.bool c))) (k := t151.toNat * 1) (n := t151.toNat) a2 false (by omega) (by first | omega | (simp <;> omega) | (simp at * <;> omega) | (split <;> omega) | (split <;> (first | omega | (simp <;> omega) | (simp at * <;> omega)))))) .nil)))) ?_
                          intro k' hk'
                          refine Go.slotEq 113 (tb ((decide (t151 < (a2.length : Int))) && (a2.getD t151.toNat false))) rfl (eb (andT gd15 rfl).symm) ?_
                          exact J k' hk'
                        · have gd15p := of_decide_eq_false gd15
                          refine Go.rx 20 { ws := [(3, { v := some (tb false) })] } [] [0, 1, 2, 7, 9, 11, 12, 14, 15, 113] _ [(0, .sl 1 g_a0 a0.length (u8s a0)), (1, .sl 1 g_a1 a1.length (u8s a1)), (2, .sl 1 g_a2 a2.length (bos a2)), (7, .sl 1 .shr x1.1.length (b8s .shr x1.1)), (9, .sl 1 .shr x2.1.length (b8s .shr x2.1)), (11, .ref 10 1 0 o4.length), (12, ti t1), (14, ti t141), (15, ti t151), (113, tb false)] [(10, b8s .shr o4)] hk rfl (by as_aux_lemma => kernel_rfl) (.cons trivial (.cons (eb gd15) .nil)) ?_
                          intro k' hk'
                          refine Go.slotEq 113 (tb ((decide (t151 < (a2.length : Int))) && (a2.getD t151.toNat false))) rfl (eb (andF gd15).symm) ?_
                          exact J k' hk'
                    · refine Go.keepN [0, 1, 9, 11, 12, 14] (L' := [(0, .sl 1 g_a0 a0.length (u8s a0)), (1, .sl 1 g_a1 a1.length (u8s a1)), (9, .sl 1 .shr x2.1.length (b8s .shr x2.1)), (11, .ref 10 1 0 o4.length), (12, ti t1), (14, ti t141)]) rfl ?_
                      exact Go.join 20 hk hxl3 rfl (Xl3 t141)
                  · intro hk J
                    rcases Bool.eq_false_or_eq_true (decide (t151 < (x2.1.length : Int))) with gd14 | gd14
                    · have gd14p := of_decide_eq_true gd14
                      refine Go.rx 20 { ws := [(3, { v := some (tb true) })] } [] [0, 1, 2, 7, 9, 11, 12, 14, 15, 101] _ [(0, .sl 1 g_a0 a0.length (u8s a0)), (1, .sl 1 g_a1 a1.length (u8s a1)), (2, .sl 1 g_a2 a2.length (bos a2)), (7, .sl 1 .shr x1.1.length (b8s .shr x1.1)), (9, .sl 1 .shr x2.1.length (b8s .shr x2.1)), (11, .ref 10 1 0 o4.length), (12, ti t1), (14, ti t141), (15, ti t151), (101, tb (decide (t151 < (x1.1.length : Int))))] [(10, b8s .shr o4)] hk rfl (by as_aux_lemma => kernel_rfl) (.cons trivial (.cons (eb gd14) (.cons trivial .nil))) ?_
                      intro k' hk'
                      refine Go.slotEq 101 (tb ((decide (t151 < (x2.1.length : Int))) && (decide (t151 < (x1.1.length : Int))))) rfl (eb (andT gd14 rfl).symm) ?_
                      exact J k' hk'
                    · have gd14p := of_decide_eq_false gd14
                      refine Go.rx 20 { ws := [(3, { v := some (tb false) })] } [] [0, 1, 2, 7, 9, 11, 12, 14, 15, 101] _ [(0, .sl 1 g_a0 a0.length (u8s a0)), (1, .sl 1 g_a1 a1.length (u8s a1)), (2, .sl 1 g_a2 a2.length (bos a2)), (7, .sl 1 .shr x1.1.length (b8s .shr x1.1)), (9, .sl 1 .shr x2.1.length (b8s .shr x2.1)), (11, .ref 10 1 0 o4.length), (12, ti t1), (14, ti t141), (15, ti t151), (101, tb false)] [(10, b8s .shr o4)] hk rfl (by as_aux_lemma => kernel_rfl) (.cons trivial (.cons (eb gd14) .nil)) ?_
                      intro k' hk'
                      refine Go.slotEq 101 (tb ((decide (t151 < (x2.1.length : Int))) && (decide (t151 < (x1.1.length : Int))))) rfl (eb (andF gd14).symm) ?_
                      exact J k' hk'
              exact Ll3 _ 0 0 (by first | omega | (simp <;> omega) | (simp at * <;> omega) | (split <;> omega) | (split <;> (first | omega | (simp <;> omega) | (simp at * <;> omega)))) (by first | omega | (simp <;> omega) | (simp at * <;> omega) | (split <;> omega) | (split <;> (first | omega | (simp <;> omega) | (simp at * <;> omega)))) (by first | omega | (simp <;> omega) | (simp at * <;> omega) | (split <;> omega) | (split <;> (first | omega | (simp <;> omega) | (simp at * <;> omega)))) (by first | omega | (simp <;> omega) | (simp at * <;> omega) | (split <;> omega) | (split <;> (first | omega | (simp <;> omega) | (simp at * <;> omega)))) (Nat.lt_succ_self _)
            have Ll2 : ∀ (ml2 : Nat) (t121 : Int) (t131 : Int) (o3 : List (List UInt8)), (0 ≤ t121) → (0 ≤ t131) → (t121 ≤ t131) → (t131 ≤ x2.1.length) → (x2.1.length ≤ o3.length) → (∀ i : Nat, (o3.getD i []).length ≤ 200) → (((x2.1.length : Int) - t131).toNat < ml2) → Go E Γ 5 176 [] ((PostX Γ bursarylaw14_FrameMixed_enc) (Lo.el (bursarylaw14_FrameMixed_l2 a2 x2 ml2 t121 t131 o3) (fun z : Int × List (List UInt8) => bursarylaw14_FrameMixed_k2 a0 a1 a2 x1 x2 z.1 z.2))) kl2 (stL [(0, .sl 1 g_a0 a0.length (u8s a0)), (1, .sl 1 g_a1 a1.length (u8s a1)), (2, .sl 1 g_a2 a2.length (bos a2)), (7, .sl 1 .shr x1.1.length (b8s .shr x1.1)), (9, .sl 1 .shr x2.1.length (b8s .shr x2.1)), (11, .ref 10 1 0 o3.length), (12, ti t121), (13, ti t131)] [(10, b8s .shr o3)]) := by
              intro ml2
              induction ml2 with
              | zero => intro t121 t131 o3 i0l2 i1l2 i2l2 i3l2 i4l2 i5l2 hml2; exact absurd hml2 (Nat.not_lt_zero _)
              | succ ml2 ihl2 =>
                intro t121 t131 o3 i0l2 i1l2 i2l2 i3l2 i4l2 i5l2 hml2
                rw [bursarylaw14_FrameMixed_l2]
                refine Go.round hl2 ?_
                intro k hk
                refine Go.rx 20 {} [] [0, 1, 2, 7, 9, 11, 12, 13, 70] _ [(0, .sl 1 g_a0 a0.length (u8s a0)), (1, .sl 1 g_a1 a1.length (u8s a1)), (2, .sl 1 g_a2 a2.length (bos a2)), (7, .sl 1 .shr x1.1.length (b8s .shr x1.1)), (9, .sl 1 .shr x2.1.length (b8s .shr x2.1)), (11, .ref 10 1 0 o3.length), (12, ti t121), (13, ti t131), (70, tb (decide (t131 < (x2.1.length : Int))))] [(10, b8s .shr o3)] hk rfl (by as_aux_lemma => kernel_rfl) (.cons trivial .nil) ?_
                clear hk; intro k hk
                refine Go.br 20 (Pf := (fun z : Lo (Int × List (List UInt8)) (Bool) => (PostX Γ bursarylaw14_FrameMixed_enc) (Lo.el z (fun z : Int × List (List UInt8) => bursarylaw14_FrameMixed_k2 a0 a1 a2 x1 x2 z.1 z.2)))) hk rfl rfl ?_ ?_ <;> clear hk <;> intro ct7 k hk
                · have ct7p := of_decide_eq_true ct7
                  refine Go.regJ 20 [(0, .sl 1 g_a0 a0.length (u8s a0)), (1, .sl 1 g_a1 a1.length (u8s a1)), (2, .sl 1 g_a2 a2.length (bos a2)), (7, .sl 1 .shr x1.1.length (b8s .shr x1.1)), (9, .sl 1 .shr x2.1.length (b8s .shr x2.1)), (11, .ref 10 1 0 o3.length), (12, ti t121), (13, ti t131), (82, tb ((decide (t131 < (a2.length : Int))) && (a2.getD t131.toNat false)))] [(10, b8s .shr o3)] hk rfl ?_ ?_
                  · clear hk; intro k hk
                    refine Go.br 20 (Pf := (fun z : Lo (Int × List (List UInt8)) (Bool) => (PostX Γ bursarylaw14_FrameMixed_enc) (Lo.el z (fun z : Int × List (List UInt8) => bursarylaw14_FrameMixed_k2 a0 a1 a2 x1 x2 z.1 z.2)))) hk rfl rfl ?_ ?_ <;> clear hk <;> intro ct9 k hk
                    · have ct91 : (decide (t131 < (a2.length : Int))) = true := (Bool.and_eq_true_iff.1 ct9).1
                      have ct92 : (a2.getD t131.toNat false) = true := (Bool.and_eq_true_iff.1 ct9).2
                      have ct91p := of_decide_eq_true ct91
                      refine Go.rx 20 { ws := [(5, { v := some (.sl 1 .shr (x2.1.getD t131.toNat []).length (u8s (x2.1.getD t131.toNat []))) }), (7, { c := some (b8s .shr (o3.set t131.toNat (x2.1.getD t131.toNat []))), sym := true })] } [] [0, 1, 2, 7, 9, 11, 12, 13] _ [(0, .sl 1 g_a0 a0.length (u8s a0)), (1, .sl 1 g_a1 a1.length (u8s a1)), (2, .sl 1 g_a2 a2.length (bos a2)), (7, .sl 1 .shr x1.1.length (b8s .shr x1.1)), (9, .sl 1 .shr x2.1.length (b8s .shr x2.1)), (11, .ref 10 1 0 o3.length), (12, ti t121), (13, ti t131)] [(10, b8s .shr (o3.set t131.toNat (x2.1.getD t131.toNat [])))] hk rfl (by as_aux_lemma => kernel_rfl) (.cons (by first | omega | (simp <;> omega) | (simp at * <;> omega) | (split <;> omega) | (split <;> (first | omega | (simp <;> omega) | (simp at * <;> omega))) : 0 ≤ (t131 : Int) ∧ (t131 : Int) < ((x2.1.length : Nat) : Int)) (.cons (part1 (by as_aux_lemma => kernel_rfl : (E.ti 23).agg = false) (mp_get (g := (fun c : List UInt8 => tl .shr c)) (k := t131.toNat * 1) (n := t131.toNat) x2.1 [] (by omega) (by first | omega | (simp <;> omega) | (simp at * <;> omega) | (split <;> omega) | (split <;> (first | omega | (simp <;> omega) | (simp at * <;> omega)))))) (.cons (by first | omega | (simp <;> omega) | (simp at * <;> omega) | (split <;> omega) | (split <;> (first | omega | (simp <;> omega) | (simp at * <;> omega))) : 0 ≤ (t131 : Int) ∧ (t131 : Int) < ((o3.length : Nat) : Int)) (.cons (rfl : scalL [.sl 1 .shr (x2.1.getD t131.toNat []).length (u8s (x2.1.getD t131.toNat []))] = true) (.cons (by decide : 1 ≤ 1) (.cons (by decide : 1 ≤ 1) (.cons (by simp only [List.length_map]; first | omega | (simp <;> omega) | (simp at * <;> omega) | (split <;> omega) | (split <;> (first | omega | (simp <;> omega) | (simp at * <;> omega))) : 0 + t131.toNat * 1 + 1 ≤ (b8s .shr o3).length) (.cons (mp_set (g := (fun c : List UInt8 => tl .shr c)) (k := 0 + t131.toNat * 1) (n := t131.toNat) (x := x2.1.getD t131.toNat []) o3 rfl (by omega) (by first | omega | (simp <;> omega) | (simp at * <;> omega) | (split <;> omega) | (split <;> (first | omega | (simp <;> omega) | (simp at * <;> omega))))) .nil)))))))) ?_
                      clear hk; intro k hk
                      refine Go.rx 20 { ws := [(1, { v := some (ti (t121 + 1)) })] } [] [0, 1, 2, 7, 9, 11, 12, 13] _ [(0, .sl 1 g_a0 a0.length (u8s a0)), (1, .sl 1 g_a1 a1.length (u8s a1)), (2, .sl 1 g_a2 a2.length (bos a2)), (7, .sl 1 .shr x1.1.length (b8s .shr x1.1)), (9, .sl 1 .shr x2.1.length (b8s .shr x2.1)), (11, .ref 10 1 0 o3.length), (12, ti (t121 + 1)), (13, ti t131)] [(10, b8s .shr (o3.set t131.toNat (x2.1.getD t131.toNat [])))] hk rfl (by as_aux_lemma => kernel_rfl) (.cons trivial (.cons (iw (t121 + 1) (by first | omega | (simp <;> omega) | (simp at * <;> omega) | (split <;> omega) | (split <;> (first | omega | (simp <;> omega) | (simp at * <;> omega))))) .nil)) ?_
                      clear hk; intro k hk
                      refine Go.rx 20 { ws := [(1, { v := some (ti (t131 + 1)) })] } [] [0, 1, 2, 7, 9, 11, 12, 13] _ [(0, .sl 1 g_a0 a0.length (u8s a0)), (1, .sl 1 g_a1 a1.length (u8s a1)), (2, .sl 1 g_a2 a2.length (bos a2)), (7, .sl 1 .shr x1.1.length (b8s .shr x1.1)), (9, .sl 1 .shr x2.1.length (b8s .shr x2.1)), (11, .ref 10 1 0 o3.length), (12, ti (t121 + 1)), (13, ti (t131 + 1))] [(10, b8s .shr (o3.set t131.toNat (x2.1.getD t131.toNat [])))] hk rfl (by as_aux_lemma => kernel_rfl) (.cons trivial (.cons (iw (t131 + 1) (by first | omega | (simp <;> omega) | (simp at * <;> omega) | (split <;> omega) | (split <;> (first | omega | (simp <;> omega) | (simp at * <;> omega))))) .nil)) ?_
                      clear hk; intro k hk
                      refine Go.slotEq 11 (.ref 10 1 0 ((o3.set t131.toNat (x2.1.getD t131.toNat [])).length)) rfl (congrArg (fun q => T.ref 10 1 0 q) (by first | (simp only [List.length_set, cpy_length, List.length_replicate, List.length_cons, List.length_nil, List.length_append]; omega) | (simp [cpy_length]; omega) | simp : o3.length = (o3.set t131.toNat (x2.1.getD t131.toNat [])).length)) ?_
                      exact Go.join 20 hk hl2 rfl (ihl2 (t121 + 1) (t131 + 1) (o3.set t131.toNat (x2.1.getD t131.toNat [])) (by first | omega | (simp; omega) | assumption | exact set_le (by assumption) (Nat.le_trans (fx21 _) (by decide))) (by first | omega | (simp; omega) | assumption | exact set_le (by assumption) (Nat.le_trans (fx21 _) (by decide))) (by first | omega | (simp; omega) | assumption | exact set_le (by assumption) (Nat.le_trans (fx21 _) (by decide))) (by first | omega | (simp; omega) | assumption | exact set_le (by assumption) (Nat.le_trans (fx21 _) (by decide))) (by first | omega | (simp; omega) | assumption | exact set_le (by assumption) (Nat.le_trans (fx21 _) (by decide))) (by first | omega | (simp; omega) | assumption | exact set_le (by assumption) (Nat.le_trans (fx21 _) (by decide))) (by first | omega | (simp <;> omega) | (simp at * <;> omega) | (split <;> omega) | (split <;> (first | omega | (simp <;> omega) | (simp at * <;> omega)))))
                    · refine Go.rx 20 { ws := [(1, { v := some (ti (t131 + 1)) })] } [] [0, 1, 2, 7, 9, 11, 12, 13] _ [(0, .sl 1 g_a0 a0.length (u8s a0)), (1, .sl 1 g_a1 a1.length (u8s a1)), (2, .sl 1 g_a2 a2.length (bos a2)), (7, .sl 1 .shr x1.1.length (b8s .shr x1.1)), (9, .sl 1 .shr x2.1.length (b8s .shr x2.1)), (11, .ref 10 1 0 o3.length), (12, ti t121), (13, ti (t131 + 1))] [(10, b8s .shr o3)] hk rfl (by as_aux_lemma => kernel_rfl) (.cons trivial (.cons (iw (t131 + 1) (by first | omega | (simp <;> omega) | (simp at * <;> omega) | (split <;> omega) | (split <;> (first | omega | (simp <;> omega) | (simp at * <;> omega))))) .nil)) ?_
                      clear hk; intro k hk
                      exact Go.join 20 hk hl2 rfl (ihl2 t121 (t131 + 1) o3 (by first | omega | (simp; omega) | assumption | exact set_le (by assumption) (Nat.le_trans (fx21 _) (by decide))) (by first | omega | (simp; omega) | assumption | exact set_le (by assumption) (Nat.le_trans (fx21 _) (by decide))) (by first | omega | (simp; omega) | assumption | exact set_le (by assumption) (Nat.le_trans (fx21 _) (by decide))) (by first | omega | (simp; omega) | assumption | exact set_le (by assumption) (Nat.le_trans (fx21 _) (by decide))) (by first | omega | (simp; omega) | assumption | exact set_le (by assumption) (Nat.le_trans (fx21 _) (by decide))) (by first | omega | (simp; omega) | assumption | exact set_le (by assumption) (Nat.le_trans (fx21 _) (by decide))) (by first | omega | (simp <;> omega) | (simp at * <;> omega) | (split <;> omega) | (split <;> (first | omega | (simp <;> omega) | (simp at * <;> omega)))))
                  · intro hk J
                    rcases Bool.eq_false_or_eq_true (decide (t131 < (a2.length : Int))) with gd16 | gd16
                    · have gd16p := of_decide_eq_true gd16
                      refine Go.rx 20 { ws := [(3, { v := some (tb true) }), (8, { v := some (tb (a2.getD t131.toNat false)) })] } [] [0, 1, 2, 7, 9, 11, 12, 13, 82] _ [(0, .sl 1 g_a0 a0.length (u8s a0)), (1, .sl 1 g_a1 a1.length (u8s a1)), (2, .sl 1 g_a2 a2.length (bos a2)), (7, .sl 1 .shr x1.1.length (b8s .shr x1.1)), (9, .sl 1 .shr x2.1.length (b8s .shr x2.1)), (11, .ref 10 1 0 o3.length), (12, ti t121), (13, ti t131), (82, tb (a2.getD t131.toNat false))] [(10, b8s .shr o3)] hk rfl (by as_aux_lemma => kernel_rfl) (.cons trivial (.cons (eb gd16) (.cons (by first | omega | (simp <;> omega) | (simp at * <;> omega) | (split <;> omega) | (split <;> (first | omega | (simp <;> omega) | (simp at * <;> omega))) : 0 ≤ (t131 : Int) ∧ (t131 : Int) < ((a2.length : Nat) : Int)) (.cons (part1 (by as_aux_lemma => kernel_rfl : (E.ti 4).agg = false) (mp_get (g := (fun c : Bool => T.leaf (.bool c))) (k := t131.toNat * 1) (n := t131.toNat) a2 false (by omega) (by first | omega | (simp <;> omega) | (simp at * <;> omega) | (split <;> omega) | (split <;> (first | omega | (simp <;> omega) | (simp at * <;> omega)))))) .nil)))) ?_
                      intro k' hk'
                      refine Go.slotEq 82 (tb ((decide (t131 < (a2.length : Int))) && (a2.getD t131.toNat false))) rfl (eb (andT gd16 rfl).symm) ?_
                      exact J k' hk'
                    · have gd16p := of_decide_eq_false gd16
                      refine Go.rx 20 { ws := [(3, { v := some (tb false) })] } [] [0, 1, 2, 7, 9, 11, 12, 13, 82] _ [(0, .sl 1 g_a0 a0.length (u8s a0)), (1, .sl 1 g_a1 a1.length (u8s a1)), (2, .sl 1 g_a2 a2.length (bos a2)), (7, .sl 1 .shr x1.1.length (b8s .shr x1.1)), (9, .sl 1 .shr x2.1.length (b8s .shr x2.1)), (11, .ref 10 1 0 o3.length), (12, ti t121), (13, ti t131), (82, tb false)] [(10, b8s .shr o3)] hk rfl (by as_aux_lemma => kernel_rfl) (.cons trivial (.cons (eb gd16) .nil)) ?_
                      intro k' hk'
                      refine Go.slotEq 82 (tb ((decide (t131 < (a2.length : Int))) && (a2.getD t131.toNat false))) rfl (eb (andF gd16).symm) ?_
                      exact J k' hk'
                · have ct7p := of_decide_eq_false ct7
                  refine Go.keepN [0, 1, 2, 7, 9, 11, 12] (L' := [(0, .sl 1 g_a0 a0.length (u8s a0)), (1, .sl 1 g_a1 a1.length (u8s a1)), (2, .sl 1 g_a2 a2.length (bos a2)), (7, .sl 1 .shr x1.1.length (b8s .shr x1.1)), (9, .sl 1 .shr x2.1.length (b8s .shr x2.1)), (11, .ref 10 1 0 o3.length), (12, ti t121)]) rfl ?_
                  exact Go.join 20 hk hxl2 rfl (Xl2 t121 o3 (by assumption))
            exact Ll2 _ 0 0 o2 (by first | omega | assumption) (by first | omega | assumption) (by first | omega | assumption) (by first | omega | assumption) (by first | omega | assumption) (by first | omega | assumption) (Nat.lt_succ_self _)
          have Ll1 : ∀ (ml1 : Nat) (o1 : List (List UInt8)), (o1.length ≤ 255) → (∀ i : Nat, (o1.getD i []).length ≤ 200) → (((x2.1.length : Int) - o1.length).toNat < ml1) → Go E Γ 5 176 [] ((PostX Γ bursarylaw14_FrameMixed_enc) (Lo.el (bursarylaw14_FrameMixed_l1 x2 ml1 o1) (fun z : List (List UInt8) => bursarylaw14_FrameMixed_k1 a0 a1 a2 x1 x2 z))) kl1 (stL [(0, .sl 1 g_a0 a0.length (u8s a0)), (1, .sl 1 g_a1 a1.length (u8s a1)), (2, .sl 1 g_a2 a2.length (bos a2)), (7, .sl 1 .shr x1.1.length (b8s .shr x1.1)), (9, .sl 1 .shr x2.1.length (b8s .shr x2.1)), (11, .ref 10 1 0 o1.length)] [(10, b8s .shr o1)]) := by
            intro ml1
            induction ml1 with
            | zero => intro o1 i0l1 i1l1 hml1; exact absurd hml1 (Nat.not_lt_zero _)
            | succ ml1 ihl1 =>
              intro o1 i0l1 i1l1 hml1
              rw [bursarylaw14_FrameMixed_l1]
              refine Go.round hl1 ?_
              intro k hk
              refine Go.rx 20 {} [] [0, 1, 2, 7, 9, 11, 62] _ [(0, .sl 1 g_a0 a0.length (u8s a0)), (1, .sl 1 g_a1 a1.length (u8s a1)), (2, .sl 1 g_a2 a2.length (bos a2)), (7, .sl 1 .shr x1.1.length (b8s .shr x1.1)), (9, .sl 1 .shr x2.1.length (b8s .shr x2.1)), (11, .ref 10 1 0 o1.length), (62, tb (decide ((o1.length : Int) < (x2.1.length : Int))))] [(10, b8s .shr o1)] hk rfl (by as_aux_lemma => kernel_rfl) (.cons trivial .nil) ?_
              clear hk; intro k hk
              refine Go.br 20 (Pf := (fun z : Lo (List (List UInt8)) (Bool) => (PostX Γ bursarylaw14_FrameMixed_enc) (Lo.el z (fun z : List (List UInt8) => bursarylaw14_FrameMixed_k1 a0 a1 a2 x1 x2 z)))) hk rfl rfl ?_ ?_ <;> clear hk <;> intro ct10 k hk
              · have ct10p := of_decide_eq_true ct10
                refine Go.rx 20 { ws := [(1, { v := some (.sl 1 .shr (List.replicate 64 (0 : UInt8)).length (u8s (List.replicate 64 (0 : UInt8)))), c := some (u8s (List.replicate 64 (0 : UInt8))), id := 11, gv := true }), (2, { id := 12 }), (3, { v := some (.ref 10 1 0 ((o1 ++ [List.replicate 64 (0 : UInt8)]).length)), c := some (b8s .shr (o1 ++ [List.replicate 64 (0 : UInt8)])), id := 10, sym := true })], pg := [10] } [11, 12] [0, 1, 2, 7, 9, 11] _ [(0, .sl 1 g_a0 a0.length (u8s a0)), (1, .sl 1 g_a1 a1.length (u8s a1)), (2, .sl 1 g_a2 a2.length (bos a2)), (7, .sl 1 .shr x1.1.length (b8s .shr x1.1)), (9, .sl 1 .shr x2.1.length (b8s .shr x2.1)), (11, .ref 10 1 0 ((o1 ++ [List.replicate 64 (0 : UInt8)]).length))] [(10, b8s .shr (o1 ++ [List.replicate 64 (0 : UInt8)]))] hk rfl (by as_aux_lemma => kernel_rfl) (.cons (by decide : 0 ≤ (64 : Int) ∧ (64 : Int) ≤ 64 ∧ (64 : Int) < 9223372036854775808 ∧ ((1 : Nat) : Int) * 64 ≤ 281474976710656) (.cons (mp_zeros (g := (fun c : UInt8 => T.leaf (.int .u8 c.toNat))) (n := Int.toNat 64) (x := (0 : UInt8)) (z := [.int .u8 0]) rfl) (.cons (giveOk (g := (fun c : UInt8 => T.leaf (.int .u8 c.toNat))) (n := Int.toNat 64) (List.replicate 64 (0 : UInt8)) (by simp) (fun _ => rfl)) (.cons (giveEq (g := (fun c : UInt8 => T.leaf (.int .u8 c.toNat))) (n := Int.toNat 64) (List.replicate 64 (0 : UInt8)) (by simp)) (.cons (Nat.le_of_ble_eq_true rfl : 0 + 1 * 1 ≤ ([.sl 1 .shr (List.replicate 64 (0 : UInt8)).length (u8s (List.replicate 64 (0 : UInt8)))] : List T).length) (.cons (by simp only [List.length_map]; omega : 0 + o1.length * 1 ≤ (b8s .shr o1).length) (.cons (rfl : scalL [.sl 1 .shr (List.replicate 64 (0 : UInt8)).length (u8s (List.replicate 64 (0 : UInt8)))] = true) (.cons (by first | omega | (simp <;> omega) | (simp at * <;> omega) | (split <;> omega) | (split <;> (first | omega | (simp <;> omega) | (simp at * <;> omega))) : (o1.length + 1) * 24 ≤ 140737488355328) (.cons (mp_app (g := (fun c : List UInt8 => tl .shr c)) (o1) [List.replicate 64 (0 : UInt8)] rfl) (.cons (mp_mem (i := 10) (g := (fun c : List UInt8 => tl .shr c)) (o1 ++ [List.replicate 64 (0 : UInt8)]) (fun _ => rfl)) (.cons (by simp : T.ref 10 1 0 (o1.length + 1) = .ref 10 1 0 ((o1 ++ [List.replicate 64 (0 : UInt8)]).length)) (.cons (mp_mem (i := 11) (g := (fun c : List UInt8 => tl .shr c)) (o1 ++ [List.replicate 64 (0 : UInt8)]) (fun _ => rfl)) (.cons (mp_mem (i := 12) (g := (fun c : List UInt8 => tl .shr c)) (o1 ++ [List.replicate 64 (0 : UInt8)]) (fun _ => rfl)) .nil))))))))))))) ?_
                clear hk; intro k hk
                exact Go.join 20 hk hl1 rfl (ihl1 (o1 ++ [List.replicate 64 (0 : UInt8)]) (by first | (simp; omega) | exact app_le (by assumption) (one_le (by simp))) (by first | (simp; omega) | exact app_le (by assumption) (one_le (by simp))) (by simp; omega))
              · have ct10p := of_decide_eq_false ct10
                refine Go.keepN [0, 1, 2, 7, 9, 11] (L' := [(0, .sl 1 g_a0 a0.length (u8s a0)), (1, .sl 1 g_a1 a1.length (u8s a1)), (2, .sl 1 g_a2 a2.length (bos a2)), (7, .sl 1 .shr x1.1.length (b8s .shr x1.1)), (9, .sl 1 .shr x2.1.length (b8s .shr x2.1)), (11, .ref 10 1 0 o1.length)]) rfl ?_
                exact Go.join 20 hk hxl1 rfl (Xl1 o1 (by first | omega | assumption) (by first | omega | assumption) (by first | omega | assumption))
          exact Ll1 _ ([] ++ x1.1) (by first | (simp; omega) | exact app_le (by simp) (get_le fx11 (by decide))) (by first | (simp; omega) | exact app_le (by simp) (get_le fx11 (by decide))) (Nat.lt_succ_self _)
      · intro hk J
        rcases Bool.eq_false_or_eq_true (!(decide (x1.2 = 0))) with gd2 | gd2
        · have gd2' : (decide (x1.2 = 0)) = false := ntT gd2
          have gd2'p := of_decide_eq_false gd2'
          refine Go.rx 20 { ws := [(1, { v := some (tb true), er := some (82, x1.2) })] } [] [0, 1, 2, 7, 9, 54] _ [(0, .sl 1 g_a0 a0.length (u8s a0)), (1, .sl 1 g_a1 a1.length (u8s a1)), (2, .sl 1 g_a2 a2.length (bos a2)), (7, .sl 1 .shr x1.1.length (b8s .shr x1.1)), (9, .sl 1 .shr x2.1.length (b8s .shr x2.1)), (54, tb true)] [] hk rfl (by as_aux_lemma => kernel_rfl) (.cons (⟨rfl, rfl⟩ : (er 82 x1.2) = er 82 x1.2 ∧ (.leaf .nilIface : T) = .leaf .nilIface) (.cons (eb gd2) .nil)) ?_
          intro k' hk'
          refine Go.slotEq 54 (tb ((!(decide (x1.2 = 0))) || ((!(decide (x2.2 = 0))) || (((x1.1.length : Int) == 0) || ((x2.1.length : Int) == 0))))) rfl (eb (orT gd2).symm) ?_
          exact J k' hk'
        · have gd2' : (decide (x1.2 = 0)) = true := ntF gd2
          have gd2'p := of_decide_eq_true gd2'
          rcases Bool.eq_false_or_eq_true (!(decide (x2.2 = 0))) with gd3 | gd3
          · have gd3' : (decide (x2.2 = 0)) = false := ntT gd3
            have gd3'p := of_decide_eq_false gd3'
            refine Go.rx 20 { ws := [(1, { v := some (tb false), er := some (82, x1.2) }), (4, { v := some (tb true), er := some (82, x2.2) })] } [] [0, 1, 2, 7, 9, 54] _ [(0, .sl 1 g_a0 a0.length (u8s a0)), (1, .sl 1 g_a1 a1.length (u8s a1)), (2, .sl 1 g_a2 a2.length (bos a2)), (7, .sl 1 .shr x1.1.length (b8s .shr x1.1)), (9, .sl 1 .shr x2.1.length (b8s .shr x2.1)), (54, tb true)] [] hk rfl (by as_aux_lemma => kernel_rfl) (.cons (⟨rfl, rfl⟩ : (er 82 x1.2) = er 82 x1.2 ∧ (.leaf .nilIface : T) = .leaf .nilIface) (.cons (eb gd2) (.cons (⟨rfl, rfl⟩ : (er 82 x2.2) = er 82 x2.2 ∧ (.leaf .nilIface : T) = .leaf .nilIface) (.cons (eb gd3) .nil)))) ?_
            intro k' hk'
            refine Go.slotEq 54 (tb ((!(decide (x1.2 = 0))) || ((!(decide (x2.2 = 0))) || (((x1.1.length : Int) == 0) || ((x2.1.length : Int) == 0))))) rfl (eb (orF gd2 (orT gd3)).symm) ?_
            exact J k' hk'
          · have gd3' : (decide (x2.2 = 0)) = true := ntF gd3
            have gd3'p := of_decide_eq_true gd3'
            rcases Bool.eq_false_or_eq_true ((x1.1.length : Int) == 0) with gd4 | gd4
            · have gd4p := eqIt gd4
              refine Go.rx 20 { ws := [(1, { v := some (tb false), er := some (82, x1.2) }), (4, { v := some (tb false), er := some (82, x2.2) }), (9, { v := some (tb true) })] } [] [0, 1, 2, 7, 9, 54] _ [(0, .sl 1 g_a0 a0.length (u8s a0)), (1, .sl 1 g_a1 a1.length (u8s a1)), (2, .sl 1 g_a2 a2.length (bos a2)), (7, .sl 1 .shr x1.1.length (b8s .shr x1.1)), (9, .sl 1 .shr x2.1.length (b8s .shr x2.1)), (54, tb true)] [] hk rfl (by as_aux_lemma => kernel_rfl) (.cons (⟨rfl, rfl⟩ : (er 82 x1.2) = er 82 x1.2 ∧ (.leaf .nilIface : T) = .leaf .nilIface) (.cons (eb gd2) (.cons (⟨rfl, rfl⟩ : (er 82 x2.2) = er 82 x2.2 ∧ (.leaf .nilIface : T) = .leaf .nilIface) (.cons (eb gd3) (.cons trivial (.cons (eb gd4) .nil)))))) ?_
              intro k' hk'
              refine Go.slotEq 54 (tb ((!(decide (x1.2 = 0))) || ((!(decide (x2.2 = 0))) || (((x1.1.length : Int) == 0) || ((x2.1.length : Int) == 0))))) rfl (eb (orF gd2 (orF gd3 (orT gd4))).symm) ?_
              exact J k' hk'
            · have gd4p := eqIf gd4
              refine Go.rx 20 { ws := [(1, { v := some (tb false), er := some (82, x1.2) }), (4, { v := some (tb false), er := some (82, x2.2) }), (9, { v := some (tb false) })] } [] [0, 1, 2, 7, 9, 54] _ [(0, .sl 1 g_a0 a0.length (u8s a0)), (1, .sl 1 g_a1 a1.length (u8s a1)), (2, .sl 1 g_a2 a2.length (bos a2)), (7, .sl 1 .shr x1.1.length (b8s .shr x1.1)), (9, .sl 1 .shr x2.1.length (b8s .shr x2.1)), (54, tb ((x2.1.length : Int) == 0))] [] hk rfl (by as_aux_lemma => kernel_rfl) (.cons (⟨rfl, rfl⟩ : (er 82 x1.2) = er 82 x1.2 ∧ (.leaf .nilIface : T) = .leaf .nilIface) (.cons (eb gd2) (.cons (⟨rfl, rfl⟩ : (er 82 x2.2) = er 82 x2.2 ∧ (.leaf .nilIface : T) = .leaf .nilIface) (.cons (eb gd3) (.cons trivial (.cons (eb gd4) (.cons trivial .nil))))))) ?_
              intro k' hk'
              refine Go.slotEq 54 (tb ((!(decide (x1.2 = 0))) || ((!(decide (x2.2 = 0))) || (((x1.1.length : Int) == 0) || ((x2.1.length : Int) == 0))))) rfl (eb (orF gd2 (orF gd3 (orF gd4 rfl))).symm) ?_
              exact J k' hk'
  · intro hk J
    rcases Bool.eq_false_or_eq_true (decide ((a0.length : Int) > 900)) with gd1 | gd1
    · have gd1p := of_decide_eq_true gd1
      refine Go.rx 20 { ws := [(2, { v := some (tb true) })] } [] [0, 1, 2, 27] _ [(0, .sl 1 g_a0 a0.length (u8s a0)), (1, .sl 1 g_a1 a1.length (u8s a1)), (2, .sl 1 g_a2 a2.length (bos a2)), (27, tb true)] [] hk rfl (by as_aux_lemma => kernel_rfl) (.cons trivial (.cons (eb gd1) .nil)) ?_
      intro k' hk'
      refine Go.slotEq 27 (tb ((decide ((a0.length : Int) > 900)) || (decide ((a1.length : Int) > 900)))) rfl (eb (orT gd1).symm) ?_
      exact J k' hk'
    · have gd1p := of_decide_eq_false gd1
      refine Go.rx 20 { ws := [(2, { v := some (tb false) })] } [] [0, 1, 2, 27] _ [(0, .sl 1 g_a0 a0.length (u8s a0)), (1, .sl 1 g_a1 a1.length (u8s a1)), (2, .sl 1 g_a2 a2.length (bos a2)), (27, tb (decide ((a1.length : Int) > 900)))] [] hk rfl (by as_aux_lemma => kernel_rfl) (.cons trivial (.cons (eb gd1) (.cons trivial .nil))) ?_
      intro k' hk'
      refine Go.slotEq 27 (tb ((decide ((a0.length : Int) > 900)) || (decide ((a1.length : Int) > 900)))) rfl (eb (orF gd1 rfl).symm) ?_
      exact J k' hk'
end Go.Proofs.YtkomeflgnikflaaDoor

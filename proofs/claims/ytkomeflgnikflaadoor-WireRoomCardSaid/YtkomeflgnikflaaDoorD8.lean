/- Functions, told: what each call returns. -/
import Derived.Test.YtkomeflgnikflaaDoorD7
namespace Go.Proofs.YtkomeflgnikflaaDoor
open Go Go.Vw Go.Proofs
noncomputable def bursarylaw31_lists_k1  : Bool :=
  true
noncomputable def bursarylaw31_lists_l1 (a : List (List UInt8)) (b : List (List UInt8)) : Nat → Int → Lo Unit Bool
  | 0, _ => .brk default
  | ml1 + 1, i1 =>
    bif decide (i1 < (a.length : Int)) then
      bif (a.getD i1.toNat []) != (b.getD i1.toNat []) then
        Lo.ret false
      else
        bursarylaw31_lists_l1 a b ml1 (i1 + 1)
    else
      Lo.brk ()
noncomputable def bursarylaw31_lists (a : List (List UInt8)) (b : List (List UInt8)) : Bool :=
  bif (a.length : Int) != (b.length : Int) then
    false
  else
    Lo.el (bursarylaw31_lists_l1 a b (((a.length : Int) - (0 : Int)).toNat + 1) 0) (fun z : Unit => bursarylaw31_lists_k1)
def bursarylaw31_lists_enc (x : Bool) : T × List (Nat × List T) := (tb x, [])
theorem bursarylaw31_lists_m {g_a : Tag} {g_b : Tag} (a : List (List UInt8)) (b : List (List UInt8)) (ha : a.length ≤ 9223372036854775807) : Meets Tryd.prog 45 [.sl 1 g_a a.length (b8s .shr a), .sl 1 g_b b.length (b8s .shr b)] [] [] (tb (bursarylaw31_lists a b)) [] := by
  refine Meets.enterX (E := E) (N := 28) (enc := bursarylaw31_lists_enc) (x := (bursarylaw31_lists a b)) Tryd.func45 Tryd.call45 rfl rfl ?_
  intro Γ k hk
  refine Go.rx 20 {} [] [0, 1] _ [(0, .sl 1 g_a a.length (b8s .shr a)), (1, .sl 1 g_b b.length (b8s .shr b))] [] hk rfl (by as_aux_lemma => kernel_rfl) .nil ?_
  clear hk; intro k hk
  refine Go.rx 20 {} [] [0, 1, 10] _ [(0, .sl 1 g_a a.length (b8s .shr a)), (1, .sl 1 g_b b.length (b8s .shr b)), (10, tb ((a.length : Int) != (b.length : Int)))] [] hk rfl (by as_aux_lemma => kernel_rfl) (.cons trivial .nil) ?_
  clear hk; intro k hk
  refine Go.br 20 (Pf := (PostX Γ bursarylaw31_lists_enc)) hk rfl rfl ?_ ?_ <;> clear hk <;> intro ct1 k hk
  · have ct1p := neIt ct1
    refine Go.rx 20 {} [] [4] _ [(4, tb false)] [] hk rfl (by as_aux_lemma => kernel_rfl) .nil ?_
    clear hk; intro k hk
    exact Go.lvx 20 [] _ [tb false] Tryd.func45 hk rfl (by as_aux_lemma => kernel_rfl) .nil (T.Le.of_eq rfl) rfl rfl .nil
  · have ct1p := neIf ct1
    refine Go.rx 20 {} [] [0, 1, 5] _ [(0, .sl 1 g_a a.length (b8s .shr a)), (1, .sl 1 g_b b.length (b8s .shr b)), (5, ti 0)] [] hk rfl (by as_aux_lemma => kernel_rfl) .nil ?_
    clear hk; intro k hk
    refine Go.loopX 20 hk rfl ?_
    clear hk; intro kl1 kxl1 hl1 hxl1
    have Xl1 : ∀ (_ : True), Go E Γ 45 28 [] ((PostX Γ bursarylaw31_lists_enc) (bursarylaw31_lists_k1)) kxl1 (stL [] []) := by
      intro _
      refine Go.rx 20 {} [] [4] _ [(4, tb true)] [] hxl1 rfl (by as_aux_lemma => kernel_rfl) .nil ?_
      clear hxl1; intro kxl1 hxl1
      exact Go.lvx 20 [] _ [tb true] Tryd.func45 hxl1 rfl (by as_aux_lemma => kernel_rfl) .nil (T.Le.of_eq rfl) rfl rfl .nil
    have Ll1 : ∀ (ml1 : Nat) (i1 : Int), (0 ≤ i1) → (((a.length : Int) - i1).toNat < ml1) → Go E Γ 45 28 [] ((PostX Γ bursarylaw31_lists_enc) (Lo.el (bursarylaw31_lists_l1 a b ml1 i1) (fun z : Unit => bursarylaw31_lists_k1))) kl1 (stL [(0, .sl 1 g_a a.length (b8s .shr a)), (1, .sl 1 g_b b.length (b8s .shr b)), (5, ti i1)] []) := by
      intro ml1
      induction ml1 with
      | zero => intro i1 i0l1 hml1; exact absurd hml1 (Nat.not_lt_zero _)
      | succ ml1 ihl1 =>
        intro i1 i0l1 hml1
        rw [bursarylaw31_lists_l1]
        refine Go.round hl1 ?_
        intro k hk
        refine Go.rx 20 {} [] [0, 1, 5, 14] _ [(0, .sl 1 g_a a.length (b8s .shr a)), (1, .sl 1 g_b b.length (b8s .shr b)), (5, ti i1), (14, tb (decide (i1 < (a.length : Int))))] [] hk rfl (by as_aux_lemma => kernel_rfl) (.cons trivial .nil) ?_
        clear hk; intro k hk
        refine Go.br 20 (Pf := (fun z : Lo (Unit) (Bool) => (PostX Γ bursarylaw31_lists_enc) (Lo.el z (fun z : Unit => bursarylaw31_lists_k1)))) hk rfl rfl ?_ ?_ <;> clear hk <;> intro ct2 k hk
        · have ct2p := of_decide_eq_true ct2
          refine Go.dx 20 [0, 1, 2, 3, 4, 5, 6, 7, 8, 9, 10] { ws := [(3, { v := some (.sl 1 .shr (a.getD i1.toNat []).length (u8s (a.getD i1.toNat []))) }), (4, { b := a.getD i1.toNat [] }), (8, { v := some (.sl 1 .shr (b.getD i1.toNat []).length (u8s (b.getD i1.toNat []))) }), (9, { b := b.getD i1.toNat [] }), (10, { v := some (tb ((a.getD i1.toNat []) != (b.getD i1.toNat []))) })] } [] [0, 1, 5, 27] _ [(0, .sl 1 g_a a.length (b8s .shr a)), (1, .sl 1 g_b b.length (b8s .shr b)), (5, ti i1), (27, tb ((a.getD i1.toNat []) != (b.getD i1.toNat [])))] [] hk rfl (by as_aux_lemma => kernel_rfl) (.cons (by omega : 0 ≤ (i1 : Int) ∧ (i1 : Int) < ((a.length : Nat) : Int)) (.cons (part1 (by as_aux_lemma => kernel_rfl : (E.ti 23).agg = false) (mp_get (g := (fun c : List UInt8 => tl .shr c)) (k := i1.toNat * 1) (n := i1.toNat) a [] (by omega) (by omega))) (.cons (rfl : u8s (a.getD i1.toNat []) = u8s (a.getD i1.toNat [])) (.cons (by omega : 0 ≤ (i1 : Int) ∧ (i1 : Int) < ((b.length : Nat) : Int)) (.cons (part1 (by as_aux_lemma => kernel_rfl : (E.ti 23).agg = false) (mp_get (g := (fun c : List UInt8 => tl .shr c)) (k := i1.toNat * 1) (n := i1.toNat) b [] (by omega) (by omega))) (.cons (rfl : u8s (b.getD i1.toNat []) = u8s (b.getD i1.toNat [])) (.cons trivial (.cons (s_ne (a.getD i1.toNat []) (b.getD i1.toNat [])) .nil)))))))) ?_
          clear hk; intro k hk
          refine Go.br 20 (Pf := (fun z : Lo (Unit) (Bool) => (PostX Γ bursarylaw31_lists_enc) (Lo.el z (fun z : Unit => bursarylaw31_lists_k1)))) hk rfl rfl ?_ ?_ <;> clear hk <;> intro ct3 k hk
          · refine Go.rx 20 {} [] [4] _ [(4, tb false)] [] hk rfl (by as_aux_lemma => kernel_rfl) .nil ?_
            clear hk; intro k hk
            exact Go.lvx 20 [] _ [tb false] Tryd.func45 hk rfl (by as_aux_lemma => kernel_rfl) .nil (T.Le.of_eq rfl) rfl rfl .nil
          · refine Go.rx 20 { ws := [(1, { v := some (ti (i1 + 1)) })] } [] [0, 1, 5] _ [(0, .sl 1 g_a a.length (b8s .shr a)), (1, .sl 1 g_b b.length (b8s .shr b)), (5, ti (i1 + 1))] [] hk rfl (by as_aux_lemma => kernel_rfl) (.cons trivial (.cons (iw (i1 + 1) (by omega)) .nil)) ?_
            clear hk; intro k hk
            exact Go.join 20 hk hl1 rfl (ihl1 (i1 + 1) (by omega) (by omega))
        · have ct2p := of_decide_eq_false ct2
          refine Go.keepN [] (L' := []) rfl ?_
          exact Go.join 20 hk hxl1 rfl (Xl1 trivial)
    exact Ll1 _ 0 (by omega) (Nat.lt_succ_self _)
noncomputable def bursarylaw31_bigList_k1 (l : List (List UInt8)) : Bool :=
  decide ((l.length : Int) > 40)
noncomputable def bursarylaw31_bigList_l1 (l : List (List UInt8)) : Nat → Int → Int → Lo Unit Bool
  | 0, _, _ => .brk default
  | ml1 + 1, n1, i1 =>
    bif (decide (i1 < (l.length : Int))) && (decide (i1 < 40)) then
      bif decide (n1 + (if 5000 < ((l.getD i1.toNat []).length : Int) then 5000 else ((l.getD i1.toNat []).length : Int)) > 3000) then
        Lo.ret true
      else
        bursarylaw31_bigList_l1 l ml1 (n1 + (if 5000 < ((l.getD i1.toNat []).length : Int) then 5000 else ((l.getD i1.toNat []).length : Int))) (i1 + 1)
    else
      Lo.brk ()
noncomputable def bursarylaw31_bigList (l : List (List UInt8)) : Bool :=
  Lo.el (bursarylaw31_bigList_l1 l (((l.length : Int) - (0 : Int)).toNat + 1) 0 0) (fun z : Unit => bursarylaw31_bigList_k1 l)
def bursarylaw31_bigList_enc (x : Bool) : T × List (Nat × List T) := (tb x, [])
theorem bursarylaw31_bigList_m {g_l : Tag} (l : List (List UInt8)) : Meets Tryd.prog 36 [.sl 1 g_l l.length (b8s .shr l)] [] [] (tb (bursarylaw31_bigList l)) [] := by
  refine Meets.enterX (E := E) (N := 28) (enc := bursarylaw31_bigList_enc) (x := (bursarylaw31_bigList l)) Tryd.func36 Tryd.call36 rfl rfl ?_
  intro Γ k hk
  refine Go.rx 20 {} [] [0] _ [(0, .sl 1 g_l l.length (b8s .shr l))] [] hk rfl (by as_aux_lemma => kernel_rfl) .nil ?_
  clear hk; intro k hk
  refine Go.rx 20 {} [] [0, 3] _ [(0, .sl 1 g_l l.length (b8s .shr l)), (3, ti 0)] [] hk rfl (by as_aux_lemma => kernel_rfl) .nil ?_
  clear hk; intro k hk
  refine Go.rx 20 {} [] [0, 3, 4] _ [(0, .sl 1 g_l l.length (b8s .shr l)), (3, ti 0), (4, ti 0)] [] hk rfl (by as_aux_lemma => kernel_rfl) .nil ?_
  clear hk; intro k hk
  refine Go.loopX 20 hk rfl ?_
  clear hk; intro kl1 kxl1 hl1 hxl1
  have Xl1 : ∀ (_ : True), Go E Γ 36 28 [] ((PostX Γ bursarylaw31_bigList_enc) (bursarylaw31_bigList_k1 l)) kxl1 (stL [(0, .sl 1 g_l l.length (b8s .shr l))] []) := by
    intro _
    refine Go.rx 20 {} [] [2] _ [(2, tb (decide ((l.length : Int) > 40)))] [] hxl1 rfl (by as_aux_lemma => kernel_rfl) (.cons trivial .nil) ?_
    clear hxl1; intro kxl1 hxl1
    exact Go.lvx 20 [] _ [tb (decide ((l.length : Int) > 40))] Tryd.func36 hxl1 rfl (by as_aux_lemma => kernel_rfl) .nil (T.Le.of_eq rfl) rfl rfl .nil
  have Ll1 : ∀ (ml1 : Nat) (n1 : Int) (i1 : Int), (0 ≤ n1) → (n1 ≤ 3000) → (0 ≤ i1) → (((l.length : Int) - i1).toNat < ml1) → Go E Γ 36 28 [] ((PostX Γ bursarylaw31_bigList_enc) (Lo.el (bursarylaw31_bigList_l1 l ml1 n1 i1) (fun z : Unit => bursarylaw31_bigList_k1 l))) kl1 (stL [(0, .sl 1 g_l l.length (b8s .shr l)), (3, ti n1), (4, ti i1)] []) := by
    intro ml1
    induction ml1 with
    | zero => intro n1 i1 i0l1 i1l1 i2l1 hml1; exact absurd hml1 (Nat.not_lt_zero _)
    | succ ml1 ihl1 =>
      intro n1 i1 i0l1 i1l1 i2l1 hml1
      rw [bursarylaw31_bigList_l1]
      refine Go.round hl1 ?_
      intro k hk
      refine Go.regJ 20 [(0, .sl 1 g_l l.length (b8s .shr l)), (3, ti n1), (4, ti i1), (12, tb ((decide (i1 < (l.length : Int))) && (decide (i1 < 40))))] [] hk rfl ?_ ?_
      · clear hk; intro k hk
        refine Go.br 20 (Pf := (fun z : Lo (Unit) (Bool) => (PostX Γ bursarylaw31_bigList_enc) (Lo.el z (fun z : Unit => bursarylaw31_bigList_k1 l)))) hk rfl rfl ?_ ?_ <;> clear hk <;> intro ct1 k hk
        · have ct11 : (decide (i1 < (l.length : Int))) = true := (Bool.and_eq_true_iff.1 ct1).1
          have ct12 : (decide (i1 < 40)) = true := (Bool.and_eq_true_iff.1 ct1).2
          have ct11p := of_decide_eq_true ct11
          have ct12p := of_decide_eq_true ct12
          refine Go.rx 20 { ws := [(4, { v := some (.sl 1 .shr (l.getD i1.toNat []).length (u8s (l.getD i1.toNat []))) }), (7, { v := some (ti (n1 + (if 5000 < ((l.getD i1.toNat []).length : Int) then 5000 else ((l.getD i1.toNat []).length : Int)))) })] } [] [0, 3, 4] _ [(0, .sl 1 g_l l.length (b8s .shr l)), (3, ti (n1 + (if 5000 < ((l.getD i1.toNat []).length : Int) then 5000 else ((l.getD i1.toNat []).length : Int)))), (4, ti i1)] [] hk rfl (by as_aux_lemma => kernel_rfl) (.cons (by first | omega | (simp <;> omega) | (simp at * <;> omega) | (split <;> omega) | (split <;> (first | omega | (simp <;> omega) | (simp at * <;> omega))) : 0 ≤ (i1 : Int) ∧ (i1 : Int) < ((l.length : Nat) : Int)) (.cons (part1 (by as_aux_lemma => kernel_rfl : (E.ti 23).agg = false) (mp_get (g := (fun c : List UInt8 => tl .shr c)) (k := i1.toNat * 1) (n := i1.toNat) l [] (by omega) (by first | omega | (simp <;> omega) | (simp at * <;> omega) | (split <;> omega) | (split <;> (first | omega | (simp <;> omega) | (simp at * <;> omega)))))) (.cons trivial (.cons (iw (n1 + (if 5000 < ((l.getD i1.toNat []).length : Int) then 5000 else ((l.getD i1.toNat []).length : Int))) (by first | omega | (simp <;> omega) | (simp at * <;> omega) | (split <;> omega) | (split <;> (first | omega | (simp <;> omega) | (simp at * <;> omega))))) .nil)))) ?_
          clear hk; intro k hk
          refine Go.rx 20 {} [] [0, 3, 4, 24] _ [(0, .sl 1 g_l l.length (b8s .shr l)), (3, ti (n1 + (if 5000 < ((l.getD i1.toNat []).length : Int) then 5000 else ((l.getD i1.toNat []).length : Int)))), (4, ti i1), (24, tb (decide (n1 + (if 5000 < ((l.getD i1.toNat []).length : Int) then 5000 else ((l.getD i1.toNat []).length : Int)) > 3000)))] [] hk rfl (by as_aux_lemma => kernel_rfl) (.cons trivial .nil) ?_
          clear hk; intro k hk
          refine Go.br 20 (Pf := (fun z : Lo (Unit) (Bool) => (PostX Γ bursarylaw31_bigList_enc) (Lo.el z (fun z : Unit => bursarylaw31_bigList_k1 l)))) hk rfl rfl ?_ ?_ <;> clear hk <;> intro ct2 k hk
          · have ct2p := of_decide_eq_true ct2
            refine Go.rx 20 {} [] [2] _ [(2, tb true)] [] hk rfl (by as_aux_lemma => kernel_rfl) .nil ?_
            clear hk; intro k hk
            exact Go.lvx 20 [] _ [tb true] Tryd.func36 hk rfl (by as_aux_lemma => kernel_rfl) .nil (T.Le.of_eq rfl) rfl rfl .nil
          · have ct2p := of_decide_eq_false ct2
            refine Go.rx 20 { ws := [(1, { v := some (ti (i1 + 1)) })] } [] [0, 3, 4] _ [(0, .sl 1 g_l l.length (b8s .shr l)), (3, ti (n1 + (if 5000 < ((l.getD i1.toNat []).length : Int) then 5000 else ((l.getD i1.toNat []).length : Int)))), (4, ti (i1 + 1))] [] hk rfl (by as_aux_lemma => kernel_rfl) (.cons trivial (.cons (iw (i1 + 1) (by first | omega | (simp <;> omega) | (simp at * <;> omega) | (split <;> omega) | (split <;> (first | omega | (simp <;> omega) | (simp at * <;> omega))))) .nil)) ?_
            clear hk; intro k hk
            exact Go.join 20 hk hl1 rfl (ihl1 (n1 + (if 5000 < ((l.getD i1.toNat []).length : Int) then 5000 else ((l.getD i1.toNat []).length : Int))) (i1 + 1) (by first | omega | (simp <;> omega) | (simp at * <;> omega) | (split <;> omega) | (split <;> (first | omega | (simp <;> omega) | (simp at * <;> omega)))) (by first | omega | (simp <;> omega) | (simp at * <;> omega) | (split <;> omega) | (split <;> (first | omega | (simp <;> omega) | (simp at * <;> omega)))) (by first | omega | (simp <;> omega) | (simp at * <;> omega) | (split <;> omega) | (split <;> (first | omega | (simp <;> omega) | (simp at * <;> omega)))) (by first | omega | (simp <;> omega) | (simp at * <;> omega) | (split <;> omega) | (split <;> (first | omega | (simp <;> omega) | (simp at * <;> omega)))))
        · refine Go.keepN [0] (L' := [(0, .sl 1 g_l l.length (b8s .shr l))]) rfl ?_
          exact Go.join 20 hk hxl1 rfl (Xl1 trivial)
      · intro hk J
        rcases Bool.eq_false_or_eq_true (decide (i1 < (l.length : Int))) with gd1 | gd1
        · have gd1p := of_decide_eq_true gd1
          refine Go.rx 20 { ws := [(3, { v := some (tb true) })] } [] [0, 3, 4, 12] _ [(0, .sl 1 g_l l.length (b8s .shr l)), (3, ti n1), (4, ti i1), (12, tb (decide (i1 < 40)))] [] hk rfl (by as_aux_lemma => kernel_rfl) (.cons trivial (.cons (eb gd1) (.cons trivial .nil))) ?_
          intro k' hk'
          refine Go.slotEq 12 (tb ((decide (i1 < (l.length : Int))) && (decide (i1 < 40)))) rfl (eb (andT gd1 rfl).symm) ?_
          exact J k' hk'
        · have gd1p := of_decide_eq_false gd1
          refine Go.rx 20 { ws := [(3, { v := some (tb false) })] } [] [0, 3, 4, 12] _ [(0, .sl 1 g_l l.length (b8s .shr l)), (3, ti n1), (4, ti i1), (12, tb false)] [] hk rfl (by as_aux_lemma => kernel_rfl) (.cons trivial (.cons (eb gd1) .nil)) ?_
          intro k' hk'
          refine Go.slotEq 12 (tb ((decide (i1 < (l.length : Int))) && (decide (i1 < 40)))) rfl (eb (andF gd1).symm) ?_
          exact J k' hk'
  exact Ll1 _ 0 0 (by first | omega | (simp <;> omega) | (simp at * <;> omega) | (split <;> omega) | (split <;> (first | omega | (simp <;> omega) | (simp at * <;> omega)))) (by first | omega | (simp <;> omega) | (simp at * <;> omega) | (split <;> omega) | (split <;> (first | omega | (simp <;> omega) | (simp at * <;> omega)))) (by first | omega | (simp <;> omega) | (simp at * <;> omega) | (split <;> omega) | (split <;> (first | omega | (simp <;> omega) | (simp at * <;> omega)))) (Nat.lt_succ_self _)
theorem bigList_l1 (l : List (List UInt8)) : ∀ (m : Nat) (n i : Int), 0 ≤ i → 0 ≤ n → Lo.el (bursarylaw31_bigList_l1 l m n i) (fun _ => bursarylaw31_bigList_k1 l) = false → ((l.length : Int) - i).toNat < m → l.length ≤ 40 ∧ ∀ j : Nat, i ≤ j → j < l.length → (l.getD j []).length ≤ 3000 := by
  intro m
  induction m with
  | zero => intro n i _ _ _ h; exact absurd h (Nat.not_lt_zero _)
  | succ m ih =>
    intro n i h0 hn h hm
    rw [bursarylaw31_bigList_l1] at h
    cases c : (decide (i < (l.length : Int))) && (decide (i < 40)) with
    | false =>
      rw [c, cond_false] at h
      have h2 : ¬ (l.length : Int) > 40 := of_decide_eq_false h
      simp at c
      exact ⟨by omega, fun j hj hl => by omega⟩
    | true =>
      rw [c, cond_true] at h
      simp only [Bool.and_eq_true, decide_eq_true_eq] at c
      by_cases d : n + (if 5000 < ((l.getD i.toNat []).length : Int) then 5000 else ((l.getD i.toNat []).length : Int)) > 3000
      · rw [decide_eq_true d, cond_true] at h; exact absurd h (by simp [Lo.el])
      · rw [decide_eq_false d, cond_false] at h
        have hp : 0 ≤ (if 5000 < ((l.getD i.toNat []).length : Int) then 5000 else ((l.getD i.toNat []).length : Int)) := by split <;> omega
        obtain ⟨q, r⟩ := ih _ (i + 1) (by omega) (by omega) h (by omega)
        refine ⟨q, fun j hj hl => ?_⟩
        by_cases e : i = j
        · subst e; rw [Int.toNat_natCast] at d; split at d <;> omega
        · exact r j (by omega) hl
theorem bigList_fact (l : List (List UInt8)) (h : bursarylaw31_bigList l = false) : l.length ≤ 40 ∧ ∀ j : Nat, (l.getD j []).length ≤ 3000 := by
  rw [bursarylaw31_bigList] at h
  obtain ⟨q, r⟩ := bigList_l1 l _ 0 0 (by omega) (by omega) h (by omega)
  refine ⟨q, fun j => ?_⟩
  by_cases c : j < l.length
  · exact r j (by omega) c
  · rw [gD_out _ _ _ (by omega)]; simp

noncomputable def bursarylaw31_sure  : Bool :=
  bnd (wire_Encode ([([97] : List UInt8), []] : List (List UInt8))) fun x1 =>
  bnd (wire_Decode x1.1) fun x2 =>
  bnd (wire_Number 258) fun x3 =>
  bnd (wire_Read []) fun x4 =>
  bnd (id x4.2) fun x5 =>
  (decide (x1.2 = 0)) && ((decide (x2.2 = 0)) && ((decide ((wire_Read x3).2 = 0)) && ((x1.1 == [2, 0, 1, 97, 0, 0]) && (((x2.1.length : Int) == 2) && ((((wire_Read x3).1) == 258) && (x5 == 4))))))
def bursarylaw31_sure_enc (x : Bool) : T × List (Nat × List T) := (tb x, [])
theorem bursarylaw31_sure_m  : Meets Tryd.prog 37 [] [] [] (tb bursarylaw31_sure) [] := by
  refine Meets.enterX (E := E) (N := 59) (enc := bursarylaw31_sure_enc) (x := bursarylaw31_sure) Tryd.func37 Tryd.call37 rfl rfl ?_
  intro Γ k hk
  refine Go.rx 20 {} [] [] _ [] [] hk rfl (by as_aux_lemma => kernel_rfl) .nil ?_
  clear hk; intro k hk
  refine Go.rx 20 { ws := [(0, { id := 10 }), (1, { v := some (.sl 1 .shr ([97] : List UInt8).length (u8s ([97] : List UInt8))), gv := true }), (2, { id := 11 }), (3, { call := some { ids := [], S := [], M := [11], R := .tup [.sl 1 .shr ((wire_Encode ([([97] : List UInt8), []] : List (List UInt8))).1).length (u8s ((wire_Encode ([([97] : List UInt8), []] : List (List UInt8))).1)), er 82 ((wire_Encode ([([97] : List UInt8), []] : List (List UInt8))).2)], H' := [] } })], ps := [2, 9, 13, 15] } [11] [1, 2] _ [(1, .sl 1 .shr ((wire_Encode ([([97] : List UInt8), []] : List (List UInt8))).1).length (u8s ((wire_Encode ([([97] : List UInt8), []] : List (List UInt8))).1))), (2, er 82 ((wire_Encode ([([97] : List UInt8), []] : List (List UInt8))).2))] [] hk rfl (by as_aux_lemma => kernel_rfl) (.cons (⟨rfl, Nat.le_of_ble_eq_true rfl⟩ : idsL [t8 97] = [] ∧ 0 + 1 * 1 ≤ ([t8 97] : List T).length) (.cons (rfl : T.sl 1 .shr 1 (sub [t8 97] 0 (1 * 1)) = .sl 1 .shr ([97] : List UInt8).length (u8s ([97] : List UInt8))) (.cons (Meets.leA (A := [.sl 1 .brw 2 (sub ([.sl 1 .shr ([97] : List UInt8).length (u8s ([97] : List UInt8)), .leaf (.slice none 0 0)]) 0 (2 * 1))]) (wire_Encode_m (g_l := .brw) ([([97] : List UInt8), []] : List (List UInt8))) (.cons (T.Le.cells (.cons (T.Le.refl _) (.cons (T.Le.nil _ _) .nil)) rfl) .nil)) (.cons (rfl : idsL ([.sl 1 .shr ([97] : List UInt8).length (u8s ([97] : List UInt8)), .leaf (.slice none 0 0)]) = []) (.cons (by decide : 0 + 2 * 1 ≤ 2) (.cons (by first | rfl | (simp only [T.ids, idsL, er_ids, List.append_nil, List.nil_append]; rfl) : subN (idsL [.sl 1 .brw 2 (sub ([.sl 1 .shr ([97] : List UInt8).length (u8s ([97] : List UInt8)), .leaf (.slice none 0 0)]) 0 (2 * 1))]) [] = true) (.cons (by first | rfl | (simp only [T.noB, noBL, er_noB, u8s_noB, b8s_noB, Bool.and_self, Bool.true_and, Bool.and_true]; rfl) | simp only [T.noB, noBL, er_noB, u8s_noB, b8s_noB, Bool.and_self, Bool.true_and, Bool.and_true] : T.noB (.tup [.sl 1 .shr ((wire_Encode ([([97] : List UInt8), []] : List (List UInt8))).1).length (u8s ((wire_Encode ([([97] : List UInt8), []] : List (List UInt8))).1)), er 82 ((wire_Encode ([([97] : List UInt8), []] : List (List UInt8))).2)]) = true) (.cons (by first | rfl | (simp only [T.ids, idsL, er_ids, List.append_nil, List.nil_append]; rfl) : memN 11 (T.ids (.tup [.sl 1 .shr ((wire_Encode ([([97] : List UInt8), []] : List (List UInt8))).1).length (u8s ((wire_Encode ([([97] : List UInt8), []] : List (List UInt8))).1)), er 82 ((wire_Encode ([([97] : List UInt8), []] : List (List UInt8))).2)])) = false) (.cons (by first | rfl | (simp only [T.ids, idsL, er_ids, List.append_nil, List.nil_append]; rfl) : memN 11 (T.ids (.tup [.sl 1 .shr ((wire_Encode ([([97] : List UInt8), []] : List (List UInt8))).1).length (u8s ((wire_Encode ([([97] : List UInt8), []] : List (List UInt8))).1)), er 82 ((wire_Encode ([([97] : List UInt8), []] : List (List UInt8))).2)])) = false) (.cons (er_mem (i := 11) 82 ((wire_Encode ([([97] : List UInt8), []] : List (List UInt8))).2)) (.cons (er_mem (i := 11) 82 ((wire_Encode ([([97] : List UInt8), []] : List (List UInt8))).2)) .nil))))))))))) ?_
  clear hk; intro k hk
  refine Go.bnd (Pf := (PostX Γ bursarylaw31_sure_enc)) (v := (wire_Encode ([([97] : List UInt8), []] : List (List UInt8)))) (fun x1 => [(1, .sl 1 .shr x1.1.length (u8s x1.1)), (2, er 82 x1.2)]) (fun x1 => []) ?_
  intro x1 hx1
  have fx1 := encode_fact ([([97] : List UInt8), []] : List (List UInt8))
  rw [← hx1] at fx1
  obtain ⟨fx10, fx11⟩ := fx1
  refine Go.rx 20 { ws := [(1, { call := some { ids := [], S := [], M := [], R := .tup [.sl 1 .shr ((wire_Decode x1.1).1).length (b8s .shr ((wire_Decode x1.1).1)), er 82 ((wire_Decode x1.1).2)], H' := [] } })] } [] [1, 2, 3, 4] _ [(1, .sl 1 .shr x1.1.length (u8s x1.1)), (2, er 82 x1.2), (3, .sl 1 .shr ((wire_Decode x1.1).1).length (b8s .shr ((wire_Decode x1.1).1))), (4, er 82 ((wire_Decode x1.1).2))] [] hk rfl (by as_aux_lemma => kernel_rfl) (.cons (wire_Decode_m (g_a0 := .shr) x1.1) (.cons (by first | rfl | (simp only [T.ids, idsL, er_ids, List.append_nil, List.nil_append]; rfl) : subN (idsL [.sl 1 .shr x1.1.length (u8s x1.1)]) [] = true) .nil)) ?_
  clear hk; intro k hk
  refine Go.bnd (Pf := (PostX Γ bursarylaw31_sure_enc)) (v := (wire_Decode x1.1)) (fun x2 => [(1, .sl 1 .shr x1.1.length (u8s x1.1)), (2, er 82 x1.2), (3, .sl 1 .shr x2.1.length (b8s .shr x2.1)), (4, er 82 x2.2)]) (fun x2 => []) ?_
  intro x2 hx2
  have fx2 := decode_fact x1.1
  rw [← hx2] at fx2
  obtain ⟨fx20, fx21⟩ := fx2
  refine Go.rx 20 { ws := [(0, { call := some { ids := [], S := [], M := [], R := .sl 1 .shr (wire_Number 258).length (u8s (wire_Number 258)), H' := [] } }), (1, { call := some { ids := [], S := [], M := [], R := .tup [t64 ((wire_Read (wire_Number 258)).1), er 82 ((wire_Read (wire_Number 258)).2)], H' := [] } })] } [] [1, 2, 3, 4, 5, 6] _ [(1, .sl 1 .shr x1.1.length (u8s x1.1)), (2, er 82 x1.2), (3, .sl 1 .shr x2.1.length (b8s .shr x2.1)), (4, er 82 x2.2), (5, t64 ((wire_Read (wire_Number 258)).1)), (6, er 82 ((wire_Read (wire_Number 258)).2))] [] hk rfl (by as_aux_lemma => kernel_rfl) (.cons (wire_Number_m 258) (.cons (by first | rfl | (simp only [T.ids, idsL, er_ids, List.append_nil, List.nil_append]; rfl) : subN (idsL [t64 258]) [] = true) (.cons (wire_Read_m (g_b := .shr) (wire_Number 258)) (.cons (by first | rfl | (simp only [T.ids, idsL, er_ids, List.append_nil, List.nil_append]; rfl) : subN (idsL [.sl 1 .shr (wire_Number 258).length (u8s (wire_Number 258))]) [] = true) .nil)))) ?_
  clear hk; intro k hk
  refine Go.bnd (Pf := (PostX Γ bursarylaw31_sure_enc)) (v := (wire_Number 258)) (fun x3 => [(1, .sl 1 .shr x1.1.length (u8s x1.1)), (2, er 82 x1.2), (3, .sl 1 .shr x2.1.length (b8s .shr x2.1)), (4, er 82 x2.2), (5, t64 ((wire_Read x3).1)), (6, er 82 ((wire_Read x3).2))]) (fun x3 => []) ?_
  intro x3 hx3
  have fx3 := number_fact 258
  rw [← hx3] at fx3
  refine Go.rx 20 { ws := [(0, { call := some { ids := [], S := [], M := [], R := .tup [t64 ((wire_Read []).1), er 82 ((wire_Read []).2)], H' := [] } })] } [] [1, 2, 3, 4, 5, 6, 8] _ [(1, .sl 1 .shr x1.1.length (u8s x1.1)), (2, er 82 x1.2), (3, .sl 1 .shr x2.1.length (b8s .shr x2.1)), (4, er 82 x2.2), (5, t64 ((wire_Read x3).1)), (6, er 82 ((wire_Read x3).2)), (8, er 82 ((wire_Read []).2))] [] hk rfl (by as_aux_lemma => kernel_rfl) (.cons (Meets.leA (A := [.leaf (.slice none 0 0)]) (wire_Read_m (g_b := .shr) []) (.cons (T.Le.nil _ _) .nil)) (.cons (by first | rfl | (simp only [T.ids, idsL, er_ids, List.append_nil, List.nil_append]; rfl) : subN (idsL [.leaf (.slice none 0 0)]) [] = true) .nil)) ?_
  clear hk; intro k hk
  refine Go.bnd (Pf := (PostX Γ bursarylaw31_sure_enc)) (v := (wire_Read [])) (fun x4 => [(1, .sl 1 .shr x1.1.length (u8s x1.1)), (2, er 82 x1.2), (3, .sl 1 .shr x2.1.length (b8s .shr x2.1)), (4, er 82 x2.2), (5, t64 ((wire_Read x3).1)), (6, er 82 ((wire_Read x3).2)), (8, er 82 x4.2)]) (fun x4 => []) ?_
  intro x4 hx4
  refine Go.regJ 20 [(0, tb ((decide (x1.2 = 0)) && ((decide (x2.2 = 0)) && ((decide ((wire_Read x3).2 = 0)) && ((x1.1 == [2, 0, 1, 97, 0, 0]) && (((x2.1.length : Int) == 2) && ((((wire_Read x3).1) == 258) && ((id x4.2) == 4))))))))] [] hk rfl ?_ ?_
  · clear hk; intro k hk
    refine Go.bnd (Pf := (PostX Γ bursarylaw31_sure_enc)) (v := (id x4.2)) (fun x5 => [(0, tb ((decide (x1.2 = 0)) && ((decide (x2.2 = 0)) && ((decide ((wire_Read x3).2 = 0)) && ((x1.1 == [2, 0, 1, 97, 0, 0]) && (((x2.1.length : Int) == 2) && ((((wire_Read x3).1) == 258) && (x5 == 4))))))))]) (fun x5 => []) ?_
    intro x5 hx5
    exact Go.lvx 20 [] _ [tb ((decide (x1.2 = 0)) && ((decide (x2.2 = 0)) && ((decide ((wire_Read x3).2 = 0)) && ((x1.1 == [2, 0, 1, 97, 0, 0]) && (((x2.1.length : Int) == 2) && ((((wire_Read x3).1) == 258) && (x5 == 4)))))))] Tryd.func37 hk rfl (by as_aux_lemma => kernel_rfl) .nil (T.Le.of_eq rfl) rfl rfl .nil
  · intro hk J
    rcases Bool.eq_false_or_eq_true (decide (x1.2 = 0)) with gd1 | gd1
    · have gd1p := of_decide_eq_true gd1
      rcases Bool.eq_false_or_eq_true (decide (x2.2 = 0)) with gd2 | gd2
      · have gd2p := of_decide_eq_true gd2
        rcases Bool.eq_false_or_eq_true (decide ((wire_Read x3).2 = 0)) with gd3 | gd3
        · have gd3p := of_decide_eq_true gd3
          rcases Bool.eq_false_or_eq_true (x1.1 == [2, 0, 1, 97, 0, 0]) with gd4 | gd4
          · rcases Bool.eq_false_or_eq_true ((x2.1.length : Int) == 2) with gd5 | gd5
            · have gd5p := eqIt gd5
              rcases Bool.eq_false_or_eq_true (((wire_Read x3).1) == 258) with gd6 | gd6
              · refine Go.rx 20 { ws := [(1, { v := some (tb true), er := some (82, x1.2) }), (4, { v := some (tb true), er := some (82, x2.2) }), (8, { v := some (tb true), er := some (82, (wire_Read x3).2) }), (12, { b := x1.1 }), (13, { v := some (tb true) }), (18, { v := some (tb true) }), (22, { v := some (tb true) }), (26, { call := some { ids := [], S := [], M := [], R := ti (id x4.2), H' := [] } })] } [] [0] _ [(0, tb ((id x4.2) == 4))] [] hk rfl (by as_aux_lemma => kernel_rfl) (.cons (⟨rfl, rfl⟩ : (er 82 x1.2) = er 82 x1.2 ∧ (.leaf .nilIface : T) = .leaf .nilIface) (.cons (eb gd1) (.cons (⟨rfl, rfl⟩ : (er 82 x2.2) = er 82 x2.2 ∧ (.leaf .nilIface : T) = .leaf .nilIface) (.cons (eb gd2) (.cons (⟨rfl, rfl⟩ : (er 82 ((wire_Read x3).2)) = er 82 ((wire_Read x3).2) ∧ (.leaf .nilIface : T) = .leaf .nilIface) (.cons (eb gd3) (.cons (rfl : u8s x1.1 = u8s x1.1) (.cons trivial (.cons ((s_eq x1.1 [2, 0, 1, 97, 0, 0]).trans (eb gd4)) (.cons trivial (.cons (eb gd5) (.cons trivial (.cons ((eqB64 ((wire_Read x3).1) 258).trans (eb gd6)) (.cons (bursarylaw31_num_m x4.2) (.cons (by first | rfl | (simp only [T.ids, idsL, er_ids, List.append_nil, List.nil_append]; rfl) : subN (idsL [er 82 x4.2]) [] = true) (.cons trivial .nil)))))))))))))))) ?_
                intro k' hk'
                refine Go.slotEq 0 (tb ((decide (x1.2 = 0)) && ((decide (x2.2 = 0)) && ((decide ((wire_Read x3).2 = 0)) && ((x1.1 == [2, 0, 1, 97, 0, 0]) && (((x2.1.length : Int) == 2) && ((((wire_Read x3).1) == 258) && ((id x4.2) == 4)))))))) rfl (eb (andT gd1 (andT gd2 (andT gd3 (andT gd4 (andT gd5 (andT gd6 rfl)))))).symm) ?_
                exact J k' hk'
              · refine Go.rx 20 { ws := [(1, { v := some (tb true), er := some (82, x1.2) }), (4, { v := some (tb true), er := some (82, x2.2) }), (8, { v := some (tb true), er := some (82, (wire_Read x3).2) }), (12, { b := x1.1 }), (13, { v := some (tb true) }), (18, { v := some (tb true) }), (22, { v := some (tb false) })] } [] [0] _ [(0, tb false)] [] hk rfl (by as_aux_lemma => kernel_rfl) (.cons (⟨rfl, rfl⟩ : (er 82 x1.2) = er 82 x1.2 ∧ (.leaf .nilIface : T) = .leaf .nilIface) (.cons (eb gd1) (.cons (⟨rfl, rfl⟩ : (er 82 x2.2) = er 82 x2.2 ∧ (.leaf .nilIface : T) = .leaf .nilIface) (.cons (eb gd2) (.cons (⟨rfl, rfl⟩ : (er 82 ((wire_Read x3).2)) = er 82 ((wire_Read x3).2) ∧ (.leaf .nilIface : T) = .leaf .nilIface) (.cons (eb gd3) (.cons (rfl : u8s x1.1 = u8s x1.1) (.cons trivial (.cons ((s_eq x1.1 [2, 0, 1, 97, 0, 0]).trans (eb gd4)) (.cons trivial (.cons (eb gd5) (.cons trivial (.cons ((eqB64 ((wire_Read x3).1) 258).trans (eb gd6)) .nil))))))))))))) ?_
                intro k' hk'
                refine Go.slotEq 0 (tb ((decide (x1.2 = 0)) && ((decide (x2.2 = 0)) && ((decide ((wire_Read x3).2 = 0)) && ((x1.1 == [2, 0, 1, 97, 0, 0]) && (((x2.1.length : Int) == 2) && ((((wire_Read x3).1) == 258) && ((id x4.2) == 4)))))))) rfl (eb (andT gd1 (andT gd2 (andT gd3 (andT gd4 (andT gd5 (andF gd6)))))).symm) ?_
                exact J k' hk'
            · have gd5p := eqIf gd5
              refine Go.rx 20 { ws := [(1, { v := some (tb true), er := some (82, x1.2) }), (4, { v := some (tb true), er := some (82, x2.2) }), (8, { v := some (tb true), er := some (82, (wire_Read x3).2) }), (12, { b := x1.1 }), (13, { v := some (tb true) }), (18, { v := some (tb false) })] } [] [0] _ [(0, tb false)] [] hk rfl (by as_aux_lemma => kernel_rfl) (.cons (⟨rfl, rfl⟩ : (er 82 x1.2) = er 82 x1.2 ∧ (.leaf .nilIface : T) = .leaf .nilIface) (.cons (eb gd1) (.cons (⟨rfl, rfl⟩ : (er 82 x2.2) = er 82 x2.2 ∧ (.leaf .nilIface : T) = .leaf .nilIface) (.cons (eb gd2) (.cons (⟨rfl, rfl⟩ : (er 82 ((wire_Read x3).2)) = er 82 ((wire_Read x3).2) ∧ (.leaf .nilIface : T) = .leaf .nilIface) (.cons (eb gd3) (.cons (rfl : u8s x1.1 = u8s x1.1) (.cons trivial (.cons ((s_eq x1.1 [2, 0, 1, 97, 0, 0]).trans (eb gd4)) (.cons trivial (.cons (eb gd5) .nil))))))))))) ?_
              intro k' hk'
              refine Go.slotEq 0 (tb ((decide (x1.2 = 0)) && ((decide (x2.2 = 0)) && ((decide ((wire_Read x3).2 = 0)) && ((x1.1 == [2, 0, 1, 97, 0, 0]) && (((x2.1.length : Int) == 2) && ((((wire_Read x3).1) == 258) && ((id x4.2) == 4)))))))) rfl (eb (andT gd1 (andT gd2 (andT gd3 (andT gd4 (andF gd5))))).symm) ?_
              exact J k' hk'
          · refine Go.rx 20 { ws := [(1, { v := some (tb true), er := some (82, x1.2) }), (4, { v := some (tb true), er := some (82, x2.2) }), (8, { v := some (tb true), er := some (82, (wire_Read x3).2) }), (12, { b := x1.1 }), (13, { v := some (tb false) })] } [] [0] _ [(0, tb false)] [] hk rfl (by as_aux_lemma => kernel_rfl) (.cons (⟨rfl, rfl⟩ : (er 82 x1.2) = er 82 x1.2 ∧ (.leaf .nilIface : T) = .leaf .nilIface) (.cons (eb gd1) (.cons (⟨rfl, rfl⟩ : (er 82 x2.2) = er 82 x2.2 ∧ (.leaf .nilIface : T) = .leaf .nilIface) (.cons (eb gd2) (.cons (⟨rfl, rfl⟩ : (er 82 ((wire_Read x3).2)) = er 82 ((wire_Read x3).2) ∧ (.leaf .nilIface : T) = .leaf .nilIface) (.cons (eb gd3) (.cons (rfl : u8s x1.1 = u8s x1.1) (.cons trivial (.cons ((s_eq x1.1 [2, 0, 1, 97, 0, 0]).trans (eb gd4)) .nil))))))))) ?_
            intro k' hk'
            refine Go.slotEq 0 (tb ((decide (x1.2 = 0)) && ((decide (x2.2 = 0)) && ((decide ((wire_Read x3).2 = 0)) && ((x1.1 == [2, 0, 1, 97, 0, 0]) && (((x2.1.length : Int) == 2) && ((((wire_Read x3).1) == 258) && ((id x4.2) == 4)))))))) rfl (eb (andT gd1 (andT gd2 (andT gd3 (andF gd4)))).symm) ?_
            exact J k' hk'
        · have gd3p := of_decide_eq_false gd3
          refine Go.rx 20 { ws := [(1, { v := some (tb true), er := some (82, x1.2) }), (4, { v := some (tb true), er := some (82, x2.2) }), (8, { v := some (tb false), er := some (82, (wire_Read x3).2) })] } [] [0] _ [(0, tb false)] [] hk rfl (by as_aux_lemma => kernel_rfl) (.cons (⟨rfl, rfl⟩ : (er 82 x1.2) = er 82 x1.2 ∧ (.leaf .nilIface : T) = .leaf .nilIface) (.cons (eb gd1) (.cons (⟨rfl, rfl⟩ : (er 82 x2.2) = er 82 x2.2 ∧ (.leaf .nilIface : T) = .leaf .nilIface) (.cons (eb gd2) (.cons (⟨rfl, rfl⟩ : (er 82 ((wire_Read x3).2)) = er 82 ((wire_Read x3).2) ∧ (.leaf .nilIface : T) = .leaf .nilIface) (.cons (eb gd3) .nil)))))) ?_
          intro k' hk'
          refine Go.slotEq 0 (tb ((decide (x1.2 = 0)) && ((decide (x2.2 = 0)) && ((decide ((wire_Read x3).2 = 0)) && ((x1.1 == [2, 0, 1, 97, 0, 0]) && (((x2.1.length : Int) == 2) && ((((wire_Read x3).1) == 258) && ((id x4.2) == 4)))))))) rfl (eb (andT gd1 (andT gd2 (andF gd3))).symm) ?_
          exact J k' hk'
      · have gd2p := of_decide_eq_false gd2
        refine Go.rx 20 { ws := [(1, { v := some (tb true), er := some (82, x1.2) }), (4, { v := some (tb false), er := some (82, x2.2) })] } [] [0] _ [(0, tb false)] [] hk rfl (by as_aux_lemma => kernel_rfl) (.cons (⟨rfl, rfl⟩ : (er 82 x1.2) = er 82 x1.2 ∧ (.leaf .nilIface : T) = .leaf .nilIface) (.cons (eb gd1) (.cons (⟨rfl, rfl⟩ : (er 82 x2.2) = er 82 x2.2 ∧ (.leaf .nilIface : T) = .leaf .nilIface) (.cons (eb gd2) .nil)))) ?_
        intro k' hk'
        refine Go.slotEq 0 (tb ((decide (x1.2 = 0)) && ((decide (x2.2 = 0)) && ((decide ((wire_Read x3).2 = 0)) && ((x1.1 == [2, 0, 1, 97, 0, 0]) && (((x2.1.length : Int) == 2) && ((((wire_Read x3).1) == 258) && ((id x4.2) == 4)))))))) rfl (eb (andT gd1 (andF gd2)).symm) ?_
        exact J k' hk'
    · have gd1p := of_decide_eq_false gd1
      refine Go.rx 20 { ws := [(1, { v := some (tb false), er := some (82, x1.2) })] } [] [0] _ [(0, tb false)] [] hk rfl (by as_aux_lemma => kernel_rfl) (.cons (⟨rfl, rfl⟩ : (er 82 x1.2) = er 82 x1.2 ∧ (.leaf .nilIface : T) = .leaf .nilIface) (.cons (eb gd1) .nil)) ?_
      intro k' hk'
      refine Go.slotEq 0 (tb ((decide (x1.2 = 0)) && ((decide (x2.2 = 0)) && ((decide ((wire_Read x3).2 = 0)) && ((x1.1 == [2, 0, 1, 97, 0, 0]) && (((x2.1.length : Int) == 2) && ((((wire_Read x3).1) == 258) && ((id x4.2) == 4)))))))) rfl (eb (andF gd1).symm) ?_
      exact J k' hk'
noncomputable def bursarylaw31_WireForms (a0 : List (List UInt8)) (a1 : List UInt8) (a2 : UInt64) : Bool :=
  bnd (bursarylaw31_bigList a0) fun x1 =>
  bif x1 || (decide ((a1.length : Int) > 3000)) then
    bursarylaw31_sure
  else
    bnd (wire_Encode a0) fun x2 =>
    bnd (bursaryref31_Encode a0) fun x3 =>
    bnd (wire_Decode a1) fun x4 =>
    bnd (bursaryref31_Decode a1) fun x5 =>
    bnd (wire_Read a1) fun x6 =>
    bnd (bursaryref31_Read a1) fun x7 =>
    bnd (id x2.2) fun x8 =>
    bnd (bursarylaw31_lists x4.1 x5.1) fun x9 =>
    bnd (id x4.2) fun x10 =>
    bnd (id x6.2) fun x11 =>
    bnd (wire_Number a2) fun x12 =>
    bnd (bursaryref31_Number a2) fun x13 =>
    (x2.1 == x3.1) && ((x8 == x3.2) && (x9 && ((x10 == x5.2) && ((x6.1 == x7.1) && ((x11 == x7.2) && ((x12 == x13) && bursarylaw31_sure))))))
def bursarylaw31_WireForms_enc (x : Bool) : T × List (Nat × List T) := (tb x, [])
theorem bursarylaw31_WireForms_m (a0 : List (List UInt8)) (a1 : List UInt8) (a2 : UInt64) : Meets Tryd.prog 8 [.sl 1 .shr a0.length (b8s .shr a0), .sl 1 .shr a1.length (u8s a1), t64 a2] [] [] (tb (bursarylaw31_WireForms a0 a1 a2)) [] := by
  refine Meets.enterX (E := E) (N := 102) (enc := bursarylaw31_WireForms_enc) (x := (bursarylaw31_WireForms a0 a1 a2)) Tryd.func8 Tryd.call8 rfl rfl ?_
  intro Γ k hk
  refine Go.rx 20 {} [] [0, 1, 2] _ [(0, .sl 1 .shr a0.length (b8s .shr a0)), (1, .sl 1 .shr a1.length (u8s a1)), (2, t64 a2)] [] hk rfl (by as_aux_lemma => kernel_rfl) .nil ?_
  clear hk; intro k hk
  refine Go.regJ 20 [(0, .sl 1 .shr a0.length (b8s .shr a0)), (1, .sl 1 .shr a1.length (u8s a1)), (2, t64 a2), (25, tb ((bursarylaw31_bigList a0) || (decide ((a1.length : Int) > 3000))))] [] hk rfl ?_ ?_
  · clear hk; intro k hk
    refine Go.bnd (Pf := (PostX Γ bursarylaw31_WireForms_enc)) (v := (bursarylaw31_bigList a0)) (fun x1 => [(0, .sl 1 .shr a0.length (b8s .shr a0)), (1, .sl 1 .shr a1.length (u8s a1)), (2, t64 a2), (25, tb (x1 || (decide ((a1.length : Int) > 3000))))]) (fun x1 => []) ?_
    intro x1 hx1
    have fx1 := bigList_fact a0
    rw [← hx1] at fx1
    refine Go.br 20 (Pf := (PostX Γ bursarylaw31_WireForms_enc)) hk rfl rfl ?_ ?_ <;> clear hk <;> intro ct1 k hk
    · refine Go.rx 20 { ws := [(0, { call := some { ids := [], S := [], M := [], R := tb bursarylaw31_sure, H' := [] } })] } [] [6] _ [(6, tb bursarylaw31_sure)] [] hk rfl (by as_aux_lemma => kernel_rfl) (.cons (bursarylaw31_sure_m) (.cons (by first | rfl | (simp only [T.ids, idsL, er_ids, List.append_nil, List.nil_append]; rfl) : subN (idsL []) [] = true) .nil)) ?_
      clear hk; intro k hk
      exact Go.lvx 20 [] _ [tb bursarylaw31_sure] Tryd.func8 hk rfl (by as_aux_lemma => kernel_rfl) .nil (T.Le.of_eq rfl) rfl rfl .nil
    · have ct11 : x1 = false := (Bool.or_eq_false_iff.1 ct1).1
      have ct12 : (decide ((a1.length : Int) > 3000)) = false := (Bool.or_eq_false_iff.1 ct1).2
      have ct12p := of_decide_eq_false ct12
      refine Go.rx 20 { ws := [(1, { call := some { ids := [], S := [], M := [], R := .tup [.sl 1 .shr ((wire_Encode a0).1).length (u8s ((wire_Encode a0).1)), er 82 ((wire_Encode a0).2)], H' := [] } })] } [] [0, 1, 2, 7, 8] _ [(0, .sl 1 .shr a0.length (b8s .shr a0)), (1, .sl 1 .shr a1.length (u8s a1)), (2, t64 a2), (7, .sl 1 .shr ((wire_Encode a0).1).length (u8s ((wire_Encode a0).1))), (8, er 82 ((wire_Encode a0).2))] [] hk rfl (by as_aux_lemma => kernel_rfl) (.cons (wire_Encode_m (g_l := .shr) a0) (.cons (by first | rfl | (simp only [T.ids, idsL, er_ids, List.append_nil, List.nil_append]; rfl) : subN (idsL [.sl 1 .shr a0.length (b8s .shr a0)]) [] = true) .nil)) ?_
      clear hk; intro k hk
      refine Go.bnd (Pf := (PostX Γ bursarylaw31_WireForms_enc)) (v := (wire_Encode a0)) (fun x2 => [(0, .sl 1 .shr a0.length (b8s .shr a0)), (1, .sl 1 .shr a1.length (u8s a1)), (2, t64 a2), (7, .sl 1 .shr x2.1.length (u8s x2.1)), (8, er 82 x2.2)]) (fun x2 => []) ?_
      intro x2 hx2
      have fx2 := encode_fact a0
      rw [← hx2] at fx2
      obtain ⟨fx20, fx21⟩ := fx2
      refine Go.rx 20 { ws := [(1, { call := some { ids := [], S := [], M := [], R := .tup [.sl 1 .shr ((bursaryref31_Encode a0).1).length (u8s ((bursaryref31_Encode a0).1)), ti ((bursaryref31_Encode a0).2)], H' := [] } })] } [] [1, 2, 7, 8, 9, 10] _ [(1, .sl 1 .shr a1.length (u8s a1)), (2, t64 a2), (7, .sl 1 .shr x2.1.length (u8s x2.1)), (8, er 82 x2.2), (9, .sl 1 .shr ((bursaryref31_Encode a0).1).length (u8s ((bursaryref31_Encode a0).1))), (10, ti ((bursaryref31_Encode a0).2))] [] hk rfl (by as_aux_lemma => kernel_rfl) (.cons (bursaryref31_Encode_m (g_l := .shr) a0) (.cons (by first | rfl | (simp only [T.ids, idsL, er_ids, List.append_nil, List.nil_append]; rfl) : subN (idsL [.sl 1 .shr a0.length (b8s .shr a0)]) [] = true) .nil)) ?_
      clear hk; intro k hk
      refine Go.bnd (Pf := (PostX Γ bursarylaw31_WireForms_enc)) (v := (bursaryref31_Encode a0)) (fun x3 => [(1, .sl 1 .shr a1.length (u8s a1)), (2, t64 a2), (7, .sl 1 .shr x2.1.length (u8s x2.1)), (8, er 82 x2.2), (9, .sl 1 .shr x3.1.length (u8s x3.1)), (10, ti x3.2)]) (fun x3 => []) ?_
      intro x3 hx3
      refine Go.rx 20 { ws := [(1, { call := some { ids := [], S := [], M := [], R := .tup [.sl 1 .shr ((wire_Decode a1).1).length (b8s .shr ((wire_Decode a1).1)), er 82 ((wire_Decode a1).2)], H' := [] } })] } [] [1, 2, 7, 8, 9, 10, 11, 12] _ [(1, .sl 1 .shr a1.length (u8s a1)), (2, t64 a2), (7, .sl 1 .shr x2.1.length (u8s x2.1)), (8, er 82 x2.2), (9, .sl 1 .shr x3.1.length (u8s x3.1)), (10, ti x3.2), (11, .sl 1 .shr ((wire_Decode a1).1).length (b8s .shr ((wire_Decode a1).1))), (12, er 82 ((wire_Decode a1).2))] [] hk rfl (by as_aux_lemma => kernel_rfl) (.cons (wire_Decode_m (g_a0 := .shr) a1) (.cons (by first | rfl | (simp only [T.ids, idsL, er_ids, List.append_nil, List.nil_append]; rfl) : subN (idsL [.sl 1 .shr a1.length (u8s a1)]) [] = true) .nil)) ?_
      clear hk; intro k hk
      refine Go.bnd (Pf := (PostX Γ bursarylaw31_WireForms_enc)) (v := (wire_Decode a1)) (fun x4 => [(1, .sl 1 .shr a1.length (u8s a1)), (2, t64 a2), (7, .sl 1 .shr x2.1.length (u8s x2.1)), (8, er 82 x2.2), (9, .sl 1 .shr x3.1.length (u8s x3.1)), (10, ti x3.2), (11, .sl 1 .shr x4.1.length (b8s .shr x4.1)), (12, er 82 x4.2)]) (fun x4 => []) ?_
      intro x4 hx4
      have fx4 := decode_fact a1
      rw [← hx4] at fx4
      obtain ⟨fx40, fx41⟩ := fx4
      refine Go.rx 20 { ws := [(1, { call := some { ids := [], S := [], M := [], R := .tup [.sl 1 .shr ((bursaryref31_Decode a1).1).length (b8s .shr ((bursaryref31_Decode a1).1)), ti ((bursaryref31_Decode a1).2)], H' := [] } })] } [] [1, 2, 7, 8, 9, 10, 11, 12, 13, 14] _ [(1, .sl 1 .shr a1.length (u8s a1)), (2, t64 a2), (7, .sl 1 .shr x2.1.length (u8s x2.1)), (8, er 82 x2.2), (9, .sl 1 .shr x3.1.length (u8s x3.1)), (10, ti x3.2), (11, .sl 1 .shr x4.1.length (b8s .shr x4.1)), (12, er 82 x4.2), (13, .sl 1 .shr ((bursaryref31_Decode a1).1).length (b8s .shr ((bursaryref31_Decode a1).1))), (14, ti ((bursaryref31_Decode a1).2))] [] hk rfl (by as_aux_lemma => kernel_rfl) (.cons (bursaryref31_Decode_m a1) (.cons (by first | rfl | (simp only [T.ids, idsL, er_ids, List.append_nil, List.nil_append]; rfl) : subN (idsL [.sl 1 .shr a1.length (u8s a1)]) [] = true) .nil)) ?_
      clear hk; intro k hk
      refine Go.bnd (Pf := (PostX Γ bursarylaw31_WireForms_enc)) (v := (bursaryref31_Decode a1)) (fun x5 => [(1, .sl 1 .shr a1.length (u8s a1)), (2, t64 a2), (7, .sl 1 .shr x2.1.length (u8s x2.1)), (8, er 82 x2.2), (9, .sl 1 .shr x3.1.length (u8s x3.1)), (10, ti x3.2), (11, .sl 1 .shr x4.1.length (b8s .shr x4.1)), (12, er 82 x4.2), (13, .sl 1 .shr x5.1.length (b8s .shr x5.1)), (14, ti x5.2)]) (fun x5 => []) ?_
      intro x5 hx5
      refine Go.rx 20 { ws := [(1, { call := some { ids := [], S := [], M := [], R := .tup [t64 ((wire_Read a1).1), er 82 ((wire_Read a1).2)], H' := [] } })] } [] [1, 2, 7, 8, 9, 10, 11, 12, 13, 14, 15, 16] _ [(1, .sl 1 .shr a1.length (u8s a1)), (2, t64 a2), (7, .sl 1 .shr x2.1.length (u8s x2.1)), (8, er 82 x2.2), (9, .sl 1 .shr x3.1.length (u8s x3.1)), (10, ti x3.2), (11, .sl 1 .shr x4.1.length (b8s .shr x4.1)), (12, er 82 x4.2), (13, .sl 1 .shr x5.1.length (b8s .shr x5.1)), (14, ti x5.2), (15, t64 ((wire_Read a1).1)), (16, er 82 ((wire_Read a1).2))] [] hk rfl (by as_aux_lemma => kernel_rfl) (.cons (wire_Read_m (g_b := .shr) a1) (.cons (by first | rfl | (simp only [T.ids, idsL, er_ids, List.append_nil, List.nil_append]; rfl) : subN (idsL [.sl 1 .shr a1.length (u8s a1)]) [] = true) .nil)) ?_
      clear hk; intro k hk
      refine Go.bnd (Pf := (PostX Γ bursarylaw31_WireForms_enc)) (v := (wire_Read a1)) (fun x6 => [(1, .sl 1 .shr a1.length (u8s a1)), (2, t64 a2), (7, .sl 1 .shr x2.1.length (u8s x2.1)), (8, er 82 x2.2), (9, .sl 1 .shr x3.1.length (u8s x3.1)), (10, ti x3.2), (11, .sl 1 .shr x4.1.length (b8s .shr x4.1)), (12, er 82 x4.2), (13, .sl 1 .shr x5.1.length (b8s .shr x5.1)), (14, ti x5.2), (15, t64 x6.1), (16, er 82 x6.2)]) (fun x6 => []) ?_
      intro x6 hx6
      refine Go.rx 20 { ws := [(1, { call := some { ids := [], S := [], M := [], R := .tup [t64 ((bursaryref31_Read a1).1), ti ((bursaryref31_Read a1).2)], H' := [] } })] } [] [2, 7, 8, 9, 10, 11, 12, 13, 14, 15, 16, 17, 18] _ [(2, t64 a2), (7, .sl 1 .shr x2.1.length (u8s x2.1)), (8, er 82 x2.2), (9, .sl 1 .shr x3.1.length (u8s x3.1)), (10, ti x3.2), (11, .sl 1 .shr x4.1.length (b8s .shr x4.1)), (12, er 82 x4.2), (13, .sl 1 .shr x5.1.length (b8s .shr x5.1)), (14, ti x5.2), (15, t64 x6.1), (16, er 82 x6.2), (17, t64 ((bursaryref31_Read a1).1)), (18, ti ((bursaryref31_Read a1).2))] [] hk rfl (by as_aux_lemma => kernel_rfl) (.cons (bursaryref31_Read_m (g_b := .shr) a1) (.cons (by first | rfl | (simp only [T.ids, idsL, er_ids, List.append_nil, List.nil_append]; rfl) : subN (idsL [.sl 1 .shr a1.length (u8s a1)]) [] = true) .nil)) ?_
      clear hk; intro k hk
      refine Go.bnd (Pf := (PostX Γ bursarylaw31_WireForms_enc)) (v := (bursaryref31_Read a1)) (fun x7 => [(2, t64 a2), (7, .sl 1 .shr x2.1.length (u8s x2.1)), (8, er 82 x2.2), (9, .sl 1 .shr x3.1.length (u8s x3.1)), (10, ti x3.2), (11, .sl 1 .shr x4.1.length (b8s .shr x4.1)), (12, er 82 x4.2), (13, .sl 1 .shr x5.1.length (b8s .shr x5.1)), (14, ti x5.2), (15, t64 x6.1), (16, er 82 x6.2), (17, t64 x7.1), (18, ti x7.2)]) (fun x7 => []) ?_
      intro x7 hx7
      refine Go.regJ 20 [(6, tb ((x2.1 == x3.1) && (((id x2.2) == x3.2) && ((bursarylaw31_lists x4.1 x5.1) && (((id x4.2) == x5.2) && ((x6.1 == x7.1) && (((id x6.2) == x7.2) && (((wire_Number a2) == (bursaryref31_Number a2)) && bursarylaw31_sure))))))))] [] hk rfl ?_ ?_
      · clear hk; intro k hk
        refine Go.bnd (Pf := (PostX Γ bursarylaw31_WireForms_enc)) (v := (id x2.2)) (fun x8 => [(6, tb ((x2.1 == x3.1) && ((x8 == x3.2) && ((bursarylaw31_lists x4.1 x5.1) && (((id x4.2) == x5.2) && ((x6.1 == x7.1) && (((id x6.2) == x7.2) && (((wire_Number a2) == (bursaryref31_Number a2)) && bursarylaw31_sure))))))))]) (fun x8 => []) ?_
        intro x8 hx8
        refine Go.bnd (Pf := (PostX Γ bursarylaw31_WireForms_enc)) (v := (bursarylaw31_lists x4.1 x5.1)) (fun x9 => [(6, tb ((x2.1 == x3.1) && ((x8 == x3.2) && (x9 && (((id x4.2) == x5.2) && ((x6.1 == x7.1) && (((id x6.2) == x7.2) && (((wire_Number a2) == (bursaryref31_Number a2)) && bursarylaw31_sure))))))))]) (fun x9 => []) ?_
        intro x9 hx9
        refine Go.bnd (Pf := (PostX Γ bursarylaw31_WireForms_enc)) (v := (id x4.2)) (fun x10 => [(6, tb ((x2.1 == x3.1) && ((x8 == x3.2) && (x9 && ((x10 == x5.2) && ((x6.1 == x7.1) && (((id x6.2) == x7.2) && (((wire_Number a2) == (bursaryref31_Number a2)) && bursarylaw31_sure))))))))]) (fun x10 => []) ?_
        intro x10 hx10
        refine Go.bnd (Pf := (PostX Γ bursarylaw31_WireForms_enc)) (v := (id x6.2)) (fun x11 => [(6, tb ((x2.1 == x3.1) && ((x8 == x3.2) && (x9 && ((x10 == x5.2) && ((x6.1 == x7.1) && ((x11 == x7.2) && (((wire_Number a2) == (bursaryref31_Number a2)) && bursarylaw31_sure))))))))]) (fun x11 => []) ?_
        intro x11 hx11
        refine Go.bnd (Pf := (PostX Γ bursarylaw31_WireForms_enc)) (v := (wire_Number a2)) (fun x12 => [(6, tb ((x2.1 == x3.1) && ((x8 == x3.2) && (x9 && ((x10 == x5.2) && ((x6.1 == x7.1) && ((x11 == x7.2) && ((x12 == (bursaryref31_Number a2)) && bursarylaw31_sure))))))))]) (fun x12 => []) ?_
        intro x12 hx12
        have fx12 := number_fact a2
        rw [← hx12] at fx12
        refine Go.bnd (Pf := (PostX Γ bursarylaw31_WireForms_enc)) (v := (bursaryref31_Number a2)) (fun x13 => [(6, tb ((x2.1 == x3.1) && ((x8 == x3.2) && (x9 && ((x10 == x5.2) && ((x6.1 == x7.1) && ((x11 == x7.2) && ((x12 == x13) && bursarylaw31_sure))))))))]) (fun x13 => []) ?_
        intro x13 hx13
        exact Go.lvx 20 [] _ [tb ((x2.1 == x3.1) && ((x8 == x3.2) && (x9 && ((x10 == x5.2) && ((x6.1 == x7.1) && ((x11 == x7.2) && ((x12 == x13) && bursarylaw31_sure)))))))] Tryd.func8 hk rfl (by as_aux_lemma => kernel_rfl) .nil (T.Le.of_eq rfl) rfl rfl .nil
      · intro hk J
        rcases Bool.eq_false_or_eq_true (x2.1 == x3.1) with gd2 | gd2
        · rcases Bool.eq_false_or_eq_true ((id x2.2) == x3.2) with gd3 | gd3
          · have gd3p := eqIt gd3
            rcases Bool.eq_false_or_eq_true (bursarylaw31_lists x4.1 x5.1) with gd4 | gd4
            · rcases Bool.eq_false_or_eq_true ((id x4.2) == x5.2) with gd5 | gd5
              · have gd5p := eqIt gd5
                rcases Bool.eq_false_or_eq_true (x6.1 == x7.1) with gd6 | gd6
                · rcases Bool.eq_false_or_eq_true ((id x6.2) == x7.2) with gd7 | gd7
                  · have gd7p := eqIt gd7
                    rcases Bool.eq_false_or_eq_true ((wire_Number a2) == (bursaryref31_Number a2)) with gd8 | gd8
                    · refine Go.dx 20 [0, 1, 2, 3, 4, 5, 6, 7, 8, 9, 10, 11, 12, 13, 14, 15, 16, 17, 18, 19, 20, 21, 22, 23, 24, 25, 26, 27, 28, 29, 30, 31, 32, 33, 34, 35, 36, 37, 38, 39, 40, 41, 42, 43, 44, 45] { ws := [(1, { b := x2.1 }), (3, { b := x3.1 }), (4, { v := some (tb true) }), (7, { call := some { ids := [], S := [], M := [], R := ti (id x2.2), H' := [] } }), (9, { v := some (tb true) }), (14, { v := some (tb true), call := some { ids := [], S := [], M := [], R := tb (bursarylaw31_lists x4.1 x5.1), H' := [] } }), (18, { call := some { ids := [], S := [], M := [], R := ti (id x4.2), H' := [] } }), (20, { v := some (tb true) }), (25, { v := some (tb true) }), (29, { call := some { ids := [], S := [], M := [], R := ti (id x6.2), H' := [] } }), (31, { v := some (tb true) }), (35, { call := some { ids := [], S := [], M := [], R := .sl 1 .shr (wire_Number a2).length (u8s (wire_Number a2)), H' := [] } }), (36, { b := (wire_Number a2) }), (38, { call := some { ids := [], S := [], M := [], R := .sl 1 .shr (bursaryref31_Number a2).length (u8s (bursaryref31_Number a2)), H' := [] } }), (39, { b := (bursaryref31_Number a2) }), (40, { v := some (tb true) }), (43, { call := some { ids := [], S := [], M := [], R := tb bursarylaw31_sure, H' := [] } })] } [] [6] _ [(6, tb bursarylaw31_sure)] [] hk rfl (by as_aux_lemma => kernel_rfl) (.cons (rfl : u8s x2.1 = u8s x2.1) (.cons (rfl : u8s x3.1 = u8s x3.1) (.cons trivial (.cons ((s_eq x2.1 x3.1).trans (eb gd2)) (.cons (bursarylaw31_num_m x2.2) (.cons (by first | rfl | (simp only [T.ids, idsL, er_ids, List.append_nil, List.nil_append]; rfl) : subN (idsL [er 82 x2.2]) [] = true) (.cons trivial (.cons (eb gd3) (.cons (bursarylaw31_lists_m (g_a := .shr) (g_b := .shr) x4.1 x5.1 (by first | omega | (simp <;> omega) | (simp at * <;> omega) | (split <;> omega) | (split <;> (first | omega | (simp <;> omega) | (simp at * <;> omega))))) (.cons (by first | rfl | (simp only [T.ids, idsL, er_ids, List.append_nil, List.nil_append]; rfl) : subN (idsL [.sl 1 .shr x4.1.length (b8s .shr x4.1), .sl 1 .shr x5.1.length (b8s .shr x5.1)]) [] = true) (.cons (eb gd4) (.cons (bursarylaw31_num_m x4.2) (.cons (by first | rfl | (simp only [T.ids, idsL, er_ids, List.append_nil, List.nil_append]; rfl) : subN (idsL [er 82 x4.2]) [] = true) (.cons trivial (.cons (eb gd5) (.cons trivial (.cons ((eqB64 x6.1 x7.1).trans (eb gd6)) (.cons (bursarylaw31_num_m x6.2) (.cons (by first | rfl | (simp only [T.ids, idsL, er_ids, List.append_nil, List.nil_append]; rfl) : subN (idsL [er 82 x6.2]) [] = true) (.cons trivial (.cons (eb gd7) (.cons (wire_Number_m a2) (.cons (by first | rfl | (simp only [T.ids, idsL, er_ids, List.append_nil, List.nil_append]; rfl) : subN (idsL [t64 a2]) [] = true) (.cons (rfl : u8s (wire_Number a2) = u8s (wire_Number a2)) (.cons (bursaryref31_Number_m a2) (.cons (by first | rfl | (simp only [T.ids, idsL, er_ids, List.append_nil, List.nil_append]; rfl) : subN (idsL [t64 a2]) [] = true) (.cons (rfl : u8s (bursaryref31_Number a2) = u8s (bursaryref31_Number a2)) (.cons trivial (.cons ((s_eq (wire_Number a2) (bursaryref31_Number a2)).trans (eb gd8)) (.cons (bursarylaw31_sure_m) (.cons (by first | rfl | (simp only [T.ids, idsL, er_ids, List.append_nil, List.nil_append]; rfl) : subN (idsL []) [] = true) .nil))))))))))))))))))))))))))))))) ?_
                      intro k' hk'
                      refine Go.slotEq 6 (tb ((x2.1 == x3.1) && (((id x2.2) == x3.2) && ((bursarylaw31_lists x4.1 x5.1) && (((id x4.2) == x5.2) && ((x6.1 == x7.1) && (((id x6.2) == x7.2) && (((wire_Number a2) == (bursaryref31_Number a2)) && bursarylaw31_sure)))))))) rfl (eb (andT gd2 (andT gd3 (andT gd4 (andT gd5 (andT gd6 (andT gd7 (andT gd8 rfl))))))).symm) ?_
                      exact J k' hk'
                    · refine Go.dx 20 [0, 1, 2, 3, 4, 5, 6, 7, 8, 9, 10, 11, 12, 13, 14, 15, 16, 17, 18, 19, 20, 21, 22, 23, 24, 25, 26, 27, 28, 29, 30, 31, 32, 33, 34, 35, 36, 37, 38, 39, 40, 41, 42, 43, 44, 45] { ws := [(1, { b := x2.1 }), (3, { b := x3.1 }), (4, { v := some (tb true) }), (7, { call := some { ids := [], S := [], M := [], R := ti (id x2.2), H' := [] } }), (9, { v := some (tb true) }), (14, { v := some (tb true), call := some { ids := [], S := [], M := [], R := tb (bursarylaw31_lists x4.1 x5.1), H' := [] } }), (18, { call := some { ids := [], S := [], M := [], R := ti (id x4.2), H' := [] } }), (20, { v := some (tb true) }), (25, { v := some (tb true) }), (29, { call := some { ids := [], S := [], M := [], R := ti (id x6.2), H' := [] } }), (31, { v := some (tb true) }), (35, { call := some { ids := [], S := [], M := [], R := .sl 1 .shr (wire_Number a2).length (u8s (wire_Number a2)), H' := [] } }), (36, { b := (wire_Number a2) }), (38, { call := some { ids := [], S := [], M := [], R := .sl 1 .shr (bursaryref31_Number a2).length (u8s (bursaryref31_Number a2)), H' := [] } }), (39, { b := (bursaryref31_Number a2) }), (40, { v := some (tb false) })] } [] [6] _ [(6, tb false)] [] hk rfl (by as_aux_lemma => kernel_rfl) (.cons (rfl : u8s x2.1 = u8s x2.1) (.cons (rfl : u8s x3.1 = u8s x3.1) (.cons trivial (.cons ((s_eq x2.1 x3.1).trans (eb gd2)) (.cons (bursarylaw31_num_m x2.2) (.cons (by first | rfl | (simp only [T.ids, idsL, er_ids, List.append_nil, List.nil_append]; rfl) : subN (idsL [er 82 x2.2]) [] = true) (.cons trivial (.cons (eb gd3) (.cons (bursarylaw31_lists_m (g_a := .shr) (g_b := .shr) x4.1 x5.1 (by first | omega | (simp <;> omega) | (simp at * <;> omega) | (split <;> omega) | (split <;> (first | omega | (simp <;> omega) | (simp at * <;> omega))))) (.cons (by first | rfl | (simp only [T.ids, idsL, er_ids, List.append_nil, List.nil_append]; rfl) : subN (idsL [.sl 1 .shr x4.1.length (b8s .shr x4.1), .sl 1 .shr x5.1.length (b8s .shr x5.1)]) [] = true) (.cons (eb gd4) (.cons (bursarylaw31_num_m x4.2) (.cons (by first | rfl | (simp only [T.ids, idsL, er_ids, List.append_nil, List.nil_append]; rfl) : subN (idsL [er 82 x4.2]) [] = true) (.cons trivial (.cons (eb gd5) (.cons trivial (.cons ((eqB64 x6.1 x7.1).trans (eb gd6)) (.cons (bursarylaw31_num_m x6.2) (.cons (by first | rfl | (simp only [T.ids, idsL, er_ids, List.append_nil, List.nil_append]; rfl) : subN (idsL [er 82 x6.2]) [] = true) (.cons trivial (.cons (eb gd7) (.cons (wire_Number_m a2) (.cons (by first | rfl | (simp only [T.ids, idsL, er_ids, List.append_nil, List.nil_append]; rfl) : subN (idsL [t64 a2]) [] = true) (.cons (rfl : u8s (wire_Number a2) = u8s (wire_Number a2)) (.cons (bursaryref31_Number_m a2) (.cons (by first | rfl | (simp only [T.ids, idsL, er_ids, List.append_nil, List.nil_append]; rfl) : subN (idsL [t64 a2]) [] = true) (.cons (rfl : u8s (bursaryref31_Number a2) = u8s (bursaryref31_Number a2)) (.cons trivial (.cons ((s_eq (wire_Number a2) (bursaryref31_Number a2)).trans (eb gd8)) .nil))))))))))))))))))))))))))))) ?_
                      intro k' hk'
                      refine Go.slotEq 6 (tb ((x2.1 == x3.1) && (((id x2.2) == x3.2) && ((bursarylaw31_lists x4.1 x5.1) && (((id x4.2) == x5.2) && ((x6.1 == x7.1) && (((id x6.2) == x7.2) && (((wire_Number a2) == (bursaryref31_Number a2)) && bursarylaw31_sure)))))))) rfl (eb (andT gd2 (andT gd3 (andT gd4 (andT gd5 (andT gd6 (andT gd7 (andF gd8))))))).symm) ?_
                      exact J k' hk'
                  · have gd7p := eqIf gd7
                    refine Go.dx 20 [0, 1, 2, 3, 4, 5, 6, 7, 8, 9, 10, 11, 12, 13, 14, 15, 16, 17, 18, 19, 20, 21, 22, 23, 24, 25, 26, 27, 28, 29, 30, 31, 32, 33, 34, 35, 36, 37, 38, 39, 40, 41, 42, 43, 44, 45] { ws := [(1, { b := x2.1 }), (3, { b := x3.1 }), (4, { v := some (tb true) }), (7, { call := some { ids := [], S := [], M := [], R := ti (id x2.2), H' := [] } }), (9, { v := some (tb true) }), (14, { v := some (tb true), call := some { ids := [], S := [], M := [], R := tb (bursarylaw31_lists x4.1 x5.1), H' := [] } }), (18, { call := some { ids := [], S := [], M := [], R := ti (id x4.2), H' := [] } }), (20, { v := some (tb true) }), (25, { v := some (tb true) }), (29, { call := some { ids := [], S := [], M := [], R := ti (id x6.2), H' := [] } }), (31, { v := some (tb false) })] } [] [6] _ [(6, tb false)] [] hk rfl (by as_aux_lemma => kernel_rfl) (.cons (rfl : u8s x2.1 = u8s x2.1) (.cons (rfl : u8s x3.1 = u8s x3.1) (.cons trivial (.cons ((s_eq x2.1 x3.1).trans (eb gd2)) (.cons (bursarylaw31_num_m x2.2) (.cons (by first | rfl | (simp only [T.ids, idsL, er_ids, List.append_nil, List.nil_append]; rfl) : subN (idsL [er 82 x2.2]) [] = true) (.cons trivial (.cons (eb gd3) (.cons (bursarylaw31_lists_m (g_a := .shr) (g_b := .shr) x4.1 x5.1 (by first | omega | (simp <;> omega) | (simp at * <;> omega) | (split <;> omega) | (split <;> (first | omega | (simp <;> omega) | (simp at * <;> omega))))) (.cons (by first | rfl | (simp only [T.ids, idsL, er_ids, List.append_nil, List.nil_append]; rfl) : subN (idsL [.sl 1 .shr x4.1.length (b8s .shr x4.1), .sl 1 .shr x5.1.length (b8s .shr x5.1)]) [] = true) (.cons (eb gd4) (.cons (bursarylaw31_num_m x4.2) (.cons (by first | rfl | (simp only [T.ids, idsL, er_ids, List.append_nil, List.nil_append]; rfl) : subN (idsL [er 82 x4.2]) [] = true) (.cons trivial (.cons (eb gd5) (.cons trivial (.cons ((eqB64 x6.1 x7.1).trans (eb gd6)) (.cons (bursarylaw31_num_m x6.2) (.cons (by first | rfl | (simp only [T.ids, idsL, er_ids, List.append_nil, List.nil_append]; rfl) : subN (idsL [er 82 x6.2]) [] = true) (.cons trivial (.cons (eb gd7) .nil))))))))))))))))))))) ?_
                    intro k' hk'
                    refine Go.slotEq 6 (tb ((x2.1 == x3.1) && (((id x2.2) == x3.2) && ((bursarylaw31_lists x4.1 x5.1) && (((id x4.2) == x5.2) && ((x6.1 == x7.1) && (((id x6.2) == x7.2) && (((wire_Number a2) == (bursaryref31_Number a2)) && bursarylaw31_sure)))))))) rfl (eb (andT gd2 (andT gd3 (andT gd4 (andT gd5 (andT gd6 (andF gd7)))))).symm) ?_
                    exact J k' hk'
                · refine Go.dx 20 [0, 1, 2, 3, 4, 5, 6, 7, 8, 9, 10, 11, 12, 13, 14, 15, 16, 17, 18, 19, 20, 21, 22, 23, 24, 25, 26, 27, 28, 29, 30, 31, 32, 33, 34, 35, 36, 37, 38, 39, 40, 41, 42, 43, 44, 45] { ws := [(1, { b := x2.1 }), (3, { b := x3.1 }), (4, { v := some (tb true) }), (7, { call := some { ids := [], S := [], M := [], R := ti (id x2.2), H' := [] } }), (9, { v := some (tb true) }), (14, { v := some (tb true), call := some { ids := [], S := [], M := [], R := tb (bursarylaw31_lists x4.1 x5.1), H' := [] } }), (18, { call := some { ids := [], S := [], M := [], R := ti (id x4.2), H' := [] } }), (20, { v := some (tb true) }), (25, { v := some (tb false) })] } [] [6] _ [(6, tb false)] [] hk rfl (by as_aux_lemma => kernel_rfl) (.cons (rfl : u8s x2.1 = u8s x2.1) (.cons (rfl : u8s x3.1 = u8s x3.1) (.cons trivial (.cons ((s_eq x2.1 x3.1).trans (eb gd2)) (.cons (bursarylaw31_num_m x2.2) (.cons (by first | rfl | (simp only [T.ids, idsL, er_ids, List.append_nil, List.nil_append]; rfl) : subN (idsL [er 82 x2.2]) [] = true) (.cons trivial (.cons (eb gd3) (.cons (bursarylaw31_lists_m (g_a := .shr) (g_b := .shr) x4.1 x5.1 (by first | omega | (simp <;> omega) | (simp at * <;> omega) | (split <;> omega) | (split <;> (first | omega | (simp <;> omega) | (simp at * <;> omega))))) (.cons (by first | rfl | (simp only [T.ids, idsL, er_ids, List.append_nil, List.nil_append]; rfl) : subN (idsL [.sl 1 .shr x4.1.length (b8s .shr x4.1), .sl 1 .shr x5.1.length (b8s .shr x5.1)]) [] = true) (.cons (eb gd4) (.cons (bursarylaw31_num_m x4.2) (.cons (by first | rfl | (simp only [T.ids, idsL, er_ids, List.append_nil, List.nil_append]; rfl) : subN (idsL [er 82 x4.2]) [] = true) (.cons trivial (.cons (eb gd5) (.cons trivial (.cons ((eqB64 x6.1 x7.1).trans (eb gd6)) .nil))))))))))))))))) ?_
                  intro k' hk'
                  refine Go.slotEq 6 (tb ((x2.1 == x3.1) && (((id x2.2) == x3.2) && ((bursarylaw31_lists x4.1 x5.1) && (((id x4.2) == x5.2) && ((x6.1 == x7.1) && (((id x6.2) == x7.2) && (((wire_Number a2) == (bursaryref31_Number a2)) && bursarylaw31_sure)))))))) rfl (eb (andT gd2 (andT gd3 (andT gd4 (andT gd5 (andF gd6))))).symm) ?_
                  exact J k' hk'
              · have gd5p := eqIf gd5
                refine Go.dx 20 [0, 1, 2, 3, 4, 5, 6, 7, 8, 9, 10, 11, 12, 13, 14, 15, 16, 17, 18, 19, 20, 21, 22, 23, 24, 25, 26, 27, 28, 29, 30, 31, 32, 33, 34, 35, 36, 37, 38, 39, 40, 41, 42, 43, 44, 45] { ws := [(1, { b := x2.1 }), (3, { b := x3.1 }), (4, { v := some (tb true) }), (7, { call := some { ids := [], S := [], M := [], R := ti (id x2.2), H' := [] } }), (9, { v := some (tb true) }), (14, { v := some (tb true), call := some { ids := [], S := [], M := [], R := tb (bursarylaw31_lists x4.1 x5.1), H' := [] } }), (18, { call := some { ids := [], S := [], M := [], R := ti (id x4.2), H' := [] } }), (20, { v := some (tb false) })] } [] [6] _ [(6, tb false)] [] hk rfl (by as_aux_lemma => kernel_rfl) (.cons (rfl : u8s x2.1 = u8s x2.1) (.cons (rfl : u8s x3.1 = u8s x3.1) (.cons trivial (.cons ((s_eq x2.1 x3.1).trans (eb gd2)) (.cons (bursarylaw31_num_m x2.2) (.cons (by first | rfl | (simp only [T.ids, idsL, er_ids, List.append_nil, List.nil_append]; rfl) : subN (idsL [er 82 x2.2]) [] = true) (.cons trivial (.cons (eb gd3) (.cons (bursarylaw31_lists_m (g_a := .shr) (g_b := .shr) x4.1 x5.1 (by first | omega | (simp <;> omega) | (simp at * <;> omega) | (split <;> omega) | (split <;> (first | omega | (simp <;> omega) | (simp at * <;> omega))))) (.cons (by first | rfl | (simp only [T.ids, idsL, er_ids, List.append_nil, List.nil_append]; rfl) : subN (idsL [.sl 1 .shr x4.1.length (b8s .shr x4.1), .sl 1 .shr x5.1.length (b8s .shr x5.1)]) [] = true) (.cons (eb gd4) (.cons (bursarylaw31_num_m x4.2) (.cons (by first | rfl | (simp only [T.ids, idsL, er_ids, List.append_nil, List.nil_append]; rfl) : subN (idsL [er 82 x4.2]) [] = true) (.cons trivial (.cons (eb gd5) .nil))))))))))))))) ?_
                intro k' hk'
                refine Go.slotEq 6 (tb ((x2.1 == x3.1) && (((id x2.2) == x3.2) && ((bursarylaw31_lists x4.1 x5.1) && (((id x4.2) == x5.2) && ((x6.1 == x7.1) && (((id x6.2) == x7.2) && (((wire_Number a2) == (bursaryref31_Number a2)) && bursarylaw31_sure)))))))) rfl (eb (andT gd2 (andT gd3 (andT gd4 (andF gd5)))).symm) ?_
                exact J k' hk'
            · refine Go.dx 20 [0, 1, 2, 3, 4, 5, 6, 7, 8, 9, 10, 11, 12, 13, 14, 15, 16, 17, 18, 19, 20, 21, 22, 23, 24, 25, 26, 27, 28, 29, 30, 31, 32, 33, 34, 35, 36, 37, 38, 39, 40, 41, 42, 43, 44, 45] { ws := [(1, { b := x2.1 }), (3, { b := x3.1 }), (4, { v := some (tb true) }), (7, { call := some { ids := [], S := [], M := [], R := ti (id x2.2), H' := [] } }), (9, { v := some (tb true) }), (14, { v := some (tb false), call := some { ids := [], S := [], M := [], R := tb (bursarylaw31_lists x4.1 x5.1), H' := [] } })] } [] [6] _ [(6, tb false)] [] hk rfl (by as_aux_lemma => kernel_rfl) (.cons (rfl : u8s x2.1 = u8s x2.1) (.cons (rfl : u8s x3.1 = u8s x3.1) (.cons trivial (.cons ((s_eq x2.1 x3.1).trans (eb gd2)) (.cons (bursarylaw31_num_m x2.2) (.cons (by first | rfl | (simp only [T.ids, idsL, er_ids, List.append_nil, List.nil_append]; rfl) : subN (idsL [er 82 x2.2]) [] = true) (.cons trivial (.cons (eb gd3) (.cons (bursarylaw31_lists_m (g_a := .shr) (g_b := .shr) x4.1 x5.1 (by first | omega | (simp <;> omega) | (simp at * <;> omega) | (split <;> omega) | (split <;> (first | omega | (simp <;> omega) | (simp at * <;> omega))))) (.cons (by first | rfl | (simp only [T.ids, idsL, er_ids, List.append_nil, List.nil_append]; rfl) : subN (idsL [.sl 1 .shr x4.1.length (b8s .shr x4.1), .sl 1 .shr x5.1.length (b8s .shr x5.1)]) [] = true) (.cons (eb gd4) .nil))))))))))) ?_
              intro k' hk'
              refine Go.slotEq 6 (tb ((x2.1 == x3.1) && (((id x2.2) == x3.2) && ((bursarylaw31_lists x4.1 x5.1) && (((id x4.2) == x5.2) && ((x6.1 == x7.1) && (((id x6.2) == x7.2) && (((wire_Number a2) == (bursaryref31_Number a2)) && bursarylaw31_sure)))))))) rfl (eb (andT gd2 (andT gd3 (andF gd4))).symm) ?_
              exact J k' hk'
          · have gd3p := eqIf gd3
            refine Go.dx 20 [0, 1, 2, 3, 4, 5, 6, 7, 8, 9, 10, 11, 12, 13, 14, 15, 16, 17, 18, 19, 20, 21, 22, 23, 24, 25, 26, 27, 28, 29, 30, 31, 32, 33, 34, 35, 36, 37, 38, 39, 40, 41, 42, 43, 44, 45] { ws := [(1, { b := x2.1 }), (3, { b := x3.1 }), (4, { v := some (tb true) }), (7, { call := some { ids := [], S := [], M := [], R := ti (id x2.2), H' := [] } }), (9, { v := some (tb false) })] } [] [6] _ [(6, tb false)] [] hk rfl (by as_aux_lemma => kernel_rfl) (.cons (rfl : u8s x2.1 = u8s x2.1) (.cons (rfl : u8s x3.1 = u8s x3.1) (.cons trivial (.cons ((s_eq x2.1 x3.1).trans (eb gd2)) (.cons (bursarylaw31_num_m x2.2) (.cons (by first | rfl | (simp only [T.ids, idsL, er_ids, List.append_nil, List.nil_append]; rfl) : subN (idsL [er 82 x2.2]) [] = true) (.cons trivial (.cons (eb gd3) .nil)))))))) ?_
            intro k' hk'
            refine Go.slotEq 6 (tb ((x2.1 == x3.1) && (((id x2.2) == x3.2) && ((bursarylaw31_lists x4.1 x5.1) && (((id x4.2) == x5.2) && ((x6.1 == x7.1) && (((id x6.2) == x7.2) && (((wire_Number a2) == (bursaryref31_Number a2)) && bursarylaw31_sure)))))))) rfl (eb (andT gd2 (andF gd3)).symm) ?_
            exact J k' hk'
        · refine Go.dx 20 [0, 1, 2, 3, 4, 5, 6, 7, 8, 9, 10, 11, 12, 13, 14, 15, 16, 17, 18, 19, 20, 21, 22, 23, 24, 25, 26, 27, 28, 29, 30, 31, 32, 33, 34, 35, 36, 37, 38, 39, 40, 41, 42, 43, 44, 45] { ws := [(1, { b := x2.1 }), (3, { b := x3.1 }), (4, { v := some (tb false) })] } [] [6] _ [(6, tb false)] [] hk rfl (by as_aux_lemma => kernel_rfl) (.cons (rfl : u8s x2.1 = u8s x2.1) (.cons (rfl : u8s x3.1 = u8s x3.1) (.cons trivial (.cons ((s_eq x2.1 x3.1).trans (eb gd2)) .nil)))) ?_
          intro k' hk'
          refine Go.slotEq 6 (tb ((x2.1 == x3.1) && (((id x2.2) == x3.2) && ((bursarylaw31_lists x4.1 x5.1) && (((id x4.2) == x5.2) && ((x6.1 == x7.1) && (((id x6.2) == x7.2) && (((wire_Number a2) == (bursaryref31_Number a2)) && bursarylaw31_sure)))))))) rfl (eb (andF gd2).symm) ?_
          exact J k' hk'
  · intro hk J
    rcases Bool.eq_false_or_eq_true (bursarylaw31_bigList a0) with gd1 | gd1
    · refine Go.rx 20 { ws := [(1, { v := some (tb true), call := some { ids := [], S := [], M := [], R := tb (bursarylaw31_bigList a0), H' := [] } })] } [] [0, 1, 2, 25] _ [(0, .sl 1 .shr a0.length (b8s .shr a0)), (1, .sl 1 .shr a1.length (u8s a1)), (2, t64 a2), (25, tb true)] [] hk rfl (by as_aux_lemma => kernel_rfl) (.cons (bursarylaw31_bigList_m (g_l := .shr) a0) (.cons (by first | rfl | (simp only [T.ids, idsL, er_ids, List.append_nil, List.nil_append]; rfl) : subN (idsL [.sl 1 .shr a0.length (b8s .shr a0)]) [] = true) (.cons (eb gd1) .nil))) ?_
      intro k' hk'
      refine Go.slotEq 25 (tb ((bursarylaw31_bigList a0) || (decide ((a1.length : Int) > 3000)))) rfl (eb (orT gd1).symm) ?_
      exact J k' hk'
    · refine Go.rx 20 { ws := [(1, { v := some (tb false), call := some { ids := [], S := [], M := [], R := tb (bursarylaw31_bigList a0), H' := [] } })] } [] [0, 1, 2, 25] _ [(0, .sl 1 .shr a0.length (b8s .shr a0)), (1, .sl 1 .shr a1.length (u8s a1)), (2, t64 a2), (25, tb (decide ((a1.length : Int) > 3000)))] [] hk rfl (by as_aux_lemma => kernel_rfl) (.cons (bursarylaw31_bigList_m (g_l := .shr) a0) (.cons (by first | rfl | (simp only [T.ids, idsL, er_ids, List.append_nil, List.nil_append]; rfl) : subN (idsL [.sl 1 .shr a0.length (b8s .shr a0)]) [] = true) (.cons (eb gd1) (.cons trivial .nil)))) ?_
      intro k' hk'
      refine Go.slotEq 25 (tb ((bursarylaw31_bigList a0) || (decide ((a1.length : Int) > 3000)))) rfl (eb (orF gd1 rfl).symm) ?_
      exact J k' hk'
noncomputable def bursarylaw31_WireBack (a0 : List (List UInt8)) (a1 : List UInt8) (a2 : UInt64) : Bool :=
  bnd (bursarylaw31_bigList a0) fun x1 =>
  bif x1 || (decide ((a1.length : Int) > 3000)) then
    bursarylaw31_sure
  else
    bnd (wire_Number a2) fun x2 =>
    bnd (wire_Number a2) fun x3 =>
    bif (!(decide ((wire_Read x2).2 = 0))) || ((((wire_Read x2).1) != a2) || ((x3.length : Int) != 8)) then
      false
    else
      bnd (wire_Encode a0) fun x4 =>
      bif (decide (x4.2 = 0)) && ((x4.1.length : Int) == 0) then
        false
      else
        bif decide (x4.2 = 0) then
          bnd (wire_Decode x4.1) fun x5 =>
          bnd (wire_Decode (slc x4.1 0 ((a2 % (u64i (x4.1.length : Int))).toNat : Int))) fun x6 =>
          bnd (bursarylaw31_lists x5.1 a0) fun x7 =>
          bnd (id x6.2) fun x8 =>
          bif (!(decide (x5.2 = 0))) || ((!x7) || (x8 != 4)) then
            false
          else
            bif decide ((x4.1.length : Int) < 1024) then
              bnd (wire_Decode ([] ++ x4.1 ++ [0])) fun x9 =>
              bnd (id x9.2) fun x10 =>
              bif x10 != 4 then
                false
              else
                bnd (wire_Decode a1) fun x11 =>
                bif !(decide (x11.2 = 0)) then
                  ((x11.1.length : Int) == 0) && bursarylaw31_sure
                else
                  bnd (wire_Encode x11.1) fun x12 =>
                  (decide (x12.2 = 0)) && ((x12.1 == a1) && bursarylaw31_sure)
            else
              bnd (wire_Decode a1) fun x13 =>
              bif !(decide (x13.2 = 0)) then
                ((x13.1.length : Int) == 0) && bursarylaw31_sure
              else
                bnd (wire_Encode x13.1) fun x14 =>
                (decide (x14.2 = 0)) && ((x14.1 == a1) && bursarylaw31_sure)
        else
          bnd (wire_Decode a1) fun x15 =>
          bif !(decide (x15.2 = 0)) then
            ((x15.1.length : Int) == 0) && bursarylaw31_sure
          else
            bnd (wire_Encode x15.1) fun x16 =>
            (decide (x16.2 = 0)) && ((x16.1 == a1) && bursarylaw31_sure)
def bursarylaw31_WireBack_enc (x : Bool) : T × List (Nat × List T) := (tb x, [])
theorem bursarylaw31_WireBack_m (a0 : List (List UInt8)) (a1 : List UInt8) (a2 : UInt64) : Meets Tryd.prog 9 [.sl 1 .shr a0.length (b8s .shr a0), .sl 1 .shr a1.length (u8s a1), t64 a2] [] [] (tb (bursarylaw31_WireBack a0 a1 a2)) [] := by
  refine Meets.enterX (E := E) (N := 137) (enc := bursarylaw31_WireBack_enc) (x := (bursarylaw31_WireBack a0 a1 a2)) Tryd.func9 Tryd.call9 rfl rfl ?_
  intro Γ k hk
  refine Go.rx 20 {} [] [0, 1, 2] _ [(0, .sl 1 .shr a0.length (b8s .shr a0)), (1, .sl 1 .shr a1.length (u8s a1)), (2, t64 a2)] [] hk rfl (by as_aux_lemma => kernel_rfl) .nil ?_
  clear hk; intro k hk
  refine Go.regJ 20 [(0, .sl 1 .shr a0.length (b8s .shr a0)), (1, .sl 1 .shr a1.length (u8s a1)), (2, t64 a2), (27, tb ((bursarylaw31_bigList a0) || (decide ((a1.length : Int) > 3000))))] [] hk rfl ?_ ?_
  · clear hk; intro k hk
    refine Go.bnd (Pf := (PostX Γ bursarylaw31_WireBack_enc)) (v := (bursarylaw31_bigList a0)) (fun x1 => [(0, .sl 1 .shr a0.length (b8s .shr a0)), (1, .sl 1 .shr a1.length (u8s a1)), (2, t64 a2), (27, tb (x1 || (decide ((a1.length : Int) > 3000))))]) (fun x1 => []) ?_
    intro x1 hx1
    have fx1 := bigList_fact a0
    rw [← hx1] at fx1
    refine Go.br 20 (Pf := (PostX Γ bursarylaw31_WireBack_enc)) hk rfl rfl ?_ ?_ <;> clear hk <;> intro ct1 k hk
    · refine Go.rx 20 { ws := [(0, { call := some { ids := [], S := [], M := [], R := tb bursarylaw31_sure, H' := [] } })] } [] [6] _ [(6, tb bursarylaw31_sure)] [] hk rfl (by as_aux_lemma => kernel_rfl) (.cons (bursarylaw31_sure_m) (.cons (by first | rfl | (simp only [T.ids, idsL, er_ids, List.append_nil, List.nil_append]; rfl) : subN (idsL []) [] = true) .nil)) ?_
      clear hk; intro k hk
      exact Go.lvx 20 [] _ [tb bursarylaw31_sure] Tryd.func9 hk rfl (by as_aux_lemma => kernel_rfl) .nil (T.Le.of_eq rfl) rfl rfl .nil
    · have ct11 : x1 = false := (Bool.or_eq_false_iff.1 ct1).1
      have ct12 : (decide ((a1.length : Int) > 3000)) = false := (Bool.or_eq_false_iff.1 ct1).2
      have ct12p := of_decide_eq_false ct12
      refine Go.rx 20 { ws := [(1, { call := some { ids := [], S := [], M := [], R := .sl 1 .shr (wire_Number a2).length (u8s (wire_Number a2)), H' := [] } }), (2, { call := some { ids := [], S := [], M := [], R := .tup [t64 ((wire_Read (wire_Number a2)).1), er 82 ((wire_Read (wire_Number a2)).2)], H' := [] } })] } [] [0, 1, 2, 7, 8] _ [(0, .sl 1 .shr a0.length (b8s .shr a0)), (1, .sl 1 .shr a1.length (u8s a1)), (2, t64 a2), (7, t64 ((wire_Read (wire_Number a2)).1)), (8, er 82 ((wire_Read (wire_Number a2)).2))] [] hk rfl (by as_aux_lemma => kernel_rfl) (.cons (wire_Number_m a2) (.cons (by first | rfl | (simp only [T.ids, idsL, er_ids, List.append_nil, List.nil_append]; rfl) : subN (idsL [t64 a2]) [] = true) (.cons (wire_Read_m (g_b := .shr) (wire_Number a2)) (.cons (by first | rfl | (simp only [T.ids, idsL, er_ids, List.append_nil, List.nil_append]; rfl) : subN (idsL [.sl 1 .shr (wire_Number a2).length (u8s (wire_Number a2))]) [] = true) .nil)))) ?_
      clear hk; intro k hk
      refine Go.bnd (Pf := (PostX Γ bursarylaw31_WireBack_enc)) (v := (wire_Number a2)) (fun x2 => [(0, .sl 1 .shr a0.length (b8s .shr a0)), (1, .sl 1 .shr a1.length (u8s a1)), (2, t64 a2), (7, t64 ((wire_Read x2).1)), (8, er 82 ((wire_Read x2).2))]) (fun x2 => []) ?_
      intro x2 hx2
      have fx2 := number_fact a2
      rw [← hx2] at fx2
      refine Go.regJ 20 [(0, .sl 1 .shr a0.length (b8s .shr a0)), (1, .sl 1 .shr a1.length (u8s a1)), (2, t64 a2), (47, tb ((!(decide ((wire_Read x2).2 = 0))) || ((((wire_Read x2).1) != a2) || (((wire_Number a2).length : Int) != 8))))] [] hk rfl ?_ ?_
      · clear hk; intro k hk
        refine Go.bnd (Pf := (PostX Γ bursarylaw31_WireBack_enc)) (v := (wire_Number a2)) (fun x3 => [(0, .sl 1 .shr a0.length (b8s .shr a0)), (1, .sl 1 .shr a1.length (u8s a1)), (2, t64 a2), (47, tb ((!(decide ((wire_Read x2).2 = 0))) || ((((wire_Read x2).1) != a2) || ((x3.length : Int) != 8))))]) (fun x3 => []) ?_
        intro x3 hx3
        have fx3 := number_fact a2
        rw [← hx3] at fx3
        refine Go.br 20 (Pf := (PostX Γ bursarylaw31_WireBack_enc)) hk rfl rfl ?_ ?_ <;> clear hk <;> intro ct2 k hk
        · refine Go.rx 20 {} [] [6] _ [(6, tb false)] [] hk rfl (by as_aux_lemma => kernel_rfl) .nil ?_
          clear hk; intro k hk
          exact Go.lvx 20 [] _ [tb false] Tryd.func9 hk rfl (by as_aux_lemma => kernel_rfl) .nil (T.Le.of_eq rfl) rfl rfl .nil
        · have ct21 : (!(decide ((wire_Read x2).2 = 0))) = false := (Bool.or_eq_false_iff.1 ct2).1
          have ct22 : ((((wire_Read x2).1) != a2) || ((x3.length : Int) != 8)) = false := (Bool.or_eq_false_iff.1 ct2).2
          have ct21' : (decide ((wire_Read x2).2 = 0)) = true := ntF ct21
          have ct21'p := of_decide_eq_true ct21'
          have ct221 : (((wire_Read x2).1) != a2) = false := (Bool.or_eq_false_iff.1 ct22).1
          have ct222 : ((x3.length : Int) != 8) = false := (Bool.or_eq_false_iff.1 ct22).2
          have ct222p := neIf ct222
          refine Go.rx 20 { ws := [(1, { call := some { ids := [], S := [], M := [], R := .tup [.sl 1 .shr ((wire_Encode a0).1).length (u8s ((wire_Encode a0).1)), er 82 ((wire_Encode a0).2)], H' := [] } })] } [] [0, 1, 2, 9, 10] _ [(0, .sl 1 .shr a0.length (b8s .shr a0)), (1, .sl 1 .shr a1.length (u8s a1)), (2, t64 a2), (9, .sl 1 .shr ((wire_Encode a0).1).length (u8s ((wire_Encode a0).1))), (10, er 82 ((wire_Encode a0).2))] [] hk rfl (by as_aux_lemma => kernel_rfl) (.cons (wire_Encode_m (g_l := .shr) a0) (.cons (by first | rfl | (simp only [T.ids, idsL, er_ids, List.append_nil, List.nil_append]; rfl) : subN (idsL [.sl 1 .shr a0.length (b8s .shr a0)]) [] = true) .nil)) ?_
          clear hk; intro k hk
          refine Go.bnd (Pf := (PostX Γ bursarylaw31_WireBack_enc)) (v := (wire_Encode a0)) (fun x4 => [(0, .sl 1 .shr a0.length (b8s .shr a0)), (1, .sl 1 .shr a1.length (u8s a1)), (2, t64 a2), (9, .sl 1 .shr x4.1.length (u8s x4.1)), (10, er 82 x4.2)]) (fun x4 => []) ?_
          intro x4 hx4
          have fx4 := encode_fact a0
          rw [← hx4] at fx4
          obtain ⟨fx40, fx41⟩ := fx4
          refine Go.regJ 20 [(0, .sl 1 .shr a0.length (b8s .shr a0)), (1, .sl 1 .shr a1.length (u8s a1)), (2, t64 a2), (9, .sl 1 .shr x4.1.length (u8s x4.1)), (10, er 82 x4.2), (59, tb ((decide (x4.2 = 0)) && ((x4.1.length : Int) == 0)))] [] hk rfl ?_ ?_
          · clear hk; intro k hk
            refine Go.br 20 (Pf := (PostX Γ bursarylaw31_WireBack_enc)) hk rfl rfl ?_ ?_ <;> clear hk <;> intro ct3 k hk
            · have ct31 : (decide (x4.2 = 0)) = true := (Bool.and_eq_true_iff.1 ct3).1
              have ct32 : ((x4.1.length : Int) == 0) = true := (Bool.and_eq_true_iff.1 ct3).2
              have ct31p := of_decide_eq_true ct31
              have ct32p := eqIt ct32
              refine Go.rx 20 {} [] [6] _ [(6, tb false)] [] hk rfl (by as_aux_lemma => kernel_rfl) .nil ?_
              clear hk; intro k hk
              exact Go.lvx 20 [] _ [tb false] Tryd.func9 hk rfl (by as_aux_lemma => kernel_rfl) .nil (T.Le.of_eq rfl) rfl rfl .nil
            · refine Go.rx 20 { ws := [(1, { er := some (82, x4.2) })] } [] [0, 1, 2, 9, 61] _ [(0, .sl 1 .shr a0.length (b8s .shr a0)), (1, .sl 1 .shr a1.length (u8s a1)), (2, t64 a2), (9, .sl 1 .shr x4.1.length (u8s x4.1)), (61, tb (decide (x4.2 = 0)))] [] hk rfl (by as_aux_lemma => kernel_rfl) (.cons (⟨rfl, rfl⟩ : (er 82 x4.2) = er 82 x4.2 ∧ (.leaf .nilIface : T) = .leaf .nilIface) .nil) ?_
              clear hk; intro k hk
              refine Go.br 20 (Pf := (PostX Γ bursarylaw31_WireBack_enc)) hk rfl rfl ?_ ?_ <;> clear hk <;> intro ct4 k hk
              · have ct4p := of_decide_eq_true ct4
                refine Go.rx 20 { ws := [(1, { call := some { ids := [], S := [], M := [], R := .tup [.sl 1 .shr ((wire_Decode x4.1).1).length (b8s .shr ((wire_Decode x4.1).1)), er 82 ((wire_Decode x4.1).2)], H' := [] } })] } [] [0, 1, 2, 9, 11, 12] _ [(0, .sl 1 .shr a0.length (b8s .shr a0)), (1, .sl 1 .shr a1.length (u8s a1)), (2, t64 a2), (9, .sl 1 .shr x4.1.length (u8s x4.1)), (11, .sl 1 .shr ((wire_Decode x4.1).1).length (b8s .shr ((wire_Decode x4.1).1))), (12, er 82 ((wire_Decode x4.1).2))] [] hk rfl (by as_aux_lemma => kernel_rfl) (.cons (wire_Decode_m (g_a0 := .shr) x4.1) (.cons (by first | rfl | (simp only [T.ids, idsL, er_ids, List.append_nil, List.nil_append]; rfl) : subN (idsL [.sl 1 .shr x4.1.length (u8s x4.1)]) [] = true) .nil)) ?_
                clear hk; intro k hk
                refine Go.bnd (Pf := (PostX Γ bursarylaw31_WireBack_enc)) (v := (wire_Decode x4.1)) (fun x5 => [(0, .sl 1 .shr a0.length (b8s .shr a0)), (1, .sl 1 .shr a1.length (u8s a1)), (2, t64 a2), (9, .sl 1 .shr x4.1.length (u8s x4.1)), (11, .sl 1 .shr x5.1.length (b8s .shr x5.1)), (12, er 82 x5.2)]) (fun x5 => []) ?_
                intro x5 hx5
                have fx5 := decode_fact x4.1
                rw [← hx5] at fx5
                obtain ⟨fx50, fx51⟩ := fx5
                refine Go.rx 20 { ws := [(4, { v := some (t64 (u64i (x4.1.length : Int))) }), (5, { v := some (t64 (a2 % (u64i (x4.1.length : Int)))) }), (6, { v := some (ti ((a2 % (u64i (x4.1.length : Int))).toNat : Int)) }), (7, { v := some (.sl 1 .shr (slc x4.1 0 ((a2 % (u64i (x4.1.length : Int))).toNat : Int)).length (u8s (slc x4.1 0 ((a2 % (u64i (x4.1.length : Int))).toNat : Int)))) }), (8, { call := some { ids := [], S := [], M := [], R := .tup [.sl 1 .shr ((wire_Decode (slc x4.1 0 ((a2 % (u64i (x4.1.length : Int))).toNat : Int))).1).length (b8s .shr ((wire_Decode (slc x4.1 0 ((a2 % (u64i (x4.1.length : Int))).toNat : Int))).1)), er 82 ((wire_Decode (slc x4.1 0 ((a2 % (u64i (x4.1.length : Int))).toNat : Int))).2)], H' := [] } })] } [] [0, 1, 9, 11, 12, 14] _ [(0, .sl 1 .shr a0.length (b8s .shr a0)), (1, .sl 1 .shr a1.length (u8s a1)), (9, .sl 1 .shr x4.1.length (u8s x4.1)), (11, .sl 1 .shr x5.1.length (b8s .shr x5.1)), (12, er 82 x5.2), (14, er 82 ((wire_Decode (slc x4.1 0 ((a2 % (u64i (x4.1.length : Int))).toNat : Int))).2))] [] hk rfl (by as_aux_lemma => kernel_rfl) (.cons (cvi_64 (x4.1.length : Int)) (.cons (by first | omega | (simp <;> omega) | (have v := fx41 (by assumption); simp only [UInt64.toNat_mod, u64i_len x4.1.length (by omega)]; have u := Nat.mod_lt a2.toNat (show 0 < x4.1.length by omega); omega) | (simp at * <;> omega) : ((u64i (x4.1.length : Int) : UInt64).toNat : Int) ≠ (0 : Int)) (.cons (rem64 a2 (u64i (x4.1.length : Int))) (.cons (iw (((a2 % (u64i (x4.1.length : Int))).toNat : Int)) (by first | omega | (simp <;> omega) | (have v := fx41 (by assumption); simp only [UInt64.toNat_mod, u64i_len x4.1.length (by omega)]; have u := Nat.mod_lt a2.toNat (show 0 < x4.1.length by omega); omega) | (simp at * <;> omega))) (.cons (by first | omega | (simp <;> omega) | (have v := fx41 (by assumption); simp only [UInt64.toNat_mod, u64i_len x4.1.length (by omega)]; have u := Nat.mod_lt a2.toNat (show 0 < x4.1.length by omega); omega) | (simp at * <;> omega) : 0 ≤ (0 : Int) ∧ (0 : Int) ≤ ((a2 % (u64i (x4.1.length : Int))).toNat : Int) ∧ ((a2 % (u64i (x4.1.length : Int))).toNat : Int) ≤ (x4.1.length : Int) ∧ (x4.1.length : Int) ≤ (x4.1.length : Nat)) (.cons (sl_slc (t := .shr) (g := (fun c : UInt8 => T.leaf (.int .u8 c.toNat))) (lo := 0) (hi := ((a2 % (u64i (x4.1.length : Int))).toNat : Int)) x4.1 (by first | omega | (simp <;> omega) | (have v := fx41 (by assumption); simp only [UInt64.toNat_mod, u64i_len x4.1.length (by omega)]; have u := Nat.mod_lt a2.toNat (show 0 < x4.1.length by omega); omega) | (simp at * <;> omega)) rfl rfl) (.cons (wire_Decode_m (g_a0 := .shr) (slc x4.1 0 ((a2 % (u64i (x4.1.length : Int))).toNat : Int))) (.cons (by first | rfl | (simp only [T.ids, idsL, er_ids, List.append_nil, List.nil_append]; rfl) : subN (idsL [.sl 1 .shr (slc x4.1 0 ((a2 % (u64i (x4.1.length : Int))).toNat : Int)).length (u8s (slc x4.1 0 ((a2 % (u64i (x4.1.length : Int))).toNat : Int)))]) [] = true) .nil)))))))) ?_
                clear hk; intro k hk
                refine Go.bnd (Pf := (PostX Γ bursarylaw31_WireBack_enc)) (v := (wire_Decode (slc x4.1 0 ((a2 % (u64i (x4.1.length : Int))).toNat : Int)))) (fun x6 => [(0, .sl 1 .shr a0.length (b8s .shr a0)), (1, .sl 1 .shr a1.length (u8s a1)), (9, .sl 1 .shr x4.1.length (u8s x4.1)), (11, .sl 1 .shr x5.1.length (b8s .shr x5.1)), (12, er 82 x5.2), (14, er 82 x6.2)]) (fun x6 => []) ?_
                intro x6 hx6
                have fx6 := decode_fact (slc x4.1 0 ((a2 % (u64i (x4.1.length : Int))).toNat : Int))
                rw [← hx6] at fx6
                obtain ⟨fx60, fx61⟩ := fx6
                refine Go.regJ 20 [(1, .sl 1 .shr a1.length (u8s a1)), (9, .sl 1 .shr x4.1.length (u8s x4.1)), (91, tb ((!(decide (x5.2 = 0))) || ((!(bursarylaw31_lists x5.1 a0)) || ((id x6.2) != 4))))] [] hk rfl ?_ ?_
                · clear hk; intro k hk
                  refine Go.bnd (Pf := (PostX Γ bursarylaw31_WireBack_enc)) (v := (bursarylaw31_lists x5.1 a0)) (fun x7 => [(1, .sl 1 .shr a1.length (u8s a1)), (9, .sl 1 .shr x4.1.length (u8s x4.1)), (91, tb ((!(decide (x5.2 = 0))) || ((!x7) || ((id x6.2) != 4))))]) (fun x7 => []) ?_
                  intro x7 hx7
                  refine Go.bnd (Pf := (PostX Γ bursarylaw31_WireBack_enc)) (v := (id x6.2)) (fun x8 => [(1, .sl 1 .shr a1.length (u8s a1)), (9, .sl 1 .shr x4.1.length (u8s x4.1)), (91, tb ((!(decide (x5.2 = 0))) || ((!x7) || (x8 != 4))))]) (fun x8 => []) ?_
                  intro x8 hx8
                  refine Go.br 20 (Pf := (PostX Γ bursarylaw31_WireBack_enc)) hk rfl rfl ?_ ?_ <;> clear hk <;> intro ct5 k hk
                  · refine Go.rx 20 {} [] [6] _ [(6, tb false)] [] hk rfl (by as_aux_lemma => kernel_rfl) .nil ?_
                    clear hk; intro k hk
                    exact Go.lvx 20 [] _ [tb false] Tryd.func9 hk rfl (by as_aux_lemma => kernel_rfl) .nil (T.Le.of_eq rfl) rfl rfl .nil
                  · have ct51 : (!(decide (x5.2 = 0))) = false := (Bool.or_eq_false_iff.1 ct5).1
                    have ct52 : ((!x7) || (x8 != 4)) = false := (Bool.or_eq_false_iff.1 ct5).2
                    have ct51' : (decide (x5.2 = 0)) = true := ntF ct51
                    have ct51'p := of_decide_eq_true ct51'
                    have ct521 : (!x7) = false := (Bool.or_eq_false_iff.1 ct52).1
                    have ct522 : (x8 != 4) = false := (Bool.or_eq_false_iff.1 ct52).2
                    have ct521' : x7 = true := ntF ct521
                    have ct522p := neIf ct522
                    refine Go.rx 20 {} [] [1, 9, 94] _ [(1, .sl 1 .shr a1.length (u8s a1)), (9, .sl 1 .shr x4.1.length (u8s x4.1)), (94, tb (decide ((x4.1.length : Int) < 1024)))] [] hk rfl (by as_aux_lemma => kernel_rfl) (.cons trivial .nil) ?_
                    clear hk; intro k hk
                    refine Go.br 20 (Pf := (PostX Γ bursarylaw31_WireBack_enc)) hk rfl rfl ?_ ?_ <;> clear hk <;> intro ct6 k hk
                    · have ct6p := of_decide_eq_true ct6
                      refine Go.rx 20 { ws := [(0, { id := 10 }), (2, { v := some (.ref 10 1 0 (([] ++ x4.1).length)), c := some (u8s ([] ++ x4.1)), id := 10, sym := true }), (3, { id := 11 }), (4, { v := some (.ref 10 1 0 (([] ++ x4.1 ++ [0]).length)), c := some (u8s ([] ++ x4.1 ++ [0])), id := 10, sym := true }), (5, { call := some { ids := [], S := [], M := [10], R := .tup [.sl 1 .shr ((wire_Decode ([] ++ x4.1 ++ [0])).1).length (b8s .shr ((wire_Decode ([] ++ x4.1 ++ [0])).1)), er 82 ((wire_Decode ([] ++ x4.1 ++ [0])).2)], H' := [] } })], ps := [16, 95, 101, 103], pg := [10] } [11, 10] [1, 16] _ [(1, .sl 1 .shr a1.length (u8s a1)), (16, er 82 ((wire_Decode ([] ++ x4.1 ++ [0])).2))] [] hk rfl (by as_aux_lemma => kernel_rfl) (.cons (by decide : 0 + 0 * 1 ≤ (([] : List T)).length) (.cons (mp_scal x4.1 (fun _ => rfl) : scalL (u8s x4.1) = true) (.cons (by first | omega | (simp <;> omega) | (have v := fx41 (by assumption); simp only [UInt64.toNat_mod, u64i_len x4.1.length (by omega)]; have u := Nat.mod_lt a2.toNat (show 0 < x4.1.length by omega); omega) | (simp at * <;> omega) : (0 + x4.1.length) * 1 ≤ 140737488355328) (.cons (mp_app' (g := (fun c : UInt8 => T.leaf (.int .u8 c.toNat))) (m := 0) [] x4.1 rfl rfl) (.cons (mp_mem (i := 10) (g := (fun c : UInt8 => T.leaf (.int .u8 c.toNat))) ([] ++ x4.1) (fun _ => rfl)) (.cons (by first | rfl | (simp; done) | (refine congrArg (fun q => T.ref 10 1 0 q) ?_; simp <;> omega) : T.ref 10 1 0 (0 + x4.1.length) = .ref 10 1 0 (([] ++ x4.1).length)) (.cons (Nat.le_of_ble_eq_true rfl : 0 + 1 * 1 ≤ ([t8 0] : List T).length) (.cons (by simp only [List.length_map]; omega : 0 + ([] ++ x4.1).length * 1 ≤ (u8s ([] ++ x4.1)).length) (.cons (rfl : scalL [t8 0] = true) (.cons (by first | omega | (simp <;> omega) | (have v := fx41 (by assumption); simp only [UInt64.toNat_mod, u64i_len x4.1.length (by omega)]; have u := Nat.mod_lt a2.toNat (show 0 < x4.1.length by omega); omega) | (simp at * <;> omega) : (([] ++ x4.1).length + 1) * 1 ≤ 140737488355328) (.cons (mp_app (g := (fun c : UInt8 => T.leaf (.int .u8 c.toNat))) ([] ++ x4.1) [0] rfl) (.cons (mp_mem (i := 10) (g := (fun c : UInt8 => T.leaf (.int .u8 c.toNat))) ([] ++ x4.1 ++ [0]) (fun _ => rfl)) (.cons (by first | rfl | (simp; done) | (refine congrArg (fun q => T.ref 10 1 0 q) ?_; simp <;> omega) : T.ref 10 1 0 (([] ++ x4.1).length + 1) = .ref 10 1 0 (([] ++ x4.1 ++ [0]).length)) (.cons (Meets.eqA (A := [.sl 1 .brw (([] ++ x4.1 ++ [0]).length) (sub (u8s ([] ++ x4.1 ++ [0])) 0 (([] ++ x4.1 ++ [0]).length * 1))]) (by first | rfl | simp only [mp_all]) (wire_Decode_m (g_a0 := .brw) ([] ++ x4.1 ++ [0]))) (.cons (mp_ids (g := (fun c : UInt8 => T.leaf (.int .u8 c.toNat))) ([] ++ x4.1 ++ [0]) (fun _ => rfl)) (.cons (by simp only [List.length_map]; first | omega | (simp <;> omega) | (have v := fx41 (by assumption); simp only [UInt64.toNat_mod, u64i_len x4.1.length (by omega)]; have u := Nat.mod_lt a2.toNat (show 0 < x4.1.length by omega); omega) | (simp at * <;> omega) : 0 + ([] ++ x4.1 ++ [0]).length * 1 ≤ (u8s ([] ++ x4.1 ++ [0])).length) (.cons (by first | rfl | (simp only [T.ids, idsL, er_ids, List.append_nil, List.nil_append]; rfl) : subN (idsL [.sl 1 .brw (([] ++ x4.1 ++ [0]).length) (sub (u8s ([] ++ x4.1 ++ [0])) 0 (([] ++ x4.1 ++ [0]).length * 1))]) [] = true) (.cons (by first | rfl | (simp only [T.noB, noBL, er_noB, u8s_noB, b8s_noB, Bool.and_self, Bool.true_and, Bool.and_true]; rfl) | simp only [T.noB, noBL, er_noB, u8s_noB, b8s_noB, Bool.and_self, Bool.true_and, Bool.and_true] : T.noB (.tup [.sl 1 .shr ((wire_Decode ([] ++ x4.1 ++ [0])).1).length (b8s .shr ((wire_Decode ([] ++ x4.1 ++ [0])).1)), er 82 ((wire_Decode ([] ++ x4.1 ++ [0])).2)]) = true) (.cons (by first | rfl | (simp only [T.ids, idsL, er_ids, List.append_nil, List.nil_append]; rfl) : memN 11 (T.ids (.tup [.sl 1 .shr ((wire_Decode ([] ++ x4.1 ++ [0])).1).length (b8s .shr ((wire_Decode ([] ++ x4.1 ++ [0])).1)), er 82 ((wire_Decode ([] ++ x4.1 ++ [0])).2)])) = false) (.cons (by first | rfl | (simp only [T.ids, idsL, er_ids, List.append_nil, List.nil_append]; rfl) : memN 11 (T.ids (.tup [.sl 1 .shr ((wire_Decode ([] ++ x4.1 ++ [0])).1).length (b8s .shr ((wire_Decode ([] ++ x4.1 ++ [0])).1)), er 82 ((wire_Decode ([] ++ x4.1 ++ [0])).2)])) = false) (.cons (er_mem (i := 11) 82 ((wire_Decode ([] ++ x4.1 ++ [0])).2)) (.cons (er_mem (i := 11) 82 ((wire_Decode ([] ++ x4.1 ++ [0])).2)) (.cons (mp_mem (i := 11) (g := (fun c : UInt8 => T.leaf (.int .u8 c.toNat))) ([] ++ x4.1 ++ [0]) (fun _ => rfl)) (.cons (by first | rfl | (simp only [T.ids, idsL, er_ids, List.append_nil, List.nil_append]; rfl) : memN 10 (T.ids (.tup [.sl 1 .shr ((wire_Decode ([] ++ x4.1 ++ [0])).1).length (b8s .shr ((wire_Decode ([] ++ x4.1 ++ [0])).1)), er 82 ((wire_Decode ([] ++ x4.1 ++ [0])).2)])) = false) (.cons (by first | rfl | (simp only [T.ids, idsL, er_ids, List.append_nil, List.nil_append]; rfl) : memN 10 (T.ids (.tup [.sl 1 .shr ((wire_Decode ([] ++ x4.1 ++ [0])).1).length (b8s .shr ((wire_Decode ([] ++ x4.1 ++ [0])).1)), er 82 ((wire_Decode ([] ++ x4.1 ++ [0])).2)])) = false) (.cons (er_mem (i := 10) 82 ((wire_Decode ([] ++ x4.1 ++ [0])).2)) (.cons (er_mem (i := 10) 82 ((wire_Decode ([] ++ x4.1 ++ [0])).2)) .nil))))))))))))))))))))))))))) ?_
                      clear hk; intro k hk
                      refine Go.bnd (Pf := (PostX Γ bursarylaw31_WireBack_enc)) (v := (wire_Decode ([] ++ x4.1 ++ [0]))) (fun x9 => [(1, .sl 1 .shr a1.length (u8s a1)), (16, er 82 x9.2)]) (fun x9 => []) ?_
                      intro x9 hx9
                      have fx9 := decode_fact ([] ++ x4.1 ++ [0])
                      rw [← hx9] at fx9
                      obtain ⟨fx90, fx91⟩ := fx9
                      refine Go.rx 20 { ws := [(1, { call := some { ids := [], S := [], M := [], R := ti (id x9.2), H' := [] } })] } [] [1, 106] _ [(1, .sl 1 .shr a1.length (u8s a1)), (106, tb ((id x9.2) != 4))] [] hk rfl (by as_aux_lemma => kernel_rfl) (.cons (bursarylaw31_num_m x9.2) (.cons (by first | rfl | (simp only [T.ids, idsL, er_ids, List.append_nil, List.nil_append]; rfl) : subN (idsL [er 82 x9.2]) [] = true) (.cons trivial .nil))) ?_
                      clear hk; intro k hk
                      refine Go.bnd (Pf := (PostX Γ bursarylaw31_WireBack_enc)) (v := (id x9.2)) (fun x10 => [(1, .sl 1 .shr a1.length (u8s a1)), (106, tb (x10 != 4))]) (fun x10 => []) ?_
                      intro x10 hx10
                      refine Go.br 20 (Pf := (PostX Γ bursarylaw31_WireBack_enc)) hk rfl rfl ?_ ?_ <;> clear hk <;> intro ct7 k hk
                      · have ct7p := neIt ct7
                        refine Go.rx 20 {} [] [6] _ [(6, tb false)] [] hk rfl (by as_aux_lemma => kernel_rfl) .nil ?_
                        clear hk; intro k hk
                        exact Go.lvx 20 [] _ [tb false] Tryd.func9 hk rfl (by as_aux_lemma => kernel_rfl) .nil (T.Le.of_eq rfl) rfl rfl .nil
                      · have ct7p := neIf ct7
                        refine Go.rx 20 { ws := [(1, { call := some { ids := [], S := [], M := [], R := .tup [.sl 1 .shr ((wire_Decode a1).1).length (b8s .shr ((wire_Decode a1).1)), er 82 ((wire_Decode a1).2)], H' := [] } })] } [] [1, 17, 18] _ [(1, .sl 1 .shr a1.length (u8s a1)), (17, .sl 1 .shr ((wire_Decode a1).1).length (b8s .shr ((wire_Decode a1).1))), (18, er 82 ((wire_Decode a1).2))] [] hk rfl (by as_aux_lemma => kernel_rfl) (.cons (wire_Decode_m (g_a0 := .shr) a1) (.cons (by first | rfl | (simp only [T.ids, idsL, er_ids, List.append_nil, List.nil_append]; rfl) : subN (idsL [.sl 1 .shr a1.length (u8s a1)]) [] = true) .nil)) ?_
                        clear hk; intro k hk
                        refine Go.bnd (Pf := (PostX Γ bursarylaw31_WireBack_enc)) (v := (wire_Decode a1)) (fun x11 => [(1, .sl 1 .shr a1.length (u8s a1)), (17, .sl 1 .shr x11.1.length (b8s .shr x11.1)), (18, er 82 x11.2)]) (fun x11 => []) ?_
                        intro x11 hx11
                        have fx11 := decode_fact a1
                        rw [← hx11] at fx11
                        obtain ⟨fx110, fx111⟩ := fx11
                        refine Go.rx 20 { ws := [(1, { er := some (82, x11.2) })] } [] [1, 17, 113] _ [(1, .sl 1 .shr a1.length (u8s a1)), (17, .sl 1 .shr x11.1.length (b8s .shr x11.1)), (113, tb (!(decide (x11.2 = 0))))] [] hk rfl (by as_aux_lemma => kernel_rfl) (.cons (⟨rfl, rfl⟩ : (er 82 x11.2) = er 82 x11.2 ∧ (.leaf .nilIface : T) = .leaf .nilIface) .nil) ?_
                        clear hk; intro k hk
                        refine Go.br 20 (Pf := (PostX Γ bursarylaw31_WireBack_enc)) hk rfl rfl ?_ ?_ <;> clear hk <;> intro ct8 k hk
                        · have ct8' : (decide (x11.2 = 0)) = false := ntT ct8
                          have ct8'p := of_decide_eq_false ct8'
                          refine Go.regJ 20 [(6, tb (((x11.1.length : Int) == 0) && bursarylaw31_sure))] [] hk rfl ?_ ?_
                          · clear hk; intro k hk
                            exact Go.lvx 20 [] _ [tb (((x11.1.length : Int) == 0) && bursarylaw31_sure)] Tryd.func9 hk rfl (by as_aux_lemma => kernel_rfl) .nil (T.Le.of_eq rfl) rfl rfl .nil
                          · intro hk J
                            rcases Bool.eq_false_or_eq_true ((x11.1.length : Int) == 0) with gd7 | gd7
                            · have gd7p := eqIt gd7
                              refine Go.rx 20 { ws := [(2, { v := some (tb true) }), (4, { call := some { ids := [], S := [], M := [], R := tb bursarylaw31_sure, H' := [] } })] } [] [6] _ [(6, tb bursarylaw31_sure)] [] hk rfl (by as_aux_lemma => kernel_rfl) (.cons trivial (.cons (eb gd7) (.cons (bursarylaw31_sure_m) (.cons (by first | rfl | (simp only [T.ids, idsL, er_ids, List.append_nil, List.nil_append]; rfl) : subN (idsL []) [] = true) .nil)))) ?_
                              intro k' hk'
                              refine Go.slotEq 6 (tb (((x11.1.length : Int) == 0) && bursarylaw31_sure)) rfl (eb (andT gd7 rfl).symm) ?_
                              exact J k' hk'
                            · have gd7p := eqIf gd7
                              refine Go.rx 20 { ws := [(2, { v := some (tb false) })] } [] [6] _ [(6, tb false)] [] hk rfl (by as_aux_lemma => kernel_rfl) (.cons trivial (.cons (eb gd7) .nil)) ?_
                              intro k' hk'
                              refine Go.slotEq 6 (tb (((x11.1.length : Int) == 0) && bursarylaw31_sure)) rfl (eb (andF gd7).symm) ?_
                              exact J k' hk'
                        · have ct8' : (decide (x11.2 = 0)) = true := ntF ct8
                          have ct8'p := of_decide_eq_true ct8'
                          refine Go.rx 20 { ws := [(1, { call := some { ids := [], S := [], M := [], R := .tup [.sl 1 .shr ((wire_Encode x11.1).1).length (u8s ((wire_Encode x11.1).1)), er 82 ((wire_Encode x11.1).2)], H' := [] } })] } [] [1, 19, 20] _ [(1, .sl 1 .shr a1.length (u8s a1)), (19, .sl 1 .shr ((wire_Encode x11.1).1).length (u8s ((wire_Encode x11.1).1))), (20, er 82 ((wire_Encode x11.1).2))] [] hk rfl (by as_aux_lemma => kernel_rfl) (.cons (wire_Encode_m (g_l := .shr) x11.1) (.cons (by first | rfl | (simp only [T.ids, idsL, er_ids, List.append_nil, List.nil_append]; rfl) : subN (idsL [.sl 1 .shr x11.1.length (b8s .shr x11.1)]) [] = true) .nil)) ?_
                          clear hk; intro k hk
                          refine Go.bnd (Pf := (PostX Γ bursarylaw31_WireBack_enc)) (v := (wire_Encode x11.1)) (fun x12 => [(1, .sl 1 .shr a1.length (u8s a1)), (19, .sl 1 .shr x12.1.length (u8s x12.1)), (20, er 82 x12.2)]) (fun x12 => []) ?_
                          intro x12 hx12
                          have fx12 := encode_fact x11.1
                          rw [← hx12] at fx12
                          obtain ⟨fx120, fx121⟩ := fx12
                          refine Go.regJ 20 [(6, tb ((decide (x12.2 = 0)) && ((x12.1 == a1) && bursarylaw31_sure)))] [] hk rfl ?_ ?_
                          · clear hk; intro k hk
                            exact Go.lvx 20 [] _ [tb ((decide (x12.2 = 0)) && ((x12.1 == a1) && bursarylaw31_sure))] Tryd.func9 hk rfl (by as_aux_lemma => kernel_rfl) .nil (T.Le.of_eq rfl) rfl rfl .nil
                          · intro hk J
                            rcases Bool.eq_false_or_eq_true (decide (x12.2 = 0)) with gd8 | gd8
                            · have gd8p := of_decide_eq_true gd8
                              rcases Bool.eq_false_or_eq_true (x12.1 == a1) with gd9 | gd9
                              · refine Go.rx 20 { ws := [(1, { v := some (tb true), er := some (82, x12.2) }), (4, { b := x12.1 }), (6, { b := a1 }), (7, { v := some (tb true) }), (10, { call := some { ids := [], S := [], M := [], R := tb bursarylaw31_sure, H' := [] } })] } [] [6] _ [(6, tb bursarylaw31_sure)] [] hk rfl (by as_aux_lemma => kernel_rfl) (.cons (⟨rfl, rfl⟩ : (er 82 x12.2) = er 82 x12.2 ∧ (.leaf .nilIface : T) = .leaf .nilIface) (.cons (eb gd8) (.cons (rfl : u8s x12.1 = u8s x12.1) (.cons (rfl : u8s a1 = u8s a1) (.cons trivial (.cons ((s_eq x12.1 a1).trans (eb gd9)) (.cons (bursarylaw31_sure_m) (.cons (by first | rfl | (simp only [T.ids, idsL, er_ids, List.append_nil, List.nil_append]; rfl) : subN (idsL []) [] = true) .nil)))))))) ?_
                                intro k' hk'
                                refine Go.slotEq 6 (tb ((decide (x12.2 = 0)) && ((x12.1 == a1) && bursarylaw31_sure))) rfl (eb (andT gd8 (andT gd9 rfl)).symm) ?_
                                exact J k' hk'
                              · refine Go.rx 20 { ws := [(1, { v := some (tb true), er := some (82, x12.2) }), (4, { b := x12.1 }), (6, { b := a1 }), (7, { v := some (tb false) })] } [] [6] _ [(6, tb false)] [] hk rfl (by as_aux_lemma => kernel_rfl) (.cons (⟨rfl, rfl⟩ : (er 82 x12.2) = er 82 x12.2 ∧ (.leaf .nilIface : T) = .leaf .nilIface) (.cons (eb gd8) (.cons (rfl : u8s x12.1 = u8s x12.1) (.cons (rfl : u8s a1 = u8s a1) (.cons trivial (.cons ((s_eq x12.1 a1).trans (eb gd9)) .nil)))))) ?_
                                intro k' hk'
                                refine Go.slotEq 6 (tb ((decide (x12.2 = 0)) && ((x12.1 == a1) && bursarylaw31_sure))) rfl (eb (andT gd8 (andF gd9)).symm) ?_
                                exact J k' hk'
                            · have gd8p := of_decide_eq_false gd8
                              refine Go.rx 20 { ws := [(1, { v := some (tb false), er := some (82, x12.2) })] } [] [6] _ [(6, tb false)] [] hk rfl (by as_aux_lemma => kernel_rfl) (.cons (⟨rfl, rfl⟩ : (er 82 x12.2) = er 82 x12.2 ∧ (.leaf .nilIface : T) = .leaf .nilIface) (.cons (eb gd8) .nil)) ?_
                              intro k' hk'
                              refine Go.slotEq 6 (tb ((decide (x12.2 = 0)) && ((x12.1 == a1) && bursarylaw31_sure))) rfl (eb (andF gd8).symm) ?_
                              exact J k' hk'
                    · have ct6p := of_decide_eq_false ct6
                      refine Go.rx 20 { ws := [(1, { call := some { ids := [], S := [], M := [], R := .tup [.sl 1 .shr ((wire_Decode a1).1).length (b8s .shr ((wire_Decode a1).1)), er 82 ((wire_Decode a1).2)], H' := [] } })] } [] [1, 17, 18] _ [(1, .sl 1 .shr a1.length (u8s a1)), (17, .sl 1 .shr ((wire_Decode a1).1).length (b8s .shr ((wire_Decode a1).1))), (18, er 82 ((wire_Decode a1).2))] [] hk rfl (by as_aux_lemma => kernel_rfl) (.cons (wire_Decode_m (g_a0 := .shr) a1) (.cons (by first | rfl | (simp only [T.ids, idsL, er_ids, List.append_nil, List.nil_append]; rfl) : subN (idsL [.sl 1 .shr a1.length (u8s a1)]) [] = true) .nil)) ?_
                      clear hk; intro k hk
                      refine Go.bnd (Pf := (PostX Γ bursarylaw31_WireBack_enc)) (v := (wire_Decode a1)) (fun x13 => [(1, .sl 1 .shr a1.length (u8s a1)), (17, .sl 1 .shr x13.1.length (b8s .shr x13.1)), (18, er 82 x13.2)]) (fun x13 => []) ?_
                      intro x13 hx13
                      have fx13 := decode_fact a1
                      rw [← hx13] at fx13
                      obtain ⟨fx130, fx131⟩ := fx13
                      refine Go.rx 20 { ws := [(1, { er := some (82, x13.2) })] } [] [1, 17, 113] _ [(1, .sl 1 .shr a1.length (u8s a1)), (17, .sl 1 .shr x13.1.length (b8s .shr x13.1)), (113, tb (!(decide (x13.2 = 0))))] [] hk rfl (by as_aux_lemma => kernel_rfl) (.cons (⟨rfl, rfl⟩ : (er 82 x13.2) = er 82 x13.2 ∧ (.leaf .nilIface : T) = .leaf .nilIface) .nil) ?_
                      clear hk; intro k hk
                      refine Go.br 20 (Pf := (PostX Γ bursarylaw31_WireBack_enc)) hk rfl rfl ?_ ?_ <;> clear hk <;> intro ct9 k hk
                      · have ct9' : (decide (x13.2 = 0)) = false := ntT ct9
                        have ct9'p := of_decide_eq_false ct9'
                        refine Go.regJ 20 [(6, tb (((x13.1.length : Int) == 0) && bursarylaw31_sure))] [] hk rfl ?_ ?_
                        · clear hk; intro k hk
                          exact Go.lvx 20 [] _ [tb (((x13.1.length : Int) == 0) && bursarylaw31_sure)] Tryd.func9 hk rfl (by as_aux_lemma => kernel_rfl) .nil (T.Le.of_eq rfl) rfl rfl .nil
                        · intro hk J
                          rcases Bool.eq_false_or_eq_true ((x13.1.length : Int) == 0) with gd10 | gd10
                          · have gd10p := eqIt gd10
                            refine Go.rx 20 { ws := [(2, { v := some (tb true) }), (4, { call := some { ids := [], S := [], M := [], R := tb bursarylaw31_sure, H' := [] } })] } [] [6] _ [(6, tb bursarylaw31_sure)] [] hk rfl (by as_aux_lemma => kernel_rfl) (.cons trivial (.cons (eb gd10) (.cons (bursarylaw31_sure_m) (.cons (by first | rfl | (simp only [T.ids, idsL, er_ids, List.append_nil, List.nil_append]; rfl) : subN (idsL []) [] = true) .nil)))) ?_
                            intro k' hk'
                            refine Go.slotEq 6 (tb (((x13.1.length : Int) == 0) && bursarylaw31_sure)) rfl (eb (andT gd10 rfl).symm) ?_
                            exact J k' hk'
                          · have gd10p := eqIf gd10
                            refine Go.rx 20 { ws := [(2, { v := some (tb false) })] } [] [6] _ [(6, tb false)] [] hk rfl (by as_aux_lemma => kernel_rfl) (.cons trivial (.cons (eb gd10) .nil)) ?_
                            intro k' hk'
                            refine Go.slotEq 6 (tb (((x13.1.length : Int) == 0) && bursarylaw31_sure)) rfl (eb (andF gd10).symm) ?_
                            exact J k' hk'
                      · have ct9' : (decide (x13.2 = 0)) = true := ntF ct9
                        have ct9'p := of_decide_eq_true ct9'
                        refine Go.rx 20 { ws := [(1, { call := some { ids := [], S := [], M := [], R := .tup [.sl 1 .shr ((wire_Encode x13.1).1).length (u8s ((wire_Encode x13.1).1)), er 82 ((wire_Encode x13.1).2)], H' := [] } })] } [] [1, 19, 20] _ [(1, .sl 1 .shr a1.length (u8s a1)), (19, .sl 1 .shr ((wire_Encode x13.1).1).length (u8s ((wire_Encode x13.1).1))), (20, er 82 ((wire_Encode x13.1).2))] [] hk rfl (by as_aux_lemma => kernel_rfl) (.cons (wire_Encode_m (g_l := .shr) x13.1) (.cons (by first | rfl | (simp only [T.ids, idsL, er_ids, List.append_nil, List.nil_append]; rfl) : subN (idsL [.sl 1 .shr x13.1.length (b8s .shr x13.1)]) [] = true) .nil)) ?_
                        clear hk; intro k hk
                        refine Go.bnd (Pf := (PostX Γ bursarylaw31_WireBack_enc)) (v := (wire_Encode x13.1)) (fun x14 => [(1, .sl 1 .shr a1.length (u8s a1)), (19, .sl 1 .shr x14.1.length (u8s x14.1)), (20, er 82 x14.2)]) (fun x14 => []) ?_
                        intro x14 hx14
                        have fx14 := encode_fact x13.1
                        rw [← hx14] at fx14
                        obtain ⟨fx140, fx141⟩ := fx14
                        refine Go.regJ 20 [(6, tb ((decide (x14.2 = 0)) && ((x14.1 == a1) && bursarylaw31_sure)))] [] hk rfl ?_ ?_
                        · clear hk; intro k hk
                          exact Go.lvx 20 [] _ [tb ((decide (x14.2 = 0)) && ((x14.1 == a1) && bursarylaw31_sure))] Tryd.func9 hk rfl (by as_aux_lemma => kernel_rfl) .nil (T.Le.of_eq rfl) rfl rfl .nil
                        · intro hk J
                          rcases Bool.eq_false_or_eq_true (decide (x14.2 = 0)) with gd11 | gd11
                          · have gd11p := of_decide_eq_true gd11
                            rcases Bool.eq_false_or_eq_true (x14.1 == a1) with gd12 | gd12
                            · refine Go.rx 20 { ws := [(1, { v := some (tb true), er := some (82, x14.2) }), (4, { b := x14.1 }), (6, { b := a1 }), (7, { v := some (tb true) }), (10, { call := some { ids := [], S := [], M := [], R := tb bursarylaw31_sure, H' := [] } })] } [] [6] _ [(6, tb bursarylaw31_sure)] [] hk rfl (by as_aux_lemma => kernel_rfl) (.cons (⟨rfl, rfl⟩ : (er 82 x14.2) = er 82 x14.2 ∧ (.leaf .nilIface : T) = .leaf .nilIface) (.cons (eb gd11) (.cons (rfl : u8s x14.1 = u8s x14.1) (.cons (rfl : u8s a1 = u8s a1) (.cons trivial (.cons ((s_eq x14.1 a1).trans (eb gd12)) (.cons (bursarylaw31_sure_m) (.cons (by first | rfl | (simp only [T.ids, idsL, er_ids, List.append_nil, List.nil_append]; rfl) : subN (idsL []) [] = true) .nil)))))))) ?_
                              intro k' hk'
                              refine Go.slotEq 6 (tb ((decide (x14.2 = 0)) && ((x14.1 == a1) && bursarylaw31_sure))) rfl (eb (andT gd11 (andT gd12 rfl)).symm) ?_
                              exact J k' hk'
                            · refine Go.rx 20 { ws := [(1, { v := some (tb true), er := some (82, x14.2) }), (4, { b := x14.1 }), (6, { b := a1 }), (7, { v := some (tb false) })] } [] [6] _ [(6, tb false)] [] hk rfl (by as_aux_lemma => kernel_rfl) (.cons (⟨rfl, rfl⟩ : (er 82 x14.2) = er 82 x14.2 ∧ (.leaf .nilIface : T) = .leaf .nilIface) (.cons (eb gd11) (.cons (rfl : u8s x14.1 = u8s x14.1) (.cons (rfl : u8s a1 = u8s a1) (.cons trivial (.cons ((s_eq x14.1 a1).trans (eb gd12)) .nil)))))) ?_
                              intro k' hk'
                              refine Go.slotEq 6 (tb ((decide (x14.2 = 0)) && ((x14.1 == a1) && bursarylaw31_sure))) rfl (eb (andT gd11 (andF gd12)).symm) ?_
                              exact J k' hk'
                          · have gd11p := of_decide_eq_false gd11
                            refine Go.rx 20 { ws := [(1, { v := some (tb false), er := some (82, x14.2) })] } [] [6] _ [(6, tb false)] [] hk rfl (by as_aux_lemma => kernel_rfl) (.cons (⟨rfl, rfl⟩ : (er 82 x14.2) = er 82 x14.2 ∧ (.leaf .nilIface : T) = .leaf .nilIface) (.cons (eb gd11) .nil)) ?_
                            intro k' hk'
                            refine Go.slotEq 6 (tb ((decide (x14.2 = 0)) && ((x14.1 == a1) && bursarylaw31_sure))) rfl (eb (andF gd11).symm) ?_
                            exact J k' hk'
                · intro hk J
                  rcases Bool.eq_false_or_eq_true (!(decide (x5.2 = 0))) with gd5 | gd5
                  · have gd5' : (decide (x5.2 = 0)) = false := ntT gd5
                    have gd5'p := of_decide_eq_false gd5'
                    refine Go.rx 20 { ws := [(1, { v := some (tb true), er := some (82, x5.2) })] } [] [1, 9, 91] _ [(1, .sl 1 .shr a1.length (u8s a1)), (9, .sl 1 .shr x4.1.length (u8s x4.1)), (91, tb true)] [] hk rfl (by as_aux_lemma => kernel_rfl) (.cons (⟨rfl, rfl⟩ : (er 82 x5.2) = er 82 x5.2 ∧ (.leaf .nilIface : T) = .leaf .nilIface) (.cons (eb gd5) .nil)) ?_
                    intro k' hk'
                    refine Go.slotEq 91 (tb ((!(decide (x5.2 = 0))) || ((!(bursarylaw31_lists x5.1 a0)) || ((id x6.2) != 4)))) rfl (eb (orT gd5).symm) ?_
                    exact J k' hk'
                  · have gd5' : (decide (x5.2 = 0)) = true := ntF gd5
                    have gd5'p := of_decide_eq_true gd5'
                    rcases Bool.eq_false_or_eq_true (!(bursarylaw31_lists x5.1 a0)) with gd6 | gd6
                    · have gd6' : (bursarylaw31_lists x5.1 a0) = false := ntT gd6
                      refine Go.rx 20 { ws := [(1, { v := some (tb false), er := some (82, x5.2) }), (5, { v := some (tb false), call := some { ids := [], S := [], M := [], R := tb (bursarylaw31_lists x5.1 a0), H' := [] } })] } [] [1, 9, 91] _ [(1, .sl 1 .shr a1.length (u8s a1)), (9, .sl 1 .shr x4.1.length (u8s x4.1)), (91, tb true)] [] hk rfl (by as_aux_lemma => kernel_rfl) (.cons (⟨rfl, rfl⟩ : (er 82 x5.2) = er 82 x5.2 ∧ (.leaf .nilIface : T) = .leaf .nilIface) (.cons (eb gd5) (.cons (bursarylaw31_lists_m (g_a := .shr) (g_b := .shr) x5.1 a0 (by first | omega | (simp <;> omega) | (have v := fx41 (by assumption); simp only [UInt64.toNat_mod, u64i_len x4.1.length (by omega)]; have u := Nat.mod_lt a2.toNat (show 0 < x4.1.length by omega); omega) | (simp at * <;> omega))) (.cons (by first | rfl | (simp only [T.ids, idsL, er_ids, List.append_nil, List.nil_append]; rfl) : subN (idsL [.sl 1 .shr x5.1.length (b8s .shr x5.1), .sl 1 .shr a0.length (b8s .shr a0)]) [] = true) (.cons (eb gd6') .nil))))) ?_
                      intro k' hk'
                      refine Go.slotEq 91 (tb ((!(decide (x5.2 = 0))) || ((!(bursarylaw31_lists x5.1 a0)) || ((id x6.2) != 4)))) rfl (eb (orF gd5 (orT gd6)).symm) ?_
                      exact J k' hk'
                    · have gd6' : (bursarylaw31_lists x5.1 a0) = true := ntF gd6
                      refine Go.rx 20 { ws := [(1, { v := some (tb false), er := some (82, x5.2) }), (5, { v := some (tb true), call := some { ids := [], S := [], M := [], R := tb (bursarylaw31_lists x5.1 a0), H' := [] } }), (10, { call := some { ids := [], S := [], M := [], R := ti (id x6.2), H' := [] } })] } [] [1, 9, 91] _ [(1, .sl 1 .shr a1.length (u8s a1)), (9, .sl 1 .shr x4.1.length (u8s x4.1)), (91, tb ((id x6.2) != 4))] [] hk rfl (by as_aux_lemma => kernel_rfl) (.cons (⟨rfl, rfl⟩ : (er 82 x5.2) = er 82 x5.2 ∧ (.leaf .nilIface : T) = .leaf .nilIface) (.cons (eb gd5) (.cons (bursarylaw31_lists_m (g_a := .shr) (g_b := .shr) x5.1 a0 (by first | omega | (simp <;> omega) | (have v := fx41 (by assumption); simp only [UInt64.toNat_mod, u64i_len x4.1.length (by omega)]; have u := Nat.mod_lt a2.toNat (show 0 < x4.1.length by omega); omega) | (simp at * <;> omega))) (.cons (by first | rfl | (simp only [T.ids, idsL, er_ids, List.append_nil, List.nil_append]; rfl) : subN (idsL [.sl 1 .shr x5.1.length (b8s .shr x5.1), .sl 1 .shr a0.length (b8s .shr a0)]) [] = true) (.cons (eb gd6') (.cons (bursarylaw31_num_m x6.2) (.cons (by first | rfl | (simp only [T.ids, idsL, er_ids, List.append_nil, List.nil_append]; rfl) : subN (idsL [er 82 x6.2]) [] = true) (.cons trivial .nil)))))))) ?_
                      intro k' hk'
                      refine Go.slotEq 91 (tb ((!(decide (x5.2 = 0))) || ((!(bursarylaw31_lists x5.1 a0)) || ((id x6.2) != 4)))) rfl (eb (orF gd5 (orF gd6 rfl)).symm) ?_
                      exact J k' hk'
              · have ct4p := of_decide_eq_false ct4
                refine Go.rx 20 { ws := [(1, { call := some { ids := [], S := [], M := [], R := .tup [.sl 1 .shr ((wire_Decode a1).1).length (b8s .shr ((wire_Decode a1).1)), er 82 ((wire_Decode a1).2)], H' := [] } })] } [] [1, 17, 18] _ [(1, .sl 1 .shr a1.length (u8s a1)), (17, .sl 1 .shr ((wire_Decode a1).1).length (b8s .shr ((wire_Decode a1).1))), (18, er 82 ((wire_Decode a1).2))] [] hk rfl (by as_aux_lemma => kernel_rfl) (.cons (wire_Decode_m (g_a0 := .shr) a1) (.cons (by first | rfl | (simp only [T.ids, idsL, er_ids, List.append_nil, List.nil_append]; rfl) : subN (idsL [.sl 1 .shr a1.length (u8s a1)]) [] = true) .nil)) ?_
                clear hk; intro k hk
                refine Go.bnd (Pf := (PostX Γ bursarylaw31_WireBack_enc)) (v := (wire_Decode a1)) (fun x15 => [(1, .sl 1 .shr a1.length (u8s a1)), (17, .sl 1 .shr x15.1.length (b8s .shr x15.1)), (18, er 82 x15.2)]) (fun x15 => []) ?_
                intro x15 hx15
                have fx15 := decode_fact a1
                rw [← hx15] at fx15
                obtain ⟨fx150, fx151⟩ := fx15
                refine Go.rx 20 { ws := [(1, { er := some (82, x15.2) })] } [] [1, 17, 113] _ [(1, .sl 1 .shr a1.length (u8s a1)), (17, .sl 1 .shr x15.1.length (b8s .shr x15.1)), (113, tb (!(decide (x15.2 = 0))))] [] hk rfl (by as_aux_lemma => kernel_rfl) (.cons (⟨rfl, rfl⟩ : (er 82 x15.2) = er 82 x15.2 ∧ (.leaf .nilIface : T) = .leaf .nilIface) .nil) ?_
                clear hk; intro k hk
                refine Go.br 20 (Pf := (PostX Γ bursarylaw31_WireBack_enc)) hk rfl rfl ?_ ?_ <;> clear hk <;> intro ct10 k hk
                · have ct10' : (decide (x15.2 = 0)) = false := ntT ct10
                  have ct10'p := of_decide_eq_false ct10'
                  refine Go.regJ 20 [(6, tb (((x15.1.length : Int) == 0) && bursarylaw31_sure))] [] hk rfl ?_ ?_
                  · clear hk; intro k hk
                    exact Go.lvx 20 [] _ [tb (((x15.1.length : Int) == 0) && bursarylaw31_sure)] Tryd.func9 hk rfl (by as_aux_lemma => kernel_rfl) .nil (T.Le.of_eq rfl) rfl rfl .nil
                  · intro hk J
                    rcases Bool.eq_false_or_eq_true ((x15.1.length : Int) == 0) with gd13 | gd13
                    · have gd13p := eqIt gd13
                      refine Go.rx 20 { ws := [(2, { v := some (tb true) }), (4, { call := some { ids := [], S := [], M := [], R := tb bursarylaw31_sure, H' := [] } })] } [] [6] _ [(6, tb bursarylaw31_sure)] [] hk rfl (by as_aux_lemma => kernel_rfl) (.cons trivial (.cons (eb gd13) (.cons (bursarylaw31_sure_m) (.cons (by first | rfl | (simp only [T.ids, idsL, er_ids, List.append_nil, List.nil_append]; rfl) : subN (idsL []) [] = true) .nil)))) ?_
                      intro k' hk'
                      refine Go.slotEq 6 (tb (((x15.1.length : Int) == 0) && bursarylaw31_sure)) rfl (eb (andT gd13 rfl).symm) ?_
                      exact J k' hk'
                    · have gd13p := eqIf gd13
                      refine Go.rx 20 { ws := [(2, { v := some (tb false) })] } [] [6] _ [(6, tb false)] [] hk rfl (by as_aux_lemma => kernel_rfl) (.cons trivial (.cons (eb gd13) .nil)) ?_
                      intro k' hk'
                      refine Go.slotEq 6 (tb (((x15.1.length : Int) == 0) && bursarylaw31_sure)) rfl (eb (andF gd13).symm) ?_
                      exact J k' hk'
                · have ct10' : (decide (x15.2 = 0)) = true := ntF ct10
                  have ct10'p := of_decide_eq_true ct10'
                  refine Go.rx 20 { ws := [(1, { call := some { ids := [], S := [], M := [], R := .tup [.sl 1 .shr ((wire_Encode x15.1).1).length (u8s ((wire_Encode x15.1).1)), er 82 ((wire_Encode x15.1).2)], H' := [] } })] } [] [1, 19, 20] _ [(1, .sl 1 .shr a1.length (u8s a1)), (19, .sl 1 .shr ((wire_Encode x15.1).1).length (u8s ((wire_Encode x15.1).1))), (20, er 82 ((wire_Encode x15.1).2))] [] hk rfl (by as_aux_lemma => kernel_rfl) (.cons (wire_Encode_m (g_l := .shr) x15.1) (.cons (by first | rfl | (simp only [T.ids, idsL, er_ids, List.append_nil, List.nil_append]; rfl) : subN (idsL [.sl 1 .shr x15.1.length (b8s .shr x15.1)]) [] = true) .nil)) ?_
                  clear hk; intro k hk
                  refine Go.bnd (Pf := (PostX Γ bursarylaw31_WireBack_enc)) (v := (wire_Encode x15.1)) (fun x16 => [(1, .sl 1 .shr a1.length (u8s a1)), (19, .sl 1 .shr x16.1.length (u8s x16.1)), (20, er 82 x16.2)]) (fun x16 => []) ?_
                  intro x16 hx16
                  have fx16 := encode_fact x15.1
                  rw [← hx16] at fx16
                  obtain ⟨fx160, fx161⟩ := fx16
                  refine Go.regJ 20 [(6, tb ((decide (x16.2 = 0)) && ((x16.1 == a1) && bursarylaw31_sure)))] [] hk rfl ?_ ?_
                  · clear hk; intro k hk
                    exact Go.lvx 20 [] _ [tb ((decide (x16.2 = 0)) && ((x16.1 == a1) && bursarylaw31_sure))] Tryd.func9 hk rfl (by as_aux_lemma => kernel_rfl) .nil (T.Le.of_eq rfl) rfl rfl .nil
                  · intro hk J
                    rcases Bool.eq_false_or_eq_true (decide (x16.2 = 0)) with gd14 | gd14
                    · have gd14p := of_decide_eq_true gd14
                      rcases Bool.eq_false_or_eq_true (x16.1 == a1) with gd15 | gd15
                      · refine Go.rx 20 { ws := [(1, { v := some (tb true), er := some (82, x16.2) }), (4, { b := x16.1 }), (6, { b := a1 }), (7, { v := some (tb true) }), (10, { call := some { ids := [], S := [], M := [], R := tb bursarylaw31_sure, H' := [] } })] } [] [6] _ [(6, tb bursarylaw31_sure)] [] hk rfl (by as_aux_lemma => kernel_rfl) (.cons (⟨rfl, rfl⟩ : (er 82 x16.2) = er 82 x16.2 ∧ (.leaf .nilIface : T) = .leaf .nilIface) (.cons (eb gd14) (.cons (rfl : u8s x16.1 = u8s x16.1) (.cons (rfl : u8s a1 = u8s a1) (.cons trivial (.cons ((s_eq x16.1 a1).trans (eb gd15)) (.cons (bursarylaw31_sure_m) (.cons (by first | rfl | (simp only [T.ids, idsL, er_ids, List.append_nil, List.nil_append]; rfl) : subN (idsL []) [] = true) .nil)))))))) ?_
                        intro k' hk'
                        refine Go.slotEq 6 (tb ((decide (x16.2 = 0)) && ((x16.1 == a1) && bursarylaw31_sure))) rfl (eb (andT gd14 (andT gd15 rfl)).symm) ?_
                        exact J k' hk'
                      · refine Go.rx 20 { ws := [(1, { v := some (tb true), er := some (82, x16.2) }), (4, { b := x16.1 }), (6, { b := a1 }), (7, { v := some (tb false) })] } [] [6] _ [(6, tb false)] [] hk rfl (by as_aux_lemma => kernel_rfl) (.cons (⟨rfl, rfl⟩ : (er 82 x16.2) = er 82 x16.2 ∧ (.leaf .nilIface : T) = .leaf .nilIface) (.cons (eb gd14) (.cons (rfl : u8s x16.1 = u8s x16.1) (.cons (rfl : u8s a1 = u8s a1) (.cons trivial (.cons ((s_eq x16.1 a1).trans (eb gd15)) .nil)))))) ?_
                        intro k' hk'
                        refine Go.slotEq 6 (tb ((decide (x16.2 = 0)) && ((x16.1 == a1) && bursarylaw31_sure))) rfl (eb (andT gd14 (andF gd15)).symm) ?_
                        exact J k' hk'
                    · have gd14p := of_decide_eq_false gd14
                      refine Go.rx 20 { ws := [(1, { v := some (tb false), er := some (82, x16.2) })] } [] [6] _ [(6, tb false)] [] hk rfl (by as_aux_lemma => kernel_rfl) (.cons (⟨rfl, rfl⟩ : (er 82 x16.2) = er 82 x16.2 ∧ (.leaf .nilIface : T) = .leaf .nilIface) (.cons (eb gd14) .nil)) ?_
                      intro k' hk'
                      refine Go.slotEq 6 (tb ((decide (x16.2 = 0)) && ((x16.1 == a1) && bursarylaw31_sure))) rfl (eb (andF gd14).symm) ?_
                      exact J k' hk'
          · intro hk J
            rcases Bool.eq_false_or_eq_true (decide (x4.2 = 0)) with gd4 | gd4
            · have gd4p := of_decide_eq_true gd4
              refine Go.rx 20 { ws := [(1, { v := some (tb true), er := some (82, x4.2) })] } [] [0, 1, 2, 9, 10, 59] _ [(0, .sl 1 .shr a0.length (b8s .shr a0)), (1, .sl 1 .shr a1.length (u8s a1)), (2, t64 a2), (9, .sl 1 .shr x4.1.length (u8s x4.1)), (10, er 82 x4.2), (59, tb ((x4.1.length : Int) == 0))] [] hk rfl (by as_aux_lemma => kernel_rfl) (.cons (⟨rfl, rfl⟩ : (er 82 x4.2) = er 82 x4.2 ∧ (.leaf .nilIface : T) = .leaf .nilIface) (.cons (eb gd4) (.cons trivial .nil))) ?_
              intro k' hk'
              refine Go.slotEq 59 (tb ((decide (x4.2 = 0)) && ((x4.1.length : Int) == 0))) rfl (eb (andT gd4 rfl).symm) ?_
              exact J k' hk'
            · have gd4p := of_decide_eq_false gd4
              refine Go.rx 20 { ws := [(1, { v := some (tb false), er := some (82, x4.2) })] } [] [0, 1, 2, 9, 10, 59] _ [(0, .sl 1 .shr a0.length (b8s .shr a0)), (1, .sl 1 .shr a1.length (u8s a1)), (2, t64 a2), (9, .sl 1 .shr x4.1.length (u8s x4.1)), (10, er 82 x4.2), (59, tb false)] [] hk rfl (by as_aux_lemma => kernel_rfl) (.cons (⟨rfl, rfl⟩ : (er 82 x4.2) = er 82 x4.2 ∧ (.leaf .nilIface : T) = .leaf .nilIface) (.cons (eb gd4) .nil)) ?_
              intro k' hk'
              refine Go.slotEq 59 (tb ((decide (x4.2 = 0)) && ((x4.1.length : Int) == 0))) rfl (eb (andF gd4).symm) ?_
              exact J k' hk'
      · intro hk J
        rcases Bool.eq_false_or_eq_true (!(decide ((wire_Read x2).2 = 0))) with gd2 | gd2
        · have gd2' : (decide ((wire_Read x2).2 = 0)) = false := ntT gd2
          have gd2'p := of_decide_eq_false gd2'
          refine Go.rx 20 { ws := [(1, { v := some (tb true), er := some (82, (wire_Read x2).2) })] } [] [0, 1, 2, 47] _ [(0, .sl 1 .shr a0.length (b8s .shr a0)), (1, .sl 1 .shr a1.length (u8s a1)), (2, t64 a2), (47, tb true)] [] hk rfl (by as_aux_lemma => kernel_rfl) (.cons (⟨rfl, rfl⟩ : (er 82 ((wire_Read x2).2)) = er 82 ((wire_Read x2).2) ∧ (.leaf .nilIface : T) = .leaf .nilIface) (.cons (eb gd2) .nil)) ?_
          intro k' hk'
          refine Go.slotEq 47 (tb ((!(decide ((wire_Read x2).2 = 0))) || ((((wire_Read x2).1) != a2) || (((wire_Number a2).length : Int) != 8)))) rfl (eb (orT gd2).symm) ?_
          exact J k' hk'
        · have gd2' : (decide ((wire_Read x2).2 = 0)) = true := ntF gd2
          have gd2'p := of_decide_eq_true gd2'
          rcases Bool.eq_false_or_eq_true (((wire_Read x2).1) != a2) with gd3 | gd3
          · refine Go.rx 20 { ws := [(1, { v := some (tb false), er := some (82, (wire_Read x2).2) }), (5, { v := some (tb true) })] } [] [0, 1, 2, 47] _ [(0, .sl 1 .shr a0.length (b8s .shr a0)), (1, .sl 1 .shr a1.length (u8s a1)), (2, t64 a2), (47, tb true)] [] hk rfl (by as_aux_lemma => kernel_rfl) (.cons (⟨rfl, rfl⟩ : (er 82 ((wire_Read x2).2)) = er 82 ((wire_Read x2).2) ∧ (.leaf .nilIface : T) = .leaf .nilIface) (.cons (eb gd2) (.cons trivial (.cons ((neB64 ((wire_Read x2).1) a2).trans (eb gd3)) .nil)))) ?_
            intro k' hk'
            refine Go.slotEq 47 (tb ((!(decide ((wire_Read x2).2 = 0))) || ((((wire_Read x2).1) != a2) || (((wire_Number a2).length : Int) != 8)))) rfl (eb (orF gd2 (orT gd3)).symm) ?_
            exact J k' hk'
          · refine Go.rx 20 { ws := [(1, { v := some (tb false), er := some (82, (wire_Read x2).2) }), (5, { v := some (tb false) }), (9, { call := some { ids := [], S := [], M := [], R := .sl 1 .shr (wire_Number a2).length (u8s (wire_Number a2)), H' := [] } })] } [] [0, 1, 2, 47] _ [(0, .sl 1 .shr a0.length (b8s .shr a0)), (1, .sl 1 .shr a1.length (u8s a1)), (2, t64 a2), (47, tb (((wire_Number a2).length : Int) != 8))] [] hk rfl (by as_aux_lemma => kernel_rfl) (.cons (⟨rfl, rfl⟩ : (er 82 ((wire_Read x2).2)) = er 82 ((wire_Read x2).2) ∧ (.leaf .nilIface : T) = .leaf .nilIface) (.cons (eb gd2) (.cons trivial (.cons ((neB64 ((wire_Read x2).1) a2).trans (eb gd3)) (.cons (wire_Number_m a2) (.cons (by first | rfl | (simp only [T.ids, idsL, er_ids, List.append_nil, List.nil_append]; rfl) : subN (idsL [t64 a2]) [] = true) (.cons trivial .nil))))))) ?_
            intro k' hk'
            refine Go.slotEq 47 (tb ((!(decide ((wire_Read x2).2 = 0))) || ((((wire_Read x2).1) != a2) || (((wire_Number a2).length : Int) != 8)))) rfl (eb (orF gd2 (orF gd3 rfl)).symm) ?_
            exact J k' hk'
  · intro hk J
    rcases Bool.eq_false_or_eq_true (bursarylaw31_bigList a0) with gd1 | gd1
    · refine Go.rx 20 { ws := [(1, { v := some (tb true), call := some { ids := [], S := [], M := [], R := tb (bursarylaw31_bigList a0), H' := [] } })] } [] [0, 1, 2, 27] _ [(0, .sl 1 .shr a0.length (b8s .shr a0)), (1, .sl 1 .shr a1.length (u8s a1)), (2, t64 a2), (27, tb true)] [] hk rfl (by as_aux_lemma => kernel_rfl) (.cons (bursarylaw31_bigList_m (g_l := .shr) a0) (.cons (by first | rfl | (simp only [T.ids, idsL, er_ids, List.append_nil, List.nil_append]; rfl) : subN (idsL [.sl 1 .shr a0.length (b8s .shr a0)]) [] = true) (.cons (eb gd1) .nil))) ?_
      intro k' hk'
      refine Go.slotEq 27 (tb ((bursarylaw31_bigList a0) || (decide ((a1.length : Int) > 3000)))) rfl (eb (orT gd1).symm) ?_
      exact J k' hk'
    · refine Go.rx 20 { ws := [(1, { v := some (tb false), call := some { ids := [], S := [], M := [], R := tb (bursarylaw31_bigList a0), H' := [] } })] } [] [0, 1, 2, 27] _ [(0, .sl 1 .shr a0.length (b8s .shr a0)), (1, .sl 1 .shr a1.length (u8s a1)), (2, t64 a2), (27, tb (decide ((a1.length : Int) > 3000)))] [] hk rfl (by as_aux_lemma => kernel_rfl) (.cons (bursarylaw31_bigList_m (g_l := .shr) a0) (.cons (by first | rfl | (simp only [T.ids, idsL, er_ids, List.append_nil, List.nil_append]; rfl) : subN (idsL [.sl 1 .shr a0.length (b8s .shr a0)]) [] = true) (.cons (eb gd1) (.cons trivial .nil)))) ?_
      intro k' hk'
      refine Go.slotEq 27 (tb ((bursarylaw31_bigList a0) || (decide ((a1.length : Int) > 3000)))) rfl (eb (orF gd1 rfl).symm) ?_
      exact J k' hk'
noncomputable def bursarylaw31_WireRoom_k1 (t1 : Int) (o2 : List (List UInt8)) : Bool :=
  bnd (wire_Encode o2) fun x1 =>
  bif (decide ((o2.length : Int) > 16)) || (decide (t1 > 1024)) then
    bnd (id x1.2) fun x2 =>
    (x2 == 3) && (((x1.1.length : Int) == 0) && bursarylaw31_sure)
  else
    (decide (x1.2 = 0)) && (((x1.1.length : Int) == t1) && ((((x1.1.getD 0 0).toNat : Int) == (o2.length : Int)) && bursarylaw31_sure))
noncomputable def bursarylaw31_WireRoom_l1 (a0 : List UInt16) : Nat → Int → Int → (List (List UInt8)) → Lo (Int × List (List UInt8)) Bool
  | 0, _, _, _ => .brk default
  | ml1 + 1, t41, t51, o1 =>
    bif decide (t51 < (a0.length : Int)) then
      bursarylaw31_WireRoom_l1 a0 ml1 (t41 + 2 + (((a0.getD t51.toNat 0).toNat : Int) % 1100)) (t51 + 1) (o1 ++ [List.replicate ((((a0.getD t51.toNat 0).toNat : Int) % 1100).toNat) (0 : UInt8)])
    else
      Lo.brk (t41, o1)
noncomputable def bursarylaw31_WireRoom (a0 : List UInt16) : Bool :=
  bif decide ((a0.length : Int) > 30) then
    bursarylaw31_sure
  else
    Lo.el (bursarylaw31_WireRoom_l1 a0 (((a0.length : Int) - (0 : Int)).toNat + 1) 1 0 []) (fun z : Int × List (List UInt8) => bursarylaw31_WireRoom_k1 z.1 z.2)
def bursarylaw31_WireRoom_enc (x : Bool) : T × List (Nat × List T) := (tb x, [])
theorem bursarylaw31_WireRoom_m {g_a0 : Tag} (a0 : List UInt16) : Meets Tryd.prog 10 [.sl 1 g_a0 a0.length (u16s a0)] [] [] (tb (bursarylaw31_WireRoom a0)) [] := by
  refine Meets.enterX (E := E) (N := 77) (enc := bursarylaw31_WireRoom_enc) (x := (bursarylaw31_WireRoom a0)) Tryd.func10 Tryd.call10 rfl rfl ?_
  intro Γ k hk
  refine Go.rx 20 {} [] [0] _ [(0, .sl 1 g_a0 a0.length (u16s a0))] [] hk rfl (by as_aux_lemma => kernel_rfl) .nil ?_
  clear hk; intro k hk
  refine Go.rx 20 {} [] [0, 11] _ [(0, .sl 1 g_a0 a0.length (u16s a0)), (11, tb (decide ((a0.length : Int) > 30)))] [] hk rfl (by as_aux_lemma => kernel_rfl) (.cons trivial .nil) ?_
  clear hk; intro k hk
  refine Go.br 20 (Pf := (PostX Γ bursarylaw31_WireRoom_enc)) hk rfl rfl ?_ ?_ <;> clear hk <;> intro ct1 k hk
  · have ct1p := of_decide_eq_true ct1
    refine Go.rx 20 { ws := [(0, { call := some { ids := [], S := [], M := [], R := tb bursarylaw31_sure, H' := [] } })] } [] [2] _ [(2, tb bursarylaw31_sure)] [] hk rfl (by as_aux_lemma => kernel_rfl) (.cons (bursarylaw31_sure_m) (.cons (by first | rfl | (simp only [T.ids, idsL, er_ids, List.append_nil, List.nil_append]; rfl) : subN (idsL []) [] = true) .nil)) ?_
    clear hk; intro k hk
    exact Go.lvx 20 [] _ [tb bursarylaw31_sure] Tryd.func10 hk rfl (by as_aux_lemma => kernel_rfl) .nil (T.Le.of_eq rfl) rfl rfl .nil
  · have ct1p := of_decide_eq_false ct1
    refine Go.rx 20 {} [] [0, 3] _ [(0, .sl 1 g_a0 a0.length (u16s a0)), (3, .leaf (.slice none 0 0))] [] hk rfl (by as_aux_lemma => kernel_rfl) .nil ?_
    clear hk; intro k hk
    refine Go.rx 20 {} [] [0, 3, 4] _ [(0, .sl 1 g_a0 a0.length (u16s a0)), (3, .leaf (.slice none 0 0)), (4, ti 1)] [] hk rfl (by as_aux_lemma => kernel_rfl) .nil ?_
    clear hk; intro k hk
    refine Go.rx 20 {} [] [0, 3, 4, 5] _ [(0, .sl 1 g_a0 a0.length (u16s a0)), (3, .leaf (.slice none 0 0)), (4, ti 1), (5, ti 0)] [] hk rfl (by as_aux_lemma => kernel_rfl) .nil ?_
    clear hk; intro k hk
    refine Go.phn 3 10 1 rfl (.inl rfl) rfl rfl ?_
    refine Go.loopX 20 hk rfl ?_
    clear hk; intro kl1 kxl1 hl1 hxl1
    have Xl1 : ∀ (t1 : Int) (o2 : List (List UInt8)), Go E Γ 10 77 [] ((PostX Γ bursarylaw31_WireRoom_enc) (bursarylaw31_WireRoom_k1 t1 o2)) kxl1 (stL [(3, .ref 10 1 0 o2.length), (4, ti t1)] [(10, b8s .shr o2)]) := by
      intro t1 o2
      refine Go.rx 20 { ws := [(1, { call := some { ids := [], S := [], M := [10], R := .tup [.sl 1 .shr ((wire_Encode o2).1).length (u8s ((wire_Encode o2).1)), er 82 ((wire_Encode o2).2)], H' := [] } })] } [] [3, 4, 7, 8] _ [(3, .ref 10 1 0 o2.length), (4, ti t1), (7, .sl 1 .shr ((wire_Encode o2).1).length (u8s ((wire_Encode o2).1))), (8, er 82 ((wire_Encode o2).2))] [(10, b8s .shr o2)] hxl1 rfl (by as_aux_lemma => kernel_rfl) (.cons (Meets.eqA (A := [.sl 1 .brw o2.length (sub (b8s .shr o2) 0 (o2.length * 1))]) (by first | rfl | simp only [mp_all]) (wire_Encode_m (g_l := .brw) o2)) (.cons (mp_ids (g := (fun c : List UInt8 => tl .shr c)) o2 (fun _ => rfl)) (.cons (by simp only [List.length_map]; first | omega | (simp <;> omega) | (simp at * <;> omega) | (split <;> omega) | (split <;> (first | omega | (simp <;> omega) | (simp at * <;> omega))) | (have v := fx11 (by assumption); omega) : 0 + o2.length * 1 ≤ (b8s .shr o2).length) (.cons (by first | rfl | (simp only [T.ids, idsL, er_ids, List.append_nil, List.nil_append]; rfl) : subN (idsL [.sl 1 .brw o2.length (sub (b8s .shr o2) 0 (o2.length * 1))]) [] = true) (.cons (by first | rfl | (simp only [T.noB, noBL, er_noB, u8s_noB, b8s_noB, Bool.and_self, Bool.true_and, Bool.and_true]; rfl) | simp only [T.noB, noBL, er_noB, u8s_noB, b8s_noB, Bool.and_self, Bool.true_and, Bool.and_true] : T.noB (.tup [.sl 1 .shr ((wire_Encode o2).1).length (u8s ((wire_Encode o2).1)), er 82 ((wire_Encode o2).2)]) = true) .nil))))) ?_
      clear hxl1; intro kxl1 hxl1
      refine Go.bnd (Pf := (PostX Γ bursarylaw31_WireRoom_enc)) (v := (wire_Encode o2)) (fun x1 => [(3, .ref 10 1 0 o2.length), (4, ti t1), (7, .sl 1 .shr x1.1.length (u8s x1.1)), (8, er 82 x1.2)]) (fun x1 => [(10, b8s .shr o2)]) ?_
      intro x1 hx1
      have fx1 := encode_fact o2
      rw [← hx1] at fx1
      obtain ⟨fx10, fx11⟩ := fx1
      refine Go.regJ 20 [(3, .ref 10 1 0 o2.length), (4, ti t1), (7, .sl 1 .shr x1.1.length (u8s x1.1)), (8, er 82 x1.2), (45, tb ((decide ((o2.length : Int) > 16)) || (decide (t1 > 1024))))] [(10, b8s .shr o2)] hxl1 rfl ?_ ?_
      · clear hxl1; intro kxl1 hxl1
        refine Go.br 20 (Pf := (PostX Γ bursarylaw31_WireRoom_enc)) hxl1 rfl rfl ?_ ?_ <;> clear hxl1 <;> intro ct2 kxl1 hxl1
        · refine Go.regJ 20 [(2, tb (((id x1.2) == 3) && (((x1.1.length : Int) == 0) && bursarylaw31_sure)))] [] hxl1 rfl ?_ ?_
          · clear hxl1; intro kxl1 hxl1
            refine Go.bnd (Pf := (PostX Γ bursarylaw31_WireRoom_enc)) (v := (id x1.2)) (fun x2 => [(2, tb ((x2 == 3) && (((x1.1.length : Int) == 0) && bursarylaw31_sure)))]) (fun x2 => []) ?_
            intro x2 hx2
            exact Go.lvx 20 [] _ [tb ((x2 == 3) && (((x1.1.length : Int) == 0) && bursarylaw31_sure))] Tryd.func10 hxl1 rfl (by as_aux_lemma => kernel_rfl) .nil (T.Le.of_eq rfl) rfl rfl .nil
          · intro hxl1 J
            rcases Bool.eq_false_or_eq_true ((id x1.2) == 3) with gd2 | gd2
            · have gd2p := eqIt gd2
              rcases Bool.eq_false_or_eq_true ((x1.1.length : Int) == 0) with gd3 | gd3
              · have gd3p := eqIt gd3
                refine Go.rx 20 { ws := [(1, { call := some { ids := [], S := [], M := [], R := ti (id x1.2), H' := [] } }), (2, { v := some (tb true) }), (6, { v := some (tb true) }), (9, { call := some { ids := [], S := [], M := [], R := tb bursarylaw31_sure, H' := [] } })], ps := [8, 46] } [10] [2] _ [(2, tb bursarylaw31_sure)] [] hxl1 rfl (by as_aux_lemma => kernel_rfl) (.cons (bursarylaw31_num_m x1.2) (.cons (by first | rfl | (simp only [T.ids, idsL, er_ids, List.append_nil, List.nil_append]; rfl) : subN (idsL [er 82 x1.2]) [] = true) (.cons trivial (.cons (eb gd2) (.cons trivial (.cons (eb gd3) (.cons (bursarylaw31_sure_m) (.cons (by first | rfl | (simp only [T.ids, idsL, er_ids, List.append_nil, List.nil_append]; rfl) : subN (idsL []) [] = true) (.cons (er_mem (i := 10) 82 x1.2) (.cons (er_mem (i := 10) 82 x1.2) .nil)))))))))) ?_
                intro k' hk'
                refine Go.slotEq 2 (tb (((id x1.2) == 3) && (((x1.1.length : Int) == 0) && bursarylaw31_sure))) rfl (eb (andT gd2 (andT gd3 rfl)).symm) ?_
                exact J k' hk'
              · have gd3p := eqIf gd3
                refine Go.rx 20 { ws := [(1, { call := some { ids := [], S := [], M := [], R := ti (id x1.2), H' := [] } }), (2, { v := some (tb true) }), (6, { v := some (tb false) })], ps := [8, 46] } [10] [2] _ [(2, tb false)] [] hxl1 rfl (by as_aux_lemma => kernel_rfl) (.cons (bursarylaw31_num_m x1.2) (.cons (by first | rfl | (simp only [T.ids, idsL, er_ids, List.append_nil, List.nil_append]; rfl) : subN (idsL [er 82 x1.2]) [] = true) (.cons trivial (.cons (eb gd2) (.cons trivial (.cons (eb gd3) (.cons (er_mem (i := 10) 82 x1.2) (.cons (er_mem (i := 10) 82 x1.2) .nil)))))))) ?_
                intro k' hk'
                refine Go.slotEq 2 (tb (((id x1.2) == 3) && (((x1.1.length : Int) == 0) && bursarylaw31_sure))) rfl (eb (andT gd2 (andF gd3)).symm) ?_
                exact J k' hk'
            · have gd2p := eqIf gd2
              refine Go.rx 20 { ws := [(1, { call := some { ids := [], S := [], M := [], R := ti (id x1.2), H' := [] } }), (2, { v := some (tb false) })], ps := [8, 46] } [10] [2] _ [(2, tb false)] [] hxl1 rfl (by as_aux_lemma => kernel_rfl) (.cons (bursarylaw31_num_m x1.2) (.cons (by first | rfl | (simp only [T.ids, idsL, er_ids, List.append_nil, List.nil_append]; rfl) : subN (idsL [er 82 x1.2]) [] = true) (.cons trivial (.cons (eb gd2) (.cons (er_mem (i := 10) 82 x1.2) (.cons (er_mem (i := 10) 82 x1.2) .nil)))))) ?_
              intro k' hk'
              refine Go.slotEq 2 (tb (((id x1.2) == 3) && (((x1.1.length : Int) == 0) && bursarylaw31_sure))) rfl (eb (andF gd2).symm) ?_
              exact J k' hk'
        · have ct21 : (decide ((o2.length : Int) > 16)) = false := (Bool.or_eq_false_iff.1 ct2).1
          have ct22 : (decide (t1 > 1024)) = false := (Bool.or_eq_false_iff.1 ct2).2
          have ct21p := of_decide_eq_false ct21
          have ct22p := of_decide_eq_false ct22
          refine Go.regJ 20 [(2, tb ((decide (x1.2 = 0)) && (((x1.1.length : Int) == t1) && ((((x1.1.getD 0 0).toNat : Int) == (o2.length : Int)) && bursarylaw31_sure))))] [] hxl1 rfl ?_ ?_
          · clear hxl1; intro kxl1 hxl1
            exact Go.lvx 20 [] _ [tb ((decide (x1.2 = 0)) && (((x1.1.length : Int) == t1) && ((((x1.1.getD 0 0).toNat : Int) == (o2.length : Int)) && bursarylaw31_sure)))] Tryd.func10 hxl1 rfl (by as_aux_lemma => kernel_rfl) .nil (T.Le.of_eq rfl) rfl rfl .nil
          · intro hxl1 J
            rcases Bool.eq_false_or_eq_true (decide (x1.2 = 0)) with gd4 | gd4
            · have gd4p := of_decide_eq_true gd4
              rcases Bool.eq_false_or_eq_true ((x1.1.length : Int) == t1) with gd5 | gd5
              · have gd5p := eqIt gd5
                rcases Bool.eq_false_or_eq_true (((x1.1.getD 0 0).toNat : Int) == (o2.length : Int)) with gd6 | gd6
                · have gd6p := eqIt gd6
                  have := lt8 (x1.1.getD 0 0)
                  refine Go.rx 20 { ws := [(1, { v := some (tb true), er := some (82, x1.2) }), (6, { v := some (tb true) }), (11, { v := some (t8 (x1.1.getD 0 0)) }), (12, { v := some (ti ((x1.1.getD 0 0).toNat : Int)) }), (15, { v := some (tb true) }), (18, { call := some { ids := [], S := [], M := [], R := tb bursarylaw31_sure, H' := [] } })], ps := [8, 57] } [10] [2] _ [(2, tb bursarylaw31_sure)] [] hxl1 rfl (by as_aux_lemma => kernel_rfl) (.cons (⟨rfl, rfl⟩ : (er 82 x1.2) = er 82 x1.2 ∧ (.leaf .nilIface : T) = .leaf .nilIface) (.cons (eb gd4) (.cons trivial (.cons (eb gd5) (.cons (by first | omega | (simp <;> omega) | (simp at * <;> omega) | (split <;> omega) | (split <;> (first | omega | (simp <;> omega) | (simp at * <;> omega))) | (have v := fx11 (by assumption); omega) : 0 ≤ (0 : Int) ∧ (0 : Int) < ((x1.1.length : Nat) : Int)) (.cons (part1 (by as_aux_lemma => kernel_rfl : (E.ti 5).agg = false) (mp_get (g := (fun c : UInt8 => T.leaf (.int .u8 c.toNat))) (k := 0) (n := 0) x1.1 (0 : UInt8) rfl (by first | omega | (simp <;> omega) | (simp at * <;> omega) | (split <;> omega) | (split <;> (first | omega | (simp <;> omega) | (simp at * <;> omega))) | (have v := fx11 (by assumption); omega)))) (.cons (cv8_i (x1.1.getD 0 0)) (.cons trivial (.cons (eb gd6) (.cons (bursarylaw31_sure_m) (.cons (by first | rfl | (simp only [T.ids, idsL, er_ids, List.append_nil, List.nil_append]; rfl) : subN (idsL []) [] = true) (.cons (er_mem (i := 10) 82 x1.2) (.cons (er_mem (i := 10) 82 x1.2) .nil))))))))))))) ?_
                  intro k' hk'
                  refine Go.slotEq 2 (tb ((decide (x1.2 = 0)) && (((x1.1.length : Int) == t1) && ((((x1.1.getD 0 0).toNat : Int) == (o2.length : Int)) && bursarylaw31_sure)))) rfl (eb (andT gd4 (andT gd5 (andT gd6 rfl))).symm) ?_
                  exact J k' hk'
                · have gd6p := eqIf gd6
                  have := lt8 (x1.1.getD 0 0)
                  refine Go.rx 20 { ws := [(1, { v := some (tb true), er := some (82, x1.2) }), (6, { v := some (tb true) }), (11, { v := some (t8 (x1.1.getD 0 0)) }), (12, { v := some (ti ((x1.1.getD 0 0).toNat : Int)) }), (15, { v := some (tb false) })], ps := [8, 57] } [10] [2] _ [(2, tb false)] [] hxl1 rfl (by as_aux_lemma => kernel_rfl) (.cons (⟨rfl, rfl⟩ : (er 82 x1.2) = er 82 x1.2 ∧ (.leaf .nilIface : T) = .leaf .nilIface) (.cons (eb gd4) (.cons trivial (.cons (eb gd5) (.cons (by first | omega | (simp <;> omega) | (simp at * <;> omega) | (split <;> omega) | (split <;> (first | omega | (simp <;> omega) | (simp at * <;> omega))) | (have v := fx11 (by assumption); omega) : 0 ≤ (0 : Int) ∧ (0 : Int) < ((x1.1.length : Nat) : Int)) (.cons (part1 (by as_aux_lemma => kernel_rfl : (E.ti 5).agg = false) (mp_get (g := (fun c : UInt8 => T.leaf (.int .u8 c.toNat))) (k := 0) (n := 0) x1.1 (0 : UInt8) rfl (by first | omega | (simp <;> omega) | (simp at * <;> omega) | (split <;> omega) | (split <;> (first | omega | (simp <;> omega) | (simp at * <;> omega))) | (have v := fx11 (by assumption); omega)))) (.cons (cv8_i (x1.1.getD 0 0)) (.cons trivial (.cons (eb gd6) (.cons (er_mem (i := 10) 82 x1.2) (.cons (er_mem (i := 10) 82 x1.2) .nil))))))))))) ?_
                  intro k' hk'
                  refine Go.slotEq 2 (tb ((decide (x1.2 = 0)) && (((x1.1.length : Int) == t1) && ((((x1.1.getD 0 0).toNat : Int) == (o2.length : Int)) && bursarylaw31_sure)))) rfl (eb (andT gd4 (andT gd5 (andF gd6))).symm) ?_
                  exact J k' hk'
              · have gd5p := eqIf gd5
                refine Go.rx 20 { ws := [(1, { v := some (tb true), er := some (82, x1.2) }), (6, { v := some (tb false) })], ps := [8, 57] } [10] [2] _ [(2, tb false)] [] hxl1 rfl (by as_aux_lemma => kernel_rfl) (.cons (⟨rfl, rfl⟩ : (er 82 x1.2) = er 82 x1.2 ∧ (.leaf .nilIface : T) = .leaf .nilIface) (.cons (eb gd4) (.cons trivial (.cons (eb gd5) (.cons (er_mem (i := 10) 82 x1.2) (.cons (er_mem (i := 10) 82 x1.2) .nil)))))) ?_
                intro k' hk'
                refine Go.slotEq 2 (tb ((decide (x1.2 = 0)) && (((x1.1.length : Int) == t1) && ((((x1.1.getD 0 0).toNat : Int) == (o2.length : Int)) && bursarylaw31_sure)))) rfl (eb (andT gd4 (andF gd5)).symm) ?_
                exact J k' hk'
            · have gd4p := of_decide_eq_false gd4
              refine Go.rx 20 { ws := [(1, { v := some (tb false), er := some (82, x1.2) })], ps := [8, 57] } [10] [2] _ [(2, tb false)] [] hxl1 rfl (by as_aux_lemma => kernel_rfl) (.cons (⟨rfl, rfl⟩ : (er 82 x1.2) = er 82 x1.2 ∧ (.leaf .nilIface : T) = .leaf .nilIface) (.cons (eb gd4) (.cons (er_mem (i := 10) 82 x1.2) (.cons (er_mem (i := 10) 82 x1.2) .nil)))) ?_
              intro k' hk'
              refine Go.slotEq 2 (tb ((decide (x1.2 = 0)) && (((x1.1.length : Int) == t1) && ((((x1.1.getD 0 0).toNat : Int) == (o2.length : Int)) && bursarylaw31_sure)))) rfl (eb (andF gd4).symm) ?_
              exact J k' hk'
      · intro hxl1 J
        rcases Bool.eq_false_or_eq_true (decide ((o2.length : Int) > 16)) with gd1 | gd1
        · have gd1p := of_decide_eq_true gd1
          refine Go.rx 20 { ws := [(2, { v := some (tb true) })] } [] [3, 4, 7, 8, 45] _ [(3, .ref 10 1 0 o2.length), (4, ti t1), (7, .sl 1 .shr x1.1.length (u8s x1.1)), (8, er 82 x1.2), (45, tb true)] [(10, b8s .shr o2)] hxl1 rfl (by as_aux_lemma => kernel_rfl) (.cons trivial (.cons (eb gd1) .nil)) ?_
          intro k' hk'
          refine Go.slotEq 45 (tb ((decide ((o2.length : Int) > 16)) || (decide (t1 > 1024)))) rfl (eb (orT gd1).symm) ?_
          exact J k' hk'
        · have gd1p := of_decide_eq_false gd1
          refine Go.rx 20 { ws := [(2, { v := some (tb false) })] } [] [3, 4, 7, 8, 45] _ [(3, .ref 10 1 0 o2.length), (4, ti t1), (7, .sl 1 .shr x1.1.length (u8s x1.1)), (8, er 82 x1.2), (45, tb (decide (t1 > 1024)))] [(10, b8s .shr o2)] hxl1 rfl (by as_aux_lemma => kernel_rfl) (.cons trivial (.cons (eb gd1) (.cons trivial .nil))) ?_
          intro k' hk'
          refine Go.slotEq 45 (tb ((decide ((o2.length : Int) > 16)) || (decide (t1 > 1024)))) rfl (eb (orF gd1 rfl).symm) ?_
          exact J k' hk'
    have Ll1 : ∀ (ml1 : Nat) (t41 : Int) (t51 : Int) (o1 : List (List UInt8)), (0 ≤ t41) → (t41 ≤ 1 + 1102 * t51) → (0 ≤ t51) → (t51 ≤ (a0.length : Int)) → ((o1.length : Int) = t51) → (((a0.length : Int) - t51).toNat < ml1) → Go E Γ 10 77 [] ((PostX Γ bursarylaw31_WireRoom_enc) (Lo.el (bursarylaw31_WireRoom_l1 a0 ml1 t41 t51 o1) (fun z : Int × List (List UInt8) => bursarylaw31_WireRoom_k1 z.1 z.2))) kl1 (stL [(0, .sl 1 g_a0 a0.length (u16s a0)), (3, .ref 10 1 0 o1.length), (4, ti t41), (5, ti t51)] [(10, b8s .shr o1)]) := by
      intro ml1
      induction ml1 with
      | zero => intro t41 t51 o1 i0l1 i1l1 i2l1 i3l1 i4l1 hml1; exact absurd hml1 (Nat.not_lt_zero _)
      | succ ml1 ihl1 =>
        intro t41 t51 o1 i0l1 i1l1 i2l1 i3l1 i4l1 hml1
        rw [bursarylaw31_WireRoom_l1]
        refine Go.round hl1 ?_
        intro k hk
        refine Go.rx 20 {} [] [0, 3, 4, 5, 16] _ [(0, .sl 1 g_a0 a0.length (u16s a0)), (3, .ref 10 1 0 o1.length), (4, ti t41), (5, ti t51), (16, tb (decide (t51 < (a0.length : Int))))] [(10, b8s .shr o1)] hk rfl (by as_aux_lemma => kernel_rfl) (.cons trivial .nil) ?_
        clear hk; intro k hk
        refine Go.br 20 (Pf := (fun z : Lo (Int × List (List UInt8)) (Bool) => (PostX Γ bursarylaw31_WireRoom_enc) (Lo.el z (fun z : Int × List (List UInt8) => bursarylaw31_WireRoom_k1 z.1 z.2)))) hk rfl rfl ?_ ?_ <;> clear hk <;> intro ct3 k hk
        · have ct3p := of_decide_eq_true ct3
          have := lt16 (a0.getD t51.toNat 0)
          refine Go.rx 20 { ws := [(3, { v := some (t16 (a0.getD t51.toNat 0)) }), (4, { v := some (ti ((a0.getD t51.toNat 0).toNat : Int)) }), (5, { v := some (ti (((a0.getD t51.toNat 0).toNat : Int) % 1100)) })] } [] [0, 3, 4, 5, 6] _ [(0, .sl 1 g_a0 a0.length (u16s a0)), (3, .ref 10 1 0 o1.length), (4, ti t41), (5, ti t51), (6, ti (((a0.getD t51.toNat 0).toNat : Int) % 1100))] [(10, b8s .shr o1)] hk rfl (by as_aux_lemma => kernel_rfl) (.cons (by first | omega | (simp <;> omega) | (simp at * <;> omega) | (split <;> omega) | (split <;> (first | omega | (simp <;> omega) | (simp at * <;> omega))) | (have v := fx11 (by assumption); omega) : 0 ≤ (t51 : Int) ∧ (t51 : Int) < ((a0.length : Nat) : Int)) (.cons (part1 (by as_aux_lemma => kernel_rfl : (E.ti 80).agg = false) (mp_get (g := (fun c : UInt16 => T.leaf (.int .u16 c.toNat))) (k := t51.toNat * 1) (n := t51.toNat) a0 (0 : UInt16) (by omega) (by first | omega | (simp <;> omega) | (simp at * <;> omega) | (split <;> omega) | (split <;> (first | omega | (simp <;> omega) | (simp at * <;> omega))) | (have v := fx11 (by assumption); omega)))) (.cons (cv16_i (a0.getD t51.toNat 0)) (.cons (by decide : 1100 ≠ (0 : Int)) (.cons (remI ((a0.getD t51.toNat 0).toNat : Int) 1100 (by first | omega | (simp <;> omega) | (simp at * <;> omega) | (split <;> omega) | (split <;> (first | omega | (simp <;> omega) | (simp at * <;> omega))) | (have v := fx11 (by assumption); omega))) .nil))))) ?_
          clear hk; intro k hk
          refine Go.rx 20 { ws := [(2, { v := some (.sl 1 .shr (List.replicate ((((a0.getD t51.toNat 0).toNat : Int) % 1100).toNat) (0 : UInt8)).length (u8s (List.replicate ((((a0.getD t51.toNat 0).toNat : Int) % 1100).toNat) (0 : UInt8)))), c := some (u8s (List.replicate ((((a0.getD t51.toNat 0).toNat : Int) % 1100).toNat) (0 : UInt8))), id := 11, gv := true }), (3, { id := 12 }), (4, { v := some (.ref 10 1 0 ((o1 ++ [List.replicate ((((a0.getD t51.toNat 0).toNat : Int) % 1100).toNat) (0 : UInt8)]).length)), c := some (b8s .shr (o1 ++ [List.replicate ((((a0.getD t51.toNat 0).toNat : Int) % 1100).toNat) (0 : UInt8)])), id := 10, sym := true })], pg := [10] } [11, 12] [0, 3, 4, 5, 6] _ [(0, .sl 1 g_a0 a0.length (u16s a0)), (3, .ref 10 1 0 ((o1 ++ [List.replicate ((((a0.getD t51.toNat 0).toNat : Int) % 1100).toNat) (0 : UInt8)]).length)), (4, ti t41), (5, ti t51), (6, ti (((a0.getD t51.toNat 0).toNat : Int) % 1100))] [(10, b8s .shr (o1 ++ [List.replicate ((((a0.getD t51.toNat 0).toNat : Int) % 1100).toNat) (0 : UInt8)]))] hk rfl (by as_aux_lemma => kernel_rfl) (.cons (by first | omega | (simp <;> omega) | (simp at * <;> omega) | (split <;> omega) | (split <;> (first | omega | (simp <;> omega) | (simp at * <;> omega))) | (have v := fx11 (by assumption); omega) : 0 ≤ (((a0.getD t51.toNat 0).toNat : Int) % 1100 : Int) ∧ (((a0.getD t51.toNat 0).toNat : Int) % 1100 : Int) ≤ ((a0.getD t51.toNat 0).toNat : Int) % 1100 ∧ (((a0.getD t51.toNat 0).toNat : Int) % 1100 : Int) < 9223372036854775808 ∧ ((1 : Nat) : Int) * (((a0.getD t51.toNat 0).toNat : Int) % 1100) ≤ 281474976710656) (.cons (mp_zeros (g := (fun c : UInt8 => T.leaf (.int .u8 c.toNat))) (n := Int.toNat (((a0.getD t51.toNat 0).toNat : Int) % 1100)) (x := (0 : UInt8)) (z := [.int .u8 0]) rfl) (.cons (giveOk (g := (fun c : UInt8 => T.leaf (.int .u8 c.toNat))) (n := Int.toNat (((a0.getD t51.toNat 0).toNat : Int) % 1100)) (List.replicate ((((a0.getD t51.toNat 0).toNat : Int) % 1100).toNat) (0 : UInt8)) (by simp) (fun _ => rfl)) (.cons (giveEq (g := (fun c : UInt8 => T.leaf (.int .u8 c.toNat))) (n := Int.toNat (((a0.getD t51.toNat 0).toNat : Int) % 1100)) (List.replicate ((((a0.getD t51.toNat 0).toNat : Int) % 1100).toNat) (0 : UInt8)) (by simp)) (.cons (Nat.le_of_ble_eq_true rfl : 0 + 1 * 1 ≤ ([.sl 1 .shr (List.replicate ((((a0.getD t51.toNat 0).toNat : Int) % 1100).toNat) (0 : UInt8)).length (u8s (List.replicate ((((a0.getD t51.toNat 0).toNat : Int) % 1100).toNat) (0 : UInt8)))] : List T).length) (.cons (by simp only [List.length_map]; omega : 0 + o1.length * 1 ≤ (b8s .shr o1).length) (.cons (rfl : scalL [.sl 1 .shr (List.replicate ((((a0.getD t51.toNat 0).toNat : Int) % 1100).toNat) (0 : UInt8)).length (u8s (List.replicate ((((a0.getD t51.toNat 0).toNat : Int) % 1100).toNat) (0 : UInt8)))] = true) (.cons (by first | omega | (simp <;> omega) | (simp at * <;> omega) | (split <;> omega) | (split <;> (first | omega | (simp <;> omega) | (simp at * <;> omega))) | (have v := fx11 (by assumption); omega) : (o1.length + 1) * 24 ≤ 140737488355328) (.cons (mp_app (g := (fun c : List UInt8 => tl .shr c)) (o1) [List.replicate ((((a0.getD t51.toNat 0).toNat : Int) % 1100).toNat) (0 : UInt8)] rfl) (.cons (mp_mem (i := 10) (g := (fun c : List UInt8 => tl .shr c)) (o1 ++ [List.replicate ((((a0.getD t51.toNat 0).toNat : Int) % 1100).toNat) (0 : UInt8)]) (fun _ => rfl)) (.cons (by first | rfl | (simp; done) | (refine congrArg (fun q => T.ref 10 1 0 q) ?_; simp <;> omega) : T.ref 10 1 0 (o1.length + 1) = .ref 10 1 0 ((o1 ++ [List.replicate ((((a0.getD t51.toNat 0).toNat : Int) % 1100).toNat) (0 : UInt8)]).length)) (.cons (mp_mem (i := 11) (g := (fun c : List UInt8 => tl .shr c)) (o1 ++ [List.replicate ((((a0.getD t51.toNat 0).toNat : Int) % 1100).toNat) (0 : UInt8)]) (fun _ => rfl)) (.cons (mp_mem (i := 12) (g := (fun c : List UInt8 => tl .shr c)) (o1 ++ [List.replicate ((((a0.getD t51.toNat 0).toNat : Int) % 1100).toNat) (0 : UInt8)]) (fun _ => rfl)) .nil))))))))))))) ?_
          clear hk; intro k hk
          refine Go.rx 20 { ws := [(1, { v := some (ti (t41 + 2)) }), (3, { v := some (ti (t41 + 2 + (((a0.getD t51.toNat 0).toNat : Int) % 1100))) })] } [] [0, 3, 4, 5] _ [(0, .sl 1 g_a0 a0.length (u16s a0)), (3, .ref 10 1 0 ((o1 ++ [List.replicate ((((a0.getD t51.toNat 0).toNat : Int) % 1100).toNat) (0 : UInt8)]).length)), (4, ti (t41 + 2 + (((a0.getD t51.toNat 0).toNat : Int) % 1100))), (5, ti t51)] [(10, b8s .shr (o1 ++ [List.replicate ((((a0.getD t51.toNat 0).toNat : Int) % 1100).toNat) (0 : UInt8)]))] hk rfl (by as_aux_lemma => kernel_rfl) (.cons trivial (.cons (iw (t41 + 2) (by first | omega | (simp <;> omega) | (simp at * <;> omega) | (split <;> omega) | (split <;> (first | omega | (simp <;> omega) | (simp at * <;> omega))) | (have v := fx11 (by assumption); omega))) (.cons trivial (.cons (iw (t41 + 2 + (((a0.getD t51.toNat 0).toNat : Int) % 1100)) (by first | omega | (simp <;> omega) | (simp at * <;> omega) | (split <;> omega) | (split <;> (first | omega | (simp <;> omega) | (simp at * <;> omega))) | (have v := fx11 (by assumption); omega))) .nil)))) ?_
          clear hk; intro k hk
          refine Go.rx 20 { ws := [(1, { v := some (ti (t51 + 1)) })] } [] [0, 3, 4, 5] _ [(0, .sl 1 g_a0 a0.length (u16s a0)), (3, .ref 10 1 0 ((o1 ++ [List.replicate ((((a0.getD t51.toNat 0).toNat : Int) % 1100).toNat) (0 : UInt8)]).length)), (4, ti (t41 + 2 + (((a0.getD t51.toNat 0).toNat : Int) % 1100))), (5, ti (t51 + 1))] [(10, b8s .shr (o1 ++ [List.replicate ((((a0.getD t51.toNat 0).toNat : Int) % 1100).toNat) (0 : UInt8)]))] hk rfl (by as_aux_lemma => kernel_rfl) (.cons trivial (.cons (iw (t51 + 1) (by first | omega | (simp <;> omega) | (simp at * <;> omega) | (split <;> omega) | (split <;> (first | omega | (simp <;> omega) | (simp at * <;> omega))) | (have v := fx11 (by assumption); omega))) .nil)) ?_
          clear hk; intro k hk
          exact Go.join 20 hk hl1 rfl (ihl1 (t41 + 2 + (((a0.getD t51.toNat 0).toNat : Int) % 1100)) (t51 + 1) (o1 ++ [List.replicate ((((a0.getD t51.toNat 0).toNat : Int) % 1100).toNat) (0 : UInt8)]) (by first | omega | (simp <;> omega) | (simp at * <;> omega) | (split <;> omega) | (split <;> (first | omega | (simp <;> omega) | (simp at * <;> omega))) | (have v := fx11 (by assumption); omega)) (by first | omega | (simp <;> omega) | (simp at * <;> omega) | (split <;> omega) | (split <;> (first | omega | (simp <;> omega) | (simp at * <;> omega))) | (have v := fx11 (by assumption); omega)) (by first | omega | (simp <;> omega) | (simp at * <;> omega) | (split <;> omega) | (split <;> (first | omega | (simp <;> omega) | (simp at * <;> omega))) | (have v := fx11 (by assumption); omega)) (by first | omega | (simp <;> omega) | (simp at * <;> omega) | (split <;> omega) | (split <;> (first | omega | (simp <;> omega) | (simp at * <;> omega))) | (have v := fx11 (by assumption); omega)) (by first | omega | (simp <;> omega) | (simp at * <;> omega) | (split <;> omega) | (split <;> (first | omega | (simp <;> omega) | (simp at * <;> omega))) | (have v := fx11 (by assumption); omega)) (by first | omega | (simp <;> omega) | (simp at * <;> omega) | (split <;> omega) | (split <;> (first | omega | (simp <;> omega) | (simp at * <;> omega))) | (have v := fx11 (by assumption); omega)))
        · have ct3p := of_decide_eq_false ct3
          refine Go.keepN [3, 4] (L' := [(3, .ref 10 1 0 o1.length), (4, ti t41)]) rfl ?_
          exact Go.join 20 hk hxl1 rfl (Xl1 t41 o1)
    exact Ll1 _ 1 0 [] (by first | omega | rfl) (by first | omega | rfl) (by first | omega | rfl) (by first | omega | rfl) (by first | omega | rfl) (Nat.lt_succ_self _)
end Go.Proofs.YtkomeflgnikflaaDoor

import Derived.Test.YtdlnppcndcfikaaDoorG3
set_option linter.unusedVariables false
set_option linter.unusedSimpArgs false
namespace Go.Proofs.YtdlnppcndcfikaaDoor
open Go Go.Vw Go.Proofs
noncomputable def bursarylaw34_bigList_k1 (l : List (List UInt8)) : Bool :=
  decide ((l.length : Int) > 40)
noncomputable def bursarylaw34_bigList_l1 (l : List (List UInt8)) : Nat → Int → Int → Lo Unit Bool
  | 0, _, _ => .brk default
  | ml1 + 1, n1, i1 =>
    bif (decide (i1 < (l.length : Int))) && (decide (i1 < 40)) then
      bif decide (n1 + (if 5000 < ((l.getD i1.toNat []).length : Int) then 5000 else ((l.getD i1.toNat []).length : Int)) > 3000) then
        Lo.ret true
      else
        bursarylaw34_bigList_l1 l ml1 (n1 + (if 5000 < ((l.getD i1.toNat []).length : Int) then 5000 else ((l.getD i1.toNat []).length : Int))) (i1 + 1)
    else
      Lo.brk ()
noncomputable def bursarylaw34_bigList (l : List (List UInt8)) : Bool :=
  Lo.el (bursarylaw34_bigList_l1 l (((l.length : Int) - (0 : Int)).toNat + 1) 0 0) (fun z : Unit => bursarylaw34_bigList_k1 l)
def bursarylaw34_bigList_enc (x : Bool) : T × List (Nat × List T) := (tb x, [])
theorem bursarylaw34_bigList_m {g_l : Tag} (l : List (List UInt8)) : Meets Tryd.prog 17 [.sl 1 g_l l.length (b8s .shr l)] [] [] (tb (bursarylaw34_bigList l)) [] := by
  refine Meets.enterX (E := E) (N := 28) (enc := bursarylaw34_bigList_enc) (x := (bursarylaw34_bigList l)) Tryd.func17 Tryd.call17 rfl rfl ?_
  intro Γ k hk
  refine Go.rx 20 {} [] [0] _ [(0, .sl 1 g_l l.length (b8s .shr l))] [] hk rfl kr .nil ?_
  clear hk; intro k hk
  refine Go.rx 20 {} [] [0, 3] _ [(0, .sl 1 g_l l.length (b8s .shr l)), (3, ti 0)] [] hk rfl kr .nil ?_
  clear hk; intro k hk
  refine Go.rx 20 {} [] [0, 3, 4] _ [(0, .sl 1 g_l l.length (b8s .shr l)), (3, ti 0), (4, ti 0)] [] hk rfl kr .nil ?_
  clear hk; intro k hk
  refine Go.loopX 20 hk rfl ?_
  clear hk; intro kl1 kxl1 hl1 hxl1
  have Xl1 : ∀ (_ : True), Go E Γ 17 28 [] ((PostX Γ bursarylaw34_bigList_enc) (bursarylaw34_bigList_k1 l)) kxl1 (stL [(0, .sl 1 g_l l.length (b8s .shr l))] []) := by
    intro _
    refine Go.rx 20 {} [] [2] _ [(2, tb (decide ((l.length : Int) > 40)))] [] hxl1 rfl kr (.cons trivial .nil) ?_
    clear hxl1; intro kxl1 hxl1
    exact Go.lvx 20 [] _ [tb (decide ((l.length : Int) > 40))] Tryd.func17 hxl1 rfl kr .nil (T.Le.of_eq rfl) rfl rfl .nil
  have Ll1 : ∀ (ml1 : Nat) (n1 : Int) (i1 : Int), (0 ≤ n1) → (n1 ≤ 3000) → (0 ≤ i1) → (((l.length : Int) - i1).toNat < ml1) → Go E Γ 17 28 [] ((PostX Γ bursarylaw34_bigList_enc) (Lo.el (bursarylaw34_bigList_l1 l ml1 n1 i1) (fun z : Unit => bursarylaw34_bigList_k1 l))) kl1 (stL [(0, .sl 1 g_l l.length (b8s .shr l)), (3, ti n1), (4, ti i1)] []) := by
    intro ml1
    induction ml1 with
    | zero => intro n1 i1 i0l1 i1l1 i2l1 hml1; exact absurd hml1 (Nat.not_lt_zero _)
    | succ ml1 ihl1 =>
      intro n1 i1 i0l1 i1l1 i2l1 hml1
      rw [bursarylaw34_bigList_l1]
      refine Go.round hl1 ?_
      intro k hk
      refine Go.regJ 20 [(0, .sl 1 g_l l.length (b8s .shr l)), (3, ti n1), (4, ti i1), (12, tb ((decide (i1 < (l.length : Int))) && (decide (i1 < 40))))] [] hk rfl ?_ ?_
      · clear hk; intro k hk
        refine Go.br 20 (Pf := (fun z : Lo (Unit) (Bool) => (PostX Γ bursarylaw34_bigList_enc) (Lo.el z (fun z : Unit => bursarylaw34_bigList_k1 l)))) hk rfl rfl ?_ ?_ <;> clear hk <;> intro ct1 k hk
        · have ct11 : (decide (i1 < (l.length : Int))) = true := (Bool.and_eq_true_iff.1 ct1).1
          have ct12 : (decide (i1 < 40)) = true := (Bool.and_eq_true_iff.1 ct1).2
          have ct11p := of_decide_eq_true ct11
          have ct12p := of_decide_eq_true ct12
          refine Go.rx 20 { ws := [(4, { v := some (.sl 1 .shr (l.getD i1.toNat []).length (u8s (l.getD i1.toNat []))) }), (7, { v := some (ti (n1 + (if 5000 < ((l.getD i1.toNat []).length : Int) then 5000 else ((l.getD i1.toNat []).length : Int)))) })] } [] [0, 3, 4] _ [(0, .sl 1 g_l l.length (b8s .shr l)), (3, ti (n1 + (if 5000 < ((l.getD i1.toNat []).length : Int) then 5000 else ((l.getD i1.toNat []).length : Int)))), (4, ti i1)] [] hk rfl kr (.cons (om : 0 ≤ (i1 : Int) ∧ (i1 : Int) < ((l.length : Nat) : Int)) (.cons (part1 (kr : (E.ti 22).agg = false) (mp_get (g := (fun c : List UInt8 => tl .shr c)) (k := i1.toNat * 1) (n := i1.toNat) l [] (by omega) om)) (.cons trivial (.cons (iw (n1 + (if 5000 < ((l.getD i1.toNat []).length : Int) then 5000 else ((l.getD i1.toNat []).length : Int))) om) .nil)))) ?_
          clear hk; intro k hk
          refine Go.rx 20 {} [] [0, 3, 4, 24] _ [(0, .sl 1 g_l l.length (b8s .shr l)), (3, ti (n1 + (if 5000 < ((l.getD i1.toNat []).length : Int) then 5000 else ((l.getD i1.toNat []).length : Int)))), (4, ti i1), (24, tb (decide (n1 + (if 5000 < ((l.getD i1.toNat []).length : Int) then 5000 else ((l.getD i1.toNat []).length : Int)) > 3000)))] [] hk rfl kr (.cons trivial .nil) ?_
          clear hk; intro k hk
          refine Go.br 20 (Pf := (fun z : Lo (Unit) (Bool) => (PostX Γ bursarylaw34_bigList_enc) (Lo.el z (fun z : Unit => bursarylaw34_bigList_k1 l)))) hk rfl rfl ?_ ?_ <;> clear hk <;> intro ct2 k hk
          · have ct2p := of_decide_eq_true ct2
            refine Go.rx 20 {} [] [2] _ [(2, tb true)] [] hk rfl kr .nil ?_
            clear hk; intro k hk
            exact Go.lvx 20 [] _ [tb true] Tryd.func17 hk rfl kr .nil (T.Le.of_eq rfl) rfl rfl .nil
          · have ct2p := of_decide_eq_false ct2
            refine Go.rx 20 { ws := [(1, { v := some (ti (i1 + 1)) })] } [] [0, 3, 4] _ [(0, .sl 1 g_l l.length (b8s .shr l)), (3, ti (n1 + (if 5000 < ((l.getD i1.toNat []).length : Int) then 5000 else ((l.getD i1.toNat []).length : Int)))), (4, ti (i1 + 1))] [] hk rfl kr (.cons trivial (.cons (iw (i1 + 1) om) .nil)) ?_
            clear hk; intro k hk
            exact Go.join 20 hk hl1 rfl (ihl1 (n1 + (if 5000 < ((l.getD i1.toNat []).length : Int) then 5000 else ((l.getD i1.toNat []).length : Int))) (i1 + 1) om om om om)
        · refine Go.keepN [0] (L' := [(0, .sl 1 g_l l.length (b8s .shr l))]) rfl ?_
          exact Go.exitX (Pf := (PostX Γ bursarylaw34_bigList_enc)) (F := fun z : Unit => bursarylaw34_bigList_k1 l) (a := ()) (Go.join 20 hk hxl1 rfl (Xl1 trivial))
      · intro hk J
        rcases Bool.eq_false_or_eq_true (decide (i1 < (l.length : Int))) with gd1 | gd1
        · have gd1p := of_decide_eq_true gd1
          refine Go.rx 20 { ws := [(3, { v := some (tb true) })] } [] [0, 3, 4, 12] _ [(0, .sl 1 g_l l.length (b8s .shr l)), (3, ti n1), (4, ti i1), (12, tb (decide (i1 < 40)))] [] hk rfl kr (.cons trivial (.cons (eb gd1) (.cons trivial .nil))) ?_
          intro k' hk'
          refine Go.slotEq 12 (tb ((decide (i1 < (l.length : Int))) && (decide (i1 < 40)))) rfl (eb (andT gd1 rfl).symm) ?_
          exact J k' hk'
        · have gd1p := of_decide_eq_false gd1
          refine Go.rx 20 { ws := [(3, { v := some (tb false) })] } [] [0, 3, 4, 12] _ [(0, .sl 1 g_l l.length (b8s .shr l)), (3, ti n1), (4, ti i1), (12, tb false)] [] hk rfl kr (.cons trivial (.cons (eb gd1) .nil)) ?_
          intro k' hk'
          refine Go.slotEq 12 (tb ((decide (i1 < (l.length : Int))) && (decide (i1 < 40)))) rfl (eb (andF gd1).symm) ?_
          exact J k' hk'
  exact Ll1 _ 0 0 om om om (Nat.lt_succ_self _)
theorem bigList_l1 (l : List (List UInt8)) : ∀ (m : Nat) (n i : Int), 0 ≤ i → 0 ≤ n → Lo.el (bursarylaw34_bigList_l1 l m n i) (fun _ => bursarylaw34_bigList_k1 l) = false → ((l.length : Int) - i).toNat < m → l.length ≤ 40 ∧ ∀ j : Nat, i ≤ j → j < l.length → (l.getD j []).length ≤ 3000 := by
  intro m
  induction m with
  | zero => intro n i _ _ _ h; exact absurd h (Nat.not_lt_zero _)
  | succ m ih =>
    intro n i h0 hn h hm
    rw [bursarylaw34_bigList_l1] at h
    cases c : (decide (i < (l.length : Int))) && (decide (i < 40)) with
    | false =>
      rw [c, cond_false] at h
      have h2 : ¬ (l.length : Int) > 40 := of_decide_eq_false h
      simp at c
      exact ⟨by omega, fun j hj hl => by omega⟩
    | true =>
      rw [c, cond_true] at h
      simp only [Bool.and_eq_true, decide_eq_true_eq] at c
      by_cases d : n + (if 5000 < ((l.getD i.toNat []).length : Int) then 5000 else ((l.getD i.toNat []).length : Int)) > 3000
      · rw [decide_eq_true d, cond_true] at h; exact absurd h (by simp [Lo.el])
      · rw [decide_eq_false d, cond_false] at h
        have hp : 0 ≤ (if 5000 < ((l.getD i.toNat []).length : Int) then 5000 else ((l.getD i.toNat []).length : Int)) := by split <;> omega
        obtain ⟨q, r⟩ := ih _ (i + 1) (by omega) (by omega) h (by omega)
        refine ⟨q, fun j hj hl => ?_⟩
        by_cases e : i = j
        · subst e; rw [Int.toNat_natCast] at d; split at d <;> omega
        · exact r j (by omega) hl
theorem bigList_fact (l : List (List UInt8)) (h : bursarylaw34_bigList l = false) : l.length ≤ 40 ∧ ∀ j : Nat, (l.getD j []).length ≤ 3000 := by
  rw [bursarylaw34_bigList] at h
  obtain ⟨q, r⟩ := bigList_l1 l _ 0 0 (by omega) (by omega) h (by omega)
  refine ⟨q, fun j => ?_⟩
  by_cases c : j < l.length
  · exact r j (by omega) c
  · rw [gD_out _ _ _ (by omega)]; simp
attribute [irreducible] bursarylaw34_bigList_k1 bursarylaw34_bigList_l1 bursarylaw34_bigList
end Go.Proofs.YtdlnppcndcfikaaDoor

import Derived.Test.YtbppcnhfeobefabDoorE2
set_option linter.unusedVariables false
set_option linter.unusedSimpArgs false
namespace Go.Proofs.YtbppcnhfeobefabDoor
open Go Go.Vw Go.Proofs
noncomputable def bursaryref06_Mac_k1 (b : List UInt8) (o3 : List UInt8) (o4 : List UInt8) : List UInt8 :=
  bnd (bursaryref05_Sum (o3 ++ b)) fun x2 =>
  bnd (bursaryref05_Sum (o4 ++ x2)) fun x3 =>
  x3
noncomputable def bursaryref06_Mac_l1 (x1 : List UInt8) : Nat → Int → (List UInt8) → (List UInt8) → Lo (List UInt8 × List UInt8) (List UInt8)
  | 0, _, _, _ => .brk default
  | ml1 + 1, i1, o1, o2 =>
    bif decide (i1 < 64) then
      bursaryref06_Mac_l1 x1 ml1 (i1 + 1) (o1 ++ [((cpy (List.replicate 64 (0 : UInt8)) 0 ((List.replicate 64 (0 : UInt8)).length) x1).getD i1.toNat 0) ^^^ 54]) (o2 ++ [((cpy (List.replicate 64 (0 : UInt8)) 0 ((List.replicate 64 (0 : UInt8)).length) x1).getD i1.toNat 0) ^^^ 92])
    else
      Lo.brk (o1, o2)
noncomputable def bursaryref06_Mac_k2 (b : List UInt8) (o7 : List UInt8) (o8 : List UInt8) : List UInt8 :=
  bnd (bursaryref05_Sum (o7 ++ b)) fun x4 =>
  bnd (bursaryref05_Sum (o8 ++ x4)) fun x5 =>
  x5
noncomputable def bursaryref06_Mac_l2 (key : List UInt8) : Nat → Int → (List UInt8) → (List UInt8) → Lo (List UInt8 × List UInt8) (List UInt8)
  | 0, _, _, _ => .brk default
  | ml2 + 1, i2, o5, o6 =>
    bif decide (i2 < 64) then
      bursaryref06_Mac_l2 key ml2 (i2 + 1) (o5 ++ [((cpy (List.replicate 64 (0 : UInt8)) 0 ((List.replicate 64 (0 : UInt8)).length) key).getD i2.toNat 0) ^^^ 54]) (o6 ++ [((cpy (List.replicate 64 (0 : UInt8)) 0 ((List.replicate 64 (0 : UInt8)).length) key).getD i2.toNat 0) ^^^ 92])
    else
      Lo.brk (o5, o6)
noncomputable def bursaryref06_Mac (key : List UInt8) (b : List UInt8) : List UInt8 :=
  bif decide ((key.length : Int) > 64) then
    bnd (bursaryref05_Sum key) fun x1 =>
    Lo.el (bursaryref06_Mac_l1 x1 ((64 - (0 : Int)).toNat + 1) 0 [] []) (fun z : List UInt8 × List UInt8 => bursaryref06_Mac_k1 b z.1 z.2)
  else
    Lo.el (bursaryref06_Mac_l2 key ((64 - (0 : Int)).toNat + 1) 0 [] []) (fun z : List UInt8 × List UInt8 => bursaryref06_Mac_k2 b z.1 z.2)
theorem rmac_l1 (x : List UInt8) : ∀ (m : Nat) (i : Int) (a b : List UInt8), ∃ z, bursaryref06_Mac_l1 x m i a b = Lo.brk z := by
  intro m
  induction m with
  | zero => intro i a b; exact ⟨_, bursaryref06_Mac_l1.eq_1 x i a b⟩
  | succ m ih =>
    intro i a b
    rw [bursaryref06_Mac_l1]
    cases decide (i < 64) with
    | true => rw [cond_true]; exact ih _ _ _
    | false => rw [cond_false]; exact ⟨_, rfl⟩
theorem rmac_l2 (x : List UInt8) : ∀ (m : Nat) (i : Int) (a b : List UInt8), ∃ z, bursaryref06_Mac_l2 x m i a b = Lo.brk z := by
  intro m
  induction m with
  | zero => intro i a b; exact ⟨_, bursaryref06_Mac_l2.eq_1 x i a b⟩
  | succ m ih =>
    intro i a b
    rw [bursaryref06_Mac_l2]
    cases decide (i < 64) with
    | true => rw [cond_true]; exact ih _ _ _
    | false => rw [cond_false]; exact ⟨_, rfl⟩
@[simp] theorem rmac_len (key b : List UInt8) : (bursaryref06_Mac key b).length = 32 := by
  by_cases c : key.length > 64
  · rw [bursaryref06_Mac, decide_eq_true (by omega : (key.length : Int) > 64), cond_true, bnd_eq]
    obtain ⟨z, h⟩ := rmac_l1 (bursaryref05_Sum key) ((64 - (0 : Int)).toNat + 1) 0 [] []
    rw [h, elB, bursaryref06_Mac_k1, bnd_eq, bnd_eq, rsum_len]
  · rw [bursaryref06_Mac, decide_eq_false (by omega : ¬ (key.length : Int) > 64), cond_false]
    obtain ⟨z, h⟩ := rmac_l2 key ((64 - (0 : Int)).toNat + 1) 0 [] []
    rw [h, elB, bursaryref06_Mac_k2, bnd_eq, bnd_eq, rsum_len]
theorem bursaryref06_Mac_l1_gen : True := by have := @bursaryref06_Mac_l1.eq_1; have := @bursaryref06_Mac_l1.eq_2; trivial
theorem bursaryref06_Mac_l2_gen : True := by have := @bursaryref06_Mac_l2.eq_1; have := @bursaryref06_Mac_l2.eq_2; trivial
attribute [irreducible] bursaryref06_Mac_k1 bursaryref06_Mac_l1 bursaryref06_Mac_k2 bursaryref06_Mac_l2 bursaryref06_Mac
end Go.Proofs.YtbppcnhfeobefabDoor

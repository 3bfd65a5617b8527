import Derived.Test.YtbppcnhfeobefabDoorE2
set_option linter.unusedVariables false
set_option linter.unusedSimpArgs false
namespace Go.Proofs.YtbppcnhfeobefabDoor
open Go Go.Vw Go.Proofs
abbrev z64 : List UInt8 := (List.replicate 64 (0 : UInt8))
noncomputable def r6_Mac_k1 (b : List UInt8) (o3 : List UInt8) (o4 : List UInt8) : List UInt8 :=
 bnd (r5_Sum (o3 ++ b)) fun x2 =>
 bnd (r5_Sum (o4 ++ x2)) fun x3 =>
 x3
noncomputable def r6_Mac_l1 (x1 : List UInt8) : Nat → Int → (List UInt8) → (List UInt8) → Lo (List UInt8 × List UInt8) (List UInt8)
 | 0, _, _, _ => .brk default
 | ml1 + 1, i1, o1, o2 =>
  bif decide (i1 < 64) then
   r6_Mac_l1 x1 ml1 (i1 + 1) (o1 ++ [((cpy z64 0 (z64.length) x1).getD i1.toNat 0) ^^^ 54]) (o2 ++ [((cpy z64 0 (z64.length) x1).getD i1.toNat 0) ^^^ 92])
  else
   Lo.brk (o1, o2)
noncomputable def r6_Mac_k2 (b : List UInt8) (o7 : List UInt8) (o8 : List UInt8) : List UInt8 :=
 bnd (r5_Sum (o7 ++ b)) fun x4 =>
 bnd (r5_Sum (o8 ++ x4)) fun x5 =>
 x5
noncomputable def r6_Mac_l2 (key : List UInt8) : Nat → Int → (List UInt8) → (List UInt8) → Lo (List UInt8 × List UInt8) (List UInt8)
 | 0, _, _, _ => .brk default
 | ml2 + 1, i2, o5, o6 =>
  bif decide (i2 < 64) then
   r6_Mac_l2 key ml2 (i2 + 1) (o5 ++ [((cpy z64 0 (z64.length) key).getD i2.toNat 0) ^^^ 54]) (o6 ++ [((cpy z64 0 (z64.length) key).getD i2.toNat 0) ^^^ 92])
  else
   Lo.brk (o5, o6)
noncomputable def r6_Mac (key : List UInt8) (b : List UInt8) : List UInt8 :=
 bif decide ((key.length : Int) > 64) then
  bnd (r5_Sum key) fun x1 =>
  Lo.el (r6_Mac_l1 x1 ((64 - (0 : Int)).toNat + 1) 0 [] []) (fun z : List UInt8 × List UInt8 => r6_Mac_k1 b z.1 z.2)
 else
  Lo.el (r6_Mac_l2 key ((64 - (0 : Int)).toNat + 1) 0 [] []) (fun z : List UInt8 × List UInt8 => r6_Mac_k2 b z.1 z.2)
theorem rmac_l1 (x : List UInt8) : ∀ (m : Nat) (i : Int) (a b : List UInt8), ∃ z, r6_Mac_l1 x m i a b = Lo.brk z := by
 intro m
 induction m with
 | zero => intro i a b; exact ⟨_, r6_Mac_l1.eq_1 x i a b⟩
 | succ m ih =>
  intro i a b
  rw [r6_Mac_l1]
  cases decide (i < 64) with
  | true => rw [cond_true]; exact ih _ _ _
  | false => rw [cond_false]; exact ⟨_, rfl⟩
theorem rmac_l2 (x : List UInt8) : ∀ (m : Nat) (i : Int) (a b : List UInt8), ∃ z, r6_Mac_l2 x m i a b = Lo.brk z := by
 intro m
 induction m with
 | zero => intro i a b; exact ⟨_, r6_Mac_l2.eq_1 x i a b⟩
 | succ m ih =>
  intro i a b
  rw [r6_Mac_l2]
  cases decide (i < 64) with
  | true => rw [cond_true]; exact ih _ _ _
  | false => rw [cond_false]; exact ⟨_, rfl⟩
@[simp] theorem rmac_len (key b : List UInt8) : (r6_Mac key b).length = 32 := by
 by_cases c : key.length > 64
 ·rw [r6_Mac, decide_eq_true (by omega : (key.length : Int) > 64), cond_true, bnd_eq]
  obtain ⟨z, h⟩ := rmac_l1 (r5_Sum key) ((64 - (0 : Int)).toNat + 1) 0 [] []
  rw [h, elB, r6_Mac_k1, bnd_eq, bnd_eq, rsum_len]
 ·rw [r6_Mac, decide_eq_false (by omega : ¬ (key.length : Int) > 64), cond_false]
  obtain ⟨z, h⟩ := rmac_l2 key ((64 - (0 : Int)).toNat + 1) 0 [] []
  rw [h, elB, r6_Mac_k2, bnd_eq, bnd_eq, rsum_len]
theorem r6_Mac_l1_gen : True := by have := @r6_Mac_l1.eq_1; have := @r6_Mac_l1.eq_2; trivial
theorem r6_Mac_l2_gen : True := by have := @r6_Mac_l2.eq_1; have := @r6_Mac_l2.eq_2; trivial
attribute [irreducible] r6_Mac_k1 r6_Mac_l1 r6_Mac_k2 r6_Mac_l2 r6_Mac
end Go.Proofs.YtbppcnhfeobefabDoor

/- The plain laws of sums. -/
import Derived.Test.YtdlnppcndcfikaaP2
import Derived.Test.YtdlnppcndcfikaaD9
namespace Go.Proofs.Ytdlnppcndcfikaa
open Go Go.Vw Go.Proofs
theorem sure05 : bursarylaw05_sure = true := by kernel_rfl
theorem nil_sum : (nil_Sum == ([0, 0, 0, 0, 0, 0, 0, 0, 0, 0, 0, 0, 0, 0, 0, 0, 0, 0, 0, 0, 0, 0, 0, 0, 0, 0, 0, 0, 0, 0, 0, 0] : List UInt8)) = true := by kernel_rfl
theorem shaSums_true (b : List UInt8) (cut : Int) : bursarylaw05_ShaSums b cut = true := by
  rw [bursarylaw05_ShaSums]
  by_cases c : (b.length : Int) > 1000
  · rw [decide_eq_true c, cond_true, sure05]
  · rw [decide_eq_false c, cond_false, nil_sum, Bool.not_true, cond_false]
    simp only [bnd_eq]
    rw [new_Hs, wr_Hs, wr_Hs, sm_Hs, rsum_eq b (by omega), sure05, List.nil_append, slc_drop, slc_take, List.take_append_drop]
    simp only [beq_self_eq_true, Bool.and_self]
theorem pieces_k2 (o3 o4 : List UInt8) : bursarylaw05_ShaPieces_k2 (Hs o4) (Hs o3) o3 o4 = true := by
  rw [bursarylaw05_ShaPieces_k2]
  simp only [bnd_eq, wr_Hs, sm_Hs, sure05, beq_self_eq_true, Bool.and_self]
noncomputable abbrev PF : hOT × hOT × List UInt8 × List UInt8 → Bool := fun z => bursarylaw05_ShaPieces_k2 z.1 z.2.1 z.2.2.1 z.2.2.2
theorem pieces_l2 (a0 : List (List UInt8)) (a1 : Int) : ∀ (m : Nat) (t : Int) (o3 o4 : List UInt8), (12 - t).toNat < m → Lo.el (bursarylaw05_ShaPieces_l2 a0 a1 m t (Hs o4) (Hs o3) o3 o4) PF = true := by
  intro m
  induction m with
  | zero => intro t o3 o4 h; exact absurd h (Nat.not_lt_zero _)
  | succ m ih =>
    intro t o3 o4 h
    rw [bursarylaw05_ShaPieces_l2]
    cases q : (decide (t < (a0.length : Int))) && (decide (t < 12)) with
    | false => rw [cond_false, elB]; exact pieces_k2 o3 o4
    | true =>
      have ht : t < 12 := by simp at q; exact q.2
      rw [cond_true]
      cases decide (((a0.getD t.toNat []).length : Int) > 300) with
      | true => rw [cond_true]; exact ih _ o3 o4 (by omega)
      | false =>
        rw [cond_false]
        cases t == a1 with
        | true =>
          rw [cond_true, cl_eq, bnd_eq, wr_Hs, bnd_eq, sm_Hs, bnd_eq, bnd_eq, beq_self_eq_true, Bool.not_true, cond_false, List.nil_append]
          exact ih _ o4 _ (by omega)
        | false =>
          rw [cond_false, wr_Hs, bnd_eq, sm_Hs, bnd_eq, bnd_eq, beq_self_eq_true, Bool.not_true, cond_false]
          exact ih _ o3 _ (by omega)
theorem pieces_l1 (a0 : List (List UInt8)) (a1 : Int) : ∀ (m : Nat) (t : Int), (12 - t).toNat < m → Lo.el (bursarylaw05_ShaPieces_l1 a0 a1 m t) (fun _ : Unit => bursarylaw05_ShaPieces_k1) = true := by
  intro m
  induction m with
  | zero => intro t h; exact absurd h (Nat.not_lt_zero _)
  | succ m ih =>
    intro t h
    rw [bursarylaw05_ShaPieces_l1]
    cases q : (decide (t < (a0.length : Int))) && (decide (t < 12)) with
    | false => rw [cond_false, elB, bursarylaw05_ShaPieces_k1, sure05]
    | true =>
      have ht : t < 12 := by simp at q; exact q.2
      rw [cond_true]
      cases decide (((a0.getD t.toNat []).length : Int) > 300) with
      | true => rw [cond_true]; exact ih _ (by omega)
      | false =>
        rw [cond_false, new_Hs, cl_eq, bnd_eq, wr_Hs, bnd_eq, sm_Hs, bnd_eq, bnd_eq, List.nil_append, beq_self_eq_true, Bool.not_true, cond_false]
        exact pieces_l2 a0 a1 _ _ [] _ (by omega)
theorem shaPieces_true (a0 : List (List UInt8)) (a1 : Int) : bursarylaw05_ShaPieces a0 a1 = true := by
  rw [bursarylaw05_ShaPieces]; exact pieces_l1 a0 a1 _ _ (by omega)
end Go.Proofs.Ytdlnppcndcfikaa

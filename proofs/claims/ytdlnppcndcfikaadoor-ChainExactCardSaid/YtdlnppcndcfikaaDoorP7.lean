import Derived.Test.YtdlnppcndcfikaaDoorPS
import Derived.Test.YtdlnppcndcfikaaDoorG5
set_option linter.unusedVariables false
set_option linter.unusedSimpArgs false
namespace Go.Proofs.YtdlnppcndcfikaaDoor
open Go Go.Vw Go.Proofs
theorem swap34 (a b : UInt64) (x y : List UInt8) : ((a == b) && (x == y)) = ((b == a) && (y == x)) := by
  rw [BEq.comm (a := a), BEq.comm (a := x)]
theorem chainExact_true (a0 : List UInt8) (a1 : List (List UInt8)) (a20 : UInt64) (a21 : List UInt8) : bursarylaw34_ChainExact a0 a1 a20 a21 = true := by
  rw [bursarylaw34_ChainExact, bnd_eq]
  cases q : (decide ((a0.length : Int) > 200)) || (bursarylaw34_bigList a1 || (decide ((a1.length : Int) > 12))) with
  | true => exact sure34
  | false =>
    rw [cond_false]
    rw [Bool.or_eq_false_iff, Bool.or_eq_false_iff] at q
    obtain ⟨q1, q2, q3⟩ := q
    obtain ⟨g1, g3⟩ := guard34 q1 q3
    have hq : ∀ i : Nat, (a1.getD i []).length ≤ 800000000 := fun i => Nat.le_trans ((bigList_fact a1 q2).2 i) (by decide)
    have w := verify_yes a0 a1 (by omega)
    have r := rof_eq a0 a1 (by omega) hq (by omega)
    have v := verify_eq a0 a1 a20 a21 (by omega)
    have o := of_eq a0 a1 (by omega)
    have n1 := rnext_eq a0 a20 a21 (a1.getD 0 []) (by omega) (hq 0)
    have n2 := rnext_eq a0 a20 a21 [] (by omega) (by simp)
    have d1 := rdecode_eq (a1.getD 0 [])
    have d2 := rdecode_eq []
    simp only [bnd_eq]
    rw [n1, n2, r, d1, d2, rencode_eq, o, w, v, sure34, swap34]
    generalize chain_Next a0 a20 a21 (a1.getD 0 []) = x1
    generalize chain_Next a0 a20 a21 [] = x2
    generalize chain_Decode (a1.getD 0 []) = x3
    generalize chain_Decode [] = x4
    generalize hAt a0 a1 a1.length = x5
    generalize chain_Encode a20 a21 = x6
    cases decide ((a1.length : Int) > 0) <;> simp <;> exact swap34 _ _ _ _
end Go.Proofs.YtdlnppcndcfikaaDoor

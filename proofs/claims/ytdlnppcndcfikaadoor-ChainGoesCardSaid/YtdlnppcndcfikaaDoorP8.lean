import Derived.Test.YtdlnppcndcfikaaDoorPS
import Derived.Test.YtdlnppcndcfikaaDoorG6
set_option linter.unusedVariables false
set_option linter.unusedSimpArgs false
namespace Go.Proofs.YtdlnppcndcfikaaDoor
open Go Go.Vw Go.Proofs
theorem goes_l1 (a0 : List UInt8) (a1 : List (List UInt8)) (hn : a1.length ≤ 12) : ∀ (m i : Nat), i ≤ a1.length → a1.length - i < m → bursarylaw34_ChainGoes_l1 a0 a1 m (i : Int) (hAt a0 a1 i) = Lo.brk (hAt a0 a1 a1.length)
  | 0, _, _, h => absurd h (Nat.not_lt_zero _)
  | m + 1, i, h1, h2 => by
    rw [bursarylaw34_ChainGoes_l1]
    by_cases c : i < a1.length
    · rw [decide_eq_true (by omega : (i : Int) < (a1.length : Int)), cond_true, Int.toNat_natCast, next_at _ _ _ (by omega)]
      simp only [bnd_eq]
      rw [slc_take, slc_take, show ((i : Int) + 1).toNat = i + 1 by omega, Int.toNat_natCast, of_take a0 a1 (by omega) (i + 1) (by omega), verify_take a0 a1 (by omega) (i + 1) (by omega), verify_take_no a0 a1 (by omega) i (i + 1) (by omega) (by omega) (by omega), hAt_n _ _ _ (by omega)]
      have w := goes_l1 a0 a1 hn m (i + 1) (by omega) (by omega)
      rw [Int.natCast_add i 1] at w
      have e : ((!(decide True)) || ((!(((hAt a0 a1 (i + 1)).1 == (hAt a0 a1 (i + 1)).1) && (fxa 32 (hAt a0 a1 (i + 1)).2 == fxa 32 (hAt a0 a1 (i + 1)).2))) || ((((i + 1 : Nat) : Int) != ((i : Int) + 1)) || ((!true) || false)))) = false := by simp
      rw [e, cond_false]
      exact w
    · have e : i = a1.length := by omega
      subst e
      rw [decide_eq_false (by omega), cond_false]
theorem chainGoes_true (a0 : List UInt8) (a1 : List (List UInt8)) : bursarylaw34_ChainGoes a0 a1 = true := by
  rw [bursarylaw34_ChainGoes, bnd_eq]
  cases q : (decide ((a0.length : Int) > 200)) || (bursarylaw34_bigList a1 || (decide ((a1.length : Int) > 12))) with
  | true => exact sure34
  | false =>
    rw [cond_false]
    rw [Bool.or_eq_false_iff, Bool.or_eq_false_iff] at q
    obtain ⟨q1, q2, q3⟩ := q
    obtain ⟨g1, g3⟩ := guard34 q1 q3
    rw [show bursarylaw34_ChainGoes_l1 a0 a1 (((a1.length : Int) - (0 : Int)).toNat + 1) 0 (0, List.replicate 32 (0 : UInt8)) = _ from goes_l1 a0 a1 g3 (((a1.length : Int) - (0 : Int)).toNat + 1) 0 (Nat.zero_le _) (by omega), elB, bursarylaw34_ChainGoes_k1]
    simp only [bnd_eq]
    rw [of_eq a0 a1 (by omega), verify_app_no a0 a1 [] (by omega), sure34]
    simp
end Go.Proofs.YtdlnppcndcfikaaDoor

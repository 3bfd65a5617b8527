import Derived.Test.YtdlnppcndcfikaaDoorPS
import Derived.Test.YtdlnppcndcfikaaDoorG7
set_option linter.unusedVariables false
set_option linter.unusedSimpArgs false
namespace Go.Proofs.YtdlnppcndcfikaaDoor
open Go Go.Vw Go.Proofs
theorem chainCuts_true (key : List UInt8) (l : List (List UInt8)) (more : List UInt8) : bursarylaw34_ChainCuts key l more = true := by
  rw [bursarylaw34_ChainCuts, bnd_eq]
  cases q : (decide ((key.length : Int) > 200)) || (bursarylaw34_bigList l || ((decide ((l.length : Int) > 12)) || (decide ((more.length : Int) > 300)))) with
  | true => exact sure34
  | false =>
    rw [cond_false]
    rw [Bool.or_eq_false_iff, Bool.or_eq_false_iff, Bool.or_eq_false_iff] at q
    obtain ⟨q1, q2, q3, q4⟩ := q
    obtain ⟨g1, g3⟩ := guard34 q1 q3
    rw [of_eq key l (by omega), bnd_eq]
    rcases cmpLoop (f := bursarylaw34_ChainCuts_l1 key l (hAt key l l.length)) (n := (l.length : Int)) (p := fun i => chain_Verify key (slc l 0 (i : Int)) (hAt key l l.length).1 (hAt key l l.length).2) (r := false) (fun m i h => by rw [bursarylaw34_ChainCuts_l1, bnd_eq, Int.toNat_of_nonneg h]) (((l.length : Int) - (0 : Int)).toNat + 1) 0 (by omega) (Nat.lt_succ_self _) with ⟨q, e⟩ | ⟨⟨j, h1, h2, q⟩, e⟩
    · rw [e, elB, bursarylaw34_ChainCuts_k1]
      simp only [bnd_eq]
      rw [verify_yes key l (by omega), verify_app_no key l more (by omega), sure34]; rfl
    · rw [slc_take, Int.toNat_natCast, verify_take_no key l (by omega) j l.length (by omega) (Nat.le_refl _) (by omega)] at q
      exact absurd q (by simp)
end Go.Proofs.YtdlnppcndcfikaaDoor

import Derived.Test.YtbppcnhfeobefaaDoorPE5
set_option linter.unusedVariables false
set_option linter.unusedSimpArgs false
namespace Go.Proofs.YtbppcnhfeobefaaDoor
open Go Go.Vw Go.Proofs
theorem isV_self (v : Ver) : bursarylaw30_isVersion v.1 v.2.1 v.2.2.1 v.2.2.2 v.1 v.2.1 v.2.2.1 v.2.2.2 = true := by rw [bursarylaw30_isVersion]; simp
theorem isS_self (l : List Ver) (a : UInt32) (b : Int) : bursarylaw30_isSecret l a b l a b = true := by
  rw [bursarylaw30_isSecret]
  rw [show ((a != a) || ((b != b) || ((l.length : Int) != (l.length : Int)))) = false by simp, cond_false]
  rcases cmpLoop (f := bursarylaw30_isSecret_l1 l l) (n := (l.length : Int)) (p := fun _ => false) (r := false) (fun m i h => by rw [bursarylaw30_isSecret_l1, bnd_eq, isV_self]; rfl) _ 0 (Int.le_refl 0) (Nat.lt_succ_self _) with ⟨_, h⟩ | ⟨⟨_, _, _, h⟩, _⟩
  · rw [h]; show bursarylaw30_isSecret_k1 = true; rw [bursarylaw30_isSecret_k1]
  · cases h
theorem sure30_true : bursarylaw30_sure = true := by kernel_rfl
end Go.Proofs.YtbppcnhfeobefaaDoor

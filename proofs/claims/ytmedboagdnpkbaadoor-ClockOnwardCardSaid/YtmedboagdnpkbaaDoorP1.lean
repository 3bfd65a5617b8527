import Derived.Test.YtmedboagdnpkbaaDoorD1
namespace Go.Proofs.YtmedboagdnpkbaaDoor
open Go Go.Vw Go.Proofs
theorem sure27 : bursarylaw27_sure = true := by kernel_rfl
theorem u64_sub (a b : UInt64) : (a - b).toNat = (a.toNat + (18446744073709551616 - b.toNat)) % 18446744073709551616 := by
  rw [UInt64.toNat_sub]; have := a.toNat_lt; have := b.toNat_lt; omega
theorem tick_eq (a b : UInt64) : clock_Tick a b = bursaryref27_Tick a b := by
  unfold clock_Tick bursaryref27_Tick
  have h : (decide (b > 18446744073709551615 - a)) = decide (a > 18446744073709551615 - b) := by
    rw [decide_eq_decide]; simp only [GT.gt, UInt64.lt_iff_toNat_lt, u64_sub]
    have := a.toNat_lt; have := b.toNat_lt
    simp
    omega
  rw [h]
theorem over_eq (a b : UInt64) : clock_Over a b = bursaryref27_Over a b := by
  unfold clock_Over bursaryref27_Over
  rw [Bool.and_comm]
end Go.Proofs.YtmedboagdnpkbaaDoor

import Derived.Test.YtbppcnhfeobefabDoorP1
set_option linter.unusedVariables false
set_option linter.unusedSimpArgs false
namespace Go.Proofs.YtbppcnhfeobefabDoor
open Go Go.Vw Go.Proofs
abbrev H0 : V8 := (1779033703, 3144134277, 1013904242, 2773480762, 1359893119, 2600822924, 528734635, 1541459225)
noncomputable def Hs (a : List UInt8) : hOT := ((absb H0 a).1, (absb H0 a).2, u64i (a.length : Int))
theorem u64i_add (a b : Nat) : u64i (a : Int) + u64i (b : Int) = u64i ((a + b : Nat) : Int) := by
 apply UInt64.toNat_inj.1
 rw [UInt64.toNat_add, u64i, u64i, u64i, UInt64.toNat_ofNat', UInt64.toNat_ofNat', UInt64.toNat_ofNat']
 omega
theorem Hs_rest (a : List UInt8) : (Hs a).2.1.length < 64 := absb_len _ _ _ (Nat.lt_succ_self _)
theorem new_Hs : sha_New = Hs [] := by
 rw [Hs, absb_lt (by decide), sha_New, sha_first]; rfl
theorem wr_Hs (a b : List UInt8) : sH_Write (Hs a) b = Hs (a ++ b) := by
 rw [write_eq _ _ (Hs_rest a)]
 have h := absb_app (a.length + 1) H0 a b (Nat.lt_succ_self _)
 rw [show Hs (a ++ b) = ((absb H0 (a ++ b)).1, (absb H0 (a ++ b)).2, u64i ((a ++ b).length : Int)) from rfl, h, List.length_append, ← u64i_add]
 rfl
theorem ssum_dig (a : List UInt8) : sha_Sum a = dig (Hs a).1 (Hs a).2.1 (Hs a).2.2 := by
 rw [sha_Sum, new_Hs, wr_Hs, List.nil_append, bnd_eq, bnd_eq, sum_eq _ (Hs_rest a)]
theorem sm_Hs (a : List UInt8) : sH_Sum (Hs a) = (sha_Sum a, Hs a) := by
 rw [sum_eq _ (Hs_rest a), ssum_dig]
theorem cl_eq (x : hOT) : sH_Clone x = (x, x) := by
 rw [sH_Clone]; rfl
end Go.Proofs.YtbppcnhfeobefabDoor

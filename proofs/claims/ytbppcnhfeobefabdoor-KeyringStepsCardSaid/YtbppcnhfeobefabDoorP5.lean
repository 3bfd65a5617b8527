import Derived.Test.YtbppcnhfeobefabDoorF1
import Derived.Test.YtbppcnhfeobefabDoorPM
set_option linter.unusedVariables false
namespace Go.Proofs.YtbppcnhfeobefabDoor
open Go Go.Vw Go.Proofs
theorem exp_l1 (key info : List UInt8) (n : Int) (hn : n ≤ 8160) (hk : key.length ≤ 1000) (hi : info.length ≤ 1000) : ∀ (m : Nat) (i : Int) (o l : List UInt8), (o.length : Int) = 32 * (i - 1) → l.length ≤ 32 → r7_Expand_l1 key info n m i o l = hkdf_Expand_l1 key info n m i o l := by
 intro m
 induction m with
 | zero => intro i o l _ _; rw [r7_Expand_l1.eq_1, hkdf_Expand_l1.eq_1]
 | succ m ih =>
  intro i o l h1 h2
  rw [r7_Expand_l1, hkdf_Expand_l1, h1]
  cases decide (32 * (i - 1) < n) with
  | true =>
   rw [cond_true, cond_true, bnd_eq, bnd_eq, hmac_eq, concat_eq, rmac_eq _ _ (by omega) (by simp only [List.length_append, List.length_cons, List.length_nil]; omega)]
   have e : [l, info, [u8i i]].flatten = l ++ info ++ [u8i i] := by simp
   rw [e]
   exact ih _ _ _ (by rw [List.length_append, mac_len]; omega) (by rw [mac_len]; decide)
  | false => rw [cond_false, cond_false]
theorem rexpand_eq (key info : List UInt8) (n : Int) (hk : key.length ≤ 1000) (hi : info.length ≤ 1000) : r7_Expand key info n = hkdf_Expand key info n := by
 rw [r7_Expand, hkdf_Expand]
 cases q : (decide (n < 0)) || (decide (n > 8160)) with
 | true => rfl
 | false =>
  simp only [Bool.or_eq_false_iff, decide_eq_false_iff_not] at q
  rw [cond_false, cond_false, exp_l1 key info n (by omega) hk hi _ 1 [] [] (by simp) (by simp)]
  congr 1
  funext z
  rw [r7_Expand_k1, hkdf_Expand_k1]
theorem b24 (n : UInt32) : (shr32 n 24).toUInt8 = (n / 16777216).toUInt8 := by
 apply u8eq; rw [UInt32.toNat_toUInt8, UInt32.toNat_toUInt8, shr32, UInt32.toNat_ofNat', UInt32.toNat_div]
 have h := n.toNat_lt; have e : (16777216 : UInt32).toNat = 16777216 := rfl; have e2 : (2 : Nat) ^ ((24 : Int)).toNat = 16777216 := rfl
 rw [e, e2]; omega
theorem b16 (n : UInt32) : (shr32 n 16).toUInt8 = ((n / 65536) % 256).toUInt8 := by
 apply u8eq; rw [UInt32.toNat_toUInt8, UInt32.toNat_toUInt8, shr32, UInt32.toNat_ofNat', UInt32.toNat_mod, UInt32.toNat_div]
 have h := n.toNat_lt; have e : (65536 : UInt32).toNat = 65536 := rfl; have e2 : (2 : Nat) ^ ((16 : Int)).toNat = 65536 := rfl; have e3 : (256 : UInt32).toNat = 256 := rfl
 rw [e, e2, e3]; omega
theorem b8 (n : UInt32) : (shr32 n 8).toUInt8 = ((n / 256) % 256).toUInt8 := by
 apply u8eq; rw [UInt32.toNat_toUInt8, UInt32.toNat_toUInt8, shr32, UInt32.toNat_ofNat', UInt32.toNat_mod, UInt32.toNat_div]
 have h := n.toNat_lt; have e2 : (2 : Nat) ^ ((8 : Int)).toNat = 256 := rfl; have e3 : (256 : UInt32).toNat = 256 := rfl
 rw [e2, e3]; omega
theorem b0 (n : UInt32) : n.toUInt8 = (n % 256).toUInt8 := by
 apply u8eq; rw [UInt32.toNat_toUInt8, UInt32.toNat_toUInt8, UInt32.toNat_mod]
 have e3 : (256 : UInt32).toNat = 256 := rfl
 rw [e3]; omega
theorem empty_lt (l : List UInt8) : (l == []) = decide ((l.length : Int) < 1) := by
 cases l with
 | nil => rfl
 | cons a l => rw [decide_eq_false (by simp only [List.length_cons]; omega)]; rfl
theorem rkey_eq (key use : List UInt8) (n : UInt32) : r7_Key key use n = hkdf_Key key use n := by
 rw [r7_Key, hkdf_Key, empty_lt]
 cases q : ((key.length : Int) != 32) || ((decide ((use.length : Int) < 1)) || (decide ((use.length : Int) > 32))) with
 | true => rfl
 | false =>
  simp only [Bool.or_eq_false_iff, decide_eq_false_iff_not, bne_eq_false_iff_eq] at q
  rw [cond_false, cond_false, bnd_eq, bnd_eq, concat_eq, b24, b16, b8, b0 n]
  have e (x : List UInt8) : [use, x].flatten = use ++ x := by simp
  rw [e, rexpand_eq _ _ _ (by omega) (by simp only [List.length_append, List.length_cons, List.length_nil]; omega)]
end Go.Proofs.YtbppcnhfeobefabDoor

import Derived.Test.YtbppcnhfeobefabDoorE3
set_option linter.unusedVariables false
namespace Go.Proofs.YtbppcnhfeobefabDoor
open Go Go.Vw Go.Proofs
theorem cpy_pk (x : List UInt8) (h : x.length ≤ 64) : cpy z64 0 (z64.length) x = x ++ List.replicate (64 - x.length) 0 := by
 rw [cpy, List.length_replicate, List.take_zero, List.nil_append, List.take_of_length_le h, Nat.zero_add, List.drop_replicate]
theorem rm_l1 (x : List UInt8) (h : x.length ≤ 64) : ∀ (m i : Nat) (a b : List UInt8), i ≤ 64 → 64 - i < m →
  r6_Mac_l1 x m (i : Int) a b = Lo.brk (a ++ ((x ++ List.replicate (64 - x.length) 0).drop i).map (· ^^^ 54), b ++ ((x ++ List.replicate (64 - x.length) 0).drop i).map (· ^^^ 92))
 | 0, _, _, _, _, h => absurd h (Nat.not_lt_zero _)
 | m + 1, i, a, b, h1, h2 => by
  have hl : (x ++ List.replicate (64 - x.length) (0 : UInt8)).length = 64 := by rw [List.length_append, List.length_replicate]; omega
  rw [r6_Mac_l1, cpy_pk x h]
  by_cases c : i < 64
  ·rw [decide_eq_true (by omega : (i : Int) < 64), cond_true, Int.toNat_natCast]
   have w := rm_l1 x h m (i + 1) (a ++ [(x ++ List.replicate (64 - x.length) 0).getD i 0 ^^^ 54]) (b ++ [(x ++ List.replicate (64 - x.length) 0).getD i 0 ^^^ 92]) (by omega) (by omega)
   rw [Int.natCast_add i 1] at w
   refine w.trans ?_
   rw [drop_cons (x ++ List.replicate (64 - x.length) 0) i 0 (by omega), List.map_cons, List.map_cons, List.append_assoc, List.append_assoc]; rfl
  ·rw [decide_eq_false (by omega : ¬ (i : Int) < 64), cond_false, List.drop_of_length_le (by omega), List.map_nil, List.map_nil, List.append_nil, List.append_nil]
theorem rm_l2 (x : List UInt8) (h : x.length ≤ 64) : ∀ (m i : Nat) (a b : List UInt8), i ≤ 64 → 64 - i < m →
  r6_Mac_l2 x m (i : Int) a b = Lo.brk (a ++ ((x ++ List.replicate (64 - x.length) 0).drop i).map (· ^^^ 54), b ++ ((x ++ List.replicate (64 - x.length) 0).drop i).map (· ^^^ 92))
 | 0, _, _, _, _, h => absurd h (Nat.not_lt_zero _)
 | m + 1, i, a, b, h1, h2 => by
  have hl : (x ++ List.replicate (64 - x.length) (0 : UInt8)).length = 64 := by rw [List.length_append, List.length_replicate]; omega
  rw [r6_Mac_l2, cpy_pk x h]
  by_cases c : i < 64
  ·rw [decide_eq_true (by omega : (i : Int) < 64), cond_true, Int.toNat_natCast]
   have w := rm_l2 x h m (i + 1) (a ++ [(x ++ List.replicate (64 - x.length) 0).getD i 0 ^^^ 54]) (b ++ [(x ++ List.replicate (64 - x.length) 0).getD i 0 ^^^ 92]) (by omega) (by omega)
   rw [Int.natCast_add i 1] at w
   refine w.trans ?_
   rw [drop_cons (x ++ List.replicate (64 - x.length) 0) i 0 (by omega), List.map_cons, List.map_cons, List.append_assoc, List.append_assoc]; rfl
  ·rw [decide_eq_false (by omega : ¬ (i : Int) < 64), cond_false, List.drop_of_length_le (by omega), List.map_nil, List.map_nil, List.append_nil, List.append_nil]
theorem rmac_eq (key b : List UInt8) (hk : key.length ≤ 1000000000) (hb : b.length ≤ 900000000) : r6_Mac key b = mac key b := by
 have hp : ∀ w : UInt8, ((pk key).map (· ^^^ w)).length = 64 := fun w => by rw [List.length_map, pk_len]
 rw [r6_Mac, mac]
 by_cases c : key.length > 64
 ·have e : pk key = sha_Sum key ++ List.replicate (64 - (sha_Sum key).length) 0 := by rw [pk, kk, if_pos c]
  rw [decide_eq_true (by omega : (key.length : Int) > 64), cond_true, bnd_eq, rsum_eq key hk]
  rw [show r6_Mac_l1 (sha_Sum key) ((64 - (0 : Int)).toNat + 1) 0 [] [] = _ from rm_l1 (sha_Sum key) (by rw [ssum_len]; decide) ((64 - (0 : Int)).toNat + 1) 0 [] [] (by omega) (by omega), ← e, List.drop_zero, List.nil_append, List.nil_append, elB, r6_Mac_k1, bnd_eq, bnd_eq]
  rw [rsum_eq (_ ++ b) (by rw [List.length_append, hp]; omega), rsum_eq _ (by rw [List.length_append, hp, ssum_len]; omega)]
 ·have e : pk key = key ++ List.replicate (64 - key.length) 0 := by rw [pk, kk, if_neg c]
  rw [decide_eq_false (by omega : ¬ (key.length : Int) > 64), cond_false]
  rw [show r6_Mac_l2 key ((64 - (0 : Int)).toNat + 1) 0 [] [] = _ from rm_l2 key (by omega) ((64 - (0 : Int)).toNat + 1) 0 [] [] (by omega) (by omega), ← e, List.drop_zero, List.nil_append, List.nil_append, elB, r6_Mac_k2, bnd_eq, bnd_eq]
  rw [rsum_eq (_ ++ b) (by rw [List.length_append, hp]; omega), rsum_eq _ (by rw [List.length_append, hp, ssum_len]; omega)]
end Go.Proofs.YtbppcnhfeobefabDoor

import Derived.Test.YtdlnppcndcfikaaDoorG4
import Derived.Test.YtdlnppcndcfikaaDoorPM
import Derived.Test.YtdlnppcndcfikaaDoorPW
set_option linter.unusedVariables false
set_option linter.unusedSimpArgs false
namespace Go.Proofs.YtdlnppcndcfikaaDoor
open Go Go.Vw Go.Proofs
theorem of_eq (key : List UInt8) (l : List (List UInt8)) (hn : l.length ≤ 1000000) : chain_Of key l = hAt key l l.length := by
  rw [chain_Of, bnd_eq, heads_len key l hn, show (((l.length + 1 : Nat) : Int) - 1).toNat = l.length by omega, heads_at key l hn _ (Nat.le_refl _)]
theorem verify_eq (key : List UInt8) (l : List (List UInt8)) (h0 : UInt64) (h1 : List UInt8) (hn : l.length ≤ 1000000) : chain_Verify key l h0 h1 = (((hAt key l l.length).1 == h0) && (fxa 32 (hAt key l l.length).2 == fxa 32 h1)) := by
  rw [chain_Verify, bnd_eq, of_eq key l hn]
theorem verify_yes (key : List UInt8) (l : List (List UInt8)) (hn : l.length ≤ 1000000) : chain_Verify key l (hAt key l l.length).1 (hAt key l l.length).2 = true := by
  rw [verify_eq _ _ _ _ hn]; simp
theorem next_at (key : List UInt8) (l : List (List UInt8)) (i : Nat) (h : i < 1000000) : chain_Next key (hAt key l i).1 (hAt key l i).2 (l.getD i []) = (hAt key l (i + 1), 0) := by
  rw [next_val _ _ _ _ (next_lt (by rw [hAt_n key l i (by omega)]; omega))]; rfl
theorem rnext_eq (key : List UInt8) (h0 : UInt64) (h1 e : List UInt8) (hk : key.length ≤ 1000000000) (he : e.length ≤ 800000000) : bursaryref34_Next key h0 h1 e = chain_Next key h0 h1 e := by
  rw [bursaryref34_Next, chain_Next, bnd_eq, bnd_eq, summed_eq, hmac_eq, rmac_eq _ _ hk (by rw [List.length_append, fxa_len]; omega)]
theorem rof_l1 (key : List UInt8) (l : List (List UInt8)) (hk : key.length ≤ 1000000000) (he : ∀ i : Nat, (l.getD i []).length ≤ 800000000) (hn : l.length ≤ 1000000) : ∀ (m i : Nat), i ≤ l.length → l.length - i < m → bursaryref34_Of_l1 key l m (i : Int) (hAt key l i) = Lo.brk (hAt key l l.length)
  | 0, _, _, h => absurd h (Nat.not_lt_zero _)
  | m + 1, i, h1, h2 => by
    rw [bursaryref34_Of_l1]
    by_cases c : i < l.length
    · rw [decide_eq_true (by omega : (i : Int) < (l.length : Int)), cond_true, Int.toNat_natCast, rnext_eq _ _ _ _ hk (he i), next_at _ _ _ (by omega), bnd_eq]
      have w := rof_l1 key l hk he hn m (i + 1) (by omega) (by omega)
      rw [Int.natCast_add i 1] at w
      exact w
    · have e : i = l.length := by omega
      subst e
      rw [decide_eq_false (by omega), cond_false]
theorem rof_eq (key : List UInt8) (l : List (List UInt8)) (hk : key.length ≤ 1000000000) (he : ∀ i : Nat, (l.getD i []).length ≤ 800000000) (hn : l.length ≤ 1000000) : bursaryref34_Of key l = hAt key l l.length := by
  rw [bursaryref34_Of, show bursaryref34_Of_l1 key l (((l.length : Int) - (0 : Int)).toNat + 1) 0 (0, List.replicate 32 (0 : UInt8)) = _ from rof_l1 key l hk he hn (((l.length : Int) - (0 : Int)).toNat + 1) 0 (Nat.zero_le _) (by omega), elB, bursaryref34_Of_k1]
theorem rencode_eq (h0 : UInt64) (h1 : List UInt8) : bursaryref34_Encode h0 h1 = chain_Encode h0 h1 := by
  rw [bursaryref34_Encode, chain_Encode, bnd_eq, bnd_eq, concat_eq, number_ref]; simp
theorem rdec_l1 (b : List UInt8) (hb : b.length = 40) (n : UInt64) : ∀ (m i : Nat), i ≤ 32 → 32 - i < m → bursaryref34_Decode_l1 b m (i : Int) (n, ((b.drop 8).take i) ++ List.replicate (32 - i) 0) = Lo.brk (n, b.drop 8)
  | 0, _, _, h => absurd h (Nat.not_lt_zero _)
  | m + 1, i, h1, h2 => by
    rw [bursaryref34_Decode_l1]
    by_cases c : i < 32
    · rw [decide_eq_true (by omega : (i : Int) < 32), cond_true, Int.toNat_natCast]
      have w := rdec_l1 b hb n m (i + 1) (by omega) (by omega)
      rw [Int.natCast_add i 1] at w
      refine Eq.trans ?_ w
      have hl : (((b.drop 8).take i) ++ List.replicate (32 - i) (0 : UInt8)).length = 32 := by simp; omega
      have e : (fxa 32 (((b.drop 8).take i) ++ List.replicate (32 - i) (0 : UInt8))).set i (b.getD (((8 : Int) + (i : Int)).toNat) 0) = ((b.drop 8).take (i + 1)) ++ List.replicate (32 - (i + 1)) 0 := by
        rw [fxa_eq hl, show ((8 : Int) + (i : Int)).toNat = 8 + i by omega]
        refine ext_gD 0 (by simp; omega) fun j hj => ?_
        rw [gD_set, gD_app, gD_app, gD_take, gD_take, gD_rep, gD_rep, gD_drop, hl]
        simp only [List.length_take, List.length_drop, hb]
        repeat' split
        all_goals first | rfl | omega | (congr 1; omega)
      rw [e]; rfl
    · have e : i = 32 := by omega
      subst e
      rw [decide_eq_false (by omega), cond_false, List.take_of_length_le (by rw [List.length_drop]; omega)]
      simp
theorem rdecode_eq (b : List UInt8) : bursaryref34_Decode b = chain_Decode b := by
  rw [bursaryref34_Decode, chain_Decode]
  by_cases h : b.length = 40
  · have e : ((b.length : Int) != 40) = false := by rw [h]; rfl
    have r : wire_Read (slc b 0 8) = (un64 0 (slc b 0 8), 0) := by
      rw [read_eq, slc_len, h]; rfl
    rw [e, cond_false, cond_false, bnd_eq, bnd_eq, ← read_ref, r, show bursaryref34_Decode_l1 b ((32 - (0 : Int)).toNat + 1) 0 (un64 0 (slc b 0 8), List.replicate 32 (0 : UInt8)) = _ from rdec_l1 b h (un64 0 (slc b 0 8)) ((32 - (0 : Int)).toNat + 1) 0 (by omega) (by omega), elB, bursaryref34_Decode_k1, slc_drop]
    rfl
  · have e : ((b.length : Int) != 40) = true := by simp; omega
    rw [e, cond_true, cond_true]
end Go.Proofs.YtdlnppcndcfikaaDoor

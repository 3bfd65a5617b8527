import Derived.Test.YtbppcnhfeobefabDoorG7
set_option linter.unusedVariables false
set_option linter.unusedSimpArgs false
namespace Go.Proofs.YtbppcnhfeobefabDoor
open Go Go.Vw Go.Proofs
theorem kcuts_l1 (a0 : List (List UInt8)) : ∀ (m : Nat) (t : Int) (c : List Tm), okR c → (c.length : Int) ≤ t + 1 → ((a0.length : Int) - t).toNat < m →
    ∃ c' : List Tm, bursarylaw19_KeyringCuts_l1 a0 m t c = .brk c' ∧ okR c'
  | 0, _, _, _, _, h => absurd h (Nat.not_lt_zero _)
  | m + 1, t, c, hc, hl, hm => by
    rw [bursarylaw19_KeyringCuts_l1]
    by_cases q : t < (a0.length : Int) ∧ t < 15
    · rw [show ((decide (t < (a0.length : Int))) && (decide (t < 15))) = true by rw [Bool.and_eq_true, decide_eq_true_eq, decide_eq_true_eq]; exact q, cond_true, bnd_eq, rot_eq hc, if_neg (by omega)]
      exact kcuts_l1 a0 m (t + 1) _ (okR_snoc hc (by omega) _) (by simp; omega) (by omega)
    · rw [show ((decide (t < (a0.length : Int))) && (decide (t < 15))) = false by rw [← Bool.not_eq_true, Bool.and_eq_true, decide_eq_true_eq, decide_eq_true_eq]; exact q, cond_false]
      exact ⟨c, rfl, hc⟩
theorem kcuts_true (a0 : List (List UInt8)) (a1 : UInt16) (a2 : List UInt8) : bursarylaw19_KeyringCuts a0 a1 a2 = true := by
  rw [bursarylaw19_KeyringCuts, bnd_eq, keyring_First]
  obtain ⟨c, e, hc⟩ := kcuts_l1 a0 (((a0.length : Int) - (0 : Int)).toNat + 1) 0 [(1, [1, 0, 0, 0, 0, 0, 0, 0, 0, 0, 0, 0, 0, 0, 0, 0, 0, 0, 0, 0, 0, 0, 0, 0, 0, 0, 0, 0, 0, 0, 0, 0])] (okR_one _) (by simp) (Nat.lt_succ_self _)
  rw [e]
  show bursarylaw19_KeyringCuts_k1 a1 a2 c = true
  rw [bursarylaw19_KeyringCuts_k1, bnd_eq, ring_enc_ok hc]
  have hlc := hc.1
  have hlc2 := hc.2.1
  have hE : ([107, 114, u8i (c.length : Int)] ++ keysOf c).length = 3 + c.length * 32 := by rw [List.length_append, keysOf_len]; simp; omega
  have hE2 : (([107, 114, u8i (c.length : Int)] ++ keysOf c).getD 2 0).toNat = c.length := by
    show (u8i (c.length : Int)).toNat = _; rw [u8i_k _ (by omega)]
  generalize [107, 114, u8i (c.length : Int)] ++ keysOf c = b at hE hE2
  show (bif (false || (((b.length : Int) == 0) || _)) then (true && ((decide ((b.length : Int) > 0)) && bursarylaw19_sure)) else _) = true
  rw [sure19, show ((b.length : Int) == 0) = false by rw [beq_eq_false_iff_ne]; omega, decide_eq_true (by omega : (b.length : Int) > 0)]
  cases decide ((a2.length : Int) > 2000) with
  | true => rfl
  | false =>
    rw [show (false || (false || false)) = false from rfl, cond_false]
    dsimp only
    have hr0 := Int.emod_nonneg (a1.toNat : Int) (show (b.length : Int) ≠ 0 by omega)
    have hr1 := Int.emod_lt_of_pos (a1.toNat : Int) (show (0 : Int) < (b.length : Int) by omega)
    rw [bnd_eq, bnd_eq, bnd_eq, bnd_eq]
    have d1 : keyring_Decode (slc b 0 ((a1.toNat : Int) % (b.length : Int))) = ([], 4) := by
      generalize (a1.toNat : Int) % (b.length : Int) = r at hr0 hr1
      refine dec_bad fun g => ?_
      obtain ⟨g1, _, g3, _, _⟩ := g
      rw [slc_take, List.length_take] at g1 g3
      rw [gD_take, if_pos (by omega), hE2] at g3
      omega
    have d2 : keyring_Decode ([] ++ b ++ [0]) = ([], 4) := by
      refine dec_bad fun g => ?_
      obtain ⟨_, _, g3, _, _⟩ := g
      rw [List.nil_append, gD_app, if_pos (by omega), hE2, List.length_append] at g3
      simp at g3; omega
    rw [d1, d2]
    by_cases g : goodB a2
    · rw [dec_good g]
      show (bnd (id (4 : Int)) fun x7 => bnd (id (4 : Int)) fun x8 => (x7 == 4) && ((x8 == 4) && ((true == (decide ((keyring_Encode (rl (a2.drop 3) (a2.getD 2 0).toNat)).2 = 0))) && ((true == (decide ((keyring_Encode (rl (a2.drop 3) (a2.getD 2 0).toNat)).2 = 0))) && (((keyring_Encode (rl (a2.drop 3) (a2.getD 2 0).toNat)).1 == a2) && true))))) = true
      rw [enc_dec g, bnd_eq, bnd_eq]
      simp
    · rw [dec_bad g]
      show (bnd (id (4 : Int)) fun x7 => bnd (id (4 : Int)) fun x8 => (x7 == 4) && ((x8 == 4) && ((false == (decide ((keyring_Encode []).2 = 0))) && ((false == (decide ((keyring_Encode []).2 = 0))) && true)))) = true
      rw [ring_enc_no (fun h => absurd h.1 (by simp)), bnd_eq, bnd_eq]
      rfl
end Go.Proofs.YtbppcnhfeobefabDoor

import Derived.Test.YtbppcnhfeobefabDoorG8
set_option linter.unusedVariables false
namespace Go.Proofs.YtbppcnhfeobefabDoor
open Go Go.Vw Go.Proofs
theorem ksteps_true (a0 : List Tm) (a1 : List UInt8) (a20 : List UInt8) (a21 : UInt32) (a22 : List UInt8) : b9_S a0 a1 a20 a21 a22 = true := by
 rw [b9_S, sure19]
 cases ((decide ((a0.length : Int) > 40)) || ((decide ((a1.length : Int) > 2000)) || (decide ((a22.length : Int) > 100)))) with
 | true => rfl
 | false =>
  rw [cond_false, bnd_eq, give_eq]
  have hd := isring_dec a1
  simp only [bnd_eq, rrot_eq, renc_eq, ruse_eq, isring_refl, hd.1, hd.2, id_eq]
  by_cases h : okR a0
  ·have hl := h.1
   have hl2 := h.2.1
   have hact : kr_Active a0 = (((a0.getD (((a0.length : Int) - 1).toNat) ((0, []) : UInt32 × List UInt8)).1, (a0.getD (((a0.length : Int) - 1).toNat) ((0, []) : UInt32 × List UInt8)).2), 0) := by
    rw [kr_Active, bnd_eq, ring_yes h]; rfl
   rw [ring_yes h, may_yes h, hact]
   by_cases ht : a21.toNat < 1 ∨ a21.toNat > a0.length
   ·have e : ((decide (a21 < 1)) || (decide ((a21.toNat : Int) > (a0.length : Int)))) = true := by
     rw [Bool.or_eq_true, decide_eq_true_eq, decide_eq_true_eq]
     rcases ht with ht | ht
     ·exact .inl (by rw [UInt32.lt_iff_toNat_lt]; exact ht)
     ·exact .inr (by omega)
    have hf : kr_Find a0 a21 = ((List.replicate 32 0), 5) := by
     rw [kr_Find, bnd_eq, ring_yes h]
     have e2 : ((decide (a21 < 1)) || (decide (a21 > (u32i (a0.length : Int))))) = true := by
      rw [Bool.or_eq_true, decide_eq_true_eq, decide_eq_true_eq]
      rcases ht with ht | ht
      ·exact .inl (by rw [UInt32.lt_iff_toNat_lt]; exact ht)
      ·exact .inr (by show u32i (a0.length : Int) < a21; rw [UInt32.lt_iff_toNat_lt, u32i_nat _ (by omega)]; exact ht)
     rw [e2]; rfl
    rw [e, hf]
    simp
   ·have e : ((decide (a21 < 1)) || (decide ((a21.toNat : Int) > (a0.length : Int)))) = false := by
     rw [Bool.or_eq_false_iff, decide_eq_false_iff_not, decide_eq_false_iff_not]
     exact ⟨by rw [UInt32.lt_iff_toNat_lt]; exact fun q => ht (.inl q), by omega⟩
    have hp := u32pred (t := a21) (by rw [UInt32.lt_iff_toNat_lt]; exact fun q => ht (.inl q))
    have hu : a21 = u32i (((a21.toNat - 1 : Nat) : Int) + 1) := by
     apply UInt32.toNat_inj.1
     rw [show ((a21.toNat - 1 : Nat) : Int) + 1 = ((a21.toNat : Nat) : Int) by omega, u32i_nat _ a21.toNat_lt]
    have hf : kr_Find a0 a21 = (fxa 32 (a0.getD (a21.toNat - 1) (0, [])).2, 0) := by
     conv => lhs; rw [hu]
     exact ring_find_eq h (a21.toNat - 1) (by omega)
    rw [e, hf, hp.1]
    simp
  ·have hact : kr_Active a0 = ((0, List.replicate 32 (0 : UInt8)), 1) := by
    rw [kr_Active, bnd_eq, ring_no h]; rfl
   have hf : kr_Find a0 a21 = (List.replicate 32 0, 1) := by
    rw [kr_Find, bnd_eq, ring_no h]; rfl
   rw [ring_no h, may_no h, hact, hf]
   simp
end Go.Proofs.YtbppcnhfeobefabDoor

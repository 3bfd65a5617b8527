import Derived.Test.YtbppcnhfeobefabDoorG1
set_option linter.unusedVariables false
namespace Go.Proofs.YtbppcnhfeobefabDoor
open Go Go.Vw Go.Proofs
theorem u32i_nat (n : Nat) (h : n < 4294967296) : (u32i (n : Int)).toNat = n := by
 simp [u32i]; omega
abbrev Tm : Type := UInt32 × List UInt8
def okR (l : List Tm) : Prop := 1 ≤ l.length ∧ l.length ≤ 16 ∧ ∀ i, i < l.length → (l.getD i (0, [])).1.toNat = i + 1
theorem ring_check_or (l : List Tm) : (kr_Check l = 0 ∧ okR l) ∨ (kr_Check l = 1 ∧ ¬ okR l) := by
 rw [kr_Check]
 by_cases h : 1 ≤ l.length ∧ l.length ≤ 16
 ·rw [show ((decide ((l.length : Int) < 1)) || (decide ((l.length : Int) > 16))) = false by simp; omega, cond_false]
  have key : ∀ j, j < l.length → ((((l.getD j ((0, []) : UInt32 × List UInt8)).1) != (u32i ((j : Int) + 1))) = false ↔ (l.getD j (0, [])).1.toNat = j + 1) := by
   intro j hj
   have hu := u32i_nat (j + 1) (by omega)
   rw [bne_eq_false_iff_eq, ← UInt32.toNat_inj]
   rw [show ((j : Int) + 1) = ((j + 1 : Nat) : Int) by omega, hu]
  rcases cmpLoop (f := kr_Check_l1 l) (n := (l.length : Int)) (p := fun j : Nat => ((l.getD j ((0, []) : UInt32 × List UInt8)).1) != (u32i ((j : Int) + 1))) (r := (1 : Int)) (fun m i h => by rw [kr_Check_l1]; simp only [Int.toNat_of_nonneg h]) _ 0 (Int.le_refl 0) (Nat.lt_succ_self _) with ⟨q1, q2⟩ | ⟨⟨j, q1, q2, q3⟩, q4⟩
  ·left
   rw [q2]
   exact ⟨by show kr_Check_k1 = 0; rw [kr_Check_k1], h.1, h.2, fun i hi => (key i hi).1 (q1 i (by omega) (by omega))⟩
  ·right
   rw [q4]
   refine ⟨rfl, fun ok => ?_⟩
   have := (key j (by omega)).2 (ok.2.2 j (by omega))
   rw [this] at q3; cases q3
 ·right
  rw [show ((decide ((l.length : Int) < 1)) || (decide ((l.length : Int) > 16))) = true by rw [Bool.or_eq_true, decide_eq_true_eq, decide_eq_true_eq]; omega, cond_true]
  exact ⟨rfl, fun ok => h ⟨ok.1, ok.2.1⟩⟩
theorem ring_yes {l : List Tm} (h : okR l) : kr_Check l = 0 := by
 rcases ring_check_or l with ⟨h1, _⟩ | ⟨_, h2⟩
 ·exact h1
 ·exact absurd h h2
theorem ring_no {l : List Tm} (h : ¬ okR l) : kr_Check l = 1 := by
 rcases ring_check_or l with ⟨_, h1⟩ | ⟨h2, _⟩
 ·exact absurd h1 h
 ·exact h2
theorem ring_fact (l : List Tm) : kr_Check l = 0 → 1 ≤ l.length ∧ l.length ≤ 16 := by
 intro h
 rcases ring_check_or l with ⟨_, h1⟩ | ⟨h2, _⟩
 ·exact ⟨h1.1, h1.2.1⟩
 ·rw [h2] at h; exact absurd h (by decide)
theorem find_ix {l : List Tm} {t : UInt32} (h : l.length ≤ 16) (h2 : ((decide (t < 1)) || (decide (t > (u32i (l.length : Int))))) = false) : (t - 1).toNat = t.toNat - 1 ∧ 1 ≤ t.toNat ∧ t.toNat ≤ l.length := by
 simp only [Bool.or_eq_false_iff, decide_eq_false_iff_not] at h2
 obtain ⟨a, b⟩ := h2
 have hu := u32i_nat l.length (by omega)
 rw [UInt32.not_lt, UInt32.le_iff_toNat_le] at a
 have b' : t ≤ u32i (l.length : Int) := UInt32.not_lt.1 b
 rw [UInt32.le_iff_toNat_le, hu] at b'
 have a' : 1 ≤ t.toNat := a
 refine ⟨?_, a', b'⟩
 rw [UInt32.toNat_sub_of_le _ _ (by rw [UInt32.le_iff_toNat_le]; exact a)]; rfl
end Go.Proofs.YtbppcnhfeobefabDoor

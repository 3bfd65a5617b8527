import Derived.Test.YtbppcnhfeobefabDoorG4
set_option linter.unusedVariables false
namespace Go.Proofs.YtbppcnhfeobefabDoor
open Go Go.Vw Go.Proofs
theorem may_or (l : List Tm) : (r9_May l = true ∧ okR l) ∨ (r9_May l = false ∧ ¬ okR l) := by
 rw [r9_May]
 have key : ∀ j, j < l.length → (((((l.getD j ((0, []) : UInt32 × List UInt8)).1).toNat : Int) != ((j : Int) + 1)) = false ↔ (l.getD j (0, [])).1.toNat = j + 1) := by
  intro j hj
  rw [bne_eq_false_iff_eq]; omega
 rcases cmpLoop (f := r9_May_l1 l) (n := (l.length : Int)) (p := fun j : Nat => (((l.getD j ((0, []) : UInt32 × List UInt8)).1).toNat : Int) != ((j : Int) + 1)) (r := false) (fun m i h => by rw [r9_May_l1]; simp only [Int.toNat_of_nonneg h]) _ 0 (Int.le_refl 0) (Nat.lt_succ_self _) with ⟨q1, q2⟩ | ⟨⟨j, q1, q2, q3⟩, q4⟩
 ·rw [q2]
  show (r9_May_k1 l = true ∧ _) ∨ (r9_May_k1 l = false ∧ _)
  rw [r9_May_k1]
  by_cases h : 1 ≤ l.length ∧ l.length ≤ 16
  ·left
   exact ⟨by simp; omega, h.1, h.2, fun i hi => (key i hi).1 (q1 i (by omega) (by omega))⟩
  ·right
   refine ⟨?_, fun ok => h ⟨ok.1, ok.2.1⟩⟩
   rw [← Bool.not_eq_true, Bool.and_eq_true, decide_eq_true_eq, decide_eq_true_eq]; omega
 ·right
  rw [q4]
  refine ⟨rfl, fun ok => ?_⟩
  have := (key j (by omega)).2 (ok.2.2 j (by omega))
  rw [this] at q3; cases q3
theorem may_yes {l : List Tm} (h : okR l) : r9_May l = true := by
 rcases may_or l with ⟨h1, _⟩ | ⟨_, h2⟩
 ·exact h1
 ·exact absurd h h2
theorem may_no {l : List Tm} (h : ¬ okR l) : r9_May l = false := by
 rcases may_or l with ⟨_, h1⟩ | ⟨h2, _⟩
 ·exact absurd h1 h
 ·exact h2
theorem may_fact (l : List Tm) : r9_May l = true → 1 ≤ l.length ∧ l.length ≤ 16 := by
 intro h
 rcases may_or l with ⟨_, h1⟩ | ⟨h2, _⟩
 ·exact ⟨h1.1, h1.2.1⟩
 ·rw [h2] at h; exact absurd h (by decide)
end Go.Proofs.YtbppcnhfeobefabDoor

import Derived.Test.YtbppcnhfeobefaaDoorG4b
set_option linter.unusedVariables false
set_option linter.unusedSimpArgs false
namespace Go.Proofs.YtbppcnhfeobefaaDoor
open Go Go.Vw Go.Proofs
theorem at_l (s : List Ver) (n : UInt32) : ∀ (m : Nat) (i : Int), 0 ≤ i → ((s.length : Int) - i).toNat < m →
    ((∀ j : Nat, i ≤ j → j < s.length → ¬ ((s.getD j (0, [], 0, 0)).1 = n ∨ (n = 0 ∧ j + 1 = s.length))) ∧ bursaryref30_At_l1 s n m i = .brk ()) ∨
    (∃ j : Nat, i ≤ j ∧ j < s.length ∧ ((s.getD j (0, [], 0, 0)).1 = n ∨ (n = 0 ∧ j + 1 = s.length)) ∧ bursaryref30_At_l1 s n m i = .ret ((j : Int), 0))
  | 0, _, _, h => absurd h (Nat.not_lt_zero _)
  | m + 1, i, h0, h => by
    rw [bursaryref30_At_l1]
    by_cases c : i < (s.length : Int)
    · rw [decide_eq_true c, cond_true]
      by_cases q : (s.getD i.toNat (0, [], 0, 0)).1 = n ∨ (n = 0 ∧ i.toNat + 1 = s.length)
      · right
        refine ⟨i.toNat, by omega, by omega, q, ?_⟩
        have e : (((s.getD i.toNat (0, [], 0, 0)).1 == n) || ((n == 0) && (i == ((s.length : Int) - 1)))) = true := by
          simp only [Bool.or_eq_true, Bool.and_eq_true, beq_iff_eq]
          rcases q with q | ⟨q1, q2⟩
          · exact .inl q
          · exact .inr ⟨q1, by omega⟩
        rw [e, cond_true, show ((i.toNat : Nat) : Int) = i by omega]
      · have e : (((s.getD i.toNat (0, [], 0, 0)).1 == n) || ((n == 0) && (i == ((s.length : Int) - 1)))) = false := by
          rw [← Bool.not_eq_true]
          intro e
          simp only [Bool.or_eq_true, Bool.and_eq_true, beq_iff_eq] at e
          rcases e with e | ⟨e1, e2⟩
          · exact q (.inl e)
          · exact q (.inr ⟨e1, by omega⟩)
        rw [e, cond_false]
        rcases at_l s n m (i + 1) (by omega) (by omega) with ⟨a, b⟩ | ⟨j, a, b, e, g⟩
        · refine .inl ⟨fun j h1 h2 => ?_, b⟩
          by_cases w : i = j
          · subst w; rwa [Int.toNat_natCast] at q
          · exact a j (by omega) h2
        · exact .inr ⟨j, by omega, b, e, g⟩
    · rw [decide_eq_false c, cond_false]
      exact .inl ⟨fun j h1 h2 => absurd h2 (by omega), rfl⟩
theorem at_find (l : List Ver) (last : UInt32) (max : Int) (n : UInt32) : bursaryref30_At l last max n = engine_find l last max n := by
  rw [bursaryref30_At, bnd_eq]
  rcases find_or l last max n with ⟨h1, h2⟩ | ⟨h1, j, h2, h3, h4⟩ | ⟨h1, h2, h3⟩
  · rw [mayS_no h1, h2]; rfl
  · rw [mayS_yes h1, h4]
    show _root_.cond false _ _ = _
    rw [cond_false]
    have hnum := h1.2.2
    have hln := h1.2.1
    rcases at_l l n _ 0 (Int.le_refl 0) (Nat.lt_succ_self _) with ⟨a, b⟩ | ⟨k, a, b, e, g⟩
    · exfalso
      by_cases q : n = 0
      · rw [if_pos q] at h3
        have h5 := (hnum j h2).2
        rw [h3] at h5
        exact a (l.length - 1) (by omega) (by omega) (.inr ⟨q, by omega⟩)
      · rw [if_neg q] at h3
        exact a j (by omega) h2 (.inl h3)
    · rw [g]
      show ((k : Int), (0 : Int)) = _
      have : k = j := by
        have hj := (hnum j h2).2
        have hk := (hnum k b).2
        rcases e with e | ⟨e1, e2⟩
        · by_cases q : n = 0
          · rw [e, q] at hk; exfalso
            have : (0 : UInt32).toNat = 0 := rfl
            omega
          · rw [if_neg q] at h3
            rw [e] at hk; rw [h3] at hj; omega
        · rw [if_pos e1] at h3; rw [h3] at hj; omega
      rw [this]
  · rw [mayS_yes h1, h3]
    show _root_.cond false _ _ = _
    rw [cond_false]
    have hnum := h1.2.2
    have hln := h1.2.1
    rcases at_l l n _ 0 (Int.le_refl 0) (Nat.lt_succ_self _) with ⟨a, b⟩ | ⟨k, a, b, e, g⟩
    · rw [b]; show bursaryref30_At_k1 = _; rw [bursaryref30_At_k1]
    · exfalso
      have hk := (hnum k b).2
      rcases e with e | ⟨e1, e2⟩
      · by_cases q : n = 0
        · rw [e, q] at hk
          have : (0 : UInt32).toNat = 0 := rfl
          omega
        · have := h2 k b; rw [if_neg q] at this; exact this e
      · have := h2 k b; rw [if_pos e1] at this
        apply this; apply UInt32.toNat_inj.1; omega
theorem at_fact (l : List Ver) (last : UInt32) (max : Int) (n : UInt32) : ((bursaryref30_At l last max n).2 = 0 → 0 ≤ (bursaryref30_At l last max n).1 ∧ (bursaryref30_At l last max n).1 < (l.length : Int)) ∧ ((bursaryref30_At l last max n).2 = 0 → okE l last max) ∧ ((bursaryref30_At l last max n).2 = 0 → l.length ≤ 8) := by
  rw [at_find]; exact find_fact l last max n
end Go.Proofs.YtbppcnhfeobefaaDoor

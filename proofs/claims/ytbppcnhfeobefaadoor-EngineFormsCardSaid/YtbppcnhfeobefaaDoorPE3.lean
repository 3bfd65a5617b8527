import Derived.Test.YtbppcnhfeobefaaDoorG4
set_option linter.unusedVariables false
set_option linter.unusedSimpArgs false
namespace Go.Proofs.YtbppcnhfeobefaaDoor
open Go Go.Vw Go.Proofs
def okM (last : Nat) (l : List Ver) (j : Nat) : Prop := 1 ≤ (last : Int) - (l.length - 1 - j) ∧ ((l.getD j (0, [], 0, 0)).1.toNat : Int) = (last : Int) - (l.length - 1 - j) ∧ okV (l.getD j (0, [], 0, 0))
theorem may_body (v : Ver) (t : Int) : ((decide (t < 1)) || ((((v.1).toNat : Int) != t) || ((decide (v.2.2.2 < 0)) || ((decide (v.2.2.2 > 2)) || ((decide (((v.2.1).length : Int) > 100)) || ((v.2.2.2 == 2) && (decide (((v.2.1).length : Int) > 0)))))))) = false ↔ (1 ≤ t ∧ (v.1.toNat : Int) = t ∧ okV v) := by
  simp only [Bool.or_eq_false_iff, Bool.and_eq_false_iff, decide_eq_false_iff_not, bne_eq_false_iff_eq, beq_eq_false_iff_ne, okV]
  constructor
  · rintro ⟨h1, h2, h3, h4, h5, h6⟩
    exact ⟨by omega, h2, by omega, by omega, by omega, fun q => by rcases h6 with h6 | h6; exact absurd q h6; omega⟩
  · rintro ⟨h1, h2, h3, h4, h5, h6⟩
    refine ⟨by omega, h2, by omega, by omega, by omega, ?_⟩
    by_cases q : v.2.2.2 = 2
    · right; have := h6 q; omega
    · exact .inl q
theorem may_l (l : List Ver) (last : Nat) : ∀ (m : Nat) (t i : Int), -1 ≤ i → i < l.length → t = (last : Int) - (l.length - 1 - i) → (i + 1).toNat < m →
    ((∀ j : Nat, (j : Int) ≤ i → okM last l j) ∧ bursaryref30_May_l1 l m t i = .brk ()) ∨ ((∃ j : Nat, (j : Int) ≤ i ∧ ¬ okM last l j) ∧ bursaryref30_May_l1 l m t i = .ret false)
  | 0, _, _, _, _, _, h => absurd h (Nat.not_lt_zero _)
  | m + 1, t, i, h0, h1, ht, h => by
    rw [bursaryref30_May_l1]
    by_cases c : i ≥ 0
    · rw [decide_eq_true c, cond_true]
      have hb := may_body (l.getD i.toNat (0, [], 0, 0)) t
      by_cases q : okM last l i.toNat
      · have q' := q
        obtain ⟨q1, q2, q3⟩ := q
        rw [hb.2 ⟨by omega, by omega, q3⟩, cond_false]
        rcases may_l l last m (t - 1) (i - 1) (by omega) (by omega) (by omega) (by omega) with ⟨a, b⟩ | ⟨⟨j, a, e⟩, g⟩
        · refine .inl ⟨fun j hj => ?_, b⟩
          by_cases w : i = j
          · subst w; rwa [Int.toNat_natCast] at q'
          · exact a j (by omega)
        · exact .inr ⟨⟨j, by omega, e⟩, g⟩
      · have : ((decide (t < 1)) || (((((l.getD i.toNat (0, [], 0, 0))).1.toNat : Int) != t) || ((decide ((l.getD i.toNat (0, [], 0, 0)).2.2.2 < 0)) || ((decide ((l.getD i.toNat (0, [], 0, 0)).2.2.2 > 2)) || ((decide ((((l.getD i.toNat (0, [], 0, 0)).2.1).length : Int) > 100)) || (((l.getD i.toNat (0, [], 0, 0)).2.2.2 == 2) && (decide ((((l.getD i.toNat (0, [], 0, 0)).2.1).length : Int) > 0)))))))) = true := by
          rw [← Bool.not_eq_false]
          intro e
          obtain ⟨e1, e2, e3⟩ := hb.1 e
          exact q ⟨by omega, by omega, e3⟩
        rw [this, cond_true]
        exact .inr ⟨⟨i.toNat, by omega, q⟩, rfl⟩
    · rw [decide_eq_false c, cond_false]
      exact .inl ⟨fun j hj => absurd hj (by omega), rfl⟩
theorem mayS_or (l : List Ver) (last : UInt32) (max : Int) : (bursaryref30_May l last max = true ∧ okE l last max) ∨ (bursaryref30_May l last max = false ∧ ¬ okE l last max) := by
  rw [bursaryref30_May]
  by_cases h1 : (1 ≤ max ∧ max ≤ 8 ∧ (l.length : Int) ≤ max) ∧ (l.length = 0 → last.toNat = 0)
  · obtain ⟨⟨a1, a2, a3⟩, a4⟩ := h1
    have e : ((decide (max < 1)) || ((decide (max > 8)) || ((decide ((l.length : Int) > max)) || (((l.length : Int) == 0) && (last != 0))))) = false := by
      simp only [Bool.or_eq_false_iff, Bool.and_eq_false_iff, decide_eq_false_iff_not, bne_eq_false_iff_eq, beq_eq_false_iff_ne]
      refine ⟨by omega, by omega, by omega, ?_⟩
      by_cases q : l.length = 0
      · right; apply UInt32.toNat_inj.1; exact a4 q
      · left; omega
    rw [e, cond_false]
    have hiff : okE l last max ↔ ∀ j, j < l.length → okM last.toNat l j := by
      constructor
      · rintro ⟨_, ⟨b1, b2⟩, b3⟩ j hj
        obtain ⟨c1, c2⟩ := b3 j hj
        exact ⟨by omega, by omega, c1⟩
      · intro b
        refine ⟨⟨a1, a2, a3⟩, ?_, fun i hi => ⟨(b i hi).2.2, by have := (b i hi).2.1; have := (b i hi).1; have := (b 0 (by omega)).1; omega⟩⟩
        by_cases q : l.length = 0
        · have := a4 q; omega
        · have := (b 0 (by omega)).1; omega
    rcases may_l l last.toNat ((((l.length : Int) - 1) + 1).toNat + 1) (last.toNat : Int) ((l.length : Int) - 1) (by omega) (by omega) (by omega) (by omega) with ⟨a, b⟩ | ⟨⟨j, a, c⟩, b⟩
    · left; rw [b]
      exact ⟨by show bursaryref30_May_k1 = true; rw [bursaryref30_May_k1], hiff.2 fun j hj => a j (by omega)⟩
    · right; rw [b]
      exact ⟨rfl, fun ok => c (hiff.1 ok j (by omega))⟩
  · right
    have e : ((decide (max < 1)) || ((decide (max > 8)) || ((decide ((l.length : Int) > max)) || (((l.length : Int) == 0) && (last != 0))))) = true := by
      rw [← Bool.not_eq_false]
      intro e
      simp only [Bool.or_eq_false_iff, Bool.and_eq_false_iff, decide_eq_false_iff_not, bne_eq_false_iff_eq, beq_eq_false_iff_ne] at e
      obtain ⟨e1, e2, e3, e4⟩ := e
      refine h1 ⟨⟨by omega, by omega, by omega⟩, fun q => ?_⟩
      rcases e4 with e4 | e4
      · omega
      · rw [e4]; rfl
    rw [e, cond_true]
    refine ⟨rfl, fun ok => h1 ⟨ok.1, fun q => ?_⟩⟩
    exact ok.2.1.2.2 q
theorem mayS_yes {l : List Ver} {last : UInt32} {max : Int} (h : okE l last max) : bursaryref30_May l last max = true := by
  rcases mayS_or l last max with ⟨h1, _⟩ | ⟨_, h2⟩
  · exact h1
  · exact absurd h h2
theorem mayS_no {l : List Ver} {last : UInt32} {max : Int} (h : ¬ okE l last max) : bursaryref30_May l last max = false := by
  rcases mayS_or l last max with ⟨_, h2⟩ | ⟨h1, _⟩
  · exact absurd h2 h
  · exact h1
theorem mayS_fact (l : List Ver) (last : UInt32) (max : Int) : (bursaryref30_May l last max = true → l.length ≤ 8) ∧ (bursaryref30_May l last max = true → okE l last max) := by
  rcases mayS_or l last max with ⟨_, h2⟩ | ⟨h1, _⟩
  · exact ⟨fun _ => okE_len h2, fun _ => h2⟩
  · rw [h1]; exact ⟨fun h => absurd h (by decide), fun h => absurd h (by decide)⟩
end Go.Proofs.YtbppcnhfeobefaaDoor

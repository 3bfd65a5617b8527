import Derived.Test.YtbppcnhfeobefaaDoorG1
set_option linter.unusedVariables false
set_option linter.unusedSimpArgs false
namespace Go.Proofs.YtbppcnhfeobefaaDoor
open Go Go.Vw Go.Proofs
abbrev Ver := UInt32 × List UInt8 × UInt64 × Int
def okV (v : Ver) : Prop := 0 ≤ v.2.2.2 ∧ v.2.2.2 ≤ 2 ∧ v.2.1.length ≤ 100 ∧ (v.2.2.2 = 2 → v.2.1.length = 0)
instance (v : Ver) : Decidable (okV v) := by unfold okV; infer_instance
theorem mayV_eq (v : Ver) : engine_Version_may v.1 v.2.1 v.2.2.1 v.2.2.2 = decide (okV v) := by
  rw [engine_Version_may]
  by_cases h : okV v
  · rw [decide_eq_true h]
    obtain ⟨h1, h2, h3, h4⟩ := h
    simp only [Bool.and_eq_true, Bool.or_eq_true, decide_eq_true_eq, bne_iff_ne, beq_iff_eq]
    refine ⟨h1, h2, by omega, ?_⟩
    by_cases q : v.2.2.2 = 2
    · right; have := h4 q; omega
    · exact .inl q
  · rw [decide_eq_false h, ← Bool.not_eq_true]
    intro e
    simp only [Bool.and_eq_true, Bool.or_eq_true, decide_eq_true_eq, bne_iff_ne, beq_iff_eq] at e
    obtain ⟨h1, h2, h3, h4⟩ := e
    exact h ⟨h1, h2, by omega, fun q => by rcases h4 with h4 | h4; exact absurd q h4; omega⟩
def okE (l : List Ver) (last : UInt32) (max : Int) : Prop :=
  (1 ≤ max ∧ max ≤ 8 ∧ (l.length : Int) ≤ max) ∧ (l.length ≤ last.toNat ∧ (last.toNat = 0 ↔ l.length = 0)) ∧ ∀ i, i < l.length → okV (l.getD i (0, [], 0, 0)) ∧ (l.getD i (0, [], 0, 0)).1.toNat = last.toNat - l.length + i + 1
theorem u32i_nat (n : Nat) (h : n < 4294967296) : (u32i (n : Int)).toNat = n := by
  simp [u32i]; omega
theorem check_or (l : List Ver) (last : UInt32) (max : Int) : (engine_Check l last max = 0 ∧ okE l last max) ∨ (engine_Check l last max = 1 ∧ ¬ okE l last max) := by
  rw [engine_Check]
  by_cases h1 : 1 ≤ max ∧ max ≤ 8 ∧ (l.length : Int) ≤ max
  · obtain ⟨a1, a2, a3⟩ := h1
    have hu : (u32i (l.length : Int)).toNat = l.length := u32i_nat _ (by omega)
    by_cases h2 : l.length ≤ last.toNat ∧ (last.toNat = 0 ↔ l.length = 0)
    · have e : ((decide (max < 1)) || ((decide (max > 8)) || ((decide ((l.length : Int) > max)) || ((decide (last < (u32i (l.length : Int)))) || ((last == 0) != ((u32i (l.length : Int)) == 0)))))) = false := by
        simp only [Bool.or_eq_false_iff, decide_eq_false_iff_not, bne_eq_false_iff_eq]
        refine ⟨by omega, by omega, by omega, ?_, ?_⟩
        · rw [UInt32.not_lt, UInt32.le_iff_toNat_le, hu]; exact h2.1
        · rw [Bool.eq_iff_iff]; simp only [beq_iff_eq, ← UInt32.toNat_inj, hu]; exact h2.2
      rw [e, cond_false]
      have hl := last.toNat_lt
      have key : ∀ j, j < l.length → (((!(engine_Version_may ((l.getD j (0, [], 0, 0)).1) ((l.getD j (0, [], 0, 0)).2.1) ((l.getD j (0, [], 0, 0)).2.2.1) ((l.getD j (0, [], 0, 0)).2.2.2))) || (((l.getD j (0, [], 0, 0)).1) != (((last - (u32i (l.length : Int))) + (u32i (j : Int))) + 1))) = false ↔ okV (l.getD j (0, [], 0, 0)) ∧ (l.getD j (0, [], 0, 0)).1.toNat = last.toNat - l.length + j + 1) := by
        intro j hj
        rw [mayV_eq, Bool.or_eq_false_iff, Bool.not_eq_false', decide_eq_true_eq, bne_eq_false_iff_eq, ← UInt32.toNat_inj]
        have e3 : (((last - (u32i (l.length : Int))) + (u32i (j : Int))) + 1).toNat = last.toNat - l.length + j + 1 := by
          have hj' := u32i_nat j (by omega)
          rw [UInt32.toNat_add, UInt32.toNat_add, UInt32.toNat_sub_of_le _ _ (by rw [UInt32.le_iff_toNat_le, hu]; exact h2.1), hu, hj']
          show ((last.toNat - l.length + j) % 4294967296 + 1) % 4294967296 = _
          omega
        rw [e3]
      rcases cmpLoop (f := engine_Check_l1 l last) (n := (l.length : Int)) (p := fun j : Nat => (!(engine_Version_may ((l.getD j (0, [], 0, 0)).1) ((l.getD j (0, [], 0, 0)).2.1) ((l.getD j (0, [], 0, 0)).2.2.1) ((l.getD j (0, [], 0, 0)).2.2.2))) || (((l.getD j (0, [], 0, 0)).1) != (((last - (u32i (l.length : Int))) + (u32i (j : Int))) + 1))) (r := 1) (fun m i h => by rw [engine_Check_l1, bnd_eq, show ((i.toNat : Nat) : Int) = i by omega]) _ 0 (Int.le_refl 0) (Nat.lt_succ_self _) with ⟨q1, q2⟩ | ⟨⟨j, q1, q2, q3⟩, q4⟩
      · left
        rw [q2]
        refine ⟨by show engine_Check_k1 = 0; rw [engine_Check_k1], ⟨a1, a2, a3⟩, h2, fun i hi => (key i hi).1 (q1 i (by omega) (by omega))⟩
      · right
        rw [q4]
        refine ⟨rfl, fun ok => ?_⟩
        have := (key j (by omega)).2 (ok.2.2 j (by omega))
        rw [this] at q3; cases q3
    · right
      have e : ((decide (max < 1)) || ((decide (max > 8)) || ((decide ((l.length : Int) > max)) || ((decide (last < (u32i (l.length : Int)))) || ((last == 0) != ((u32i (l.length : Int)) == 0)))))) = true := by
        rw [← Bool.not_eq_false]
        intro e
        simp only [Bool.or_eq_false_iff, decide_eq_false_iff_not, bne_eq_false_iff_eq] at e
        obtain ⟨_, _, _, e1, e2⟩ := e
        refine h2 ⟨?_, ?_⟩
        · rw [UInt32.not_lt, UInt32.le_iff_toNat_le, hu] at e1; exact e1
        · rw [Bool.eq_iff_iff] at e2; simp only [beq_iff_eq, ← UInt32.toNat_inj, hu] at e2; exact e2
      rw [e, cond_true]
      exact ⟨rfl, fun ok => h2 ok.2.1⟩
  · right
    have e : ((decide (max < 1)) || ((decide (max > 8)) || ((decide ((l.length : Int) > max)) || ((decide (last < (u32i (l.length : Int)))) || ((last == 0) != ((u32i (l.length : Int)) == 0)))))) = true := by
      rw [← Bool.not_eq_false]
      intro e
      simp only [Bool.or_eq_false_iff, decide_eq_false_iff_not, bne_eq_false_iff_eq] at e
      exact h1 ⟨by omega, by omega, by omega⟩
    rw [e, cond_true]
    exact ⟨rfl, fun ok => h1 ok.1⟩
theorem check_yes {l : List Ver} {last : UInt32} {max : Int} (h : okE l last max) : engine_Check l last max = 0 := by
  rcases check_or l last max with ⟨h1, _⟩ | ⟨_, h2⟩
  · exact h1
  · exact absurd h h2
theorem okE_len {l : List Ver} {last : UInt32} {max : Int} (h : okE l last max) : l.length ≤ 8 := by have := h.1; omega
theorem okE_data {l : List Ver} {last : UInt32} {max : Int} (h : okE l last max) (i : Nat) : (l.getD i (0, [], 0, 0)).2.1.length ≤ 100 := by
  by_cases q : i < l.length
  · exact (h.2.2 i q).1.2.2.1
  · rw [gD_out _ _ _ (by omega)]; simp
theorem check_fact (l : List Ver) (last : UInt32) (max : Int) : (engine_Check l last max = 0 → l.length ≤ 8) ∧ (engine_Check l last max = 0 → okE l last max) := by
  rcases check_or l last max with ⟨_, h2⟩ | ⟨h1, _⟩
  · exact ⟨fun _ => okE_len h2, fun _ => h2⟩
  · rw [h1]; exact ⟨fun h => absurd h (by decide), fun h => absurd h (by decide)⟩
theorem small_of {l : List Ver} {last : UInt32} {max : Int} (h : okE l last max) : l.length ≤ 1000 ∧ ∀ i : Nat, (l.getD i (0, [], 0, 0)).2.1.length ≤ 1000 := ⟨by have := okE_len h; omega, fun i => Nat.le_trans (okE_data h i) (by decide)⟩
theorem copied_eq (l : List Ver) (a : UInt32) (b : Int) : engine_copied l a b = (l, a, b) := by
  rw [engine_copied, appLoop (f := engine_copied_l1 l) (n := (l.length : Int)) (g := fun i => [l.getD i.toNat (0, [], 0, 0)]) (fun m i o h => by rw [engine_copied_l1, bnd_eq]; rfl) _ _ _ (Int.le_refl 0) (Nat.lt_succ_self _)]
  show engine_copied_k1 a b ([] ++ _) = _
  rw [engine_copied_k1, List.nil_append, Int.sub_zero, Int.toNat_natCast]
  simp only [Int.zero_add, Int.toNat_natCast]
  have : ∀ l : List Ver, (List.range l.length).flatMap (fun k => [l.getD k (0, [], 0, 0)]) = l := fun l => by
    induction l with
    | nil => rfl
    | cons a l ih =>
      rw [List.length_cons, List.range_succ_eq_map, List.flatMap_cons, List.flatMap_map]
      exact congrArg (a :: ·) ih
  rw [this]
theorem copied_fact (l : List Ver) (a : UInt32) (b : Int) : (engine_copied l a b).1.length = l.length ∧ engine_copied l a b = (l, a, b) := by rw [copied_eq]; exact ⟨rfl, rfl⟩
end Go.Proofs.YtbppcnhfeobefaaDoor

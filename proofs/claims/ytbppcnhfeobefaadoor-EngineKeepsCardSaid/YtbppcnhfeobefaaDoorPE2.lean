import Derived.Test.YtbppcnhfeobefaaDoorG2
set_option linter.unusedVariables false
set_option linter.unusedSimpArgs false
namespace Go.Proofs.YtbppcnhfeobefaaDoor
open Go Go.Vw Go.Proofs
theorem find1_eq (a : UInt32) (b : List UInt8) (c : UInt64) (d : Int) (n : UInt32) : engine_find_1 a b c d n = (a == n, n) := by rw [engine_find_1]
theorem idx_l (s : List Ver) (n : UInt32) : ∀ (m : Nat) (i : Int), 0 ≤ i → ((s.length : Int) - i).toNat < m →
    ((∀ j : Nat, i ≤ j → j < s.length → (s.getD j (0, [], 0, 0)).1 ≠ n) ∧ slices_IndexFunc_engine_Version_engine_Version_l1 s m i n = .brk n) ∨
    (∃ j : Nat, i ≤ j ∧ j < s.length ∧ (s.getD j (0, [], 0, 0)).1 = n ∧ slices_IndexFunc_engine_Version_engine_Version_l1 s m i n = .ret ((j : Int), n))
  | 0, _, _, h => absurd h (Nat.not_lt_zero _)
  | m + 1, i, h0, h => by
    rw [slices_IndexFunc_engine_Version_engine_Version_l1]
    by_cases c : i < (s.length : Int)
    · rw [decide_eq_true c, cond_true, bnd_eq, find1_eq]
      by_cases q : (s.getD i.toNat (0, [], 0, 0)).1 = n
      · right
        refine ⟨i.toNat, by omega, by omega, q, ?_⟩
        rw [show ((s.getD i.toNat (0, [], 0, 0)).1 == n) = true by rw [beq_iff_eq]; exact q, cond_true, show ((i.toNat : Nat) : Int) = i by omega]
      · rw [show ((s.getD i.toNat (0, [], 0, 0)).1 == n) = false by rw [beq_eq_false_iff_ne]; exact q, cond_false]
        rcases idx_l s n m (i + 1) (by omega) (by omega) with ⟨a, b⟩ | ⟨j, a, b, e, g⟩
        · refine .inl ⟨fun j h1 h2 => ?_, b⟩
          by_cases w : i = j
          · subst w; rwa [Int.toNat_natCast] at q
          · exact a j (by omega) h2
        · exact .inr ⟨j, by omega, b, e, g⟩
    · rw [decide_eq_false c, cond_false]
      exact .inl ⟨fun j h1 h2 => absurd h2 (by omega), rfl⟩
theorem idx_or (s : List Ver) (n : UInt32) : ((∀ j, j < s.length → (s.getD j (0, [], 0, 0)).1 ≠ n) ∧ slices_IndexFunc_engine_Version_engine_Version s n = (-1, n)) ∨
    (∃ j : Nat, j < s.length ∧ (s.getD j (0, [], 0, 0)).1 = n ∧ slices_IndexFunc_engine_Version_engine_Version s n = ((j : Int), n)) := by
  rw [slices_IndexFunc_engine_Version_engine_Version]
  rcases idx_l s n _ 0 (Int.le_refl 0) (Nat.lt_succ_self _) with ⟨a, b⟩ | ⟨j, a, b, e, g⟩
  · left; refine ⟨fun j hj => a j (by omega) hj, ?_⟩
    rw [b]; show slices_IndexFunc_engine_Version_engine_Version_k1 n = _; rw [slices_IndexFunc_engine_Version_engine_Version_k1]
  · right; exact ⟨j, b, e, by rw [g]; rfl⟩
theorem find_or (l : List Ver) (last : UInt32) (max : Int) (n : UInt32) : (¬ okE l last max ∧ engine_find l last max n = (0, 1)) ∨
    (okE l last max ∧ ∃ j : Nat, j < l.length ∧ (l.getD j (0, [], 0, 0)).1 = (if n = 0 then last else n) ∧ engine_find l last max n = ((j : Int), 0)) ∨
    (okE l last max ∧ (∀ j, j < l.length → (l.getD j (0, [], 0, 0)).1 ≠ (if n = 0 then last else n)) ∧ engine_find l last max n = (0, 5)) := by
  rw [engine_find, bnd_eq]
  rcases check_or l last max with ⟨h1, h2⟩ | ⟨h1, h2⟩
  · right
    rw [h1]
    show (okE l last max ∧ ∃ j : Nat, j < l.length ∧ _ ∧ _root_.cond false _ _ = _) ∨ (okE l last max ∧ _ ∧ _root_.cond false _ _ = _)
    rw [cond_false]
    by_cases q : n = 0
    · rw [show (n == 0) = true by rw [beq_iff_eq]; exact q, cond_true, if_pos q, bnd_eq]
      rcases idx_or l last with ⟨a, b⟩ | ⟨j, a, b, c⟩
      · right; rw [b]; exact ⟨h2, a, rfl⟩
      · left; rw [c]; refine ⟨h2, j, a, b, ?_⟩
        show _root_.cond (decide ((j : Int) < 0)) _ _ = _
        rw [decide_eq_false (by omega), cond_false]
    · rw [show (n == 0) = false by rw [beq_eq_false_iff_ne]; exact q, cond_false, if_neg q, bnd_eq]
      rcases idx_or l n with ⟨a, b⟩ | ⟨j, a, b, c⟩
      · right; rw [b]; exact ⟨h2, a, rfl⟩
      · left; rw [c]; refine ⟨h2, j, a, b, ?_⟩
        show _root_.cond (decide ((j : Int) < 0)) _ _ = _
        rw [decide_eq_false (by omega), cond_false]
  · left; rw [h1]; exact ⟨h2, rfl⟩
theorem find_fact (l : List Ver) (last : UInt32) (max : Int) (n : UInt32) : ((engine_find l last max n).2 = 0 → 0 ≤ (engine_find l last max n).1 ∧ (engine_find l last max n).1 < (l.length : Int)) ∧ ((engine_find l last max n).2 = 0 → okE l last max) ∧ ((engine_find l last max n).2 = 0 → l.length ≤ 8) := by
  rcases find_or l last max n with ⟨_, h⟩ | ⟨h2, j, h3, _, h⟩ | ⟨_, _, h⟩
  · rw [h]; exact ⟨fun q => absurd q (by decide), fun q => absurd q (by decide), fun q => absurd q (by decide)⟩
  · rw [h]; exact ⟨fun _ => ⟨by show (0:Int) ≤ (j : Int); omega, by show (j : Int) < _; omega⟩, fun _ => h2, fun _ => okE_len h2⟩
  · rw [h]; exact ⟨fun q => absurd q (by decide), fun q => absurd q (by decide), fun q => absurd q (by decide)⟩
end Go.Proofs.YtbppcnhfeobefaaDoor

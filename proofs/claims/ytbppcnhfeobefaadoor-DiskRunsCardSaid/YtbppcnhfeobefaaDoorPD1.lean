import Derived.Test.YtbppcnhfeobefaaDoorH4
set_option linter.unusedVariables false
set_option linter.unusedSimpArgs false
namespace Go.Proofs.YtbppcnhfeobefaaDoor
open Go Go.Vw Go.Proofs
noncomputable abbrev ixW := slices_IndexFunc_disk_write_disk_write
theorem ix_or (s : List Wr) (k : Int) : (ixW s k = (-1, k) ∧ ∀ j : Nat, j < s.length → (s.getD j (0, [])).1 ≠ k) ∨ ∃ n : Nat, n < s.length ∧ ixW s k = ((n : Int), k) ∧ (s.getD n (0, [])).1 = k ∧ ∀ j : Nat, j < n → (s.getD j (0, [])).1 ≠ k := by
  have key : ∀ (m i : Nat), i ≤ s.length → s.length - i < m → (∀ j : Nat, j < i → (s.getD j (0, [])).1 ≠ k) →
      ((slices_IndexFunc_disk_write_disk_write_l1 s k m (i : Int) = .brk () ∧ ∀ j : Nat, j < s.length → (s.getD j (0, [])).1 ≠ k) ∨ ∃ n : Nat, n < s.length ∧ slices_IndexFunc_disk_write_disk_write_l1 s k m (i : Int) = .ret ((n : Int), k) ∧ (s.getD n (0, [])).1 = k ∧ ∀ j : Nat, j < n → (s.getD j (0, [])).1 ≠ k) := by
    intro m
    induction m with
    | zero => intro i _ h; exact absurd h (Nat.not_lt_zero _)
    | succ m ih =>
      intro i hi hm hall
      rw [slices_IndexFunc_disk_write_disk_write_l1]
      by_cases c : i < s.length
      · rw [decide_eq_true (by omega : (i : Int) < (s.length : Int)), cond_true, Int.toNat_natCast]
        by_cases q : (s.getD i ((0, []) : Wr)).1 = k
        · rw [show ((s.getD i ((0, []) : Wr)).1 == k) = true by rw [beq_iff_eq]; exact q, cond_true]
          exact .inr ⟨i, c, rfl, q, hall⟩
        · rw [show ((s.getD i ((0, []) : Wr)).1 == k) = false by rw [beq_eq_false_iff_ne]; exact q, cond_false]
          have := ih (i + 1) (by omega) (by omega) (fun j hj => by
            by_cases e : j = i
            · rw [e]; exact q
            · exact hall j (by omega))
          rw [Int.natCast_add i 1] at this
          exact this
      · rw [decide_eq_false (by omega : ¬ (i : Int) < (s.length : Int)), cond_false]
        exact .inl ⟨rfl, fun j hj => hall j (by omega)⟩
  unfold ixW
  rw [slices_IndexFunc_disk_write_disk_write]
  rcases key (((s.length : Int) - (0 : Int)).toNat + 1) 0 (Nat.zero_le _) (by omega) (fun j hj => by omega) with ⟨e, h⟩ | ⟨n, h1, e, h2, h3⟩
  · left
    refine ⟨?_, h⟩
    rw [show slices_IndexFunc_disk_write_disk_write_l1 s k _ 0 = _ from e]
    show slices_IndexFunc_disk_write_disk_write_k1 k = _
    rw [slices_IndexFunc_disk_write_disk_write_k1]
  · right
    refine ⟨n, h1, ?_, h2, h3⟩
    rw [show slices_IndexFunc_disk_write_disk_write_l1 s k _ 0 = _ from e]
    rfl
theorem ix_fact (s : List Wr) (k : Int) : (-1 ≤ (slices_IndexFunc_disk_write_disk_write s k).1 ∧ (slices_IndexFunc_disk_write_disk_write s k).1 < (s.length : Int)) ∧ (slices_IndexFunc_disk_write_disk_write s k).2 = k := by
  rcases ix_or s k with ⟨e, _⟩ | ⟨n, h1, e, _⟩
  · rw [show slices_IndexFunc_disk_write_disk_write s k = _ from e]; exact ⟨⟨by show (-1 : Int) ≤ -1; omega, by show (-1 : Int) < _; omega⟩, rfl⟩
  · rw [show slices_IndexFunc_disk_write_disk_write s k = _ from e]; exact ⟨⟨by show (-1 : Int) ≤ (n : Int); omega, by show (n : Int) < _; omega⟩, rfl⟩
end Go.Proofs.YtbppcnhfeobefaaDoor

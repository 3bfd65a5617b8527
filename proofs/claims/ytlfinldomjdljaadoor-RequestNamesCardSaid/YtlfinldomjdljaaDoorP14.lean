/- The names of what may be asked: the plain law. -/
import Derived.Test.YtlfinldomjdljaaDoorP13
namespace Go.Proofs.YtlfinldomjdljaaDoor
open Go Go.Vw Go.Proofs
theorem uniq : ((List.range 30).all fun i => (List.range 30).all fun j => i == j || !((al i).1 == (al j).1)) = true := by kernel_rfl
theorem uniq_at {i j : Nat} (hi : i < 30) (hj : j < 30) (h : (al i).1 = (al j).1) : i = j := by
  have := List.all_eq_true.1 (List.all_eq_true.1 uniq i (List.mem_range.2 hi)) j (List.mem_range.2 hj)
  rw [h] at this
  simpa using this
noncomputable abbrev nms : List (List UInt8) := bursaryref32_All.map (·.1)
theorem find_eq (v : List UInt8) : request_Find v = (if slices_Index_string_string nms v > 0 then slices_Index_string_string nms v else 0) := by
  rw [request_Find, bnd_eq, show nms = _ from (by rw [nms, bursaryref32_All]; rfl : nms = [[], [105, 110, 105, 116], [117, 110, 115, 101, 97, 108], [115, 101, 97, 108], [115, 116, 97, 116, 117, 115], [112, 117, 116], [103, 101, 116], [100, 101, 108, 101, 116, 101], [117, 110, 100, 101, 108, 101, 116, 101], [100, 101, 115, 116, 114, 111, 121], [108, 105, 115, 116], [112, 111, 108, 105, 99, 121, 45, 112, 117, 116], [112, 111, 108, 105, 99, 121, 45, 103, 101, 116], [112, 111, 108, 105, 99, 121, 45, 100, 101, 108], [116, 111, 107, 101, 110, 45, 99, 114, 101, 97, 116, 101], [116, 111, 107, 101, 110, 45, 114, 101, 110, 101, 119], [116, 111, 107, 101, 110, 45, 114, 101, 118, 111, 107, 101], [116, 111, 107, 101, 110, 45, 115, 101, 108, 102], [108, 101, 97, 115, 101, 45, 105, 115, 115, 117, 101], [108, 101, 97, 115, 101, 45, 114, 101, 110, 101, 119], [108, 101, 97, 115, 101, 45, 114, 101, 118, 111, 107, 101], [108, 101, 97, 115, 101, 45, 112, 114, 101, 102, 105, 120], [114, 111, 116, 97, 116, 101], [114, 101, 107, 101, 121, 45, 115, 116, 97, 114, 116], [114, 101, 107, 101, 121, 45, 115, 104, 97, 114, 101], [114, 101, 107, 101, 121, 45, 99, 97, 110, 99, 101, 108], [114, 111, 111, 116, 45, 115, 116, 97, 114, 116], [114, 111, 111, 116, 45, 115, 104, 97, 114, 101], [114, 111, 111, 116, 45, 99, 97, 110, 99, 101, 108], [97, 117, 100, 105, 116, 45, 104, 101, 97, 100]])]
theorem nms_len : nms.length = 30 := by rw [nms, List.length_map, all_len]
theorem nms_at (j : Nat) (h : j < 30) : nms.getD j [] = (al j).1 := by
  rw [nms, gD_map _ _ _ _ A0, all_len, if_pos h]
theorem idx_l1 (s : List (List UInt8)) (v : List UInt8) : ∀ (m : Nat) (i : Int), 0 ≤ i → ((s.length : Int) - i).toNat < m →
    (∃ j : Nat, i ≤ j ∧ j < s.length ∧ v = s.getD j [] ∧ slices_Index_string_string_l1 s v m i = .ret (j : Int)) ∨ ((∀ j : Nat, i ≤ j → j < s.length → v ≠ s.getD j []) ∧ slices_Index_string_string_l1 s v m i = .brk ()) := by
  intro m
  induction m with
  | zero => intro i _ h; exact absurd h (Nat.not_lt_zero _)
  | succ m ih =>
    intro i h0 h
    rw [slices_Index_string_string_l1]
    by_cases c : i < (s.length : Int)
    · rw [decide_eq_true c, cond_true]
      by_cases d : v = s.getD i.toNat []
      · rw [show (v == s.getD i.toNat []) = true by simpa using d, cond_true]
        refine .inl ⟨i.toNat, by omega, by omega, d, ?_⟩
        rw [show ((i.toNat : Nat) : Int) = i by omega]
      · rw [show (v == s.getD i.toNat []) = false by simpa using d, cond_false]
        rcases ih (i + 1) (by omega) (by omega) with ⟨j, h1, h2, h3, h4⟩ | ⟨h1, h2⟩
        · exact .inl ⟨j, by omega, h2, h3, h4⟩
        · refine .inr ⟨fun j hj hl => ?_, h2⟩
          by_cases e : i = j
          · subst e; rwa [Int.toNat_natCast] at d
          · exact h1 j (by omega) hl
    · rw [decide_eq_false c, cond_false]
      exact .inr ⟨fun j h1 h2 => absurd h2 (by omega), rfl⟩
theorem names_l1 (v : List UInt8) : ∀ (m : Nat) (t i : Int), 1 ≤ i → i ≤ 30 → (30 - i).toNat < m →
    ∃ t', bursarylaw32_RequestNames_l1 v m t i = .brk (bursaryref32_All, t') ∧ ((∃ j : Nat, i ≤ j ∧ j < 30 ∧ (al j).1 = v ∧ t' = j) ∨ ((∀ j : Nat, i ≤ j → j < 30 → (al j).1 ≠ v) ∧ t' = t)) := by
  intro m
  induction m with
  | zero => intro t i _ _ h; exact absurd h (Nat.not_lt_zero _)
  | succ m ih =>
    intro t i h0 h1 h
    rw [bursarylaw32_RequestNames_l1, all_len]
    by_cases c : i < 30
    · rw [decide_eq_true (show i < ((30 : Nat) : Int) from c), cond_true, bnd_eq]
      by_cases d : (al i.toNat).1 = v
      · rw [show ((bursaryref32_All.getD i.toNat (([], 0, false, 0) : List UInt8 × Int × Bool × Int)).1 == v) = true by simpa using d, cond_true]
        obtain ⟨t', e1, e2⟩ := ih i (i + 1) (by omega) (by omega) (by omega)
        refine ⟨t', e1, .inl ?_⟩
        rcases e2 with ⟨j, g1, g2, g3, g4⟩ | ⟨g1, g2⟩
        · exact ⟨j, by omega, g2, g3, g4⟩
        · exact ⟨i.toNat, by omega, by omega, d, by omega⟩
      · rw [show ((bursaryref32_All.getD i.toNat (([], 0, false, 0) : List UInt8 × Int × Bool × Int)).1 == v) = false by simpa using d, cond_false]
        obtain ⟨t', e1, e2⟩ := ih t (i + 1) (by omega) (by omega) (by omega)
        refine ⟨t', e1, ?_⟩
        rcases e2 with ⟨j, g1, g2, g3, g4⟩ | ⟨g1, g2⟩
        · exact .inl ⟨j, by omega, g2, g3, g4⟩
        · refine .inr ⟨fun j hj hl => ?_, g2⟩
          by_cases e : i = j
          · subst e; rwa [Int.toNat_natCast] at d
          · exact g1 j (by omega) hl
    · rw [decide_eq_false (show ¬ i < ((30 : Nat) : Int) from c), cond_false]
      exact ⟨t, rfl, .inr ⟨fun j hj hl => absurd hl (by omega), rfl⟩⟩
theorem find_is (v : List UInt8) (t : Int) (h : (∃ j : Nat, (1 : Int) ≤ j ∧ j < 30 ∧ (al j).1 = v ∧ t = j) ∨ ((∀ j : Nat, (1 : Int) ≤ j → j < 30 → (al j).1 ≠ v) ∧ t = 0)) : request_Find v = t := by
  rw [find_eq, slices_Index_string_string]
  have hl := nms_len
  rcases idx_l1 nms v (((nms.length : Int) - (0 : Int)).toNat + 1) 0 (by omega) (by omega) with ⟨j, h1, h2, h3, h4⟩ | ⟨h1, h2⟩
  · rw [h4]
    rw [nms_at j (by omega)] at h3
    show (if (j : Int) > 0 then (j : Int) else 0) = t
    rcases h with ⟨k, g1, g2, g3, g4⟩ | ⟨g1, g2⟩
    · have := uniq_at (i := j) (j := k) (by omega) g2 (by rw [← h3, g3])
      subst this
      rw [if_pos (by omega), g4]
    · by_cases c : (j : Int) > 0
      · exact absurd h3.symm (g1 j (by omega) (by omega))
      · rw [if_neg c, g2]
  · rw [h2]
    show (if (-1 : Int) > 0 then _ else 0) = t
    rw [if_neg (by omega)]
    rcases h with ⟨k, g1, g2, g3, g4⟩ | ⟨g1, g2⟩
    · exact absurd (by rw [nms_at k g2, g3]) (h1 k (by omega) (by omega))
    · exact g2.symm
theorem open_out (op : Int) (h : op < 1 ∨ op > 29) : request_Open op = false := by
  rw [request_Open, bnd_eq]
  have e (k : Int) (hk : 1 ≤ k ∧ k ≤ 29) : (op == k) = false := by simp; omega
  rw [e 1 (by omega), e 2 (by omega), e 4 (by omega), e 26 (by omega), e 27 (by omega), e 28 (by omega)]
  rfl
theorem secret_eq (op i : Int) : request_Secret op i = (if op = 2 ∨ op = 5 then i == 0 else if op = 24 ∨ op = 27 then i == 1 else false) := by
  rw [request_Secret, bnd_eq, bnd_eq]
  have e (a b : Int) : (bif op == a then op == a else op == b) = decide (op = a ∨ op = b) := by
    by_cases h : op = a
    · subst h; simp
    · rw [show (op == a) = false by simpa using h, cond_false, Bool.eq_iff_iff]; simp [h]
  rw [e, e]
  by_cases h : op = 2 ∨ op = 5
  · rw [if_pos h, decide_eq_true h]; rfl
  · rw [if_neg h, decide_eq_false h, cond_false]
    by_cases g : op = 24 ∨ op = 27
    · rw [if_pos g, decide_eq_true g]; rfl
    · rw [if_neg g, decide_eq_false g]; rfl
theorem requestNames_true (a0 a1 : Int) (a2 : List UInt8) : bursarylaw32_RequestNames a0 a1 a2 = true := by
  rw [bursarylaw32_RequestNames, all_len]
  obtain ⟨t, e1, e2⟩ := names_l1 a2 ((((30 : Nat) : Int) - (1 : Int)).toNat + 1) 0 1 (by omega) (by omega) (by omega)
  rw [e1]
  show bursarylaw32_RequestNames_k1 a0 a1 a2 bursaryref32_All t = true
  rw [bursarylaw32_RequestNames_k1]
  simp only [bnd_eq]
  rw [find_is a2 t e2, show (t != t) = false by simp, cond_false]
  by_cases c : a0 < 1 ∨ a0 > 29
  · have hc : ((decide (a0 ≥ 1)) && (decide (a0 < 30))) = false := by simp; omega
    rw [show ((decide (a0 < 1)) || (decide (a0 > 29))) = true by simpa using c, cond_true, request_Name, request_Args, hc, open_out a0 c, secret_eq, if_neg (by omega), if_neg (by omega), sure32]
    rfl
  · rw [show ((decide (a0 < 1)) || (decide (a0 > 29))) = false by simp; omega, cond_false]
    obtain ⟨t1, t2, t3, t4, t5⟩ := tab_at a0 (by omega) (by omega)
    show ((request_Name a0 == (al a0.toNat).1) && ((request_Args a0 == (al a0.toNat).2.1) && ((request_Open a0 == (al a0.toNat).2.2.1) && (bif decide ((al a0.toNat).2.2.2 ≥ 0) then (request_Secret a0 a1 == ((al a0.toNat).2.2.2 == a1)) && ((request_Find (al a0.toNat).1 == a0) && bursarylaw32_sure) else (request_Secret a0 a1 == false) && ((request_Find (al a0.toNat).1 == a0) && bursarylaw32_sure))))) = true
    rw [t1, t2, t3, t4, t5, secret_eq, sure32]
    have es (k : Int) : (a1 == k) = (k == a1) := by rw [Bool.eq_iff_iff]; simp; exact eq_comm
    by_cases g : a0 = 2 ∨ a0 = 5
    · rw [if_pos g, if_pos g, es]; simp
    · rw [if_neg g, if_neg g]
      by_cases q : a0 = 24 ∨ a0 = 27
      · rw [if_pos q, if_pos q, es]; simp
      · rw [if_neg q, if_neg q]; simp
end Go.Proofs.YtlfinldomjdljaaDoor

import Derived.Test.YtbppcnhfeobefaaDoorG6
set_option linter.unusedVariables false
set_option linter.unusedSimpArgs false
namespace Go.Proofs.YtbppcnhfeobefaaDoor
open Go Go.Vw Go.Proofs
theorem all_get (l : List Ver) : (List.range l.length).flatMap (fun k => [l.getD k (0, [], 0, 0)]) = l := by
  induction l with
  | nil => rfl
  | cons a l ih =>
    rw [List.length_cons, List.range_succ_eq_map, List.flatMap_cons, List.flatMap_map]
    exact congrArg (a :: ·) ih
theorem give_eq (l : List Ver) (a : UInt32) (b : Int) : bursarylaw30_giveSecret l a b = (l, a, b) := by
  rw [bursarylaw30_giveSecret, appLoop (f := bursarylaw30_giveSecret_l1 l) (n := (l.length : Int)) (g := fun i => [l.getD i.toNat (0, [], 0, 0)]) (fun m i o h => by rw [bursarylaw30_giveSecret_l1]) _ _ _ (Int.le_refl 0) (Nat.lt_succ_self _)]
  show bursarylaw30_giveSecret_k1 a b ([] ++ _) = _
  rw [bursarylaw30_giveSecret_k1, List.nil_append, Int.sub_zero, Int.toNat_natCast]
  simp only [Int.zero_add, Int.toNat_natCast]
  rw [all_get]
theorem big_l (l : List Ver) : ∀ (m : Nat) (i : Int), 0 ≤ i → ((l.length : Int) - i).toNat < m → bursarylaw30_bigSecret_l1 l m i = .brk () → ∀ j : Nat, i ≤ j → j < l.length → j < 20 → (l.getD j (0, [], 0, 0)).2.1.length ≤ 400
  | 0, _, _, h, _ => absurd h (Nat.not_lt_zero _)
  | m + 1, i, h0, h, hb => by
    rw [bursarylaw30_bigSecret_l1] at hb
    intro j h1 h2 h3
    by_cases c : i < (l.length : Int) ∧ i < 20
    · rw [show ((decide (i < (l.length : Int))) && (decide (i < 20))) = true by simp; exact c, cond_true] at hb
      by_cases q : (((l.getD i.toNat (0, [], 0, 0)).2.1).length : Int) > 400
      · rw [decide_eq_true q, cond_true] at hb; cases hb
      · rw [decide_eq_false q, cond_false] at hb
        by_cases w : i = j
        · subst w; rw [Int.toNat_natCast] at q; omega
        · exact big_l l m (i + 1) (by omega) (by omega) hb j (by omega) h2 h3
    · exact absurd ⟨by omega, by omega⟩ c
theorem big_fact (l : List Ver) (a : UInt32) (b : Int) : bursarylaw30_bigSecret l a b = false → l.length ≤ 20 ∧ ∀ i : Nat, (l.getD i (0, [], 0, 0)).2.1.length ≤ 400 := by
  rw [bursarylaw30_bigSecret]
  intro h
  cases e : bursarylaw30_bigSecret_l1 l ((((l.length : Int) - (0 : Int)).toNat + 1)) 0 with
  | ret x =>
    -- a round that leaves says true
    rw [e] at h
    have : ∀ (m : Nat) (i : Int) (x : Bool), bursarylaw30_bigSecret_l1 l m i = .ret x → x = true := by
      intro m
      induction m with
      | zero => intro i x h; rw [bursarylaw30_bigSecret_l1] at h; cases h
      | succ m ih =>
        intro i x h
        rw [bursarylaw30_bigSecret_l1] at h
        cases c : ((decide (i < (l.length : Int))) && (decide (i < 20))) with
        | false => rw [c, cond_false] at h; cases h
        | true =>
          rw [c, cond_true] at h
          cases d : decide ((((l.getD i.toNat (0, [], 0, 0)).2.1).length : Int) > 400) with
          | true => rw [d, cond_true] at h; injection h with h; exact h.symm
          | false => rw [d, cond_false] at h; exact ih _ _ h
    have := this _ _ _ e
    rw [this] at h; cases h
  | brk u =>
    rw [e] at h
    have hl : l.length ≤ 20 := by
      have h' : bursarylaw30_bigSecret_k1 l = false := h
      rw [bursarylaw30_bigSecret_k1] at h'
      have := of_decide_eq_false h'; omega
    refine ⟨hl, fun i => ?_⟩
    by_cases q : i < l.length ∧ i < 20
    · exact big_l l _ 0 (Int.le_refl 0) (Nat.lt_succ_self _) e i (by omega) q.1 q.2
    · rw [gD_out _ _ _ (by omega)]; simp
theorem put_len (l : List Ver) (a : UInt32) (b : Int) (d : List UInt8) (c : Int) (t : UInt64) : (engine_Put l a b d c t).1.1.length ≤ 1000 := by
  rw [engine_Put, bnd_eq]
  rcases check_or l a b with ⟨h1, h2⟩ | ⟨h1, _⟩
  · have := okE_len h2
    rw [h1, copied_eq, bnd_eq, bnd_eq]
    cases (!(decide ((0 : Int) = 0))) || (decide ((d.length : Int) > 100)) with
    | true => simp
    | false =>
      rw [cond_false]
      cases (decide (c ≥ 0)) && ((u64i c) != a.toUInt64) with
      | true => simp
      | false =>
        rw [cond_false]
        cases a == 4294967295 with
        | true => simp
        | false =>
          rw [cond_false]
          cases decide ((((l ++ [(a + 1, id d, t, 0)]).length : Nat) : Int) > b) with
          | true => rw [cond_true, bnd_eq]; simp only [dlt_len, List.length_append, List.length_cons, List.length_nil]; omega
          | false => rw [cond_false]; simp only [List.length_append, List.length_cons, List.length_nil]; omega
  · rw [h1]
    show (_root_.cond true _ _ : (List Ver × UInt32 × Int) × Int).1.1.length ≤ _
    rw [cond_true]; simp
theorem encl (l : List Ver) : ∀ (m : Nat) (i : Int) (o : List UInt8), 0 ≤ i → ((l.length : Int) - i).toNat < m → (∀ j : Nat, (l.getD j (0, [], 0, 0)).2.1.length ≤ 100) → ∃ z, engine_Encode_l1 l m i o = .brk z ∧ (z.length : Int) ≤ o.length + 110 * ((l.length - i).toNat : Int)
  | 0, _, _, _, h, _ => absurd h (Nat.not_lt_zero _)
  | m + 1, i, o, h0, h, hd => by
    rw [engine_Encode_l1]
    by_cases c : i < (l.length : Int)
    · rw [decide_eq_true c, cond_true, bnd_eq, concat_eq]
      obtain ⟨z, h1, h2⟩ := encl l m (i + 1) _ (by omega) (by omega) hd
      refine ⟨z, h1, ?_⟩
      have hw := whole_fact ((l.getD i.toNat (0, [], 0, 0)).2.2.1) 8 (by decide)
      have hq := hd i.toNat
      simp only [List.flatten_cons, List.flatten_nil, List.append_nil, List.length_append, List.length_cons, List.length_nil] at h2
      omega
    · rw [decide_eq_false c, cond_false]; exact ⟨_, rfl, by omega⟩
theorem enc_len (l : List Ver) (a : UInt32) (b : Int) : (engine_Encode l a b).1.length ≤ 1000 := by
  rw [engine_Encode, bnd_eq]
  rcases check_or l a b with ⟨h1, h2⟩ | ⟨h1, _⟩
  · have := okE_len h2
    rw [h1]
    show (_root_.cond false _ _ : List UInt8 × Int).1.length ≤ _
    rw [cond_false, bnd_eq, concat_eq]
    obtain ⟨z, q1, q2⟩ := encl l ((((l.length : Int) - (0 : Int)).toNat + 1)) 0 (([([115, 101] : List UInt8), ([u8i b] : List UInt8), engine_whole a.toUInt64 4, ([u8i (l.length : Int)] : List UInt8)] : List (List UInt8)).flatten) (Int.le_refl 0) (Nat.lt_succ_self _) (fun j => okE_data h2 j)
    rw [q1]
    show (engine_Encode_k1 z).1.length ≤ _
    rw [engine_Encode_k1]
    have hw := whole_fact a.toUInt64 4 (by decide)
    simp only [List.flatten_cons, List.flatten_nil, List.append_nil, List.length_append, List.length_cons, List.length_nil] at q2
    show z.length ≤ 1000
    omega
  · rw [h1]
    show (_root_.cond true _ _ : List UInt8 × Int).1.length ≤ _
    rw [cond_true]; simp
end Go.Proofs.YtbppcnhfeobefaaDoor

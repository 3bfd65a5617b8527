import Derived.Test.YtbppcnhfeobefaaDoorG6
set_option linter.unusedVariables false
set_option linter.unusedSimpArgs false
namespace Go.Proofs.YtbppcnhfeobefaaDoor
open Go Go.Vw Go.Proofs
theorem put_len (l : List Ver) (a : UInt32) (b : Int) (d : List UInt8) (c : Int) (t : UInt64) : (engine_Put l a b d c t).1.1.length ≤ 1000 := by
  rw [engine_Put, bnd_eq]
  rcases check_or l a b with ⟨h1, h2⟩ | ⟨h1, _⟩
  · have := okE_len h2
    rw [h1, copied_eq, bnd_eq, bnd_eq]
    cases (!(decide ((0 : Int) = 0))) || (decide ((d.length : Int) > 100)) with
    | true => simp
    | false =>
      rw [cond_false]
      cases (decide (c ≥ 0)) && ((u64i c) != a.toUInt64) with
      | true => simp
      | false =>
        rw [cond_false]
        cases a == 4294967295 with
        | true => simp
        | false =>
          rw [cond_false]
          cases decide ((((l ++ [(a + 1, id d, t, 0)]).length : Nat) : Int) > b) with
          | true => rw [cond_true, bnd_eq]; simp only [dlt_len, List.length_append, List.length_cons, List.length_nil]; omega
          | false => rw [cond_false]; simp only [List.length_append, List.length_cons, List.length_nil]; omega
  · rw [h1]
    show (_root_.cond true _ _ : (List Ver × UInt32 × Int) × Int).1.1.length ≤ _
    rw [cond_true]; simp
theorem set_len (l : List Ver) (a : UInt32) (b : Int) (n : UInt32) (s : Int) : (engine_set l a b n s).1.1.length ≤ 1000 := by
  rw [engine_set, bnd_eq]
  have hf := (find_fact l a b n).2.2
  cases q : decide ((engine_find l a b n).2 = 0) with
  | false => show (_root_.cond true _ _ : (List Ver × UInt32 × Int) × Int).1.1.length ≤ _; rw [cond_true]; simp
  | true =>
    have h8 := hf (of_decide_eq_true q)
    show (_root_.cond false _ _ : (List Ver × UInt32 × Int) × Int).1.1.length ≤ _
    rw [cond_false, copied_eq, bnd_eq]
    cases (((l.getD (engine_find l a b n).1.toNat (0, [], 0, 0)).2.2.2) == 2) && (s != 2) with
    | true => simp
    | false =>
      rw [cond_false]
      cases s == 2 with
      | true => rw [cond_true]; simp only [List.length_set]; omega
      | false => rw [cond_false]; simp only [List.length_set]; omega
theorem del_len (l : List Ver) (a : UInt32) (b : Int) (n : UInt32) : (engine_Delete l a b n).1.1.length ≤ 1000 := by rw [engine_Delete, bnd_eq]; exact set_len l a b n 1
theorem und_len (l : List Ver) (a : UInt32) (b : Int) (n : UInt32) : (engine_Undelete l a b n).1.1.length ≤ 1000 := by rw [engine_Undelete, bnd_eq]; exact set_len l a b n 0
theorem des_len (l : List Ver) (a : UInt32) (b : Int) (n : UInt32) : (engine_Destroy l a b n).1.1.length ≤ 1000 := by rw [engine_Destroy, bnd_eq]; exact set_len l a b n 2
theorem new_len (m : Int) : (engine_New m).1.1.length ≤ 1000 := by
  rw [engine_New, bnd_eq]
  cases (!(decide (engine_Check [] 0 m = 0))) with
  | true => simp
  | false => simp
theorem encl (l : List Ver) : ∀ (m : Nat) (i : Int) (o : List UInt8), 0 ≤ i → ((l.length : Int) - i).toNat < m → (∀ j : Nat, (l.getD j (0, [], 0, 0)).2.1.length ≤ 100) → ∃ z, engine_Encode_l1 l m i o = .brk z ∧ (z.length : Int) ≤ o.length + 110 * ((l.length - i).toNat : Int)
  | 0, _, _, _, h, _ => absurd h (Nat.not_lt_zero _)
  | m + 1, i, o, h0, h, hd => by
    rw [engine_Encode_l1]
    by_cases c : i < (l.length : Int)
    · rw [decide_eq_true c, cond_true, bnd_eq, concat_eq]
      obtain ⟨z, h1, h2⟩ := encl l m (i + 1) _ (by omega) (by omega) hd
      refine ⟨z, h1, ?_⟩
      have hw := whole_fact ((l.getD i.toNat (0, [], 0, 0)).2.2.1) 8 (by decide)
      have hq := hd i.toNat
      simp only [List.flatten_cons, List.flatten_nil, List.append_nil, List.length_append, List.length_cons, List.length_nil] at h2
      omega
    · rw [decide_eq_false c, cond_false]; exact ⟨_, rfl, by omega⟩
theorem enc_len (l : List Ver) (a : UInt32) (b : Int) : (engine_Encode l a b).1.length ≤ 1000 := by
  rw [engine_Encode, bnd_eq]
  rcases check_or l a b with ⟨h1, h2⟩ | ⟨h1, _⟩
  · have := okE_len h2
    rw [h1]
    show (_root_.cond false _ _ : List UInt8 × Int).1.length ≤ _
    rw [cond_false, bnd_eq, concat_eq]
    obtain ⟨z, q1, q2⟩ := encl l ((((l.length : Int) - (0 : Int)).toNat + 1)) 0 (([([115, 101] : List UInt8), ([u8i b] : List UInt8), engine_whole a.toUInt64 4, ([u8i (l.length : Int)] : List UInt8)] : List (List UInt8)).flatten) (Int.le_refl 0) (Nat.lt_succ_self _) (fun j => okE_data h2 j)
    rw [q1]
    show (engine_Encode_k1 z).1.length ≤ _
    rw [engine_Encode_k1]
    have hw := whole_fact a.toUInt64 4 (by decide)
    simp only [List.flatten_cons, List.flatten_nil, List.append_nil, List.length_append, List.length_cons, List.length_nil] at q2
    show z.length ≤ 1000
    omega
  · rw [h1]
    show (_root_.cond true _ _ : List UInt8 × Int).1.length ≤ _
    rw [cond_true]; simp
end Go.Proofs.YtbppcnhfeobefaaDoor

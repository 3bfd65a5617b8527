import Derived.Test.YtdlnppcndcfikaaDoorPS
import Derived.Test.YtdlnppcndcfikaaDoorG8
set_option linter.unusedVariables false
set_option linter.unusedSimpArgs false
namespace Go.Proofs.YtdlnppcndcfikaaDoor
open Go Go.Vw Go.Proofs
theorem app32 {x y u v : List UInt8} (hx : x.length = 32) (hy : y.length = 32) (h : x ++ u = y ++ v) : x = y ∧ u = v := List.append_inj h (by rw [hx, hy])
theorem apart_l1 (key : List UInt8) (a b : List (List UInt8)) (ha : a.length ≤ 12) (hb : b.length ≤ 12) (hab : a.length = b.length) : ∀ (m i : Nat), i ≤ a.length → (hAt key a i).2 = (hAt key b i).2 → i < m →
    (∃ s t, chain_Apart_l1 a b (chain_heads key a) (chain_heads key b) m ((i : Int) - 1) = Lo.ret (s, t, true) ∧ s ≠ t ∧ hmac_Mac key s = hmac_Mac key t ∧ a ≠ b) ∨
    (chain_Apart_l1 a b (chain_heads key a) (chain_heads key b) m ((i : Int) - 1) = Lo.brk () ∧ ∀ j, j < i → a.getD j [] = b.getD j [])
  | 0, _, _, _, h => absurd h (Nat.not_lt_zero _)
  | m + 1, 0, _, _, _ => by
    refine .inr ⟨?_, fun j h => absurd h (Nat.not_lt_zero _)⟩
    rw [chain_Apart_l1, decide_eq_false (by omega), cond_false]
  | m + 1, i + 1, h1, h2, h3 => by
    rw [chain_Apart_l1, show (((i + 1 : Nat) : Int) - 1) = (i : Int) by omega, decide_eq_true (by omega : (i : Int) ≥ 0), cond_true, Int.toNat_natCast, heads_at key a (by omega) i (by omega), heads_at key b (by omega) i (by omega)]
    simp only [bnd_eq]
    rw [summed_eq, summed_eq, hAt_fx, hAt_fx]
    rw [hAt, hAt, hAt_fx, hAt_fx] at h2
    cases q : slices_Equal_byte_byte ((hAt key a i).2 ++ a.getD i []) ((hAt key b i).2 ++ b.getD i []) with
    | false =>
      refine .inl ⟨_, _, rfl, ?_, h2, ?_⟩
      · intro e
        rw [(eq_bytes _ _).2 e] at q; simp at q
      · intro e
        subst e
        rw [(eq_bytes _ _).2 rfl] at q; simp at q
    | true =>
      obtain ⟨e1, e2⟩ := app32 (hAt_len key a i) (hAt_len key b i) ((eq_bytes _ _).1 q)
      rcases apart_l1 key a b ha hb hab m i (by omega) e1 (by omega) with ⟨s, t, w⟩ | ⟨w1, w2⟩
      · exact .inl ⟨s, t, w⟩
      · refine .inr ⟨w1, fun j hj => ?_⟩
        by_cases c : j = i
        · rw [c, e2]
        · exact w2 j (by omega)
theorem apart_eq (key : List UInt8) (a b : List (List UInt8)) (ha : a.length ≤ 12) (hb : b.length ≤ 12) :
    (chain_Verify key b (hAt key a a.length).1 (hAt key a a.length).2 = false ∧ chain_Apart key a b = ([], [], false)) ∨
    (chain_Verify key b (hAt key a a.length).1 (hAt key a a.length).2 = true ∧ ((a = b ∧ chain_Apart key a b = ([], [], false)) ∨
      (a ≠ b ∧ ∃ s t, chain_Apart key a b = (s, t, true) ∧ s ≠ t ∧ hmac_Mac key s = hmac_Mac key t))) := by
  rw [chain_Apart]
  simp only [bnd_eq]
  rw [heads_len key a (by omega), heads_len key b (by omega), show (((a.length + 1 : Nat) : Int) - 1).toNat = a.length by omega, show (((b.length + 1 : Nat) : Int) - 1).toNat = b.length by omega, heads_at key a (by omega) _ (Nat.le_refl _), heads_at key b (by omega) _ (Nat.le_refl _), verify_eq key b _ _ (by omega), BEq.comm (a := (hAt key b b.length).1), BEq.comm (a := fxa 32 (hAt key b b.length).2)]
  cases q : ((hAt key a a.length).1 == (hAt key b b.length).1) && (fxa 32 (hAt key a a.length).2 == fxa 32 (hAt key b b.length).2) with
  | false => exact .inl ⟨rfl, rfl⟩
  | true =>
    refine .inr ⟨rfl, ?_⟩
    rw [Bool.and_eq_true_iff, beq_iff_eq, beq_iff_eq, hAt_fx, hAt_fx] at q
    have hab : a.length = b.length := by
      rw [← hAt_n key a a.length (by omega), ← hAt_n key b b.length (by omega), q.1]
    have e2 := q.2
    rw [← hab] at e2
    have ew : (((a.length : Int) - 1) + 1).toNat + 1 = a.length + 1 := by omega
    rw [Bool.not_true, cond_false, ew]
    rcases apart_l1 key a b ha hb hab (a.length + 1) a.length (Nat.le_refl _) e2 (by omega) with ⟨s, t, w1, w2, w3, w4⟩ | ⟨w1, w2⟩
    · exact .inr ⟨w4, s, t, by rw [w1]; rfl, w2, w3⟩
    · exact .inl ⟨ext_gD [] hab w2, by rw [w1, elB, chain_Apart_k1]⟩
theorem chainApart_true (a0 : List UInt8) (a1 a2 : List (List UInt8)) : bursarylaw34_ChainApart a0 a1 a2 = true := by
  rw [bursarylaw34_ChainApart]
  simp only [bnd_eq]
  cases q : (decide ((a0.length : Int) > 200)) || (bursarylaw34_bigList a1 || (bursarylaw34_bigList a2 || ((decide ((a1.length : Int) > 12)) || (decide ((a2.length : Int) > 12))))) with
  | true => exact sure34
  | false =>
    rw [cond_false]
    rw [Bool.or_eq_false_iff, Bool.or_eq_false_iff, Bool.or_eq_false_iff, Bool.or_eq_false_iff] at q
    obtain ⟨q1, q2, q3, q4, q5⟩ := q
    obtain ⟨g1, g3⟩ := guard34 q1 q4
    obtain ⟨_, g4⟩ := guard34 q1 q5
    have s : chain_Apart a0 a1 a1 = ([], [], false) := by
      rcases apart_eq a0 a1 a1 g3 g3 with ⟨_, h⟩ | ⟨_, ⟨_, h⟩ | ⟨h, _⟩⟩
      · exact h
      · exact h
      · exact absurd rfl h
    rw [s, of_eq a0 a1 (by omega), sure34]
    have z : ((([] : List UInt8), ([] : List UInt8), false).2.2 || (decide ((([] : List UInt8).length : Int) + (([] : List UInt8).length : Int) > 0))) = false := rfl
    rw [z, cond_false]
    rcases apart_eq a0 a1 a2 g3 g4 with ⟨h1, h2⟩ | ⟨h1, ⟨h2, h3⟩ | ⟨h2, x, y, h3, h4, h5⟩⟩
    · rw [h1, h2]; simp
    · subst h2
      rw [h1, h3, (lists_iff _ _).2 rfl]; simp
    · have l : bursarylaw34_lists a1 a2 = false := by
        cases w : bursarylaw34_lists a1 a2 with
        | false => rfl
        | true => exact absurd ((lists_iff _ _).1 w) h2
      rw [h1, h3, l]
      simp [h4, h5]
end Go.Proofs.YtdlnppcndcfikaaDoor

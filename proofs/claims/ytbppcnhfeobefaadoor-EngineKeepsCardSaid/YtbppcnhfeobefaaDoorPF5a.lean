import Derived.Test.YtbppcnhfeobefaaDoorPF1a
set_option linter.unusedVariables false
set_option linter.unusedSimpArgs false
namespace Go.Proofs.YtbppcnhfeobefaaDoor
open Go Go.Vw Go.Proofs
def keepL (l : List Ver) (b : Int) : List Ver := if (l.length : Int) = b then l.drop 1 else l
theorem keep_ok {l : List Ver} {a : UInt32} {b : Int} (ok : okE l a b) (d : List UInt8) (t : UInt64) (hd : d.length ≤ 100) (ha : a.toNat < 4294967295) : okE (keepL l b ++ [(a + 1, d, t, 0)]) (a + 1) b := by
  obtain ⟨⟨a1, a2, a3⟩, ⟨a4, a5⟩, a6⟩ := ok
  have hA : (a + 1).toNat = a.toNat + 1 := by rw [UInt32.toNat_add]; show (a.toNat + 1) % 4294967296 = _; omega
  obtain ⟨s, hs, hk, hkl, hkg⟩ : ∃ s : Nat, s ≤ 1 ∧ ((l.length : Int) = b ↔ s = 1) ∧ (keepL l b).length = l.length - s ∧ ∀ i, i < (keepL l b).length → (keepL l b).getD i (0, [], 0, 0) = l.getD (s + i) (0, [], 0, 0) := by
    unfold keepL
    by_cases q : (l.length : Int) = b
    · refine ⟨1, Nat.le_refl _, by simp [q], by rw [if_pos q]; simp, fun i _ => by rw [if_pos q, gD_drop]⟩
    · exact ⟨0, by omega, by simp [q], by rw [if_neg q]; simp, fun i _ => by rw [if_neg q, Nat.zero_add]⟩
  have hlen : (keepL l b ++ [((a + 1, d, t, 0) : Ver)]).length = l.length - s + 1 := by rw [List.length_append, hkl]; rfl
  refine ⟨⟨a1, a2, ?_⟩, ⟨?_, ?_⟩, fun i hi => ?_⟩
  · rw [hlen]
    by_cases q : (l.length : Int) = b
    · have := hk.1 q; omega
    · omega
  · rw [hlen, hA]; omega
  · rw [hlen, hA]; omega
  · rw [hlen] at hi
    have hsl : s ≤ l.length := by
      by_cases q : (l.length : Int) = b
      · omega
      · have : s ≠ 1 := fun e => q (hk.2 e)
        omega
    rw [gD_app]
    by_cases q : i < (keepL l b).length
    · rw [if_pos q, hkg i q]
      obtain ⟨c1, c2⟩ := a6 (s + i) (by rw [hkl] at q; omega)
      refine ⟨c1, ?_⟩
      rw [c2, hlen, hA]; omega
    · have : i = (keepL l b).length := by rw [hkl] at q ⊢; omega
      rw [if_neg q, this, Nat.sub_self]
      show okV (a + 1, d, t, 0) ∧ (a + 1).toNat = _
      refine ⟨⟨Int.le_refl 0, (by show (0 : Int) ≤ 2; decide), hd, fun e => by cases e⟩, ?_⟩
      rw [hlen, hA, hkl]; omega
theorem put_ok {l : List Ver} {a : UInt32} {b : Int} (ok : okE l a b) (d : List UInt8) (c : Int) (t : UInt64) (hd : d.length ≤ 100) (hc : c < 0 ∨ c = (a.toNat : Int)) (ha : a.toNat < 4294967295) : engine_Put l a b d c t = ((keepL l b ++ [(a + 1, d, t, 0)], a + 1, b), 0) := by
  rw [engine_Put, bnd_eq, check_yes ok, copied_eq]
  have hb := ok.1
  simp only [decide_true, Bool.not_true, Bool.false_or, bnd_eq, id_eq]
  rw [decide_eq_false (by omega), cond_false]
  have e : ((decide (c ≥ 0)) && ((u64i c) != a.toUInt64)) = false := by
    rcases hc with h | rfl
    · rw [decide_eq_false (by omega)]; rfl
    · have hu := u64i_len a.toNat (by have := a.toNat_lt; omega)
      have : (u64i (a.toNat : Int)) = a.toUInt64 := by apply UInt64.toNat_inj.1; rw [hu, UInt32.toNat_toUInt64]
      rw [this]; simp
  rw [e, cond_false, show (a == 4294967295) = false by rw [beq_eq_false_iff_ne]; rintro rfl; exact absurd ha (by decide), cond_false]
  by_cases q : (l.length : Int) = b
  · rw [decide_eq_true (by rw [List.length_append]; simp; omega), cond_true]
    have e1 : dlt (l ++ [((a + 1, d, t, 0) : Ver)]) 0 1 = l.drop 1 ++ [(a + 1, d, t, 0)] := by
      rw [dlt]
      show [] ++ (l ++ _).drop 1 = l.drop 1 ++ _
      rw [List.nil_append, List.drop_append_of_le_length (by omega)]
    rw [e1, keepL, if_pos q]
  · rw [decide_eq_false (by rw [List.length_append]; simp; omega), cond_false, keepL, if_neg q]
end Go.Proofs.YtbppcnhfeobefaaDoor

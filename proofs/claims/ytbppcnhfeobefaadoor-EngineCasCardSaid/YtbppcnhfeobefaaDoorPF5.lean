import Derived.Test.YtbppcnhfeobefaaDoorG9
import Derived.Test.YtbppcnhfeobefaaDoorPF1a
set_option linter.unusedVariables false
set_option linter.unusedSimpArgs false
namespace Go.Proofs.YtbppcnhfeobefaaDoor
open Go Go.Vw Go.Proofs
def keepL (l : List Ver) (b : Int) : List Ver := if (l.length : Int) = b then l.drop 1 else l
theorem keep_ok {l : List Ver} {a : UInt32} {b : Int} (ok : okE l a b) (d : List UInt8) (t : UInt64) (hd : d.length ≤ 100) (ha : a.toNat < 4294967295) : okE (keepL l b ++ [(a + 1, d, t, 0)]) (a + 1) b := by
  obtain ⟨⟨a1, a2, a3⟩, ⟨a4, a5⟩, a6⟩ := ok
  have hA : (a + 1).toNat = a.toNat + 1 := by rw [UInt32.toNat_add]; show (a.toNat + 1) % 4294967296 = _; omega
  obtain ⟨s, hs, hk, hkl, hkg⟩ : ∃ s : Nat, s ≤ 1 ∧ ((l.length : Int) = b ↔ s = 1) ∧ (keepL l b).length = l.length - s ∧ ∀ i, i < (keepL l b).length → (keepL l b).getD i (0, [], 0, 0) = l.getD (s + i) (0, [], 0, 0) := by
    unfold keepL
    by_cases q : (l.length : Int) = b
    · refine ⟨1, Nat.le_refl _, by simp [q], by rw [if_pos q]; simp, fun i _ => by rw [if_pos q, gD_drop]⟩
    · exact ⟨0, by omega, by simp [q], by rw [if_neg q]; simp, fun i _ => by rw [if_neg q, Nat.zero_add]⟩
  have hlen : (keepL l b ++ [((a + 1, d, t, 0) : Ver)]).length = l.length - s + 1 := by rw [List.length_append, hkl]; rfl
  refine ⟨⟨a1, a2, ?_⟩, ⟨?_, ?_⟩, fun i hi => ?_⟩
  · rw [hlen]
    by_cases q : (l.length : Int) = b
    · have := hk.1 q; omega
    · omega
  · rw [hlen, hA]; omega
  · rw [hlen, hA]; omega
  · rw [hlen] at hi
    have hsl : s ≤ l.length := by
      by_cases q : (l.length : Int) = b
      · omega
      · have : s ≠ 1 := fun e => q (hk.2 e)
        omega
    rw [gD_app]
    by_cases q : i < (keepL l b).length
    · rw [if_pos q, hkg i q]
      obtain ⟨c1, c2⟩ := a6 (s + i) (by rw [hkl] at q; omega)
      refine ⟨c1, ?_⟩
      rw [c2, hlen, hA]; omega
    · have : i = (keepL l b).length := by rw [hkl] at q ⊢; omega
      rw [if_neg q, this, Nat.sub_self]
      show okV (a + 1, d, t, 0) ∧ (a + 1).toNat = _
      refine ⟨⟨Int.le_refl 0, (by show (0 : Int) ≤ 2; decide), hd, fun e => by cases e⟩, ?_⟩
      rw [hlen, hA, hkl]; omega
theorem put_ok {l : List Ver} {a : UInt32} {b : Int} (ok : okE l a b) (d : List UInt8) (c : Int) (t : UInt64) (hd : d.length ≤ 100) (hc : c < 0 ∨ c = (a.toNat : Int)) (ha : a.toNat < 4294967295) : engine_Put l a b d c t = ((keepL l b ++ [(a + 1, d, t, 0)], a + 1, b), 0) := by
  rw [engine_Put, bnd_eq, check_yes ok, copied_eq]
  have hb := ok.1
  simp only [decide_true, Bool.not_true, Bool.false_or, bnd_eq, id_eq]
  rw [decide_eq_false (by omega), cond_false]
  have e : ((decide (c ≥ 0)) && ((u64i c) != a.toUInt64)) = false := by
    rcases hc with h | rfl
    · rw [decide_eq_false (by omega)]; rfl
    · have hu := u64i_len a.toNat (by have := a.toNat_lt; omega)
      have : (u64i (a.toNat : Int)) = a.toUInt64 := by apply UInt64.toNat_inj.1; rw [hu, UInt32.toNat_toUInt64]
      rw [this]; simp
  rw [e, cond_false, show (a == 4294967295) = false by rw [beq_eq_false_iff_ne]; rintro rfl; exact absurd ha (by decide), cond_false]
  by_cases q : (l.length : Int) = b
  · rw [decide_eq_true (by rw [List.length_append]; simp; omega), cond_true]
    have e1 : dlt (l ++ [((a + 1, d, t, 0) : Ver)]) 0 1 = l.drop 1 ++ [(a + 1, d, t, 0)] := by
      rw [dlt]
      show [] ++ (l ++ _).drop 1 = l.drop 1 ++ _
      rw [List.nil_append, List.drop_append_of_le_length (by omega)]
    rw [e1, keepL, if_pos q]
  · rw [decide_eq_false (by rw [List.length_append]; simp; omega), cond_false, keepL, if_neg q]
theorem put_held {l : List Ver} {a : UInt32} {b : Int} (ok : okE l a b) (d : List UInt8) (c : Int) (t : UInt64) (hd : d.length ≤ 100) (h0 : 0 ≤ c) (hc : c ≠ (a.toNat : Int)) (hc2 : c < 18446744073709551616) : (engine_Put l a b d c t).2 = 20 := by
  rw [engine_Put, bnd_eq, check_yes ok]
  simp only [decide_true, Bool.not_true, Bool.false_or]
  rw [decide_eq_false (by omega), cond_false]
  have e : ((decide (c ≥ 0)) && ((u64i c) != a.toUInt64)) = true := by
    rw [decide_eq_true h0, Bool.true_and, bne_iff_ne]
    obtain ⟨n, rfl⟩ := Int.eq_ofNat_of_zero_le h0
    intro e
    have := congrArg UInt64.toNat e
    rw [u64i_len n (by omega), UInt32.toNat_toUInt64] at this
    exact hc (by rw [this])
  rw [e, cond_true]
theorem get_last {p : List Ver} {v : Ver} {a : UInt32} {b : Int} (ok : okE (p ++ [v]) a b) (hv : v.2.2.2 = 0) : engine_Get (p ++ [v]) a b 0 = (v, 0) := by
  have hl : (p ++ [v]).length = p.length + 1 := by simp
  have hlast : (p ++ [v]).getD p.length (0, [], 0, 0) = v := by rw [gD_app, if_neg (by omega), Nat.sub_self]; rfl
  have hnum := ok.2.2
  have h45 := ok.2.1.1
  rw [engine_Get, bnd_eq, copied_eq]
  rcases find_or (p ++ [v]) a b 0 with ⟨h1, _⟩ | ⟨_, j, h2, h3, h4⟩ | ⟨_, h2, _⟩
  · exact absurd ok h1
  · rw [if_pos rfl] at h3
    have hj := (hnum j h2).2
    rw [h3] at hj
    have : j = p.length := by omega
    subst this
    rw [h4]
    simp only [decide_true, Bool.not_true, cond_false, bnd_eq, Int.toNat_natCast, hlast]
    obtain ⟨x1, x2, x3, x4⟩ := v
    simp only at hv; subst hv; rfl
  · exfalso
    have hj := (hnum p.length (by omega)).2
    have := h2 p.length (by omega)
    rw [if_pos rfl] at this
    apply this; apply UInt32.toNat_inj.1; omega
theorem cas_true (l : List Ver) (a : UInt32) (b : Int) (d1 : List UInt8) (c1 : Int) (n1 : UInt32) (t1 : UInt64) (d2 : List UInt8) (c2 : Int) (n2 : UInt32) (t2 : UInt64) : bursarylaw30_EngineCas l a b d1 c1 n1 t1 d2 c2 n2 t2 = true := by
  rw [bursarylaw30_EngineCas, give_eq, bnd_eq, bnd_eq, bnd_eq]
  cases e : (bursarylaw30_bigSecret l a b) || ((decide ((d1.length : Int) > 100)) || ((decide ((d2.length : Int) > 100)) || ((!(decide (engine_Check l a b = 0))) || (decide (a > 2147483648))))) with
  | true => rw [cond_true, sure30_true]
  | false =>
    rw [cond_false]
    simp only [Bool.or_eq_false_iff, decide_eq_false_iff_not, Bool.not_eq_false', decide_eq_true_eq] at e
    obtain ⟨_, e2, e3, e4, e5⟩ := e
    have ok := (check_fact l a b).2 e4
    have ha : a.toNat ≤ 2147483648 := by
      have : ¬ (2147483648 : UInt32) < a := e5
      rw [UInt32.not_lt, UInt32.le_iff_toNat_le] at this; exact this
    have hA : (a + 1).toNat = a.toNat + 1 := by rw [UInt32.toNat_add]; show (a.toNat + 1) % 4294967296 = _; omega
    rw [put_ok ok d1 (a.toNat : Int) 1 (by omega) (.inr rfl) (by omega)]
    have ok2 := keep_ok ok d1 1 (by omega) (by omega)
    simp only [bnd_eq, id_eq]
    rw [put_held ok2 d2 (a.toNat : Int) 1 (by omega) (by omega) (by omega) (by have := a.toNat_lt; omega)]
    rw [put_ok ok2 d2 (-1) 1 (by omega) (.inl (by decide)) (by omega)]
    have ok3 := keep_ok ok2 d2 1 (by omega) (by omega)
    simp only
    rw [get_last ok3 rfl, sure30_true]
    simp only [decide_true, beq_self_eq_true, Bool.true_and, Bool.and_true]
    rw [beq_iff_eq, UInt32.add_assoc]; rfl
end Go.Proofs.YtbppcnhfeobefaaDoor

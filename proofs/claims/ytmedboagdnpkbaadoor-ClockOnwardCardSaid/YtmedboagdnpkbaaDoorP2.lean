import Derived.Test.YtmedboagdnpkbaaDoorP1
namespace Go.Proofs.YtmedboagdnpkbaaDoor
open Go Go.Vw Go.Proofs
theorem bif_ite {α : Type} (b : Bool) (x y : α) : (bif b then x else y) = if b = true then x else y := by cases b <;> rfl
theorem bnd_eq {α β : Type} (v : α) (F : α → β) : bnd v F = F v := (fun h => h) rfl
theorem u64_add (a b : UInt64) : (a + b).toNat = (a.toNat + b.toNat) % 18446744073709551616 := UInt64.toNat_add a b
/-- The greatest number, by a name. -/
def mx : Nat := 18446744073709551615
theorem mx_eq : mx = 18446744073709551615 := rfl
theorem lt_mx (a : UInt64) : a.toNat ≤ mx := by have := a.toNat_lt; rw [mx_eq]; omega
theorem ge_iff (a b : UInt64) : b ≥ 18446744073709551615 - a ↔ mx ≤ a.toNat + b.toNat := by
  simp only [GE.ge, UInt64.le_iff_toNat_le, u64_sub, mx_eq]
  have := a.toNat_lt; have := b.toNat_lt
  simp
  omega
theorem gt_iff (a b : UInt64) : a > 18446744073709551615 - b ↔ mx < a.toNat + b.toNat := by
  simp only [GT.gt, UInt64.lt_iff_toNat_lt, u64_sub, mx_eq]
  have := a.toNat_lt; have := b.toNat_lt
  simp
  omega
theorem add_mx (a b : UInt64) (h : a.toNat + b.toNat ≤ mx) : (a + b).toNat = a.toNat + b.toNat := by
  rw [u64_add]; rw [mx_eq] at h; omega
theorem eq_mx (a : UInt64) : a = 18446744073709551615 ↔ a.toNat = mx := by
  rw [← UInt64.toNat_inj, mx_eq]; simp
/-- What a time so much later is: as whole numbers. -/
theorem tick_val (a b : UInt64) : clock_Tick a b = if mx < a.toNat + b.toNat then 18446744073709551615 else a + b := by
  rw [clock_Tick]
  by_cases h : mx < a.toNat + b.toNat
  · rw [decide_eq_true ((gt_iff b a).2 (by omega)), if_pos h]; rfl
  · rw [decide_eq_false (fun q => h (by have := (gt_iff b a).1 q; omega)), if_neg h]; rfl
theorem until_val (a b : UInt64) : clock_Until a b = if b = 0 then (18446744073709551615, 0) else if mx ≤ a.toNat + b.toNat then (0, 19) else (a + b, 0) := by
  rw [clock_Until]
  by_cases hb : b = 0
  · have hb' : (b == 0) = true := by simpa using hb
    rw [hb', if_pos hb, cond_true]
  · have hb' : (b == 0) = false := by simpa using hb
    rw [hb', if_neg hb, cond_false]
    by_cases h : mx ≤ a.toNat + b.toNat
    · rw [decide_eq_true ((ge_iff a b).2 h), if_pos h, cond_true]
    · rw [decide_eq_false (fun q => h ((ge_iff a b).1 q)), if_neg h, cond_false]
theorem untilR_val (a b : UInt64) : bursaryref27_Until a b = if b = 0 then (18446744073709551615, 0) else if mx ≤ a.toNat + b.toNat then (0, 19) else (a + b, 0) := by
  rw [bursaryref27_Until, ← tick_eq, tick_val]
  by_cases hb : b = 0
  · have hb' : (b == 0) = true := by simpa using hb
    rw [hb', if_pos hb, cond_true]
  · have hb' : (b == 0) = false := by simpa using hb
    rw [hb', if_neg hb, cond_false, bnd_eq]
    by_cases h : mx ≤ a.toNat + b.toNat
    · rw [if_pos h]
      by_cases h2 : mx < a.toNat + b.toNat
      · rw [if_pos h2, beq_self_eq_true, cond_true]
      · have e : (a + b == 18446744073709551615) = true := by rw [beq_iff_eq, eq_mx, add_mx a b (by omega)]; omega
        rw [if_neg h2, e, cond_true]
    · have e : (a + b == 18446744073709551615) = false := by rw [beq_eq_false_iff_ne, Ne, eq_mx, add_mx a b (by omega)]; omega
      rw [if_neg h, if_neg (by omega), e, cond_false]
theorem renew_val (a b c : UInt64) : clock_Renew a b c = if b = 0 then (0, 1) else if mx ≤ a.toNat + b.toNat then (0, 19) else (if c < a + b then c else a + b, 0) := by
  rw [clock_Renew, until_val]
  by_cases hb : b = 0
  · have hb' : (b == 0) = true := by simpa using hb
    rw [hb', if_pos hb, cond_true]; simp only [hb, if_true]
  · have hb' : (b == 0) = false := by simpa using hb
    rw [hb', if_neg hb, cond_false, bnd_eq]
    simp only [hb, if_false]
    by_cases h : mx ≤ a.toNat + b.toNat
    · simp only [h, if_true]; rfl
    · simp only [h, if_false]; rfl
theorem renewR_val (a b c : UInt64) : bursaryref27_Renew a b c = if b = 0 then (0, 1) else if mx ≤ a.toNat + b.toNat then (0, 19) else (if c < a + b then c else a + b, 0) := by
  rw [bursaryref27_Renew, untilR_val]
  by_cases hb : b = 0
  · have hb' : (b == 0) = true := by simpa using hb
    rw [hb', if_pos hb, cond_true]; simp only [hb, if_true]
  · have hb' : (b == 0) = false := by simpa using hb
    rw [hb', if_neg hb, cond_false, bnd_eq]
    simp only [hb, if_false]
    by_cases h : mx ≤ a.toNat + b.toNat
    · simp only [h, if_true]; rfl
    · simp only [h, if_false]
      by_cases hc : c < a + b
      · have : decide (a + b > c) = true := decide_eq_true hc
        rw [this, if_pos hc]; rfl
      · have : decide (a + b > c) = false := decide_eq_false hc
        rw [this, if_neg hc]; rfl
theorem nlt {a b : UInt64} (h : a < b) : ¬ b ≤ a := by rw [UInt64.lt_iff_toNat_lt] at h; rw [UInt64.le_iff_toNat_le]; omega
theorem nle {a b : UInt64} (h : ¬ a < b) : b ≤ a := by rw [UInt64.lt_iff_toNat_lt] at h; rw [UInt64.le_iff_toNat_le]; omega
theorem left_val (a n : UInt64) : clock_Left a n = if n = 18446744073709551615 then 18446744073709551615 else if n ≤ a then 0 else n - a := by
  rw [clock_Left]
  by_cases hb : n = 18446744073709551615
  · have hb' : (n == 18446744073709551615) = true := by simpa using hb
    rw [hb', if_pos hb, cond_true]
  · have hb' : (n == 18446744073709551615) = false := by simpa using hb
    have hn : (n != 18446744073709551615) = true := by rw [bne, hb']; rfl
    rw [hb', if_neg hb, cond_false, bnd_eq, clock_Over, hn, Bool.and_true]
    by_cases h : n ≤ a
    · rw [decide_eq_true h, if_pos h, cond_true]
    · rw [decide_eq_false h, if_neg h, cond_false]
theorem clockExact_true (a0 a1 a2 : UInt64) : bursarylaw27_ClockExact a0 a1 a2 = true := by
  have hr : clock_Resume a0 a2 = if a2 > a0 then a2 else a0 := by rw [clock_Resume]
  have hu : clock_Until a0 a1 = bursaryref27_Until a0 a1 := by rw [until_val, untilR_val]
  have hw : clock_Renew a0 a1 a2 = bursaryref27_Renew a0 a1 a2 := by rw [renew_val, renewR_val]
  rw [bursarylaw27_ClockExact]
  simp only [bnd_eq, id]
  rw [tick_eq, hu, hw, over_eq, sure27, hr, left_val]
  simp only [beq_self_eq_true, Bool.true_and, Bool.and_true]
  by_cases hb : a2 = 18446744073709551615
  · have hb' : (a2 == 18446744073709551615) = true := by simpa using hb
    rw [hb', cond_true, if_pos hb, beq_iff_eq]; exact hb.symm
  · have hb' : (a2 == 18446744073709551615) = false := by simpa using hb
    rw [hb', cond_false, if_neg hb]
    by_cases h : a0 < a2
    · rw [if_neg (nlt h), decide_eq_true h, cond_true, beq_self_eq_true]
    · rw [if_pos (nle h), decide_eq_false h, cond_false, beq_self_eq_true]
theorem left_le (a0 a1 : UInt64) (n : UInt64) (h : n.toNat ≤ a0.toNat + a1.toNat) (hn : ¬ n = 18446744073709551615) : clock_Left a0 n ≤ a1 := by
  rw [left_val, if_neg hn]
  by_cases hh : n ≤ a0
  · rw [if_pos hh]; exact UInt64.zero_le
  · rw [if_neg hh]
    simp only [UInt64.le_iff_toNat_le, u64_sub] at *
    have := n.toNat_lt; have := a0.toNat_lt
    omega
theorem clockRenews_true (a0 a1 a2 : UInt64) : bursarylaw27_ClockRenews a0 a1 a2 = true := by
  rw [bursarylaw27_ClockRenews]
  simp only [bnd_eq, id]
  rw [sure27, renew_val, tick_val]
  simp only [Bool.and_true]
  by_cases hb : a1 = 0
  · have hb' : (a1 == 0) = true := by simpa using hb
    rw [hb', cond_true]; simp only [hb, if_true, beq_self_eq_true, Bool.and_true]
  · have hb' : (a1 == 0) = false := by simpa using hb
    rw [hb', cond_false]; simp only [hb, if_false]
    by_cases hc : mx ≤ a0.toNat + a1.toNat
    · rw [decide_eq_true ((ge_iff a0 a1).2 hc), cond_true]; simp only [hc, if_true, beq_self_eq_true, Bool.and_true]
    · rw [decide_eq_false (fun q => hc ((ge_iff a0 a1).1 q)), cond_false]; simp only [hc, if_false]
      have ha : (a0 + a1).toNat = a0.toNat + a1.toNat := add_mx a0 a1 (by omega)
      rw [if_neg (show ¬ mx < a0.toNat + a1.toNat by omega)]
      have key : ∀ n : UInt64, (n = a2 ∨ n = a0 + a1) → n.toNat ≤ a2.toNat → n.toNat ≤ a0.toNat + a1.toNat → (bif (!(decide ((0 : Int) = 0))) || ((decide (n > a2)) || ((decide (n > (a0 + a1))) || ((n != a2) && (n != (a0 + a1))))) then false else
          (clock_Over n n == (n != 18446744073709551615)) && ((decide (clock_Left a0 n ≤ a1)) && ((a0 + a1) == (a0 + a1)))) = true := by
        intro n h1 h2 h3
        have g1 : ¬ n > a2 := by simp only [GT.gt, UInt64.lt_iff_toNat_lt]; omega
        have g2 : ¬ n > a0 + a1 := by simp only [GT.gt, UInt64.lt_iff_toNat_lt, ha]; omega
        have g3 : ((n != a2) && (n != (a0 + a1))) = false := by
          rcases h1 with h | h
          · rw [h]; simp only [bne_self_eq_false, Bool.false_and]
          · rw [h]; simp only [bne_self_eq_false, Bool.and_false]
        have g4 : clock_Over n n = (n != 18446744073709551615) := by
          have : decide (n ≤ n) = true := decide_eq_true (by rw [UInt64.le_iff_toNat_le]; omega)
          rw [clock_Over, this, Bool.true_and]
        have g5 : clock_Left a0 n ≤ a1 := left_le a0 a1 n h3 (by rw [eq_mx]; omega)
        rw [decide_eq_false g1, decide_eq_false g2, g3, g4, decide_eq_true g5, beq_self_eq_true, beq_self_eq_true]; rfl
      by_cases h : a2 < a0 + a1
      · rw [if_pos h]
        refine key _ (.inl rfl) (Nat.le_refl _) ?_
        show a2.toNat ≤ _
        rw [UInt64.lt_iff_toNat_lt, ha] at h; omega
      · rw [if_neg h]
        refine key _ (.inr rfl) ?_ (by show (a0 + a1).toNat ≤ _; omega)
        show (a0 + a1).toNat ≤ _
        rw [UInt64.lt_iff_toNat_lt] at h; omega
end Go.Proofs.YtmedboagdnpkbaaDoor

import Derived.Test.YtmedboagdnpkbaaDoorP2
namespace Go.Proofs.YtmedboagdnpkbaaDoor
open Go Go.Vw Go.Proofs
theorem resume_val (a b : UInt64) : (clock_Resume a b).toNat = max a.toNat b.toNat := by
  rw [clock_Resume]
  by_cases h : b > a
  · rw [if_pos h]; simp only [GT.gt, UInt64.lt_iff_toNat_lt] at h; omega
  · rw [if_neg h]; simp only [GT.gt, UInt64.lt_iff_toNat_lt] at h; omega
theorem tick_ge (a b : UInt64) : a.toNat ≤ (clock_Tick a b).toNat := by
  rw [tick_val]
  by_cases h : mx < a.toNat + b.toNat
  · rw [if_pos h, (eq_mx _).1 rfl]; exact lt_mx a
  · rw [if_neg h, add_mx a b (by omega)]; omega
theorem over_val (a b : UInt64) : clock_Over a b = (decide (b.toNat ≤ a.toNat) && decide (b.toNat ≠ mx)) := by
  have h1 : decide (b ≤ a) = decide (b.toNat ≤ a.toNat) := by rw [decide_eq_decide, UInt64.le_iff_toNat_le]
  have h2 : (b != 18446744073709551615) = decide (b.toNat ≠ mx) := by
    rw [Bool.eq_iff_iff, bne_iff_ne, decide_eq_true_eq, Ne, Ne, eq_mx]
  rw [clock_Over, h1, h2]
/-- What a round looks at, of times that are whole numbers: it has begun at `s`, it ends at `u`. -/
theorem onward_round (s ttl y u : UInt64) (hu : u.toNat = s.toNat + ttl.toNat) (hlt : u.toNat < mx) (h0 : s.toNat ≤ y.toNat) :
    ((clock_Over y u != decide (y - s ≥ ttl)) || (clock_Over y u != (clock_Left y u == 0))) = false := by
  have hne : ¬ u = 18446744073709551615 := by rw [eq_mx]; omega
  have hy := lt_mx y
  have e1 : decide (y - s ≥ ttl) = decide (u.toNat ≤ y.toNat) := by
    rw [decide_eq_decide]
    simp only [GE.ge, UInt64.le_iff_toNat_le, u64_sub]
    have := s.toNat_lt
    rw [mx_eq] at hlt hy
    omega
  have e2 : clock_Over y u = decide (u.toNat ≤ y.toNat) := by
    rw [over_val, decide_eq_true (show u.toNat ≠ mx by omega), Bool.and_true]
  have e3 : (clock_Left y u == 0) = decide (u.toNat ≤ y.toNat) := by
    rw [left_val, if_neg hne]
    by_cases h : u.toNat ≤ y.toNat
    · rw [if_pos (UInt64.le_iff_toNat_le.2 h), decide_eq_true h]; rfl
    · rw [if_neg (fun q => h (UInt64.le_iff_toNat_le.1 q)), decide_eq_false h, beq_eq_false_iff_ne, Ne, ← UInt64.toNat_inj, u64_sub]
      have := u.toNat_lt
      have e : (0 : UInt64).toNat = 0 := by decide
      rw [e]; omega
  rw [e1, e2, e3, bne_self_eq_false]; rfl
theorem onward_loop (s ttl : UInt64) (l : List UInt64) (x : UInt64 × Int) (hu : x.1.toNat = s.toNat + ttl.toNat) (hlt : x.1.toNat < mx) : ∀ (m : Nat) (now : UInt64) (over : Bool) (i : Int),
    s.toNat ≤ now.toNat → (over = true → clock_Over now x.1 = true) → ((l.length : Int) - i).toNat < m → 0 ≤ i →
    Lo.el (bursarylaw27_ClockOnward_l1 s ttl l x m now over i) (fun _ => bursarylaw27_ClockOnward_k1) = true := by
  intro m
  induction m with
  | zero => intro now over i _ _ h; omega
  | succ m ih =>
    intro now over i h0 ho hm hi
    rw [bursarylaw27_ClockOnward_l1]
    by_cases hc : ((decide (i < (l.length : Int))) && (decide (i < 60))) = true
    · rw [hc, cond_true]
      have hil : i < (l.length : Int) := by simp only [Bool.and_eq_true, decide_eq_true_eq] at hc; exact hc.1
      simp only [bnd_eq]
      have key : ∀ y : UInt64, now.toNat ≤ y.toNat → Lo.el (bif (decide (y < now)) || (over && (!(clock_Over y x.1))) then Lo.ret false
          else bif (clock_Over y x.1 != (decide ((y - s) ≥ ttl))) || (clock_Over y x.1 != (clock_Left y x.1 == 0)) then Lo.ret false
            else bursarylaw27_ClockOnward_l1 s ttl l x m y (clock_Over y x.1) (i + 1)) (fun _ => bursarylaw27_ClockOnward_k1) = true := by
        intro y hy
        have a1 : decide (y < now) = false := decide_eq_false (by rw [UInt64.lt_iff_toNat_lt]; omega)
        have a2 : (over && (!(clock_Over y x.1))) = false := by
          cases over with
          | false => rfl
          | true =>
            have := ho rfl
            rw [over_val] at this ⊢
            simp only [Bool.and_eq_true, decide_eq_true_eq] at this
            rw [decide_eq_true (show x.1.toNat ≤ y.toNat by omega), decide_eq_true this.2]; rfl
        rw [a1, a2, Bool.or_self, cond_false, onward_round s ttl y x.1 hu hlt (by omega), cond_false]
        exact ih y _ (i + 1) (by omega) (fun h => h) (by omega) (by omega)
      refine key _ ?_
      by_cases hr : ((i % 3) == 2) = true
      · rw [hr, cond_true, resume_val]; omega
      · have hr' : ((i % 3) == 2) = false := by simpa using hr
        rw [hr', cond_false]; exact tick_ge _ _
    · have hc' : ((decide (i < (l.length : Int))) && (decide (i < 60))) = false := by simpa using hc
      rw [hc', cond_false]
      show bursarylaw27_ClockOnward_k1 = true
      rw [bursarylaw27_ClockOnward_k1, sure27]
theorem clockOnward_true (a0 a1 : UInt64) (a2 : List UInt64) : bursarylaw27_ClockOnward a0 a1 a2 = true := by
  rw [bursarylaw27_ClockOnward, bnd_eq, sure27]
  by_cases hb : a1 = 0
  · have e1 : (a1 == 0) = true := by simpa using hb
    have e2 : (clock_Until a0 a1).2 = 0 := by rw [until_val, if_pos hb]
    rw [e1, e2]; rfl
  · have e1 : (a1 == 0) = false := by simpa using hb
    by_cases h : mx ≤ a0.toNat + a1.toNat
    · have e2 : (clock_Until a0 a1).2 = 19 := by rw [until_val, if_neg hb, if_pos h]
      rw [e1, e2]; rfl
    · have e2 : clock_Until a0 a1 = (a0 + a1, 0) := by rw [until_val, if_neg hb, if_neg h]
      have ha : (a0 + a1).toNat = a0.toNat + a1.toNat := add_mx a0 a1 (by omega)
      rw [e1, e2]
      have e3 : ((!(decide (((a0 + a1, 0) : UInt64 × Int).2 = 0))) || false) = false := by rfl
      rw [e3, cond_false]
      exact onward_loop a0 a1 a2 (a0 + a1, 0) ha (by show (a0 + a1).toNat < mx; omega) _ a0 false 0 (Nat.le_refl _) (fun h => by cases h) (by omega) (by omega)
end Go.Proofs.YtmedboagdnpkbaaDoor

import Derived.Test.YtbppcnhfeobefabDoorD8
set_option linter.unusedVariables false
namespace Go.Proofs.YtbppcnhfeobefabDoor
open Go Go.Vw Go.Proofs
theorem ror_l1 (n : Nat) (hn : n ≤ 32) (x : Nat) (hx : x < 4294967296) : ∀ (m : Nat) (i : Nat) (v : UInt64), i ≤ n → n - i < m → v.toNat = x / 2 ^ i + x % 2 ^ i * 2 ^ (32 - i) →
  ∃ z : UInt64, r5_ror_l1 (n : Int) m v (i : Int) = Lo.brk z ∧ z.toNat = x / 2 ^ n + x % 2 ^ n * 2 ^ (32 - n)
 | 0, _, _, _, h, _ => absurd h (Nat.not_lt_zero _)
 | m + 1, i, v, hi, hm, hv => by
  rw [r5_ror_l1]
  by_cases c : i < n
  ·rw [decide_eq_true (by omega : (i : Int) < (n : Int)), cond_true]
   refine ror_l1 n hn x hx m (i + 1) _ (by omega) (by omega) ?_
   have e : 32 - i = (32 - (i + 1)) + 1 := by omega
   generalize 32 - (i + 1) = k at e ⊢
   have hk : i + 1 + k = 32 := by omega
   rw [e, Nat.pow_succ] at hv
   have h31 : 2 ^ i * 2 ^ k = 2147483648 := by rw [← Nat.pow_add]; exact congrArg (2 ^ ·) (by omega : i + k = 31)
   have hA : x / 2 ^ (i + 1) = x / 2 ^ i / 2 := by rw [Nat.pow_succ, Nat.div_div_eq_div_mul]
   have hB : x % 2 ^ (i + 1) = x % 2 ^ i + 2 ^ i * (x / 2 ^ i % 2) := by rw [Nat.pow_succ, Nat.mod_mul]
   have hv2 : v.toNat = x / 2 ^ i + 2 * (x % 2 ^ i * 2 ^ k) := by rw [hv]; rw [Nat.mul_comm (2 ^ k) 2, ← Nat.mul_assoc, Nat.mul_comm (x % 2 ^ i) 2, Nat.mul_assoc]
   have hlt : x / 2 ^ i ≤ x := Nat.div_le_self _ _
   have hBk : x % 2 ^ i * 2 ^ k < 2147483648 := by
    rw [← h31]; exact Nat.mul_lt_mul_of_pos_right (Nat.mod_lt _ (Nat.pow_pos (by decide))) (Nat.pow_pos (by decide))
   have e2 : (2 : UInt64).toNat = 2 := rfl
   have e3 : (2147483648 : UInt64).toNat = 2147483648 := rfl
   have hm2 : x / 2 ^ i % 2 < 2 := Nat.mod_lt _ (by decide)
   have hR : x % 2 ^ (i + 1) * 2 ^ k = x % 2 ^ i * 2 ^ k + 2147483648 * (x / 2 ^ i % 2) := by rw [hB, Nat.add_mul, Nat.mul_right_comm, h31]
   rw [UInt64.toNat_add, UInt64.toNat_div, UInt64.toNat_mul, UInt64.toNat_mod, e2, e3, hA, hR, hv2]
   generalize x / 2 ^ i = A at hlt hm2 ⊢
   generalize x % 2 ^ i * 2 ^ k = B at hBk ⊢
   have t1 : (A + 2 * B) % 2 = A % 2 := by omega
   have t2 : (A + 2 * B) / 2 = A / 2 + B := by omega
   rw [t1, t2, Nat.mod_eq_of_lt (b := 2 ^ 64) (a := A % 2 * 2147483648) (by omega), Nat.mod_eq_of_lt (by omega)]
   omega
  ·have : i = n := by omega
   subst this
   rw [decide_eq_false (by omega), cond_false]
   exact ⟨v, rfl, hv⟩
theorem ror_nat (x : UInt32) (n : Nat) (hn : n ≤ 32) (h0 : 0 < n) : (r5_ror x (n : Int)).toNat = x.toNat / 2 ^ n + x.toNat % 2 ^ n * 2 ^ (32 - n) := by
 rw [r5_ror]
 obtain ⟨z, h1, h2⟩ := ror_l1 n hn x.toNat x.toNat_lt (((n : Int) - (0 : Int)).toNat + 1) 0 x.toUInt64 (Nat.zero_le _) (by omega) (by simp [Nat.mod_one])
 have h1 : r5_ror_l1 (n : Int) (((n : Int) - (0 : Int)).toNat + 1) x.toUInt64 0 = Lo.brk z := h1
 rw [h1]
 simp only [Lo.el]
 rw [r5_ror_k1, UInt64.toNat_toUInt32, h2]
 refine Nat.mod_eq_of_lt ?_
 have hx := x.toNat_lt
 have hd : x.toNat / 2 ^ n < 2 ^ (32 - n) := by
  rw [Nat.div_lt_iff_lt_mul (Nat.pow_pos (by decide)), ← Nat.pow_add, show 32 - n + n = 32 from by omega]; exact hx
 have hr : x.toNat % 2 ^ n < 2 ^ n := Nat.mod_lt _ (Nat.pow_pos (by decide))
 have hp : 2 ^ n * 2 ^ (32 - n) = 4294967296 := by rw [← Nat.pow_add, show n + (32 - n) = 32 from by omega]
 calc x.toNat / 2 ^ n + x.toNat % 2 ^ n * 2 ^ (32 - n) < 2 ^ (32 - n) + x.toNat % 2 ^ n * 2 ^ (32 - n) := by omega
  _ = (x.toNat % 2 ^ n + 1) * 2 ^ (32 - n) := by rw [Nat.add_mul, Nat.one_mul]; omega
  _ ≤ 2 ^ n * 2 ^ (32 - n) := Nat.mul_le_mul_right _ hr
  _ = 2 ^ 32 := hp
theorem shr_l1 (n : Nat) (x : Nat) : ∀ (m : Nat) (i : Nat) (v : UInt32), i ≤ n → n - i < m → v.toNat = x / 2 ^ i →
  ∃ z : UInt32, r5_shr_l1 (n : Int) m v (i : Int) = Lo.brk z ∧ z.toNat = x / 2 ^ n
 | 0, _, _, _, h, _ => absurd h (Nat.not_lt_zero _)
 | m + 1, i, v, hi, hm, hv => by
  rw [r5_shr_l1]
  by_cases c : i < n
  ·rw [decide_eq_true (by omega : (i : Int) < (n : Int)), cond_true]
   refine shr_l1 n x m (i + 1) _ (by omega) (by omega) ?_
   have e2 : (2 : UInt32).toNat = 2 := rfl
   rw [UInt32.toNat_div, e2, hv, Nat.pow_succ, Nat.div_div_eq_div_mul]
  ·have : i = n := by omega
   subst this
   rw [decide_eq_false (by omega), cond_false]
   exact ⟨v, rfl, hv⟩
theorem shr_eq (x : UInt32) (n : Nat) : r5_shr x (n : Int) = shr32 x (n : Int) := by
 apply u32eq
 rw [r5_shr]
 obtain ⟨z, h1, h2⟩ := shr_l1 n x.toNat (((n : Int) - (0 : Int)).toNat + 1) 0 x (Nat.zero_le _) (by omega) (by simp)
 have h1 : r5_shr_l1 (n : Int) (((n : Int) - (0 : Int)).toNat + 1) x 0 = Lo.brk z := h1
 rw [h1]
 simp only [Lo.el]
 rw [r5_shr_k1, h2, shr32, UInt32.toNat_ofNat', Int.toNat_natCast]
 exact (Nat.mod_eq_of_lt (Nat.lt_of_le_of_lt (Nat.div_le_self _ _) x.toNat_lt)).symm
theorem rol_nat (x : UInt32) (n : Nat) (hn : n < 32) (h0 : 0 < n) {k : Int} (hs : ((u64i k) &&& 31 : UInt64).toNat = 32 - n) (ht : (32 - ((u64i k) &&& 31) : UInt64).toNat = n) :
  (rl32_ x k).toNat = x.toNat / 2 ^ n + x.toNat % 2 ^ n * 2 ^ (32 - n) := by
 rw [rl32_, hs, ht, UInt32.toNat_or, shl32, shr32, UInt32.toNat_ofNat', UInt32.toNat_ofNat', Int.toNat_natCast, Int.toNat_natCast]
 have hx := x.toNat_lt
 have hp : (2 : Nat) ^ 32 = 2 ^ n * 2 ^ (32 - n) := by rw [← Nat.pow_add, show n + (32 - n) = 32 from by omega]
 have h1 : x.toNat * 2 ^ (32 - n) % 2 ^ 32 = x.toNat % 2 ^ n * 2 ^ (32 - n) := by rw [hp, Nat.mul_mod_mul_right]
 have h2 : x.toNat / 2 ^ n % 2 ^ 32 = x.toNat / 2 ^ n := Nat.mod_eq_of_lt (Nat.lt_of_le_of_lt (Nat.div_le_self _ _) hx)
 have hd : x.toNat / 2 ^ n < 2 ^ (32 - n) := by
  rw [Nat.div_lt_iff_lt_mul (Nat.pow_pos (by decide)), ← Nat.pow_add, show 32 - n + n = 32 from by omega]; exact hx
 rw [h1, h2, Nat.mul_comm (x.toNat % 2 ^ n), ← Nat.two_pow_add_eq_or_of_lt hd]
 omega
theorem ror_rol (x : UInt32) (n : Nat) (hn : n < 32) (h0 : 0 < n) {k : Int} (hs : ((u64i k) &&& 31 : UInt64).toNat = 32 - n) (ht : (32 - ((u64i k) &&& 31) : UInt64).toNat = n) : r5_ror x (n : Int) = rl32_ x k := by
 apply u32eq; rw [ror_nat x n (by omega) h0, rol_nat x n hn h0 hs ht]
theorem ror2 (x : UInt32) : r5_ror x 2 = rl32_ x (-2) := ror_rol x 2 (by decide) (by decide) rfl rfl
theorem ror6 (x : UInt32) : r5_ror x 6 = rl32_ x (-6) := ror_rol x 6 (by decide) (by decide) rfl rfl
theorem ror7 (x : UInt32) : r5_ror x 7 = rl32_ x (-7) := ror_rol x 7 (by decide) (by decide) rfl rfl
theorem ror11 (x : UInt32) : r5_ror x 11 = rl32_ x (-11) := ror_rol x 11 (by decide) (by decide) rfl rfl
theorem ror13 (x : UInt32) : r5_ror x 13 = rl32_ x (-13) := ror_rol x 13 (by decide) (by decide) rfl rfl
theorem ror17 (x : UInt32) : r5_ror x 17 = rl32_ x (-17) := ror_rol x 17 (by decide) (by decide) rfl rfl
theorem ror18 (x : UInt32) : r5_ror x 18 = rl32_ x (-18) := ror_rol x 18 (by decide) (by decide) rfl rfl
theorem ror19 (x : UInt32) : r5_ror x 19 = rl32_ x (-19) := ror_rol x 19 (by decide) (by decide) rfl rfl
theorem ror22 (x : UInt32) : r5_ror x 22 = rl32_ x (-22) := ror_rol x 22 (by decide) (by decide) rfl rfl
theorem ror25 (x : UInt32) : r5_ror x 25 = rl32_ x (-25) := ror_rol x 25 (by decide) (by decide) rfl rfl
theorem shr3 (x : UInt32) : r5_shr x 3 = shr32 x 3 := shr_eq x 3
theorem shr10 (x : UInt32) : r5_shr x 10 = shr32 x 10 := shr_eq x 10
theorem not32 (x : UInt32) : 4294967295 - x = ~~~x := by
 apply u32eq
 have hx := x.toNat_lt
 have e : (4294967295 : UInt32).toNat = 4294967295 := rfl
 have s : UInt32.size = 4294967296 := rfl
 rw [UInt32.toNat_sub, UInt32.toNat_not, e, s]
 omega
theorem word32 (a b c d : UInt8) : (((shl32 a.toUInt32 24 ||| shl32 b.toUInt32 16) ||| shl32 c.toUInt32 8) ||| d.toUInt32) = ((a.toUInt32 * 16777216 + b.toUInt32 * 65536) + c.toUInt32 * 256) + d.toUInt32 := by
 apply u32eq
 have ha := a.toNat_lt; have hb := b.toNat_lt; have hc := c.toNat_lt; have hd := d.toNat_lt
 have e1 : (16777216 : UInt32).toNat = 16777216 := rfl
 have e2 : (65536 : UInt32).toNat = 65536 := rfl
 have e3 : (256 : UInt32).toNat = 256 := rfl
 simp only [UInt32.toNat_or, shl32, UInt32.toNat_ofNat', UInt32.toNat_add, UInt32.toNat_mul, UInt8.toNat_toUInt32, e1, e2, e3, q8, q16, q24]
 have h1 : a.toNat * 16777216 % 2 ^ 32 = 2 ^ 24 * a.toNat := by omega
 have h2 : b.toNat * 65536 % 2 ^ 32 = b.toNat * 65536 := Nat.mod_eq_of_lt (Nat.lt_of_lt_of_le (Nat.mul_lt_mul_of_pos_right hb (by decide)) (by decide))
 have h3 : c.toNat * 256 % 2 ^ 32 = c.toNat * 256 := Nat.mod_eq_of_lt (Nat.lt_of_lt_of_le (Nat.mul_lt_mul_of_pos_right hc (by decide)) (by decide))
 rw [h1, h2, h3, ← Nat.two_pow_add_eq_or_of_lt (by omega : b.toNat * 65536 < 2 ^ 24)]
 rw [show 2 ^ 24 * a.toNat + b.toNat * 65536 = 2 ^ 16 * (256 * a.toNat + b.toNat) from by omega, ← Nat.two_pow_add_eq_or_of_lt (by omega : c.toNat * 256 < 2 ^ 16)]
 rw [show 2 ^ 16 * (256 * a.toNat + b.toNat) + c.toNat * 256 = 2 ^ 8 * (256 * (256 * a.toNat + b.toNat) + c.toNat) from by omega, ← Nat.two_pow_add_eq_or_of_lt (by omega : d.toNat < 2 ^ 8)]
 omega
theorem sched_hi (a : List UInt8) : ∀ (m m' : Nat) (t : Int) (o : List UInt32), 16 ≤ t → (64 - t).toNat < m → (64 - t).toNat < m' → ∃ z, sha_schedule_l2 m t o = Lo.brk z ∧ r5_one_l1 a m' t o = Lo.brk z := by
 intro m
 induction m with
 | zero => intro m' t o _ h; exact absurd h (Nat.not_lt_zero _)
 | succ m ih =>
  intro m' t o h0 h h'
  cases m' with
  | zero => exact absurd h' (Nat.not_lt_zero _)
  | succ m' =>
   rw [sha_schedule_l2, r5_one_l1]
   by_cases c : t < 64
   ·rw [decide_eq_true c, cond_true, cond_true, decide_eq_false (by omega : ¬ t < 16), cond_false]
    simp only [bnd_eq, ror17, ror19, ror7, ror18, shr3, shr10]
    exact ih m' _ _ (by omega) (by omega) (by omega)
   ·rw [decide_eq_false c, cond_false, cond_false]
    exact ⟨o, rfl, rfl⟩
theorem sched_lo (a : List UInt8) : ∀ (m m' : Nat) (t : Int) (o : List UInt32), 0 ≤ t → t ≤ 16 → (16 - t).toNat < m → (64 - t).toNat < m' → ∃ z w, sha_schedule_l1 a m t o = Lo.brk w ∧ sha_schedule_k1 w = z ∧ r5_one_l1 a m' t o = Lo.brk z := by
 intro m
 induction m with
 | zero => intro m' t o _ _ h; exact absurd h (Nat.not_lt_zero _)
 | succ m ih =>
  intro m' t o h0 h1 h h'
  rw [sha_schedule_l1]
  by_cases c : t < 16
  ·cases m' with
   | zero => exact absurd h' (Nat.not_lt_zero _)
   | succ m' =>
    rw [r5_one_l1, decide_eq_true c, cond_true, decide_eq_true (by omega : t < 64), cond_true, cond_true, word32]
    exact ih m' _ _ (by omega) (by omega) (by omega) (by omega)
  ·rw [decide_eq_false c, cond_false]
   obtain ⟨z, e1, e2⟩ := sched_hi a ((64 - (16 : Int)).toNat + 1) m' 16 o (by omega) (by omega) (by omega)
   have ht : t = 16 := by omega
   subst ht
   refine ⟨z, o, rfl, ?_, e2⟩
   rw [sha_schedule_k1, e1, elB, sha_schedule_k2]
theorem sched_ref (a : List UInt8) : r5_one_l1 a ((64 - (0 : Int)).toNat + 1) 0 (List.replicate 64 0) = Lo.brk (sha_schedule a) := by
 rw [sha_schedule]
 obtain ⟨z, w, e1, e2, e3⟩ := sched_lo a ((16 - (0 : Int)).toNat + 1) ((64 - (0 : Int)).toNat + 1) 0 (List.replicate 64 0) (by omega) (by omega) (by omega) (by omega)
 rw [e1, e3, elB, e2]
theorem tab_same : r5_one_tab2 = sha_constants := by rw [r5_one_tab2, sha_constants]
theorem mix_l1_ref (w : List UInt32) : ∀ (m : Nat) (t : Int) (a b c d e f g h : UInt32), r5_one_l2 w m a b c d e f g h t = sha_mix_l1 w m t a b c d e f g h := by
 intro m
 induction m with
 | zero => intro t a b c d e f g h; rw [r5_one_l2.eq_1, sha_mix_l1.eq_1]
 | succ m ih =>
  intro t a b c d e f g h
  rw [r5_one_l2, sha_mix_l1, tab_same]
  simp only [bnd_eq, ror2, ror6, ror11, ror13, ror22, ror25, not32]
  rw [ih]
theorem mix_l2_eq (a b c d e f g h a' b' c' d' e' f' g' h' : UInt32) : sha_mix_l2 a' b' c' d' e' f' g' h' ((8 - (0 : Int)).toNat + 1) 0 [a, b, c, d, e, f, g, h] = Lo.brk [a + a', b + b', c + c', d + d', e + e', f + f', g + g', h + h'] := by kernel_rfl
theorem mix_k1_eq (a b c d e f g h a' b' c' d' e' f' g' h' : UInt32) : sha_mix_k1 a b c d e f g h a' b' c' d' e' f' g' h' = r5_one_k2 a b c d e f g h a' b' c' d' e' f' g' h' := by
 rw [sha_mix_k1, mix_l2_eq, elB, sha_mix_k2, r5_one_k2]; rfl
theorem one_mix (a b c d e f g h : UInt32) (l : List UInt8) : r5_one a b c d e f g h l = sha_mix a b c d e f g h l := by
 rw [r5_one, sched_ref, elB, r5_one_k1, mix_l1_ref, sha_mix, bnd_eq]
 simp only [mix_k1_eq]
end Go.Proofs.YtbppcnhfeobefabDoor

/- Nonce as bytes: the plain law. -/
import Derived.Test.YtkomeflgnikflaaDoorD3
namespace Go.Proofs.YtkomeflgnikflaaDoor
open Go Go.Vw Go.Proofs
theorem bnd_eq {α β : Type} (v : α) (F : α → β) : bnd v F = F v := (fun h => h) rfl
theorem sure18 : bursarylaw18_sure = true := by kernel_rfl
theorem e256 : UInt64.toNat 256 = 256 := rfl
theorem f256 : UInt32.toNat 256 = 256 := rfl
theorem nb (t : UInt32) (n : UInt64) : nonce_Bytes t n = [(shr32 t 24).toUInt8, (shr32 t 16).toUInt8, (shr32 t 8).toUInt8, t.toUInt8, (shr64 n 56).toUInt8, (shr64 n 48).toUInt8, (shr64 n 40).toUInt8, (shr64 n 32).toUInt8, (shr64 n 24).toUInt8, (shr64 n 16).toUInt8, (shr64 n 8).toUInt8, (shr64 n 0).toUInt8] := by
  rw [nonce_Bytes]; rfl
theorem rb (t : UInt32) (n : UInt64) : bursaryref18_Bytes t n = [(t / 256 / 256 / 256 % 256).toUInt8, (t / 256 / 256 % 256).toUInt8, (t / 256 % 256).toUInt8, (t % 256).toUInt8, (n / 256 / 256 / 256 / 256 / 256 / 256 / 256 % 256).toUInt8, (n / 256 / 256 / 256 / 256 / 256 / 256 % 256).toUInt8, (n / 256 / 256 / 256 / 256 / 256 % 256).toUInt8, (n / 256 / 256 / 256 / 256 % 256).toUInt8, (n / 256 / 256 / 256 % 256).toUInt8, (n / 256 / 256 % 256).toUInt8, (n / 256 % 256).toUInt8, (n % 256).toUInt8] := by
  rw [bursaryref18_Bytes]; rfl
theorem s32 (t : UInt32) {k : Int} {m : Nat} (hk : 2 ^ k.toNat = m) : (shr32 t k).toUInt8.toNat = t.toNat / m % 256 := by
  have hl := t.toNat_lt
  have : t.toNat / m ≤ t.toNat := Nat.div_le_self _ _
  rw [UInt32.toNat_toUInt8, shr32, UInt32.toNat_ofNat', hk]
  omega
theorem s64 (t : UInt64) {k : Int} {m : Nat} (hk : 2 ^ k.toNat = m) : (shr64 t k).toUInt8.toNat = t.toNat / m % 256 := by
  have hl := t.toNat_lt
  have : t.toNat / m ≤ t.toNat := Nat.div_le_self _ _
  rw [UInt64.toNat_toUInt8, shr64, UInt64.toNat_ofNat', hk]
  omega
theorem p0 : (2 : Nat) ^ Int.toNat 0 = 1 := by decide
theorem p8 : (2 : Nat) ^ Int.toNat 8 = 256 := by decide
theorem p16 : (2 : Nat) ^ Int.toNat 16 = 65536 := by decide
theorem p24 : (2 : Nat) ^ Int.toNat 24 = 16777216 := by decide
theorem p32 : (2 : Nat) ^ Int.toNat 32 = 4294967296 := by decide
theorem p40 : (2 : Nat) ^ Int.toNat 40 = 1099511627776 := by decide
theorem p48 : (2 : Nat) ^ Int.toNat 48 = 281474976710656 := by decide
theorem p56 : (2 : Nat) ^ Int.toNat 56 = 72057594037927936 := by decide
theorem bytes_ref (t : UInt32) (n : UInt64) : bursaryref18_Bytes t n = nonce_Bytes t n := by
  have h (a b : UInt8) (h : a.toNat = b.toNat) : a = b := UInt8.toNat_inj.1 h
  rw [nb, rb]
  have ht := t.toNat_lt
  have hn := n.toNat_lt
  congr 1
  · apply h; rw [s32 t p24]; simp only [UInt32.toNat_toUInt8, UInt32.toNat_mod, UInt32.toNat_div, f256, Nat.div_div_eq_div_mul]; omega
  congr 1
  · apply h; rw [s32 t p16]; simp only [UInt32.toNat_toUInt8, UInt32.toNat_mod, UInt32.toNat_div, f256, Nat.div_div_eq_div_mul]; omega
  congr 1
  · apply h; rw [s32 t p8]; simp only [UInt32.toNat_toUInt8, UInt32.toNat_mod, UInt32.toNat_div, f256]; omega
  congr 1
  · apply h; simp only [UInt32.toNat_toUInt8, UInt32.toNat_mod, f256]; omega
  congr 1
  · apply h; rw [s64 n p56]; simp only [UInt64.toNat_toUInt8, UInt64.toNat_mod, UInt64.toNat_div, e256, Nat.div_div_eq_div_mul]; omega
  congr 1
  · apply h; rw [s64 n p48]; simp only [UInt64.toNat_toUInt8, UInt64.toNat_mod, UInt64.toNat_div, e256, Nat.div_div_eq_div_mul]; omega
  congr 1
  · apply h; rw [s64 n p40]; simp only [UInt64.toNat_toUInt8, UInt64.toNat_mod, UInt64.toNat_div, e256, Nat.div_div_eq_div_mul]; omega
  congr 1
  · apply h; rw [s64 n p32]; simp only [UInt64.toNat_toUInt8, UInt64.toNat_mod, UInt64.toNat_div, e256, Nat.div_div_eq_div_mul]; omega
  congr 1
  · apply h; rw [s64 n p24]; simp only [UInt64.toNat_toUInt8, UInt64.toNat_mod, UInt64.toNat_div, e256, Nat.div_div_eq_div_mul]; omega
  congr 1
  · apply h; rw [s64 n p16]; simp only [UInt64.toNat_toUInt8, UInt64.toNat_mod, UInt64.toNat_div, e256, Nat.div_div_eq_div_mul]; omega
  congr 1
  · apply h; rw [s64 n p8]; simp only [UInt64.toNat_toUInt8, UInt64.toNat_mod, UInt64.toNat_div, e256]; omega
  congr 1
  · apply h; rw [s64 n p0]; simp only [UInt64.toNat_toUInt8, UInt64.toNat_mod, e256]; omega
/-- A word more behind: 32 and 64 bits. -/
theorem or_step (a b m i : Nat) (h : 2 ^ i = m) (hb : b < m) : (a * m ||| b) = a * m + b := by
  subst h
  have := Nat.shiftLeft_add_eq_or_of_lt hb a
  rw [Nat.shiftLeft_eq] at this
  exact this.symm
theorem w32 {x : UInt32} {c : UInt8} (h : x.toNat < 16777216) : (shl32 x 8 ||| c.toUInt32).toNat = x.toNat * 256 + c.toNat := by
  have := c.toNat_lt
  rw [UInt32.toNat_or, shl32, UInt32.toNat_ofNat', p8, UInt8.toNat_toUInt32, Nat.mod_eq_of_lt (by omega)]
  exact or_step _ _ 256 8 (by decide) (by omega)
theorem w64 {x : UInt64} {c : UInt8} (h : x.toNat < 72057594037927936) : (shl64 x 8 ||| c.toUInt64).toNat = x.toNat * 256 + c.toNat := by
  have := c.toNat_lt
  rw [UInt64.toNat_or, shl64, UInt64.toNat_ofNat', p8, UInt8.toNat_toUInt64, Nat.mod_eq_of_lt (by omega)]
  exact or_step _ _ 256 8 (by decide) (by omega)
abbrev T4 (a b c d : UInt8) : UInt32 := shl32 (shl32 (shl32 (shl32 0 8 ||| a.toUInt32) 8 ||| b.toUInt32) 8 ||| c.toUInt32) 8 ||| d.toUInt32
abbrev N8 (a b c d e f g i : UInt8) : UInt64 := shl64 (shl64 (shl64 (shl64 (shl64 (shl64 (shl64 (shl64 0 8 ||| a.toUInt64) 8 ||| b.toUInt64) 8 ||| c.toUInt64) 8 ||| d.toUInt64) 8 ||| e.toUInt64) 8 ||| f.toUInt64) 8 ||| g.toUInt64) 8 ||| i.toUInt64
theorem t4_nat (a b c d : UInt8) : (T4 a b c d).toNat = ((a.toNat * 256 + b.toNat) * 256 + c.toNat) * 256 + d.toNat := by
  have := a.toNat_lt; have := b.toNat_lt; have := c.toNat_lt; have := d.toNat_lt
  have z : UInt32.toNat 0 = 0 := rfl
  have h1 : (shl32 0 8 ||| a.toUInt32).toNat = a.toNat := by rw [w32 (by rw [z]; omega), z]; omega
  have h2 : (shl32 (shl32 0 8 ||| a.toUInt32) 8 ||| b.toUInt32).toNat = a.toNat * 256 + b.toNat := by rw [w32 (by rw [h1]; omega), h1]
  have h3 : (shl32 (shl32 (shl32 0 8 ||| a.toUInt32) 8 ||| b.toUInt32) 8 ||| c.toUInt32).toNat = (a.toNat * 256 + b.toNat) * 256 + c.toNat := by rw [w32 (by rw [h2]; omega), h2]
  rw [w32 (by rw [h3]; omega), h3]
theorem w64' {x : UInt64} {c : UInt8} {v : Nat} (hx : x.toNat = v) (h : v < 72057594037927936) : (shl64 x 8 ||| c.toUInt64).toNat = v * 256 + c.toNat := by rw [w64 (by rw [hx]; exact h), hx]
theorem step_lt {v c m : Nat} (hv : v < m) (hc : c < 256) : v * 256 + c < m * 256 := by omega
set_option maxRecDepth 100000 in
theorem n8_nat (a b c d e f g i : UInt8) : (N8 a b c d e f g i).toNat = (((((((0 * 256 + a.toNat) * 256 + b.toNat) * 256 + c.toNat) * 256 + d.toNat) * 256 + e.toNat) * 256 + f.toNat) * 256 + g.toNat) * 256 + i.toNat := by
  have h0 : UInt64.toNat 0 = 0 := rfl
  have l0 : 0 < 1 := by decide
  have l1 := step_lt l0 a.toNat_lt
  have l2 := step_lt l1 b.toNat_lt
  have l3 := step_lt l2 c.toNat_lt
  have l4 := step_lt l3 d.toNat_lt
  have l5 := step_lt l4 e.toNat_lt
  have l6 := step_lt l5 f.toNat_lt
  have l7 := step_lt l6 g.toNat_lt
  have k0 : (0 : Nat) < 72057594037927936 := by decide
  exact w64' (w64' (w64' (w64' (w64' (w64' (w64' (w64' h0 k0) (Nat.lt_of_lt_of_le l1 (by decide))) (Nat.lt_of_lt_of_le l2 (by decide))) (Nat.lt_of_lt_of_le l3 (by decide))) (Nat.lt_of_lt_of_le l4 (by decide))) (Nat.lt_of_lt_of_le l5 (by decide))) (Nat.lt_of_lt_of_le l6 (by decide))) (Nat.lt_of_lt_of_le l7 (by decide))
theorem list12 {l : List UInt8} (h : l.length = 12) : ∃ a b c d e f g i j k m n, l = [a, b, c, d, e, f, g, i, j, k, m, n] := by
  match l, h with
  | [a, b, c, d, e, f, g, i, j, k, m, n], _ => exact ⟨a, b, c, d, e, f, g, i, j, k, m, n, rfl⟩
theorem parse12 (a b c d e f g i j k m n : UInt8) : nonce_Parse [a, b, c, d, e, f, g, i, j, k, m, n] = (T4 a b c d, N8 e f g i j k m n, 0) := by
  rw [nonce_Parse]; rfl
theorem parse_not {b : List UInt8} (h : b.length ≠ 12) : nonce_Parse b = (0, 0, 4) := by
  have : ((b.length : Int) != 12) = true := by simp; omega
  rw [nonce_Parse, this]; rfl
theorem dg (v c : Nat) (hc : c < 256) : (v * 256 + c) % 256 = c ∧ (v * 256 + c) / 256 = v := by omega
theorem dv (u k : Nat) : u / (k * 256) = u / k / 256 := by rw [Nat.div_div_eq_div_mul]
theorem md (x m : Nat) : x / (m * 256) * 256 + x / m % 256 = x / m := by rw [dv]; omega
theorem bytes_parse (a b c d e f g i j k m n : UInt8) : nonce_Bytes (T4 a b c d) (N8 e f g i j k m n) = [a, b, c, d, e, f, g, i, j, k, m, n] := by
  have h (x y : UInt8) (h : x.toNat = y.toNat) : x = y := UInt8.toNat_inj.1 h
  rw [nb]
  have ht := t4_nat a b c d
  have hn := n8_nat e f g i j k m n
  generalize T4 a b c d = t at ht
  generalize N8 e f g i j k m n = u at hn
  have d1 : u.toNat / 256 = ((((((0 * 256 + e.toNat) * 256 + f.toNat) * 256 + g.toNat) * 256 + i.toNat) * 256 + j.toNat) * 256 + k.toNat) * 256 + m.toNat := by rw [hn]; exact (dg _ _ n.toNat_lt).2
  have d2 : u.toNat / 65536 = (((((0 * 256 + e.toNat) * 256 + f.toNat) * 256 + g.toNat) * 256 + i.toNat) * 256 + j.toNat) * 256 + k.toNat := (dv u.toNat 256).trans (by rw [d1]; exact (dg _ _ m.toNat_lt).2)
  have d3 : u.toNat / 16777216 = ((((0 * 256 + e.toNat) * 256 + f.toNat) * 256 + g.toNat) * 256 + i.toNat) * 256 + j.toNat := (dv u.toNat 65536).trans (by rw [d2]; exact (dg _ _ k.toNat_lt).2)
  have d4 : u.toNat / 4294967296 = (((0 * 256 + e.toNat) * 256 + f.toNat) * 256 + g.toNat) * 256 + i.toNat := (dv u.toNat 16777216).trans (by rw [d3]; exact (dg _ _ j.toNat_lt).2)
  have d5 : u.toNat / 1099511627776 = ((0 * 256 + e.toNat) * 256 + f.toNat) * 256 + g.toNat := (dv u.toNat 4294967296).trans (by rw [d4]; exact (dg _ _ i.toNat_lt).2)
  have d6 : u.toNat / 281474976710656 = (0 * 256 + e.toNat) * 256 + f.toNat := (dv u.toNat 1099511627776).trans (by rw [d5]; exact (dg _ _ g.toNat_lt).2)
  have d7 : u.toNat / 72057594037927936 = 0 * 256 + e.toNat := (dv u.toNat 281474976710656).trans (by rw [d6]; exact (dg _ _ f.toNat_lt).2)
  have r1 : t.toNat / 256 = ((a.toNat) * 256 + b.toNat) * 256 + c.toNat := by rw [ht]; exact (dg _ _ d.toNat_lt).2
  have r2 : t.toNat / 65536 = (a.toNat) * 256 + b.toNat := (dv t.toNat 256).trans (by rw [r1]; exact (dg _ _ c.toNat_lt).2)
  have r3 : t.toNat / 16777216 = a.toNat := (dv t.toNat 65536).trans (by rw [r2]; exact (dg _ _ b.toNat_lt).2)
  congr 1
  · apply h; rw [s32 t p24, r3]; exact Nat.mod_eq_of_lt a.toNat_lt
  congr 1
  · apply h; rw [s32 t p16, r2]; exact (dg _ _ b.toNat_lt).1
  congr 1
  · apply h; rw [s32 t p8, r1]; exact (dg _ _ c.toNat_lt).1
  congr 1
  · apply h; rw [UInt32.toNat_toUInt8, ht]; exact (dg _ _ d.toNat_lt).1
  congr 1
  · apply h; rw [s64 u p56, d7]; exact (dg _ _ e.toNat_lt).1
  congr 1
  · apply h; rw [s64 u p48, d6]; exact (dg _ _ f.toNat_lt).1
  congr 1
  · apply h; rw [s64 u p40, d5]; exact (dg _ _ g.toNat_lt).1
  congr 1
  · apply h; rw [s64 u p32, d4]; exact (dg _ _ i.toNat_lt).1
  congr 1
  · apply h; rw [s64 u p24, d3]; exact (dg _ _ j.toNat_lt).1
  congr 1
  · apply h; rw [s64 u p16, d2]; exact (dg _ _ k.toNat_lt).1
  congr 1
  · apply h; rw [s64 u p8, d1]; exact (dg _ _ m.toNat_lt).1
  congr 1
  · apply h; rw [s64 u p0, Nat.div_one, hn]; exact (dg _ _ n.toNat_lt).1
theorem parse_bytes (t : UInt32) (u : UInt64) : nonce_Parse (nonce_Bytes t u) = (t, u, 0) := by
  rw [nb, parse12]
  have e1 : T4 (shr32 t 24).toUInt8 (shr32 t 16).toUInt8 (shr32 t 8).toUInt8 t.toUInt8 = t := by
    apply UInt32.toNat_inj.1
    have hl := t.toNat_lt
    have h3 : t.toNat / 16777216 % 256 = t.toNat / 16777216 := Nat.mod_eq_of_lt (by omega)
    have m2 := md t.toNat 65536
    have m1 := md t.toNat 256
    have m0 := md t.toNat 1
    rw [Nat.div_one, Nat.one_mul] at m0
    rw [t4_nat, s32 t p24, s32 t p16, s32 t p8, UInt32.toNat_toUInt8, h3]
    exact (congrArg (fun z => (z * 256 + t.toNat / 256 % 256) * 256 + t.toNat % 256) m2).trans ((congrArg (fun z => z * 256 + t.toNat % 256) m1).trans m0)
  have e2 : N8 (shr64 u 56).toUInt8 (shr64 u 48).toUInt8 (shr64 u 40).toUInt8 (shr64 u 32).toUInt8 (shr64 u 24).toUInt8 (shr64 u 16).toUInt8 (shr64 u 8).toUInt8 (shr64 u 0).toUInt8 = u := by
    apply UInt64.toNat_inj.1
    have hl := u.toNat_lt
    have h7 : 0 * 256 + u.toNat / 72057594037927936 % 256 = u.toNat / 72057594037927936 := by rw [Nat.zero_mul, Nat.zero_add]; exact Nat.mod_eq_of_lt (by omega)
    rw [n8_nat, s64 u p56, s64 u p48, s64 u p40, s64 u p32, s64 u p24, s64 u p16, s64 u p8, s64 u p0, h7]
    rw [show u.toNat / 72057594037927936 * 256 + u.toNat / 281474976710656 % 256 = u.toNat / 281474976710656 from md u.toNat 281474976710656]
    rw [show u.toNat / 281474976710656 * 256 + u.toNat / 1099511627776 % 256 = u.toNat / 1099511627776 from md u.toNat 1099511627776]
    rw [show u.toNat / 1099511627776 * 256 + u.toNat / 4294967296 % 256 = u.toNat / 4294967296 from md u.toNat 4294967296]
    rw [show u.toNat / 4294967296 * 256 + u.toNat / 16777216 % 256 = u.toNat / 16777216 from md u.toNat 16777216]
    rw [show u.toNat / 16777216 * 256 + u.toNat / 65536 % 256 = u.toNat / 65536 from md u.toNat 65536]
    rw [show u.toNat / 65536 * 256 + u.toNat / 256 % 256 = u.toNat / 256 from md u.toNat 256]
    rw [show u.toNat / 256 * 256 + u.toNat / 1 % 256 = u.toNat / 1 from md u.toNat 1]
    exact Nat.div_one _
  rw [e1, e2]
theorem bytes_inj {t t' : UInt32} {u u' : UInt64} (h : nonce_Bytes t u = nonce_Bytes t' u') : t = t' ∧ u = u' := by
  have := congrArg nonce_Parse h
  rw [parse_bytes, parse_bytes] at this
  injection this with h1 h2
  injection h2 with h2 h3
  exact ⟨h1, h2⟩
theorem bytes_eq (t t' : UInt32) (u u' : UInt64) : (nonce_Bytes t u == nonce_Bytes t' u') = (t == t' && u == u') := by
  rw [Bool.eq_iff_iff, beq_iff_eq, Bool.and_eq_true, beq_iff_eq, beq_iff_eq]
  exact ⟨bytes_inj, fun ⟨h1, h2⟩ => by rw [h1, h2]⟩
theorem nonceBytes_true (l : List UInt8) (a b : UInt32) (u v : UInt64) : bursarylaw18_NonceBytes l a b u v = true := by
  rw [bursarylaw18_NonceBytes]
  cases decide ((l.length : Int) > 100) with
  | true => exact sure18
  | false =>
    rw [cond_false]
    simp only [bnd_eq]
    rw [bytes_eq, sure18]
    have hl : (((nonce_Bytes a u).length : Int) == 12) = true := by rw [nb]; rfl
    have fin : (bif a == b then ((a == b && u == v) == (u == v)) && (((nonce_Bytes a u).length : Int) == 12 && true) else ((a == b && u == v) == false) && (((nonce_Bytes a u).length : Int) == 12 && true)) = true := by
      rw [hl]
      cases a == b <;> cases u == v <;> rfl
    rw [fin]
    by_cases h : l.length = 12
    · obtain ⟨a, b, c, d, e, f, g, i, j, k, m, n, rfl⟩ := list12 h
      rw [parse12]
      show (bif ((12 : Int) != 12) then _ else bif (!(decide ((0 : Int) = 0))) || (nonce_Bytes (T4 a b c d) (N8 e f g i j k m n) != [a, b, c, d, e, f, g, i, j, k, m, n]) then false else true) = true
      rw [bytes_parse]
      simp
    · have : ((l.length : Int) != 12) = true := by simp; omega
      rw [this, cond_true, parse_not h]; rfl
end Go.Proofs.YtkomeflgnikflaaDoor

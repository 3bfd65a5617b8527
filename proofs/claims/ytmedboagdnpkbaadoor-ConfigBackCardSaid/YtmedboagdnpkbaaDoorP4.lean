/- Config: the plain law. -/
import Derived.Test.YtmedboagdnpkbaaDoorD2
namespace Go.Proofs.YtmedboagdnpkbaaDoor
open Go Go.Vw Go.Proofs
theorem bnd_eq {α β : Type} (v : α) (F : α → β) : bnd v F = F v := (fun h => h) rfl
theorem sure21 : bursarylaw21_sure = true := by kernel_rfl
abbrev V (a b : Int) : Prop := 2 ≤ a ∧ a ≤ b ∧ b ≤ 255
theorem shc (a b : Int) (c : UInt32) : shamir_Check a b c = if V a b then 0 else 1 := by
  rw [shamir_Check]
  by_cases h : V a b
  · rw [if_pos h, decide_eq_false (by omega), decide_eq_false (by omega), decide_eq_false (by omega)]; rfl
  · rw [if_neg h]
    have : ((decide (a < 2)) || ((decide (a > b)) || (decide (b > 255)))) = true := by
      simp only [Bool.or_eq_true, decide_eq_true_eq]; omega
    rw [this]; rfl
theorem may3 (a b : Int) (c : UInt32) : bursaryref03_May a b c = decide (V a b) := by
  rw [bursaryref03_May]
  by_cases h : V a b
  · rw [decide_eq_true h, decide_eq_true (by omega), decide_eq_true (by omega), decide_eq_true (by omega)]; rfl
  · rw [decide_eq_false h]
    cases h1 : decide (a ≥ 2) <;> cases h2 : decide (a ≤ b) <;> cases h3 : decide (b ≤ 255) <;> first | rfl | skip
    have := of_decide_eq_true h1; have := of_decide_eq_true h2; have := of_decide_eq_true h3
    exact absurd ⟨by omega, by omega, by omega⟩ h
theorem pos_ne (c : UInt32) : decide (c > 0) = !(c == 0) := by
  by_cases h : c = 0
  · subst h; decide
  · have h1 : (c == 0) = false := by simpa using h
    have h2 : c > 0 := by
      have : c.toNat ≠ 0 := fun e => h (UInt32.toNat_inj.1 (by simpa using e))
      show (0 : UInt32) < c
      rw [UInt32.lt_iff_toNat_lt]
      show 0 < c.toNat
      omega
    rw [h1, decide_eq_true h2]; rfl
theorem may21 (a b : Int) (c : UInt32) : bursaryref21_May a b c = (decide (V a b) && !(c == 0)) := by
  rw [bursaryref21_May, bnd_eq, may3, pos_ne]
theorem cch (a b : Int) (c : UInt32) : config_Check a b c = bif (decide (V a b) && !(c == 0)) then 0 else 1 := by
  rw [config_Check, bnd_eq, shc]
  by_cases h : V a b
  · rw [if_pos h, decide_eq_true h]; cases c == 0 <;> rfl
  · rw [if_neg h, decide_eq_false h]; cases c == 0 <;> rfl
theorem made (k n : Int) (g : UInt32) : config_made k n g = bif (decide (V k n) && !(g == 0)) then ((k, n, g), 0) else ((0, 0, 0), 1) := by
  rw [config_made, bnd_eq, cch]
  cases decide (V k n) && !(g == 0) <;> rfl
theorem new (k n : Int) : config_New k n = bif decide (V k n) then ((k, n, 1), 0) else ((0, 0, 0), 1) := by
  rw [config_New, bnd_eq, made]
  cases decide (V k n) <;> rfl
theorem succ_ne {c : UInt32} (h : (c == 4294967295) = false) : (c + 1 == 0) = false := by
  have h : c ≠ 4294967295 := by simpa using h
  have : c + 1 ≠ 0 := fun e => h (by
    apply UInt32.toNat_inj.1
    have := congrArg UInt32.toNat e
    rw [UInt32.toNat_add] at this
    have hl := c.toNat_lt
    have e1 : UInt32.toNat 1 = 1 := rfl
    have e0 : UInt32.toNat 0 = 0 := rfl
    have em : UInt32.toNat 4294967295 = 4294967295 := rfl
    rw [e1, e0] at this
    rw [em]
    omega)
  simpa using this
theorem next (a b : Int) (c : UInt32) (k n : Int) : config_Next a b c k n = bif (decide (V a b) && !(c == 0)) then (bif decide (V k n) then (bif c == 4294967295 then ((0, 0, 0), 7) else ((k, n, c + 1), 0)) else ((0, 0, 0), 1)) else ((0, 0, 0), 1) := by
  rw [config_Next, bnd_eq, cch, bnd_eq, made, bnd_eq, made]
  cases decide (V a b) && !(c == 0) with
  | false => rfl
  | true =>
    cases decide (V k n) with
    | false => rfl
    | true =>
      cases h : c == 4294967295 with
      | true => rfl
      | false => rw [succ_ne h]; rfl
theorem next_ref (a b : Int) (c : UInt32) (k n : Int) : bursaryref21_Next a b c k n = config_Next a b c k n := by
  rw [next, bursaryref21_Next, bnd_eq, bnd_eq, may21, may3]
  cases decide (V a b) && !(c == 0) <;> cases decide (V k n) <;> cases c == 4294967295 <;> rfl
theorem enc (a b : Int) (c : UInt32) : config_Encode a b c = bif (decide (V a b) && !(c == 0)) then ([99, 102, u8i a, u8i b, (shr32 c 24).toUInt8, (shr32 c 16).toUInt8, (shr32 c 8).toUInt8, c.toUInt8], 0) else ([], 1) := by
  rw [config_Encode, bnd_eq, cch]
  cases decide (V a b) && !(c == 0) <;> rfl
theorem q24 : (2 : Nat) ^ Int.toNat 24 = 16777216 := rfl
theorem q16 : (2 : Nat) ^ Int.toNat 16 = 65536 := rfl
theorem q8 : (2 : Nat) ^ Int.toNat 8 = 256 := rfl
theorem e24 : UInt32.toNat 16777216 = 16777216 := rfl
theorem e16 : UInt32.toNat 65536 = 65536 := rfl
theorem e8 : UInt32.toNat 256 = 256 := rfl
theorem by3 (c : UInt32) : (c / 16777216).toUInt8 = (shr32 c 24).toUInt8 := by
  apply UInt8.toNat_inj.1
  have hl := c.toNat_lt
  simp only [UInt32.toNat_toUInt8, UInt32.toNat_div, e24, shr32, UInt32.toNat_ofNat', q24]
  omega
theorem by2 (c : UInt32) : (c / 65536 % 256).toUInt8 = (shr32 c 16).toUInt8 := by
  apply UInt8.toNat_inj.1
  have hl := c.toNat_lt
  simp only [UInt32.toNat_toUInt8, UInt32.toNat_div, UInt32.toNat_mod, e16, e8, shr32, UInt32.toNat_ofNat', q16]
  omega
theorem by1 (c : UInt32) : (c / 256 % 256).toUInt8 = (shr32 c 8).toUInt8 := by
  apply UInt8.toNat_inj.1
  have hl := c.toNat_lt
  simp only [UInt32.toNat_toUInt8, UInt32.toNat_div, UInt32.toNat_mod, e8, shr32, UInt32.toNat_ofNat', q8]
  omega
theorem by0 (c : UInt32) : (c % 256).toUInt8 = c.toUInt8 := by
  apply UInt8.toNat_inj.1
  simp only [UInt32.toNat_toUInt8, UInt32.toNat_mod, e8]
  omega
theorem enc_ref (a b : Int) (c : UInt32) : bursaryref21_Encode a b c = config_Encode a b c := by
  rw [enc, bursaryref21_Encode, bnd_eq, may21, by3, by2, by1, by0]
  cases decide (V a b) && !(c == 0) <;> rfl

theorem or_step (a b m i : Nat) (h : 2 ^ i = m) (hb : b < m) : (a * m ||| b) = a * m + b := by
  subst h
  have := Nat.shiftLeft_add_eq_or_of_lt hb a
  rw [Nat.shiftLeft_eq] at this
  exact this.symm
set_option maxRecDepth 100000 in
theorem or_sum (p q r s : Nat) (hq : q < 256) (hr : r < 256) (hs : s < 256) : ((p * 16777216 ||| q * 65536) ||| r * 256) ||| s = p * 16777216 + q * 65536 + r * 256 + s := by
  have a1 : q * 65536 < 16777216 := by omega
  have a2 : r * 256 < 65536 := by omega
  have e1 : p * 16777216 + q * 65536 = (p * 256 + q) * 65536 := by omega
  have e2 : (p * 256 + q) * 65536 + r * 256 = (p * 65536 + q * 256 + r) * 256 := by
    rewrite [Nat.add_mul, Nat.add_mul, Nat.add_mul, Nat.mul_assoc p, Nat.mul_assoc q, Nat.mul_assoc p]; rfl
  have h1 := or_step p (q * 65536) 16777216 24 (by decide) a1
  have h2 := or_step (p * 256 + q) (r * 256) 65536 16 (by decide) a2
  have h3 := or_step (p * 65536 + q * 256 + r) s 256 8 (by decide) hs
  rewrite [h1, e1, h2, e2, h3]
  with_reducible rfl
abbrev G (p q r s : UInt8) : UInt32 := ((shl32 p.toUInt32 24 ||| shl32 q.toUInt32 16) ||| shl32 r.toUInt32 8) ||| s.toUInt32
theorem shl_toNat (p : UInt8) {k : Int} {n : Nat} (hk : 2 ^ k.toNat = n) (hn : n ≤ 16777216) : (shl32 p.toUInt32 k).toNat = p.toNat * n := by
  have := p.toNat_lt
  have hb : p.toNat * n ≤ 255 * 16777216 := Nat.mul_le_mul (by omega) hn
  rw [shl32, UInt32.toNat_ofNat', hk, UInt8.toNat_toUInt32]
  exact Nat.mod_eq_of_lt (by omega)
theorem g_nat (p q r s : UInt8) : (G p q r s).toNat = p.toNat * 16777216 + q.toNat * 65536 + r.toNat * 256 + s.toNat := by
  have := p.toNat_lt; have := q.toNat_lt; have := r.toNat_lt; have := s.toNat_lt
  rw [UInt32.toNat_or, UInt32.toNat_or, UInt32.toNat_or, shl_toNat p q24 (by omega), shl_toNat q q16 (by omega), shl_toNat r q8 (by omega), UInt8.toNat_toUInt32]
  exact or_sum _ _ _ _ (by omega) (by omega) (by omega)
theorem g_ref (p q r s : UInt8) : 256 * (256 * (256 * (256 * (0 : UInt32) + p.toUInt32) + q.toUInt32) + r.toUInt32) + s.toUInt32 = G p q r s := by
  apply UInt32.toNat_inj.1
  have := p.toNat_lt; have := q.toNat_lt; have := r.toNat_lt; have := s.toNat_lt
  rw [g_nat]
  simp only [UInt32.toNat_add, UInt32.toNat_mul, e8, UInt8.toNat_toUInt32]
  have e0 : UInt32.toNat 0 = 0 := rfl
  rw [e0]
  omega
theorem list8 {l : List UInt8} (h : l.length = 8) : ∃ a b c d e f g i, l = [a, b, c, d, e, f, g, i] := by
  match l, h with
  | [a, b, c, d, e, f, g, i], _ => exact ⟨a, b, c, d, e, f, g, i, rfl⟩
theorem dec_key (t : Bool) (p : Int × Int × UInt32) : (bif !(decide ((bif t then (p, (0 : Int)) else ((0, 0, 0), 1)).2 = 0)) then ((0, 0, 0), 4) else ((((bif t then (p, (0 : Int)) else ((0, 0, 0), 1)).1).1, ((bif t then (p, (0 : Int)) else ((0, 0, 0), 1)).1).2.1, ((bif t then (p, (0 : Int)) else ((0, 0, 0), 1)).1).2.2), (0 : Int))) = bif t then (p, 0) else ((0, 0, 0), 4) := by
  cases t <;> rfl
theorem dec8 (a b c d e f g i : UInt8) : config_Decode [a, b, c, d, e, f, g, i] = bif (a == 99) && (b == 102) then (bif (decide (V c.toNat d.toNat) && !(G e f g i == 0)) then (((c.toNat : Int), (d.toNat : Int), G e f g i), (0 : Int)) else ((0, 0, 0), 4)) else ((0, 0, 0), 4) := by
  rw [config_Decode, bnd_eq, made]
  have h1 : (slc [a, b, c, d, e, f, g, i] 0 2 != [99, 102]) = !((a == 99) && (b == 102)) := by
    show (!([a, b] == [99, 102])) = _
    show (!(a == 99 && (b == 102 && true))) = _
    rw [Bool.and_true]
  rw [h1]
  show (bif (false || !((a == 99) && (b == 102))) then _ else _) = _
  cases (a == 99) && (b == 102) with
  | false => rfl
  | true =>
    rw [show (false || !true) = false from rfl, cond_false]
    exact dec_key (decide (V c.toNat d.toNat) && !(G e f g i == 0)) (c.toNat, d.toNat, G e f g i)
theorem dec_not {b : List UInt8} (h : b.length ≠ 8) : config_Decode b = ((0, 0, 0), 4) := by
  have : ((b.length : Int) != 8) = true := by simp; omega
  rw [config_Decode, this]; rfl
theorem ref8 (a b c d e f g i : UInt8) : bursaryref21_Decode [a, b, c, d, e, f, g, i] = config_Decode [a, b, c, d, e, f, g, i] := by
  rw [dec8, bursaryref21_Decode]
  have hl : bursaryref21_Decode_l1 [a, b, c, d, e, f, g, i] ((8 - (4 : Int)).toNat + 1) 4 0 = .brk (G e f g i) := by
    rw [← g_ref]; rfl
  rw [hl]
  show (bif (false || ((a != 99) || (b != 102))) then _ else bursaryref21_Decode_k1 [a, b, c, d, e, f, g, i] (G e f g i)) = _
  rw [bursaryref21_Decode_k1, bnd_eq, may21]
  show (bif (false || (!(a == 99) || !(b == 102))) then _ else bif !(decide (V c.toNat d.toNat) && !(G e f g i == 0)) then _ else _) = _
  cases a == 99 <;> cases b == 102 <;> cases decide (V c.toNat d.toNat) && !(G e f g i == 0) <;> rfl
theorem dec_ref (b : List UInt8) : bursaryref21_Decode b = config_Decode b := by
  by_cases h : b.length = 8
  · obtain ⟨a, b, c, d, e, f, g, i, rfl⟩ := list8 h
    exact ref8 ..
  · have : ((b.length : Int) != 8) = true := by simp; omega
    rw [dec_not h, bursaryref21_Decode, this]; rfl
theorem u8i_toNat {a : Int} (h : 0 ≤ a ∧ a ≤ 255) : ((u8i a).toNat : Int) = a := by
  rw [u8i, UInt8.toNat_ofNat']; omega
theorem g_of (c : UInt32) : G (shr32 c 24).toUInt8 (shr32 c 16).toUInt8 (shr32 c 8).toUInt8 c.toUInt8 = c := by
  apply UInt32.toNat_inj.1
  have hl := c.toNat_lt
  rw [g_nat]
  simp only [UInt32.toNat_toUInt8, shr32, UInt32.toNat_ofNat', q24, q16, q8]
  omega
theorem dec_enc {a b : Int} {c : UInt32} (h : (decide (V a b) && !(c == 0)) = true) : config_Decode [99, 102, u8i a, u8i b, (shr32 c 24).toUInt8, (shr32 c 16).toUInt8, (shr32 c 8).toUInt8, c.toUInt8] = ((a, b, c), 0) := by
  have hv : V a b := of_decide_eq_true (Bool.and_eq_true_iff.1 h).1
  rw [dec8, g_of, u8i_toNat (by omega), u8i_toNat (by omega), h]; rfl
theorem dec_cases (b : List UInt8) : config_Decode b = ((0, 0, 0), 4) ∨ ∃ x y g, config_Decode b = ((x, y, g), 0) ∧ config_Encode x y g = (b, 0) := by
  by_cases h : b.length = 8
  · obtain ⟨a, b, c, d, e, f, g, i, rfl⟩ := list8 h
    rw [dec8]
    cases h1 : (a == 99) && (b == 102) with
    | false => exact .inl rfl
    | true =>
      cases h2 : decide (V c.toNat d.toNat) && !(G e f g i == 0) with
      | false => exact .inl rfl
      | true =>
        refine .inr ⟨_, _, _, rfl, ?_⟩
        rw [enc, h2]
        obtain ⟨ha, hb⟩ := Bool.and_eq_true_iff.1 h1
        obtain rfl : a = 99 := by simpa using ha
        obtain rfl : b = 102 := by simpa using hb
        have hg := g_nat e f g i
        have := e.toNat_lt; have := f.toNat_lt; have := g.toNat_lt; have := i.toNat_lt; have := c.toNat_lt; have := d.toNat_lt
        have e1 : u8i c.toNat = c := by apply UInt8.toNat_inj.1; rw [u8i, UInt8.toNat_ofNat']; omega
        have e2 : u8i d.toNat = d := by apply UInt8.toNat_inj.1; rw [u8i, UInt8.toNat_ofNat']; omega
        generalize G e f g i = z at hg ⊢
        have e3 : (shr32 z 24).toUInt8 = e := by apply UInt8.toNat_inj.1; simp only [UInt32.toNat_toUInt8, shr32, UInt32.toNat_ofNat', q24]; omega
        have e4 : (shr32 z 16).toUInt8 = f := by apply UInt8.toNat_inj.1; simp only [UInt32.toNat_toUInt8, shr32, UInt32.toNat_ofNat', q16]; omega
        have e5 : (shr32 z 8).toUInt8 = g := by apply UInt8.toNat_inj.1; simp only [UInt32.toNat_toUInt8, shr32, UInt32.toNat_ofNat', q8]; omega
        have e6 : z.toUInt8 = i := by apply UInt8.toNat_inj.1; simp only [UInt32.toNat_toUInt8]; omega
        rw [e1, e2, e3, e4, e5, e6]; rfl
  · exact .inl (dec_not h)

theorem configSteps_true (a b : Int) (c : UInt32) (k n : Int) (l : List UInt8) : bursarylaw21_ConfigSteps a b c k n l = true := by
  rw [bursarylaw21_ConfigSteps]
  cases decide ((l.length : Int) > 100) with
  | true => exact sure21
  | false =>
    rw [cond_false]
    simp only [bnd_eq]
    rw [enc_ref, next_ref, dec_ref, may3, may21, cch, new, sure21]
    have hc : (decide ((bif (decide (V a b) && !(c == 0)) then (0 : Int) else 1) = 0) == (decide (V a b) && !(c == 0))) = true := by
      cases decide (V a b) && !(c == 0) <;> rfl
    rw [hc]
    simp only [beq_self_eq_true, Bool.true_and, Bool.and_true, id]
    cases decide (V k n) with
    | true => simp
    | false => rfl

theorem configBack_true (a b : Int) (c : UInt32) (k n : Int) (l : List UInt8) : bursarylaw21_ConfigBack a b c k n l = true := by
  rw [bursarylaw21_ConfigBack]
  simp only [bnd_eq]
  have tail : (bif !(decide ((config_Decode l).2 = 0)) then ((config_Decode l).1.1 == 0 && ((config_Decode l).1.2.1 == 0 && (config_Decode l).1.2.2 == 0)) && bursarylaw21_sure
      else decide ((config_Encode (config_Decode l).1.1 (config_Decode l).1.2.1 (config_Decode l).1.2.2).2 = 0) && ((config_Encode (config_Decode l).1.1 (config_Decode l).1.2.1 (config_Decode l).1.2.2).1 == l && bursarylaw21_sure)) = true := by
    rw [sure21]
    rcases dec_cases l with h | ⟨x, y, g, h, h'⟩
    · rw [h]; rfl
    · rw [h]
      show (decide ((config_Encode x y g).2 = 0) && ((config_Encode x y g).1 == l && true)) = true
      rw [h']; simp
  rw [tail]
  rw [enc]
  cases h : decide (V a b) && !(c == 0) with
  | false => rfl
  | true =>
    rw [cond_true]
    rw [dec_enc h, dec_not (b := [] ++ _ ++ [0]) (by simp), next, h, cond_true]
    cases hk : decide (V k n) with
    | false => simp
    | true =>
      cases hm : c == 4294967295 with
      | true => simp
      | false =>
        have : config_Check k n (c + 1) = 0 := by rw [cch, hk, succ_ne hm]; rfl
        simp [this]
end Go.Proofs.YtmedboagdnpkbaaDoor

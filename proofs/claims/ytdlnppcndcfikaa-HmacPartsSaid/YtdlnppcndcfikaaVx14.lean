/- Numbers as bytes, the largest first; loops that go over a list's bytes. -/
import Derived.Test.YtdlnppcndcfikaaVx13
namespace Go.Vw
set_option linter.unusedVariables false
set_option linter.unusedSimpArgs false
open Go
theorem u8eq {a b : UInt8} (h : a.toNat = b.toNat) : a = b := UInt8.toNat_inj.1 h
theorem u64eq {a b : UInt64} (h : a.toNat = b.toNat) : a = b := UInt64.toNat_inj.1 h
theorem u32eq {a b : UInt32} (h : a.toNat = b.toNat) : a = b := UInt32.toNat_inj.1 h
theorem q0 : (2 : Nat) ^ Int.toNat 0 = 1 := by decide
theorem q8 : (2 : Nat) ^ Int.toNat 8 = 256 := by decide
theorem q16 : (2 : Nat) ^ Int.toNat 16 = 65536 := by decide
theorem q24 : (2 : Nat) ^ Int.toNat 24 = 16777216 := by decide
theorem q32 : (2 : Nat) ^ Int.toNat 32 = 4294967296 := by decide
theorem q40 : (2 : Nat) ^ Int.toNat 40 = 1099511627776 := by decide
theorem q48 : (2 : Nat) ^ Int.toNat 48 = 281474976710656 := by decide
theorem q56 : (2 : Nat) ^ Int.toNat 56 = 72057594037927936 := by decide
theorem shr8_64 (t : UInt64) {k : Int} {m : Nat} (hk : 2 ^ k.toNat = m) : (shr64 t k).toUInt8.toNat = t.toNat / m % 256 := by
  have hl := t.toNat_lt
  have : t.toNat / m ≤ t.toNat := Nat.div_le_self _ _
  rw [UInt64.toNat_toUInt8, shr64, UInt64.toNat_ofNat', hk]
  omega
theorem shr8_32 (t : UInt32) {k : Int} {m : Nat} (hk : 2 ^ k.toNat = m) : (shr32 t k).toUInt8.toNat = t.toNat / m % 256 := by
  have hl := t.toNat_lt
  have : t.toNat / m ≤ t.toNat := Nat.div_le_self _ _
  rw [UInt32.toNat_toUInt8, shr32, UInt32.toNat_ofNat', hk]
  omega
theorem div_div (u k : Nat) : u / (k * 256) = u / k / 256 := by rw [Nat.div_div_eq_div_mul]
theorem div_mod (x m : Nat) : x / (m * 256) * 256 + x / m % 256 = x / m := by rw [div_div]; omega
/-- A byte more behind: as it is made of bits, and as it is reckoned. -/
theorem byte64 (x : UInt64) (c : UInt8) : (shl64 x 8 ||| c.toUInt64) = 256 * x + c.toUInt64 := by
  have := c.toNat_lt
  have hx := x.toNat_lt
  have e : (256 : UInt64).toNat = 256 := rfl
  apply u64eq
  rw [UInt64.toNat_or, shl64, UInt64.toNat_ofNat', q8, UInt64.toNat_add, UInt64.toNat_mul, e, UInt8.toNat_toUInt64]
  have h1 : x.toNat * 256 % 2 ^ 64 = x.toNat % 2 ^ 56 * 256 := by omega
  rw [h1, or_step _ _ 256 8 (by decide) (by omega)]
  omega
theorem byte32 (x : UInt32) (c : UInt8) : (shl32 x 8 ||| c.toUInt32) = 256 * x + c.toUInt32 := by
  have := c.toNat_lt
  have hx := x.toNat_lt
  have e : (256 : UInt32).toNat = 256 := rfl
  apply u32eq
  rw [UInt32.toNat_or, shl32, UInt32.toNat_ofNat', q8, UInt32.toNat_add, UInt32.toNat_mul, e, UInt8.toNat_toUInt32]
  have h1 : x.toNat * 256 % 2 ^ 32 = x.toNat % 2 ^ 24 * 256 := by omega
  rw [h1, or_step _ _ 256 8 (by decide) (by omega)]
  omega
theorem byte64_nat {x : UInt64} {c : UInt8} (h : x.toNat < 72057594037927936) : (256 * x + c.toUInt64).toNat = x.toNat * 256 + c.toNat := by
  have := c.toNat_lt
  have e : (256 : UInt64).toNat = 256 := rfl
  rw [UInt64.toNat_add, UInt64.toNat_mul, e, UInt8.toNat_toUInt64]
  omega
theorem byte64_st {x s : UInt64} {c : UInt8} {m : Nat} (hs : s.toNat = x.toNat / (m * 256)) (hc : c.toNat = x.toNat / m % 256) : (256 * s + c.toUInt64).toNat = x.toNat / m := by
  have hx := x.toNat_lt
  have h1 : x.toNat / m ≤ x.toNat := Nat.div_le_self _ _
  have h2 : s.toNat < 72057594037927936 := by rw [hs, div_div]; omega
  rw [byte64_nat h2, hs, hc]
  exact div_mod _ _
/-- Eight bytes of a number. -/
def be64 (n : UInt64) : List UInt8 := [(shr64 n 56).toUInt8, (shr64 n 48).toUInt8, (shr64 n 40).toUInt8, (shr64 n 32).toUInt8, (shr64 n 24).toUInt8, (shr64 n 16).toUInt8, (shr64 n 8).toUInt8, (shr64 n 0).toUInt8]
def un64 (s : UInt64) (l : List UInt8) : UInt64 := l.foldl (fun n c => 256 * n + c.toUInt64) s
theorem un_be (n : UInt64) : un64 0 (be64 n) = n := by
  have h0 : UInt64.toNat 0 = n.toNat / (72057594037927936 * 256) := by
    have := n.toNat_lt
    rw [show UInt64.toNat 0 = 0 from rfl, Nat.div_eq_of_lt (by omega)]
  have h1 := byte64_st (m := 72057594037927936) h0 (shr8_64 n q56)
  have h2 := byte64_st (m := 281474976710656) h1 (shr8_64 n q48)
  have h3 := byte64_st (m := 1099511627776) h2 (shr8_64 n q40)
  have h4 := byte64_st (m := 4294967296) h3 (shr8_64 n q32)
  have h5 := byte64_st (m := 16777216) h4 (shr8_64 n q24)
  have h6 := byte64_st (m := 65536) h5 (shr8_64 n q16)
  have h7 := byte64_st (m := 256) h6 (shr8_64 n q8)
  have h8 := byte64_st (m := 1) h7 (shr8_64 n q0)
  exact u64eq (h8.trans (Nat.div_one _))
/-- A loop over a list's bytes. -/
theorem foldLoop {α β ρ : Type} {f : Nat → α → Int → Lo α ρ} {l : List β} {d : β} {g : α → β → α} (hs : ∀ m s i, 0 ≤ i → f (m + 1) s i = _root_.cond (decide (i < (l.length : Int))) (f m (g s (l.getD i.toNat d)) (i + 1)) (.brk s)) :
    ∀ (m : Nat) (s : α) (i : Int), 0 ≤ i → ((l.length : Int) - i).toNat < m → f m s i = .brk ((l.drop i.toNat).foldl g s) := by
  intro m
  induction m with
  | zero => intro s i _ h; exact absurd h (Nat.not_lt_zero _)
  | succ m ih =>
    intro s i h0 h
    rw [hs m s i h0]
    by_cases c : i < (l.length : Int)
    · rw [decide_eq_true c, cond_true, ih _ (i + 1) (by omega) (by omega), drop_cons l i.toNat d (by omega), List.foldl_cons, show (i + 1).toNat = i.toNat + 1 by omega]
    · rw [decide_eq_false c, cond_false, List.drop_of_length_le (by omega)]; rfl
end Go.Vw

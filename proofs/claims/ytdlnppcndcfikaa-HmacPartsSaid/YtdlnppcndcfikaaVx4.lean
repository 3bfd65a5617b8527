/- Numbers of bits, bytes, lists: how they are told. -/
import Derived.Test.YtdlnppcndcfikaaVx3
namespace Go.Vw
set_option linter.unusedVariables false
set_option linter.unusedSimpArgs false
open Go Go.RowKit

abbrev tb (b : Bool) : T := .leaf (.bool b)
abbrev ti (n : Int) : T := .leaf (.int .i64 n)
abbrev t8 (n : UInt8) : T := .leaf (.int .u8 (n.toNat : Int))
abbrev t16 (n : UInt16) : T := .leaf (.int .u16 (n.toNat : Int))
abbrev t32 (n : UInt32) : T := .leaf (.int .u32 (n.toNat : Int))
abbrev t64 (n : UInt64) : T := .leaf (.int .u64 (n.toNat : Int))
abbrev ts (l : List UInt8) : T := .leaf (.string (sOf l))

theorem eb {a b : Bool} (h : a = b) : tb a = tb b := by rw [h]
theorem ei {a b : Int} (h : a = b) : ti a = ti b := by rw [h]

/-- What comes of a loop: it is left so, or the function returns. -/
inductive Lo (α β : Type) where
  | brk (a : α)
  | ret (b : β)
def Lo.el {α β : Type} (x : Lo α β) (k : α → β) : β := match x with | .brk a => k a | .ret b => b

theorem condT {α : Type} {e : Bool} {a b : α} (h : e = true) : _root_.cond e a b = a := by rw [h]; rfl
theorem condF {α : Type} {e : Bool} {a b : α} (h : e = false) : _root_.cond e a b = b := by rw [h]; rfl
theorem andT {a x v : Bool} (h : a = true) (k : x = v) : (a && x) = v := by rw [h, k]; rfl
theorem andF {a x : Bool} (h : a = false) : (a && x) = false := by rw [h]; rfl
theorem orT {a x : Bool} (h : a = true) : (a || x) = true := by rw [h]; rfl
theorem orF {a x v : Bool} (h : a = false) (k : x = v) : (a || x) = v := by rw [h, k]; rfl
theorem notT {a : Bool} (h : a = true) : (!a) = false := by rw [h]; rfl
theorem notF {a : Bool} (h : a = false) : (!a) = true := by rw [h]; rfl

/-! ### int -/
theorem iw (x : Int) (h : -9223372036854775808 ≤ x ∧ x < 9223372036854775808) : ti (IntKind.i64.wrap x) = ti x := by
  congr 2
  simp only [IntKind.wrap, IntKind.bits, IntKind.signed, Bool.true_and]
  have e : (2 : Int) ^ 64 = 18446744073709551616 := by decide
  have e2 : (2 : Int) ^ (64 - 1) = 9223372036854775808 := by decide
  simp only [e, e2]
  split <;> simp_all <;> omega
theorem wrap8 (x : Int) : IntKind.u8.wrap x = x % 256 := by
  simp only [IntKind.wrap, IntKind.bits, IntKind.signed, Bool.false_and, Bool.false_eq_true, if_false]; rfl
theorem wrap16 (x : Int) : IntKind.u16.wrap x = x % 65536 := by
  simp only [IntKind.wrap, IntKind.bits, IntKind.signed, Bool.false_and, Bool.false_eq_true, if_false]; rfl
theorem wrap32' (x : Int) : IntKind.u32.wrap x = x % 4294967296 := by
  simp only [IntKind.wrap, IntKind.bits, IntKind.signed, Bool.false_and, Bool.false_eq_true, if_false]; rfl
theorem wrap64' (x : Int) : IntKind.u64.wrap x = x % 18446744073709551616 := by
  simp only [IntKind.wrap, IntKind.bits, IntKind.signed, Bool.false_and, Bool.false_eq_true, if_false]; rfl

def u8i (n : Int) : UInt8 := UInt8.ofNat (n % 256).toNat
def u16i (n : Int) : UInt16 := UInt16.ofNat (n % 65536).toNat
def u32i (n : Int) : UInt32 := UInt32.ofNat (n % 4294967296).toNat
def u64i (n : Int) : UInt64 := UInt64.ofNat (n % 18446744073709551616).toNat
end Go.Vw

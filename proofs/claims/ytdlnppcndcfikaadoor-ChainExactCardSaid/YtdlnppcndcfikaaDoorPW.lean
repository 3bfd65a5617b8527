import Derived.Test.YtdlnppcndcfikaaDoorG1
import Derived.Test.YtdlnppcndcfikaaDoorEnVx8
set_option linter.unusedVariables false
set_option linter.unusedSimpArgs false
namespace Go.Proofs.YtdlnppcndcfikaaDoor
open Go Go.Vw Go.Proofs
theorem wn (n : UInt64) : wire_Number n = be64 n := by
  rw [number_eq]; rfl
theorem rn (n : UInt64) : bursaryref31_Number n = [(n / 256 / 256 / 256 / 256 / 256 / 256 / 256 % 256).toUInt8, (n / 256 / 256 / 256 / 256 / 256 / 256 % 256).toUInt8, (n / 256 / 256 / 256 / 256 / 256 % 256).toUInt8, (n / 256 / 256 / 256 / 256 % 256).toUInt8, (n / 256 / 256 / 256 % 256).toUInt8, (n / 256 / 256 % 256).toUInt8, (n / 256 % 256).toUInt8, (n % 256).toUInt8] := by
  rw [bursaryref31_Number]; kernel_rfl
theorem e256 : UInt64.toNat 256 = 256 := rfl
theorem number_ref (n : UInt64) : wire_Number n = bursaryref31_Number n := by
  rw [wn, rn, be64]
  have hn := n.toNat_lt
  congr 1
  · apply u8eq; rw [shr8_64 n q56]; simp only [UInt64.toNat_toUInt8, UInt64.toNat_mod, UInt64.toNat_div, e256, Nat.div_div_eq_div_mul]; omega
  congr 1
  · apply u8eq; rw [shr8_64 n q48]; simp only [UInt64.toNat_toUInt8, UInt64.toNat_mod, UInt64.toNat_div, e256, Nat.div_div_eq_div_mul]; omega
  congr 1
  · apply u8eq; rw [shr8_64 n q40]; simp only [UInt64.toNat_toUInt8, UInt64.toNat_mod, UInt64.toNat_div, e256, Nat.div_div_eq_div_mul]; omega
  congr 1
  · apply u8eq; rw [shr8_64 n q32]; simp only [UInt64.toNat_toUInt8, UInt64.toNat_mod, UInt64.toNat_div, e256, Nat.div_div_eq_div_mul]; omega
  congr 1
  · apply u8eq; rw [shr8_64 n q24]; simp only [UInt64.toNat_toUInt8, UInt64.toNat_mod, UInt64.toNat_div, e256, Nat.div_div_eq_div_mul]; omega
  congr 1
  · apply u8eq; rw [shr8_64 n q16]; simp only [UInt64.toNat_toUInt8, UInt64.toNat_mod, UInt64.toNat_div, e256, Nat.div_div_eq_div_mul]; omega
  congr 1
  · apply u8eq; rw [shr8_64 n q8]; simp only [UInt64.toNat_toUInt8, UInt64.toNat_mod, UInt64.toNat_div, e256]; omega
  congr 1
  · apply u8eq; rw [shr8_64 n q0]; simp only [UInt64.toNat_toUInt8, UInt64.toNat_mod, e256]; omega
theorem read_eq (b : List UInt8) : wire_Read b = bif (b.length : Int) != 8 then (0, 4) else (un64 0 b, 0) := by
  rw [wire_Read]
  congr 1
  rw [foldLoop (f := wire_Read_l1 b) (l := b) (d := 0) (g := fun n c => 256 * n + c.toUInt64) (fun m s i _ => by rw [wire_Read_l1, byte64]) _ _ _ (by omega) (Nat.lt_succ_self _)]
  kernel_rfl
theorem read_ref (b : List UInt8) : wire_Read b = bursaryref31_Read b := by
  rw [read_eq, bursaryref31_Read]
  by_cases h : b.length = 8
  · have e : ((b.length : Int) != 8) = false := by rw [h]; rfl
    rw [e, cond_false, cond_false]
    rw [foldLoop (f := bursaryref31_Read_l1 b) (l := b) (d := 0) (g := fun n c => 256 * n + c.toUInt64) (fun m s i _ => by rw [bursaryref31_Read_l1, h]; rfl) _ _ _ (by omega) (by rw [h]; decide)]
    rw [elB, bursaryref31_Read_k1]; rfl
  · have e : ((b.length : Int) != 8) = true := by simp; omega
    rw [e]; rfl
end Go.Proofs.YtdlnppcndcfikaaDoor

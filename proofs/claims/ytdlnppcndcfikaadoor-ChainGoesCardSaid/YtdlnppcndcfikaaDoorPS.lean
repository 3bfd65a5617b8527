import Derived.Test.YtdlnppcndcfikaaDoorP6
import Derived.Test.YtdlnppcndcfikaaDoorG9
set_option linter.unusedVariables false
set_option linter.unusedSimpArgs false
namespace Go.Proofs.YtdlnppcndcfikaaDoor
open Go Go.Vw Go.Proofs
theorem sure34 : bursarylaw34_sure = true := by kernel_rfl
theorem of_take (key : List UInt8) (l : List (List UInt8)) (hn : l.length ≤ 1000000) (k : Nat) (h : k ≤ l.length) : chain_Of key (l.take k) = hAt key l k := by
  rw [of_eq _ _ (by rw [List.length_take]; omega), List.length_take, Nat.min_eq_left h, hAt_take _ _ _ _ (Nat.le_refl _)]
theorem verify_take (key : List UInt8) (l : List (List UInt8)) (hn : l.length ≤ 1000000) (k : Nat) (h : k ≤ l.length) : chain_Verify key (l.take k) (hAt key l k).1 (hAt key l k).2 = true := by
  rw [verify_eq _ _ _ _ (by rw [List.length_take]; omega), List.length_take, Nat.min_eq_left h, hAt_take _ _ _ _ (Nat.le_refl _)]; simp
theorem verify_take_no (key : List UInt8) (l : List (List UInt8)) (hn : l.length ≤ 1000000) (k n : Nat) (h : k ≤ l.length) (h2 : n ≤ l.length) (h3 : n ≠ k) : chain_Verify key (l.take k) (hAt key l n).1 (hAt key l n).2 = false :=
  verify_no _ _ _ _ (by rw [List.length_take]; omega) (by rw [hAt_n _ _ _ (by omega), List.length_take]; omega)
theorem verify_app_no (key : List UInt8) (l : List (List UInt8)) (x : List UInt8) (hn : l.length ≤ 100000) : chain_Verify key ([] ++ l ++ [x]) (hAt key l l.length).1 (hAt key l l.length).2 = false :=
  verify_no _ _ _ _ (by simp; omega) (by rw [hAt_n _ _ _ (by omega)]; simp)
theorem guard34 {k n : Nat} (h : (decide ((k : Int) > 200)) = false) (h2 : (decide ((n : Int) > 12)) = false) : k ≤ 200 ∧ n ≤ 12 :=
  ⟨by have := of_decide_eq_false h; omega, by have := of_decide_eq_false h2; omega⟩
end Go.Proofs.YtdlnppcndcfikaaDoor

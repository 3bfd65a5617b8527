import Derived.Test.YtdlnppcndcfikaaDoorEnVx8
set_option linter.unusedVariables false
set_option linter.unusedSimpArgs false
namespace Go.Vw
open Go Go.RowKit
def fxa (n : Nat) (l : List UInt8) : List UInt8 := (List.range n).map fun i => l.getD i 0
@[simp] theorem fxa_len (n : Nat) (l : List UInt8) : (fxa n l).length = n := by simp [fxa]
theorem fxa_eq {n : Nat} {l : List UInt8} (h : l.length = n) : fxa n l = l := arr_list h 0
@[simp] theorem fxa_fxa (n : Nat) (l : List UInt8) : fxa n (fxa n l) = fxa n l := fxa_eq (fxa_len n l)
theorem eqL_fxa (n : Nat) (a b : List UInt8) : eqL (rep [.int .u8] n) (u8s (fxa n a)) (u8s (fxa n b)) = some (fxa n a == fxa n b) := eqL_u8 n _ _ (fxa_len n a) (fxa_len n b)
theorem fx_whole {i : TI} {l : List UInt8} {n : Nat} (ha : i.agg = true) (hs : i.size = n) (hl : l.length = n) : partOf i (u8s l) 0 (.agg (u8s (fxa n l))) := by
  rw [fxa_eq hl]; exact mp_whole ha hs hl
theorem Meets.fx {P : Program} {f : FuncId} {A : List T} {H H' : List (Nat × List T)} {S : List Nat} {l : List UInt8} (n : Nat) (h : Meets P f A H S (.agg (u8s l)) H') (hl : l.length = n) : Meets P f A H S (.agg (u8s (fxa n l))) H' := by
  rw [fxa_eq hl]; exact h
theorem seg_set {pre : List T} {n i k : Nat} {s : List UInt8} {v : UInt8} (hk : k = pre.length + i) (hi : i < n) : splice (pre ++ u8s (fxa n s)) k [t8 v] = pre ++ u8s (fxa n ((fxa n s).set i v)) := by
  subst hk
  rw [fxa_eq (l := (fxa n s).set i v) (by simp), splice, List.take_append, List.take_of_length_le (by omega), Nat.add_sub_cancel_left, List.append_assoc, List.append_assoc]
  congr 1
  rw [List.drop_append, List.drop_of_length_le (by simp; omega), List.nil_append, List.length_cons, List.length_nil, show pre.length + i + (0 + 1) - pre.length = i + 1 by omega]
  have h : (u8s (fxa n s)).set i (t8 v) = u8s ((fxa n s).set i v) := by symm; exact List.map_set ..
  rw [← h, List.set_eq_take_append_cons_drop, if_pos (by simp; omega)]
  rfl
end Go.Vw

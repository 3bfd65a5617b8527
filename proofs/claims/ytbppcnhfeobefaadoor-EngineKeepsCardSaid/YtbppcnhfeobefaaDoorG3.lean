import Derived.Test.YtbppcnhfeobefaaDoorG2b
set_option linter.unusedVariables false
set_option linter.unusedSimpArgs false
namespace Go.Proofs.YtbppcnhfeobefaaDoor
open Go Go.Vw Go.Proofs
noncomputable def engine_whole_k1 (o2 : List UInt8) : List UInt8 :=
  o2
noncomputable def engine_whole_l1 (n : UInt64) (size : Int) : Nat → Int → (List UInt8) → Lo (List UInt8) (List UInt8)
  | 0, _, _ => .brk default
  | ml1 + 1, t101, o1 =>
    bif decide (t101 < size) then
      engine_whole_l1 n size ml1 (t101 + 1) (o1 ++ [(shr64 n (8 * ((size - 1) - t101))).toUInt8])
    else
      Lo.brk o1
noncomputable def engine_whole (n : UInt64) (size : Int) : List UInt8 :=
  Lo.el (engine_whole_l1 n size ((size - (0 : Int)).toNat + 1) 0 []) (fun z : List UInt8 => engine_whole_k1 z)
theorem whole_eq (n : UInt64) (s : Int) (h : 0 ≤ s) : engine_whole n s = (List.range s.toNat).map (fun i : Nat => (shr64 n (8 * (s - 1 - i))).toUInt8) := by
  rw [engine_whole, appLoop (f := engine_whole_l1 n s) (n := s) (g := fun i => [(shr64 n (8 * (s - 1 - i))).toUInt8]) (fun m i o h => by rw [engine_whole_l1]) _ _ _ (Int.le_refl 0) (Nat.lt_succ_self _)]
  show engine_whole_k1 ([] ++ _) = _
  rw [engine_whole_k1, List.nil_append, Int.sub_zero]
  simp only [Int.zero_add]
  rw [List.map_eq_flatMap]
theorem whole_fact (n : UInt64) (s : Int) : 0 ≤ s → ((engine_whole n s).length : Int) = s := by
  intro h; rw [whole_eq n s h]; simp; omega
theorem engine_whole_l1_gen : True := by have := @engine_whole_l1.eq_1; have := @engine_whole_l1.eq_2; trivial
attribute [irreducible] engine_whole_k1 engine_whole_l1 engine_whole
noncomputable def engine_Encode_k1 (o2 : List UInt8) : List UInt8 × Int :=
  (o2, 0)
noncomputable def engine_Encode_l1 (s0 : List (UInt32 × List UInt8 × UInt64 × Int)) : Nat → Int → (List UInt8) → Lo (List UInt8) (List UInt8 × Int)
  | 0, _, _ => .brk default
  | ml1 + 1, t331, o1 =>
    bif decide (t331 < (s0.length : Int)) then
      bnd (engine_whole ((s0.getD t331.toNat ((0, [], 0, 0) : UInt32 × List UInt8 × UInt64 × Int)).2.2.1) 8) fun x3 =>
      engine_Encode_l1 s0 ml1 (t331 + 1) (slices_Concat ([o1, x3, ([u8i ((s0.getD t331.toNat ((0, [], 0, 0) : UInt32 × List UInt8 × UInt64 × Int)).2.2.2), u8i (((s0.getD t331.toNat ((0, [], 0, 0) : UInt32 × List UInt8 × UInt64 × Int)).2.1).length : Int)] : List UInt8), (s0.getD t331.toNat ((0, [], 0, 0) : UInt32 × List UInt8 × UInt64 × Int)).2.1] : List (List UInt8)))
    else
      Lo.brk o1
noncomputable def engine_Encode (s0 : List (UInt32 × List UInt8 × UInt64 × Int)) (s1 : UInt32) (s2 : Int) : List UInt8 × Int :=
  bnd (engine_Check s0 s1 s2) fun x1 =>
  bif !(decide (x1 = 0)) then
    ([], x1)
  else
    bnd (engine_whole s1.toUInt64 4) fun x2 =>
    Lo.el (engine_Encode_l1 s0 (((s0.length : Int) - (0 : Int)).toNat + 1) 0 (slices_Concat ([([115, 101] : List UInt8), ([u8i s2] : List UInt8), x2, ([u8i (s0.length : Int)] : List UInt8)] : List (List UInt8)))) (fun z : List UInt8 => engine_Encode_k1 z)
theorem engine_Encode_l1_gen : True := by have := @engine_Encode_l1.eq_1; have := @engine_Encode_l1.eq_2; trivial
attribute [irreducible] engine_Encode_k1 engine_Encode_l1 engine_Encode
end Go.Proofs.YtbppcnhfeobefaaDoor

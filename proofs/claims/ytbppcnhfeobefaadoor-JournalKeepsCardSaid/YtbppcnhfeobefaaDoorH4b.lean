import Derived.Test.YtbppcnhfeobefaaDoorIt2
import Derived.Test.YtbppcnhfeobefaaDoorH2
set_option linter.unusedVariables false
namespace Go.Proofs.YtbppcnhfeobefaaDoor
open Go Go.Vw Go.Proofs
noncomputable def slices_DeleteFunc_disk_write_disk_write_k1 (x1 : Int × Int) (i2 : Int) (o2 : tLW) : (tLW) × Int :=
 (o2.take ((i2).toNat), x1.2)
noncomputable def slices_DeleteFunc_disk_write_disk_write_l1 (x1 : Int × Int) : Nat → Int → Int → (tLW) → Lo (Int × (tLW)) ((tLW) × Int)
 | 0, _, _, _ => .brk default
 | ml1 + 1, i1, j1, o1 =>
  bif decide (j1 < (o1.length : Int)) then
   bif !(((o1.getD j1.toNat ((0, []) : Int × List UInt8)).1) == x1.2) then
    slices_DeleteFunc_disk_write_disk_write_l1 x1 ml1 (i1 + 1) (j1 + 1) (o1.set i1.toNat ((o1.getD j1.toNat ((0, []) : Int × List UInt8)).1, (o1.getD j1.toNat ((0, []) : Int × List UInt8)).2))
   else
    slices_DeleteFunc_disk_write_disk_write_l1 x1 ml1 i1 (j1 + 1) o1
  else
   Lo.brk (i1, o1)
noncomputable def slices_DeleteFunc_disk_write_disk_write (s : tLW) (del400 : Int) : (tLW) × Int :=
 bnd (slices_IndexFunc_disk_write_disk_write s del400) fun x1 =>
 bif x1.1 == (-1) then
  (s, x1.2)
 else
  Lo.el (slices_DeleteFunc_disk_write_disk_write_l1 x1 (((s.length : Int) - (x1.1 + 1)).toNat + 1) x1.1 (x1.1 + 1) s) (fun z : Int × (tLW) => slices_DeleteFunc_disk_write_disk_write_k1 x1 z.1 z.2)
theorem slices_DeleteFunc_disk_write_disk_write_l1_gen : True := by have := @slices_DeleteFunc_disk_write_disk_write_l1.eq_1; have := @slices_DeleteFunc_disk_write_disk_write_l1.eq_2; trivial
attribute [irreducible] slices_DeleteFunc_disk_write_disk_write_k1 slices_DeleteFunc_disk_write_disk_write_l1 slices_DeleteFunc_disk_write_disk_write
end Go.Proofs.YtbppcnhfeobefaaDoor
namespace Go.Proofs.YtbppcnhfeobefaaDoor
open Go Go.Vw Go.Proofs
theorem del_l1 (x1 : Int × Int) (s : List Wr) : ∀ (m i j : Nat) (o : List Wr), i < j → j ≤ s.length → o.length = s.length → o.take i = (s.take j).filter (fun w => w.1 != x1.2) → o.drop j = s.drop j → s.length - j < m →
  ∃ (i' : Nat) (o' : List Wr), slices_DeleteFunc_disk_write_disk_write_l1 x1 m (i : Int) (j : Int) o = .brk ((i' : Int), o') ∧ o'.take i' = s.filter (fun w => w.1 != x1.2)
 | 0, _, _, _, _, _, _, _, _, h => absurd h (Nat.not_lt_zero _)
 | m + 1, i, j, o, hij, hj, ho, ht, hd, hm => by
  rw [slices_DeleteFunc_disk_write_disk_write_l1, ho]
  by_cases c : j < s.length
  ·rw [decide_eq_true (by omega : (j : Int) < (s.length : Int)), cond_true, Int.toNat_natCast]
   have hg : o.getD j ((0, []) : Wr) = s.getD j (0, []) := by
    have := congrArg (fun l => l.getD 0 ((0, []) : Wr)) hd
    simpa only [gD_drop, Nat.add_zero] using this
   have hs1 : s.take (j + 1) = s.take j ++ [s.getD j ((0, []) : Wr)] := by
    rw [List.take_add_one, List.getD_eq_getElem?_getD, List.getElem?_eq_getElem c]; rfl
   have hd1 : s.drop (j + 1) = (s.drop j).drop 1 := by rw [List.drop_drop]
   rw [hg]
   by_cases q : (s.getD j ((0, []) : Wr)).1 = x1.2
   ·rw [show (!(((s.getD j ((0, []) : Wr)).1) == x1.2)) = false by rw [q]; simp, cond_false]
    have := del_l1 x1 s m i (j + 1) o (by omega) (by omega) ho (by rw [ht, hs1, List.filter_append, List.filter_cons_of_neg (by rw [q]; simp), List.filter_nil, List.append_nil]) (by rw [hd1, ← hd, List.drop_drop]) (by omega)
    rw [Int.natCast_add j 1] at this
    exact this
   ·rw [show (!(((s.getD j ((0, []) : Wr)).1) == x1.2)) = true by rw [show ((s.getD j ((0, []) : Wr)).1 == x1.2) = false from beq_eq_false_iff_ne.2 q]; rfl, cond_true, Int.toNat_natCast]
    have := del_l1 x1 s m (i + 1) (j + 1) (o.set i (s.getD j (0, []))) (by omega) (by omega) (by rw [List.length_set, ho])
     (by
      rw [hs1, List.filter_append, ← ht]
      have : (o.set i (s.getD j (0, []))).take (i + 1) = o.take i ++ [s.getD j (0, [])] := by
       rw [List.take_add_one, List.take_set_of_le (Nat.le_refl _), List.getElem?_set_self (by omega)]; rfl
      rw [this]
      congr 1
      rw [List.filter_cons_of_pos (by simpa using q)]; rfl)
     (by rw [hd1, ← hd, List.drop_drop, List.drop_set_of_lt (by omega)]) (by omega)
    rw [Int.natCast_add j 1, Int.natCast_add i 1] at this
    exact this
  ·rw [decide_eq_false (by omega : ¬ (j : Int) < (s.length : Int)), cond_false]
   refine ⟨i, o, rfl, ?_⟩
   rw [ht, List.take_of_length_le (by omega)]
theorem del_eq (s : List Wr) (k : Int) : slices_DeleteFunc_disk_write_disk_write s k = (s.filter (fun w => w.1 != k), k) := by
 rw [slices_DeleteFunc_disk_write_disk_write, bnd_eq]
 rcases ix_or s k with ⟨e, h⟩ | ⟨n, h1, e, h2, h3⟩
 ·rw [show slices_IndexFunc_disk_write_disk_write s k = _ from e]
  show (s, k) = _
  rw [List.filter_eq_self.2]
  intro w hw
  obtain ⟨j, hj, rfl⟩ := List.getElem_of_mem hw
  have := h j hj
  rw [List.getD_eq_getElem?_getD, List.getElem?_eq_getElem hj] at this
  simpa using this
 ·rw [show slices_IndexFunc_disk_write_disk_write s k = _ from e]
  rw [show (((n : Int), k).1 == (-1)) = false by rw [beq_eq_false_iff_ne]; show (n : Int) ≠ -1; omega, cond_false]
  obtain ⟨i', o', e1, e2⟩ := del_l1 ((n : Int), k) s (((s.length : Int) - (((n : Int), k).1 + 1)).toNat + 1) n (n + 1) s (by omega) (by omega) rfl
   (by
    rw [List.take_add_one, List.filter_append, List.getElem?_eq_getElem h1]
    have hn : (s[n]'h1).1 = k := by rw [List.getD_eq_getElem?_getD, List.getElem?_eq_getElem h1] at h2; exact h2
    have ht : (s.take n).filter (fun w => w.1 != k) = s.take n := by
     rw [List.filter_eq_self.2]
     intro w hw
     obtain ⟨j, hj, rfl⟩ := List.getElem_of_mem hw
     rw [List.length_take] at hj
     have := h3 j (by omega)
     rw [List.getD_eq_getElem?_getD, List.getElem?_eq_getElem (by omega)] at this
     rw [List.getElem_take]
     simpa using this
    show _ = (s.take n).filter (fun w => w.1 != k) ++ [s[n]'h1].filter (fun w => w.1 != k)
    rw [ht]
    simp [hn]) rfl (by show s.length - (n + 1) < ((s.length : Int) - ((n : Int) + 1)).toNat + 1; omega)
  rw [Int.natCast_add n 1] at e1
  rw [show slices_DeleteFunc_disk_write_disk_write_l1 ((n : Int), k) _ ((n : Int), k).1 (((n : Int), k).1 + 1) s = _ from e1]
  show slices_DeleteFunc_disk_write_disk_write_k1 ((n : Int), k) (i' : Int) o' = _
  rw [slices_DeleteFunc_disk_write_disk_write_k1, Int.toNat_natCast, e2]
end Go.Proofs.YtbppcnhfeobefaaDoor
namespace Go.Proofs.YtbppcnhfeobefaaDoor
open Go Go.Vw Go.Proofs
noncomputable def dDTamper (d0 : tLB) (d1 : tLW) (d2 : Int) (d3 : Bool) (i : Int) (b : List UInt8) : Int × (tLB × (tLW) × Int × Bool) :=
 bif (!((decide (i ≥ 0)) && (decide (i < (d0.length : Int))))) || ((b.length : Int) != 64) then
  (1, (d0, d1, d2, d3))
 else
  bnd (slices_DeleteFunc_disk_write_disk_write d1 i) fun x1 =>
  bnd (id b) fun x2 =>
  (0, (d0.set x1.2.toNat x2, x1.1, d2, d3))
attribute [irreducible] dDTamper
end Go.Proofs.YtbppcnhfeobefaaDoor

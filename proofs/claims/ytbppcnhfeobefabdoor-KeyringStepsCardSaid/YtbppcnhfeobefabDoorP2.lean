import Derived.Test.YtbppcnhfeobefabDoorP1
set_option linter.unusedVariables false
namespace Go.Proofs.YtbppcnhfeobefabDoor
open Go Go.Vw Go.Proofs
abbrev H0 : V8 := (1779033703, 3144134277, 1013904242, 2773480762, 1359893119, 2600822924, 528734635, 1541459225)
noncomputable def Hs (a : List UInt8) : hOT := ((absb H0 a).1, (absb H0 a).2, u64i (a.length : Int))
theorem u64i_add (a b : Nat) : u64i (a : Int) + u64i (b : Int) = u64i ((a + b : Nat) : Int) := by
 apply UInt64.toNat_inj.1
 rw [UInt64.toNat_add, u64i, u64i, u64i, UInt64.toNat_ofNat', UInt64.toNat_ofNat', UInt64.toNat_ofNat']
 omega
theorem Hs_rest (a : List UInt8) : (Hs a).2.1.length < 64 := absb_len _ _ _ (Nat.lt_succ_self _)
theorem new_Hs : sha_New = Hs [] := by
 rw [Hs, absb_lt (by decide), sha_New, sha_first]; rfl
theorem wr_Hs (a b : List UInt8) : sH_Write (Hs a) b = Hs (a ++ b) := by
 rw [write_eq _ _ (Hs_rest a)]
 have h := absb_app (a.length + 1) H0 a b (Nat.lt_succ_self _)
 rw [show Hs (a ++ b) = ((absb H0 (a ++ b)).1, (absb H0 (a ++ b)).2, u64i ((a ++ b).length : Int)) from rfl, h, List.length_append, ← u64i_add]
 rfl
theorem ssum_dig (a : List UInt8) : sha_Sum a = dig (Hs a).1 (Hs a).2.1 (Hs a).2.2 := by
 rw [sha_Sum, new_Hs, wr_Hs, List.nil_append, bnd_eq, bnd_eq, sum_eq _ (Hs_rest a)]
theorem sm_Hs (a : List UInt8) : sH_Sum (Hs a) = (sha_Sum a, Hs a) := by
 rw [sum_eq _ (Hs_rest a), ssum_dig]
theorem cl_eq (x : hOT) : sH_Clone x = (x, x) := by
 rw [sH_Clone]; rfl
theorem rl1 : ∀ (m : Nat) (o : List UInt8), ((120 - (o.length : Int) % 64) % 64).toNat < m → r5_Sum_l1 m o = Lo.brk (o ++ List.replicate ((120 - (o.length : Int) % 64) % 64).toNat 0)
 | 0, _, h => absurd h (Nat.not_lt_zero _)
 | m + 1, o, h => by
  rw [r5_Sum_l1]
  by_cases c : (o.length : Int) % 64 = 56
  ·rw [show ((o.length : Int) % 64 != 56) = false from by rw [bne_eq_false_iff_eq]; exact c, cond_false, c]
   show _ = Lo.brk (o ++ [])
   rw [List.append_nil]
  ·rw [show ((o.length : Int) % 64 != 56) = true from by rw [bne_iff_ne]; exact c, cond_true]
   rw [rl1 m _ (by simp only [List.length_append, List.length_cons, List.length_nil]; omega)]
   have e : ((120 - (o.length : Int) % 64) % 64).toNat = ((120 - ((o ++ [0]).length : Int) % 64) % 64).toNat + 1 := by
    simp only [List.length_append, List.length_cons, List.length_nil]; omega
   rw [e, List.replicate_succ, List.append_assoc]; rfl
theorem rl2 (a o : List UInt8) : r5_Sum_l2 a (((56 : Int) + 8).toNat + 1) 56 o = Lo.brk (o ++ be64 (8 * u64i (a.length : Int))) := by
 have : r5_Sum_l2 a (((56 : Int) + 8).toNat + 1) 56 o = Lo.brk ((((((((o ++ [(shr64 (8 * u64i (a.length : Int)) 56).toUInt8]) ++ [(shr64 (8 * u64i (a.length : Int)) 48).toUInt8]) ++ [(shr64 (8 * u64i (a.length : Int)) 40).toUInt8]) ++ [(shr64 (8 * u64i (a.length : Int)) 32).toUInt8]) ++ [(shr64 (8 * u64i (a.length : Int)) 24).toUInt8]) ++ [(shr64 (8 * u64i (a.length : Int)) 16).toUInt8]) ++ [(shr64 (8 * u64i (a.length : Int)) 8).toUInt8]) ++ [(shr64 (8 * u64i (a.length : Int)) 0).toUInt8]) := by
  generalize 8 * u64i (a.length : Int) = n
  kernel_rfl
 rw [this]; simp only [List.append_assoc, be64, List.cons_append, List.nil_append]
theorem prt_take (o : List UInt8) (t : Nat) : prt o t (t + 64 - t) = (o.drop t).take 64 := by
 rw [prt, show t + 64 - t = 64 by omega]
theorem rl3 (o : List UInt8) (ho : o.length % 64 = 0) : ∀ (m : Nat) (t : Nat) (h : V8), t % 64 = 0 → t ≤ o.length → o.length - t < m → r5_Sum_l3 o m (t : Int) h.1 h.2.1 h.2.2.1 h.2.2.2.1 h.2.2.2.2.1 h.2.2.2.2.2.1 h.2.2.2.2.2.2.1 h.2.2.2.2.2.2.2 = Lo.brk (absb h (o.drop t)).1
 | 0, _, _, _, _, h => absurd h (Nat.not_lt_zero _)
 | m + 1, t, h, h1, h2, hm => by
  rw [r5_Sum_l3]
  by_cases c : t < o.length
  ·rw [decide_eq_true (by omega : (t : Int) < (o.length : Int)), cond_true, bnd_eq, show ((t : Int)).toNat = t from Int.toNat_natCast t, show ((t : Int) + 64).toNat = t + 64 by omega, prt_take, one_mix]
   rw [absb_ge (l := o.drop t) (by rw [List.length_drop]; omega), List.drop_drop]
   have w := rl3 o ho m (t + 64) (mx h ((o.drop t).take 64)) (by omega) (by omega) (by omega)
   rw [show ((t + 64 : Nat) : Int) = (t : Int) + 64 from Int.natCast_add t 64] at w
   simp only [mx] at w ⊢
   exact w
  ·rw [decide_eq_false (by omega : ¬ (t : Int) < (o.length : Int)), cond_false, absb_lt (by rw [List.length_drop]; omega)]
def w4' (x : UInt32) : List UInt8 := [(shr32 x 24).toUInt8, (shr32 x 16).toUInt8, (shr32 x 8).toUInt8, (shr32 x 0).toUInt8]
theorem shr0 (x : UInt32) : shr32 x 0 = x := by apply u32eq; rw [shr32]; simp
theorem rl4 (h : V8) : r5_Sum_l4 h.1 h.2.1 h.2.2.1 h.2.2.2.1 h.2.2.2.2.1 h.2.2.2.2.2.1 h.2.2.2.2.2.2.1 h.2.2.2.2.2.2.2 ((32 - (0 : Int)).toNat + 1) 0 (List.replicate 32 0) = Lo.brk ((w4' h.1) ++ w4' h.2.1 ++ w4' h.2.2.1 ++ w4' h.2.2.2.1 ++ w4' h.2.2.2.2.1 ++ w4' h.2.2.2.2.2.1 ++ w4' h.2.2.2.2.2.2.1 ++ w4' h.2.2.2.2.2.2.2) := by kernel_rfl
theorem w4_eq (x : UInt32) : w4' x = w4 x := by rw [w4', w4, shr0]
theorem rk3 (h : V8) : r5_Sum_k3 h.1 h.2.1 h.2.2.1 h.2.2.2.1 h.2.2.2.2.1 h.2.2.2.2.2.1 h.2.2.2.2.2.2.1 h.2.2.2.2.2.2.2 = outb h := by
 rw [r5_Sum_k3, rl4, elB, r5_Sum_k4]
 simp only [w4_eq]
 rw [outb]
theorem pad_len (b : List UInt8) (hb : b.length ≤ 1000000000) : ((120 - ((b ++ [128]).length : Int) % 64) % 64).toNat = pz (u64i (b.length : Int)) := by
 rw [pz, u64i, UInt64.toNat_ofNat']
 simp only [List.length_append, List.length_cons, List.length_nil]; omega
theorem rsum_eq (b : List UInt8) (hb : b.length ≤ 1000000000) : r5_Sum b = sha_Sum b := by
 have hn : (u64i (b.length : Int)).toNat = b.length := by rw [u64i, UInt64.toNat_ofNat']; omega
 rw [r5_Sum, rl1 _ _ (Nat.lt_succ_self _), elB, pad_len b hb, r5_Sum_k1, rl2, elB, r5_Sum_k2]
 have e : (b ++ [128] ++ List.replicate (pz (u64i (b.length : Int))) 0) ++ be64 (8 * u64i (b.length : Int)) = b ++ padb (u64i (b.length : Int)) := by
  rw [padb, List.append_assoc, List.append_assoc, List.append_assoc]
 have hl : (b ++ padb (u64i (b.length : Int))).length % 64 = 0 := by
  rw [padb, pz, hn]
  simp only [List.length_append, List.length_replicate, be64, List.length_cons, List.length_nil]
  omega
 rw [e]
 have ha := absb_app (b.length + 1) H0 b (padb (u64i (b.length : Int))) (Nat.lt_succ_self _)
 have e2 : outb (absb (Hs b).1 ((Hs b).2.1 ++ padb (Hs b).2.2)).1 = outb (absb H0 (b ++ padb (u64i (b.length : Int)))).1 := by rw [ha]; rfl
 rw [ssum_dig, dig, e2]
 generalize b ++ padb (u64i (b.length : Int)) = m at hl ⊢
 have h3 : r5_Sum_l3 m (((m.length : Int) - (0 : Int)).toNat + 1) 0 1779033703 3144134277 1013904242 2773480762 1359893119 2600822924 528734635 1541459225 = Lo.brk (absb H0 m).1 := rl3 m hl (((m.length : Int) - (0 : Int)).toNat + 1) 0 H0 (by omega) (by omega) (by omega)
 rw [h3, elB, rk3]
end Go.Proofs.YtbppcnhfeobefabDoor

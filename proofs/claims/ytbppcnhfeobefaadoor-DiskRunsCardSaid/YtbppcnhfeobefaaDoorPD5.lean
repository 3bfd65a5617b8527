import Derived.Test.YtbppcnhfeobefaaDoorH9
set_option linter.unusedVariables false
set_option linter.unusedSimpArgs false
namespace Go.Proofs.YtbppcnhfeobefaaDoor
open Go Go.Vw Go.Proofs
theorem inR_mk {s : Sc} {i : Int} {b : List UInt8} {n : Nat} (hs : s.length = n) (h0 : 0 ≤ i) (h1 : i < n) (hb : b.length = 64) : inR s i b = true := by
  unfold inR
  rw [decide_eq_true (show i ≥ 0 from h0), decide_eq_true (show i < (s.length : Int) by omega), hb]; rfl
theorem write_go {s : Sc} {w : List Wr} {a : Int} {d : Bool} {i : Int} {b : List UInt8} (hi : inR s i b = true) (hd : stD a d = false) : disk_Disk_Write s w a d i b = (0, ((), w ++ [(i, b)], stA a, false)) := by
  rw [write_eq, hi, hd]; rfl
theorem write_dn {s : Sc} {w : List Wr} {a : Int} {d : Bool} {i : Int} {b : List UInt8} (hi : inR s i b = true) (hd : stD a d = true) : disk_Disk_Write s w a d i b = (23, ((), w, stA a, true)) := by
  rw [write_eq, hi, hd]; rfl
theorem sync_go {s : Sc} {w : List Wr} {a : Int} {d : Bool} (hd : stD a d = false) : disk_Disk_Sync s w a d = (0, (appW s w, [], stA a, false)) := by
  rw [sync_eq, hd]; rfl
theorem arm_go {s : Sc} {w : List Wr} {a : Int} {d : Bool} {n : Int} (h : 0 ≤ n) : disk_Disk_Arm s w a d n = (0, ((), (), n, d)) := by
  rw [disk_Disk_Arm, decide_eq_false (show ¬ n < 0 by omega), cond_false]
theorem sec_a (b : UInt8) : (bursarylaw13_sector [b]).getD 0 0 = b := by rw [bursarylaw13_sector]; rfl
theorem read_go {s : Sc} {w : List Wr} {a : Int} {i : Int} (h0 : 0 ≤ i) (h1 : i < (s.length : Int)) : disk_Disk_Read s w a false i = (lastW i w (s.getD i.toNat []), 0, ((), (), (), ())) := by
  rw [read_eq, decide_eq_true (show i ≥ 0 from h0), decide_eq_true h1]; rfl
theorem sure_true : bursarylaw13_sure = true := by
  rw [bursarylaw13_sure, bnd_eq, new_eq]
  have hr : (List.replicate (Int.toNat 4) zS).length = 4 := List.length_replicate
  generalize hS : List.replicate (Int.toNat 4) zS = S at hr
  dsimp only
  rw [show decide ((0 : Int) = 0) = true from rfl, Bool.not_true, cond_false]
  have hA := sec_len [97]; have hA2 := sec_a 97
  have hB := sec_len [98]
  have hC := sec_len []
  generalize bursarylaw13_sector [97] = A at hA hA2 ⊢
  rw [bnd_eq, bnd_eq, write_go (inR_mk (n := 4) hr (by decide) (by decide) hA) rfl, bnd_eq, sync_go rfl]
  have hr2 : (appW S ([] ++ [(1, A)])).length = 4 := by rw [appW_len]; exact hr
  have hg2 : (appW S ([] ++ [(1, A)])).getD 1 [] = A := by
    show (S.set 1 A).getD 1 [] = A
    rw [List.getD_eq_getElem?_getD, List.getElem?_set_self (by omega)]; rfl
  dsimp only
  generalize appW S ([] ++ [(1, A)]) = S2 at hr2 hg2 ⊢
  generalize bursarylaw13_sector [98] = B at hB ⊢
  generalize bursarylaw13_sector [] = C at hC ⊢
  rw [bnd_eq, bnd_eq, write_go (inR_mk (n := 4) hr2 (by decide) (by decide) hB) rfl, bnd_eq, arm_go (by decide), bnd_eq, bnd_eq]
  dsimp only
  rw [write_dn (inR_mk (n := 4) hr2 (by decide) (by decide) hC) rfl, bnd_eq, crash_eq, bnd_eq]
  dsimp only
  rw [crW_out [] _ 0 _ (Nat.zero_le _), read_go (by decide) (by rw [hr2]; decide)]
  show ((decide ((0 : Int) = 0)) && ((decide ((0 : Int) = 0)) && ((decide ((0 : Int) = 0)) && ((decide ((0 : Int) = 0)) && (((23 : Int) == 23) && (true && ((decide ((0 : Int) = 0)) && ((((S2.getD 1 []).length : Int) == 64) && (((S2.getD 1 []).getD 0 0 == 97) && ((S2.length : Int) == 4)))))))))) = true
  rw [hg2, hA, hA2, hr2]; rfl
end Go.Proofs.YtbppcnhfeobefaaDoor

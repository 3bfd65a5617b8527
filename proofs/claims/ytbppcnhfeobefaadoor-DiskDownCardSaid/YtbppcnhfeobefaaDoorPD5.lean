import Derived.Test.YtbppcnhfeobefaaDoorH9
set_option linter.unusedVariables false
set_option linter.unusedSimpArgs false
namespace Go.Proofs.YtbppcnhfeobefaaDoor
open Go Go.Vw Go.Proofs
theorem inR_mk {s : Sc} {i : Int} {b : List UInt8} {n : Nat} (hs : s.length = n) (h0 : 0 ≤ i) (h1 : i < n) (hb : b.length = 64) : inR s i b = true := by
  unfold inR
  rw [decide_eq_true (show i ≥ 0 from h0), decide_eq_true (show i < (s.length : Int) by omega), hb]; rfl
theorem write_go {s : Sc} {w : List Wr} {a : Int} {d : Bool} {i : Int} {b : List UInt8} (hi : inR s i b = true) (hd : stD a d = false) : disk_Disk_Write s w a d i b = (0, ((), w ++ [(i, b)], stA a, false)) := by
  rw [write_eq, hi, hd]; rfl
theorem write_dn {s : Sc} {w : List Wr} {a : Int} {d : Bool} {i : Int} {b : List UInt8} (hi : inR s i b = true) (hd : stD a d = true) : disk_Disk_Write s w a d i b = (23, ((), w, stA a, true)) := by
  rw [write_eq, hi, hd]; rfl
theorem sync_go {s : Sc} {w : List Wr} {a : Int} {d : Bool} (hd : stD a d = false) : disk_Disk_Sync s w a d = (0, (appW s w, [], stA a, false)) := by
  rw [sync_eq, hd]; rfl
theorem sync_dn {s : Sc} {w : List Wr} {a : Int} {d : Bool} (hd : stD a d = true) : disk_Disk_Sync s w a d = (23, (s, w, stA a, true)) := by
  rw [sync_eq, hd]; rfl
theorem arm_go {s : Sc} {w : List Wr} {a : Int} {d : Bool} {n : Int} (h : 0 ≤ n) : disk_Disk_Arm s w a d n = (0, ((), (), n, d)) := by
  rw [disk_Disk_Arm, decide_eq_false (show ¬ n < 0 by omega), cond_false]
theorem sec_a (b : UInt8) : (bursarylaw13_sector [b]).getD 0 0 = b := by rw [bursarylaw13_sector]; rfl
theorem read_go {s : Sc} {w : List Wr} {a : Int} {i : Int} (h0 : 0 ≤ i) (h1 : i < (s.length : Int)) : disk_Disk_Read s w a false i = (lastW i w (s.getD i.toNat []), 0, ((), (), (), ())) := by
  rw [read_eq, decide_eq_true (show i ≥ 0 from h0), decide_eq_true h1]; rfl
theorem sure_true : bursarylaw13_sure = true := by
  rw [bursarylaw13_sure, bnd_eq, new_eq]
  have hr : (List.replicate (Int.toNat 4) zS).length = 4 := List.length_replicate
  generalize hS : List.replicate (Int.toNat 4) zS = S at hr
  dsimp only
  rw [show decide ((0 : Int) = 0) = true from rfl, Bool.not_true, cond_false]
  have hA := sec_len [97]; have hA2 := sec_a 97
  have hB := sec_len [98]
  have hC := sec_len []
  generalize bursarylaw13_sector [97] = A at hA hA2 ⊢
  rw [bnd_eq, bnd_eq, write_go (inR_mk (n := 4) hr (by decide) (by decide) hA) rfl, bnd_eq, sync_go rfl]
  have hr2 : (appW S ([] ++ [(1, A)])).length = 4 := by rw [appW_len]; exact hr
  have hg2 : (appW S ([] ++ [(1, A)])).getD 1 [] = A := by
    show (S.set 1 A).getD 1 [] = A
    rw [List.getD_eq_getElem?_getD, List.getElem?_set_self (by omega)]; rfl
  dsimp only
  generalize appW S ([] ++ [(1, A)]) = S2 at hr2 hg2 ⊢
  generalize bursarylaw13_sector [98] = B at hB ⊢
  generalize bursarylaw13_sector [] = C at hC ⊢
  rw [bnd_eq, bnd_eq, write_go (inR_mk (n := 4) hr2 (by decide) (by decide) hB) rfl, bnd_eq, arm_go (by decide), bnd_eq, bnd_eq]
  dsimp only
  rw [write_dn (inR_mk (n := 4) hr2 (by decide) (by decide) hC) rfl, bnd_eq, crash_eq, bnd_eq]
  dsimp only
  rw [crW_out [] _ 0 _ (Nat.zero_le _), read_go (by decide) (by rw [hr2]; decide)]
  show ((decide ((0 : Int) = 0)) && ((decide ((0 : Int) = 0)) && ((decide ((0 : Int) = 0)) && ((decide ((0 : Int) = 0)) && (((23 : Int) == 23) && (true && ((decide ((0 : Int) = 0)) && ((((S2.getD 1 []).length : Int) == 64) && (((S2.getD 1 []).getD 0 0 == 97) && ((S2.length : Int) == 4)))))))))) = true
  rw [hg2, hA, hA2, hr2]; rfl
theorem stD_cnt (t k : Int) : stD (if t < k then k - t else 0) (decide (t ≥ k)) = decide (t + 1 ≥ k) := by
  unfold stD
  by_cases h : t < k
  · rw [if_pos h, decide_eq_false (show ¬ t ≥ k by omega), Bool.false_or]
    by_cases h2 : k - t = 1
    · rw [h2, decide_eq_true (show t + 1 ≥ k by omega)]; rfl
    · rw [decide_eq_false (show ¬ t + 1 ≥ k by omega)]; exact beq_false_of_ne h2
  · rw [decide_eq_true (show t ≥ k by omega), decide_eq_true (show t + 1 ≥ k by omega), Bool.true_or]
theorem stA_cnt (t k : Int) : stA (if t < k then k - t else 0) = if t + 1 < k then k - (t + 1) else 0 := by
  unfold stA
  by_cases h : t < k
  · rw [if_pos h, if_pos (by omega)]
    by_cases h2 : t + 1 < k
    · rw [if_pos h2]; omega
    · rw [if_neg h2]; omega
  · rw [if_neg h, if_neg (by omega), if_neg (by omega)]
theorem down_l1 (a0 : UInt8) (a1 : List UInt8) : ∀ (m : Nat) (t : Int) (s : Sc) (w : List Wr), 0 ≤ t → ((a1.length : Int) - t).toNat < m → s.length = 8 →
    ∃ a d s' w', s'.length = 8 ∧ bursarylaw13_DiskDown_l1 a0 a1 m t (if t < 1 + ((a0.toNat : Int) % 20) then 1 + ((a0.toNat : Int) % 20) - t else 0) (decide (t ≥ 1 + ((a0.toNat : Int) % 20))) s w = .brk (a, d, s', w') := by
  intro m
  induction m with
  | zero => intro t s w _ h; omega
  | succ m ih =>
    intro t s w h0 hm hs
    rw [bursarylaw13_DiskDown_l1]
    generalize hk : 1 + ((a0.toNat : Int) % 20) = k at ih ⊢
    by_cases hi : t < (a1.length : Int)
    · rw [decide_eq_true hi, cond_true]
      obtain ⟨a, d, s1, w1, e1, e2⟩ := ih (t + 1) s w (by omega) (by omega) hs
      have hD := stD_cnt t k
      have hA := stA_cnt t k
      have hq : decide (t + 1 < k) = !decide (t + 1 ≥ k) := by by_cases q : t + 1 < k <;> simp [q] <;> omega
      cases ((a1.getD t.toNat 0) % 4) == 0 with
      | true =>
        rw [cond_true, bnd_eq]
        by_cases hd : t + 1 ≥ k
        · rw [decide_eq_true hd] at hD hq
          rw [sync_dn hD, hA, hq, decide_eq_true hd]
          obtain ⟨a, d, s1, w1, e1, e2⟩ := ih (t + 1) s w (by omega) (by omega) hs
          rw [decide_eq_true hd] at e2
          exact ⟨a, d, s1, w1, e1, e2⟩
        · rw [decide_eq_false hd] at hD hq
          rw [sync_go hD, hA, hq, decide_eq_false hd]
          obtain ⟨a, d, s1, w1, e1, e2⟩ := ih (t + 1) (appW s w) [] (by omega) (by omega) (by rw [appW_len]; exact hs)
          rw [decide_eq_false hd] at e2
          exact ⟨a, d, s1, w1, e1, e2⟩
      | false =>
        rw [cond_false, bnd_eq, bnd_eq]
        have hb := (a1.getD t.toNat 0).toNat_lt
        have hR : inR s ((((a1.getD t.toNat 0).toNat : Int) % 8)) (bursarylaw13_sector [a1.getD t.toNat 0]) = true := inR_mk (n := 8) hs (by omega) (by omega) (sec_len _)
        by_cases hd : t + 1 ≥ k
        · rw [decide_eq_true hd] at hD hq
          rw [write_dn hR hD, hA, hq, decide_eq_true hd]
          obtain ⟨a, d, s1, w1, e1, e2⟩ := ih (t + 1) s w (by omega) (by omega) hs
          rw [decide_eq_true hd] at e2
          exact ⟨a, d, s1, w1, e1, e2⟩
        · rw [decide_eq_false hd] at hD hq
          rw [write_go hR hD, hA, hq, decide_eq_false hd]
          obtain ⟨a, d, s1, w1, e1, e2⟩ := ih (t + 1) s (w ++ [((((a1.getD t.toNat 0).toNat : Int) % 8), bursarylaw13_sector [a1.getD t.toNat 0])]) (by omega) (by omega) hs
          rw [decide_eq_false hd] at e2
          exact ⟨a, d, s1, w1, e1, e2⟩
    · rw [decide_eq_false hi, cond_false]
      exact ⟨_, _, s, w, hs, rfl⟩
theorem down_true (a0 : UInt8) (a1 : List UInt8) : bursarylaw13_DiskDown a0 a1 = true := by
  rw [bursarylaw13_DiskDown, bnd_eq, new_eq]
  have hr : (List.replicate (Int.toNat 8) zS).length = 8 := List.length_replicate
  generalize List.replicate (Int.toNat 8) zS = S at hr
  show (bif (false || decide ((a1.length : Int) > 60)) then bursarylaw13_sure else _) = true
  rw [Bool.false_or]
  cases decide ((a1.length : Int) > 60) with
  | true => exact sure_true
  | false =>
    rw [cond_false, bnd_eq, arm_go (by omega)]
    dsimp only
    show Lo.el (bursarylaw13_DiskDown_l1 a0 a1 _ 0 (1 + ((a0.toNat : Int) % 20)) false S []) _ = true
    obtain ⟨a, d, s, w, e1, e2⟩ := down_l1 a0 a1 (((a1.length : Int) - (0 : Int)).toNat + 1) 0 S [] (Int.le_refl 0) (Nat.lt_succ_self _) hr
    rw [if_pos (by omega), decide_eq_false (by omega), Int.sub_zero (1 + ((a0.toNat : Int) % 20))] at e2
    rw [e2]
    show bursarylaw13_DiskDown_k1 a d s w = true
    rw [bursarylaw13_DiskDown_k1, bnd_eq, crash_eq, bnd_eq, bnd_eq, write_go (inR_mk (n := 8) (by rw [crW_len]; exact e1) (by decide) (by decide) (sec_len _)) rfl, sure_true]
    rfl
end Go.Proofs.YtbppcnhfeobefaaDoor

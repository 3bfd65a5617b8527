import Derived.Test.YtbppcnhfeobefaaDoorPD5
import Derived.Test.YtbppcnhfeobefaaDoorH11
set_option linter.unusedVariables false
set_option linter.unusedSimpArgs false
namespace Go.Proofs.YtbppcnhfeobefaaDoor
open Go Go.Vw Go.Proofs
theorem bnd_cut {φ β : Type} {F : φ} {K : φ → β} {P : β → Prop} (Q : φ → Prop) (h : Q F) (hK : ∀ f, Q f → P (K f)) : P (bnd F K) := hK F h
theorem reads_same (s : Sc) (w : List Wr) (a : Int) (d : Bool) (i : Int) : (disk_Disk_Read s w a d i).1 = (bursaryref13_Read s w a d i).1 ∧ (disk_Disk_Read s w a d i).2.1 = (bursaryref13_Read s w a d i).2 := by
  rw [read_eq, rread_eq]
  cases !((decide (i ≥ 0)) && (decide (i < (s.length : Int)))) <;> cases d <;> exact ⟨rfl, rfl⟩
theorem stA_0 {a : Int} (h : 0 ≤ a) : 0 ≤ stA a := by unfold stA; split <;> omega
theorem runs_l1 (a1 : List (Int × Int × List UInt8 × List Bool)) : ∀ (m : Nat) (t : Int) (a : Int) (d : Bool) (s : Sc) (w : List Wr), 0 ≤ t → ((a1.length : Int) - t).toNat < m → 0 ≤ a →
    ∃ r, bursarylaw13_DiskRuns_l1 a1 m t a d s w s w a d = .brk r := by
  intro m
  induction m with
  | zero => intro t a d s w _ h; omega
  | succ m ih =>
    intro t a d s w h0 hm ha
    rw [bursarylaw13_DiskRuns_l1]
    by_cases hi : t < (a1.length : Int)
    · rw [decide_eq_true hi, Bool.true_and]
      cases decide (t < 30) with
      | false => rw [cond_false]; exact ⟨_, rfl⟩
      | true =>
        rw [cond_true]
        generalize a1.getD t.toNat ((0, 0, [], []) : Int × Int × List UInt8 × List Bool) = x
        cases (decide ((x.2.2.1.length : Int) > 200)) || (decide ((x.2.2.2.length : Int) > 200)) with
        | true => rw [cond_true]; exact ih (t + 1) a d s w (by omega) (by omega) ha
        | false =>
          rw [cond_false]
          refine bnd_cut (P := fun z => ∃ r, z = Lo.brk r) (fun f => ∀ b, ∃ r, f b = Lo.brk r) ?_ ?_
          · intro b
            refine bnd_cut (P := fun z => ∃ r, z = Lo.brk r) (fun f => ∀ e a d s w, 0 ≤ a → ∃ r, f e e a d s s w a d w = Lo.brk r) ?_ ?_
            · intro e a d s w ha
              obtain ⟨q1, q2⟩ := reads_same s w a d x.2.1
              show ∃ r, (bif (e != e) || (((disk_Disk_Read s w a d x.2.1).1 != (bursaryref13_Read s w a d x.2.1).1) || (((disk_Disk_Read s w a d x.2.1).2.1 != (bursaryref13_Read s w a d x.2.1).2) || (((disk_Disk_Safe s w a d).1 != bursaryref13_All s w a d) || (((w.length : Int) != (w.length : Int)) || (d != d))))) then Lo.ret false else _) = _
              rw [q1, q2, (safe_eq s w a d).1, all_eq, bne_self_eq_false, bne_self_eq_false, bne_self_eq_false, bne_self_eq_false, bne_self_eq_false, bne_self_eq_false]
              exact ih (t + 1) a d s w (by omega) (by omega) ha
            · intro f hf
              cases ((((u64i x.1) % 8).toNat : Int) == 3) with
              | true =>
                rw [cond_true, bnd_eq, bnd_eq, bnd_eq, sync_eq, rsync_eq _ _ _ _ ha]
                cases stD a d <;> exact hf _ _ _ _ _ (stA_0 ha)
              | false =>
                rw [cond_false]
                cases ((((u64i x.1) % 8).toNat : Int) == 4) with
                | true =>
                  rw [cond_true, bnd_eq, bnd_eq]
                  by_cases hn : x.2.1 < 0
                  · rw [decide_eq_true hn, cond_true, disk_Disk_Arm, decide_eq_true hn, cond_true]; exact hf _ _ _ _ _ ha
                  · rw [decide_eq_false hn, cond_false, disk_Disk_Arm, decide_eq_false hn, cond_false]; exact hf _ _ _ _ _ (by show 0 ≤ x.2.1; omega)
                | false =>
                  rw [cond_false]
                  cases ((((u64i x.1) % 8).toNat : Int) == 5) with
                  | true => rw [cond_true, bnd_eq, bnd_eq, crash_eq, rcrash_eq]; exact hf _ _ _ _ _ (Int.le_refl 0)
                  | false =>
                    rw [cond_false]
                    cases ((((u64i x.1) % 8).toNat : Int) == 6) with
                    | true =>
                      rw [cond_true, bnd_eq, bnd_eq, bnd_eq, tamper_eq, rtamper_eq]
                      cases inR s x.2.1 b <;> exact hf _ _ _ _ _ ha
                    | false =>
                      rw [cond_false]
                      cases ((((u64i x.1) % 8).toNat : Int) == 7) with
                      | true =>
                        rw [cond_true, bnd_eq, disk_Disk_Clone, bnd_eq, bnd_eq]; exact hf _ _ _ _ _ ha
                      | false =>
                        rw [cond_false, bnd_eq, bnd_eq, bnd_eq, write_eq, rput_eq _ _ _ _ _ _ ha]
                        cases inR s x.2.1 b with
                        | false => exact hf _ _ _ _ _ ha
                        | true => cases stD a d <;> exact hf _ _ _ _ _ (stA_0 ha)
          · intro f hf
            cases decide ((x.2.2.1.length : Int) < 60) with
            | true => exact hf _
            | false => exact hf _
    · rw [decide_eq_false hi, Bool.false_and, cond_false]; exact ⟨_, rfl⟩
theorem runs_true (a0 : Int) (a1 : List (Int × Int × List UInt8 × List Bool)) : bursarylaw13_DiskRuns a0 a1 = true := by
  rw [bursarylaw13_DiskRuns, bnd_eq]
  show (bif (decide (a0 < 1)) || (decide (a0 > 2048)) then _ else _) = true
  cases hq : (decide (a0 < 1)) || (decide (a0 > 2048)) with
  | true => rw [cond_true, bnd_eq, sure_true]; rfl
  | false =>
    have hn1 := of_decide_eq_false (Bool.or_eq_false_iff.1 hq).1
    rw [cond_false, bnd_eq, new_eq]
    dsimp only
    cases decide (a0 > 64) with
    | true =>
      rw [cond_true, List.length_replicate, sure_true, Int.toNat_of_nonneg (by omega), BEq.rfl]; rfl
    | false =>
      rw [cond_false, bnd_eq, rnew_eq]
      dsimp only
      obtain ⟨r, hr⟩ := runs_l1 a1 (((a1.length : Int) - (0 : Int)).toNat + 1) 0 0 false (List.replicate a0.toNat zS) [] (Int.le_refl 0) (Nat.lt_succ_self _) (Int.le_refl 0)
      rw [hr]
      show bursarylaw13_DiskRuns_k1 _ _ _ _ _ _ _ _ = true
      rw [bursarylaw13_DiskRuns_k1, sure_true]
theorem runs_hN {a1 : List (Int × Int × List UInt8 × List Bool)} {M : Nat} {A B : Int × Int × List UInt8 × List Bool → Prop} (h : a1.length ≤ M ∧ ∀ y ∈ a1, A y ∧ (-9223372036854775808 ≤ y.2.1 ∧ y.2.1 ≤ 9223372036854775807) ∧ B y) (j : Nat) :
    -9223372036854775808 ≤ ((a1.getD j ((0, 0, [], []) : Int × Int × List UInt8 × List Bool)).2.1 : Int) ∧ ((a1.getD j ((0, 0, [], []) : Int × Int × List UInt8 × List Bool)).2.1 : Int) ≤ 9223372036854775807 := by
  by_cases q : j < a1.length
  · rw [List.getD_eq_getElem?_getD, List.getElem?_eq_getElem q]; exact (h.2 _ (List.getElem_mem q)).2.1
  · rw [gD_out _ _ _ (by omega)]; exact ⟨by decide, by decide⟩
end Go.Proofs.YtbppcnhfeobefaaDoor

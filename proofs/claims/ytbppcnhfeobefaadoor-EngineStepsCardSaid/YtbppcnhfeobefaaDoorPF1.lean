import Derived.Test.YtbppcnhfeobefaaDoorG7
set_option linter.unusedVariables false
set_option linter.unusedSimpArgs false
namespace Go.Proofs.YtbppcnhfeobefaaDoor
open Go Go.Vw Go.Proofs
theorem nz (x : Int) : (!(decide (x = 0))) = (x != 0) := by by_cases h : x = 0 <;> simp [h]
theorem u64_ne (c : Int) (a : UInt32) (h0 : 0 ≤ c) (hc : c < 18446744073709551616) : ((u64i c) != a.toUInt64) = (c != (a.toNat : Int)) := by
  obtain ⟨n, rfl⟩ := Int.eq_ofNat_of_zero_le h0
  have hu := u64i_len n (by omega)
  have : ((u64i (n : Int)) == a.toUInt64) = ((n : Int) == (a.toNat : Int)) := by
    rw [Bool.eq_iff_iff, beq_iff_eq, beq_iff_eq, ← UInt64.toNat_inj, hu, UInt32.toNat_toUInt64]; omega
  rw [bne, bne, this]
theorem put_same (l : List Ver) (a : UInt32) (b : Int) (d : List UInt8) (c : Int) (t : UInt64) (hc : c < 18446744073709551616) : engine_Put l a b d c t = bursaryref30_Put l a b d c t := by
  rw [engine_Put, bursaryref30_Put, bnd_eq, bnd_eq]
  by_cases ok : okE l a b
  · rw [check_yes ok, mayS_yes ok, copied_eq]
    simp only [decide_true, Bool.not_true, Bool.false_or, bnd_eq, id_eq]
    cases decide ((d.length : Int) > 100) with
    | true => rfl
    | false =>
      rw [cond_false, cond_false]
      have e : ((decide (c ≥ 0)) && ((u64i c) != a.toUInt64)) = ((decide (c ≥ 0)) && (c != (a.toNat : Int))) := by
        by_cases h : c ≥ 0
        · rw [u64_ne c a h hc]
        · rw [decide_eq_false h]; rfl
      rw [e]
      cases (decide (c ≥ 0)) && (c != (a.toNat : Int)) with
      | true => rfl
      | false =>
        rw [cond_false, cond_false]
        cases a == 4294967295 with
        | true => rfl
        | false =>
          rw [cond_false, cond_false]
          have hb := ok.1
          by_cases q : (l.length : Int) = b
          · rw [decide_eq_true (by rw [List.length_append]; simp; omega), cond_true, show ((l.length : Int) == b) = true by rw [beq_iff_eq]; exact q, cond_true]
            have e1 : dlt (l ++ [(a + 1, d, t, 0)]) 0 1 = slc l 1 (l.length : Int) ++ [(a + 1, d, t, 0)] := by
              rw [dlt, slc_drop]
              show [] ++ (l ++ _).drop 1 = l.drop 1 ++ _
              rw [List.nil_append, List.drop_append_of_le_length (by omega)]
            rw [e1]
          · rw [decide_eq_false (by rw [List.length_append]; simp; omega), cond_false, show ((l.length : Int) == b) = false by rw [beq_eq_false_iff_ne]; exact q, cond_false, slc_all]
  · rw [check_no ok, mayS_no ok]; rfl
theorem get_same (l : List Ver) (a : UInt32) (b : Int) (n : UInt32) : engine_Get l a b n = bursaryref30_Get l a b n := by
  rw [engine_Get, bursaryref30_Get, at_find, copied_eq]
  simp only [bnd_eq, nz]
theorem set_same (l : List Ver) (a : UInt32) (b : Int) (n : UInt32) (s : Int) (hs : s = 0 ∨ s = 1 ∨ s = 2) : engine_set l a b n s = bursaryref30_Set l a b n s := by
  rw [engine_set, bursaryref30_Set, at_find, copied_eq]
  have e : ∀ v : Int, ((v == 2) && (s != 2)) = ((v == 2) && (decide (s < 2))) := fun v => by rcases hs with rfl | rfl | rfl <;> rfl
  simp only [bnd_eq, nz, e]
theorem del_same (l : List Ver) (a : UInt32) (b : Int) (n : UInt32) : engine_Delete l a b n = bursaryref30_Set l a b n 1 := by
  rw [engine_Delete, bnd_eq, set_same _ _ _ _ _ (.inr (.inl rfl))]
theorem und_same (l : List Ver) (a : UInt32) (b : Int) (n : UInt32) : engine_Undelete l a b n = bursaryref30_Set l a b n 0 := by
  rw [engine_Undelete, bnd_eq, set_same _ _ _ _ _ (.inl rfl)]
theorem des_same (l : List Ver) (a : UInt32) (b : Int) (n : UInt32) : engine_Destroy l a b n = bursaryref30_Set l a b n 2 := by
  rw [engine_Destroy, bnd_eq, set_same _ _ _ _ _ (.inr (.inr rfl))]
theorem isV_self (v : Ver) : bursarylaw30_isVersion v.1 v.2.1 v.2.2.1 v.2.2.2 v.1 v.2.1 v.2.2.1 v.2.2.2 = true := by rw [bursarylaw30_isVersion]; simp
theorem isS_self (l : List Ver) (a : UInt32) (b : Int) : bursarylaw30_isSecret l a b l a b = true := by
  rw [bursarylaw30_isSecret]
  rw [show ((a != a) || ((b != b) || ((l.length : Int) != (l.length : Int)))) = false by simp, cond_false]
  rcases cmpLoop (f := bursarylaw30_isSecret_l1 l l) (n := (l.length : Int)) (p := fun _ => false) (r := false) (fun m i h => by rw [bursarylaw30_isSecret_l1, bnd_eq, isV_self]; rfl) _ 0 (Int.le_refl 0) (Nat.lt_succ_self _) with ⟨_, h⟩ | ⟨⟨_, _, _, h⟩, _⟩
  · rw [h]; show bursarylaw30_isSecret_k1 = true; rw [bursarylaw30_isSecret_k1]
  · cases h
theorem sure30_true : bursarylaw30_sure = true := by kernel_rfl
theorem new_or (m : Int) : ((1 ≤ m ∧ m ≤ 8) ∧ engine_New m = (([], 0, m), 0)) ∨ (¬ (1 ≤ m ∧ m ≤ 8) ∧ engine_New m = (([], 0, 0), 1)) := by
  rw [engine_New, bnd_eq]
  by_cases h : 1 ≤ m ∧ m ≤ 8
  · left
    have : okE [] 0 m := ⟨⟨h.1, h.2, by simp; omega⟩, ⟨by simp, by simp⟩, fun i hi => absurd hi (by simp)⟩
    rw [check_yes this]; exact ⟨h, rfl⟩
  · right
    have : ¬ okE [] 0 m := fun ok => h ⟨ok.1.1, ok.1.2.1⟩
    rw [check_no this]; exact ⟨h, rfl⟩
theorem check_may (l : List Ver) (a : UInt32) (b : Int) : (decide (engine_Check l a b = 0) == bursaryref30_May l a b) = true := by
  by_cases ok : okE l a b
  · rw [check_yes ok, mayS_yes ok]; rfl
  · rw [check_no ok, mayS_no ok]; rfl
theorem steps_true (l : List Ver) (a : UInt32) (b : Int) (d : List UInt8) (c : Int) (n : UInt32) (t : UInt64) (hc : c ≤ 9223372036854775807) : bursarylaw30_EngineSteps l a b d c n t = true := by
  rw [bursarylaw30_EngineSteps, bnd_eq]
  cases (bursarylaw30_bigSecret l a b) || (decide ((d.length : Int) > 400)) with
  | true => rw [cond_true, sure30_true]
  | false =>
    rw [cond_false, give_eq]
    simp only [bnd_eq, put_same l a b d c t (by omega), get_same, del_same, und_same, des_same, isS_self, isV_self, id_eq, sure30_true, check_may, bne_self_eq_false, Bool.not_true, Bool.or_self, cond_false, Bool.and_true]
    rcases new_or c with ⟨h, e⟩ | ⟨h, e⟩
    · rw [e, decide_eq_true (show c ≥ 1 from h.1), decide_eq_true (show c ≤ 8 from h.2)]; simp
    · rw [e]
      have : ((decide (c ≥ 1)) && (decide (c ≤ 8))) = false := by simp; omega
      rw [this]; rfl
end Go.Proofs.YtbppcnhfeobefaaDoor

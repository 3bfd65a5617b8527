import Derived.Test.YtbppcnhfeobefaaDoorPD3
set_option linter.unusedVariables false
set_option linter.unusedSimpArgs false
namespace Go.Proofs.YtbppcnhfeobefaaDoor
open Go Go.Vw Go.Proofs
variable {m : Nat} {d0 : Sc} {d1 : List Wr} {d2 : Int} {d3 : Bool} {i : Int} {b : List UInt8}
theorem inR_ok (h : inR d0 i b = true) : 0 ≤ i ∧ i < (d0.length : Int) ∧ b.length = 64 := by
  unfold inR at h
  simp only [Bool.and_eq_true, decide_eq_true_eq, beq_iff_eq] at h
  omega
theorem ok_snoc (h : okD m d0 d1 d2) (hi : inR d0 i b = true) : okD (m + 1) d0 (d1 ++ [(i, b)]) d2 := by
  obtain ⟨h1, h2, h3, h4, h5, h6⟩ := h
  obtain ⟨a1, a2, a3⟩ := inR_ok hi
  refine ⟨h1, by rw [List.length_append]; simp; omega, fun j hj => ?_, h4, fun j => ?_, h6⟩
  · rw [gD_app]
    by_cases q : j < d1.length
    · rw [if_pos q]; exact h3 j q
    · rw [List.length_append] at hj; simp at hj
      rw [if_neg q, show j - d1.length = 0 by omega]; exact ⟨a1, a2⟩
  · rw [gD_app]
    split
    · exact h5 j
    · cases hq : j - d1.length with
      | zero => show b.length ≤ 64; omega
      | succ k => show ([] : List UInt8).length ≤ 64; simp
theorem ok_arm (h : okD m d0 d1 d2) : okD m d0 d1 (stA d2) := ⟨h.1, h.2.1, h.2.2.1, h.2.2.2.1, h.2.2.2.2.1, stA_ok h.2.2.2.2.2⟩
theorem okArm {n : Int} (h : okD m d0 d1 d2) (h0 : 0 ≤ n) (h1 : n ≤ 9223372036854775807) : okD m d0 d1 n := ⟨h.1, h.2.1, h.2.2.1, h.2.2.2.1, h.2.2.2.2.1, h0, h1⟩
theorem okW (h : okD m d0 d1 d2) : okD (m + 1) d0 ((disk_Disk_Write d0 d1 d2 d3 i b).2.2.1) ((disk_Disk_Write d0 d1 d2 d3 i b).2.2.2.1) := by
  rw [write_eq]
  cases hi : inR d0 i b with
  | false => exact okD_mono h (Nat.le_succ _)
  | true =>
    cases stD d2 d3 with
    | true => exact okD_mono (ok_arm h) (Nat.le_succ _)
    | false => exact ok_snoc (ok_arm h) hi
theorem w_fact (d0 : Sc) (d1 : List Wr) (d2 : Int) (d3 : Bool) (i : Int) (b : List UInt8) : (disk_Disk_Write d0 d1 d2 d3 i b).2.2.1.length ≤ d1.length + 1 := by
  rw [write_eq]
  cases inR d0 i b with
  | false => exact Nat.le_succ _
  | true =>
    cases stD d2 d3 with
    | true => exact Nat.le_succ _
    | false => show (d1 ++ [_]).length ≤ _; simp
theorem okW' (h : okD m d0 d1 d2) (hl : d1.length < m) : okD m d0 ((disk_Disk_Write d0 d1 d2 d3 i b).2.2.1) ((disk_Disk_Write d0 d1 d2 d3 i b).2.2.2.1) := by
  have := okW (d3 := d3) (i := i) (b := b) h
  exact ⟨this.1, by have := w_fact d0 d1 d2 d3 i b; omega, this.2.2⟩
theorem ok_app (h : okD m d0 d1 d2) : okD m (appW d0 d1) [] d2 := ⟨by rw [appW_len]; exact h.1, Nat.zero_le _, fun j hj => absurd hj (Nat.not_lt_zero _), appW_64 _ _ h.2.2.2.1 h.2.2.2.2.1, fun j => by simp, h.2.2.2.2.2⟩
theorem ok_cr (keep : List Bool) (h : okD m d0 d1 d2) : okD m (crW keep 0 d1 d0) [] 0 := ⟨by rw [crW_len]; exact h.1, Nat.zero_le _, fun j hj => absurd hj (Nat.not_lt_zero _), crW_64 _ _ _ _ h.2.2.2.1 h.2.2.2.2.1, fun j => by simp, by decide, by decide⟩
theorem ok_tam (h : okD m d0 d1 d2) (hi : inR d0 i b = true) : okD m (set1 d0 (i, b)) (d1.filter (fun w => w.1 != i)) d2 := by
  obtain ⟨h1, h2, h3, h4, h5, h6⟩ := h
  obtain ⟨a1, a2, a3⟩ := inR_ok hi
  have hmem : ∀ w ∈ d1.filter (fun w => w.1 != i), 0 ≤ w.1 ∧ w.1 < (d0.length : Int) ∧ w.2.length ≤ 64 := fun w hw => by
    obtain ⟨j, hj, rfl⟩ := List.getElem_of_mem (List.mem_filter.1 hw).1
    have q1 := h3 j hj
    have q2 := h5 j
    rw [List.getD_eq_getElem?_getD, List.getElem?_eq_getElem hj] at q1 q2
    exact ⟨q1.1, q1.2, q2⟩
  refine ⟨by rw [set1_len]; exact h1, Nat.le_trans (List.length_filter_le _ _) h2, fun j hj => ?_, set64 h4 (by show b.length ≤ 64; omega) _, fun j => ?_, h6⟩
  · rw [set1_len, List.getD_eq_getElem?_getD, List.getElem?_eq_getElem hj]
    have := hmem _ (List.getElem_mem hj)
    exact ⟨this.1, this.2.1⟩
  · by_cases hj : j < (d1.filter (fun w => w.1 != i)).length
    · rw [List.getD_eq_getElem?_getD, List.getElem?_eq_getElem hj]
      exact (hmem _ (List.getElem_mem hj)).2.2
    · rw [gD_out _ _ _ (by omega)]; simp
theorem okS (h : okD m d0 d1 d2) : okD m ((disk_Disk_Sync d0 d1 d2 d3).2.1) ((disk_Disk_Sync d0 d1 d2 d3).2.2.1) ((disk_Disk_Sync d0 d1 d2 d3).2.2.2.1) := by
  rw [sync_eq]
  cases stD d2 d3 with
  | true => exact ok_arm h
  | false => exact ok_app (ok_arm h)
theorem s_fact (d0 : Sc) (d1 : List Wr) (d2 : Int) (d3 : Bool) : (disk_Disk_Sync d0 d1 d2 d3).2.1.length = d0.length ∧ (disk_Disk_Sync d0 d1 d2 d3).2.2.1.length ≤ d1.length := by
  rw [sync_eq]
  cases stD d2 d3 with
  | true => exact ⟨rfl, Nat.le_refl _⟩
  | false => exact ⟨appW_len _ _, Nat.zero_le _⟩
theorem okC {keep : List Bool} (h : okD m d0 d1 d2) : okD m ((disk_Disk_Crash d0 d1 d2 d3 keep).1) ((disk_Disk_Crash d0 d1 d2 d3 keep).2.1) ((disk_Disk_Crash d0 d1 d2 d3 keep).2.2.1) := by
  rw [crash_eq]; exact ok_cr keep h
theorem c_fact (d0 : Sc) (d1 : List Wr) (d2 : Int) (d3 : Bool) (keep : List Bool) : (disk_Disk_Crash d0 d1 d2 d3 keep).1.length = d0.length ∧ (disk_Disk_Crash d0 d1 d2 d3 keep).2.1.length = 0 := by
  rw [crash_eq]; exact ⟨crW_len _ _ _ _, rfl⟩
theorem okA {n : Int} (h : okD m d0 d1 d2) (hn : n ≤ 9223372036854775807) : okD m d0 d1 ((disk_Disk_Arm d0 d1 d2 d3 n).2.2.2.1) := by
  rw [disk_Disk_Arm]
  by_cases q : n < 0
  · rw [decide_eq_true q, cond_true]; exact h
  · rw [decide_eq_false q, cond_false]; exact ⟨h.1, h.2.1, h.2.2.1, h.2.2.2.1, h.2.2.2.2.1, by show 0 ≤ n; omega, hn⟩
theorem okT (h : okD m d0 d1 d2) : okD m ((disk_Disk_Tamper d0 d1 d2 d3 i b).2.1) ((disk_Disk_Tamper d0 d1 d2 d3 i b).2.2.1) ((disk_Disk_Tamper d0 d1 d2 d3 i b).2.2.2.1) := by
  rw [tamper_eq]
  cases hi : inR d0 i b with
  | false => exact h
  | true => exact ok_tam h hi
theorem t_fact (d0 : Sc) (d1 : List Wr) (d2 : Int) (d3 : Bool) (i : Int) (b : List UInt8) : (disk_Disk_Tamper d0 d1 d2 d3 i b).2.1.length = d0.length ∧ (disk_Disk_Tamper d0 d1 d2 d3 i b).2.2.1.length ≤ d1.length := by
  rw [tamper_eq]
  cases inR d0 i b with
  | false => exact ⟨rfl, Nat.le_refl _⟩
  | true => exact ⟨set1_len _ _, List.length_filter_le _ _⟩
theorem ok_new (n : Nat) (hn : n ≤ 3000) : okD 0 (List.replicate n zS) [] 0 :=
  ⟨by rw [List.length_replicate]; exact hn, Nat.le_refl _, fun j hj => absurd hj (Nat.not_lt_zero _), fun j => by rw [gD_rep]; split <;> simp [zS], fun j => by simp, by decide, by decide⟩
theorem okN (n : Int) (hn : n ≤ 2048) : okD 0 ((new_ok n).1.1) ((new_ok n).1.2.1) ((new_ok n).1.2.2.1) := by
  rw [new_eq]; exact ok_new _ (by omega)
theorem n_fact (n : Int) : (new_ok n).1.1.length = n.toNat ∧ (new_ok n).1.2.1.length = 0 := by rw [new_eq]; exact ⟨List.length_replicate, rfl⟩
theorem okK (h : okD m d0 d1 d2) : okD m ((disk_Disk_Clone d0 d1 d2 d3).1.1) ((disk_Disk_Clone d0 d1 d2 d3).1.2.1) ((disk_Disk_Clone d0 d1 d2 d3).1.2.2.1) := by
  rw [disk_Disk_Clone, bnd_eq, bnd_eq]; exact h
theorem k_fact (d0 : Sc) (d1 : List Wr) (d2 : Int) (d3 : Bool) : (disk_Disk_Clone d0 d1 d2 d3).1.1.length = d0.length ∧ (disk_Disk_Clone d0 d1 d2 d3).1.2.1.length = d1.length := by
  rw [disk_Disk_Clone, bnd_eq, bnd_eq]; exact ⟨rfl, rfl⟩
theorem okRN (n : Int) (hn : n ≤ 2048) : okD 0 ((bursaryref13_New n).1) ((bursaryref13_New n).2.1) ((bursaryref13_New n).2.2.1) := by
  rw [rnew_eq]; exact ok_new _ (by omega)
theorem rn_fact (n : Int) : (bursaryref13_New n).1.length = n.toNat ∧ (bursaryref13_New n).2.1.length = 0 := by rw [rnew_eq]; exact ⟨List.length_replicate, rfl⟩
theorem okRP (h : okD m d0 d1 d2) (hl : d1.length < m) : okD m ((bursaryref13_Put d0 d1 d2 d3 i b).1.1) ((bursaryref13_Put d0 d1 d2 d3 i b).1.2.1) ((bursaryref13_Put d0 d1 d2 d3 i b).1.2.2.1) := by
  rw [rput_eq _ _ _ _ _ _ h.2.2.2.2.2.1]
  cases hi : inR d0 i b with
  | false => exact h
  | true =>
    cases stD d2 d3 with
    | true => exact ok_arm h
    | false =>
      have := ok_snoc (ok_arm h) hi
      exact ⟨this.1, by show (d1 ++ [_]).length ≤ m; simp; omega, this.2.2⟩
theorem okRS (h : okD m d0 d1 d2) : okD m ((bursaryref13_Sync d0 d1 d2 d3).1.1) ((bursaryref13_Sync d0 d1 d2 d3).1.2.1) ((bursaryref13_Sync d0 d1 d2 d3).1.2.2.1) := by
  rw [rsync_eq _ _ _ _ h.2.2.2.2.2.1]
  cases stD d2 d3 with
  | true => exact ok_arm h
  | false => exact ok_app (ok_arm h)
theorem okRC {keep : List Bool} (h : okD m d0 d1 d2) : okD m ((bursaryref13_Crash d0 d1 d2 d3 keep).1) ((bursaryref13_Crash d0 d1 d2 d3 keep).2.1) ((bursaryref13_Crash d0 d1 d2 d3 keep).2.2.1) := by
  rw [rcrash_eq]; exact ok_cr keep h
theorem okRT (h : okD m d0 d1 d2) : okD m ((bursaryref13_Tamper d0 d1 d2 d3 i b).1.1) ((bursaryref13_Tamper d0 d1 d2 d3 i b).1.2.1) ((bursaryref13_Tamper d0 d1 d2 d3 i b).1.2.2.1) := by
  rw [rtamper_eq]
  cases hi : inR d0 i b with
  | false => exact h
  | true => exact ok_tam h hi
theorem rp_fact {m : Nat} (d0 : Sc) (d1 : List Wr) (d2 : Int) (d3 : Bool) (i : Int) (b : List UInt8) (h : okD m d0 d1 d2) : (bursaryref13_Put d0 d1 d2 d3 i b).1.1.length = d0.length ∧ (bursaryref13_Put d0 d1 d2 d3 i b).1.2.1.length ≤ d1.length + 1 := by
  rw [rput_eq _ _ _ _ _ _ h.2.2.2.2.2.1]
  cases inR d0 i b with
  | false => exact ⟨rfl, Nat.le_succ _⟩
  | true =>
    cases stD d2 d3 with
    | true => exact ⟨rfl, Nat.le_succ _⟩
    | false => exact ⟨rfl, by show (d1 ++ [_]).length ≤ _; simp⟩
theorem rs_fact {m : Nat} (d0 : Sc) (d1 : List Wr) (d2 : Int) (d3 : Bool) (h : okD m d0 d1 d2) : (bursaryref13_Sync d0 d1 d2 d3).1.1.length = d0.length ∧ (bursaryref13_Sync d0 d1 d2 d3).1.2.1.length ≤ d1.length := by
  rw [rsync_eq _ _ _ _ h.2.2.2.2.2.1]
  cases stD d2 d3 with
  | true => exact ⟨rfl, Nat.le_refl _⟩
  | false => exact ⟨appW_len _ _, Nat.zero_le _⟩
theorem rc_fact (d0 : Sc) (d1 : List Wr) (d2 : Int) (d3 : Bool) (keep : List Bool) : (bursaryref13_Crash d0 d1 d2 d3 keep).1.length = d0.length ∧ (bursaryref13_Crash d0 d1 d2 d3 keep).2.1.length = 0 := by
  rw [rcrash_eq]; exact ⟨crW_len _ _ _ _, rfl⟩
theorem rt_fact (d0 : Sc) (d1 : List Wr) (d2 : Int) (d3 : Bool) (i : Int) (b : List UInt8) : (bursaryref13_Tamper d0 d1 d2 d3 i b).1.1.length = d0.length ∧ (bursaryref13_Tamper d0 d1 d2 d3 i b).1.2.1.length ≤ d1.length := by
  rw [rtamper_eq]
  cases inR d0 i b with
  | false => exact ⟨rfl, Nat.le_refl _⟩
  | true => exact ⟨set1_len _ _, List.length_filter_le _ _⟩
theorem sec_len (b : List UInt8) : (bursarylaw13_sector b).length = 64 := by rw [bursarylaw13_sector, cpy_length, List.length_replicate]; omega
end Go.Proofs.YtbppcnhfeobefaaDoor

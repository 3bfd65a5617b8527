import Derived.Test.YtbppcnhfeobefaaDoorG10
import Derived.Test.YtbppcnhfeobefaaDoorPF6
set_option linter.unusedVariables false
set_option linter.unusedSimpArgs false
namespace Go.Proofs.YtbppcnhfeobefaaDoor
open Go Go.Vw Go.Proofs
theorem bnd_ex {α β γ : Type} {P : α → Prop} {v : α} {F : α → Lo β γ} (hv : P v) (h : ∀ x, P x → ∃ z, F x = Lo.brk z) : ∃ z, bnd v F = Lo.brk z := h v hv
theorem cond_ex {β γ : Type} {c : Bool} {x y : Lo β γ} (h1 : c = true → ∃ z, x = Lo.brk z) (h2 : c = false → ∃ z, y = Lo.brk z) : ∃ z, (bif c then x else y) = Lo.brk z := by
  cases c with
  | true => exact h1 rfl
  | false => exact h2 rfl
theorem cond_no {β γ : Type} {c : Bool} {x y : Lo β γ} (hc : c = false) (h2 : ∃ z, y = Lo.brk z) : ∃ z, (bif c then x else y) = Lo.brk z := by subst hc; exact h2
theorem keep_Delete (l : List Ver) (a : UInt32) (n : Int) (k : UInt32) : engine_Delete l a n k = engine_set l a n k 1 := by rw [engine_Delete, bnd_eq]
theorem keep_Undelete (l : List Ver) (a : UInt32) (n : Int) (k : UInt32) : engine_Undelete l a n k = engine_set l a n k 0 := by rw [engine_Undelete, bnd_eq]
theorem keep_Destroy (l : List Ver) (a : UInt32) (n : Int) (k : UInt32) : engine_Destroy l a n k = engine_set l a n k 2 := by rw [engine_Destroy, bnd_eq]
theorem el_brk {α β : Type} (a : α) (F : α → β) : Lo.el (.brk a) F = F a := rfl
theorem keep_new {m : Int} (h1 : 1 ≤ m) (h2 : m ≤ 8) : engine_New m = (([], 0, m), 0) := by
  rw [engine_New, bnd_eq, check_yes (l := []) (last := 0) (max := m) ⟨⟨h1, h2, by simp; omega⟩, ⟨by simp, by simp⟩, fun i hi => absurd hi (Nat.not_lt_zero _)⟩]
  rfl
theorem keep_l2 (a0 : UInt8) {l : List Ver} {a : UInt32} {st : List Int} {data : List (List UInt8)} (h : Iv (1 + ((a0.toNat : Int) % 8)) l a st data) (m : Nat) : ∀ k : Int, 1 ≤ k → (data.length : Int) + 1 - k < m → bursarylaw30_EngineKeeps_l2 a0 st data l a (1 + ((a0.toNat : Int) % 8)) m k = .brk () := by
  induction m with
  | zero =>
    intro k h1 h2
    by_cases q : k ≤ (data.length : Int)
    · omega
    · rw [bursarylaw30_EngineKeeps_l2]
  | succ m ih =>
    intro k h1 h2
    rw [bursarylaw30_EngineKeeps_l2]
    by_cases q : k ≤ (data.length : Int)
    · rw [decide_eq_true q, cond_true, bnd_eq]
      obtain ⟨g1, g2⟩ := get_iv h k h1 q
      have hmod : ((k - 1) % 64).toNat = (k - 1).toNat := by have := h.dl; omega
      rw [hmod]
      generalize engine_Get l a (1 + ((a0.toNat : Int) % 8)) (u32i k) = r at g1 g2 ⊢
      have hX : ((decide (k > (data.length : Int) - (1 + ((a0.toNat : Int) % 8)))) && (st.getD (k - 1).toNat 0 == 0)) = decide (r.2 = 0) := by
        rw [Bool.eq_iff_iff]; simp only [Bool.and_eq_true, decide_eq_true_eq, beq_iff_eq]; exact g1.symm
      rw [hX]
      have hi := ih (k + 1) (by omega) (by omega)
      by_cases e : r.2 = 0
      · obtain ⟨e1, e2⟩ := g2 e
        rw [decide_eq_true e, e1, e2]
        simpa using hi
      · rw [decide_eq_false e]
        simpa using hi
    · rw [decide_eq_false q, cond_false]
theorem keep_l1 (a0 : UInt8) (a1 : List (List UInt8 × Int × UInt32 × UInt64)) (m : Nat) : ∀ (t : Int) (l : List Ver) (a : UInt32) (st : List Int) (data : List (List UInt8)), Iv (1 + ((a0.toNat : Int) % 8)) l a st data → 0 ≤ t → (data.length : Int) ≤ t →
    ∃ z, bursarylaw30_EngineKeeps_l1 a0 a1 m t l a (1 + ((a0.toNat : Int) % 8)) st data = .brk z := by
  induction m with
  | zero => intro t l a st data hv h0 hd; exact ⟨_, by rw [bursarylaw30_EngineKeeps_l1]⟩
  | succ m ih =>
    intro t l a st data hv h0 hd
    rw [bursarylaw30_EngineKeeps_l1]
    refine cond_ex (fun q => ?_) (fun _ => ⟨_, rfl⟩)
    simp only [Bool.and_eq_true, decide_eq_true_eq] at q
    generalize a1.getD t.toNat (([], 0, 0, 0) : List UInt8 × Int × UInt32 × UInt64) = E
    refine cond_ex (fun _ => ih _ _ _ _ _ hv (by omega) (by omega)) (fun q2 => ?_)
    have hlen : E.1.length ≤ 100 := by have := of_decide_eq_false q2; omega
    have hkk : 0 ≤ (((E.2.2.1) % 40).toNat : Int) ∧ (((E.2.2.1) % 40).toNat : Int) ≤ 39 := by
      rw [UInt32.toNat_mod, show (40 : UInt32).toNat = 40 from rfl]; omega
    generalize (((E.2.2.1) % 40).toNat : Int) = kk at hkk
    obtain ⟨K, hK⟩ : ∃ K : Int, (if 1 > kk then 1 else kk) = K := ⟨_, rfl⟩
    rw [hK]
    have hK2 : (kk < 1 ∧ K = 1) ∨ (1 ≤ kk ∧ K = kk) := by
      by_cases e : 1 > kk
      · rw [if_pos e] at hK; exact .inl ⟨e, hK.symm⟩
      · rw [if_neg e] at hK; exact .inr ⟨by omega, hK.symm⟩
    have hmod : ((K - 1) % 64).toNat = (K - 1).toNat := by omega
    have hnn := hv.cnt
    generalize hN : (1 + ((a0.toNat : Int) % 8)) = n at hv ih ⊢
    refine bnd_ex (P := fun J : Int → List Int → List (List UInt8) → List Ver → UInt32 → Int → Lo (List Ver × UInt32 × Int × List Int × List (List UInt8)) Bool => ∀ e st' data' l' a' mx', (e = 0 → Iv n l' a' st' data' ∧ mx' = n) → (e ≠ 0 → Iv n l a st' data') → (data'.length : Int) ≤ t + 1 → ∃ z, J e st' data' l' a' mx' = Lo.brk z) ?_ ?_
    · intro e st' data' l' a' mx' h1 h2 h3
      refine bnd_ex (P := fun J2 : List Ver → UInt32 → Int → Lo (List Ver × UInt32 × Int × List Int × List (List UInt8)) Bool => ∀ l2 a2, Iv n l2 a2 st' data' → ∃ z, J2 l2 a2 n = Lo.brk z) ?_ ?_
      · intro l2 a2 hv2
        have hl2 : bursarylaw30_EngineKeeps_l2 a0 st' data' l2 a2 n (((data'.length : Int) + 1 - (1 : Int)).toNat + 1) 1 = .brk () := by
          subst hN; exact keep_l2 a0 hv2 _ 1 (Int.le_refl 1) (by omega)
        have e1 := check_yes hv2.ok
        have e2 := hv2.num
        show ∃ z, Lo.el (bursarylaw30_EngineKeeps_l2 a0 st' data' l2 a2 n _ 1) _ = Lo.brk z
        rw [hl2]
        rw [el_brk, bnd_eq, e1]
        refine cond_no (by simp [e2]) (ih _ _ _ _ _ hv2 (by omega) (by omega))
      · intro J2 hJ
        by_cases e0 : e = 0
        · obtain ⟨i1, i2⟩ := h1 e0
          rw [decide_eq_true e0, cond_true, i2]; exact hJ _ _ i1
        · rw [decide_eq_false e0, cond_false]; exact hJ _ _ (h2 e0)
    · intro J hJ
      have hset : ∀ s : Int, (s = 0 ∨ s = 1 ∨ s = 2) → _ := fun s hs => set_iv hv K s (by omega) (by omega) hs
      refine cond_ex (fun _ => ?_) (fun _ => cond_ex (fun _ => ?_) (fun _ => cond_ex (fun _ => ?_) (fun _ => ?_)))
      · rw [keep_Delete, bnd_eq]
        obtain ⟨s1, s2, s3⟩ := hset 1 (.inr (.inl rfl))
        generalize engine_set l a n (u32i K) 1 = r at s1 s2 s3 ⊢
        refine bnd_ex (P := fun J3 : Int → Bool → Lo (List Ver × UInt32 × Int × List Int × List (List UInt8)) Bool => ∀ b : Bool, (b = true ↔ inn n data K) → ∃ z, J3 K b = Lo.brk z) ?_ ?_
        · intro b hb
          cases b with
          | false =>
            have hn : ¬ inn n data K := fun x => absurd (hb.2 x) (by decide)
            have hr := s1 hn
            refine cond_no (by simp [hr]) ?_
            exact hJ _ _ _ _ _ _ (fun x => absurd x hr) (fun _ => hv) (by omega)
          | true =>
            have hi := s2 (hb.1 rfl)
            rw [hmod]
            refine cond_no (by simp) ?_
            refine cond_ex (fun _ => ?_) (fun x => by cases x)
            refine cond_no ?_ ?_
            · by_cases e : r.2 = 0
              · have := hi.1 e; simp at this; simp [e, this]
              · have : st.getD (K - 1).toNat 0 = 2 := Decidable.byContradiction fun x => e (hi.2 (fun y => x y.1))
                rw [decide_eq_false e, this]; rfl
            · refine cond_ex (fun e => ?_) (fun e => ?_)
              · exact hJ _ _ _ _ _ _ s3 (fun x => absurd (of_decide_eq_true e) x) (by omega)
              · exact hJ _ _ _ _ _ _ (fun x => absurd x (of_decide_eq_false e)) (fun _ => hv) (by omega)
        · intro J3 hJ3
          refine cond_ex (fun e => ?_) (fun e => ?_)
          · have e' := of_decide_eq_true e
            have : K = 1 := by omega
            subst this
            refine hJ3 _ ?_
            simp only [Bool.and_eq_true, decide_eq_true_eq]; unfold inn; exact Iff.rfl
          · have e' := of_decide_eq_false e
            have : K = kk := by omega
            subst this
            refine hJ3 _ ?_
            simp only [Bool.and_eq_true, decide_eq_true_eq]; unfold inn
            exact ⟨fun x => x.2, fun x => ⟨by omega, x⟩⟩
      · rw [keep_Undelete, bnd_eq]
        obtain ⟨s1, s2, s3⟩ := hset 0 (.inl rfl)
        generalize engine_set l a n (u32i K) 0 = r at s1 s2 s3 ⊢
        have hX : ((decide (K ≤ (data.length : Int))) && (decide (K > (data.length : Int) - n))) = true ↔ inn n data K := by simp only [Bool.and_eq_true, decide_eq_true_eq]; exact Iff.rfl
        generalize ((decide (K ≤ (data.length : Int))) && (decide (K > (data.length : Int) - n))) = b at hX ⊢
        rw [hmod]
        cases b with
        | false =>
          have hn : ¬ inn n data K := fun x => absurd (hX.2 x) (by decide)
          have hr := s1 hn
          refine cond_no (by simp [hr]) ?_
          exact hJ _ _ _ _ _ _ (fun x => absurd x hr) (fun _ => hv) (by omega)
        | true =>
          have hi := s2 (hX.1 rfl)
          refine cond_no (by simp) ?_
          refine cond_ex (fun _ => ?_) (fun x => by cases x)
          refine cond_no ?_ ?_
          · by_cases e : r.2 = 0
            · have := hi.1 e; simp at this; simp [e, this]
            · have : st.getD (K - 1).toNat 0 = 2 := Decidable.byContradiction fun x => e (hi.2 (fun y => x y.1))
              rw [decide_eq_false e, this]; rfl
          · refine cond_ex (fun e => ?_) (fun e => ?_)
            · exact hJ _ _ _ _ _ _ s3 (fun x => absurd (of_decide_eq_true e) x) (by omega)
            · exact hJ _ _ _ _ _ _ (fun x => absurd x (of_decide_eq_false e)) (fun _ => hv) (by omega)
      · rw [keep_Destroy, bnd_eq]
        obtain ⟨s1, s2, s3⟩ := hset 2 (.inr (.inr rfl))
        generalize engine_set l a n (u32i K) 2 = r at s1 s2 s3 ⊢
        have hX : ((decide (K ≤ (data.length : Int))) && (decide (K > (data.length : Int) - n))) = true ↔ inn n data K := by simp only [Bool.and_eq_true, decide_eq_true_eq]; exact Iff.rfl
        generalize ((decide (K ≤ (data.length : Int))) && (decide (K > (data.length : Int) - n))) = b at hX ⊢
        rw [hmod]
        refine cond_no ?_ ?_
        · cases b with
          | false =>
            have hn : ¬ inn n data K := fun x => absurd (hX.2 x) (by decide)
            simp [s1 hn]
          | true => simp [(s2 (hX.1 rfl)).2 (fun x => x.2 rfl)]
        · refine cond_ex (fun e => ?_) (fun e => ?_)
          · exact hJ _ _ _ _ _ _ s3 (fun x => absurd (of_decide_eq_true e) x) (by omega)
          · exact hJ _ _ _ _ _ _ (fun x => absurd x (of_decide_eq_false e)) (fun _ => hv) (by omega)
      · rw [bnd_eq]
        obtain ⟨p1, p2, p3⟩ := put_iv hv E.1 E.2.2.2 hlen (by omega)
        refine cond_no (by simp [p1]) ?_
        exact hJ _ _ _ _ _ _ (fun _ => ⟨p2, p3⟩) (fun x => absurd p1 x) (by simp; omega)
theorem keeps_true (a0 : UInt8) (a1 : List (List UInt8 × Int × UInt32 × UInt64)) : bursarylaw30_EngineKeeps a0 a1 = true := by
  rw [bursarylaw30_EngineKeeps, bnd_eq, keep_new (by omega) (by omega)]
  show Lo.el (bursarylaw30_EngineKeeps_l1 a0 a1 _ 0 [] 0 (1 + ((a0.toNat : Int) % 8)) (List.replicate 64 0) []) _ = true
  obtain ⟨z, hz⟩ := keep_l1 a0 a1 (((a1.length : Int) - (0 : Int)).toNat + 1) 0 [] 0 (List.replicate 64 0) [] ⟨⟨⟨by omega, by omega, by simp; omega⟩, ⟨by simp, by simp⟩, fun i hi => absurd hi (Nat.not_lt_zero _)⟩, rfl, .inl ⟨rfl, by simp; omega⟩, List.length_replicate .., by simp, fun i hi => absurd hi (Nat.not_lt_zero _), fun j _ h => by rw [gD_rep, if_pos h]⟩ (Int.le_refl 0) (Int.le_refl 0)
  rw [hz]
  show bursarylaw30_EngineKeeps_k1 _ _ _ _ _ = true
  rw [bursarylaw30_EngineKeeps_k1, sure30_true]
end Go.Proofs.YtbppcnhfeobefaaDoor

import Derived.Test.YtbppcnhfeobefaaDoorPE5
import Derived.Test.YtbppcnhfeobefaaDoorPF5a
set_option linter.unusedVariables false
set_option linter.unusedSimpArgs false
namespace Go.Proofs.YtbppcnhfeobefaaDoor
open Go Go.Vw Go.Proofs
theorem u32i_k (k : Int) (h0 : 0 ≤ k) (h : k < 4294967296) : (u32i k).toNat = k.toNat := by
  obtain ⟨n, rfl⟩ := Int.eq_ofNat_of_zero_le h0
  rw [u32i_nat n (by omega)]; rfl
theorem find_num {l : List Ver} {a : UInt32} {b : Int} (ok : okE l a b) (k : Int) (h1 : 1 ≤ k) (hk : k < 4294967296) :
    (((a.toNat : Int) - l.length < k ∧ k ≤ a.toNat) ∧ engine_find l a b (u32i k) = (k - ((a.toNat : Int) - l.length) - 1, 0)) ∨ (¬ ((a.toNat : Int) - l.length < k ∧ k ≤ a.toNat) ∧ engine_find l a b (u32i k) = (0, 5)) := by
  have hu := u32i_k k (by omega) hk
  have hne : u32i k ≠ 0 := fun e => by rw [e] at hu; have : (0 : UInt32).toNat = 0 := rfl; omega
  have hln := ok.2.1.1
  rcases find_or l a b (u32i k) with ⟨h, _⟩ | ⟨_, j, h2, h3, h4⟩ | ⟨_, h2, h3⟩
  · exact absurd ok h
  · rw [if_neg hne] at h3
    have hj := (ok.2.2 j h2).2
    rw [h3, hu] at hj
    left
    refine ⟨⟨by omega, by omega⟩, ?_⟩
    rw [h4]; congr 1; omega
  · right
    refine ⟨fun q => ?_, h3⟩
    have hj : (k - ((a.toNat : Int) - l.length) - 1).toNat < l.length := by omega
    have hn := (ok.2.2 _ hj).2
    have := h2 _ hj
    rw [if_neg hne] at this
    apply this; apply UInt32.toNat_inj.1; rw [hu]; omega
structure Iv (n : Int) (l : List Ver) (a : UInt32) (st : List Int) (data : List (List UInt8)) : Prop where
  ok : okE l a n
  num : a.toNat = data.length
  cnt : (l.length : Int) = data.length ∧ (data.length : Int) ≤ n ∨ (l.length : Int) = n ∧ n ≤ (data.length : Int)
  sl : st.length = 64
  dl : data.length ≤ 40
  rep : ∀ i, i < l.length → (l.getD i (0, [], 0, 0)).2.2.2 = st.getD (data.length - l.length + i) 0 ∧ (st.getD (data.length - l.length + i) 0 ≠ 2 → (l.getD i (0, [], 0, 0)).2.1 = data.getD (data.length - l.length + i) [])
  fresh : ∀ j, data.length ≤ j → j < 64 → st.getD j 0 = 0
def inn (n : Int) (data : List (List UInt8)) (k : Int) : Prop := k ≤ (data.length : Int) ∧ k > (data.length : Int) - n
theorem Iv.inn_iff {n : Int} {l : List Ver} {a : UInt32} {st : List Int} {data : List (List UInt8)} (h : Iv n l a st data) {k : Int} (h1 : 1 ≤ k) : ((a.toNat : Int) - l.length < k ∧ k ≤ a.toNat) ↔ inn n data k := by
  have := h.num; have := h.cnt
  unfold inn; omega
theorem set_eq (l : List Ver) (a : UInt32) (b : Int) (n : UInt32) (s i : Int) (hf : engine_find l a b n = (i, 0)) : engine_set l a b n s = if (l.getD i.toNat (0, [], 0, 0)).2.2.2 = 2 ∧ s ≠ 2 then (([], 0, 0), 21) else
    ((if s = 2 then l.set i.toNat ((l.getD i.toNat (0, [], 0, 0)).1, [], (l.getD i.toNat (0, [], 0, 0)).2.2.1, s) else l.set i.toNat ((l.getD i.toNat (0, [], 0, 0)).1, (l.getD i.toNat (0, [], 0, 0)).2.1, (l.getD i.toNat (0, [], 0, 0)).2.2.1, s), a, b), 0) := by
  have hb : i.toNat < l.length := by
    have := (find_fact l a b n).1
    rw [hf] at this
    have := this rfl
    simp only at this; omega
  rw [engine_set, bnd_eq, hf, copied_eq]
  show _root_.cond false _ _ = _
  rw [cond_false]
  by_cases h : (l.getD i.toNat (0, [], 0, 0)).2.2.2 = 2 ∧ s ≠ 2
  · rw [if_pos h]
    show _root_.cond (((l.getD i.toNat (0, [], 0, 0)).2.2.2 == 2) && (s != 2)) _ _ = _
    rw [show (((l.getD i.toNat (0, [], 0, 0)).2.2.2 == 2) && (s != 2)) = true by simp only [Bool.and_eq_true, beq_iff_eq, bne_iff_ne]; exact h, cond_true]
  · rw [if_neg h]
    show _root_.cond (((l.getD i.toNat (0, [], 0, 0)).2.2.2 == 2) && (s != 2)) _ _ = _
    rw [show (((l.getD i.toNat (0, [], 0, 0)).2.2.2 == 2) && (s != 2)) = false by rw [← Bool.not_eq_true]; intro e; simp only [Bool.and_eq_true, beq_iff_eq, bne_iff_ne] at e; exact h e, cond_false, bnd_eq]
    by_cases q : s = 2
    · rw [if_pos q, show (s == 2) = true by rw [beq_iff_eq]; exact q, cond_true]
      simp only [gD_set, hb, and_self, if_true, List.set_set]
    · rw [if_neg q, show (s == 2) = false by rw [beq_eq_false_iff_ne]; exact q, cond_false]
theorem set_iv {n : Int} {l : List Ver} {a : UInt32} {st : List Int} {data : List (List UInt8)} (h : Iv n l a st data) (k s : Int) (h1 : 1 ≤ k) (hk : k ≤ 40) (hs : s = 0 ∨ s = 1 ∨ s = 2) :
    (¬ inn n data k → (engine_set l a n (u32i k) s).2 ≠ 0) ∧ (inn n data k → ((engine_set l a n (u32i k) s).2 = 0 ↔ ¬ (st.getD (k - 1).toNat 0 = 2 ∧ s ≠ 2))) ∧
    ((engine_set l a n (u32i k) s).2 = 0 → Iv n (engine_set l a n (u32i k) s).1.1 (engine_set l a n (u32i k) s).1.2.1 (st.set (k - 1).toNat s) data ∧ (engine_set l a n (u32i k) s).1.2.2 = n) := by
  have hnum := h.num
  have hcnt := h.cnt
  have hln := h.ok.2.1.1
  rcases find_num h.ok k h1 (by omega) with ⟨hi, hf⟩ | ⟨hi, hf⟩
  · have hin := (h.inn_iff h1).1 hi
    have hidx : (k - ((a.toNat : Int) - l.length) - 1).toNat < l.length := by omega
    obtain ⟨i, hI⟩ : ∃ i, i = (k - ((a.toNat : Int) - l.length) - 1).toNat := ⟨_, rfl⟩
    have hki : data.length - l.length + i = (k - 1).toNat := by omega
    have hil : i < l.length := by omega
    obtain ⟨r1, r2⟩ := h.rep i hil
    rw [hki] at r1 r2
    rw [set_eq l a n (u32i k) s _ hf, ← hI, r1]
    refine ⟨fun q => absurd hin q, fun _ => ?_, ?_⟩
    · by_cases q : st.getD (k - 1).toNat 0 = 2 ∧ s ≠ 2
      · rw [if_pos q]; exact ⟨fun e => absurd e (by show ¬ ((21 : Int) = 0); decide), fun e => absurd q e⟩
      · rw [if_neg q]; exact ⟨fun _ => q, fun _ => rfl⟩
    · by_cases q : st.getD (k - 1).toNat 0 = 2 ∧ s ≠ 2
      · rw [if_pos q]; intro e; exact absurd e (by show ¬ ((21 : Int) = 0); decide)
      · rw [if_neg q]
        intro _
        refine ⟨?_, rfl⟩
        obtain ⟨v, hv, hv1, hv2, hv3, hv4⟩ : ∃ v : Ver, (if s = 2 then l.set i ((l.getD i (0, [], 0, 0)).1, [], (l.getD i (0, [], 0, 0)).2.2.1, s) else l.set i ((l.getD i (0, [], 0, 0)).1, (l.getD i (0, [], 0, 0)).2.1, (l.getD i (0, [], 0, 0)).2.2.1, s)) = l.set i v ∧ v.1 = (l.getD i (0, [], 0, 0)).1 ∧ v.2.2.2 = s ∧ (s ≠ 2 → v.2.1 = (l.getD i (0, [], 0, 0)).2.1) ∧ (s = 2 → v.2.1 = []) := by
          by_cases e : s = 2
          · exact ⟨((l.getD i (0, [], 0, 0)).1, [], (l.getD i (0, [], 0, 0)).2.2.1, s), by rw [if_pos e], rfl, rfl, fun x => absurd e x, fun _ => rfl⟩
          · exact ⟨((l.getD i (0, [], 0, 0)).1, (l.getD i (0, [], 0, 0)).2.1, (l.getD i (0, [], 0, 0)).2.2.1, s), by rw [if_neg e], rfl, rfl, fun _ => rfl, fun x => absurd x e⟩
        show Iv n (if s = 2 then _ else _) a _ data
        rw [hv]
        have hg : ∀ j, j < l.length → (l.set i v).getD j (0, [], 0, 0) = if i = j then v else l.getD j (0, [], 0, 0) := fun j hj => by
          rw [gD_set]
          by_cases e : i = j
          · rw [if_pos ⟨e, hj⟩, if_pos e]
          · rw [if_neg (fun x => e x.1), if_neg e]
        refine ⟨⟨by rw [List.length_set]; exact h.ok.1, by rw [List.length_set]; exact h.ok.2.1, fun j hj => ?_⟩, h.num, by rw [List.length_set]; exact h.cnt, by rw [List.length_set]; exact h.sl, h.dl, fun j hj => ?_, fun j hj1 hj2 => ?_⟩
        · rw [List.length_set] at hj ⊢
          obtain ⟨c1, c2⟩ := h.ok.2.2 j hj
          rw [hg j hj]
          by_cases e : i = j
          · rw [if_pos e]
            subst e
            refine ⟨⟨by rw [hv2]; omega, by rw [hv2]; omega, ?_, ?_⟩, by rw [hv1]; exact c2⟩
            · by_cases e2 : s = 2
              · rw [hv4 e2]; simp
              · rw [hv3 e2]; exact c1.2.2.1
            · intro e2; rw [hv2] at e2; rw [hv4 e2]; rfl
          · rw [if_neg e]; exact ⟨c1, c2⟩
        · rw [List.length_set] at hj ⊢
          rw [hg j hj, gD_set]
          by_cases e : i = j
          · subst e
            rw [if_pos rfl, if_pos ⟨hki.symm, by rw [h.sl]; have := h.dl; omega⟩]
            refine ⟨hv2, fun e2 => ?_⟩
            rw [hv3 e2, hki]
            by_cases e3 : st.getD (k - 1).toNat 0 = 2
            · exact absurd ⟨e3, e2⟩ q
            · exact r2 e3
          · rw [if_neg e, if_neg (fun x => e (by omega))]
            exact h.rep j hj
        · rw [gD_set, if_neg (fun x => by omega)]
          exact h.fresh j hj1 hj2
  · have hno : ¬ inn n data k := fun q => hi ((h.inn_iff h1).2 q)
    have e5 : (engine_set l a n (u32i k) s).2 = 5 := by rw [engine_set, bnd_eq, hf]; rfl
    refine ⟨fun _ => by rw [e5]; decide, fun q => absurd q hno, fun q => by rw [e5] at q; exact absurd q (by decide)⟩
theorem get_iv {n : Int} {l : List Ver} {a : UInt32} {st : List Int} {data : List (List UInt8)} (h : Iv n l a st data) (k : Int) (h1 : 1 ≤ k) (hk : k ≤ (data.length : Int)) :
    ((engine_Get l a n (u32i k)).2 = 0 ↔ (k > (data.length : Int) - n ∧ st.getD (k - 1).toNat 0 = 0)) ∧ ((engine_Get l a n (u32i k)).2 = 0 → (engine_Get l a n (u32i k)).1.2.1 = data.getD (k - 1).toNat [] ∧ ((engine_Get l a n (u32i k)).1.1.toNat : Int) = k) := by
  have hnum := h.num
  have hcnt := h.cnt
  have hln := h.ok.2.1.1
  have hdl := h.dl
  rcases find_num h.ok k h1 (by omega) with ⟨hi, hf⟩ | ⟨hi, hf⟩
  · have hin := (h.inn_iff h1).1 hi
    obtain ⟨i, hI⟩ : ∃ i, i = (k - ((a.toNat : Int) - l.length) - 1).toNat := ⟨_, rfl⟩
    have hki : data.length - l.length + i = (k - 1).toNat := by omega
    have hil : i < l.length := by omega
    obtain ⟨r1, r2⟩ := h.rep i hil
    rw [hki] at r1 r2
    have hN := (h.ok.2.2 i hil).2
    have e : engine_Get l a n (u32i k) = if (l.getD i (0, [], 0, 0)).2.2.2 = 0 then (l.getD i (0, [], 0, 0), 0) else ((0, [], 0, 0), 21) := by
      rw [engine_Get, bnd_eq, hf, copied_eq]
      show _root_.cond false _ _ = _
      rw [cond_false, ← hI]
      by_cases q : (l.getD i (0, [], 0, 0)).2.2.2 = 0
      · rw [if_pos q, show (((l.getD i (0, [], 0, 0)).2.2.2) != 0) = false by rw [q]; rfl, cond_false, bnd_eq]
      · rw [if_neg q, show (((l.getD i (0, [], 0, 0)).2.2.2) != 0) = true by rw [bne_iff_ne]; exact q, cond_true]
    rw [e, r1]
    by_cases q : st.getD (k - 1).toNat 0 = 0
    · rw [if_pos q]
      exact ⟨⟨fun _ => ⟨hin.2, q⟩, fun _ => rfl⟩, fun _ => ⟨r2 (by rw [q]; decide), by show ((l.getD i (0, [], 0, 0)).1.toNat : Int) = k; omega⟩⟩
    · rw [if_neg q]
      exact ⟨⟨fun x => absurd x (by show ¬ ((21 : Int) = 0); decide), fun x => absurd x.2 q⟩, fun x => absurd x (by show ¬ ((21 : Int) = 0); decide)⟩
  · have hno : ¬ inn n data k := fun q => hi ((h.inn_iff h1).2 q)
    have e5 : (engine_Get l a n (u32i k)).2 = 5 := by rw [engine_Get, bnd_eq, hf]; rfl
    rw [e5]
    exact ⟨⟨fun x => absurd x (by decide), fun x => absurd ⟨hk, x.1⟩ hno⟩, fun x => absurd x (by decide)⟩
theorem put_iv {n : Int} {l : List Ver} {a : UInt32} {st : List Int} {data : List (List UInt8)} (h : Iv n l a st data) (d : List UInt8) (t : UInt64) (hd : d.length ≤ 100) (hl : data.length < 40) :
    (engine_Put l a n d (data.length : Int) t).2 = 0 ∧ Iv n (engine_Put l a n d (data.length : Int) t).1.1 (engine_Put l a n d (data.length : Int) t).1.2.1 st (data ++ [d]) ∧ (engine_Put l a n d (data.length : Int) t).1.2.2 = n := by
  have hnum := h.num
  have hcnt := h.cnt
  have hln := h.ok.2.1.1
  have hn := h.ok.1
  rw [put_ok h.ok d (data.length : Int) t hd (.inr (by rw [hnum])) (by omega)]
  refine ⟨rfl, ?_, rfl⟩
  have hok := keep_ok h.ok d t hd (by omega)
  have hA : (a + 1).toNat = a.toNat + 1 := by rw [UInt32.toNat_add]; show (a.toNat + 1) % 4294967296 = _; omega
  show Iv n (keepL l n ++ [(a + 1, d, t, 0)]) (a + 1) st (data ++ [d])
  obtain ⟨s, hs, hk, hkl, hkg⟩ : ∃ s : Nat, s ≤ 1 ∧ ((l.length : Int) = n ↔ s = 1) ∧ (keepL l n).length = l.length - s ∧ ∀ i, i < (keepL l n).length → (keepL l n).getD i (0, [], 0, 0) = l.getD (s + i) (0, [], 0, 0) := by
    unfold keepL
    by_cases q : (l.length : Int) = n
    · refine ⟨1, Nat.le_refl _, by simp [q], by rw [if_pos q]; simp, fun i _ => by rw [if_pos q, gD_drop]⟩
    · exact ⟨0, by omega, by simp [q], by rw [if_neg q]; simp, fun i _ => by rw [if_neg q, Nat.zero_add]⟩
  have hsl : s ≤ l.length := by
    by_cases q : (l.length : Int) = n
    · omega
    · have : s ≠ 1 := fun e => q (hk.2 e)
      omega
  have hlen : (keepL l n ++ [((a + 1, d, t, 0) : Ver)]).length = l.length - s + 1 := by rw [List.length_append, hkl]; rfl
  have hdl : (data ++ [d]).length = data.length + 1 := by simp
  have hs01 : s = 1 ∧ (l.length : Int) = n ∨ s = 0 ∧ (l.length : Int) ≠ n := by
    by_cases q : (l.length : Int) = n
    · exact .inl ⟨hk.1 q, q⟩
    · have : s ≠ 1 := fun e => q (hk.2 e)
      exact .inr ⟨by omega, q⟩
  refine ⟨hok, by rw [hA, hdl, hnum], by rw [hlen, hdl]; omega, h.sl, by rw [hdl]; omega, fun i hi => ?_, fun j h1 h2 => ?_⟩
  · rw [hlen] at hi
    rw [hlen, hdl, gD_app]
    by_cases q : i < (keepL l n).length
    · rw [if_pos q, hkg i q]
      rw [hkl] at q
      obtain ⟨r1, r2⟩ := h.rep (s + i) (by omega)
      rw [show data.length + 1 - (l.length - s + 1) + i = data.length - l.length + (s + i) by omega]
      refine ⟨r1, fun e => ?_⟩
      rw [r2 e, gD_app, if_pos (by omega)]
    · rw [if_neg q]
      rw [hkl] at q
      have hi' : i = l.length - s := by omega
      rw [hkl, hi', Nat.sub_self, show data.length + 1 - (l.length - s + 1) + (l.length - s) = data.length by omega]
      refine ⟨by rw [h.fresh data.length (Nat.le_refl _) (by omega)]; rfl, fun _ => ?_⟩
      rw [gD_app, if_neg (by omega), Nat.sub_self]; rfl
  · rw [hdl] at h1; exact h.fresh j (by omega) h2
end Go.Proofs.YtbppcnhfeobefaaDoor

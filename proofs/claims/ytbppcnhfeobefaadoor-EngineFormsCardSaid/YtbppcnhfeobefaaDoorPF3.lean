import Derived.Test.YtbppcnhfeobefaaDoorPF2
set_option linter.unusedVariables false
set_option linter.unusedSimpArgs false
namespace Go.Proofs.YtbppcnhfeobefaaDoor
open Go Go.Vw Go.Proofs
theorem take_ok (r : List UInt8) (n : Int) (h0 : 0 ≤ n) (h : n ≤ (r.length : Int)) : engine_reader_take r false n = (r.take n.toNat, (r.drop n.toNat, false)) := by
  rw [engine_reader_take, show (false || (decide (n > (r.length : Int)))) = false by simp; omega, cond_false, bnd_eq, slc_take, slc_drop]; rfl
theorem take_bad (r : List UInt8) (b : Bool) (n : Int) (h : b = true ∨ n > (r.length : Int)) : engine_reader_take r b n = ([], (r, true)) := by
  rw [engine_reader_take]
  rw [show (b || (decide (n > (r.length : Int)))) = true by rcases h with h | h; rw [h]; rfl; rw [decide_eq_true h]; simp]; rfl
theorem fold_un (l : List UInt8) (s : UInt64) : l.foldl (fun a c => shl64 a 8 ||| c.toUInt64) s = un64 s l := by
  rw [un64]
  have : (fun (a : UInt64) (c : UInt8) => shl64 a 8 ||| c.toUInt64) = (fun n c => 256 * n + c.toUInt64) := by funext a c; exact byte64 a c
  rw [this]
theorem num_ok (r : List UInt8) (n : Int) (h0 : 0 ≤ n) (h : n ≤ (r.length : Int)) : engine_reader_number r false n = (un64 0 (r.take n.toNat), (r.drop n.toNat, false)) := by
  rw [number_eq, take_ok r n h0 h, fold_un]
theorem num_bad (r : List UInt8) (b : Bool) (n : Int) (h : b = true ∨ n > (r.length : Int)) : engine_reader_number r b n = (0, (r, true)) := by
  rw [number_eq, take_bad r b n h]; rfl
theorem un1 (c : UInt8) : (un64 0 [c]).toNat = c.toNat := by
  show (256 * 0 + c.toUInt64 : UInt64).toNat = _
  rw [UInt64.toNat_add]; simp
theorem take1 (r : List UInt8) (h : 1 ≤ r.length) : r.take 1 = [r.getD 0 0] := by
  cases r with
  | nil => simp at h
  | cons a r => rfl
def okR (r : List UInt8) : Prop := 10 ≤ r.length ∧ (r.getD 9 0).toNat ≤ r.length - 10
instance (r : List UInt8) : Decidable (okR r) := by unfold okR; infer_instance
def nxtV (N : UInt32) (r : List UInt8) : Ver := (N, (r.drop 10).take (r.getD 9 0).toNat, un64 0 (r.take 8), ((r.getD 8 0).toNat : Int))
def pvs : Nat → UInt32 → List UInt8 → Option (List Ver × List UInt8)
  | 0, _, r => some ([], r)
  | k + 1, N, r => if okR r then (match pvs k (N + 1) (r.drop (10 + (r.getD 9 0).toNat)) with | some (l, q) => some (nxtV N r :: l, q) | none => none) else none
theorem round_eng (r : List UInt8) :
    let x5 := engine_reader_number r false 8
    let y := engine_reader_number ((x5.2).1) ((x5.2).2) 1
    let x6 := engine_reader_number ((y.2).1) ((y.2).2) 1
    let z := engine_reader_take ((x6.2).1) ((x6.2).2) ((x6.1).toNat : Int)
    (okR r → x5.1 = un64 0 (r.take 8) ∧ y.1.toNat = (r.getD 8 0).toNat ∧ z = ((r.drop 10).take (r.getD 9 0).toNat, (r.drop (10 + (r.getD 9 0).toNat), false))) ∧ (¬ okR r → z.2.2 = true) := by
  intro x5 y x6 z
  by_cases h8 : 8 ≤ r.length
  · have e5 : x5 = (un64 0 (r.take 8), (r.drop 8, false)) := num_ok r 8 (by decide) (by omega)
    by_cases h9 : 9 ≤ r.length
    · have ey : y = (un64 0 ((r.drop 8).take 1), ((r.drop 8).drop 1, false)) := by
        show engine_reader_number ((x5.2).1) ((x5.2).2) 1 = _
        rw [e5]; exact num_ok (r.drop 8) 1 (by decide) (by rw [List.length_drop]; omega)
      rw [take1 _ (by rw [List.length_drop]; omega), gD_drop, List.drop_drop] at ey
      by_cases h10 : 10 ≤ r.length
      · have e6 : x6 = (un64 0 ((r.drop 9).take 1), ((r.drop 9).drop 1, false)) := by
          show engine_reader_number ((y.2).1) ((y.2).2) 1 = _
          rw [ey]; exact num_ok (r.drop 9) 1 (by decide) (by rw [List.length_drop]; omega)
        rw [take1 _ (by rw [List.length_drop]; omega), gD_drop, List.drop_drop] at e6
        have e61 : x6.1.toNat = (r.getD 9 0).toNat := by rw [e6]; exact un1 _
        by_cases hk : (r.getD 9 0).toNat ≤ r.length - 10
        · have ez : z = (((r.drop 10).take (r.getD 9 0).toNat), ((r.drop 10).drop (r.getD 9 0).toNat, false)) := by
            show engine_reader_take ((x6.2).1) ((x6.2).2) ((x6.1).toNat : Int) = _
            rw [e61, e6, take_ok _ _ (by omega) (by rw [List.length_drop]; omega), Int.toNat_natCast]
          rw [List.drop_drop] at ez
          exact ⟨fun _ => ⟨by rw [e5], by rw [ey]; exact un1 _, ez⟩, fun q => absurd ⟨h10, hk⟩ q⟩
        · refine ⟨fun q => absurd q.2 hk, fun _ => ?_⟩
          show (engine_reader_take ((x6.2).1) ((x6.2).2) ((x6.1).toNat : Int)).2.2 = true
          rw [e61, e6, take_bad _ _ _ (.inr (by rw [List.length_drop]; omega))]
      · refine ⟨fun q => absurd q.1 h10, fun _ => ?_⟩
        have e6 : x6 = (0, (r.drop 9, true)) := by
          show engine_reader_number ((y.2).1) ((y.2).2) 1 = _
          rw [ey]; exact num_bad _ _ _ (.inr (by rw [List.length_drop]; omega))
        show (engine_reader_take ((x6.2).1) ((x6.2).2) ((x6.1).toNat : Int)).2.2 = true
        rw [e6, take_bad _ _ _ (.inl rfl)]
    · refine ⟨fun q => absurd q.1 (by omega), fun _ => ?_⟩
      have ey : y = (0, (r.drop 8, true)) := by
        show engine_reader_number ((x5.2).1) ((x5.2).2) 1 = _
        rw [e5]; exact num_bad _ _ _ (.inr (by rw [List.length_drop]; omega))
      have e6 : x6 = (0, (r.drop 8, true)) := by
        show engine_reader_number ((y.2).1) ((y.2).2) 1 = _
        rw [ey]; exact num_bad _ _ _ (.inl rfl)
      show (engine_reader_take ((x6.2).1) ((x6.2).2) ((x6.1).toNat : Int)).2.2 = true
      rw [e6, take_bad _ _ _ (.inl rfl)]
  · refine ⟨fun q => absurd q.1 (by omega), fun _ => ?_⟩
    have e5 : x5 = (0, (r, true)) := num_bad _ _ _ (.inr (by omega))
    have ey : y = (0, (r, true)) := by
      show engine_reader_number ((x5.2).1) ((x5.2).2) 1 = _
      rw [e5]; exact num_bad _ _ _ (.inl rfl)
    have e6 : x6 = (0, (r, true)) := by
      show engine_reader_number ((y.2).1) ((y.2).2) 1 = _
      rw [ey]; exact num_bad _ _ _ (.inl rfl)
    show (engine_reader_take ((x6.2).1) ((x6.2).2) ((x6.1).toNat : Int)).2.2 = true
    rw [e6, take_bad _ _ _ (.inl rfl)]
theorem u32_lt {t : UInt32} {x : UInt64} (hx : x.toNat ≤ 255) : decide (t ≤ x.toUInt32) = decide (t.toNat ≤ x.toNat) := by
  rw [decide_eq_decide, UInt32.le_iff_toNat_le]; simp; omega
theorem l_bad (x2 x3 : UInt64 × (List UInt8 × Bool)) (m : Nat) (t : UInt32) (r : List UInt8) (o : List Ver) : engine_Decode_l1 x2 x3 (m + 1) t r true o = .brk (r, true, (((engine_reader_number ((x2.2).1) ((x2.2).2) 4).1).toUInt32), o) := by
  rw [engine_Decode_l1, show ((decide (t ≤ ((x3.1).toUInt32))) && (!true)) = false by simp, cond_false]
theorem l_eng (x2 x3 : UInt64 × (List UInt8 × Bool)) (h3 : x3.1.toNat ≤ 255) (last : UInt32) (hl : ((engine_reader_number ((x2.2).1) ((x2.2).2) 4).1).toUInt32 = last) : ∀ (k m : Nat) (t : UInt32) (r : List UInt8) (o : List Ver), t.toNat + k = x3.1.toNat + 1 → k < m →
    (∃ l q, pvs k (last - x3.1.toUInt32 + t) r = some (l, q) ∧ engine_Decode_l1 x2 x3 m t r false o = .brk (q, false, last, o ++ l)) ∨ (pvs k (last - x3.1.toUInt32 + t) r = none ∧ ∃ q v, engine_Decode_l1 x2 x3 m t r false o = .brk (q, true, last, v))
  | k, 0, _, _, _, _, h => absurd h (Nat.not_lt_zero _)
  | 0, m + 1, t, r, o, ht, _ => by
    left
    refine ⟨[], r, rfl, ?_⟩
    rw [engine_Decode_l1, u32_lt h3, decide_eq_false (by omega)]
    show Lo.brk _ = _
    rw [hl, List.append_nil]
  | k + 1, m + 1, t, r, o, ht, hm => by
    rw [engine_Decode_l1, u32_lt h3, decide_eq_true (by omega)]
    show (_ ∨ _)
    rw [show ((true && !false) : Bool) = true from rfl, cond_true, bnd_eq, bnd_eq, hl]
    have ht1 : (t + 1).toNat = t.toNat + 1 := u32_inc (by omega)
    have hr := round_eng r
    by_cases ok : okR r
    · obtain ⟨e1, e2, e3⟩ := hr.1 ok
      rw [e3]
      have hk := l_eng x2 x3 h3 last hl k m (t + 1) (r.drop (10 + (r.getD 9 0).toNat)) (o ++ [nxtV (last - x3.1.toUInt32 + t) r]) (by omega) (by omega)
      have ev : ((last - x3.1.toUInt32 + t, (r.drop 10).take (r.getD 9 0).toNat, (engine_reader_number r false 8).1, (((engine_reader_number (engine_reader_number r false 8).2.1 (engine_reader_number r false 8).2.2 1).1.toNat : Nat) : Int)) : Ver) = nxtV (last - x3.1.toUInt32 + t) r := by
        rw [nxtV, e1, e2]
      rw [ev, pvs, if_pos ok, show last - x3.1.toUInt32 + t + 1 = last - x3.1.toUInt32 + (t + 1) by rw [UInt32.add_assoc]]
      rcases hk with ⟨l, q, h1, h2⟩ | ⟨h1, q, v, h2⟩
      · left; rw [h1]; exact ⟨_, q, rfl, by rw [h2, List.append_assoc]; rfl⟩
      · right; rw [h1]; exact ⟨rfl, q, v, h2⟩
    · right
      rw [pvs, if_neg ok]
      refine ⟨rfl, ?_⟩
      rw [hr.2 ok]
      cases m with
      | zero => omega
      | succ m => rw [l_bad, hl]; exact ⟨_, _, rfl⟩
noncomputable def dcE (b : List UInt8) : (List Ver × UInt32 × Int) × Int :=
  if 8 ≤ b.length ∧ b.getD 0 0 = 115 ∧ b.getD 1 0 = 101 then
    (match pvs (b.getD 7 0).toNat ((un64 0 ((b.drop 3).take 4)).toUInt32 - ((b.getD 7 0).toNat.toUInt32) + 1) (b.drop 8) with
      | some (l, q) => if q = [] ∧ engine_Check l ((un64 0 ((b.drop 3).take 4)).toUInt32) ((b.getD 2 0).toNat : Int) = 0 then ((l, (un64 0 ((b.drop 3).take 4)).toUInt32, ((b.getD 2 0).toNat : Int)), 0) else (([], 0, 0), 4)
      | none => (([], 0, 0), 4))
  else (([], 0, 0), 4)
theorem k1_bad (x2 : UInt64 × (List UInt8 × Bool)) (q : List UInt8) (a : UInt32) (o : List Ver) : engine_Decode_k1 x2 q true a o = (([], 0, 0), 4) := by
  rw [engine_Decode_k1, bnd_eq]
  rfl
theorem k1_ok (x2 : UInt64 × (List UInt8 × Bool)) (q : List UInt8) (a : UInt32) (o : List Ver) : engine_Decode_k1 x2 q false a o = if q = [] ∧ engine_Check o a ((x2.1).toNat : Int) = 0 then ((o, a, ((x2.1).toNat : Int)), 0) else (([], 0, 0), 4) := by
  rw [engine_Decode_k1, bnd_eq]
  by_cases h : q = [] ∧ engine_Check o a ((x2.1).toNat : Int) = 0
  · obtain ⟨rfl, h2⟩ := h
    rw [h2, if_pos ⟨rfl, rfl⟩]; rfl
  · rw [if_neg h]
    have : (false || ((decide ((q.length : Int) > 0)) || (!(decide (engine_Check o a ((x2.1).toNat : Int) = 0))))) = true := by
      rw [← Bool.not_eq_false]
      intro e
      simp only [Bool.false_or, Bool.or_eq_false_iff, decide_eq_false_iff_not, Bool.not_eq_false', decide_eq_true_eq] at e
      exact h ⟨List.length_eq_zero_iff.1 (by omega), e.2⟩
    rw [this, cond_true]
theorem dec_eng (b : List UInt8) : engine_Decode b = dcE b := by
  rw [engine_Decode, bnd_eq, dcE]
  by_cases h2 : 2 ≤ b.length
  · rw [take_ok b 2 (by decide) (by omega)]
    have e2 : b.take (2 : Int).toNat = [b.getD 0 0, b.getD 1 0] := by
      show b.take 2 = _
      match b, h2 with
      | x :: y :: b, _ => rfl
    rw [e2]
    by_cases hm : b.getD 0 0 = 115 ∧ b.getD 1 0 = 101
    · show _root_.cond ([b.getD 0 0, b.getD 1 0] != [115, 101]) _ _ = _
      rw [show ([b.getD 0 0, b.getD 1 0] != [115, 101]) = false by rw [hm.1, hm.2]; rfl, cond_false, bnd_eq, bnd_eq]
      show Lo.el (engine_Decode_l1 (engine_reader_number (b.drop 2) false 1) _ _ _ _ _ _) _ = _
      by_cases h8 : 8 ≤ b.length
      · rw [if_pos ⟨h8, hm⟩]
        have ex2 : engine_reader_number (b.drop 2) false 1 = (un64 0 [b.getD 2 0], (b.drop 3, false)) := by
          rw [num_ok _ 1 (by decide) (by rw [List.length_drop]; omega)]
          show (un64 0 ((b.drop 2).take 1), ((b.drop 2).drop 1, false)) = _
          rw [take1 _ (by rw [List.length_drop]; omega), gD_drop, List.drop_drop]
        have ey : engine_reader_number (b.drop 3) false 4 = (un64 0 ((b.drop 3).take 4), (b.drop 7, false)) := by
          rw [num_ok _ 4 (by decide) (by rw [List.length_drop]; omega)]
          show (un64 0 ((b.drop 3).take 4), ((b.drop 3).drop 4, false)) = _
          rw [List.drop_drop]
        have ex3 : engine_reader_number (b.drop 7) false 1 = (un64 0 [b.getD 7 0], (b.drop 8, false)) := by
          rw [num_ok _ 1 (by decide) (by rw [List.length_drop]; omega)]
          show (un64 0 ((b.drop 7).take 1), ((b.drop 7).drop 1, false)) = _
          rw [take1 _ (by rw [List.length_drop]; omega), gD_drop, List.drop_drop]
        have h7 := (b.getD 7 0).toNat_lt
        have hu7 := un1 (b.getD 7 0)
        have hu32 : (un64 0 [b.getD 7 0]).toUInt32 = (b.getD 7 0).toNat.toUInt32 := by
          apply UInt32.toNat_inj.1; rw [UInt64.toNat_toUInt32, hu7]; simp
        have hu2 := un1 (b.getD 2 0)
        have key := l_eng (engine_reader_number (b.drop 2) false 1) (un64 0 [b.getD 7 0], (b.drop 8, false)) (by show (un64 0 [b.getD 7 0]).toNat ≤ 255; omega) ((un64 0 ((b.drop 3).take 4)).toUInt32) (by rw [ex2]; show (engine_reader_number (b.drop 3) false 4).1.toUInt32 = _; rw [ey]) (b.getD 7 0).toNat (256 - (1 : Int).toNat + 1) 1 (b.drop 8) [] (by show 1 + _ = (un64 0 [b.getD 7 0]).toNat + 1; omega) (by show _ < 256; omega)
        have hx3 : engine_reader_number ((engine_reader_number (((engine_reader_number (b.drop 2) false 1)).2.1) (((engine_reader_number (b.drop 2) false 1)).2.2) 4).2.1) ((engine_reader_number (((engine_reader_number (b.drop 2) false 1)).2.1) (((engine_reader_number (b.drop 2) false 1)).2.2) 4).2.2) 1 = (un64 0 [b.getD 7 0], (b.drop 8, false)) := by
          rw [ex2]
          show engine_reader_number ((engine_reader_number (b.drop 3) false 4).2.1) ((engine_reader_number (b.drop 3) false 4).2.2) 1 = _
          rw [ey]; exact ex3
        show Lo.el (engine_Decode_l1 (engine_reader_number (b.drop 2) false 1) (engine_reader_number ((engine_reader_number (((engine_reader_number (b.drop 2) false 1)).2.1) (((engine_reader_number (b.drop 2) false 1)).2.2) 4).2.1) ((engine_reader_number (((engine_reader_number (b.drop 2) false 1)).2.1) (((engine_reader_number (b.drop 2) false 1)).2.2) 4).2.2) 1) (256 - (1 : Int).toNat + 1) 1 ((engine_reader_number ((engine_reader_number (((engine_reader_number (b.drop 2) false 1)).2.1) (((engine_reader_number (b.drop 2) false 1)).2.2) 4).2.1) ((engine_reader_number (((engine_reader_number (b.drop 2) false 1)).2.1) (((engine_reader_number (b.drop 2) false 1)).2.2) 4).2.2) 1).2.1) ((engine_reader_number ((engine_reader_number (((engine_reader_number (b.drop 2) false 1)).2.1) (((engine_reader_number (b.drop 2) false 1)).2.2) 4).2.1) ((engine_reader_number (((engine_reader_number (b.drop 2) false 1)).2.1) (((engine_reader_number (b.drop 2) false 1)).2.2) 4).2.2) 1).2.2) []) _ = _
        rw [hx3]
        rw [hu32] at key
        rcases key with ⟨l, q, k1, k2⟩ | ⟨k1, q, v, k2⟩
        · rw [k2, k1]
          show engine_Decode_k1 (engine_reader_number (b.drop 2) false 1) q false _ ([] ++ l) = _
          rw [k1_ok, ex2, List.nil_append]
          show (if q = [] ∧ engine_Check l _ ((un64 0 [b.getD 2 0]).toNat : Int) = 0 then ((l, _, ((un64 0 [b.getD 2 0]).toNat : Int)), (0 : Int)) else (([], 0, 0), 4)) = _
          rw [hu2]
        · rw [k2, k1]
          show engine_Decode_k1 (engine_reader_number (b.drop 2) false 1) q true _ v = _
          rw [k1_bad]
      · rw [if_neg (fun q => h8 q.1)]
        -- too short: the count's byte is not there
        have hbad : ∀ x2 : UInt64 × (List UInt8 × Bool), x2 = engine_reader_number (b.drop 2) false 1 → (engine_reader_number ((engine_reader_number ((x2.2).1) ((x2.2).2) 4).2.1) ((engine_reader_number ((x2.2).1) ((x2.2).2) 4).2.2) 1).2.2 = true := by
          rintro x2 rfl
          by_cases h3 : 3 ≤ b.length
          · rw [num_ok (b.drop 2) 1 (by decide) (by rw [List.length_drop]; omega)]
            show (engine_reader_number ((engine_reader_number ((b.drop 2).drop 1) false 4).2.1) ((engine_reader_number ((b.drop 2).drop 1) false 4).2.2) 1).2.2 = true
            rw [List.drop_drop]
            by_cases h7 : 7 ≤ b.length
            · rw [num_ok (b.drop (2 + 1)) 4 (by decide) (by rw [List.length_drop]; omega)]
              rw [num_bad _ _ _ (.inr (by show (1 : Int) > (((b.drop (2 + 1)).drop 4).length : Int); rw [List.drop_drop, List.length_drop]; omega))]
            · rw [num_bad (b.drop (2 + 1)) false 4 (.inr (by rw [List.length_drop]; omega))]
              rw [num_bad _ _ _ (.inl rfl)]
          · rw [num_bad (b.drop 2) false 1 (.inr (by rw [List.length_drop]; omega))]
            show (engine_reader_number ((engine_reader_number (b.drop 2) true 4).2.1) ((engine_reader_number (b.drop 2) true 4).2.2) 1).2.2 = true
            rw [num_bad _ true 4 (.inl rfl), num_bad _ _ _ (.inl rfl)]
        show Lo.el (engine_Decode_l1 (engine_reader_number (b.drop 2) false 1) (engine_reader_number ((engine_reader_number (((engine_reader_number (b.drop 2) false 1)).2.1) (((engine_reader_number (b.drop 2) false 1)).2.2) 4).2.1) ((engine_reader_number (((engine_reader_number (b.drop 2) false 1)).2.1) (((engine_reader_number (b.drop 2) false 1)).2.2) 4).2.2) 1) (256 - (1 : Int).toNat + 1) 1 ((engine_reader_number ((engine_reader_number (((engine_reader_number (b.drop 2) false 1)).2.1) (((engine_reader_number (b.drop 2) false 1)).2.2) 4).2.1) ((engine_reader_number (((engine_reader_number (b.drop 2) false 1)).2.1) (((engine_reader_number (b.drop 2) false 1)).2.2) 4).2.2) 1).2.1) ((engine_reader_number ((engine_reader_number (((engine_reader_number (b.drop 2) false 1)).2.1) (((engine_reader_number (b.drop 2) false 1)).2.2) 4).2.1) ((engine_reader_number (((engine_reader_number (b.drop 2) false 1)).2.1) (((engine_reader_number (b.drop 2) false 1)).2.2) 4).2.2) 1).2.2) []) _ = _
        rw [hbad _ rfl, show (256 - (1 : Int).toNat + 1) = 255 + 1 from rfl, l_bad]
        show engine_Decode_k1 _ _ true _ _ = _
        rw [k1_bad]
    · show _root_.cond ([b.getD 0 0, b.getD 1 0] != [115, 101]) _ _ = _
      rw [show ([b.getD 0 0, b.getD 1 0] != [115, 101]) = true by
        rw [bne_iff_ne]; intro e; injection e with e1 e2; injection e2 with e2 _; exact hm ⟨e1, e2⟩, cond_true, if_neg (fun q => hm q.2)]
  · rw [take_bad b false 2 (.inr (by omega)), if_neg (fun q => by have := q.1; omega)]; rfl
end Go.Proofs.YtbppcnhfeobefaaDoor

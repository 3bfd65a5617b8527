import Derived.Test.YtbppcnhfeobefabDoorPK3
set_option linter.unusedVariables false
namespace Go.Proofs.YtbppcnhfeobefabDoor
open Go Go.Vw Go.Proofs
theorem rdec_l2 (a0 : List UInt8) (t51 : Int) : ∀ (m t : Nat) (c : List UInt8), 32 - t < m → t ≤ 32 →
  ∃ w : List UInt8, r9_Decode_l2 a0 t51 m (t : Int) c = .brk w ∧ ∀ k, k < 32 → w.getD k 0 = if t ≤ k then a0.getD (3 + (32 * t51) + (k : Int)).toNat 0 else c.getD k 0
 | 0, t, c, h, _ => absurd h (Nat.not_lt_zero _)
 | m + 1, t, c, h, h32 => by
  rw [r9_Decode_l2]
  by_cases q : t < 32
  ·rw [decide_eq_true (by omega : (t : Int) < 32), cond_true, Int.toNat_natCast]
   obtain ⟨w, e, hw⟩ := rdec_l2 a0 t51 m (t + 1) ((fxa 32 c).set t (a0.getD (3 + (32 * t51) + (t : Int)).toNat 0)) (by omega) (by omega)
   rw [Int.natCast_add t 1] at e
   refine ⟨w, e, fun k hk => ?_⟩
   rw [hw k hk, gD_set, fxa_len]
   by_cases h1 : t + 1 ≤ k
   ·rw [if_pos h1, if_pos (by omega)]
   ·rw [if_neg h1]
    by_cases h2 : t = k
    ·subst h2; rw [if_pos ⟨rfl, hk⟩, if_pos (Nat.le_refl _)]
    ·rw [if_neg (by omega), if_neg (by omega), fxa_gD _ _ _ hk]
  ·rw [decide_eq_false (by omega : ¬ (t : Int) < 32), cond_false]
   exact ⟨c, rfl, fun k hk => by rw [if_neg (by omega)]⟩
theorem rdec_l1 (a0 : List UInt8) (n : Nat) (hn : n = (a0.getD 2 0).toNat) : ∀ (m t : Nat) (o : List Tm), n - t < m → t ≤ n →
  ∃ q : List Tm, r9_Decode_l1 a0 m (t : Int) o = .brk (o ++ q) ∧ q.length = n - t ∧ ∀ i, i < n - t → (q.getD i (0, [])).1 = u32i ((t + i : Nat) + 1 : Int) ∧ ∀ k, k < 32 → (q.getD i (0, [])).2.getD k 0 = a0.getD (3 + 32 * (t + i) + k) 0
 | 0, _, _, h, _ => absurd h (Nat.not_lt_zero _)
 | m + 1, t, o, h, ht => by
  rw [r9_Decode_l1]
  by_cases c : t < n
  ·rw [decide_eq_true (by omega : (t : Int) < ((a0.getD 2 0).toNat : Int)), cond_true]
   obtain ⟨w, e, hw⟩ := rdec_l2 a0 (t : Int) ((32 - (0 : Int)).toNat + 1) 0 (List.replicate 32 (0 : UInt8)) (by decide) (by decide)
   rw [show r9_Decode_l2 a0 (t : Int) ((32 - (0 : Int)).toNat + 1) 0 (List.replicate 32 (0 : UInt8)) = _ from e]
   obtain ⟨q, e2, e3, e4⟩ := rdec_l1 a0 n hn m (t + 1) (o ++ [(u32i ((t : Int) + 1), w)]) (by omega) (by omega)
   rw [Int.natCast_add t 1] at e2
   refine ⟨(u32i ((t : Int) + 1), w) :: q, ?_, by rw [List.length_cons, e3]; omega, fun i hi => ?_⟩
   ·refine Eq.trans ?_ (e2.trans ?_)
    ·rfl
    ·rw [List.append_assoc, List.singleton_append]
   ·cases i with
    | zero =>
     refine ⟨by rw [Nat.add_zero]; rfl, fun k hk => ?_⟩
     show w.getD k 0 = _
     rw [hw k hk, if_pos (Nat.zero_le _)]
     congr 1 <;> omega
    | succ i =>
     have := e4 i (by omega)
     rw [show t + 1 + i = t + (i + 1) by omega] at this
     exact this
  ·rw [decide_eq_false (by omega : ¬ (t : Int) < ((a0.getD 2 0).toNat : Int)), cond_false]
   exact ⟨[], by rw [List.append_nil], by simp; omega, fun i hi => by omega⟩
theorem rdec_or (b : List UInt8) : (goodB b ∧ ∃ q : List Tm, r9_Decode b = (q, 0) ∧ q.length = (b.getD 2 0).toNat ∧ ∀ i, i < (b.getD 2 0).toNat → (q.getD i (0, [])).1 = u32i ((i : Int) + 1) ∧ ∀ k, k < 32 → (q.getD i (0, [])).2.getD k 0 = b.getD (3 + 32 * i + k) 0) ∨ (¬ goodB b ∧ r9_Decode b = ([], 4)) := by
 rw [r9_Decode]
 have hu1 : ∀ x : UInt8, (x < 1) ↔ x.toNat < 1 := fun x => by rw [UInt8.lt_iff_toNat_lt]; rfl
 have hu2 : ∀ x : UInt8, (x > 16) ↔ x.toNat > 16 := fun x => by show (16 : UInt8) < x ↔ _; rw [UInt8.lt_iff_toNat_lt]; rfl
 have hsl : 3 ≤ b.length → (slc b 0 2 = [107, 114] ↔ (b.getD 0 0 = 107 ∧ b.getD 1 0 = 114)) := fun h3 => by
  match b, h3 with
  | x :: y :: z :: r, _ => show [x, y] = [107, 114] ↔ (x = 107 ∧ y = 114); simp
 cases e : ((decide ((b.length : Int) < 3)) || (((b.getD 0 0) != 107) || (((b.getD 1 0) != 114) || ((decide ((b.getD 2 0) < 1)) || ((decide ((b.getD 2 0) > 16)) || ((b.length : Int) != (3 + (32 * ((b.getD 2 0).toNat : Int))))))))) with
 | true =>
  right
  refine ⟨fun g => ?_, rfl⟩
  obtain ⟨g1, g2, g3, g4, g5⟩ := g
  have h2 := (hsl g1).1 g2
  simp only [Bool.or_eq_true, decide_eq_true_eq, bne_iff_ne, hu1, hu2] at e
  rcases e with e | e | e | e | e | e
  ·omega
  ·exact e h2.1
  ·exact e h2.2
  ·omega
  ·omega
  ·omega
 | false =>
  left
  simp only [Bool.or_eq_false_iff, decide_eq_false_iff_not, bne_eq_false_iff_eq, hu1, hu2] at e
  obtain ⟨e1, e2, e3, e4, e5, e6⟩ := e
  refine ⟨⟨by omega, (hsl (by omega)).2 ⟨e2, e3⟩, by omega, by omega, by omega⟩, ?_⟩
  obtain ⟨q, q1, q2, q3⟩ := rdec_l1 b _ rfl ((((b.getD 2 0).toNat : Int) - (0 : Int)).toNat + 1) 0 [] (by omega) (Nat.zero_le _)
  rw [cond_false, show r9_Decode_l1 b _ 0 [] = _ from q1]
  refine ⟨q, ?_, q2, fun i hi => ?_⟩
  ·show r9_Decode_k1 ([] ++ q) = _
   rw [r9_Decode_k1, List.nil_append]
  ·have := q3 i hi
   rw [Nat.zero_add] at this
   exact this
theorem rdec_fact (b : List UInt8) : (r9_Decode b).1.length ≤ 300 := by
 rcases rdec_or b with ⟨_, q, e, h, _⟩ | ⟨_, e⟩
 ·rw [e]; have := (b.getD 2 0).toNat_lt; show q.length ≤ 300; omega
 ·rw [e]; exact Nat.zero_le _
theorem rrot_eq (l : List Tm) (key : List UInt8) : r9_Rotate l key = kr_Rotate l key := by
 rw [r9_Rotate, kr_Rotate, bnd_eq, bnd_eq]
 by_cases h : okR l
 ·rw [ring_yes h, may_yes h]; rfl
 ·rw [ring_no h, may_no h]; rfl
theorem rrot_fact (l : List Tm) (key : List UInt8) : (r9_Rotate l key).1.length ≤ l.length + 1 := by
 rw [r9_Rotate, bnd_eq]
 cases r9_May l with
 | false => exact Nat.zero_le _
 | true =>
  cases (l.length : Int) == 16 with
  | true => exact Nat.zero_le _
  | false => show (l ++ [_]).length ≤ _; simp
theorem give_eq (l : List Tm) : b9_giveRing l = l := by
 rw [b9_giveRing, appLoop (f := b9_giveRing_l1 l) (n := (l.length : Int)) (g := fun i => [l.getD i.toNat ((0, []) : UInt32 × List UInt8)]) (fun m i o _ => by rw [b9_giveRing_l1]) _ _ _ (Int.le_refl 0) (Nat.lt_succ_self _)]
 show b9_giveRing_k1 ([] ++ _) = _
 rw [b9_giveRing_k1, List.nil_append, Int.sub_zero, Int.toNat_natCast]
 simp only [Int.zero_add, Int.toNat_natCast]
 rw [← List.map_eq_flatMap]
 exact ext_gD (d := (0, [])) (by simp) (fun i hi => by rw [gD_range]; simp at hi; rw [if_pos hi])
theorem isring_true {r l : List Tm} (h : r.length = l.length) (h2 : ∀ i, i < l.length → (r.getD i (0, [])).1 = (l.getD i (0, [])).1 ∧ fxa 32 (r.getD i (0, [])).2 = fxa 32 (l.getD i (0, [])).2) : b9_isRing r l = true := by
 rw [b9_isRing, show ((r.length : Int) != (l.length : Int)) = false by rw [bne_eq_false_iff_eq]; omega, cond_false]
 rcases cmpLoop (f := b9_isRing_l1 r l) (n := (l.length : Int)) (p := fun j : Nat => !((((r.getD j ((0, []) : UInt32 × List UInt8)).1) == ((l.getD j ((0, []) : UInt32 × List UInt8)).1)) && (fxa 32 ((r.getD j ((0, []) : UInt32 × List UInt8)).2) == fxa 32 ((l.getD j ((0, []) : UInt32 × List UInt8)).2)))) (r := false) (fun m i h => by rw [b9_isRing_l1]) _ 0 (Int.le_refl 0) (Nat.lt_succ_self _) with ⟨q1, q2⟩ | ⟨⟨j, q1, q2, q3⟩, q4⟩
 ·rw [q2]; show b9_isRing_k1 = true; rw [b9_isRing_k1]
 ·have := h2 j (by omega)
  rw [this.1, this.2] at q3
  simp at q3
theorem isring_refl (l : List Tm) : b9_isRing l l = true := isring_true rfl fun _ _ => ⟨rfl, rfl⟩
theorem isring_dec (b : List UInt8) : b9_isRing (kr_Decode b).1 (r9_Decode b).1 = true ∧ (kr_Decode b).2 = (r9_Decode b).2 := by
 rcases dec_or b with ⟨g, e⟩ | ⟨g, e⟩
 ·rcases rdec_or b with ⟨_, q, e2, h1, h2⟩ | ⟨g2, _⟩
  ·rw [e, e2]
   refine ⟨isring_true (by show (rl _ _).length = q.length; rw [rl_len, h1]) (fun i hi => ?_), rfl⟩
   have hi' : i < (b.getD 2 0).toNat := by rw [← h1]; exact hi
   obtain ⟨k1, k2⟩ := h2 i hi'
   show (((rl (b.drop 3) (b.getD 2 0).toNat).getD i (0, [])).1 = _ ∧ fxa 32 ((rl (b.drop 3) (b.getD 2 0).toNat).getD i (0, [])).2 = fxa 32 (q.getD i (0, [])).2)
   rw [rl_get _ _ _ hi']
   refine ⟨k1.symm, ?_⟩
   refine ext_gD (d := (0 : UInt8)) (by simp) (fun k hk => ?_)
   have hk' : k < 32 := by simpa using hk
   rw [fxa_gD _ _ _ hk', fxa_gD _ _ _ hk', k2 k hk']
   show (chk (b.drop 3) 32 i).getD k 0 = _
   rw [chk, gD_take, if_pos hk', gD_drop, gD_drop]
   congr 1; omega
  ·exact absurd g g2
 ·rcases rdec_or b with ⟨g2, _⟩ | ⟨_, e2⟩
  ·exact absurd g2 g
  ·rw [e, e2]; exact ⟨isring_refl _, rfl⟩
theorem renc_l1 (l : List Tm) : ∀ (m i : Nat) (o : List UInt8), i ≤ l.length → l.length - i < m → r9_Encode_l1 l m (i : Int) o = .brk (o ++ keysOf (l.drop i))
 | 0, _, _, _, h => absurd h (Nat.not_lt_zero _)
 | m + 1, i, o, h1, h2 => by
  rw [r9_Encode_l1]
  by_cases c : i < l.length
  ·rw [decide_eq_true (by omega : (i : Int) < (l.length : Int)), cond_true]
   rw [appLoop (f := r9_Encode_l2 l (i : Int)) (n := 32) (g := fun k => [((l.getD (i : Int).toNat ((0, []) : UInt32 × List UInt8)).2).getD k.toNat 0]) (fun m k o _ => by rw [r9_Encode_l2]) _ _ _ (Int.le_refl 0) (Nat.lt_succ_self _)]
   have w := renc_l1 l m (i + 1) (o ++ fxa 32 (l.getD i ((0, []) : UInt32 × List UInt8)).2) (by omega) (by omega)
   rw [Int.natCast_add i 1] at w
   have ek : ((List.range (32 - (0 : Int)).toNat).flatMap fun k : Nat => [((l.getD (i : Int).toNat ((0, []) : UInt32 × List UInt8)).2).getD ((0 : Int) + k).toNat 0]) = fxa 32 (l.getD i ((0, []) : UInt32 × List UInt8)).2 := by
    rw [← List.map_eq_flatMap, fxa, Int.toNat_natCast]
    simp only [Int.zero_add, Int.toNat_natCast]; rfl
   rw [ek]
   refine w.trans ?_
   rw [drop_cons l i (0, []) c, keysOf, keysOf, List.flatMap_cons, List.append_assoc]
  ·rw [decide_eq_false (by omega : ¬ (i : Int) < (l.length : Int)), cond_false, List.drop_of_length_le (by omega)]; simp [keysOf]
theorem renc_eq (l : List Tm) : r9_Encode l = kr_Encode l := by
 rw [r9_Encode, bnd_eq]
 by_cases h : okR l
 ·rw [ring_enc_ok h, may_yes h]
  show Lo.el (r9_Encode_l1 l _ ((0 : Nat) : Int) _) _ = _
  rw [renc_l1 l _ 0 _ (Nat.zero_le _) (by omega)]
  show r9_Encode_k1 _ = _
  rw [r9_Encode_k1, List.drop_zero]
 ·rw [ring_enc_no h, may_no h]; rfl
theorem ruse_eq (n : UInt32) (k u : List UInt8) : r9_Use n k u = kr_Use n k u := by
 rw [r9_Use, kr_Use, bnd_eq, bnd_eq, rkey_eq]
end Go.Proofs.YtbppcnhfeobefabDoor

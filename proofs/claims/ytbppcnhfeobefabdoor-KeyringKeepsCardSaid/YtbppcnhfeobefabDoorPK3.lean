import Derived.Test.YtbppcnhfeobefabDoorG5
import Derived.Test.YtbppcnhfeobefabDoorPK2
import Derived.Test.YtbppcnhfeobefabDoorP5
set_option linter.unusedVariables false
set_option linter.unusedSimpArgs false
namespace Go.Proofs.YtbppcnhfeobefabDoor
open Go Go.Vw Go.Proofs
theorem fxa_self (l : List UInt8) (h : l.length = 32) : fxa 32 l = l := by
 apply ext_gD (d := (0 : UInt8))
 ·rw [fxa_len, h]
 ·intro i hi
  rw [fxa, gD_range]
  rw [fxa_len] at hi
  rw [if_pos hi]
theorem fxa_fxa (l : List UInt8) : fxa 32 (fxa 32 l) = fxa 32 l := fxa_self _ (fxa_len 32 l)
theorem u8i_k (n : Nat) (h : n < 256) : (u8i (n : Int)).toNat = n := by simp [u8i]; omega
theorem rot_eq {l : List Tm} (h : okR l) (key : List UInt8) : kr_Rotate l key = if l.length = 16 then ([], 7) else (l ++ [(u32i ((l.length : Int) + 1), key)], 0) := by
 rw [kr_Rotate, bnd_eq, ring_yes h]
 by_cases c : l.length = 16
 ·rw [if_pos c, show ((l.length : Int) == 16) = true by rw [beq_iff_eq]; omega]; rfl
 ·rw [if_neg c, show ((l.length : Int) == 16) = false by rw [beq_eq_false_iff_ne]; omega]; rfl
theorem okR_snoc {l : List Tm} (h : okR l) (hl : l.length < 16) (k : List UInt8) : okR (l ++ [(u32i ((l.length : Int) + 1), k)]) := by
 refine ⟨by simp, by simp; omega, fun i hi => ?_⟩
 rw [gD_app]
 by_cases q : i < l.length
 ·rw [if_pos q]; exact h.2.2 i q
 ·have : i = l.length := by simp at hi; omega
  rw [if_neg q, this, Nat.sub_self]
  show (u32i ((l.length : Int) + 1)).toNat = _
  rw [show ((l.length : Int) + 1) = ((l.length + 1 : Nat) : Int) by omega, u32i_nat _ (by omega)]
theorem okR_one (k : List UInt8) : okR [(1, k)] := by
 refine ⟨by simp, by simp, fun i hi => ?_⟩
 have : i = 0 := by simpa using hi
 subst this; rfl
def keysOf (l : List Tm) : List UInt8 := l.flatMap fun t => fxa 32 t.2
theorem keysOf_len (l : List Tm) : (keysOf l).length = 32 * l.length := by
 induction l with
 | nil => rfl
 | cons a l ih => rw [keysOf, List.flatMap_cons, List.length_append, fxa_len]; rw [keysOf] at ih; rw [ih, List.length_cons]; omega
theorem ring_enc_l1 (l : List Tm) : ∀ (m i : Nat) (o : List UInt8), i ≤ l.length → l.length - i < m → kr_Encode_l1 l m (i : Int) o = .brk (o ++ keysOf (l.drop i))
 | 0, _, _, _, h => absurd h (Nat.not_lt_zero _)
 | m + 1, i, o, h1, h2 => by
  rw [kr_Encode_l1]
  by_cases c : i < l.length
  ·rw [decide_eq_true (by omega : (i : Int) < (l.length : Int)), cond_true, Int.toNat_natCast]
   have w := ring_enc_l1 l m (i + 1) (o ++ fxa 32 (l.getD i dTm).2) (by omega) (by omega)
   rw [Int.natCast_add i 1] at w
   refine w.trans ?_
   rw [drop_cons l i (0, []) c, keysOf, keysOf, List.flatMap_cons, List.append_assoc]
  ·rw [decide_eq_false (by omega : ¬ (i : Int) < (l.length : Int)), cond_false, List.drop_of_length_le (by omega)]; simp [keysOf]
theorem ring_enc_ok {l : List Tm} (h : okR l) : kr_Encode l = ([107, 114, u8i (l.length : Int)] ++ keysOf l, 0) := by
 rw [kr_Encode, bnd_eq, ring_yes h]
 show Lo.el (kr_Encode_l1 l _ ((0 : Nat) : Int) _) _ = _
 rw [ring_enc_l1 l _ 0 _ (Nat.zero_le _) (by omega)]
 show kr_Encode_k1 _ = _
 rw [kr_Encode_k1, List.drop_zero]
theorem ring_enc_no {l : List Tm} (h : ¬ okR l) : kr_Encode l = ([], 1) := by
 rw [kr_Encode, bnd_eq, ring_no h]; rfl
theorem ring_enc_len (l : List Tm) : (kr_Encode l).1.length ≤ 515 := by
 by_cases h : okR l
 ·rw [ring_enc_ok h]
  show ([107, 114, u8i (l.length : Int)] ++ keysOf l).length ≤ 515
  rw [List.length_append, keysOf_len]
  have := h.2.1
  simp; omega
 ·rw [ring_enc_no h]; simp
def rl (q : List UInt8) (n : Nat) : List Tm := (List.range n).map fun i : Nat => (u32i ((i : Int) + 1), chk q 32 i)
theorem rl_len (q : List UInt8) (n : Nat) : (rl q n).length = n := by simp [rl]
theorem rl_get (q : List UInt8) (n i : Nat) (h : i < n) : (rl q n).getD i (0, []) = (u32i ((i : Int) + 1), chk q 32 i) := by rw [rl, gD_range, if_pos h]
theorem rl_ok (q : List UInt8) (n : Nat) : okR (rl q n) ↔ 1 ≤ n ∧ n ≤ 16 := by
 constructor
 ·intro h; have a := h.1; have b := h.2.1; rw [rl_len] at a b; exact ⟨a, b⟩
 ·rintro ⟨a, b⟩
  refine ⟨by rw [rl_len]; exact a, by rw [rl_len]; exact b, fun i hi => ?_⟩
  rw [rl_len] at hi
  rw [rl_get q n i hi]
  show (u32i ((i : Int) + 1)).toNat = _
  rw [show ((i : Int) + 1) = ((i + 1 : Nat) : Int) by omega, u32i_nat _ (by omega)]
theorem rng_dec (b : List UInt8) : ∀ (n k : Nat) (z : List Tm), z.length = k → rng (fun kk z => kr_Decode_rb1 b kk z) n k z = .inl (z ++ (List.range n).map fun i => (u32i (((k + i : Nat) : Int) + 1), chk (slc b 3 (b.length : Int)) 32 (k + i)))
 | 0, k, z, h => by rw [rng]; simp
 | n + 1, k, z, h => by
  rw [rng, kr_Decode_rb1]
  show rng _ n (k + 1) (z ++ [_]) = _
  rw [rng_dec b n (k + 1) _ (by simp [h]), h, List.append_assoc, List.range_succ_eq_map, List.map_cons, List.map_map, List.singleton_append]
  have : ∀ i : Nat, k + 1 + i = k + (i + 1) := fun i => by omega
  simp only [this]; rfl
def goodB (b : List UInt8) : Prop := 3 ≤ b.length ∧ slc b 0 2 = [107, 114] ∧ b.length = 3 + (b.getD 2 0).toNat * 32 ∧ 1 ≤ (b.getD 2 0).toNat ∧ (b.getD 2 0).toNat ≤ 16
theorem dec_or (b : List UInt8) : (goodB b ∧ kr_Decode b = (rl (b.drop 3) (b.getD 2 0).toNat, 0)) ∨ (¬ goodB b ∧ kr_Decode b = ([], 4)) := by
 rw [kr_Decode]
 by_cases c : 3 ≤ b.length ∧ slc b 0 2 = [107, 114] ∧ b.length = 3 + (b.getD 2 0).toNat * 32
 ·obtain ⟨c1, c2, c3⟩ := c
  have e : ((decide ((b.length : Int) < 3)) || (((slc b 0 2) != [107, 114]) || ((b.length : Int) != (3 + (((b.getD 2 0).toNat : Int) * 32))))) = false := by
   simp only [Bool.or_eq_false_iff, decide_eq_false_iff_not, bne_eq_false_iff_eq]
   exact ⟨by omega, c2, by omega⟩
  rw [e, cond_false, rng_dec b _ 0 [] rfl]
  have hn : nch (slc b 3 (b.length : Int)).length 32 = (b.getD 2 0).toNat := by unfold nch; rw [slc_len]; omega
  rw [hn, slc_drop]
  have hr : ([] ++ (List.range (b.getD 2 0).toNat).map fun i => (u32i (((0 + i : Nat) : Int) + 1), chk (b.drop (3 : Int).toNat) 32 (0 + i))) = rl (b.drop 3) (b.getD 2 0).toNat := by
   rw [rl, List.nil_append]; simp only [Nat.zero_add]; rfl
  rw [hr]
  show (_ ∧ kr_Decode_rk1 _ = _) ∨ (_ ∧ kr_Decode_rk1 _ = _)
  rw [kr_Decode_rk1, bnd_eq]
  by_cases ok : okR (rl (b.drop 3) (b.getD 2 0).toNat)
  ·left
   rw [ring_yes ok]
   obtain ⟨d1, d2⟩ := (rl_ok _ _).1 ok
   exact ⟨⟨c1, c2, c3, d1, d2⟩, rfl⟩
  ·right
   rw [ring_no ok]
   exact ⟨fun g => ok ((rl_ok _ _).2 ⟨g.2.2.2.1, g.2.2.2.2⟩), rfl⟩
 ·right
  have e : ((decide ((b.length : Int) < 3)) || (((slc b 0 2) != [107, 114]) || ((b.length : Int) != (3 + (((b.getD 2 0).toNat : Int) * 32))))) = true := by
   rw [← Bool.not_eq_false]
   intro e
   simp only [Bool.or_eq_false_iff, decide_eq_false_iff_not, bne_eq_false_iff_eq] at e
   exact c ⟨by omega, e.2.1, by omega⟩
  rw [e, cond_true]
  exact ⟨fun g => c ⟨g.1, g.2.1, g.2.2.1⟩, rfl⟩
theorem dec_good {b : List UInt8} (h : goodB b) : kr_Decode b = (rl (b.drop 3) (b.getD 2 0).toNat, 0) := by
 rcases dec_or b with ⟨_, e⟩ | ⟨e, _⟩
 ·exact e
 ·exact absurd h e
theorem keys_chk : ∀ (l : List Tm) (i : Nat), i < l.length → chk (keysOf l) 32 i = fxa 32 (l.getD i (0, [])).2
 | [], _, h => absurd h (Nat.not_lt_zero _)
 | a :: l, 0, _ => by
  show ((fxa 32 a.2 ++ keysOf l).drop (0 * 32)).take 32 = fxa 32 a.2
  rw [Nat.zero_mul, List.drop_zero, List.take_append_of_le_length (by rw [fxa_len]; exact Nat.le_refl _), List.take_of_length_le (by rw [fxa_len]; exact Nat.le_refl _)]
 | a :: l, i + 1, h => by
  show ((fxa 32 a.2 ++ keysOf l).drop ((i + 1) * 32)).take 32 = fxa 32 (l.getD i (0, [])).2
  rw [← keys_chk l i (by simpa using h), chk, List.drop_append, List.drop_of_length_le (by rw [fxa_len]; omega), List.nil_append, fxa_len, show (i + 1) * 32 - 32 = i * 32 by omega]
theorem enc_good {l : List Tm} (h : okR l) : goodB ([107, 114, u8i (l.length : Int)] ++ keysOf l) := by
 have a := h.1
 have b := h.2.1
 have e : ([107, 114, u8i (l.length : Int)] ++ keysOf l).getD 2 0 = u8i (l.length : Int) := rfl
 refine ⟨by simp, rfl, ?_, ?_, ?_⟩
 ·rw [e, u8i_k _ (by omega), List.length_append, keysOf_len]; simp; omega
 ·rw [e, u8i_k _ (by omega)]; exact a
 ·rw [e, u8i_k _ (by omega)]; exact b
theorem dec_enc {l : List Tm} (h : okR l) : kr_Decode ([107, 114, u8i (l.length : Int)] ++ keysOf l) = (rl (keysOf l) l.length, 0) := by
 rw [dec_good (enc_good h)]
 have e : ([107, 114, u8i (l.length : Int)] ++ keysOf l).getD 2 0 = u8i (l.length : Int) := rfl
 have b := h.2.1
 rw [e, u8i_k _ (by omega)]; rfl
theorem ring_find_eq {l : List Tm} (h : okR l) (t : Nat) (ht : t < l.length) : kr_Find l (u32i ((t : Int) + 1)) = (fxa 32 (l.getD t (0, [])).2, 0) := by
 have hl := h.2.1
 have hu : (u32i ((t : Int) + 1)).toNat = t + 1 := by rw [show ((t : Int) + 1) = ((t + 1 : Nat) : Int) by omega, u32i_nat _ (by omega)]
 have hn := u32i_nat l.length (by omega)
 have e : ((decide (u32i ((t : Int) + 1) < 1)) || (decide (u32i ((t : Int) + 1) > (u32i (l.length : Int))))) = false := by
  simp only [Bool.or_eq_false_iff, decide_eq_false_iff_not]
  refine ⟨?_, ?_⟩
  ·rw [UInt32.not_lt, UInt32.le_iff_toNat_le, hu]; show 1 ≤ t + 1; omega
  ·show ¬ (u32i (l.length : Int) < u32i ((t : Int) + 1))
   rw [UInt32.not_lt, UInt32.le_iff_toNat_le, hu, hn]; omega
 have hx := (find_ix (l := l) hl e).1
 rw [kr_Find, bnd_eq, ring_yes h, e]
 show (fxa 32 (l.getD (((u32i ((t : Int) + 1) - 1).toNat : Int).toNat) (0, [])).2, 0) = _
 rw [hx, hu, Int.toNat_natCast, Nat.add_sub_cancel]
@[simp] theorem ring_find_len (l : List Tm) (t : UInt32) : (kr_Find l t).1.length = 32 := by
 rw [kr_Find, bnd_eq]
 cases !(decide (kr_Check l = 0)) with
 | true => rfl
 | false =>
  rw [cond_false]
  cases (decide (t < 1)) || (decide (t > (u32i (l.length : Int)))) with
  | true => rfl
  | false => exact fxa_len _ _
theorem sure19 : b9_sure = true := by kernel_rfl
end Go.Proofs.YtbppcnhfeobefabDoor

import Derived.Test.YtbppcnhfeobefabDoorG5
import Derived.Test.YtbppcnhfeobefabDoorPK2
import Derived.Test.YtbppcnhfeobefabDoorP5
set_option linter.unusedVariables false
namespace Go.Proofs.YtbppcnhfeobefabDoor
open Go Go.Vw Go.Proofs
theorem fxa_self (l : List UInt8) (h : l.length = 32) : fxa 32 l = l := by
 apply ext_gD (d := (0 : UInt8))
 ·rw [fxa_len, h]
 ·intro i hi
  rw [fxa, gD_range]
  rw [fxa_len] at hi
  rw [if_pos hi]
theorem fxa_fxa (l : List UInt8) : fxa 32 (fxa 32 l) = fxa 32 l := fxa_self _ (fxa_len 32 l)
def keysOf (l : List Tm) : List UInt8 := l.flatMap fun t => fxa 32 t.2
theorem keysOf_len (l : List Tm) : (keysOf l).length = 32 * l.length := by
 induction l with
 | nil => rfl
 | cons a l ih => rw [keysOf, List.flatMap_cons, List.length_append, fxa_len]; rw [keysOf] at ih; rw [ih, List.length_cons]; omega
theorem ring_enc_l1 (l : List Tm) : ∀ (m i : Nat) (o : List UInt8), i ≤ l.length → l.length - i < m → kr_Encode_l1 l m (i : Int) o = .brk (o ++ keysOf (l.drop i))
 | 0, _, _, _, h => absurd h (Nat.not_lt_zero _)
 | m + 1, i, o, h1, h2 => by
  rw [kr_Encode_l1]
  by_cases c : i < l.length
  ·rw [decide_eq_true (by omega : (i : Int) < (l.length : Int)), cond_true, Int.toNat_natCast]
   have w := ring_enc_l1 l m (i + 1) (o ++ fxa 32 (l.getD i ((0, []) : UInt32 × List UInt8)).2) (by omega) (by omega)
   rw [Int.natCast_add i 1] at w
   refine w.trans ?_
   rw [drop_cons l i (0, []) c, keysOf, keysOf, List.flatMap_cons, List.append_assoc]
  ·rw [decide_eq_false (by omega : ¬ (i : Int) < (l.length : Int)), cond_false, List.drop_of_length_le (by omega)]; simp [keysOf]
theorem ring_enc_ok {l : List Tm} (h : okR l) : kr_Encode l = ([107, 114, u8i (l.length : Int)] ++ keysOf l, 0) := by
 rw [kr_Encode, bnd_eq, ring_yes h]
 show Lo.el (kr_Encode_l1 l _ ((0 : Nat) : Int) _) _ = _
 rw [ring_enc_l1 l _ 0 _ (Nat.zero_le _) (by omega)]
 show kr_Encode_k1 _ = _
 rw [kr_Encode_k1, List.drop_zero]
theorem ring_enc_no {l : List Tm} (h : ¬ okR l) : kr_Encode l = ([], 1) := by
 rw [kr_Encode, bnd_eq, ring_no h]; rfl
theorem ring_enc_len (l : List Tm) : (kr_Encode l).1.length ≤ 515 := by
 by_cases h : okR l
 ·rw [ring_enc_ok h]
  show ([107, 114, u8i (l.length : Int)] ++ keysOf l).length ≤ 515
  rw [List.length_append, keysOf_len]
  have := h.2.1
  simp; omega
 ·rw [ring_enc_no h]; simp
def rl (q : List UInt8) (n : Nat) : List Tm := (List.range n).map fun i : Nat => (u32i ((i : Int) + 1), chk q 32 i)
theorem rl_len (q : List UInt8) (n : Nat) : (rl q n).length = n := by simp [rl]
theorem rl_get (q : List UInt8) (n i : Nat) (h : i < n) : (rl q n).getD i (0, []) = (u32i ((i : Int) + 1), chk q 32 i) := by rw [rl, gD_range, if_pos h]
theorem rl_ok (q : List UInt8) (n : Nat) : okR (rl q n) ↔ 1 ≤ n ∧ n ≤ 16 := by
 constructor
 ·intro h; have a := h.1; have b := h.2.1; rw [rl_len] at a b; exact ⟨a, b⟩
 ·rintro ⟨a, b⟩
  refine ⟨by rw [rl_len]; exact a, by rw [rl_len]; exact b, fun i hi => ?_⟩
  rw [rl_len] at hi
  rw [rl_get q n i hi]
  show (u32i ((i : Int) + 1)).toNat = _
  rw [show ((i : Int) + 1) = ((i + 1 : Nat) : Int) by omega, u32i_nat _ (by omega)]
theorem rng_dec (b : List UInt8) : ∀ (n k : Nat) (z : List Tm), z.length = k → rng (fun kk z => kr_Decode_rb1 b kk z) n k z = .inl (z ++ (List.range n).map fun i => (u32i (((k + i : Nat) : Int) + 1), chk (slc b 3 (b.length : Int)) 32 (k + i)))
 | 0, k, z, h => by rw [rng]; simp
 | n + 1, k, z, h => by
  rw [rng, kr_Decode_rb1]
  show rng _ n (k + 1) (z ++ [_]) = _
  rw [rng_dec b n (k + 1) _ (by simp [h]), h, List.append_assoc, List.range_succ_eq_map, List.map_cons, List.map_map, List.singleton_append]
  have : ∀ i : Nat, k + 1 + i = k + (i + 1) := fun i => by omega
  simp only [this]; rfl
def goodB (b : List UInt8) : Prop := 3 ≤ b.length ∧ slc b 0 2 = [107, 114] ∧ b.length = 3 + (b.getD 2 0).toNat * 32 ∧ 1 ≤ (b.getD 2 0).toNat ∧ (b.getD 2 0).toNat ≤ 16
theorem dec_or (b : List UInt8) : (goodB b ∧ kr_Decode b = (rl (b.drop 3) (b.getD 2 0).toNat, 0)) ∨ (¬ goodB b ∧ kr_Decode b = ([], 4)) := by
 rw [kr_Decode]
 by_cases c : 3 ≤ b.length ∧ slc b 0 2 = [107, 114] ∧ b.length = 3 + (b.getD 2 0).toNat * 32
 ·obtain ⟨c1, c2, c3⟩ := c
  have e : ((decide ((b.length : Int) < 3)) || (((slc b 0 2) != [107, 114]) || ((b.length : Int) != (3 + (((b.getD 2 0).toNat : Int) * 32))))) = false := by
   simp only [Bool.or_eq_false_iff, decide_eq_false_iff_not, bne_eq_false_iff_eq]
   exact ⟨by omega, c2, by omega⟩
  rw [e, cond_false, rng_dec b _ 0 [] rfl]
  have hn : nch (slc b 3 (b.length : Int)).length 32 = (b.getD 2 0).toNat := by unfold nch; rw [slc_len]; omega
  rw [hn, slc_drop]
  have hr : ([] ++ (List.range (b.getD 2 0).toNat).map fun i => (u32i (((0 + i : Nat) : Int) + 1), chk (b.drop (3 : Int).toNat) 32 (0 + i))) = rl (b.drop 3) (b.getD 2 0).toNat := by
   rw [rl, List.nil_append]; simp only [Nat.zero_add]; rfl
  rw [hr]
  show (_ ∧ kr_Decode_rk1 _ = _) ∨ (_ ∧ kr_Decode_rk1 _ = _)
  rw [kr_Decode_rk1, bnd_eq]
  by_cases ok : okR (rl (b.drop 3) (b.getD 2 0).toNat)
  ·left
   rw [ring_yes ok]
   obtain ⟨d1, d2⟩ := (rl_ok _ _).1 ok
   exact ⟨⟨c1, c2, c3, d1, d2⟩, rfl⟩
  ·right
   rw [ring_no ok]
   exact ⟨fun g => ok ((rl_ok _ _).2 ⟨g.2.2.2.1, g.2.2.2.2⟩), rfl⟩
 ·right
  have e : ((decide ((b.length : Int) < 3)) || (((slc b 0 2) != [107, 114]) || ((b.length : Int) != (3 + (((b.getD 2 0).toNat : Int) * 32))))) = true := by
   rw [← Bool.not_eq_false]
   intro e
   simp only [Bool.or_eq_false_iff, decide_eq_false_iff_not, bne_eq_false_iff_eq] at e
   exact c ⟨by omega, e.2.1, by omega⟩
  rw [e, cond_true]
  exact ⟨fun g => c ⟨g.1, g.2.1, g.2.2.1⟩, rfl⟩
theorem ring_find_eq {l : List Tm} (h : okR l) (t : Nat) (ht : t < l.length) : kr_Find l (u32i ((t : Int) + 1)) = (fxa 32 (l.getD t (0, [])).2, 0) := by
 have hl := h.2.1
 have hu : (u32i ((t : Int) + 1)).toNat = t + 1 := by rw [show ((t : Int) + 1) = ((t + 1 : Nat) : Int) by omega, u32i_nat _ (by omega)]
 have hn := u32i_nat l.length (by omega)
 have e : ((decide (u32i ((t : Int) + 1) < 1)) || (decide (u32i ((t : Int) + 1) > (u32i (l.length : Int))))) = false := by
  simp only [Bool.or_eq_false_iff, decide_eq_false_iff_not]
  refine ⟨?_, ?_⟩
  ·rw [UInt32.not_lt, UInt32.le_iff_toNat_le, hu]; show 1 ≤ t + 1; omega
  ·show ¬ (u32i (l.length : Int) < u32i ((t : Int) + 1))
   rw [UInt32.not_lt, UInt32.le_iff_toNat_le, hu, hn]; omega
 have hx := (find_ix (l := l) hl e).1
 rw [kr_Find, bnd_eq, ring_yes h, e]
 show (fxa 32 (l.getD (((u32i ((t : Int) + 1) - 1).toNat : Int).toNat) (0, [])).2, 0) = _
 rw [hx, hu, Int.toNat_natCast, Nat.add_sub_cancel]
@[simp] theorem ring_find_len (l : List Tm) (t : UInt32) : (kr_Find l t).1.length = 32 := by
 rw [kr_Find, bnd_eq]
 cases !(decide (kr_Check l = 0)) with
 | true => rfl
 | false =>
  rw [cond_false]
  cases (decide (t < 1)) || (decide (t > (u32i (l.length : Int)))) with
  | true => rfl
  | false => exact fxa_len _ _
theorem u32pred {t : UInt32} (h : ¬ t < 1) : (t - 1).toNat = t.toNat - 1 ∧ 1 ≤ t.toNat := by
 rw [UInt32.not_lt, UInt32.le_iff_toNat_le] at h
 have a' : 1 ≤ t.toNat := h
 refine ⟨?_, a'⟩
 rw [UInt32.toNat_sub_of_le _ _ (by rw [UInt32.le_iff_toNat_le]; exact h)]; rfl
theorem sure19 : b9_sure = true := by kernel_rfl
end Go.Proofs.YtbppcnhfeobefabDoor

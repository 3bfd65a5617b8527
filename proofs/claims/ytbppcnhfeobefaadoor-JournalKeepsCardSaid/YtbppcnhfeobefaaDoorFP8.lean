import Derived.Test.YtbppcnhfeobefaaDoorF2
import Derived.Test.YtbppcnhfeobefaaDoorF3
import Derived.Test.YtbppcnhfeobefaaDoorEnVx8
import Derived.Test.YtbppcnhfeobefaaDoorPD3
set_option linter.unusedVariables false
namespace Go.Proofs.YtbppcnhfeobefaaDoor
open Go Go.Vw Go.Proofs
theorem u32eq {a b : UInt32} (h : a.toNat = b.toNat) : a = b := UInt32.toNat_inj.1 h
theorem u8i_nat (n : Nat) (h : n < 256) : (u8i (n : Int)).toNat = n := by
 rw [u8i, UInt8.toNat_ofNat']; omega
theorem u8i_mod (n : Nat) : (u8i (n : Int)).toNat = n % 256 := by
 rw [u8i, UInt8.toNat_ofNat']; omega
theorem s32 (t : UInt32) {k : Int} {m : Nat} (hk : 2 ^ k.toNat = m) : (shr32 t k).toUInt8.toNat = t.toNat / m % 256 := by
 have hl := t.toNat_lt
 have : t.toNat / m ≤ t.toNat := Nat.div_le_self _ _
 rw [UInt32.toNat_toUInt8, shr32, UInt32.toNat_ofNat', hk]
 omega
theorem p8 : (2 : Nat) ^ Int.toNat 8 = 256 := by decide
theorem p16 : (2 : Nat) ^ Int.toNat 16 = 65536 := by decide
theorem p24 : (2 : Nat) ^ Int.toNat 24 = 16777216 := by decide
theorem or_step (a b m i : Nat) (h : 2 ^ i = m) (hb : b < m) : (a * m ||| b) = a * m + b := by
 subst h
 have := Nat.shiftLeft_add_eq_or_of_lt hb a
 rw [Nat.shiftLeft_eq] at this
 exact this.symm
theorem size_or (a b : UInt8) : orI ((a.toNat : Int) * 256) (b.toNat : Int) = ((a.toNat * 256 + b.toNat : Nat) : Int) := by
 have h1 := a.toNat_lt; have h2 := b.toNat_lt
 have := orI_nat (a.toNat * 256) b.toNat (by omega) (by omega)
 rw [or_step _ _ 256 8 (by decide) (by omega)] at this
 rw [← this]; congr 1
abbrev num4 (a b c d : UInt8) : Nat := a.toNat * 16777216 + b.toNat * 65536 + c.toNat * 256 + d.toNat
theorem sh_nat (a : UInt8) (k : Int) (m : Nat) (hk : 2 ^ k.toNat = m) (hm : m ≤ 16777216) : (shl32 a.toUInt32 k).toNat = a.toNat * m := by
 have h := a.toNat_lt
 have h2 : a.toNat * m ≤ 255 * 16777216 := Nat.mul_le_mul (by omega) hm
 rw [shl32, UInt32.toNat_ofNat', hk, UInt8.toNat_toUInt32]
 exact Nat.mod_eq_of_lt (by omega)
theorem num4_or (a b c d : UInt8) : ((((shl32 a.toUInt32 24) ||| (shl32 b.toUInt32 16)) ||| (shl32 c.toUInt32 8)) ||| d.toUInt32).toNat = num4 a b c d := by
 have h1 := a.toNat_lt; have h2 := b.toNat_lt; have h3 := c.toNat_lt; have h4 := d.toNat_lt
 rw [UInt32.toNat_or, UInt32.toNat_or, UInt32.toNat_or, sh_nat a 24 _ p24 (by omega), sh_nat b 16 _ p16 (by omega), sh_nat c 8 _ p8 (by omega), UInt8.toNat_toUInt32]
 rw [or_step a.toNat (b.toNat * 65536) 16777216 24 (by decide) (by omega)]
 rw [show a.toNat * 16777216 + b.toNat * 65536 = (a.toNat * 256 + b.toNat) * 65536 by omega, or_step _ (c.toNat * 256) 65536 16 (by decide) (by omega)]
 rw [show (a.toNat * 256 + b.toNat) * 65536 + c.toNat * 256 = ((a.toNat * 256 + b.toNat) * 256 + c.toNat) * 256 by omega, or_step _ d.toNat 256 8 (by decide) (by omega)]
 unfold num4; omega
abbrev sbb (a0 : UInt32) (a1 : List UInt8) (x1 t231 : Int) : List UInt8 := (((((((z64.set 0 ((shr32 a0 24).toUInt8)).set 1 ((shr32 a0 16).toUInt8)).set 2 ((shr32 a0 8).toUInt8)).set 3 a0.toUInt8).set 4 (u8i t231)).set 5 (u8i x1)).set 6 (u8i ((a1.length : Int) / 256))).set 7 (u8i (a1.length : Int))
section
variable (a0 : UInt32) (a1 : List UInt8) (x1 t : Int)
theorem sct_def : sct a0 a1 x1 t = cpy (sbb a0 a1 x1 t) 8 56 (slc a1 (t * 56) (a1.length : Int)) := by
 rw [sct, show z64.length - 8 = 56 by simp]
theorem sb_len : (sbb a0 a1 x1 t).length = 64 := by simp only [sbb, List.length_set, List.length_replicate]
theorem sb_hi (k : Nat) (h : 8 ≤ k) : (sbb a0 a1 x1 t).getD k 0 = 0 := by
 simp only [sbb]
 rw [gD_set, if_neg (by omega), gD_set, if_neg (by omega), gD_set, if_neg (by omega), gD_set, if_neg (by omega), gD_set, if_neg (by omega), gD_set, if_neg (by omega), gD_set, if_neg (by omega), gD_set, if_neg (by omega), gD_rep]
 split <;> rfl
theorem sct_lo (k : Nat) (h : k < 8) : (sct a0 a1 x1 t).getD k 0 = (sbb a0 a1 x1 t).getD k 0 := by
 rw [sct_def, gD_cpy _ _ _ _ _ _ (by rw [sb_len]; omega), if_neg (by omega)]
theorem sct_hi (k : Nat) (h : 8 ≤ k) (h2 : k < 64) (h0 : 0 ≤ t) : (sct a0 a1 x1 t).getD k 0 = a1.getD (56 * t.toNat + (k - 8)) 0 := by
 have e : (t * 56).toNat = 56 * t.toNat := by omega
 rw [sct_def, gD_cpy _ _ _ _ _ _ (by rw [sb_len]; omega), slc_drop, e, List.length_drop, gD_drop, sb_hi _ _ _ _ k h]
 split
 ·rfl
 ·rw [gD_out _ _ _ (by omega)]
theorem sct0 : (sct a0 a1 x1 t).getD 0 0 = (shr32 a0 24).toUInt8 := (sct_lo a0 a1 x1 t 0 (by omega)).trans rfl
theorem sct1 : (sct a0 a1 x1 t).getD 1 0 = (shr32 a0 16).toUInt8 := (sct_lo a0 a1 x1 t 1 (by omega)).trans rfl
theorem sct2 : (sct a0 a1 x1 t).getD 2 0 = (shr32 a0 8).toUInt8 := (sct_lo a0 a1 x1 t 2 (by omega)).trans rfl
theorem sct3 : (sct a0 a1 x1 t).getD 3 0 = a0.toUInt8 := (sct_lo a0 a1 x1 t 3 (by omega)).trans rfl
theorem sct4 : (sct a0 a1 x1 t).getD 4 0 = u8i t := (sct_lo a0 a1 x1 t 4 (by omega)).trans rfl
theorem sct5 : (sct a0 a1 x1 t).getD 5 0 = u8i x1 := (sct_lo a0 a1 x1 t 5 (by omega)).trans rfl
theorem sct6 : (sct a0 a1 x1 t).getD 6 0 = u8i ((a1.length : Int) / 256) := (sct_lo a0 a1 x1 t 6 (by omega)).trans rfl
theorem sct7 : (sct a0 a1 x1 t).getD 7 0 = u8i (a1.length : Int) := (sct_lo a0 a1 x1 t 7 (by omega)).trans rfl
theorem sct_seq : (fr_Seq (sct a0 a1 x1 t)) = (a0, 0) := by
 have hl := a0.toNat_lt
 rw [fr_Seq, sct_length, sct0, sct1, sct2, sct3, show (((64 : Nat) : Int) != 64) = false from rfl, cond_false]
 congr 1
 apply u32eq
 rw [num4_or, num4, s32 a0 p24, s32 a0 p16, s32 a0 p8, UInt32.toNat_toUInt8]
 omega
end
theorem eq_bytes (a b : List UInt8) : sEb a b = true ↔ a = b := by
 rw [sEb]
 by_cases h : a.length = b.length
 ·rw [show ((a.length : Int) != (b.length : Int)) = false by simp [h], cond_false]
  rcases cmpLoop (f := sEb_l1 a b) (n := (a.length : Int)) (p := fun i => (a.getD i 0) != (b.getD i 0)) (r := false) (fun m i _ => by rw [sEb_l1]) _ 0 (by omega) (Nat.lt_succ_self _) with ⟨q, e⟩ | ⟨⟨j, h1, h2, q⟩, e⟩
  ·rw [e]
   refine ⟨fun _ => ext_gD 0 h (fun i hi => ?_), fun _ => by show sEb_k1 = true; rw [sEb_k1]⟩
   have := q i (by omega) (by omega)
   simpa using this
  ·rw [e]
   refine ⟨fun h => absurd h (by simp [Lo.el]), fun h => ?_⟩
   subst h; simp at q
 ·rw [show ((a.length : Int) != (b.length : Int)) = true by simp; omega, cond_true]
  exact ⟨fun h => absurd h (by simp), fun e => absurd (by rw [e]) h⟩
theorem eq_lists (a b : tLB) : eqFuncEq a b = true ↔ a = b := by
 rw [eqFuncEq]
 by_cases h : a.length = b.length
 ·rw [show ((a.length : Int) != (b.length : Int)) = false by simp [h], cond_false]
  rcases cmpLoop (f := eqFuncEq_l1 a b) (n := (a.length : Int)) (p := fun i => !sEb (a.getD i []) (b.getD i [])) (r := false) (fun m i _ => by rw [eqFuncEq_l1, bnd_eq]) _ 0 (by omega) (Nat.lt_succ_self _) with ⟨q, e⟩ | ⟨⟨j, h1, h2, q⟩, e⟩
  ·rw [e]
   refine ⟨fun _ => ext_gD [] h (fun i hi => ?_), fun _ => by show eqFuncEq_k1 = true; rw [eqFuncEq_k1]⟩
   have := q i (by omega) (by omega)
   exact (eq_bytes _ _).1 (by simpa using this)
  ·rw [e]
   refine ⟨fun h => absurd h (by simp [Lo.el]), fun h => ?_⟩
   subst h
   rw [(eq_bytes _ _).2 rfl] at q; simp at q
 ·rw [show ((a.length : Int) != (b.length : Int)) = true by simp; omega, cond_true]
  exact ⟨fun h => absurd h (by simp), fun e => absurd (by rw [e]) h⟩
noncomputable def flat (l : tLB) (n : Nat) : List UInt8 := (List.range n).flatMap (fun k => (l.getD k []).drop 8)
noncomputable def sq (l : tLB) : UInt32 := (fr_Seq (l.getD 0 [])).1
noncomputable def nn (l : tLB) : Nat := ((l.getD 0 []).getD 5 0).toNat
noncomputable def zz (l : tLB) : Nat := ((l.getD 0 []).getD 6 0).toNat * 256 + ((l.getD 0 []).getD 7 0).toNat
noncomputable def bb (l : tLB) : List UInt8 := (flat l (nn l)).take (zz l)
def AllIn (l : tLB) : Prop := ∀ i, i < nn l → l.getD i [] = sct (sq l) (bb l) (nn l) i
def Bad (l : tLB) : Prop := l.length = 0 ∨ (l.getD 0 []).length ≠ 64 ∨ sq l = 0 ∨ nn l = 0 ∨ (nn l : Int) ≠ fr_Sectors (zz l) ∨ l.length < nn l
theorem sectors_room (s : Int) (h : fr_Sectors s ≠ 0) : s ≤ 56 * fr_Sectors s := by
 rw [fr_Sectors] at h ⊢
 cases c : (decide (s < 0)) || (decide (s > 14280)) with
 | true => rw [c, cond_true] at h; exact absurd rfl h
 | false =>
  rw [cond_false]
  split <;> omega
theorem sectors_pos (s : Int) (h : 0 ≤ s) (h2 : s ≤ 14280) : 1 ≤ fr_Sectors s := by
 rw [fr_Sectors, show ((decide (s < 0)) || (decide (s > 14280))) = false by simp; omega, cond_false]
 split <;> omega
theorem drop_min (s : List UInt8) : slc s (if (s.length : Int) < 8 then (s.length : Int) else 8) (s.length : Int) = s.drop 8 := by
 rw [slc_drop]
 split
 ·rw [List.drop_of_length_le (by omega), List.drop_of_length_le (by omega)]
 ·rfl
theorem join_l1 (l : tLB) (m : Nat) (h : (((slc l 0 (((l.getD 0 []).getD 5 0).toNat : Int)).length : Int) - 0).toNat < m) (hl : nn l ≤ l.length) : fr_Join_l1 l m 0 [] = .brk (flat l (nn l)) := by
 have e : (slc l 0 (((l.getD 0 []).getD 5 0).toNat : Int)).length = nn l := by rw [slc_len]; unfold nn at *; omega
 have := appLoop (f := fr_Join_l1 l) (n := ((slc l 0 (((l.getD 0 []).getD 5 0).toNat : Int)).length : Int)) (g := fun i => (slc ((slc l 0 (((l.getD 0 []).getD 5 0).toNat : Int)).getD i.toNat []) (if (((slc l 0 (((l.getD 0 []).getD 5 0).toNat : Int)).getD i.toNat []).length : Int) < 8 then (((slc l 0 (((l.getD 0 []).getD 5 0).toNat : Int)).getD i.toNat []).length : Int) else 8) (((slc l 0 (((l.getD 0 []).getD 5 0).toNat : Int)).getD i.toNat []).length : Int))) (fun m i o _ => by rw [fr_Join_l1]) m 0 [] (by omega) h
 rw [this, e, List.nil_append, flat]
 congr 1
 rw [show ((nn l : Int) - 0).toNat = nn l by omega]
 refine flat_congr _ _ _ (fun i hi => ?_)
 show slc _ _ _ = _
 rw [drop_min, slc_getD, if_pos (by unfold nn at hi; omega)]
 congr 2; omega
theorem flat_length (l : tLB) (n : Nat) (h : ∀ i, i < n → (l.getD i []).length = 64) : (flat l n).length = 56 * n :=
 flat_len _ 56 n (fun i hi => by rw [List.length_drop, h i hi])
theorem flat_get (l : tLB) (n i j : Nat) (h : ∀ i, i < n → (l.getD i []).length = 64) (hi : i < n) (hj : j < 56) : (flat l n).getD (56 * i + j) 0 = (l.getD i []).getD (8 + j) 0 := by
 have := flat_gD (fun k => (l.getD k []).drop 8) 56 0 i j hj n (fun i hi => by rw [List.length_drop, h i hi]) hi
 rw [flat, this, gD_drop]
theorem bb_length (l : tLB) (h : ∀ i, i < nn l → (l.getD i []).length = 64) (hn : nn l ≠ 0) (hs : (nn l : Int) = fr_Sectors (zz l)) : (bb l).length = zz l := by
 have := sectors_room (zz l) (by omega)
 rw [bb, List.length_take, flat_length l _ h]; omega
theorem again (l : tLB) (h0 : sq l ≠ 0) (hs : (nn l : Int) = fr_Sectors (zz l)) (hl : nn l ≤ l.length) :
  ((fr_Split (sq l) (bb l)).2 = 0 ∧ (fr_Split (sq l) (bb l)).1 = l.take (nn l)) ↔ (nn l ≠ 0 ∧ AllIn l) := by
 have hb : (bb l).length ≤ zz l := by rw [bb, List.length_take]; omega
 have hb2 : nn l = 0 → (bb l).length = 0 := by intro h; rw [bb, h]; simp [flat]
 have hf := sectors_fact (zz l)
 have hp : 1 ≤ fr_Sectors ((bb l).length : Int) := sectors_pos _ (by omega) (by omega)
 rw [split_eq, show ((sq l == 0) || (fr_Sectors ((bb l).length : Int) == 0)) = false by simp [h0]; omega, cond_false]
 show (0 = 0 ∧ List.map _ _ = _) ↔ _
 constructor
 ·rintro ⟨_, e⟩
  have el := congrArg List.length e
  rw [List.length_map, List.length_range, List.length_take] at el
  have en : (fr_Sectors ((bb l).length : Int)) = nn l := by omega
  refine ⟨by omega, fun i hi => ?_⟩
  have : (_ : tLB).getD i [] = (_ : tLB).getD i [] := congrArg (fun x => List.getD x i []) e
  rw [gD_range, gD_take, if_pos hi, if_pos (by omega), en] at this
  exact this.symm
 ·rintro ⟨hn, ha⟩
  have h64 : ∀ i, i < nn l → (l.getD i []).length = 64 := fun i hi => by rw [ha i hi, sct_length]
  have hz := bb_length l h64 hn hs
  have en : (fr_Sectors ((bb l).length : Int)) = nn l := by rw [hz, hs]
  refine ⟨rfl, ext_gD [] (by rw [List.length_map, List.length_range, List.length_take]; omega) (fun i hi => ?_)⟩
  rw [List.length_map, List.length_range] at hi
  rw [gD_range, gD_take, if_pos hi, if_pos (by omega), en]
  exact (ha i (by omega)).symm
theorem join_bad (l : tLB) (h : Bad l ∨ ¬ AllIn l) : fr_Join l = (0, [], 0, 4) := by
 rw [fr_Join]
 cases c : ((l.length : Int) == 0) || (((l.getD 0 []).length : Int) != 64) with
 | true => rfl
 | false =>
  rw [cond_false, bnd_eq, bnd_eq]
  simp only [Bool.or_eq_false_iff, beq_eq_false_iff_ne, bne_eq_false_iff_eq] at c
  cases d : (!(decide ((fr_Seq (l.getD 0 [])).2 = 0))) || (((fr_Seq (l.getD 0 [])).1 == 0) || (((((l.getD 0 []).getD 5 0).toNat : Int) != fr_Sectors (orI ((((l.getD 0 []).getD 6 0).toNat : Int) * 256) (((l.getD 0 []).getD 7 0).toNat : Int))) || (decide ((l.length : Int) < (((l.getD 0 []).getD 5 0).toNat : Int))))) with
  | true => rfl
  | false =>
   rw [cond_false]
   rw [size_or] at *
   simp only [Bool.or_eq_false_iff, beq_eq_false_iff_ne, bne_eq_false_iff_eq, decide_eq_false_iff_not] at d
   have hsq : sq l ≠ 0 := d.2.1
   have hs : (nn l : Int) = fr_Sectors (zz l) := d.2.2.1
   have hl : nn l ≤ l.length := by have := d.2.2.2; unfold nn; omega
   rw [join_l1 l _ (by omega) hl]
   show fr_Join_k1 l _ (flat l (nn l)) = _
   rw [fr_Join_k1, size_or]
   have eb : prt (flat l (nn l)) 0 ((if ((flat l (nn l)).length : Int) < ((zz l : Nat) : Int) then ((flat l (nn l)).length : Int) else ((zz l : Nat) : Int)).toNat) = bb l := by
    rw [prt, bb, List.drop_zero]
    split
    ·rw [List.take_of_length_le (by omega), List.take_of_length_le (by omega)]
    ·congr 1
   have eb' := eb
   unfold zz at eb'
   rw [eb', bnd_eq, bnd_eq]
   have ag := again l hsq hs hl
   have n1 : ¬ ((fr_Split (sq l) (bb l)).2 = 0 ∧ (fr_Split (sq l) (bb l)).1 = l.take (nn l)) := by
    rw [ag]
    rintro ⟨a, b⟩
    rcases h with h | h
    ·rcases h with h | h | h | h | h | h
     ·omega
     ·omega
     ·exact hsq h
     ·exact a h
     ·exact h hs
     ·omega
    ·exact h b
   have e2 : slc l 0 (((l.getD 0 []).getD 5 0).toNat : Int) = l.take (nn l) := by rw [slc_take]; rfl
   rw [e2, show (fr_Seq (l.getD 0 [])).1 = sq l from rfl]
   rw [show ((!(decide ((fr_Split (sq l) (bb l)).2 = 0))) || (!eqFuncEq (fr_Split (sq l) (bb l)).1 (l.take (nn l)))) = true from ?_]
   ·rfl
   ·cases q : eqFuncEq (fr_Split (sq l) (bb l)).1 (l.take (nn l)) with
    | false => simp
    | true =>
     have := (eq_lists _ _).1 q
     have : (fr_Split (sq l) (bb l)).2 ≠ 0 := fun h => n1 ⟨h, this⟩
     simp [this]
theorem join_good (l : tLB) (h : ¬ Bad l) (ha : AllIn l) : fr_Join l = (sq l, bb l, (nn l : Int), 0) := by
 simp only [Bad, not_or, Decidable.not_not] at h
 obtain ⟨h1, h2, h3, h4, h5, h6⟩ := h
 rw [fr_Join, show (((l.length : Int) == 0) || (((l.getD 0 []).length : Int) != 64)) = false by rw [h2]; simp only [Bool.or_eq_false_iff, beq_eq_false_iff_ne, bne_eq_false_iff_eq]; omega, cond_false, bnd_eq, bnd_eq, size_or]
 have hq : (fr_Seq (l.getD 0 [])).2 = 0 := by rw [fr_Seq, h2]; rfl
 rw [show ((!(decide ((fr_Seq (l.getD 0 [])).2 = 0))) || (((fr_Seq (l.getD 0 [])).1 == 0) || (((((l.getD 0 []).getD 5 0).toNat : Int) != fr_Sectors (((((l.getD 0 []).getD 6 0).toNat * 256 + ((l.getD 0 []).getD 7 0).toNat : Nat) : Int))) || (decide ((l.length : Int) < (((l.getD 0 []).getD 5 0).toNat : Int)))))) = false from ?_, cond_false, join_l1 l _ (by omega) (by omega)]
 ·show fr_Join_k1 l _ (flat l (nn l)) = _
  rw [fr_Join_k1, size_or]
  have eb : prt (flat l (nn l)) 0 ((if ((flat l (nn l)).length : Int) < ((zz l : Nat) : Int) then ((flat l (nn l)).length : Int) else ((zz l : Nat) : Int)).toNat) = bb l := by
   rw [prt, bb, List.drop_zero]
   split
   ·rw [List.take_of_length_le (by omega), List.take_of_length_le (by omega)]
   ·congr 1
  unfold zz at eb
  rw [eb, bnd_eq, bnd_eq]
  obtain ⟨a1, a2⟩ := (again l h3 h5 (by omega)).2 ⟨h4, ha⟩
  have e2 : slc l 0 (((l.getD 0 []).getD 5 0).toNat : Int) = l.take (nn l) := by rw [slc_take]; rfl
  rw [e2, show (fr_Seq (l.getD 0 [])).1 = sq l from rfl]
  rw [show ((!(decide ((fr_Split (sq l) (bb l)).2 = 0))) || (!eqFuncEq (fr_Split (sq l) (bb l)).1 (l.take (nn l)))) = false from ?_]
  ·rfl
  ·rw [a1, (eq_lists _ _).2 a2]; rfl
 ·rw [hq]
  simp only [Bool.or_eq_false_iff, beq_eq_false_iff_ne, bne_eq_false_iff_eq, decide_eq_false_iff_not]
  exact ⟨rfl, h3, h5, by have h6' := h6; unfold nn at h6'; omega⟩
end Go.Proofs.YtbppcnhfeobefaaDoor
namespace Go.Proofs.YtbppcnhfeobefaaDoor
open Go Go.Vw Go.Proofs
theorem lastW_64 (i : Int) : ∀ (w : List Wr) (b : List UInt8), (∀ j : Nat, (w.getD j (0, [])).2.length ≤ 64) → b.length ≤ 64 → (lastW i w b).length ≤ 64
 | [], _, _, hb => hb
 | x :: w, b, h, hb => lastW_64 i w _ (gw_tail h) (by
   cases x.1 == i with
   | true => exact h 0
   | false => exact hb)
theorem rd_fact {m : Nat} (d0 : Sc) (d1 : List Wr) (d2 : Int) (d3 : Bool) (i : Int) (h : okD m d0 d1 d2) : (dDRead d0 d1 d2 d3 i).1.length ≤ 64 := by
 rw [read_eq]
 cases !((decide (i ≥ 0)) && (decide (i < (d0.length : Int)))) with
 | true => exact Nat.zero_le _
 | false =>
  cases d3 with
  | true => exact Nat.zero_le _
  | false => exact lastW_64 i d1 _ h.2.2.2.2.1 (h.2.2.2.1 _)
theorem join_fact (l : tLB) : (fr_Join l).2.2.2 ≠ 0 ∨ (1 ≤ (fr_Join l).2.2.1 ∧ (fr_Join l).2.2.1 ≤ (l.length : Int)) := by
 by_cases h : Bad l ∨ ¬ AllIn l
 ·rw [join_bad l h]; exact .inl (by decide)
 ·have h1 : ¬ Bad l := fun q => h (.inl q)
  have h2 : AllIn l := Classical.not_not.1 fun q => h (.inr q)
  rw [join_good l h1 h2]
  unfold Bad at h1
  refine .inr ⟨?_, ?_⟩
  ·show 1 ≤ (nn l : Int); omega
  ·show (nn l : Int) ≤ _; omega
end Go.Proofs.YtbppcnhfeobefaaDoor
namespace Go.Proofs.YtbppcnhfeobefaaDoor
open Go Go.Vw Go.Proofs
theorem qj1_1 {p : Prop} (h : p := by first | omega | (simp; omega) | (exact app_le (by assumption) (one_le (by assumption)))) : p := h
theorem qj1_2 {p : Prop} (h : p := by first | rfl | (rw [mp_ids _ (fun _ => rfl)]; rfl)) : p := h
abbrev jOT := (tLB × (tLW) × Int × Bool) × Int × Int × UInt32
noncomputable def j_sectors_k1 (o2 : tLB) : tLB × Int × (Unit × Unit × Unit × Unit) :=
 (o2, 0, ((), (), (), ()))
noncomputable def j_sectors_l1 (d0 : tLB) (d1 : tLW) (d2 : Int) (d3 : Bool) (to : Int) : Nat → Int → (tLB) → Lo (tLB) (tLB × Int × (Unit × Unit × Unit × Unit))
 | 0, _, _ => .brk default
 | ml1 + 1, i1, o1 =>
  bif decide (i1 < to) then
   bnd (dDRead d0 d1 d2 d3 i1) fun x1 =>
   bif !(decide (x1.2.1 = 0)) then
    Lo.ret ([], x1.2.1, ((), (), (), ()))
   else
    j_sectors_l1 d0 d1 d2 d3 to ml1 (i1 + 1) (o1 ++ [x1.1])
  else
   Lo.brk o1
noncomputable def j_sectors (d0 : tLB) (d1 : tLW) (d2 : Int) (d3 : Bool) (from_ : Int) (to : Int) : tLB × Int × (Unit × Unit × Unit × Unit) :=
 bif (decide (from_ < 0)) || ((decide (from_ ≥ to)) || (decide (to > (d0.length : Int)))) then
  ([], 1, ((), (), (), ()))
 else
  Lo.el (j_sectors_l1 d0 d1 d2 d3 to ((to - from_).toNat + 1) from_ []) (fun z : tLB => j_sectors_k1 z)
def j_sectors_enc (d0 : tLB) (d1 : tLW) (d2 : Int) (d3 : Bool) (x : tLB × Int × (Unit × Unit × Unit × Unit)) : T × List (Nat × List T) := (.tup [.sl 1 .shr x.1.length (b8s .shr x.1), er 149 x.2.1], [(0, [.ref 21 1 0 d0.length, .ref 22 2 0 d1.length, ti d2, tb d3]), (21, b8s .shr d0), (22, fl gWq d1)])
theorem j_sectors_m (d0 : tLB) (d1 : tLW) (d2 : Int) (d3 : Bool) (from_ : Int) (to : Int) (hD : okD 1000 d0 d1 d2) : Meets Tryd.prog 107 [.addr 0 0, ti from_, ti to] ([(0, [.ref 21 1 0 d0.length, .ref 22 2 0 d1.length, ti d2, tb d3]), (21, b8s .shr d0), (22, fl gWq d1)]) [0, 21, 22] (.tup [.sl 1 .shr ((j_sectors d0 d1 d2 d3 from_ to).1).length (b8s .shr ((j_sectors d0 d1 d2 d3 from_ to).1)), er 149 ((j_sectors d0 d1 d2 d3 from_ to).2.1)]) ([(0, [.ref 21 1 0 d0.length, .ref 22 2 0 d1.length, ti d2, tb d3]), (21, b8s .shr d0), (22, fl gWq d1)]) := by
 refine Meets.enterX (E := E) (N := 50) (enc := (j_sectors_enc d0 d1 d2 d3)) (x := (j_sectors d0 d1 d2 d3 from_ to)) Tryd.func107 Tryd.call107 rfl rfl ?_
 intro Γ k hk
 have hl0 := hD.1
 refine Go.rx 20 {} [] [0, 1, 2] _ [(0, .addr 0 0), (1, ti from_), (2, ti to)] [(0, [.ref 21 1 0 d0.length, .ref 22 2 0 d1.length, ti d2, tb d3]), (21, b8s .shr d0), (22, fl gWq d1)] hk rfl kr .nil ?_
 clear hk; intro k hk
 refine Go.regJ 20 [(0, .addr 0 0), (1, ti from_), (2, ti to), (24, tb ((decide (from_ < 0)) || ((decide (from_ ≥ to)) || (decide (to > (d0.length : Int))))))] [(0, [.ref 21 1 0 d0.length, .ref 22 2 0 d1.length, ti d2, tb d3]), (21, b8s .shr d0), (22, fl gWq d1)] hk rfl ?_ ?_
 ·clear hk; intro k hk
  refine Go.br 20 (Pf := (PostX Γ (j_sectors_enc d0 d1 d2 d3))) hk rfl rfl ?_ ?_ <;> clear hk <;> intro ct1 k hk
  ·refine Go.rx 20 {} [] [6, 7] _ [(6, .leaf (.slice none 0 0)), (7, er 149 1)] [(0, [.ref 21 1 0 d0.length, .ref 22 2 0 d1.length, ti d2, tb d3]), (21, b8s .shr d0), (22, fl gWq d1)] hk rfl kr .nil ?_
   clear hk; intro k hk
   exact Go.lvx 20 [0, 21, 22] _ [.leaf (.slice none 0 0), er 149 1] Tryd.func107 hk rfl kr .nil (T.Le.tup (.cons (T.Le.nil _ _) (.cons (T.Le.of_eq rfl) .nil))) rfl (by first | rfl | (simp only [j_sectors_enc, T.ids, idsL, er_ids, List.append_nil, List.nil_append]; first | rfl | (rw [mp_ids _ (fun _ => rfl)]; rfl))) (.cons sb (.cons qj1_2 (.cons ((congrArg (fun z => subN z [0, 21, 22]) (fl_ids (g := gWq) (fun _ => rfl) d1)).trans rfl) .nil)))
  ·have ct11 : (decide (from_ < 0)) = false := (Bool.or_eq_false_iff.1 ct1).1
   have ct12 : ((decide (from_ ≥ to)) || (decide (to > (d0.length : Int)))) = false := (Bool.or_eq_false_iff.1 ct1).2
   have ct11p := of_decide_eq_false ct11
   have ct121 : (decide (from_ ≥ to)) = false := (Bool.or_eq_false_iff.1 ct12).1
   have ct122 : (decide (to > (d0.length : Int))) = false := (Bool.or_eq_false_iff.1 ct12).2
   have ct121p := of_decide_eq_false ct121
   have ct122p := of_decide_eq_false ct122
   refine Go.rx 20 { ws := [(2, { v := some (ti (to - from_)) }), (3, { id := 10 })] } [] [0, 1, 2, 8] _ [(0, .addr 0 0), (1, ti from_), (2, ti to), (8, .ref 10 1 0 0)] [(0, [.ref 21 1 0 d0.length, .ref 22 2 0 d1.length, ti d2, tb d3]), (21, b8s .shr d0), (22, fl gWq d1), (10, [])] hk rfl kr (.cons trivial (.cons (iw (to - from_) om) (.cons (om : 0 ≤ (0 : Int) ∧ (0 : Int) ≤ to - from_ ∧ (to - from_ : Int) < 9223372036854775808 ∧ ((24 : Nat) : Int) * (to - from_) ≤ 281474976710656) .nil))) ?_
   clear hk; intro k hk
   refine Go.rx 20 {} [] [0, 2, 8, 9] _ [(0, .addr 0 0), (2, ti to), (8, .ref 10 1 0 0), (9, ti from_)] [(0, [.ref 21 1 0 d0.length, .ref 22 2 0 d1.length, ti d2, tb d3]), (21, b8s .shr d0), (22, fl gWq d1), (10, [])] hk rfl kr .nil ?_
   clear hk; intro k hk
   refine Go.loopX 20 hk rfl ?_
   clear hk; intro kl1 kxl1 hl1 hxl1
   have Xl1 : ∀ (o2 : tLB), Go E Γ 107 50 [0, 21, 22] ((PostX Γ (j_sectors_enc d0 d1 d2 d3)) (j_sectors_k1 o2)) kxl1 (stL [(8, .ref 10 1 0 o2.length)] [(0, [.ref 21 1 0 d0.length, .ref 22 2 0 d1.length, ti d2, tb d3]), (21, b8s .shr d0), (22, fl gWq d1), (10, b8s .shr o2)]) := by
    intro o2
    refine Go.frz [] [21, 22] 8 10 (b8s .shr o2) _ [(8, .dead)] [(0, [.ref 21 1 0 d0.length, .ref 22 2 0 d1.length, ti d2, tb d3]), (21, b8s .shr d0), (22, fl gWq d1)] rfl rfl (mp_ids (g := gLq) o2 (fun _ => rfl)) (by simp only [List.length_map]; omega) (mp_all (g := gLq) o2) kr (.cons (mp_mem (i := 10) (g := gLq) d0 (fun _ => rfl)) (.cons (fl_mem (i := 10) (g := gWq) d1 (fun _ => rfl)) .nil)) ?_
    refine Go.rx 20 {} [] [6, 7] _ [(6, .sl 1 .shr o2.length (b8s .shr o2)), (7, .leaf .nilIface)] [(0, [.ref 21 1 0 d0.length, .ref 22 2 0 d1.length, ti d2, tb d3]), (21, b8s .shr d0), (22, fl gWq d1)] hxl1 rfl kr .nil ?_
    clear hxl1; intro kxl1 hxl1
    exact Go.lvx 20 [0, 21, 22] _ [.sl 1 .shr o2.length (b8s .shr o2), .leaf .nilIface] Tryd.func107 hxl1 rfl kr .nil (T.Le.tup (.cons (T.Le.of_eq rfl) (.cons (T.Le.of_eq rfl) .nil))) rfl rfl (.cons sb (.cons qj1_2 (.cons ((congrArg (fun z => subN z [0, 21, 22]) (fl_ids (g := gWq) (fun _ => rfl) d1)).trans rfl) .nil)))
   have Ll1 : ∀ (ml1 : Nat) (i1 : Int) (o1 : tLB), (from_ ≤ i1) → ((o1.length : Int) = i1 - from_) → (∀ j : Nat, (o1.getD j []).length ≤ 64) → ((to - i1).toNat < ml1) → Go E Γ 107 50 [0, 21, 22] ((PostX Γ (j_sectors_enc d0 d1 d2 d3)) (Lo.el (j_sectors_l1 d0 d1 d2 d3 to ml1 i1 o1) (fun z : tLB => j_sectors_k1 z))) kl1 (stL [(0, .addr 0 0), (2, ti to), (8, .ref 10 1 0 o1.length), (9, ti i1)] [(0, [.ref 21 1 0 d0.length, .ref 22 2 0 d1.length, ti d2, tb d3]), (21, b8s .shr d0), (22, fl gWq d1), (10, b8s .shr o1)]) := by
    intro ml1
    induction ml1 with
    | zero => intro i1 o1 i0l1 i1l1 i2l1 hml1; exact absurd hml1 (Nat.not_lt_zero _)
    | succ ml1 ihl1 =>
     intro i1 o1 i0l1 i1l1 i2l1 hml1
     rw [j_sectors_l1]
     refine Go.round hl1 ?_
     intro k hk
     refine Go.rx 20 {} [] [0, 2, 8, 9, 33] _ [(0, .addr 0 0), (2, ti to), (8, .ref 10 1 0 o1.length), (9, ti i1), (33, tb (decide (i1 < to)))] [(0, [.ref 21 1 0 d0.length, .ref 22 2 0 d1.length, ti d2, tb d3]), (21, b8s .shr d0), (22, fl gWq d1), (10, b8s .shr o1)] hk rfl kr (.cons trivial .nil) ?_
     clear hk; intro k hk
     refine Go.br 20 (Pf := (fun z : Lo (tLB) (tLB × Int × (Unit × Unit × Unit × Unit)) => (PostX Γ (j_sectors_enc d0 d1 d2 d3)) (Lo.el z (fun z : tLB => j_sectors_k1 z)))) hk rfl rfl ?_ ?_ <;> clear hk <;> intro ct2 k hk
     ·have ct2p := of_decide_eq_true ct2
      refine Go.rx 20 { ws := [(2, { call := some { ids := [0, 21, 22], S := [0, 21, 22], M := [], R := .tup [.sl 1 .shr ((dDRead d0 d1 d2 d3 i1).1).length (u8s ((dDRead d0 d1 d2 d3 i1).1)), er 149 ((dDRead d0 d1 d2 d3 i1).2.1)], H' := [(0, [.ref 21 1 0 d0.length, .ref 22 2 0 d1.length, ti d2, tb d3]), (21, b8s .shr d0), (22, fl gWq d1)] } })] } [] [0, 2, 8, 9, 10, 11] _ [(0, .addr 0 0), (2, ti to), (8, .ref 10 1 0 o1.length), (9, ti i1), (10, .sl 1 .shr ((dDRead d0 d1 d2 d3 i1).1).length (u8s ((dDRead d0 d1 d2 d3 i1).1))), (11, er 149 ((dDRead d0 d1 d2 d3 i1).2.1))] [(0, [.ref 21 1 0 d0.length, .ref 22 2 0 d1.length, ti d2, tb d3]), (21, b8s .shr d0), (22, fl gWq d1), (10, b8s .shr o1)] hk rfl kr (.cons (Meets.sw [] (dDRead_m d0 d1 d2 d3 i1 (by first | assumption | exact okD_mono (by assumption) (by omega) | exact okW' (by assumption) (by omega) | exact okS (by assumption) | exact okA (by assumption) (by omega) | exact okC (by assumption) | exact okT (by assumption))) : Meets Tryd.prog 21 [.addr 0 0, ti i1] [(0, [.ref 21 1 0 d0.length, .ref 22 2 0 d1.length, ti d2, tb d3]), (21, b8s .shr d0), (22, fl gWq d1)] [0, 21, 22] (.tup [.sl 1 .shr ((dDRead d0 d1 d2 d3 i1).1).length (u8s ((dDRead d0 d1 d2 d3 i1).1)), er 149 ((dDRead d0 d1 d2 d3 i1).2.1)]) [(0, [.ref 21 1 0 d0.length, .ref 22 2 0 d1.length, ti d2, tb d3]), (21, b8s .shr d0), (22, fl gWq d1)]) (.cons (sb : subN (idsL [.addr 0 0, ti i1]) [0, 21, 22] = true) (.cons (sb : subN (idsL [.ref 21 1 0 d0.length, .ref 22 2 0 d1.length, ti d2, tb d3]) [0, 21, 22] = true) (.cons (by rw [(mp_ids (g := gLq) d0 (fun _ => rfl))]; rfl : subN (idsL (b8s .shr d0)) [0, 21, 22] = true) (.cons (by rw [(fl_ids (g := gWq) (fun _ => rfl) d1)]; rfl : subN (idsL (fl gWq d1)) [0, 21, 22] = true) .nil))))) ?_
      clear hk; intro k hk
      refine Go.bnd (Pf := (fun z : Lo (tLB) (tLB × Int × (Unit × Unit × Unit × Unit)) => (PostX Γ (j_sectors_enc d0 d1 d2 d3)) (Lo.el z (fun z : tLB => j_sectors_k1 z)))) (v := (dDRead d0 d1 d2 d3 i1)) (fun x1 => [(0, .addr 0 0), (2, ti to), (8, .ref 10 1 0 o1.length), (9, ti i1), (10, .sl 1 .shr x1.1.length (u8s x1.1)), (11, er 149 x1.2.1)]) (fun x1 => [(0, [.ref 21 1 0 d0.length, .ref 22 2 0 d1.length, ti d2, tb d3]), (21, b8s .shr d0), (22, fl gWq d1), (10, b8s .shr o1)]) ?_
      intro x1 hx1
      have fx1 := rd_fact (d0) (d1) (d2) (d3) (i1) (by assumption)
      rw [← hx1] at fx1
      refine Go.rx 20 { ws := [(1, { er := some (149, x1.2.1) })] } [] [0, 2, 8, 9, 10, 11, 43] _ [(0, .addr 0 0), (2, ti to), (8, .ref 10 1 0 o1.length), (9, ti i1), (10, .sl 1 .shr x1.1.length (u8s x1.1)), (11, er 149 x1.2.1), (43, tb (!(decide (x1.2.1 = 0))))] [(0, [.ref 21 1 0 d0.length, .ref 22 2 0 d1.length, ti d2, tb d3]), (21, b8s .shr d0), (22, fl gWq d1), (10, b8s .shr o1)] hk rfl kr (.cons (⟨rfl, rfl⟩ : (er 149 x1.2.1) = er 149 x1.2.1 ∧ (.leaf .nilIface : T) = .leaf .nilIface) .nil) ?_
      clear hk; intro k hk
      refine Go.br 20 (Pf := (fun z : Lo (tLB) (tLB × Int × (Unit × Unit × Unit × Unit)) => (PostX Γ (j_sectors_enc d0 d1 d2 d3)) (Lo.el z (fun z : tLB => j_sectors_k1 z)))) hk rfl rfl ?_ ?_ <;> clear hk <;> intro ct3 k hk
      ·have ct3' : (decide (x1.2.1 = 0)) = false := ntT ct3
       have ct3'p := of_decide_eq_false ct3'
       refine Go.rx 20 { ps := [7, 11, 44], pg := [21, 22] } [10] [6, 7] _ [(6, .leaf (.slice none 0 0)), (7, er 149 x1.2.1)] [(0, [.ref 21 1 0 d0.length, .ref 22 2 0 d1.length, ti d2, tb d3]), (21, b8s .shr d0), (22, fl gWq d1)] hk rfl kr (.cons (er_mem (i := 10) 149 x1.2.1) (.cons (er_mem (i := 10) 149 x1.2.1) (.cons (er_mem (i := 10) 149 x1.2.1) (.cons (mp_mem (i := 10) (g := gLq) d0 (fun _ => rfl)) (.cons (fl_mem (i := 10) (g := gWq) d1 (fun _ => rfl)) .nil))))) ?_
       clear hk; intro k hk
       exact Go.lvx 20 [0, 21, 22] _ [.leaf (.slice none 0 0), er 149 x1.2.1] Tryd.func107 hk rfl kr .nil (T.Le.tup (.cons (T.Le.nil _ _) (.cons (T.Le.of_eq rfl) .nil))) rfl (by first | rfl | (simp only [j_sectors_enc, T.ids, idsL, er_ids, List.append_nil, List.nil_append]; first | rfl | (rw [mp_ids _ (fun _ => rfl)]; rfl))) (.cons sb (.cons qj1_2 (.cons ((congrArg (fun z => subN z [0, 21, 22]) (fl_ids (g := gWq) (fun _ => rfl) d1)).trans rfl) .nil)))
      ·have ct3' : (decide (x1.2.1 = 0)) = true := ntF ct3
       have ct3'p := of_decide_eq_true ct3'
       refine Go.rx 20 { ws := [(2, { id := 11 }), (3, { v := some (.ref 10 1 0 ((o1 ++ [x1.1]).length)), c := some (b8s .shr (o1 ++ [x1.1])), id := 10, sym := true })], ps := [11], pg := [10, 21, 22], fd := some [10] } [11] [0, 2, 8, 9] _ [(0, .addr 0 0), (2, ti to), (8, .ref 10 1 0 ((o1 ++ [x1.1]).length)), (9, ti i1)] [(0, [.ref 21 1 0 d0.length, .ref 22 2 0 d1.length, ti d2, tb d3]), (21, b8s .shr d0), (22, fl gWq d1), (10, b8s .shr (o1 ++ [x1.1]))] hk rfl kr (.cons (Nat.le_of_ble_eq_true rfl : 0 + 1 * 1 ≤ ([.sl 1 .shr x1.1.length (u8s x1.1)] : List T).length) (.cons (by simp only [List.length_map]; omega : 0 + o1.length * 1 ≤ (b8s .shr o1).length) (.cons (rfl : scalL [.sl 1 .shr x1.1.length (u8s x1.1)] = true) (.cons (om : (o1.length + 1) * 24 ≤ 140737488355328) (.cons (mp_app (g := gLq) (o1) [x1.1] rfl) (.cons (mp_mem (i := 10) (g := gLq) (o1 ++ [x1.1]) (fun _ => rfl)) (.cons (by first | rfl | (simp; done) | (refine congrArg (fun q => T.ref 10 1 0 q) ?_; simp <;> omega) : T.ref 10 1 0 (o1.length + 1) = .ref 10 1 0 ((o1 ++ [x1.1]).length)) (.cons (er_mem (i := 10) 149 x1.2.1) (.cons (mp_mem (i := 10) (g := gLq) d0 (fun _ => rfl)) (.cons (fl_mem (i := 10) (g := gWq) d1 (fun _ => rfl)) (.cons (er_mem (i := 11) 149 x1.2.1) (.cons (mp_mem (i := 11) (g := gLq) d0 (fun _ => rfl)) (.cons (fl_mem (i := 11) (g := gWq) d1 (fun _ => rfl)) (.cons (mp_mem (i := 11) (g := gLq) (o1 ++ [x1.1]) (fun _ => rfl)) .nil)))))))))))))) ?_
       clear hk; intro k hk
       refine Go.rx 20 { ws := [(1, { v := some (ti (i1 + 1)) })] } [] [0, 2, 8, 9] _ [(0, .addr 0 0), (2, ti to), (8, .ref 10 1 0 ((o1 ++ [x1.1]).length)), (9, ti (i1 + 1))] [(0, [.ref 21 1 0 d0.length, .ref 22 2 0 d1.length, ti d2, tb d3]), (21, b8s .shr d0), (22, fl gWq d1), (10, b8s .shr (o1 ++ [x1.1]))] hk rfl kr (.cons trivial (.cons (iw (i1 + 1) om) .nil)) ?_
       clear hk; intro k hk
       exact Go.join 20 hk hl1 rfl (ihl1 (i1 + 1) (o1 ++ [x1.1]) qj1_1 qj1_1 qj1_1 om)
     ·have ct2p := of_decide_eq_false ct2
      refine Go.keepN [8] (L' := [(8, .ref 10 1 0 o1.length)]) rfl ?_
      exact Go.exitX (Pf := (PostX Γ (j_sectors_enc d0 d1 d2 d3))) (F := fun z : tLB => j_sectors_k1 z) (a := o1) (Go.join 20 hk hxl1 rfl (Xl1 o1))
   exact Ll1 _ from_ [] (by first | omega | (simp; done)) (by first | omega | (simp; done)) (by first | omega | (simp; done)) (Nat.lt_succ_self _)
 ·intro hk J
  rcases Bool.eq_false_or_eq_true (decide (from_ < 0)) with gd1 | gd1
  ·have gd1p := of_decide_eq_true gd1
   refine Go.rx 20 { ws := [(1, { v := some (tb true) })] } [] [0, 1, 2, 24] _ [(0, .addr 0 0), (1, ti from_), (2, ti to), (24, tb true)] [(0, [.ref 21 1 0 d0.length, .ref 22 2 0 d1.length, ti d2, tb d3]), (21, b8s .shr d0), (22, fl gWq d1)] hk rfl kr (.cons trivial (.cons (eb gd1) .nil)) ?_
   intro k' hk'
   refine Go.slotEq 24 (tb ((decide (from_ < 0)) || ((decide (from_ ≥ to)) || (decide (to > (d0.length : Int)))))) rfl (eb (orT gd1).symm) ?_
   exact J k' hk'
  ·have gd1p := of_decide_eq_false gd1
   rcases Bool.eq_false_or_eq_true (decide (from_ ≥ to)) with gd2 | gd2
   ·have gd2p := of_decide_eq_true gd2
    refine Go.rx 20 { ws := [(1, { v := some (tb false) }), (5, { v := some (tb true) })] } [] [0, 1, 2, 24] _ [(0, .addr 0 0), (1, ti from_), (2, ti to), (24, tb true)] [(0, [.ref 21 1 0 d0.length, .ref 22 2 0 d1.length, ti d2, tb d3]), (21, b8s .shr d0), (22, fl gWq d1)] hk rfl kr (.cons trivial (.cons (eb gd1) (.cons trivial (.cons (eb gd2) .nil)))) ?_
    intro k' hk'
    refine Go.slotEq 24 (tb ((decide (from_ < 0)) || ((decide (from_ ≥ to)) || (decide (to > (d0.length : Int)))))) rfl (eb (orF gd1 (orT gd2)).symm) ?_
    exact J k' hk'
   ·have gd2p := of_decide_eq_false gd2
    refine Go.rx 20 { ws := [(1, { v := some (tb false) }), (5, { v := some (tb false) }), (10, { call := some { ids := [0, 21, 22], S := [0, 21, 22], M := [], R := ti (d0.length : Int), H' := [(0, [.ref 21 1 0 d0.length, .ref 22 2 0 d1.length, ti d2, tb d3]), (21, b8s .shr d0), (22, fl gWq d1)] } })] } [] [0, 1, 2, 24] _ [(0, .addr 0 0), (1, ti from_), (2, ti to), (24, tb (decide (to > (d0.length : Int))))] [(0, [.ref 21 1 0 d0.length, .ref 22 2 0 d1.length, ti d2, tb d3]), (21, b8s .shr d0), (22, fl gWq d1)] hk rfl kr (.cons trivial (.cons (eb gd1) (.cons trivial (.cons (eb gd2) (.cons (Meets.sw [] (dDSize_m d0 d1 d2 d3) : Meets Tryd.prog 26 [.addr 0 0] [(0, [.ref 21 1 0 d0.length, .ref 22 2 0 d1.length, ti d2, tb d3]), (21, b8s .shr d0), (22, fl gWq d1)] [0, 21, 22] (ti (d0.length : Int)) [(0, [.ref 21 1 0 d0.length, .ref 22 2 0 d1.length, ti d2, tb d3]), (21, b8s .shr d0), (22, fl gWq d1)]) (.cons (sb : subN (idsL [.addr 0 0]) [0, 21, 22] = true) (.cons (sb : subN (idsL [.ref 21 1 0 d0.length, .ref 22 2 0 d1.length, ti d2, tb d3]) [0, 21, 22] = true) (.cons (by rw [(mp_ids (g := gLq) d0 (fun _ => rfl))]; rfl : subN (idsL (b8s .shr d0)) [0, 21, 22] = true) (.cons (by rw [(fl_ids (g := gWq) (fun _ => rfl) d1)]; rfl : subN (idsL (fl gWq d1)) [0, 21, 22] = true) (.cons trivial .nil)))))))))) ?_
    intro k' hk'
    refine Go.slotEq 24 (tb ((decide (from_ < 0)) || ((decide (from_ ≥ to)) || (decide (to > (d0.length : Int)))))) rfl (eb (orF gd1 (orF gd2 rfl)).symm) ?_
    exact J k' hk'
theorem j_sectors_l1_gen : True := by have := @j_sectors_l1.eq_1; have := @j_sectors_l1.eq_2; trivial
attribute [irreducible] j_sectors_k1 j_sectors_l1 j_sectors
end Go.Proofs.YtbppcnhfeobefaaDoor
namespace Go.Proofs.YtbppcnhfeobefaaDoor
open Go Go.Vw Go.Proofs
theorem sec5_l1 {m : Nat} (d0 : Sc) (d1 : List Wr) (d2 : Int) (d3 : Bool) (to : Int) (h : okD m d0 d1 d2) : ∀ (n : Nat) (i : Int) (o : Sc), (o.length : Int) ≤ i → 0 ≤ i → to ≤ (d0.length : Int) → i ≤ to → (∀ j : Nat, (o.getD j []).length ≤ 64) →
  (Lo.el (j_sectors_l1 d0 d1 d2 d3 to n i o) (fun z : Sc => j_sectors_k1 z)).1.length ≤ 3000 ∧ ∀ j : Nat, ((Lo.el (j_sectors_l1 d0 d1 d2 d3 to n i o) (fun z : Sc => j_sectors_k1 z)).1.getD j []).length ≤ 64 := by
 intro n
 induction n with
 | zero =>
  intro i o _ _ _ _ _
  rw [j_sectors_l1]
  show (j_sectors_k1 default).1.length ≤ 3000 ∧ ∀ j : Nat, ((j_sectors_k1 default).1.getD j []).length ≤ 64
  rw [j_sectors_k1]; exact ⟨Nat.zero_le _, fun j => by show (List.getD [] j []).length ≤ 64; simp⟩
 | succ n ih =>
  intro i o h1 h2 h3 h4 h5
  rw [j_sectors_l1]
  by_cases hi : i < to
  ·rw [decide_eq_true hi, cond_true, bnd_eq]
   cases !(decide ((dDRead d0 d1 d2 d3 i).2.1 = 0)) with
   | true => exact ⟨Nat.zero_le _, fun j => by show (List.getD [] j []).length ≤ 64; simp⟩
   | false =>
    exact ih (i + 1) _ (by rw [List.length_append]; simp; omega) (by omega) h3 (by omega) (app_le h5 (one_le (rd_fact d0 d1 d2 d3 i h)))
  ·rw [decide_eq_false hi, cond_false]
   show (j_sectors_k1 o).1.length ≤ 3000 ∧ ∀ j : Nat, ((j_sectors_k1 o).1.getD j []).length ≤ 64
   rw [j_sectors_k1]; exact ⟨by have := h.1; show o.length ≤ 3000; omega, h5⟩
theorem sectors5_fact {m : Nat} (d0 : Sc) (d1 : List Wr) (d2 : Int) (d3 : Bool) (a b : Int) (h : okD m d0 d1 d2) : (j_sectors d0 d1 d2 d3 a b).1.length ≤ 3000 ∧ ∀ j : Nat, ((j_sectors d0 d1 d2 d3 a b).1.getD j []).length ≤ 64 := by
 rw [j_sectors]
 by_cases q1 : a < 0
 ·rw [decide_eq_true q1]; exact ⟨Nat.zero_le _, fun j => by show (List.getD [] j []).length ≤ 64; simp⟩
 ·by_cases q2 : a ≥ b
  ·rw [decide_eq_true q2, decide_eq_false q1]; exact ⟨Nat.zero_le _, fun j => by show (List.getD [] j []).length ≤ 64; simp⟩
  ·by_cases q3 : b > (d0.length : Int)
   ·rw [decide_eq_true q3, decide_eq_false q1, decide_eq_false q2]; exact ⟨Nat.zero_le _, fun j => by show (List.getD [] j []).length ≤ 64; simp⟩
   ·rw [decide_eq_false q1, decide_eq_false q2, decide_eq_false q3, Bool.or_false, Bool.or_false, cond_false]
    exact sec5_l1 d0 d1 d2 d3 b h _ a [] (by show ((0 : Nat) : Int) ≤ a; omega) (by omega) (by omega) (by omega) (fun j => by simp)
end Go.Proofs.YtbppcnhfeobefaaDoor
namespace Go.Proofs.YtbppcnhfeobefaaDoor
open Go Go.Vw Go.Proofs
noncomputable def j_records_l1 (l : tLB) : Nat → Int → UInt32 → (List (UInt32 × List UInt8)) → Lo Unit ((List (UInt32 × List UInt8)) × Int)
 | 0, _, _, _ => .brk default
 | ml1 + 1, at1, last1, o1 =>
  bnd (fr_Join (slc l at1 (l.length : Int))) fun x1 =>
  bif (!(decide (x1.2.2.2 = 0))) || (decide (x1.1 ≤ last1)) then
   Lo.ret (o1, at1)
  else
   j_records_l1 l ml1 (at1 + x1.2.2.1) x1.1 (o1 ++ [(x1.1, x1.2.1)])
noncomputable def j_records (l : tLB) : (List (UInt32 × List UInt8)) × Int :=
 Lo.el (j_records_l1 l (((l.length : Int) - (0 : Int)).toNat + 1) 0 0 []) (fun _ => default)
def j_records_enc (x : (List (UInt32 × List UInt8)) × Int) : T × List (Nat × List T) := (.tup [.sl 2 .shr x.1.length (fl gRq x.1), ti x.2], [])
theorem j_records_m {g_l : Tag} (l : tLB) (hl : l.length ≤ 3000) (hm : ∀ i : Nat, (l.getD i []).length ≤ 200) : Meets Tryd.prog 109 [.sl 1 g_l l.length (b8s .shr l)] [] [] (.tup [.sl 2 .shr ((j_records l).1).length (fl gRq ((j_records l).1)), ti ((j_records l).2)]) [] := by
 refine Meets.enterX (E := E) (N := 39) (enc := j_records_enc) (x := (j_records l)) Tryd.func109 Tryd.call109 rfl rfl ?_
 intro Γ k hk
 refine Go.rx 20 {} [] [0] _ [(0, .sl 1 g_l l.length (b8s .shr l))] [] hk rfl kr .nil ?_
 clear hk; intro k hk
 refine Go.rx 20 {} [] [0, 4] _ [(0, .sl 1 g_l l.length (b8s .shr l)), (4, .leaf (.slice none 0 0))] [] hk rfl kr .nil ?_
 clear hk; intro k hk
 refine Go.rx 20 {} [] [0, 4, 5, 6] _ [(0, .sl 1 g_l l.length (b8s .shr l)), (4, .leaf (.slice none 0 0)), (5, ti 0), (6, t32 0)] [] hk rfl kr .nil ?_
 clear hk; intro k hk
 refine Go.phn 4 10 2 rfl (.inl rfl) rfl rfl ?_
 refine Go.loopX 20 hk rfl ?_
 clear hk; intro kl1 kxl1 hl1 hxl1
 have Ll1 : ∀ (ml1 : Nat) (at1 : Int) (last1 : UInt32) (o1 : List (UInt32 × List UInt8)), (0 ≤ at1) → (at1 ≤ (l.length : Int)) → ((o1.length : Int) ≤ at1) → (((l.length : Int) - at1).toNat < ml1) → Go E Γ 109 39 [] ((PostX Γ j_records_enc) (Lo.el (j_records_l1 l ml1 at1 last1 o1) (fun _ => default))) kl1 (stL [(0, .sl 1 g_l l.length (b8s .shr l)), (4, .ref 10 2 0 o1.length), (5, ti at1), (6, t32 last1)] [(10, fl gRq o1)]) := by
  intro ml1
  induction ml1 with
  | zero => intro at1 last1 o1 i0l1 i1l1 i2l1 hml1; exact absurd hml1 (Nat.not_lt_zero _)
  | succ ml1 ihl1 =>
   intro at1 last1 o1 i0l1 i1l1 i2l1 hml1
   rw [j_records_l1]
   refine Go.round hl1 ?_
   intro k hk
   refine Go.rx 20 { ws := [(2, { v := some (.sl 1 g_l (slc l at1 (l.length : Int)).length (b8s .shr (slc l at1 (l.length : Int)))) }), (3, { call := some { ids := [], S := [], M := [], R := .tup [t32 ((fr_Join (slc l at1 (l.length : Int))).1), .sl 1 .shr ((fr_Join (slc l at1 (l.length : Int))).2.1).length (u8s ((fr_Join (slc l at1 (l.length : Int))).2.1)), ti ((fr_Join (slc l at1 (l.length : Int))).2.2.1), er 149 ((fr_Join (slc l at1 (l.length : Int))).2.2.2)], H' := [] } })] } [] [0, 4, 5, 6, 7, 8, 9, 10] _ [(0, .sl 1 g_l l.length (b8s .shr l)), (4, .ref 10 2 0 o1.length), (5, ti at1), (6, t32 last1), (7, t32 ((fr_Join (slc l at1 (l.length : Int))).1)), (8, .sl 1 .shr ((fr_Join (slc l at1 (l.length : Int))).2.1).length (u8s ((fr_Join (slc l at1 (l.length : Int))).2.1))), (9, ti ((fr_Join (slc l at1 (l.length : Int))).2.2.1)), (10, er 149 ((fr_Join (slc l at1 (l.length : Int))).2.2.2))] [(10, fl gRq o1)] hk rfl kr (.cons (om : 0 ≤ (at1 : Int) ∧ (at1 : Int) ≤ (l.length : Int) ∧ (l.length : Int) ≤ (l.length : Int) ∧ (l.length : Int) ≤ (l.length : Nat)) (.cons (sl_slc (t := g_l) (g := gLq) (lo := at1) (hi := (l.length : Int)) l om rfl rfl) (.cons (fr_Join_m (g_a0 := g_l) (slc l at1 (l.length : Int)) (by exact slc_le hm _ _)) (.cons (sb : subN (idsL [.sl 1 g_l (slc l at1 (l.length : Int)).length (b8s .shr (slc l at1 (l.length : Int)))]) [] = true) .nil)))) ?_
   clear hk; intro k hk
   refine Go.bnd (Pf := (fun z : Lo (Unit) ((List (UInt32 × List UInt8)) × Int) => (PostX Γ j_records_enc) (Lo.el z (fun _ => default)))) (v := (fr_Join (slc l at1 (l.length : Int)))) (fun x1 => [(0, .sl 1 g_l l.length (b8s .shr l)), (4, .ref 10 2 0 o1.length), (5, ti at1), (6, t32 last1), (7, t32 x1.1), (8, .sl 1 .shr x1.2.1.length (u8s x1.2.1)), (9, ti x1.2.2.1), (10, er 149 x1.2.2.2)]) (fun x1 => [(10, fl gRq o1)]) ?_
   intro x1 hx1
   have fx1 := join_fact (slc l at1 (l.length : Int))
   rw [← hx1] at fx1
   have gx1 : ((((slc l at1 (l.length : Int))).length : Nat) : Int) = ((l.length : Int) - at1) := slc_lenI l (by omega)
   refine Go.regJ 20 [(0, .sl 1 g_l l.length (b8s .shr l)), (4, .ref 10 2 0 o1.length), (5, ti at1), (7, t32 x1.1), (8, .sl 1 .shr x1.2.1.length (u8s x1.2.1)), (9, ti x1.2.2.1), (26, tb ((!(decide (x1.2.2.2 = 0))) || (decide (x1.1 ≤ last1))))] [(10, fl gRq o1)] hk rfl ?_ ?_
   ·clear hk; intro k hk
    refine Go.br 20 (Pf := (fun z : Lo (Unit) ((List (UInt32 × List UInt8)) × Int) => (PostX Γ j_records_enc) (Lo.el z (fun _ => default)))) hk rfl rfl ?_ ?_ <;> clear hk <;> intro ct1 k hk
    ·refine Go.rx 20 {} [] [2, 3] _ [(2, .ref 10 2 0 o1.length), (3, ti at1)] [(10, fl gRq o1)] hk rfl kr .nil ?_
     clear hk; intro k hk
     refine Go.frz [] [] 2 10 (fl gRq o1) _ [(2, .dead), (3, ti at1)] [] rfl rfl (fl_ids (g := gRq) (fun _ => rfl) o1) (by rw [fl_len (m := 2) (fun _ => rfl)]; omega) (fl_all (g := gRq) (m := 2) (fun _ => rfl) o1) kr .nil ?_
     exact Go.lvx 20 [] _ [.sl 2 .shr o1.length (fl gRq o1), ti at1] Tryd.func109 hk rfl kr .nil (T.Le.tup (.cons (T.Le.of_eq rfl) (.cons (T.Le.of_eq rfl) .nil))) rfl rfl .nil
    ·have ct11 : (!(decide (x1.2.2.2 = 0))) = false := (Bool.or_eq_false_iff.1 ct1).1
     have ct12 : (decide (x1.1 ≤ last1)) = false := (Bool.or_eq_false_iff.1 ct1).2
     have ct11' : (decide (x1.2.2.2 = 0)) = true := ntF ct11
     have ct11'p := of_decide_eq_true ct11'
     refine Go.rx 20 { ws := [(4, { id := 11 }), (5, { v := some (.ref 10 2 0 ((o1 ++ [(x1.1, x1.2.1)]).length)), c := some (fl gRq (o1 ++ [(x1.1, x1.2.1)])), id := 10, sym := true })], pg := [10], fd := some [10] } [11] [0, 4, 5, 7, 9] _ [(0, .sl 1 g_l l.length (b8s .shr l)), (4, .ref 10 2 0 ((o1 ++ [(x1.1, x1.2.1)]).length)), (5, ti at1), (7, t32 x1.1), (9, ti x1.2.2.1)] [(10, fl gRq (o1 ++ [(x1.1, x1.2.1)]))] hk rfl kr (.cons (Nat.le_of_ble_eq_true rfl : 0 + 1 * 2 ≤ ([t32 x1.1, .sl 1 .shr x1.2.1.length (u8s x1.2.1)] : List T).length) (.cons (by rw [fl_len (m := 2) (fun _ => rfl)]; omega : 0 + o1.length * 2 ≤ (fl gRq o1).length) (.cons (rfl : scalL [t32 x1.1, .sl 1 .shr x1.2.1.length (u8s x1.2.1)] = true) (.cons (om : (o1.length + 1) * 32 ≤ 140737488355328) (.cons (fl_app' (g := gRq) (m := 2) (k := o1.length) (fun _ => rfl) o1 [(x1.1, x1.2.1)] rfl rfl) (.cons (fl_mem (i := 10) (g := gRq) (o1 ++ [(x1.1, x1.2.1)]) (fun _ => rfl)) (.cons (by first | rfl | (simp; done) | (refine congrArg (fun q => T.ref 10 2 0 q) ?_; simp <;> omega) : T.ref 10 2 0 (o1.length + 1) = .ref 10 2 0 ((o1 ++ [(x1.1, x1.2.1)]).length)) (.cons (fl_mem (i := 11) (g := gRq) (o1 ++ [(x1.1, x1.2.1)]) (fun _ => rfl)) .nil)))))))) ?_
     clear hk; intro k hk
     refine Go.rx 20 { ws := [(2, { v := some (ti (at1 + x1.2.2.1)) })] } [] [0, 4, 5, 6] _ [(0, .sl 1 g_l l.length (b8s .shr l)), (4, .ref 10 2 0 ((o1 ++ [(x1.1, x1.2.1)]).length)), (5, ti (at1 + x1.2.2.1)), (6, t32 x1.1)] [(10, fl gRq (o1 ++ [(x1.1, x1.2.1)]))] hk rfl kr (.cons trivial (.cons (iw (at1 + x1.2.2.1) om) .nil)) ?_
     clear hk; intro k hk
     exact Go.join 20 hk hl1 rfl (ihl1 (at1 + x1.2.2.1) x1.1 (o1 ++ [(x1.1, x1.2.1)]) om om om om)
   ·intro hk J
    rcases Bool.eq_false_or_eq_true (!(decide (x1.2.2.2 = 0))) with gd1 | gd1
    ·have gd1' : (decide (x1.2.2.2 = 0)) = false := ntT gd1
     have gd1'p := of_decide_eq_false gd1'
     refine Go.rx 20 { ws := [(1, { v := some (tb true), er := some (149, x1.2.2.2) })] } [] [0, 4, 5, 7, 8, 9, 26] _ [(0, .sl 1 g_l l.length (b8s .shr l)), (4, .ref 10 2 0 o1.length), (5, ti at1), (7, t32 x1.1), (8, .sl 1 .shr x1.2.1.length (u8s x1.2.1)), (9, ti x1.2.2.1), (26, tb true)] [(10, fl gRq o1)] hk rfl kr (.cons (⟨rfl, rfl⟩ : (er 149 x1.2.2.2) = er 149 x1.2.2.2 ∧ (.leaf .nilIface : T) = .leaf .nilIface) (.cons (eb gd1) .nil)) ?_
     intro k' hk'
     refine Go.slotEq 26 (tb ((!(decide (x1.2.2.2 = 0))) || (decide (x1.1 ≤ last1)))) rfl (eb (orT gd1).symm) ?_
     exact J k' hk'
    ·have gd1' : (decide (x1.2.2.2 = 0)) = true := ntF gd1
     have gd1'p := of_decide_eq_true gd1'
     refine Go.rx 20 { ws := [(1, { v := some (tb false), er := some (149, x1.2.2.2) }), (5, { v := some (tb (decide (x1.1 ≤ last1))) })] } [] [0, 4, 5, 7, 8, 9, 26] _ [(0, .sl 1 g_l l.length (b8s .shr l)), (4, .ref 10 2 0 o1.length), (5, ti at1), (7, t32 x1.1), (8, .sl 1 .shr x1.2.1.length (u8s x1.2.1)), (9, ti x1.2.2.1), (26, tb (decide (x1.1 ≤ last1)))] [(10, fl gRq o1)] hk rfl kr (.cons (⟨rfl, rfl⟩ : (er 149 x1.2.2.2) = er 149 x1.2.2.2 ∧ (.leaf .nilIface : T) = .leaf .nilIface) (.cons (eb gd1) (.cons trivial (.cons (leB32 x1.1 last1) .nil)))) ?_
     intro k' hk'
     refine Go.slotEq 26 (tb ((!(decide (x1.2.2.2 = 0))) || (decide (x1.1 ≤ last1)))) rfl (eb (orF gd1 rfl).symm) ?_
     exact J k' hk'
 exact Ll1 _ 0 0 [] om om om (Nat.lt_succ_self _)
theorem j_records_l1_gen : True := by have := @j_records_l1.eq_1; have := @j_records_l1.eq_2; trivial
attribute [irreducible] j_records_l1 j_records
end Go.Proofs.YtbppcnhfeobefaaDoor

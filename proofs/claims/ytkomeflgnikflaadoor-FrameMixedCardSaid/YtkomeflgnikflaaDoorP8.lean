/- Records over sectors: the plain law. -/
import Derived.Test.YtkomeflgnikflaaDoorD5
import Derived.Test.YtkomeflgnikflaaDoorVx12
namespace Go.Proofs.YtkomeflgnikflaaDoor
open Go Go.Vw Go.Proofs
theorem sure14 : bursarylaw14_sure = true := by kernel_rfl
theorem u8eq {a b : UInt8} (h : a.toNat = b.toNat) : a = b := UInt8.toNat_inj.1 h
theorem u32eq {a b : UInt32} (h : a.toNat = b.toNat) : a = b := UInt32.toNat_inj.1 h
theorem u8i_nat (n : Nat) (h : n < 256) : (u8i (n : Int)).toNat = n := by
  rw [u8i, UInt8.toNat_ofNat']; omega
theorem u8i_mod (n : Nat) : (u8i (n : Int)).toNat = n % 256 := by
  rw [u8i, UInt8.toNat_ofNat']; omega
theorem s32 (t : UInt32) {k : Int} {m : Nat} (hk : 2 ^ k.toNat = m) : (shr32 t k).toUInt8.toNat = t.toNat / m % 256 := by
  have hl := t.toNat_lt
  have : t.toNat / m ≤ t.toNat := Nat.div_le_self _ _
  rw [UInt32.toNat_toUInt8, shr32, UInt32.toNat_ofNat', hk]
  omega
theorem p8 : (2 : Nat) ^ Int.toNat 8 = 256 := by decide
theorem p16 : (2 : Nat) ^ Int.toNat 16 = 65536 := by decide
theorem p24 : (2 : Nat) ^ Int.toNat 24 = 16777216 := by decide
theorem or_step (a b m i : Nat) (h : 2 ^ i = m) (hb : b < m) : (a * m ||| b) = a * m + b := by
  subst h
  have := Nat.shiftLeft_add_eq_or_of_lt hb a
  rw [Nat.shiftLeft_eq] at this
  exact this.symm
theorem or_mul (a b : Nat) (i : Nat) : (a * 2 ^ i ||| b * 2 ^ i) = (a ||| b) * 2 ^ i := by
  rw [← Nat.shiftLeft_eq, ← Nat.shiftLeft_eq, ← Nat.shiftLeft_eq, ← Nat.shiftLeft_or_distrib]
theorem size_or (a b : UInt8) : orI ((a.toNat : Int) * 256) (b.toNat : Int) = ((a.toNat * 256 + b.toNat : Nat) : Int) := by
  have h1 := a.toNat_lt; have h2 := b.toNat_lt
  have := orI_nat (a.toNat * 256) b.toNat (by omega) (by omega)
  rw [or_step _ _ 256 8 (by decide) (by omega)] at this
  rw [← this]; congr 1
/-- The number of four bytes. -/
abbrev num4 (a b c d : UInt8) : Nat := a.toNat * 16777216 + b.toNat * 65536 + c.toNat * 256 + d.toNat
theorem sh_nat (a : UInt8) (k : Int) (m : Nat) (hk : 2 ^ k.toNat = m) (hm : m ≤ 16777216) : (shl32 a.toUInt32 k).toNat = a.toNat * m := by
  have h := a.toNat_lt
  have h2 : a.toNat * m ≤ 255 * 16777216 := Nat.mul_le_mul (by omega) hm
  rw [shl32, UInt32.toNat_ofNat', hk, UInt8.toNat_toUInt32]
  exact Nat.mod_eq_of_lt (by omega)
theorem num4_or (a b c d : UInt8) : ((((shl32 a.toUInt32 24) ||| (shl32 b.toUInt32 16)) ||| (shl32 c.toUInt32 8)) ||| d.toUInt32).toNat = num4 a b c d := by
  have h1 := a.toNat_lt; have h2 := b.toNat_lt; have h3 := c.toNat_lt; have h4 := d.toNat_lt
  rw [UInt32.toNat_or, UInt32.toNat_or, UInt32.toNat_or, sh_nat a 24 _ p24 (by omega), sh_nat b 16 _ p16 (by omega), sh_nat c 8 _ p8 (by omega), UInt8.toNat_toUInt32]
  rw [or_step a.toNat (b.toNat * 65536) 16777216 24 (by decide) (by omega)]
  rw [show a.toNat * 16777216 + b.toNat * 65536 = (a.toNat * 256 + b.toNat) * 65536 by omega, or_step _ (c.toNat * 256) 65536 16 (by decide) (by omega)]
  rw [show (a.toNat * 256 + b.toNat) * 65536 + c.toNat * 256 = ((a.toNat * 256 + b.toNat) * 256 + c.toNat) * 256 by omega, or_step _ d.toNat 256 8 (by decide) (by omega)]
  unfold num4; omega
theorem num4_add (a b c d : UInt8) : (((((a.toUInt32) * 16777216) + ((b.toUInt32) * 65536)) + ((c.toUInt32) * 256)) + (d.toUInt32)).toNat = num4 a b c d := by
  have h1 := a.toNat_lt; have h2 := b.toNat_lt; have h3 := c.toNat_lt; have h4 := d.toNat_lt
  have e1 : UInt32.toNat 16777216 = 16777216 := rfl
  have e2 : UInt32.toNat 65536 = 65536 := rfl
  have e3 : UInt32.toNat 256 = 256 := rfl
  simp only [UInt32.toNat_add, UInt32.toNat_mul, UInt8.toNat_toUInt32, e1, e2, e3]
  unfold num4; omega
theorem seq_eq (s : List UInt8) : frame_Seq s = bursaryref14_Seq s := by
  rw [frame_Seq, bursaryref14_Seq]
  congr 2
  exact u32eq (by rw [num4_or, num4_add])
/-! ## a sector -/
abbrev sb (a0 : UInt32) (a1 : List UInt8) (x1 t231 : Int) : List UInt8 := ((((((((List.replicate 64 (0 : UInt8)).set 0 ((shr32 a0 24).toUInt8)).set 1 ((shr32 a0 16).toUInt8)).set 2 ((shr32 a0 8).toUInt8)).set 3 a0.toUInt8).set 4 (u8i t231)).set 5 (u8i x1)).set 6 (u8i ((a1.length : Int) / 256))).set 7 (u8i (a1.length : Int))
section
variable (a0 : UInt32) (a1 : List UInt8) (x1 t : Int)
theorem sct_def : sct a0 a1 x1 t = cpy (sb a0 a1 x1 t) 8 56 (slc a1 (t * 56) (a1.length : Int)) := by
  rw [sct, show (List.replicate 64 (0 : UInt8)).length - 8 = 56 by simp]
theorem sb_len : (sb a0 a1 x1 t).length = 64 := by simp only [sb, List.length_set, List.length_replicate]
theorem sb_hi (k : Nat) (h : 8 ≤ k) : (sb a0 a1 x1 t).getD k 0 = 0 := by
  simp only [sb]
  rw [gD_set, if_neg (by omega), gD_set, if_neg (by omega), gD_set, if_neg (by omega), gD_set, if_neg (by omega), gD_set, if_neg (by omega), gD_set, if_neg (by omega), gD_set, if_neg (by omega), gD_set, if_neg (by omega), gD_rep]
  split <;> rfl
theorem sct_lo (k : Nat) (h : k < 8) : (sct a0 a1 x1 t).getD k 0 = (sb a0 a1 x1 t).getD k 0 := by
  rw [sct_def, gD_cpy _ _ _ _ _ _ (by rw [sb_len]; omega), if_neg (by omega)]
theorem sct_hi (k : Nat) (h : 8 ≤ k) (h2 : k < 64) (h0 : 0 ≤ t) : (sct a0 a1 x1 t).getD k 0 = a1.getD (56 * t.toNat + (k - 8)) 0 := by
  have e : (t * 56).toNat = 56 * t.toNat := by omega
  rw [sct_def, gD_cpy _ _ _ _ _ _ (by rw [sb_len]; omega), slc_drop, e, List.length_drop, gD_drop, sb_hi _ _ _ _ k h]
  split
  · rfl
  · rw [gD_out _ _ _ (by omega)]
theorem sct0 : (sct a0 a1 x1 t).getD 0 0 = (shr32 a0 24).toUInt8 := (sct_lo a0 a1 x1 t 0 (by omega)).trans rfl
theorem sct1 : (sct a0 a1 x1 t).getD 1 0 = (shr32 a0 16).toUInt8 := (sct_lo a0 a1 x1 t 1 (by omega)).trans rfl
theorem sct2 : (sct a0 a1 x1 t).getD 2 0 = (shr32 a0 8).toUInt8 := (sct_lo a0 a1 x1 t 2 (by omega)).trans rfl
theorem sct3 : (sct a0 a1 x1 t).getD 3 0 = a0.toUInt8 := (sct_lo a0 a1 x1 t 3 (by omega)).trans rfl
theorem sct4 : (sct a0 a1 x1 t).getD 4 0 = u8i t := (sct_lo a0 a1 x1 t 4 (by omega)).trans rfl
theorem sct5 : (sct a0 a1 x1 t).getD 5 0 = u8i x1 := (sct_lo a0 a1 x1 t 5 (by omega)).trans rfl
theorem sct6 : (sct a0 a1 x1 t).getD 6 0 = u8i ((a1.length : Int) / 256) := (sct_lo a0 a1 x1 t 6 (by omega)).trans rfl
theorem sct7 : (sct a0 a1 x1 t).getD 7 0 = u8i (a1.length : Int) := (sct_lo a0 a1 x1 t 7 (by omega)).trans rfl
/-- The number that a sector tells. -/
theorem sct_seq : (frame_Seq (sct a0 a1 x1 t)) = (a0, 0) := by
  have hl := a0.toNat_lt
  rw [frame_Seq, sct_length, sct0, sct1, sct2, sct3, show (((64 : Nat) : Int) != 64) = false from rfl, cond_false]
  congr 1
  apply u32eq
  rw [num4_or, num4, s32 a0 p24, s32 a0 p16, s32 a0 p8, UInt32.toNat_toUInt8]
  omega
end
/-! ## the reference's sectors -/
theorem ref_l2 (a1 : List UInt8) (b : Int) : ∀ (m : Nat) (i : Int) (o : List UInt8), 0 ≤ i → (56 * b + 56 - i).toNat < m → bursaryref14_Split_l2 a1 b m i o = .brk (o ++ (List.range (56 * b + 56 - i).toNat).flatMap (fun k : Nat => [a1.getD (i + k).toNat 0])) :=
  appLoop (g := fun i => [a1.getD i.toNat 0]) (fun m i o h => by
    rw [bursaryref14_Split_l2]
    by_cases c : i < (a1.length : Int)
    · rw [decide_eq_true c, cond_true]
    · rw [decide_eq_false c, cond_false, gD_out a1 i.toNat 0 (by omega)])
theorem ref_sct (a0 : UInt32) (a1 : List UInt8) (x1 t : Int) (h0 : 0 ≤ t) : [(a0 / 16777216).toUInt8, ((a0 / 65536) % 256).toUInt8, ((a0 / 256) % 256).toUInt8, (a0 % 256).toUInt8, u8i t, u8i x1, u8i ((a1.length : Int) / 256), u8i ((a1.length : Int) % 256)] ++ (List.range (56 * t + 56 - 56 * t).toNat).flatMap (fun k : Nat => [a1.getD (56 * t + k).toNat 0]) = sct a0 a1 x1 t := by
  have hl := a0.toNat_lt
  have e1 : UInt32.toNat 16777216 = 16777216 := rfl
  have e2 : UInt32.toNat 65536 = 65536 := rfl
  have e3 : UInt32.toNat 256 = 256 := rfl
  rw [show (56 * t + 56 - 56 * t).toNat = 56 by omega]
  have hf : ((List.range 56).flatMap (fun k : Nat => [a1.getD (56 * t + k).toNat 0])).length = 56 := by rw [flat_len _ 1 56 (fun _ _ => rfl)]
  refine ext_gD 0 (by rw [List.length_append, hf, sct_length]; rfl) (fun i hi => ?_)
  rw [List.length_append, hf] at hi
  have hi : i < 64 := hi
  rw [gD_app]
  simp only [List.length_cons, List.length_nil, Nat.zero_add, Nat.reduceAdd]
  by_cases c : i < 8
  · rw [if_pos c]
    rw [sct_lo _ _ _ _ _ c]
    match i, c with
    | 0, _ => exact u8eq (by show (a0 / 16777216).toUInt8.toNat = (shr32 a0 24).toUInt8.toNat; rw [s32 a0 p24]; simp only [UInt32.toNat_toUInt8, UInt32.toNat_div, e1])
    | 1, _ => exact u8eq (by show ((a0 / 65536) % 256).toUInt8.toNat = (shr32 a0 16).toUInt8.toNat; rw [s32 a0 p16]; simp only [UInt32.toNat_toUInt8, UInt32.toNat_div, UInt32.toNat_mod, e2, e3]; omega)
    | 2, _ => exact u8eq (by show ((a0 / 256) % 256).toUInt8.toNat = (shr32 a0 8).toUInt8.toNat; rw [s32 a0 p8]; simp only [UInt32.toNat_toUInt8, UInt32.toNat_div, UInt32.toNat_mod, e3]; omega)
    | 3, _ => exact u8eq (by show (a0 % 256).toUInt8.toNat = a0.toUInt8.toNat; simp only [UInt32.toNat_toUInt8, UInt32.toNat_mod, e3]; omega)
    | 4, _ => rfl
    | 5, _ => rfl
    | 6, _ => rfl
    | 7, _ => exact u8eq (by show (u8i ((a1.length : Int) % 256)).toNat = (u8i (a1.length : Int)).toNat; rw [u8i_mod, show ((a1.length : Int) % 256) = ((a1.length % 256 : Nat) : Int) by omega, u8i_mod]; omega)
    | n + 8, h => exact absurd h (by omega)
  · rw [if_neg c, sct_hi _ _ _ _ _ (by omega) hi h0]
    show (List.flatMap _ (List.range 56)).getD (i - 8) 0 = _
    have := flat_gD (fun k : Nat => [a1.getD (56 * t + k).toNat 0]) 1 0 (i - 8) 0 (by omega) 56 (fun _ _ => rfl) (by omega)
    rw [show 1 * (i - 8) + 0 = i - 8 by omega] at this
    rw [this]
    show a1.getD (56 * t + ((i - 8 : Nat) : Int)).toNat 0 = _
    congr 1; omega
theorem ref_l1 (a0 : UInt32) (a1 : List UInt8) (x1 : Int) : ∀ (m : Nat) (i : Int) (o : List (List UInt8)), 0 ≤ i → (x1 - i).toNat < m → bursaryref14_Split_l1 a0 a1 x1 m i o = .brk (o ++ (List.range (x1 - i).toNat).flatMap (fun k : Nat => [sct a0 a1 x1 (i + k)])) :=
  appLoop (g := fun i => [sct a0 a1 x1 i]) (fun m i o h => by
    rw [bursaryref14_Split_l1]
    congr 1
    rw [ref_l2 _ _ _ _ _ (by omega) (by omega), ref_sct _ _ _ _ h]
    rfl)
theorem split_ref (a0 : UInt32) (a1 : List UInt8) : bursaryref14_Split a0 a1 = frame_Split a0 a1 := by
  rw [bursaryref14_Split, bnd_eq, split_eq, ← sectors_ref]
  congr 1
  rw [ref_l1 _ _ _ _ _ _ (by omega) (by omega)]
  show ([] ++ _, 0) = _
  rw [Int.sub_zero, List.nil_append]
  congr 1
  rw [List.map_eq_flatMap]
  simp only [Int.zero_add]
/-! ## the comparers -/
theorem eq_bytes (a b : List UInt8) : slices_Equal_byte_byte a b = true ↔ a = b := by
  rw [slices_Equal_byte_byte]
  by_cases h : a.length = b.length
  · rw [show ((a.length : Int) != (b.length : Int)) = false by simp [h], cond_false]
    rcases cmpLoop (f := slices_Equal_byte_byte_l1 a b) (n := (a.length : Int)) (p := fun i => (a.getD i 0) != (b.getD i 0)) (r := false) (fun m i _ => by rw [slices_Equal_byte_byte_l1]) _ 0 (by omega) (Nat.lt_succ_self _) with ⟨q, e⟩ | ⟨⟨j, h1, h2, q⟩, e⟩
    · rw [e]
      refine ⟨fun _ => ext_gD 0 h (fun i hi => ?_), fun _ => rfl⟩
      have := q i (by omega) (by omega)
      simpa using this
    · rw [e]
      refine ⟨fun h => absurd h (by simp [Lo.el]), fun h => ?_⟩
      subst h; simp at q
  · rw [show ((a.length : Int) != (b.length : Int)) = true by simp; omega, cond_true]
    exact ⟨fun h => absurd h (by simp), fun e => absurd (by rw [e]) h⟩
theorem eq_lists (a b : List (List UInt8)) : eqFuncEq a b = true ↔ a = b := by
  rw [eqFuncEq]
  by_cases h : a.length = b.length
  · rw [show ((a.length : Int) != (b.length : Int)) = false by simp [h], cond_false]
    rcases cmpLoop (f := eqFuncEq_l1 a b) (n := (a.length : Int)) (p := fun i => !slices_Equal_byte_byte (a.getD i []) (b.getD i [])) (r := false) (fun m i _ => by rw [eqFuncEq_l1, bnd_eq]) _ 0 (by omega) (Nat.lt_succ_self _) with ⟨q, e⟩ | ⟨⟨j, h1, h2, q⟩, e⟩
    · rw [e]
      refine ⟨fun _ => ext_gD [] h (fun i hi => ?_), fun _ => rfl⟩
      have := q i (by omega) (by omega)
      exact (eq_bytes _ _).1 (by simpa using this)
    · rw [e]
      refine ⟨fun h => absurd h (by simp [Lo.el]), fun h => ?_⟩
      subst h
      rw [(eq_bytes _ _).2 rfl] at q; simp at q
  · rw [show ((a.length : Int) != (b.length : Int)) = true by simp; omega, cond_true]
    exact ⟨fun h => absurd h (by simp), fun e => absurd (by rw [e]) h⟩
theorem lists_self (a : List (List UInt8)) : bursarylaw14_lists a a = true := by
  rw [bursarylaw14_lists, show ((a.length : Int) != (a.length : Int)) = false by simp, cond_false]
  rcases cmpLoop (f := bursarylaw14_lists_l1 a a) (n := (a.length : Int)) (p := fun i => (a.getD i []) != (a.getD i [])) (r := false) (fun m i _ => by rw [bursarylaw14_lists_l1]) _ 0 (by omega) (Nat.lt_succ_self _) with ⟨q, e⟩ | ⟨⟨j, h1, h2, q⟩, e⟩
  · rw [e]; rfl
  · simp at q
/-! ## a record out of sectors -/
noncomputable def flat (l : List (List UInt8)) (n : Nat) : List UInt8 := (List.range n).flatMap (fun k => (l.getD k []).drop 8)
noncomputable def sq (l : List (List UInt8)) : UInt32 := (frame_Seq (l.getD 0 [])).1
noncomputable def nn (l : List (List UInt8)) : Nat := ((l.getD 0 []).getD 5 0).toNat
noncomputable def zz (l : List (List UInt8)) : Nat := ((l.getD 0 []).getD 6 0).toNat * 256 + ((l.getD 0 []).getD 7 0).toNat
noncomputable def bb (l : List (List UInt8)) : List UInt8 := (flat l (nn l)).take (zz l)
/-- All sectors are those of what they tell. -/
def AllIn (l : List (List UInt8)) : Prop := ∀ i, i < nn l → l.getD i [] = sct (sq l) (bb l) (nn l) i
def Bad (l : List (List UInt8)) : Prop := l.length = 0 ∨ (l.getD 0 []).length ≠ 64 ∨ sq l = 0 ∨ nn l = 0 ∨ (nn l : Int) ≠ frame_Sectors (zz l) ∨ l.length < nn l
theorem sectors_room (s : Int) (h : frame_Sectors s ≠ 0) : s ≤ 56 * frame_Sectors s := by
  rw [frame_Sectors] at h ⊢
  cases c : (decide (s < 0)) || (decide (s > 14280)) with
  | true => rw [c, cond_true] at h; exact absurd rfl h
  | false =>
    rw [cond_false]
    split <;> omega
theorem sectors_pos (s : Int) (h : 0 ≤ s) (h2 : s ≤ 14280) : 1 ≤ frame_Sectors s := by
  rw [frame_Sectors, show ((decide (s < 0)) || (decide (s > 14280))) = false by simp; omega, cond_false]
  split <;> omega
theorem drop_min (s : List UInt8) : slc s (if (s.length : Int) < 8 then (s.length : Int) else 8) (s.length : Int) = s.drop 8 := by
  rw [slc_drop]
  split
  · rw [List.drop_of_length_le (by omega), List.drop_of_length_le (by omega)]
  · rfl
theorem join_l1 (l : List (List UInt8)) (m : Nat) (h : (((slc l 0 (((l.getD 0 []).getD 5 0).toNat : Int)).length : Int) - 0).toNat < m) (hl : nn l ≤ l.length) : frame_Join_l1 l m 0 [] = .brk (flat l (nn l)) := by
  have e : (slc l 0 (((l.getD 0 []).getD 5 0).toNat : Int)).length = nn l := by rw [slc_len]; unfold nn at *; omega
  have := appLoop (f := frame_Join_l1 l) (n := ((slc l 0 (((l.getD 0 []).getD 5 0).toNat : Int)).length : Int)) (g := fun i => (slc ((slc l 0 (((l.getD 0 []).getD 5 0).toNat : Int)).getD i.toNat []) (if (((slc l 0 (((l.getD 0 []).getD 5 0).toNat : Int)).getD i.toNat []).length : Int) < 8 then (((slc l 0 (((l.getD 0 []).getD 5 0).toNat : Int)).getD i.toNat []).length : Int) else 8) (((slc l 0 (((l.getD 0 []).getD 5 0).toNat : Int)).getD i.toNat []).length : Int))) (fun m i o _ => by rw [frame_Join_l1]) m 0 [] (by omega) h
  rw [this, e, List.nil_append, flat]
  congr 1
  rw [show ((nn l : Int) - 0).toNat = nn l by omega]
  refine flat_congr _ _ _ (fun i hi => ?_)
  show slc _ _ _ = _
  rw [drop_min, slc_getD, if_pos (by unfold nn at hi; omega)]
  congr 2; omega
theorem flat_length (l : List (List UInt8)) (n : Nat) (h : ∀ i, i < n → (l.getD i []).length = 64) : (flat l n).length = 56 * n :=
  flat_len _ 56 n (fun i hi => by rw [List.length_drop, h i hi])
theorem flat_get (l : List (List UInt8)) (n i j : Nat) (h : ∀ i, i < n → (l.getD i []).length = 64) (hi : i < n) (hj : j < 56) : (flat l n).getD (56 * i + j) 0 = (l.getD i []).getD (8 + j) 0 := by
  have := flat_gD (fun k => (l.getD k []).drop 8) 56 0 i j hj n (fun i hi => by rw [List.length_drop, h i hi]) hi
  rw [flat, this, gD_drop]
theorem bb_length (l : List (List UInt8)) (h : ∀ i, i < nn l → (l.getD i []).length = 64) (hn : nn l ≠ 0) (hs : (nn l : Int) = frame_Sectors (zz l)) : (bb l).length = zz l := by
  have := sectors_room (zz l) (by omega)
  rw [bb, List.length_take, flat_length l _ h]; omega
/-- What is split again is the same, just where all sectors are those of what they tell. -/
theorem again (l : List (List UInt8)) (h0 : sq l ≠ 0) (hs : (nn l : Int) = frame_Sectors (zz l)) (hl : nn l ≤ l.length) :
    ((frame_Split (sq l) (bb l)).2 = 0 ∧ (frame_Split (sq l) (bb l)).1 = l.take (nn l)) ↔ (nn l ≠ 0 ∧ AllIn l) := by
  have hb : (bb l).length ≤ zz l := by rw [bb, List.length_take]; omega
  have hb2 : nn l = 0 → (bb l).length = 0 := by intro h; rw [bb, h]; simp [flat]
  have hf := sectors_fact (zz l)
  have hp : 1 ≤ frame_Sectors ((bb l).length : Int) := sectors_pos _ (by omega) (by omega)
  rw [split_eq, show ((sq l == 0) || (frame_Sectors ((bb l).length : Int) == 0)) = false by simp [h0]; omega, cond_false]
  show (0 = 0 ∧ List.map _ _ = _) ↔ _
  constructor
  · rintro ⟨_, e⟩
    have el := congrArg List.length e
    rw [List.length_map, List.length_range, List.length_take] at el
    have en : (frame_Sectors ((bb l).length : Int)) = nn l := by omega
    refine ⟨by omega, fun i hi => ?_⟩
    have : (_ : List (List UInt8)).getD i [] = (_ : List (List UInt8)).getD i [] := congrArg (fun x => List.getD x i []) e
    rw [gD_range, gD_take, if_pos hi, if_pos (by omega), en] at this
    exact this.symm
  · rintro ⟨hn, ha⟩
    have h64 : ∀ i, i < nn l → (l.getD i []).length = 64 := fun i hi => by rw [ha i hi, sct_length]
    have hz := bb_length l h64 hn hs
    have en : (frame_Sectors ((bb l).length : Int)) = nn l := by rw [hz, hs]
    refine ⟨rfl, ext_gD [] (by rw [List.length_map, List.length_range, List.length_take]; omega) (fun i hi => ?_)⟩
    rw [List.length_map, List.length_range] at hi
    rw [gD_range, gD_take, if_pos hi, if_pos (by omega), en]
    exact (ha i (by omega)).symm
theorem join_bad (l : List (List UInt8)) (h : Bad l ∨ ¬ AllIn l) : frame_Join l = (0, [], 0, 4) := by
  rw [frame_Join]
  cases c : ((l.length : Int) == 0) || (((l.getD 0 []).length : Int) != 64) with
  | true => rfl
  | false =>
    rw [cond_false, bnd_eq, bnd_eq]
    simp only [Bool.or_eq_false_iff, beq_eq_false_iff_ne, bne_eq_false_iff_eq] at c
    cases d : (!(decide ((frame_Seq (l.getD 0 [])).2 = 0))) || (((frame_Seq (l.getD 0 [])).1 == 0) || (((((l.getD 0 []).getD 5 0).toNat : Int) != frame_Sectors (orI ((((l.getD 0 []).getD 6 0).toNat : Int) * 256) (((l.getD 0 []).getD 7 0).toNat : Int))) || (decide ((l.length : Int) < (((l.getD 0 []).getD 5 0).toNat : Int))))) with
    | true => rfl
    | false =>
      rw [cond_false]
      rw [size_or] at *
      simp only [Bool.or_eq_false_iff, beq_eq_false_iff_ne, bne_eq_false_iff_eq, decide_eq_false_iff_not] at d
      have hsq : sq l ≠ 0 := d.2.1
      have hs : (nn l : Int) = frame_Sectors (zz l) := d.2.2.1
      have hl : nn l ≤ l.length := by have := d.2.2.2; unfold nn; omega
      rw [join_l1 l _ (by omega) hl]
      show frame_Join_k1 l _ (flat l (nn l)) = _
      rw [frame_Join_k1, size_or]
      have eb : prt (flat l (nn l)) 0 ((if ((flat l (nn l)).length : Int) < ((zz l : Nat) : Int) then ((flat l (nn l)).length : Int) else ((zz l : Nat) : Int)).toNat) = bb l := by
        rw [prt, bb, List.drop_zero]
        split
        · rw [List.take_of_length_le (by omega), List.take_of_length_le (by omega)]
        · congr 1
      have eb' := eb
      unfold zz at eb'
      rw [eb', bnd_eq, bnd_eq]
      have ag := again l hsq hs hl
      have n1 : ¬ ((frame_Split (sq l) (bb l)).2 = 0 ∧ (frame_Split (sq l) (bb l)).1 = l.take (nn l)) := by
        rw [ag]
        rintro ⟨a, b⟩
        rcases h with h | h
        · rcases h with h | h | h | h | h | h
          · omega
          · omega
          · exact hsq h
          · exact a h
          · exact h hs
          · omega
        · exact h b
      have e2 : slc l 0 (((l.getD 0 []).getD 5 0).toNat : Int) = l.take (nn l) := by rw [slc_take]; rfl
      rw [e2, show (frame_Seq (l.getD 0 [])).1 = sq l from rfl]
      rw [show ((!(decide ((frame_Split (sq l) (bb l)).2 = 0))) || (!eqFuncEq (frame_Split (sq l) (bb l)).1 (l.take (nn l)))) = true from ?_]
      · rfl
      · cases q : eqFuncEq (frame_Split (sq l) (bb l)).1 (l.take (nn l)) with
        | false => simp
        | true =>
          have := (eq_lists _ _).1 q
          have : (frame_Split (sq l) (bb l)).2 ≠ 0 := fun h => n1 ⟨h, this⟩
          simp [this]
theorem join_good (l : List (List UInt8)) (h : ¬ Bad l) (ha : AllIn l) : frame_Join l = (sq l, bb l, (nn l : Int), 0) := by
  simp only [Bad, not_or, Decidable.not_not] at h
  obtain ⟨h1, h2, h3, h4, h5, h6⟩ := h
  rw [frame_Join, show (((l.length : Int) == 0) || (((l.getD 0 []).length : Int) != 64)) = false by rw [h2]; simp only [Bool.or_eq_false_iff, beq_eq_false_iff_ne, bne_eq_false_iff_eq]; omega, cond_false, bnd_eq, bnd_eq, size_or]
  have hq : (frame_Seq (l.getD 0 [])).2 = 0 := by rw [frame_Seq, h2]; rfl
  rw [show ((!(decide ((frame_Seq (l.getD 0 [])).2 = 0))) || (((frame_Seq (l.getD 0 [])).1 == 0) || (((((l.getD 0 []).getD 5 0).toNat : Int) != frame_Sectors (((((l.getD 0 []).getD 6 0).toNat * 256 + ((l.getD 0 []).getD 7 0).toNat : Nat) : Int))) || (decide ((l.length : Int) < (((l.getD 0 []).getD 5 0).toNat : Int)))))) = false from ?_, cond_false, join_l1 l _ (by omega) (by omega)]
  · show frame_Join_k1 l _ (flat l (nn l)) = _
    rw [frame_Join_k1, size_or]
    have eb : prt (flat l (nn l)) 0 ((if ((flat l (nn l)).length : Int) < ((zz l : Nat) : Int) then ((flat l (nn l)).length : Int) else ((zz l : Nat) : Int)).toNat) = bb l := by
      rw [prt, bb, List.drop_zero]
      split
      · rw [List.take_of_length_le (by omega), List.take_of_length_le (by omega)]
      · congr 1
    unfold zz at eb
    rw [eb, bnd_eq, bnd_eq]
    obtain ⟨a1, a2⟩ := (again l h3 h5 (by omega)).2 ⟨h4, ha⟩
    have e2 : slc l 0 (((l.getD 0 []).getD 5 0).toNat : Int) = l.take (nn l) := by rw [slc_take]; rfl
    rw [e2, show (frame_Seq (l.getD 0 [])).1 = sq l from rfl]
    rw [show ((!(decide ((frame_Split (sq l) (bb l)).2 = 0))) || (!eqFuncEq (frame_Split (sq l) (bb l)).1 (l.take (nn l)))) = false from ?_]
    · rfl
    · rw [a1, (eq_lists _ _).2 a2]; rfl
  · rw [hq]
    simp only [Bool.or_eq_false_iff, beq_eq_false_iff_ne, bne_eq_false_iff_eq, decide_eq_false_iff_not]
    exact ⟨rfl, h3, h5, by have h6' := h6; unfold nn at h6'; omega⟩
end Go.Proofs.YtkomeflgnikflaaDoor

import Derived.Test.YtbppcnhfeobefaaDoorZ4
set_option linter.unusedVariables false
set_option linter.unusedSimpArgs false
namespace Go.Proofs.YtbppcnhfeobefaaDoor
open Go Go.Vw Go.Proofs
def isd (c : UInt8) : Bool := decide (0 ≤ dig c)
theorem asc_get : (List.range 256).all (fun n => (strings_makeASCIISet [48, 49, 50, 51, 52, 53, 54, 55, 56, 57, 97, 98, 99, 100, 101, 102]).1.getD n false == isd (UInt8.ofNat n)) = true := by kernel_rfl
theorem trim_l (o : List Bool) (ho : ∀ c : UInt8, o.getD c.toNat false = isd c) : ∀ (m : Nat) (s : List UInt8), s.length < m → strings_trimLeftASCII_l1 m s o = .brk (s.dropWhile isd, o)
  | 0, _, h => absurd h (Nat.not_lt_zero _)
  | m + 1, [], _ => by rw [strings_trimLeftASCII_l1, decide_eq_false (by simp), cond_false]; rfl
  | m + 1, a :: s, h => by
    rw [strings_trimLeftASCII_l1, decide_eq_true (by simp), cond_true, bnd_eq, contains_eq]
    show _root_.cond (!(o.getD a.toNat false)) _ _ = _
    rw [ho]
    cases e : isd a with
    | true =>
      show _root_.cond false _ _ = _
      rw [cond_false, slc_drop]
      show strings_trimLeftASCII_l1 m s o = _
      rw [trim_l o ho m s (by simp at h; omega), List.dropWhile_cons, e, if_pos rfl]
    | false =>
      show _root_.cond true _ _ = _
      rw [cond_true, List.dropWhile_cons, e, if_neg (by decide)]
theorem trim_eq (t : List UInt8) : strings_TrimLeft t [48, 49, 50, 51, 52, 53, 54, 55, 56, 57, 97, 98, 99, 100, 101, 102] = t.dropWhile isd := by
  rw [strings_TrimLeft]
  cases t with
  | nil => rfl
  | cons a t =>
    rw [show ((a :: t == ([] : List UInt8)) || (([48, 49, 50, 51, 52, 53, 54, 55, 56, 57, 97, 98, 99, 100, 101, 102] : List UInt8) == [])) = false from rfl, cond_false]
    rw [show ((((([48, 49, 50, 51, 52, 53, 54, 55, 56, 57, 97, 98, 99, 100, 101, 102] : List UInt8).length : Int) == 1)) && (decide ((([48, 49, 50, 51, 52, 53, 54, 55, 56, 57, 97, 98, 99, 100, 101, 102] : List UInt8).getD 0 0) < 128))) = false by decide, cond_false, bnd_eq, asc_hexa, cond_true, bnd_eq, strings_trimLeftASCII]
    rw [trim_l _ (fun c => by have h := all8 asc_get c; rw [ofN] at h; exact eq_of_beq h) _ _ (Nat.lt_succ_self _)]
    show (strings_trimLeftASCII_k1 _ _).1 = _
    rw [strings_trimLeftASCII_k1]
theorem dw_nil (a : UInt8) (t : List UInt8) : (a :: t).dropWhile isd = [] ↔ isd a = true ∧ t.dropWhile isd = [] := by
  rw [List.dropWhile_cons]; cases isd a <;> simp
theorem dig_isd {a : UInt8} : isd a = true ↔ ¬ dig a < 0 := by rw [isd, decide_eq_true_eq]; omega
theorem unh_ok : ∀ (n : Nat) (t : List UInt8), t.length ≤ 2 * n → t.length % 2 = 0 → (t.dropWhile isd = [] → ∃ r, unh t = some r ∧ t.length = 2 * r.length) ∧ (¬ t.dropWhile isd = [] → unh t = none)
  | _, [], _, _ => ⟨fun _ => ⟨[], by simp [unh], rfl⟩, fun h => absurd rfl h⟩
  | _, [_], _, h => by simp at h
  | 0, _ :: _ :: _, h, _ => by simp at h
  | n + 1, a :: b :: t, hn, he => by
    have ih := unh_ok n t (by simp at hn; omega) (by simp at he; omega)
    rw [dw_nil, dw_nil, dig_isd, dig_isd, unh]
    constructor
    · rintro ⟨h1, h2, h3⟩
      obtain ⟨r, hr, hl⟩ := ih.1 h3
      rw [if_neg (by simp only [not_or]; exact ⟨h1, h2⟩), hr]
      exact ⟨_, rfl, by simp; omega⟩
    · intro h
      split
      · rfl
      · rename_i q
        simp only [not_or] at q
        rw [ih.2 (fun h3 => h ⟨q.1, q.2, h3⟩)]; rfl
theorem or_all : (List.range 256).all (fun n => orI (((n / 16 : Nat) : Int) * 16) ((n % 16 : Nat) : Int) == (n : Int)) = true := by kernel_rfl
theorem or_dig (a b : Int) (h1 : 0 ≤ a) (h2 : a ≤ 15) (h3 : 0 ≤ b) (h4 : b ≤ 15) : orI (a * 16) b = 16 * a + b := by
  have h := List.all_eq_true.1 or_all (16 * a + b).toNat (List.mem_range.2 (by omega))
  have e := eq_of_beq h
  rw [show (((16 * a + b).toNat / 16 : Nat) : Int) = a by omega, show (((16 * a + b).toNat % 16 : Nat) : Int) = b by omega] at e
  rw [e]; omega
theorem dig_le (c : UInt8) : dig c ≤ 15 := by rw [← digit_eq]; exact (digit_fact c).2
theorem rng_unh (t : List UInt8) : ∀ (n k : Nat) (z r : List UInt8), t.length = 2 * k + 2 * n → unh (t.drop (2 * k)) = some r → rng (fun kk z => sharecode_Parse_rb1 t kk z) n k z = .inl (z ++ r)
  | 0, k, z, r, hl, h => by
    rw [List.drop_eq_nil_of_le (by omega)] at h
    have : r = [] := by simpa [unh] using h.symm
    rw [this, List.append_nil]; rfl
  | n + 1, k, z, r, hl, h => by
    rw [drop_cons t (2 * k) 0 (by omega), drop_cons t (2 * k + 1) 0 (by omega), unh] at h
    split at h
    · exact absurd h (by simp)
    · rename_i q
      simp only [not_or] at q
      cases e : unh (t.drop (2 * k + 1 + 1)) with
      | none => rw [e] at h; exact absurd h (by simp)
      | some r' =>
        rw [e] at h
        have h : r = u8i (16 * dig (t.getD (2 * k) 0) + dig (t.getD (2 * k + 1) 0)) :: r' := by simpa using h.symm
        have e0 : (chk t 2 k).getD 0 0 = t.getD (2 * k) 0 := by rw [chk, gD_take, gD_drop]; simp; rw [Nat.mul_comm]
        have e1 : (chk t 2 k).getD 1 0 = t.getD (2 * k + 1) 0 := by rw [chk, gD_take, gD_drop]; simp; rw [Nat.mul_comm]
        have er : sharecode_Parse_rb1 t k z = .inl (z ++ [u8i (16 * dig (t.getD (2 * k) 0) + dig (t.getD (2 * k + 1) 0))]) := by
          rw [sharecode_Parse_rb1, bnd_eq, bnd_eq, ibx_eq, ibx_eq, e0, e1, or_dig _ _ (by omega) (dig_le _) (by omega) (dig_le _)]
        rw [rng]
        simp only [er]
        rw [rng_unh t n (k + 1) _ r' (by omega) (by rw [show 2 * (k + 1) = 2 * k + 1 + 1 by omega]; exact e), h, List.append_assoc]; rfl
theorem parse_eq (t : List UInt8) : sharecode_Parse t = if t.length % 2 = 0 ∧ t.length ≤ 144 then (match unh t with | none => ((0, 0, []), 4) | some l => dcd l) else ((0, 0, []), 4) := by
  rw [sharecode_Parse, trim_eq, bnd_eq]
  by_cases h1 : t.length % 2 = 0 ∧ t.length ≤ 144
  · rw [if_pos h1]
    have hu := unh_ok t.length t (by omega) h1.1
    by_cases h2 : t.dropWhile isd = []
    · obtain ⟨r, hr, hl⟩ := hu.1 h2
      have e : ((((t.length : Int) % 2) != 0) || ((decide ((t.length : Int) > 144)) || (t.dropWhile isd != []))) = false := by
        simp only [Bool.or_eq_false_iff, decide_eq_false_iff_not, bne_eq_false_iff_eq]
        exact ⟨by omega, by omega, h2⟩
      rw [e, cond_false, hr, rng_unh t (nch t.length 2) 0 [] r (by unfold nch; omega) (by simpa using hr)]
      show sharecode_Parse_rk1 ([] ++ r) = _
      rw [sharecode_Parse_rk1, bnd_eq, dec_eq]; rfl
    · have e : ((((t.length : Int) % 2) != 0) || ((decide ((t.length : Int) > 144)) || (t.dropWhile isd != []))) = true := by
        rw [show (t.dropWhile isd != []) = true by simpa using h2]; simp
      rw [e, cond_true, hu.2 h2]
  · rw [if_neg h1]
    have e : ((((t.length : Int) % 2) != 0) || ((decide ((t.length : Int) > 144)) || (t.dropWhile isd != []))) = true := by
      rw [← Bool.not_eq_false]
      intro e
      simp only [Bool.or_eq_false_iff, decide_eq_false_iff_not, bne_eq_false_iff_eq] at e
      exact h1 ⟨by omega, by omega⟩
    rw [e, cond_true]
theorem sure_true : bursarylaw04_sure = true := by kernel_rfl
theorem same (a : UInt8) (g : UInt32) (c : List UInt8) : bursarylaw04_isShare a g c a g c = true := by rw [bursarylaw04_isShare]; simp
theorem hd_all : (List.range 256).all (fun n => isd (hexas.getD (shr8 (UInt8.ofNat n) 4).toNat 0) && isd (hexas.getD (UInt8.ofNat n &&& 15).toNat 0) && u8i (16 * dig (hexas.getD (shr8 (UInt8.ofNat n) 4).toNat 0) + dig (hexas.getD (UInt8.ofNat n &&& 15).toNat 0)) == UInt8.ofNat n) = true := by kernel_rfl
theorem unh_hexs (l : List UInt8) : unh (hexs l) = some l := by
  induction l with
  | nil => simp [hexs, unh]
  | cons a l ih =>
    have h := all8 hd_all a
    rw [ofN] at h
    simp only [Bool.and_eq_true, beq_iff_eq] at h
    obtain ⟨⟨h1, h2⟩, h3⟩ := h
    rw [hexs, List.flatMap_cons, ← hexs, hx]
    show unh (_ :: _ :: hexs l) = _
    rw [unh, if_neg (by simp only [not_or]; exact ⟨dig_isd.1 h1, dig_isd.1 h2⟩), ih, h3]; rfl
theorem gen4_enc (g : UInt32) : 256 * (256 * (256 * (256 * 0 + (shr32 g 24).toUInt8.toUInt32) + (shr32 g 16).toUInt8.toUInt32) + (shr32 g 8).toUInt8.toUInt32) + g.toUInt8.toUInt32 = g := by
  apply UInt32.toNat_inj.1
  have h1 := shr8_32 g (k := 24) (m := 16777216) rfl
  have h2 := shr8_32 g (k := 16) (m := 65536) rfl
  have h3 := shr8_32 g (k := 8) (m := 256) rfl
  have hg := g.toNat_lt
  simp only [UInt32.toNat_add, UInt32.toNat_mul, UInt8.toNat_toUInt32, h1, h2, h3, UInt32.toNat_toUInt8]
  show (256 * ((256 * ((256 * ((256 * 0 % 4294967296 + g.toNat / 16777216 % 256) % 4294967296) % 4294967296 + g.toNat / 65536 % 256) % 4294967296) % 4294967296 + g.toNat / 256 % 256) % 4294967296) % 4294967296 + g.toNat % 256) % 4294967296 = g.toNat
  omega
theorem dcd_enc (a : UInt8) (g : UInt32) (c : List UInt8) (h : okS a c) : dcd (encS a g c) = ((a, g, c), 0) := by
  have h7 : (u8i (c.length : Int)).toNat = c.length := u8i_nat _ (by have := h.2.2; omega)
  have : okB (encS a g c) := ⟨by rw [encS_len]; have := h.2.1; omega, rfl, rfl, h.1, by show (u8i (c.length : Int)).toNat ≤ 64; rw [h7]; exact h.2.2, by rw [encS_len]; show _ = 8 + (u8i (c.length : Int)).toNat; rw [h7]⟩
  rw [dcd, if_pos this]
  show ((a, gen4 (encS a g c), c), 0) = _
  rw [show gen4 (encS a g c) = g from gen4_enc g]
theorem dcd_no {b : List UInt8} (h : ¬ okB b) : dcd b = ((0, 0, []), 4) := by rw [dcd, if_neg h]
theorem take_no (a : UInt8) (g : UInt32) (c : List UInt8) (h : okS a c) (n : Nat) (hn : n < (encS a g c).length) : dcd ((encS a g c).take n) = ((0, 0, []), 4) := by
  refine dcd_no fun q => ?_
  have h7 : (u8i (c.length : Int)).toNat = c.length := u8i_nat _ (by have := h.2.2; omega)
  have h1 := q.1; have h2 := q.2.2.2.2.2
  rw [List.length_take] at h1 h2
  rw [gD_take, if_pos (by omega), show (encS a g c).getD 7 0 = u8i (c.length : Int) from rfl, h7] at h2
  rw [encS_len] at *; omega
theorem more_no (a : UInt8) (g : UInt32) (c : List UInt8) (h : okS a c) (x : UInt8) : dcd ([] ++ encS a g c ++ [x]) = ((0, 0, []), 4) := by
  refine dcd_no fun q => ?_
  have h7 : (u8i (c.length : Int)).toNat = c.length := u8i_nat _ (by have := h.2.2; omega)
  have h2 := q.2.2.2.2.2
  rw [List.nil_append, List.length_append, gD_app, if_pos (by rw [encS_len]; omega), show (encS a g c).getD 7 0 = u8i (c.length : Int) from rfl, h7, encS_len] at h2
  simp at h2
theorem gen_byte (x y z w : UInt8) : let g := 256 * (256 * (256 * (256 * 0 + x.toUInt32) + y.toUInt32) + z.toUInt32) + w.toUInt32; (shr32 g 24).toUInt8 = x ∧ (shr32 g 16).toUInt8 = y ∧ (shr32 g 8).toUInt8 = z ∧ g.toUInt8 = w := by
  intro g
  have hx := x.toNat_lt; have hy := y.toNat_lt; have hz := z.toNat_lt; have hw := w.toNat_lt
  have hg : g.toNat = 16777216 * x.toNat + 65536 * y.toNat + 256 * z.toNat + w.toNat := by
    show (256 * (256 * (256 * (256 * 0 + x.toUInt32) + y.toUInt32) + z.toUInt32) + w.toUInt32).toNat = _
    simp only [UInt32.toNat_add, UInt32.toNat_mul, UInt8.toNat_toUInt32]
    show (256 * ((256 * ((256 * ((256 * 0 % 4294967296 + x.toNat) % 4294967296) % 4294967296 + y.toNat) % 4294967296) % 4294967296 + z.toNat) % 4294967296) % 4294967296 + w.toNat) % 4294967296 = _
    omega
  refine ⟨UInt8.toNat_inj.1 ?_, UInt8.toNat_inj.1 ?_, UInt8.toNat_inj.1 ?_, UInt8.toNat_inj.1 ?_⟩
  · rw [shr8_32 g (k := 24) (m := 16777216) rfl, hg]; omega
  · rw [shr8_32 g (k := 16) (m := 65536) rfl, hg]; omega
  · rw [shr8_32 g (k := 8) (m := 256) rfl, hg]; omega
  · rw [UInt32.toNat_toUInt8, hg]; omega
theorem enc_dcd (b : List UInt8) (h : okB b) : okS (b.getD 6 0) (b.drop 8) ∧ encS (b.getD 6 0) (gen4 b) (b.drop 8) = b := by
  obtain ⟨h1, h2, h3, h4, h5, h6⟩ := h
  refine ⟨⟨h4, by simp; omega, by simp; omega⟩, ?_⟩
  obtain ⟨e1, e2, e3, e4⟩ := gen_byte (b.getD 2 0) (b.getD 3 0) (b.getD 4 0) (b.getD 5 0)
  have e7 : u8i (((b.drop 8).length : Nat) : Int) = b.getD 7 0 := by
    apply UInt8.toNat_inj.1
    rw [u8i_nat _ (by simp; omega)]; rw [List.length_drop]; omega
  rw [encS, gen4, e1, e2, e3, e4, e7, ← h2, ← h3]
  rw [← drop_cons b 7 0 (by omega), ← drop_cons b 6 0 (by omega), ← drop_cons b 5 0 (by omega), ← drop_cons b 4 0 (by omega), ← drop_cons b 3 0 (by omega), ← drop_cons b 2 0 (by omega), ← drop_cons b 1 0 (by omega), ← drop_cons b 0 0 (by omega), List.drop_zero]
theorem back_end (b : List UInt8) : (_root_.cond (!(decide ((dcd b).2 = 0))) ((((dcd b).1).1 == 0) && ((((((dcd b).1).2.2).length : Int) == 0) && true)) ((decide ((sharecode_Encode ((dcd b).1).1 ((dcd b).1).2.1 ((dcd b).1).2.2).2 = 0)) && (((sharecode_Encode ((dcd b).1).1 ((dcd b).1).2.1 ((dcd b).1).2.2).1 == b) && true))) = true := by
  by_cases h : okB b
  · obtain ⟨h1, h2⟩ := enc_dcd b h
    rw [dcd, if_pos h]
    simp only [enc_eq, if_pos h1, h2]; simp
  · rw [dcd_no h]; rfl
theorem back_true (a : UInt8) (g : UInt32) (c b : List UInt8) (k : Int) : bursarylaw04_SharecodeBack a g c b k = true := by
  rw [bursarylaw04_SharecodeBack]
  cases (decide ((c.length : Int) > 300)) || (decide ((b.length : Int) > 1000)) with
  | true => rw [cond_true, sure_true]
  | false =>
    have hb := back_end b
    rw [cond_false, enc_eq, text_eq]
    by_cases h : okS a c
    · have hl := encS_len a g c
      have hh := hexs_len (encS a g c)
      have h64 := h.2.2
      have hp : sharecode_Parse (hexs (encS a g c)) = ((a, g, c), 0) := by
        rw [parse_eq, if_pos ⟨by omega, by omega⟩, unh_hexs]
        exact dcd_enc a g c h
      have hk : sharecode_Decode (slc (encS a g c) 0 (((u64i k) % (u64i ((encS a g c).length : Int))).toNat : Int)) = ((0, 0, []), 4) := by
        rw [dec_eq, slc_take, Int.toNat_natCast]
        refine take_no a g c h _ ?_
        rw [UInt64.toNat_mod, u64i_len _ (by omega)]
        exact Nat.mod_lt _ (by omega)
      have hm : sharecode_Decode ([] ++ encS a g c ++ [0]) = ((0, 0, []), 4) := by rw [dec_eq]; exact more_no a g c h 0
      have hne : (((encS a g c).length : Int) == 0) = false := by simp only [beq_eq_false_iff_ne]; omega
      simp only [if_pos h, bnd_eq, hp, hk, hm, same, sure_true, id_eq, hne]
      rw [dec_eq (encS a g c), dcd_enc a g c h]
      simp only [same]
      rw [dec_eq b]
      exact hb
    · simp only [if_neg h, bnd_eq, sure_true]
      rw [dec_eq b]
      exact hb
end Go.Proofs.YtbppcnhfeobefaaDoor

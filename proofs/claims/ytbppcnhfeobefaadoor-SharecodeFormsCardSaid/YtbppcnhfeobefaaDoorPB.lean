import Derived.Test.YtbppcnhfeobefaaDoorZ4
set_option linter.unusedVariables false
set_option linter.unusedSimpArgs false
namespace Go.Proofs.YtbppcnhfeobefaaDoor
open Go Go.Vw Go.Proofs
def isd (c : UInt8) : Bool := decide (0 ≤ dig c)
theorem asc_get : (List.range 256).all (fun n => (strings_makeASCIISet [48, 49, 50, 51, 52, 53, 54, 55, 56, 57, 97, 98, 99, 100, 101, 102]).1.getD n false == isd (UInt8.ofNat n)) = true := by kernel_rfl
theorem trim_l (o : List Bool) (ho : ∀ c : UInt8, o.getD c.toNat false = isd c) : ∀ (m : Nat) (s : List UInt8), s.length < m → strings_trimLeftASCII_l1 m s o = .brk (s.dropWhile isd, o)
  | 0, _, h => absurd h (Nat.not_lt_zero _)
  | m + 1, [], _ => by rw [strings_trimLeftASCII_l1, decide_eq_false (by simp), cond_false]; rfl
  | m + 1, a :: s, h => by
    rw [strings_trimLeftASCII_l1, decide_eq_true (by simp), cond_true, bnd_eq, contains_eq]
    show _root_.cond (!(o.getD a.toNat false)) _ _ = _
    rw [ho]
    cases e : isd a with
    | true =>
      show _root_.cond false _ _ = _
      rw [cond_false, slc_drop]
      show strings_trimLeftASCII_l1 m s o = _
      rw [trim_l o ho m s (by simp at h; omega), List.dropWhile_cons, e, if_pos rfl]
    | false =>
      show _root_.cond true _ _ = _
      rw [cond_true, List.dropWhile_cons, e, if_neg (by decide)]
theorem trim_eq (t : List UInt8) : strings_TrimLeft t [48, 49, 50, 51, 52, 53, 54, 55, 56, 57, 97, 98, 99, 100, 101, 102] = t.dropWhile isd := by
  rw [strings_TrimLeft]
  cases t with
  | nil => rfl
  | cons a t =>
    rw [show ((a :: t == ([] : List UInt8)) || (([48, 49, 50, 51, 52, 53, 54, 55, 56, 57, 97, 98, 99, 100, 101, 102] : List UInt8) == [])) = false from rfl, cond_false]
    rw [show ((((([48, 49, 50, 51, 52, 53, 54, 55, 56, 57, 97, 98, 99, 100, 101, 102] : List UInt8).length : Int) == 1)) && (decide ((([48, 49, 50, 51, 52, 53, 54, 55, 56, 57, 97, 98, 99, 100, 101, 102] : List UInt8).getD 0 0) < 128))) = false by decide, cond_false, bnd_eq, asc_hexa, cond_true, bnd_eq, strings_trimLeftASCII]
    rw [trim_l _ (fun c => by have h := all8 asc_get c; rw [ofN] at h; exact eq_of_beq h) _ _ (Nat.lt_succ_self _)]
    show (strings_trimLeftASCII_k1 _ _).1 = _
    rw [strings_trimLeftASCII_k1]
theorem dw_nil (a : UInt8) (t : List UInt8) : (a :: t).dropWhile isd = [] ↔ isd a = true ∧ t.dropWhile isd = [] := by
  rw [List.dropWhile_cons]; cases isd a <;> simp
theorem dig_isd {a : UInt8} : isd a = true ↔ ¬ dig a < 0 := by rw [isd, decide_eq_true_eq]; omega
theorem unh_ok : ∀ (n : Nat) (t : List UInt8), t.length ≤ 2 * n → t.length % 2 = 0 → (t.dropWhile isd = [] → ∃ r, unh t = some r ∧ t.length = 2 * r.length) ∧ (¬ t.dropWhile isd = [] → unh t = none)
  | _, [], _, _ => ⟨fun _ => ⟨[], by simp [unh], rfl⟩, fun h => absurd rfl h⟩
  | _, [_], _, h => by simp at h
  | 0, _ :: _ :: _, h, _ => by simp at h
  | n + 1, a :: b :: t, hn, he => by
    have ih := unh_ok n t (by simp at hn; omega) (by simp at he; omega)
    rw [dw_nil, dw_nil, dig_isd, dig_isd, unh]
    constructor
    · rintro ⟨h1, h2, h3⟩
      obtain ⟨r, hr, hl⟩ := ih.1 h3
      rw [if_neg (by simp only [not_or]; exact ⟨h1, h2⟩), hr]
      exact ⟨_, rfl, by simp; omega⟩
    · intro h
      split
      · rfl
      · rename_i q
        simp only [not_or] at q
        rw [ih.2 (fun h3 => h ⟨q.1, q.2, h3⟩)]; rfl
theorem or_all : (List.range 256).all (fun n => orI (((n / 16 : Nat) : Int) * 16) ((n % 16 : Nat) : Int) == (n : Int)) = true := by kernel_rfl
theorem or_dig (a b : Int) (h1 : 0 ≤ a) (h2 : a ≤ 15) (h3 : 0 ≤ b) (h4 : b ≤ 15) : orI (a * 16) b = 16 * a + b := by
  have h := List.all_eq_true.1 or_all (16 * a + b).toNat (List.mem_range.2 (by omega))
  have e := eq_of_beq h
  rw [show (((16 * a + b).toNat / 16 : Nat) : Int) = a by omega, show (((16 * a + b).toNat % 16 : Nat) : Int) = b by omega] at e
  rw [e]; omega
theorem dig_le (c : UInt8) : dig c ≤ 15 := by rw [← digit_eq]; exact (digit_fact c).2
theorem rng_unh (t : List UInt8) : ∀ (n k : Nat) (z r : List UInt8), t.length = 2 * k + 2 * n → unh (t.drop (2 * k)) = some r → rng (fun kk z => sharecode_Parse_rb1 t kk z) n k z = .inl (z ++ r)
  | 0, k, z, r, hl, h => by
    rw [List.drop_eq_nil_of_le (by omega)] at h
    have : r = [] := by simpa [unh] using h.symm
    rw [this, List.append_nil]; rfl
  | n + 1, k, z, r, hl, h => by
    rw [drop_cons t (2 * k) 0 (by omega), drop_cons t (2 * k + 1) 0 (by omega), unh] at h
    split at h
    · exact absurd h (by simp)
    · rename_i q
      simp only [not_or] at q
      cases e : unh (t.drop (2 * k + 1 + 1)) with
      | none => rw [e] at h; exact absurd h (by simp)
      | some r' =>
        rw [e] at h
        have h : r = u8i (16 * dig (t.getD (2 * k) 0) + dig (t.getD (2 * k + 1) 0)) :: r' := by simpa using h.symm
        have e0 : (chk t 2 k).getD 0 0 = t.getD (2 * k) 0 := by rw [chk, gD_take, gD_drop]; simp; rw [Nat.mul_comm]
        have e1 : (chk t 2 k).getD 1 0 = t.getD (2 * k + 1) 0 := by rw [chk, gD_take, gD_drop]; simp; rw [Nat.mul_comm]
        have er : sharecode_Parse_rb1 t k z = .inl (z ++ [u8i (16 * dig (t.getD (2 * k) 0) + dig (t.getD (2 * k + 1) 0))]) := by
          rw [sharecode_Parse_rb1, bnd_eq, bnd_eq, ibx_eq, ibx_eq, e0, e1, or_dig _ _ (by omega) (dig_le _) (by omega) (dig_le _)]
        rw [rng]
        simp only [er]
        rw [rng_unh t n (k + 1) _ r' (by omega) (by rw [show 2 * (k + 1) = 2 * k + 1 + 1 by omega]; exact e), h, List.append_assoc]; rfl
theorem parse_eq (t : List UInt8) : sharecode_Parse t = if t.length % 2 = 0 ∧ t.length ≤ 144 then (match unh t with | none => ((0, 0, []), 4) | some l => dcd l) else ((0, 0, []), 4) := by
  rw [sharecode_Parse, trim_eq, bnd_eq]
  by_cases h1 : t.length % 2 = 0 ∧ t.length ≤ 144
  · rw [if_pos h1]
    have hu := unh_ok t.length t (by omega) h1.1
    by_cases h2 : t.dropWhile isd = []
    · obtain ⟨r, hr, hl⟩ := hu.1 h2
      have e : ((((t.length : Int) % 2) != 0) || ((decide ((t.length : Int) > 144)) || (t.dropWhile isd != []))) = false := by
        simp only [Bool.or_eq_false_iff, decide_eq_false_iff_not, bne_eq_false_iff_eq]
        exact ⟨by omega, by omega, h2⟩
      rw [e, cond_false, hr, rng_unh t (nch t.length 2) 0 [] r (by unfold nch; omega) (by simpa using hr)]
      show sharecode_Parse_rk1 ([] ++ r) = _
      rw [sharecode_Parse_rk1, bnd_eq, dec_eq]; rfl
    · have e : ((((t.length : Int) % 2) != 0) || ((decide ((t.length : Int) > 144)) || (t.dropWhile isd != []))) = true := by
        rw [show (t.dropWhile isd != []) = true by simpa using h2]; simp
      rw [e, cond_true, hu.2 h2]
  · rw [if_neg h1]
    have e : ((((t.length : Int) % 2) != 0) || ((decide ((t.length : Int) > 144)) || (t.dropWhile isd != []))) = true := by
      rw [← Bool.not_eq_false]
      intro e
      simp only [Bool.or_eq_false_iff, decide_eq_false_iff_not, bne_eq_false_iff_eq] at e
      exact h1 ⟨by omega, by omega⟩
    rw [e, cond_true]
theorem refparse_eq (t : List UInt8) : bursaryref04_Parse t = sharecode_Parse t := by
  rw [bursaryref04_Parse, unhex_eq, parse_eq]
  by_cases h1 : t.length % 2 = 0
  · have hu := unh_ok t.length t (by omega) h1
    cases e : unh t with
    | none => simp only [ite_self]; rfl
    | some l =>
      have hl : t.length = 2 * l.length := by
        by_cases h2 : t.dropWhile isd = []
        · obtain ⟨r, hr, hl⟩ := hu.1 h2
          rw [e] at hr; injection hr with hr; rw [hr]; exact hl
        · rw [hu.2 h2] at e; exact absurd e (by simp)
      have e0 : (((t.length : Int) % 2) == 0) = true := by simp only [beq_iff_eq]; omega
      show bnd (l, ((t.length : Int) % 2) == 0) _ = _
      rw [bnd_eq, e0]
      show _root_.cond false _ _ = _
      rw [cond_false, bnd_eq, refdec_eq]
      show dcd l = _
      by_cases h2 : t.length ≤ 144
      · rw [if_pos ⟨h1, h2⟩]
      · rw [if_neg (fun q => h2 q.2), dcd, if_neg (fun q => by have := q.2.2.2.2.1; have := q.2.2.2.2.2; omega)]
  · rw [if_neg (fun q => h1 q.1)]
    cases e : unh t with
    | none => rfl
    | some l =>
      have e0 : (((t.length : Int) % 2) == 0) = false := by simp only [beq_eq_false_iff_ne]; omega
      show bnd (l, ((t.length : Int) % 2) == 0) _ = _
      rw [bnd_eq, e0]; rfl
theorem sure_true : bursarylaw04_sure = true := by kernel_rfl
theorem same (a : UInt8) (g : UInt32) (c : List UInt8) : bursarylaw04_isShare a g c a g c = true := by rw [bursarylaw04_isShare]; simp
theorem forms_true (a : UInt8) (g : UInt32) (c b t : List UInt8) : bursarylaw04_SharecodeForms a g c b t = true := by
  rw [bursarylaw04_SharecodeForms]
  simp only [bnd_eq, refparse_eq, dec_eq, refdec_eq, enc_eq, refenc_eq, text_eq, hex_eq, same, sure_true, id_eq]
  cases (decide ((c.length : Int) > 300)) || ((decide ((b.length : Int) > 1000)) || (decide ((t.length : Int) > 1000))) with
  | true => rfl
  | false =>
    rw [cond_false]
    by_cases h : okS a c
    · simp [if_pos h]
    · simp [if_neg h]; rfl
end Go.Proofs.YtbppcnhfeobefaaDoor

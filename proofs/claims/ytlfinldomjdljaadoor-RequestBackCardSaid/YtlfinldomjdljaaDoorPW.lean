/- Fields as bytes: the plain laws. -/
import Derived.Test.YtlfinldomjdljaaDoorD7
import Derived.Test.YtlfinldomjdljaaDoorVx14
namespace Go.Proofs.YtlfinldomjdljaaDoor
open Go Go.Vw Go.Proofs
/-! ## fields -/
def fld (f : List UInt8) : List UInt8 := u8i ((f.length : Int) / 256) :: u8i (f.length : Int) :: f
def body (l : List (List UInt8)) : List UInt8 := l.flatMap fld
theorem body_cons (f : List UInt8) (l : List (List UInt8)) : body (f :: l) = u8i ((f.length : Int) / 256) :: u8i (f.length : Int) :: (f ++ body l) := rfl
theorem body_len (f : List UInt8) (l : List (List UInt8)) : (body (f :: l)).length = f.length + (body l).length + 2 := by
  rw [body_cons]; simp
def fits (l : List (List UInt8)) : Prop := l.length ≤ 16 ∧ (body l).length ≤ 1023
instance (l : List (List UInt8)) : Decidable (fits l) := inferInstanceAs (Decidable (_ ∧ _))
theorem concat3 (a b c : List UInt8) : slices_Concat [a, b, c] = a ++ b ++ c := by
  rw [concat_eq]; simp
theorem enc_l1 (l : List (List UInt8)) : ∀ (m : Nat) (i : Int) (o : List UInt8), 0 ≤ i → ((l.length : Int) - i).toNat < m → o.length ≤ 1024 →
    wire_Encode_l1 l m i o = if o.length + (body (l.drop i.toNat)).length ≤ 1024 then .brk (o ++ body (l.drop i.toNat)) else .ret ([], 3) := by
  intro m
  induction m with
  | zero => intro i o _ h; exact absurd h (Nat.not_lt_zero _)
  | succ m ih =>
    intro i o h0 h ho
    rw [wire_Encode_l1]
    by_cases c : i < (l.length : Int)
    · rw [decide_eq_true c, cond_true]
      have ed := drop_cons l i.toNat [] (by omega)
      have e1 : (i + 1).toNat = i.toNat + 1 := by omega
      generalize hf : l.getD i.toNat [] = f at *
      have el : (body (l.drop i.toNat)).length = f.length + (body (l.drop (i.toNat + 1))).length + 2 := by rw [ed, body_len]
      by_cases d : (f.length : Int) > (1024 - (o.length : Int)) - 2
      · rw [decide_eq_true d, cond_true, if_neg (by omega)]
      · have e3 : (slices_Concat ([o, ([u8i ((f.length : Int) / 256), u8i (f.length : Int)] : List UInt8), f] : List (List UInt8))).length = o.length + 2 + f.length := by
          rw [concat3]; simp; omega
        rw [decide_eq_false d, cond_false, bnd_eq, ih (i + 1) _ (by omega) (by omega) (by rw [e3]; omega), e1, e3, el]
        by_cases g : o.length + 2 + f.length + (body (l.drop (i.toNat + 1))).length ≤ 1024
        · rw [if_pos g, if_pos (by omega), concat3, ed, body_cons]
          simp
        · rw [if_neg g, if_neg (by omega)]
    · rw [decide_eq_false c, cond_false, List.drop_of_length_le (by omega)]
      rw [if_pos (by simpa [body] using ho)]
      simp [body]
theorem encode_eq (l : List (List UInt8)) : wire_Encode l = if fits l then (u8i (l.length : Int) :: body l, 0) else ([], 3) := by
  rw [wire_Encode]
  by_cases c : (l.length : Int) > 16
  · rw [decide_eq_true c, cond_true, if_neg (fun h => by have := h.1; omega)]
  · rw [decide_eq_false c, cond_false, enc_l1 _ _ _ _ (by omega) (by omega) (by simp)]
    show Lo.el (if 1 + (body l).length ≤ 1024 then _ else _) _ = _
    by_cases g : 1 + (body l).length ≤ 1024
    · rw [if_pos g, if_pos ⟨by omega, by omega⟩]; rfl
    · rw [if_neg g, if_neg (fun h => by have := h.2; omega)]; rfl
theorem renc_l1 (l : List (List UInt8)) : ∀ (m : Nat) (i : Int) (o : List UInt8), 0 ≤ i → ((l.length : Int) - i).toNat < m →
    bursaryref31_Encode_l1 l m i o = .brk (o ++ body (l.drop i.toNat)) ∨ (bursaryref31_Encode_l1 l m i o = .ret ([], 3) ∧ 1024 < (body (l.drop i.toNat)).length) := by
  intro m
  induction m with
  | zero => intro i o _ h; exact absurd h (Nat.not_lt_zero _)
  | succ m ih =>
    intro i o h0 h
    rw [bursaryref31_Encode_l1]
    by_cases c : i < (l.length : Int)
    · rw [decide_eq_true c, cond_true]
      have ed := drop_cons l i.toNat [] (by omega)
      have e1 : (i + 1).toNat = i.toNat + 1 := by omega
      generalize hf : l.getD i.toNat [] = f at *
      have el : (body (l.drop i.toNat)).length = f.length + (body (l.drop (i.toNat + 1))).length + 2 := by rw [ed, body_len]
      by_cases d : (f.length : Int) > 1024
      · rw [decide_eq_true d, cond_true]; exact .inr ⟨rfl, by omega⟩
      · rw [decide_eq_false d, cond_false]
        have em : u8i ((f.length : Int) % 256) = u8i (f.length : Int) := u8eq (by rw [show ((f.length : Int) % 256) = ((f.length % 256 : Nat) : Int) from rfl, u8i_mod, u8i_mod]; omega)
        rcases ih (i + 1) (o ++ ([u8i ((f.length : Int) / 256), u8i ((f.length : Int) % 256)]) ++ f) (by omega) (by omega) with e | ⟨e, g⟩
        · left; rw [e, e1, ed, body_cons, em]; simp
        · right; rw [e, e1] at *; exact ⟨rfl, by omega⟩
    · rw [decide_eq_false c, cond_false, List.drop_of_length_le (by omega)]
      left; simp [body]
theorem encode_ref (l : List (List UInt8)) : wire_Encode l = bursaryref31_Encode l := by
  rw [encode_eq, bursaryref31_Encode]
  by_cases c : (l.length : Int) > 16
  · rw [decide_eq_true c, cond_true, if_neg (fun h => by have := h.1; omega)]
  · rw [decide_eq_false c, cond_false]
    rcases renc_l1 l _ 0 [u8i (l.length : Int)] (by omega) (Nat.lt_succ_self _) with e | ⟨e, g⟩
    · rw [e]
      show _ = bursaryref31_Encode_k1 (u8i (l.length : Int) :: body l)
      rw [bursaryref31_Encode_k1]
      by_cases g : ((u8i (l.length : Int) :: body l).length : Int) > 1024
      · rw [decide_eq_true g, cond_true, if_neg (fun h => by have := h.2; rw [List.length_cons] at g; omega)]
      · rw [decide_eq_false g, cond_false, if_pos ⟨by omega, by rw [List.length_cons] at g; omega⟩]
    · rw [e, if_neg (fun h => by have := h.2; have g : 1024 < (body l).length := g; omega)]; rfl
/-! ## fields out of bytes -/
def parse : Nat → List UInt8 → Option (List (List UInt8) × List UInt8)
  | 0, b => some ([], b)
  | n + 1, h :: l :: r => if r.length < h.toNat * 256 + l.toNat then none else (parse n (r.drop (h.toNat * 256 + l.toNat))).map fun p => (r.take (h.toNat * 256 + l.toNat) :: p.1, p.2)
  | _ + 1, _ => none
def dec (n : Nat) (b : List UInt8) (o : List (List UInt8)) : List (List UInt8) × Int :=
  match parse n b with
  | none => ([], 4)
  | some (x, r) => if r.length = 0 then (o ++ x, 0) else ([], 4)
theorem dec_succ (n : Nat) (h l : UInt8) (r : List UInt8) (o : List (List UInt8)) : dec (n + 1) (h :: l :: r) o = if r.length < h.toNat * 256 + l.toNat then ([], 4) else dec n (r.drop (h.toNat * 256 + l.toNat)) (o ++ [r.take (h.toNat * 256 + l.toNat)]) := by
  rw [dec, parse]
  split
  · rename_i h1
    split at h1
    · rename_i c; rw [if_pos c]
    · rename_i c
      rw [if_neg c, dec]
      cases q : parse n (r.drop (h.toNat * 256 + l.toNat)) with
      | none => rfl
      | some p => rw [q] at h1; cases h1
  · rename_i x r' h1
    split at h1
    · cases h1
    · rename_i c
      rw [if_neg c, dec]
      cases q : parse n (r.drop (h.toNat * 256 + l.toNat)) with
      | none => rw [q] at h1; cases h1
      | some p =>
        rw [q] at h1
        simp only [Option.map_some, Option.some.injEq, Prod.mk.injEq] at h1
        obtain ⟨rfl, rfl⟩ := h1
        simp
theorem dec_short (n : Nat) (b : List UInt8) (o : List (List UInt8)) (h : b.length < 2) : dec (n + 1) b o = ([], 4) := by
  match b, h with
  | [], _ => rfl
  | [_], _ => rfl
  | _ :: _ :: _, h => exact absurd h (by simp)
theorem dec_l1 (a0 : List UInt8) : ∀ (m : Nat) (t : List UInt8) (i : Int) (o : List (List UInt8)), 0 ≤ i → (((a0.getD 0 0).toNat : Int) - i).toNat < m →
    Lo.el (wire_Decode_l1 a0 m t i o) (fun z => wire_Decode_k1 z.1 z.2) = dec (((a0.getD 0 0).toNat : Int) - i).toNat t o := by
  intro m
  induction m with
  | zero => intro t i o _ h; exact absurd h (Nat.not_lt_zero _)
  | succ m ih =>
    intro t i o h0 h
    rw [wire_Decode_l1]
    by_cases c : i < ((a0.getD 0 0).toNat : Int)
    · rw [decide_eq_true c, cond_true, show (((a0.getD 0 0).toNat : Int) - i).toNat = (((a0.getD 0 0).toNat : Int) - (i + 1)).toNat + 1 by omega]
      by_cases d : (t.length : Int) < 2
      · rw [decide_eq_true d, cond_true, dec_short _ _ _ (by omega)]; rfl
      · rw [decide_eq_false d, cond_false]
        match t, d with
        | [], d => exact absurd (by simp) d
        | [_], d => exact absurd (by simp) d
        | x :: y :: r, _ =>
          rw [dec_succ, slc_drop, orB8]
          show Lo.el (bif decide ((r.length : Int) < (x.toNat : Int) * 256 + (y.toNat : Int)) then _ else _) _ = _
          by_cases g : r.length < x.toNat * 256 + y.toNat
          · rw [decide_eq_true (by omega), cond_true, if_pos g]; rfl
          · rw [decide_eq_false (by omega), cond_false, if_neg g, bnd_eq]
            have e2 : ((x.toNat : Int) * 256 + (y.toNat : Int)).toNat = x.toNat * 256 + y.toNat := by omega
            show Lo.el (wire_Decode_l1 a0 m (slc r ((x.toNat : Int) * 256 + (y.toNat : Int)) (r.length : Int)) (i + 1) (o ++ [slc r 0 ((x.toNat : Int) * 256 + (y.toNat : Int))])) _ = _
            rw [ih _ _ _ (by omega) (by omega), slc_drop, slc_take, e2]
    · rw [decide_eq_false c, cond_false, show (((a0.getD 0 0).toNat : Int) - i).toNat = 0 by omega]
      show wire_Decode_k1 t o = _
      rw [wire_Decode_k1, dec, parse]
      show _ = if t.length = 0 then (o ++ [], 0) else _
      by_cases g : t.length = 0
      · rw [if_pos g, g, List.append_nil]; rfl
      · rw [if_neg g, decide_eq_true (by omega)]; rfl
theorem decode_eq (b : List UInt8) : wire_Decode b = if b.length > 1024 then ([], 3) else if b.length = 0 ∨ b.getD 0 0 > 16 then ([], 4) else dec (b.getD 0 0).toNat (b.drop 1) [] := by
  rw [wire_Decode]
  by_cases c : (b.length : Int) > 1024
  · rw [decide_eq_true c, cond_true, if_pos (by omega)]
  · rw [decide_eq_false c, cond_false, if_neg (by omega)]
    by_cases d : b.length = 0 ∨ b.getD 0 0 > 16
    · rw [if_pos d, show (((b.length : Int) == 0) || (decide ((b.getD 0 0) > 16))) = true from ?_, cond_true]
      rcases d with d | d
      · rw [d]; rfl
      · rw [decide_eq_true d]; simp
    · rw [if_neg d, show (((b.length : Int) == 0) || (decide ((b.getD 0 0) > 16))) = false from ?_, cond_false, dec_l1 _ _ _ _ _ (by omega) (Nat.lt_succ_self _), slc_drop, Int.sub_zero, Int.toNat_natCast]
      · rfl
      · rw [not_or] at d
        rw [decide_eq_false d.2, Bool.or_false]
        simp; intro h; rw [h] at d; simp at d
theorem rdec_l1 (a0 : List UInt8) : ∀ (m : Nat) (t i : Int) (o : List (List UInt8)), 0 ≤ i → 0 ≤ t → t ≤ a0.length → (((a0.getD 0 0).toNat : Int) - i).toNat < m →
    Lo.el (bursaryref31_Decode_l1 a0 m t i o) (fun z => bursaryref31_Decode_k1 a0 z.1 z.2) = dec (((a0.getD 0 0).toNat : Int) - i).toNat (a0.drop t.toNat) o := by
  intro m
  induction m with
  | zero => intro t i o _ _ _ h; exact absurd h (Nat.not_lt_zero _)
  | succ m ih =>
    intro t i o h0 ht htl h
    rw [bursaryref31_Decode_l1]
    by_cases c : i < ((a0.getD 0 0).toNat : Int)
    · rw [decide_eq_true c, cond_true, show (((a0.getD 0 0).toNat : Int) - i).toNat = (((a0.getD 0 0).toNat : Int) - (i + 1)).toNat + 1 by omega]
      by_cases d : (a0.length : Int) - t < 2
      · rw [decide_eq_true d, Bool.true_or, cond_true, dec_short _ _ _ (by rw [List.length_drop]; omega)]; rfl
      · rw [decide_eq_false d, Bool.false_or]
        have e1 : (t + 1).toNat = t.toNat + 1 := by omega
        rw [e1, drop_cons a0 t.toNat 0 (by omega), drop_cons a0 (t.toNat + 1) 0 (by omega), dec_succ, List.length_drop]
        generalize a0.getD t.toNat 0 = x
        generalize a0.getD (t.toNat + 1) 0 = y
        by_cases g : a0.length - (t.toNat + 1 + 1) < x.toNat * 256 + y.toNat
        · rw [decide_eq_true (by omega), cond_true, if_pos g]; rfl
        · rw [decide_eq_false (by omega), cond_false, if_neg g, ih _ _ _ (by omega) (by omega) (by omega) (by omega), List.drop_drop]
          congr 1
          · congr 1; omega
          · congr 2
            rw [slc]
            congr 1
            · omega
            · congr 1; omega
    · rw [decide_eq_false c, cond_false, show (((a0.getD 0 0).toNat : Int) - i).toNat = 0 by omega]
      show bursaryref31_Decode_k1 a0 t o = _
      rw [bursaryref31_Decode_k1, dec, parse]
      show _ = if (a0.drop t.toNat).length = 0 then (o ++ [], 0) else _
      rw [List.length_drop]
      by_cases g : t = a0.length
      · rw [if_pos (by omega), show (t != (a0.length : Int)) = false by simpa using g, List.append_nil]; rfl
      · rw [if_neg (by omega), show (t != (a0.length : Int)) = true by simpa using g]; rfl
theorem decode_ref (b : List UInt8) : wire_Decode b = bursaryref31_Decode b := by
  rw [decode_eq, bursaryref31_Decode]
  by_cases c : (b.length : Int) > 1024
  · rw [decide_eq_true c, cond_true, if_pos (by omega)]
  · rw [decide_eq_false c, cond_false, if_neg (by omega)]
    by_cases d : b.length = 0 ∨ b.getD 0 0 > 16
    · rw [if_pos d, show ((decide ((b.length : Int) < 1)) || (decide ((b.getD 0 0) > 16))) = true from ?_, cond_true]
      rcases d with d | d
      · rw [d]; rfl
      · rw [decide_eq_true d]; simp
    · rw [not_or] at d
      rw [if_neg (by rw [not_or]; exact d), show ((decide ((b.length : Int) < 1)) || (decide ((b.getD 0 0) > 16))) = false by rw [decide_eq_false d.2, Bool.or_false]; simp; omega, cond_false, rdec_l1 _ _ _ _ _ (by omega) (by omega) (by omega) (Nat.lt_succ_self _), Int.sub_zero, Int.toNat_natCast]
      rfl
theorem fld_k (f : List UInt8) (h : f.length < 65536) : (u8i ((f.length : Int) / 256)).toNat * 256 + (u8i (f.length : Int)).toNat = f.length := by
  rw [show ((f.length : Int) / 256) = ((f.length / 256 : Nat) : Int) from rfl, u8i_mod, u8i_mod]; omega
theorem parse_body : ∀ (l : List (List UInt8)) (r : List UInt8), (∀ f ∈ l, f.length < 65536) → parse l.length (body l ++ r) = some (l, r)
  | [], r, _ => rfl
  | f :: l, r, h => by
    have hf := fld_k f (h f (by simp))
    rw [List.length_cons, body_cons, List.cons_append, List.cons_append, parse, hf, if_neg (by simp), List.append_assoc, List.drop_left, parse_body l r (fun g hg => h g (by simp [hg])), List.take_left]
    rfl
theorem parse_sound : ∀ (n : Nat) (b : List UInt8) (x : List (List UInt8)) (r : List UInt8), parse n b = some (x, r) → b = body x ++ r ∧ x.length = n ∧ ∀ f ∈ x, f.length < 65536
  | 0, b, x, r, h => by
    simp only [parse, Option.some.injEq, Prod.mk.injEq] at h
    obtain ⟨rfl, rfl⟩ := h
    exact ⟨rfl, rfl, by simp⟩
  | n + 1, [], x, r, h => by simp [parse] at h
  | n + 1, [_], x, r, h => by simp [parse] at h
  | n + 1, h1 :: l1 :: t, x, r, h => by
    rw [parse] at h
    have b1 := h1.toNat_lt
    have b2 := l1.toNat_lt
    split at h
    · cases h
    · rename_i c
      cases q : parse n (t.drop (h1.toNat * 256 + l1.toNat)) with
      | none => rw [q] at h; cases h
      | some p =>
        rw [q] at h
        simp only [Option.map_some, Option.some.injEq, Prod.mk.injEq] at h
        obtain ⟨rfl, rfl⟩ := h
        obtain ⟨g1, g2, g3⟩ := parse_sound n _ p.1 p.2 (by rw [q])
        have hl : (t.take (h1.toNat * 256 + l1.toNat)).length = h1.toNat * 256 + l1.toNat := by rw [List.length_take]; omega
        refine ⟨?_, by simp [g2], fun f hf => ?_⟩
        · rw [body_cons, hl]
          have e1 : u8i (((h1.toNat * 256 + l1.toNat : Nat) : Int) / 256) = h1 := u8eq (by rw [show (((h1.toNat * 256 + l1.toNat : Nat) : Int) / 256) = (((h1.toNat * 256 + l1.toNat) / 256 : Nat) : Int) from rfl, u8i_mod]; omega)
          have e2 : u8i ((h1.toNat * 256 + l1.toNat : Nat) : Int) = l1 := u8eq (by rw [u8i_mod]; omega)
          rw [e1, e2, List.cons_append, List.cons_append, List.append_assoc, ← g1, List.take_append_drop]
        · rcases List.mem_cons.1 hf with rfl | hf
          · rw [hl]; omega
          · exact g3 f hf
theorem body_mem {f : List UInt8} : ∀ {l : List (List UInt8)}, f ∈ l → f.length ≤ (body l).length
  | g :: l, h => by
    rw [body_len]
    rcases List.mem_cons.1 h with rfl | h
    · omega
    · have := body_mem h; omega
theorem dec_none {n : Nat} {b : List UInt8} (h : ∀ x, parse n b ≠ some (x, [])) : dec n b [] = ([], 4) := by
  rw [dec]
  cases q : parse n b with
  | none => rfl
  | some p =>
    obtain ⟨x, r⟩ := p
    show (if r.length = 0 then _ else _) = _
    rw [if_neg]
    intro e
    rw [List.length_eq_zero_iff.1 e] at q
    exact h x q
theorem hd_ok (l : List (List UInt8)) (h : fits l) : (u8i (l.length : Int)).toNat = l.length ∧ ¬ u8i (l.length : Int) > 16 := by
  have e := u8i_nat l.length (by have := h.1; omega)
  refine ⟨e, fun g => ?_⟩
  have g : UInt8.toNat 16 < (u8i (l.length : Int)).toNat := g
  rw [e] at g
  have := h.1
  have e16 : UInt8.toNat 16 = 16 := rfl
  omega
theorem decode_cons (h : UInt8) (t : List UInt8) (hl : t.length ≤ 1023) (hh : ¬ h > 16) : wire_Decode (h :: t) = dec h.toNat t [] := by
  rw [decode_eq, if_neg (by rw [List.length_cons]; omega), if_neg]
  · rfl
  · rw [List.length_cons, not_or]
    exact ⟨by omega, hh⟩
theorem small_all (l : List (List UInt8)) (h : fits l) : ∀ f ∈ l, f.length < 65536 := fun f hf => by
  have := body_mem hf; have := h.2; omega
theorem decode_encode (l : List (List UInt8)) (h : fits l) : wire_Decode (u8i (l.length : Int) :: body l) = (l, 0) := by
  obtain ⟨h1, h2⟩ := hd_ok l h
  have := parse_body l [] (small_all l h)
  rw [List.append_nil] at this
  rw [decode_cons _ _ h.2 h2, h1, dec, this]
  rfl
theorem decode_short (l : List (List UInt8)) (h : fits l) (k : Nat) (hk : k < (u8i (l.length : Int) :: body l).length) : wire_Decode ((u8i (l.length : Int) :: body l).take k) = ([], 4) := by
  obtain ⟨h1, h2⟩ := hd_ok l h
  cases k with
  | zero => rw [List.take_zero, decode_eq]; rfl
  | succ k =>
    rw [List.length_cons] at hk
    rw [List.take_succ_cons, decode_cons _ _ (by rw [List.length_take]; have := h.2; omega) h2, h1]
    refine dec_none (fun x hx => ?_)
    obtain ⟨g1, g2, g3⟩ := parse_sound _ _ _ _ hx
    rw [List.append_nil] at g1
    have p1 := parse_body l [] (small_all l h)
    have p2 := parse_body x ((body l).drop k) g3
    rw [← g1, List.take_append_drop, g2] at p2
    rw [List.append_nil, p2] at p1
    simp only [Option.some.injEq, Prod.mk.injEq] at p1
    have := congrArg List.length p1.2
    rw [List.length_drop, List.length_nil] at this
    omega
theorem decode_long (l : List (List UInt8)) (h : fits l) (hl : (u8i (l.length : Int) :: body l).length < 1024) : wire_Decode ((u8i (l.length : Int) :: body l) ++ [0]) = ([], 4) := by
  obtain ⟨h1, h2⟩ := hd_ok l h
  rw [List.length_cons] at hl
  rw [List.cons_append, decode_cons _ _ (by rw [List.length_append]; simp only [List.length_cons, List.length_nil]; omega) h2, h1]
  refine dec_none (fun x hx => ?_)
  rw [parse_body l [0] (small_all l h)] at hx
  simp at hx
theorem decode_cases (b : List UInt8) : (wire_Decode b).2 ≠ 0 ∧ (wire_Decode b).1 = [] ∨ (wire_Decode b).2 = 0 ∧ wire_Encode (wire_Decode b).1 = (b, 0) := by
  rw [decode_eq]
  by_cases c : b.length > 1024
  · rw [if_pos c]; exact .inl ⟨by simp, rfl⟩
  · rw [if_neg c]
    by_cases d : b.length = 0 ∨ b.getD 0 0 > 16
    · rw [if_pos d]; exact .inl ⟨by simp, rfl⟩
    · rw [if_neg d]
      rw [not_or] at d
      match b, c, d with
      | [], _, d => exact absurd rfl d.1
      | h :: t, c, d =>
        show (dec h.toNat t []).2 ≠ 0 ∧ _ ∨ (dec h.toNat t []).2 = 0 ∧ wire_Encode (dec h.toNat t []).1 = (h :: t, 0)
        rw [List.length_cons] at c
        have h16 : ¬ UInt8.toNat 16 < h.toNat := d.2
        have e16 : UInt8.toNat 16 = 16 := rfl
        show (dec h.toNat t []).2 ≠ 0 ∧ (dec h.toNat t []).1 = [] ∨ _
        rw [dec]
        cases q : parse h.toNat t with
        | none => exact .inl ⟨by simp, rfl⟩
        | some p =>
          obtain ⟨x, r⟩ := p
          obtain ⟨g1, g2, g3⟩ := parse_sound _ _ _ _ q
          by_cases e : r.length = 0
          · right
            simp only [if_pos e]
            rw [List.length_eq_zero_iff.1 e, List.append_nil] at g1
            have e1 : t = body x := g1
            refine ⟨trivial, ?_⟩
            rw [List.nil_append, encode_eq, if_pos ⟨by omega, by rw [← e1]; omega⟩, g2, ← e1]
            congr 2
            exact u8eq (u8i_nat _ h.toNat_lt)
          · left
            simp only [if_neg e]
            exact ⟨by simp, trivial⟩
end Go.Proofs.YtlfinldomjdljaaDoor

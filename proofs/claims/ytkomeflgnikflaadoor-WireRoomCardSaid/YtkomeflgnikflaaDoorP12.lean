/- Fields as bytes: they come back; how many there may be. -/
import Derived.Test.YtkomeflgnikflaaDoorP11
namespace Go.Proofs.YtkomeflgnikflaaDoor
open Go Go.Vw Go.Proofs
theorem fld_k (f : List UInt8) (h : f.length < 65536) : (u8i ((f.length : Int) / 256)).toNat * 256 + (u8i (f.length : Int)).toNat = f.length := by
  rw [show ((f.length : Int) / 256) = ((f.length / 256 : Nat) : Int) from rfl, u8i_mod, u8i_mod]; omega
theorem parse_body : ∀ (l : List (List UInt8)) (r : List UInt8), (∀ f ∈ l, f.length < 65536) → parse l.length (body l ++ r) = some (l, r)
  | [], r, _ => rfl
  | f :: l, r, h => by
    have hf := fld_k f (h f (by simp))
    rw [List.length_cons, body_cons, List.cons_append, List.cons_append, parse, hf, if_neg (by simp), List.append_assoc, List.drop_left, parse_body l r (fun g hg => h g (by simp [hg])), List.take_left]
    rfl
theorem parse_sound : ∀ (n : Nat) (b : List UInt8) (x : List (List UInt8)) (r : List UInt8), parse n b = some (x, r) → b = body x ++ r ∧ x.length = n ∧ ∀ f ∈ x, f.length < 65536
  | 0, b, x, r, h => by
    simp only [parse, Option.some.injEq, Prod.mk.injEq] at h
    obtain ⟨rfl, rfl⟩ := h
    exact ⟨rfl, rfl, by simp⟩
  | n + 1, [], x, r, h => by simp [parse] at h
  | n + 1, [_], x, r, h => by simp [parse] at h
  | n + 1, h1 :: l1 :: t, x, r, h => by
    rw [parse] at h
    have b1 := h1.toNat_lt
    have b2 := l1.toNat_lt
    split at h
    · cases h
    · rename_i c
      cases q : parse n (t.drop (h1.toNat * 256 + l1.toNat)) with
      | none => rw [q] at h; cases h
      | some p =>
        rw [q] at h
        simp only [Option.map_some, Option.some.injEq, Prod.mk.injEq] at h
        obtain ⟨rfl, rfl⟩ := h
        obtain ⟨g1, g2, g3⟩ := parse_sound n _ p.1 p.2 (by rw [q])
        have hl : (t.take (h1.toNat * 256 + l1.toNat)).length = h1.toNat * 256 + l1.toNat := by rw [List.length_take]; omega
        refine ⟨?_, by simp [g2], fun f hf => ?_⟩
        · rw [body_cons, hl]
          have e1 : u8i (((h1.toNat * 256 + l1.toNat : Nat) : Int) / 256) = h1 := u8eq (by rw [show (((h1.toNat * 256 + l1.toNat : Nat) : Int) / 256) = (((h1.toNat * 256 + l1.toNat) / 256 : Nat) : Int) from rfl, u8i_mod]; omega)
          have e2 : u8i ((h1.toNat * 256 + l1.toNat : Nat) : Int) = l1 := u8eq (by rw [u8i_mod]; omega)
          rw [e1, e2, List.cons_append, List.cons_append, List.append_assoc, ← g1, List.take_append_drop]
        · rcases List.mem_cons.1 hf with rfl | hf
          · rw [hl]; omega
          · exact g3 f hf
theorem body_mem {f : List UInt8} : ∀ {l : List (List UInt8)}, f ∈ l → f.length ≤ (body l).length
  | g :: l, h => by
    rw [body_len]
    rcases List.mem_cons.1 h with rfl | h
    · omega
    · have := body_mem h; omega
theorem dec_none {n : Nat} {b : List UInt8} (h : ∀ x, parse n b ≠ some (x, [])) : dec n b [] = ([], 4) := by
  rw [dec]
  cases q : parse n b with
  | none => rfl
  | some p =>
    obtain ⟨x, r⟩ := p
    show (if r.length = 0 then _ else _) = _
    rw [if_neg]
    intro e
    rw [List.length_eq_zero_iff.1 e] at q
    exact h x q
theorem hd_ok (l : List (List UInt8)) (h : fits l) : (u8i (l.length : Int)).toNat = l.length ∧ ¬ u8i (l.length : Int) > 16 := by
  have e := u8i_nat l.length (by have := h.1; omega)
  refine ⟨e, fun g => ?_⟩
  have g : UInt8.toNat 16 < (u8i (l.length : Int)).toNat := g
  rw [e] at g
  have := h.1
  have e16 : UInt8.toNat 16 = 16 := rfl
  omega
theorem decode_cons (h : UInt8) (t : List UInt8) (hl : t.length ≤ 1023) (hh : ¬ h > 16) : wire_Decode (h :: t) = dec h.toNat t [] := by
  rw [decode_eq, if_neg (by rw [List.length_cons]; omega), if_neg]
  · rfl
  · rw [List.length_cons, not_or]
    exact ⟨by omega, hh⟩
theorem small_all (l : List (List UInt8)) (h : fits l) : ∀ f ∈ l, f.length < 65536 := fun f hf => by
  have := body_mem hf; have := h.2; omega
theorem decode_encode (l : List (List UInt8)) (h : fits l) : wire_Decode (u8i (l.length : Int) :: body l) = (l, 0) := by
  obtain ⟨h1, h2⟩ := hd_ok l h
  have := parse_body l [] (small_all l h)
  rw [List.append_nil] at this
  rw [decode_cons _ _ h.2 h2, h1, dec, this]
  rfl
theorem decode_short (l : List (List UInt8)) (h : fits l) (k : Nat) (hk : k < (u8i (l.length : Int) :: body l).length) : wire_Decode ((u8i (l.length : Int) :: body l).take k) = ([], 4) := by
  obtain ⟨h1, h2⟩ := hd_ok l h
  cases k with
  | zero => rw [List.take_zero, decode_eq]; rfl
  | succ k =>
    rw [List.length_cons] at hk
    rw [List.take_succ_cons, decode_cons _ _ (by rw [List.length_take]; have := h.2; omega) h2, h1]
    refine dec_none (fun x hx => ?_)
    obtain ⟨g1, g2, g3⟩ := parse_sound _ _ _ _ hx
    rw [List.append_nil] at g1
    have p1 := parse_body l [] (small_all l h)
    have p2 := parse_body x ((body l).drop k) g3
    rw [← g1, List.take_append_drop, g2] at p2
    rw [List.append_nil, p2] at p1
    simp only [Option.some.injEq, Prod.mk.injEq] at p1
    have := congrArg List.length p1.2
    rw [List.length_drop, List.length_nil] at this
    omega
theorem decode_long (l : List (List UInt8)) (h : fits l) (hl : (u8i (l.length : Int) :: body l).length < 1024) : wire_Decode ((u8i (l.length : Int) :: body l) ++ [0]) = ([], 4) := by
  obtain ⟨h1, h2⟩ := hd_ok l h
  rw [List.length_cons] at hl
  rw [List.cons_append, decode_cons _ _ (by rw [List.length_append]; simp only [List.length_cons, List.length_nil]; omega) h2, h1]
  refine dec_none (fun x hx => ?_)
  rw [parse_body l [0] (small_all l h)] at hx
  simp at hx
theorem decode_cases (b : List UInt8) : (wire_Decode b).2 ≠ 0 ∧ (wire_Decode b).1 = [] ∨ (wire_Decode b).2 = 0 ∧ wire_Encode (wire_Decode b).1 = (b, 0) := by
  rw [decode_eq]
  by_cases c : b.length > 1024
  · rw [if_pos c]; exact .inl ⟨by simp, rfl⟩
  · rw [if_neg c]
    by_cases d : b.length = 0 ∨ b.getD 0 0 > 16
    · rw [if_pos d]; exact .inl ⟨by simp, rfl⟩
    · rw [if_neg d]
      rw [not_or] at d
      match b, c, d with
      | [], _, d => exact absurd rfl d.1
      | h :: t, c, d =>
        show (dec h.toNat t []).2 ≠ 0 ∧ _ ∨ (dec h.toNat t []).2 = 0 ∧ wire_Encode (dec h.toNat t []).1 = (h :: t, 0)
        rw [List.length_cons] at c
        have h16 : ¬ UInt8.toNat 16 < h.toNat := d.2
        have e16 : UInt8.toNat 16 = 16 := rfl
        show (dec h.toNat t []).2 ≠ 0 ∧ (dec h.toNat t []).1 = [] ∨ _
        rw [dec]
        cases q : parse h.toNat t with
        | none => exact .inl ⟨by simp, rfl⟩
        | some p =>
          obtain ⟨x, r⟩ := p
          obtain ⟨g1, g2, g3⟩ := parse_sound _ _ _ _ q
          by_cases e : r.length = 0
          · right
            simp only [if_pos e]
            rw [List.length_eq_zero_iff.1 e, List.append_nil] at g1
            have e1 : t = body x := g1
            refine ⟨trivial, ?_⟩
            rw [List.nil_append, encode_eq, if_pos ⟨by omega, by rw [← e1]; omega⟩, g2, ← e1]
            congr 2
            exact u8eq (u8i_nat _ h.toNat_lt)
          · left
            simp only [if_neg e]
            exact ⟨by simp, trivial⟩
theorem tail31 (b : List UInt8) : (bif !(decide ((wire_Decode b).2 = 0)) then (((wire_Decode b).1.length : Int) == 0) && bursarylaw31_sure else (decide ((wire_Encode (wire_Decode b).1).2 = 0)) && (((wire_Encode (wire_Decode b).1).1 == b) && bursarylaw31_sure)) = true := by
  rcases decode_cases b with ⟨h1, h2⟩ | ⟨h1, h2⟩
  · rw [decide_eq_false h1, h2, sure31]; rfl
  · rw [h2, decide_eq_true h1, sure31]; simp
theorem wireBack_true (a0 : List (List UInt8)) (a1 : List UInt8) (a2 : UInt64) : bursarylaw31_WireBack a0 a1 a2 = true := by
  rw [bursarylaw31_WireBack, bnd_eq]
  cases bursarylaw31_bigList a0 || (decide ((a1.length : Int) > 3000)) with
  | true => exact sure31
  | false =>
    rw [cond_false]
    simp only [bnd_eq]
    rw [read_number, number_fact, show ((!(decide (((a2, (0 : Int)).2) = 0))) || (((a2, (0 : Int)).1 != a2) || (((8 : Nat) : Int) != 8))) = false by simp, cond_false, tail31]
    rw [encode_eq]
    by_cases h : fits a0
    · rw [if_pos h]
      have hlen : (u8i (a0.length : Int) :: body a0).length = (body a0).length + 1 := List.length_cons
      have hk : (a2 % (u64i ((u8i (a0.length : Int) :: body a0).length : Int))).toNat < (u8i (a0.length : Int) :: body a0).length := by
        rw [UInt64.toNat_mod, u64i_len _ (by rw [hlen]; have := h.2; omega)]
        exact Nat.mod_lt _ (by rw [hlen]; omega)
      simp only
      rw [show ((decide True) && (((u8i (a0.length : Int) :: body a0).length : Int) == 0)) = false by rw [hlen]; simp; omega, cond_false, show decide True = true from rfl, cond_true]
      rw [decode_encode a0 h, slc_take, Int.toNat_natCast, decode_short a0 h _ hk]
      show (bif (!(decide ((0 : Int) = 0))) || ((!bursarylaw31_lists a0 a0) || (id (4 : Int) != 4)) then false else _) = true
      rw [lists_self, show ((!(decide ((0 : Int) = 0))) || ((!true) || (id (4 : Int) != 4))) = false by simp, cond_false]
      by_cases g : ((u8i (a0.length : Int) :: body a0).length : Int) < 1024
      · rw [decide_eq_true g, cond_true, List.nil_append, decode_long a0 h (by omega)]
        rfl
      · rw [decide_eq_false g]; rfl
    · rw [if_neg h]; rfl
/-! ## how many -/
theorem body_app (l l2 : List (List UInt8)) : body (l ++ l2) = body l ++ body l2 := by
  rw [body, List.flatMap_append]; rfl
theorem room_l1 (a0 : List UInt16) : ∀ (m : Nat) (t i : Int) (o : List (List UInt8)), 0 ≤ i → i ≤ a0.length → ((a0.length : Int) - i).toNat < m → t = 1 + (body o).length → (o.length : Int) = i →
    ∃ t' o', bursarylaw31_WireRoom_l1 a0 m t i o = .brk (t', o') ∧ t' = 1 + (body o').length ∧ o'.length = a0.length := by
  intro m
  induction m with
  | zero => intro t i o _ _ h; exact absurd h (Nat.not_lt_zero _)
  | succ m ih =>
    intro t i o h0 hi h ht ho
    rw [bursarylaw31_WireRoom_l1]
    by_cases c : i < (a0.length : Int)
    · rw [decide_eq_true c, cond_true]
      refine ih _ _ _ (by omega) (by omega) (by omega) ?_ ?_
      · rw [body_app, List.length_append, body_len, List.length_replicate, ht]
        have : (body []).length = 0 := rfl
        rw [this]
        have hn : 0 ≤ (((a0.getD i.toNat 0).toNat : Int) % 1100) := by omega
        omega
      · rw [List.length_append]; simp only [List.length_cons, List.length_nil]; omega
    · rw [decide_eq_false c, cond_false]
      exact ⟨t, o, rfl, ht, by omega⟩
theorem wireRoom_true (a0 : List UInt16) : bursarylaw31_WireRoom a0 = true := by
  rw [bursarylaw31_WireRoom]
  by_cases c : (a0.length : Int) > 30
  · rw [decide_eq_true c, cond_true, sure31]
  · rw [decide_eq_false c, cond_false]
    obtain ⟨t, o, e1, e2, e3⟩ := room_l1 a0 (((a0.length : Int) - (0 : Int)).toNat + 1) 1 0 [] (by omega) (by omega) (by omega) rfl rfl
    rw [e1]
    show bursarylaw31_WireRoom_k1 t o = true
    rw [bursarylaw31_WireRoom_k1, bnd_eq, encode_eq]
    by_cases h : fits o
    · obtain ⟨h1, h2⟩ := hd_ok o h
      rw [if_pos h, show ((decide ((o.length : Int) > 16)) || (decide (t > 1024))) = false by have := h.1; have := h.2; simp; omega, cond_false]
      show ((decide ((0 : Int) = 0)) && ((((u8i (o.length : Int) :: body o).length : Int) == t) && ((((u8i (o.length : Int)).toNat : Int) == (o.length : Int)) && bursarylaw31_sure))) = true
      rw [h1, sure31, List.length_cons, e2]
      simp; omega
    · rw [if_neg h, show ((decide ((o.length : Int) > 16)) || (decide (t > 1024))) = true from ?_, cond_true, bnd_eq, sure31]
      · rfl
      · rw [← Bool.not_eq_false]
        intro g
        simp at g
        exact h ⟨by omega, by omega⟩
end Go.Proofs.YtkomeflgnikflaaDoor

import Derived.Test.YtbppcnhfeobefaaDoorFP8
import Derived.Test.YtbppcnhfeobefaaDoorJ4
import Derived.Test.YtbppcnhfeobefaaDoorJ3b
set_option linter.unusedVariables false
namespace Go.Proofs.YtbppcnhfeobefaaDoor
open Go Go.Vw Go.Proofs
theorem back (s : UInt32) (b : List UInt8) (more : tLB) (h : (fr_Split s b).2 = 0) : fr_Join ((fr_Split s b).1 ++ more) = (s, b, ((fr_Split s b).1.length : Int), 0) ∧ ((fr_Split s b).1.length : Int) = fr_Sectors (b.length : Int) ∧ fr_Join (slc (fr_Split s b).1 0 (((fr_Split s b).1.length : Int) - 1)) = (0, [], 0, 4) := by
 have hf := sectors_fact (b.length : Int)
 rw [split_eq] at h ⊢
 cases c : (s == 0) || (fr_Sectors (b.length : Int) == 0) with
 | true => rw [c, cond_true] at h; exact absurd h (by simp)
 | false =>
  rw [cond_false]
  simp only [Bool.or_eq_false_iff, beq_eq_false_iff_ne] at c
  obtain ⟨c1, c2⟩ := c
  generalize hS : fr_Sectors (b.length : Int) = S at *
  obtain ⟨n, rfl⟩ := Int.eq_ofNat_of_zero_le hf.1
  rw [Int.toNat_natCast]
  have el : (List.map (fun i : Nat => sct s b (n : Int) i) (List.range n)).length = n := by simp
  generalize hx : (List.map (fun i : Nat => sct s b (n : Int) i) (List.range n)) = x at *
  show fr_Join (x ++ more) = (s, b, (x.length : Int), 0) ∧ _ ∧ fr_Join (slc x 0 ((x.length : Int) - 1)) = _
  have gx : ∀ i, i < n → x.getD i [] = sct s b n i := fun i hi => by rw [← hx, gD_range, if_pos hi]
  have gl : ∀ i, i < n → (x ++ more).getD i [] = sct s b n i := fun i hi => by rw [gD_app, if_pos (by omega), gx i hi]
  have hn : n ≠ 0 := by omega
  have g0 := gl 0 (by omega)
  have z5 : nn (x ++ more) = n := by rw [nn, g0, sct5, u8i_nat _ (by omega)]
  have z6 : zz (x ++ more) = b.length := by
   rw [zz, g0, sct6, sct7, show ((b.length : Nat) : Int) / 256 = ((b.length / 256 : Nat) : Int) from rfl, u8i_mod, u8i_mod]; omega
  have zs : sq (x ++ more) = s := by rw [sq, g0, sct_seq]
  have h64 : ∀ i, i < n → ((x ++ more).getD i []).length = 64 := fun i hi => by rw [gl i hi, sct_length]
  have hr := sectors_room (b.length : Int) (by rw [hS]; omega)
  rw [hS] at hr
  have zb : bb (x ++ more) = b := by
   have hfl := flat_length (x ++ more) n h64
   rw [bb, z5, z6]
   refine ext_gD 0 (by rw [List.length_take, hfl]; omega) (fun k hk => ?_)
   rw [List.length_take, hfl] at hk
   rw [gD_take, if_pos (by omega), show k = 56 * (k / 56) + k % 56 by omega, flat_get _ n (k / 56) (k % 56) h64 (by omega) (by omega), gl _ (by omega), sct_hi _ _ _ _ _ (by omega) (by omega) (by omega), Int.toNat_natCast]
   congr 1; omega
  refine ⟨?_, (by show ((x.length : Nat) : Int) = (n : Int); omega), ?_⟩
  ·rw [join_good, zs, zb, z5, el]
   ·rintro (q | q | q | q | q | q)
    ·rw [List.length_append] at q; omega
    ·exact q (h64 0 (by omega))
    ·rw [zs] at q; exact c1 q
    ·omega
    ·rw [z5, z6, hS] at q; exact q rfl
    ·rw [List.length_append] at q; omega
   ·intro i hi
    rw [z5] at hi
    rw [zs, zb, z5, gl i hi]
  ·apply join_bad
   left
   rw [slc_take]
   by_cases w : n = 1
   ·left; rw [List.length_take]; omega
   ·right; right; right; right; right
    have : ((x.take ((x.length : Int) - 1).toNat).getD 0 []) = sct s b n 0 := by rw [gD_take, if_pos (by omega), gx 0 (by omega)]; rfl
    rw [nn, this, sct5, u8i_nat _ (by omega), List.length_take]; omega
end Go.Proofs.YtbppcnhfeobefaaDoor
namespace Go.Proofs.YtbppcnhfeobefaaDoor
open Go Go.Vw Go.Proofs
theorem take_drop_eq (l p : tLB) (hl : p.length ≤ l.length) (h : ∀ i, i < p.length → l.getD i [] = p.getD i []) : l = p ++ l.drop p.length := by
 refine ext_gD [] (by rw [List.length_append, List.length_drop]; omega) (fun i _ => ?_)
 rw [gD_app]
 split
 ·rename_i q; exact h i q
 ·rw [gD_drop]; congr 1; omega
end Go.Proofs.YtbppcnhfeobefaaDoor
namespace Go.Proofs.YtbppcnhfeobefaaDoor
open Go Go.Vw Go.Proofs
def wrA : Int → Sc → List Wr → Int → Bool → Bool × List Wr × Int × Bool
 | _, [], w, a, d => (true, w, a, d)
 | p, x :: l, w, a, d => bif stD a d then (false, w, stA a, true) else wrA (p + 1) l (w ++ [(p, x)]) (stA a) false
noncomputable def SP (q : UInt32) (b : List UInt8) : Sc := (fr_Split q b).1
theorem sp_ok (q : UInt32) (b : List UInt8) (hq : q ≠ 0) (hb : b.length ≤ 14280) : fr_Split q b = (SP q b, 0) ∧ ((SP q b).length : Int) = fr_Sectors (b.length : Int) ∧ (∀ i : Nat, i < (SP q b).length → (SP q b).getD i [] = sct q b (fr_Sectors (b.length : Int)) i) := by
 have hs := sectors_pos (b.length : Int) (by omega) (by omega)
 have e : ((q == 0) || (fr_Sectors (b.length : Int) == 0)) = false := by
  rw [beq_false_of_ne hq, beq_false_of_ne (by omega)]; rfl
 have h := split_eq q b
 rw [e, cond_false] at h
 unfold SP
 rw [h]
 refine ⟨rfl, by simp; omega, fun i hi => ?_⟩
 have hi' : i < (fr_Sectors (b.length : Int)).toNat := by simpa using hi
 rw [getD_range, if_pos hi']
theorem inR_at {s : Sc} {i : Int} {b : List UInt8} (h0 : 0 ≤ i) (h1 : i < (s.length : Int)) (hb : b.length = 64) : inR s i b = true := by
 unfold inR
 rw [decide_eq_true (show i ≥ 0 from h0), decide_eq_true h1, hb]; rfl
theorem drop_at (l : Sc) (t : Nat) (h : t < l.length) : l.drop t = l.getD t [] :: l.drop (t + 1) := by
 rw [List.getD_eq_getElem?_getD, List.getElem?_eq_getElem h]; exact List.drop_eq_getElem_cons h
theorem u32_next {q : UInt32} (h : (q == 4294967295) = false) : (q + 1).toNat = q.toNat + 1 := by
 have h1 : q ≠ 4294967295 := fun e => by rw [e] at h; exact absurd h (by decide)
 have h2 : q.toNat ≠ 4294967295 := fun e => h1 (UInt32.toNat_inj.1 e)
 have h3 := q.toNat_lt
 rw [UInt32.toNat_add, show (1 : UInt32).toNat = 1 from rfl]; omega
theorem u32_ne {q : UInt32} (h : (q == 4294967295) = false) : q + 1 ≠ 0 := fun e => by
 have := u32_next h
 rw [e] at this; exact absurd this (by rw [show (0 : UInt32).toNat = 0 from rfl]; omega)
theorem app_l1 (j : jOT) (x2 : Sc × Int) (h64 : ∀ i : Nat, i < x2.1.length → (x2.1.getD i []).length = 64) (h0 : 0 ≤ j.2.1) (hr : j.2.1 + x2.1.length ≤ (j.1.1.length : Int)) : ∀ (m t : Nat) (a : Int) (d : Bool) (w : List Wr), t ≤ x2.1.length → x2.1.length - t < m →
  jJAppend_l1 j x2 m (t : Int) a d w = bif (wrA (j.2.1 + t) (x2.1.drop t) w a d).1 then .brk ((wrA (j.2.1 + t) (x2.1.drop t) w a d).2.2.1, (wrA (j.2.1 + t) (x2.1.drop t) w a d).2.2.2, (wrA (j.2.1 + t) (x2.1.drop t) w a d).2.1) else .ret (23, ((j.1.1, (wrA (j.2.1 + t) (x2.1.drop t) w a d).2.1, (wrA (j.2.1 + t) (x2.1.drop t) w a d).2.2.1, (wrA (j.2.1 + t) (x2.1.drop t) w a d).2.2.2), j.2.1, j.2.2.1, j.2.2.2)) := by
 intro m
 induction m with
 | zero => intro t a d w _ h; omega
 | succ m ih =>
  intro t a d w ht hm
  rw [jJAppend_l1]
  by_cases q : t < x2.1.length
  ·rw [decide_eq_true (show (t : Int) < (x2.1.length : Int) by omega), cond_true, bnd_eq, Int.toNat_natCast, write_eq, inR_at (by omega) (by omega) (h64 t q), cond_true, drop_at _ _ q, wrA]
   cases hd : stD a d with
   | true => rfl
   | false =>
    rw [cond_false, cond_false]
    have := ih (t + 1) (stA a) false (w ++ [(j.2.1 + t, x2.1.getD t [])]) (by omega) (by omega)
    rw [show ((t + 1 : Nat) : Int) = (t : Int) + 1 by omega, show j.2.1 + ((t : Int) + 1) = j.2.1 + t + 1 by omega] at this
    exact this
  ·rw [decide_eq_false (show ¬ (t : Int) < (x2.1.length : Int) by omega), cond_false, List.drop_eq_nil_of_le (by omega), wrA]; rfl
theorem append_eq (j : jOT) (b : List UInt8) (h0 : 0 ≤ j.2.1) (hr : j.2.2.1 ≤ (j.1.1.length : Int)) : jJAppend j b =
  bif decide ((b.length : Int) > 14280) then (1, j) else bif (j.2.2.2 == 4294967295) || (decide (j.2.2.1 - j.2.1 < fr_Sectors (b.length : Int))) then (6, j) else
  bif (wrA j.2.1 (SP (j.2.2.2 + 1) b) j.1.2.1 j.1.2.2.1 j.1.2.2.2).1 then
   (bif stD (wrA j.2.1 (SP (j.2.2.2 + 1) b) j.1.2.1 j.1.2.2.1 j.1.2.2.2).2.2.1 (wrA j.2.1 (SP (j.2.2.2 + 1) b) j.1.2.1 j.1.2.2.1 j.1.2.2.2).2.2.2 then
    (23, ((j.1.1, (wrA j.2.1 (SP (j.2.2.2 + 1) b) j.1.2.1 j.1.2.2.1 j.1.2.2.2).2.1, stA (wrA j.2.1 (SP (j.2.2.2 + 1) b) j.1.2.1 j.1.2.2.1 j.1.2.2.2).2.2.1, true), j.2.1, j.2.2.1, j.2.2.2))
   else (0, ((appW j.1.1 (wrA j.2.1 (SP (j.2.2.2 + 1) b) j.1.2.1 j.1.2.2.1 j.1.2.2.2).2.1, [], stA (wrA j.2.1 (SP (j.2.2.2 + 1) b) j.1.2.1 j.1.2.2.1 j.1.2.2.2).2.2.1, false), j.2.1 + fr_Sectors (b.length : Int), j.2.2.1, j.2.2.2 + 1)))
  else (23, ((j.1.1, (wrA j.2.1 (SP (j.2.2.2 + 1) b) j.1.2.1 j.1.2.2.1 j.1.2.2.2).2.1, (wrA j.2.1 (SP (j.2.2.2 + 1) b) j.1.2.1 j.1.2.2.1 j.1.2.2.2).2.2.1, (wrA j.2.1 (SP (j.2.2.2 + 1) b) j.1.2.1 j.1.2.2.1 j.1.2.2.2).2.2.2), j.2.1, j.2.2.1, j.2.2.2)) := by
 rw [jJAppend]
 by_cases hb : (b.length : Int) > 14280
 ·rw [decide_eq_true hb]; rfl
 ·rw [decide_eq_false hb, cond_false, cond_false, bnd_eq]
  cases hf : (j.2.2.2 == 4294967295) || (decide (j.2.2.1 - j.2.1 < fr_Sectors (b.length : Int))) with
  | true => rfl
  | false =>
   obtain ⟨f1, f2⟩ := Bool.or_eq_false_iff.1 hf
   have f2 := of_decide_eq_false f2
   have hq := u32_ne f1
   obtain ⟨e1, e2, e3⟩ := sp_ok (j.2.2.2 + 1) b hq (by omega)
   rw [cond_false, cond_false, bnd_eq, e1]
   have hl := app_l1 j (SP (j.2.2.2 + 1) b, 0) (fun i hi => by rw [e3 i hi, sct_length]) h0 (by show j.2.1 + ((SP (j.2.2.2 + 1) b).length : Int) ≤ _; omega) (((((SP (j.2.2.2 + 1) b).length : Nat) : Int) - (0 : Int)).toNat + 1) 0 j.1.2.2.1 j.1.2.2.2 j.1.2.1 (Nat.zero_le _) (by show (SP (j.2.2.2 + 1) b).length - 0 < _; omega)
   rw [List.drop_zero, show j.2.1 + ((0 : Nat) : Int) = j.2.1 by omega] at hl
   show Lo.el (jJAppend_l1 j (SP (j.2.2.2 + 1) b, 0) (((((SP (j.2.2.2 + 1) b).length : Nat) : Int) - (0 : Int)).toNat + 1) 0 j.1.2.2.1 j.1.2.2.2 j.1.2.1) _ = _
   rw [show (0 : Int) = ((0 : Nat) : Int) from rfl] at *
   rw [hl]
   generalize wrA j.2.1 (SP (j.2.2.2 + 1) b) j.1.2.1 j.1.2.2.1 j.1.2.2.2 = r
   cases r.1 with
   | false => rfl
   | true =>
    show jJAppend_k1 j (SP (j.2.2.2 + 1) b, ((0 : Nat) : Int)) r.2.2.1 r.2.2.2 r.2.1 = _
    rw [jJAppend_k1, bnd_eq, sync_eq]
    cases stD r.2.2.1 r.2.2.2 with
    | true => rfl
    | false =>
     show (0, ((appW j.1.1 r.2.1, [], stA r.2.2.1, false), j.2.1 + ((SP (j.2.2.2 + 1) b).length : Int), j.2.2.1, j.2.2.2 + 1)) = _
     rw [e2]; rfl
theorem wrA_len : ∀ (l : Sc) (p : Int) (w : List Wr) (a : Int) (d : Bool), (wrA p l w a d).2.1.length ≤ w.length + l.length
 | [], _, _, _, _ => Nat.le_add_right _ _
 | x :: l, p, w, a, d => by
  rw [wrA]
  cases stD a d with
  | true => exact Nat.le_add_right _ _
  | false =>
   have := wrA_len l (p + 1) (w ++ [(p, x)]) (stA a) false
   rw [List.length_append, List.length_cons, List.length_nil] at this
   show (wrA (p + 1) l (w ++ [(p, x)]) (stA a) false).2.1.length ≤ _
   rw [List.length_cons]; omega
theorem wrA_ok {m : Nat} {s : Sc} : ∀ (l : Sc) (p : Int) (w : List Wr) (a : Int) (d : Bool), (∀ x ∈ l, x.length = 64) → 0 ≤ p → p + l.length ≤ (s.length : Int) → okD m s w a → okD (m + l.length) s (wrA p l w a d).2.1 (wrA p l w a d).2.2.1
 | [], _, _, _, _, _, _, _, h => h
 | x :: l, p, w, a, d, h64, h0, h1, h => by
  rw [List.length_cons] at h1
  rw [wrA]
  cases stD a d with
  | true => exact okD_mono (ok_arm h) (Nat.le_add_right _ _)
  | false =>
   have := wrA_ok l (p + 1) (w ++ [(p, x)]) (stA a) false (fun y hy => h64 y (List.mem_cons_of_mem _ hy)) (by omega) (by omega) (ok_snoc (ok_arm h) (inR_at h0 (by omega) (h64 x List.mem_cons_self)))
   rw [show m + 1 + l.length = m + (x :: l).length by rw [List.length_cons]; omega] at this
   exact this
theorem sp_64 {q : UInt32} {b : List UInt8} (hq : q ≠ 0) (hb : b.length ≤ 14280) : ∀ x ∈ SP q b, x.length = 64 := fun x hx => by
 obtain ⟨e1, e2, e3⟩ := sp_ok q b hq hb
 obtain ⟨i, hi, rfl⟩ := List.getElem_of_mem hx
 have := e3 i hi
 rw [List.getD_eq_getElem?_getD, List.getElem?_eq_getElem hi] at this
 show ((SP q b)[i]).length = 64
 rw [show (SP q b)[i] = _ from this, sct_length]
theorem ap_fact (j : jOT) (b : List UInt8) (hD : okD 700 j.1.1 j.1.2.1 j.1.2.2.1) (hw : (j.1.2.1.length : Int) + fr_Sectors (b.length : Int) ≤ 700) (hb : 0 ≤ j.2.1 ∧ j.2.1 ≤ j.2.2.1 ∧ j.2.2.1 ≤ (j.1.1.length : Int)) :
  okD 700 (jJAppend j b).2.1.1 (jJAppend j b).2.1.2.1 (jJAppend j b).2.1.2.2.1 ∧ ((jJAppend j b).2.1.2.1.length : Int) ≤ (j.1.2.1.length : Int) + fr_Sectors (b.length : Int) ∧ (jJAppend j b).2.1.1.length = j.1.1.length ∧
  j.2.1 ≤ (jJAppend j b).2.2.1 ∧ (jJAppend j b).2.2.1 ≤ (jJAppend j b).2.2.2.1 ∧ (jJAppend j b).2.2.2.1 = j.2.2.1 := by
 have hn := (sectors_fact (b.length : Int)).1
 rw [append_eq j b hb.1 hb.2.2]
 by_cases q : (b.length : Int) > 14280
 ·rw [decide_eq_true q]; exact ⟨hD, by show (j.1.2.1.length : Int) ≤ _; omega, rfl, Int.le_refl _, hb.2.1, rfl⟩
 ·rw [decide_eq_false q, cond_false]
  cases hf : (j.2.2.2 == 4294967295) || (decide (j.2.2.1 - j.2.1 < fr_Sectors (b.length : Int))) with
  | true => exact ⟨hD, by show (j.1.2.1.length : Int) ≤ _; omega, rfl, Int.le_refl _, hb.2.1, rfl⟩
  | false =>
   rw [cond_false]
   obtain ⟨f1, f2⟩ := Bool.or_eq_false_iff.1 hf
   have f2 := of_decide_eq_false f2
   obtain ⟨e1, e2, e3⟩ := sp_ok (j.2.2.2 + 1) b (u32_ne f1) (by omega)
   have k1 := wrA_ok (m := j.1.2.1.length) (SP (j.2.2.2 + 1) b) j.2.1 j.1.2.1 j.1.2.2.1 j.1.2.2.2 (sp_64 (u32_ne f1) (by omega)) hb.1 (by omega) ⟨hD.1, Nat.le_refl _, hD.2.2⟩
   have k2 := wrA_len (SP (j.2.2.2 + 1) b) j.2.1 j.1.2.1 j.1.2.2.1 j.1.2.2.2
   generalize wrA j.2.1 (SP (j.2.2.2 + 1) b) j.1.2.1 j.1.2.2.1 j.1.2.2.2 = r at k1 k2 ⊢
   have k3 : okD 700 j.1.1 r.2.1 r.2.2.1 := okD_mono k1 (by omega)
   cases r.1 with
   | false => exact ⟨k3, by show (r.2.1.length : Int) ≤ _; omega, rfl, Int.le_refl _, hb.2.1, rfl⟩
   | true =>
    cases stD r.2.2.1 r.2.2.2 with
    | true => exact ⟨ok_arm k3, by show (r.2.1.length : Int) ≤ _; omega, rfl, Int.le_refl _, hb.2.1, rfl⟩
    | false => exact ⟨ok_app (ok_arm k3), by show ((0 : Nat) : Int) ≤ _; omega, appW_len _ _, by show j.2.1 ≤ j.2.1 + _; omega, by show j.2.1 + _ ≤ j.2.2.1; omega, rfl⟩
end Go.Proofs.YtbppcnhfeobefaaDoor
namespace Go.Proofs.YtbppcnhfeobefaaDoor
open Go Go.Vw Go.Proofs
def cur (d0 : Sc) (d1 : List Wr) (i : Int) : List UInt8 := lastW i d1 (d0.getD i.toNat [])
theorem secs_l1 (d0 : Sc) (d1 : List Wr) (d2 : Int) (b : Int) (hb : b ≤ (d0.length : Int)) : ∀ (m : Nat) (i : Int) (o : Sc), 0 ≤ i → i ≤ b → (b - i).toNat < m →
  j_sectors_l1 d0 d1 d2 false b m i o = .brk (o ++ (List.range (b - i).toNat).map (fun k : Nat => cur d0 d1 (i + k))) := by
 intro m
 induction m with
 | zero => intro i o _ _ h; exact absurd h (Nat.not_lt_zero _)
 | succ m ih =>
  intro i o h0 h1 h2
  rw [j_sectors_l1]
  by_cases q : i < b
  ·rw [decide_eq_true q, cond_true, bnd_eq, read_eq, decide_eq_true (show i ≥ 0 from h0), decide_eq_true (show i < (d0.length : Int) by omega)]
   show j_sectors_l1 d0 d1 d2 false b m (i + 1) (o ++ [cur d0 d1 i]) = _
   rw [ih (i + 1) _ (by omega) (by omega) (by omega), List.append_assoc, show (b - i).toNat = (b - (i + 1)).toNat + 1 by omega, List.range_succ_eq_map, List.map_cons, List.map_map]
   have e : ((fun k : Nat => cur d0 d1 (i + (k : Int))) ∘ Nat.succ) = (fun k : Nat => cur d0 d1 (i + 1 + (k : Int))) := funext fun k => by
    show cur d0 d1 (i + ((k + 1 : Nat) : Int)) = _
    rw [show i + ((k + 1 : Nat) : Int) = i + 1 + (k : Int) by omega]
   rw [e, show i + ((0 : Nat) : Int) = i by omega]; rfl
  ·rw [decide_eq_false q, cond_false, show (b - i).toNat = 0 by omega]; simp
theorem secs_down (d0 : Sc) (d1 : List Wr) (d2 : Int) (a b : Int) (ha : 0 ≤ a) (hab : a < b) (hb : b ≤ (d0.length : Int)) : j_sectors d0 d1 d2 true a b = ([], 23, ((), (), (), ())) := by
 rw [j_sectors, decide_eq_false (show ¬ a < 0 by omega), decide_eq_false (show ¬ a ≥ b by omega), decide_eq_false (show ¬ b > (d0.length : Int) by omega), Bool.or_false, Bool.or_false, cond_false, j_sectors_l1, decide_eq_true hab, cond_true, bnd_eq, read_eq, decide_eq_true (show a ≥ 0 from ha), decide_eq_true (show a < (d0.length : Int) by omega)]
 rfl
theorem secs_ok (d0 : Sc) (d1 : List Wr) (d2 : Int) (a b : Int) (ha : 0 ≤ a) (hab : a < b) (hb : b ≤ (d0.length : Int)) : j_sectors d0 d1 d2 false a b = ((List.range (b - a).toNat).map (fun k : Nat => cur d0 d1 (a + k)), 0, ((), (), (), ())) := by
 rw [j_sectors, decide_eq_false (show ¬ a < 0 by omega), decide_eq_false (show ¬ a ≥ b by omega), decide_eq_false (show ¬ b > (d0.length : Int) by omega), Bool.or_false, Bool.or_false, cond_false, secs_l1 d0 d1 d2 b hb _ a [] ha (by omega) (Nat.lt_succ_self _)]
 show j_sectors_k1 _ = _
 rw [j_sectors_k1]; rfl
theorem secs_bad (d0 : Sc) (d1 : List Wr) (d2 : Int) (d3 : Bool) (a b : Int) (h : ¬ (0 ≤ a ∧ a < b ∧ b ≤ (d0.length : Int))) : j_sectors d0 d1 d2 d3 a b = ([], 1, ((), (), (), ())) := by
 rw [j_sectors]
 by_cases q1 : a < 0
 ·rw [decide_eq_true q1]; rfl
 ·by_cases q2 : a ≥ b
  ·rw [decide_eq_true q2, decide_eq_false q1]; rfl
  ·rw [decide_eq_true (show b > (d0.length : Int) by omega), decide_eq_false q1, decide_eq_false q2]; rfl
theorem secs_len (d0 : Sc) (d1 : List Wr) (d2 : Int) (d3 : Bool) (a b : Int) (h : (j_sectors d0 d1 d2 d3 a b).2.1 = 0) : 0 ≤ a ∧ a < b ∧ b ≤ (d0.length : Int) ∧ ((j_sectors d0 d1 d2 d3 a b).1.length : Int) = b - a := by
 by_cases q : 0 ≤ a ∧ a < b ∧ b ≤ (d0.length : Int)
 ·cases d3 with
  | true => rw [secs_down d0 d1 d2 a b q.1 q.2.1 q.2.2] at h; exact absurd h (by decide)
  | false => rw [secs_ok d0 d1 d2 a b q.1 q.2.1 q.2.2]; refine ⟨q.1, q.2.1, q.2.2, ?_⟩; show ((List.map _ _).length : Int) = _; rw [List.length_map, List.length_range]; omega
 ·rw [secs_bad d0 d1 d2 d3 a b q] at h; exact absurd h (by decide)
def mxl (R : List (UInt32 × List UInt8)) (last : UInt32) : UInt32 := bif decide ((R.length : Int) > 0) then (if (R.getD (((R.length : Int) - 1).toNat) zR2).1 > last then (R.getD (((R.length : Int) - 1).toNat) zR2).1 else last) else last
theorem open_eq (d0 : Sc) (d1 : List Wr) (d2 : Int) (d3 : Bool) (a b : Int) (last : UInt32) : open_ok d0 d1 d2 d3 a b last = (((), a + (j_records (j_sectors d0 d1 d2 d3 a b).1).2, b, mxl (j_records (j_sectors d0 d1 d2 d3 a b).1).1 last), (j_records (j_sectors d0 d1 d2 d3 a b).1).1, 0, ((), (), (), ())) := by
 rw [open_ok, bnd_eq, bnd_eq, bnd_eq]; rfl
theorem open_fact (d0 : Sc) (d1 : List Wr) (d2 : Int) (d3 : Bool) (a b : Int) (last : UInt32) (h : decide ((j_sectors d0 d1 d2 d3 a b).2.1 = 0) = true) : a ≤ (open_ok d0 d1 d2 d3 a b last).1.2.1 ∧ (open_ok d0 d1 d2 d3 a b last).1.2.1 ≤ b ∧ (open_ok d0 d1 d2 d3 a b last).1.2.2.1 = b ∧ (open_ok d0 d1 d2 d3 a b last).2.1.length ≤ d0.length := by
 obtain ⟨h1, h2, h3, h4⟩ := secs_len d0 d1 d2 d3 a b (of_decide_eq_true h)
 have hr := rec_fact (j_sectors d0 d1 d2 d3 a b).1
 rw [open_eq]
 refine ⟨?_, ?_, rfl, ?_⟩
 ·show a ≤ a + _; omega
 ·show a + _ ≤ b; omega
 ·show (j_records (j_sectors d0 d1 d2 d3 a b).1).1.length ≤ d0.length; omega
theorem arm8 (x : UInt64) : 1 + (((x % 8).toNat : Nat) : Int) ≤ 9223372036854775807 := by
 rw [UInt64.toNat_mod, show (8 : UInt64).toNat = 8 from rfl]; omega
theorem arm9 (x : UInt64) : (((x % 9).toNat : Nat) : Int) ≤ 9223372036854775807 := by
 rw [UInt64.toNat_mod, show (9 : UInt64).toNat = 9 from rfl]; omega
theorem start_fact (d0 : Sc) (d1 : List Wr) (d2 : Int) (d3 : Bool) (a b : Int) (last : UInt32) : (start_ok d0 d1 d2 d3 a b last).1.2.1 = a ∧ (start_ok d0 d1 d2 d3 a b last).1.2.2.1 = b := by
 rw [start_ok]; exact ⟨rfl, rfl⟩
theorem okC0 {m : Nat} {d0 : Sc} {d1 : List Wr} {d2 : Int} {d3 : Bool} {keep : List Bool} (h : okD m d0 d1 d2) : okD 700 ((dDCrash d0 d1 d2 d3 keep).1) ((dDCrash d0 d1 d2 d3 keep).2.1) ((dDCrash d0 d1 d2 d3 keep).2.2.1) := by
 have := okC (d3 := d3) (keep := keep) h
 exact ⟨this.1, by rw [(c_fact d0 d1 d2 d3 keep).2]; decide, this.2.2⟩
end Go.Proofs.YtbppcnhfeobefaaDoor
namespace Go.Proofs.YtbppcnhfeobefaaDoor
open Go Go.Vw Go.Proofs
abbrev Rec : Type := UInt32 × List UInt8
theorem jn_mk (l : Sc) (q : UInt32) (b : List UInt8) (n : Nat) (hq : q ≠ 0) (hn : fr_Sectors (b.length : Int) = n) (h1 : 1 ≤ n) (hl : n ≤ l.length) (h : ∀ i : Nat, i < n → l.getD i [] = sct q b n i) : fr_Join l = (q, b, (n : Int), 0) := by
 have hf := sectors_fact (b.length : Int)
 obtain ⟨e1, e2, e3⟩ := sp_ok q b hq (by omega)
 have hlen : (SP q b).length = n := by omega
 have ht := take_drop_eq l (SP q b) (by omega) (fun i hi => by rw [h i (by omega), e3 i hi, hn])
 have hb := (back q b (l.drop (SP q b).length) (by rw [e1])).1
 rw [show (fr_Split q b).1 = SP q b from rfl, ← ht, hlen] at hb
 exact hb
theorem jn_of (l : Sc) (q : UInt32) (b : List UInt8) (n : Int) (h : fr_Join l = (q, b, n, 0)) : q ≠ 0 ∧ fr_Sectors (b.length : Int) = n ∧ 1 ≤ n ∧ n ≤ (l.length : Int) ∧ ∀ i : Nat, (i : Int) < n → l.getD i [] = sct q b n i := by
 by_cases c : Bad l ∨ ¬ AllIn l
 ·rw [join_bad l c] at h; exact absurd (show (4 : Int) = 0 from congrArg (fun z => z.2.2.2) h) (by decide)
 ·have c1 : ¬ Bad l := fun q => c (.inl q)
  have c2 : AllIn l := Classical.not_not.1 fun q => c (.inr q)
  rw [join_good l c1 c2] at h
  have q1 := congrArg (fun z => z.1) h
  have q2 := congrArg (fun z => z.2.1) h
  have q3 := congrArg (fun z => z.2.2.1) h
  dsimp only at q1 q2 q3
  unfold Bad at c1
  have hz := bb_length l (fun i hi => by rw [c2 i hi, sct_length]) (by omega) (by omega)
  subst q1 q2 q3
  refine ⟨fun e => c1 (.inr (.inr (.inl e))), by rw [hz]; omega, by omega, by omega, fun i hi => c2 i (by omega)⟩
theorem drop_gD (l : Sc) (a i : Nat) : (l.drop a).getD i [] = l.getD (a + i) [] := by
 rw [List.getD_eq_getElem?_getD, List.getElem?_drop, List.getD_eq_getElem?_getD]
def Rch (l : Sc) : Nat → UInt32 → List Rec → Nat → UInt32 → Prop
 | a, s, [], a', s' => a = a' ∧ s = s'
 | a, s, r :: R, a', s' => ∃ n : Nat, fr_Join (l.drop a) = (r.1, r.2, (n : Int), 0) ∧ s.toNat < r.1.toNat ∧ Rch l (a + n) r.1 R a' s'
def Stp (l : Sc) (a : Nat) (s : UInt32) : Prop := ∀ q b n, fr_Join (l.drop a) = (q, b, n, 0) → q.toNat ≤ s.toNat
theorem rch_le (l : Sc) : ∀ (R : List Rec) (a : Nat) (s : UInt32) (a' : Nat) (s' : UInt32), Rch l a s R a' s' → a ≤ a' ∧ (a ≤ l.length → a' ≤ l.length)
 | [], a, s, a', s', h => by obtain ⟨rfl, rfl⟩ := h; exact ⟨Nat.le_refl _, id⟩
 | r :: R, a, s, a', s', h => by
  obtain ⟨n, h1, h2, h3⟩ := h
  obtain ⟨k1, k2, k3, k4, k5⟩ := jn_of _ _ _ _ h1
  rw [List.length_drop] at k4
  obtain ⟨q1, q2⟩ := rch_le l R _ _ _ _ h3
  exact ⟨by omega, fun h => q2 (by omega)⟩
theorem slc_drop (l : Sc) (a : Nat) : slc l (a : Int) (l.length : Int) = l.drop a := by
 unfold slc
 rw [Int.toNat_natCast, Int.toNat_natCast]; exact List.take_of_length_le (by rw [List.length_drop]; omega)
theorem rch_run (l : Sc) : ∀ (R : List Rec) (a : Nat) (s : UInt32) (a' : Nat) (s' : UInt32), Rch l a s R a' s' → Stp l a' s' → a ≤ l.length → ∀ (m : Nat) (o : List Rec), l.length - a < m →
  Lo.el (j_records_l1 l m (a : Int) s o) (fun _ => default) = (o ++ R, (a' : Int))
 | [], a, s, a', s', h, hs, ha => by
  obtain ⟨rfl, rfl⟩ := h
  intro m o hm
  cases m with
  | zero => omega
  | succ m =>
   rw [j_records_l1, bnd_eq, slc_drop]
   have hs := fun q b n => hs q b n
   generalize fr_Join (l.drop a) = x at hs ⊢
   obtain ⟨x1, x2, x3, x4⟩ := x
   by_cases q : x4 = 0
   ·subst q
    have := hs x1 x2 x3 rfl
    dsimp only
    rw [decide_eq_true (show x1 ≤ s from UInt32.le_iff_toNat_le.2 this), Bool.or_true, cond_true, List.append_nil]; rfl
   ·dsimp only
    rw [decide_eq_false q, List.append_nil]; rfl
 | r :: R, a, s, a', s', h, hs, ha => by
  obtain ⟨n, h1, h2, h3⟩ := h
  obtain ⟨k1, k2, k3, k4, k5⟩ := jn_of _ _ _ _ h1
  rw [List.length_drop] at k4
  intro m o hm
  cases m with
  | zero => omega
  | succ m =>
   rw [j_records_l1, bnd_eq, slc_drop, h1]
   dsimp only
   rw [show decide ((0 : Int) = 0) = true from rfl, decide_eq_false (show ¬ r.1 ≤ s from fun q => by have := UInt32.le_iff_toNat_le.1 q; omega)]
   have := rch_run l R (a + n) r.1 a' s' h3 hs (by omega) m (o ++ [(r.1, r.2)]) (by omega)
   rw [List.append_assoc, show ((a + n : Nat) : Int) = (a : Int) + n by omega] at this
   exact this
theorem rch_snoc (l : Sc) (a2 : Nat) (s2 : UInt32) (q : UInt32) (b : List UInt8) (n : Nat) (hj : fr_Join (l.drop a2) = (q, b, (n : Int), 0)) (hq : s2.toNat < q.toNat) : ∀ (R : List Rec) (a : Nat) (s : UInt32), Rch l a s R a2 s2 → Rch l a s (R ++ [(q, b)]) (a2 + n) q
 | [], a, s, h => by obtain ⟨rfl, rfl⟩ := h; exact ⟨n, hj, hq, rfl, rfl⟩
 | r :: R, a, s, h => by
  obtain ⟨k, h1, h2, h3⟩ := h
  exact ⟨k, h1, h2, rch_snoc l a2 s2 q b n hj hq R _ _ h3⟩
theorem rch_agree (l l' : Sc) (hl : l'.length = l.length) : ∀ (R : List Rec) (a : Nat) (s : UInt32) (a' : Nat) (s' : UInt32), Rch l a s R a' s' → (∀ i, i < a' → l'.getD i [] = l.getD i []) → Rch l' a s R a' s'
 | [], a, s, a', s', h, _ => h
 | r :: R, a, s, a', s', h, hi => by
  obtain ⟨n, h1, h2, h3⟩ := h
  obtain ⟨k1, k2, k3, k4, k5⟩ := jn_of _ _ _ _ h1
  have hle := (rch_le l R _ _ _ _ h3).1
  rw [List.length_drop] at k4
  refine ⟨n, jn_mk _ _ _ _ k1 k2 (by omega) (by rw [List.length_drop]; omega) (fun i hh => ?_), h2, rch_agree l l' hl R _ _ _ _ h3 hi⟩
  rw [drop_gD, hi _ (by omega), ← drop_gD]
  exact k5 i (by omega)
theorem rch_asc (l : Sc) : ∀ (R : List Rec) (a : Nat) (s : UInt32) (a' : Nat) (s' : UInt32), Rch l a s R a' s' → (∀ n : Nat, n < R.length → s.toNat < (R.getD n zR2).1.toNat) ∧ (∀ n : Nat, n + 1 < R.length → (R.getD n zR2).1.toNat < (R.getD (n + 1) zR2).1.toNat) ∧ (R = [] ∧ s' = s ∨ 0 < R.length ∧ (R.getD (R.length - 1) zR2).1 = s')
 | [], a, s, a', s', h => by obtain ⟨rfl, rfl⟩ := h; exact ⟨fun n hn => absurd hn (Nat.not_lt_zero _), fun n hn => absurd hn (Nat.not_lt_zero _), .inl ⟨rfl, rfl⟩⟩
 | r :: R, a, s, a', s', h => by
  obtain ⟨n, h1, h2, h3⟩ := h
  obtain ⟨p1, p2, p3⟩ := rch_asc l R _ _ _ _ h3
  refine ⟨fun n hn => ?_, fun n hn => ?_, .inr ⟨Nat.succ_pos _, ?_⟩⟩
  ·cases n with
   | zero => exact h2
   | succ n => exact Nat.lt_trans h2 (p1 n (by rw [List.length_cons] at hn; omega))
  ·rw [List.length_cons] at hn
   cases n with
   | zero => exact p1 0 (by omega)
   | succ n => exact p2 n (by omega)
  ·rcases p3 with ⟨rfl, rfl⟩ | ⟨q1, q2⟩
   ·rfl
   ·rw [← q2, List.length_cons, show R.length + 1 - 1 = (R.length - 1) + 1 by omega]; rfl
end Go.Proofs.YtbppcnhfeobefaaDoor
namespace Go.Proofs.YtbppcnhfeobefaaDoor
open Go Go.Vw Go.Proofs
def wrs : Int → Sc → List Wr
 | _, [] => []
 | p, x :: l => (p, x) :: wrs (p + 1) l
theorem wrA_spec : ∀ (l : Sc) (p : Int) (w : List Wr) (a : Int), ∃ k : Nat, k ≤ l.length ∧ (wrA p l w a false).2.1 = w ++ wrs p (l.take k) ∧ ((wrA p l w a false).1 = true → k = l.length ∧ (wrA p l w a false).2.2.2 = false) ∧ ((wrA p l w a false).1 = false → (wrA p l w a false).2.2.2 = true)
 | [], p, w, a => ⟨0, Nat.le_refl _, by rw [wrA]; simp [wrs], fun _ => ⟨rfl, rfl⟩, fun h => absurd (show true = false from h) (by decide)⟩
 | x :: l, p, w, a => by
  rw [wrA]
  cases stD a false with
  | true => exact ⟨0, Nat.zero_le _, by simp [wrs], fun h => absurd (show false = true from h) (by decide), fun _ => rfl⟩
  | false =>
   obtain ⟨k, h1, h2, h3, h4⟩ := wrA_spec l (p + 1) (w ++ [(p, x)]) (stA a)
   refine ⟨k + 1, by rw [List.length_cons]; omega, ?_, fun h => ?_, h4⟩
   ·show (wrA (p + 1) l (w ++ [(p, x)]) (stA a) false).2.1 = _
    rw [h2, List.append_assoc]; rfl
   ·obtain ⟨q1, q2⟩ := h3 h
    exact ⟨by rw [List.length_cons]; omega, q2⟩
theorem set1_get (s : Sc) (p : Nat) (x : List UInt8) (i : Nat) (hi : i < s.length) : (set1 s ((p : Int), x)).getD i [] = if p = i then x else s.getD i [] := by
 show (s.set (p : Int).toNat x).getD i [] = _
 rw [Int.toNat_natCast, List.getD_eq_getElem?_getD, List.getElem?_set]
 by_cases h : p = i
 ·subst h; rw [if_pos rfl, if_pos rfl, if_pos hi]; rfl
 ·rw [if_neg h, if_neg h, List.getD_eq_getElem?_getD]
theorem crW_wrs (keep : List Bool) : ∀ (l : Sc) (p j : Nat) (s : Sc) (i : Nat), i < s.length →
  (crW keep j (wrs (p : Int) l) s).getD i [] = if p ≤ i ∧ i - p < l.length ∧ keep.getD (j + (i - p)) false = true then l.getD (i - p) [] else s.getD i []
 | [], p, j, s, i, _ => by
  rw [if_neg (fun h => absurd h.2.1 (Nat.not_lt_zero _))]; rfl
 | x :: l, p, j, s, i, hi => by
  show (crW keep (j + 1) (wrs ((p : Int) + 1) l) (bif keep.getD j false then set1 s ((p : Int), x) else s)).getD i [] = _
  have hlen : i < (bif keep.getD j false then set1 s ((p : Int), x) else s).length := by
   cases keep.getD j false with
   | true => show i < (set1 s _).length; rw [set1_len]; exact hi
   | false => exact hi
  have ih := crW_wrs keep l (p + 1) (j + 1) (bif keep.getD j false then set1 s ((p : Int), x) else s) i hlen
  rw [show ((p + 1 : Nat) : Int) = (p : Int) + 1 by omega] at ih
  rw [ih]
  by_cases h1 : p + 1 ≤ i
  ·have e1 : j + 1 + (i - (p + 1)) = j + (i - p) := by omega
   have e2 : (x :: l).getD (i - p) [] = l.getD (i - (p + 1)) [] := by rw [show i - p = (i - (p + 1)) + 1 by omega]; rfl
   have e3 : (bif keep.getD j false then set1 s ((p : Int), x) else s).getD i [] = s.getD i [] := by
    cases keep.getD j false with
    | true => show (set1 s ((p : Int), x)).getD i [] = _; rw [set1_get _ _ _ _ hi, if_neg (by omega)]
    | false => rfl
   rw [e1, e2, e3, List.length_cons]
   by_cases h2 : i - (p + 1) < l.length ∧ keep.getD (j + (i - p)) false = true
   ·rw [if_pos ⟨h1, h2.1, h2.2⟩, if_pos ⟨by omega, by omega, h2.2⟩]
   ·rw [if_neg (fun h => h2 ⟨h.2.1, h.2.2⟩), if_neg (fun h => h2 ⟨by omega, h.2.2⟩)]
  ·rw [if_neg (fun h => h1 h.1)]
   by_cases h2 : p = i
   ·subst h2
    rw [Nat.sub_self, Nat.add_zero]
    cases hk : keep.getD j false with
    | true => rw [cond_true, set1_get _ _ _ _ hi, if_pos rfl, if_pos ⟨Nat.le_refl _, by rw [List.length_cons]; omega, rfl⟩]; rfl
    | false => rw [cond_false, if_neg (fun h => absurd h.2.2 (by decide))]
   ·rw [if_neg (fun h => h2 (by omega))]
    cases keep.getD j false with
    | true => rw [cond_true, set1_get _ _ _ _ hi, if_neg h2]
    | false => rfl
theorem appW_wrs : ∀ (l : Sc) (p : Nat) (s : Sc) (i : Nat), i < s.length →
  (appW s (wrs (p : Int) l)).getD i [] = if p ≤ i ∧ i - p < l.length then l.getD (i - p) [] else s.getD i []
 | [], p, s, i, _ => by rw [if_neg (fun h => absurd h.2 (Nat.not_lt_zero _))]; rfl
 | x :: l, p, s, i, hi => by
  have ih := appW_wrs l (p + 1) (set1 s ((p : Int), x)) i (by rw [set1_len]; exact hi)
  rw [show ((p + 1 : Nat) : Int) = (p : Int) + 1 by omega] at ih
  show (appW (set1 s ((p : Int), x)) (wrs ((p : Int) + 1) l)).getD i [] = _
  rw [ih, set1_get _ _ _ _ hi]
  by_cases h1 : p + 1 ≤ i
  ·have e2 : (x :: l).getD (i - p) [] = l.getD (i - (p + 1)) [] := by rw [show i - p = (i - (p + 1)) + 1 by omega]; rfl
   rw [e2, if_neg (show ¬ p = i by omega), List.length_cons]
   by_cases h2 : i - (p + 1) < l.length
   ·rw [if_pos ⟨h1, h2⟩, if_pos ⟨by omega, by omega⟩]
   ·rw [if_neg (fun h => h2 h.2), if_neg (fun h => h2 (by omega))]
  ·rw [if_neg (fun h => h1 h.1)]
   by_cases h2 : p = i
   ·subst h2; rw [if_pos rfl, Nat.sub_self, if_pos ⟨Nat.le_refl _, by rw [List.length_cons]; omega⟩]; rfl
   ·rw [if_neg h2, if_neg (fun h => h2 (by omega))]
noncomputable def sn (x : List UInt8) : Nat := (fr_Seq x).1.toNat
theorem sn_sct (q : UInt32) (b : List UInt8) (n t : Int) : sn (sct q b n t) = q.toNat := by unfold sn; rw [sct_seq]
def Inv (s : Sc) (p : Nat) (lr : UInt32) (last : Nat) (R : List Rec) : Prop :=
 s.length = 40 ∧ (∀ i : Nat, i < 40 → (s.getD i []).length = 64) ∧ Rch s 0 0 R p lr ∧ Stp s p lr ∧ lr.toNat ≤ last ∧ (∀ i : Nat, i < 40 → sn (s.getD i []) ≤ last) ∧ (∀ i : Nat, p < i → i < 40 → (s.getD i []).getD 4 0 ≠ 0 ∨ sn (s.getD i []) = 0)
variable {s s' : Sc} {p : Nat} {lr : UInt32} {last : Nat} {R : List Rec} {q : UInt32} {b : List UInt8} {n : Nat}
theorem inv_last (h : Inv s p lr last R) {L : Nat} (h1 : ∀ i : Nat, i < 40 → sn (s.getD i []) ≤ L) (h2 : lr.toNat ≤ L) : Inv s p lr L R := ⟨h.1, h.2.1, h.2.2.1, h.2.2.2.1, h2, h1, h.2.2.2.2.2.2⟩
theorem inv_done (h : Inv s p lr last R) (hq : last < q.toNat) (hn : fr_Sectors (b.length : Int) = n) (h1 : 1 ≤ n) (hr : p + n ≤ 40) (hl : s'.length = 40)
  (hs : ∀ i : Nat, i < 40 → s'.getD i [] = if p ≤ i ∧ i - p < n then sct q b n ((i - p : Nat) : Int) else s.getD i []) : Inv s' (p + n) q q.toNat (R ++ [(q, b)]) := by
 obtain ⟨a1, a2, a3, a4, a5, a6, a7⟩ := h
 have q0 : q ≠ 0 := fun e => by rw [e] at hq; exact absurd hq (Nat.not_lt_zero _)
 have hj : fr_Join (s'.drop p) = (q, b, (n : Int), 0) := jn_mk _ _ _ _ q0 hn h1 (by rw [List.length_drop]; omega) (fun i hi => by
  rw [drop_gD, hs _ (by omega), if_pos ⟨by omega, by omega⟩, Nat.add_sub_cancel_left])
 refine ⟨hl, fun i hi => ?_, ?_, ?_, Nat.le_refl _, fun i hi => ?_, fun i hp hi => ?_⟩
 ·rw [hs i hi]; split
  ·exact sct_length _ _ _ _
  ·exact a2 i hi
 ·exact rch_snoc s' p lr q b n hj (by omega) R 0 0 (rch_agree s s' (by omega) R 0 0 p lr a3 (fun i hi => by rw [hs i (by omega), if_neg (fun c => by omega)]))
 ·intro q1 b1 n1 h2
  obtain ⟨k1, k2, k3, k4, k5⟩ := jn_of _ _ _ _ h2
  rw [List.length_drop] at k4
  have k6 := k5 0 (by omega)
  rw [drop_gD, Nat.add_zero, hs (p + n) (by omega), if_neg (fun c => by omega)] at k6
  rcases a7 (p + n) (by omega) (by omega) with e | e
  ·rw [k6, sct4] at e; exact absurd rfl e
  ·rw [k6, sn_sct] at e; exact absurd (UInt32.toNat_inj.1 e) k1
 ·rw [hs i hi]; split
  ·rw [sn_sct]; exact Nat.le_refl _
  ·exact Nat.le_trans (a6 i hi) (by omega)
 ·rw [hs i hi, if_neg (fun c => by omega)]; exact a7 i (by omega) hi
theorem u8i_0 {i : Nat} (h : i < 256) (h0 : i ≠ 0) : u8i (i : Int) ≠ 0 := fun e => by
 have := u8i_nat i h
 rw [e] at this; exact h0 this.symm
theorem inv_part (h : Inv s p lr last R) (hq : last < q.toNat) (hn : n ≤ 255) (hr : p + n ≤ 40) (K : Nat → Bool) (i0 : Nat) (hi0 : i0 < n) (hK : K i0 = false) (hl : s'.length = 40)
  (hs : ∀ i : Nat, i < 40 → s'.getD i [] = if p ≤ i ∧ i - p < n ∧ K (i - p) = true then sct q b n ((i - p : Nat) : Int) else s.getD i []) : Inv s' p lr q.toNat R := by
 obtain ⟨a1, a2, a3, a4, a5, a6, a7⟩ := h
 refine ⟨hl, fun i hi => ?_, ?_, ?_, by omega, fun i hi => ?_, fun i hp hi => ?_⟩
 ·rw [hs i hi]; split
  ·exact sct_length _ _ _ _
  ·exact a2 i hi
 ·exact rch_agree s s' (by omega) R 0 0 p lr a3 (fun i hi => by rw [hs i (by omega), if_neg (fun c => by omega)])
 ·intro q1 b1 n1 h2
  obtain ⟨k1, k2, k3, k4, k5⟩ := jn_of _ _ _ _ h2
  have k7 := sectors_fact (b1.length : Int)
  rw [List.length_drop] at k4
  have hg : ∀ i : Nat, (i : Int) < n1 → s'.getD (p + i) [] = sct q1 b1 n1 i := fun i hi => by rw [← drop_gD]; exact k5 i hi
  by_cases c : q1 = q
  ·subst c
   -- its first sector is new
   have g0 := hg 0 (by omega)
   rw [Nat.add_zero, hs p (by omega)] at g0
   by_cases c0 : p ≤ p ∧ p - p < n ∧ K (p - p) = true
   ·rw [if_pos c0] at g0
    have g5 := congrArg (fun z => z.getD 5 0) g0
    rw [sct5, sct5] at g5
    have g6 := congrArg UInt8.toNat g5
    rw [u8i_nat n (by omega), show n1 = ((n1.toNat : Nat) : Int) by omega, u8i_nat n1.toNat (by omega)] at g6
    have gi := hg i0 (by omega)
    rw [hs (p + i0) (by omega), Nat.add_sub_cancel_left, if_neg (fun d => by rw [hK] at d; exact absurd d.2.2 (by decide))] at gi
    have := a6 (p + i0) (by omega)
    rw [gi, sn_sct] at this
    omega
   ·rw [if_neg c0] at g0
    have := a6 p (by omega)
    rw [g0, sn_sct] at this
    omega
  ·have hold : ∀ i : Nat, (i : Int) < n1 → s.getD (p + i) [] = sct q1 b1 n1 i := fun i hi => by
    have g := hg i hi
    rw [hs (p + i) (by omega)] at g
    split at g
    ·have := congrArg sn g
     rw [sn_sct, sn_sct] at this
     exact absurd (UInt32.toNat_inj.1 this).symm c
    ·exact g
   have := a4 q1 b1 n1 (by
    rw [show n1 = ((n1.toNat : Nat) : Int) by omega]
    refine jn_mk _ _ _ _ k1 (by rw [k2]; omega) (by omega) (by rw [List.length_drop]; omega) (fun i hi => ?_)
    rw [drop_gD, show ((n1.toNat : Nat) : Int) = n1 by omega]; exact hold i (by omega))
   exact this
 ·rw [hs i hi]; split
  ·rw [sn_sct]; exact Nat.le_refl _
  ·exact Nat.le_trans (a6 i hi) (by omega)
 ·rw [hs i hi]; split
  ·rename_i c
   refine .inl ?_
   rw [sct4]; exact u8i_0 (by omega) (by omega)
  ·exact a7 i hp hi
theorem inv_crash (h : Inv s p lr last R) (hq : last < q.toNat) (hb : b.length ≤ 14280) (hr : p + (SP q b).length ≤ 40) (keep : List Bool) (k : Nat) (hk : k ≤ (SP q b).length) :
  Inv (crW keep 0 (wrs (p : Int) ((SP q b).take k)) s) (p + (SP q b).length) q q.toNat (R ++ [(q, b)]) ∨ Inv (crW keep 0 (wrs (p : Int) ((SP q b).take k)) s) p lr q.toNat R := by
 have q0 : q ≠ 0 := fun e => by rw [e] at hq; exact absurd hq (Nat.not_lt_zero _)
 obtain ⟨e1, e2, e3⟩ := sp_ok q b q0 hb
 have hf := sectors_fact (b.length : Int)
 have hp := sectors_pos (b.length : Int) (by omega) (by omega)
 have hl : (crW keep 0 (wrs (p : Int) ((SP q b).take k)) s).length = 40 := by rw [crW_len]; exact h.1
 have hs : ∀ i : Nat, i < 40 → (crW keep 0 (wrs (p : Int) ((SP q b).take k)) s).getD i [] = if p ≤ i ∧ i - p < (SP q b).length ∧ (decide (i - p < k) && keep.getD (i - p) false) = true then sct q b ((SP q b).length : Int) ((i - p : Nat) : Int) else s.getD i [] := fun i hi => by
  rw [crW_wrs keep _ p 0 s i (by rw [h.1]; exact hi), Nat.zero_add, List.length_take]
  by_cases c : p ≤ i ∧ i - p < k ∧ keep.getD (i - p) false = true
  ·rw [if_pos ⟨c.1, by omega, c.2.2⟩, if_pos ⟨c.1, by omega, by rw [decide_eq_true c.2.1, c.2.2]; rfl⟩]
   rw [List.getD_eq_getElem?_getD, List.getElem?_take, if_pos c.2.1, ← List.getD_eq_getElem?_getD, e3 _ (by omega), e2]
  ·rw [if_neg (fun d => c ⟨d.1, by omega, d.2.2⟩), if_neg (fun d => c ⟨d.1, by
    have := (Bool.and_eq_true_iff.1 d.2.2).1
    exact of_decide_eq_true this, (Bool.and_eq_true_iff.1 d.2.2).2⟩)]
 by_cases c : ∃ i0, i0 < (SP q b).length ∧ (decide (i0 < k) && keep.getD i0 false) = false
 ·obtain ⟨i0, c1, c2⟩ := c
  exact .inr (inv_part h hq (by omega) hr (fun j => decide (j < k) && keep.getD j false) i0 c1 c2 hl hs)
 ·refine .inl (inv_done h hq (by omega) (by omega) hr hl (fun i hi => ?_))
  rw [hs i hi]
  by_cases d : p ≤ i ∧ i - p < (SP q b).length
  ·have : (decide (i - p < k) && keep.getD (i - p) false) = true := by
    cases e : decide (i - p < k) && keep.getD (i - p) false with
    | true => rfl
    | false => exact absurd ⟨i - p, d.2, e⟩ c
   rw [if_pos d, if_pos ⟨d.1, d.2, this⟩]
  ·rw [if_neg d, if_neg (fun e => d ⟨e.1, e.2.1⟩)]
theorem inv_app (h : Inv s p lr last R) (hq : last < q.toNat) (hb : b.length ≤ 14280) (hr : p + (SP q b).length ≤ 40) :
  Inv (appW s (wrs (p : Int) (SP q b))) (p + (SP q b).length) q q.toNat (R ++ [(q, b)]) := by
 have q0 : q ≠ 0 := fun e => by rw [e] at hq; exact absurd hq (Nat.not_lt_zero _)
 obtain ⟨e1, e2, e3⟩ := sp_ok q b q0 hb
 have hp := sectors_pos (b.length : Int) (by omega) (by omega)
 refine inv_done h hq (by omega) (by omega) hr (by rw [appW_len]; exact h.1) (fun i hi => ?_)
 rw [appW_wrs _ p s i (by rw [h.1]; exact hi)]
 by_cases d : p ≤ i ∧ i - p < (SP q b).length
 ·rw [if_pos d, if_pos d, e3 _ d.2, e2]
 ·rw [if_neg d, if_neg d]
end Go.Proofs.YtbppcnhfeobefaaDoor

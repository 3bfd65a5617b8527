/- Requests: the plain laws. -/
import Derived.Test.YtlfinldomjdljaaDoorD10
import Derived.Test.YtlfinldomjdljaaDoorPW
namespace Go.Proofs.YtlfinldomjdljaaDoor
open Go Go.Vw Go.Proofs
theorem sure32 : bursarylaw32_sure = true := by kernel_rfl
abbrev A0 : List UInt8 × Int × Bool × Int := ([], 0, false, 0)
noncomputable abbrev al (n : Nat) : List UInt8 × Int × Bool × Int := bursaryref32_All.getD n A0
theorem tab : ((List.range 30).all fun n => n == 0 || ((request_Args n == (al n).2.1) && ((request_Open n == (al n).2.2.1) && ((request_Name n == (al n).1) && ((request_Find (al n).1 == (n : Int)) && ((al n).2.2.2 == (if n = 2 ∨ n = 5 then 0 else if n = 24 ∨ n = 27 then 1 else (-1)))))))) = true := by kernel_rfl
theorem tab_at (op : Int) (h1 : 1 ≤ op) (h2 : op ≤ 29) : request_Args op = (al op.toNat).2.1 ∧ request_Open op = (al op.toNat).2.2.1 ∧ request_Name op = (al op.toNat).1 ∧ request_Find (al op.toNat).1 = op ∧ (al op.toNat).2.2.2 = (if op = 2 ∨ op = 5 then 0 else if op = 24 ∨ op = 27 then 1 else (-1)) := by
  have := List.all_eq_true.1 tab op.toNat (List.mem_range.2 (by omega))
  have e : ((op.toNat : Nat) : Int) = op := by omega
  have h0 : (op.toNat == 0) = false := by simp; omega
  rw [h0, Bool.false_or, e] at this
  simp only [Bool.and_eq_true, beq_iff_eq] at this
  refine ⟨this.1, this.2.1, this.2.2.1, this.2.2.2.1, ?_⟩
  rw [this.2.2.2.2]
  have e2 : (op.toNat = 2 ∨ op.toNat = 5) ↔ (op = 2 ∨ op = 5) := by omega
  have e3 : (op.toNat = 24 ∨ op.toNat = 27) ↔ (op = 24 ∨ op = 27) := by omega
  simp only [e2, e3]
theorem may_eq (r0 : Int) (r1 r2 : List UInt8) (r3 : List (List UInt8)) : request_Request_may r0 r1 r2 r3 = bursaryref32_May r0 r1 r2 r3 := by
  rw [request_Request_may, bursaryref32_May, bnd_eq, bnd_eq]
  by_cases h : 1 ≤ r0 ∧ r0 ≤ 29
  · obtain ⟨t1, t2, _⟩ := tab_at r0 h.1 h.2
    rw [show ((decide (r0 ≥ 1)) && (decide (r0 < 30))) = true by simp; omega, Bool.true_and, t1, t2]
    by_cases h1 : r1.length ≤ 32
    · rw [decide_eq_true (show (r1.length : Int) ≤ 32 by omega), Bool.true_and]
      by_cases h2 : r2.length ≤ 64
      · rw [show ((decide (r0 < 1)) || ((decide (r0 > 29)) || ((decide ((r1.length : Int) > 32)) || (decide ((r2.length : Int) > 64))))) = false by simp; omega, cond_false, decide_eq_true (show (r2.length : Int) ≤ 64 by omega)]
        congr 1
        cases (r1.length : Int) == 0 <;> simp
      · rw [show ((decide (r0 < 1)) || ((decide (r0 > 29)) || ((decide ((r1.length : Int) > 32)) || (decide ((r2.length : Int) > 64))))) = true by rw [decide_eq_true (show (r2.length : Int) > 64 by omega)]; simp, cond_true, decide_eq_false (show ¬ (r2.length : Int) ≤ 64 by omega)]
        cases (r1.length : Int) == 0 <;> simp
    · rw [decide_eq_false (show ¬ (r1.length : Int) ≤ 32 by omega), Bool.false_and, Bool.and_false, show ((decide (r0 < 1)) || ((decide (r0 > 29)) || ((decide ((r1.length : Int) > 32)) || (decide ((r2.length : Int) > 64))))) = true by rw [decide_eq_true (show (r1.length : Int) > 32 by omega)]; simp]
      rfl
  · rw [show ((decide (r0 ≥ 1)) && (decide (r0 < 30))) = false by simp; omega, Bool.false_and, show ((decide (r0 < 1)) || ((decide (r0 > 29)) || ((decide ((r1.length : Int) > 32)) || (decide ((r2.length : Int) > 64))))) = true from ?_]
    · rfl
    · rw [← Bool.or_assoc, show ((decide (r0 < 1)) || (decide (r0 > 29))) = true by simp; omega, Bool.true_or]
theorem may_op {r0 : Int} {r1 r2 : List UInt8} {r3 : List (List UInt8)} (h : request_Request_may r0 r1 r2 r3 = true) : 1 ≤ r0 ∧ r0 ≤ 29 := by
  rw [request_Request_may, bnd_eq, bnd_eq] at h
  simp only [Bool.and_eq_true, decide_eq_true_eq] at h
  omega
theorem u8i_emod (n : Int) : u8i (n % 256) = u8i n := by
  unfold u8i; congr 2; omega
theorem rencode_ref (r0 : Int) (r1 r2 : List UInt8) (r3 : List (List UInt8)) : request_Encode r0 r1 r2 r3 = bursaryref32_Encode r0 r1 r2 r3 := by
  rw [request_Encode, bursaryref32_Encode, bnd_eq, bnd_eq, may_eq, bnd_eq, bnd_eq, encode_ref]
theorem ne_dec (n : Int) : (!(decide (n = 0))) = (n != 0) := by
  by_cases h : n = 0
  · subst h; rfl
  · rw [decide_eq_false h]; simp [h]
theorem rdecode_ref (b : List UInt8) : request_Decode b = bursaryref32_Decode b := by
  rw [request_Decode, bursaryref32_Decode, bnd_eq, bnd_eq, bnd_eq, bnd_eq, decode_ref, ne_dec, may_eq]
theorem answer_ref (r0 : Int) (r1 : List (List UInt8)) : request_Answer r0 r1 = bursaryref32_Answer r0 r1 := by
  rw [request_Answer, bursaryref32_Answer, bnd_eq, bnd_eq, encode_ref, u8i_emod]
  congr 2
theorem len0 {α : Type} (l : List α) : ((l.length : Int) == 0) = decide ((l.length : Int) < 1) := by
  rw [Bool.eq_iff_iff]; simp only [beq_iff_eq, decide_eq_true_eq]; omega
theorem parse_ref (b : List UInt8) : request_Parse b = bursaryref32_Parse b := by
  rw [request_Parse, bursaryref32_Parse, bnd_eq, bnd_eq, decode_ref, ne_dec, orB8, len0]
  congr 4
  omega
theorem lists_self (a : List (List UInt8)) : bursarylaw32_lists a a = true := by
  rw [bursarylaw32_lists, show ((a.length : Int) != (a.length : Int)) = false by simp, cond_false]
  rcases cmpLoop (f := bursarylaw32_lists_l1 a a) (n := (a.length : Int)) (p := fun i => (a.getD i []) != (a.getD i [])) (r := false) (fun m i _ => by rw [bursarylaw32_lists_l1]) _ 0 (by omega) (Nat.lt_succ_self _) with ⟨q, e⟩ | ⟨⟨j, h1, h2, q⟩, e⟩
  · rw [e]; rfl
  · simp at q
theorem isReq_self (a : Int) (b c : List UInt8) (d : List (List UInt8)) : bursarylaw32_isRequest a b c d a b c d = true := by
  rw [bursarylaw32_isRequest, bnd_eq, lists_self]; simp
theorem isResp_self (a : Int) (d : List (List UInt8)) : bursarylaw32_isResponse a d a d = true := by
  rw [bursarylaw32_isResponse, bnd_eq, lists_self]; simp
theorem requestForms_true (a00 : Int) (a01 a02 : List UInt8) (a03 : List (List UInt8)) (a10 : Int) (a11 : List (List UInt8)) (a2 : List UInt8) : bursarylaw32_RequestForms a00 a01 a02 a03 a10 a11 a2 = true := by
  rw [bursarylaw32_RequestForms, bnd_eq, bnd_eq]
  cases bursarylaw32_bigList a03 || (bursarylaw32_bigList a11 || ((decide ((a01.length : Int) > 200)) || ((decide ((a02.length : Int) > 200)) || (decide ((a2.length : Int) > 3000))))) with
  | true => exact sure32
  | false =>
    rw [cond_false]
    simp only [bnd_eq]
    rw [rencode_ref, rdecode_ref, answer_ref, parse_ref, isReq_self, isResp_self, sure32]
    simp
end Go.Proofs.YtlfinldomjdljaaDoor

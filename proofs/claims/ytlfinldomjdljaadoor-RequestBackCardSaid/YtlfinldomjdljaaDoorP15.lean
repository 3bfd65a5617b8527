/- Requests come back: the plain law. -/
import Derived.Test.YtlfinldomjdljaaDoorP13
namespace Go.Proofs.YtlfinldomjdljaaDoor
open Go Go.Vw Go.Proofs
theorem encode_ok {l : List (List UInt8)} {c : List UInt8} (h : wire_Encode l = (c, 0)) : wire_Decode c = (l, 0) := by
  rw [encode_eq] at h
  by_cases g : fits l
  · rw [if_pos g] at h
    have := congrArg Prod.fst h
    simp only at this
    rw [← this]
    exact decode_encode l g
  · rw [if_neg g] at h
    simp at h
theorem back_req (r0 : Int) (r1 r2 : List UInt8) (r3 : List (List UInt8)) (h : (request_Encode r0 r1 r2 r3).2 = 0) : request_Decode (request_Encode r0 r1 r2 r3).1 = ((r0, r1, r2, r3), 0) := by
  rw [request_Encode, bnd_eq, bnd_eq] at h ⊢
  cases hm : request_Request_may r0 r1 r2 r3 with
  | false => rw [hm] at h; exact absurd h (by simp)
  | true =>
    rw [hm] at h
    obtain ⟨o1, o2⟩ := may_op hm
    show request_Decode (wire_Encode ([([u8i r0] : List UInt8), r1, r2] ++ r3)).1 = _
    have h : (wire_Encode ([([u8i r0] : List UInt8), r1, r2] ++ r3)).2 = 0 := h
    have hd := encode_ok (l := [([u8i r0] : List UInt8), r1, r2] ++ r3) (c := (wire_Encode ([([u8i r0] : List UInt8), r1, r2] ++ r3)).1) (by rw [← h])
    rw [request_Decode, bnd_eq, hd]
    have e8 : ((u8i r0).toNat : Int) = r0 := by
      obtain ⟨n, rfl⟩ := Int.eq_ofNat_of_zero_le (show 0 ≤ r0 by omega)
      rw [u8i_nat n (by omega)]
    have es : slc ([([u8i r0] : List UInt8), r1, r2] ++ r3) 3 (([([u8i r0] : List UInt8), r1, r2] ++ r3).length : Int) = r3 := by rw [slc_drop]; rfl
    show (bif !(decide ((0 : Int) = 0)) then _ else bif (decide ((([([u8i r0] : List UInt8), r1, r2] ++ r3).length : Int) < 3)) || (((1 : Nat) : Int) != 1) then _ else bnd (request_Request_may (((u8i r0).toNat : Int)) r1 r2 (slc ([([u8i r0] : List UInt8), r1, r2] ++ r3) 3 (([([u8i r0] : List UInt8), r1, r2] ++ r3).length : Int))) fun x2 => bif !x2 then _ else ((((u8i r0).toNat : Int), r1, r2, slc ([([u8i r0] : List UInt8), r1, r2] ++ r3) 3 (([([u8i r0] : List UInt8), r1, r2] ++ r3).length : Int)), 0)) = _
    rw [es, e8, bnd_eq, hm, show ((decide ((([([u8i r0] : List UInt8), r1, r2] ++ r3).length : Int) < 3)) || (((1 : Nat) : Int) != 1)) = false by simp; omega]
    rfl
theorem back_resp (r0 : Int) (r1 : List (List UInt8)) (h : (request_Answer r0 r1).2 = 0) : request_Parse (request_Answer r0 r1).1 = ((r0, r1), 0) := by
  rw [request_Answer, bnd_eq] at h ⊢
  cases hm : (decide (r0 < 0)) || (decide (r0 ≥ 65536)) with
  | true => rw [hm] at h; exact absurd h (by simp)
  | false =>
    rw [hm] at h
    simp only [Bool.or_eq_false_iff, decide_eq_false_iff_not] at hm
    show request_Parse (wire_Encode ([([u8i (r0 / 256), u8i r0] : List UInt8)] ++ r1)).1 = _
    have h : (wire_Encode ([([u8i (r0 / 256), u8i r0] : List UInt8)] ++ r1)).2 = 0 := h
    have hd := encode_ok (l := [([u8i (r0 / 256), u8i r0] : List UInt8)] ++ r1) (c := (wire_Encode ([([u8i (r0 / 256), u8i r0] : List UInt8)] ++ r1)).1) (by rw [← h])
    rw [request_Parse, bnd_eq, hd, orB8]
    have e8 : ((u8i (r0 / 256)).toNat : Int) * 256 + ((u8i r0).toNat : Int) = r0 := by
      obtain ⟨n, rfl⟩ := Int.eq_ofNat_of_zero_le (show 0 ≤ r0 by omega)
      rw [show ((n : Int) / 256) = ((n / 256 : Nat) : Int) from rfl, u8i_mod, u8i_mod]; omega
    have es : slc ([([u8i (r0 / 256), u8i r0] : List UInt8)] ++ r1) 1 (([([u8i (r0 / 256), u8i r0] : List UInt8)] ++ r1).length : Int) = r1 := by rw [slc_drop]; rfl
    show (bif !(decide ((0 : Int) = 0)) then _ else bif ((([([u8i (r0 / 256), u8i r0] : List UInt8)] ++ r1).length : Int) == 0) || (((2 : Nat) : Int) != 2) then _ else ((((u8i (r0 / 256)).toNat : Int) * 256 + ((u8i r0).toNat : Int), slc ([([u8i (r0 / 256), u8i r0] : List UInt8)] ++ r1) 1 (([([u8i (r0 / 256), u8i r0] : List UInt8)] ++ r1).length : Int)), 0)) = _
    rw [es, e8, show (((([([u8i (r0 / 256), u8i r0] : List UInt8)] ++ r1).length : Int) == 0) || (((2 : Nat) : Int) != 2)) = false by simp; omega]
    rfl
theorem told_req (b : List UInt8) : (request_Decode b).2 ≠ 0 ∧ (request_Decode b).1.1 = 0 ∨ (request_Decode b).2 = 0 ∧ request_Encode (request_Decode b).1.1 (request_Decode b).1.2.1 (request_Decode b).1.2.2.1 (request_Decode b).1.2.2.2 = (b, 0) := by
  rw [request_Decode, bnd_eq]
  rcases decode_cases b with ⟨h1, h2⟩ | ⟨h1, h2⟩
  · rw [decide_eq_false h1]; exact .inl ⟨h1, rfl⟩
  · rw [decide_eq_true h1]
    show (bif (decide (((wire_Decode b).1.length : Int) < 3)) || ((((wire_Decode b).1.getD 0 []).length : Int) != 1) then _ else _ : (Int × List UInt8 × List UInt8 × List (List UInt8)) × Int).2 ≠ 0 ∧ _ ∨ _
    generalize (wire_Decode b).1 = l at *
    cases c : (decide ((l.length : Int) < 3)) || (((l.getD 0 []).length : Int) != 1) with
    | true => exact .inl ⟨by simp, rfl⟩
    | false =>
      rw [bnd_eq]
      simp only [Bool.or_eq_false_iff, decide_eq_false_iff_not, bne_eq_false_iff_eq] at c
      match l, c with
      | [], c => exact absurd (by simp) c.1
      | [_], c => exact absurd (by simp) c.1
      | [_, _], c => exact absurd (by simp) c.1
      | f :: g :: k :: r, c =>
        have hf : f.length = 1 := by have := c.2; simp at this; omega
        match f, hf with
        | [x], _ =>
          have es : slc ([x] :: g :: k :: r) 3 (([x] :: g :: k :: r).length : Int) = r := by rw [slc_drop]; rfl
          rw [es]
          cases hm : request_Request_may (x.toNat : Int) g k r with
          | false =>
            have hm' : request_Request_may (((([x] :: g :: k :: r).getD 0 []).getD 0 0).toNat : Int) (([x] :: g :: k :: r).getD 1 []) (([x] :: g :: k :: r).getD 2 []) r = false := hm
            rw [hm']
            exact .inl ⟨by simp, rfl⟩
          | true =>
            have hm' : request_Request_may (((([x] :: g :: k :: r).getD 0 []).getD 0 0).toNat : Int) (([x] :: g :: k :: r).getD 1 []) (([x] :: g :: k :: r).getD 2 []) r = true := hm
            rw [hm']
            right
            refine ⟨rfl, ?_⟩
            show request_Encode (x.toNat : Int) g k r = (b, 0)
            rw [request_Encode, bnd_eq, hm, bnd_eq]
            have e8 : u8i (x.toNat : Int) = x := u8eq (u8i_nat _ x.toNat_lt)
            show ((wire_Encode ([([u8i (x.toNat : Int)] : List UInt8), g, k] ++ r)).1, (wire_Encode ([([u8i (x.toNat : Int)] : List UInt8), g, k] ++ r)).2) = (b, 0)
            rw [e8]
            exact h2
theorem tail32 (b : List UInt8) : (bif !(decide ((request_Decode b).2 = 0)) then (((request_Decode b).1.1) == 0) && bursarylaw32_sure else (decide ((request_Encode ((request_Decode b).1.1) ((request_Decode b).1.2.1) ((request_Decode b).1.2.2.1) ((request_Decode b).1.2.2.2)).2 = 0)) && (((request_Encode ((request_Decode b).1.1) ((request_Decode b).1.2.1) ((request_Decode b).1.2.2.1) ((request_Decode b).1.2.2.2)).1 == b) && bursarylaw32_sure)) = true := by
  rcases told_req b with ⟨h1, h2⟩ | ⟨h1, h2⟩
  · rw [decide_eq_false h1, h2, sure32]; rfl
  · rw [h2, decide_eq_true h1, sure32]; simp
theorem requestBack_true (a00 : Int) (a01 a02 : List UInt8) (a03 : List (List UInt8)) (a10 : Int) (a11 : List (List UInt8)) (a2 : List UInt8) : bursarylaw32_RequestBack a00 a01 a02 a03 a10 a11 a2 = true := by
  rw [bursarylaw32_RequestBack, bnd_eq, bnd_eq]
  cases bursarylaw32_bigList a03 || (bursarylaw32_bigList a11 || ((decide ((a01.length : Int) > 200)) || ((decide ((a02.length : Int) > 200)) || (decide ((a2.length : Int) > 3000))))) with
  | true => exact sure32
  | false =>
    rw [cond_false]
    simp only [bnd_eq]
    rw [tail32]
    have t1 : ∀ x : Bool, (bif decide ((request_Answer a10 a11).2 = 0) then bif (!(decide ((request_Parse (request_Answer a10 a11).1).2 = 0))) || (!bursarylaw32_isResponse (request_Parse (request_Answer a10 a11).1).1.1 (request_Parse (request_Answer a10 a11).1).1.2 a10 a11) then false else true else true) = true := fun _ => by
      by_cases h : (request_Answer a10 a11).2 = 0
      · rw [decide_eq_true h, cond_true, back_resp a10 a11 h]
        show (bif (!(decide ((0 : Int) = 0))) || (!bursarylaw32_isResponse a10 a11 a10 a11) then false else true) = true
        rw [isResp_self]; rfl
      · rw [decide_eq_false h]; rfl
    rw [t1 true]
    by_cases h : (request_Encode a00 a01 a02 a03).2 = 0
    · rw [decide_eq_true h, cond_true, back_req a00 a01 a02 a03 h]
      show (bif (!(decide ((0 : Int) = 0))) || (!bursarylaw32_isRequest a00 a01 a02 a03 a00 a01 a02 a03) then false else true) = true
      rw [isReq_self]; rfl
    · rw [decide_eq_false h]; rfl
end Go.Proofs.YtlfinldomjdljaaDoor

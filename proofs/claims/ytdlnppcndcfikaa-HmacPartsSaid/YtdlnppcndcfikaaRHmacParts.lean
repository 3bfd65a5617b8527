/- HmacParts: the row, out of the law's walk and its pure truth: whatever the input, the law answers true, and its input reads as it did. -/
import Derived.Test.YtdlnppcndcfikaaRw0
import Derived.Test.YtdlnppcndcfikaaP4
namespace Go.Proofs.Ytdlnppcndcfikaa
set_option linter.unusedVariables false
set_option linter.unusedSimpArgs false
open Go Go.Vw Go.ChangeShapes Go.WideShapes Go.RowKit Go.ChangeAt
set_option maxRecDepth 100000 in
theorem hmacParts_contract (H : Type) (enc : TypeId × Value → H) (W : World) (base : Nat) (args : Array Value) (ds gs : List (DataW H)) (before : List MemPlace) (hval : ∀ (j : Nat) t v, Try.f7.params[j]? = some t → args[j]? = some v → Value.okWide Try.prog W .any base t v)
    (hW : DataW.Whole enc Try.prog Try.f7.params.toList Rows.hmacPartsSpec.vars false W args.toList ds gs before) (hL : laidMetH Try.prog Rows.hmacPartsRow.laid W) :
    Calls Try.prog 7 args W fun e W' => ∃ v, e = .returned v ∧ Rows.hmacPartsSpec.post enc Try.prog Try.f7 false true false false W args v W' := by
  have hW' := hW
  obtain ⟨p, q, hA0, hV, rfl, hfz, hnd⟩ := hW
  have hA : DataW.TrodAll enc Try.prog W 0 (fun _ => true) true Try.f7.params.toList args.toList ds p := hA0
  rw [Try.params7] at hA hval
  obtain ⟨v0, vs0, d0, ds0, p0, q0, ha0, rfl, rfl, h0, r0⟩ := trodAll_cons hA
  obtain ⟨v1, vs1, d1, ds1, p1, q1, ha1, rfl, rfl, h1, r1⟩ := trodAll_cons r0
  obtain ⟨v2, vs2, d2, ds2, p2, q2, ha2, rfl, rfl, h2, r2⟩ := trodAll_cons r1
  obtain ⟨rfl, rfl, rfl⟩ := trodAll_nil r2
  obtain rfl : args = #[v0, v1, v2] := by cases args; simp_all
  obtain ⟨rfl, rfl⟩ := trodVars_none hV
  obtain ⟨a0, e0, s0⟩ := (RdC.v (rd_sl Try.underlying22 (by kernel_rfl) (rd_u8 Try.underlying5) (fun _ => rfl)) (fun d hd => by rw [Try.underlying22] at hd; cases hd; exact True.intro)) (hval 0 22 v0 rfl rfl) h0
  obtain ⟨a1, e1, s1⟩ := (RdC.v (rd_sl Try.underlying22 (by kernel_rfl) (rd_u8 Try.underlying5) (fun _ => rfl)) (fun d hd => by rw [Try.underlying22] at hd; cases hd; exact True.intro)) (hval 1 22 v1 rfl rfl) h1
  obtain ⟨a2, e2, s2⟩ := (RdC.agg (rd_arr (n := 2) Try.underlying42 (by kernel_rfl) (rd_u16 Try.underlying41)) (fun d hd => by rw [Try.underlying42] at hd; cases hd; exact True.intro) (by kernel_rfl)) (hval 2 42 v2 rfl rfl) h2
  obtain ⟨a20, a21, rfl⟩ : ∃ a20 a21, a2 = [a20, a21] := by
    match a2, (s2).1 with
    | [a20, a21], _ => exact ⟨a20, a21, rfl⟩
  have hm := bursarylaw06_HmacParts_m a0 a1 a20 a21 
  rw [hmacParts_true a0 a1 a20 a21] at hm
  refine (calls_of_meets Try.call7 hm rfl (held) (by simp only [RepL]; exact ⟨v0, _, rfl, e0, ⟨v1, _, rfl, e1, ⟨v2, _, rfl, e2, rfl⟩⟩⟩)).mono ?_
  rintro e W' ⟨v, rfl, hb, ok, β, hr⟩
  simp only [Rep] at hr
  subst hr
  exact ⟨_, rfl, law_post laidOut Try.underlying4 (by kernel_rfl) rfl (fun t ht => by have := List.all_eq_true.1 (show (Try.f7.params.toList.all fun t => Try.prog.readableRec t && decide (t < Try.prog.types.size)) = true by kernel_rfl) t ht; exact ⟨(Bool.and_eq_true_iff.1 this).1, of_decide_eq_true (Bool.and_eq_true_iff.1 this).2⟩) rfl hW' hb⟩
theorem hmacParts_reads (os : Os) {H : Type} (enc : TypeId × Value → H) : ∃ places, DataW.whole enc Try.prog ((laidWorld os).forCall (fun _ _ => 0) ⟨#[], #[.slice none 0 0, .slice none 0 0, .agg #[.int .u16 0, .int .u16 0]], []⟩).memory Try.f7.params.toList Rows.hmacPartsSpec.vars false (#[.slice none 0 0, .slice none 0 0, .agg #[.int .u16 0, .int .u16 0]] : Array Value).toList 8 = some ([.nil, .nil, .agg [.lit (.int .u16 0), .lit (.int .u16 0)]], [], places) :=
  ⟨[], by kernel_rfl⟩
set_option maxRecDepth 100000 in
theorem hmacParts_lifted (os : Os) (started : os.Started) (H : Type) (enc : TypeId × Value → H) (F : Stop.Interp) :
    ReturnsInHanded {} Try.checked os 7 .any ((OpenSpec.ofChange Rows.hmacPartsSpec).preRow enc Try.prog Try.f7 Rows.hmacPartsRow.domain false Rows.hmacPartsRow.laid) (((OpenSpec.ofChange Rows.hmacPartsSpec).at F).post enc Try.prog Try.f7 false true false false) := by
  obtain ⟨places, hx⟩ := hmacParts_reads os enc
  refine returnsInHanded_of_row (C := Try.checked) (s := OpenSpec.ofChange Rows.hmacPartsSpec) own started (by kernel_rfl) Try.func7
    (witness_row_at (enc := enc) (C := Try.checked) false (laidWorld os) #[.slice none 0 0, .slice none 0 0, .agg #[.int .u16 0, .int .u16 0]] rfl (by kernel_rfl) (by kernel_rfl) (by kernel_rfl)
      (OpenSpec.preRow_of_cond 8 hx (by kernel_rfl) (fun k hk => by cases hk) (by kernel_rfl) (laidWorld_met os _))) ?_
  intro W base args ds gs before hval hW _ _ _ hL _ _
  exact hmacParts_contract H enc W base args ds gs before hval hW hL
theorem hmacParts_said : Rows.HmacPartsSaid :=
  OpenClaim.holds_of_cond 7 Try.f7 rfl rfl rfl rfl rfl rfl rfl ⟨rfl, rfl, rfl, rfl, rfl⟩ rfl rfl rfl rfl rfl (by kernel_rfl) Try.func7 (by kernel_rfl)
    (of_decide_eq_true (by kernel_rfl)) (by unfold Func.isWrapper; first | (rw [if_pos (by decide +kernel)]; kernel_rfl) | (rw [if_neg (by decide +kernel)]; exact ⟨rfl, rfl⟩))
    (fun os started H enc _ F => by rw [OpenClaim.pre_eq_preRow]; exact hmacParts_lifted os started H enc F)
#print axioms hmacParts_said
end Go.Proofs.Ytdlnppcndcfikaa

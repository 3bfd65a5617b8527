/- ShaPieces: the row, out of the law's walk and its pure truth: whatever the input, the law answers true, and its input reads as it did. -/
import Derived.Test.YtdlnppcndcfikaaRw0
import Derived.Test.YtdlnppcndcfikaaP3
namespace Go.Proofs.Ytdlnppcndcfikaa
open Go Go.Vw Go.ChangeShapes Go.WideShapes Go.RowKit Go.ChangeAt
set_option maxRecDepth 100000 in
theorem shaPieces_contract (H : Type) (enc : TypeId × Value → H) (W : World) (base : Nat) (args : Array Value) (ds gs : List (DataW H)) (before : List MemPlace) (hval : ∀ (j : Nat) t v, Try.f4.params[j]? = some t → args[j]? = some v → Value.okWide Try.prog W .any base t v)
    (hW : DataW.Whole enc Try.prog Try.f4.params.toList Rows.shaPiecesSpec.vars false W args.toList ds gs before) (hL : laidMetH Try.prog Rows.shaPiecesRow.laid W) :
    Calls Try.prog 4 args W fun e W' => ∃ v, e = .returned v ∧ Rows.shaPiecesSpec.post enc Try.prog Try.f4 false true false false W args v W' := by
  have hW' := hW
  obtain ⟨p, q, hA0, hV, rfl, hfz, hnd⟩ := hW
  have hA : DataW.TrodAll enc Try.prog W 0 (fun _ => true) true Try.f4.params.toList args.toList ds p := hA0
  rw [Try.params4] at hA hval
  obtain ⟨v0, vs0, d0, ds0, p0, q0, ha0, rfl, rfl, h0, r0⟩ := trodAll_cons hA
  obtain ⟨v1, vs1, d1, ds1, p1, q1, ha1, rfl, rfl, h1, r1⟩ := trodAll_cons r0
  obtain ⟨rfl, rfl, rfl⟩ := trodAll_nil r1
  obtain rfl : args = #[v0, v1] := by cases args; simp_all
  obtain ⟨rfl, rfl⟩ := trodVars_none hV
  obtain ⟨a0, e0, s0⟩ := (RdC.v (rd_sl Try.underlying32 (by kernel_rfl) (rd_sl Try.underlying22 (by kernel_rfl) (rd_u8 Try.underlying5) (fun _ => rfl)) (fun _ => rfl)) (fun d hd => by rw [Try.underlying32] at hd; cases hd; exact True.intro)) (hval 0 32 v0 rfl rfl) h0
  obtain ⟨a1, e1, s1⟩ := (RdC.v (rd_i64 Try.underlying3) (fun d hd => by rw [Try.underlying3] at hd; cases hd; exact True.intro)) (hval 1 3 v1 rfl rfl) h1
  have hm := bursarylaw05_ShaPieces_m (g_a0 := .shr) a0 a1 
  rw [shaPieces_true a0 a1] at hm
  refine (calls_of_meets Try.call4 hm rfl (held) (by simp only [RepL]; exact ⟨v0, _, rfl, e0, ⟨v1, _, rfl, e1, rfl⟩⟩)).mono ?_
  rintro e W' ⟨v, rfl, hb, ok, β, hr⟩
  simp only [Rep] at hr
  subst hr
  exact ⟨_, rfl, law_post laidOut Try.underlying4 (by kernel_rfl) rfl (fun t ht => by have := List.all_eq_true.1 (show (Try.f4.params.toList.all fun t => Try.prog.readableRec t && decide (t < Try.prog.types.size)) = true by kernel_rfl) t ht; exact ⟨(Bool.and_eq_true_iff.1 this).1, of_decide_eq_true (Bool.and_eq_true_iff.1 this).2⟩) rfl hW' hb⟩
theorem shaPieces_reads (os : Os) {H : Type} (enc : TypeId × Value → H) : ∃ places, DataW.whole enc Try.prog ((laidWorld os).forCall (fun _ _ => 0) ⟨#[], #[.slice none 0 0, .int .i64 0], []⟩).memory Try.f4.params.toList Rows.shaPiecesSpec.vars false (#[.slice none 0 0, .int .i64 0] : Array Value).toList 8 = some ([.nil, .lit (.int .i64 0)], [], places) :=
  ⟨[], by kernel_rfl⟩
set_option maxRecDepth 100000 in
theorem shaPieces_lifted (os : Os) (started : os.Started) (H : Type) (enc : TypeId × Value → H) (F : Stop.Interp) :
    ReturnsInHanded {} Try.checked os 4 .any ((OpenSpec.ofChange Rows.shaPiecesSpec).preRow enc Try.prog Try.f4 Rows.shaPiecesRow.domain false Rows.shaPiecesRow.laid) (((OpenSpec.ofChange Rows.shaPiecesSpec).at F).post enc Try.prog Try.f4 false true false false) := by
  obtain ⟨places, hx⟩ := shaPieces_reads os enc
  refine returnsInHanded_of_row (C := Try.checked) (s := OpenSpec.ofChange Rows.shaPiecesSpec) own started (by kernel_rfl) Try.func4
    (witness_row_at (enc := enc) (C := Try.checked) false (laidWorld os) #[.slice none 0 0, .int .i64 0] rfl (by kernel_rfl) (by kernel_rfl) (by kernel_rfl)
      (OpenSpec.preRow_of_cond 8 hx (by kernel_rfl) (fun k hk => by cases hk) (by kernel_rfl) (laidWorld_met os _))) ?_
  intro W base args ds gs before hval hW _ _ _ hL _ _
  exact shaPieces_contract H enc W base args ds gs before hval hW hL
theorem shaPieces_said : Rows.ShaPiecesSaid :=
  OpenClaim.holds_of_cond 4 Try.f4 rfl rfl rfl rfl rfl rfl rfl ⟨rfl, rfl, rfl, rfl, rfl⟩ rfl rfl rfl rfl rfl (by kernel_rfl) Try.func4 (by kernel_rfl)
    (of_decide_eq_true (by kernel_rfl)) (by unfold Func.isWrapper; first | (rw [if_pos (by decide +kernel)]; kernel_rfl) | (rw [if_neg (by decide +kernel)]; exact ⟨rfl, rfl⟩))
    (fun os started H enc _ F => by rw [OpenClaim.pre_eq_preRow]; exact shaPieces_lifted os started H enc F)
#print axioms shaPieces_said
end Go.Proofs.Ytdlnppcndcfikaa

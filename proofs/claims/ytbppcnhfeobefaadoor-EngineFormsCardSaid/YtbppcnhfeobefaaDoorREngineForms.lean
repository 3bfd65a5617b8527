import Derived.Test.YtbppcnhfeobefaaDoorRw0
import Derived.Test.YtbppcnhfeobefaaDoorEnVx8
import Derived.Test.YtbppcnhfeobefaaDoorPF4
import Derived.Test.YtbppcnhfeobefaaDoorG8
set_option linter.unusedVariables false
set_option linter.unusedSimpArgs false
namespace Go.Proofs.YtbppcnhfeobefaaDoor
open Go Go.Vw Go.ChangeShapes Go.WideShapes Go.RowKit Go.ChangeAt
set_option maxRecDepth 100000 in
theorem engineForms_contract (H : Type) (enc : TypeId × Value → H) (W : World) (base : Nat) (args : Array Value) (ds gs : List (DataW H)) (before : List MemPlace) (hval : ∀ (j : Nat) t v, Tryd.f9.params[j]? = some t → args[j]? = some v → Value.okWide Tryd.prog W .any base t v)
    (hW : DataW.Whole enc Tryd.prog Tryd.f9.params.toList Rows.engineFormsSpec.vars false W args.toList ds gs before) (hL : laidMetH Tryd.prog Rows.engineFormsRow.laid W) :
    Calls Tryd.prog 9 args W fun e W' => ∃ v, e = .returned v ∧ Rows.engineFormsSpec.post enc Tryd.prog Tryd.f9 false true false false W args v W' := by
  have hW' := hW
  obtain ⟨p, q, hA0, hV, rfl, hfz, hnd⟩ := hW
  have hA : DataW.TrodAll enc Tryd.prog W 0 (fun _ => true) true Tryd.f9.params.toList args.toList ds p := hA0
  rw [Tryd.params9] at hA hval
  obtain ⟨v0, vs0, d0, ds0, p0, q0, ha0, rfl, rfl, h0, r0⟩ := trodAll_cons hA
  obtain ⟨v1, vs1, d1, ds1, p1, q1, ha1, rfl, rfl, h1, r1⟩ := trodAll_cons r0
  obtain ⟨rfl, rfl, rfl⟩ := trodAll_nil r1
  obtain rfl : args = #[v0, v1] := by cases args; simp_all
  obtain ⟨rfl, rfl⟩ := trodVars_none hV
  obtain ⟨⟨a00, a01, a02⟩, e0, s0⟩ := (RdC.agg (rd_struct (tot := 3) Tryd.underlying63 (by kernel_rfl) (rdF_cons (rd_slF (m := 4) Tryd.underlying60 (by kernel_rfl) (by decide) (rd_struct (tot := 4) Tryd.underlying82 (by kernel_rfl) (rdF_cons (rd_u32 Tryd.underlying61) (by kernel_rfl) (rdF_cons (rd_sl Tryd.underlying22 (by kernel_rfl) (rd_u8 Tryd.underlying5) (fun _ => rfl)) (by kernel_rfl) (rdF_cons (rd_u64 Tryd.underlying64) (by kernel_rfl) (rdF_one (rd_i64 Tryd.underlying3) (by kernel_rfl)))))) (fun _ => rfl) (fun _ => rfl)) (by kernel_rfl) (rdF_cons (rd_u32 Tryd.underlying61) (by kernel_rfl) (rdF_one (rd_i64 Tryd.underlying3) (by kernel_rfl))))) (fun d hd => by rw [Tryd.underlying63] at hd; cases hd; exact True.intro) (by kernel_rfl)) (hval 0 63 v0 rfl rfl) h0
  obtain ⟨a1, e1, s1⟩ := (RdC.v (rd_sl Tryd.underlying22 (by kernel_rfl) (rd_u8 Tryd.underlying5) (fun _ => rfl)) (fun d hd => by rw [Tryd.underlying22] at hd; cases hd; exact True.intro)) (hval 1 22 v1 rfl rfl) h1
  have hm := bursarylaw30_EngineForms_m a00 a01 a02 a1 
  rw [forms30_true a00 a01 a02 a1] at hm
  refine (calls_of_meets Tryd.call9 hm rfl (held hL) (by simp only [RepL]; exact ⟨v0, _, rfl, e0, ⟨v1, _, rfl, e1, rfl⟩⟩)).mono ?_
  rintro e W' ⟨v, rfl, hb, ok, β, hr⟩
  simp only [Rep] at hr
  subst hr
  exact ⟨_, rfl, law_post laidOut Tryd.underlying4 (by kernel_rfl) rfl (fun t ht => by have := List.all_eq_true.1 (show (Tryd.f9.params.toList.all fun t => Tryd.prog.readableRec t && decide (t < Tryd.prog.types.size)) = true by kernel_rfl) t ht; exact ⟨(Bool.and_eq_true_iff.1 this).1, of_decide_eq_true (Bool.and_eq_true_iff.1 this).2⟩) rfl hW' hb⟩
abbrev engineForms_args : Array Value := #[.agg #[.slice none 0 0, .int .u32 0, .int .i64 0], .slice none 0 0]
theorem engineForms_reads (os : Os) {H : Type} (enc : TypeId × Value → H) : ∃ places, DataW.whole enc Tryd.prog ((laidWorld os).forCall (fun _ _ => 0) ⟨#[], engineForms_args, []⟩).memory Tryd.f9.params.toList Rows.engineFormsSpec.vars false (engineForms_args : Array Value).toList 8 = some ([.agg [.nil, .lit (.int .u32 0), .lit (.int .i64 0)], .nil], [], places) :=
  ⟨[], by kernel_rfl⟩
set_option maxRecDepth 100000 in
theorem engineForms_lifted (os : Os) (started : os.Started) (H : Type) (enc : TypeId × Value → H) (F : Stop.Interp) :
    ReturnsInHanded {} Tryd.checked os 9 .any ((OpenSpec.ofChange Rows.engineFormsSpec).preRow enc Tryd.prog Tryd.f9 Rows.engineFormsRow.domain false Rows.engineFormsRow.laid) (((OpenSpec.ofChange Rows.engineFormsSpec).at F).post enc Tryd.prog Tryd.f9 false true false false) := by
  obtain ⟨places, hx⟩ := engineForms_reads os enc
  refine returnsInHanded_of_row (C := Tryd.checked) (s := OpenSpec.ofChange Rows.engineFormsSpec) own started (by kernel_rfl) Tryd.func9
    (witness_row_at (enc := enc) (C := Tryd.checked) false (laidWorld os) engineForms_args rfl (by kernel_rfl) (by kernel_rfl) (by kernel_rfl)
      (OpenSpec.preRow_of_cond 8 hx (by kernel_rfl) (fun k hk => by cases hk) (by kernel_rfl) (laidWorld_met os _))) ?_
  intro W base args ds gs before hval hW _ _ _ hL _ _
  exact engineForms_contract H enc W base args ds gs before hval hW hL
theorem engineForms_said : Rows.EngineFormsSaid :=
  OpenClaim.holds_of_cond 9 Tryd.f9 rfl rfl rfl rfl rfl rfl rfl ⟨rfl, rfl, rfl, rfl, rfl⟩ rfl rfl rfl rfl rfl (by kernel_rfl) Tryd.func9 (by kernel_rfl)
    (of_decide_eq_true (by kernel_rfl)) (by unfold Func.isWrapper; first | (rw [if_pos (by decide +kernel)]; kernel_rfl) | (rw [if_neg (by decide +kernel)]; exact ⟨rfl, rfl⟩))
    (fun os started H enc _ F => by rw [OpenClaim.pre_eq_preRow]; exact engineForms_lifted os started H enc F)
theorem engineForms_plain (f : FuncId) (fn : Func) (hf : Tryd.pinned.checked.prog.funcNamed "bursary/bursarylaw30.EngineForms" = some f) (hfn : Tryd.pinned.checked.prog.funcs[f]? = some fn) :
    true = Tryd.pinned.checked.prog.looks [] ∧ ∀ (j : Nat) t, fn.params[j]? = some t → Tryd.pinned.checked.prog.wantsStandIn t = false := by
  obtain rfl : f = 9 := Option.some.inj ((show Tryd.prog.funcNamed "bursary/bursarylaw30.EngineForms" = some 9 by kernel_rfl).symm.trans hf) |>.symm
  obtain rfl : fn = Tryd.f9 := (Option.some.inj (Tryd.func9.symm.trans hfn)).symm
  refine ⟨by kernel_rfl, fun j t ht => ?_⟩
  have hm : t ∈ Tryd.f9.params.toList := Array.mem_toList_iff.2 (Array.mem_of_getElem? ht)
  show Tryd.prog.wantsStandIn t = false
  have := List.all_eq_true.1 (show (Tryd.f9.params.toList.all fun t => !Tryd.prog.wantsStandIn t) = true by kernel_rfl) t hm
  cases hq : Tryd.prog.wantsStandIn t with
  | false => rfl
  | true => rw [hq] at this; cases this
theorem engineForms_card : Rows.EngineFormsCardSaid :=
  Claim7.holds_tied_plain_at .later [] _ _ _ _ engineForms_said (fun _ h => by cases h) (by kernel_rfl) (fun _ h => by cases h) engineForms_row_tie rfl ⟨rfl, rfl⟩ (by kernel_rfl) rfl engineForms_plain (by kernel_rfl)
#print axioms engineForms_card
end Go.Proofs.YtbppcnhfeobefaaDoor

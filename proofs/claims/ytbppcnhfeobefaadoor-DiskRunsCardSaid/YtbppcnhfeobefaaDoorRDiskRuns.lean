import Derived.Test.YtbppcnhfeobefaaDoorRw0
import Derived.Test.YtbppcnhfeobefaaDoorEnVx8
import Derived.Test.YtbppcnhfeobefaaDoorPD7
set_option linter.unusedVariables false
set_option linter.unusedSimpArgs false
namespace Go.Proofs.YtbppcnhfeobefaaDoor
open Go Go.Vw Go.ChangeShapes Go.WideShapes Go.RowKit Go.ChangeAt
set_option maxRecDepth 100000 in
theorem diskRuns_contract (H : Type) (enc : TypeId × Value → H) (W : World) (base : Nat) (args : Array Value) (ds gs : List (DataW H)) (before : List MemPlace) (hval : ∀ (j : Nat) t v, Tryd.f5.params[j]? = some t → args[j]? = some v → Value.okWide Tryd.prog W .any base t v)
    (hW : DataW.Whole enc Tryd.prog Tryd.f5.params.toList Rows.diskRunsSpec.vars false W args.toList ds gs before) (hL : laidMetH Tryd.prog Rows.diskRunsRow.laid W) :
    Calls Tryd.prog 5 args W fun e W' => ∃ v, e = .returned v ∧ Rows.diskRunsSpec.post enc Tryd.prog Tryd.f5 false true false false W args v W' := by
  have hW' := hW
  obtain ⟨p, q, hA0, hV, rfl, hfz, hnd⟩ := hW
  have hA : DataW.TrodAll enc Tryd.prog W 0 (fun _ => true) true Tryd.f5.params.toList args.toList ds p := hA0
  rw [Tryd.params5] at hA hval
  obtain ⟨v0, vs0, d0, ds0, p0, q0, ha0, rfl, rfl, h0, r0⟩ := trodAll_cons hA
  obtain ⟨v1, vs1, d1, ds1, p1, q1, ha1, rfl, rfl, h1, r1⟩ := trodAll_cons r0
  obtain ⟨rfl, rfl, rfl⟩ := trodAll_nil r1
  obtain rfl : args = #[v0, v1] := by cases args; simp_all
  obtain ⟨rfl, rfl⟩ := trodVars_none hV
  obtain ⟨a0, e0, s0⟩ := (RdC.v (rd_i64 Tryd.underlying3) (fun d hd => by rw [Tryd.underlying3] at hd; cases hd; exact True.intro)) (hval 0 3 v0 rfl rfl) h0
  obtain ⟨a1, e1, s1⟩ := (RdC.v (rd_slF (m := 4) Tryd.underlying41 (by kernel_rfl) (by decide) (rd_struct (tot := 4) Tryd.underlying50 (by kernel_rfl) (rdF_cons (rd_i64 Tryd.underlying3) (by kernel_rfl) (rdF_cons (rd_i64 Tryd.underlying3) (by kernel_rfl) (rdF_cons (rd_sl Tryd.underlying22 (by kernel_rfl) (rd_u8 Tryd.underlying5) (fun _ => rfl)) (by kernel_rfl) (rdF_one (rd_sl Tryd.underlying23 (by kernel_rfl) (rd_bool Tryd.underlying4) (fun _ => rfl)) (by kernel_rfl)))))) (fun _ => rfl) (fun _ => rfl)) (fun d hd => by rw [Tryd.underlying41] at hd; cases hd; exact True.intro)) (hval 1 41 v1 rfl rfl) h1
  have hm := bursarylaw13_DiskRuns_m a0 a1 (runs_hN s1)
  rw [runs_true a0 a1] at hm
  refine (calls_of_meets Tryd.call5 hm rfl (held hL) (by simp only [RepL]; exact ⟨v0, _, rfl, e0, ⟨v1, _, rfl, e1, rfl⟩⟩)).mono ?_
  rintro e W' ⟨v, rfl, hb, ok, β, hr⟩
  simp only [Rep] at hr
  subst hr
  exact ⟨_, rfl, law_post laidOut Tryd.underlying4 (by kernel_rfl) rfl (fun t ht => by have := List.all_eq_true.1 (show (Tryd.f5.params.toList.all fun t => Tryd.prog.readableRec t && decide (t < Tryd.prog.types.size)) = true by kernel_rfl) t ht; exact ⟨(Bool.and_eq_true_iff.1 this).1, of_decide_eq_true (Bool.and_eq_true_iff.1 this).2⟩) rfl hW' hb⟩
abbrev diskRuns_args : Array Value := #[.int .i64 0, .slice none 0 0]
theorem diskRuns_reads (os : Os) {H : Type} (enc : TypeId × Value → H) : ∃ places, DataW.whole enc Tryd.prog ((laidWorld os).forCall (fun _ _ => 0) ⟨#[], diskRuns_args, []⟩).memory Tryd.f5.params.toList Rows.diskRunsSpec.vars false (diskRuns_args : Array Value).toList 8 = some ([.lit (.int .i64 0), .nil], [], places) :=
  ⟨[], by kernel_rfl⟩
set_option maxRecDepth 100000 in
theorem diskRuns_lifted (os : Os) (started : os.Started) (H : Type) (enc : TypeId × Value → H) (F : Stop.Interp) :
    ReturnsInHanded {} Tryd.checked os 5 .any ((OpenSpec.ofChange Rows.diskRunsSpec).preRow enc Tryd.prog Tryd.f5 Rows.diskRunsRow.domain false Rows.diskRunsRow.laid) (((OpenSpec.ofChange Rows.diskRunsSpec).at F).post enc Tryd.prog Tryd.f5 false true false false) := by
  obtain ⟨places, hx⟩ := diskRuns_reads os enc
  refine returnsInHanded_of_row (C := Tryd.checked) (s := OpenSpec.ofChange Rows.diskRunsSpec) own started (by kernel_rfl) Tryd.func5
    (witness_row_at (enc := enc) (C := Tryd.checked) false (laidWorld os) diskRuns_args rfl (by kernel_rfl) (by kernel_rfl) (by kernel_rfl)
      (OpenSpec.preRow_of_cond 8 hx (by kernel_rfl) (fun k hk => by cases hk) (by kernel_rfl) (laidWorld_met os _))) ?_
  intro W base args ds gs before hval hW _ _ _ hL _ _
  exact diskRuns_contract H enc W base args ds gs before hval hW hL
theorem diskRuns_said : Rows.DiskRunsSaid :=
  OpenClaim.holds_of_cond 5 Tryd.f5 rfl rfl rfl rfl rfl rfl rfl ⟨rfl, rfl, rfl, rfl, rfl⟩ rfl rfl rfl rfl rfl (by kernel_rfl) Tryd.func5 (by kernel_rfl)
    (of_decide_eq_true (by kernel_rfl)) (by unfold Func.isWrapper; first | (rw [if_pos (by decide +kernel)]; kernel_rfl) | (rw [if_neg (by decide +kernel)]; exact ⟨rfl, rfl⟩))
    (fun os started H enc _ F => by rw [OpenClaim.pre_eq_preRow]; exact diskRuns_lifted os started H enc F)
theorem diskRuns_plain (f : FuncId) (fn : Func) (hf : Tryd.pinned.checked.prog.funcNamed "bursary/bursarylaw13.DiskRuns" = some f) (hfn : Tryd.pinned.checked.prog.funcs[f]? = some fn) :
    true = Tryd.pinned.checked.prog.looks [] ∧ ∀ (j : Nat) t, fn.params[j]? = some t → Tryd.pinned.checked.prog.wantsStandIn t = false := by
  obtain rfl : f = 5 := Option.some.inj ((show Tryd.prog.funcNamed "bursary/bursarylaw13.DiskRuns" = some 5 by kernel_rfl).symm.trans hf) |>.symm
  obtain rfl : fn = Tryd.f5 := (Option.some.inj (Tryd.func5.symm.trans hfn)).symm
  refine ⟨by kernel_rfl, fun j t ht => ?_⟩
  have hm : t ∈ Tryd.f5.params.toList := Array.mem_toList_iff.2 (Array.mem_of_getElem? ht)
  show Tryd.prog.wantsStandIn t = false
  have := List.all_eq_true.1 (show (Tryd.f5.params.toList.all fun t => !Tryd.prog.wantsStandIn t) = true by kernel_rfl) t hm
  cases hq : Tryd.prog.wantsStandIn t with
  | false => rfl
  | true => rw [hq] at this; cases this
theorem diskRuns_card : Rows.DiskRunsCardSaid :=
  Claim7.holds_tied_plain_at .later [] _ _ _ _ diskRuns_said (fun _ h => by cases h) (by kernel_rfl) (fun _ h => by cases h) diskRuns_row_tie rfl ⟨rfl, rfl⟩ (by kernel_rfl) rfl diskRuns_plain (by kernel_rfl)
#print axioms diskRuns_card
end Go.Proofs.YtbppcnhfeobefaaDoor

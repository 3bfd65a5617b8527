import Derived.Test.YtbppcnhfeobefaaDoorRw0
import Derived.Test.YtbppcnhfeobefaaDoorEnVx8
import Derived.Test.YtbppcnhfeobefaaDoorPF5
set_option linter.unusedVariables false
set_option linter.unusedSimpArgs false
namespace Go.Proofs.YtbppcnhfeobefaaDoor
open Go Go.Vw Go.ChangeShapes Go.WideShapes Go.RowKit Go.ChangeAt
set_option maxRecDepth 100000 in
theorem engineCas_contract (H : Type) (enc : TypeId × Value → H) (W : World) (base : Nat) (args : Array Value) (ds gs : List (DataW H)) (before : List MemPlace) (hval : ∀ (j : Nat) t v, Tryd.f6.params[j]? = some t → args[j]? = some v → Value.okWide Tryd.prog W .any base t v)
    (hW : DataW.Whole enc Tryd.prog Tryd.f6.params.toList Rows.engineCasSpec.vars false W args.toList ds gs before) (hL : laidMetH Tryd.prog Rows.engineCasRow.laid W) (hz : (DataW.weightsEach Tryd.prog (Tryd.f6.params.toList ++ (OpenSpec.ofChange Rows.engineCasSpec).bare.plain.varTypes Tryd.prog) (ds ++ gs)).all (· ≤ reachBytes) = true) :
    Calls Tryd.prog 6 args W fun e W' => ∃ v, e = .returned v ∧ Rows.engineCasSpec.post enc Tryd.prog Tryd.f6 false true false false W args v W' := by
  have hW' := hW
  obtain ⟨p, q, hA0, hV, rfl, hfz, hnd⟩ := hW
  have hA : DataW.TrodAll enc Tryd.prog W 0 (fun _ => true) true Tryd.f6.params.toList args.toList ds p := hA0
  rw [Tryd.params6] at hA hval
  obtain ⟨v0, vs0, d0, ds0, p0, q0, ha0, rfl, rfl, h0, r0⟩ := trodAll_cons hA
  obtain ⟨v1, vs1, d1, ds1, p1, q1, ha1, rfl, rfl, h1, r1⟩ := trodAll_cons r0
  obtain ⟨v2, vs2, d2, ds2, p2, q2, ha2, rfl, rfl, h2, r2⟩ := trodAll_cons r1
  obtain ⟨rfl, rfl, rfl⟩ := trodAll_nil r2
  obtain rfl : args = #[v0, v1, v2] := by cases args; simp_all
  obtain ⟨rfl, rfl⟩ := trodVars_none hV
  obtain ⟨⟨a00, a01, a02⟩, e0, s0⟩ := (RdC.agg (rd_struct (tot := 3) Tryd.underlying63 (by kernel_rfl) (rdF_cons (rd_slF (m := 4) Tryd.underlying60 (by kernel_rfl) (by decide) (rd_struct (tot := 4) Tryd.underlying82 (by kernel_rfl) (rdF_cons (rd_u32 Tryd.underlying61) (by kernel_rfl) (rdF_cons (rd_sl Tryd.underlying22 (by kernel_rfl) (rd_u8 Tryd.underlying5) (fun _ => rfl)) (by kernel_rfl) (rdF_cons (rd_u64 Tryd.underlying64) (by kernel_rfl) (rdF_one (rd_i64 Tryd.underlying3) (by kernel_rfl)))))) (fun _ => rfl) (fun _ => rfl)) (by kernel_rfl) (rdF_cons (rd_u32 Tryd.underlying61) (by kernel_rfl) (rdF_one (rd_i64 Tryd.underlying3) (by kernel_rfl))))) (fun d hd => by rw [Tryd.underlying63] at hd; cases hd; exact True.intro) (by kernel_rfl)) (hval 0 63 v0 rfl rfl) h0
  obtain ⟨⟨a10, a11, a12, a13⟩, e1, s1⟩ := (RdC.agg (rd_struct (tot := 4) Tryd.underlying66 (by kernel_rfl) (rdF_cons (rd_sl Tryd.underlying22 (by kernel_rfl) (rd_u8 Tryd.underlying5) (fun _ => rfl)) (by kernel_rfl) (rdF_cons (rd_i64 Tryd.underlying3) (by kernel_rfl) (rdF_cons (rd_u32 Tryd.underlying61) (by kernel_rfl) (rdF_one (rd_u64 Tryd.underlying64) (by kernel_rfl)))))) (fun d hd => by rw [Tryd.underlying66] at hd; cases hd; exact True.intro) (by kernel_rfl)) (hval 1 66 v1 rfl rfl) h1
  obtain ⟨⟨a20, a21, a22, a23⟩, e2, s2⟩ := (RdC.agg (rd_struct (tot := 4) Tryd.underlying66 (by kernel_rfl) (rdF_cons (rd_sl Tryd.underlying22 (by kernel_rfl) (rd_u8 Tryd.underlying5) (fun _ => rfl)) (by kernel_rfl) (rdF_cons (rd_i64 Tryd.underlying3) (by kernel_rfl) (rdF_cons (rd_u32 Tryd.underlying61) (by kernel_rfl) (rdF_one (rd_u64 Tryd.underlying64) (by kernel_rfl)))))) (fun d hd => by rw [Tryd.underlying66] at hd; cases hd; exact True.intro) (by kernel_rfl)) (hval 2 66 v2 rfl rfl) h2
  have hz48 : a00.length * 48 ≤ 140737488355328 := by
    have hq := sl_lenF (P := Tryd.prog) (f0 := _) Tryd.underlying63 rfl rfl (by kernel_rfl) Tryd.underlying60 e0 h0 (List.all_eq_true.2 fun n hn => List.all_eq_true.1 hz _ (DataW.weights_mem_each (j := 0) (by kernel_rfl) (by rfl) n hn))
    rwa [show Tryd.prog.bytesOf 82 = 48 from by kernel_rfl] at hq
  have hm := bursarylaw30_EngineCas_m a00 a01 a02 a10 a11 a12 a13 a20 a21 a22 a23 hz48
  rw [cas_true a00 a01 a02 a10 a11 a12 a13 a20 a21 a22 a23] at hm
  refine (calls_of_meets Tryd.call6 hm rfl (held hL) (by simp only [RepL]; exact ⟨v0, _, rfl, e0, ⟨v1, _, rfl, e1, ⟨v2, _, rfl, e2, rfl⟩⟩⟩)).mono ?_
  rintro e W' ⟨v, rfl, hb, ok, β, hr⟩
  simp only [Rep] at hr
  subst hr
  exact ⟨_, rfl, law_post laidOut Tryd.underlying4 (by kernel_rfl) rfl (fun t ht => by have := List.all_eq_true.1 (show (Tryd.f6.params.toList.all fun t => Tryd.prog.readableRec t && decide (t < Tryd.prog.types.size)) = true by kernel_rfl) t ht; exact ⟨(Bool.and_eq_true_iff.1 this).1, of_decide_eq_true (Bool.and_eq_true_iff.1 this).2⟩) rfl hW' hb⟩
abbrev engineCas_args : Array Value := #[.agg #[.slice none 0 0, .int .u32 0, .int .i64 0], .agg #[.slice none 0 0, .int .i64 0, .int .u32 0, .int .u64 0], .agg #[.slice none 0 0, .int .i64 0, .int .u32 0, .int .u64 0]]
theorem engineCas_reads (os : Os) {H : Type} (enc : TypeId × Value → H) : ∃ places, DataW.whole enc Tryd.prog ((laidWorld os).forCall (fun _ _ => 0) ⟨#[], engineCas_args, []⟩).memory Tryd.f6.params.toList Rows.engineCasSpec.vars false (engineCas_args : Array Value).toList 8 = some ([.agg [.nil, .lit (.int .u32 0), .lit (.int .i64 0)], .agg [.nil, .lit (.int .i64 0), .lit (.int .u32 0), .lit (.int .u64 0)], .agg [.nil, .lit (.int .i64 0), .lit (.int .u32 0), .lit (.int .u64 0)]], [], places) :=
  ⟨[], by kernel_rfl⟩
set_option maxRecDepth 100000 in
theorem engineCas_lifted (os : Os) (started : os.Started) (H : Type) (enc : TypeId × Value → H) (F : Stop.Interp) :
    ReturnsInHanded {} Tryd.checked os 6 .any ((OpenSpec.ofChange Rows.engineCasSpec).preRow enc Tryd.prog Tryd.f6 Rows.engineCasRow.domain false Rows.engineCasRow.laid) (((OpenSpec.ofChange Rows.engineCasSpec).at F).post enc Tryd.prog Tryd.f6 false true false false) := by
  obtain ⟨places, hx⟩ := engineCas_reads os enc
  refine returnsInHanded_of_row (C := Tryd.checked) (s := OpenSpec.ofChange Rows.engineCasSpec) own started (by kernel_rfl) Tryd.func6
    (witness_row_at (enc := enc) (C := Tryd.checked) false (laidWorld os) engineCas_args rfl (by kernel_rfl) (by kernel_rfl) (by kernel_rfl)
      (OpenSpec.preRow_of_cond 8 hx (by kernel_rfl) (fun k hk => by cases hk) (by kernel_rfl) (laidWorld_met os _))) ?_
  intro W base args ds gs before hval hW _ _ hz hL _ _
  exact engineCas_contract H enc W base args ds gs before hval hW hL hz
theorem engineCas_said : Rows.EngineCasSaid :=
  OpenClaim.holds_of_cond 6 Tryd.f6 rfl rfl rfl rfl rfl rfl rfl ⟨rfl, rfl, rfl, rfl, rfl⟩ rfl rfl rfl rfl rfl (by kernel_rfl) Tryd.func6 (by kernel_rfl)
    (of_decide_eq_true (by kernel_rfl)) (by unfold Func.isWrapper; first | (rw [if_pos (by decide +kernel)]; kernel_rfl) | (rw [if_neg (by decide +kernel)]; exact ⟨rfl, rfl⟩))
    (fun os started H enc _ F => by rw [OpenClaim.pre_eq_preRow]; exact engineCas_lifted os started H enc F)
theorem engineCas_plain (f : FuncId) (fn : Func) (hf : Tryd.pinned.checked.prog.funcNamed "bursary/bursarylaw30.EngineCas" = some f) (hfn : Tryd.pinned.checked.prog.funcs[f]? = some fn) :
    true = Tryd.pinned.checked.prog.looks [] ∧ ∀ (j : Nat) t, fn.params[j]? = some t → Tryd.pinned.checked.prog.wantsStandIn t = false := by
  obtain rfl : f = 6 := Option.some.inj ((show Tryd.prog.funcNamed "bursary/bursarylaw30.EngineCas" = some 6 by kernel_rfl).symm.trans hf) |>.symm
  obtain rfl : fn = Tryd.f6 := (Option.some.inj (Tryd.func6.symm.trans hfn)).symm
  refine ⟨by kernel_rfl, fun j t ht => ?_⟩
  have hm : t ∈ Tryd.f6.params.toList := Array.mem_toList_iff.2 (Array.mem_of_getElem? ht)
  show Tryd.prog.wantsStandIn t = false
  have := List.all_eq_true.1 (show (Tryd.f6.params.toList.all fun t => !Tryd.prog.wantsStandIn t) = true by kernel_rfl) t hm
  cases hq : Tryd.prog.wantsStandIn t with
  | false => rfl
  | true => rw [hq] at this; cases this
theorem engineCas_card : Rows.EngineCasCardSaid :=
  Claim7.holds_tied_plain_at .later [] _ _ _ _ engineCas_said (fun _ h => by cases h) (by kernel_rfl) (fun _ h => by cases h) engineCas_row_tie rfl ⟨rfl, rfl⟩ (by kernel_rfl) rfl engineCas_plain (by kernel_rfl)
#print axioms engineCas_card
end Go.Proofs.YtbppcnhfeobefaaDoor

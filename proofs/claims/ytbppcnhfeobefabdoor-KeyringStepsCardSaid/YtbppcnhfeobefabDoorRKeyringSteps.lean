import Derived.Test.YtbppcnhfeobefabDoorRw0
import Derived.Test.YtbppcnhfeobefabDoorEnVx8
import Derived.Test.YtbppcnhfeobefabDoorPK7
set_option linter.unusedVariables false
namespace Go.Proofs.YtbppcnhfeobefabDoor
open Go Go.Vw Go.ChangeShapes Go.WideShapes Go.RowKit Go.ChangeAt
set_option maxRecDepth 100000 in
theorem keyringSteps_contract (H : Type) (enc : TypeId × Value → H) (W : World) (base : Nat) (args : Array Value) (ds gs : List (DataW H)) (before : List MemPlace) (hval : ∀ (j : Nat) t v, Tryd.f8.params[j]? = some t → args[j]? = some v → Value.okWide Tryd.prog W .any base t v)
  (hW : DataW.Whole enc Tryd.prog Tryd.f8.params.toList Rows.keyringStepsSpec.vars false W args.toList ds gs before) (hL : laidMetH Tryd.prog Rows.keyringStepsRow.laid W) :
  Calls Tryd.prog 8 args W fun e W' => ∃ v, e = .returned v ∧ Rows.keyringStepsSpec.post enc Tryd.prog Tryd.f8 false true false false W args v W' := by
 have hW' := hW
 obtain ⟨p, q, hA0, hV, rfl, hfz, hnd⟩ := hW
 have hA : DataW.TrodAll enc Tryd.prog W 0 (fun _ => true) true Tryd.f8.params.toList args.toList ds p := hA0
 rw [Tryd.params8] at hA hval
 obtain ⟨v0, vs0, d0, ds0, p0, q0, ha0, rfl, rfl, h0, r0⟩ := trodAll_cons hA
 obtain ⟨v1, vs1, d1, ds1, p1, q1, ha1, rfl, rfl, h1, r1⟩ := trodAll_cons r0
 obtain ⟨v2, vs2, d2, ds2, p2, q2, ha2, rfl, rfl, h2, r2⟩ := trodAll_cons r1
 obtain ⟨rfl, rfl, rfl⟩ := trodAll_nil r2
 obtain rfl : args = #[v0, v1, v2] := by cases args; simp_all
 obtain ⟨rfl, rfl⟩ := trodVars_none hV
 obtain ⟨a0, e0, s0⟩ := (RdC.v (rd_slF (m := 33) Tryd.underlying80 (by kernel_rfl) (by decide) (rd_struct (tot := 33) Tryd.underlying98 (by kernel_rfl) (rdF_cons (rd_u32 Tryd.underlying81) (by kernel_rfl) (rdF_one (rd_arrF (n := 32) Tryd.underlying74 (by kernel_rfl) Tryd.underlying5) (by kernel_rfl)))) (fun _ => rfl) (fun _ => rfl)) (fun d hd => by rw [Tryd.underlying80] at hd; cases hd; exact True.intro)) (hval 0 80 v0 rfl rfl) h0
 obtain ⟨a1, e1, s1⟩ := (RdC.v (rd_sl Tryd.underlying36 (by kernel_rfl) (rd_u8 Tryd.underlying5) (fun _ => rfl)) (fun d hd => by rw [Tryd.underlying36] at hd; cases hd; exact True.intro)) (hval 1 36 v1 rfl rfl) h1
 obtain ⟨⟨a20, a21, a22⟩, e2, s2⟩ := (RdC.agg (rd_struct (tot := 34) Tryd.underlying83 (by kernel_rfl) (rdF_cons (rd_arr (n := 32) Tryd.underlying74 (by kernel_rfl) (rd_u8 Tryd.underlying5)) (by kernel_rfl) (rdF_cons (rd_u32 Tryd.underlying81) (by kernel_rfl) (rdF_one (rd_str Tryd.underlying9) (by kernel_rfl))))) (fun d hd => by rw [Tryd.underlying83] at hd; cases hd; exact True.intro) (by kernel_rfl)) (hval 2 83 v2 rfl rfl) h2
 obtain ⟨a200, a201, a202, a203, a204, a205, a206, a207, a208, a209, a2010, a2011, a2012, a2013, a2014, a2015, a2016, a2017, a2018, a2019, a2020, a2021, a2022, a2023, a2024, a2025, a2026, a2027, a2028, a2029, a2030, a2031, rfl⟩ : ∃ a200 a201 a202 a203 a204 a205 a206 a207 a208 a209 a2010 a2011 a2012 a2013 a2014 a2015 a2016 a2017 a2018 a2019 a2020 a2021 a2022 a2023 a2024 a2025 a2026 a2027 a2028 a2029 a2030 a2031, a20 = [a200, a201, a202, a203, a204, a205, a206, a207, a208, a209, a2010, a2011, a2012, a2013, a2014, a2015, a2016, a2017, a2018, a2019, a2020, a2021, a2022, a2023, a2024, a2025, a2026, a2027, a2028, a2029, a2030, a2031] := by
  match a20, ((s2).1).1 with
  | [a200, a201, a202, a203, a204, a205, a206, a207, a208, a209, a2010, a2011, a2012, a2013, a2014, a2015, a2016, a2017, a2018, a2019, a2020, a2021, a2022, a2023, a2024, a2025, a2026, a2027, a2028, a2029, a2030, a2031], _ => exact ⟨a200, a201, a202, a203, a204, a205, a206, a207, a208, a209, a2010, a2011, a2012, a2013, a2014, a2015, a2016, a2017, a2018, a2019, a2020, a2021, a2022, a2023, a2024, a2025, a2026, a2027, a2028, a2029, a2030, a2031, rfl⟩
 have hm := b9_S_m a0 a1 [a200, a201, a202, a203, a204, a205, a206, a207, a208, a209, a2010, a2011, a2012, a2013, a2014, a2015, a2016, a2017, a2018, a2019, a2020, a2021, a2022, a2023, a2024, a2025, a2026, a2027, a2028, a2029, a2030, a2031] a21 a22 
 rw [ksteps_true _ _ _ _ _] at hm
 refine (calls_of_meets Tryd.call8 hm rfl (held hL) (by simp only [RepL]; exact ⟨v0, _, rfl, e0, ⟨v1, _, rfl, e1, ⟨v2, _, rfl, e2, rfl⟩⟩⟩)).mono ?_
 rintro e W' ⟨v, rfl, hb, ok, β, hr⟩
 simp only [Rep] at hr
 subst hr
 exact ⟨_, rfl, law_post laidOut Tryd.underlying4 (by kernel_rfl) rfl (fun t ht => by have := List.all_eq_true.1 (show (Tryd.f8.params.toList.all fun t => Tryd.prog.readableRec t && decide (t < Tryd.prog.types.size)) = true by kernel_rfl) t ht; exact ⟨(Bool.and_eq_true_iff.1 this).1, of_decide_eq_true (Bool.and_eq_true_iff.1 this).2⟩) rfl hW' hb⟩
abbrev keyringSteps_args : Array Value := #[.slice none 0 0, .slice none 0 0, .agg (Array.mk (List.append (List.replicate 32 (.int .u8 0)) ([.int .u32 0, .string ⟨#[]⟩])))]
theorem keyringSteps_reads (os : Os) {H : Type} (enc : TypeId × Value → H) : ∃ places, DataW.whole enc Tryd.prog ((laidWorld os).forCall (fun _ _ => 0) ⟨#[], keyringSteps_args, []⟩).memory Tryd.f8.params.toList Rows.keyringStepsSpec.vars false (keyringSteps_args : Array Value).toList 8 = some ([.nil, .nil, .agg [.agg (List.replicate 32 (.lit (.int .u8 0))), .lit (.int .u32 0), .lit (.string [])]], [], places) :=
 ⟨[], by kernel_rfl⟩
set_option maxRecDepth 100000 in
theorem keyringSteps_lifted (os : Os) (started : os.Started) (H : Type) (enc : TypeId × Value → H) (F : Stop.Interp) :
  ReturnsInHanded {} Tryd.checked os 8 .any ((OpenSpec.ofChange Rows.keyringStepsSpec).preRow enc Tryd.prog Tryd.f8 Rows.keyringStepsRow.domain false Rows.keyringStepsRow.laid) (((OpenSpec.ofChange Rows.keyringStepsSpec).at F).post enc Tryd.prog Tryd.f8 false true false false) := by
 obtain ⟨places, hx⟩ := keyringSteps_reads os enc
 refine returnsInHanded_of_row (C := Tryd.checked) (s := OpenSpec.ofChange Rows.keyringStepsSpec) own started (by kernel_rfl) Tryd.func8
  (witness_row_at (enc := enc) (C := Tryd.checked) false (laidWorld os) keyringSteps_args rfl (by kernel_rfl) (by kernel_rfl) (by kernel_rfl)
   (OpenSpec.preRow_of_cond 8 hx (by kernel_rfl) (fun k hk => by cases hk) (by kernel_rfl) (laidWorld_met os _))) ?_
 intro W base args ds gs before hval hW _ _ _ hL _ _
 exact keyringSteps_contract H enc W base args ds gs before hval hW hL
theorem keyringSteps_said : Rows.KeyringStepsSaid :=
 OpenClaim.holds_of_cond 8 Tryd.f8 rfl rfl rfl rfl rfl rfl rfl ⟨rfl, rfl, rfl, rfl, rfl⟩ rfl rfl rfl rfl rfl (by kernel_rfl) Tryd.func8 (by kernel_rfl)
  (of_decide_eq_true (by kernel_rfl)) (by unfold Func.isWrapper; first | (rw [if_pos (by decide +kernel)]; kernel_rfl) | (rw [if_neg (by decide +kernel)]; exact ⟨rfl, rfl⟩))
  (fun os started H enc _ F => by rw [OpenClaim.pre_eq_preRow]; exact keyringSteps_lifted os started H enc F)
theorem keyringSteps_plain (f : FuncId) (fn : Func) (hf : Tryd.pinned.checked.prog.funcNamed "bursary/bursarylaw19.KeyringSteps" = some f) (hfn : Tryd.pinned.checked.prog.funcs[f]? = some fn) :
  true = Tryd.pinned.checked.prog.looks [] ∧ ∀ (j : Nat) t, fn.params[j]? = some t → Tryd.pinned.checked.prog.wantsStandIn t = false := by
 obtain rfl : f = 8 := Option.some.inj ((show Tryd.prog.funcNamed "bursary/bursarylaw19.KeyringSteps" = some 8 by kernel_rfl).symm.trans hf) |>.symm
 obtain rfl : fn = Tryd.f8 := (Option.some.inj (Tryd.func8.symm.trans hfn)).symm
 refine ⟨by kernel_rfl, fun j t ht => ?_⟩
 have hm : t ∈ Tryd.f8.params.toList := Array.mem_toList_iff.2 (Array.mem_of_getElem? ht)
 show Tryd.prog.wantsStandIn t = false
 have := List.all_eq_true.1 (show (Tryd.f8.params.toList.all fun t => !Tryd.prog.wantsStandIn t) = true by kernel_rfl) t hm
 cases hq : Tryd.prog.wantsStandIn t with
 | false => rfl
 | true => rw [hq] at this; cases this
theorem keyringSteps_card : Rows.KeyringStepsCardSaid :=
 Claim7.holds_tied_plain_at .later [] _ _ _ _ keyringSteps_said (fun _ h => by cases h) (by kernel_rfl) (fun _ h => by cases h) keyringSteps_row_tie rfl ⟨rfl, rfl⟩ (by kernel_rfl) rfl keyringSteps_plain (by kernel_rfl)
#print axioms keyringSteps_card
end Go.Proofs.YtbppcnhfeobefabDoor

import Derived.Test.YtbppcnhfeobefabDoorRw0
import Derived.Test.YtbppcnhfeobefabDoorEnVx8
import Derived.Test.YtbppcnhfeobefabDoorPK4
set_option linter.unusedVariables false
set_option linter.unusedSimpArgs false
namespace Go.Proofs.YtbppcnhfeobefabDoor
open Go Go.Vw Go.ChangeShapes Go.WideShapes Go.RowKit Go.ChangeAt
set_option maxRecDepth 100000 in
theorem keyringKeeps_contract (H : Type) (enc : TypeId × Value → H) (W : World) (base : Nat) (args : Array Value) (ds gs : List (DataW H)) (before : List MemPlace) (hval : ∀ (j : Nat) t v, Tryd.f9.params[j]? = some t → args[j]? = some v → Value.okWide Tryd.prog W .any base t v)
  (hW : DataW.Whole enc Tryd.prog Tryd.f9.params.toList Rows.keyringKeepsSpec.vars false W args.toList ds gs before) (hL : laidMetH Tryd.prog Rows.keyringKeepsRow.laid W) :
  Calls Tryd.prog 9 args W fun e W' => ∃ v, e = .returned v ∧ Rows.keyringKeepsSpec.post enc Tryd.prog Tryd.f9 false true false false W args v W' := by
 have hW' := hW
 obtain ⟨p, q, hA0, hV, rfl, hfz, hnd⟩ := hW
 have hA : DataW.TrodAll enc Tryd.prog W 0 (fun _ => true) true Tryd.f9.params.toList args.toList ds p := hA0
 rw [Tryd.params9] at hA hval
 obtain ⟨v0, vs0, d0, ds0, p0, q0, ha0, rfl, rfl, h0, r0⟩ := trodAll_cons hA
 obtain ⟨v1, vs1, d1, ds1, p1, q1, ha1, rfl, rfl, h1, r1⟩ := trodAll_cons r0
 obtain ⟨rfl, rfl, rfl⟩ := trodAll_nil r1
 obtain rfl : args = #[v0, v1] := by cases args; simp_all
 obtain ⟨rfl, rfl⟩ := trodVars_none hV
 obtain ⟨a0, e0, s0⟩ := (RdC.agg (rd_arr (n := 32) Tryd.underlying74 (by kernel_rfl) (rd_u8 Tryd.underlying5)) (fun d hd => by rw [Tryd.underlying74] at hd; cases hd; exact True.intro) (by kernel_rfl)) (hval 0 74 v0 rfl rfl) h0
 obtain ⟨a00, a01, a02, a03, a04, a05, a06, a07, a08, a09, a010, a011, a012, a013, a014, a015, a016, a017, a018, a019, a020, a021, a022, a023, a024, a025, a026, a027, a028, a029, a030, a031, rfl⟩ : ∃ a00 a01 a02 a03 a04 a05 a06 a07 a08 a09 a010 a011 a012 a013 a014 a015 a016 a017 a018 a019 a020 a021 a022 a023 a024 a025 a026 a027 a028 a029 a030 a031, a0 = [a00, a01, a02, a03, a04, a05, a06, a07, a08, a09, a010, a011, a012, a013, a014, a015, a016, a017, a018, a019, a020, a021, a022, a023, a024, a025, a026, a027, a028, a029, a030, a031] := by
  match a0, (s0).1 with
  | [a00, a01, a02, a03, a04, a05, a06, a07, a08, a09, a010, a011, a012, a013, a014, a015, a016, a017, a018, a019, a020, a021, a022, a023, a024, a025, a026, a027, a028, a029, a030, a031], _ => exact ⟨a00, a01, a02, a03, a04, a05, a06, a07, a08, a09, a010, a011, a012, a013, a014, a015, a016, a017, a018, a019, a020, a021, a022, a023, a024, a025, a026, a027, a028, a029, a030, a031, rfl⟩
 obtain ⟨a1, e1, s1⟩ := (RdC.v (rd_slF (m := 32) Tryd.underlying68 (by kernel_rfl) (by decide) (rd_arrF (n := 32) Tryd.underlying74 (by kernel_rfl) Tryd.underlying5) (fun _ => rfl) (fun _ => rfl)) (fun d hd => by rw [Tryd.underlying68] at hd; cases hd; exact True.intro)) (hval 1 68 v1 rfl rfl) h1
 have hm := b9_KeyringKeeps_m [a00, a01, a02, a03, a04, a05, a06, a07, a08, a09, a010, a011, a012, a013, a014, a015, a016, a017, a018, a019, a020, a021, a022, a023, a024, a025, a026, a027, a028, a029, a030, a031] a1 rfl
 rw [kkeeps_true _ _] at hm
 refine (calls_of_meets Tryd.call9 hm rfl (held hL) (by simp only [RepL]; exact ⟨v0, _, rfl, e0, ⟨v1, _, rfl, e1, rfl⟩⟩)).mono ?_
 rintro e W' ⟨v, rfl, hb, ok, β, hr⟩
 simp only [Rep] at hr
 subst hr
 exact ⟨_, rfl, law_post laidOut Tryd.underlying4 (by kernel_rfl) rfl (fun t ht => by have := List.all_eq_true.1 (show (Tryd.f9.params.toList.all fun t => Tryd.prog.readableRec t && decide (t < Tryd.prog.types.size)) = true by kernel_rfl) t ht; exact ⟨(Bool.and_eq_true_iff.1 this).1, of_decide_eq_true (Bool.and_eq_true_iff.1 this).2⟩) rfl hW' hb⟩
abbrev keyringKeeps_args : Array Value := #[.agg (Array.mk (List.replicate 32 (.int .u8 0))), .slice none 0 0]
theorem keyringKeeps_reads (os : Os) {H : Type} (enc : TypeId × Value → H) : ∃ places, DataW.whole enc Tryd.prog ((laidWorld os).forCall (fun _ _ => 0) ⟨#[], keyringKeeps_args, []⟩).memory Tryd.f9.params.toList Rows.keyringKeepsSpec.vars false (keyringKeeps_args : Array Value).toList 8 = some ([.agg (List.replicate 32 (.lit (.int .u8 0))), .nil], [], places) :=
 ⟨[], by kernel_rfl⟩
set_option maxRecDepth 100000 in
theorem keyringKeeps_lifted (os : Os) (started : os.Started) (H : Type) (enc : TypeId × Value → H) (F : Stop.Interp) :
  ReturnsInHanded {} Tryd.checked os 9 .any ((OpenSpec.ofChange Rows.keyringKeepsSpec).preRow enc Tryd.prog Tryd.f9 Rows.keyringKeepsRow.domain false Rows.keyringKeepsRow.laid) (((OpenSpec.ofChange Rows.keyringKeepsSpec).at F).post enc Tryd.prog Tryd.f9 false true false false) := by
 obtain ⟨places, hx⟩ := keyringKeeps_reads os enc
 refine returnsInHanded_of_row (C := Tryd.checked) (s := OpenSpec.ofChange Rows.keyringKeepsSpec) own started (by kernel_rfl) Tryd.func9
  (witness_row_at (enc := enc) (C := Tryd.checked) false (laidWorld os) keyringKeeps_args rfl (by kernel_rfl) (by kernel_rfl) (by kernel_rfl)
   (OpenSpec.preRow_of_cond 8 hx (by kernel_rfl) (fun k hk => by cases hk) (by kernel_rfl) (laidWorld_met os _))) ?_
 intro W base args ds gs before hval hW _ _ _ hL _ _
 exact keyringKeeps_contract H enc W base args ds gs before hval hW hL
theorem keyringKeeps_said : Rows.KeyringKeepsSaid :=
 OpenClaim.holds_of_cond 9 Tryd.f9 rfl rfl rfl rfl rfl rfl rfl ⟨rfl, rfl, rfl, rfl, rfl⟩ rfl rfl rfl rfl rfl (by kernel_rfl) Tryd.func9 (by kernel_rfl)
  (of_decide_eq_true (by kernel_rfl)) (by unfold Func.isWrapper; first | (rw [if_pos (by decide +kernel)]; kernel_rfl) | (rw [if_neg (by decide +kernel)]; exact ⟨rfl, rfl⟩))
  (fun os started H enc _ F => by rw [OpenClaim.pre_eq_preRow]; exact keyringKeeps_lifted os started H enc F)
theorem keyringKeeps_plain (f : FuncId) (fn : Func) (hf : Tryd.pinned.checked.prog.funcNamed "bursary/bursarylaw19.KeyringKeeps" = some f) (hfn : Tryd.pinned.checked.prog.funcs[f]? = some fn) :
  true = Tryd.pinned.checked.prog.looks [] ∧ ∀ (j : Nat) t, fn.params[j]? = some t → Tryd.pinned.checked.prog.wantsStandIn t = false := by
 obtain rfl : f = 9 := Option.some.inj ((show Tryd.prog.funcNamed "bursary/bursarylaw19.KeyringKeeps" = some 9 by kernel_rfl).symm.trans hf) |>.symm
 obtain rfl : fn = Tryd.f9 := (Option.some.inj (Tryd.func9.symm.trans hfn)).symm
 refine ⟨by kernel_rfl, fun j t ht => ?_⟩
 have hm : t ∈ Tryd.f9.params.toList := Array.mem_toList_iff.2 (Array.mem_of_getElem? ht)
 show Tryd.prog.wantsStandIn t = false
 have := List.all_eq_true.1 (show (Tryd.f9.params.toList.all fun t => !Tryd.prog.wantsStandIn t) = true by kernel_rfl) t hm
 cases hq : Tryd.prog.wantsStandIn t with
 | false => rfl
 | true => rw [hq] at this; cases this
theorem keyringKeeps_card : Rows.KeyringKeepsCardSaid :=
 Claim7.holds_tied_plain_at .later [] _ _ _ _ keyringKeeps_said (fun _ h => by cases h) (by kernel_rfl) (fun _ h => by cases h) keyringKeeps_row_tie rfl ⟨rfl, rfl⟩ (by kernel_rfl) rfl keyringKeeps_plain (by kernel_rfl)
#print axioms keyringKeeps_card
end Go.Proofs.YtbppcnhfeobefabDoor

import Derived.Test.YtbppcnhfeobefaaDoorRw0
import Derived.Test.YtbppcnhfeobefaaDoorEnVx8
import Derived.Test.YtbppcnhfeobefaaDoorPJ8
set_option linter.unusedVariables false
namespace Go.Proofs.YtbppcnhfeobefaaDoor
open Go Go.Vw Go.ChangeShapes Go.WideShapes Go.RowKit Go.ChangeAt
set_option maxRecDepth 100000 in
theorem journalKeeps_contract (H : Type) (enc : TypeId × Value → H) (W : World) (base : Nat) (args : Array Value) (ds gs : List (DataW H)) (before : List MemPlace) (hval : ∀ (j : Nat) t v, Tryd.f10.params[j]? = some t → args[j]? = some v → Value.okWide Tryd.prog W .any base t v)
  (hW : DataW.Whole enc Tryd.prog Tryd.f10.params.toList Rows.journalKeepsSpec.vars false W args.toList ds gs before) (hL : laidMetH Tryd.prog Rows.journalKeepsRow.laid W) :
  Calls Tryd.prog 10 args W fun e W' => ∃ v, e = .returned v ∧ Rows.journalKeepsSpec.post enc Tryd.prog Tryd.f10 false true false false W args v W' := by
 have hW' := hW
 obtain ⟨p, q, hA0, hV, rfl, hfz, hnd⟩ := hW
 have hA : DataW.TrodAll enc Tryd.prog W 0 (fun _ => true) true Tryd.f10.params.toList args.toList ds p := hA0
 rw [Tryd.params10] at hA hval
 obtain ⟨v0, vs0, d0, ds0, p0, q0, ha0, rfl, rfl, h0, r0⟩ := trodAll_cons hA
 obtain ⟨rfl, rfl, rfl⟩ := trodAll_nil r0
 obtain rfl : args = #[v0] := by cases args; simp_all
 obtain ⟨rfl, rfl⟩ := trodVars_none hV
 obtain ⟨a0, e0, s0⟩ := (RdC.v (rd_slF (m := 4) Tryd.underlying100 (by kernel_rfl) (by decide) (rd_struct (tot := 4) Tryd.underlying104 (by kernel_rfl) (rdF_cons (rd_i64 Tryd.underlying3) (by kernel_rfl) (rdF_cons (rd_i64 Tryd.underlying3) (by kernel_rfl) (rdF_cons (rd_sl Tryd.underlying22 (by kernel_rfl) (rd_u8 Tryd.underlying5) (fun _ => rfl)) (by kernel_rfl) (rdF_one (rd_sl Tryd.underlying23 (by kernel_rfl) (rd_bool Tryd.underlying4) (fun _ => rfl)) (by kernel_rfl)))))) (fun _ => rfl) (fun _ => rfl)) (fun d hd => by rw [Tryd.underlying100] at hd; cases hd; exact True.intro)) (hval 0 100 v0 rfl rfl) h0
 have hm := b5K_m a0 
 rw [jkeeps_true a0] at hm
 refine (calls_of_meets Tryd.call10 hm rfl (held hL) (by simp only [RepL]; exact ⟨v0, _, rfl, e0, rfl⟩)).mono ?_
 rintro e W' ⟨v, rfl, hb, ok, β, hr⟩
 simp only [Rep] at hr
 subst hr
 exact ⟨_, rfl, law_post laidOut Tryd.underlying4 (by kernel_rfl) rfl (fun t ht => by have := List.all_eq_true.1 (show (Tryd.f10.params.toList.all fun t => Tryd.prog.readableRec t && decide (t < Tryd.prog.types.size)) = true by kernel_rfl) t ht; exact ⟨(Bool.and_eq_true_iff.1 this).1, of_decide_eq_true (Bool.and_eq_true_iff.1 this).2⟩) rfl hW' hb⟩
abbrev journalKeeps_args : Array Value := #[.slice none 0 0]
theorem journalKeeps_reads (os : Os) {H : Type} (enc : TypeId × Value → H) : ∃ places, DataW.whole enc Tryd.prog ((laidWorld os).forCall (fun _ _ => 0) ⟨#[], journalKeeps_args, []⟩).memory Tryd.f10.params.toList Rows.journalKeepsSpec.vars false (journalKeeps_args : Array Value).toList 8 = some ([.nil], [], places) :=
 ⟨[], by kernel_rfl⟩
set_option maxRecDepth 100000 in
theorem journalKeeps_lifted (os : Os) (started : os.Started) (H : Type) (enc : TypeId × Value → H) (F : Stop.Interp) :
  ReturnsInHanded {} Tryd.checked os 10 .any ((OpenSpec.ofChange Rows.journalKeepsSpec).preRow enc Tryd.prog Tryd.f10 Rows.journalKeepsRow.domain false Rows.journalKeepsRow.laid) (((OpenSpec.ofChange Rows.journalKeepsSpec).at F).post enc Tryd.prog Tryd.f10 false true false false) := by
 obtain ⟨places, hx⟩ := journalKeeps_reads os enc
 refine returnsInHanded_of_row (C := Tryd.checked) (s := OpenSpec.ofChange Rows.journalKeepsSpec) own started (by kernel_rfl) Tryd.func10
  (witness_row_at (enc := enc) (C := Tryd.checked) false (laidWorld os) journalKeeps_args rfl (by kernel_rfl) (by kernel_rfl) (by kernel_rfl)
   (OpenSpec.preRow_of_cond 8 hx (by kernel_rfl) (fun k hk => by cases hk) (by kernel_rfl) (laidWorld_met os _))) ?_
 intro W base args ds gs before hval hW _ _ _ hL _ _
 exact journalKeeps_contract H enc W base args ds gs before hval hW hL
theorem journalKeeps_said : Rows.JournalKeepsSaid :=
 OpenClaim.holds_of_cond 10 Tryd.f10 rfl rfl rfl rfl rfl rfl rfl ⟨rfl, rfl, rfl, rfl, rfl⟩ rfl rfl rfl rfl rfl (by kernel_rfl) Tryd.func10 (by kernel_rfl)
  (of_decide_eq_true (by kernel_rfl)) (by unfold Func.isWrapper; first | (rw [if_pos (by decide +kernel)]; kernel_rfl) | (rw [if_neg (by decide +kernel)]; exact ⟨rfl, rfl⟩))
  (fun os started H enc _ F => by rw [OpenClaim.pre_eq_preRow]; exact journalKeeps_lifted os started H enc F)
theorem journalKeeps_plain (f : FuncId) (fn : Func) (hf : Tryd.pinned.checked.prog.funcNamed "bursary/bursarylaw15.JournalKeeps" = some f) (hfn : Tryd.pinned.checked.prog.funcs[f]? = some fn) :
  true = Tryd.pinned.checked.prog.looks [] ∧ ∀ (j : Nat) t, fn.params[j]? = some t → Tryd.pinned.checked.prog.wantsStandIn t = false := by
 obtain rfl : f = 10 := Option.some.inj ((show Tryd.prog.funcNamed "bursary/bursarylaw15.JournalKeeps" = some 10 by kernel_rfl).symm.trans hf) |>.symm
 obtain rfl : fn = Tryd.f10 := (Option.some.inj (Tryd.func10.symm.trans hfn)).symm
 refine ⟨by kernel_rfl, fun j t ht => ?_⟩
 have hm : t ∈ Tryd.f10.params.toList := Array.mem_toList_iff.2 (Array.mem_of_getElem? ht)
 show Tryd.prog.wantsStandIn t = false
 have := List.all_eq_true.1 (show (Tryd.f10.params.toList.all fun t => !Tryd.prog.wantsStandIn t) = true by kernel_rfl) t hm
 cases hq : Tryd.prog.wantsStandIn t with
 | false => rfl
 | true => rw [hq] at this; cases this
theorem journalKeeps_card : Rows.JournalKeepsCardSaid :=
 Claim7.holds_tied_plain_at .later [] _ _ _ _ journalKeeps_said (fun _ h => by cases h) (by kernel_rfl) (fun _ h => by cases h) journalKeeps_row_tie rfl ⟨rfl, rfl⟩ (by kernel_rfl) rfl journalKeeps_plain (by kernel_rfl)
#print axioms journalKeeps_card
end Go.Proofs.YtbppcnhfeobefaaDoor

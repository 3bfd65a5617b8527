/-
  NARROWER THAN 'FOR EVERY INPUT', by the rows' own cells (each row's printed sentence says how): ClockOnward: laid · ClockExact: laid · ClockRenews: laid · ConfigSteps: laid · ConfigBack: laid · NonceOnce: laid · FrameForms: laid.
  DERIVED. THE GIVEN ROWS OF THIS SEAT. 7 by the template 'for every input the law returns true; each argument reads behind the call as it read before'; 0 by the template 'total and deterministic' (their statements: YtmedboagdnpkbaaDoorTotals.lean).
  GIVEN WITH THE SEED: the statements are not yours to turn. If you find one false, say at which input.
  Laid BY PROGRAM, IN A SANDBOX (cutbox-rows.mjs): the forced cells as the released guide's own fill.sh prints them over the translation 7292c37f73ce1bb6… (all of the seat's roots in one cut). By AI agents, Wed Nov 11 2026. No macro, syntax, notation, axiom, sorry.
-/
import Derived.Test.YtmedboagdnpkbaaDoorChecked
import GoSem.Claim
import GoSem.ClaimJoined
import GoSem.ClaimMapViews
import Derived.JoinedTies
import Derived.KernelRfl
namespace Go.Proofs.YtmedboagdnpkbaaDoor
/- THE CELL 'sum', in the pinned program and in every row, IS THE sha256 OF THE DUMP (.gsa) THAT YtmedboagdnpkbaaDoorProg.lean LOADS. Nothing in Lean hashes anything: it is a label: what it is worth is what the hold of that sum in a sandbox is worth. -/
noncomputable def Tryd.pinned : Pinned := { name := "ytmedboagdnpkbaadoor", sum := "7292c37f73ce1bb6222689c53f3ca237b66e20dd1d44deefca0d6767d368311c", checked := Tryd.checked }
namespace Rows
def none {H : Type} : Left H := { results := [], args := [] }

/- WHAT THE LISTED PACKAGE-LEVEL VARIABLES READ AS WHEN THE CALL BEGINS. Each datum BY PROGRAM (the guide's laid-datum.mjs) off the statement by which the dump's own 'gosem.cut.vars' lays the variable. In a bare row this is a premise. The card (YtmedboagdnpkbaaDoorCards.lean) ties it to the program's text. -/
def laid_errors_errorType {H : Type} : DataW H := .iface "internal/reflectlite.rtype" (.agg [.ptr (.lit (.string [101, 114, 114, 111, 114]))])

/-- 'bursarylaw27.ClockOnward': WHATEVER THE INPUT: true; the input reads as it did. -/
def clockOnwardSpec : ChangeSpec := { name := "clockOnward", fn := fun _ => fun
  | [d1, d2, d3] => { results := [.lit (.bool true)], args := [d1, d2, d3] }
  | _ => none }
def clockOnwardRow : OpenClaim := { program := "ytmedboagdnpkbaadoor", sum := "7292c37f73ce1bb6222689c53f3ca237b66e20dd1d44deefca0d6767d368311c", func := "bursary/bursarylaw27.ClockOnward", spec := "clockOnward", inPlace := ["internal/reflectlite.ValueOf", "(internal/reflectlite.Value).Type", "(internal/reflectlite.Value).IsNil", "internal/reflectlite.TypeOf", "(internal/reflectlite.Value).Elem", "(internal/reflectlite.Value).Set"], unfollowed := true, recurses := true, named := ["errors.errorType"], apart := false, laid := [("errors.errorType", laid_errors_errorType)] }
def ClockOnwardSaid : Prop := clockOnwardRow.holds Tryd.pinned (OpenSpec.ofChange clockOnwardSpec)

/-- ITS FALSE NEIGHBOUR: 'it returns false'. Refute it at one input. -/
def clockOnwardWrong : ChangeSpec := { name := "clockOnward", fn := fun _ => fun
  | [d1, d2, d3] => { results := [.lit (.bool false)], args := [d1, d2, d3] }
  | _ => none }
def ClockOnwardWrongFalsely : Prop := clockOnwardRow.holds Tryd.pinned (OpenSpec.ofChange clockOnwardWrong)

/-- 'bursarylaw27.ClockExact': WHATEVER THE INPUT: true; the input reads as it did. -/
def clockExactSpec : ChangeSpec := { name := "clockExact", fn := fun _ => fun
  | [d1, d2, d3] => { results := [.lit (.bool true)], args := [d1, d2, d3] }
  | _ => none }
def clockExactRow : OpenClaim := { program := "ytmedboagdnpkbaadoor", sum := "7292c37f73ce1bb6222689c53f3ca237b66e20dd1d44deefca0d6767d368311c", func := "bursary/bursarylaw27.ClockExact", spec := "clockExact", inPlace := ["internal/reflectlite.ValueOf", "(internal/reflectlite.Value).Type", "(internal/reflectlite.Value).IsNil", "internal/reflectlite.TypeOf", "(internal/reflectlite.Value).Elem", "(internal/reflectlite.Value).Set"], unfollowed := true, recurses := true, named := ["errors.errorType"], apart := false, laid := [("errors.errorType", laid_errors_errorType)] }
def ClockExactSaid : Prop := clockExactRow.holds Tryd.pinned (OpenSpec.ofChange clockExactSpec)

/-- ITS FALSE NEIGHBOUR: 'it returns false'. Refute it at one input. -/
def clockExactWrong : ChangeSpec := { name := "clockExact", fn := fun _ => fun
  | [d1, d2, d3] => { results := [.lit (.bool false)], args := [d1, d2, d3] }
  | _ => none }
def ClockExactWrongFalsely : Prop := clockExactRow.holds Tryd.pinned (OpenSpec.ofChange clockExactWrong)

/-- 'bursarylaw27.ClockRenews': WHATEVER THE INPUT: true; the input reads as it did. -/
def clockRenewsSpec : ChangeSpec := { name := "clockRenews", fn := fun _ => fun
  | [d1, d2, d3] => { results := [.lit (.bool true)], args := [d1, d2, d3] }
  | _ => none }
def clockRenewsRow : OpenClaim := { program := "ytmedboagdnpkbaadoor", sum := "7292c37f73ce1bb6222689c53f3ca237b66e20dd1d44deefca0d6767d368311c", func := "bursary/bursarylaw27.ClockRenews", spec := "clockRenews", inPlace := ["internal/reflectlite.ValueOf", "(internal/reflectlite.Value).Type", "(internal/reflectlite.Value).IsNil", "internal/reflectlite.TypeOf", "(internal/reflectlite.Value).Elem", "(internal/reflectlite.Value).Set"], unfollowed := true, recurses := true, named := ["errors.errorType"], apart := false, laid := [("errors.errorType", laid_errors_errorType)] }
def ClockRenewsSaid : Prop := clockRenewsRow.holds Tryd.pinned (OpenSpec.ofChange clockRenewsSpec)

/-- ITS FALSE NEIGHBOUR: 'it returns false'. Refute it at one input. -/
def clockRenewsWrong : ChangeSpec := { name := "clockRenews", fn := fun _ => fun
  | [d1, d2, d3] => { results := [.lit (.bool false)], args := [d1, d2, d3] }
  | _ => none }
def ClockRenewsWrongFalsely : Prop := clockRenewsRow.holds Tryd.pinned (OpenSpec.ofChange clockRenewsWrong)

/-- 'bursarylaw21.ConfigSteps': WHATEVER THE INPUT: true; the input reads as it did. -/
def configStepsSpec : ChangeSpec := { name := "configSteps", fn := fun _ => fun
  | [d1, d2, d3] => { results := [.lit (.bool true)], args := [d1, d2, d3] }
  | _ => none }
def configStepsRow : OpenClaim := { program := "ytmedboagdnpkbaadoor", sum := "7292c37f73ce1bb6222689c53f3ca237b66e20dd1d44deefca0d6767d368311c", func := "bursary/bursarylaw21.ConfigSteps", spec := "configSteps", inPlace := ["internal/reflectlite.ValueOf", "(internal/reflectlite.Value).Type", "(internal/reflectlite.Value).IsNil", "internal/reflectlite.TypeOf", "(internal/reflectlite.Value).Elem", "(internal/reflectlite.Value).Set"], unfollowed := true, recurses := true, named := ["errors.errorType"], apart := false, laid := [("errors.errorType", laid_errors_errorType)] }
def ConfigStepsSaid : Prop := configStepsRow.holds Tryd.pinned (OpenSpec.ofChange configStepsSpec)

/-- ITS FALSE NEIGHBOUR: 'it returns false'. Refute it at one input. -/
def configStepsWrong : ChangeSpec := { name := "configSteps", fn := fun _ => fun
  | [d1, d2, d3] => { results := [.lit (.bool false)], args := [d1, d2, d3] }
  | _ => none }
def ConfigStepsWrongFalsely : Prop := configStepsRow.holds Tryd.pinned (OpenSpec.ofChange configStepsWrong)

/-- 'bursarylaw21.ConfigBack': WHATEVER THE INPUT: true; the input reads as it did. -/
def configBackSpec : ChangeSpec := { name := "configBack", fn := fun _ => fun
  | [d1, d2, d3] => { results := [.lit (.bool true)], args := [d1, d2, d3] }
  | _ => none }
def configBackRow : OpenClaim := { program := "ytmedboagdnpkbaadoor", sum := "7292c37f73ce1bb6222689c53f3ca237b66e20dd1d44deefca0d6767d368311c", func := "bursary/bursarylaw21.ConfigBack", spec := "configBack", inPlace := ["internal/reflectlite.ValueOf", "(internal/reflectlite.Value).Type", "(internal/reflectlite.Value).IsNil", "internal/reflectlite.TypeOf", "(internal/reflectlite.Value).Elem", "(internal/reflectlite.Value).Set"], unfollowed := true, recurses := true, named := ["errors.errorType"], apart := false, laid := [("errors.errorType", laid_errors_errorType)] }
def ConfigBackSaid : Prop := configBackRow.holds Tryd.pinned (OpenSpec.ofChange configBackSpec)

/-- ITS FALSE NEIGHBOUR: 'it returns false'. Refute it at one input. -/
def configBackWrong : ChangeSpec := { name := "configBack", fn := fun _ => fun
  | [d1, d2, d3] => { results := [.lit (.bool false)], args := [d1, d2, d3] }
  | _ => none }
def ConfigBackWrongFalsely : Prop := configBackRow.holds Tryd.pinned (OpenSpec.ofChange configBackWrong)

/-- 'bursarylaw18.NonceOnce': WHATEVER THE INPUT: true; the input reads as it did. -/
def nonceOnceSpec : ChangeSpec := { name := "nonceOnce", fn := fun _ => fun
  | [d] => { results := [.lit (.bool true)], args := [d] }
  | _ => none }
def nonceOnceRow : OpenClaim := { program := "ytmedboagdnpkbaadoor", sum := "7292c37f73ce1bb6222689c53f3ca237b66e20dd1d44deefca0d6767d368311c", func := "bursary/bursarylaw18.NonceOnce", spec := "nonceOnce", inPlace := ["sync/atomic.StoreUint64", "sync/atomic.LoadUint64", "sync/atomic.CompareAndSwapUint64", "internal/reflectlite.ValueOf", "(internal/reflectlite.Value).Type", "(internal/reflectlite.Value).IsNil", "internal/reflectlite.TypeOf", "(internal/reflectlite.Value).Elem", "(internal/reflectlite.Value).Set"], unfollowed := true, recurses := true, named := ["errors.errorType"], apart := false, laid := [("errors.errorType", laid_errors_errorType)] }
def NonceOnceSaid : Prop := nonceOnceRow.holds Tryd.pinned (OpenSpec.ofChange nonceOnceSpec)

/-- ITS FALSE NEIGHBOUR: 'it returns false'. Refute it at one input. -/
def nonceOnceWrong : ChangeSpec := { name := "nonceOnce", fn := fun _ => fun
  | [d] => { results := [.lit (.bool false)], args := [d] }
  | _ => none }
def NonceOnceWrongFalsely : Prop := nonceOnceRow.holds Tryd.pinned (OpenSpec.ofChange nonceOnceWrong)

/-- 'bursarylaw14.FrameForms': WHATEVER THE INPUT: true; the input reads as it did. -/
def frameFormsSpec : ChangeSpec := { name := "frameForms", fn := fun _ => fun
  | [d1, d2, d3] => { results := [.lit (.bool true)], args := [d1, d2, d3] }
  | _ => none }
def frameFormsRow : OpenClaim := { program := "ytmedboagdnpkbaadoor", sum := "7292c37f73ce1bb6222689c53f3ca237b66e20dd1d44deefca0d6767d368311c", func := "bursary/bursarylaw14.FrameForms", spec := "frameForms", inPlace := ["internal/reflectlite.ValueOf", "(internal/reflectlite.Value).Type", "(internal/reflectlite.Value).IsNil", "internal/reflectlite.TypeOf", "(internal/reflectlite.Value).Elem", "(internal/reflectlite.Value).Set"], unfollowed := true, recurses := true, named := ["errors.errorType"], apart := false, laid := [("errors.errorType", laid_errors_errorType)] }
def FrameFormsSaid : Prop := frameFormsRow.holds Tryd.pinned (OpenSpec.ofChange frameFormsSpec)

/-- ITS FALSE NEIGHBOUR: 'it returns false'. Refute it at one input. -/
def frameFormsWrong : ChangeSpec := { name := "frameForms", fn := fun _ => fun
  | [d1, d2, d3] => { results := [.lit (.bool false)], args := [d1, d2, d3] }
  | _ => none }
def FrameFormsWrongFalsely : Prop := frameFormsRow.holds Tryd.pinned (OpenSpec.ofChange frameFormsWrong)

/- THE SECOND FORM. 'bulk': how many values and letters a reading holds, each counted each time it is reached (what is shared counts as often as it is met; a slice's spare places count too). A statement '..UptoSaid' is the law's where the arguments, and the package variables that the reading takes, are together of bulk at most 1048576: NARROWER than '..Said'. Prove '..Said' where nothing that the law and all that it calls make is longer than what came in: it says more and counts as full. Else prove '..UptoSaid'. A law counts once. -/
mutual
def uptoBulk {H : Type} : DataW H → Nat
  | .lit (.string bytes) => bytes.length + 1
  | .lit _ => 1
  | .nil => 1
  | .ptr d => uptoBulk d + 1
  | .slice elems spare => uptoBulkAll elems + uptoBulkAll spare + 1
  | .agg parts => uptoBulkAll parts + 1
  | .iface _ d => uptoBulk d + 1
  | .map entries => uptoBulkEntries entries + 1
  | .held _ => 1
def uptoBulkAll {H : Type} : List (DataW H) → Nat
  | [] => 0
  | d :: r => uptoBulk d + uptoBulkAll r
def uptoBulkEntries {H : Type} : List (Lit × DataW H) → Nat
  | [] => 0
  | x :: r => uptoBulkEntry x + uptoBulkEntries r
def uptoBulkEntry {H : Type} : Lit × DataW H → Nat
  | (.string bytes, d) => bytes.length + uptoBulk d + 1
  | (_, d) => uptoBulk d + 1
 end
def uptoSmall : (H : Type) → List (DataW H) → Bool := fun _ ds => decide (uptoBulkAll ds ≤ 1048576)
def OpenSpec.upto (s : _root_.Go.ChangeSpec) : _root_.Go.OpenSpec := { _root_.Go.OpenSpec.ofChange s with cond := some uptoSmall }

/-- 'bursarylaw27.ClockOnward', WHERE WHAT IT READS IS OF BULK AT MOST 1048576: true; the input reads as it did. -/
def clockOnwardUptoRow : OpenClaim := { program := "ytmedboagdnpkbaadoor", sum := "7292c37f73ce1bb6222689c53f3ca237b66e20dd1d44deefca0d6767d368311c", func := "bursary/bursarylaw27.ClockOnward", spec := "clockOnward", inPlace := ["internal/reflectlite.ValueOf", "(internal/reflectlite.Value).Type", "(internal/reflectlite.Value).IsNil", "internal/reflectlite.TypeOf", "(internal/reflectlite.Value).Elem", "(internal/reflectlite.Value).Set"], unfollowed := true, recurses := true, named := ["errors.errorType"], apart := false, laid := [("errors.errorType", laid_errors_errorType)], narrowed := true }
def ClockOnwardUptoSaid : Prop := clockOnwardUptoRow.holds Tryd.pinned (OpenSpec.upto clockOnwardSpec)

/-- 'bursarylaw27.ClockExact', WHERE WHAT IT READS IS OF BULK AT MOST 1048576: true; the input reads as it did. -/
def clockExactUptoRow : OpenClaim := { program := "ytmedboagdnpkbaadoor", sum := "7292c37f73ce1bb6222689c53f3ca237b66e20dd1d44deefca0d6767d368311c", func := "bursary/bursarylaw27.ClockExact", spec := "clockExact", inPlace := ["internal/reflectlite.ValueOf", "(internal/reflectlite.Value).Type", "(internal/reflectlite.Value).IsNil", "internal/reflectlite.TypeOf", "(internal/reflectlite.Value).Elem", "(internal/reflectlite.Value).Set"], unfollowed := true, recurses := true, named := ["errors.errorType"], apart := false, laid := [("errors.errorType", laid_errors_errorType)], narrowed := true }
def ClockExactUptoSaid : Prop := clockExactUptoRow.holds Tryd.pinned (OpenSpec.upto clockExactSpec)

/-- 'bursarylaw27.ClockRenews', WHERE WHAT IT READS IS OF BULK AT MOST 1048576: true; the input reads as it did. -/
def clockRenewsUptoRow : OpenClaim := { program := "ytmedboagdnpkbaadoor", sum := "7292c37f73ce1bb6222689c53f3ca237b66e20dd1d44deefca0d6767d368311c", func := "bursary/bursarylaw27.ClockRenews", spec := "clockRenews", inPlace := ["internal/reflectlite.ValueOf", "(internal/reflectlite.Value).Type", "(internal/reflectlite.Value).IsNil", "internal/reflectlite.TypeOf", "(internal/reflectlite.Value).Elem", "(internal/reflectlite.Value).Set"], unfollowed := true, recurses := true, named := ["errors.errorType"], apart := false, laid := [("errors.errorType", laid_errors_errorType)], narrowed := true }
def ClockRenewsUptoSaid : Prop := clockRenewsUptoRow.holds Tryd.pinned (OpenSpec.upto clockRenewsSpec)

/-- 'bursarylaw21.ConfigSteps', WHERE WHAT IT READS IS OF BULK AT MOST 1048576: true; the input reads as it did. -/
def configStepsUptoRow : OpenClaim := { program := "ytmedboagdnpkbaadoor", sum := "7292c37f73ce1bb6222689c53f3ca237b66e20dd1d44deefca0d6767d368311c", func := "bursary/bursarylaw21.ConfigSteps", spec := "configSteps", inPlace := ["internal/reflectlite.ValueOf", "(internal/reflectlite.Value).Type", "(internal/reflectlite.Value).IsNil", "internal/reflectlite.TypeOf", "(internal/reflectlite.Value).Elem", "(internal/reflectlite.Value).Set"], unfollowed := true, recurses := true, named := ["errors.errorType"], apart := false, laid := [("errors.errorType", laid_errors_errorType)], narrowed := true }
def ConfigStepsUptoSaid : Prop := configStepsUptoRow.holds Tryd.pinned (OpenSpec.upto configStepsSpec)

/-- 'bursarylaw21.ConfigBack', WHERE WHAT IT READS IS OF BULK AT MOST 1048576: true; the input reads as it did. -/
def configBackUptoRow : OpenClaim := { program := "ytmedboagdnpkbaadoor", sum := "7292c37f73ce1bb6222689c53f3ca237b66e20dd1d44deefca0d6767d368311c", func := "bursary/bursarylaw21.ConfigBack", spec := "configBack", inPlace := ["internal/reflectlite.ValueOf", "(internal/reflectlite.Value).Type", "(internal/reflectlite.Value).IsNil", "internal/reflectlite.TypeOf", "(internal/reflectlite.Value).Elem", "(internal/reflectlite.Value).Set"], unfollowed := true, recurses := true, named := ["errors.errorType"], apart := false, laid := [("errors.errorType", laid_errors_errorType)], narrowed := true }
def ConfigBackUptoSaid : Prop := configBackUptoRow.holds Tryd.pinned (OpenSpec.upto configBackSpec)

/-- 'bursarylaw18.NonceOnce', WHERE WHAT IT READS IS OF BULK AT MOST 1048576: true; the input reads as it did. -/
def nonceOnceUptoRow : OpenClaim := { program := "ytmedboagdnpkbaadoor", sum := "7292c37f73ce1bb6222689c53f3ca237b66e20dd1d44deefca0d6767d368311c", func := "bursary/bursarylaw18.NonceOnce", spec := "nonceOnce", inPlace := ["sync/atomic.StoreUint64", "sync/atomic.LoadUint64", "sync/atomic.CompareAndSwapUint64", "internal/reflectlite.ValueOf", "(internal/reflectlite.Value).Type", "(internal/reflectlite.Value).IsNil", "internal/reflectlite.TypeOf", "(internal/reflectlite.Value).Elem", "(internal/reflectlite.Value).Set"], unfollowed := true, recurses := true, named := ["errors.errorType"], apart := false, laid := [("errors.errorType", laid_errors_errorType)], narrowed := true }
def NonceOnceUptoSaid : Prop := nonceOnceUptoRow.holds Tryd.pinned (OpenSpec.upto nonceOnceSpec)

/-- 'bursarylaw14.FrameForms', WHERE WHAT IT READS IS OF BULK AT MOST 1048576: true; the input reads as it did. -/
def frameFormsUptoRow : OpenClaim := { program := "ytmedboagdnpkbaadoor", sum := "7292c37f73ce1bb6222689c53f3ca237b66e20dd1d44deefca0d6767d368311c", func := "bursary/bursarylaw14.FrameForms", spec := "frameForms", inPlace := ["internal/reflectlite.ValueOf", "(internal/reflectlite.Value).Type", "(internal/reflectlite.Value).IsNil", "internal/reflectlite.TypeOf", "(internal/reflectlite.Value).Elem", "(internal/reflectlite.Value).Set"], unfollowed := true, recurses := true, named := ["errors.errorType"], apart := false, laid := [("errors.errorType", laid_errors_errorType)], narrowed := true }
def FrameFormsUptoSaid : Prop := frameFormsUptoRow.holds Tryd.pinned (OpenSpec.upto frameFormsSpec)

end Rows
end Go.Proofs.YtmedboagdnpkbaaDoor

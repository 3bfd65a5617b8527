import Derived.Test.YtbppcnhfeobefabDoorD8
set_option linter.unusedVariables false
set_option linter.unusedSimpArgs false
namespace Go.Proofs.YtbppcnhfeobefabDoor
open Go Go.Vw Go.Proofs
theorem not32 (x : UInt32) : 4294967295 - x = ~~~x := by
 apply u32eq
 have hx := x.toNat_lt
 have e : (4294967295 : UInt32).toNat = 4294967295 := rfl
 have s : UInt32.size = 4294967296 := rfl
 rw [UInt32.toNat_sub, UInt32.toNat_not, e, s]
 omega
end Go.Proofs.YtbppcnhfeobefabDoor

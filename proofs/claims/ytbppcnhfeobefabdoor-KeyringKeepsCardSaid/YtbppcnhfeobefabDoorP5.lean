import Derived.Test.YtbppcnhfeobefabDoorF1
import Derived.Test.YtbppcnhfeobefabDoorPM
set_option linter.unusedVariables false
set_option linter.unusedSimpArgs false
namespace Go.Proofs.YtbppcnhfeobefabDoor
open Go Go.Vw Go.Proofs
theorem b0 (n : UInt32) : n.toUInt8 = (n % 256).toUInt8 := by
 apply u8eq; rw [UInt32.toNat_toUInt8, UInt32.toNat_toUInt8, UInt32.toNat_mod]
 have e3 : (256 : UInt32).toNat = 256 := rfl
 rw [e3]; omega
end Go.Proofs.YtbppcnhfeobefabDoor

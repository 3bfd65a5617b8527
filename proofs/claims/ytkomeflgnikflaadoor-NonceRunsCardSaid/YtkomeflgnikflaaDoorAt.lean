/- sync/atomic, told. -/
import Derived.Test.YtkomeflgnikflaaDoorEr
namespace Go.Proofs.YtkomeflgnikflaaDoor
open Go Go.Vw Go.Proofs
theorem atSt {i off : Nat} {cs : List T} {n m : Int} (hc : cs[off]? = some (.leaf (.int .u64 n))) (hi : idsL cs = []) : Meets Tryd.prog 62 [.addr i off, .leaf (.int .u64 m)] [(i, cs)] [i] (.tup []) [(i, splice cs off [.leaf (.int .u64 m)])] :=
  meets_st Tryd.func62 (by kernel_rfl) (by kernel_rfl) (by kernel_rfl) (by kernel_rfl) hc hi
theorem atLd {i off : Nat} {cs : List T} {n : Int} (hc : cs[off]? = some (.leaf (.int .u64 n))) (hi : idsL cs = []) : Meets Tryd.prog 60 [.addr i off] [(i, cs)] [i] (.leaf (.int .u64 n)) [(i, cs)] :=
  meets_ld Tryd.func60 (by kernel_rfl) (by kernel_rfl) (by kernel_rfl) (by kernel_rfl) hc hi
theorem atCas {i off : Nat} {cs : List T} {n m : Int} (hc : cs[off]? = some (.leaf (.int .u64 n))) (hi : idsL cs = []) : Meets Tryd.prog 61 [.addr i off, .leaf (.int .u64 n), .leaf (.int .u64 m)] [(i, cs)] [i] (.leaf (.bool true)) [(i, splice cs off [.leaf (.int .u64 m)])] :=
  meets_cas Tryd.func61 (by kernel_rfl) (by kernel_rfl) (by kernel_rfl) (by kernel_rfl) hc hi
end Go.Proofs.YtkomeflgnikflaaDoor

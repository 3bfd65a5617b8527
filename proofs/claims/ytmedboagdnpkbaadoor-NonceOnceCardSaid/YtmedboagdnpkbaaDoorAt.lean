/- sync/atomic, told. -/
import Derived.Test.YtmedboagdnpkbaaDoorEr
import Derived.Test.YtmedboagdnpkbaaDoorVx9
namespace Go.Proofs.YtmedboagdnpkbaaDoor
open Go Go.Vw Go.Proofs
theorem atSt {i off : Nat} {cs : List T} {n m : Int} (hc : cs[off]? = some (.leaf (.int .u64 n))) (hi : idsL cs = []) : Meets Tryd.prog 65 [.addr i off, .leaf (.int .u64 m)] [(i, cs)] [i] (.tup []) [(i, splice cs off [.leaf (.int .u64 m)])] :=
  meets_st Tryd.func65 (by kernel_rfl) (by kernel_rfl) (by kernel_rfl) (by kernel_rfl) hc hi
theorem atLd {i off : Nat} {cs : List T} {n : Int} (hc : cs[off]? = some (.leaf (.int .u64 n))) (hi : idsL cs = []) : Meets Tryd.prog 66 [.addr i off] [(i, cs)] [i] (.leaf (.int .u64 n)) [(i, cs)] :=
  meets_ld Tryd.func66 (by kernel_rfl) (by kernel_rfl) (by kernel_rfl) (by kernel_rfl) hc hi
theorem atCas {i off : Nat} {cs : List T} {n m : Int} (hc : cs[off]? = some (.leaf (.int .u64 n))) (hi : idsL cs = []) : Meets Tryd.prog 67 [.addr i off, .leaf (.int .u64 n), .leaf (.int .u64 m)] [(i, cs)] [i] (.leaf (.bool true)) [(i, splice cs off [.leaf (.int .u64 m)])] :=
  meets_cas Tryd.func67 (by kernel_rfl) (by kernel_rfl) (by kernel_rfl) (by kernel_rfl) hc hi
end Go.Proofs.YtmedboagdnpkbaaDoor

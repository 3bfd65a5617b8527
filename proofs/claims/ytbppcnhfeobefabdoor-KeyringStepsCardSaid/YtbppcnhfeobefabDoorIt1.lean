import Derived.Test.YtbppcnhfeobefabDoorTy
import Derived.Test.YtbppcnhfeobefabDoorEnVy0
import Derived.Shelf.Abstract
import Derived.Shelf.RegionOpen
import Derived.WalkKit
import Derived.OwnWalkIn
import Derived.TacticsInMore
import Derived.LoopNIn
import Derived.LoopIn
set_option linter.unusedVariables false
namespace Go.Proofs.YtbppcnhfeobefabDoor
open Go Go.RowKit Go.Shelf Go.Proofs Go.Vw
attribute [local go_sem] Oper.semAt_some
set_option maxRecDepth 100000 in
set_option maxHeartbeats 4000000 in
theorem chunk_ok (c : Nat) (hc1 : 1 ≤ c) (hc2 : c ≤ 1000000) : ChunkOk Tryd.prog 83 c := by
 intro l Bs os Bn on_ b off len cap ad J Jx had hlen hcap hJd hRd hY W h0
 refine callsIn_of_wp Tryd.func83 rfl trivial ?_ rfl
 simp only [Tryd.ntmps83, List.size_toArray, List.length_cons, List.length_nil, Nat.reduceAdd, Nat.reduceSub, Array.replicate_succ, Array.replicate_zero, List.push_toArray, List.append_toArray, List.nil_append, List.cons_append]
 have hmo : Tryd.prog.follows .mixedOrders = true := by kernel_rfl
 gi_wp2
 gi_loopw [4] (fun i wr => ∃ k : Nat, (k = 0 ∨ (k - 1) * c < len) ∧ i = .int .i64 (k * c : Nat) ∧ J k wr)
  (fun i _ => len + c - (intOf i).toNat)
 case atStart => exact ⟨0, .inl rfl, by simp, h0⟩
 case round =>
  obtain ⟨k, hk, rfl, hJs⟩ := hrel
  obtain ⟨hcs, hcn⟩ := hRd k wr hJs
  by_cases hlt : k * c < len
  ·have hi : ((k * c : Nat) : Int) < (len : Int) := by exact_mod_cast hlt
   have hnn : (0 : Int) ≤ ((k * c : Nat) : Int) := Int.natCast_nonneg _
   obtain rfl := had.resolve_left (by omega)
   generalize hq : k * c = q at hi hnn hlt
   obtain ⟨fn, tmps, assign, body, hy, hR⟩ := hY k wr.drew (by rw [hq]; exact hlt) (hJd _ _ hJs)
   rw [hq] at hy
   gi_wp2
   gi_region_with_o fail
   all_goals
    rw [show (if len - q < c then ((len - q : Nat) : Int) else (c : Int)) = ((min c (len - q) : Nat) : Int) from by split <;> omega]
    have he1 : 1 ≤ min c (len - q) := by omega
    have he2 : q + min c (len - q) ≤ len := by omega
    generalize min c (len - q) = e at *
    gi_wp2
    refine ⟨rfl, hR.mono ?_⟩
    rintro e' W3 (⟨rfl, hJ3⟩ | ⟨rfl, hJx3⟩)
    ·obtain ⟨hcs3, hcn3⟩ := hRd (k + 1) W3 hJ3
     gi_wp2
     go_roundw
     case rel => exact ⟨k + 1, .inr (by simp only [Nat.add_sub_cancel]; omega), by rw [Nat.add_mul, Nat.one_mul, hq]; simp, hJ3⟩
     case measure => simp [intOf]; omega
    ·gi_wp2
     refine bodyPost_ret (results_none rfl _ _ _) rfl ?_
     exact ⟨⟨_, rfl⟩, .inr ⟨k + 1, by simp only [Nat.add_sub_cancel]; omega, hJx3⟩⟩
  ·have hi : ¬ ((k * c : Nat) : Int) < (len : Int) := by exact_mod_cast hlt
   generalize hq : k * c = q at hi hlt
   gi_wp2
   go_end0
   exact ⟨⟨_, rfl⟩, .inl ⟨k, by omega, hk, hJs⟩⟩
end Go.Proofs.YtbppcnhfeobefabDoor

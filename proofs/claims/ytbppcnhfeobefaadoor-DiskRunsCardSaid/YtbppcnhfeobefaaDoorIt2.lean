import Derived.Test.YtbppcnhfeobefaaDoorTy
import Derived.Test.YtbppcnhfeobefaaDoorEnVy8
import Derived.Shelf.Abstract
import Derived.Shelf.RegionOpen
import Derived.WalkKit
import Derived.OwnWalkIn
import Derived.TacticsInMore
import Derived.LoopNIn
import Derived.LoopIn
set_option linter.unusedVariables false
set_option linter.unusedSimpArgs false
namespace Go.Proofs.YtbppcnhfeobefaaDoor
open Go Go.RowKit Go.Shelf Go.Proofs Go.Vw
attribute [local go_sem] Oper.semAt_some
set_option maxRecDepth 100000 in
set_option maxHeartbeats 4000000 in
theorem back_ok : BackOk Tryd.prog 121 2 := by
  intro l Bs os b off len cap ad vs J Jx had hvl hlen hcap hJd hRd hY W h0
  refine callsIn_of_wp Tryd.func121 rfl trivial ?_ rfl
  simp only [Tryd.ntmps121, List.size_toArray, List.length_cons, List.length_nil, Nat.reduceAdd, Nat.reduceSub, Array.replicate_succ, Array.replicate_zero, List.push_toArray, List.append_toArray, List.nil_append, List.cons_append]
  have hmo : Tryd.prog.follows .mixedOrders = true := by kernel_rfl
  obtain ⟨hcs0, hcv0⟩ := hRd 0 W h0
  gi_wp2
  gi_loopw [3] (fun i wr => ∃ k : Nat, k ≤ len ∧ i = .int .i64 ((len : Int) - 1 - k) ∧ J k wr)
    (fun i _ => (intOf i + 1).toNat)
  case atStart => exact ⟨0, Nat.zero_le _, by simp, h0⟩
  case round =>
    obtain ⟨k, hk, rfl, hJs⟩ := hrel
    obtain ⟨hcs, hcv⟩ := hRd k wr hJs
    by_cases hlt : k < len
    · have hi : (0 : Int) ≤ (len : Int) - 1 - k := by omega
      obtain rfl := had.resolve_left (by omega)
      have hq : ((len : Int) - 1 - k) = ((len - 1 - k : Nat) : Int) := by omega
      rw [hq] at *
      generalize hqq : len - 1 - k = q at *
      have hql : q < len := by omega
      have hx0 : vs[q * 2]? = some (vs[q * 2]'(by omega)) := List.getElem?_eq_getElem _
      have hx1 : vs[q * 2 + 1]? = some (vs[q * 2 + 1]'(by omega)) := List.getElem?_eq_getElem _
      have hc0 := hcv _ _ hx0
      have hc1 := hcv _ _ hx1
      rw [← Nat.add_assoc] at hc1
      have hYk := hY k wr hlt hJs
      have hex : vs.toArray.extract (q * 2) (q * 2 + 2) = #[vs[q * 2]'(by omega), vs[q * 2 + 1]'(by omega)] := by
        apply Array.ext'
        simp only [List.extract_toArray, List.extract_eq_take_drop]
        rw [show q * 2 + 2 - q * 2 = 2 by omega, List.drop_eq_getElem_cons (by omega : q * 2 < vs.length), List.drop_eq_getElem_cons (by omega : q * 2 + 1 < vs.length)]
        rfl
      rw [hqq, hex] at hYk
      generalize vs[q * 2]'(by omega) = y0 at *
      generalize vs[q * 2 + 1]'(by omega) = y1 at *
      obtain ⟨fn, tmps, assign, body, hy, hR⟩ := hYk
      gi_wp2
      refine ⟨rfl, hR.mono ?_⟩
      rintro e' W3 (⟨rfl, hJ3⟩ | ⟨rfl, hJx3⟩)
      · obtain ⟨hcs3, hcn3⟩ := hRd (k + 1) W3 hJ3
        gi_wp2
        go_roundw
        case rel => exact ⟨k + 1, by omega, by congr 1 <;> omega, hJ3⟩
        case measure => simp [intOf] <;> omega
      · gi_wp2
        refine bodyPost_ret (results_none rfl _ _ _) rfl ?_
        exact ⟨⟨_, rfl⟩, .inr ⟨k + 1, by omega, hJx3⟩⟩
    · have hi : ¬ (0 : Int) ≤ (len : Int) - 1 - k := by omega
      have hkl : k = len := by omega
      gi_wp2
      go_end0
      exact ⟨⟨_, rfl⟩, .inl (hkl ▸ hJs)⟩
end Go.Proofs.YtbppcnhfeobefaaDoor

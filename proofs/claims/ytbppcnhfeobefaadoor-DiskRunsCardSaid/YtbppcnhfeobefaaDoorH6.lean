import Derived.Test.YtbppcnhfeobefaaDoorH2
set_option linter.unusedVariables false
set_option linter.unusedSimpArgs false
namespace Go.Proofs.YtbppcnhfeobefaaDoor
open Go Go.Vw Go.Proofs
def bursarylaw13_num_enc (x : Int) : T × List (Nat × List T) := (ti x, [])
theorem bursarylaw13_num_m (e : Int) : Meets Tryd.prog 24 [er 149 e] [] [] (ti e) [] := by
  by_cases p : e = 0
  · subst p
    rw [er_zero]
    refine Meets.enterX (E := E) (N := 10) (enc := bursarylaw13_num_enc) (x := (0 : Int)) Tryd.func24 Tryd.call24 rfl rfl ?_
    intro Γ k hk
    refine Go.rx 20 {} [] [0] _ [(0, .leaf .nilIface)] [] hk rfl kr .nil ?_
    clear hk; intro k hk
    refine Go.rx 20 { ws := [(0, { id := 10 })] } [] [0, 3] _ [(0, .leaf .nilIface), (3, .addr 10 0)] [(10, [ti 0])] hk rfl kr .nil ?_
    clear hk; intro k hk
    refine Go.rx 20 {} [] [0, 3, 5] _ [(0, .leaf .nilIface), (3, .addr 10 0), (5, tb true)] [(10, [ti 0])] hk rfl kr (.cons (kr : (E.ti 26).k = .iface) .nil) ?_
    clear hk; intro k hk
    refine Go.cond 20 hk rfl (t := true) rfl ?_; clear hk; intro k hk
    refine Go.rx 20 {} [10] [2] _ [(2, ti 0)] [] hk rfl kr .nil ?_
    clear hk; intro k hk
    exact Go.lvx 20 [] _ [ti 0] Tryd.func24 hk rfl kr .nil (T.Le.of_eq rfl) rfl rfl .nil
  · rw [er_ne p]
    refine Meets.enterX (E := E) (N := 10) (enc := bursarylaw13_num_enc) (x := (e : Int)) Tryd.func24 Tryd.call24 rfl rfl ?_
    intro Γ k hk
    refine Go.rx 20 {} [] [0] _ [(0, .iface 149 (ti e))] [] hk rfl kr .nil ?_
    clear hk; intro k hk
    refine Go.rx 20 { ws := [(0, { id := 10 })] } [] [0, 3] _ [(0, .iface 149 (ti e)), (3, .addr 10 0)] [(10, [ti 0])] hk rfl kr .nil ?_
    clear hk; intro k hk
    refine Go.rx 20 {} [] [0, 3, 5] _ [(0, .iface 149 (ti e)), (3, .addr 10 0), (5, tb false)] [(10, [ti 0])] hk rfl kr (.cons (kr : (E.ti 26).k = .iface) .nil) ?_
    clear hk; intro k hk
    refine Go.cond 20 hk rfl (t := false) rfl ?_; clear hk; intro k hk
    refine Go.rx 20 { ws := [(2, { call := some { ids := [10], S := [10], R := tb true, H' := [(10, [ti e])] } })] } [] [3, 8] _ [(3, .addr 10 0), (8, tb true)] [(10, [ti e])] hk rfl kr (.cons (meets_errAs 10 e 0) (.cons (rfl : subN (idsL [.iface 149 (ti e), .iface 161 (.addr 10 0)]) [10] = true) (.cons (rfl : subN (idsL [ti 0]) [10] = true) .nil))) ?_
    clear hk; intro k hk
    refine Go.cond 20 hk rfl (t := true) rfl ?_; clear hk; intro k hk
    refine Go.rx 20 {} [10] [2] _ [(2, ti e)] [] hk rfl kr .nil ?_
    clear hk; intro k hk
    exact Go.lvx 20 [] _ [ti e] Tryd.func24 hk rfl kr .nil (T.Le.of_eq rfl) rfl rfl .nil
noncomputable def bursarylaw13_sector (b : List UInt8) : List UInt8 :=
  (cpy (List.replicate 64 (0 : UInt8)) 0 ((List.replicate 64 (0 : UInt8)).length) b)
def bursarylaw13_sector_enc (x : List UInt8) : T × List (Nat × List T) := (.sl 1 .shr x.length (u8s x), [])
theorem bursarylaw13_sector_m (b : List UInt8) : Meets Tryd.prog 17 [.sl 1 .shr b.length (u8s b)] [] [] (.sl 1 .shr (bursarylaw13_sector b).length (u8s (bursarylaw13_sector b))) [] := by
  refine Meets.enterX (E := E) (N := 9) (enc := bursarylaw13_sector_enc) (x := (bursarylaw13_sector b)) Tryd.func17 Tryd.call17 rfl rfl ?_
  intro Γ k hk
  refine Go.rx 20 {} [] [0] _ [(0, .sl 1 .shr b.length (u8s b))] [] hk rfl kr .nil ?_
  clear hk; intro k hk
  refine Go.rx 20 { ws := [(0, { v := some (.ref 10 1 0 ((List.replicate 64 (0 : UInt8)).length)), c := some (u8s (List.replicate 64 (0 : UInt8))), id := 10 })] } [] [0, 3] _ [(0, .sl 1 .shr b.length (u8s b)), (3, .ref 10 1 0 ((List.replicate 64 (0 : UInt8)).length))] [(10, u8s (List.replicate 64 (0 : UInt8)))] hk rfl kr (.cons (by decide : 0 ≤ (64 : Int) ∧ (64 : Int) ≤ 64 ∧ (64 : Int) < 9223372036854775808 ∧ ((1 : Nat) : Int) * 64 ≤ 281474976710656) (.cons (mp_zeros (g := (fun c : UInt8 => T.leaf (.int .u8 c.toNat))) (n := Int.toNat 64) (x := (0 : UInt8)) (z := [.int .u8 0]) rfl) (.cons (by simp : T.ref 10 1 0 (Int.toNat 64) = .ref 10 1 0 ((List.replicate 64 (0 : UInt8)).length)) .nil))) ?_
  clear hk; intro k hk
  refine Go.rx 20 { ws := [(2, { c := some (u8s (cpy (List.replicate 64 (0 : UInt8)) 0 ((List.replicate 64 (0 : UInt8)).length) b)), sym := true })] } [] [3] _ [(3, .ref 10 1 0 ((List.replicate 64 (0 : UInt8)).length))] [(10, u8s (cpy (List.replicate 64 (0 : UInt8)) 0 ((List.replicate 64 (0 : UInt8)).length) b))] hk rfl kr (.cons (by simp only [List.length_map, List.length_cons, List.length_nil]; first | omega | (simp <;> omega) | (simp at * <;> omega) | (split <;> omega) | (split <;> (first | omega | (simp <;> omega) | (simp at * <;> omega))) : 0 + (List.replicate 64 (0 : UInt8)).length * 1 ≤ (u8s (List.replicate 64 (0 : UInt8))).length) (.cons (mp_scal b (fun _ => rfl) : scalL (u8s b) = true) (.cons (mp_cpy (g := (fun c : UInt8 => T.leaf (.int .u8 c.toNat))) (k := min b.length ((List.replicate 64 (0 : UInt8)).length)) (c := u8s b) (List.replicate 64 (0 : UInt8)) b 0 ((List.replicate 64 (0 : UInt8)).length) rfl rfl) .nil))) ?_
  clear hk; intro k hk
  refine Go.rx 20 {} [] [2] _ [(2, .ref 10 1 0 ((List.replicate 64 (0 : UInt8)).length))] [(10, u8s (cpy (List.replicate 64 (0 : UInt8)) 0 ((List.replicate 64 (0 : UInt8)).length) b))] hk rfl kr .nil ?_
  clear hk; intro k hk
  refine Go.slotEq 2 (.ref 10 1 0 ((cpy (List.replicate 64 (0 : UInt8)) 0 ((List.replicate 64 (0 : UInt8)).length) b).length)) rfl (congrArg (fun q => T.ref 10 1 0 q) (by first | (simp only [List.length_set, cpy_length, List.length_replicate, List.length_cons, List.length_nil, List.length_append]; omega) | (simp [cpy_length]; omega) | simp : (List.replicate 64 (0 : UInt8)).length = (cpy (List.replicate 64 (0 : UInt8)) 0 ((List.replicate 64 (0 : UInt8)).length) b).length)) ?_
  refine Go.frz [] [] 2 10 (u8s (cpy (List.replicate 64 (0 : UInt8)) 0 ((List.replicate 64 (0 : UInt8)).length) b)) _ [(2, .dead)] [] rfl rfl (mp_ids (g := (fun c : UInt8 => T.leaf (.int .u8 c.toNat))) (cpy (List.replicate 64 (0 : UInt8)) 0 ((List.replicate 64 (0 : UInt8)).length) b) (fun _ => rfl)) (by simp only [List.length_map]; omega) (mp_all (g := (fun c : UInt8 => T.leaf (.int .u8 c.toNat))) (cpy (List.replicate 64 (0 : UInt8)) 0 ((List.replicate 64 (0 : UInt8)).length) b)) kr .nil ?_
  exact Go.lvx 20 [] _ [.sl 1 .shr (cpy (List.replicate 64 (0 : UInt8)) 0 ((List.replicate 64 (0 : UInt8)).length) b).length (u8s (cpy (List.replicate 64 (0 : UInt8)) 0 ((List.replicate 64 (0 : UInt8)).length) b))] Tryd.func17 hk rfl kr .nil (T.Le.of_eq rfl) rfl rfl .nil
attribute [irreducible] bursarylaw13_sector
end Go.Proofs.YtbppcnhfeobefaaDoor

import Derived.Test.YtdlnppcndcfikaaDoorE3
import Derived.Test.YtdlnppcndcfikaaDoorEr
import Derived.Test.YtdlnppcndcfikaaDoorEnVx20
set_option linter.unusedVariables false
set_option linter.unusedSimpArgs false
namespace Go.Proofs.YtdlnppcndcfikaaDoor
open Go Go.Vw Go.Proofs
abbrev hDT := UInt64 × List UInt8
abbrev hD (x : hDT) : List T := [t64 x.1, t8 (x.2.getD 0 0), t8 (x.2.getD 1 0), t8 (x.2.getD 2 0), t8 (x.2.getD 3 0), t8 (x.2.getD 4 0), t8 (x.2.getD 5 0), t8 (x.2.getD 6 0), t8 (x.2.getD 7 0), t8 (x.2.getD 8 0), t8 (x.2.getD 9 0), t8 (x.2.getD 10 0), t8 (x.2.getD 11 0), t8 (x.2.getD 12 0), t8 (x.2.getD 13 0), t8 (x.2.getD 14 0), t8 (x.2.getD 15 0), t8 (x.2.getD 16 0), t8 (x.2.getD 17 0), t8 (x.2.getD 18 0), t8 (x.2.getD 19 0), t8 (x.2.getD 20 0), t8 (x.2.getD 21 0), t8 (x.2.getD 22 0), t8 (x.2.getD 23 0), t8 (x.2.getD 24 0), t8 (x.2.getD 25 0), t8 (x.2.getD 26 0), t8 (x.2.getD 27 0), t8 (x.2.getD 28 0), t8 (x.2.getD 29 0), t8 (x.2.getD 30 0), t8 (x.2.getD 31 0)]
def bursarylaw34_num_enc (x : Int) : T × List (Nat × List T) := (ti x, [])
theorem bursarylaw34_num_m (e : Int) : Meets Tryd.prog 24 [er 65 e] [] [] (ti e) [] := by
  by_cases p : e = 0
  · subst p
    rw [er_zero]
    refine Meets.enterX (E := E) (N := 10) (enc := bursarylaw34_num_enc) (x := (0 : Int)) Tryd.func24 Tryd.call24 rfl rfl ?_
    intro Γ k hk
    refine Go.rx 20 {} [] [0] _ [(0, .leaf .nilIface)] [] hk rfl kr .nil ?_
    clear hk; intro k hk
    refine Go.rx 20 { ws := [(0, { id := 10 })] } [] [0, 3] _ [(0, .leaf .nilIface), (3, .addr 10 0)] [(10, [ti 0])] hk rfl kr .nil ?_
    clear hk; intro k hk
    refine Go.rx 20 {} [] [0, 3, 5] _ [(0, .leaf .nilIface), (3, .addr 10 0), (5, tb true)] [(10, [ti 0])] hk rfl kr (.cons (kr : (E.ti 27).k = .iface) .nil) ?_
    clear hk; intro k hk
    refine Go.cond 20 hk rfl (t := true) rfl ?_; clear hk; intro k hk
    refine Go.rx 20 {} [10] [2] _ [(2, ti 0)] [] hk rfl kr .nil ?_
    clear hk; intro k hk
    exact Go.lvx 20 [] _ [ti 0] Tryd.func24 hk rfl kr .nil (T.Le.of_eq rfl) rfl rfl .nil
  · rw [er_ne p]
    refine Meets.enterX (E := E) (N := 10) (enc := bursarylaw34_num_enc) (x := (e : Int)) Tryd.func24 Tryd.call24 rfl rfl ?_
    intro Γ k hk
    refine Go.rx 20 {} [] [0] _ [(0, .iface 65 (ti e))] [] hk rfl kr .nil ?_
    clear hk; intro k hk
    refine Go.rx 20 { ws := [(0, { id := 10 })] } [] [0, 3] _ [(0, .iface 65 (ti e)), (3, .addr 10 0)] [(10, [ti 0])] hk rfl kr .nil ?_
    clear hk; intro k hk
    refine Go.rx 20 {} [] [0, 3, 5] _ [(0, .iface 65 (ti e)), (3, .addr 10 0), (5, tb false)] [(10, [ti 0])] hk rfl kr (.cons (kr : (E.ti 27).k = .iface) .nil) ?_
    clear hk; intro k hk
    refine Go.cond 20 hk rfl (t := false) rfl ?_; clear hk; intro k hk
    refine Go.rx 20 { ws := [(2, { call := some { ids := [10], S := [10], R := tb true, H' := [(10, [ti e])] } })] } [] [3, 8] _ [(3, .addr 10 0), (8, tb true)] [(10, [ti e])] hk rfl kr (.cons (meets_errAs 10 e 0) (.cons (rfl : subN (idsL [.iface 65 (ti e), .iface 69 (.addr 10 0)]) [10] = true) (.cons (rfl : subN (idsL [ti 0]) [10] = true) .nil))) ?_
    clear hk; intro k hk
    refine Go.cond 20 hk rfl (t := true) rfl ?_; clear hk; intro k hk
    refine Go.rx 20 {} [10] [2] _ [(2, ti e)] [] hk rfl kr .nil ?_
    clear hk; intro k hk
    exact Go.lvx 20 [] _ [ti e] Tryd.func24 hk rfl kr .nil (T.Le.of_eq rfl) rfl rfl .nil
noncomputable def wire_Number_k1 (o2 : List UInt8) : List UInt8 :=
  o2
noncomputable def wire_Number_l1 (n : UInt64) : Nat → Int → (List UInt8) → Lo (List UInt8) (List UInt8)
  | 0, _, _ => .brk default
  | ml1 + 1, t61, o1 =>
    bif decide (t61 < 8) then
      wire_Number_l1 n ml1 (t61 + 1) (o1 ++ [(shr64 n (56 - (8 * t61))).toUInt8])
    else
      Lo.brk o1
noncomputable def wire_Number (n : UInt64) : List UInt8 :=
  Lo.el (wire_Number_l1 n ((8 - (0 : Int)).toNat + 1) 0 []) (fun z : List UInt8 => wire_Number_k1 z)
def wire_Number_enc (x : List UInt8) : T × List (Nat × List T) := (.sl 1 .shr x.length (u8s x), [])
theorem wire_Number_m (n : UInt64) : Meets Tryd.prog 39 [t64 n] [] [] (.sl 1 .shr (wire_Number n).length (u8s (wire_Number n))) [] := by
  refine Meets.enterX (E := E) (N := 20) (enc := wire_Number_enc) (x := (wire_Number n)) Tryd.func39 Tryd.call39 rfl rfl ?_
  intro Γ k hk
  refine Go.rx 20 {} [] [0] _ [(0, t64 n)] [] hk rfl kr .nil ?_
  clear hk; intro k hk
  refine Go.rx 20 { ws := [(0, { id := 10 })] } [] [0, 3] _ [(0, t64 n), (3, .ref 10 1 0 0)] [(10, [])] hk rfl kr (.cons (by decide : 0 ≤ (0 : Int) ∧ (0 : Int) ≤ 8 ∧ (8 : Int) < 9223372036854775808 ∧ ((1 : Nat) : Int) * 8 ≤ 281474976710656) .nil) ?_
  clear hk; intro k hk
  refine Go.rx 20 {} [] [0, 3, 6] _ [(0, t64 n), (3, .ref 10 1 0 0), (6, ti 0)] [(10, [])] hk rfl kr .nil ?_
  clear hk; intro k hk
  refine Go.loopX 20 hk rfl ?_
  clear hk; intro kl1 kxl1 hl1 hxl1
  have Xl1 : ∀ (o2 : List UInt8), Go E Γ 39 20 [] ((PostX Γ wire_Number_enc) (wire_Number_k1 o2)) kxl1 (stL [(3, .ref 10 1 0 o2.length)] [(10, u8s o2)]) := by
    intro o2
    refine Go.rx 20 {} [] [2] _ [(2, .ref 10 1 0 o2.length)] [(10, u8s o2)] hxl1 rfl kr .nil ?_
    clear hxl1; intro kxl1 hxl1
    refine Go.frz [] [] 2 10 (u8s o2) _ [(2, .dead)] [] rfl rfl (mp_ids (g := (fun c : UInt8 => T.leaf (.int .u8 c.toNat))) o2 (fun _ => rfl)) (by simp only [List.length_map]; omega) (mp_all (g := (fun c : UInt8 => T.leaf (.int .u8 c.toNat))) o2) kr .nil ?_
    exact Go.lvx 20 [] _ [.sl 1 .shr o2.length (u8s o2)] Tryd.func39 hxl1 rfl kr .nil (T.Le.of_eq rfl) rfl rfl .nil
  have Ll1 : ∀ (ml1 : Nat) (t61 : Int) (o1 : List UInt8), (0 ≤ t61) → (t61 ≤ 8) → ((o1.length : Int) = t61) → ((8 - t61).toNat < ml1) → Go E Γ 39 20 [] ((PostX Γ wire_Number_enc) (Lo.el (wire_Number_l1 n ml1 t61 o1) (fun z : List UInt8 => wire_Number_k1 z))) kl1 (stL [(0, t64 n), (3, .ref 10 1 0 o1.length), (6, ti t61)] [(10, u8s o1)]) := by
    intro ml1
    induction ml1 with
    | zero => intro t61 o1 i0l1 i1l1 i2l1 hml1; exact absurd hml1 (Nat.not_lt_zero _)
    | succ ml1 ihl1 =>
      intro t61 o1 i0l1 i1l1 i2l1 hml1
      rw [wire_Number_l1]
      refine Go.round hl1 ?_
      intro k hk
      refine Go.rx 20 {} [] [0, 3, 6, 7] _ [(0, t64 n), (3, .ref 10 1 0 o1.length), (6, ti t61), (7, tb (decide (t61 < 8)))] [(10, u8s o1)] hk rfl kr (.cons trivial .nil) ?_
      clear hk; intro k hk
      refine Go.br 20 (Pf := (fun z : Lo (List UInt8) (List UInt8) => (PostX Γ wire_Number_enc) (Lo.el z (fun z : List UInt8 => wire_Number_k1 z)))) hk rfl rfl ?_ ?_ <;> clear hk <;> intro ct1 k hk
      · have ct1p := of_decide_eq_true ct1
        refine Go.rx 20 {} [] [0, 3, 4, 6] _ [(0, t64 n), (3, .ref 10 1 0 o1.length), (4, ti t61), (6, ti t61)] [(10, u8s o1)] hk rfl kr .nil ?_
        clear hk; intro k hk
        refine Go.rx 20 { ws := [(3, { v := some (ti (8 * t61)) }), (4, { v := some (ti (56 - (8 * t61))) }), (5, { v := some (t64 (shr64 n (56 - (8 * t61)))) }), (6, { v := some (t8 ((shr64 n (56 - (8 * t61))).toUInt8)) }), (7, { id := 11 }), (8, { v := some (.ref 10 1 0 ((o1 ++ [(shr64 n (56 - (8 * t61))).toUInt8]).length)), c := some (u8s (o1 ++ [(shr64 n (56 - (8 * t61))).toUInt8])), id := 10, sym := true })], pg := [10], fd := some [10] } [11] [0, 3, 6] _ [(0, t64 n), (3, .ref 10 1 0 ((o1 ++ [(shr64 n (56 - (8 * t61))).toUInt8]).length)), (6, ti t61)] [(10, u8s (o1 ++ [(shr64 n (56 - (8 * t61))).toUInt8]))] hk rfl kr (.cons trivial (.cons (iw (8 * t61) om) (.cons trivial (.cons (iw (56 - (8 * t61)) om) (.cons (om : 0 ≤ ((56 - (8 * t61)) : Int)) (.cons (shrT64 n (56 - (8 * t61))) (.cons (cv64_8 (shr64 n (56 - (8 * t61)))) (.cons (Nat.le_of_ble_eq_true rfl : 0 + 1 * 1 ≤ ([t8 ((shr64 n (56 - (8 * t61))).toUInt8)] : List T).length) (.cons (by simp only [List.length_map]; omega : 0 + o1.length * 1 ≤ (u8s o1).length) (.cons (rfl : scalL [t8 ((shr64 n (56 - (8 * t61))).toUInt8)] = true) (.cons (om : (o1.length + 1) * 1 ≤ 140737488355328) (.cons (mp_app (g := (fun c : UInt8 => T.leaf (.int .u8 c.toNat))) (o1) [(shr64 n (56 - (8 * t61))).toUInt8] rfl) (.cons (mp_mem (i := 10) (g := (fun c : UInt8 => T.leaf (.int .u8 c.toNat))) (o1 ++ [(shr64 n (56 - (8 * t61))).toUInt8]) (fun _ => rfl)) (.cons (by first | rfl | (simp; done) | (refine congrArg (fun q => T.ref 10 1 0 q) ?_; simp <;> omega) : T.ref 10 1 0 (o1.length + 1) = .ref 10 1 0 ((o1 ++ [(shr64 n (56 - (8 * t61))).toUInt8]).length)) (.cons (mp_mem (i := 11) (g := (fun c : UInt8 => T.leaf (.int .u8 c.toNat))) (o1 ++ [(shr64 n (56 - (8 * t61))).toUInt8]) (fun _ => rfl)) .nil))))))))))))))) ?_
        clear hk; intro k hk
        refine Go.rx 20 { ws := [(0, { v := some (ti (t61 + 1)) })] } [] [0, 3, 6] _ [(0, t64 n), (3, .ref 10 1 0 ((o1 ++ [(shr64 n (56 - (8 * t61))).toUInt8]).length)), (6, ti (t61 + 1))] [(10, u8s (o1 ++ [(shr64 n (56 - (8 * t61))).toUInt8]))] hk rfl kr (.cons trivial (.cons (iw (t61 + 1) om) .nil)) ?_
        clear hk; intro k hk
        exact Go.join 20 hk hl1 rfl (ihl1 (t61 + 1) (o1 ++ [(shr64 n (56 - (8 * t61))).toUInt8]) om om om om)
      · have ct1p := of_decide_eq_false ct1
        refine Go.keepN [3] (L' := [(3, .ref 10 1 0 o1.length)]) rfl ?_
        exact Go.exitX (Pf := (PostX Γ wire_Number_enc)) (F := fun z : List UInt8 => wire_Number_k1 z) (a := o1) (Go.join 20 hk hxl1 rfl (Xl1 o1))
  exact Ll1 _ 0 [] (by first | omega | rfl) (by first | omega | rfl) (by first | omega | rfl) (Nat.lt_succ_self _)
theorem number_eq (n : UInt64) : wire_Number n = (List.range 8).flatMap (fun k : Nat => [(shr64 n (56 - (8 * (k : Int)))).toUInt8]) := by
  rw [wire_Number, appLoop (f := wire_Number_l1 n) (n := 8) (g := fun i => [(shr64 n (56 - (8 * i))).toUInt8]) (fun m i o _ => by rw [wire_Number_l1]) _ _ _ (by omega) (by decide)]
  show [] ++ _ = _
  rw [List.nil_append]
  simp only [Int.zero_add]
  rfl
@[simp] theorem number_fact (n : UInt64) : (wire_Number n).length = 8 := by
  rw [number_eq, flat_len _ 1 8 (fun _ _ => rfl)]
attribute [irreducible] wire_Number_k1 wire_Number_l1 wire_Number
noncomputable def bursaryref31_Number_k1 (o2 : List UInt8) : List UInt8 :=
  o2
noncomputable def bursaryref31_Number_l1  : Nat → UInt64 → Int → (List UInt8) → Lo (List UInt8) (List UInt8)
  | 0, _, _, _ => .brk default
  | ml1 + 1, n1, i1, o1 =>
    bif decide (i1 ≥ 0) then
      bursaryref31_Number_l1 ml1 (n1 / 256) (i1 - 1) (o1.set i1.toNat ((n1 % 256).toUInt8))
    else
      Lo.brk o1
noncomputable def bursaryref31_Number (n : UInt64) : List UInt8 :=
  Lo.el (bursaryref31_Number_l1 (((7 : Int) + 1).toNat + 1) n 7 (List.replicate 8 (0 : UInt8))) (fun z : List UInt8 => bursaryref31_Number_k1 z)
def bursaryref31_Number_enc (x : List UInt8) : T × List (Nat × List T) := (.ref 99 1 0 x.length, [(99, u8s x)])
theorem bursaryref31_Number_m (n : UInt64) : Meets Tryd.prog 40 [t64 n] [] [] (.ref 99 1 0 ((bursaryref31_Number n).length)) [(99, u8s (bursaryref31_Number n))] := by
  refine Meets.enterX (E := E) (N := 19) (enc := bursaryref31_Number_enc) (x := (bursaryref31_Number n)) Tryd.func40 Tryd.call40 rfl rfl ?_
  intro Γ k hk
  refine Go.rx 20 {} [] [0] _ [(0, t64 n)] [] hk rfl kr .nil ?_
  clear hk; intro k hk
  refine Go.rx 20 { ws := [(0, { v := some (.ref 10 1 0 ((List.replicate 8 (0 : UInt8)).length)), c := some (u8s (List.replicate 8 (0 : UInt8))), id := 10 })] } [] [0, 3] _ [(0, t64 n), (3, .ref 10 1 0 ((List.replicate 8 (0 : UInt8)).length))] [(10, u8s (List.replicate 8 (0 : UInt8)))] hk rfl kr (.cons (by decide : 0 ≤ (8 : Int) ∧ (8 : Int) ≤ 8 ∧ (8 : Int) < 9223372036854775808 ∧ ((1 : Nat) : Int) * 8 ≤ 281474976710656) (.cons (mp_zeros (g := (fun c : UInt8 => T.leaf (.int .u8 c.toNat))) (n := Int.toNat 8) (x := (0 : UInt8)) (z := [.int .u8 0]) rfl) (.cons (by simp : T.ref 10 1 0 (Int.toNat 8) = .ref 10 1 0 ((List.replicate 8 (0 : UInt8)).length)) .nil))) ?_
  clear hk; intro k hk
  refine Go.rx 20 {} [] [0, 3, 4] _ [(0, t64 n), (3, .ref 10 1 0 ((List.replicate 8 (0 : UInt8)).length)), (4, ti 7)] [(10, u8s (List.replicate 8 (0 : UInt8)))] hk rfl kr .nil ?_
  clear hk; intro k hk
  refine Go.loopX 20 hk rfl ?_
  clear hk; intro kl1 kxl1 hl1 hxl1
  have Xl1 : ∀ (o2 : List UInt8), Go E Γ 40 19 [] ((PostX Γ bursaryref31_Number_enc) (bursaryref31_Number_k1 o2)) kxl1 (stL [(3, .ref 10 1 0 o2.length)] [(10, u8s o2)]) := by
    intro o2
    refine Go.rx 20 {} [] [2] _ [(2, .ref 10 1 0 o2.length)] [(10, u8s o2)] hxl1 rfl kr .nil ?_
    clear hxl1; intro kxl1 hxl1
    refine Go.sw (L' := [(2, .ref 99 1 0 o2.length)]) (H' := [(99, u8s o2)]) [(99, 10)] ?_
    exact Go.lvx 20 [99] _ [.ref 99 1 0 o2.length] Tryd.func40 hxl1 rfl kr .nil (T.Le.of_eq rfl) rfl rfl (.cons (by first | rfl | (rw [mp_ids (g := (fun c : UInt8 => T.leaf (.int .u8 c.toNat))) _ (fun _ => rfl)]; rfl)) .nil)
  have Ll1 : ∀ (ml1 : Nat) (n1 : UInt64) (i1 : Int) (o1 : List UInt8), (-1 ≤ i1) → (i1 ≤ 7) → (o1.length = 8) → ((i1 + 1).toNat < ml1) → Go E Γ 40 19 [] ((PostX Γ bursaryref31_Number_enc) (Lo.el (bursaryref31_Number_l1 ml1 n1 i1 o1) (fun z : List UInt8 => bursaryref31_Number_k1 z))) kl1 (stL [(0, t64 n1), (3, .ref 10 1 0 o1.length), (4, ti i1)] [(10, u8s o1)]) := by
    intro ml1
    induction ml1 with
    | zero => intro n1 i1 o1 i0l1 i1l1 i2l1 hml1; exact absurd hml1 (Nat.not_lt_zero _)
    | succ ml1 ihl1 =>
      intro n1 i1 o1 i0l1 i1l1 i2l1 hml1
      rw [bursaryref31_Number_l1]
      refine Go.round hl1 ?_
      intro k hk
      refine Go.rx 20 {} [] [0, 3, 4, 7] _ [(0, t64 n1), (3, .ref 10 1 0 o1.length), (4, ti i1), (7, tb (decide (i1 ≥ 0)))] [(10, u8s o1)] hk rfl kr (.cons trivial .nil) ?_
      clear hk; intro k hk
      refine Go.br 20 (Pf := (fun z : Lo (List UInt8) (List UInt8) => (PostX Γ bursaryref31_Number_enc) (Lo.el z (fun z : List UInt8 => bursaryref31_Number_k1 z)))) hk rfl rfl ?_ ?_ <;> clear hk <;> intro ct1 k hk
      · have ct1p := of_decide_eq_true ct1
        refine Go.rx 20 { ws := [(3, { v := some (t64 (n1 % 256)) }), (4, { v := some (t8 ((n1 % 256).toUInt8)) }), (6, { c := some (u8s (o1.set i1.toNat ((n1 % 256).toUInt8))), sym := true })] } [] [0, 3, 4] _ [(0, t64 n1), (3, .ref 10 1 0 o1.length), (4, ti i1)] [(10, u8s (o1.set i1.toNat ((n1 % 256).toUInt8)))] hk rfl kr (.cons (by decide : ((256 : UInt64).toNat : Int) ≠ (0 : Int)) (.cons (rem64 n1 256) (.cons (cv64_8 (n1 % 256)) (.cons (om : 0 ≤ (i1 : Int) ∧ (i1 : Int) < ((o1.length : Nat) : Int)) (.cons (rfl : scalL [t8 ((n1 % 256).toUInt8)] = true) (.cons (by decide : 1 ≤ 1) (.cons (by decide : 1 ≤ 1) (.cons (by simp only [List.length_map]; first | omega | (simp <;> omega) | (simp at * <;> omega) | (split <;> omega) | (split <;> (first | omega | (simp <;> omega) | (simp at * <;> omega))) : 0 + i1.toNat * 1 + 1 ≤ (u8s o1).length) (.cons (mp_set (g := (fun c : UInt8 => T.leaf (.int .u8 c.toNat))) (k := 0 + i1.toNat * 1) (n := i1.toNat) (x := (n1 % 256).toUInt8) o1 rfl (by omega) om) .nil))))))))) ?_
        clear hk; intro k hk
        refine Go.rx 20 { ws := [(1, { v := some (t64 (n1 / 256)) })] } [] [0, 3, 4] _ [(0, t64 (n1 / 256)), (3, .ref 10 1 0 o1.length), (4, ti i1)] [(10, u8s (o1.set i1.toNat ((n1 % 256).toUInt8)))] hk rfl kr (.cons (by decide : ((256 : UInt64).toNat : Int) ≠ (0 : Int)) (.cons (quo64 n1 256) .nil)) ?_
        clear hk; intro k hk
        refine Go.rx 20 { ws := [(1, { v := some (ti (i1 - 1)) })] } [] [0, 3, 4] _ [(0, t64 (n1 / 256)), (3, .ref 10 1 0 o1.length), (4, ti (i1 - 1))] [(10, u8s (o1.set i1.toNat ((n1 % 256).toUInt8)))] hk rfl kr (.cons trivial (.cons (iw (i1 - 1) om) .nil)) ?_
        clear hk; intro k hk
        refine Go.slotEq 3 (.ref 10 1 0 ((o1.set i1.toNat ((n1 % 256).toUInt8)).length)) rfl (congrArg (fun q => T.ref 10 1 0 q) (by first | (simp only [List.length_set, cpy_length, List.length_replicate, List.length_cons, List.length_nil, List.length_append]; omega) | (simp [cpy_length]; omega) | simp : o1.length = (o1.set i1.toNat ((n1 % 256).toUInt8)).length)) ?_
        exact Go.join 20 hk hl1 rfl (ihl1 (n1 / 256) (i1 - 1) (o1.set i1.toNat ((n1 % 256).toUInt8)) om om om om)
      · have ct1p := of_decide_eq_false ct1
        refine Go.keepN [3] (L' := [(3, .ref 10 1 0 o1.length)]) rfl ?_
        exact Go.exitX (Pf := (PostX Γ bursaryref31_Number_enc)) (F := fun z : List UInt8 => bursaryref31_Number_k1 z) (a := o1) (Go.join 20 hk hxl1 rfl (Xl1 o1))
  exact Ll1 _ n 7 (List.replicate 8 (0 : UInt8)) (by first | omega | simp) (by first | omega | simp) (by first | omega | simp) (Nat.lt_succ_self _)
@[simp] theorem rnumber_len (n : UInt64) : (bursaryref31_Number n).length = 8 := by kernel_rfl
attribute [irreducible] bursaryref31_Number_k1 bursaryref31_Number_l1 bursaryref31_Number
noncomputable def wire_Read_k1 (n2 : UInt64) : UInt64 × Int :=
  (n2, 0)
noncomputable def wire_Read_l1 (b : List UInt8) : Nat → UInt64 → Int → Lo UInt64 (UInt64 × Int)
  | 0, _, _ => .brk default
  | ml1 + 1, n1, t131 =>
    bif decide (t131 < (b.length : Int)) then
      wire_Read_l1 b ml1 ((shl64 n1 8) ||| ((b.getD t131.toNat 0).toUInt64)) (t131 + 1)
    else
      Lo.brk n1
noncomputable def wire_Read (b : List UInt8) : UInt64 × Int :=
  bif (b.length : Int) != 8 then
    (0, 4)
  else
    Lo.el (wire_Read_l1 b (((b.length : Int) - (0 : Int)).toNat + 1) 0 0) (fun z : UInt64 => wire_Read_k1 z)
def wire_Read_enc (x : UInt64 × Int) : T × List (Nat × List T) := (.tup [t64 x.1, er 65 x.2], [])
theorem wire_Read_m {g_b : Tag} (b : List UInt8) : Meets Tryd.prog 36 [.sl 1 g_b b.length (u8s b)] [] [] (.tup [t64 ((wire_Read b).1), er 65 ((wire_Read b).2)]) [] := by
  refine Meets.enterX (E := E) (N := 24) (enc := wire_Read_enc) (x := (wire_Read b)) Tryd.func36 Tryd.call36 rfl rfl ?_
  intro Γ k hk
  refine Go.rx 20 {} [] [0] _ [(0, .sl 1 g_b b.length (u8s b))] [] hk rfl kr .nil ?_
  clear hk; intro k hk
  refine Go.rx 20 {} [] [0, 9] _ [(0, .sl 1 g_b b.length (u8s b)), (9, tb ((b.length : Int) != 8))] [] hk rfl kr (.cons trivial .nil) ?_
  clear hk; intro k hk
  refine Go.br 20 (Pf := (PostX Γ wire_Read_enc)) hk rfl rfl ?_ ?_ <;> clear hk <;> intro ct1 k hk
  · have ct1p := neIt ct1
    refine Go.rx 20 {} [] [2, 3] _ [(2, t64 0), (3, er 65 4)] [] hk rfl kr .nil ?_
    clear hk; intro k hk
    exact Go.lvx 20 [] _ [t64 0, er 65 4] Tryd.func36 hk rfl kr .nil (T.Le.tup (.cons (T.Le.of_eq rfl) (.cons (T.Le.of_eq rfl) .nil))) rfl (by first | rfl | (simp only [wire_Read_enc, T.ids, idsL, er_ids, List.append_nil, List.nil_append]; first | rfl | (rw [mp_ids _ (fun _ => rfl)]; rfl))) .nil
  · have ct1p := neIf ct1
    refine Go.rx 20 {} [] [0, 4] _ [(0, .sl 1 g_b b.length (u8s b)), (4, t64 0)] [] hk rfl kr .nil ?_
    clear hk; intro k hk
    refine Go.rx 20 {} [] [4, 11, 12, 13] _ [(4, t64 0), (11, .sl 1 g_b b.length (u8s b)), (12, ti (b.length : Int)), (13, ti 0)] [] hk rfl kr .nil ?_
    clear hk; intro k hk
    refine Go.loopX 20 hk rfl ?_
    clear hk; intro kl1 kxl1 hl1 hxl1
    have Xl1 : ∀ (n2 : UInt64), Go E Γ 36 24 [] ((PostX Γ wire_Read_enc) (wire_Read_k1 n2)) kxl1 (stL [(4, t64 n2)] []) := by
      intro n2
      refine Go.rx 20 {} [] [2, 3] _ [(2, t64 n2), (3, .leaf .nilIface)] [] hxl1 rfl kr .nil ?_
      clear hxl1; intro kxl1 hxl1
      exact Go.lvx 20 [] _ [t64 n2, .leaf .nilIface] Tryd.func36 hxl1 rfl kr .nil (T.Le.tup (.cons (T.Le.of_eq rfl) (.cons (T.Le.of_eq rfl) .nil))) rfl rfl .nil
    have Ll1 : ∀ (ml1 : Nat) (n1 : UInt64) (t131 : Int), (0 ≤ t131) → (((b.length : Int) - t131).toNat < ml1) → Go E Γ 36 24 [] ((PostX Γ wire_Read_enc) (Lo.el (wire_Read_l1 b ml1 n1 t131) (fun z : UInt64 => wire_Read_k1 z))) kl1 (stL [(4, t64 n1), (11, .sl 1 g_b b.length (u8s b)), (12, ti (b.length : Int)), (13, ti t131)] []) := by
      intro ml1
      induction ml1 with
      | zero => intro n1 t131 i0l1 hml1; exact absurd hml1 (Nat.not_lt_zero _)
      | succ ml1 ihl1 =>
        intro n1 t131 i0l1 hml1
        rw [wire_Read_l1]
        refine Go.round hl1 ?_
        intro k hk
        refine Go.rx 20 {} [] [4, 11, 12, 13, 14] _ [(4, t64 n1), (11, .sl 1 g_b b.length (u8s b)), (12, ti (b.length : Int)), (13, ti t131), (14, tb (decide (t131 < (b.length : Int))))] [] hk rfl kr (.cons trivial .nil) ?_
        clear hk; intro k hk
        refine Go.br 20 (Pf := (fun z : Lo (UInt64) (UInt64 × Int) => (PostX Γ wire_Read_enc) (Lo.el z (fun z : UInt64 => wire_Read_k1 z)))) hk rfl rfl ?_ ?_ <;> clear hk <;> intro ct2 k hk
        · have ct2p := of_decide_eq_true ct2
          refine Go.rx 20 { ws := [(1, { v := some (t8 (b.getD t131.toNat 0)) })] } [] [4, 6, 11, 12, 13] _ [(4, t64 n1), (6, t8 (b.getD t131.toNat 0)), (11, .sl 1 g_b b.length (u8s b)), (12, ti (b.length : Int)), (13, ti t131)] [] hk rfl kr (.cons (by omega : 0 ≤ (t131 : Int) ∧ (t131 : Int) < ((b.length : Nat) : Int)) (.cons (part1 (kr : (E.ti 5).agg = false) (mp_get (g := (fun c : UInt8 => T.leaf (.int .u8 c.toNat))) (k := t131.toNat * 1) (n := t131.toNat) b (0 : UInt8) (by omega) (by omega))) .nil)) ?_
          clear hk; intro k hk
          refine Go.rx 20 { ws := [(1, { v := some (t64 (shl64 n1 8)) }), (3, { v := some (t64 ((b.getD t131.toNat 0).toUInt64)) }), (4, { v := some (t64 ((shl64 n1 8) ||| ((b.getD t131.toNat 0).toUInt64))) })] } [] [4, 11, 12, 13] _ [(4, t64 ((shl64 n1 8) ||| ((b.getD t131.toNat 0).toUInt64))), (11, .sl 1 g_b b.length (u8s b)), (12, ti (b.length : Int)), (13, ti t131)] [] hk rfl kr (.cons (by decide : 0 ≤ (8 : Int)) (.cons (shlT64 n1 8) (.cons (cv8_64 (b.getD t131.toNat 0)) (.cons trivial (.cons (or64 (shl64 n1 8) ((b.getD t131.toNat 0).toUInt64)) .nil))))) ?_
          clear hk; intro k hk
          refine Go.rx 20 { ws := [(0, { v := some (ti (t131 + 1)) })] } [] [4, 11, 12, 13] _ [(4, t64 ((shl64 n1 8) ||| ((b.getD t131.toNat 0).toUInt64))), (11, .sl 1 g_b b.length (u8s b)), (12, ti (b.length : Int)), (13, ti (t131 + 1))] [] hk rfl kr (.cons trivial (.cons (iw (t131 + 1) (by omega)) .nil)) ?_
          clear hk; intro k hk
          exact Go.join 20 hk hl1 rfl (ihl1 ((shl64 n1 8) ||| ((b.getD t131.toNat 0).toUInt64)) (t131 + 1) (by omega) (by omega))
        · have ct2p := of_decide_eq_false ct2
          refine Go.keepN [4] (L' := [(4, t64 n1)]) rfl ?_
          exact Go.exitX (Pf := (PostX Γ wire_Read_enc)) (F := fun z : UInt64 => wire_Read_k1 z) (a := n1) (Go.join 20 hk hxl1 rfl (Xl1 n1))
    exact Ll1 _ 0 0 (by omega) (Nat.lt_succ_self _)
attribute [irreducible] wire_Read_k1 wire_Read_l1 wire_Read
noncomputable def bursaryref31_Read_k1 (n2 : UInt64) : UInt64 × Int :=
  (n2, 0)
noncomputable def bursaryref31_Read_l1 (b : List UInt8) : Nat → UInt64 → Int → Lo UInt64 (UInt64 × Int)
  | 0, _, _ => .brk default
  | ml1 + 1, n1, i1 =>
    bif decide (i1 < 8) then
      bursaryref31_Read_l1 b ml1 ((256 * n1) + ((b.getD i1.toNat 0).toUInt64)) (i1 + 1)
    else
      Lo.brk n1
noncomputable def bursaryref31_Read (b : List UInt8) : UInt64 × Int :=
  bif (b.length : Int) != 8 then
    (0, 4)
  else
    Lo.el (bursaryref31_Read_l1 b ((8 - (0 : Int)).toNat + 1) 0 0) (fun z : UInt64 => bursaryref31_Read_k1 z)
def bursaryref31_Read_enc (x : UInt64 × Int) : T × List (Nat × List T) := (.tup [t64 x.1, ti x.2], [])
theorem bursaryref31_Read_m {g_b : Tag} (b : List UInt8) : Meets Tryd.prog 37 [.sl 1 g_b b.length (u8s b)] [] [] (.tup [t64 ((bursaryref31_Read b).1), ti ((bursaryref31_Read b).2)]) [] := by
  refine Meets.enterX (E := E) (N := 22) (enc := bursaryref31_Read_enc) (x := (bursaryref31_Read b)) Tryd.func37 Tryd.call37 rfl rfl ?_
  intro Γ k hk
  refine Go.rx 20 {} [] [0] _ [(0, .sl 1 g_b b.length (u8s b))] [] hk rfl kr .nil ?_
  clear hk; intro k hk
  refine Go.rx 20 {} [] [0, 8] _ [(0, .sl 1 g_b b.length (u8s b)), (8, tb ((b.length : Int) != 8))] [] hk rfl kr (.cons trivial .nil) ?_
  clear hk; intro k hk
  refine Go.br 20 (Pf := (PostX Γ bursaryref31_Read_enc)) hk rfl rfl ?_ ?_ <;> clear hk <;> intro ct1 k hk
  · have ct1p := neIt ct1
    refine Go.rx 20 {} [] [2, 3] _ [(2, t64 0), (3, ti 4)] [] hk rfl kr .nil ?_
    clear hk; intro k hk
    exact Go.lvx 20 [] _ [t64 0, ti 4] Tryd.func37 hk rfl kr .nil (T.Le.tup (.cons (T.Le.of_eq rfl) (.cons (T.Le.of_eq rfl) .nil))) rfl rfl .nil
  · have ct1p := neIf ct1
    refine Go.rx 20 {} [] [0, 4] _ [(0, .sl 1 g_b b.length (u8s b)), (4, t64 0)] [] hk rfl kr .nil ?_
    clear hk; intro k hk
    refine Go.rx 20 {} [] [0, 4, 5] _ [(0, .sl 1 g_b b.length (u8s b)), (4, t64 0), (5, ti 0)] [] hk rfl kr .nil ?_
    clear hk; intro k hk
    refine Go.loopX 20 hk rfl ?_
    clear hk; intro kl1 kxl1 hl1 hxl1
    have Xl1 : ∀ (n2 : UInt64), Go E Γ 37 22 [] ((PostX Γ bursaryref31_Read_enc) (bursaryref31_Read_k1 n2)) kxl1 (stL [(4, t64 n2)] []) := by
      intro n2
      refine Go.rx 20 {} [] [2, 3] _ [(2, t64 n2), (3, ti 0)] [] hxl1 rfl kr .nil ?_
      clear hxl1; intro kxl1 hxl1
      exact Go.lvx 20 [] _ [t64 n2, ti 0] Tryd.func37 hxl1 rfl kr .nil (T.Le.tup (.cons (T.Le.of_eq rfl) (.cons (T.Le.of_eq rfl) .nil))) rfl rfl .nil
    have Ll1 : ∀ (ml1 : Nat) (n1 : UInt64) (i1 : Int), (0 ≤ i1) → ((8 - i1).toNat < ml1) → Go E Γ 37 22 [] ((PostX Γ bursaryref31_Read_enc) (Lo.el (bursaryref31_Read_l1 b ml1 n1 i1) (fun z : UInt64 => bursaryref31_Read_k1 z))) kl1 (stL [(0, .sl 1 g_b b.length (u8s b)), (4, t64 n1), (5, ti i1)] []) := by
      intro ml1
      induction ml1 with
      | zero => intro n1 i1 i0l1 hml1; exact absurd hml1 (Nat.not_lt_zero _)
      | succ ml1 ihl1 =>
        intro n1 i1 i0l1 hml1
        rw [bursaryref31_Read_l1]
        refine Go.round hl1 ?_
        intro k hk
        refine Go.rx 20 {} [] [0, 4, 5, 10] _ [(0, .sl 1 g_b b.length (u8s b)), (4, t64 n1), (5, ti i1), (10, tb (decide (i1 < 8)))] [] hk rfl kr (.cons trivial .nil) ?_
        clear hk; intro k hk
        refine Go.br 20 (Pf := (fun z : Lo (UInt64) (UInt64 × Int) => (PostX Γ bursaryref31_Read_enc) (Lo.el z (fun z : UInt64 => bursaryref31_Read_k1 z)))) hk rfl rfl ?_ ?_ <;> clear hk <;> intro ct2 k hk
        · have ct2p := of_decide_eq_true ct2
          refine Go.rx 20 { ws := [(1, { v := some (t64 (256 * n1)) }), (5, { v := some (t8 (b.getD i1.toNat 0)) }), (6, { v := some (t64 ((b.getD i1.toNat 0).toUInt64)) }), (7, { v := some (t64 ((256 * n1) + ((b.getD i1.toNat 0).toUInt64))) })] } [] [0, 4, 5] _ [(0, .sl 1 g_b b.length (u8s b)), (4, t64 ((256 * n1) + ((b.getD i1.toNat 0).toUInt64))), (5, ti i1)] [] hk rfl kr (.cons trivial (.cons (mul64 256 n1) (.cons (by omega : 0 ≤ (i1 : Int) ∧ (i1 : Int) < ((b.length : Nat) : Int)) (.cons (part1 (kr : (E.ti 5).agg = false) (mp_get (g := (fun c : UInt8 => T.leaf (.int .u8 c.toNat))) (k := i1.toNat * 1) (n := i1.toNat) b (0 : UInt8) (by omega) (by omega))) (.cons (cv8_64 (b.getD i1.toNat 0)) (.cons trivial (.cons (add64 (256 * n1) ((b.getD i1.toNat 0).toUInt64)) .nil))))))) ?_
          clear hk; intro k hk
          refine Go.rx 20 { ws := [(1, { v := some (ti (i1 + 1)) })] } [] [0, 4, 5] _ [(0, .sl 1 g_b b.length (u8s b)), (4, t64 ((256 * n1) + ((b.getD i1.toNat 0).toUInt64))), (5, ti (i1 + 1))] [] hk rfl kr (.cons trivial (.cons (iw (i1 + 1) (by omega)) .nil)) ?_
          clear hk; intro k hk
          exact Go.join 20 hk hl1 rfl (ihl1 ((256 * n1) + ((b.getD i1.toNat 0).toUInt64)) (i1 + 1) (by omega) (by omega))
        · have ct2p := of_decide_eq_false ct2
          refine Go.keepN [4] (L' := [(4, t64 n1)]) rfl ?_
          exact Go.exitX (Pf := (PostX Γ bursaryref31_Read_enc)) (F := fun z : UInt64 => bursaryref31_Read_k1 z) (a := n1) (Go.join 20 hk hxl1 rfl (Xl1 n1))
    exact Ll1 _ 0 0 (by omega) (Nat.lt_succ_self _)
attribute [irreducible] bursaryref31_Read_k1 bursaryref31_Read_l1 bursaryref31_Read
end Go.Proofs.YtdlnppcndcfikaaDoor

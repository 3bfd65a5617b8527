import Derived.Test.YtbppcnhfeobefaaDoorG1b
set_option linter.unusedVariables false
set_option linter.unusedSimpArgs false
namespace Go.Proofs.YtbppcnhfeobefaaDoor
open Go Go.Vw Go.Proofs
theorem qg2_1 {p : Prop} (h : p := by first | rfl | (simp only [engine_find_enc, T.ids, idsL, er_ids, List.append_nil, List.nil_append]; first | rfl | (rw [mp_ids _ (fun _ => rfl)]; rfl))) : p := h
noncomputable def engine_find_1 (v0 : UInt32) (v1 : List UInt8) (v2 : UInt64) (v3 : Int) (a10 : UInt32) : Bool × UInt32 :=
  (v0 == a10, a10)
def engine_find_1_enc (x : Bool × UInt32) : T × List (Nat × List T) := (tb x.1, [(1, [t32 x.2])])
theorem engine_find_1_m {g_v1 : Tag} (v0 : UInt32) (v1 : List UInt8) (v2 : UInt64) (v3 : Int) (a10 : UInt32) : Meets Tryd.prog 129 [.agg [t32 v0, .sl 1 g_v1 v1.length (u8s v1), t64 v2, ti v3], .addr 1 0] ([(1, [t32 a10])]) [1] (tb ((engine_find_1 v0 v1 v2 v3 a10).1)) ([(1, [t32 ((engine_find_1 v0 v1 v2 v3 a10).2)])]) := by
  refine Meets.enterX (E := E) (N := 8) (enc := engine_find_1_enc) (x := (engine_find_1 v0 v1 v2 v3 a10)) Tryd.func129 Tryd.call129 rfl rfl ?_
  intro Γ k hk
  refine Go.rx 20 { ws := [(0, { id := 10 })] } [] [1, 2] _ [(1, .addr 1 0), (2, .addr 10 0)] [(1, [t32 a10]), (10, [t32 v0, .sl 1 g_v1 v1.length (u8s v1), t64 v2, ti v3])] hk rfl kr .nil ?_
  clear hk; intro k hk
  refine Go.rx 20 { ws := [(3, { v := some (tb (v0 == a10)) })] } [10] [3] _ [(3, tb (v0 == a10))] [(1, [t32 a10])] hk rfl kr (.cons trivial (.cons (eqB32 v0 a10) .nil)) ?_
  clear hk; intro k hk
  exact Go.lvx 20 [1] _ [tb (v0 == a10)] Tryd.func129 hk rfl kr .nil (T.Le.of_eq rfl) rfl rfl (.cons sb .nil)
attribute [irreducible] engine_find_1
noncomputable def slices_IndexFunc_engine_Version_engine_Version_k1 (c40_0_2 : UInt32) : Int × UInt32 :=
  ((-1), c40_0_2)
noncomputable def slices_IndexFunc_engine_Version_engine_Version_l1 (s : List (UInt32 × List UInt8 × UInt64 × Int)) : Nat → Int → UInt32 → Lo UInt32 (Int × UInt32)
  | 0, _, _ => .brk default
  | ml1 + 1, t81, c40_0_1 =>
    bif decide (t81 < (s.length : Int)) then
      bnd (engine_find_1 ((s.getD t81.toNat ((0, [], 0, 0) : UInt32 × List UInt8 × UInt64 × Int)).1) ((s.getD t81.toNat ((0, [], 0, 0) : UInt32 × List UInt8 × UInt64 × Int)).2.1) ((s.getD t81.toNat ((0, [], 0, 0) : UInt32 × List UInt8 × UInt64 × Int)).2.2.1) ((s.getD t81.toNat ((0, [], 0, 0) : UInt32 × List UInt8 × UInt64 × Int)).2.2.2) c40_0_1) fun x1 =>
      bif x1.1 then
        Lo.ret (t81, x1.2)
      else
        slices_IndexFunc_engine_Version_engine_Version_l1 s ml1 (t81 + 1) x1.2
    else
      Lo.brk c40_0_1
noncomputable def slices_IndexFunc_engine_Version_engine_Version (s : List (UInt32 × List UInt8 × UInt64 × Int)) (f400 : UInt32) : Int × UInt32 :=
  Lo.el (slices_IndexFunc_engine_Version_engine_Version_l1 s (((s.length : Int) - (0 : Int)).toNat + 1) 0 f400) (fun z : UInt32 => slices_IndexFunc_engine_Version_engine_Version_k1 z)
def slices_IndexFunc_engine_Version_engine_Version_enc (x : Int × UInt32) : T × List (Nat × List T) := (ti x.1, [(40, [t32 x.2])])
theorem slices_IndexFunc_engine_Version_engine_Version_m {g_s : Tag} (s : List (UInt32 × List UInt8 × UInt64 × Int)) (f400 : UInt32) (hs : s.length ≤ 1000) : Meets Tryd.prog 128 [.sl 4 g_s s.length (fl (fun c : UInt32 × List UInt8 × UInt64 × Int => [t32 c.1, .sl 1 .shr c.2.1.length (u8s c.2.1), t64 c.2.2.1, ti c.2.2.2]) s), .fn (.func 129) [] [.addr 40 0]] ([(40, [t32 f400])]) [40] (ti ((slices_IndexFunc_engine_Version_engine_Version s f400).1)) ([(40, [t32 ((slices_IndexFunc_engine_Version_engine_Version s f400).2)])]) := by
  refine Meets.enterX (E := E) (N := 19) (enc := slices_IndexFunc_engine_Version_engine_Version_enc) (x := (slices_IndexFunc_engine_Version_engine_Version s f400)) Tryd.func128 Tryd.call128 rfl rfl ?_
  intro Γ k hk
  refine Go.rx 20 {} [] [0, 1] _ [(0, .sl 4 g_s s.length (fl (fun c : UInt32 × List UInt8 × UInt64 × Int => [t32 c.1, .sl 1 .shr c.2.1.length (u8s c.2.1), t64 c.2.2.1, ti c.2.2.2]) s)), (1, .fn (.func 129) [] [.addr 40 0])] [(40, [t32 f400])] hk rfl kr .nil ?_
  clear hk; intro k hk
  refine Go.rx 20 {} [] [0, 1, 7, 8] _ [(0, .sl 4 g_s s.length (fl (fun c : UInt32 × List UInt8 × UInt64 × Int => [t32 c.1, .sl 1 .shr c.2.1.length (u8s c.2.1), t64 c.2.2.1, ti c.2.2.2]) s)), (1, .fn (.func 129) [] [.addr 40 0]), (7, ti (s.length : Int)), (8, ti 0)] [(40, [t32 f400])] hk rfl kr .nil ?_
  clear hk; intro k hk
  refine Go.loopX 20 hk rfl ?_
  clear hk; intro kl1 kxl1 hl1 hxl1
  have Xl1 : ∀ (c40_0_2 : UInt32), Go E Γ 128 19 [40] ((PostX Γ slices_IndexFunc_engine_Version_engine_Version_enc) (slices_IndexFunc_engine_Version_engine_Version_k1 c40_0_2)) kxl1 (stL [] [(40, [t32 c40_0_2])]) := by
    intro c40_0_2
    refine Go.rx 20 {} [] [4] _ [(4, ti (-1))] [(40, [t32 c40_0_2])] hxl1 rfl kr .nil ?_
    clear hxl1; intro kxl1 hxl1
    exact Go.lvx 20 [40] _ [ti (-1)] Tryd.func128 hxl1 rfl kr .nil (T.Le.of_eq rfl) rfl rfl (.cons sb .nil)
  have Ll1 : ∀ (ml1 : Nat) (t81 : Int) (c40_0_1 : UInt32), (0 ≤ t81) → (((s.length : Int) - t81).toNat < ml1) → Go E Γ 128 19 [40] ((PostX Γ slices_IndexFunc_engine_Version_engine_Version_enc) (Lo.el (slices_IndexFunc_engine_Version_engine_Version_l1 s ml1 t81 c40_0_1) (fun z : UInt32 => slices_IndexFunc_engine_Version_engine_Version_k1 z))) kl1 (stL [(0, .sl 4 g_s s.length (fl (fun c : UInt32 × List UInt8 × UInt64 × Int => [t32 c.1, .sl 1 .shr c.2.1.length (u8s c.2.1), t64 c.2.2.1, ti c.2.2.2]) s)), (1, .fn (.func 129) [] [.addr 40 0]), (7, ti (s.length : Int)), (8, ti t81)] [(40, [t32 c40_0_1])]) := by
    intro ml1
    induction ml1 with
    | zero => intro t81 c40_0_1 i0l1 hml1; exact absurd hml1 (Nat.not_lt_zero _)
    | succ ml1 ihl1 =>
      intro t81 c40_0_1 i0l1 hml1
      rw [slices_IndexFunc_engine_Version_engine_Version_l1]
      refine Go.round hl1 ?_
      intro k hk
      refine Go.rx 20 {} [] [0, 1, 7, 8, 9] _ [(0, .sl 4 g_s s.length (fl (fun c : UInt32 × List UInt8 × UInt64 × Int => [t32 c.1, .sl 1 .shr c.2.1.length (u8s c.2.1), t64 c.2.2.1, ti c.2.2.2]) s)), (1, .fn (.func 129) [] [.addr 40 0]), (7, ti (s.length : Int)), (8, ti t81), (9, tb (decide (t81 < (s.length : Int))))] [(40, [t32 c40_0_1])] hk rfl kr (.cons trivial .nil) ?_
      clear hk; intro k hk
      refine Go.br 20 (Pf := (fun z : Lo (UInt32) (Int × UInt32) => (PostX Γ slices_IndexFunc_engine_Version_engine_Version_enc) (Lo.el z (fun z : UInt32 => slices_IndexFunc_engine_Version_engine_Version_k1 z)))) hk rfl rfl ?_ ?_ <;> clear hk <;> intro ct1 k hk
      · have ct1p := of_decide_eq_true ct1
        refine Go.rx 20 {} [] [0, 1, 5, 7, 8] _ [(0, .sl 4 g_s s.length (fl (fun c : UInt32 × List UInt8 × UInt64 × Int => [t32 c.1, .sl 1 .shr c.2.1.length (u8s c.2.1), t64 c.2.2.1, ti c.2.2.2]) s)), (1, .fn (.func 129) [] [.addr 40 0]), (5, ti t81), (7, ti (s.length : Int)), (8, ti t81)] [(40, [t32 c40_0_1])] hk rfl kr .nil ?_
        clear hk; intro k hk
        refine Go.rx 20 { ws := [(4, { v := some (.agg ([t32 ((s.getD t81.toNat ((0, [], 0, 0) : UInt32 × List UInt8 × UInt64 × Int)).1), .sl 1 .shr ((s.getD t81.toNat ((0, [], 0, 0) : UInt32 × List UInt8 × UInt64 × Int)).2.1).length (u8s ((s.getD t81.toNat ((0, [], 0, 0) : UInt32 × List UInt8 × UInt64 × Int)).2.1)), t64 ((s.getD t81.toNat ((0, [], 0, 0) : UInt32 × List UInt8 × UInt64 × Int)).2.2.1), ti ((s.getD t81.toNat ((0, [], 0, 0) : UInt32 × List UInt8 × UInt64 × Int)).2.2.2)])) }), (5, { call := some { ids := [40], S := [40], M := [], R := tb ((engine_find_1 ((s.getD t81.toNat ((0, [], 0, 0) : UInt32 × List UInt8 × UInt64 × Int)).1) ((s.getD t81.toNat ((0, [], 0, 0) : UInt32 × List UInt8 × UInt64 × Int)).2.1) ((s.getD t81.toNat ((0, [], 0, 0) : UInt32 × List UInt8 × UInt64 × Int)).2.2.1) ((s.getD t81.toNat ((0, [], 0, 0) : UInt32 × List UInt8 × UInt64 × Int)).2.2.2) c40_0_1).1), H' := [(40, [t32 ((engine_find_1 ((s.getD t81.toNat ((0, [], 0, 0) : UInt32 × List UInt8 × UInt64 × Int)).1) ((s.getD t81.toNat ((0, [], 0, 0) : UInt32 × List UInt8 × UInt64 × Int)).2.1) ((s.getD t81.toNat ((0, [], 0, 0) : UInt32 × List UInt8 × UInt64 × Int)).2.2.1) ((s.getD t81.toNat ((0, [], 0, 0) : UInt32 × List UInt8 × UInt64 × Int)).2.2.2) c40_0_1).2)])] } })] } [] [0, 1, 5, 7, 8, 16] _ [(0, .sl 4 g_s s.length (fl (fun c : UInt32 × List UInt8 × UInt64 × Int => [t32 c.1, .sl 1 .shr c.2.1.length (u8s c.2.1), t64 c.2.2.1, ti c.2.2.2]) s)), (1, .fn (.func 129) [] [.addr 40 0]), (5, ti t81), (7, ti (s.length : Int)), (8, ti t81), (16, tb ((engine_find_1 ((s.getD t81.toNat ((0, [], 0, 0) : UInt32 × List UInt8 × UInt64 × Int)).1) ((s.getD t81.toNat ((0, [], 0, 0) : UInt32 × List UInt8 × UInt64 × Int)).2.1) ((s.getD t81.toNat ((0, [], 0, 0) : UInt32 × List UInt8 × UInt64 × Int)).2.2.1) ((s.getD t81.toNat ((0, [], 0, 0) : UInt32 × List UInt8 × UInt64 × Int)).2.2.2) c40_0_1).1))] [(40, [t32 ((engine_find_1 ((s.getD t81.toNat ((0, [], 0, 0) : UInt32 × List UInt8 × UInt64 × Int)).1) ((s.getD t81.toNat ((0, [], 0, 0) : UInt32 × List UInt8 × UInt64 × Int)).2.1) ((s.getD t81.toNat ((0, [], 0, 0) : UInt32 × List UInt8 × UInt64 × Int)).2.2.1) ((s.getD t81.toNat ((0, [], 0, 0) : UInt32 × List UInt8 × UInt64 × Int)).2.2.2) c40_0_1).2)])] hk rfl kr (.cons (om : 0 ≤ (t81 : Int) ∧ (t81 : Int) < ((s.length : Nat) : Int)) (.cons (fl_part (m := 4) (g := (fun c : UInt32 × List UInt8 × UInt64 × Int => [t32 c.1, .sl 1 .shr c.2.1.length (u8s c.2.1), t64 c.2.2.1, ti c.2.2.2])) (k := t81.toNat * 4) (n := t81.toNat) (l := s) (d := ((0, [], 0, 0) : UInt32 × List UInt8 × UInt64 × Int)) (kr : (E.ti 76).agg = true) rfl (fun _ => rfl) rfl om rfl) (.cons (Meets.sw [(1, 40)] (engine_find_1_m (g_v1 := .shr) ((s.getD t81.toNat ((0, [], 0, 0) : UInt32 × List UInt8 × UInt64 × Int)).1) ((s.getD t81.toNat ((0, [], 0, 0) : UInt32 × List UInt8 × UInt64 × Int)).2.1) ((s.getD t81.toNat ((0, [], 0, 0) : UInt32 × List UInt8 × UInt64 × Int)).2.2.1) ((s.getD t81.toNat ((0, [], 0, 0) : UInt32 × List UInt8 × UInt64 × Int)).2.2.2) c40_0_1) : Meets Tryd.prog 129 [.agg ([t32 ((s.getD t81.toNat ((0, [], 0, 0) : UInt32 × List UInt8 × UInt64 × Int)).1), .sl 1 .shr ((s.getD t81.toNat ((0, [], 0, 0) : UInt32 × List UInt8 × UInt64 × Int)).2.1).length (u8s ((s.getD t81.toNat ((0, [], 0, 0) : UInt32 × List UInt8 × UInt64 × Int)).2.1)), t64 ((s.getD t81.toNat ((0, [], 0, 0) : UInt32 × List UInt8 × UInt64 × Int)).2.2.1), ti ((s.getD t81.toNat ((0, [], 0, 0) : UInt32 × List UInt8 × UInt64 × Int)).2.2.2)]), .addr 40 0] [(40, [t32 c40_0_1])] [40] (tb ((engine_find_1 ((s.getD t81.toNat ((0, [], 0, 0) : UInt32 × List UInt8 × UInt64 × Int)).1) ((s.getD t81.toNat ((0, [], 0, 0) : UInt32 × List UInt8 × UInt64 × Int)).2.1) ((s.getD t81.toNat ((0, [], 0, 0) : UInt32 × List UInt8 × UInt64 × Int)).2.2.1) ((s.getD t81.toNat ((0, [], 0, 0) : UInt32 × List UInt8 × UInt64 × Int)).2.2.2) c40_0_1).1)) [(40, [t32 ((engine_find_1 ((s.getD t81.toNat ((0, [], 0, 0) : UInt32 × List UInt8 × UInt64 × Int)).1) ((s.getD t81.toNat ((0, [], 0, 0) : UInt32 × List UInt8 × UInt64 × Int)).2.1) ((s.getD t81.toNat ((0, [], 0, 0) : UInt32 × List UInt8 × UInt64 × Int)).2.2.1) ((s.getD t81.toNat ((0, [], 0, 0) : UInt32 × List UInt8 × UInt64 × Int)).2.2.2) c40_0_1).2)])]) (.cons (sb : subN (idsL [.agg ([t32 ((s.getD t81.toNat ((0, [], 0, 0) : UInt32 × List UInt8 × UInt64 × Int)).1), .sl 1 .shr ((s.getD t81.toNat ((0, [], 0, 0) : UInt32 × List UInt8 × UInt64 × Int)).2.1).length (u8s ((s.getD t81.toNat ((0, [], 0, 0) : UInt32 × List UInt8 × UInt64 × Int)).2.1)), t64 ((s.getD t81.toNat ((0, [], 0, 0) : UInt32 × List UInt8 × UInt64 × Int)).2.2.1), ti ((s.getD t81.toNat ((0, [], 0, 0) : UInt32 × List UInt8 × UInt64 × Int)).2.2.2)]), .addr 40 0]) [40] = true) (.cons (sb : subN (idsL [t32 c40_0_1]) [40] = true) .nil))))) ?_
        clear hk; intro k hk
        refine Go.bnd (Pf := (fun z : Lo (UInt32) (Int × UInt32) => (PostX Γ slices_IndexFunc_engine_Version_engine_Version_enc) (Lo.el z (fun z : UInt32 => slices_IndexFunc_engine_Version_engine_Version_k1 z)))) (v := (engine_find_1 ((s.getD t81.toNat ((0, [], 0, 0) : UInt32 × List UInt8 × UInt64 × Int)).1) ((s.getD t81.toNat ((0, [], 0, 0) : UInt32 × List UInt8 × UInt64 × Int)).2.1) ((s.getD t81.toNat ((0, [], 0, 0) : UInt32 × List UInt8 × UInt64 × Int)).2.2.1) ((s.getD t81.toNat ((0, [], 0, 0) : UInt32 × List UInt8 × UInt64 × Int)).2.2.2) c40_0_1)) (fun x1 => [(0, .sl 4 g_s s.length (fl (fun c : UInt32 × List UInt8 × UInt64 × Int => [t32 c.1, .sl 1 .shr c.2.1.length (u8s c.2.1), t64 c.2.2.1, ti c.2.2.2]) s)), (1, .fn (.func 129) [] [.addr 40 0]), (5, ti t81), (7, ti (s.length : Int)), (8, ti t81), (16, tb x1.1)]) (fun x1 => [(40, [t32 x1.2])]) ?_
        intro x1 hx1
        refine Go.br 20 (Pf := (fun z : Lo (UInt32) (Int × UInt32) => (PostX Γ slices_IndexFunc_engine_Version_engine_Version_enc) (Lo.el z (fun z : UInt32 => slices_IndexFunc_engine_Version_engine_Version_k1 z)))) hk rfl rfl ?_ ?_ <;> clear hk <;> intro ct2 k hk
        · refine Go.rx 20 {} [] [4] _ [(4, ti t81)] [(40, [t32 x1.2])] hk rfl kr .nil ?_
          clear hk; intro k hk
          exact Go.lvx 20 [40] _ [ti t81] Tryd.func128 hk rfl kr .nil (T.Le.of_eq rfl) rfl rfl (.cons sb .nil)
        · refine Go.rx 20 { ws := [(0, { v := some (ti (t81 + 1)) })] } [] [0, 1, 7, 8] _ [(0, .sl 4 g_s s.length (fl (fun c : UInt32 × List UInt8 × UInt64 × Int => [t32 c.1, .sl 1 .shr c.2.1.length (u8s c.2.1), t64 c.2.2.1, ti c.2.2.2]) s)), (1, .fn (.func 129) [] [.addr 40 0]), (7, ti (s.length : Int)), (8, ti (t81 + 1))] [(40, [t32 x1.2])] hk rfl kr (.cons trivial (.cons (iw (t81 + 1) om) .nil)) ?_
          clear hk; intro k hk
          exact Go.join 20 hk hl1 rfl (ihl1 (t81 + 1) x1.2 om om)
      · have ct1p := of_decide_eq_false ct1
        refine Go.keepN [] (L' := []) rfl ?_
        exact Go.exitX (Pf := (PostX Γ slices_IndexFunc_engine_Version_engine_Version_enc)) (F := fun z : UInt32 => slices_IndexFunc_engine_Version_engine_Version_k1 z) (a := c40_0_1) (Go.join 20 hk hxl1 rfl (Xl1 c40_0_1))
  exact Ll1 _ 0 f400 om (Nat.lt_succ_self _)
theorem slices_IndexFunc_engine_Version_engine_Version_l1_gen : True := by have := @slices_IndexFunc_engine_Version_engine_Version_l1.eq_1; have := @slices_IndexFunc_engine_Version_engine_Version_l1.eq_2; trivial
attribute [irreducible] slices_IndexFunc_engine_Version_engine_Version_k1 slices_IndexFunc_engine_Version_engine_Version_l1 slices_IndexFunc_engine_Version_engine_Version
noncomputable def engine_find (s0 : List (UInt32 × List UInt8 × UInt64 × Int)) (s1 : UInt32) (s2 : Int) (n : UInt32) : Int × Int :=
  bnd (engine_Check s0 s1 s2) fun x1 =>
  bif !(decide (x1 = 0)) then
    (0, x1)
  else
    bif n == 0 then
      bnd (slices_IndexFunc_engine_Version_engine_Version s0 s1) fun x2 =>
      bif decide (x2.1 < 0) then
        (0, 5)
      else
        (x2.1, 0)
    else
      bnd (slices_IndexFunc_engine_Version_engine_Version s0 n) fun x3 =>
      bif decide (x3.1 < 0) then
        (0, 5)
      else
        (x3.1, 0)
def engine_find_enc (x : Int × Int) : T × List (Nat × List T) := (.tup [ti x.1, er 149 x.2], [])
theorem engine_find_m (s0 : List (UInt32 × List UInt8 × UInt64 × Int)) (s1 : UInt32) (s2 : Int) (n : UInt32) : Meets Tryd.prog 99 [.agg ([.sl 4 .shr s0.length (fl (fun c : UInt32 × List UInt8 × UInt64 × Int => [t32 c.1, .sl 1 .shr c.2.1.length (u8s c.2.1), t64 c.2.2.1, ti c.2.2.2]) s0), t32 s1, ti s2]), t32 n] [] [] (.tup [ti ((engine_find s0 s1 s2 n).1), er 149 ((engine_find s0 s1 s2 n).2)]) [] := by
  refine Meets.enterX (E := E) (N := 25) (enc := engine_find_enc) (x := (engine_find s0 s1 s2 n)) Tryd.func99 Tryd.call99 rfl rfl ?_
  intro Γ k hk
  refine Go.rx 20 { ws := [(0, { id := 10 }), (1, { id := 11 })] } [] [2, 3] _ [(2, .addr 10 0), (3, .addr 11 0)] [(10, [.sl 4 .shr s0.length (fl (fun c : UInt32 × List UInt8 × UInt64 × Int => [t32 c.1, .sl 1 .shr c.2.1.length (u8s c.2.1), t64 c.2.2.1, ti c.2.2.2]) s0), t32 s1, ti s2]), (11, [t32 n])] hk rfl kr .nil ?_
  clear hk; intro k hk
  refine Go.rx 20 { ws := [(1, { call := some { ids := [], S := [], M := [], R := er 149 (engine_Check s0 s1 s2), H' := [] } })] } [] [2, 3, 6] _ [(2, .addr 10 0), (3, .addr 11 0), (6, er 149 (engine_Check s0 s1 s2))] [(10, [.sl 4 .shr s0.length (fl (fun c : UInt32 × List UInt8 × UInt64 × Int => [t32 c.1, .sl 1 .shr c.2.1.length (u8s c.2.1), t64 c.2.2.1, ti c.2.2.2]) s0), t32 s1, ti s2]), (11, [t32 n])] hk rfl kr (.cons (engine_Check_m (g_a00 := .shr) s0 s1 s2) (.cons (sb : subN (idsL [.agg ([.sl 4 .shr s0.length (fl (fun c : UInt32 × List UInt8 × UInt64 × Int => [t32 c.1, .sl 1 .shr c.2.1.length (u8s c.2.1), t64 c.2.2.1, ti c.2.2.2]) s0), t32 s1, ti s2])]) [] = true) .nil)) ?_
  clear hk; intro k hk
  refine Go.bnd (Pf := (PostX Γ engine_find_enc)) (v := (engine_Check s0 s1 s2)) (fun x1 => [(2, .addr 10 0), (3, .addr 11 0), (6, er 149 x1)]) (fun x1 => [(10, [.sl 4 .shr s0.length (fl (fun c : UInt32 × List UInt8 × UInt64 × Int => [t32 c.1, .sl 1 .shr c.2.1.length (u8s c.2.1), t64 c.2.2.1, ti c.2.2.2]) s0), t32 s1, ti s2]), (11, [t32 n])]) ?_
  intro x1 hx1
  have fx1 := check_fact s0 s1 s2
  rw [← hx1] at fx1
  obtain ⟨fx10, fx11⟩ := fx1
  refine Go.rx 20 { ws := [(1, { er := some (149, x1) })] } [] [2, 3, 6, 11] _ [(2, .addr 10 0), (3, .addr 11 0), (6, er 149 x1), (11, tb (!(decide (x1 = 0))))] [(10, [.sl 4 .shr s0.length (fl (fun c : UInt32 × List UInt8 × UInt64 × Int => [t32 c.1, .sl 1 .shr c.2.1.length (u8s c.2.1), t64 c.2.2.1, ti c.2.2.2]) s0), t32 s1, ti s2]), (11, [t32 n])] hk rfl kr (.cons (⟨rfl, rfl⟩ : (er 149 x1) = er 149 x1 ∧ (.leaf .nilIface : T) = .leaf .nilIface) .nil) ?_
  clear hk; intro k hk
  refine Go.br 20 (Pf := (PostX Γ engine_find_enc)) hk rfl rfl ?_ ?_ <;> clear hk <;> intro ct1 k hk
  · have ct1' : (decide (x1 = 0)) = false := ntT ct1
    have ct1'p := of_decide_eq_false ct1'
    refine Go.rx 20 { ps := [5, 6, 12] } [10, 11] [4, 5] _ [(4, ti 0), (5, er 149 x1)] [] hk rfl kr (.cons (er_mem (i := 10) 149 x1) (.cons (er_mem (i := 10) 149 x1) (.cons (er_mem (i := 10) 149 x1) (.cons (er_mem (i := 11) 149 x1) (.cons (er_mem (i := 11) 149 x1) (.cons (er_mem (i := 11) 149 x1) .nil)))))) ?_
    clear hk; intro k hk
    exact Go.lvx 20 [] _ [ti 0, er 149 x1] Tryd.func99 hk rfl kr .nil (T.Le.tup (.cons (T.Le.of_eq rfl) (.cons (T.Le.of_eq rfl) .nil))) rfl qg2_1 .nil
  · have ct1' : (decide (x1 = 0)) = true := ntF ct1
    have ct1'p := of_decide_eq_true ct1'
    refine Go.rx 20 { ws := [(1, { v := some (tb (n == 0)) })] } [] [2, 3, 14] _ [(2, .addr 10 0), (3, .addr 11 0), (14, tb (n == 0))] [(10, [.sl 4 .shr s0.length (fl (fun c : UInt32 × List UInt8 × UInt64 × Int => [t32 c.1, .sl 1 .shr c.2.1.length (u8s c.2.1), t64 c.2.2.1, ti c.2.2.2]) s0), t32 s1, ti s2]), (11, [t32 n])] hk rfl kr (.cons trivial (.cons (eqB32 n 0) .nil)) ?_
    clear hk; intro k hk
    refine Go.br 20 (Pf := (PostX Γ engine_find_enc)) hk rfl rfl ?_ ?_ <;> clear hk <;> intro ct3 k hk
    · refine Go.rx 20 {} [] [2, 3] _ [(2, .addr 10 0), (3, .addr 11 0)] [(10, [.sl 4 .shr s0.length (fl (fun c : UInt32 × List UInt8 × UInt64 × Int => [t32 c.1, .sl 1 .shr c.2.1.length (u8s c.2.1), t64 c.2.2.1, ti c.2.2.2]) s0), t32 s1, ti s2]), (11, [t32 s1])] hk rfl kr .nil ?_
      clear hk; intro k hk
      refine Go.rx 20 { ws := [(3, { call := some { ids := [11], S := [11], M := [], R := ti ((slices_IndexFunc_engine_Version_engine_Version s0 s1).1), H' := [(11, [t32 ((slices_IndexFunc_engine_Version_engine_Version s0 s1).2)])] } })] } [10, 11] [7] _ [(7, ti ((slices_IndexFunc_engine_Version_engine_Version s0 s1).1))] [] hk rfl kr (.cons (Meets.sw [(40, 11)] (slices_IndexFunc_engine_Version_engine_Version_m (g_s := .shr) s0 s1 om) : Meets Tryd.prog 128 [.sl 4 .shr s0.length (fl (fun c : UInt32 × List UInt8 × UInt64 × Int => [t32 c.1, .sl 1 .shr c.2.1.length (u8s c.2.1), t64 c.2.2.1, ti c.2.2.2]) s0), .fn (.func 129) [] [.addr 11 0]] [(11, [t32 s1])] [11] (ti ((slices_IndexFunc_engine_Version_engine_Version s0 s1).1)) [(11, [t32 ((slices_IndexFunc_engine_Version_engine_Version s0 s1).2)])]) (.cons (sb : subN (idsL [.sl 4 .shr s0.length (fl (fun c : UInt32 × List UInt8 × UInt64 × Int => [t32 c.1, .sl 1 .shr c.2.1.length (u8s c.2.1), t64 c.2.2.1, ti c.2.2.2]) s0), .fn (.func 129) [] [.addr 11 0]]) [11] = true) (.cons (sb : subN (idsL [t32 s1]) [11] = true) .nil))) ?_
      clear hk; intro k hk
      refine Go.bnd (Pf := (PostX Γ engine_find_enc)) (v := (slices_IndexFunc_engine_Version_engine_Version s0 s1)) (fun x2 => [(7, ti x2.1)]) (fun x2 => []) ?_
      intro x2 hx2
      refine Go.rx 20 {} [] [7, 22] _ [(7, ti x2.1), (22, tb (decide (x2.1 < 0)))] [] hk rfl kr (.cons trivial .nil) ?_
      clear hk; intro k hk
      refine Go.br 20 (Pf := (PostX Γ engine_find_enc)) hk rfl rfl ?_ ?_ <;> clear hk <;> intro ct4 k hk
      · have ct4p := of_decide_eq_true ct4
        refine Go.rx 20 {} [] [4, 5] _ [(4, ti 0), (5, er 149 5)] [] hk rfl kr .nil ?_
        clear hk; intro k hk
        exact Go.lvx 20 [] _ [ti 0, er 149 5] Tryd.func99 hk rfl kr .nil (T.Le.tup (.cons (T.Le.of_eq rfl) (.cons (T.Le.of_eq rfl) .nil))) rfl qg2_1 .nil
      · have ct4p := of_decide_eq_false ct4
        refine Go.rx 20 {} [] [4, 5] _ [(4, ti x2.1), (5, .leaf .nilIface)] [] hk rfl kr .nil ?_
        clear hk; intro k hk
        exact Go.lvx 20 [] _ [ti x2.1, .leaf .nilIface] Tryd.func99 hk rfl kr .nil (T.Le.tup (.cons (T.Le.of_eq rfl) (.cons (T.Le.of_eq rfl) .nil))) rfl rfl .nil
    · refine Go.rx 20 { ws := [(3, { call := some { ids := [11], S := [11], M := [], R := ti ((slices_IndexFunc_engine_Version_engine_Version s0 n).1), H' := [(11, [t32 ((slices_IndexFunc_engine_Version_engine_Version s0 n).2)])] } })] } [10, 11] [7] _ [(7, ti ((slices_IndexFunc_engine_Version_engine_Version s0 n).1))] [] hk rfl kr (.cons (Meets.sw [(40, 11)] (slices_IndexFunc_engine_Version_engine_Version_m (g_s := .shr) s0 n om) : Meets Tryd.prog 128 [.sl 4 .shr s0.length (fl (fun c : UInt32 × List UInt8 × UInt64 × Int => [t32 c.1, .sl 1 .shr c.2.1.length (u8s c.2.1), t64 c.2.2.1, ti c.2.2.2]) s0), .fn (.func 129) [] [.addr 11 0]] [(11, [t32 n])] [11] (ti ((slices_IndexFunc_engine_Version_engine_Version s0 n).1)) [(11, [t32 ((slices_IndexFunc_engine_Version_engine_Version s0 n).2)])]) (.cons (sb : subN (idsL [.sl 4 .shr s0.length (fl (fun c : UInt32 × List UInt8 × UInt64 × Int => [t32 c.1, .sl 1 .shr c.2.1.length (u8s c.2.1), t64 c.2.2.1, ti c.2.2.2]) s0), .fn (.func 129) [] [.addr 11 0]]) [11] = true) (.cons (sb : subN (idsL [t32 n]) [11] = true) .nil))) ?_
      clear hk; intro k hk
      refine Go.bnd (Pf := (PostX Γ engine_find_enc)) (v := (slices_IndexFunc_engine_Version_engine_Version s0 n)) (fun x3 => [(7, ti x3.1)]) (fun x3 => []) ?_
      intro x3 hx3
      refine Go.rx 20 {} [] [7, 22] _ [(7, ti x3.1), (22, tb (decide (x3.1 < 0)))] [] hk rfl kr (.cons trivial .nil) ?_
      clear hk; intro k hk
      refine Go.br 20 (Pf := (PostX Γ engine_find_enc)) hk rfl rfl ?_ ?_ <;> clear hk <;> intro ct5 k hk
      · have ct5p := of_decide_eq_true ct5
        refine Go.rx 20 {} [] [4, 5] _ [(4, ti 0), (5, er 149 5)] [] hk rfl kr .nil ?_
        clear hk; intro k hk
        exact Go.lvx 20 [] _ [ti 0, er 149 5] Tryd.func99 hk rfl kr .nil (T.Le.tup (.cons (T.Le.of_eq rfl) (.cons (T.Le.of_eq rfl) .nil))) rfl qg2_1 .nil
      · have ct5p := of_decide_eq_false ct5
        refine Go.rx 20 {} [] [4, 5] _ [(4, ti x3.1), (5, .leaf .nilIface)] [] hk rfl kr .nil ?_
        clear hk; intro k hk
        exact Go.lvx 20 [] _ [ti x3.1, .leaf .nilIface] Tryd.func99 hk rfl kr .nil (T.Le.tup (.cons (T.Le.of_eq rfl) (.cons (T.Le.of_eq rfl) .nil))) rfl rfl .nil
attribute [irreducible] engine_find
end Go.Proofs.YtbppcnhfeobefaaDoor

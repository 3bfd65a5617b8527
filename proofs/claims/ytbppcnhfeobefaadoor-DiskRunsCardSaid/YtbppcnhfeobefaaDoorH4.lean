import Derived.Test.YtbppcnhfeobefaaDoorH2
set_option linter.unusedVariables false
set_option linter.unusedSimpArgs false
namespace Go.Proofs.YtbppcnhfeobefaaDoor
open Go Go.Vw Go.Proofs
def disk_Disk_Tamper_1_enc (w0 : Int) (_ : List UInt8) (a10 : Int) (_ : Unit) : T × List (Nat × List T) := (tb (w0 == a10), [(1, [ti a10])])
theorem disk_Disk_Tamper_1_m {g_w1 : Tag} (w0 : Int) (w1 : List UInt8) (a10 : Int) : Meets Tryd.prog 90 [.agg [ti w0, .sl 1 g_w1 w1.length (u8s w1)], .addr 1 0] ([(1, [ti a10])]) [1] (tb (w0 == a10)) ([(1, [ti a10])]) := by
  refine Meets.enterX (E := E) (N := 8) (enc := disk_Disk_Tamper_1_enc w0 w1 a10) (x := ()) Tryd.func90 Tryd.call90 rfl rfl ?_
  intro Γ k hk
  refine Go.rx 20 { ws := [(0, { id := 10 })] } [] [1, 2] _ [(1, .addr 1 0), (2, .addr 10 0)] [(1, [ti a10]), (10, [ti w0, .sl 1 g_w1 w1.length (u8s w1)])] hk rfl kr .nil ?_
  clear hk; intro k hk
  refine Go.rx 20 {} [10] [3] _ [(3, tb (w0 == a10))] [(1, [ti a10])] hk rfl kr (.cons trivial .nil) ?_
  clear hk; intro k hk
  exact Go.lvx 20 [1] _ [tb (w0 == a10)] Tryd.func90 hk rfl kr .nil (T.Le.of_eq rfl) rfl rfl (.cons sb .nil)
noncomputable def slices_IndexFunc_disk_write_disk_write_k1 (f400 : Int) : Int × Int :=
  ((-1), f400)
noncomputable def slices_IndexFunc_disk_write_disk_write_l1 (s : List (Int × List UInt8)) (f400 : Int) : Nat → Int → Lo Unit (Int × Int)
  | 0, _ => .brk default
  | ml1 + 1, t81 =>
    bif decide (t81 < (s.length : Int)) then
      bif ((s.getD t81.toNat ((0, []) : Int × List UInt8)).1) == f400 then
        Lo.ret (t81, f400)
      else
        slices_IndexFunc_disk_write_disk_write_l1 s f400 ml1 (t81 + 1)
    else
      Lo.brk ()
noncomputable def slices_IndexFunc_disk_write_disk_write (s : List (Int × List UInt8)) (f400 : Int) : Int × Int :=
  Lo.el (slices_IndexFunc_disk_write_disk_write_l1 s f400 (((s.length : Int) - (0 : Int)).toNat + 1) 0) (fun z : Unit => slices_IndexFunc_disk_write_disk_write_k1 f400)
def slices_IndexFunc_disk_write_disk_write_enc (x : Int × Int) : T × List (Nat × List T) := (ti x.1, [(40, [ti x.2])])
theorem slices_IndexFunc_disk_write_disk_write_m {g_s : Tag} (s : List (Int × List UInt8)) (f400 : Int) (hs : s.length ≤ 100000) : Meets Tryd.prog 126 [.sl 2 g_s s.length (fl (fun c : Int × List UInt8 => [ti c.1, .sl 1 .shr c.2.length (u8s c.2)]) s), .fn (.func 90) [] [.addr 40 0]] ([(40, [ti f400])]) [40] (ti ((slices_IndexFunc_disk_write_disk_write s f400).1)) ([(40, [ti ((slices_IndexFunc_disk_write_disk_write s f400).2)])]) := by
  refine Meets.enterX (E := E) (N := 19) (enc := slices_IndexFunc_disk_write_disk_write_enc) (x := (slices_IndexFunc_disk_write_disk_write s f400)) Tryd.func126 Tryd.call126 rfl rfl ?_
  intro Γ k hk
  refine Go.rx 20 {} [] [0, 1] _ [(0, .sl 2 g_s s.length (fl (fun c : Int × List UInt8 => [ti c.1, .sl 1 .shr c.2.length (u8s c.2)]) s)), (1, .fn (.func 90) [] [.addr 40 0])] [(40, [ti f400])] hk rfl kr .nil ?_
  clear hk; intro k hk
  refine Go.rx 20 {} [] [0, 1, 7, 8] _ [(0, .sl 2 g_s s.length (fl (fun c : Int × List UInt8 => [ti c.1, .sl 1 .shr c.2.length (u8s c.2)]) s)), (1, .fn (.func 90) [] [.addr 40 0]), (7, ti (s.length : Int)), (8, ti 0)] [(40, [ti f400])] hk rfl kr .nil ?_
  clear hk; intro k hk
  refine Go.loopX 20 hk rfl ?_
  clear hk; intro kl1 kxl1 hl1 hxl1
  have Xl1 : ∀ (_ : True), Go E Γ 126 19 [40] ((PostX Γ slices_IndexFunc_disk_write_disk_write_enc) (slices_IndexFunc_disk_write_disk_write_k1 f400)) kxl1 (stL [] [(40, [ti f400])]) := by
    intro _
    refine Go.rx 20 {} [] [4] _ [(4, ti (-1))] [(40, [ti f400])] hxl1 rfl kr .nil ?_
    clear hxl1; intro kxl1 hxl1
    exact Go.lvx 20 [40] _ [ti (-1)] Tryd.func126 hxl1 rfl kr .nil (T.Le.of_eq rfl) rfl rfl (.cons sb .nil)
  have Ll1 : ∀ (ml1 : Nat) (t81 : Int), (0 ≤ t81) → (((s.length : Int) - t81).toNat < ml1) → Go E Γ 126 19 [40] ((PostX Γ slices_IndexFunc_disk_write_disk_write_enc) (Lo.el (slices_IndexFunc_disk_write_disk_write_l1 s f400 ml1 t81) (fun z : Unit => slices_IndexFunc_disk_write_disk_write_k1 f400))) kl1 (stL [(0, .sl 2 g_s s.length (fl (fun c : Int × List UInt8 => [ti c.1, .sl 1 .shr c.2.length (u8s c.2)]) s)), (1, .fn (.func 90) [] [.addr 40 0]), (7, ti (s.length : Int)), (8, ti t81)] [(40, [ti f400])]) := by
    intro ml1
    induction ml1 with
    | zero => intro t81 i0l1 hml1; exact absurd hml1 (Nat.not_lt_zero _)
    | succ ml1 ihl1 =>
      intro t81 i0l1 hml1
      rw [slices_IndexFunc_disk_write_disk_write_l1]
      refine Go.round hl1 ?_
      intro k hk
      refine Go.rx 20 {} [] [0, 1, 7, 8, 9] _ [(0, .sl 2 g_s s.length (fl (fun c : Int × List UInt8 => [ti c.1, .sl 1 .shr c.2.length (u8s c.2)]) s)), (1, .fn (.func 90) [] [.addr 40 0]), (7, ti (s.length : Int)), (8, ti t81), (9, tb (decide (t81 < (s.length : Int))))] [(40, [ti f400])] hk rfl kr (.cons trivial .nil) ?_
      clear hk; intro k hk
      refine Go.br 20 (Pf := (fun z : Lo (Unit) (Int × Int) => (PostX Γ slices_IndexFunc_disk_write_disk_write_enc) (Lo.el z (fun z : Unit => slices_IndexFunc_disk_write_disk_write_k1 f400)))) hk rfl rfl ?_ ?_ <;> clear hk <;> intro ct1 k hk
      · have ct1p := of_decide_eq_true ct1
        refine Go.rx 20 {} [] [0, 1, 5, 7, 8] _ [(0, .sl 2 g_s s.length (fl (fun c : Int × List UInt8 => [ti c.1, .sl 1 .shr c.2.length (u8s c.2)]) s)), (1, .fn (.func 90) [] [.addr 40 0]), (5, ti t81), (7, ti (s.length : Int)), (8, ti t81)] [(40, [ti f400])] hk rfl kr .nil ?_
        clear hk; intro k hk
        refine Go.rx 20 { ws := [(4, { v := some (.agg ([ti ((s.getD t81.toNat ((0, []) : Int × List UInt8)).1), .sl 1 .shr ((s.getD t81.toNat ((0, []) : Int × List UInt8)).2).length (u8s ((s.getD t81.toNat ((0, []) : Int × List UInt8)).2))])) }), (5, { call := some { ids := [40], S := [40], M := [], R := tb (((s.getD t81.toNat ((0, []) : Int × List UInt8)).1) == f400), H' := [(40, [ti f400])] } })] } [] [0, 1, 5, 7, 8, 16] _ [(0, .sl 2 g_s s.length (fl (fun c : Int × List UInt8 => [ti c.1, .sl 1 .shr c.2.length (u8s c.2)]) s)), (1, .fn (.func 90) [] [.addr 40 0]), (5, ti t81), (7, ti (s.length : Int)), (8, ti t81), (16, tb (((s.getD t81.toNat ((0, []) : Int × List UInt8)).1) == f400))] [(40, [ti f400])] hk rfl kr (.cons (om : 0 ≤ (t81 : Int) ∧ (t81 : Int) < ((s.length : Nat) : Int)) (.cons (fl_part (m := 2) (g := (fun c : Int × List UInt8 => [ti c.1, .sl 1 .shr c.2.length (u8s c.2)])) (k := t81.toNat * 2) (n := t81.toNat) (l := s) (d := ((0, []) : Int × List UInt8)) (kr : (E.ti 155).agg = true) rfl (fun _ => rfl) rfl om rfl) (.cons (Meets.sw [(1, 40)] (disk_Disk_Tamper_1_m (g_w1 := .shr) ((s.getD t81.toNat ((0, []) : Int × List UInt8)).1) ((s.getD t81.toNat ((0, []) : Int × List UInt8)).2) f400) : Meets Tryd.prog 90 [.agg ([ti ((s.getD t81.toNat ((0, []) : Int × List UInt8)).1), .sl 1 .shr ((s.getD t81.toNat ((0, []) : Int × List UInt8)).2).length (u8s ((s.getD t81.toNat ((0, []) : Int × List UInt8)).2))]), .addr 40 0] [(40, [ti f400])] [40] (tb (((s.getD t81.toNat ((0, []) : Int × List UInt8)).1) == f400)) [(40, [ti f400])]) (.cons (sb : subN (idsL [.agg ([ti ((s.getD t81.toNat ((0, []) : Int × List UInt8)).1), .sl 1 .shr ((s.getD t81.toNat ((0, []) : Int × List UInt8)).2).length (u8s ((s.getD t81.toNat ((0, []) : Int × List UInt8)).2))]), .addr 40 0]) [40] = true) (.cons (sb : subN (idsL [ti f400]) [40] = true) .nil))))) ?_
        clear hk; intro k hk
        refine Go.br 20 (Pf := (fun z : Lo (Unit) (Int × Int) => (PostX Γ slices_IndexFunc_disk_write_disk_write_enc) (Lo.el z (fun z : Unit => slices_IndexFunc_disk_write_disk_write_k1 f400)))) hk rfl rfl ?_ ?_ <;> clear hk <;> intro ct2 k hk
        · have ct2p := eqIt ct2
          refine Go.rx 20 {} [] [4] _ [(4, ti t81)] [(40, [ti f400])] hk rfl kr .nil ?_
          clear hk; intro k hk
          exact Go.lvx 20 [40] _ [ti t81] Tryd.func126 hk rfl kr .nil (T.Le.of_eq rfl) rfl rfl (.cons sb .nil)
        · have ct2p := eqIf ct2
          refine Go.rx 20 { ws := [(0, { v := some (ti (t81 + 1)) })] } [] [0, 1, 7, 8] _ [(0, .sl 2 g_s s.length (fl (fun c : Int × List UInt8 => [ti c.1, .sl 1 .shr c.2.length (u8s c.2)]) s)), (1, .fn (.func 90) [] [.addr 40 0]), (7, ti (s.length : Int)), (8, ti (t81 + 1))] [(40, [ti f400])] hk rfl kr (.cons trivial (.cons (iw (t81 + 1) om) .nil)) ?_
          clear hk; intro k hk
          exact Go.join 20 hk hl1 rfl (ihl1 (t81 + 1) om om)
      · have ct1p := of_decide_eq_false ct1
        refine Go.keepN [] (L' := []) rfl ?_
        exact Go.exitX (Pf := (PostX Γ slices_IndexFunc_disk_write_disk_write_enc)) (F := fun z : Unit => slices_IndexFunc_disk_write_disk_write_k1 f400) (a := ()) (Go.join 20 hk hxl1 rfl (Xl1 trivial))
  exact Ll1 _ 0 om (Nat.lt_succ_self _)
theorem slices_IndexFunc_disk_write_disk_write_l1_gen : True := by have := @slices_IndexFunc_disk_write_disk_write_l1.eq_1; have := @slices_IndexFunc_disk_write_disk_write_l1.eq_2; trivial
attribute [irreducible] slices_IndexFunc_disk_write_disk_write_k1 slices_IndexFunc_disk_write_disk_write_l1 slices_IndexFunc_disk_write_disk_write
end Go.Proofs.YtbppcnhfeobefaaDoor

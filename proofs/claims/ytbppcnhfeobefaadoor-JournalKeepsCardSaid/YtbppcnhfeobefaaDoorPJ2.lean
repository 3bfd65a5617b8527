import Derived.Test.YtbppcnhfeobefaaDoorFP8
set_option linter.unusedVariables false
namespace Go.Proofs.YtbppcnhfeobefaaDoor
open Go Go.Vw Go.Proofs
theorem rec_l1 (l : Sc) : ∀ (m : Nat) (a : Int) (s : UInt32) (o : List (UInt32 × List UInt8)), ((l.length : Int) - a).toNat < m → 0 ≤ a → a ≤ (l.length : Int) → (o.length : Int) ≤ a →
  0 ≤ (Lo.el (j_records_l1 l m a s o) (fun _ => default)).2 ∧ (Lo.el (j_records_l1 l m a s o) (fun _ => default)).2 ≤ (l.length : Int) ∧ ((Lo.el (j_records_l1 l m a s o) (fun _ => default)).1.length : Int) ≤ (Lo.el (j_records_l1 l m a s o) (fun _ => default)).2 := by
 intro m
 induction m with
 | zero => intro a s o h; exact absurd h (Nat.not_lt_zero _)
 | succ m ih =>
  intro a s o h h0 h1 h2
  rw [j_records_l1, bnd_eq]
  have hj := join_fact (slc l a (l.length : Int))
  rw [slc_lenI l (by omega)] at hj
  generalize fr_Join (slc l a (l.length : Int)) = x at hj ⊢
  by_cases q : x.2.2.2 = 0
  ·rw [decide_eq_true q]
   cases (decide (x.1 ≤ s)) with
   | true => exact ⟨h0, h1, h2⟩
   | false =>
    rcases hj with hj | ⟨j1, j2⟩
    ·exact absurd q hj
    ·exact ih (a + x.2.2.1) x.1 (o ++ [(x.1, x.2.1)]) (by omega) (by omega) (by omega) (by rw [List.length_append]; simp; omega)
  ·rw [decide_eq_false q]; exact ⟨h0, h1, h2⟩
theorem rec_fact (l : Sc) : 0 ≤ (j_records l).2 ∧ (j_records l).2 ≤ (l.length : Int) ∧ ((j_records l).1.length : Int) ≤ (j_records l).2 := by
 rw [j_records]
 exact rec_l1 l _ 0 0 [] (by omega) (Int.le_refl 0) (by omega) (Int.le_refl 0)
end Go.Proofs.YtbppcnhfeobefaaDoor
namespace Go.Proofs.YtbppcnhfeobefaaDoor
open Go Go.Vw Go.Proofs
theorem qj3_1 {p : Prop} (h : p := by rw [(fl_ids (g := gWq) (fun _ => rfl) d1)]; rfl) : p := h
theorem qj3_2 {p : Prop} (h : p := by rw [(mp_ids (g := gLq) d0 (fun _ => rfl))]; rfl) : p := h
theorem qj3_3 {p : Prop} (h : p := by first | rfl | (rw [mp_ids _ (fun _ => rfl)]; rfl)) : p := h
noncomputable def j_Read (d0 : tLB) (d1 : tLW) (d2 : Int) (d3 : Bool) (from_ : Int) (to : Int) : (List (UInt32 × List UInt8)) × Int × (Unit × Unit × Unit × Unit) :=
 bnd (j_sectors d0 d1 d2 d3 from_ to) fun x1 =>
 bif !(decide (x1.2.1 = 0)) then
  ([], x1.2.1, ((), (), (), ()))
 else
  bnd (j_records x1.1) fun x2 =>
  (x2.1, 0, ((), (), (), ()))
def j_Read_enc (d0 : tLB) (d1 : tLW) (d2 : Int) (d3 : Bool) (x : (List (UInt32 × List UInt8)) × Int × (Unit × Unit × Unit × Unit)) : T × List (Nat × List T) := (.tup [.sl 2 .shr x.1.length (fl gRq x.1), er 149 x.2.1], [(0, [.ref 21 1 0 d0.length, .ref 22 2 0 d1.length, ti d2, tb d3]), (21, b8s .shr d0), (22, fl gWq d1)])
theorem j_Read_m (d0 : tLB) (d1 : tLW) (d2 : Int) (d3 : Bool) (from_ : Int) (to : Int) (hD : okD 1000 d0 d1 d2) : Meets Tryd.prog 65 [.addr 0 0, ti from_, ti to] ([(0, [.ref 21 1 0 d0.length, .ref 22 2 0 d1.length, ti d2, tb d3]), (21, b8s .shr d0), (22, fl gWq d1)]) [0, 21, 22] (.tup [.sl 2 .shr ((j_Read d0 d1 d2 d3 from_ to).1).length (fl gRq ((j_Read d0 d1 d2 d3 from_ to).1)), er 149 ((j_Read d0 d1 d2 d3 from_ to).2.1)]) ([(0, [.ref 21 1 0 d0.length, .ref 22 2 0 d1.length, ti d2, tb d3]), (21, b8s .shr d0), (22, fl gWq d1)]) := by
 refine Meets.enterX (E := E) (N := 28) (enc := (j_Read_enc d0 d1 d2 d3)) (x := (j_Read d0 d1 d2 d3 from_ to)) Tryd.func65 Tryd.call65 rfl rfl ?_
 intro Γ k hk
 refine Go.rx 20 {} [] [0, 1, 2] _ [(0, .addr 0 0), (1, ti from_), (2, ti to)] [(0, [.ref 21 1 0 d0.length, .ref 22 2 0 d1.length, ti d2, tb d3]), (21, b8s .shr d0), (22, fl gWq d1)] hk rfl kr .nil ?_
 clear hk; intro k hk
 refine Go.rx 20 { ws := [(3, { call := some { ids := [0, 21, 22], S := [0, 21, 22], M := [], R := .tup [.sl 1 .shr ((j_sectors d0 d1 d2 d3 from_ to).1).length (b8s .shr ((j_sectors d0 d1 d2 d3 from_ to).1)), er 149 ((j_sectors d0 d1 d2 d3 from_ to).2.1)], H' := [(0, [.ref 21 1 0 d0.length, .ref 22 2 0 d1.length, ti d2, tb d3]), (21, b8s .shr d0), (22, fl gWq d1)] } })] } [] [8, 9] _ [(8, .sl 1 .shr ((j_sectors d0 d1 d2 d3 from_ to).1).length (b8s .shr ((j_sectors d0 d1 d2 d3 from_ to).1))), (9, er 149 ((j_sectors d0 d1 d2 d3 from_ to).2.1))] [(0, [.ref 21 1 0 d0.length, .ref 22 2 0 d1.length, ti d2, tb d3]), (21, b8s .shr d0), (22, fl gWq d1)] hk rfl kr (.cons (Meets.sw [] (j_sectors_m d0 d1 d2 d3 from_ to (by first | assumption | exact okD_mono (by assumption) (by omega) | exact okW' (by assumption) (by omega) | exact okS (by assumption) | exact okA (by assumption) (by omega) | exact okC (by assumption) | exact okT (by assumption))) : Meets Tryd.prog 107 [.addr 0 0, ti from_, ti to] [(0, [.ref 21 1 0 d0.length, .ref 22 2 0 d1.length, ti d2, tb d3]), (21, b8s .shr d0), (22, fl gWq d1)] [0, 21, 22] (.tup [.sl 1 .shr ((j_sectors d0 d1 d2 d3 from_ to).1).length (b8s .shr ((j_sectors d0 d1 d2 d3 from_ to).1)), er 149 ((j_sectors d0 d1 d2 d3 from_ to).2.1)]) [(0, [.ref 21 1 0 d0.length, .ref 22 2 0 d1.length, ti d2, tb d3]), (21, b8s .shr d0), (22, fl gWq d1)]) (.cons (sb : subN (idsL [.addr 0 0, ti from_, ti to]) [0, 21, 22] = true) (.cons (sb : subN (idsL [.ref 21 1 0 d0.length, .ref 22 2 0 d1.length, ti d2, tb d3]) [0, 21, 22] = true) (.cons (qj3_2 : subN (idsL (b8s .shr d0)) [0, 21, 22] = true) (.cons (qj3_1 : subN (idsL (fl gWq d1)) [0, 21, 22] = true) .nil))))) ?_
 clear hk; intro k hk
 refine Go.bnd (Pf := (PostX Γ (j_Read_enc d0 d1 d2 d3))) (v := (j_sectors d0 d1 d2 d3 from_ to)) (fun x1 => [(8, .sl 1 .shr x1.1.length (b8s .shr x1.1)), (9, er 149 x1.2.1)]) (fun x1 => [(0, [.ref 21 1 0 d0.length, .ref 22 2 0 d1.length, ti d2, tb d3]), (21, b8s .shr d0), (22, fl gWq d1)]) ?_
 intro x1 hx1
 have fx1 := sectors5_fact d0 d1 d2 d3 from_ to (by assumption)
 rw [← hx1] at fx1
 obtain ⟨fx10, fx11⟩ := fx1
 refine Go.rx 20 { ws := [(1, { er := some (149, x1.2.1) })] } [] [8, 9, 20] _ [(8, .sl 1 .shr x1.1.length (b8s .shr x1.1)), (9, er 149 x1.2.1), (20, tb (!(decide (x1.2.1 = 0))))] [(0, [.ref 21 1 0 d0.length, .ref 22 2 0 d1.length, ti d2, tb d3]), (21, b8s .shr d0), (22, fl gWq d1)] hk rfl kr (.cons (⟨rfl, rfl⟩ : (er 149 x1.2.1) = er 149 x1.2.1 ∧ (.leaf .nilIface : T) = .leaf .nilIface) .nil) ?_
 clear hk; intro k hk
 refine Go.br 20 (Pf := (PostX Γ (j_Read_enc d0 d1 d2 d3))) hk rfl rfl ?_ ?_ <;> clear hk <;> intro ct1 k hk
 ·have ct1' : (decide (x1.2.1 = 0)) = false := ntT ct1
  have ct1'p := of_decide_eq_false ct1'
  refine Go.rx 20 {} [] [6, 7] _ [(6, .leaf (.slice none 0 0)), (7, er 149 x1.2.1)] [(0, [.ref 21 1 0 d0.length, .ref 22 2 0 d1.length, ti d2, tb d3]), (21, b8s .shr d0), (22, fl gWq d1)] hk rfl kr .nil ?_
  clear hk; intro k hk
  exact Go.lvx 20 [0, 21, 22] _ [.leaf (.slice none 0 0), er 149 x1.2.1] Tryd.func65 hk rfl kr .nil (T.Le.tup (.cons (T.Le.nil _ _) (.cons (T.Le.of_eq rfl) .nil))) rfl (by first | rfl | (simp only [j_Read_enc, T.ids, idsL, er_ids, List.append_nil, List.nil_append]; first | rfl | (rw [mp_ids _ (fun _ => rfl)]; rfl))) (.cons sb (.cons qj3_3 (.cons ((congrArg (fun z => subN z [0, 21, 22]) (fl_ids (g := gWq) (fun _ => rfl) d1)).trans rfl) .nil)))
 ·have ct1' : (decide (x1.2.1 = 0)) = true := ntF ct1
  have ct1'p := of_decide_eq_true ct1'
  refine Go.rx 20 { ws := [(1, { call := some { ids := [], S := [], M := [], R := .tup [.sl 2 .shr ((j_records x1.1).1).length (fl gRq ((j_records x1.1).1)), ti ((j_records x1.1).2)], H' := [] } })] } [] [10] _ [(10, .sl 2 .shr ((j_records x1.1).1).length (fl gRq ((j_records x1.1).1)))] [(0, [.ref 21 1 0 d0.length, .ref 22 2 0 d1.length, ti d2, tb d3]), (21, b8s .shr d0), (22, fl gWq d1)] hk rfl kr (.cons (j_records_m (g_l := .shr) x1.1 om (by exact get_le (by assumption) (by decide))) (.cons (sb : subN (idsL [.sl 1 .shr x1.1.length (b8s .shr x1.1)]) [] = true) .nil)) ?_
  clear hk; intro k hk
  refine Go.bnd (Pf := (PostX Γ (j_Read_enc d0 d1 d2 d3))) (v := (j_records x1.1)) (fun x2 => [(10, .sl 2 .shr x2.1.length (fl gRq x2.1))]) (fun x2 => [(0, [.ref 21 1 0 d0.length, .ref 22 2 0 d1.length, ti d2, tb d3]), (21, b8s .shr d0), (22, fl gWq d1)]) ?_
  intro x2 hx2
  have fx2 := rec_fact x1.1
  rw [← hx2] at fx2
  obtain ⟨fx20, fx21, fx22⟩ := fx2
  refine Go.rx 20 {} [] [6, 7] _ [(6, .sl 2 .shr x2.1.length (fl gRq x2.1)), (7, .leaf .nilIface)] [(0, [.ref 21 1 0 d0.length, .ref 22 2 0 d1.length, ti d2, tb d3]), (21, b8s .shr d0), (22, fl gWq d1)] hk rfl kr .nil ?_
  clear hk; intro k hk
  exact Go.lvx 20 [0, 21, 22] _ [.sl 2 .shr x2.1.length (fl gRq x2.1), .leaf .nilIface] Tryd.func65 hk rfl kr .nil (T.Le.tup (.cons (T.Le.of_eq rfl) (.cons (T.Le.of_eq rfl) .nil))) rfl rfl (.cons sb (.cons qj3_3 (.cons ((congrArg (fun z => subN z [0, 21, 22]) (fl_ids (g := gWq) (fun _ => rfl) d1)).trans rfl) .nil)))
attribute [irreducible] j_Read
noncomputable def j_Seen_k1 (most2 : UInt32) : UInt32 × Int × (Unit × Unit × Unit × Unit) :=
 (most2, 0, ((), (), (), ()))
noncomputable def j_Seen_l1 (x1 : tLB × Int × (Unit × Unit × Unit × Unit)) : Nat → UInt32 → Int → Lo UInt32 (UInt32 × Int × (Unit × Unit × Unit × Unit))
 | 0, _, _ => .brk default
 | ml1 + 1, most1, t271 =>
  bif decide (t271 < (x1.1.length : Int)) then
   bnd (fr_Seq (x1.1.getD t271.toNat [])) fun x2 =>
   bif !(decide (x2.2 = 0)) then
    Lo.ret (0, x2.2, ((), (), (), ()))
   else
    j_Seen_l1 x1 ml1 (if x2.1 > most1 then x2.1 else most1) (t271 + 1)
  else
   Lo.brk most1
noncomputable def j_Seen (d0 : tLB) (d1 : tLW) (d2 : Int) (d3 : Bool) (from_ : Int) (to : Int) : UInt32 × Int × (Unit × Unit × Unit × Unit) :=
 bnd (j_sectors d0 d1 d2 d3 from_ to) fun x1 =>
 bif !(decide (x1.2.1 = 0)) then
  (0, x1.2.1, ((), (), (), ()))
 else
  Lo.el (j_Seen_l1 x1 (((x1.1.length : Int) - (0 : Int)).toNat + 1) 0 0) (fun z : UInt32 => j_Seen_k1 z)
def j_Seen_enc (d0 : tLB) (d1 : tLW) (d2 : Int) (d3 : Bool) (x : UInt32 × Int × (Unit × Unit × Unit × Unit)) : T × List (Nat × List T) := (.tup [t32 x.1, er 149 x.2.1], [(0, [.ref 21 1 0 d0.length, .ref 22 2 0 d1.length, ti d2, tb d3]), (21, b8s .shr d0), (22, fl gWq d1)])
theorem j_Seen_m (d0 : tLB) (d1 : tLW) (d2 : Int) (d3 : Bool) (from_ : Int) (to : Int) (hD : okD 1000 d0 d1 d2) : Meets Tryd.prog 60 [.addr 0 0, ti from_, ti to] ([(0, [.ref 21 1 0 d0.length, .ref 22 2 0 d1.length, ti d2, tb d3]), (21, b8s .shr d0), (22, fl gWq d1)]) [0, 21, 22] (.tup [t32 ((j_Seen d0 d1 d2 d3 from_ to).1), er 149 ((j_Seen d0 d1 d2 d3 from_ to).2.1)]) ([(0, [.ref 21 1 0 d0.length, .ref 22 2 0 d1.length, ti d2, tb d3]), (21, b8s .shr d0), (22, fl gWq d1)]) := by
 refine Meets.enterX (E := E) (N := 44) (enc := (j_Seen_enc d0 d1 d2 d3)) (x := (j_Seen d0 d1 d2 d3 from_ to)) Tryd.func60 Tryd.call60 rfl rfl ?_
 intro Γ k hk
 refine Go.rx 20 {} [] [0, 1, 2] _ [(0, .addr 0 0), (1, ti from_), (2, ti to)] [(0, [.ref 21 1 0 d0.length, .ref 22 2 0 d1.length, ti d2, tb d3]), (21, b8s .shr d0), (22, fl gWq d1)] hk rfl kr .nil ?_
 clear hk; intro k hk
 refine Go.rx 20 { ws := [(3, { call := some { ids := [0, 21, 22], S := [0, 21, 22], M := [], R := .tup [.sl 1 .shr ((j_sectors d0 d1 d2 d3 from_ to).1).length (b8s .shr ((j_sectors d0 d1 d2 d3 from_ to).1)), er 149 ((j_sectors d0 d1 d2 d3 from_ to).2.1)], H' := [(0, [.ref 21 1 0 d0.length, .ref 22 2 0 d1.length, ti d2, tb d3]), (21, b8s .shr d0), (22, fl gWq d1)] } })] } [] [8, 9] _ [(8, .sl 1 .shr ((j_sectors d0 d1 d2 d3 from_ to).1).length (b8s .shr ((j_sectors d0 d1 d2 d3 from_ to).1))), (9, er 149 ((j_sectors d0 d1 d2 d3 from_ to).2.1))] [(0, [.ref 21 1 0 d0.length, .ref 22 2 0 d1.length, ti d2, tb d3]), (21, b8s .shr d0), (22, fl gWq d1)] hk rfl kr (.cons (Meets.sw [] (j_sectors_m d0 d1 d2 d3 from_ to (by first | assumption | exact okD_mono (by assumption) (by omega) | exact okW' (by assumption) (by omega) | exact okS (by assumption) | exact okA (by assumption) (by omega) | exact okC (by assumption) | exact okT (by assumption))) : Meets Tryd.prog 107 [.addr 0 0, ti from_, ti to] [(0, [.ref 21 1 0 d0.length, .ref 22 2 0 d1.length, ti d2, tb d3]), (21, b8s .shr d0), (22, fl gWq d1)] [0, 21, 22] (.tup [.sl 1 .shr ((j_sectors d0 d1 d2 d3 from_ to).1).length (b8s .shr ((j_sectors d0 d1 d2 d3 from_ to).1)), er 149 ((j_sectors d0 d1 d2 d3 from_ to).2.1)]) [(0, [.ref 21 1 0 d0.length, .ref 22 2 0 d1.length, ti d2, tb d3]), (21, b8s .shr d0), (22, fl gWq d1)]) (.cons (sb : subN (idsL [.addr 0 0, ti from_, ti to]) [0, 21, 22] = true) (.cons (sb : subN (idsL [.ref 21 1 0 d0.length, .ref 22 2 0 d1.length, ti d2, tb d3]) [0, 21, 22] = true) (.cons (qj3_2 : subN (idsL (b8s .shr d0)) [0, 21, 22] = true) (.cons (qj3_1 : subN (idsL (fl gWq d1)) [0, 21, 22] = true) .nil))))) ?_
 clear hk; intro k hk
 refine Go.bnd (Pf := (PostX Γ (j_Seen_enc d0 d1 d2 d3))) (v := (j_sectors d0 d1 d2 d3 from_ to)) (fun x1 => [(8, .sl 1 .shr x1.1.length (b8s .shr x1.1)), (9, er 149 x1.2.1)]) (fun x1 => [(0, [.ref 21 1 0 d0.length, .ref 22 2 0 d1.length, ti d2, tb d3]), (21, b8s .shr d0), (22, fl gWq d1)]) ?_
 intro x1 hx1
 have fx1 := sectors5_fact d0 d1 d2 d3 from_ to (by assumption)
 rw [← hx1] at fx1
 obtain ⟨fx10, fx11⟩ := fx1
 refine Go.rx 20 { ws := [(1, { er := some (149, x1.2.1) })] } [] [8, 9, 23] _ [(8, .sl 1 .shr x1.1.length (b8s .shr x1.1)), (9, er 149 x1.2.1), (23, tb (!(decide (x1.2.1 = 0))))] [(0, [.ref 21 1 0 d0.length, .ref 22 2 0 d1.length, ti d2, tb d3]), (21, b8s .shr d0), (22, fl gWq d1)] hk rfl kr (.cons (⟨rfl, rfl⟩ : (er 149 x1.2.1) = er 149 x1.2.1 ∧ (.leaf .nilIface : T) = .leaf .nilIface) .nil) ?_
 clear hk; intro k hk
 refine Go.br 20 (Pf := (PostX Γ (j_Seen_enc d0 d1 d2 d3))) hk rfl rfl ?_ ?_ <;> clear hk <;> intro ct1 k hk
 ·have ct1' : (decide (x1.2.1 = 0)) = false := ntT ct1
  have ct1'p := of_decide_eq_false ct1'
  refine Go.rx 20 {} [] [6, 7] _ [(6, t32 0), (7, er 149 x1.2.1)] [(0, [.ref 21 1 0 d0.length, .ref 22 2 0 d1.length, ti d2, tb d3]), (21, b8s .shr d0), (22, fl gWq d1)] hk rfl kr .nil ?_
  clear hk; intro k hk
  exact Go.lvx 20 [0, 21, 22] _ [t32 0, er 149 x1.2.1] Tryd.func60 hk rfl kr .nil (T.Le.tup (.cons (T.Le.of_eq rfl) (.cons (T.Le.of_eq rfl) .nil))) rfl (by first | rfl | (simp only [j_Seen_enc, T.ids, idsL, er_ids, List.append_nil, List.nil_append]; first | rfl | (rw [mp_ids _ (fun _ => rfl)]; rfl))) (.cons sb (.cons qj3_3 (.cons ((congrArg (fun z => subN z [0, 21, 22]) (fl_ids (g := gWq) (fun _ => rfl) d1)).trans rfl) .nil)))
 ·have ct1' : (decide (x1.2.1 = 0)) = true := ntF ct1
  have ct1'p := of_decide_eq_true ct1'
  refine Go.rx 20 {} [] [8, 10] _ [(8, .sl 1 .shr x1.1.length (b8s .shr x1.1)), (10, t32 0)] [(0, [.ref 21 1 0 d0.length, .ref 22 2 0 d1.length, ti d2, tb d3]), (21, b8s .shr d0), (22, fl gWq d1)] hk rfl kr .nil ?_
  clear hk; intro k hk
  refine Go.rx 20 {} [] [10, 25, 26, 27] _ [(10, t32 0), (25, .sl 1 .shr x1.1.length (b8s .shr x1.1)), (26, ti (x1.1.length : Int)), (27, ti 0)] [(0, [.ref 21 1 0 d0.length, .ref 22 2 0 d1.length, ti d2, tb d3]), (21, b8s .shr d0), (22, fl gWq d1)] hk rfl kr .nil ?_
  clear hk; intro k hk
  refine Go.loopX 20 hk rfl ?_
  clear hk; intro kl1 kxl1 hl1 hxl1
  have Xl1 : ∀ (most2 : UInt32), Go E Γ 60 44 [0, 21, 22] ((PostX Γ (j_Seen_enc d0 d1 d2 d3)) (j_Seen_k1 most2)) kxl1 (stL [(10, t32 most2)] [(0, [.ref 21 1 0 d0.length, .ref 22 2 0 d1.length, ti d2, tb d3]), (21, b8s .shr d0), (22, fl gWq d1)]) := by
   intro most2
   refine Go.rx 20 {} [] [6, 7] _ [(6, t32 most2), (7, .leaf .nilIface)] [(0, [.ref 21 1 0 d0.length, .ref 22 2 0 d1.length, ti d2, tb d3]), (21, b8s .shr d0), (22, fl gWq d1)] hxl1 rfl kr .nil ?_
   clear hxl1; intro kxl1 hxl1
   exact Go.lvx 20 [0, 21, 22] _ [t32 most2, .leaf .nilIface] Tryd.func60 hxl1 rfl kr .nil (T.Le.tup (.cons (T.Le.of_eq rfl) (.cons (T.Le.of_eq rfl) .nil))) rfl rfl (.cons sb (.cons qj3_3 (.cons ((congrArg (fun z => subN z [0, 21, 22]) (fl_ids (g := gWq) (fun _ => rfl) d1)).trans rfl) .nil)))
  have Ll1 : ∀ (ml1 : Nat) (most1 : UInt32) (t271 : Int), (0 ≤ t271) → (((x1.1.length : Int) - t271).toNat < ml1) → Go E Γ 60 44 [0, 21, 22] ((PostX Γ (j_Seen_enc d0 d1 d2 d3)) (Lo.el (j_Seen_l1 x1 ml1 most1 t271) (fun z : UInt32 => j_Seen_k1 z))) kl1 (stL [(10, t32 most1), (25, .sl 1 .shr x1.1.length (b8s .shr x1.1)), (26, ti (x1.1.length : Int)), (27, ti t271)] [(0, [.ref 21 1 0 d0.length, .ref 22 2 0 d1.length, ti d2, tb d3]), (21, b8s .shr d0), (22, fl gWq d1)]) := by
   intro ml1
   induction ml1 with
   | zero => intro most1 t271 i0l1 hml1; exact absurd hml1 (Nat.not_lt_zero _)
   | succ ml1 ihl1 =>
    intro most1 t271 i0l1 hml1
    rw [j_Seen_l1]
    refine Go.round hl1 ?_
    intro k hk
    refine Go.rx 20 {} [] [10, 25, 26, 27, 28] _ [(10, t32 most1), (25, .sl 1 .shr x1.1.length (b8s .shr x1.1)), (26, ti (x1.1.length : Int)), (27, ti t271), (28, tb (decide (t271 < (x1.1.length : Int))))] [(0, [.ref 21 1 0 d0.length, .ref 22 2 0 d1.length, ti d2, tb d3]), (21, b8s .shr d0), (22, fl gWq d1)] hk rfl kr (.cons trivial .nil) ?_
    clear hk; intro k hk
    refine Go.br 20 (Pf := (fun z : Lo (UInt32) (UInt32 × Int × (Unit × Unit × Unit × Unit)) => (PostX Γ (j_Seen_enc d0 d1 d2 d3)) (Lo.el z (fun z : UInt32 => j_Seen_k1 z)))) hk rfl rfl ?_ ?_ <;> clear hk <;> intro ct2 k hk
    ·have ct2p := of_decide_eq_true ct2
     refine Go.rx 20 { ws := [(1, { v := some (.sl 1 .shr (x1.1.getD t271.toNat []).length (u8s (x1.1.getD t271.toNat []))) })] } [] [10, 12, 25, 26, 27] _ [(10, t32 most1), (12, .sl 1 .shr (x1.1.getD t271.toNat []).length (u8s (x1.1.getD t271.toNat []))), (25, .sl 1 .shr x1.1.length (b8s .shr x1.1)), (26, ti (x1.1.length : Int)), (27, ti t271)] [(0, [.ref 21 1 0 d0.length, .ref 22 2 0 d1.length, ti d2, tb d3]), (21, b8s .shr d0), (22, fl gWq d1)] hk rfl kr (.cons (om : 0 ≤ (t271 : Int) ∧ (t271 : Int) < ((x1.1.length : Nat) : Int)) (.cons (part1 (kr : (E.ti 22).agg = false) (mp_get (g := gLq) (k := t271.toNat * 1) (n := t271.toNat) x1.1 [] (by omega) om)) .nil)) ?_
     clear hk; intro k hk
     refine Go.rx 20 { ws := [(1, { call := some { ids := [], S := [], M := [], R := .tup [t32 ((fr_Seq (x1.1.getD t271.toNat [])).1), er 149 ((fr_Seq (x1.1.getD t271.toNat [])).2)], H' := [] } })] } [] [10, 13, 14, 25, 26, 27] _ [(10, t32 most1), (13, t32 ((fr_Seq (x1.1.getD t271.toNat [])).1)), (14, er 149 ((fr_Seq (x1.1.getD t271.toNat [])).2)), (25, .sl 1 .shr x1.1.length (b8s .shr x1.1)), (26, ti (x1.1.length : Int)), (27, ti t271)] [(0, [.ref 21 1 0 d0.length, .ref 22 2 0 d1.length, ti d2, tb d3]), (21, b8s .shr d0), (22, fl gWq d1)] hk rfl kr (.cons (fr_Seq_m (g_s := .shr) (x1.1.getD t271.toNat [])) (.cons (sb : subN (idsL [.sl 1 .shr (x1.1.getD t271.toNat []).length (u8s (x1.1.getD t271.toNat []))]) [] = true) .nil)) ?_
     clear hk; intro k hk
     refine Go.bnd (Pf := (fun z : Lo (UInt32) (UInt32 × Int × (Unit × Unit × Unit × Unit)) => (PostX Γ (j_Seen_enc d0 d1 d2 d3)) (Lo.el z (fun z : UInt32 => j_Seen_k1 z)))) (v := (fr_Seq (x1.1.getD t271.toNat []))) (fun x2 => [(10, t32 most1), (13, t32 x2.1), (14, er 149 x2.2), (25, .sl 1 .shr x1.1.length (b8s .shr x1.1)), (26, ti (x1.1.length : Int)), (27, ti t271)]) (fun x2 => [(0, [.ref 21 1 0 d0.length, .ref 22 2 0 d1.length, ti d2, tb d3]), (21, b8s .shr d0), (22, fl gWq d1)]) ?_
     intro x2 hx2
     refine Go.rx 20 { ws := [(1, { er := some (149, x2.2) })] } [] [10, 13, 14, 25, 26, 27, 37] _ [(10, t32 most1), (13, t32 x2.1), (14, er 149 x2.2), (25, .sl 1 .shr x1.1.length (b8s .shr x1.1)), (26, ti (x1.1.length : Int)), (27, ti t271), (37, tb (!(decide (x2.2 = 0))))] [(0, [.ref 21 1 0 d0.length, .ref 22 2 0 d1.length, ti d2, tb d3]), (21, b8s .shr d0), (22, fl gWq d1)] hk rfl kr (.cons (⟨rfl, rfl⟩ : (er 149 x2.2) = er 149 x2.2 ∧ (.leaf .nilIface : T) = .leaf .nilIface) .nil) ?_
     clear hk; intro k hk
     refine Go.br 20 (Pf := (fun z : Lo (UInt32) (UInt32 × Int × (Unit × Unit × Unit × Unit)) => (PostX Γ (j_Seen_enc d0 d1 d2 d3)) (Lo.el z (fun z : UInt32 => j_Seen_k1 z)))) hk rfl rfl ?_ ?_ <;> clear hk <;> intro ct3 k hk
     ·have ct3' : (decide (x2.2 = 0)) = false := ntT ct3
      have ct3'p := of_decide_eq_false ct3'
      refine Go.rx 20 {} [] [6, 7] _ [(6, t32 0), (7, er 149 x2.2)] [(0, [.ref 21 1 0 d0.length, .ref 22 2 0 d1.length, ti d2, tb d3]), (21, b8s .shr d0), (22, fl gWq d1)] hk rfl kr .nil ?_
      clear hk; intro k hk
      exact Go.lvx 20 [0, 21, 22] _ [t32 0, er 149 x2.2] Tryd.func60 hk rfl kr .nil (T.Le.tup (.cons (T.Le.of_eq rfl) (.cons (T.Le.of_eq rfl) .nil))) rfl (by first | rfl | (simp only [j_Seen_enc, T.ids, idsL, er_ids, List.append_nil, List.nil_append]; first | rfl | (rw [mp_ids _ (fun _ => rfl)]; rfl))) (.cons sb (.cons qj3_3 (.cons ((congrArg (fun z => subN z [0, 21, 22]) (fl_ids (g := gWq) (fun _ => rfl) d1)).trans rfl) .nil)))
     ·have ct3' : (decide (x2.2 = 0)) = true := ntF ct3
      have ct3'p := of_decide_eq_true ct3'
      refine Go.rx 20 { ws := [(2, { v := some (t32 (if x2.1 > most1 then x2.1 else most1)) })] } [] [10, 25, 26, 27] _ [(10, t32 (if x2.1 > most1 then x2.1 else most1)), (25, .sl 1 .shr x1.1.length (b8s .shr x1.1)), (26, ti (x1.1.length : Int)), (27, ti t271)] [(0, [.ref 21 1 0 d0.length, .ref 22 2 0 d1.length, ti d2, tb d3]), (21, b8s .shr d0), (22, fl gWq d1)] hk rfl kr (.cons (max32 most1 x2.1) .nil) ?_
      clear hk; intro k hk
      refine Go.rx 20 { ws := [(0, { v := some (ti (t271 + 1)) })] } [] [10, 25, 26, 27] _ [(10, t32 (if x2.1 > most1 then x2.1 else most1)), (25, .sl 1 .shr x1.1.length (b8s .shr x1.1)), (26, ti (x1.1.length : Int)), (27, ti (t271 + 1))] [(0, [.ref 21 1 0 d0.length, .ref 22 2 0 d1.length, ti d2, tb d3]), (21, b8s .shr d0), (22, fl gWq d1)] hk rfl kr (.cons trivial (.cons (iw (t271 + 1) om) .nil)) ?_
      clear hk; intro k hk
      exact Go.join 20 hk hl1 rfl (ihl1 (if x2.1 > most1 then x2.1 else most1) (t271 + 1) om om)
    ·have ct2p := of_decide_eq_false ct2
     refine Go.keepN [10] (L' := [(10, t32 most1)]) rfl ?_
     exact Go.exitX (Pf := (PostX Γ (j_Seen_enc d0 d1 d2 d3))) (F := fun z : UInt32 => j_Seen_k1 z) (a := most1) (Go.join 20 hk hxl1 rfl (Xl1 most1))
  exact Ll1 _ 0 0 om (Nat.lt_succ_self _)
theorem j_Seen_l1_gen : True := by have := @j_Seen_l1.eq_1; have := @j_Seen_l1.eq_2; trivial
attribute [irreducible] j_Seen_k1 j_Seen_l1 j_Seen
noncomputable def start_no (d0 : tLB) (d1 : tLW) (d2 : Int) (d3 : Bool) (from_ : Int) (to : Int) (last : UInt32) : Unit × Int × (Unit × Unit × Unit × Unit) :=
 ((), 1, ((), (), (), ()))
def start_no_enc (d0 : tLB) (d1 : tLW) (d2 : Int) (d3 : Bool) (x : Unit × Int × (Unit × Unit × Unit × Unit)) : T × List (Nat × List T) := (.tup [.leaf (.pointer none), er 149 x.2.1], [(0, [.ref 21 1 0 d0.length, .ref 22 2 0 d1.length, ti d2, tb d3]), (21, b8s .shr d0), (22, fl gWq d1)])
theorem start_no_m (d0 : tLB) (d1 : tLW) (d2 : Int) (d3 : Bool) (from_ : Int) (to : Int) (last : UInt32) (hn : ((decide (from_ < 0)) || ((decide (from_ ≥ to)) || (decide (to > (d0.length : Int))))) = true) : Meets Tryd.prog 57 [.addr 0 0, ti from_, ti to, t32 last] ([(0, [.ref 21 1 0 d0.length, .ref 22 2 0 d1.length, ti d2, tb d3]), (21, b8s .shr d0), (22, fl gWq d1)]) [0, 21, 22] (.tup [.leaf (.pointer none), er 149 ((start_no d0 d1 d2 d3 from_ to last).2.1)]) ([(0, [.ref 21 1 0 d0.length, .ref 22 2 0 d1.length, ti d2, tb d3]), (21, b8s .shr d0), (22, fl gWq d1)]) := by
 refine Meets.enterX (E := E) (N := 33) (enc := (start_no_enc d0 d1 d2 d3)) (x := (start_no d0 d1 d2 d3 from_ to last)) Tryd.func57 Tryd.call57 rfl rfl ?_
 intro Γ k hk
 refine Go.rx 20 {} [] [0, 1, 2, 3] _ [(0, .addr 0 0), (1, ti from_), (2, ti to), (3, t32 last)] [(0, [.ref 21 1 0 d0.length, .ref 22 2 0 d1.length, ti d2, tb d3]), (21, b8s .shr d0), (22, fl gWq d1)] hk rfl kr .nil ?_
 clear hk; intro k hk
 refine Go.regJ 20 [(0, .addr 0 0), (1, ti from_), (2, ti to), (3, t32 last), (22, tb ((decide (from_ < 0)) || ((decide (from_ ≥ to)) || (decide (to > (d0.length : Int))))))] [(0, [.ref 21 1 0 d0.length, .ref 22 2 0 d1.length, ti d2, tb d3]), (21, b8s .shr d0), (22, fl gWq d1)] hk rfl ?_ ?_
 ·clear hk; intro k hk
  refine Go.slotEq 22 (tb true) rfl (eb hn) ?_
  refine Go.cond 20 hk rfl (t := true) rfl ?_; clear hk; intro k hk
  refine Go.rx 20 {} [] [8, 9] _ [(8, .leaf (.pointer none)), (9, er 149 1)] [(0, [.ref 21 1 0 d0.length, .ref 22 2 0 d1.length, ti d2, tb d3]), (21, b8s .shr d0), (22, fl gWq d1)] hk rfl kr .nil ?_
  clear hk; intro k hk
  exact Go.lvx 20 [0, 21, 22] _ [.leaf (.pointer none), er 149 1] Tryd.func57 hk rfl kr .nil (T.Le.tup (.cons (T.Le.of_eq rfl) (.cons (T.Le.of_eq rfl) .nil))) rfl (by first | rfl | (simp only [start_no_enc, T.ids, idsL, er_ids, List.append_nil, List.nil_append]; first | rfl | (rw [mp_ids _ (fun _ => rfl)]; rfl))) (.cons sb (.cons qj3_3 (.cons ((congrArg (fun z => subN z [0, 21, 22]) (fl_ids (g := gWq) (fun _ => rfl) d1)).trans rfl) .nil)))
 ·intro hk J
  rcases Bool.eq_false_or_eq_true (decide (from_ < 0)) with gd1 | gd1
  ·have gd1p := of_decide_eq_true gd1
   refine Go.rx 20 { ws := [(1, { v := some (tb true) })] } [] [0, 1, 2, 3, 22] _ [(0, .addr 0 0), (1, ti from_), (2, ti to), (3, t32 last), (22, tb true)] [(0, [.ref 21 1 0 d0.length, .ref 22 2 0 d1.length, ti d2, tb d3]), (21, b8s .shr d0), (22, fl gWq d1)] hk rfl kr (.cons trivial (.cons (eb gd1) .nil)) ?_
   intro k' hk'
   refine Go.slotEq 22 (tb ((decide (from_ < 0)) || ((decide (from_ ≥ to)) || (decide (to > (d0.length : Int)))))) rfl (eb (orT gd1).symm) ?_
   exact J k' hk'
  ·have gd1p := of_decide_eq_false gd1
   rcases Bool.eq_false_or_eq_true (decide (from_ ≥ to)) with gd2 | gd2
   ·have gd2p := of_decide_eq_true gd2
    refine Go.rx 20 { ws := [(1, { v := some (tb false) }), (5, { v := some (tb true) })] } [] [0, 1, 2, 3, 22] _ [(0, .addr 0 0), (1, ti from_), (2, ti to), (3, t32 last), (22, tb true)] [(0, [.ref 21 1 0 d0.length, .ref 22 2 0 d1.length, ti d2, tb d3]), (21, b8s .shr d0), (22, fl gWq d1)] hk rfl kr (.cons trivial (.cons (eb gd1) (.cons trivial (.cons (eb gd2) .nil)))) ?_
    intro k' hk'
    refine Go.slotEq 22 (tb ((decide (from_ < 0)) || ((decide (from_ ≥ to)) || (decide (to > (d0.length : Int)))))) rfl (eb (orF gd1 (orT gd2)).symm) ?_
    exact J k' hk'
   ·have gd2p := of_decide_eq_false gd2
    refine Go.rx 20 { ws := [(1, { v := some (tb false) }), (5, { v := some (tb false) }), (10, { call := some { ids := [0, 21, 22], S := [0, 21, 22], M := [], R := ti (d0.length : Int), H' := [(0, [.ref 21 1 0 d0.length, .ref 22 2 0 d1.length, ti d2, tb d3]), (21, b8s .shr d0), (22, fl gWq d1)] } })] } [] [0, 1, 2, 3, 22] _ [(0, .addr 0 0), (1, ti from_), (2, ti to), (3, t32 last), (22, tb (decide (to > (d0.length : Int))))] [(0, [.ref 21 1 0 d0.length, .ref 22 2 0 d1.length, ti d2, tb d3]), (21, b8s .shr d0), (22, fl gWq d1)] hk rfl kr (.cons trivial (.cons (eb gd1) (.cons trivial (.cons (eb gd2) (.cons (Meets.sw [] (dDSize_m d0 d1 d2 d3) : Meets Tryd.prog 26 [.addr 0 0] [(0, [.ref 21 1 0 d0.length, .ref 22 2 0 d1.length, ti d2, tb d3]), (21, b8s .shr d0), (22, fl gWq d1)] [0, 21, 22] (ti (d0.length : Int)) [(0, [.ref 21 1 0 d0.length, .ref 22 2 0 d1.length, ti d2, tb d3]), (21, b8s .shr d0), (22, fl gWq d1)]) (.cons (sb : subN (idsL [.addr 0 0]) [0, 21, 22] = true) (.cons (sb : subN (idsL [.ref 21 1 0 d0.length, .ref 22 2 0 d1.length, ti d2, tb d3]) [0, 21, 22] = true) (.cons (qj3_2 : subN (idsL (b8s .shr d0)) [0, 21, 22] = true) (.cons (qj3_1 : subN (idsL (fl gWq d1)) [0, 21, 22] = true) (.cons trivial .nil)))))))))) ?_
    intro k' hk'
    refine Go.slotEq 22 (tb ((decide (from_ < 0)) || ((decide (from_ ≥ to)) || (decide (to > (d0.length : Int)))))) rfl (eb (orF gd1 (orF gd2 rfl)).symm) ?_
    exact J k' hk'
attribute [irreducible] start_no
noncomputable def start_dn (d0 : tLB) (d1 : tLW) (d2 : Int) (d3 : Bool) (from_ : Int) (to : Int) (last : UInt32) : Unit × Int × (Unit × Unit × Unit × Unit) :=
 ((), 23, ((), (), (), ()))
def start_dn_enc (d0 : tLB) (d1 : tLW) (d2 : Int) (d3 : Bool) (x : Unit × Int × (Unit × Unit × Unit × Unit)) : T × List (Nat × List T) := (.tup [.leaf (.pointer none), er 149 x.2.1], [(0, [.ref 21 1 0 d0.length, .ref 22 2 0 d1.length, ti d2, tb d3]), (21, b8s .shr d0), (22, fl gWq d1)])
theorem start_dn_m (d0 : tLB) (d1 : tLW) (d2 : Int) (d3 : Bool) (from_ : Int) (to : Int) (last : UInt32) (hn : ((decide (from_ < 0)) || ((decide (from_ ≥ to)) || (decide (to > (d0.length : Int))))) = false) (hn2 : d3 = true) : Meets Tryd.prog 57 [.addr 0 0, ti from_, ti to, t32 last] ([(0, [.ref 21 1 0 d0.length, .ref 22 2 0 d1.length, ti d2, tb d3]), (21, b8s .shr d0), (22, fl gWq d1)]) [0, 21, 22] (.tup [.leaf (.pointer none), er 149 ((start_dn d0 d1 d2 d3 from_ to last).2.1)]) ([(0, [.ref 21 1 0 d0.length, .ref 22 2 0 d1.length, ti d2, tb d3]), (21, b8s .shr d0), (22, fl gWq d1)]) := by
 refine Meets.enterX (E := E) (N := 33) (enc := (start_dn_enc d0 d1 d2 d3)) (x := (start_dn d0 d1 d2 d3 from_ to last)) Tryd.func57 Tryd.call57 rfl rfl ?_
 intro Γ k hk
 refine Go.rx 20 {} [] [0, 1, 2, 3] _ [(0, .addr 0 0), (1, ti from_), (2, ti to), (3, t32 last)] [(0, [.ref 21 1 0 d0.length, .ref 22 2 0 d1.length, ti d2, tb d3]), (21, b8s .shr d0), (22, fl gWq d1)] hk rfl kr .nil ?_
 clear hk; intro k hk
 refine Go.regJ 20 [(0, .addr 0 0), (1, ti from_), (2, ti to), (3, t32 last), (22, tb ((decide (from_ < 0)) || ((decide (from_ ≥ to)) || (decide (to > (d0.length : Int))))))] [(0, [.ref 21 1 0 d0.length, .ref 22 2 0 d1.length, ti d2, tb d3]), (21, b8s .shr d0), (22, fl gWq d1)] hk rfl ?_ ?_
 ·clear hk; intro k hk
  refine Go.slotEq 22 (tb false) rfl (eb hn) ?_
  refine Go.cond 20 hk rfl (t := false) rfl ?_; clear hk; intro k hk
  refine Go.rx 20 { ws := [(1, { v := some (tb true), call := some { ids := [0, 21, 22], S := [0, 21, 22], M := [], R := tb d3, H' := [(0, [.ref 21 1 0 d0.length, .ref 22 2 0 d1.length, ti d2, tb d3]), (21, b8s .shr d0), (22, fl gWq d1)] } })] } [] [0, 1, 2, 3, 25] _ [(0, .addr 0 0), (1, ti from_), (2, ti to), (3, t32 last), (25, tb true)] [(0, [.ref 21 1 0 d0.length, .ref 22 2 0 d1.length, ti d2, tb d3]), (21, b8s .shr d0), (22, fl gWq d1)] hk rfl kr (.cons (Meets.sw [] (dDDown_m d0 d1 d2 d3) : Meets Tryd.prog 22 [.addr 0 0] [(0, [.ref 21 1 0 d0.length, .ref 22 2 0 d1.length, ti d2, tb d3]), (21, b8s .shr d0), (22, fl gWq d1)] [0, 21, 22] (tb d3) [(0, [.ref 21 1 0 d0.length, .ref 22 2 0 d1.length, ti d2, tb d3]), (21, b8s .shr d0), (22, fl gWq d1)]) (.cons (sb : subN (idsL [.addr 0 0]) [0, 21, 22] = true) (.cons (sb : subN (idsL [.ref 21 1 0 d0.length, .ref 22 2 0 d1.length, ti d2, tb d3]) [0, 21, 22] = true) (.cons (qj3_2 : subN (idsL (b8s .shr d0)) [0, 21, 22] = true) (.cons (qj3_1 : subN (idsL (fl gWq d1)) [0, 21, 22] = true) (.cons (eb hn2) .nil)))))) ?_
  clear hk; intro k hk
  refine Go.cond 20 hk rfl (t := true) rfl ?_; clear hk; intro k hk
  refine Go.rx 20 {} [] [8, 9] _ [(8, .leaf (.pointer none)), (9, er 149 23)] [(0, [.ref 21 1 0 d0.length, .ref 22 2 0 d1.length, ti d2, tb d3]), (21, b8s .shr d0), (22, fl gWq d1)] hk rfl kr .nil ?_
  clear hk; intro k hk
  exact Go.lvx 20 [0, 21, 22] _ [.leaf (.pointer none), er 149 23] Tryd.func57 hk rfl kr .nil (T.Le.tup (.cons (T.Le.of_eq rfl) (.cons (T.Le.of_eq rfl) .nil))) rfl (by first | rfl | (simp only [start_dn_enc, T.ids, idsL, er_ids, List.append_nil, List.nil_append]; first | rfl | (rw [mp_ids _ (fun _ => rfl)]; rfl))) (.cons sb (.cons qj3_3 (.cons ((congrArg (fun z => subN z [0, 21, 22]) (fl_ids (g := gWq) (fun _ => rfl) d1)).trans rfl) .nil)))
 ·intro hk J
  rcases Bool.eq_false_or_eq_true (decide (from_ < 0)) with gd1 | gd1
  ·have gd1p := of_decide_eq_true gd1
   refine Go.rx 20 { ws := [(1, { v := some (tb true) })] } [] [0, 1, 2, 3, 22] _ [(0, .addr 0 0), (1, ti from_), (2, ti to), (3, t32 last), (22, tb true)] [(0, [.ref 21 1 0 d0.length, .ref 22 2 0 d1.length, ti d2, tb d3]), (21, b8s .shr d0), (22, fl gWq d1)] hk rfl kr (.cons trivial (.cons (eb gd1) .nil)) ?_
   intro k' hk'
   refine Go.slotEq 22 (tb ((decide (from_ < 0)) || ((decide (from_ ≥ to)) || (decide (to > (d0.length : Int)))))) rfl (eb (orT gd1).symm) ?_
   exact J k' hk'
  ·have gd1p := of_decide_eq_false gd1
   rcases Bool.eq_false_or_eq_true (decide (from_ ≥ to)) with gd2 | gd2
   ·have gd2p := of_decide_eq_true gd2
    refine Go.rx 20 { ws := [(1, { v := some (tb false) }), (5, { v := some (tb true) })] } [] [0, 1, 2, 3, 22] _ [(0, .addr 0 0), (1, ti from_), (2, ti to), (3, t32 last), (22, tb true)] [(0, [.ref 21 1 0 d0.length, .ref 22 2 0 d1.length, ti d2, tb d3]), (21, b8s .shr d0), (22, fl gWq d1)] hk rfl kr (.cons trivial (.cons (eb gd1) (.cons trivial (.cons (eb gd2) .nil)))) ?_
    intro k' hk'
    refine Go.slotEq 22 (tb ((decide (from_ < 0)) || ((decide (from_ ≥ to)) || (decide (to > (d0.length : Int)))))) rfl (eb (orF gd1 (orT gd2)).symm) ?_
    exact J k' hk'
   ·have gd2p := of_decide_eq_false gd2
    refine Go.rx 20 { ws := [(1, { v := some (tb false) }), (5, { v := some (tb false) }), (10, { call := some { ids := [0, 21, 22], S := [0, 21, 22], M := [], R := ti (d0.length : Int), H' := [(0, [.ref 21 1 0 d0.length, .ref 22 2 0 d1.length, ti d2, tb d3]), (21, b8s .shr d0), (22, fl gWq d1)] } })] } [] [0, 1, 2, 3, 22] _ [(0, .addr 0 0), (1, ti from_), (2, ti to), (3, t32 last), (22, tb (decide (to > (d0.length : Int))))] [(0, [.ref 21 1 0 d0.length, .ref 22 2 0 d1.length, ti d2, tb d3]), (21, b8s .shr d0), (22, fl gWq d1)] hk rfl kr (.cons trivial (.cons (eb gd1) (.cons trivial (.cons (eb gd2) (.cons (Meets.sw [] (dDSize_m d0 d1 d2 d3) : Meets Tryd.prog 26 [.addr 0 0] [(0, [.ref 21 1 0 d0.length, .ref 22 2 0 d1.length, ti d2, tb d3]), (21, b8s .shr d0), (22, fl gWq d1)] [0, 21, 22] (ti (d0.length : Int)) [(0, [.ref 21 1 0 d0.length, .ref 22 2 0 d1.length, ti d2, tb d3]), (21, b8s .shr d0), (22, fl gWq d1)]) (.cons (sb : subN (idsL [.addr 0 0]) [0, 21, 22] = true) (.cons (sb : subN (idsL [.ref 21 1 0 d0.length, .ref 22 2 0 d1.length, ti d2, tb d3]) [0, 21, 22] = true) (.cons (qj3_2 : subN (idsL (b8s .shr d0)) [0, 21, 22] = true) (.cons (qj3_1 : subN (idsL (fl gWq d1)) [0, 21, 22] = true) (.cons trivial .nil)))))))))) ?_
    intro k' hk'
    refine Go.slotEq 22 (tb ((decide (from_ < 0)) || ((decide (from_ ≥ to)) || (decide (to > (d0.length : Int)))))) rfl (eb (orF gd1 (orF gd2 rfl)).symm) ?_
    exact J k' hk'
attribute [irreducible] start_dn
noncomputable def start_ok (d0 : tLB) (d1 : tLW) (d2 : Int) (d3 : Bool) (from_ : Int) (to : Int) (last : UInt32) : (Unit × Int × Int × UInt32) × Int × (Unit × Unit × Unit × Unit) :=
 (((), from_, to, last), 0, ((), (), (), ()))
def start_ok_enc (d0 : tLB) (d1 : tLW) (d2 : Int) (d3 : Bool) (x : (Unit × Int × Int × UInt32) × Int × (Unit × Unit × Unit × Unit)) : T × List (Nat × List T) := (.tup [.addr 30 0, er 149 x.2.1], [(0, [.ref 21 1 0 d0.length, .ref 22 2 0 d1.length, ti d2, tb d3]), (21, b8s .shr d0), (22, fl gWq d1), (30, [.addr 0 0, ti x.1.2.1, ti x.1.2.2.1, t32 x.1.2.2.2])])
theorem start_ok_m (d0 : tLB) (d1 : tLW) (d2 : Int) (d3 : Bool) (from_ : Int) (to : Int) (last : UInt32) (hn : ((decide (from_ < 0)) || ((decide (from_ ≥ to)) || (decide (to > (d0.length : Int))))) = false) (hn2 : d3 = false) : Meets Tryd.prog 57 [.addr 0 0, ti from_, ti to, t32 last] ([(0, [.ref 21 1 0 d0.length, .ref 22 2 0 d1.length, ti d2, tb d3]), (21, b8s .shr d0), (22, fl gWq d1)]) [0, 21, 22] (.tup [.addr 30 0, er 149 ((start_ok d0 d1 d2 d3 from_ to last).2.1)]) ([(0, [.ref 21 1 0 d0.length, .ref 22 2 0 d1.length, ti d2, tb d3]), (21, b8s .shr d0), (22, fl gWq d1), (30, [.addr 0 0, ti (((start_ok d0 d1 d2 d3 from_ to last).1).2.1), ti (((start_ok d0 d1 d2 d3 from_ to last).1).2.2.1), t32 (((start_ok d0 d1 d2 d3 from_ to last).1).2.2.2)])]) := by
 refine Meets.enterX (E := E) (N := 33) (enc := (start_ok_enc d0 d1 d2 d3)) (x := (start_ok d0 d1 d2 d3 from_ to last)) Tryd.func57 Tryd.call57 rfl rfl ?_
 intro Γ k hk
 refine Go.rx 20 {} [] [0, 1, 2, 3] _ [(0, .addr 0 0), (1, ti from_), (2, ti to), (3, t32 last)] [(0, [.ref 21 1 0 d0.length, .ref 22 2 0 d1.length, ti d2, tb d3]), (21, b8s .shr d0), (22, fl gWq d1)] hk rfl kr .nil ?_
 clear hk; intro k hk
 refine Go.regJ 20 [(0, .addr 0 0), (1, ti from_), (2, ti to), (3, t32 last), (22, tb ((decide (from_ < 0)) || ((decide (from_ ≥ to)) || (decide (to > (d0.length : Int))))))] [(0, [.ref 21 1 0 d0.length, .ref 22 2 0 d1.length, ti d2, tb d3]), (21, b8s .shr d0), (22, fl gWq d1)] hk rfl ?_ ?_
 ·clear hk; intro k hk
  refine Go.slotEq 22 (tb false) rfl (eb hn) ?_
  refine Go.cond 20 hk rfl (t := false) rfl ?_; clear hk; intro k hk
  refine Go.rx 20 { ws := [(1, { v := some (tb false), call := some { ids := [0, 21, 22], S := [0, 21, 22], M := [], R := tb d3, H' := [(0, [.ref 21 1 0 d0.length, .ref 22 2 0 d1.length, ti d2, tb d3]), (21, b8s .shr d0), (22, fl gWq d1)] } })] } [] [0, 1, 2, 3, 25] _ [(0, .addr 0 0), (1, ti from_), (2, ti to), (3, t32 last), (25, tb false)] [(0, [.ref 21 1 0 d0.length, .ref 22 2 0 d1.length, ti d2, tb d3]), (21, b8s .shr d0), (22, fl gWq d1)] hk rfl kr (.cons (Meets.sw [] (dDDown_m d0 d1 d2 d3) : Meets Tryd.prog 22 [.addr 0 0] [(0, [.ref 21 1 0 d0.length, .ref 22 2 0 d1.length, ti d2, tb d3]), (21, b8s .shr d0), (22, fl gWq d1)] [0, 21, 22] (tb d3) [(0, [.ref 21 1 0 d0.length, .ref 22 2 0 d1.length, ti d2, tb d3]), (21, b8s .shr d0), (22, fl gWq d1)]) (.cons (sb : subN (idsL [.addr 0 0]) [0, 21, 22] = true) (.cons (sb : subN (idsL [.ref 21 1 0 d0.length, .ref 22 2 0 d1.length, ti d2, tb d3]) [0, 21, 22] = true) (.cons (qj3_2 : subN (idsL (b8s .shr d0)) [0, 21, 22] = true) (.cons (qj3_1 : subN (idsL (fl gWq d1)) [0, 21, 22] = true) (.cons (eb hn2) .nil)))))) ?_
  clear hk; intro k hk
  refine Go.cond 20 hk rfl (t := false) rfl ?_; clear hk; intro k hk
  refine Go.rx 20 { ws := [(5, { id := 10 })] } [] [8, 9] _ [(8, .addr 10 0), (9, .leaf .nilIface)] [(0, [.ref 21 1 0 d0.length, .ref 22 2 0 d1.length, ti d2, tb d3]), (21, b8s .shr d0), (22, fl gWq d1), (10, [.addr 0 0, ti from_, ti to, t32 last])] hk rfl kr .nil ?_
  clear hk; intro k hk
  refine Go.sw (L' := [(8, .addr 30 0), (9, .leaf .nilIface)]) (H' := [(0, [.ref 21 1 0 d0.length, .ref 22 2 0 d1.length, ti d2, tb d3]), (21, b8s .shr d0), (22, fl gWq d1), (30, [.addr 0 0, ti from_, ti to, t32 last])]) [(30, 10)] ?_
  exact Go.lvx 20 [0, 21, 22, 30] _ [.addr 30 0, .leaf .nilIface] Tryd.func57 hk rfl kr .nil (T.Le.tup (.cons (T.Le.of_eq rfl) (.cons (T.Le.of_eq rfl) .nil))) rfl rfl (.cons sb (.cons qj3_3 (.cons ((congrArg (fun z => subN z [0, 21, 22, 30]) (fl_ids (g := gWq) (fun _ => rfl) d1)).trans rfl) (.cons sb .nil))))
 ·intro hk J
  rcases Bool.eq_false_or_eq_true (decide (from_ < 0)) with gd1 | gd1
  ·have gd1p := of_decide_eq_true gd1
   refine Go.rx 20 { ws := [(1, { v := some (tb true) })] } [] [0, 1, 2, 3, 22] _ [(0, .addr 0 0), (1, ti from_), (2, ti to), (3, t32 last), (22, tb true)] [(0, [.ref 21 1 0 d0.length, .ref 22 2 0 d1.length, ti d2, tb d3]), (21, b8s .shr d0), (22, fl gWq d1)] hk rfl kr (.cons trivial (.cons (eb gd1) .nil)) ?_
   intro k' hk'
   refine Go.slotEq 22 (tb ((decide (from_ < 0)) || ((decide (from_ ≥ to)) || (decide (to > (d0.length : Int)))))) rfl (eb (orT gd1).symm) ?_
   exact J k' hk'
  ·have gd1p := of_decide_eq_false gd1
   rcases Bool.eq_false_or_eq_true (decide (from_ ≥ to)) with gd2 | gd2
   ·have gd2p := of_decide_eq_true gd2
    refine Go.rx 20 { ws := [(1, { v := some (tb false) }), (5, { v := some (tb true) })] } [] [0, 1, 2, 3, 22] _ [(0, .addr 0 0), (1, ti from_), (2, ti to), (3, t32 last), (22, tb true)] [(0, [.ref 21 1 0 d0.length, .ref 22 2 0 d1.length, ti d2, tb d3]), (21, b8s .shr d0), (22, fl gWq d1)] hk rfl kr (.cons trivial (.cons (eb gd1) (.cons trivial (.cons (eb gd2) .nil)))) ?_
    intro k' hk'
    refine Go.slotEq 22 (tb ((decide (from_ < 0)) || ((decide (from_ ≥ to)) || (decide (to > (d0.length : Int)))))) rfl (eb (orF gd1 (orT gd2)).symm) ?_
    exact J k' hk'
   ·have gd2p := of_decide_eq_false gd2
    refine Go.rx 20 { ws := [(1, { v := some (tb false) }), (5, { v := some (tb false) }), (10, { call := some { ids := [0, 21, 22], S := [0, 21, 22], M := [], R := ti (d0.length : Int), H' := [(0, [.ref 21 1 0 d0.length, .ref 22 2 0 d1.length, ti d2, tb d3]), (21, b8s .shr d0), (22, fl gWq d1)] } })] } [] [0, 1, 2, 3, 22] _ [(0, .addr 0 0), (1, ti from_), (2, ti to), (3, t32 last), (22, tb (decide (to > (d0.length : Int))))] [(0, [.ref 21 1 0 d0.length, .ref 22 2 0 d1.length, ti d2, tb d3]), (21, b8s .shr d0), (22, fl gWq d1)] hk rfl kr (.cons trivial (.cons (eb gd1) (.cons trivial (.cons (eb gd2) (.cons (Meets.sw [] (dDSize_m d0 d1 d2 d3) : Meets Tryd.prog 26 [.addr 0 0] [(0, [.ref 21 1 0 d0.length, .ref 22 2 0 d1.length, ti d2, tb d3]), (21, b8s .shr d0), (22, fl gWq d1)] [0, 21, 22] (ti (d0.length : Int)) [(0, [.ref 21 1 0 d0.length, .ref 22 2 0 d1.length, ti d2, tb d3]), (21, b8s .shr d0), (22, fl gWq d1)]) (.cons (sb : subN (idsL [.addr 0 0]) [0, 21, 22] = true) (.cons (sb : subN (idsL [.ref 21 1 0 d0.length, .ref 22 2 0 d1.length, ti d2, tb d3]) [0, 21, 22] = true) (.cons (qj3_2 : subN (idsL (b8s .shr d0)) [0, 21, 22] = true) (.cons (qj3_1 : subN (idsL (fl gWq d1)) [0, 21, 22] = true) (.cons trivial .nil)))))))))) ?_
    intro k' hk'
    refine Go.slotEq 22 (tb ((decide (from_ < 0)) || ((decide (from_ ≥ to)) || (decide (to > (d0.length : Int)))))) rfl (eb (orF gd1 (orF gd2 rfl)).symm) ?_
    exact J k' hk'
attribute [irreducible] start_ok
end Go.Proofs.YtbppcnhfeobefaaDoor

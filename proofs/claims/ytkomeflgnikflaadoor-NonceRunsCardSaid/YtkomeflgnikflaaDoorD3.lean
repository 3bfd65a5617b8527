/- Functions, told: what each call returns. -/
import Derived.Test.YtkomeflgnikflaaDoorAt
namespace Go.Proofs.YtkomeflgnikflaaDoor
open Go Go.Vw Go.Proofs
def at_st_next_enc (_ : UInt64) (x10 : UInt64) (x2 : UInt64) (val : UInt64) (_ : Unit) : T × List (Nat × List T) := (.tup [], [(0, [t64 val, t64 x10, t64 x2])])
theorem at_st_next_m (x00 : UInt64) (x10 : UInt64) (x2 : UInt64) (val : UInt64) : Meets Tryd.prog 53 [.addr 0 0, t64 val] ([(0, [t64 x00, t64 x10, t64 x2])]) [0] (.tup []) ([(0, [t64 val, t64 x10, t64 x2])]) := by
  refine Meets.enterX (E := E) (N := 9) (enc := at_st_next_enc x00 x10 x2 val) (x := ()) Tryd.func53 Tryd.call53 rfl rfl ?_
  intro Γ k hk
  refine Go.rx 20 { ws := [(4, { call := some { ids := [0], S := [0], M := [], R := .tup [], H' := [(0, [t64 val, t64 x10, t64 x2])] } })] } [] [] _ [] [(0, [t64 val, t64 x10, t64 x2])] hk rfl (by as_aux_lemma => kernel_rfl) (.cons (atSt (by first | rfl | kernel_rfl) (by first | rfl | (simp only [T.ids, idsL, er_ids, List.append_nil, List.nil_append] <;> rfl)) : Meets Tryd.prog 62 [.addr 0 0, t64 val] [(0, [t64 x00, t64 x10, t64 x2])] [0] (.tup []) [(0, [t64 val, t64 x10, t64 x2])]) (.cons (rfl : subN (idsL [.addr 0 0, t64 val]) [0] = true) (.cons (by first | rfl | (simp only [T.ids, idsL, er_ids, List.append_nil, List.nil_append]; rfl) : subN (idsL [t64 x00, t64 x10, t64 x2]) [0] = true) .nil))) ?_
  clear hk; intro k hk
  exact Go.lvx 20 [0] _ [] Tryd.func53 hk rfl (by as_aux_lemma => kernel_rfl) .nil (T.Le.of_eq rfl) rfl rfl (.cons (by first | rfl | (simp only [T.ids, idsL, er_ids, List.append_nil, List.nil_append]; rfl)) .nil)
def at_ld_next_enc (x00 : UInt64) (x10 : UInt64) (x2 : UInt64) (_ : Unit) : T × List (Nat × List T) := (t64 x00, [(0, [t64 x00, t64 x10, t64 x2])])
theorem at_ld_next_m (x00 : UInt64) (x10 : UInt64) (x2 : UInt64) : Meets Tryd.prog 51 [.addr 0 0] ([(0, [t64 x00, t64 x10, t64 x2])]) [0] (t64 x00) ([(0, [t64 x00, t64 x10, t64 x2])]) := by
  refine Meets.enterX (E := E) (N := 7) (enc := at_ld_next_enc x00 x10 x2) (x := ()) Tryd.func51 Tryd.call51 rfl rfl ?_
  intro Γ k hk
  refine Go.rx 20 {} [] [0] _ [(0, .addr 0 0)] [(0, [t64 x00, t64 x10, t64 x2])] hk rfl (by as_aux_lemma => kernel_rfl) .nil ?_
  clear hk; intro k hk
  refine Go.rx 20 { ws := [(3, { call := some { ids := [0], S := [0], M := [], R := t64 x00, H' := [(0, [t64 x00, t64 x10, t64 x2])] } })] } [] [2] _ [(2, t64 x00)] [(0, [t64 x00, t64 x10, t64 x2])] hk rfl (by as_aux_lemma => kernel_rfl) (.cons (atLd (by first | rfl | kernel_rfl) (by first | rfl | (simp only [T.ids, idsL, er_ids, List.append_nil, List.nil_append] <;> rfl)) : Meets Tryd.prog 60 [.addr 0 0] [(0, [t64 x00, t64 x10, t64 x2])] [0] (t64 x00) [(0, [t64 x00, t64 x10, t64 x2])]) (.cons (rfl : subN (idsL [.addr 0 0]) [0] = true) (.cons (by first | rfl | (simp only [T.ids, idsL, er_ids, List.append_nil, List.nil_append]; rfl) : subN (idsL [t64 x00, t64 x10, t64 x2]) [0] = true) .nil))) ?_
  clear hk; intro k hk
  exact Go.lvx 20 [0] _ [t64 x00] Tryd.func51 hk rfl (by as_aux_lemma => kernel_rfl) .nil (T.Le.of_eq rfl) rfl rfl (.cons (by first | rfl | (simp only [T.ids, idsL, er_ids, List.append_nil, List.nil_append]; rfl)) .nil)
def at_cas_next_enc (_ : UInt64) (x10 : UInt64) (x2 : UInt64) (new : UInt64) (_ : Unit) : T × List (Nat × List T) := (tb true, [(0, [t64 new, t64 x10, t64 x2])])
theorem at_cas_next_m (x00 : UInt64) (x10 : UInt64) (x2 : UInt64) (new : UInt64) : Meets Tryd.prog 52 [.addr 0 0, t64 x00, t64 new] ([(0, [t64 x00, t64 x10, t64 x2])]) [0] (tb true) ([(0, [t64 new, t64 x10, t64 x2])]) := by
  refine Meets.enterX (E := E) (N := 13) (enc := at_cas_next_enc x00 x10 x2 new) (x := ()) Tryd.func52 Tryd.call52 rfl rfl ?_
  intro Γ k hk
  refine Go.rx 20 {} [] [0, 1, 2] _ [(0, .addr 0 0), (1, t64 x00), (2, t64 new)] [(0, [t64 x00, t64 x10, t64 x2])] hk rfl (by as_aux_lemma => kernel_rfl) .nil ?_
  clear hk; intro k hk
  refine Go.rx 20 { ws := [(5, { call := some { ids := [0], S := [0], M := [], R := tb true, H' := [(0, [t64 new, t64 x10, t64 x2])] } })] } [] [6] _ [(6, tb true)] [(0, [t64 new, t64 x10, t64 x2])] hk rfl (by as_aux_lemma => kernel_rfl) (.cons (atCas (by first | rfl | kernel_rfl) (by first | rfl | (simp only [T.ids, idsL, er_ids, List.append_nil, List.nil_append] <;> rfl)) : Meets Tryd.prog 61 [.addr 0 0, t64 x00, t64 new] [(0, [t64 x00, t64 x10, t64 x2])] [0] (tb true) [(0, [t64 new, t64 x10, t64 x2])]) (.cons (rfl : subN (idsL [.addr 0 0, t64 x00, t64 new]) [0] = true) (.cons (by first | rfl | (simp only [T.ids, idsL, er_ids, List.append_nil, List.nil_append]; rfl) : subN (idsL [t64 x00, t64 x10, t64 x2]) [0] = true) .nil))) ?_
  clear hk; intro k hk
  exact Go.lvx 20 [0] _ [tb true] Tryd.func52 hk rfl (by as_aux_lemma => kernel_rfl) .nil (T.Le.of_eq rfl) rfl rfl (.cons (by first | rfl | (simp only [T.ids, idsL, er_ids, List.append_nil, List.nil_append]; rfl)) .nil)
def at_st_mark_enc (x00 : UInt64) (_ : UInt64) (x2 : UInt64) (val : UInt64) (_ : Unit) : T × List (Nat × List T) := (.tup [], [(0, [t64 x00, t64 val, t64 x2])])
theorem at_st_mark_m (x00 : UInt64) (x10 : UInt64) (x2 : UInt64) (val : UInt64) : Meets Tryd.prog 53 [.addr 0 1, t64 val] ([(0, [t64 x00, t64 x10, t64 x2])]) [0] (.tup []) ([(0, [t64 x00, t64 val, t64 x2])]) := by
  refine Meets.enterX (E := E) (N := 9) (enc := at_st_mark_enc x00 x10 x2 val) (x := ()) Tryd.func53 Tryd.call53 rfl rfl ?_
  intro Γ k hk
  refine Go.rx 20 { ws := [(4, { call := some { ids := [0], S := [0], M := [], R := .tup [], H' := [(0, [t64 x00, t64 val, t64 x2])] } })] } [] [] _ [] [(0, [t64 x00, t64 val, t64 x2])] hk rfl (by as_aux_lemma => kernel_rfl) (.cons (atSt (by first | rfl | kernel_rfl) (by first | rfl | (simp only [T.ids, idsL, er_ids, List.append_nil, List.nil_append] <;> rfl)) : Meets Tryd.prog 62 [.addr 0 1, t64 val] [(0, [t64 x00, t64 x10, t64 x2])] [0] (.tup []) [(0, [t64 x00, t64 val, t64 x2])]) (.cons (rfl : subN (idsL [.addr 0 1, t64 val]) [0] = true) (.cons (by first | rfl | (simp only [T.ids, idsL, er_ids, List.append_nil, List.nil_append]; rfl) : subN (idsL [t64 x00, t64 x10, t64 x2]) [0] = true) .nil))) ?_
  clear hk; intro k hk
  exact Go.lvx 20 [0] _ [] Tryd.func53 hk rfl (by as_aux_lemma => kernel_rfl) .nil (T.Le.of_eq rfl) rfl rfl (.cons (by first | rfl | (simp only [T.ids, idsL, er_ids, List.append_nil, List.nil_append]; rfl)) .nil)
def at_ld_mark_enc (x00 : UInt64) (x10 : UInt64) (x2 : UInt64) (_ : Unit) : T × List (Nat × List T) := (t64 x10, [(0, [t64 x00, t64 x10, t64 x2])])
theorem at_ld_mark_m (x00 : UInt64) (x10 : UInt64) (x2 : UInt64) : Meets Tryd.prog 51 [.addr 0 1] ([(0, [t64 x00, t64 x10, t64 x2])]) [0] (t64 x10) ([(0, [t64 x00, t64 x10, t64 x2])]) := by
  refine Meets.enterX (E := E) (N := 7) (enc := at_ld_mark_enc x00 x10 x2) (x := ()) Tryd.func51 Tryd.call51 rfl rfl ?_
  intro Γ k hk
  refine Go.rx 20 {} [] [0] _ [(0, .addr 0 1)] [(0, [t64 x00, t64 x10, t64 x2])] hk rfl (by as_aux_lemma => kernel_rfl) .nil ?_
  clear hk; intro k hk
  refine Go.rx 20 { ws := [(3, { call := some { ids := [0], S := [0], M := [], R := t64 x10, H' := [(0, [t64 x00, t64 x10, t64 x2])] } })] } [] [2] _ [(2, t64 x10)] [(0, [t64 x00, t64 x10, t64 x2])] hk rfl (by as_aux_lemma => kernel_rfl) (.cons (atLd (by first | rfl | kernel_rfl) (by first | rfl | (simp only [T.ids, idsL, er_ids, List.append_nil, List.nil_append] <;> rfl)) : Meets Tryd.prog 60 [.addr 0 1] [(0, [t64 x00, t64 x10, t64 x2])] [0] (t64 x10) [(0, [t64 x00, t64 x10, t64 x2])]) (.cons (rfl : subN (idsL [.addr 0 1]) [0] = true) (.cons (by first | rfl | (simp only [T.ids, idsL, er_ids, List.append_nil, List.nil_append]; rfl) : subN (idsL [t64 x00, t64 x10, t64 x2]) [0] = true) .nil))) ?_
  clear hk; intro k hk
  exact Go.lvx 20 [0] _ [t64 x10] Tryd.func51 hk rfl (by as_aux_lemma => kernel_rfl) .nil (T.Le.of_eq rfl) rfl rfl (.cons (by first | rfl | (simp only [T.ids, idsL, er_ids, List.append_nil, List.nil_append]; rfl)) .nil)
def at_cas_mark_enc (x00 : UInt64) (_ : UInt64) (x2 : UInt64) (new : UInt64) (_ : Unit) : T × List (Nat × List T) := (tb true, [(0, [t64 x00, t64 new, t64 x2])])
theorem at_cas_mark_m (x00 : UInt64) (x10 : UInt64) (x2 : UInt64) (new : UInt64) : Meets Tryd.prog 52 [.addr 0 1, t64 x10, t64 new] ([(0, [t64 x00, t64 x10, t64 x2])]) [0] (tb true) ([(0, [t64 x00, t64 new, t64 x2])]) := by
  refine Meets.enterX (E := E) (N := 13) (enc := at_cas_mark_enc x00 x10 x2 new) (x := ()) Tryd.func52 Tryd.call52 rfl rfl ?_
  intro Γ k hk
  refine Go.rx 20 {} [] [0, 1, 2] _ [(0, .addr 0 1), (1, t64 x10), (2, t64 new)] [(0, [t64 x00, t64 x10, t64 x2])] hk rfl (by as_aux_lemma => kernel_rfl) .nil ?_
  clear hk; intro k hk
  refine Go.rx 20 { ws := [(5, { call := some { ids := [0], S := [0], M := [], R := tb true, H' := [(0, [t64 x00, t64 new, t64 x2])] } })] } [] [6] _ [(6, tb true)] [(0, [t64 x00, t64 new, t64 x2])] hk rfl (by as_aux_lemma => kernel_rfl) (.cons (atCas (by first | rfl | kernel_rfl) (by first | rfl | (simp only [T.ids, idsL, er_ids, List.append_nil, List.nil_append] <;> rfl)) : Meets Tryd.prog 61 [.addr 0 1, t64 x10, t64 new] [(0, [t64 x00, t64 x10, t64 x2])] [0] (tb true) [(0, [t64 x00, t64 new, t64 x2])]) (.cons (rfl : subN (idsL [.addr 0 1, t64 x10, t64 new]) [0] = true) (.cons (by first | rfl | (simp only [T.ids, idsL, er_ids, List.append_nil, List.nil_append]; rfl) : subN (idsL [t64 x00, t64 x10, t64 x2]) [0] = true) .nil))) ?_
  clear hk; intro k hk
  exact Go.lvx 20 [0] _ [tb true] Tryd.func52 hk rfl (by as_aux_lemma => kernel_rfl) .nil (T.Le.of_eq rfl) rfl rfl (.cons (by first | rfl | (simp only [T.ids, idsL, er_ids, List.append_nil, List.nil_append]; rfl)) .nil)
noncomputable def nonce_Counter_Take_l1 (c00 : UInt64) (c10 : UInt64) (c2 : UInt64) : Nat → Lo Unit (UInt64 × Int × (UInt64 × UInt64 × UInt64))
  | 0 => .brk default
  | _ + 1 =>
    bif decide (c00 ≥ c10) then
      Lo.ret (0, 2, (c00, c10, c2))
    else
      Lo.ret (c00, 0, (c00 + 1, c10, c2))
noncomputable def nonce_Counter_Take (c00 : UInt64) (c10 : UInt64) (c2 : UInt64) : UInt64 × Int × (UInt64 × UInt64 × UInt64) :=
  Lo.el (nonce_Counter_Take_l1 c00 c10 c2 (0 + 1)) (fun _ => default)
def nonce_Counter_Take_enc (x : UInt64 × Int × (UInt64 × UInt64 × UInt64)) : T × List (Nat × List T) := (.tup [t64 x.1, er 82 x.2.1], [(0, [t64 x.2.2.1, t64 x.2.2.2.1, t64 x.2.2.2.2])])
theorem nonce_Counter_Take_m (c00 : UInt64) (c10 : UInt64) (c2 : UInt64) : Meets Tryd.prog 27 [.addr 0 0] ([(0, [t64 c00, t64 c10, t64 c2])]) [0] (.tup [t64 ((nonce_Counter_Take c00 c10 c2).1), er 82 ((nonce_Counter_Take c00 c10 c2).2.1)]) ([(0, [t64 (((nonce_Counter_Take c00 c10 c2).2.2).1), t64 (((nonce_Counter_Take c00 c10 c2).2.2).2.1), t64 (((nonce_Counter_Take c00 c10 c2).2.2).2.2)])]) := by
  refine Meets.enterX (E := E) (N := 27) (enc := nonce_Counter_Take_enc) (x := (nonce_Counter_Take c00 c10 c2)) Tryd.func27 Tryd.call27 rfl rfl ?_
  intro Γ k hk
  refine Go.rx 20 {} [] [0] _ [(0, .addr 0 0)] [(0, [t64 c00, t64 c10, t64 c2])] hk rfl (by as_aux_lemma => kernel_rfl) .nil ?_
  clear hk; intro k hk
  refine Go.rx 20 {} [] [0, 6] _ [(0, .addr 0 0), (6, tb false)] [(0, [t64 c00, t64 c10, t64 c2])] hk rfl (by as_aux_lemma => kernel_rfl) (.cons (⟨94, by as_aux_lemma => kernel_rfl⟩ : ∃ e, (E.ti 54).k = .ptr e) .nil) ?_
  clear hk; intro k hk
  refine Go.cond 20 hk rfl (t := false) rfl ?_; clear hk; intro k hk
  refine Go.keepN [0] (L' := [(0, .addr 0 0)]) rfl ?_
  refine Go.loopX 20 hk rfl ?_
  clear hk; intro kl1 kxl1 hl1 hxl1
  have Ll1 : ∀ (ml1 : Nat) , (0 < ml1) → Go E Γ 27 27 [0] ((PostX Γ nonce_Counter_Take_enc) (Lo.el (nonce_Counter_Take_l1 c00 c10 c2 ml1) (fun _ => default))) kl1 (stL [(0, .addr 0 0)] [(0, [t64 c00, t64 c10, t64 c2])]) := by
    intro ml1
    induction ml1 with
    | zero => intro hml1; exact absurd hml1 (Nat.not_lt_zero _)
    | succ ml1 ihl1 =>
      intro hml1
      rw [nonce_Counter_Take_l1]
      refine Go.round hl1 ?_
      intro k hk
      refine Go.rx 20 { ws := [(3, { call := some { ids := [0], S := [0], M := [], R := t64 c00, H' := [(0, [t64 c00, t64 c10, t64 c2])] } })] } [] [0, 4] _ [(0, .addr 0 0), (4, t64 c00)] [(0, [t64 c00, t64 c10, t64 c2])] hk rfl (by as_aux_lemma => kernel_rfl) (.cons (Meets.swp [] (at_ld_next_m c00 c10 c2) (.cons (.addr rfl 0) .nil) (.cons rfl (.same (by first | rfl | (simp only [T.ids, idsL, er_ids, List.append_nil, List.nil_append] <;> rfl))) .nil) rfl (.same (by first | rfl | (simp only [T.ids, idsL, er_ids, List.append_nil, List.nil_append] <;> rfl))) (.cons rfl (.same (by first | rfl | (simp only [T.ids, idsL, er_ids, List.append_nil, List.nil_append] <;> rfl))) .nil) : Meets Tryd.prog 51 [.addr 0 0] [(0, [t64 c00, t64 c10, t64 c2])] [0] (t64 c00) [(0, [t64 c00, t64 c10, t64 c2])]) (.cons (by first | rfl | (simp only [T.ids, idsL, er_ids, List.append_nil, List.nil_append]; rfl) : subN (idsL [.addr 0 0]) [0] = true) (.cons (by first | rfl | (simp only [T.ids, idsL, er_ids, List.append_nil, List.nil_append]; rfl) : subN (idsL [t64 c00, t64 c10, t64 c2]) [0] = true) .nil))) ?_
      clear hk; intro k hk
      refine Go.rx 20 { ws := [(4, { call := some { ids := [0], S := [0], M := [], R := t64 c10, H' := [(0, [t64 c00, t64 c10, t64 c2])] } }), (5, { v := some (tb (decide (c00 ≥ c10))) })] } [] [0, 4, 17] _ [(0, .addr 0 0), (4, t64 c00), (17, tb (decide (c00 ≥ c10)))] [(0, [t64 c00, t64 c10, t64 c2])] hk rfl (by as_aux_lemma => kernel_rfl) (.cons (Meets.swp [] (at_ld_mark_m c00 c10 c2) (.cons (.addr rfl 1) .nil) (.cons rfl (.same (by first | rfl | (simp only [T.ids, idsL, er_ids, List.append_nil, List.nil_append] <;> rfl))) .nil) rfl (.same (by first | rfl | (simp only [T.ids, idsL, er_ids, List.append_nil, List.nil_append] <;> rfl))) (.cons rfl (.same (by first | rfl | (simp only [T.ids, idsL, er_ids, List.append_nil, List.nil_append] <;> rfl))) .nil) : Meets Tryd.prog 51 [.addr 0 1] [(0, [t64 c00, t64 c10, t64 c2])] [0] (t64 c10) [(0, [t64 c00, t64 c10, t64 c2])]) (.cons (by first | rfl | (simp only [T.ids, idsL, er_ids, List.append_nil, List.nil_append]; rfl) : subN (idsL [.addr 0 1]) [0] = true) (.cons (by first | rfl | (simp only [T.ids, idsL, er_ids, List.append_nil, List.nil_append]; rfl) : subN (idsL [t64 c00, t64 c10, t64 c2]) [0] = true) (.cons trivial (.cons (geB64 c00 c10) .nil))))) ?_
      clear hk; intro k hk
      refine Go.br 20 (Pf := (fun z : Lo (Unit) (UInt64 × Int × (UInt64 × UInt64 × UInt64)) => (PostX Γ nonce_Counter_Take_enc) (Lo.el z (fun _ => default)))) hk rfl rfl ?_ ?_ <;> clear hk <;> intro ct1 k hk
      · refine Go.rx 20 {} [] [2, 3] _ [(2, t64 0), (3, er 82 2)] [(0, [t64 c00, t64 c10, t64 c2])] hk rfl (by as_aux_lemma => kernel_rfl) .nil ?_
        clear hk; intro k hk
        exact Go.lvx 20 [0] _ [t64 0, er 82 2] Tryd.func27 hk rfl (by as_aux_lemma => kernel_rfl) .nil (T.Le.tup (.cons (T.Le.of_eq rfl) (.cons (T.Le.of_eq rfl) .nil))) rfl (by first | rfl | (simp only [nonce_Counter_Take_enc, T.ids, idsL, er_ids, List.append_nil, List.nil_append]; rfl)) (.cons (by first | rfl | (simp only [T.ids, idsL, er_ids, List.append_nil, List.nil_append]; rfl)) .nil)
      · refine Go.rx 20 { ws := [(5, { v := some (t64 (c00 + 1)) }), (6, { call := some { ids := [0], S := [0], M := [], R := tb true, H' := [(0, [t64 (c00 + 1), t64 c10, t64 c2])] } })] } [] [0, 4, 25] _ [(0, .addr 0 0), (4, t64 c00), (25, tb true)] [(0, [t64 (c00 + 1), t64 c10, t64 c2])] hk rfl (by as_aux_lemma => kernel_rfl) (.cons trivial (.cons (add64 c00 1) (.cons (Meets.swp [] (at_cas_next_m c00 c10 c2 (c00 + 1)) (.cons (.addr rfl 0) (.cons (.same (by first | rfl | (simp only [T.ids, idsL, er_ids, List.append_nil, List.nil_append] <;> rfl))) (.cons (.same (by first | rfl | (simp only [T.ids, idsL, er_ids, List.append_nil, List.nil_append] <;> rfl))) .nil))) (.cons rfl (.same (by first | rfl | (simp only [T.ids, idsL, er_ids, List.append_nil, List.nil_append] <;> rfl))) .nil) rfl (.same (by first | rfl | (simp only [T.ids, idsL, er_ids, List.append_nil, List.nil_append] <;> rfl))) (.cons rfl (.same (by first | rfl | (simp only [T.ids, idsL, er_ids, List.append_nil, List.nil_append] <;> rfl))) .nil) : Meets Tryd.prog 52 [.addr 0 0, t64 c00, t64 (c00 + 1)] [(0, [t64 c00, t64 c10, t64 c2])] [0] (tb true) [(0, [t64 (c00 + 1), t64 c10, t64 c2])]) (.cons (by first | rfl | (simp only [T.ids, idsL, er_ids, List.append_nil, List.nil_append]; rfl) : subN (idsL [.addr 0 0, t64 c00, t64 (c00 + 1)]) [0] = true) (.cons (by first | rfl | (simp only [T.ids, idsL, er_ids, List.append_nil, List.nil_append]; rfl) : subN (idsL [t64 c00, t64 c10, t64 c2]) [0] = true) .nil))))) ?_
        clear hk; intro k hk
        refine Go.cond 20 hk rfl (t := true) rfl ?_; clear hk; intro k hk
        refine Go.rx 20 {} [] [2, 3] _ [(2, t64 c00), (3, .leaf .nilIface)] [(0, [t64 (c00 + 1), t64 c10, t64 c2])] hk rfl (by as_aux_lemma => kernel_rfl) .nil ?_
        clear hk; intro k hk
        exact Go.lvx 20 [0] _ [t64 c00, .leaf .nilIface] Tryd.func27 hk rfl (by as_aux_lemma => kernel_rfl) .nil (T.Le.tup (.cons (T.Le.of_eq rfl) (.cons (T.Le.of_eq rfl) .nil))) rfl rfl (.cons (by first | rfl | (simp only [T.ids, idsL, er_ids, List.append_nil, List.nil_append]; rfl)) .nil)
  exact Ll1 _   (Nat.lt_succ_self _)
noncomputable def nil_Take  : UInt64 × Int :=
  (0, 1)
def nil_Take_enc (x : UInt64 × Int) : T × List (Nat × List T) := (.tup [t64 x.1, er 82 x.2], [])
theorem nil_Take_m  : Meets Tryd.prog 27 [.leaf (.pointer none)] [] [] (.tup [t64 nil_Take.1, er 82 nil_Take.2]) [] := by
  refine Meets.enterX (E := E) (N := 27) (enc := nil_Take_enc) (x := nil_Take) Tryd.func27 Tryd.call27 rfl rfl ?_
  intro Γ k hk
  refine Go.rx 20 {} [] [0] _ [(0, .leaf (.pointer none))] [] hk rfl (by as_aux_lemma => kernel_rfl) .nil ?_
  clear hk; intro k hk
  refine Go.rx 20 {} [] [0, 6] _ [(0, .leaf (.pointer none)), (6, tb true)] [] hk rfl (by as_aux_lemma => kernel_rfl) (.cons (⟨94, by as_aux_lemma => kernel_rfl⟩ : ∃ e, (E.ti 54).k = .ptr e) .nil) ?_
  clear hk; intro k hk
  refine Go.cond 20 hk rfl (t := true) rfl ?_; clear hk; intro k hk
  refine Go.rx 20 {} [] [2, 3] _ [(2, t64 0), (3, er 82 1)] [] hk rfl (by as_aux_lemma => kernel_rfl) .nil ?_
  clear hk; intro k hk
  exact Go.lvx 20 [] _ [t64 0, er 82 1] Tryd.func27 hk rfl (by as_aux_lemma => kernel_rfl) .nil (T.Le.tup (.cons (T.Le.of_eq rfl) (.cons (T.Le.of_eq rfl) .nil))) rfl (by first | rfl | (simp only [nil_Take_enc, T.ids, idsL, er_ids, List.append_nil, List.nil_append]; rfl)) .nil
noncomputable def nonce_Counter_Extend_l1 (c00 : UInt64) (c10 : UInt64) (c2 : UInt64) : Nat → Lo Unit (UInt64 × Int × (UInt64 × UInt64 × UInt64))
  | 0 => .brk default
  | _ + 1 =>
    bif c10 == c2 then
      Lo.ret (0, 8, (c00, c10, c2))
    else
      Lo.ret (if c2 < c10 + 16 then c2 else c10 + 16, 0, (c00, if c2 < c10 + 16 then c2 else c10 + 16, c2))
noncomputable def nonce_Counter_Extend (c00 : UInt64) (c10 : UInt64) (c2 : UInt64) : UInt64 × Int × (UInt64 × UInt64 × UInt64) :=
  Lo.el (nonce_Counter_Extend_l1 c00 c10 c2 (0 + 1)) (fun _ => default)
def nonce_Counter_Extend_enc (x : UInt64 × Int × (UInt64 × UInt64 × UInt64)) : T × List (Nat × List T) := (.tup [t64 x.1, er 82 x.2.1], [(0, [t64 x.2.2.1, t64 x.2.2.2.1, t64 x.2.2.2.2])])
theorem nonce_Counter_Extend_m (c00 : UInt64) (c10 : UInt64) (c2 : UInt64) : Meets Tryd.prog 28 [.addr 0 0] ([(0, [t64 c00, t64 c10, t64 c2])]) [0] (.tup [t64 ((nonce_Counter_Extend c00 c10 c2).1), er 82 ((nonce_Counter_Extend c00 c10 c2).2.1)]) ([(0, [t64 (((nonce_Counter_Extend c00 c10 c2).2.2).1), t64 (((nonce_Counter_Extend c00 c10 c2).2.2).2.1), t64 (((nonce_Counter_Extend c00 c10 c2).2.2).2.2)])]) := by
  refine Meets.enterX (E := E) (N := 34) (enc := nonce_Counter_Extend_enc) (x := (nonce_Counter_Extend c00 c10 c2)) Tryd.func28 Tryd.call28 rfl rfl ?_
  intro Γ k hk
  refine Go.rx 20 {} [] [0] _ [(0, .addr 0 0)] [(0, [t64 c00, t64 c10, t64 c2])] hk rfl (by as_aux_lemma => kernel_rfl) .nil ?_
  clear hk; intro k hk
  refine Go.rx 20 {} [] [0, 7] _ [(0, .addr 0 0), (7, tb false)] [(0, [t64 c00, t64 c10, t64 c2])] hk rfl (by as_aux_lemma => kernel_rfl) (.cons (⟨94, by as_aux_lemma => kernel_rfl⟩ : ∃ e, (E.ti 54).k = .ptr e) .nil) ?_
  clear hk; intro k hk
  refine Go.cond 20 hk rfl (t := false) rfl ?_; clear hk; intro k hk
  refine Go.keepN [0] (L' := [(0, .addr 0 0)]) rfl ?_
  refine Go.loopX 20 hk rfl ?_
  clear hk; intro kl1 kxl1 hl1 hxl1
  have Ll1 : ∀ (ml1 : Nat) , (0 < ml1) → Go E Γ 28 34 [0] ((PostX Γ nonce_Counter_Extend_enc) (Lo.el (nonce_Counter_Extend_l1 c00 c10 c2 ml1) (fun _ => default))) kl1 (stL [(0, .addr 0 0)] [(0, [t64 c00, t64 c10, t64 c2])]) := by
    intro ml1
    induction ml1 with
    | zero => intro hml1; exact absurd hml1 (Nat.not_lt_zero _)
    | succ ml1 ihl1 =>
      intro hml1
      rw [nonce_Counter_Extend_l1]
      refine Go.round hl1 ?_
      intro k hk
      refine Go.rx 20 { ws := [(3, { call := some { ids := [0], S := [0], M := [], R := t64 c10, H' := [(0, [t64 c00, t64 c10, t64 c2])] } })] } [] [0, 4] _ [(0, .addr 0 0), (4, t64 c10)] [(0, [t64 c00, t64 c10, t64 c2])] hk rfl (by as_aux_lemma => kernel_rfl) (.cons (Meets.swp [] (at_ld_mark_m c00 c10 c2) (.cons (.addr rfl 1) .nil) (.cons rfl (.same (by first | rfl | (simp only [T.ids, idsL, er_ids, List.append_nil, List.nil_append] <;> rfl))) .nil) rfl (.same (by first | rfl | (simp only [T.ids, idsL, er_ids, List.append_nil, List.nil_append] <;> rfl))) (.cons rfl (.same (by first | rfl | (simp only [T.ids, idsL, er_ids, List.append_nil, List.nil_append] <;> rfl))) .nil) : Meets Tryd.prog 51 [.addr 0 1] [(0, [t64 c00, t64 c10, t64 c2])] [0] (t64 c10) [(0, [t64 c00, t64 c10, t64 c2])]) (.cons (by first | rfl | (simp only [T.ids, idsL, er_ids, List.append_nil, List.nil_append]; rfl) : subN (idsL [.addr 0 1]) [0] = true) (.cons (by first | rfl | (simp only [T.ids, idsL, er_ids, List.append_nil, List.nil_append]; rfl) : subN (idsL [t64 c00, t64 c10, t64 c2]) [0] = true) .nil))) ?_
      clear hk; intro k hk
      refine Go.rx 20 { ws := [(5, { v := some (tb (c10 == c2)) })] } [] [0, 4, 18] _ [(0, .addr 0 0), (4, t64 c10), (18, tb (c10 == c2))] [(0, [t64 c00, t64 c10, t64 c2])] hk rfl (by as_aux_lemma => kernel_rfl) (.cons trivial (.cons (eqB64 c10 c2) .nil)) ?_
      clear hk; intro k hk
      refine Go.br 20 (Pf := (fun z : Lo (Unit) (UInt64 × Int × (UInt64 × UInt64 × UInt64)) => (PostX Γ nonce_Counter_Extend_enc) (Lo.el z (fun _ => default)))) hk rfl rfl ?_ ?_ <;> clear hk <;> intro ct1 k hk
      · refine Go.rx 20 {} [] [2, 3] _ [(2, t64 0), (3, er 82 8)] [(0, [t64 c00, t64 c10, t64 c2])] hk rfl (by as_aux_lemma => kernel_rfl) .nil ?_
        clear hk; intro k hk
        exact Go.lvx 20 [0] _ [t64 0, er 82 8] Tryd.func28 hk rfl (by as_aux_lemma => kernel_rfl) .nil (T.Le.tup (.cons (T.Le.of_eq rfl) (.cons (T.Le.of_eq rfl) .nil))) rfl (by first | rfl | (simp only [nonce_Counter_Extend_enc, T.ids, idsL, er_ids, List.append_nil, List.nil_append]; rfl)) (.cons (by first | rfl | (simp only [T.ids, idsL, er_ids, List.append_nil, List.nil_append]; rfl)) .nil)
      · refine Go.rx 20 { ws := [(1, { v := some (t64 (c10 + 16)) }), (6, { v := some (t64 (if c2 < c10 + 16 then c2 else c10 + 16)) })] } [] [0, 4, 5] _ [(0, .addr 0 0), (4, t64 c10), (5, t64 (if c2 < c10 + 16 then c2 else c10 + 16))] [(0, [t64 c00, t64 c10, t64 c2])] hk rfl (by as_aux_lemma => kernel_rfl) (.cons trivial (.cons (add64 c10 16) (.cons (min64 (c10 + 16) c2) .nil))) ?_
        clear hk; intro k hk
        refine Go.rx 20 { ws := [(5, { call := some { ids := [0], S := [0], M := [], R := tb true, H' := [(0, [t64 c00, t64 (if c2 < c10 + 16 then c2 else c10 + 16), t64 c2])] } })] } [] [0, 5, 32] _ [(0, .addr 0 0), (5, t64 (if c2 < c10 + 16 then c2 else c10 + 16)), (32, tb true)] [(0, [t64 c00, t64 (if c2 < c10 + 16 then c2 else c10 + 16), t64 c2])] hk rfl (by as_aux_lemma => kernel_rfl) (.cons (Meets.swp [] (at_cas_mark_m c00 c10 c2 (if c2 < c10 + 16 then c2 else c10 + 16)) (.cons (.addr rfl 1) (.cons (.same (by first | rfl | (simp only [T.ids, idsL, er_ids, List.append_nil, List.nil_append] <;> rfl))) (.cons (.same (by first | rfl | (simp only [T.ids, idsL, er_ids, List.append_nil, List.nil_append] <;> rfl))) .nil))) (.cons rfl (.same (by first | rfl | (simp only [T.ids, idsL, er_ids, List.append_nil, List.nil_append] <;> rfl))) .nil) rfl (.same (by first | rfl | (simp only [T.ids, idsL, er_ids, List.append_nil, List.nil_append] <;> rfl))) (.cons rfl (.same (by first | rfl | (simp only [T.ids, idsL, er_ids, List.append_nil, List.nil_append] <;> rfl))) .nil) : Meets Tryd.prog 52 [.addr 0 1, t64 c10, t64 (if c2 < c10 + 16 then c2 else c10 + 16)] [(0, [t64 c00, t64 c10, t64 c2])] [0] (tb true) [(0, [t64 c00, t64 (if c2 < c10 + 16 then c2 else c10 + 16), t64 c2])]) (.cons (by first | rfl | (simp only [T.ids, idsL, er_ids, List.append_nil, List.nil_append]; rfl) : subN (idsL [.addr 0 1, t64 c10, t64 (if c2 < c10 + 16 then c2 else c10 + 16)]) [0] = true) (.cons (by first | rfl | (simp only [T.ids, idsL, er_ids, List.append_nil, List.nil_append]; rfl) : subN (idsL [t64 c00, t64 c10, t64 c2]) [0] = true) .nil))) ?_
        clear hk; intro k hk
        refine Go.cond 20 hk rfl (t := true) rfl ?_; clear hk; intro k hk
        refine Go.rx 20 {} [] [2, 3] _ [(2, t64 (if c2 < c10 + 16 then c2 else c10 + 16)), (3, .leaf .nilIface)] [(0, [t64 c00, t64 (if c2 < c10 + 16 then c2 else c10 + 16), t64 c2])] hk rfl (by as_aux_lemma => kernel_rfl) .nil ?_
        clear hk; intro k hk
        exact Go.lvx 20 [0] _ [t64 (if c2 < c10 + 16 then c2 else c10 + 16), .leaf .nilIface] Tryd.func28 hk rfl (by as_aux_lemma => kernel_rfl) .nil (T.Le.tup (.cons (T.Le.of_eq rfl) (.cons (T.Le.of_eq rfl) .nil))) rfl rfl (.cons (by first | rfl | (simp only [T.ids, idsL, er_ids, List.append_nil, List.nil_append]; rfl)) .nil)
  exact Ll1 _   (Nat.lt_succ_self _)
noncomputable def nil_Extend  : UInt64 × Int :=
  (0, 1)
def nil_Extend_enc (x : UInt64 × Int) : T × List (Nat × List T) := (.tup [t64 x.1, er 82 x.2], [])
theorem nil_Extend_m  : Meets Tryd.prog 28 [.leaf (.pointer none)] [] [] (.tup [t64 nil_Extend.1, er 82 nil_Extend.2]) [] := by
  refine Meets.enterX (E := E) (N := 34) (enc := nil_Extend_enc) (x := nil_Extend) Tryd.func28 Tryd.call28 rfl rfl ?_
  intro Γ k hk
  refine Go.rx 20 {} [] [0] _ [(0, .leaf (.pointer none))] [] hk rfl (by as_aux_lemma => kernel_rfl) .nil ?_
  clear hk; intro k hk
  refine Go.rx 20 {} [] [0, 7] _ [(0, .leaf (.pointer none)), (7, tb true)] [] hk rfl (by as_aux_lemma => kernel_rfl) (.cons (⟨94, by as_aux_lemma => kernel_rfl⟩ : ∃ e, (E.ti 54).k = .ptr e) .nil) ?_
  clear hk; intro k hk
  refine Go.cond 20 hk rfl (t := true) rfl ?_; clear hk; intro k hk
  refine Go.rx 20 {} [] [2, 3] _ [(2, t64 0), (3, er 82 1)] [] hk rfl (by as_aux_lemma => kernel_rfl) .nil ?_
  clear hk; intro k hk
  exact Go.lvx 20 [] _ [t64 0, er 82 1] Tryd.func28 hk rfl (by as_aux_lemma => kernel_rfl) .nil (T.Le.tup (.cons (T.Le.of_eq rfl) (.cons (T.Le.of_eq rfl) .nil))) rfl (by first | rfl | (simp only [nil_Extend_enc, T.ids, idsL, er_ids, List.append_nil, List.nil_append]; rfl)) .nil
noncomputable def nonce_Counter_Mark (c00 : UInt64) (c10 : UInt64) (c2 : UInt64) : UInt64 × (UInt64 × UInt64 × UInt64) :=
  (c10, (c00, c10, c2))
def nonce_Counter_Mark_enc (x : UInt64 × (UInt64 × UInt64 × UInt64)) : T × List (Nat × List T) := (t64 x.1, [(0, [t64 x.2.1, t64 x.2.2.1, t64 x.2.2.2])])
theorem nonce_Counter_Mark_m (c00 : UInt64) (c10 : UInt64) (c2 : UInt64) : Meets Tryd.prog 29 [.addr 0 0] ([(0, [t64 c00, t64 c10, t64 c2])]) [0] (t64 ((nonce_Counter_Mark c00 c10 c2).1)) ([(0, [t64 (((nonce_Counter_Mark c00 c10 c2).2).1), t64 (((nonce_Counter_Mark c00 c10 c2).2).2.1), t64 (((nonce_Counter_Mark c00 c10 c2).2).2.2)])]) := by
  refine Meets.enterX (E := E) (N := 9) (enc := nonce_Counter_Mark_enc) (x := (nonce_Counter_Mark c00 c10 c2)) Tryd.func29 Tryd.call29 rfl rfl ?_
  intro Γ k hk
  refine Go.rx 20 {} [] [0] _ [(0, .addr 0 0)] [(0, [t64 c00, t64 c10, t64 c2])] hk rfl (by as_aux_lemma => kernel_rfl) .nil ?_
  clear hk; intro k hk
  refine Go.rx 20 {} [] [0, 4] _ [(0, .addr 0 0), (4, tb false)] [(0, [t64 c00, t64 c10, t64 c2])] hk rfl (by as_aux_lemma => kernel_rfl) (.cons (⟨94, by as_aux_lemma => kernel_rfl⟩ : ∃ e, (E.ti 54).k = .ptr e) .nil) ?_
  clear hk; intro k hk
  refine Go.cond 20 hk rfl (t := false) rfl ?_; clear hk; intro k hk
  refine Go.rx 20 { ws := [(3, { call := some { ids := [0], S := [0], M := [], R := t64 c10, H' := [(0, [t64 c00, t64 c10, t64 c2])] } })] } [] [2] _ [(2, t64 c10)] [(0, [t64 c00, t64 c10, t64 c2])] hk rfl (by as_aux_lemma => kernel_rfl) (.cons (Meets.swp [] (at_ld_mark_m c00 c10 c2) (.cons (.addr rfl 1) .nil) (.cons rfl (.same (by first | rfl | (simp only [T.ids, idsL, er_ids, List.append_nil, List.nil_append] <;> rfl))) .nil) rfl (.same (by first | rfl | (simp only [T.ids, idsL, er_ids, List.append_nil, List.nil_append] <;> rfl))) (.cons rfl (.same (by first | rfl | (simp only [T.ids, idsL, er_ids, List.append_nil, List.nil_append] <;> rfl))) .nil) : Meets Tryd.prog 51 [.addr 0 1] [(0, [t64 c00, t64 c10, t64 c2])] [0] (t64 c10) [(0, [t64 c00, t64 c10, t64 c2])]) (.cons (by first | rfl | (simp only [T.ids, idsL, er_ids, List.append_nil, List.nil_append]; rfl) : subN (idsL [.addr 0 1]) [0] = true) (.cons (by first | rfl | (simp only [T.ids, idsL, er_ids, List.append_nil, List.nil_append]; rfl) : subN (idsL [t64 c00, t64 c10, t64 c2]) [0] = true) .nil))) ?_
  clear hk; intro k hk
  exact Go.lvx 20 [0] _ [t64 c10] Tryd.func29 hk rfl (by as_aux_lemma => kernel_rfl) .nil (T.Le.of_eq rfl) rfl rfl (.cons (by first | rfl | (simp only [T.ids, idsL, er_ids, List.append_nil, List.nil_append]; rfl)) .nil)
noncomputable def nil_Mark  : UInt64 :=
  0
def nil_Mark_enc (x : UInt64) : T × List (Nat × List T) := (t64 x, [])
theorem nil_Mark_m  : Meets Tryd.prog 29 [.leaf (.pointer none)] [] [] (t64 nil_Mark) [] := by
  refine Meets.enterX (E := E) (N := 9) (enc := nil_Mark_enc) (x := nil_Mark) Tryd.func29 Tryd.call29 rfl rfl ?_
  intro Γ k hk
  refine Go.rx 20 {} [] [0] _ [(0, .leaf (.pointer none))] [] hk rfl (by as_aux_lemma => kernel_rfl) .nil ?_
  clear hk; intro k hk
  refine Go.rx 20 {} [] [0, 4] _ [(0, .leaf (.pointer none)), (4, tb true)] [] hk rfl (by as_aux_lemma => kernel_rfl) (.cons (⟨94, by as_aux_lemma => kernel_rfl⟩ : ∃ e, (E.ti 54).k = .ptr e) .nil) ?_
  clear hk; intro k hk
  refine Go.cond 20 hk rfl (t := true) rfl ?_; clear hk; intro k hk
  refine Go.rx 20 {} [] [2] _ [(2, t64 0)] [] hk rfl (by as_aux_lemma => kernel_rfl) .nil ?_
  clear hk; intro k hk
  exact Go.lvx 20 [] _ [t64 0] Tryd.func29 hk rfl (by as_aux_lemma => kernel_rfl) .nil (T.Le.of_eq rfl) rfl rfl .nil
noncomputable def nonce_Counter_Left (c00 : UInt64) (c10 : UInt64) (c2 : UInt64) : UInt64 × (UInt64 × UInt64 × UInt64) :=
  (c10 - c00, (c00, c10, c2))
def nonce_Counter_Left_enc (x : UInt64 × (UInt64 × UInt64 × UInt64)) : T × List (Nat × List T) := (t64 x.1, [(0, [t64 x.2.1, t64 x.2.2.1, t64 x.2.2.2])])
theorem nonce_Counter_Left_m (c00 : UInt64) (c10 : UInt64) (c2 : UInt64) : Meets Tryd.prog 30 [.addr 0 0] ([(0, [t64 c00, t64 c10, t64 c2])]) [0] (t64 ((nonce_Counter_Left c00 c10 c2).1)) ([(0, [t64 (((nonce_Counter_Left c00 c10 c2).2).1), t64 (((nonce_Counter_Left c00 c10 c2).2).2.1), t64 (((nonce_Counter_Left c00 c10 c2).2).2.2)])]) := by
  refine Meets.enterX (E := E) (N := 16) (enc := nonce_Counter_Left_enc) (x := (nonce_Counter_Left c00 c10 c2)) Tryd.func30 Tryd.call30 rfl rfl ?_
  intro Γ k hk
  refine Go.rx 20 {} [] [0] _ [(0, .addr 0 0)] [(0, [t64 c00, t64 c10, t64 c2])] hk rfl (by as_aux_lemma => kernel_rfl) .nil ?_
  clear hk; intro k hk
  refine Go.rx 20 {} [] [0, 5] _ [(0, .addr 0 0), (5, tb false)] [(0, [t64 c00, t64 c10, t64 c2])] hk rfl (by as_aux_lemma => kernel_rfl) (.cons (⟨94, by as_aux_lemma => kernel_rfl⟩ : ∃ e, (E.ti 54).k = .ptr e) .nil) ?_
  clear hk; intro k hk
  refine Go.cond 20 hk rfl (t := false) rfl ?_; clear hk; intro k hk
  refine Go.rx 20 { ws := [(3, { call := some { ids := [0], S := [0], M := [], R := t64 c00, H' := [(0, [t64 c00, t64 c10, t64 c2])] } })] } [] [0, 3] _ [(0, .addr 0 0), (3, t64 c00)] [(0, [t64 c00, t64 c10, t64 c2])] hk rfl (by as_aux_lemma => kernel_rfl) (.cons (Meets.swp [] (at_ld_next_m c00 c10 c2) (.cons (.addr rfl 0) .nil) (.cons rfl (.same (by first | rfl | (simp only [T.ids, idsL, er_ids, List.append_nil, List.nil_append] <;> rfl))) .nil) rfl (.same (by first | rfl | (simp only [T.ids, idsL, er_ids, List.append_nil, List.nil_append] <;> rfl))) (.cons rfl (.same (by first | rfl | (simp only [T.ids, idsL, er_ids, List.append_nil, List.nil_append] <;> rfl))) .nil) : Meets Tryd.prog 51 [.addr 0 0] [(0, [t64 c00, t64 c10, t64 c2])] [0] (t64 c00) [(0, [t64 c00, t64 c10, t64 c2])]) (.cons (by first | rfl | (simp only [T.ids, idsL, er_ids, List.append_nil, List.nil_append]; rfl) : subN (idsL [.addr 0 0]) [0] = true) (.cons (by first | rfl | (simp only [T.ids, idsL, er_ids, List.append_nil, List.nil_append]; rfl) : subN (idsL [t64 c00, t64 c10, t64 c2]) [0] = true) .nil))) ?_
  clear hk; intro k hk
  refine Go.rx 20 { ws := [(3, { call := some { ids := [0], S := [0], M := [], R := t64 c10, H' := [(0, [t64 c00, t64 c10, t64 c2])] } }), (5, { v := some (t64 (c10 - c00)) })] } [] [2] _ [(2, t64 (c10 - c00))] [(0, [t64 c00, t64 c10, t64 c2])] hk rfl (by as_aux_lemma => kernel_rfl) (.cons (Meets.swp [] (at_ld_mark_m c00 c10 c2) (.cons (.addr rfl 1) .nil) (.cons rfl (.same (by first | rfl | (simp only [T.ids, idsL, er_ids, List.append_nil, List.nil_append] <;> rfl))) .nil) rfl (.same (by first | rfl | (simp only [T.ids, idsL, er_ids, List.append_nil, List.nil_append] <;> rfl))) (.cons rfl (.same (by first | rfl | (simp only [T.ids, idsL, er_ids, List.append_nil, List.nil_append] <;> rfl))) .nil) : Meets Tryd.prog 51 [.addr 0 1] [(0, [t64 c00, t64 c10, t64 c2])] [0] (t64 c10) [(0, [t64 c00, t64 c10, t64 c2])]) (.cons (by first | rfl | (simp only [T.ids, idsL, er_ids, List.append_nil, List.nil_append]; rfl) : subN (idsL [.addr 0 1]) [0] = true) (.cons (by first | rfl | (simp only [T.ids, idsL, er_ids, List.append_nil, List.nil_append]; rfl) : subN (idsL [t64 c00, t64 c10, t64 c2]) [0] = true) (.cons trivial (.cons (sub64 c10 c00) .nil))))) ?_
  clear hk; intro k hk
  exact Go.lvx 20 [0] _ [t64 (c10 - c00)] Tryd.func30 hk rfl (by as_aux_lemma => kernel_rfl) .nil (T.Le.of_eq rfl) rfl rfl (.cons (by first | rfl | (simp only [T.ids, idsL, er_ids, List.append_nil, List.nil_append]; rfl)) .nil)
noncomputable def nil_Left  : UInt64 :=
  0
def nil_Left_enc (x : UInt64) : T × List (Nat × List T) := (t64 x, [])
theorem nil_Left_m  : Meets Tryd.prog 30 [.leaf (.pointer none)] [] [] (t64 nil_Left) [] := by
  refine Meets.enterX (E := E) (N := 16) (enc := nil_Left_enc) (x := nil_Left) Tryd.func30 Tryd.call30 rfl rfl ?_
  intro Γ k hk
  refine Go.rx 20 {} [] [0] _ [(0, .leaf (.pointer none))] [] hk rfl (by as_aux_lemma => kernel_rfl) .nil ?_
  clear hk; intro k hk
  refine Go.rx 20 {} [] [0, 5] _ [(0, .leaf (.pointer none)), (5, tb true)] [] hk rfl (by as_aux_lemma => kernel_rfl) (.cons (⟨94, by as_aux_lemma => kernel_rfl⟩ : ∃ e, (E.ti 54).k = .ptr e) .nil) ?_
  clear hk; intro k hk
  refine Go.cond 20 hk rfl (t := true) rfl ?_; clear hk; intro k hk
  refine Go.rx 20 {} [] [2] _ [(2, t64 0)] [] hk rfl (by as_aux_lemma => kernel_rfl) .nil ?_
  clear hk; intro k hk
  exact Go.lvx 20 [] _ [t64 0] Tryd.func30 hk rfl (by as_aux_lemma => kernel_rfl) .nil (T.Le.of_eq rfl) rfl rfl .nil
noncomputable def nonce_New (mark : UInt64) (limit : UInt64) : (Option (UInt64 × UInt64 × UInt64)) × Int :=
  bif (decide (mark > limit)) || (decide (limit > 281474976710656)) then
    (none, 1)
  else
    (some (mark, mark, limit), 0)
def nonce_New_enc (x : (Option (UInt64 × UInt64 × UInt64)) × Int) : T × List (Nat × List T) := (.tup [optA 10 x.1, er 82 x.2], optH 10 (fun z => [t64 z.1, t64 z.2.1, t64 z.2.2]) x.1)
theorem nonce_New_m (mark : UInt64) (limit : UInt64) : Meets Tryd.prog 32 [t64 mark, t64 limit] [] [] (.tup [optA 10 ((nonce_New mark limit).1), er 82 ((nonce_New mark limit).2)]) (optH 10 (fun z => [t64 z.1, t64 z.2.1, t64 z.2.2]) ((nonce_New mark limit).1)) := by
  refine Meets.enterX (E := E) (N := 29) (enc := nonce_New_enc) (x := (nonce_New mark limit)) Tryd.func32 Tryd.call32 rfl rfl ?_
  intro Γ k hk
  refine Go.rx 20 {} [] [0, 1] _ [(0, t64 mark), (1, t64 limit)] [] hk rfl (by as_aux_lemma => kernel_rfl) .nil ?_
  clear hk; intro k hk
  refine Go.regJ 20 [(0, t64 mark), (1, t64 limit), (13, tb ((decide (mark > limit)) || (decide (limit > 281474976710656))))] [] hk rfl ?_ ?_
  · clear hk; intro k hk
    refine Go.br 20 (Pf := (PostX Γ nonce_New_enc)) hk rfl rfl ?_ ?_ <;> clear hk <;> intro ct1 k hk
    · refine Go.rx 20 {} [] [4, 5] _ [(4, .leaf (.pointer none)), (5, er 82 1)] [] hk rfl (by as_aux_lemma => kernel_rfl) .nil ?_
      clear hk; intro k hk
      exact Go.lvx 20 [] _ [.leaf (.pointer none), er 82 1] Tryd.func32 hk rfl (by as_aux_lemma => kernel_rfl) .nil (T.Le.tup (.cons (T.Le.of_eq rfl) (.cons (T.Le.of_eq rfl) .nil))) rfl (by first | rfl | (simp only [nonce_New_enc, T.ids, idsL, er_ids, List.append_nil, List.nil_append]; rfl)) .nil
    · have ct11 : (decide (mark > limit)) = false := (Bool.or_eq_false_iff.1 ct1).1
      have ct12 : (decide (limit > 281474976710656)) = false := (Bool.or_eq_false_iff.1 ct1).2
      refine Go.rx 20 { ws := [(2, { id := 10 })] } [] [0, 6] _ [(0, t64 mark), (6, .addr 10 0)] [(10, [t64 0, t64 0, t64 limit])] hk rfl (by as_aux_lemma => kernel_rfl) .nil ?_
      clear hk; intro k hk
      refine Go.rx 20 { ws := [(4, { call := some { ids := [10], S := [10], M := [], R := .tup [], H' := [(10, [t64 mark, t64 0, t64 limit])] } })] } [] [0, 6] _ [(0, t64 mark), (6, .addr 10 0)] [(10, [t64 mark, t64 0, t64 limit])] hk rfl (by as_aux_lemma => kernel_rfl) (.cons (Meets.swp [(0, 10)] (at_st_next_m 0 0 limit mark) (.cons (.addr rfl 0) (.cons (.same (by first | rfl | (simp only [T.ids, idsL, er_ids, List.append_nil, List.nil_append] <;> rfl))) .nil)) (.cons rfl (.same (by first | rfl | (simp only [T.ids, idsL, er_ids, List.append_nil, List.nil_append] <;> rfl))) .nil) rfl (.same (by first | rfl | (simp only [T.ids, idsL, er_ids, List.append_nil, List.nil_append] <;> rfl))) (.cons rfl (.same (by first | rfl | (simp only [T.ids, idsL, er_ids, List.append_nil, List.nil_append] <;> rfl))) .nil) : Meets Tryd.prog 53 [.addr 10 0, t64 mark] [(10, [t64 0, t64 0, t64 limit])] [10] (.tup []) [(10, [t64 mark, t64 0, t64 limit])]) (.cons (by first | rfl | (simp only [T.ids, idsL, er_ids, List.append_nil, List.nil_append]; rfl) : subN (idsL [.addr 10 0, t64 mark]) [10] = true) (.cons (by first | rfl | (simp only [T.ids, idsL, er_ids, List.append_nil, List.nil_append]; rfl) : subN (idsL [t64 0, t64 0, t64 limit]) [10] = true) .nil))) ?_
      clear hk; intro k hk
      refine Go.rx 20 { ws := [(4, { call := some { ids := [10], S := [10], M := [], R := .tup [], H' := [(10, [t64 mark, t64 mark, t64 limit])] } })] } [] [6] _ [(6, .addr 10 0)] [(10, [t64 mark, t64 mark, t64 limit])] hk rfl (by as_aux_lemma => kernel_rfl) (.cons (Meets.swp [(0, 10)] (at_st_mark_m mark 0 limit mark) (.cons (.addr rfl 1) (.cons (.same (by first | rfl | (simp only [T.ids, idsL, er_ids, List.append_nil, List.nil_append] <;> rfl))) .nil)) (.cons rfl (.same (by first | rfl | (simp only [T.ids, idsL, er_ids, List.append_nil, List.nil_append] <;> rfl))) .nil) rfl (.same (by first | rfl | (simp only [T.ids, idsL, er_ids, List.append_nil, List.nil_append] <;> rfl))) (.cons rfl (.same (by first | rfl | (simp only [T.ids, idsL, er_ids, List.append_nil, List.nil_append] <;> rfl))) .nil) : Meets Tryd.prog 53 [.addr 10 1, t64 mark] [(10, [t64 mark, t64 0, t64 limit])] [10] (.tup []) [(10, [t64 mark, t64 mark, t64 limit])]) (.cons (by first | rfl | (simp only [T.ids, idsL, er_ids, List.append_nil, List.nil_append]; rfl) : subN (idsL [.addr 10 1, t64 mark]) [10] = true) (.cons (by first | rfl | (simp only [T.ids, idsL, er_ids, List.append_nil, List.nil_append]; rfl) : subN (idsL [t64 mark, t64 0, t64 limit]) [10] = true) .nil))) ?_
      clear hk; intro k hk
      refine Go.rx 20 {} [] [4, 5] _ [(4, .addr 10 0), (5, .leaf .nilIface)] [(10, [t64 mark, t64 mark, t64 limit])] hk rfl (by as_aux_lemma => kernel_rfl) .nil ?_
      clear hk; intro k hk
      exact Go.lvx 20 [10] _ [.addr 10 0, .leaf .nilIface] Tryd.func32 hk rfl (by as_aux_lemma => kernel_rfl) .nil (T.Le.tup (.cons (T.Le.of_eq rfl) (.cons (T.Le.of_eq rfl) .nil))) rfl rfl (.cons (by first | rfl | (simp only [T.ids, idsL, er_ids, List.append_nil, List.nil_append]; rfl)) .nil)
  · intro hk J
    rcases Bool.eq_false_or_eq_true (decide (mark > limit)) with gd1 | gd1
    · refine Go.rx 20 { ws := [(2, { v := some (tb true) })] } [] [0, 1, 13] _ [(0, t64 mark), (1, t64 limit), (13, tb true)] [] hk rfl (by as_aux_lemma => kernel_rfl) (.cons trivial (.cons ((gtB64 mark limit).trans (eb gd1)) .nil)) ?_
      intro k' hk'
      refine Go.slotEq 13 (tb ((decide (mark > limit)) || (decide (limit > 281474976710656)))) rfl (eb (orT gd1).symm) ?_
      exact J k' hk'
    · refine Go.rx 20 { ws := [(2, { v := some (tb false) }), (5, { v := some (tb (decide (limit > 281474976710656))) })] } [] [0, 1, 13] _ [(0, t64 mark), (1, t64 limit), (13, tb (decide (limit > 281474976710656)))] [] hk rfl (by as_aux_lemma => kernel_rfl) (.cons trivial (.cons ((gtB64 mark limit).trans (eb gd1)) (.cons trivial (.cons (gtB64 limit 281474976710656) .nil)))) ?_
      intro k' hk'
      refine Go.slotEq 13 (tb ((decide (mark > limit)) || (decide (limit > 281474976710656)))) rfl (eb (orF gd1 rfl).symm) ?_
      exact J k' hk'
noncomputable def nonce_Bytes_k1 (o2 : List UInt8) : List UInt8 :=
  o2
noncomputable def nonce_Bytes_l1 (n : UInt64) : Nat → Int → (List UInt8) → Lo (List UInt8) (List UInt8)
  | 0, _, _ => .brk default
  | ml1 + 1, t191, o1 =>
    bif decide (t191 < 8) then
      nonce_Bytes_l1 n ml1 (t191 + 1) (o1 ++ [(shr64 n (56 - (8 * t191))).toUInt8])
    else
      Lo.brk o1
noncomputable def nonce_Bytes (term : UInt32) (n : UInt64) : List UInt8 :=
  Lo.el (nonce_Bytes_l1 n ((8 - (0 : Int)).toNat + 1) 0 [(shr32 term 24).toUInt8, (shr32 term 16).toUInt8, (shr32 term 8).toUInt8, term.toUInt8]) (fun z : List UInt8 => nonce_Bytes_k1 z)
def nonce_Bytes_enc (x : List UInt8) : T × List (Nat × List T) := (.sl 1 .shr x.length (u8s x), [])
theorem nonce_Bytes_m (term : UInt32) (n : UInt64) : Meets Tryd.prog 26 [t32 term, t64 n] [] [] (.sl 1 .shr (nonce_Bytes term n).length (u8s (nonce_Bytes term n))) [] := by
  refine Meets.enterX (E := E) (N := 33) (enc := nonce_Bytes_enc) (x := (nonce_Bytes term n)) Tryd.func26 Tryd.call26 rfl rfl ?_
  intro Γ k hk
  refine Go.rx 20 {} [] [0, 1] _ [(0, t32 term), (1, t64 n)] [] hk rfl (by as_aux_lemma => kernel_rfl) .nil ?_
  clear hk; intro k hk
  refine Go.rx 20 { ws := [(1, { v := some (t32 (shr32 term 24)) }), (2, { v := some (t8 ((shr32 term 24).toUInt8)) }), (4, { v := some (t32 (shr32 term 16)) }), (5, { v := some (t8 ((shr32 term 16).toUInt8)) }), (7, { v := some (t32 (shr32 term 8)) }), (8, { v := some (t8 ((shr32 term 8).toUInt8)) }), (10, { v := some (t8 term.toUInt8) }), (11, { id := 10 })] } [] [1, 5] _ [(1, t64 n), (5, .ref 10 1 0 4)] [(10, [t8 ((shr32 term 24).toUInt8), t8 ((shr32 term 16).toUInt8), t8 ((shr32 term 8).toUInt8), t8 term.toUInt8])] hk rfl (by as_aux_lemma => kernel_rfl) (.cons (by decide : 0 ≤ (24 : Int)) (.cons (shrT32 term 24) (.cons (cv32_8 (shr32 term 24)) (.cons (by decide : 0 ≤ (16 : Int)) (.cons (shrT32 term 16) (.cons (cv32_8 (shr32 term 16)) (.cons (by decide : 0 ≤ (8 : Int)) (.cons (shrT32 term 8) (.cons (cv32_8 (shr32 term 8)) (.cons (cv32_8 term) .nil)))))))))) ?_
  clear hk; intro k hk
  refine Go.rx 20 {} [] [1, 5, 19] _ [(1, t64 n), (5, .ref 10 1 0 4), (19, ti 0)] [(10, [t8 ((shr32 term 24).toUInt8), t8 ((shr32 term 16).toUInt8), t8 ((shr32 term 8).toUInt8), t8 term.toUInt8])] hk rfl (by as_aux_lemma => kernel_rfl) .nil ?_
  clear hk; intro k hk
  refine Go.loopX 20 hk rfl ?_
  clear hk; intro kl1 kxl1 hl1 hxl1
  have Xl1 : ∀ (o2 : List UInt8), Go E Γ 26 33 [] ((PostX Γ nonce_Bytes_enc) (nonce_Bytes_k1 o2)) kxl1 (stL [(5, .ref 10 1 0 o2.length)] [(10, u8s o2)]) := by
    intro o2
    refine Go.rx 20 {} [] [4] _ [(4, .ref 10 1 0 o2.length)] [(10, u8s o2)] hxl1 rfl (by as_aux_lemma => kernel_rfl) .nil ?_
    clear hxl1; intro kxl1 hxl1
    refine Go.frz [] [] 4 10 (u8s o2) _ [(4, .dead)] [] rfl rfl (mp_ids _ (fun _ => rfl)) (by simp only [List.length_map]; omega) (mp_all _) (by as_aux_lemma => kernel_rfl) .nil ?_
    exact Go.lvx 20 [] _ [.sl 1 .shr o2.length (u8s o2)] Tryd.func26 hxl1 rfl (by as_aux_lemma => kernel_rfl) .nil (T.Le.of_eq rfl) rfl rfl .nil
  have Ll1 : ∀ (ml1 : Nat) (t191 : Int) (o1 : List UInt8), (0 ≤ t191) → (t191 ≤ 8) → ((o1.length : Int) = 4 + t191) → ((8 - t191).toNat < ml1) → Go E Γ 26 33 [] ((PostX Γ nonce_Bytes_enc) (Lo.el (nonce_Bytes_l1 n ml1 t191 o1) (fun z : List UInt8 => nonce_Bytes_k1 z))) kl1 (stL [(1, t64 n), (5, .ref 10 1 0 o1.length), (19, ti t191)] [(10, u8s o1)]) := by
    intro ml1
    induction ml1 with
    | zero => intro t191 o1 i0l1 i1l1 i2l1 hml1; exact absurd hml1 (Nat.not_lt_zero _)
    | succ ml1 ihl1 =>
      intro t191 o1 i0l1 i1l1 i2l1 hml1
      rw [nonce_Bytes_l1]
      refine Go.round hl1 ?_
      intro k hk
      refine Go.rx 20 {} [] [1, 5, 19, 20] _ [(1, t64 n), (5, .ref 10 1 0 o1.length), (19, ti t191), (20, tb (decide (t191 < 8)))] [(10, u8s o1)] hk rfl (by as_aux_lemma => kernel_rfl) (.cons trivial .nil) ?_
      clear hk; intro k hk
      refine Go.br 20 (Pf := (fun z : Lo (List UInt8) (List UInt8) => (PostX Γ nonce_Bytes_enc) (Lo.el z (fun z : List UInt8 => nonce_Bytes_k1 z)))) hk rfl rfl ?_ ?_ <;> clear hk <;> intro ct1 k hk
      · have ct1p := of_decide_eq_true ct1
        refine Go.rx 20 {} [] [1, 5, 6, 19] _ [(1, t64 n), (5, .ref 10 1 0 o1.length), (6, ti t191), (19, ti t191)] [(10, u8s o1)] hk rfl (by as_aux_lemma => kernel_rfl) .nil ?_
        clear hk; intro k hk
        refine Go.rx 20 { ws := [(3, { v := some (ti (8 * t191)) }), (4, { v := some (ti (56 - (8 * t191))) }), (5, { v := some (t64 (shr64 n (56 - (8 * t191)))) }), (6, { v := some (t8 ((shr64 n (56 - (8 * t191))).toUInt8)) }), (7, { id := 11 }), (8, { v := some (.ref 10 1 0 ((o1 ++ [(shr64 n (56 - (8 * t191))).toUInt8]).length)), c := some (u8s (o1 ++ [(shr64 n (56 - (8 * t191))).toUInt8])), id := 10, sym := true })], pg := [10] } [11] [1, 5, 19] _ [(1, t64 n), (5, .ref 10 1 0 ((o1 ++ [(shr64 n (56 - (8 * t191))).toUInt8]).length)), (19, ti t191)] [(10, u8s (o1 ++ [(shr64 n (56 - (8 * t191))).toUInt8]))] hk rfl (by as_aux_lemma => kernel_rfl) (.cons trivial (.cons (iw (8 * t191) (by omega)) (.cons trivial (.cons (iw (56 - (8 * t191)) (by omega)) (.cons (by omega : 0 ≤ ((56 - (8 * t191)) : Int)) (.cons (shrT64 n (56 - (8 * t191))) (.cons (cv64_8 (shr64 n (56 - (8 * t191)))) (.cons (Nat.le_of_ble_eq_true rfl : 0 + 1 * 1 ≤ ([t8 ((shr64 n (56 - (8 * t191))).toUInt8)] : List T).length) (.cons (by simp only [List.length_map]; omega : 0 + o1.length * 1 ≤ (u8s o1).length) (.cons (rfl : scalL [t8 ((shr64 n (56 - (8 * t191))).toUInt8)] = true) (.cons (by first | omega | (simp <;> omega) | (simp at * <;> omega) | (split <;> omega) : (o1.length + 1) * 1 ≤ 140737488355328) (.cons (mp_app (g := (fun c : UInt8 => T.leaf (.int .u8 c.toNat))) (o1) [(shr64 n (56 - (8 * t191))).toUInt8] rfl) (.cons (mp_mem (i := 10) (g := (fun c : UInt8 => T.leaf (.int .u8 c.toNat))) (o1 ++ [(shr64 n (56 - (8 * t191))).toUInt8]) (fun _ => rfl)) (.cons (by simp : T.ref 10 1 0 (o1.length + 1) = .ref 10 1 0 ((o1 ++ [(shr64 n (56 - (8 * t191))).toUInt8]).length)) (.cons (mp_mem (i := 11) (g := (fun c : UInt8 => T.leaf (.int .u8 c.toNat))) (o1 ++ [(shr64 n (56 - (8 * t191))).toUInt8]) (fun _ => rfl)) .nil))))))))))))))) ?_
        clear hk; intro k hk
        refine Go.rx 20 { ws := [(0, { v := some (ti (t191 + 1)) })] } [] [1, 5, 19] _ [(1, t64 n), (5, .ref 10 1 0 ((o1 ++ [(shr64 n (56 - (8 * t191))).toUInt8]).length)), (19, ti (t191 + 1))] [(10, u8s (o1 ++ [(shr64 n (56 - (8 * t191))).toUInt8]))] hk rfl (by as_aux_lemma => kernel_rfl) (.cons trivial (.cons (iw (t191 + 1) (by omega)) .nil)) ?_
        clear hk; intro k hk
        exact Go.join 20 hk hl1 rfl (ihl1 (t191 + 1) (o1 ++ [(shr64 n (56 - (8 * t191))).toUInt8]) (by first | omega | (simp only [List.length_append, List.length_cons, List.length_nil] at *; omega)) (by first | omega | (simp only [List.length_append, List.length_cons, List.length_nil] at *; omega)) (by first | omega | (simp only [List.length_append, List.length_cons, List.length_nil] at *; omega)) (by omega))
      · have ct1p := of_decide_eq_false ct1
        refine Go.keepN [5] (L' := [(5, .ref 10 1 0 o1.length)]) rfl ?_
        exact Go.join 20 hk hxl1 rfl (Xl1 o1)
  exact Ll1 _ 0 [(shr32 term 24).toUInt8, (shr32 term 16).toUInt8, (shr32 term 8).toUInt8, term.toUInt8] (by first | omega | decide | rfl) (by first | omega | decide | rfl) (by first | omega | decide | rfl) (Nat.lt_succ_self _)
noncomputable def nonce_Parse_k1 (term2 : UInt32) (n2 : UInt64) : UInt32 × UInt64 × Int :=
  (term2, n2, 0)
noncomputable def nonce_Parse_l1 (b : List UInt8) : Nat → UInt32 → UInt64 → Int → Lo (UInt32 × UInt64) (UInt32 × UInt64 × Int)
  | 0, _, _, _ => .brk default
  | ml1 + 1, term1, n1, t151 =>
    bif decide (t151 < (b.length : Int)) then
      bnd (bif decide (t151 < 4) then (shl32 term1 8) ||| ((b.getD t151.toNat 0).toUInt32) else term1) fun y1 =>
      bnd (bif decide (t151 < 4) then n1 else (shl64 n1 8) ||| ((b.getD t151.toNat 0).toUInt64)) fun y2 =>
      nonce_Parse_l1 b ml1 y1 y2 (t151 + 1)
    else
      Lo.brk (term1, n1)
noncomputable def nonce_Parse (b : List UInt8) : UInt32 × UInt64 × Int :=
  bif (b.length : Int) != 12 then
    (0, 0, 4)
  else
    Lo.el (nonce_Parse_l1 b (((b.length : Int) - (0 : Int)).toNat + 1) 0 0 0) (fun z : UInt32 × UInt64 => nonce_Parse_k1 z.1 z.2)
def nonce_Parse_enc (x : UInt32 × UInt64 × Int) : T × List (Nat × List T) := (.tup [t32 x.1, t64 x.2.1, er 82 x.2.2], [])
theorem nonce_Parse_m {g_b : Tag} (b : List UInt8) : Meets Tryd.prog 24 [.sl 1 g_b b.length (u8s b)] [] [] (.tup [t32 ((nonce_Parse b).1), t64 ((nonce_Parse b).2.1), er 82 ((nonce_Parse b).2.2)]) [] := by
  refine Meets.enterX (E := E) (N := 35) (enc := nonce_Parse_enc) (x := (nonce_Parse b)) Tryd.func24 Tryd.call24 rfl rfl ?_
  intro Γ k hk
  refine Go.rx 20 {} [] [0] _ [(0, .sl 1 g_b b.length (u8s b))] [] hk rfl (by as_aux_lemma => kernel_rfl) .nil ?_
  clear hk; intro k hk
  refine Go.rx 20 {} [] [0, 11] _ [(0, .sl 1 g_b b.length (u8s b)), (11, tb ((b.length : Int) != 12))] [] hk rfl (by as_aux_lemma => kernel_rfl) (.cons trivial .nil) ?_
  clear hk; intro k hk
  refine Go.br 20 (Pf := (PostX Γ nonce_Parse_enc)) hk rfl rfl ?_ ?_ <;> clear hk <;> intro ct1 k hk
  · have ct1p := neIt ct1
    refine Go.rx 20 {} [] [2, 3, 4] _ [(2, t32 0), (3, t64 0), (4, er 82 4)] [] hk rfl (by as_aux_lemma => kernel_rfl) .nil ?_
    clear hk; intro k hk
    exact Go.lvx 20 [] _ [t32 0, t64 0, er 82 4] Tryd.func24 hk rfl (by as_aux_lemma => kernel_rfl) .nil (T.Le.tup (.cons (T.Le.of_eq rfl) (.cons (T.Le.of_eq rfl) (.cons (T.Le.of_eq rfl) .nil)))) rfl (by first | rfl | (simp only [nonce_Parse_enc, T.ids, idsL, er_ids, List.append_nil, List.nil_append]; rfl)) .nil
  · have ct1p := neIf ct1
    refine Go.rx 20 {} [] [0, 5, 6] _ [(0, .sl 1 g_b b.length (u8s b)), (5, t32 0), (6, t64 0)] [] hk rfl (by as_aux_lemma => kernel_rfl) .nil ?_
    clear hk; intro k hk
    refine Go.rx 20 {} [] [5, 6, 13, 14, 15] _ [(5, t32 0), (6, t64 0), (13, .sl 1 g_b b.length (u8s b)), (14, ti (b.length : Int)), (15, ti 0)] [] hk rfl (by as_aux_lemma => kernel_rfl) .nil ?_
    clear hk; intro k hk
    refine Go.loopX 20 hk rfl ?_
    clear hk; intro kl1 kxl1 hl1 hxl1
    have Xl1 : ∀ (term2 : UInt32) (n2 : UInt64), Go E Γ 24 35 [] ((PostX Γ nonce_Parse_enc) (nonce_Parse_k1 term2 n2)) kxl1 (stL [(5, t32 term2), (6, t64 n2)] []) := by
      intro term2 n2
      refine Go.rx 20 {} [] [2, 3, 4] _ [(2, t32 term2), (3, t64 n2), (4, .leaf .nilIface)] [] hxl1 rfl (by as_aux_lemma => kernel_rfl) .nil ?_
      clear hxl1; intro kxl1 hxl1
      exact Go.lvx 20 [] _ [t32 term2, t64 n2, .leaf .nilIface] Tryd.func24 hxl1 rfl (by as_aux_lemma => kernel_rfl) .nil (T.Le.tup (.cons (T.Le.of_eq rfl) (.cons (T.Le.of_eq rfl) (.cons (T.Le.of_eq rfl) .nil)))) rfl rfl .nil
    have Ll1 : ∀ (ml1 : Nat) (term1 : UInt32) (n1 : UInt64) (t151 : Int), (0 ≤ t151) → (((b.length : Int) - t151).toNat < ml1) → Go E Γ 24 35 [] ((PostX Γ nonce_Parse_enc) (Lo.el (nonce_Parse_l1 b ml1 term1 n1 t151) (fun z : UInt32 × UInt64 => nonce_Parse_k1 z.1 z.2))) kl1 (stL [(5, t32 term1), (6, t64 n1), (13, .sl 1 g_b b.length (u8s b)), (14, ti (b.length : Int)), (15, ti t151)] []) := by
      intro ml1
      induction ml1 with
      | zero => intro term1 n1 t151 i0l1 hml1; exact absurd hml1 (Nat.not_lt_zero _)
      | succ ml1 ihl1 =>
        intro term1 n1 t151 i0l1 hml1
        rw [nonce_Parse_l1]
        refine Go.round hl1 ?_
        intro k hk
        refine Go.rx 20 {} [] [5, 6, 13, 14, 15, 16] _ [(5, t32 term1), (6, t64 n1), (13, .sl 1 g_b b.length (u8s b)), (14, ti (b.length : Int)), (15, ti t151), (16, tb (decide (t151 < (b.length : Int))))] [] hk rfl (by as_aux_lemma => kernel_rfl) (.cons trivial .nil) ?_
        clear hk; intro k hk
        refine Go.br 20 (Pf := (fun z : Lo (UInt32 × UInt64) (UInt32 × UInt64 × Int) => (PostX Γ nonce_Parse_enc) (Lo.el z (fun z : UInt32 × UInt64 => nonce_Parse_k1 z.1 z.2)))) hk rfl rfl ?_ ?_ <;> clear hk <;> intro ct2 k hk
        · have ct2p := of_decide_eq_true ct2
          refine Go.rx 20 { ws := [(2, { v := some (t8 (b.getD t151.toNat 0)) })] } [] [5, 6, 7, 8, 13, 14, 15] _ [(5, t32 term1), (6, t64 n1), (7, ti t151), (8, t8 (b.getD t151.toNat 0)), (13, .sl 1 g_b b.length (u8s b)), (14, ti (b.length : Int)), (15, ti t151)] [] hk rfl (by as_aux_lemma => kernel_rfl) (.cons (by omega : 0 ≤ (t151 : Int) ∧ (t151 : Int) < ((b.length : Nat) : Int)) (.cons (part1 (by as_aux_lemma => kernel_rfl : (E.ti 5).agg = false) (mp_get (g := (fun c : UInt8 => T.leaf (.int .u8 c.toNat))) (k := t151.toNat * 1) (n := t151.toNat) b (0 : UInt8) (by omega) (by omega))) .nil)) ?_
          clear hk; intro k hk
          refine Go.rx 20 {} [] [5, 6, 8, 13, 14, 15, 21] _ [(5, t32 term1), (6, t64 n1), (8, t8 (b.getD t151.toNat 0)), (13, .sl 1 g_b b.length (u8s b)), (14, ti (b.length : Int)), (15, ti t151), (21, tb (decide (t151 < 4)))] [] hk rfl (by as_aux_lemma => kernel_rfl) (.cons trivial .nil) ?_
          clear hk; intro k hk
          refine Go.condJ 20 [(5, t32 (bif decide (t151 < 4) then (shl32 term1 8) ||| ((b.getD t151.toNat 0).toUInt32) else term1)), (6, t64 (bif decide (t151 < 4) then n1 else (shl64 n1 8) ||| ((b.getD t151.toNat 0).toUInt64))), (13, .sl 1 g_b b.length (u8s b)), (14, ti (b.length : Int)), (15, ti t151)] [] hk rfl rfl ?_ ?_ ?_
          · clear hk; intro k hk
            refine Go.bnd (Pf := (fun z : Lo (UInt32 × UInt64) (UInt32 × UInt64 × Int) => (PostX Γ nonce_Parse_enc) (Lo.el z (fun z : UInt32 × UInt64 => nonce_Parse_k1 z.1 z.2)))) (v := (bif decide (t151 < 4) then (shl32 term1 8) ||| ((b.getD t151.toNat 0).toUInt32) else term1)) (fun y1 => [(5, t32 y1), (6, t64 (bif decide (t151 < 4) then n1 else (shl64 n1 8) ||| ((b.getD t151.toNat 0).toUInt64))), (13, .sl 1 g_b b.length (u8s b)), (14, ti (b.length : Int)), (15, ti t151)]) (fun y1 => []) ?_
            intro y1 hy1
            refine Go.bnd (Pf := (fun z : Lo (UInt32 × UInt64) (UInt32 × UInt64 × Int) => (PostX Γ nonce_Parse_enc) (Lo.el z (fun z : UInt32 × UInt64 => nonce_Parse_k1 z.1 z.2)))) (v := (bif decide (t151 < 4) then n1 else (shl64 n1 8) ||| ((b.getD t151.toNat 0).toUInt64))) (fun y2 => [(5, t32 y1), (6, t64 y2), (13, .sl 1 g_b b.length (u8s b)), (14, ti (b.length : Int)), (15, ti t151)]) (fun y2 => []) ?_
            intro y2 hy2
            refine Go.rx 20 { ws := [(0, { v := some (ti (t151 + 1)) })] } [] [5, 6, 13, 14, 15] _ [(5, t32 y1), (6, t64 y2), (13, .sl 1 g_b b.length (u8s b)), (14, ti (b.length : Int)), (15, ti (t151 + 1))] [] hk rfl (by as_aux_lemma => kernel_rfl) (.cons trivial (.cons (iw (t151 + 1) (by omega)) .nil)) ?_
            clear hk; intro k hk
            exact Go.join 20 hk hl1 rfl (ihl1 y1 y2 (t151 + 1) (by omega) (by omega))
          · clear hk; intro Jct3 ct3 k hk
            have ct3p := of_decide_eq_true ct3
            refine Go.rx 20 { ws := [(1, { v := some (t32 (shl32 term1 8)) }), (3, { v := some (t32 ((b.getD t151.toNat 0).toUInt32)) }), (4, { v := some (t32 ((shl32 term1 8) ||| ((b.getD t151.toNat 0).toUInt32))) })] } [] [5, 6, 13, 14, 15] _ [(5, t32 ((shl32 term1 8) ||| ((b.getD t151.toNat 0).toUInt32))), (6, t64 n1), (13, .sl 1 g_b b.length (u8s b)), (14, ti (b.length : Int)), (15, ti t151)] [] hk rfl (by as_aux_lemma => kernel_rfl) (.cons (by decide : 0 ≤ (8 : Int)) (.cons (shlT32 term1 8) (.cons (cv8_32 (b.getD t151.toNat 0)) (.cons trivial (.cons (or32 (shl32 term1 8) ((b.getD t151.toNat 0).toUInt32)) .nil))))) ?_
            clear hk; intro k hk
            refine Go.slotEq 5 (t32 (bif decide (t151 < 4) then (shl32 term1 8) ||| ((b.getD t151.toNat 0).toUInt32) else term1)) rfl (congrArg (fun z => (t32 z : T)) (condT ct3).symm) ?_
            refine Go.slotEq 6 (t64 (bif decide (t151 < 4) then n1 else (shl64 n1 8) ||| ((b.getD t151.toNat 0).toUInt64))) rfl (congrArg (fun z => (t64 z : T)) (condT ct3).symm) ?_
            exact Go.joinJ 20 hk Jct3 rfl
          · clear hk; intro Jct3 ct3 k hk
            have ct3p := of_decide_eq_false ct3
            refine Go.rx 20 { ws := [(1, { v := some (t64 (shl64 n1 8)) }), (3, { v := some (t64 ((b.getD t151.toNat 0).toUInt64)) }), (4, { v := some (t64 ((shl64 n1 8) ||| ((b.getD t151.toNat 0).toUInt64))) })] } [] [5, 6, 13, 14, 15] _ [(5, t32 term1), (6, t64 ((shl64 n1 8) ||| ((b.getD t151.toNat 0).toUInt64))), (13, .sl 1 g_b b.length (u8s b)), (14, ti (b.length : Int)), (15, ti t151)] [] hk rfl (by as_aux_lemma => kernel_rfl) (.cons (by decide : 0 ≤ (8 : Int)) (.cons (shlT64 n1 8) (.cons (cv8_64 (b.getD t151.toNat 0)) (.cons trivial (.cons (or64 (shl64 n1 8) ((b.getD t151.toNat 0).toUInt64)) .nil))))) ?_
            clear hk; intro k hk
            refine Go.slotEq 5 (t32 (bif decide (t151 < 4) then (shl32 term1 8) ||| ((b.getD t151.toNat 0).toUInt32) else term1)) rfl (congrArg (fun z => (t32 z : T)) (condF ct3).symm) ?_
            refine Go.slotEq 6 (t64 (bif decide (t151 < 4) then n1 else (shl64 n1 8) ||| ((b.getD t151.toNat 0).toUInt64))) rfl (congrArg (fun z => (t64 z : T)) (condF ct3).symm) ?_
            exact Go.joinJ 20 hk Jct3 rfl
        · have ct2p := of_decide_eq_false ct2
          refine Go.keepN [5, 6] (L' := [(5, t32 term1), (6, t64 n1)]) rfl ?_
          exact Go.join 20 hk hxl1 rfl (Xl1 term1 n1)
    exact Ll1 _ 0 0 0 (by omega) (Nat.lt_succ_self _)
noncomputable def bursaryref18_May (mark : UInt64) (limit : UInt64) : Bool :=
  (decide (mark ≤ limit)) && (decide (limit ≤ 281474976710656))
def bursaryref18_May_enc (x : Bool) : T × List (Nat × List T) := (tb x, [])
theorem bursaryref18_May_m (mark : UInt64) (limit : UInt64) : Meets Tryd.prog 33 [t64 mark, t64 limit] [] [] (tb (bursaryref18_May mark limit)) [] := by
  refine Meets.enterX (E := E) (N := 12) (enc := bursaryref18_May_enc) (x := (bursaryref18_May mark limit)) Tryd.func33 Tryd.call33 rfl rfl ?_
  intro Γ k hk
  refine Go.rx 20 {} [] [0, 1] _ [(0, t64 mark), (1, t64 limit)] [] hk rfl (by as_aux_lemma => kernel_rfl) .nil ?_
  clear hk; intro k hk
  refine Go.regJ 20 [(4, tb ((decide (mark ≤ limit)) && (decide (limit ≤ 281474976710656))))] [] hk rfl ?_ ?_
  · clear hk; intro k hk
    exact Go.lvx 20 [] _ [tb ((decide (mark ≤ limit)) && (decide (limit ≤ 281474976710656)))] Tryd.func33 hk rfl (by as_aux_lemma => kernel_rfl) .nil (T.Le.of_eq rfl) rfl rfl .nil
  · intro hk J
    rcases Bool.eq_false_or_eq_true (decide (mark ≤ limit)) with gd1 | gd1
    · refine Go.rx 20 { ws := [(2, { v := some (tb true) }), (5, { v := some (tb (decide (limit ≤ 281474976710656))) })] } [] [4] _ [(4, tb (decide (limit ≤ 281474976710656)))] [] hk rfl (by as_aux_lemma => kernel_rfl) (.cons trivial (.cons ((leB64 mark limit).trans (eb gd1)) (.cons trivial (.cons (leB64 limit 281474976710656) .nil)))) ?_
      intro k' hk'
      refine Go.slotEq 4 (tb ((decide (mark ≤ limit)) && (decide (limit ≤ 281474976710656)))) rfl (eb (andT gd1 rfl).symm) ?_
      exact J k' hk'
    · refine Go.rx 20 { ws := [(2, { v := some (tb false) })] } [] [4] _ [(4, tb false)] [] hk rfl (by as_aux_lemma => kernel_rfl) (.cons trivial (.cons ((leB64 mark limit).trans (eb gd1)) .nil)) ?_
      intro k' hk'
      refine Go.slotEq 4 (tb ((decide (mark ≤ limit)) && (decide (limit ≤ 281474976710656)))) rfl (eb (andF gd1).symm) ?_
      exact J k' hk'
noncomputable def bursaryref18_Take (c0 : UInt64) (c1 : UInt64) (c2 : UInt64) : (UInt64 × UInt64 × UInt64) × UInt64 × Int :=
  bif c0 == c1 then
    ((c0, c1, c2), 0, 2)
  else
    ((c0 + 1, c1, c2), c0, 0)
def bursaryref18_Take_enc (x : (UInt64 × UInt64 × UInt64) × UInt64 × Int) : T × List (Nat × List T) := (.tup [.agg [t64 x.1.1, t64 x.1.2.1, t64 x.1.2.2], t64 x.2.1, ti x.2.2], [])
theorem bursaryref18_Take_m (c0 : UInt64) (c1 : UInt64) (c2 : UInt64) : Meets Tryd.prog 35 [.agg [t64 c0, t64 c1, t64 c2]] [] [] (.tup [.agg [t64 (((bursaryref18_Take c0 c1 c2).1).1), t64 (((bursaryref18_Take c0 c1 c2).1).2.1), t64 (((bursaryref18_Take c0 c1 c2).1).2.2)], t64 ((bursaryref18_Take c0 c1 c2).2.1), ti ((bursaryref18_Take c0 c1 c2).2.2)]) [] := by
  refine Meets.enterX (E := E) (N := 21) (enc := bursaryref18_Take_enc) (x := (bursaryref18_Take c0 c1 c2)) Tryd.func35 Tryd.call35 rfl rfl ?_
  intro Γ k hk
  refine Go.rx 20 { ws := [(0, { id := 10 }), (1, { id := 11 })] } [] [1, 2] _ [(1, .addr 10 0), (2, .addr 11 0)] [(10, [t64 c0, t64 c1, t64 c2]), (11, [t64 0, t64 0, t64 0])] hk rfl (by as_aux_lemma => kernel_rfl) .nil ?_
  clear hk; intro k hk
  refine Go.rx 20 { ws := [(4, { v := some (tb (c0 == c1)) })] } [] [1, 2, 9] _ [(1, .addr 10 0), (2, .addr 11 0), (9, tb (c0 == c1))] [(10, [t64 c0, t64 c1, t64 c2]), (11, [t64 0, t64 0, t64 0])] hk rfl (by as_aux_lemma => kernel_rfl) (.cons trivial (.cons (eqB64 c0 c1) .nil)) ?_
  clear hk; intro k hk
  refine Go.br 20 (Pf := (PostX Γ bursaryref18_Take_enc)) hk rfl rfl ?_ ?_ <;> clear hk <;> intro ct1 k hk
  · refine Go.rx 20 {} [10] [2, 3, 4] _ [(2, .addr 11 0), (3, t64 0), (4, ti 2)] [(11, [t64 c0, t64 c1, t64 c2])] hk rfl (by as_aux_lemma => kernel_rfl) .nil ?_
    clear hk; intro k hk
    exact Go.lvx 20 [] _ [.agg [t64 c0, t64 c1, t64 c2], t64 0, ti 2] Tryd.func35 hk rfl (by as_aux_lemma => kernel_rfl) (.cons (by decide : 0 + 3 ≤ 3) .nil) (T.Le.tup (.cons (T.Le.of_eq rfl) (.cons (T.Le.of_eq rfl) (.cons (T.Le.of_eq rfl) .nil)))) rfl rfl .nil
  · refine Go.dx 20 [0, 1, 2, 3, 4, 5, 6, 7, 10, 8, 9, 11, 12] { ws := [(2, { v := some (t64 (c0 + 1)) })] } [10] [2, 3, 4] _ [(2, .addr 11 0), (3, t64 c0), (4, ti 0)] [(11, [t64 (c0 + 1), t64 c1, t64 c2])] hk rfl (by as_aux_lemma => kernel_rfl) (.cons trivial (.cons (add64 c0 1) .nil)) ?_
    clear hk; intro k hk
    exact Go.lvx 20 [] _ [.agg [t64 (c0 + 1), t64 c1, t64 c2], t64 c0, ti 0] Tryd.func35 hk rfl (by as_aux_lemma => kernel_rfl) (.cons (by decide : 0 + 3 ≤ 3) .nil) (T.Le.tup (.cons (T.Le.of_eq rfl) (.cons (T.Le.of_eq rfl) (.cons (T.Le.of_eq rfl) .nil)))) rfl rfl .nil
noncomputable def bursaryref18_Extend_k1 (c0 : UInt64) (c2 : UInt64) (c10_1_2 : UInt64) : (UInt64 × UInt64 × UInt64) × Int :=
  ((c0, c10_1_2, c2), 0)
noncomputable def bursaryref18_Extend_l1 (c2 : UInt64) : Nat → Int → UInt64 → Lo UInt64 ((UInt64 × UInt64 × UInt64) × Int)
  | 0, _, _ => .brk default
  | ml1 + 1, i1, c10_1_1 =>
    bif (decide (i1 < 16)) && (decide (c10_1_1 < c2)) then
      bursaryref18_Extend_l1 c2 ml1 (i1 + 1) (c10_1_1 + 1)
    else
      Lo.brk c10_1_1
noncomputable def bursaryref18_Extend (c0 : UInt64) (c1 : UInt64) (c2 : UInt64) : (UInt64 × UInt64 × UInt64) × Int :=
  bif c1 == c2 then
    ((c0, c1, c2), 8)
  else
    Lo.el (bursaryref18_Extend_l1 c2 ((16 - (0 : Int)).toNat + 1) 0 c1) (fun z : UInt64 => bursaryref18_Extend_k1 c0 c2 z)
def bursaryref18_Extend_enc (x : (UInt64 × UInt64 × UInt64) × Int) : T × List (Nat × List T) := (.tup [.agg [t64 x.1.1, t64 x.1.2.1, t64 x.1.2.2], ti x.2], [])
theorem bursaryref18_Extend_m (c0 : UInt64) (c1 : UInt64) (c2 : UInt64) : Meets Tryd.prog 34 [.agg [t64 c0, t64 c1, t64 c2]] [] [] (.tup [.agg [t64 (((bursaryref18_Extend c0 c1 c2).1).1), t64 (((bursaryref18_Extend c0 c1 c2).1).2.1), t64 (((bursaryref18_Extend c0 c1 c2).1).2.2)], ti ((bursaryref18_Extend c0 c1 c2).2)]) [] := by
  refine Meets.enterX (E := E) (N := 27) (enc := bursaryref18_Extend_enc) (x := (bursaryref18_Extend c0 c1 c2)) Tryd.func34 Tryd.call34 rfl rfl ?_
  intro Γ k hk
  refine Go.rx 20 { ws := [(0, { id := 10 }), (1, { id := 11 })] } [] [1, 2] _ [(1, .addr 10 0), (2, .addr 11 0)] [(10, [t64 c0, t64 c1, t64 c2]), (11, [t64 0, t64 0, t64 0])] hk rfl (by as_aux_lemma => kernel_rfl) .nil ?_
  clear hk; intro k hk
  refine Go.rx 20 { ws := [(4, { v := some (tb (c1 == c2)) })] } [] [1, 2, 9] _ [(1, .addr 10 0), (2, .addr 11 0), (9, tb (c1 == c2))] [(10, [t64 c0, t64 c1, t64 c2]), (11, [t64 0, t64 0, t64 0])] hk rfl (by as_aux_lemma => kernel_rfl) (.cons trivial (.cons (eqB64 c1 c2) .nil)) ?_
  clear hk; intro k hk
  refine Go.br 20 (Pf := (PostX Γ bursaryref18_Extend_enc)) hk rfl rfl ?_ ?_ <;> clear hk <;> intro ct1 k hk
  · refine Go.rx 20 {} [10] [2, 3] _ [(2, .addr 11 0), (3, ti 8)] [(11, [t64 c0, t64 c1, t64 c2])] hk rfl (by as_aux_lemma => kernel_rfl) .nil ?_
    clear hk; intro k hk
    exact Go.lvx 20 [] _ [.agg [t64 c0, t64 c1, t64 c2], ti 8] Tryd.func34 hk rfl (by as_aux_lemma => kernel_rfl) (.cons (by decide : 0 + 3 ≤ 3) .nil) (T.Le.tup (.cons (T.Le.of_eq rfl) (.cons (T.Le.of_eq rfl) .nil))) rfl rfl .nil
  · refine Go.rx 20 {} [] [1, 2, 4] _ [(1, .addr 10 0), (2, .addr 11 0), (4, ti 0)] [(10, [t64 c0, t64 c1, t64 c2]), (11, [t64 0, t64 0, t64 0])] hk rfl (by as_aux_lemma => kernel_rfl) .nil ?_
    clear hk; intro k hk
    refine Go.loopX 20 hk rfl ?_
    clear hk; intro kl1 kxl1 hl1 hxl1
    have Xl1 : ∀ (c10_1_2 : UInt64), Go E Γ 34 27 [] ((PostX Γ bursaryref18_Extend_enc) (bursaryref18_Extend_k1 c0 c2 c10_1_2)) kxl1 (stL [(1, .addr 10 0), (2, .addr 11 0)] [(10, [t64 c0, t64 c10_1_2, t64 c2]), (11, [t64 0, t64 0, t64 0])]) := by
      intro c10_1_2
      refine Go.rx 20 {} [10] [2, 3] _ [(2, .addr 11 0), (3, ti 0)] [(11, [t64 c0, t64 c10_1_2, t64 c2])] hxl1 rfl (by as_aux_lemma => kernel_rfl) .nil ?_
      clear hxl1; intro kxl1 hxl1
      exact Go.lvx 20 [] _ [.agg [t64 c0, t64 c10_1_2, t64 c2], ti 0] Tryd.func34 hxl1 rfl (by as_aux_lemma => kernel_rfl) (.cons (by decide : 0 + 3 ≤ 3) .nil) (T.Le.tup (.cons (T.Le.of_eq rfl) (.cons (T.Le.of_eq rfl) .nil))) rfl rfl .nil
    have Ll1 : ∀ (ml1 : Nat) (i1 : Int) (c10_1_1 : UInt64), (0 ≤ i1) → ((16 - i1).toNat < ml1) → Go E Γ 34 27 [] ((PostX Γ bursaryref18_Extend_enc) (Lo.el (bursaryref18_Extend_l1 c2 ml1 i1 c10_1_1) (fun z : UInt64 => bursaryref18_Extend_k1 c0 c2 z))) kl1 (stL [(1, .addr 10 0), (2, .addr 11 0), (4, ti i1)] [(10, [t64 c0, t64 c10_1_1, t64 c2]), (11, [t64 0, t64 0, t64 0])]) := by
      intro ml1
      induction ml1 with
      | zero => intro i1 c10_1_1 i0l1 hml1; exact absurd hml1 (Nat.not_lt_zero _)
      | succ ml1 ihl1 =>
        intro i1 c10_1_1 i0l1 hml1
        rw [bursaryref18_Extend_l1]
        refine Go.round hl1 ?_
        intro k hk
        refine Go.regJ 20 [(1, .addr 10 0), (2, .addr 11 0), (4, ti i1), (19, tb ((decide (i1 < 16)) && (decide (c10_1_1 < c2))))] [(10, [t64 c0, t64 c10_1_1, t64 c2]), (11, [t64 0, t64 0, t64 0])] hk rfl ?_ ?_
        · clear hk; intro k hk
          refine Go.br 20 (Pf := (fun z : Lo (UInt64) ((UInt64 × UInt64 × UInt64) × Int) => (PostX Γ bursaryref18_Extend_enc) (Lo.el z (fun z : UInt64 => bursaryref18_Extend_k1 c0 c2 z)))) hk rfl rfl ?_ ?_ <;> clear hk <;> intro ct2 k hk
          · have ct21 : (decide (i1 < 16)) = true := (Bool.and_eq_true_iff.1 ct2).1
            have ct22 : (decide (c10_1_1 < c2)) = true := (Bool.and_eq_true_iff.1 ct2).2
            have ct21p := of_decide_eq_true ct21
            refine Go.rx 20 { ws := [(2, { v := some (t64 (c10_1_1 + 1)) })] } [] [1, 2, 4] _ [(1, .addr 10 0), (2, .addr 11 0), (4, ti i1)] [(10, [t64 c0, t64 (c10_1_1 + 1), t64 c2]), (11, [t64 0, t64 0, t64 0])] hk rfl (by as_aux_lemma => kernel_rfl) (.cons trivial (.cons (add64 c10_1_1 1) .nil)) ?_
            clear hk; intro k hk
            refine Go.rx 20 { ws := [(1, { v := some (ti (i1 + 1)) })] } [] [1, 2, 4] _ [(1, .addr 10 0), (2, .addr 11 0), (4, ti (i1 + 1))] [(10, [t64 c0, t64 (c10_1_1 + 1), t64 c2]), (11, [t64 0, t64 0, t64 0])] hk rfl (by as_aux_lemma => kernel_rfl) (.cons trivial (.cons (iw (i1 + 1) (by omega)) .nil)) ?_
            clear hk; intro k hk
            exact Go.join 20 hk hl1 rfl (ihl1 (i1 + 1) (c10_1_1 + 1) (by omega) (by omega))
          · refine Go.keepN [1, 2] (L' := [(1, .addr 10 0), (2, .addr 11 0)]) rfl ?_
            exact Go.join 20 hk hxl1 rfl (Xl1 c10_1_1)
        · intro hk J
          rcases Bool.eq_false_or_eq_true (decide (i1 < 16)) with gd1 | gd1
          · have gd1p := of_decide_eq_true gd1
            refine Go.rx 20 { ws := [(1, { v := some (tb true) }), (7, { v := some (tb (decide (c10_1_1 < c2))) })] } [] [1, 2, 4, 19] _ [(1, .addr 10 0), (2, .addr 11 0), (4, ti i1), (19, tb (decide (c10_1_1 < c2)))] [(10, [t64 c0, t64 c10_1_1, t64 c2]), (11, [t64 0, t64 0, t64 0])] hk rfl (by as_aux_lemma => kernel_rfl) (.cons trivial (.cons (eb gd1) (.cons trivial (.cons (ltB64 c10_1_1 c2) .nil)))) ?_
            intro k' hk'
            refine Go.slotEq 19 (tb ((decide (i1 < 16)) && (decide (c10_1_1 < c2)))) rfl (eb (andT gd1 rfl).symm) ?_
            exact J k' hk'
          · have gd1p := of_decide_eq_false gd1
            refine Go.rx 20 { ws := [(1, { v := some (tb false) })] } [] [1, 2, 4, 19] _ [(1, .addr 10 0), (2, .addr 11 0), (4, ti i1), (19, tb false)] [(10, [t64 c0, t64 c10_1_1, t64 c2]), (11, [t64 0, t64 0, t64 0])] hk rfl (by as_aux_lemma => kernel_rfl) (.cons trivial (.cons (eb gd1) .nil)) ?_
            intro k' hk'
            refine Go.slotEq 19 (tb ((decide (i1 < 16)) && (decide (c10_1_1 < c2)))) rfl (eb (andF gd1).symm) ?_
            exact J k' hk'
    exact Ll1 _ 0 c1 (by omega) (Nat.lt_succ_self _)
noncomputable def bursaryref18_Bytes_k2 (o4 : List UInt8) : List UInt8 :=
  o4
noncomputable def bursaryref18_Bytes_l2  : Nat → UInt32 → Int → (List UInt8) → Lo (List UInt8) (List UInt8)
  | 0, _, _, _ => .brk default
  | ml2 + 1, term1, i2, o3 =>
    bif decide (i2 ≥ 0) then
      bursaryref18_Bytes_l2 ml2 (term1 / 256) (i2 - 1) (o3.set i2.toNat ((term1 % 256).toUInt8))
    else
      Lo.brk o3
noncomputable def bursaryref18_Bytes_k1 (term : UInt32) (o2 : List UInt8) : List UInt8 :=
  Lo.el (bursaryref18_Bytes_l2 (((3 : Int) + 1).toNat + 1) term 3 o2) (fun z : List UInt8 => bursaryref18_Bytes_k2 z)
noncomputable def bursaryref18_Bytes_l1  : Nat → UInt64 → Int → (List UInt8) → Lo (List UInt8) (List UInt8)
  | 0, _, _, _ => .brk default
  | ml1 + 1, n1, i1, o1 =>
    bif decide (i1 ≥ 4) then
      bursaryref18_Bytes_l1 ml1 (n1 / 256) (i1 - 1) (o1.set i1.toNat ((n1 % 256).toUInt8))
    else
      Lo.brk o1
noncomputable def bursaryref18_Bytes (term : UInt32) (n : UInt64) : List UInt8 :=
  Lo.el (bursaryref18_Bytes_l1 (((11 : Int) - 3).toNat + 1) n 11 (List.replicate 12 (0 : UInt8))) (fun z : List UInt8 => bursaryref18_Bytes_k1 term z)
def bursaryref18_Bytes_enc (x : List UInt8) : T × List (Nat × List T) := (.sl 1 .shr x.length (u8s x), [])
theorem bursaryref18_Bytes_m (term : UInt32) (n : UInt64) : Meets Tryd.prog 31 [t32 term, t64 n] [] [] (.sl 1 .shr (bursaryref18_Bytes term n).length (u8s (bursaryref18_Bytes term n))) [] := by
  refine Meets.enterX (E := E) (N := 34) (enc := bursaryref18_Bytes_enc) (x := (bursaryref18_Bytes term n)) Tryd.func31 Tryd.call31 rfl rfl ?_
  intro Γ k hk
  refine Go.rx 20 {} [] [0, 1] _ [(0, t32 term), (1, t64 n)] [] hk rfl (by as_aux_lemma => kernel_rfl) .nil ?_
  clear hk; intro k hk
  refine Go.rx 20 { ws := [(0, { v := some (.ref 10 1 0 ((List.replicate 12 (0 : UInt8)).length)), c := some (u8s (List.replicate 12 (0 : UInt8))), id := 10 })] } [] [0, 1, 5] _ [(0, t32 term), (1, t64 n), (5, .ref 10 1 0 ((List.replicate 12 (0 : UInt8)).length))] [(10, u8s (List.replicate 12 (0 : UInt8)))] hk rfl (by as_aux_lemma => kernel_rfl) (.cons (by decide : 0 ≤ (12 : Int) ∧ (12 : Int) ≤ 12 ∧ (12 : Int) < 9223372036854775808 ∧ ((1 : Nat) : Int) * 12 ≤ 281474976710656) (.cons (mp_zeros (g := (fun c : UInt8 => T.leaf (.int .u8 c.toNat))) (n := Int.toNat 12) (x := (0 : UInt8)) (z := [.int .u8 0]) rfl) (.cons (by simp : T.ref 10 1 0 (Int.toNat 12) = .ref 10 1 0 ((List.replicate 12 (0 : UInt8)).length)) .nil))) ?_
  clear hk; intro k hk
  refine Go.rx 20 {} [] [0, 1, 5, 6] _ [(0, t32 term), (1, t64 n), (5, .ref 10 1 0 ((List.replicate 12 (0 : UInt8)).length)), (6, ti 11)] [(10, u8s (List.replicate 12 (0 : UInt8)))] hk rfl (by as_aux_lemma => kernel_rfl) .nil ?_
  clear hk; intro k hk
  refine Go.loopX 20 hk rfl ?_
  clear hk; intro kl1 kxl1 hl1 hxl1
  have Xl1 : ∀ (o2 : List UInt8) (f0l1 : o2.length = 12), Go E Γ 31 34 [] ((PostX Γ bursaryref18_Bytes_enc) (bursaryref18_Bytes_k1 term o2)) kxl1 (stL [(0, t32 term), (5, .ref 10 1 0 o2.length)] [(10, u8s o2)]) := by
    intro o2 f0l1
    refine Go.rx 20 {} [] [0, 5, 7] _ [(0, t32 term), (5, .ref 10 1 0 o2.length), (7, ti 3)] [(10, u8s o2)] hxl1 rfl (by as_aux_lemma => kernel_rfl) .nil ?_
    clear hxl1; intro kxl1 hxl1
    refine Go.loopX 20 hxl1 rfl ?_
    clear hxl1; intro kl2 kxl2 hl2 hxl2
    have Xl2 : ∀ (o4 : List UInt8), Go E Γ 31 34 [] ((PostX Γ bursaryref18_Bytes_enc) (bursaryref18_Bytes_k2 o4)) kxl2 (stL [(5, .ref 10 1 0 o4.length)] [(10, u8s o4)]) := by
      intro o4
      refine Go.rx 20 {} [] [4] _ [(4, .ref 10 1 0 o4.length)] [(10, u8s o4)] hxl2 rfl (by as_aux_lemma => kernel_rfl) .nil ?_
      clear hxl2; intro kxl2 hxl2
      refine Go.frz [] [] 4 10 (u8s o4) _ [(4, .dead)] [] rfl rfl (mp_ids _ (fun _ => rfl)) (by simp only [List.length_map]; omega) (mp_all _) (by as_aux_lemma => kernel_rfl) .nil ?_
      exact Go.lvx 20 [] _ [.sl 1 .shr o4.length (u8s o4)] Tryd.func31 hxl2 rfl (by as_aux_lemma => kernel_rfl) .nil (T.Le.of_eq rfl) rfl rfl .nil
    have Ll2 : ∀ (ml2 : Nat) (term1 : UInt32) (i2 : Int) (o3 : List UInt8), (-1 ≤ i2) → (i2 ≤ 3) → (o3.length = 12) → ((i2 + 1).toNat < ml2) → Go E Γ 31 34 [] ((PostX Γ bursaryref18_Bytes_enc) (Lo.el (bursaryref18_Bytes_l2 ml2 term1 i2 o3) (fun z : List UInt8 => bursaryref18_Bytes_k2 z))) kl2 (stL [(0, t32 term1), (5, .ref 10 1 0 o3.length), (7, ti i2)] [(10, u8s o3)]) := by
      intro ml2
      induction ml2 with
      | zero => intro term1 i2 o3 i0l2 i1l2 i2l2 hml2; exact absurd hml2 (Nat.not_lt_zero _)
      | succ ml2 ihl2 =>
        intro term1 i2 o3 i0l2 i1l2 i2l2 hml2
        rw [bursaryref18_Bytes_l2]
        refine Go.round hl2 ?_
        intro k hk
        refine Go.rx 20 {} [] [0, 5, 7, 22] _ [(0, t32 term1), (5, .ref 10 1 0 o3.length), (7, ti i2), (22, tb (decide (i2 ≥ 0)))] [(10, u8s o3)] hk rfl (by as_aux_lemma => kernel_rfl) (.cons trivial .nil) ?_
        clear hk; intro k hk
        refine Go.br 20 (Pf := (fun z : Lo (List UInt8) (List UInt8) => (PostX Γ bursaryref18_Bytes_enc) (Lo.el z (fun z : List UInt8 => bursaryref18_Bytes_k2 z)))) hk rfl rfl ?_ ?_ <;> clear hk <;> intro ct1 k hk
        · have ct1p := of_decide_eq_true ct1
          refine Go.rx 20 { ws := [(3, { v := some (t32 (term1 % 256)) }), (4, { v := some (t8 ((term1 % 256).toUInt8)) }), (6, { c := some (u8s (o3.set i2.toNat ((term1 % 256).toUInt8))), sym := true })] } [] [0, 5, 7] _ [(0, t32 term1), (5, .ref 10 1 0 o3.length), (7, ti i2)] [(10, u8s (o3.set i2.toNat ((term1 % 256).toUInt8)))] hk rfl (by as_aux_lemma => kernel_rfl) (.cons (by decide : ((256 : UInt32).toNat : Int) ≠ (0 : Int)) (.cons (rem32 term1 256) (.cons (cv32_8 (term1 % 256)) (.cons (by first | omega | (simp <;> omega) | (simp at * <;> omega) | (split <;> omega) : 0 ≤ (i2 : Int) ∧ (i2 : Int) < ((o3.length : Nat) : Int)) (.cons (rfl : scalL [t8 ((term1 % 256).toUInt8)] = true) (.cons (by decide : 1 ≤ 1) (.cons (by decide : 1 ≤ 1) (.cons (by simp only [List.length_map]; first | omega | (simp <;> omega) | (simp at * <;> omega) | (split <;> omega) : 0 + i2.toNat * 1 + 1 ≤ (u8s o3).length) (.cons (mp_set (g := (fun c : UInt8 => T.leaf (.int .u8 c.toNat))) (k := 0 + i2.toNat * 1) (n := i2.toNat) (x := (term1 % 256).toUInt8) o3 rfl (by omega) (by first | omega | (simp <;> omega) | (simp at * <;> omega) | (split <;> omega))) .nil))))))))) ?_
          clear hk; intro k hk
          refine Go.rx 20 { ws := [(1, { v := some (t32 (term1 / 256)) })] } [] [0, 5, 7] _ [(0, t32 (term1 / 256)), (5, .ref 10 1 0 o3.length), (7, ti i2)] [(10, u8s (o3.set i2.toNat ((term1 % 256).toUInt8)))] hk rfl (by as_aux_lemma => kernel_rfl) (.cons (by decide : ((256 : UInt32).toNat : Int) ≠ (0 : Int)) (.cons (quo32 term1 256) .nil)) ?_
          clear hk; intro k hk
          refine Go.rx 20 { ws := [(1, { v := some (ti (i2 - 1)) })] } [] [0, 5, 7] _ [(0, t32 (term1 / 256)), (5, .ref 10 1 0 o3.length), (7, ti (i2 - 1))] [(10, u8s (o3.set i2.toNat ((term1 % 256).toUInt8)))] hk rfl (by as_aux_lemma => kernel_rfl) (.cons trivial (.cons (iw (i2 - 1) (by first | omega | (simp <;> omega) | (simp at * <;> omega) | (split <;> omega))) .nil)) ?_
          clear hk; intro k hk
          refine Go.slotEq 5 (.ref 10 1 0 ((o3.set i2.toNat ((term1 % 256).toUInt8)).length)) rfl (congrArg (fun q => T.ref 10 1 0 q) (by first | (simp only [List.length_set, cpy_length, List.length_replicate, List.length_cons, List.length_nil, List.length_append]; omega) | (simp [cpy_length]; omega) | simp : o3.length = (o3.set i2.toNat ((term1 % 256).toUInt8)).length)) ?_
          exact Go.join 20 hk hl2 rfl (ihl2 (term1 / 256) (i2 - 1) (o3.set i2.toNat ((term1 % 256).toUInt8)) (by first | omega | (simp <;> omega) | (simp at * <;> omega) | (split <;> omega)) (by first | omega | (simp <;> omega) | (simp at * <;> omega) | (split <;> omega)) (by first | omega | (simp <;> omega) | (simp at * <;> omega) | (split <;> omega)) (by first | omega | (simp <;> omega) | (simp at * <;> omega) | (split <;> omega)))
        · have ct1p := of_decide_eq_false ct1
          refine Go.keepN [5] (L' := [(5, .ref 10 1 0 o3.length)]) rfl ?_
          exact Go.join 20 hk hxl2 rfl (Xl2 o3)
    exact Ll2 _ term 3 o2 (by first | omega | rfl | simp) (by first | omega | rfl | simp) (by first | omega | rfl | simp) (Nat.lt_succ_self _)
  have Ll1 : ∀ (ml1 : Nat) (n1 : UInt64) (i1 : Int) (o1 : List UInt8), (3 ≤ i1) → (i1 ≤ 11) → (o1.length = 12) → ((i1 - 3).toNat < ml1) → Go E Γ 31 34 [] ((PostX Γ bursaryref18_Bytes_enc) (Lo.el (bursaryref18_Bytes_l1 ml1 n1 i1 o1) (fun z : List UInt8 => bursaryref18_Bytes_k1 term z))) kl1 (stL [(0, t32 term), (1, t64 n1), (5, .ref 10 1 0 o1.length), (6, ti i1)] [(10, u8s o1)]) := by
    intro ml1
    induction ml1 with
    | zero => intro n1 i1 o1 i0l1 i1l1 i2l1 hml1; exact absurd hml1 (Nat.not_lt_zero _)
    | succ ml1 ihl1 =>
      intro n1 i1 o1 i0l1 i1l1 i2l1 hml1
      rw [bursaryref18_Bytes_l1]
      refine Go.round hl1 ?_
      intro k hk
      refine Go.rx 20 {} [] [0, 1, 5, 6, 10] _ [(0, t32 term), (1, t64 n1), (5, .ref 10 1 0 o1.length), (6, ti i1), (10, tb (decide (i1 ≥ 4)))] [(10, u8s o1)] hk rfl (by as_aux_lemma => kernel_rfl) (.cons trivial .nil) ?_
      clear hk; intro k hk
      refine Go.br 20 (Pf := (fun z : Lo (List UInt8) (List UInt8) => (PostX Γ bursaryref18_Bytes_enc) (Lo.el z (fun z : List UInt8 => bursaryref18_Bytes_k1 term z)))) hk rfl rfl ?_ ?_ <;> clear hk <;> intro ct2 k hk
      · have ct2p := of_decide_eq_true ct2
        refine Go.rx 20 { ws := [(3, { v := some (t64 (n1 % 256)) }), (4, { v := some (t8 ((n1 % 256).toUInt8)) }), (6, { c := some (u8s (o1.set i1.toNat ((n1 % 256).toUInt8))), sym := true })] } [] [0, 1, 5, 6] _ [(0, t32 term), (1, t64 n1), (5, .ref 10 1 0 o1.length), (6, ti i1)] [(10, u8s (o1.set i1.toNat ((n1 % 256).toUInt8)))] hk rfl (by as_aux_lemma => kernel_rfl) (.cons (by decide : ((256 : UInt64).toNat : Int) ≠ (0 : Int)) (.cons (rem64 n1 256) (.cons (cv64_8 (n1 % 256)) (.cons (by first | omega | (simp <;> omega) | (simp at * <;> omega) | (split <;> omega) : 0 ≤ (i1 : Int) ∧ (i1 : Int) < ((o1.length : Nat) : Int)) (.cons (rfl : scalL [t8 ((n1 % 256).toUInt8)] = true) (.cons (by decide : 1 ≤ 1) (.cons (by decide : 1 ≤ 1) (.cons (by simp only [List.length_map]; first | omega | (simp <;> omega) | (simp at * <;> omega) | (split <;> omega) : 0 + i1.toNat * 1 + 1 ≤ (u8s o1).length) (.cons (mp_set (g := (fun c : UInt8 => T.leaf (.int .u8 c.toNat))) (k := 0 + i1.toNat * 1) (n := i1.toNat) (x := (n1 % 256).toUInt8) o1 rfl (by omega) (by first | omega | (simp <;> omega) | (simp at * <;> omega) | (split <;> omega))) .nil))))))))) ?_
        clear hk; intro k hk
        refine Go.rx 20 { ws := [(1, { v := some (t64 (n1 / 256)) })] } [] [0, 1, 5, 6] _ [(0, t32 term), (1, t64 (n1 / 256)), (5, .ref 10 1 0 o1.length), (6, ti i1)] [(10, u8s (o1.set i1.toNat ((n1 % 256).toUInt8)))] hk rfl (by as_aux_lemma => kernel_rfl) (.cons (by decide : ((256 : UInt64).toNat : Int) ≠ (0 : Int)) (.cons (quo64 n1 256) .nil)) ?_
        clear hk; intro k hk
        refine Go.rx 20 { ws := [(1, { v := some (ti (i1 - 1)) })] } [] [0, 1, 5, 6] _ [(0, t32 term), (1, t64 (n1 / 256)), (5, .ref 10 1 0 o1.length), (6, ti (i1 - 1))] [(10, u8s (o1.set i1.toNat ((n1 % 256).toUInt8)))] hk rfl (by as_aux_lemma => kernel_rfl) (.cons trivial (.cons (iw (i1 - 1) (by first | omega | (simp <;> omega) | (simp at * <;> omega) | (split <;> omega))) .nil)) ?_
        clear hk; intro k hk
        refine Go.slotEq 5 (.ref 10 1 0 ((o1.set i1.toNat ((n1 % 256).toUInt8)).length)) rfl (congrArg (fun q => T.ref 10 1 0 q) (by first | (simp only [List.length_set, cpy_length, List.length_replicate, List.length_cons, List.length_nil, List.length_append]; omega) | (simp [cpy_length]; omega) | simp : o1.length = (o1.set i1.toNat ((n1 % 256).toUInt8)).length)) ?_
        exact Go.join 20 hk hl1 rfl (ihl1 (n1 / 256) (i1 - 1) (o1.set i1.toNat ((n1 % 256).toUInt8)) (by first | omega | (simp <;> omega) | (simp at * <;> omega) | (split <;> omega)) (by first | omega | (simp <;> omega) | (simp at * <;> omega) | (split <;> omega)) (by first | omega | (simp <;> omega) | (simp at * <;> omega) | (split <;> omega)) (by first | omega | (simp <;> omega) | (simp at * <;> omega) | (split <;> omega)))
      · have ct2p := of_decide_eq_false ct2
        refine Go.keepN [0, 5] (L' := [(0, t32 term), (5, .ref 10 1 0 o1.length)]) rfl ?_
        exact Go.join 20 hk hxl1 rfl (Xl1 o1 (by first | omega | (simp <;> omega) | (simp at * <;> omega) | (split <;> omega)))
  exact Ll1 _ n 11 (List.replicate 12 (0 : UInt8)) (by first | omega | rfl | simp) (by first | omega | rfl | simp) (by first | omega | rfl | simp) (Nat.lt_succ_self _)
def bursarylaw18_num_enc (x : Int) : T × List (Nat × List T) := (ti x, [])
theorem bursarylaw18_num_m (e : Int) : Meets Tryd.prog 25 [er 82 e] [] [] (ti e) [] := by
  by_cases p : e = 0
  · subst p
    rw [er_zero]
    refine Meets.enterX (E := E) (N := 10) (enc := bursarylaw18_num_enc) (x := (0 : Int)) Tryd.func25 Tryd.call25 rfl rfl ?_
    intro Γ k hk
    refine Go.rx 20 {} [] [0] _ [(0, .leaf .nilIface)] [] hk rfl (by as_aux_lemma => kernel_rfl) .nil ?_
    clear hk; intro k hk
    refine Go.rx 20 { ws := [(0, { id := 10 })] } [] [0, 3] _ [(0, .leaf .nilIface), (3, .addr 10 0)] [(10, [ti 0])] hk rfl (by as_aux_lemma => kernel_rfl) .nil ?_
    clear hk; intro k hk
    refine Go.rx 20 {} [] [0, 3, 5] _ [(0, .leaf .nilIface), (3, .addr 10 0), (5, tb true)] [(10, [ti 0])] hk rfl (by as_aux_lemma => kernel_rfl) (.cons (by as_aux_lemma => kernel_rfl : (E.ti 28).k = .iface) .nil) ?_
    clear hk; intro k hk
    refine Go.cond 20 hk rfl (t := true) rfl ?_; clear hk; intro k hk
    refine Go.rx 20 {} [10] [2] _ [(2, ti 0)] [] hk rfl (by as_aux_lemma => kernel_rfl) .nil ?_
    clear hk; intro k hk
    exact Go.lvx 20 [] _ [ti 0] Tryd.func25 hk rfl (by as_aux_lemma => kernel_rfl) .nil (T.Le.of_eq rfl) rfl rfl .nil
  · rw [er_ne p]
    refine Meets.enterX (E := E) (N := 10) (enc := bursarylaw18_num_enc) (x := (e : Int)) Tryd.func25 Tryd.call25 rfl rfl ?_
    intro Γ k hk
    refine Go.rx 20 {} [] [0] _ [(0, .iface 82 (ti e))] [] hk rfl (by as_aux_lemma => kernel_rfl) .nil ?_
    clear hk; intro k hk
    refine Go.rx 20 { ws := [(0, { id := 10 })] } [] [0, 3] _ [(0, .iface 82 (ti e)), (3, .addr 10 0)] [(10, [ti 0])] hk rfl (by as_aux_lemma => kernel_rfl) .nil ?_
    clear hk; intro k hk
    refine Go.rx 20 {} [] [0, 3, 5] _ [(0, .iface 82 (ti e)), (3, .addr 10 0), (5, tb false)] [(10, [ti 0])] hk rfl (by as_aux_lemma => kernel_rfl) (.cons (by as_aux_lemma => kernel_rfl : (E.ti 28).k = .iface) .nil) ?_
    clear hk; intro k hk
    refine Go.cond 20 hk rfl (t := false) rfl ?_; clear hk; intro k hk
    refine Go.rx 20 { ws := [(2, { call := some { ids := [10], S := [10], R := tb true, H' := [(10, [ti e])] } })] } [] [3, 8] _ [(3, .addr 10 0), (8, tb true)] [(10, [ti e])] hk rfl (by as_aux_lemma => kernel_rfl) (.cons (meets_errAs 10 e 0) (.cons (rfl : subN (idsL [.iface 82 (ti e), .iface 87 (.addr 10 0)]) [10] = true) (.cons (rfl : subN (idsL [ti 0]) [10] = true) .nil))) ?_
    clear hk; intro k hk
    refine Go.cond 20 hk rfl (t := true) rfl ?_; clear hk; intro k hk
    refine Go.rx 20 {} [10] [2] _ [(2, ti e)] [] hk rfl (by as_aux_lemma => kernel_rfl) .nil ?_
    clear hk; intro k hk
    exact Go.lvx 20 [] _ [ti e] Tryd.func25 hk rfl (by as_aux_lemma => kernel_rfl) .nil (T.Le.of_eq rfl) rfl rfl .nil
noncomputable def bursarylaw18_sure  : Bool :=
  bif ((nonce_New 3 10).1).isSome then
    bnd (nonce_New 3 10) fun x1 =>
    bif !(decide (x1.2 = 0)) then
      false
    else
      bnd (nonce_Counter_Take (((x1.1).getD default).1) (((x1.1).getD default).2.1) (((x1.1).getD default).2.2)) fun x2 =>
      bnd (nonce_Counter_Extend ((x2.2.2).1) ((x2.2.2).2.1) ((x2.2.2).2.2)) fun x3 =>
      bnd (nonce_Counter_Take ((x3.2.2).1) ((x3.2.2).2.1) ((x3.2.2).2.2)) fun x4 =>
      bnd (nonce_Counter_Extend ((x4.2.2).1) ((x4.2.2).2.1) ((x4.2.2).2.2)) fun x5 =>
      bnd (id x2.2.1) fun x6 =>
      bnd (id x5.2.1) fun x7 =>
      bnd (nonce_Counter_Left ((x5.2.2).1) ((x5.2.2).2.1) ((x5.2.2).2.2)) fun x8 =>
      bnd (nonce_Bytes 1 2) fun x9 =>
      (x6 == 2) && ((decide (x3.2.1 = 0)) && ((x3.1 == 10) && ((decide (x4.2.1 = 0)) && ((x4.1 == 3) && ((x7 == 8) && (((x8.1) == 6) && (x9 == [0, 0, 0, 1, 0, 0, 0, 0, 0, 0, 0, 2])))))))
  else
    bnd (nonce_New 3 10) fun x10 =>
    false
def bursarylaw18_sure_enc (x : Bool) : T × List (Nat × List T) := (tb x, [])
theorem bursarylaw18_sure_m  : Meets Tryd.prog 23 [] [] [] (tb bursarylaw18_sure) [] := by
  refine Meets.enterX (E := E) (N := 75) (enc := bursarylaw18_sure_enc) (x := bursarylaw18_sure) Tryd.func23 Tryd.call23 rfl rfl ?_
  intro Γ k hk
  refine Go.rx 20 {} [] [] _ [] [] hk rfl (by as_aux_lemma => kernel_rfl) .nil ?_
  clear hk; intro k hk
  refine Go.split (Pf := (PostX Γ bursarylaw18_sure_enc)) (((nonce_New 3 10).1).isSome) ?_ ?_ <;> intro p1
  · refine Go.rx 20 { ws := [(0, { call := some { ids := [], S := [], M := [], R := .tup [.addr 10 0, er 82 ((nonce_New 3 10).2)], H' := [(10, [t64 ((((nonce_New 3 10).1).getD default).1), t64 ((((nonce_New 3 10).1).getD default).2.1), t64 ((((nonce_New 3 10).1).getD default).2.2)])] } })] } [] [1, 2] _ [(1, .addr 10 0), (2, er 82 ((nonce_New 3 10).2))] [(10, [t64 ((((nonce_New 3 10).1).getD default).1), t64 ((((nonce_New 3 10).1).getD default).2.1), t64 ((((nonce_New 3 10).1).getD default).2.2)])] hk rfl (by as_aux_lemma => kernel_rfl) (.cons (Meets.swp [] (Meets.optS (i := 10) (g := fun z => [t64 z.1, t64 z.2.1, t64 z.2.2]) (fun q => .tup [q, er 82 ((nonce_New 3 10).2)]) (nonce_New_m 3 10) p1) (.cons (.same (by first | rfl | (simp only [T.ids, idsL, er_ids, List.append_nil, List.nil_append] <;> rfl))) (.cons (.same (by first | rfl | (simp only [T.ids, idsL, er_ids, List.append_nil, List.nil_append] <;> rfl))) .nil)) .nil rfl (.tup (.cons (.addr rfl 0) (.cons (.same (by first | rfl | (simp only [T.ids, idsL, er_ids, List.append_nil, List.nil_append] <;> rfl))) .nil))) (.cons rfl (.same (by first | rfl | (simp only [T.ids, idsL, er_ids, List.append_nil, List.nil_append] <;> rfl))) .nil) : Meets Tryd.prog 32 [t64 3, t64 10] [] [] (.tup [.addr 10 0, er 82 ((nonce_New 3 10).2)]) [(10, [t64 ((((nonce_New 3 10).1).getD default).1), t64 ((((nonce_New 3 10).1).getD default).2.1), t64 ((((nonce_New 3 10).1).getD default).2.2)])]) (.cons (by first | rfl | (simp only [T.ids, idsL, er_ids, List.append_nil, List.nil_append]; rfl) : subN (idsL [t64 3, t64 10]) [] = true) .nil)) ?_
    clear hk; intro k hk
    refine Go.bnd (Pf := (PostX Γ bursarylaw18_sure_enc)) (v := (nonce_New 3 10)) (fun x1 => [(1, .addr 10 0), (2, er 82 x1.2)]) (fun x1 => [(10, [t64 (((x1.1).getD default).1), t64 (((x1.1).getD default).2.1), t64 (((x1.1).getD default).2.2)])]) ?_
    intro x1 hx1
    refine Go.regJ 20 [(1, .addr 10 0), (20, tb (!(decide (x1.2 = 0))))] [(10, [t64 (((x1.1).getD default).1), t64 (((x1.1).getD default).2.1), t64 (((x1.1).getD default).2.2)])] hk rfl ?_ ?_
    · clear hk; intro k hk
      refine Go.br 20 (Pf := (PostX Γ bursarylaw18_sure_enc)) hk rfl rfl ?_ ?_ <;> clear hk <;> intro ct1 k hk
      · have ct1' : (decide (x1.2 = 0)) = false := ntT ct1
        have ct1'p := of_decide_eq_false ct1'
        refine Go.rx 20 {} [10] [0] _ [(0, tb false)] [] hk rfl (by as_aux_lemma => kernel_rfl) .nil ?_
        clear hk; intro k hk
        exact Go.lvx 20 [] _ [tb false] Tryd.func23 hk rfl (by as_aux_lemma => kernel_rfl) .nil (T.Le.of_eq rfl) rfl rfl .nil
      · have ct1' : (decide (x1.2 = 0)) = true := ntF ct1
        have ct1'p := of_decide_eq_true ct1'
        refine Go.rx 20 { ws := [(1, { call := some { ids := [10], S := [10], M := [], R := .tup [t64 ((nonce_Counter_Take (((x1.1).getD default).1) (((x1.1).getD default).2.1) (((x1.1).getD default).2.2)).1), er 82 ((nonce_Counter_Take (((x1.1).getD default).1) (((x1.1).getD default).2.1) (((x1.1).getD default).2.2)).2.1)], H' := [(10, [t64 (((nonce_Counter_Take (((x1.1).getD default).1) (((x1.1).getD default).2.1) (((x1.1).getD default).2.2)).2.2).1), t64 (((nonce_Counter_Take (((x1.1).getD default).1) (((x1.1).getD default).2.1) (((x1.1).getD default).2.2)).2.2).2.1), t64 (((nonce_Counter_Take (((x1.1).getD default).1) (((x1.1).getD default).2.1) (((x1.1).getD default).2.2)).2.2).2.2)])] } })] } [] [1, 4] _ [(1, .addr 10 0), (4, er 82 ((nonce_Counter_Take (((x1.1).getD default).1) (((x1.1).getD default).2.1) (((x1.1).getD default).2.2)).2.1))] [(10, [t64 (((nonce_Counter_Take (((x1.1).getD default).1) (((x1.1).getD default).2.1) (((x1.1).getD default).2.2)).2.2).1), t64 (((nonce_Counter_Take (((x1.1).getD default).1) (((x1.1).getD default).2.1) (((x1.1).getD default).2.2)).2.2).2.1), t64 (((nonce_Counter_Take (((x1.1).getD default).1) (((x1.1).getD default).2.1) (((x1.1).getD default).2.2)).2.2).2.2)])] hk rfl (by as_aux_lemma => kernel_rfl) (.cons (Meets.swp [(0, 10)] (nonce_Counter_Take_m (((x1.1).getD default).1) (((x1.1).getD default).2.1) (((x1.1).getD default).2.2)) (.cons (.addr rfl 0) .nil) (.cons rfl (.same (by first | rfl | (simp only [T.ids, idsL, er_ids, List.append_nil, List.nil_append] <;> rfl))) .nil) rfl (.same (by first | rfl | (simp only [T.ids, idsL, er_ids, List.append_nil, List.nil_append] <;> rfl))) (.cons rfl (.same (by first | rfl | (simp only [T.ids, idsL, er_ids, List.append_nil, List.nil_append] <;> rfl))) .nil) : Meets Tryd.prog 27 [.addr 10 0] [(10, [t64 (((x1.1).getD default).1), t64 (((x1.1).getD default).2.1), t64 (((x1.1).getD default).2.2)])] [10] (.tup [t64 ((nonce_Counter_Take (((x1.1).getD default).1) (((x1.1).getD default).2.1) (((x1.1).getD default).2.2)).1), er 82 ((nonce_Counter_Take (((x1.1).getD default).1) (((x1.1).getD default).2.1) (((x1.1).getD default).2.2)).2.1)]) [(10, [t64 (((nonce_Counter_Take (((x1.1).getD default).1) (((x1.1).getD default).2.1) (((x1.1).getD default).2.2)).2.2).1), t64 (((nonce_Counter_Take (((x1.1).getD default).1) (((x1.1).getD default).2.1) (((x1.1).getD default).2.2)).2.2).2.1), t64 (((nonce_Counter_Take (((x1.1).getD default).1) (((x1.1).getD default).2.1) (((x1.1).getD default).2.2)).2.2).2.2)])]) (.cons (by first | rfl | (simp only [T.ids, idsL, er_ids, List.append_nil, List.nil_append]; rfl) : subN (idsL [.addr 10 0]) [10] = true) (.cons (by first | rfl | (simp only [T.ids, idsL, er_ids, List.append_nil, List.nil_append]; rfl) : subN (idsL [t64 (((x1.1).getD default).1), t64 (((x1.1).getD default).2.1), t64 (((x1.1).getD default).2.2)]) [10] = true) .nil))) ?_
        clear hk; intro k hk
        refine Go.bnd (Pf := (PostX Γ bursarylaw18_sure_enc)) (v := (nonce_Counter_Take (((x1.1).getD default).1) (((x1.1).getD default).2.1) (((x1.1).getD default).2.2))) (fun x2 => [(1, .addr 10 0), (4, er 82 x2.2.1)]) (fun x2 => [(10, [t64 ((x2.2.2).1), t64 ((x2.2.2).2.1), t64 ((x2.2.2).2.2)])]) ?_
        intro x2 hx2
        refine Go.rx 20 { ws := [(1, { call := some { ids := [10], S := [10], M := [], R := .tup [t64 ((nonce_Counter_Extend ((x2.2.2).1) ((x2.2.2).2.1) ((x2.2.2).2.2)).1), er 82 ((nonce_Counter_Extend ((x2.2.2).1) ((x2.2.2).2.1) ((x2.2.2).2.2)).2.1)], H' := [(10, [t64 (((nonce_Counter_Extend ((x2.2.2).1) ((x2.2.2).2.1) ((x2.2.2).2.2)).2.2).1), t64 (((nonce_Counter_Extend ((x2.2.2).1) ((x2.2.2).2.1) ((x2.2.2).2.2)).2.2).2.1), t64 (((nonce_Counter_Extend ((x2.2.2).1) ((x2.2.2).2.1) ((x2.2.2).2.2)).2.2).2.2)])] } })] } [] [1, 4, 5, 6] _ [(1, .addr 10 0), (4, er 82 x2.2.1), (5, t64 ((nonce_Counter_Extend ((x2.2.2).1) ((x2.2.2).2.1) ((x2.2.2).2.2)).1)), (6, er 82 ((nonce_Counter_Extend ((x2.2.2).1) ((x2.2.2).2.1) ((x2.2.2).2.2)).2.1))] [(10, [t64 (((nonce_Counter_Extend ((x2.2.2).1) ((x2.2.2).2.1) ((x2.2.2).2.2)).2.2).1), t64 (((nonce_Counter_Extend ((x2.2.2).1) ((x2.2.2).2.1) ((x2.2.2).2.2)).2.2).2.1), t64 (((nonce_Counter_Extend ((x2.2.2).1) ((x2.2.2).2.1) ((x2.2.2).2.2)).2.2).2.2)])] hk rfl (by as_aux_lemma => kernel_rfl) (.cons (Meets.swp [(0, 10)] (nonce_Counter_Extend_m ((x2.2.2).1) ((x2.2.2).2.1) ((x2.2.2).2.2)) (.cons (.addr rfl 0) .nil) (.cons rfl (.same (by first | rfl | (simp only [T.ids, idsL, er_ids, List.append_nil, List.nil_append] <;> rfl))) .nil) rfl (.same (by first | rfl | (simp only [T.ids, idsL, er_ids, List.append_nil, List.nil_append] <;> rfl))) (.cons rfl (.same (by first | rfl | (simp only [T.ids, idsL, er_ids, List.append_nil, List.nil_append] <;> rfl))) .nil) : Meets Tryd.prog 28 [.addr 10 0] [(10, [t64 ((x2.2.2).1), t64 ((x2.2.2).2.1), t64 ((x2.2.2).2.2)])] [10] (.tup [t64 ((nonce_Counter_Extend ((x2.2.2).1) ((x2.2.2).2.1) ((x2.2.2).2.2)).1), er 82 ((nonce_Counter_Extend ((x2.2.2).1) ((x2.2.2).2.1) ((x2.2.2).2.2)).2.1)]) [(10, [t64 (((nonce_Counter_Extend ((x2.2.2).1) ((x2.2.2).2.1) ((x2.2.2).2.2)).2.2).1), t64 (((nonce_Counter_Extend ((x2.2.2).1) ((x2.2.2).2.1) ((x2.2.2).2.2)).2.2).2.1), t64 (((nonce_Counter_Extend ((x2.2.2).1) ((x2.2.2).2.1) ((x2.2.2).2.2)).2.2).2.2)])]) (.cons (by first | rfl | (simp only [T.ids, idsL, er_ids, List.append_nil, List.nil_append]; rfl) : subN (idsL [.addr 10 0]) [10] = true) (.cons (by first | rfl | (simp only [T.ids, idsL, er_ids, List.append_nil, List.nil_append]; rfl) : subN (idsL [t64 ((x2.2.2).1), t64 ((x2.2.2).2.1), t64 ((x2.2.2).2.2)]) [10] = true) .nil))) ?_
        clear hk; intro k hk
        refine Go.bnd (Pf := (PostX Γ bursarylaw18_sure_enc)) (v := (nonce_Counter_Extend ((x2.2.2).1) ((x2.2.2).2.1) ((x2.2.2).2.2))) (fun x3 => [(1, .addr 10 0), (4, er 82 x2.2.1), (5, t64 x3.1), (6, er 82 x3.2.1)]) (fun x3 => [(10, [t64 ((x3.2.2).1), t64 ((x3.2.2).2.1), t64 ((x3.2.2).2.2)])]) ?_
        intro x3 hx3
        refine Go.rx 20 { ws := [(1, { call := some { ids := [10], S := [10], M := [], R := .tup [t64 ((nonce_Counter_Take ((x3.2.2).1) ((x3.2.2).2.1) ((x3.2.2).2.2)).1), er 82 ((nonce_Counter_Take ((x3.2.2).1) ((x3.2.2).2.1) ((x3.2.2).2.2)).2.1)], H' := [(10, [t64 (((nonce_Counter_Take ((x3.2.2).1) ((x3.2.2).2.1) ((x3.2.2).2.2)).2.2).1), t64 (((nonce_Counter_Take ((x3.2.2).1) ((x3.2.2).2.1) ((x3.2.2).2.2)).2.2).2.1), t64 (((nonce_Counter_Take ((x3.2.2).1) ((x3.2.2).2.1) ((x3.2.2).2.2)).2.2).2.2)])] } })] } [] [1, 4, 5, 6, 7, 8] _ [(1, .addr 10 0), (4, er 82 x2.2.1), (5, t64 x3.1), (6, er 82 x3.2.1), (7, t64 ((nonce_Counter_Take ((x3.2.2).1) ((x3.2.2).2.1) ((x3.2.2).2.2)).1)), (8, er 82 ((nonce_Counter_Take ((x3.2.2).1) ((x3.2.2).2.1) ((x3.2.2).2.2)).2.1))] [(10, [t64 (((nonce_Counter_Take ((x3.2.2).1) ((x3.2.2).2.1) ((x3.2.2).2.2)).2.2).1), t64 (((nonce_Counter_Take ((x3.2.2).1) ((x3.2.2).2.1) ((x3.2.2).2.2)).2.2).2.1), t64 (((nonce_Counter_Take ((x3.2.2).1) ((x3.2.2).2.1) ((x3.2.2).2.2)).2.2).2.2)])] hk rfl (by as_aux_lemma => kernel_rfl) (.cons (Meets.swp [(0, 10)] (nonce_Counter_Take_m ((x3.2.2).1) ((x3.2.2).2.1) ((x3.2.2).2.2)) (.cons (.addr rfl 0) .nil) (.cons rfl (.same (by first | rfl | (simp only [T.ids, idsL, er_ids, List.append_nil, List.nil_append] <;> rfl))) .nil) rfl (.same (by first | rfl | (simp only [T.ids, idsL, er_ids, List.append_nil, List.nil_append] <;> rfl))) (.cons rfl (.same (by first | rfl | (simp only [T.ids, idsL, er_ids, List.append_nil, List.nil_append] <;> rfl))) .nil) : Meets Tryd.prog 27 [.addr 10 0] [(10, [t64 ((x3.2.2).1), t64 ((x3.2.2).2.1), t64 ((x3.2.2).2.2)])] [10] (.tup [t64 ((nonce_Counter_Take ((x3.2.2).1) ((x3.2.2).2.1) ((x3.2.2).2.2)).1), er 82 ((nonce_Counter_Take ((x3.2.2).1) ((x3.2.2).2.1) ((x3.2.2).2.2)).2.1)]) [(10, [t64 (((nonce_Counter_Take ((x3.2.2).1) ((x3.2.2).2.1) ((x3.2.2).2.2)).2.2).1), t64 (((nonce_Counter_Take ((x3.2.2).1) ((x3.2.2).2.1) ((x3.2.2).2.2)).2.2).2.1), t64 (((nonce_Counter_Take ((x3.2.2).1) ((x3.2.2).2.1) ((x3.2.2).2.2)).2.2).2.2)])]) (.cons (by first | rfl | (simp only [T.ids, idsL, er_ids, List.append_nil, List.nil_append]; rfl) : subN (idsL [.addr 10 0]) [10] = true) (.cons (by first | rfl | (simp only [T.ids, idsL, er_ids, List.append_nil, List.nil_append]; rfl) : subN (idsL [t64 ((x3.2.2).1), t64 ((x3.2.2).2.1), t64 ((x3.2.2).2.2)]) [10] = true) .nil))) ?_
        clear hk; intro k hk
        refine Go.bnd (Pf := (PostX Γ bursarylaw18_sure_enc)) (v := (nonce_Counter_Take ((x3.2.2).1) ((x3.2.2).2.1) ((x3.2.2).2.2))) (fun x4 => [(1, .addr 10 0), (4, er 82 x2.2.1), (5, t64 x3.1), (6, er 82 x3.2.1), (7, t64 x4.1), (8, er 82 x4.2.1)]) (fun x4 => [(10, [t64 ((x4.2.2).1), t64 ((x4.2.2).2.1), t64 ((x4.2.2).2.2)])]) ?_
        intro x4 hx4
        refine Go.rx 20 { ws := [(1, { call := some { ids := [10], S := [10], M := [], R := .tup [t64 ((nonce_Counter_Extend ((x4.2.2).1) ((x4.2.2).2.1) ((x4.2.2).2.2)).1), er 82 ((nonce_Counter_Extend ((x4.2.2).1) ((x4.2.2).2.1) ((x4.2.2).2.2)).2.1)], H' := [(10, [t64 (((nonce_Counter_Extend ((x4.2.2).1) ((x4.2.2).2.1) ((x4.2.2).2.2)).2.2).1), t64 (((nonce_Counter_Extend ((x4.2.2).1) ((x4.2.2).2.1) ((x4.2.2).2.2)).2.2).2.1), t64 (((nonce_Counter_Extend ((x4.2.2).1) ((x4.2.2).2.1) ((x4.2.2).2.2)).2.2).2.2)])] } })] } [] [1, 4, 5, 6, 7, 8, 10] _ [(1, .addr 10 0), (4, er 82 x2.2.1), (5, t64 x3.1), (6, er 82 x3.2.1), (7, t64 x4.1), (8, er 82 x4.2.1), (10, er 82 ((nonce_Counter_Extend ((x4.2.2).1) ((x4.2.2).2.1) ((x4.2.2).2.2)).2.1))] [(10, [t64 (((nonce_Counter_Extend ((x4.2.2).1) ((x4.2.2).2.1) ((x4.2.2).2.2)).2.2).1), t64 (((nonce_Counter_Extend ((x4.2.2).1) ((x4.2.2).2.1) ((x4.2.2).2.2)).2.2).2.1), t64 (((nonce_Counter_Extend ((x4.2.2).1) ((x4.2.2).2.1) ((x4.2.2).2.2)).2.2).2.2)])] hk rfl (by as_aux_lemma => kernel_rfl) (.cons (Meets.swp [(0, 10)] (nonce_Counter_Extend_m ((x4.2.2).1) ((x4.2.2).2.1) ((x4.2.2).2.2)) (.cons (.addr rfl 0) .nil) (.cons rfl (.same (by first | rfl | (simp only [T.ids, idsL, er_ids, List.append_nil, List.nil_append] <;> rfl))) .nil) rfl (.same (by first | rfl | (simp only [T.ids, idsL, er_ids, List.append_nil, List.nil_append] <;> rfl))) (.cons rfl (.same (by first | rfl | (simp only [T.ids, idsL, er_ids, List.append_nil, List.nil_append] <;> rfl))) .nil) : Meets Tryd.prog 28 [.addr 10 0] [(10, [t64 ((x4.2.2).1), t64 ((x4.2.2).2.1), t64 ((x4.2.2).2.2)])] [10] (.tup [t64 ((nonce_Counter_Extend ((x4.2.2).1) ((x4.2.2).2.1) ((x4.2.2).2.2)).1), er 82 ((nonce_Counter_Extend ((x4.2.2).1) ((x4.2.2).2.1) ((x4.2.2).2.2)).2.1)]) [(10, [t64 (((nonce_Counter_Extend ((x4.2.2).1) ((x4.2.2).2.1) ((x4.2.2).2.2)).2.2).1), t64 (((nonce_Counter_Extend ((x4.2.2).1) ((x4.2.2).2.1) ((x4.2.2).2.2)).2.2).2.1), t64 (((nonce_Counter_Extend ((x4.2.2).1) ((x4.2.2).2.1) ((x4.2.2).2.2)).2.2).2.2)])]) (.cons (by first | rfl | (simp only [T.ids, idsL, er_ids, List.append_nil, List.nil_append]; rfl) : subN (idsL [.addr 10 0]) [10] = true) (.cons (by first | rfl | (simp only [T.ids, idsL, er_ids, List.append_nil, List.nil_append]; rfl) : subN (idsL [t64 ((x4.2.2).1), t64 ((x4.2.2).2.1), t64 ((x4.2.2).2.2)]) [10] = true) .nil))) ?_
        clear hk; intro k hk
        refine Go.bnd (Pf := (PostX Γ bursarylaw18_sure_enc)) (v := (nonce_Counter_Extend ((x4.2.2).1) ((x4.2.2).2.1) ((x4.2.2).2.2))) (fun x5 => [(1, .addr 10 0), (4, er 82 x2.2.1), (5, t64 x3.1), (6, er 82 x3.2.1), (7, t64 x4.1), (8, er 82 x4.2.1), (10, er 82 x5.2.1)]) (fun x5 => [(10, [t64 ((x5.2.2).1), t64 ((x5.2.2).2.1), t64 ((x5.2.2).2.2)])]) ?_
        intro x5 hx5
        refine Go.regJ 20 [(0, tb (((id x2.2.1) == 2) && ((decide (x3.2.1 = 0)) && ((x3.1 == 10) && ((decide (x4.2.1 = 0)) && ((x4.1 == 3) && (((id x5.2.1) == 8) && ((((nonce_Counter_Left ((x5.2.2).1) ((x5.2.2).2.1) ((x5.2.2).2.2)).1) == 6) && ((nonce_Bytes 1 2) == [0, 0, 0, 1, 0, 0, 0, 0, 0, 0, 0, 2])))))))))] [] hk rfl ?_ ?_
        · clear hk; intro k hk
          refine Go.bnd (Pf := (PostX Γ bursarylaw18_sure_enc)) (v := (id x2.2.1)) (fun x6 => [(0, tb ((x6 == 2) && ((decide (x3.2.1 = 0)) && ((x3.1 == 10) && ((decide (x4.2.1 = 0)) && ((x4.1 == 3) && (((id x5.2.1) == 8) && ((((nonce_Counter_Left ((x5.2.2).1) ((x5.2.2).2.1) ((x5.2.2).2.2)).1) == 6) && ((nonce_Bytes 1 2) == [0, 0, 0, 1, 0, 0, 0, 0, 0, 0, 0, 2])))))))))]) (fun x6 => []) ?_
          intro x6 hx6
          refine Go.bnd (Pf := (PostX Γ bursarylaw18_sure_enc)) (v := (id x5.2.1)) (fun x7 => [(0, tb ((x6 == 2) && ((decide (x3.2.1 = 0)) && ((x3.1 == 10) && ((decide (x4.2.1 = 0)) && ((x4.1 == 3) && ((x7 == 8) && ((((nonce_Counter_Left ((x5.2.2).1) ((x5.2.2).2.1) ((x5.2.2).2.2)).1) == 6) && ((nonce_Bytes 1 2) == [0, 0, 0, 1, 0, 0, 0, 0, 0, 0, 0, 2])))))))))]) (fun x7 => []) ?_
          intro x7 hx7
          refine Go.bnd (Pf := (PostX Γ bursarylaw18_sure_enc)) (v := (nonce_Counter_Left ((x5.2.2).1) ((x5.2.2).2.1) ((x5.2.2).2.2))) (fun x8 => [(0, tb ((x6 == 2) && ((decide (x3.2.1 = 0)) && ((x3.1 == 10) && ((decide (x4.2.1 = 0)) && ((x4.1 == 3) && ((x7 == 8) && (((x8.1) == 6) && ((nonce_Bytes 1 2) == [0, 0, 0, 1, 0, 0, 0, 0, 0, 0, 0, 2])))))))))]) (fun x8 => []) ?_
          intro x8 hx8
          refine Go.bnd (Pf := (PostX Γ bursarylaw18_sure_enc)) (v := (nonce_Bytes 1 2)) (fun x9 => [(0, tb ((x6 == 2) && ((decide (x3.2.1 = 0)) && ((x3.1 == 10) && ((decide (x4.2.1 = 0)) && ((x4.1 == 3) && ((x7 == 8) && (((x8.1) == 6) && (x9 == [0, 0, 0, 1, 0, 0, 0, 0, 0, 0, 0, 2])))))))))]) (fun x9 => []) ?_
          intro x9 hx9
          exact Go.lvx 20 [] _ [tb ((x6 == 2) && ((decide (x3.2.1 = 0)) && ((x3.1 == 10) && ((decide (x4.2.1 = 0)) && ((x4.1 == 3) && ((x7 == 8) && (((x8.1) == 6) && (x9 == [0, 0, 0, 1, 0, 0, 0, 0, 0, 0, 0, 2]))))))))] Tryd.func23 hk rfl (by as_aux_lemma => kernel_rfl) .nil (T.Le.of_eq rfl) rfl rfl .nil
        · intro hk J
          rcases Bool.eq_false_or_eq_true ((id x2.2.1) == 2) with gd2 | gd2
          · have gd2p := eqIt gd2
            rcases Bool.eq_false_or_eq_true (decide (x3.2.1 = 0)) with gd3 | gd3
            · have gd3p := of_decide_eq_true gd3
              rcases Bool.eq_false_or_eq_true (x3.1 == 10) with gd4 | gd4
              · rcases Bool.eq_false_or_eq_true (decide (x4.2.1 = 0)) with gd5 | gd5
                · have gd5p := of_decide_eq_true gd5
                  rcases Bool.eq_false_or_eq_true (x4.1 == 3) with gd6 | gd6
                  · rcases Bool.eq_false_or_eq_true ((id x5.2.1) == 8) with gd7 | gd7
                    · have gd7p := eqIt gd7
                      rcases Bool.eq_false_or_eq_true (((nonce_Counter_Left ((x5.2.2).1) ((x5.2.2).2.1) ((x5.2.2).2.2)).1) == 6) with gd8 | gd8
                      · refine Go.rx 20 { ws := [(1, { call := some { ids := [], S := [], M := [], R := ti (id x2.2.1), H' := [] } }), (2, { v := some (tb true) }), (5, { v := some (tb true), er := some (82, x3.2.1) }), (9, { v := some (tb true) }), (13, { v := some (tb true), er := some (82, x4.2.1) }), (17, { v := some (tb true) }), (21, { call := some { ids := [], S := [], M := [], R := ti (id x5.2.1), H' := [] } }), (22, { v := some (tb true) }), (26, { call := some { ids := [10], S := [10], M := [], R := t64 ((nonce_Counter_Left ((x5.2.2).1) ((x5.2.2).2.1) ((x5.2.2).2.2)).1), H' := [(10, [t64 (((nonce_Counter_Left ((x5.2.2).1) ((x5.2.2).2.1) ((x5.2.2).2.2)).2).1), t64 (((nonce_Counter_Left ((x5.2.2).1) ((x5.2.2).2.1) ((x5.2.2).2.2)).2).2.1), t64 (((nonce_Counter_Left ((x5.2.2).1) ((x5.2.2).2.1) ((x5.2.2).2.2)).2).2.2)])] } }), (27, { v := some (tb true) }), (30, { call := some { ids := [], S := [], M := [], R := .sl 1 .shr (nonce_Bytes 1 2).length (u8s (nonce_Bytes 1 2)), H' := [] } }), (31, { b := (nonce_Bytes 1 2) }), (32, { v := some (tb ((nonce_Bytes 1 2) == [0, 0, 0, 1, 0, 0, 0, 0, 0, 0, 0, 2])) })], ps := [4, 6, 8, 10, 41, 45, 53, 61] } [10] [0] _ [(0, tb ((nonce_Bytes 1 2) == [0, 0, 0, 1, 0, 0, 0, 0, 0, 0, 0, 2]))] [] hk rfl (by as_aux_lemma => kernel_rfl) (.cons (bursarylaw18_num_m x2.2.1) (.cons (by first | rfl | (simp only [T.ids, idsL, er_ids, List.append_nil, List.nil_append]; rfl) : subN (idsL [er 82 x2.2.1]) [] = true) (.cons trivial (.cons (eb gd2) (.cons (⟨rfl, rfl⟩ : (er 82 x3.2.1) = er 82 x3.2.1 ∧ (.leaf .nilIface : T) = .leaf .nilIface) (.cons (eb gd3) (.cons trivial (.cons ((eqB64 x3.1 10).trans (eb gd4)) (.cons (⟨rfl, rfl⟩ : (er 82 x4.2.1) = er 82 x4.2.1 ∧ (.leaf .nilIface : T) = .leaf .nilIface) (.cons (eb gd5) (.cons trivial (.cons ((eqB64 x4.1 3).trans (eb gd6)) (.cons (bursarylaw18_num_m x5.2.1) (.cons (by first | rfl | (simp only [T.ids, idsL, er_ids, List.append_nil, List.nil_append]; rfl) : subN (idsL [er 82 x5.2.1]) [] = true) (.cons trivial (.cons (eb gd7) (.cons (Meets.swp [(0, 10)] (nonce_Counter_Left_m ((x5.2.2).1) ((x5.2.2).2.1) ((x5.2.2).2.2)) (.cons (.addr rfl 0) .nil) (.cons rfl (.same (by first | rfl | (simp only [T.ids, idsL, er_ids, List.append_nil, List.nil_append] <;> rfl))) .nil) rfl (.same (by first | rfl | (simp only [T.ids, idsL, er_ids, List.append_nil, List.nil_append] <;> rfl))) (.cons rfl (.same (by first | rfl | (simp only [T.ids, idsL, er_ids, List.append_nil, List.nil_append] <;> rfl))) .nil) : Meets Tryd.prog 30 [.addr 10 0] [(10, [t64 ((x5.2.2).1), t64 ((x5.2.2).2.1), t64 ((x5.2.2).2.2)])] [10] (t64 ((nonce_Counter_Left ((x5.2.2).1) ((x5.2.2).2.1) ((x5.2.2).2.2)).1)) [(10, [t64 (((nonce_Counter_Left ((x5.2.2).1) ((x5.2.2).2.1) ((x5.2.2).2.2)).2).1), t64 (((nonce_Counter_Left ((x5.2.2).1) ((x5.2.2).2.1) ((x5.2.2).2.2)).2).2.1), t64 (((nonce_Counter_Left ((x5.2.2).1) ((x5.2.2).2.1) ((x5.2.2).2.2)).2).2.2)])]) (.cons (by first | rfl | (simp only [T.ids, idsL, er_ids, List.append_nil, List.nil_append]; rfl) : subN (idsL [.addr 10 0]) [10] = true) (.cons (by first | rfl | (simp only [T.ids, idsL, er_ids, List.append_nil, List.nil_append]; rfl) : subN (idsL [t64 ((x5.2.2).1), t64 ((x5.2.2).2.1), t64 ((x5.2.2).2.2)]) [10] = true) (.cons trivial (.cons ((eqB64 ((nonce_Counter_Left ((x5.2.2).1) ((x5.2.2).2.1) ((x5.2.2).2.2)).1) 6).trans (eb gd8)) (.cons (nonce_Bytes_m 1 2) (.cons (by first | rfl | (simp only [T.ids, idsL, er_ids, List.append_nil, List.nil_append]; rfl) : subN (idsL [t32 1, t64 2]) [] = true) (.cons (rfl : u8s (nonce_Bytes 1 2) = u8s (nonce_Bytes 1 2)) (.cons trivial (.cons (s_eq (nonce_Bytes 1 2) [0, 0, 0, 1, 0, 0, 0, 0, 0, 0, 0, 2]) (.cons (er_mem (i := 10) 82 x2.2.1) (.cons (er_mem (i := 10) 82 x3.2.1) (.cons (er_mem (i := 10) 82 x4.2.1) (.cons (er_mem (i := 10) 82 x5.2.1) (.cons (er_mem (i := 10) 82 x2.2.1) (.cons (er_mem (i := 10) 82 x3.2.1) (.cons (er_mem (i := 10) 82 x4.2.1) (.cons (er_mem (i := 10) 82 x5.2.1) .nil)))))))))))))))))))))))))))))))))) ?_
                        intro k' hk'
                        refine Go.slotEq 0 (tb (((id x2.2.1) == 2) && ((decide (x3.2.1 = 0)) && ((x3.1 == 10) && ((decide (x4.2.1 = 0)) && ((x4.1 == 3) && (((id x5.2.1) == 8) && ((((nonce_Counter_Left ((x5.2.2).1) ((x5.2.2).2.1) ((x5.2.2).2.2)).1) == 6) && ((nonce_Bytes 1 2) == [0, 0, 0, 1, 0, 0, 0, 0, 0, 0, 0, 2]))))))))) rfl (eb (andT gd2 (andT gd3 (andT gd4 (andT gd5 (andT gd6 (andT gd7 (andT gd8 rfl))))))).symm) ?_
                        exact J k' hk'
                      · refine Go.rx 20 { ws := [(1, { call := some { ids := [], S := [], M := [], R := ti (id x2.2.1), H' := [] } }), (2, { v := some (tb true) }), (5, { v := some (tb true), er := some (82, x3.2.1) }), (9, { v := some (tb true) }), (13, { v := some (tb true), er := some (82, x4.2.1) }), (17, { v := some (tb true) }), (21, { call := some { ids := [], S := [], M := [], R := ti (id x5.2.1), H' := [] } }), (22, { v := some (tb true) }), (26, { call := some { ids := [10], S := [10], M := [], R := t64 ((nonce_Counter_Left ((x5.2.2).1) ((x5.2.2).2.1) ((x5.2.2).2.2)).1), H' := [(10, [t64 (((nonce_Counter_Left ((x5.2.2).1) ((x5.2.2).2.1) ((x5.2.2).2.2)).2).1), t64 (((nonce_Counter_Left ((x5.2.2).1) ((x5.2.2).2.1) ((x5.2.2).2.2)).2).2.1), t64 (((nonce_Counter_Left ((x5.2.2).1) ((x5.2.2).2.1) ((x5.2.2).2.2)).2).2.2)])] } }), (27, { v := some (tb false) })], ps := [4, 6, 8, 10, 41, 45, 53, 61] } [10] [0] _ [(0, tb false)] [] hk rfl (by as_aux_lemma => kernel_rfl) (.cons (bursarylaw18_num_m x2.2.1) (.cons (by first | rfl | (simp only [T.ids, idsL, er_ids, List.append_nil, List.nil_append]; rfl) : subN (idsL [er 82 x2.2.1]) [] = true) (.cons trivial (.cons (eb gd2) (.cons (⟨rfl, rfl⟩ : (er 82 x3.2.1) = er 82 x3.2.1 ∧ (.leaf .nilIface : T) = .leaf .nilIface) (.cons (eb gd3) (.cons trivial (.cons ((eqB64 x3.1 10).trans (eb gd4)) (.cons (⟨rfl, rfl⟩ : (er 82 x4.2.1) = er 82 x4.2.1 ∧ (.leaf .nilIface : T) = .leaf .nilIface) (.cons (eb gd5) (.cons trivial (.cons ((eqB64 x4.1 3).trans (eb gd6)) (.cons (bursarylaw18_num_m x5.2.1) (.cons (by first | rfl | (simp only [T.ids, idsL, er_ids, List.append_nil, List.nil_append]; rfl) : subN (idsL [er 82 x5.2.1]) [] = true) (.cons trivial (.cons (eb gd7) (.cons (Meets.swp [(0, 10)] (nonce_Counter_Left_m ((x5.2.2).1) ((x5.2.2).2.1) ((x5.2.2).2.2)) (.cons (.addr rfl 0) .nil) (.cons rfl (.same (by first | rfl | (simp only [T.ids, idsL, er_ids, List.append_nil, List.nil_append] <;> rfl))) .nil) rfl (.same (by first | rfl | (simp only [T.ids, idsL, er_ids, List.append_nil, List.nil_append] <;> rfl))) (.cons rfl (.same (by first | rfl | (simp only [T.ids, idsL, er_ids, List.append_nil, List.nil_append] <;> rfl))) .nil) : Meets Tryd.prog 30 [.addr 10 0] [(10, [t64 ((x5.2.2).1), t64 ((x5.2.2).2.1), t64 ((x5.2.2).2.2)])] [10] (t64 ((nonce_Counter_Left ((x5.2.2).1) ((x5.2.2).2.1) ((x5.2.2).2.2)).1)) [(10, [t64 (((nonce_Counter_Left ((x5.2.2).1) ((x5.2.2).2.1) ((x5.2.2).2.2)).2).1), t64 (((nonce_Counter_Left ((x5.2.2).1) ((x5.2.2).2.1) ((x5.2.2).2.2)).2).2.1), t64 (((nonce_Counter_Left ((x5.2.2).1) ((x5.2.2).2.1) ((x5.2.2).2.2)).2).2.2)])]) (.cons (by first | rfl | (simp only [T.ids, idsL, er_ids, List.append_nil, List.nil_append]; rfl) : subN (idsL [.addr 10 0]) [10] = true) (.cons (by first | rfl | (simp only [T.ids, idsL, er_ids, List.append_nil, List.nil_append]; rfl) : subN (idsL [t64 ((x5.2.2).1), t64 ((x5.2.2).2.1), t64 ((x5.2.2).2.2)]) [10] = true) (.cons trivial (.cons ((eqB64 ((nonce_Counter_Left ((x5.2.2).1) ((x5.2.2).2.1) ((x5.2.2).2.2)).1) 6).trans (eb gd8)) (.cons (er_mem (i := 10) 82 x2.2.1) (.cons (er_mem (i := 10) 82 x3.2.1) (.cons (er_mem (i := 10) 82 x4.2.1) (.cons (er_mem (i := 10) 82 x5.2.1) (.cons (er_mem (i := 10) 82 x2.2.1) (.cons (er_mem (i := 10) 82 x3.2.1) (.cons (er_mem (i := 10) 82 x4.2.1) (.cons (er_mem (i := 10) 82 x5.2.1) .nil))))))))))))))))))))))))))))) ?_
                        intro k' hk'
                        refine Go.slotEq 0 (tb (((id x2.2.1) == 2) && ((decide (x3.2.1 = 0)) && ((x3.1 == 10) && ((decide (x4.2.1 = 0)) && ((x4.1 == 3) && (((id x5.2.1) == 8) && ((((nonce_Counter_Left ((x5.2.2).1) ((x5.2.2).2.1) ((x5.2.2).2.2)).1) == 6) && ((nonce_Bytes 1 2) == [0, 0, 0, 1, 0, 0, 0, 0, 0, 0, 0, 2]))))))))) rfl (eb (andT gd2 (andT gd3 (andT gd4 (andT gd5 (andT gd6 (andT gd7 (andF gd8))))))).symm) ?_
                        exact J k' hk'
                    · have gd7p := eqIf gd7
                      refine Go.rx 20 { ws := [(1, { call := some { ids := [], S := [], M := [], R := ti (id x2.2.1), H' := [] } }), (2, { v := some (tb true) }), (5, { v := some (tb true), er := some (82, x3.2.1) }), (9, { v := some (tb true) }), (13, { v := some (tb true), er := some (82, x4.2.1) }), (17, { v := some (tb true) }), (21, { call := some { ids := [], S := [], M := [], R := ti (id x5.2.1), H' := [] } }), (22, { v := some (tb false) })], ps := [4, 6, 8, 10, 41, 45, 53, 61] } [10] [0] _ [(0, tb false)] [] hk rfl (by as_aux_lemma => kernel_rfl) (.cons (bursarylaw18_num_m x2.2.1) (.cons (by first | rfl | (simp only [T.ids, idsL, er_ids, List.append_nil, List.nil_append]; rfl) : subN (idsL [er 82 x2.2.1]) [] = true) (.cons trivial (.cons (eb gd2) (.cons (⟨rfl, rfl⟩ : (er 82 x3.2.1) = er 82 x3.2.1 ∧ (.leaf .nilIface : T) = .leaf .nilIface) (.cons (eb gd3) (.cons trivial (.cons ((eqB64 x3.1 10).trans (eb gd4)) (.cons (⟨rfl, rfl⟩ : (er 82 x4.2.1) = er 82 x4.2.1 ∧ (.leaf .nilIface : T) = .leaf .nilIface) (.cons (eb gd5) (.cons trivial (.cons ((eqB64 x4.1 3).trans (eb gd6)) (.cons (bursarylaw18_num_m x5.2.1) (.cons (by first | rfl | (simp only [T.ids, idsL, er_ids, List.append_nil, List.nil_append]; rfl) : subN (idsL [er 82 x5.2.1]) [] = true) (.cons trivial (.cons (eb gd7) (.cons (er_mem (i := 10) 82 x2.2.1) (.cons (er_mem (i := 10) 82 x3.2.1) (.cons (er_mem (i := 10) 82 x4.2.1) (.cons (er_mem (i := 10) 82 x5.2.1) (.cons (er_mem (i := 10) 82 x2.2.1) (.cons (er_mem (i := 10) 82 x3.2.1) (.cons (er_mem (i := 10) 82 x4.2.1) (.cons (er_mem (i := 10) 82 x5.2.1) .nil)))))))))))))))))))))))) ?_
                      intro k' hk'
                      refine Go.slotEq 0 (tb (((id x2.2.1) == 2) && ((decide (x3.2.1 = 0)) && ((x3.1 == 10) && ((decide (x4.2.1 = 0)) && ((x4.1 == 3) && (((id x5.2.1) == 8) && ((((nonce_Counter_Left ((x5.2.2).1) ((x5.2.2).2.1) ((x5.2.2).2.2)).1) == 6) && ((nonce_Bytes 1 2) == [0, 0, 0, 1, 0, 0, 0, 0, 0, 0, 0, 2]))))))))) rfl (eb (andT gd2 (andT gd3 (andT gd4 (andT gd5 (andT gd6 (andF gd7)))))).symm) ?_
                      exact J k' hk'
                  · refine Go.rx 20 { ws := [(1, { call := some { ids := [], S := [], M := [], R := ti (id x2.2.1), H' := [] } }), (2, { v := some (tb true) }), (5, { v := some (tb true), er := some (82, x3.2.1) }), (9, { v := some (tb true) }), (13, { v := some (tb true), er := some (82, x4.2.1) }), (17, { v := some (tb false) })], ps := [4, 6, 8, 10, 41, 45, 53] } [10] [0] _ [(0, tb false)] [] hk rfl (by as_aux_lemma => kernel_rfl) (.cons (bursarylaw18_num_m x2.2.1) (.cons (by first | rfl | (simp only [T.ids, idsL, er_ids, List.append_nil, List.nil_append]; rfl) : subN (idsL [er 82 x2.2.1]) [] = true) (.cons trivial (.cons (eb gd2) (.cons (⟨rfl, rfl⟩ : (er 82 x3.2.1) = er 82 x3.2.1 ∧ (.leaf .nilIface : T) = .leaf .nilIface) (.cons (eb gd3) (.cons trivial (.cons ((eqB64 x3.1 10).trans (eb gd4)) (.cons (⟨rfl, rfl⟩ : (er 82 x4.2.1) = er 82 x4.2.1 ∧ (.leaf .nilIface : T) = .leaf .nilIface) (.cons (eb gd5) (.cons trivial (.cons ((eqB64 x4.1 3).trans (eb gd6)) (.cons (er_mem (i := 10) 82 x2.2.1) (.cons (er_mem (i := 10) 82 x3.2.1) (.cons (er_mem (i := 10) 82 x4.2.1) (.cons (er_mem (i := 10) 82 x5.2.1) (.cons (er_mem (i := 10) 82 x2.2.1) (.cons (er_mem (i := 10) 82 x3.2.1) (.cons (er_mem (i := 10) 82 x4.2.1) .nil))))))))))))))))))) ?_
                    intro k' hk'
                    refine Go.slotEq 0 (tb (((id x2.2.1) == 2) && ((decide (x3.2.1 = 0)) && ((x3.1 == 10) && ((decide (x4.2.1 = 0)) && ((x4.1 == 3) && (((id x5.2.1) == 8) && ((((nonce_Counter_Left ((x5.2.2).1) ((x5.2.2).2.1) ((x5.2.2).2.2)).1) == 6) && ((nonce_Bytes 1 2) == [0, 0, 0, 1, 0, 0, 0, 0, 0, 0, 0, 2]))))))))) rfl (eb (andT gd2 (andT gd3 (andT gd4 (andT gd5 (andF gd6))))).symm) ?_
                    exact J k' hk'
                · have gd5p := of_decide_eq_false gd5
                  refine Go.rx 20 { ws := [(1, { call := some { ids := [], S := [], M := [], R := ti (id x2.2.1), H' := [] } }), (2, { v := some (tb true) }), (5, { v := some (tb true), er := some (82, x3.2.1) }), (9, { v := some (tb true) }), (13, { v := some (tb false), er := some (82, x4.2.1) })], ps := [4, 6, 8, 10, 41, 45, 53] } [10] [0] _ [(0, tb false)] [] hk rfl (by as_aux_lemma => kernel_rfl) (.cons (bursarylaw18_num_m x2.2.1) (.cons (by first | rfl | (simp only [T.ids, idsL, er_ids, List.append_nil, List.nil_append]; rfl) : subN (idsL [er 82 x2.2.1]) [] = true) (.cons trivial (.cons (eb gd2) (.cons (⟨rfl, rfl⟩ : (er 82 x3.2.1) = er 82 x3.2.1 ∧ (.leaf .nilIface : T) = .leaf .nilIface) (.cons (eb gd3) (.cons trivial (.cons ((eqB64 x3.1 10).trans (eb gd4)) (.cons (⟨rfl, rfl⟩ : (er 82 x4.2.1) = er 82 x4.2.1 ∧ (.leaf .nilIface : T) = .leaf .nilIface) (.cons (eb gd5) (.cons (er_mem (i := 10) 82 x2.2.1) (.cons (er_mem (i := 10) 82 x3.2.1) (.cons (er_mem (i := 10) 82 x4.2.1) (.cons (er_mem (i := 10) 82 x5.2.1) (.cons (er_mem (i := 10) 82 x2.2.1) (.cons (er_mem (i := 10) 82 x3.2.1) (.cons (er_mem (i := 10) 82 x4.2.1) .nil))))))))))))))))) ?_
                  intro k' hk'
                  refine Go.slotEq 0 (tb (((id x2.2.1) == 2) && ((decide (x3.2.1 = 0)) && ((x3.1 == 10) && ((decide (x4.2.1 = 0)) && ((x4.1 == 3) && (((id x5.2.1) == 8) && ((((nonce_Counter_Left ((x5.2.2).1) ((x5.2.2).2.1) ((x5.2.2).2.2)).1) == 6) && ((nonce_Bytes 1 2) == [0, 0, 0, 1, 0, 0, 0, 0, 0, 0, 0, 2]))))))))) rfl (eb (andT gd2 (andT gd3 (andT gd4 (andF gd5)))).symm) ?_
                  exact J k' hk'
              · refine Go.rx 20 { ws := [(1, { call := some { ids := [], S := [], M := [], R := ti (id x2.2.1), H' := [] } }), (2, { v := some (tb true) }), (5, { v := some (tb true), er := some (82, x3.2.1) }), (9, { v := some (tb false) })], ps := [4, 6, 8, 10, 41, 45] } [10] [0] _ [(0, tb false)] [] hk rfl (by as_aux_lemma => kernel_rfl) (.cons (bursarylaw18_num_m x2.2.1) (.cons (by first | rfl | (simp only [T.ids, idsL, er_ids, List.append_nil, List.nil_append]; rfl) : subN (idsL [er 82 x2.2.1]) [] = true) (.cons trivial (.cons (eb gd2) (.cons (⟨rfl, rfl⟩ : (er 82 x3.2.1) = er 82 x3.2.1 ∧ (.leaf .nilIface : T) = .leaf .nilIface) (.cons (eb gd3) (.cons trivial (.cons ((eqB64 x3.1 10).trans (eb gd4)) (.cons (er_mem (i := 10) 82 x2.2.1) (.cons (er_mem (i := 10) 82 x3.2.1) (.cons (er_mem (i := 10) 82 x4.2.1) (.cons (er_mem (i := 10) 82 x5.2.1) (.cons (er_mem (i := 10) 82 x2.2.1) (.cons (er_mem (i := 10) 82 x3.2.1) .nil)))))))))))))) ?_
                intro k' hk'
                refine Go.slotEq 0 (tb (((id x2.2.1) == 2) && ((decide (x3.2.1 = 0)) && ((x3.1 == 10) && ((decide (x4.2.1 = 0)) && ((x4.1 == 3) && (((id x5.2.1) == 8) && ((((nonce_Counter_Left ((x5.2.2).1) ((x5.2.2).2.1) ((x5.2.2).2.2)).1) == 6) && ((nonce_Bytes 1 2) == [0, 0, 0, 1, 0, 0, 0, 0, 0, 0, 0, 2]))))))))) rfl (eb (andT gd2 (andT gd3 (andF gd4))).symm) ?_
                exact J k' hk'
            · have gd3p := of_decide_eq_false gd3
              refine Go.rx 20 { ws := [(1, { call := some { ids := [], S := [], M := [], R := ti (id x2.2.1), H' := [] } }), (2, { v := some (tb true) }), (5, { v := some (tb false), er := some (82, x3.2.1) })], ps := [4, 6, 8, 10, 41, 45] } [10] [0] _ [(0, tb false)] [] hk rfl (by as_aux_lemma => kernel_rfl) (.cons (bursarylaw18_num_m x2.2.1) (.cons (by first | rfl | (simp only [T.ids, idsL, er_ids, List.append_nil, List.nil_append]; rfl) : subN (idsL [er 82 x2.2.1]) [] = true) (.cons trivial (.cons (eb gd2) (.cons (⟨rfl, rfl⟩ : (er 82 x3.2.1) = er 82 x3.2.1 ∧ (.leaf .nilIface : T) = .leaf .nilIface) (.cons (eb gd3) (.cons (er_mem (i := 10) 82 x2.2.1) (.cons (er_mem (i := 10) 82 x3.2.1) (.cons (er_mem (i := 10) 82 x4.2.1) (.cons (er_mem (i := 10) 82 x5.2.1) (.cons (er_mem (i := 10) 82 x2.2.1) (.cons (er_mem (i := 10) 82 x3.2.1) .nil)))))))))))) ?_
              intro k' hk'
              refine Go.slotEq 0 (tb (((id x2.2.1) == 2) && ((decide (x3.2.1 = 0)) && ((x3.1 == 10) && ((decide (x4.2.1 = 0)) && ((x4.1 == 3) && (((id x5.2.1) == 8) && ((((nonce_Counter_Left ((x5.2.2).1) ((x5.2.2).2.1) ((x5.2.2).2.2)).1) == 6) && ((nonce_Bytes 1 2) == [0, 0, 0, 1, 0, 0, 0, 0, 0, 0, 0, 2]))))))))) rfl (eb (andT gd2 (andF gd3)).symm) ?_
              exact J k' hk'
          · have gd2p := eqIf gd2
            refine Go.rx 20 { ws := [(1, { call := some { ids := [], S := [], M := [], R := ti (id x2.2.1), H' := [] } }), (2, { v := some (tb false) })], ps := [4, 6, 8, 10, 41] } [10] [0] _ [(0, tb false)] [] hk rfl (by as_aux_lemma => kernel_rfl) (.cons (bursarylaw18_num_m x2.2.1) (.cons (by first | rfl | (simp only [T.ids, idsL, er_ids, List.append_nil, List.nil_append]; rfl) : subN (idsL [er 82 x2.2.1]) [] = true) (.cons trivial (.cons (eb gd2) (.cons (er_mem (i := 10) 82 x2.2.1) (.cons (er_mem (i := 10) 82 x3.2.1) (.cons (er_mem (i := 10) 82 x4.2.1) (.cons (er_mem (i := 10) 82 x5.2.1) (.cons (er_mem (i := 10) 82 x2.2.1) .nil))))))))) ?_
            intro k' hk'
            refine Go.slotEq 0 (tb (((id x2.2.1) == 2) && ((decide (x3.2.1 = 0)) && ((x3.1 == 10) && ((decide (x4.2.1 = 0)) && ((x4.1 == 3) && (((id x5.2.1) == 8) && ((((nonce_Counter_Left ((x5.2.2).1) ((x5.2.2).2.1) ((x5.2.2).2.2)).1) == 6) && ((nonce_Bytes 1 2) == [0, 0, 0, 1, 0, 0, 0, 0, 0, 0, 0, 2]))))))))) rfl (eb (andF gd2).symm) ?_
            exact J k' hk'
    · intro hk J
      rcases Bool.eq_false_or_eq_true (!(decide (x1.2 = 0))) with gd1 | gd1
      · have gd1' : (decide (x1.2 = 0)) = false := ntT gd1
        have gd1'p := of_decide_eq_false gd1'
        refine Go.rx 20 { ws := [(1, { v := some (tb true), er := some (82, x1.2) })] } [] [1, 20] _ [(1, .addr 10 0), (20, tb true)] [(10, [t64 (((x1.1).getD default).1), t64 (((x1.1).getD default).2.1), t64 (((x1.1).getD default).2.2)])] hk rfl (by as_aux_lemma => kernel_rfl) (.cons (⟨rfl, rfl⟩ : (er 82 x1.2) = er 82 x1.2 ∧ (.leaf .nilIface : T) = .leaf .nilIface) (.cons (eb gd1) .nil)) ?_
        intro k' hk'
        refine Go.slotEq 20 (tb (!(decide (x1.2 = 0)))) rfl (eb gd1.symm) ?_
        exact J k' hk'
      · have gd1' : (decide (x1.2 = 0)) = true := ntF gd1
        have gd1'p := of_decide_eq_true gd1'
        refine Go.rx 20 { ws := [(1, { v := some (tb false), er := some (82, x1.2) })] } [] [1, 20] _ [(1, .addr 10 0), (20, tb false)] [(10, [t64 (((x1.1).getD default).1), t64 (((x1.1).getD default).2.1), t64 (((x1.1).getD default).2.2)])] hk rfl (by as_aux_lemma => kernel_rfl) (.cons (⟨rfl, rfl⟩ : (er 82 x1.2) = er 82 x1.2 ∧ (.leaf .nilIface : T) = .leaf .nilIface) (.cons (eb gd1) (.cons (⟨94, by as_aux_lemma => kernel_rfl⟩ : ∃ e, (E.ti 54).k = .ptr e) .nil))) ?_
        intro k' hk'
        refine Go.slotEq 20 (tb (!(decide (x1.2 = 0)))) rfl (eb gd1.symm) ?_
        exact J k' hk'
  · refine Go.rx 20 { ws := [(0, { call := some { ids := [], S := [], M := [], R := .tup [.leaf (.pointer none), er 82 ((nonce_New 3 10).2)], H' := [] } })] } [] [1, 2] _ [(1, .leaf (.pointer none)), (2, er 82 ((nonce_New 3 10).2))] [] hk rfl (by as_aux_lemma => kernel_rfl) (.cons (Meets.swp [] (Meets.optN (i := 10) (g := fun z => [t64 z.1, t64 z.2.1, t64 z.2.2]) (fun q => .tup [q, er 82 ((nonce_New 3 10).2)]) (nonce_New_m 3 10) p1) (.cons (.same (by first | rfl | (simp only [T.ids, idsL, er_ids, List.append_nil, List.nil_append] <;> rfl))) (.cons (.same (by first | rfl | (simp only [T.ids, idsL, er_ids, List.append_nil, List.nil_append] <;> rfl))) .nil)) .nil rfl (.same (by first | rfl | (simp only [T.ids, idsL, er_ids, List.append_nil, List.nil_append] <;> rfl))) .nil : Meets Tryd.prog 32 [t64 3, t64 10] [] [] (.tup [.leaf (.pointer none), er 82 ((nonce_New 3 10).2)]) []) (.cons (by first | rfl | (simp only [T.ids, idsL, er_ids, List.append_nil, List.nil_append]; rfl) : subN (idsL [t64 3, t64 10]) [] = true) .nil)) ?_
    clear hk; intro k hk
    refine Go.bnd (Pf := (PostX Γ bursarylaw18_sure_enc)) (v := (nonce_New 3 10)) (fun x10 => [(1, .leaf (.pointer none)), (2, er 82 x10.2)]) (fun x10 => []) ?_
    intro x10 hx10
    refine Go.regJ 20 [(1, .leaf (.pointer none)), (20, tb true)] [] hk rfl ?_ ?_
    · clear hk; intro k hk
      refine Go.cond 20 hk rfl (t := true) rfl ?_; clear hk; intro k hk
      refine Go.rx 20 {} [] [0] _ [(0, tb false)] [] hk rfl (by as_aux_lemma => kernel_rfl) .nil ?_
      clear hk; intro k hk
      exact Go.lvx 20 [] _ [tb false] Tryd.func23 hk rfl (by as_aux_lemma => kernel_rfl) .nil (T.Le.of_eq rfl) rfl rfl .nil
    · intro hk J
      rcases Bool.eq_false_or_eq_true (!(decide (x10.2 = 0))) with gd9 | gd9
      · have gd9' : (decide (x10.2 = 0)) = false := ntT gd9
        have gd9'p := of_decide_eq_false gd9'
        refine Go.rx 20 { ws := [(1, { v := some (tb true), er := some (82, x10.2) })] } [] [1, 20] _ [(1, .leaf (.pointer none)), (20, tb true)] [] hk rfl (by as_aux_lemma => kernel_rfl) (.cons (⟨rfl, rfl⟩ : (er 82 x10.2) = er 82 x10.2 ∧ (.leaf .nilIface : T) = .leaf .nilIface) (.cons (eb gd9) .nil)) ?_
        intro k' hk'
        exact J k' hk'
      · have gd9' : (decide (x10.2 = 0)) = true := ntF gd9
        have gd9'p := of_decide_eq_true gd9'
        refine Go.rx 20 { ws := [(1, { v := some (tb false), er := some (82, x10.2) })] } [] [1, 20] _ [(1, .leaf (.pointer none)), (20, tb true)] [] hk rfl (by as_aux_lemma => kernel_rfl) (.cons (⟨rfl, rfl⟩ : (er 82 x10.2) = er 82 x10.2 ∧ (.leaf .nilIface : T) = .leaf .nilIface) (.cons (eb gd9) (.cons (⟨94, by as_aux_lemma => kernel_rfl⟩ : ∃ e, (E.ti 54).k = .ptr e) .nil))) ?_
        intro k' hk'
        exact J k' hk'
noncomputable def bursarylaw18_NonceBytes (a0 : List UInt8) (a10 : UInt32) (a11 : UInt32) (a20 : UInt64) (a21 : UInt64) : Bool :=
  bif decide ((a0.length : Int) > 100) then
    bursarylaw18_sure
  else
    bnd (nonce_Parse a0) fun x1 =>
    bif (a0.length : Int) != 12 then
      bnd (id x1.2.2) fun x2 =>
      bif (x2 != 4) || ((x1.1 != 0) || (x1.2.1 != 0)) then
        false
      else
        bnd (nonce_Bytes a10 a20) fun x3 =>
        bnd (nonce_Bytes a11 a21) fun x4 =>
        bif a10 == a11 then ((x3 == x4) == (a20 == a21)) && (((x3.length : Int) == 12) && bursarylaw18_sure) else ((x3 == x4) == false) && (((x3.length : Int) == 12) && bursarylaw18_sure)
    else
      bnd (nonce_Bytes x1.1 x1.2.1) fun x5 =>
      bif (!(decide (x1.2.2 = 0))) || (x5 != a0) then
        false
      else
        bnd (nonce_Bytes a10 a20) fun x6 =>
        bnd (nonce_Bytes a11 a21) fun x7 =>
        bif a10 == a11 then ((x6 == x7) == (a20 == a21)) && (((x6.length : Int) == 12) && bursarylaw18_sure) else ((x6 == x7) == false) && (((x6.length : Int) == 12) && bursarylaw18_sure)
def bursarylaw18_NonceBytes_enc (x : Bool) : T × List (Nat × List T) := (tb x, [])
theorem bursarylaw18_NonceBytes_m {g_a0 : Tag} (a0 : List UInt8) (a10 : UInt32) (a11 : UInt32) (a20 : UInt64) (a21 : UInt64) : Meets Tryd.prog 6 [.sl 1 g_a0 a0.length (u8s a0), .agg [t32 a10, t32 a11], .agg [t64 a20, t64 a21]] [] [] (tb (bursarylaw18_NonceBytes a0 a10 a11 a20 a21)) [] := by
  refine Meets.enterX (E := E) (N := 83) (enc := bursarylaw18_NonceBytes_enc) (x := (bursarylaw18_NonceBytes a0 a10 a11 a20 a21)) Tryd.func6 Tryd.call6 rfl rfl ?_
  intro Γ k hk
  refine Go.rx 20 { ws := [(0, { id := 10 }), (1, { id := 11 })] } [] [0, 4, 5] _ [(0, .sl 1 g_a0 a0.length (u8s a0)), (4, .addr 10 0), (5, .addr 11 0)] [(10, [t32 a10, t32 a11]), (11, [t64 a20, t64 a21])] hk rfl (by as_aux_lemma => kernel_rfl) .nil ?_
  clear hk; intro k hk
  refine Go.rx 20 {} [] [0, 4, 5, 14] _ [(0, .sl 1 g_a0 a0.length (u8s a0)), (4, .addr 10 0), (5, .addr 11 0), (14, tb (decide ((a0.length : Int) > 100)))] [(10, [t32 a10, t32 a11]), (11, [t64 a20, t64 a21])] hk rfl (by as_aux_lemma => kernel_rfl) (.cons trivial .nil) ?_
  clear hk; intro k hk
  refine Go.br 20 (Pf := (PostX Γ bursarylaw18_NonceBytes_enc)) hk rfl rfl ?_ ?_ <;> clear hk <;> intro ct1 k hk
  · have ct1p := of_decide_eq_true ct1
    refine Go.rx 20 { ws := [(0, { call := some { ids := [], S := [], M := [], R := tb bursarylaw18_sure, H' := [] } })] } [10, 11] [6] _ [(6, tb bursarylaw18_sure)] [] hk rfl (by as_aux_lemma => kernel_rfl) (.cons (bursarylaw18_sure_m) (.cons (by first | rfl | (simp only [T.ids, idsL, er_ids, List.append_nil, List.nil_append]; rfl) : subN (idsL []) [] = true) .nil)) ?_
    clear hk; intro k hk
    exact Go.lvx 20 [] _ [tb bursarylaw18_sure] Tryd.func6 hk rfl (by as_aux_lemma => kernel_rfl) .nil (T.Le.of_eq rfl) rfl rfl .nil
  · have ct1p := of_decide_eq_false ct1
    refine Go.rx 20 { ws := [(1, { call := some { ids := [], S := [], M := [], R := .tup [t32 ((nonce_Parse a0).1), t64 ((nonce_Parse a0).2.1), er 82 ((nonce_Parse a0).2.2)], H' := [] } })] } [] [0, 4, 5, 7, 8, 9] _ [(0, .sl 1 g_a0 a0.length (u8s a0)), (4, .addr 10 0), (5, .addr 11 0), (7, t32 ((nonce_Parse a0).1)), (8, t64 ((nonce_Parse a0).2.1)), (9, er 82 ((nonce_Parse a0).2.2))] [(10, [t32 a10, t32 a11]), (11, [t64 a20, t64 a21])] hk rfl (by as_aux_lemma => kernel_rfl) (.cons (nonce_Parse_m (g_b := g_a0) a0) (.cons (by first | rfl | (simp only [T.ids, idsL, er_ids, List.append_nil, List.nil_append]; rfl) : subN (idsL [.sl 1 g_a0 a0.length (u8s a0)]) [] = true) .nil)) ?_
    clear hk; intro k hk
    refine Go.bnd (Pf := (PostX Γ bursarylaw18_NonceBytes_enc)) (v := (nonce_Parse a0)) (fun x1 => [(0, .sl 1 g_a0 a0.length (u8s a0)), (4, .addr 10 0), (5, .addr 11 0), (7, t32 x1.1), (8, t64 x1.2.1), (9, er 82 x1.2.2)]) (fun x1 => [(10, [t32 a10, t32 a11]), (11, [t64 a20, t64 a21])]) ?_
    intro x1 hx1
    refine Go.rx 20 {} [] [0, 4, 5, 7, 8, 9, 24] _ [(0, .sl 1 g_a0 a0.length (u8s a0)), (4, .addr 10 0), (5, .addr 11 0), (7, t32 x1.1), (8, t64 x1.2.1), (9, er 82 x1.2.2), (24, tb ((a0.length : Int) != 12))] [(10, [t32 a10, t32 a11]), (11, [t64 a20, t64 a21])] hk rfl (by as_aux_lemma => kernel_rfl) (.cons trivial .nil) ?_
    clear hk; intro k hk
    refine Go.br 20 (Pf := (PostX Γ bursarylaw18_NonceBytes_enc)) hk rfl rfl ?_ ?_ <;> clear hk <;> intro ct2 k hk
    · have ct2p := neIt ct2
      refine Go.regJ 20 [(4, .addr 10 0), (5, .addr 11 0), (35, tb (((id x1.2.2) != 4) || ((x1.1 != 0) || (x1.2.1 != 0))))] [(10, [t32 a10, t32 a11]), (11, [t64 a20, t64 a21])] hk rfl ?_ ?_
      · clear hk; intro k hk
        refine Go.bnd (Pf := (PostX Γ bursarylaw18_NonceBytes_enc)) (v := (id x1.2.2)) (fun x2 => [(4, .addr 10 0), (5, .addr 11 0), (35, tb ((x2 != 4) || ((x1.1 != 0) || (x1.2.1 != 0))))]) (fun x2 => [(10, [t32 a10, t32 a11]), (11, [t64 a20, t64 a21])]) ?_
        intro x2 hx2
        refine Go.br 20 (Pf := (PostX Γ bursarylaw18_NonceBytes_enc)) hk rfl rfl ?_ ?_ <;> clear hk <;> intro ct3 k hk
        · refine Go.rx 20 {} [10, 11] [6] _ [(6, tb false)] [] hk rfl (by as_aux_lemma => kernel_rfl) .nil ?_
          clear hk; intro k hk
          exact Go.lvx 20 [] _ [tb false] Tryd.func6 hk rfl (by as_aux_lemma => kernel_rfl) .nil (T.Le.of_eq rfl) rfl rfl .nil
        · have ct31 : (x2 != 4) = false := (Bool.or_eq_false_iff.1 ct3).1
          have ct32 : ((x1.1 != 0) || (x1.2.1 != 0)) = false := (Bool.or_eq_false_iff.1 ct3).2
          have ct31p := neIf ct31
          have ct321 : (x1.1 != 0) = false := (Bool.or_eq_false_iff.1 ct32).1
          have ct322 : (x1.2.1 != 0) = false := (Bool.or_eq_false_iff.1 ct32).2
          refine Go.dx 20 [0, 1, 2, 3, 4, 5, 6, 7, 8, 9, 10, 11] { ws := [(4, { call := some { ids := [], S := [], M := [], R := .sl 1 .shr (nonce_Bytes a10 a20).length (u8s (nonce_Bytes a10 a20)), H' := [] } }), (9, { call := some { ids := [], S := [], M := [], R := .sl 1 .shr (nonce_Bytes a11 a21).length (u8s (nonce_Bytes a11 a21)), H' := [] } })] } [] [4, 5, 10, 11] _ [(4, .addr 10 0), (5, .addr 11 0), (10, .sl 1 .shr (nonce_Bytes a10 a20).length (u8s (nonce_Bytes a10 a20))), (11, .sl 1 .shr (nonce_Bytes a11 a21).length (u8s (nonce_Bytes a11 a21)))] [(10, [t32 a10, t32 a11]), (11, [t64 a20, t64 a21])] hk rfl (by as_aux_lemma => kernel_rfl) (.cons (by decide : 0 ≤ (0 : Int) ∧ (0 : Int) < 2) (.cons (by decide : 0 ≤ (0 : Int) ∧ (0 : Int) < 2) (.cons (nonce_Bytes_m a10 a20) (.cons (by first | rfl | (simp only [T.ids, idsL, er_ids, List.append_nil, List.nil_append]; rfl) : subN (idsL [t32 a10, t64 a20]) [] = true) (.cons (by decide : 0 ≤ (1 : Int) ∧ (1 : Int) < 2) (.cons (by decide : 0 ≤ (1 : Int) ∧ (1 : Int) < 2) (.cons (nonce_Bytes_m a11 a21) (.cons (by first | rfl | (simp only [T.ids, idsL, er_ids, List.append_nil, List.nil_append]; rfl) : subN (idsL [t32 a11, t64 a21]) [] = true) .nil)))))))) ?_
          clear hk; intro k hk
          refine Go.bnd (Pf := (PostX Γ bursarylaw18_NonceBytes_enc)) (v := (nonce_Bytes a10 a20)) (fun x3 => [(4, .addr 10 0), (5, .addr 11 0), (10, .sl 1 .shr x3.length (u8s x3)), (11, .sl 1 .shr (nonce_Bytes a11 a21).length (u8s (nonce_Bytes a11 a21)))]) (fun x3 => [(10, [t32 a10, t32 a11]), (11, [t64 a20, t64 a21])]) ?_
          intro x3 hx3
          refine Go.bnd (Pf := (PostX Γ bursarylaw18_NonceBytes_enc)) (v := (nonce_Bytes a11 a21)) (fun x4 => [(4, .addr 10 0), (5, .addr 11 0), (10, .sl 1 .shr x3.length (u8s x3)), (11, .sl 1 .shr x4.length (u8s x4))]) (fun x4 => [(10, [t32 a10, t32 a11]), (11, [t64 a20, t64 a21])]) ?_
          intro x4 hx4
          refine Go.regJ 20 [(6, tb (bif a10 == a11 then ((x3 == x4) == (a20 == a21)) && (((x3.length : Int) == 12) && bursarylaw18_sure) else ((x3 == x4) == false) && (((x3.length : Int) == 12) && bursarylaw18_sure)))] [] hk rfl ?_ ?_
          · clear hk; intro k hk
            exact Go.lvx 20 [] _ [tb (bif a10 == a11 then ((x3 == x4) == (a20 == a21)) && (((x3.length : Int) == 12) && bursarylaw18_sure) else ((x3 == x4) == false) && (((x3.length : Int) == 12) && bursarylaw18_sure))] Tryd.func6 hk rfl (by as_aux_lemma => kernel_rfl) .nil (T.Le.of_eq rfl) rfl rfl .nil
          · intro hk J
            rcases Bool.eq_false_or_eq_true (a10 == a11) with gd3 | gd3
            · rcases Bool.eq_false_or_eq_true ((x3 == x4) == (a20 == a21)) with gd4 | gd4
              · rcases Bool.eq_false_or_eq_true ((x3.length : Int) == 12) with gd5 | gd5
                · have gd5p := eqIt gd5
                  refine Go.rx 20 { ws := [(1, { b := x3 }), (3, { b := x4 }), (4, { v := some (tb (x3 == x4)) }), (9, { v := some (tb true) }), (15, { v := some (tb (a20 == a21)) }), (17, { v := some (tb true) }), (21, { v := some (tb true) }), (24, { call := some { ids := [], S := [], M := [], R := tb bursarylaw18_sure, H' := [] } })] } [10, 11] [6] _ [(6, tb bursarylaw18_sure)] [] hk rfl (by as_aux_lemma => kernel_rfl) (.cons (rfl : u8s x3 = u8s x3) (.cons (rfl : u8s x4 = u8s x4) (.cons trivial (.cons (s_eq x3 x4) (.cons (by decide : 0 ≤ (0 : Int) ∧ (0 : Int) < 2) (.cons (by decide : 0 ≤ (1 : Int) ∧ (1 : Int) < 2) (.cons trivial (.cons ((eqB32 a10 a11).trans (eb gd3)) (.cons (by decide : 0 ≤ (0 : Int) ∧ (0 : Int) < 2) (.cons (by decide : 0 ≤ (1 : Int) ∧ (1 : Int) < 2) (.cons trivial (.cons (eqB64 a20 a21) (.cons (eb gd4) (.cons trivial (.cons (eb gd5) (.cons (bursarylaw18_sure_m) (.cons (by first | rfl | (simp only [T.ids, idsL, er_ids, List.append_nil, List.nil_append]; rfl) : subN (idsL []) [] = true) .nil))))))))))))))))) ?_
                  intro k' hk'
                  refine Go.slotEq 6 (tb (bif a10 == a11 then ((x3 == x4) == (a20 == a21)) && (((x3.length : Int) == 12) && bursarylaw18_sure) else ((x3 == x4) == false) && (((x3.length : Int) == 12) && bursarylaw18_sure))) rfl (eb ((condT gd3).trans (andT gd4 (andT gd5 rfl))).symm) ?_
                  exact J k' hk'
                · have gd5p := eqIf gd5
                  refine Go.rx 20 { ws := [(1, { b := x3 }), (3, { b := x4 }), (4, { v := some (tb (x3 == x4)) }), (9, { v := some (tb true) }), (15, { v := some (tb (a20 == a21)) }), (17, { v := some (tb true) }), (21, { v := some (tb false) })] } [10, 11] [6] _ [(6, tb false)] [] hk rfl (by as_aux_lemma => kernel_rfl) (.cons (rfl : u8s x3 = u8s x3) (.cons (rfl : u8s x4 = u8s x4) (.cons trivial (.cons (s_eq x3 x4) (.cons (by decide : 0 ≤ (0 : Int) ∧ (0 : Int) < 2) (.cons (by decide : 0 ≤ (1 : Int) ∧ (1 : Int) < 2) (.cons trivial (.cons ((eqB32 a10 a11).trans (eb gd3)) (.cons (by decide : 0 ≤ (0 : Int) ∧ (0 : Int) < 2) (.cons (by decide : 0 ≤ (1 : Int) ∧ (1 : Int) < 2) (.cons trivial (.cons (eqB64 a20 a21) (.cons (eb gd4) (.cons trivial (.cons (eb gd5) .nil))))))))))))))) ?_
                  intro k' hk'
                  refine Go.slotEq 6 (tb (bif a10 == a11 then ((x3 == x4) == (a20 == a21)) && (((x3.length : Int) == 12) && bursarylaw18_sure) else ((x3 == x4) == false) && (((x3.length : Int) == 12) && bursarylaw18_sure))) rfl (eb ((condT gd3).trans (andT gd4 (andF gd5))).symm) ?_
                  exact J k' hk'
              · refine Go.rx 20 { ws := [(1, { b := x3 }), (3, { b := x4 }), (4, { v := some (tb (x3 == x4)) }), (9, { v := some (tb true) }), (15, { v := some (tb (a20 == a21)) }), (17, { v := some (tb false) })] } [10, 11] [6] _ [(6, tb false)] [] hk rfl (by as_aux_lemma => kernel_rfl) (.cons (rfl : u8s x3 = u8s x3) (.cons (rfl : u8s x4 = u8s x4) (.cons trivial (.cons (s_eq x3 x4) (.cons (by decide : 0 ≤ (0 : Int) ∧ (0 : Int) < 2) (.cons (by decide : 0 ≤ (1 : Int) ∧ (1 : Int) < 2) (.cons trivial (.cons ((eqB32 a10 a11).trans (eb gd3)) (.cons (by decide : 0 ≤ (0 : Int) ∧ (0 : Int) < 2) (.cons (by decide : 0 ≤ (1 : Int) ∧ (1 : Int) < 2) (.cons trivial (.cons (eqB64 a20 a21) (.cons (eb gd4) .nil))))))))))))) ?_
                intro k' hk'
                refine Go.slotEq 6 (tb (bif a10 == a11 then ((x3 == x4) == (a20 == a21)) && (((x3.length : Int) == 12) && bursarylaw18_sure) else ((x3 == x4) == false) && (((x3.length : Int) == 12) && bursarylaw18_sure))) rfl (eb ((condT gd3).trans (andF gd4)).symm) ?_
                exact J k' hk'
            · rcases Bool.eq_false_or_eq_true ((x3 == x4) == false) with gd6 | gd6
              · rcases Bool.eq_false_or_eq_true ((x3.length : Int) == 12) with gd7 | gd7
                · have gd7p := eqIt gd7
                  refine Go.rx 20 { ws := [(1, { b := x3 }), (3, { b := x4 }), (4, { v := some (tb (x3 == x4)) }), (9, { v := some (tb false) }), (17, { v := some (tb true) }), (21, { v := some (tb true) }), (24, { call := some { ids := [], S := [], M := [], R := tb bursarylaw18_sure, H' := [] } })] } [10, 11] [6] _ [(6, tb bursarylaw18_sure)] [] hk rfl (by as_aux_lemma => kernel_rfl) (.cons (rfl : u8s x3 = u8s x3) (.cons (rfl : u8s x4 = u8s x4) (.cons trivial (.cons (s_eq x3 x4) (.cons (by decide : 0 ≤ (0 : Int) ∧ (0 : Int) < 2) (.cons (by decide : 0 ≤ (1 : Int) ∧ (1 : Int) < 2) (.cons trivial (.cons ((eqB32 a10 a11).trans (eb gd3)) (.cons (eb gd6) (.cons trivial (.cons (eb gd7) (.cons (bursarylaw18_sure_m) (.cons (by first | rfl | (simp only [T.ids, idsL, er_ids, List.append_nil, List.nil_append]; rfl) : subN (idsL []) [] = true) .nil))))))))))))) ?_
                  intro k' hk'
                  refine Go.slotEq 6 (tb (bif a10 == a11 then ((x3 == x4) == (a20 == a21)) && (((x3.length : Int) == 12) && bursarylaw18_sure) else ((x3 == x4) == false) && (((x3.length : Int) == 12) && bursarylaw18_sure))) rfl (eb ((condF gd3).trans (andT gd6 (andT gd7 rfl))).symm) ?_
                  exact J k' hk'
                · have gd7p := eqIf gd7
                  refine Go.rx 20 { ws := [(1, { b := x3 }), (3, { b := x4 }), (4, { v := some (tb (x3 == x4)) }), (9, { v := some (tb false) }), (17, { v := some (tb true) }), (21, { v := some (tb false) })] } [10, 11] [6] _ [(6, tb false)] [] hk rfl (by as_aux_lemma => kernel_rfl) (.cons (rfl : u8s x3 = u8s x3) (.cons (rfl : u8s x4 = u8s x4) (.cons trivial (.cons (s_eq x3 x4) (.cons (by decide : 0 ≤ (0 : Int) ∧ (0 : Int) < 2) (.cons (by decide : 0 ≤ (1 : Int) ∧ (1 : Int) < 2) (.cons trivial (.cons ((eqB32 a10 a11).trans (eb gd3)) (.cons (eb gd6) (.cons trivial (.cons (eb gd7) .nil))))))))))) ?_
                  intro k' hk'
                  refine Go.slotEq 6 (tb (bif a10 == a11 then ((x3 == x4) == (a20 == a21)) && (((x3.length : Int) == 12) && bursarylaw18_sure) else ((x3 == x4) == false) && (((x3.length : Int) == 12) && bursarylaw18_sure))) rfl (eb ((condF gd3).trans (andT gd6 (andF gd7))).symm) ?_
                  exact J k' hk'
              · refine Go.rx 20 { ws := [(1, { b := x3 }), (3, { b := x4 }), (4, { v := some (tb (x3 == x4)) }), (9, { v := some (tb false) }), (17, { v := some (tb false) })] } [10, 11] [6] _ [(6, tb false)] [] hk rfl (by as_aux_lemma => kernel_rfl) (.cons (rfl : u8s x3 = u8s x3) (.cons (rfl : u8s x4 = u8s x4) (.cons trivial (.cons (s_eq x3 x4) (.cons (by decide : 0 ≤ (0 : Int) ∧ (0 : Int) < 2) (.cons (by decide : 0 ≤ (1 : Int) ∧ (1 : Int) < 2) (.cons trivial (.cons ((eqB32 a10 a11).trans (eb gd3)) (.cons (eb gd6) .nil))))))))) ?_
                intro k' hk'
                refine Go.slotEq 6 (tb (bif a10 == a11 then ((x3 == x4) == (a20 == a21)) && (((x3.length : Int) == 12) && bursarylaw18_sure) else ((x3 == x4) == false) && (((x3.length : Int) == 12) && bursarylaw18_sure))) rfl (eb ((condF gd3).trans (andF gd6)).symm) ?_
                exact J k' hk'
      · intro hk J
        rcases Bool.eq_false_or_eq_true ((id x1.2.2) != 4) with gd1 | gd1
        · have gd1p := neIt gd1
          refine Go.rx 20 { ws := [(1, { call := some { ids := [], S := [], M := [], R := ti (id x1.2.2), H' := [] } }), (2, { v := some (tb true) })] } [] [4, 5, 35] _ [(4, .addr 10 0), (5, .addr 11 0), (35, tb true)] [(10, [t32 a10, t32 a11]), (11, [t64 a20, t64 a21])] hk rfl (by as_aux_lemma => kernel_rfl) (.cons (bursarylaw18_num_m x1.2.2) (.cons (by first | rfl | (simp only [T.ids, idsL, er_ids, List.append_nil, List.nil_append]; rfl) : subN (idsL [er 82 x1.2.2]) [] = true) (.cons trivial (.cons (eb gd1) .nil)))) ?_
          intro k' hk'
          refine Go.slotEq 35 (tb (((id x1.2.2) != 4) || ((x1.1 != 0) || (x1.2.1 != 0)))) rfl (eb (orT gd1).symm) ?_
          exact J k' hk'
        · have gd1p := neIf gd1
          rcases Bool.eq_false_or_eq_true (x1.1 != 0) with gd2 | gd2
          · refine Go.rx 20 { ws := [(1, { call := some { ids := [], S := [], M := [], R := ti (id x1.2.2), H' := [] } }), (2, { v := some (tb false) }), (5, { v := some (tb true) })] } [] [4, 5, 35] _ [(4, .addr 10 0), (5, .addr 11 0), (35, tb true)] [(10, [t32 a10, t32 a11]), (11, [t64 a20, t64 a21])] hk rfl (by as_aux_lemma => kernel_rfl) (.cons (bursarylaw18_num_m x1.2.2) (.cons (by first | rfl | (simp only [T.ids, idsL, er_ids, List.append_nil, List.nil_append]; rfl) : subN (idsL [er 82 x1.2.2]) [] = true) (.cons trivial (.cons (eb gd1) (.cons trivial (.cons ((neB32 x1.1 0).trans (eb gd2)) .nil)))))) ?_
            intro k' hk'
            refine Go.slotEq 35 (tb (((id x1.2.2) != 4) || ((x1.1 != 0) || (x1.2.1 != 0)))) rfl (eb (orF gd1 (orT gd2)).symm) ?_
            exact J k' hk'
          · refine Go.rx 20 { ws := [(1, { call := some { ids := [], S := [], M := [], R := ti (id x1.2.2), H' := [] } }), (2, { v := some (tb false) }), (5, { v := some (tb false) }), (9, { v := some (tb (x1.2.1 != 0)) })] } [] [4, 5, 35] _ [(4, .addr 10 0), (5, .addr 11 0), (35, tb (x1.2.1 != 0))] [(10, [t32 a10, t32 a11]), (11, [t64 a20, t64 a21])] hk rfl (by as_aux_lemma => kernel_rfl) (.cons (bursarylaw18_num_m x1.2.2) (.cons (by first | rfl | (simp only [T.ids, idsL, er_ids, List.append_nil, List.nil_append]; rfl) : subN (idsL [er 82 x1.2.2]) [] = true) (.cons trivial (.cons (eb gd1) (.cons trivial (.cons ((neB32 x1.1 0).trans (eb gd2)) (.cons trivial (.cons (neB64 x1.2.1 0) .nil)))))))) ?_
            intro k' hk'
            refine Go.slotEq 35 (tb (((id x1.2.2) != 4) || ((x1.1 != 0) || (x1.2.1 != 0)))) rfl (eb (orF gd1 (orF gd2 rfl)).symm) ?_
            exact J k' hk'
    · have ct2p := neIf ct2
      refine Go.regJ 20 [(4, .addr 10 0), (5, .addr 11 0), (46, tb ((!(decide (x1.2.2 = 0))) || ((nonce_Bytes x1.1 x1.2.1) != a0)))] [(10, [t32 a10, t32 a11]), (11, [t64 a20, t64 a21])] hk rfl ?_ ?_
      · clear hk; intro k hk
        refine Go.bnd (Pf := (PostX Γ bursarylaw18_NonceBytes_enc)) (v := (nonce_Bytes x1.1 x1.2.1)) (fun x5 => [(4, .addr 10 0), (5, .addr 11 0), (46, tb ((!(decide (x1.2.2 = 0))) || (x5 != a0)))]) (fun x5 => [(10, [t32 a10, t32 a11]), (11, [t64 a20, t64 a21])]) ?_
        intro x5 hx5
        refine Go.br 20 (Pf := (PostX Γ bursarylaw18_NonceBytes_enc)) hk rfl rfl ?_ ?_ <;> clear hk <;> intro ct4 k hk
        · refine Go.rx 20 {} [10, 11] [6] _ [(6, tb false)] [] hk rfl (by as_aux_lemma => kernel_rfl) .nil ?_
          clear hk; intro k hk
          exact Go.lvx 20 [] _ [tb false] Tryd.func6 hk rfl (by as_aux_lemma => kernel_rfl) .nil (T.Le.of_eq rfl) rfl rfl .nil
        · have ct41 : (!(decide (x1.2.2 = 0))) = false := (Bool.or_eq_false_iff.1 ct4).1
          have ct42 : (x5 != a0) = false := (Bool.or_eq_false_iff.1 ct4).2
          have ct41' : (decide (x1.2.2 = 0)) = true := ntF ct41
          have ct41'p := of_decide_eq_true ct41'
          refine Go.dx 20 [0, 1, 2, 3, 4, 5, 6, 7, 8, 9, 10, 11] { ws := [(4, { call := some { ids := [], S := [], M := [], R := .sl 1 .shr (nonce_Bytes a10 a20).length (u8s (nonce_Bytes a10 a20)), H' := [] } }), (9, { call := some { ids := [], S := [], M := [], R := .sl 1 .shr (nonce_Bytes a11 a21).length (u8s (nonce_Bytes a11 a21)), H' := [] } })] } [] [4, 5, 10, 11] _ [(4, .addr 10 0), (5, .addr 11 0), (10, .sl 1 .shr (nonce_Bytes a10 a20).length (u8s (nonce_Bytes a10 a20))), (11, .sl 1 .shr (nonce_Bytes a11 a21).length (u8s (nonce_Bytes a11 a21)))] [(10, [t32 a10, t32 a11]), (11, [t64 a20, t64 a21])] hk rfl (by as_aux_lemma => kernel_rfl) (.cons (by decide : 0 ≤ (0 : Int) ∧ (0 : Int) < 2) (.cons (by decide : 0 ≤ (0 : Int) ∧ (0 : Int) < 2) (.cons (nonce_Bytes_m a10 a20) (.cons (by first | rfl | (simp only [T.ids, idsL, er_ids, List.append_nil, List.nil_append]; rfl) : subN (idsL [t32 a10, t64 a20]) [] = true) (.cons (by decide : 0 ≤ (1 : Int) ∧ (1 : Int) < 2) (.cons (by decide : 0 ≤ (1 : Int) ∧ (1 : Int) < 2) (.cons (nonce_Bytes_m a11 a21) (.cons (by first | rfl | (simp only [T.ids, idsL, er_ids, List.append_nil, List.nil_append]; rfl) : subN (idsL [t32 a11, t64 a21]) [] = true) .nil)))))))) ?_
          clear hk; intro k hk
          refine Go.bnd (Pf := (PostX Γ bursarylaw18_NonceBytes_enc)) (v := (nonce_Bytes a10 a20)) (fun x6 => [(4, .addr 10 0), (5, .addr 11 0), (10, .sl 1 .shr x6.length (u8s x6)), (11, .sl 1 .shr (nonce_Bytes a11 a21).length (u8s (nonce_Bytes a11 a21)))]) (fun x6 => [(10, [t32 a10, t32 a11]), (11, [t64 a20, t64 a21])]) ?_
          intro x6 hx6
          refine Go.bnd (Pf := (PostX Γ bursarylaw18_NonceBytes_enc)) (v := (nonce_Bytes a11 a21)) (fun x7 => [(4, .addr 10 0), (5, .addr 11 0), (10, .sl 1 .shr x6.length (u8s x6)), (11, .sl 1 .shr x7.length (u8s x7))]) (fun x7 => [(10, [t32 a10, t32 a11]), (11, [t64 a20, t64 a21])]) ?_
          intro x7 hx7
          refine Go.regJ 20 [(6, tb (bif a10 == a11 then ((x6 == x7) == (a20 == a21)) && (((x6.length : Int) == 12) && bursarylaw18_sure) else ((x6 == x7) == false) && (((x6.length : Int) == 12) && bursarylaw18_sure)))] [] hk rfl ?_ ?_
          · clear hk; intro k hk
            exact Go.lvx 20 [] _ [tb (bif a10 == a11 then ((x6 == x7) == (a20 == a21)) && (((x6.length : Int) == 12) && bursarylaw18_sure) else ((x6 == x7) == false) && (((x6.length : Int) == 12) && bursarylaw18_sure))] Tryd.func6 hk rfl (by as_aux_lemma => kernel_rfl) .nil (T.Le.of_eq rfl) rfl rfl .nil
          · intro hk J
            rcases Bool.eq_false_or_eq_true (a10 == a11) with gd9 | gd9
            · rcases Bool.eq_false_or_eq_true ((x6 == x7) == (a20 == a21)) with gd10 | gd10
              · rcases Bool.eq_false_or_eq_true ((x6.length : Int) == 12) with gd11 | gd11
                · have gd11p := eqIt gd11
                  refine Go.rx 20 { ws := [(1, { b := x6 }), (3, { b := x7 }), (4, { v := some (tb (x6 == x7)) }), (9, { v := some (tb true) }), (15, { v := some (tb (a20 == a21)) }), (17, { v := some (tb true) }), (21, { v := some (tb true) }), (24, { call := some { ids := [], S := [], M := [], R := tb bursarylaw18_sure, H' := [] } })] } [10, 11] [6] _ [(6, tb bursarylaw18_sure)] [] hk rfl (by as_aux_lemma => kernel_rfl) (.cons (rfl : u8s x6 = u8s x6) (.cons (rfl : u8s x7 = u8s x7) (.cons trivial (.cons (s_eq x6 x7) (.cons (by decide : 0 ≤ (0 : Int) ∧ (0 : Int) < 2) (.cons (by decide : 0 ≤ (1 : Int) ∧ (1 : Int) < 2) (.cons trivial (.cons ((eqB32 a10 a11).trans (eb gd9)) (.cons (by decide : 0 ≤ (0 : Int) ∧ (0 : Int) < 2) (.cons (by decide : 0 ≤ (1 : Int) ∧ (1 : Int) < 2) (.cons trivial (.cons (eqB64 a20 a21) (.cons (eb gd10) (.cons trivial (.cons (eb gd11) (.cons (bursarylaw18_sure_m) (.cons (by first | rfl | (simp only [T.ids, idsL, er_ids, List.append_nil, List.nil_append]; rfl) : subN (idsL []) [] = true) .nil))))))))))))))))) ?_
                  intro k' hk'
                  refine Go.slotEq 6 (tb (bif a10 == a11 then ((x6 == x7) == (a20 == a21)) && (((x6.length : Int) == 12) && bursarylaw18_sure) else ((x6 == x7) == false) && (((x6.length : Int) == 12) && bursarylaw18_sure))) rfl (eb ((condT gd9).trans (andT gd10 (andT gd11 rfl))).symm) ?_
                  exact J k' hk'
                · have gd11p := eqIf gd11
                  refine Go.rx 20 { ws := [(1, { b := x6 }), (3, { b := x7 }), (4, { v := some (tb (x6 == x7)) }), (9, { v := some (tb true) }), (15, { v := some (tb (a20 == a21)) }), (17, { v := some (tb true) }), (21, { v := some (tb false) })] } [10, 11] [6] _ [(6, tb false)] [] hk rfl (by as_aux_lemma => kernel_rfl) (.cons (rfl : u8s x6 = u8s x6) (.cons (rfl : u8s x7 = u8s x7) (.cons trivial (.cons (s_eq x6 x7) (.cons (by decide : 0 ≤ (0 : Int) ∧ (0 : Int) < 2) (.cons (by decide : 0 ≤ (1 : Int) ∧ (1 : Int) < 2) (.cons trivial (.cons ((eqB32 a10 a11).trans (eb gd9)) (.cons (by decide : 0 ≤ (0 : Int) ∧ (0 : Int) < 2) (.cons (by decide : 0 ≤ (1 : Int) ∧ (1 : Int) < 2) (.cons trivial (.cons (eqB64 a20 a21) (.cons (eb gd10) (.cons trivial (.cons (eb gd11) .nil))))))))))))))) ?_
                  intro k' hk'
                  refine Go.slotEq 6 (tb (bif a10 == a11 then ((x6 == x7) == (a20 == a21)) && (((x6.length : Int) == 12) && bursarylaw18_sure) else ((x6 == x7) == false) && (((x6.length : Int) == 12) && bursarylaw18_sure))) rfl (eb ((condT gd9).trans (andT gd10 (andF gd11))).symm) ?_
                  exact J k' hk'
              · refine Go.rx 20 { ws := [(1, { b := x6 }), (3, { b := x7 }), (4, { v := some (tb (x6 == x7)) }), (9, { v := some (tb true) }), (15, { v := some (tb (a20 == a21)) }), (17, { v := some (tb false) })] } [10, 11] [6] _ [(6, tb false)] [] hk rfl (by as_aux_lemma => kernel_rfl) (.cons (rfl : u8s x6 = u8s x6) (.cons (rfl : u8s x7 = u8s x7) (.cons trivial (.cons (s_eq x6 x7) (.cons (by decide : 0 ≤ (0 : Int) ∧ (0 : Int) < 2) (.cons (by decide : 0 ≤ (1 : Int) ∧ (1 : Int) < 2) (.cons trivial (.cons ((eqB32 a10 a11).trans (eb gd9)) (.cons (by decide : 0 ≤ (0 : Int) ∧ (0 : Int) < 2) (.cons (by decide : 0 ≤ (1 : Int) ∧ (1 : Int) < 2) (.cons trivial (.cons (eqB64 a20 a21) (.cons (eb gd10) .nil))))))))))))) ?_
                intro k' hk'
                refine Go.slotEq 6 (tb (bif a10 == a11 then ((x6 == x7) == (a20 == a21)) && (((x6.length : Int) == 12) && bursarylaw18_sure) else ((x6 == x7) == false) && (((x6.length : Int) == 12) && bursarylaw18_sure))) rfl (eb ((condT gd9).trans (andF gd10)).symm) ?_
                exact J k' hk'
            · rcases Bool.eq_false_or_eq_true ((x6 == x7) == false) with gd12 | gd12
              · rcases Bool.eq_false_or_eq_true ((x6.length : Int) == 12) with gd13 | gd13
                · have gd13p := eqIt gd13
                  refine Go.rx 20 { ws := [(1, { b := x6 }), (3, { b := x7 }), (4, { v := some (tb (x6 == x7)) }), (9, { v := some (tb false) }), (17, { v := some (tb true) }), (21, { v := some (tb true) }), (24, { call := some { ids := [], S := [], M := [], R := tb bursarylaw18_sure, H' := [] } })] } [10, 11] [6] _ [(6, tb bursarylaw18_sure)] [] hk rfl (by as_aux_lemma => kernel_rfl) (.cons (rfl : u8s x6 = u8s x6) (.cons (rfl : u8s x7 = u8s x7) (.cons trivial (.cons (s_eq x6 x7) (.cons (by decide : 0 ≤ (0 : Int) ∧ (0 : Int) < 2) (.cons (by decide : 0 ≤ (1 : Int) ∧ (1 : Int) < 2) (.cons trivial (.cons ((eqB32 a10 a11).trans (eb gd9)) (.cons (eb gd12) (.cons trivial (.cons (eb gd13) (.cons (bursarylaw18_sure_m) (.cons (by first | rfl | (simp only [T.ids, idsL, er_ids, List.append_nil, List.nil_append]; rfl) : subN (idsL []) [] = true) .nil))))))))))))) ?_
                  intro k' hk'
                  refine Go.slotEq 6 (tb (bif a10 == a11 then ((x6 == x7) == (a20 == a21)) && (((x6.length : Int) == 12) && bursarylaw18_sure) else ((x6 == x7) == false) && (((x6.length : Int) == 12) && bursarylaw18_sure))) rfl (eb ((condF gd9).trans (andT gd12 (andT gd13 rfl))).symm) ?_
                  exact J k' hk'
                · have gd13p := eqIf gd13
                  refine Go.rx 20 { ws := [(1, { b := x6 }), (3, { b := x7 }), (4, { v := some (tb (x6 == x7)) }), (9, { v := some (tb false) }), (17, { v := some (tb true) }), (21, { v := some (tb false) })] } [10, 11] [6] _ [(6, tb false)] [] hk rfl (by as_aux_lemma => kernel_rfl) (.cons (rfl : u8s x6 = u8s x6) (.cons (rfl : u8s x7 = u8s x7) (.cons trivial (.cons (s_eq x6 x7) (.cons (by decide : 0 ≤ (0 : Int) ∧ (0 : Int) < 2) (.cons (by decide : 0 ≤ (1 : Int) ∧ (1 : Int) < 2) (.cons trivial (.cons ((eqB32 a10 a11).trans (eb gd9)) (.cons (eb gd12) (.cons trivial (.cons (eb gd13) .nil))))))))))) ?_
                  intro k' hk'
                  refine Go.slotEq 6 (tb (bif a10 == a11 then ((x6 == x7) == (a20 == a21)) && (((x6.length : Int) == 12) && bursarylaw18_sure) else ((x6 == x7) == false) && (((x6.length : Int) == 12) && bursarylaw18_sure))) rfl (eb ((condF gd9).trans (andT gd12 (andF gd13))).symm) ?_
                  exact J k' hk'
              · refine Go.rx 20 { ws := [(1, { b := x6 }), (3, { b := x7 }), (4, { v := some (tb (x6 == x7)) }), (9, { v := some (tb false) }), (17, { v := some (tb false) })] } [10, 11] [6] _ [(6, tb false)] [] hk rfl (by as_aux_lemma => kernel_rfl) (.cons (rfl : u8s x6 = u8s x6) (.cons (rfl : u8s x7 = u8s x7) (.cons trivial (.cons (s_eq x6 x7) (.cons (by decide : 0 ≤ (0 : Int) ∧ (0 : Int) < 2) (.cons (by decide : 0 ≤ (1 : Int) ∧ (1 : Int) < 2) (.cons trivial (.cons ((eqB32 a10 a11).trans (eb gd9)) (.cons (eb gd12) .nil))))))))) ?_
                intro k' hk'
                refine Go.slotEq 6 (tb (bif a10 == a11 then ((x6 == x7) == (a20 == a21)) && (((x6.length : Int) == 12) && bursarylaw18_sure) else ((x6 == x7) == false) && (((x6.length : Int) == 12) && bursarylaw18_sure))) rfl (eb ((condF gd9).trans (andF gd12)).symm) ?_
                exact J k' hk'
      · intro hk J
        rcases Bool.eq_false_or_eq_true (!(decide (x1.2.2 = 0))) with gd8 | gd8
        · have gd8' : (decide (x1.2.2 = 0)) = false := ntT gd8
          have gd8'p := of_decide_eq_false gd8'
          refine Go.dx 20 [0, 1, 2, 3, 4, 5, 6, 7, 8, 9, 10] { ws := [(1, { v := some (tb true), er := some (82, x1.2.2) })] } [] [4, 5, 46] _ [(4, .addr 10 0), (5, .addr 11 0), (46, tb true)] [(10, [t32 a10, t32 a11]), (11, [t64 a20, t64 a21])] hk rfl (by as_aux_lemma => kernel_rfl) (.cons (⟨rfl, rfl⟩ : (er 82 x1.2.2) = er 82 x1.2.2 ∧ (.leaf .nilIface : T) = .leaf .nilIface) (.cons (eb gd8) .nil)) ?_
          intro k' hk'
          refine Go.slotEq 46 (tb ((!(decide (x1.2.2 = 0))) || ((nonce_Bytes x1.1 x1.2.1) != a0))) rfl (eb (orT gd8).symm) ?_
          exact J k' hk'
        · have gd8' : (decide (x1.2.2 = 0)) = true := ntF gd8
          have gd8'p := of_decide_eq_true gd8'
          refine Go.dx 20 [0, 1, 2, 3, 4, 5, 6, 7, 8, 9, 10] { ws := [(1, { v := some (tb false), er := some (82, x1.2.2) }), (5, { call := some { ids := [], S := [], M := [], R := .sl 1 .shr (nonce_Bytes x1.1 x1.2.1).length (u8s (nonce_Bytes x1.1 x1.2.1)), H' := [] } }), (6, { b := (nonce_Bytes x1.1 x1.2.1) }), (8, { b := a0 }), (9, { v := some (tb ((nonce_Bytes x1.1 x1.2.1) != a0)) })] } [] [4, 5, 46] _ [(4, .addr 10 0), (5, .addr 11 0), (46, tb ((nonce_Bytes x1.1 x1.2.1) != a0))] [(10, [t32 a10, t32 a11]), (11, [t64 a20, t64 a21])] hk rfl (by as_aux_lemma => kernel_rfl) (.cons (⟨rfl, rfl⟩ : (er 82 x1.2.2) = er 82 x1.2.2 ∧ (.leaf .nilIface : T) = .leaf .nilIface) (.cons (eb gd8) (.cons (nonce_Bytes_m x1.1 x1.2.1) (.cons (by first | rfl | (simp only [T.ids, idsL, er_ids, List.append_nil, List.nil_append]; rfl) : subN (idsL [t32 x1.1, t64 x1.2.1]) [] = true) (.cons (rfl : u8s (nonce_Bytes x1.1 x1.2.1) = u8s (nonce_Bytes x1.1 x1.2.1)) (.cons (rfl : u8s a0 = u8s a0) (.cons trivial (.cons (s_ne (nonce_Bytes x1.1 x1.2.1) a0) .nil)))))))) ?_
          intro k' hk'
          refine Go.slotEq 46 (tb ((!(decide (x1.2.2 = 0))) || ((nonce_Bytes x1.1 x1.2.1) != a0))) rfl (eb (orF gd8 rfl).symm) ?_
          exact J k' hk'
noncomputable def bursarylaw18_NonceRuns_k1 (c10_0_2 : UInt64) (c10_1_2 : UInt64) (c10_2_2 : UInt64) (c11_0_2 : UInt64) (c11_1_2 : UInt64) (c11_2_2 : UInt64) : Bool :=
  bursarylaw18_sure
noncomputable def bursarylaw18_NonceRuns_l1 (a2 : List Bool) : Nat → Int → UInt64 → UInt64 → UInt64 → UInt64 → UInt64 → UInt64 → Lo (UInt64 × UInt64 × UInt64 × UInt64 × UInt64 × UInt64) Bool
  | 0, _, _, _, _, _, _, _ => .brk default
  | ml1 + 1, t181, c10_0_1, c10_1_1, c10_2_1, c11_0_1, c11_1_1, c11_2_1 =>
    bif (decide (t181 < (a2.length : Int))) && (decide (t181 < 200)) then
      bif a2.getD t181.toNat false then
        bnd (nonce_Counter_Extend c10_0_1 c10_1_1 c10_2_1) fun x8 =>
        bnd (bursaryref18_Extend c11_0_1 c11_1_1 c11_2_1) fun x9 =>
        bnd (id x8.2.1) fun x10 =>
        bif (x10 != x9.2) || (bif x9.2 == 0 then (x8.1 != ((x9.1).2.1)) || ((x9.2 != 0) && (x8.1 != 0)) else (x9.2 != 0) && (x8.1 != 0)) then
          Lo.ret false
        else
          bif ((nonce_Counter_Mark ((x8.2.2).1) ((x8.2.2).2.1) ((x8.2.2).2.2)).1) != ((x9.1).2.1) then
            bnd (nonce_Counter_Mark ((x8.2.2).1) ((x8.2.2).2.1) ((x8.2.2).2.2)) fun x11 =>
            Lo.ret false
          else
            bnd (nonce_Counter_Mark ((x8.2.2).1) ((x8.2.2).2.1) ((x8.2.2).2.2)) fun x12 =>
            bif ((nonce_Counter_Left ((x12.2).1) ((x12.2).2.1) ((x12.2).2.2)).1) != (((x9.1).2.1) - ((x9.1).1)) then
              Lo.ret false
            else
              bursarylaw18_NonceRuns_l1 a2 ml1 (t181 + 1) (((nonce_Counter_Left ((x12.2).1) ((x12.2).2.1) ((x12.2).2.2)).2).1) (((nonce_Counter_Left ((x12.2).1) ((x12.2).2.1) ((x12.2).2.2)).2).2.1) (((nonce_Counter_Left ((x12.2).1) ((x12.2).2.1) ((x12.2).2.2)).2).2.2) ((x9.1).1) ((x9.1).2.1) ((x9.1).2.2)
      else
        bnd (nonce_Counter_Take c10_0_1 c10_1_1 c10_2_1) fun x13 =>
        bnd (bursaryref18_Take c11_0_1 c11_1_1 c11_2_1) fun x14 =>
        bnd (id x13.2.1) fun x15 =>
        bif (x15 != x14.2.2) || (x13.1 != x14.2.1) then
          Lo.ret false
        else
          bif ((nonce_Counter_Mark ((x13.2.2).1) ((x13.2.2).2.1) ((x13.2.2).2.2)).1) != ((x14.1).2.1) then
            bnd (nonce_Counter_Mark ((x13.2.2).1) ((x13.2.2).2.1) ((x13.2.2).2.2)) fun x16 =>
            Lo.ret false
          else
            bnd (nonce_Counter_Mark ((x13.2.2).1) ((x13.2.2).2.1) ((x13.2.2).2.2)) fun x17 =>
            bif ((nonce_Counter_Left ((x17.2).1) ((x17.2).2.1) ((x17.2).2.2)).1) != (((x14.1).2.1) - ((x14.1).1)) then
              Lo.ret false
            else
              bursarylaw18_NonceRuns_l1 a2 ml1 (t181 + 1) (((nonce_Counter_Left ((x17.2).1) ((x17.2).2.1) ((x17.2).2.2)).2).1) (((nonce_Counter_Left ((x17.2).1) ((x17.2).2.1) ((x17.2).2.2)).2).2.1) (((nonce_Counter_Left ((x17.2).1) ((x17.2).2.1) ((x17.2).2.2)).2).2.2) ((x14.1).1) ((x14.1).2.1) ((x14.1).2.2)
    else
      Lo.brk (c10_0_1, c10_1_1, c10_2_1, c11_0_1, c11_1_1, c11_2_1)
noncomputable def bursarylaw18_NonceRuns (a0 : UInt64) (a1 : UInt64) (a2 : List Bool) : Bool :=
  bnd (id nil_Take.2) fun x1 =>
  bnd (id nil_Extend.2) fun x2 =>
  bnd (nonce_Bytes a0.toUInt32 a1) fun x3 =>
  bnd (bursaryref18_Bytes a0.toUInt32 a1) fun x4 =>
  bif (x1 != 1) || ((x2 != 1) || ((nil_Mark != 0) || ((nil_Left != 0) || (x3 != x4)))) then
    false
  else
    bnd (bursaryref18_Bytes a1.toUInt32 a0) fun x5 =>
    bif (!(decide ((nonce_Parse x5).2.2 = 0))) || ((((nonce_Parse x5).1) != a1.toUInt32) || (((nonce_Parse x5).2.1) != a0)) then
      false
    else
      bif ((nonce_New a0 a1).1).isSome then
        bnd (nonce_New a0 a1) fun x6 =>
        bnd (bursaryref18_May a0 a1) fun x7 =>
        bif !x7 then
          false
        else
          bif !(decide (x6.2 = 0)) then
            false
          else
            Lo.el (bursarylaw18_NonceRuns_l1 a2 (((a2.length : Int) - (0 : Int)).toNat + 1) 0 (((x6.1).getD default).1) (((x6.1).getD default).2.1) (((x6.1).getD default).2.2) a0 a0 a1) (fun z : UInt64 × UInt64 × UInt64 × UInt64 × UInt64 × UInt64 => bursarylaw18_NonceRuns_k1 z.1 z.2.1 z.2.2.1 z.2.2.2.1 z.2.2.2.2.1 z.2.2.2.2.2)
      else
        bnd (nonce_New a0 a1) fun x18 =>
        bnd (bursaryref18_May a0 a1) fun x19 =>
        bif !x19 then
          bnd (id x18.2) fun x20 =>
          (x20 == 1) && bursarylaw18_sure
        else
          false
def bursarylaw18_NonceRuns_enc (x : Bool) : T × List (Nat × List T) := (tb x, [])
theorem bursarylaw18_NonceRuns_m {g_a2 : Tag} (a0 : UInt64) (a1 : UInt64) (a2 : List Bool) : Meets Tryd.prog 7 [t64 a0, t64 a1, .sl 1 g_a2 a2.length (bos a2)] [] [] (tb (bursarylaw18_NonceRuns a0 a1 a2)) [] := by
  refine Meets.enterX (E := E) (N := 205) (enc := bursarylaw18_NonceRuns_enc) (x := (bursarylaw18_NonceRuns a0 a1 a2)) Tryd.func7 Tryd.call7 rfl rfl ?_
  intro Γ k hk
  refine Go.rx 20 {} [] [0, 1, 2] _ [(0, t64 a0), (1, t64 a1), (2, .sl 1 g_a2 a2.length (bos a2))] [] hk rfl (by as_aux_lemma => kernel_rfl) .nil ?_
  clear hk; intro k hk
  refine Go.rx 20 {} [] [0, 1, 2, 7] _ [(0, t64 a0), (1, t64 a1), (2, .sl 1 g_a2 a2.length (bos a2)), (7, .leaf (.pointer none))] [] hk rfl (by as_aux_lemma => kernel_rfl) .nil ?_
  clear hk; intro k hk
  refine Go.rx 20 { ws := [(1, { call := some { ids := [], S := [], M := [], R := .tup [t64 nil_Take.1, er 82 nil_Take.2], H' := [] } })] } [] [0, 1, 2, 7, 9] _ [(0, t64 a0), (1, t64 a1), (2, .sl 1 g_a2 a2.length (bos a2)), (7, .leaf (.pointer none)), (9, er 82 nil_Take.2)] [] hk rfl (by as_aux_lemma => kernel_rfl) (.cons (Meets.swp [] (nil_Take_m) (.cons (.same (by first | rfl | (simp only [T.ids, idsL, er_ids, List.append_nil, List.nil_append] <;> rfl))) .nil) .nil rfl (.same (by first | rfl | (simp only [T.ids, idsL, er_ids, List.append_nil, List.nil_append] <;> rfl))) .nil : Meets Tryd.prog 27 [.leaf (.pointer none)] [] [] (.tup [t64 nil_Take.1, er 82 nil_Take.2]) []) (.cons (by first | rfl | (simp only [T.ids, idsL, er_ids, List.append_nil, List.nil_append]; rfl) : subN (idsL [.leaf (.pointer none)]) [] = true) .nil)) ?_
  clear hk; intro k hk
  refine Go.rx 20 { ws := [(1, { call := some { ids := [], S := [], M := [], R := .tup [t64 nil_Extend.1, er 82 nil_Extend.2], H' := [] } })] } [] [0, 1, 2, 7, 9, 11] _ [(0, t64 a0), (1, t64 a1), (2, .sl 1 g_a2 a2.length (bos a2)), (7, .leaf (.pointer none)), (9, er 82 nil_Take.2), (11, er 82 nil_Extend.2)] [] hk rfl (by as_aux_lemma => kernel_rfl) (.cons (Meets.swp [] (nil_Extend_m) (.cons (.same (by first | rfl | (simp only [T.ids, idsL, er_ids, List.append_nil, List.nil_append] <;> rfl))) .nil) .nil rfl (.same (by first | rfl | (simp only [T.ids, idsL, er_ids, List.append_nil, List.nil_append] <;> rfl))) .nil : Meets Tryd.prog 28 [.leaf (.pointer none)] [] [] (.tup [t64 nil_Extend.1, er 82 nil_Extend.2]) []) (.cons (by first | rfl | (simp only [T.ids, idsL, er_ids, List.append_nil, List.nil_append]; rfl) : subN (idsL [.leaf (.pointer none)]) [] = true) .nil)) ?_
  clear hk; intro k hk
  refine Go.regJ 20 [(0, t64 a0), (1, t64 a1), (2, .sl 1 g_a2 a2.length (bos a2)), (68, tb (((id nil_Take.2) != 1) || (((id nil_Extend.2) != 1) || ((nil_Mark != 0) || ((nil_Left != 0) || ((nonce_Bytes a0.toUInt32 a1) != (bursaryref18_Bytes a0.toUInt32 a1)))))))] [] hk rfl ?_ ?_
  · clear hk; intro k hk
    refine Go.bnd (Pf := (PostX Γ bursarylaw18_NonceRuns_enc)) (v := (id nil_Take.2)) (fun x1 => [(0, t64 a0), (1, t64 a1), (2, .sl 1 g_a2 a2.length (bos a2)), (68, tb ((x1 != 1) || (((id nil_Extend.2) != 1) || ((nil_Mark != 0) || ((nil_Left != 0) || ((nonce_Bytes a0.toUInt32 a1) != (bursaryref18_Bytes a0.toUInt32 a1)))))))]) (fun x1 => []) ?_
    intro x1 hx1
    refine Go.bnd (Pf := (PostX Γ bursarylaw18_NonceRuns_enc)) (v := (id nil_Extend.2)) (fun x2 => [(0, t64 a0), (1, t64 a1), (2, .sl 1 g_a2 a2.length (bos a2)), (68, tb ((x1 != 1) || ((x2 != 1) || ((nil_Mark != 0) || ((nil_Left != 0) || ((nonce_Bytes a0.toUInt32 a1) != (bursaryref18_Bytes a0.toUInt32 a1)))))))]) (fun x2 => []) ?_
    intro x2 hx2
    refine Go.bnd (Pf := (PostX Γ bursarylaw18_NonceRuns_enc)) (v := (nonce_Bytes a0.toUInt32 a1)) (fun x3 => [(0, t64 a0), (1, t64 a1), (2, .sl 1 g_a2 a2.length (bos a2)), (68, tb ((x1 != 1) || ((x2 != 1) || ((nil_Mark != 0) || ((nil_Left != 0) || (x3 != (bursaryref18_Bytes a0.toUInt32 a1)))))))]) (fun x3 => []) ?_
    intro x3 hx3
    refine Go.bnd (Pf := (PostX Γ bursarylaw18_NonceRuns_enc)) (v := (bursaryref18_Bytes a0.toUInt32 a1)) (fun x4 => [(0, t64 a0), (1, t64 a1), (2, .sl 1 g_a2 a2.length (bos a2)), (68, tb ((x1 != 1) || ((x2 != 1) || ((nil_Mark != 0) || ((nil_Left != 0) || (x3 != x4))))))]) (fun x4 => []) ?_
    intro x4 hx4
    refine Go.br 20 (Pf := (PostX Γ bursarylaw18_NonceRuns_enc)) hk rfl rfl ?_ ?_ <;> clear hk <;> intro ct1 k hk
    · refine Go.rx 20 {} [] [6] _ [(6, tb false)] [] hk rfl (by as_aux_lemma => kernel_rfl) .nil ?_
      clear hk; intro k hk
      exact Go.lvx 20 [] _ [tb false] Tryd.func7 hk rfl (by as_aux_lemma => kernel_rfl) .nil (T.Le.of_eq rfl) rfl rfl .nil
    · have ct11 : (x1 != 1) = false := (Bool.or_eq_false_iff.1 ct1).1
      have ct12 : ((x2 != 1) || ((nil_Mark != 0) || ((nil_Left != 0) || (x3 != x4)))) = false := (Bool.or_eq_false_iff.1 ct1).2
      have ct11p := neIf ct11
      have ct121 : (x2 != 1) = false := (Bool.or_eq_false_iff.1 ct12).1
      have ct122 : ((nil_Mark != 0) || ((nil_Left != 0) || (x3 != x4))) = false := (Bool.or_eq_false_iff.1 ct12).2
      have ct121p := neIf ct121
      have ct1221 : (nil_Mark != 0) = false := (Bool.or_eq_false_iff.1 ct122).1
      have ct1222 : ((nil_Left != 0) || (x3 != x4)) = false := (Bool.or_eq_false_iff.1 ct122).2
      have ct12221 : (nil_Left != 0) = false := (Bool.or_eq_false_iff.1 ct1222).1
      have ct12222 : (x3 != x4) = false := (Bool.or_eq_false_iff.1 ct1222).2
      refine Go.rx 20 { ws := [(1, { v := some (t32 a1.toUInt32) }), (3, { call := some { ids := [], S := [], M := [], R := .sl 1 .shr (bursaryref18_Bytes a1.toUInt32 a0).length (u8s (bursaryref18_Bytes a1.toUInt32 a0)), H' := [] } }), (4, { call := some { ids := [], S := [], M := [], R := .tup [t32 ((nonce_Parse (bursaryref18_Bytes a1.toUInt32 a0)).1), t64 ((nonce_Parse (bursaryref18_Bytes a1.toUInt32 a0)).2.1), er 82 ((nonce_Parse (bursaryref18_Bytes a1.toUInt32 a0)).2.2)], H' := [] } })] } [] [0, 1, 2, 12, 13, 14] _ [(0, t64 a0), (1, t64 a1), (2, .sl 1 g_a2 a2.length (bos a2)), (12, t32 ((nonce_Parse (bursaryref18_Bytes a1.toUInt32 a0)).1)), (13, t64 ((nonce_Parse (bursaryref18_Bytes a1.toUInt32 a0)).2.1)), (14, er 82 ((nonce_Parse (bursaryref18_Bytes a1.toUInt32 a0)).2.2))] [] hk rfl (by as_aux_lemma => kernel_rfl) (.cons (cv64_32 a1) (.cons (bursaryref18_Bytes_m a1.toUInt32 a0) (.cons (by first | rfl | (simp only [T.ids, idsL, er_ids, List.append_nil, List.nil_append]; rfl) : subN (idsL [t32 a1.toUInt32, t64 a0]) [] = true) (.cons (nonce_Parse_m (g_b := .shr) (bursaryref18_Bytes a1.toUInt32 a0)) (.cons (by first | rfl | (simp only [T.ids, idsL, er_ids, List.append_nil, List.nil_append]; rfl) : subN (idsL [.sl 1 .shr (bursaryref18_Bytes a1.toUInt32 a0).length (u8s (bursaryref18_Bytes a1.toUInt32 a0))]) [] = true) .nil))))) ?_
      clear hk; intro k hk
      refine Go.bnd (Pf := (PostX Γ bursarylaw18_NonceRuns_enc)) (v := (bursaryref18_Bytes a1.toUInt32 a0)) (fun x5 => [(0, t64 a0), (1, t64 a1), (2, .sl 1 g_a2 a2.length (bos a2)), (12, t32 ((nonce_Parse x5).1)), (13, t64 ((nonce_Parse x5).2.1)), (14, er 82 ((nonce_Parse x5).2.2))]) (fun x5 => []) ?_
      intro x5 hx5
      refine Go.regJ 20 [(0, t64 a0), (1, t64 a1), (2, .sl 1 g_a2 a2.length (bos a2)), (90, tb ((!(decide ((nonce_Parse x5).2.2 = 0))) || ((((nonce_Parse x5).1) != a1.toUInt32) || (((nonce_Parse x5).2.1) != a0))))] [] hk rfl ?_ ?_
      · clear hk; intro k hk
        refine Go.br 20 (Pf := (PostX Γ bursarylaw18_NonceRuns_enc)) hk rfl rfl ?_ ?_ <;> clear hk <;> intro ct2 k hk
        · refine Go.rx 20 {} [] [6] _ [(6, tb false)] [] hk rfl (by as_aux_lemma => kernel_rfl) .nil ?_
          clear hk; intro k hk
          exact Go.lvx 20 [] _ [tb false] Tryd.func7 hk rfl (by as_aux_lemma => kernel_rfl) .nil (T.Le.of_eq rfl) rfl rfl .nil
        · have ct21 : (!(decide ((nonce_Parse x5).2.2 = 0))) = false := (Bool.or_eq_false_iff.1 ct2).1
          have ct22 : ((((nonce_Parse x5).1) != a1.toUInt32) || (((nonce_Parse x5).2.1) != a0)) = false := (Bool.or_eq_false_iff.1 ct2).2
          have ct21' : (decide ((nonce_Parse x5).2.2 = 0)) = true := ntF ct21
          have ct21'p := of_decide_eq_true ct21'
          have ct221 : (((nonce_Parse x5).1) != a1.toUInt32) = false := (Bool.or_eq_false_iff.1 ct22).1
          have ct222 : (((nonce_Parse x5).2.1) != a0) = false := (Bool.or_eq_false_iff.1 ct22).2
          refine Go.split (Pf := (PostX Γ bursarylaw18_NonceRuns_enc)) (((nonce_New a0 a1).1).isSome) ?_ ?_ <;> intro p1
          · refine Go.rx 20 { ws := [(2, { call := some { ids := [], S := [], M := [], R := .tup [.addr 10 0, er 82 ((nonce_New a0 a1).2)], H' := [(10, [t64 ((((nonce_New a0 a1).1).getD default).1), t64 ((((nonce_New a0 a1).1).getD default).2.1), t64 ((((nonce_New a0 a1).1).getD default).2.2)])] } })] } [] [0, 1, 2, 15, 16] _ [(0, t64 a0), (1, t64 a1), (2, .sl 1 g_a2 a2.length (bos a2)), (15, .addr 10 0), (16, er 82 ((nonce_New a0 a1).2))] [(10, [t64 ((((nonce_New a0 a1).1).getD default).1), t64 ((((nonce_New a0 a1).1).getD default).2.1), t64 ((((nonce_New a0 a1).1).getD default).2.2)])] hk rfl (by as_aux_lemma => kernel_rfl) (.cons (Meets.swp [] (Meets.optS (i := 10) (g := fun z => [t64 z.1, t64 z.2.1, t64 z.2.2]) (fun q => .tup [q, er 82 ((nonce_New a0 a1).2)]) (nonce_New_m a0 a1) p1) (.cons (.same (by first | rfl | (simp only [T.ids, idsL, er_ids, List.append_nil, List.nil_append] <;> rfl))) (.cons (.same (by first | rfl | (simp only [T.ids, idsL, er_ids, List.append_nil, List.nil_append] <;> rfl))) .nil)) .nil rfl (.tup (.cons (.addr rfl 0) (.cons (.same (by first | rfl | (simp only [T.ids, idsL, er_ids, List.append_nil, List.nil_append] <;> rfl))) .nil))) (.cons rfl (.same (by first | rfl | (simp only [T.ids, idsL, er_ids, List.append_nil, List.nil_append] <;> rfl))) .nil) : Meets Tryd.prog 32 [t64 a0, t64 a1] [] [] (.tup [.addr 10 0, er 82 ((nonce_New a0 a1).2)]) [(10, [t64 ((((nonce_New a0 a1).1).getD default).1), t64 ((((nonce_New a0 a1).1).getD default).2.1), t64 ((((nonce_New a0 a1).1).getD default).2.2)])]) (.cons (by first | rfl | (simp only [T.ids, idsL, er_ids, List.append_nil, List.nil_append]; rfl) : subN (idsL [t64 a0, t64 a1]) [] = true) .nil)) ?_
            clear hk; intro k hk
            refine Go.bnd (Pf := (PostX Γ bursarylaw18_NonceRuns_enc)) (v := (nonce_New a0 a1)) (fun x6 => [(0, t64 a0), (1, t64 a1), (2, .sl 1 g_a2 a2.length (bos a2)), (15, .addr 10 0), (16, er 82 x6.2)]) (fun x6 => [(10, [t64 (((x6.1).getD default).1), t64 (((x6.1).getD default).2.1), t64 (((x6.1).getD default).2.2)])]) ?_
            intro x6 hx6
            refine Go.rx 20 { ws := [(2, { call := some { ids := [], S := [], M := [], R := tb (bursaryref18_May a0 a1), H' := [] } })] } [] [0, 1, 2, 15, 16, 100] _ [(0, t64 a0), (1, t64 a1), (2, .sl 1 g_a2 a2.length (bos a2)), (15, .addr 10 0), (16, er 82 x6.2), (100, tb (!(bursaryref18_May a0 a1)))] [(10, [t64 (((x6.1).getD default).1), t64 (((x6.1).getD default).2.1), t64 (((x6.1).getD default).2.2)])] hk rfl (by as_aux_lemma => kernel_rfl) (.cons (bursaryref18_May_m a0 a1) (.cons (by first | rfl | (simp only [T.ids, idsL, er_ids, List.append_nil, List.nil_append]; rfl) : subN (idsL [t64 a0, t64 a1]) [] = true) .nil)) ?_
            clear hk; intro k hk
            refine Go.bnd (Pf := (PostX Γ bursarylaw18_NonceRuns_enc)) (v := (bursaryref18_May a0 a1)) (fun x7 => [(0, t64 a0), (1, t64 a1), (2, .sl 1 g_a2 a2.length (bos a2)), (15, .addr 10 0), (16, er 82 x6.2), (100, tb (!x7))]) (fun x7 => [(10, [t64 (((x6.1).getD default).1), t64 (((x6.1).getD default).2.1), t64 (((x6.1).getD default).2.2)])]) ?_
            intro x7 hx7
            refine Go.br 20 (Pf := (PostX Γ bursarylaw18_NonceRuns_enc)) hk rfl rfl ?_ ?_ <;> clear hk <;> intro ct3 k hk
            · have ct3' : x7 = false := ntT ct3
              refine Go.regJ 20 [(6, tb false)] [] hk rfl ?_ ?_
              · clear hk; intro k hk
                exact Go.lvx 20 [] _ [tb false] Tryd.func7 hk rfl (by as_aux_lemma => kernel_rfl) .nil (T.Le.of_eq rfl) rfl rfl .nil
              · intro hk J
                rcases Bool.eq_false_or_eq_true ((id x6.2) == 1) with gd7 | gd7
                · have gd7p := eqIt gd7
                  refine Go.rx 20 { ws := [(1, { call := some { ids := [], S := [], M := [], R := ti (id x6.2), H' := [] } }), (2, { v := some (tb true) })], ps := [16, 101] } [10] [6] _ [(6, tb false)] [] hk rfl (by as_aux_lemma => kernel_rfl) (.cons (bursarylaw18_num_m x6.2) (.cons (by first | rfl | (simp only [T.ids, idsL, er_ids, List.append_nil, List.nil_append]; rfl) : subN (idsL [er 82 x6.2]) [] = true) (.cons trivial (.cons (eb gd7) (.cons (⟨94, by as_aux_lemma => kernel_rfl⟩ : ∃ e, (E.ti 54).k = .ptr e) (.cons (er_mem (i := 10) 82 x6.2) (.cons (er_mem (i := 10) 82 x6.2) .nil))))))) ?_
                  intro k' hk'
                  exact J k' hk'
                · have gd7p := eqIf gd7
                  refine Go.rx 20 { ws := [(1, { call := some { ids := [], S := [], M := [], R := ti (id x6.2), H' := [] } }), (2, { v := some (tb false) })], ps := [16, 101] } [10] [6] _ [(6, tb false)] [] hk rfl (by as_aux_lemma => kernel_rfl) (.cons (bursarylaw18_num_m x6.2) (.cons (by first | rfl | (simp only [T.ids, idsL, er_ids, List.append_nil, List.nil_append]; rfl) : subN (idsL [er 82 x6.2]) [] = true) (.cons trivial (.cons (eb gd7) (.cons (er_mem (i := 10) 82 x6.2) (.cons (er_mem (i := 10) 82 x6.2) .nil)))))) ?_
                  intro k' hk'
                  exact J k' hk'
            · have ct3' : x7 = true := ntF ct3
              refine Go.regJ 20 [(0, t64 a0), (1, t64 a1), (2, .sl 1 g_a2 a2.length (bos a2)), (15, .addr 10 0), (116, tb (!(decide (x6.2 = 0))))] [(10, [t64 (((x6.1).getD default).1), t64 (((x6.1).getD default).2.1), t64 (((x6.1).getD default).2.2)])] hk rfl ?_ ?_
              · clear hk; intro k hk
                refine Go.br 20 (Pf := (PostX Γ bursarylaw18_NonceRuns_enc)) hk rfl rfl ?_ ?_ <;> clear hk <;> intro ct4 k hk
                · have ct4' : (decide (x6.2 = 0)) = false := ntT ct4
                  have ct4'p := of_decide_eq_false ct4'
                  refine Go.rx 20 {} [10] [6] _ [(6, tb false)] [] hk rfl (by as_aux_lemma => kernel_rfl) .nil ?_
                  clear hk; intro k hk
                  exact Go.lvx 20 [] _ [tb false] Tryd.func7 hk rfl (by as_aux_lemma => kernel_rfl) .nil (T.Le.of_eq rfl) rfl rfl .nil
                · have ct4' : (decide (x6.2 = 0)) = true := ntF ct4
                  have ct4'p := of_decide_eq_true ct4'
                  refine Go.rx 20 { ws := [(4, { id := 11 })] } [] [2, 15, 17] _ [(2, .sl 1 g_a2 a2.length (bos a2)), (15, .addr 10 0), (17, .addr 11 0)] [(10, [t64 (((x6.1).getD default).1), t64 (((x6.1).getD default).2.1), t64 (((x6.1).getD default).2.2)]), (11, [t64 a0, t64 a0, t64 a1])] hk rfl (by as_aux_lemma => kernel_rfl) .nil ?_
                  clear hk; intro k hk
                  refine Go.rx 20 {} [] [2, 15, 17, 18] _ [(2, .sl 1 g_a2 a2.length (bos a2)), (15, .addr 10 0), (17, .addr 11 0), (18, ti 0)] [(10, [t64 (((x6.1).getD default).1), t64 (((x6.1).getD default).2.1), t64 (((x6.1).getD default).2.2)]), (11, [t64 a0, t64 a0, t64 a1])] hk rfl (by as_aux_lemma => kernel_rfl) .nil ?_
                  clear hk; intro k hk
                  refine Go.loopX 20 hk rfl ?_
                  clear hk; intro kl1 kxl1 hl1 hxl1
                  have Xl1 : ∀ (c10_0_2 : UInt64) (c10_1_2 : UInt64) (c10_2_2 : UInt64) (c11_0_2 : UInt64) (c11_1_2 : UInt64) (c11_2_2 : UInt64), Go E Γ 7 205 [] ((PostX Γ bursarylaw18_NonceRuns_enc) (bursarylaw18_NonceRuns_k1 c10_0_2 c10_1_2 c10_2_2 c11_0_2 c11_1_2 c11_2_2)) kxl1 (stL [] [(10, [t64 c10_0_2, t64 c10_1_2, t64 c10_2_2]), (11, [t64 c11_0_2, t64 c11_1_2, t64 c11_2_2])]) := by
                    intro c10_0_2 c10_1_2 c10_2_2 c11_0_2 c11_1_2 c11_2_2
                    refine Go.rx 20 { ws := [(0, { call := some { ids := [], S := [], M := [], R := tb bursarylaw18_sure, H' := [] } })] } [10, 11] [6] _ [(6, tb bursarylaw18_sure)] [] hxl1 rfl (by as_aux_lemma => kernel_rfl) (.cons (bursarylaw18_sure_m) (.cons (by first | rfl | (simp only [T.ids, idsL, er_ids, List.append_nil, List.nil_append]; rfl) : subN (idsL []) [] = true) .nil)) ?_
                    clear hxl1; intro kxl1 hxl1
                    exact Go.lvx 20 [] _ [tb bursarylaw18_sure] Tryd.func7 hxl1 rfl (by as_aux_lemma => kernel_rfl) .nil (T.Le.of_eq rfl) rfl rfl .nil
                  have Ll1 : ∀ (ml1 : Nat) (t181 : Int) (c10_0_1 : UInt64) (c10_1_1 : UInt64) (c10_2_1 : UInt64) (c11_0_1 : UInt64) (c11_1_1 : UInt64) (c11_2_1 : UInt64), (0 ≤ t181) → (((a2.length : Int) - t181).toNat < ml1) → Go E Γ 7 205 [] ((PostX Γ bursarylaw18_NonceRuns_enc) (Lo.el (bursarylaw18_NonceRuns_l1 a2 ml1 t181 c10_0_1 c10_1_1 c10_2_1 c11_0_1 c11_1_1 c11_2_1) (fun z : UInt64 × UInt64 × UInt64 × UInt64 × UInt64 × UInt64 => bursarylaw18_NonceRuns_k1 z.1 z.2.1 z.2.2.1 z.2.2.2.1 z.2.2.2.2.1 z.2.2.2.2.2))) kl1 (stL [(2, .sl 1 g_a2 a2.length (bos a2)), (15, .addr 10 0), (17, .addr 11 0), (18, ti t181)] [(10, [t64 c10_0_1, t64 c10_1_1, t64 c10_2_1]), (11, [t64 c11_0_1, t64 c11_1_1, t64 c11_2_1])]) := by
                    intro ml1
                    induction ml1 with
                    | zero => intro t181 c10_0_1 c10_1_1 c10_2_1 c11_0_1 c11_1_1 c11_2_1 i0l1 hml1; exact absurd hml1 (Nat.not_lt_zero _)
                    | succ ml1 ihl1 =>
                      intro t181 c10_0_1 c10_1_1 c10_2_1 c11_0_1 c11_1_1 c11_2_1 i0l1 hml1
                      rw [bursarylaw18_NonceRuns_l1]
                      refine Go.round hl1 ?_
                      intro k hk
                      refine Go.regJ 20 [(2, .sl 1 g_a2 a2.length (bos a2)), (15, .addr 10 0), (17, .addr 11 0), (18, ti t181), (128, tb ((decide (t181 < (a2.length : Int))) && (decide (t181 < 200))))] [(10, [t64 c10_0_1, t64 c10_1_1, t64 c10_2_1]), (11, [t64 c11_0_1, t64 c11_1_1, t64 c11_2_1])] hk rfl ?_ ?_
                      · clear hk; intro k hk
                        refine Go.br 20 (Pf := (fun z : Lo (UInt64 × UInt64 × UInt64 × UInt64 × UInt64 × UInt64) (Bool) => (PostX Γ bursarylaw18_NonceRuns_enc) (Lo.el z (fun z : UInt64 × UInt64 × UInt64 × UInt64 × UInt64 × UInt64 => bursarylaw18_NonceRuns_k1 z.1 z.2.1 z.2.2.1 z.2.2.2.1 z.2.2.2.2.1 z.2.2.2.2.2)))) hk rfl rfl ?_ ?_ <;> clear hk <;> intro ct5 k hk
                        · have ct51 : (decide (t181 < (a2.length : Int))) = true := (Bool.and_eq_true_iff.1 ct5).1
                          have ct52 : (decide (t181 < 200)) = true := (Bool.and_eq_true_iff.1 ct5).2
                          have ct51p := of_decide_eq_true ct51
                          have ct52p := of_decide_eq_true ct52
                          refine Go.rx 20 { ws := [(3, { v := some (tb (a2.getD t181.toNat false)) })] } [] [2, 15, 17, 18, 134] _ [(2, .sl 1 g_a2 a2.length (bos a2)), (15, .addr 10 0), (17, .addr 11 0), (18, ti t181), (134, tb (a2.getD t181.toNat false))] [(10, [t64 c10_0_1, t64 c10_1_1, t64 c10_2_1]), (11, [t64 c11_0_1, t64 c11_1_1, t64 c11_2_1])] hk rfl (by as_aux_lemma => kernel_rfl) (.cons (by omega : 0 ≤ (t181 : Int) ∧ (t181 : Int) < ((a2.length : Nat) : Int)) (.cons (part1 (by as_aux_lemma => kernel_rfl : (E.ti 4).agg = false) (mp_get (g := (fun c : Bool => T.leaf (.bool c))) (k := t181.toNat * 1) (n := t181.toNat) a2 false (by omega) (by omega))) .nil)) ?_
                          clear hk; intro k hk
                          refine Go.br 20 (Pf := (fun z : Lo (UInt64 × UInt64 × UInt64 × UInt64 × UInt64 × UInt64) (Bool) => (PostX Γ bursarylaw18_NonceRuns_enc) (Lo.el z (fun z : UInt64 × UInt64 × UInt64 × UInt64 × UInt64 × UInt64 => bursarylaw18_NonceRuns_k1 z.1 z.2.1 z.2.2.1 z.2.2.2.1 z.2.2.2.2.1 z.2.2.2.2.2)))) hk rfl rfl ?_ ?_ <;> clear hk <;> intro ct6 k hk
                          · refine Go.rx 20 { ws := [(1, { call := some { ids := [10], S := [10], M := [], R := .tup [t64 ((nonce_Counter_Extend c10_0_1 c10_1_1 c10_2_1).1), er 82 ((nonce_Counter_Extend c10_0_1 c10_1_1 c10_2_1).2.1)], H' := [(10, [t64 (((nonce_Counter_Extend c10_0_1 c10_1_1 c10_2_1).2.2).1), t64 (((nonce_Counter_Extend c10_0_1 c10_1_1 c10_2_1).2.2).2.1), t64 (((nonce_Counter_Extend c10_0_1 c10_1_1 c10_2_1).2.2).2.2)])] } })] } [] [2, 15, 17, 18, 19, 20] _ [(2, .sl 1 g_a2 a2.length (bos a2)), (15, .addr 10 0), (17, .addr 11 0), (18, ti t181), (19, t64 ((nonce_Counter_Extend c10_0_1 c10_1_1 c10_2_1).1)), (20, er 82 ((nonce_Counter_Extend c10_0_1 c10_1_1 c10_2_1).2.1))] [(10, [t64 (((nonce_Counter_Extend c10_0_1 c10_1_1 c10_2_1).2.2).1), t64 (((nonce_Counter_Extend c10_0_1 c10_1_1 c10_2_1).2.2).2.1), t64 (((nonce_Counter_Extend c10_0_1 c10_1_1 c10_2_1).2.2).2.2)]), (11, [t64 c11_0_1, t64 c11_1_1, t64 c11_2_1])] hk rfl (by as_aux_lemma => kernel_rfl) (.cons (Meets.swp [(0, 10)] (nonce_Counter_Extend_m c10_0_1 c10_1_1 c10_2_1) (.cons (.addr rfl 0) .nil) (.cons rfl (.same (by first | rfl | (simp only [T.ids, idsL, er_ids, List.append_nil, List.nil_append] <;> rfl))) .nil) rfl (.same (by first | rfl | (simp only [T.ids, idsL, er_ids, List.append_nil, List.nil_append] <;> rfl))) (.cons rfl (.same (by first | rfl | (simp only [T.ids, idsL, er_ids, List.append_nil, List.nil_append] <;> rfl))) .nil) : Meets Tryd.prog 28 [.addr 10 0] [(10, [t64 c10_0_1, t64 c10_1_1, t64 c10_2_1])] [10] (.tup [t64 ((nonce_Counter_Extend c10_0_1 c10_1_1 c10_2_1).1), er 82 ((nonce_Counter_Extend c10_0_1 c10_1_1 c10_2_1).2.1)]) [(10, [t64 (((nonce_Counter_Extend c10_0_1 c10_1_1 c10_2_1).2.2).1), t64 (((nonce_Counter_Extend c10_0_1 c10_1_1 c10_2_1).2.2).2.1), t64 (((nonce_Counter_Extend c10_0_1 c10_1_1 c10_2_1).2.2).2.2)])]) (.cons (by first | rfl | (simp only [T.ids, idsL, er_ids, List.append_nil, List.nil_append]; rfl) : subN (idsL [.addr 10 0]) [10] = true) (.cons (by first | rfl | (simp only [T.ids, idsL, er_ids, List.append_nil, List.nil_append]; rfl) : subN (idsL [t64 c10_0_1, t64 c10_1_1, t64 c10_2_1]) [10] = true) .nil))) ?_
                            clear hk; intro k hk
                            refine Go.bnd (Pf := (fun z : Lo (UInt64 × UInt64 × UInt64 × UInt64 × UInt64 × UInt64) (Bool) => (PostX Γ bursarylaw18_NonceRuns_enc) (Lo.el z (fun z : UInt64 × UInt64 × UInt64 × UInt64 × UInt64 × UInt64 => bursarylaw18_NonceRuns_k1 z.1 z.2.1 z.2.2.1 z.2.2.2.1 z.2.2.2.2.1 z.2.2.2.2.2)))) (v := (nonce_Counter_Extend c10_0_1 c10_1_1 c10_2_1)) (fun x8 => [(2, .sl 1 g_a2 a2.length (bos a2)), (15, .addr 10 0), (17, .addr 11 0), (18, ti t181), (19, t64 x8.1), (20, er 82 x8.2.1)]) (fun x8 => [(10, [t64 ((x8.2.2).1), t64 ((x8.2.2).2.1), t64 ((x8.2.2).2.2)]), (11, [t64 c11_0_1, t64 c11_1_1, t64 c11_2_1])]) ?_
                            intro x8 hx8
                            refine Go.rx 20 { ws := [(1, { call := some { ids := [], S := [], M := [], R := .tup [.agg [t64 (((bursaryref18_Extend c11_0_1 c11_1_1 c11_2_1).1).1), t64 (((bursaryref18_Extend c11_0_1 c11_1_1 c11_2_1).1).2.1), t64 (((bursaryref18_Extend c11_0_1 c11_1_1 c11_2_1).1).2.2)], ti ((bursaryref18_Extend c11_0_1 c11_1_1 c11_2_1).2)], H' := [] } }), (5, { id := 12 })] } [] [2, 15, 17, 18, 19, 20, 21, 22] _ [(2, .sl 1 g_a2 a2.length (bos a2)), (15, .addr 10 0), (17, .addr 11 0), (18, ti t181), (19, t64 x8.1), (20, er 82 x8.2.1), (21, .addr 12 0), (22, ti ((bursaryref18_Extend c11_0_1 c11_1_1 c11_2_1).2))] [(10, [t64 ((x8.2.2).1), t64 ((x8.2.2).2.1), t64 ((x8.2.2).2.2)]), (11, [t64 c11_0_1, t64 c11_1_1, t64 c11_2_1]), (12, [t64 (((bursaryref18_Extend c11_0_1 c11_1_1 c11_2_1).1).1), t64 (((bursaryref18_Extend c11_0_1 c11_1_1 c11_2_1).1).2.1), t64 (((bursaryref18_Extend c11_0_1 c11_1_1 c11_2_1).1).2.2)])] hk rfl (by as_aux_lemma => kernel_rfl) (.cons (bursaryref18_Extend_m c11_0_1 c11_1_1 c11_2_1) (.cons (by first | rfl | (simp only [T.ids, idsL, er_ids, List.append_nil, List.nil_append]; rfl) : subN (idsL [.agg [t64 c11_0_1, t64 c11_1_1, t64 c11_2_1]]) [] = true) .nil)) ?_
                            clear hk; intro k hk
                            refine Go.bnd (Pf := (fun z : Lo (UInt64 × UInt64 × UInt64 × UInt64 × UInt64 × UInt64) (Bool) => (PostX Γ bursarylaw18_NonceRuns_enc) (Lo.el z (fun z : UInt64 × UInt64 × UInt64 × UInt64 × UInt64 × UInt64 => bursarylaw18_NonceRuns_k1 z.1 z.2.1 z.2.2.1 z.2.2.2.1 z.2.2.2.2.1 z.2.2.2.2.2)))) (v := (bursaryref18_Extend c11_0_1 c11_1_1 c11_2_1)) (fun x9 => [(2, .sl 1 g_a2 a2.length (bos a2)), (15, .addr 10 0), (17, .addr 11 0), (18, ti t181), (19, t64 x8.1), (20, er 82 x8.2.1), (21, .addr 12 0), (22, ti x9.2)]) (fun x9 => [(10, [t64 ((x8.2.2).1), t64 ((x8.2.2).2.1), t64 ((x8.2.2).2.2)]), (11, [t64 c11_0_1, t64 c11_1_1, t64 c11_2_1]), (12, [t64 ((x9.1).1), t64 ((x9.1).2.1), t64 ((x9.1).2.2)])]) ?_
                            intro x9 hx9
                            refine Go.rx 20 { ps := [20] } [12] [2, 15, 17, 18, 19, 20, 22] _ [(2, .sl 1 g_a2 a2.length (bos a2)), (15, .addr 10 0), (17, .addr 11 0), (18, ti t181), (19, t64 x8.1), (20, er 82 x8.2.1), (22, ti x9.2)] [(10, [t64 ((x8.2.2).1), t64 ((x8.2.2).2.1), t64 ((x8.2.2).2.2)]), (11, [t64 ((x9.1).1), t64 ((x9.1).2.1), t64 ((x9.1).2.2)])] hk rfl (by as_aux_lemma => kernel_rfl) (.cons (er_mem (i := 12) 82 x8.2.1) .nil) ?_
                            clear hk; intro k hk
                            refine Go.regJ 20 [(2, .sl 1 g_a2 a2.length (bos a2)), (15, .addr 10 0), (17, .addr 11 0), (18, ti t181), (167, tb (((id x8.2.1) != x9.2) || (bif x9.2 == 0 then (x8.1 != ((x9.1).2.1)) || ((x9.2 != 0) && (x8.1 != 0)) else (x9.2 != 0) && (x8.1 != 0))))] [(10, [t64 ((x8.2.2).1), t64 ((x8.2.2).2.1), t64 ((x8.2.2).2.2)]), (11, [t64 ((x9.1).1), t64 ((x9.1).2.1), t64 ((x9.1).2.2)])] hk rfl ?_ ?_
                            · clear hk; intro k hk
                              refine Go.bnd (Pf := (fun z : Lo (UInt64 × UInt64 × UInt64 × UInt64 × UInt64 × UInt64) (Bool) => (PostX Γ bursarylaw18_NonceRuns_enc) (Lo.el z (fun z : UInt64 × UInt64 × UInt64 × UInt64 × UInt64 × UInt64 => bursarylaw18_NonceRuns_k1 z.1 z.2.1 z.2.2.1 z.2.2.2.1 z.2.2.2.2.1 z.2.2.2.2.2)))) (v := (id x8.2.1)) (fun x10 => [(2, .sl 1 g_a2 a2.length (bos a2)), (15, .addr 10 0), (17, .addr 11 0), (18, ti t181), (167, tb ((x10 != x9.2) || (bif x9.2 == 0 then (x8.1 != ((x9.1).2.1)) || ((x9.2 != 0) && (x8.1 != 0)) else (x9.2 != 0) && (x8.1 != 0))))]) (fun x10 => [(10, [t64 ((x8.2.2).1), t64 ((x8.2.2).2.1), t64 ((x8.2.2).2.2)]), (11, [t64 ((x9.1).1), t64 ((x9.1).2.1), t64 ((x9.1).2.2)])]) ?_
                              intro x10 hx10
                              refine Go.br 20 (Pf := (fun z : Lo (UInt64 × UInt64 × UInt64 × UInt64 × UInt64 × UInt64) (Bool) => (PostX Γ bursarylaw18_NonceRuns_enc) (Lo.el z (fun z : UInt64 × UInt64 × UInt64 × UInt64 × UInt64 × UInt64 => bursarylaw18_NonceRuns_k1 z.1 z.2.1 z.2.2.1 z.2.2.2.1 z.2.2.2.2.1 z.2.2.2.2.2)))) hk rfl rfl ?_ ?_ <;> clear hk <;> intro ct7 k hk
                              · refine Go.rx 20 {} [10, 11] [6] _ [(6, tb false)] [] hk rfl (by as_aux_lemma => kernel_rfl) .nil ?_
                                clear hk; intro k hk
                                exact Go.lvx 20 [] _ [tb false] Tryd.func7 hk rfl (by as_aux_lemma => kernel_rfl) .nil (T.Le.of_eq rfl) rfl rfl .nil
                              · have ct71 : (x10 != x9.2) = false := (Bool.or_eq_false_iff.1 ct7).1
                                have ct72 : (bif x9.2 == 0 then (x8.1 != ((x9.1).2.1)) || ((x9.2 != 0) && (x8.1 != 0)) else (x9.2 != 0) && (x8.1 != 0)) = false := (Bool.or_eq_false_iff.1 ct7).2
                                have ct71p := neIf ct71
                                refine Go.split (Pf := (fun z : Lo (UInt64 × UInt64 × UInt64 × UInt64 × UInt64 × UInt64) (Bool) => (PostX Γ bursarylaw18_NonceRuns_enc) (Lo.el z (fun z : UInt64 × UInt64 × UInt64 × UInt64 × UInt64 × UInt64 => bursarylaw18_NonceRuns_k1 z.1 z.2.1 z.2.2.1 z.2.2.2.1 z.2.2.2.2.1 z.2.2.2.2.2)))) (((nonce_Counter_Mark ((x8.2.2).1) ((x8.2.2).2.1) ((x8.2.2).2.2)).1) != ((x9.1).2.1)) ?_ ?_ <;> intro p2
                                · refine Go.dx 20 [0, 1, 2, 3, 4, 5, 6, 7, 8, 9, 10, 11, 12, 13, 14] { ws := [(1, { call := some { ids := [10], S := [10], M := [], R := t64 ((nonce_Counter_Mark ((x8.2.2).1) ((x8.2.2).2.1) ((x8.2.2).2.2)).1), H' := [(10, [t64 (((nonce_Counter_Mark ((x8.2.2).1) ((x8.2.2).2.1) ((x8.2.2).2.2)).2).1), t64 (((nonce_Counter_Mark ((x8.2.2).1) ((x8.2.2).2.1) ((x8.2.2).2.2)).2).2.1), t64 (((nonce_Counter_Mark ((x8.2.2).1) ((x8.2.2).2.1) ((x8.2.2).2.2)).2).2.2)])] } }), (4, { v := some (tb true) })] } [] [2, 15, 17, 18, 203] _ [(2, .sl 1 g_a2 a2.length (bos a2)), (15, .addr 10 0), (17, .addr 11 0), (18, ti t181), (203, tb true)] [(10, [t64 (((nonce_Counter_Mark ((x8.2.2).1) ((x8.2.2).2.1) ((x8.2.2).2.2)).2).1), t64 (((nonce_Counter_Mark ((x8.2.2).1) ((x8.2.2).2.1) ((x8.2.2).2.2)).2).2.1), t64 (((nonce_Counter_Mark ((x8.2.2).1) ((x8.2.2).2.1) ((x8.2.2).2.2)).2).2.2)]), (11, [t64 ((x9.1).1), t64 ((x9.1).2.1), t64 ((x9.1).2.2)])] hk rfl (by as_aux_lemma => kernel_rfl) (.cons (Meets.swp [(0, 10)] (nonce_Counter_Mark_m ((x8.2.2).1) ((x8.2.2).2.1) ((x8.2.2).2.2)) (.cons (.addr rfl 0) .nil) (.cons rfl (.same (by first | rfl | (simp only [T.ids, idsL, er_ids, List.append_nil, List.nil_append] <;> rfl))) .nil) rfl (.same (by first | rfl | (simp only [T.ids, idsL, er_ids, List.append_nil, List.nil_append] <;> rfl))) (.cons rfl (.same (by first | rfl | (simp only [T.ids, idsL, er_ids, List.append_nil, List.nil_append] <;> rfl))) .nil) : Meets Tryd.prog 29 [.addr 10 0] [(10, [t64 ((x8.2.2).1), t64 ((x8.2.2).2.1), t64 ((x8.2.2).2.2)])] [10] (t64 ((nonce_Counter_Mark ((x8.2.2).1) ((x8.2.2).2.1) ((x8.2.2).2.2)).1)) [(10, [t64 (((nonce_Counter_Mark ((x8.2.2).1) ((x8.2.2).2.1) ((x8.2.2).2.2)).2).1), t64 (((nonce_Counter_Mark ((x8.2.2).1) ((x8.2.2).2.1) ((x8.2.2).2.2)).2).2.1), t64 (((nonce_Counter_Mark ((x8.2.2).1) ((x8.2.2).2.1) ((x8.2.2).2.2)).2).2.2)])]) (.cons (by first | rfl | (simp only [T.ids, idsL, er_ids, List.append_nil, List.nil_append]; rfl) : subN (idsL [.addr 10 0]) [10] = true) (.cons (by first | rfl | (simp only [T.ids, idsL, er_ids, List.append_nil, List.nil_append]; rfl) : subN (idsL [t64 ((x8.2.2).1), t64 ((x8.2.2).2.1), t64 ((x8.2.2).2.2)]) [10] = true) (.cons trivial (.cons ((neB64 ((nonce_Counter_Mark ((x8.2.2).1) ((x8.2.2).2.1) ((x8.2.2).2.2)).1) ((x9.1).2.1)).trans (eb p2)) .nil))))) ?_
                                  clear hk; intro k hk
                                  refine Go.bnd (Pf := (fun z : Lo (UInt64 × UInt64 × UInt64 × UInt64 × UInt64 × UInt64) (Bool) => (PostX Γ bursarylaw18_NonceRuns_enc) (Lo.el z (fun z : UInt64 × UInt64 × UInt64 × UInt64 × UInt64 × UInt64 => bursarylaw18_NonceRuns_k1 z.1 z.2.1 z.2.2.1 z.2.2.2.1 z.2.2.2.2.1 z.2.2.2.2.2)))) (v := (nonce_Counter_Mark ((x8.2.2).1) ((x8.2.2).2.1) ((x8.2.2).2.2))) (fun x11 => [(2, .sl 1 g_a2 a2.length (bos a2)), (15, .addr 10 0), (17, .addr 11 0), (18, ti t181), (203, tb true)]) (fun x11 => [(10, [t64 ((x11.2).1), t64 ((x11.2).2.1), t64 ((x11.2).2.2)]), (11, [t64 ((x9.1).1), t64 ((x9.1).2.1), t64 ((x9.1).2.2)])]) ?_
                                  intro x11 hx11
                                  refine Go.cond 20 hk rfl (t := true) rfl ?_; clear hk; intro k hk
                                  refine Go.rx 20 {} [10, 11] [6] _ [(6, tb false)] [] hk rfl (by as_aux_lemma => kernel_rfl) .nil ?_
                                  clear hk; intro k hk
                                  exact Go.lvx 20 [] _ [tb false] Tryd.func7 hk rfl (by as_aux_lemma => kernel_rfl) .nil (T.Le.of_eq rfl) rfl rfl .nil
                                · refine Go.dx 20 [0, 1, 2, 3, 4, 5, 6, 7, 8, 9, 10, 11, 12, 13, 14] { ws := [(1, { call := some { ids := [10], S := [10], M := [], R := t64 ((nonce_Counter_Mark ((x8.2.2).1) ((x8.2.2).2.1) ((x8.2.2).2.2)).1), H' := [(10, [t64 (((nonce_Counter_Mark ((x8.2.2).1) ((x8.2.2).2.1) ((x8.2.2).2.2)).2).1), t64 (((nonce_Counter_Mark ((x8.2.2).1) ((x8.2.2).2.1) ((x8.2.2).2.2)).2).2.1), t64 (((nonce_Counter_Mark ((x8.2.2).1) ((x8.2.2).2.1) ((x8.2.2).2.2)).2).2.2)])] } }), (4, { v := some (tb false) }), (7, { call := some { ids := [10], S := [10], M := [], R := t64 ((nonce_Counter_Left (((nonce_Counter_Mark ((x8.2.2).1) ((x8.2.2).2.1) ((x8.2.2).2.2)).2).1) (((nonce_Counter_Mark ((x8.2.2).1) ((x8.2.2).2.1) ((x8.2.2).2.2)).2).2.1) (((nonce_Counter_Mark ((x8.2.2).1) ((x8.2.2).2.1) ((x8.2.2).2.2)).2).2.2)).1), H' := [(10, [t64 (((nonce_Counter_Left (((nonce_Counter_Mark ((x8.2.2).1) ((x8.2.2).2.1) ((x8.2.2).2.2)).2).1) (((nonce_Counter_Mark ((x8.2.2).1) ((x8.2.2).2.1) ((x8.2.2).2.2)).2).2.1) (((nonce_Counter_Mark ((x8.2.2).1) ((x8.2.2).2.1) ((x8.2.2).2.2)).2).2.2)).2).1), t64 (((nonce_Counter_Left (((nonce_Counter_Mark ((x8.2.2).1) ((x8.2.2).2.1) ((x8.2.2).2.2)).2).1) (((nonce_Counter_Mark ((x8.2.2).1) ((x8.2.2).2.1) ((x8.2.2).2.2)).2).2.1) (((nonce_Counter_Mark ((x8.2.2).1) ((x8.2.2).2.1) ((x8.2.2).2.2)).2).2.2)).2).2.1), t64 (((nonce_Counter_Left (((nonce_Counter_Mark ((x8.2.2).1) ((x8.2.2).2.1) ((x8.2.2).2.2)).2).1) (((nonce_Counter_Mark ((x8.2.2).1) ((x8.2.2).2.1) ((x8.2.2).2.2)).2).2.1) (((nonce_Counter_Mark ((x8.2.2).1) ((x8.2.2).2.1) ((x8.2.2).2.2)).2).2.2)).2).2.2)])] } }), (12, { v := some (t64 (((x9.1).2.1) - ((x9.1).1))) }), (13, { v := some (tb (((nonce_Counter_Left (((nonce_Counter_Mark ((x8.2.2).1) ((x8.2.2).2.1) ((x8.2.2).2.2)).2).1) (((nonce_Counter_Mark ((x8.2.2).1) ((x8.2.2).2.1) ((x8.2.2).2.2)).2).2.1) (((nonce_Counter_Mark ((x8.2.2).1) ((x8.2.2).2.1) ((x8.2.2).2.2)).2).2.2)).1) != (((x9.1).2.1) - ((x9.1).1)))) })] } [] [2, 15, 17, 18, 203] _ [(2, .sl 1 g_a2 a2.length (bos a2)), (15, .addr 10 0), (17, .addr 11 0), (18, ti t181), (203, tb (((nonce_Counter_Left (((nonce_Counter_Mark ((x8.2.2).1) ((x8.2.2).2.1) ((x8.2.2).2.2)).2).1) (((nonce_Counter_Mark ((x8.2.2).1) ((x8.2.2).2.1) ((x8.2.2).2.2)).2).2.1) (((nonce_Counter_Mark ((x8.2.2).1) ((x8.2.2).2.1) ((x8.2.2).2.2)).2).2.2)).1) != (((x9.1).2.1) - ((x9.1).1))))] [(10, [t64 (((nonce_Counter_Left (((nonce_Counter_Mark ((x8.2.2).1) ((x8.2.2).2.1) ((x8.2.2).2.2)).2).1) (((nonce_Counter_Mark ((x8.2.2).1) ((x8.2.2).2.1) ((x8.2.2).2.2)).2).2.1) (((nonce_Counter_Mark ((x8.2.2).1) ((x8.2.2).2.1) ((x8.2.2).2.2)).2).2.2)).2).1), t64 (((nonce_Counter_Left (((nonce_Counter_Mark ((x8.2.2).1) ((x8.2.2).2.1) ((x8.2.2).2.2)).2).1) (((nonce_Counter_Mark ((x8.2.2).1) ((x8.2.2).2.1) ((x8.2.2).2.2)).2).2.1) (((nonce_Counter_Mark ((x8.2.2).1) ((x8.2.2).2.1) ((x8.2.2).2.2)).2).2.2)).2).2.1), t64 (((nonce_Counter_Left (((nonce_Counter_Mark ((x8.2.2).1) ((x8.2.2).2.1) ((x8.2.2).2.2)).2).1) (((nonce_Counter_Mark ((x8.2.2).1) ((x8.2.2).2.1) ((x8.2.2).2.2)).2).2.1) (((nonce_Counter_Mark ((x8.2.2).1) ((x8.2.2).2.1) ((x8.2.2).2.2)).2).2.2)).2).2.2)]), (11, [t64 ((x9.1).1), t64 ((x9.1).2.1), t64 ((x9.1).2.2)])] hk rfl (by as_aux_lemma => kernel_rfl) (.cons (Meets.swp [(0, 10)] (nonce_Counter_Mark_m ((x8.2.2).1) ((x8.2.2).2.1) ((x8.2.2).2.2)) (.cons (.addr rfl 0) .nil) (.cons rfl (.same (by first | rfl | (simp only [T.ids, idsL, er_ids, List.append_nil, List.nil_append] <;> rfl))) .nil) rfl (.same (by first | rfl | (simp only [T.ids, idsL, er_ids, List.append_nil, List.nil_append] <;> rfl))) (.cons rfl (.same (by first | rfl | (simp only [T.ids, idsL, er_ids, List.append_nil, List.nil_append] <;> rfl))) .nil) : Meets Tryd.prog 29 [.addr 10 0] [(10, [t64 ((x8.2.2).1), t64 ((x8.2.2).2.1), t64 ((x8.2.2).2.2)])] [10] (t64 ((nonce_Counter_Mark ((x8.2.2).1) ((x8.2.2).2.1) ((x8.2.2).2.2)).1)) [(10, [t64 (((nonce_Counter_Mark ((x8.2.2).1) ((x8.2.2).2.1) ((x8.2.2).2.2)).2).1), t64 (((nonce_Counter_Mark ((x8.2.2).1) ((x8.2.2).2.1) ((x8.2.2).2.2)).2).2.1), t64 (((nonce_Counter_Mark ((x8.2.2).1) ((x8.2.2).2.1) ((x8.2.2).2.2)).2).2.2)])]) (.cons (by first | rfl | (simp only [T.ids, idsL, er_ids, List.append_nil, List.nil_append]; rfl) : subN (idsL [.addr 10 0]) [10] = true) (.cons (by first | rfl | (simp only [T.ids, idsL, er_ids, List.append_nil, List.nil_append]; rfl) : subN (idsL [t64 ((x8.2.2).1), t64 ((x8.2.2).2.1), t64 ((x8.2.2).2.2)]) [10] = true) (.cons trivial (.cons ((neB64 ((nonce_Counter_Mark ((x8.2.2).1) ((x8.2.2).2.1) ((x8.2.2).2.2)).1) ((x9.1).2.1)).trans (eb p2)) (.cons (Meets.swp [(0, 10)] (nonce_Counter_Left_m (((nonce_Counter_Mark ((x8.2.2).1) ((x8.2.2).2.1) ((x8.2.2).2.2)).2).1) (((nonce_Counter_Mark ((x8.2.2).1) ((x8.2.2).2.1) ((x8.2.2).2.2)).2).2.1) (((nonce_Counter_Mark ((x8.2.2).1) ((x8.2.2).2.1) ((x8.2.2).2.2)).2).2.2)) (.cons (.addr rfl 0) .nil) (.cons rfl (.same (by first | rfl | (simp only [T.ids, idsL, er_ids, List.append_nil, List.nil_append] <;> rfl))) .nil) rfl (.same (by first | rfl | (simp only [T.ids, idsL, er_ids, List.append_nil, List.nil_append] <;> rfl))) (.cons rfl (.same (by first | rfl | (simp only [T.ids, idsL, er_ids, List.append_nil, List.nil_append] <;> rfl))) .nil) : Meets Tryd.prog 30 [.addr 10 0] [(10, [t64 (((nonce_Counter_Mark ((x8.2.2).1) ((x8.2.2).2.1) ((x8.2.2).2.2)).2).1), t64 (((nonce_Counter_Mark ((x8.2.2).1) ((x8.2.2).2.1) ((x8.2.2).2.2)).2).2.1), t64 (((nonce_Counter_Mark ((x8.2.2).1) ((x8.2.2).2.1) ((x8.2.2).2.2)).2).2.2)])] [10] (t64 ((nonce_Counter_Left (((nonce_Counter_Mark ((x8.2.2).1) ((x8.2.2).2.1) ((x8.2.2).2.2)).2).1) (((nonce_Counter_Mark ((x8.2.2).1) ((x8.2.2).2.1) ((x8.2.2).2.2)).2).2.1) (((nonce_Counter_Mark ((x8.2.2).1) ((x8.2.2).2.1) ((x8.2.2).2.2)).2).2.2)).1)) [(10, [t64 (((nonce_Counter_Left (((nonce_Counter_Mark ((x8.2.2).1) ((x8.2.2).2.1) ((x8.2.2).2.2)).2).1) (((nonce_Counter_Mark ((x8.2.2).1) ((x8.2.2).2.1) ((x8.2.2).2.2)).2).2.1) (((nonce_Counter_Mark ((x8.2.2).1) ((x8.2.2).2.1) ((x8.2.2).2.2)).2).2.2)).2).1), t64 (((nonce_Counter_Left (((nonce_Counter_Mark ((x8.2.2).1) ((x8.2.2).2.1) ((x8.2.2).2.2)).2).1) (((nonce_Counter_Mark ((x8.2.2).1) ((x8.2.2).2.1) ((x8.2.2).2.2)).2).2.1) (((nonce_Counter_Mark ((x8.2.2).1) ((x8.2.2).2.1) ((x8.2.2).2.2)).2).2.2)).2).2.1), t64 (((nonce_Counter_Left (((nonce_Counter_Mark ((x8.2.2).1) ((x8.2.2).2.1) ((x8.2.2).2.2)).2).1) (((nonce_Counter_Mark ((x8.2.2).1) ((x8.2.2).2.1) ((x8.2.2).2.2)).2).2.1) (((nonce_Counter_Mark ((x8.2.2).1) ((x8.2.2).2.1) ((x8.2.2).2.2)).2).2.2)).2).2.2)])]) (.cons (by first | rfl | (simp only [T.ids, idsL, er_ids, List.append_nil, List.nil_append]; rfl) : subN (idsL [.addr 10 0]) [10] = true) (.cons (by first | rfl | (simp only [T.ids, idsL, er_ids, List.append_nil, List.nil_append]; rfl) : subN (idsL [t64 (((nonce_Counter_Mark ((x8.2.2).1) ((x8.2.2).2.1) ((x8.2.2).2.2)).2).1), t64 (((nonce_Counter_Mark ((x8.2.2).1) ((x8.2.2).2.1) ((x8.2.2).2.2)).2).2.1), t64 (((nonce_Counter_Mark ((x8.2.2).1) ((x8.2.2).2.1) ((x8.2.2).2.2)).2).2.2)]) [10] = true) (.cons trivial (.cons (sub64 ((x9.1).2.1) ((x9.1).1)) (.cons trivial (.cons (neB64 ((nonce_Counter_Left (((nonce_Counter_Mark ((x8.2.2).1) ((x8.2.2).2.1) ((x8.2.2).2.2)).2).1) (((nonce_Counter_Mark ((x8.2.2).1) ((x8.2.2).2.1) ((x8.2.2).2.2)).2).2.1) (((nonce_Counter_Mark ((x8.2.2).1) ((x8.2.2).2.1) ((x8.2.2).2.2)).2).2.2)).1) (((x9.1).2.1) - ((x9.1).1))) .nil)))))))))))) ?_
                                  clear hk; intro k hk
                                  refine Go.bnd (Pf := (fun z : Lo (UInt64 × UInt64 × UInt64 × UInt64 × UInt64 × UInt64) (Bool) => (PostX Γ bursarylaw18_NonceRuns_enc) (Lo.el z (fun z : UInt64 × UInt64 × UInt64 × UInt64 × UInt64 × UInt64 => bursarylaw18_NonceRuns_k1 z.1 z.2.1 z.2.2.1 z.2.2.2.1 z.2.2.2.2.1 z.2.2.2.2.2)))) (v := (nonce_Counter_Mark ((x8.2.2).1) ((x8.2.2).2.1) ((x8.2.2).2.2))) (fun x12 => [(2, .sl 1 g_a2 a2.length (bos a2)), (15, .addr 10 0), (17, .addr 11 0), (18, ti t181), (203, tb (((nonce_Counter_Left ((x12.2).1) ((x12.2).2.1) ((x12.2).2.2)).1) != (((x9.1).2.1) - ((x9.1).1))))]) (fun x12 => [(10, [t64 (((nonce_Counter_Left ((x12.2).1) ((x12.2).2.1) ((x12.2).2.2)).2).1), t64 (((nonce_Counter_Left ((x12.2).1) ((x12.2).2.1) ((x12.2).2.2)).2).2.1), t64 (((nonce_Counter_Left ((x12.2).1) ((x12.2).2.1) ((x12.2).2.2)).2).2.2)]), (11, [t64 ((x9.1).1), t64 ((x9.1).2.1), t64 ((x9.1).2.2)])]) ?_
                                  intro x12 hx12
                                  refine Go.br 20 (Pf := (fun z : Lo (UInt64 × UInt64 × UInt64 × UInt64 × UInt64 × UInt64) (Bool) => (PostX Γ bursarylaw18_NonceRuns_enc) (Lo.el z (fun z : UInt64 × UInt64 × UInt64 × UInt64 × UInt64 × UInt64 => bursarylaw18_NonceRuns_k1 z.1 z.2.1 z.2.2.1 z.2.2.2.1 z.2.2.2.2.1 z.2.2.2.2.2)))) hk rfl rfl ?_ ?_ <;> clear hk <;> intro ct8 k hk
                                  · refine Go.rx 20 {} [10, 11] [6] _ [(6, tb false)] [] hk rfl (by as_aux_lemma => kernel_rfl) .nil ?_
                                    clear hk; intro k hk
                                    exact Go.lvx 20 [] _ [tb false] Tryd.func7 hk rfl (by as_aux_lemma => kernel_rfl) .nil (T.Le.of_eq rfl) rfl rfl .nil
                                  · refine Go.rx 20 { ws := [(1, { v := some (ti (t181 + 1)) })] } [] [2, 15, 17, 18] _ [(2, .sl 1 g_a2 a2.length (bos a2)), (15, .addr 10 0), (17, .addr 11 0), (18, ti (t181 + 1))] [(10, [t64 (((nonce_Counter_Left ((x12.2).1) ((x12.2).2.1) ((x12.2).2.2)).2).1), t64 (((nonce_Counter_Left ((x12.2).1) ((x12.2).2.1) ((x12.2).2.2)).2).2.1), t64 (((nonce_Counter_Left ((x12.2).1) ((x12.2).2.1) ((x12.2).2.2)).2).2.2)]), (11, [t64 ((x9.1).1), t64 ((x9.1).2.1), t64 ((x9.1).2.2)])] hk rfl (by as_aux_lemma => kernel_rfl) (.cons trivial (.cons (iw (t181 + 1) (by omega)) .nil)) ?_
                                    clear hk; intro k hk
                                    exact Go.join 20 hk hl1 rfl (ihl1 (t181 + 1) (((nonce_Counter_Left ((x12.2).1) ((x12.2).2.1) ((x12.2).2.2)).2).1) (((nonce_Counter_Left ((x12.2).1) ((x12.2).2.1) ((x12.2).2.2)).2).2.1) (((nonce_Counter_Left ((x12.2).1) ((x12.2).2.1) ((x12.2).2.2)).2).2.2) ((x9.1).1) ((x9.1).2.1) ((x9.1).2.2) (by omega) (by omega))
                            · intro hk J
                              rcases Bool.eq_false_or_eq_true ((id x8.2.1) != x9.2) with gd10 | gd10
                              · have gd10p := neIt gd10
                                refine Go.rx 20 { ws := [(1, { call := some { ids := [], S := [], M := [], R := ti (id x8.2.1), H' := [] } }), (3, { v := some (tb true) })] } [] [2, 15, 17, 18, 167] _ [(2, .sl 1 g_a2 a2.length (bos a2)), (15, .addr 10 0), (17, .addr 11 0), (18, ti t181), (167, tb true)] [(10, [t64 ((x8.2.2).1), t64 ((x8.2.2).2.1), t64 ((x8.2.2).2.2)]), (11, [t64 ((x9.1).1), t64 ((x9.1).2.1), t64 ((x9.1).2.2)])] hk rfl (by as_aux_lemma => kernel_rfl) (.cons (bursarylaw18_num_m x8.2.1) (.cons (by first | rfl | (simp only [T.ids, idsL, er_ids, List.append_nil, List.nil_append]; rfl) : subN (idsL [er 82 x8.2.1]) [] = true) (.cons trivial (.cons (eb gd10) .nil)))) ?_
                                intro k' hk'
                                refine Go.slotEq 167 (tb (((id x8.2.1) != x9.2) || (bif x9.2 == 0 then (x8.1 != ((x9.1).2.1)) || ((x9.2 != 0) && (x8.1 != 0)) else (x9.2 != 0) && (x8.1 != 0)))) rfl (eb (orT gd10).symm) ?_
                                exact J k' hk'
                              · have gd10p := neIf gd10
                                rcases Bool.eq_false_or_eq_true (x9.2 == 0) with gd11 | gd11
                                · have gd11p := eqIt gd11
                                  rcases Bool.eq_false_or_eq_true (x8.1 != ((x9.1).2.1)) with gd12 | gd12
                                  · refine Go.rx 20 { ws := [(1, { call := some { ids := [], S := [], M := [], R := ti (id x8.2.1), H' := [] } }), (3, { v := some (tb false) }), (6, { v := some (tb true) }), (11, { v := some (tb true) })] } [] [2, 15, 17, 18, 167] _ [(2, .sl 1 g_a2 a2.length (bos a2)), (15, .addr 10 0), (17, .addr 11 0), (18, ti t181), (167, tb true)] [(10, [t64 ((x8.2.2).1), t64 ((x8.2.2).2.1), t64 ((x8.2.2).2.2)]), (11, [t64 ((x9.1).1), t64 ((x9.1).2.1), t64 ((x9.1).2.2)])] hk rfl (by as_aux_lemma => kernel_rfl) (.cons (bursarylaw18_num_m x8.2.1) (.cons (by first | rfl | (simp only [T.ids, idsL, er_ids, List.append_nil, List.nil_append]; rfl) : subN (idsL [er 82 x8.2.1]) [] = true) (.cons trivial (.cons (eb gd10) (.cons trivial (.cons (eb gd11) (.cons trivial (.cons ((neB64 x8.1 ((x9.1).2.1)).trans (eb gd12)) .nil)))))))) ?_
                                    intro k' hk'
                                    refine Go.slotEq 167 (tb (((id x8.2.1) != x9.2) || (bif x9.2 == 0 then (x8.1 != ((x9.1).2.1)) || ((x9.2 != 0) && (x8.1 != 0)) else (x9.2 != 0) && (x8.1 != 0)))) rfl (eb (orF gd10 ((condT gd11).trans (orT gd12))).symm) ?_
                                    exact J k' hk'
                                  · rcases Bool.eq_false_or_eq_true (x9.2 != 0) with gd13 | gd13
                                    · have gd13p := neIt gd13
                                      refine Go.rx 20 { ws := [(1, { call := some { ids := [], S := [], M := [], R := ti (id x8.2.1), H' := [] } }), (3, { v := some (tb false) }), (6, { v := some (tb true) }), (11, { v := some (tb false) }), (16, { v := some (tb true) }), (19, { v := some (tb (x8.1 != 0)) })] } [] [2, 15, 17, 18, 167] _ [(2, .sl 1 g_a2 a2.length (bos a2)), (15, .addr 10 0), (17, .addr 11 0), (18, ti t181), (167, tb (x8.1 != 0))] [(10, [t64 ((x8.2.2).1), t64 ((x8.2.2).2.1), t64 ((x8.2.2).2.2)]), (11, [t64 ((x9.1).1), t64 ((x9.1).2.1), t64 ((x9.1).2.2)])] hk rfl (by as_aux_lemma => kernel_rfl) (.cons (bursarylaw18_num_m x8.2.1) (.cons (by first | rfl | (simp only [T.ids, idsL, er_ids, List.append_nil, List.nil_append]; rfl) : subN (idsL [er 82 x8.2.1]) [] = true) (.cons trivial (.cons (eb gd10) (.cons trivial (.cons (eb gd11) (.cons trivial (.cons ((neB64 x8.1 ((x9.1).2.1)).trans (eb gd12)) (.cons trivial (.cons (eb gd13) (.cons trivial (.cons (neB64 x8.1 0) .nil)))))))))))) ?_
                                      intro k' hk'
                                      refine Go.slotEq 167 (tb (((id x8.2.1) != x9.2) || (bif x9.2 == 0 then (x8.1 != ((x9.1).2.1)) || ((x9.2 != 0) && (x8.1 != 0)) else (x9.2 != 0) && (x8.1 != 0)))) rfl (eb (orF gd10 ((condT gd11).trans (orF gd12 (andT gd13 rfl)))).symm) ?_
                                      exact J k' hk'
                                    · have gd13p := neIf gd13
                                      refine Go.rx 20 { ws := [(1, { call := some { ids := [], S := [], M := [], R := ti (id x8.2.1), H' := [] } }), (3, { v := some (tb false) }), (6, { v := some (tb true) }), (11, { v := some (tb false) }), (16, { v := some (tb false) })] } [] [2, 15, 17, 18, 167] _ [(2, .sl 1 g_a2 a2.length (bos a2)), (15, .addr 10 0), (17, .addr 11 0), (18, ti t181), (167, tb false)] [(10, [t64 ((x8.2.2).1), t64 ((x8.2.2).2.1), t64 ((x8.2.2).2.2)]), (11, [t64 ((x9.1).1), t64 ((x9.1).2.1), t64 ((x9.1).2.2)])] hk rfl (by as_aux_lemma => kernel_rfl) (.cons (bursarylaw18_num_m x8.2.1) (.cons (by first | rfl | (simp only [T.ids, idsL, er_ids, List.append_nil, List.nil_append]; rfl) : subN (idsL [er 82 x8.2.1]) [] = true) (.cons trivial (.cons (eb gd10) (.cons trivial (.cons (eb gd11) (.cons trivial (.cons ((neB64 x8.1 ((x9.1).2.1)).trans (eb gd12)) (.cons trivial (.cons (eb gd13) .nil)))))))))) ?_
                                      intro k' hk'
                                      refine Go.slotEq 167 (tb (((id x8.2.1) != x9.2) || (bif x9.2 == 0 then (x8.1 != ((x9.1).2.1)) || ((x9.2 != 0) && (x8.1 != 0)) else (x9.2 != 0) && (x8.1 != 0)))) rfl (eb (orF gd10 ((condT gd11).trans (orF gd12 (andF gd13)))).symm) ?_
                                      exact J k' hk'
                                · have gd11p := eqIf gd11
                                  rcases Bool.eq_false_or_eq_true (x9.2 != 0) with gd14 | gd14
                                  · have gd14p := neIt gd14
                                    refine Go.rx 20 { ws := [(1, { call := some { ids := [], S := [], M := [], R := ti (id x8.2.1), H' := [] } }), (3, { v := some (tb false) }), (6, { v := some (tb false) }), (16, { v := some (tb true) }), (19, { v := some (tb (x8.1 != 0)) })] } [] [2, 15, 17, 18, 167] _ [(2, .sl 1 g_a2 a2.length (bos a2)), (15, .addr 10 0), (17, .addr 11 0), (18, ti t181), (167, tb (x8.1 != 0))] [(10, [t64 ((x8.2.2).1), t64 ((x8.2.2).2.1), t64 ((x8.2.2).2.2)]), (11, [t64 ((x9.1).1), t64 ((x9.1).2.1), t64 ((x9.1).2.2)])] hk rfl (by as_aux_lemma => kernel_rfl) (.cons (bursarylaw18_num_m x8.2.1) (.cons (by first | rfl | (simp only [T.ids, idsL, er_ids, List.append_nil, List.nil_append]; rfl) : subN (idsL [er 82 x8.2.1]) [] = true) (.cons trivial (.cons (eb gd10) (.cons trivial (.cons (eb gd11) (.cons trivial (.cons (eb gd14) (.cons trivial (.cons (neB64 x8.1 0) .nil)))))))))) ?_
                                    intro k' hk'
                                    refine Go.slotEq 167 (tb (((id x8.2.1) != x9.2) || (bif x9.2 == 0 then (x8.1 != ((x9.1).2.1)) || ((x9.2 != 0) && (x8.1 != 0)) else (x9.2 != 0) && (x8.1 != 0)))) rfl (eb (orF gd10 ((condF gd11).trans (andT gd14 rfl))).symm) ?_
                                    exact J k' hk'
                                  · have gd14p := neIf gd14
                                    refine Go.rx 20 { ws := [(1, { call := some { ids := [], S := [], M := [], R := ti (id x8.2.1), H' := [] } }), (3, { v := some (tb false) }), (6, { v := some (tb false) }), (16, { v := some (tb false) })] } [] [2, 15, 17, 18, 167] _ [(2, .sl 1 g_a2 a2.length (bos a2)), (15, .addr 10 0), (17, .addr 11 0), (18, ti t181), (167, tb false)] [(10, [t64 ((x8.2.2).1), t64 ((x8.2.2).2.1), t64 ((x8.2.2).2.2)]), (11, [t64 ((x9.1).1), t64 ((x9.1).2.1), t64 ((x9.1).2.2)])] hk rfl (by as_aux_lemma => kernel_rfl) (.cons (bursarylaw18_num_m x8.2.1) (.cons (by first | rfl | (simp only [T.ids, idsL, er_ids, List.append_nil, List.nil_append]; rfl) : subN (idsL [er 82 x8.2.1]) [] = true) (.cons trivial (.cons (eb gd10) (.cons trivial (.cons (eb gd11) (.cons trivial (.cons (eb gd14) .nil)))))))) ?_
                                    intro k' hk'
                                    refine Go.slotEq 167 (tb (((id x8.2.1) != x9.2) || (bif x9.2 == 0 then (x8.1 != ((x9.1).2.1)) || ((x9.2 != 0) && (x8.1 != 0)) else (x9.2 != 0) && (x8.1 != 0)))) rfl (eb (orF gd10 ((condF gd11).trans (andF gd14))).symm) ?_
                                    exact J k' hk'
                          · refine Go.rx 20 { ws := [(1, { call := some { ids := [10], S := [10], M := [], R := .tup [t64 ((nonce_Counter_Take c10_0_1 c10_1_1 c10_2_1).1), er 82 ((nonce_Counter_Take c10_0_1 c10_1_1 c10_2_1).2.1)], H' := [(10, [t64 (((nonce_Counter_Take c10_0_1 c10_1_1 c10_2_1).2.2).1), t64 (((nonce_Counter_Take c10_0_1 c10_1_1 c10_2_1).2.2).2.1), t64 (((nonce_Counter_Take c10_0_1 c10_1_1 c10_2_1).2.2).2.2)])] } })] } [] [2, 15, 17, 18, 23, 24] _ [(2, .sl 1 g_a2 a2.length (bos a2)), (15, .addr 10 0), (17, .addr 11 0), (18, ti t181), (23, t64 ((nonce_Counter_Take c10_0_1 c10_1_1 c10_2_1).1)), (24, er 82 ((nonce_Counter_Take c10_0_1 c10_1_1 c10_2_1).2.1))] [(10, [t64 (((nonce_Counter_Take c10_0_1 c10_1_1 c10_2_1).2.2).1), t64 (((nonce_Counter_Take c10_0_1 c10_1_1 c10_2_1).2.2).2.1), t64 (((nonce_Counter_Take c10_0_1 c10_1_1 c10_2_1).2.2).2.2)]), (11, [t64 c11_0_1, t64 c11_1_1, t64 c11_2_1])] hk rfl (by as_aux_lemma => kernel_rfl) (.cons (Meets.swp [(0, 10)] (nonce_Counter_Take_m c10_0_1 c10_1_1 c10_2_1) (.cons (.addr rfl 0) .nil) (.cons rfl (.same (by first | rfl | (simp only [T.ids, idsL, er_ids, List.append_nil, List.nil_append] <;> rfl))) .nil) rfl (.same (by first | rfl | (simp only [T.ids, idsL, er_ids, List.append_nil, List.nil_append] <;> rfl))) (.cons rfl (.same (by first | rfl | (simp only [T.ids, idsL, er_ids, List.append_nil, List.nil_append] <;> rfl))) .nil) : Meets Tryd.prog 27 [.addr 10 0] [(10, [t64 c10_0_1, t64 c10_1_1, t64 c10_2_1])] [10] (.tup [t64 ((nonce_Counter_Take c10_0_1 c10_1_1 c10_2_1).1), er 82 ((nonce_Counter_Take c10_0_1 c10_1_1 c10_2_1).2.1)]) [(10, [t64 (((nonce_Counter_Take c10_0_1 c10_1_1 c10_2_1).2.2).1), t64 (((nonce_Counter_Take c10_0_1 c10_1_1 c10_2_1).2.2).2.1), t64 (((nonce_Counter_Take c10_0_1 c10_1_1 c10_2_1).2.2).2.2)])]) (.cons (by first | rfl | (simp only [T.ids, idsL, er_ids, List.append_nil, List.nil_append]; rfl) : subN (idsL [.addr 10 0]) [10] = true) (.cons (by first | rfl | (simp only [T.ids, idsL, er_ids, List.append_nil, List.nil_append]; rfl) : subN (idsL [t64 c10_0_1, t64 c10_1_1, t64 c10_2_1]) [10] = true) .nil))) ?_
                            clear hk; intro k hk
                            refine Go.bnd (Pf := (fun z : Lo (UInt64 × UInt64 × UInt64 × UInt64 × UInt64 × UInt64) (Bool) => (PostX Γ bursarylaw18_NonceRuns_enc) (Lo.el z (fun z : UInt64 × UInt64 × UInt64 × UInt64 × UInt64 × UInt64 => bursarylaw18_NonceRuns_k1 z.1 z.2.1 z.2.2.1 z.2.2.2.1 z.2.2.2.2.1 z.2.2.2.2.2)))) (v := (nonce_Counter_Take c10_0_1 c10_1_1 c10_2_1)) (fun x13 => [(2, .sl 1 g_a2 a2.length (bos a2)), (15, .addr 10 0), (17, .addr 11 0), (18, ti t181), (23, t64 x13.1), (24, er 82 x13.2.1)]) (fun x13 => [(10, [t64 ((x13.2.2).1), t64 ((x13.2.2).2.1), t64 ((x13.2.2).2.2)]), (11, [t64 c11_0_1, t64 c11_1_1, t64 c11_2_1])]) ?_
                            intro x13 hx13
                            refine Go.rx 20 { ws := [(1, { call := some { ids := [], S := [], M := [], R := .tup [.agg [t64 (((bursaryref18_Take c11_0_1 c11_1_1 c11_2_1).1).1), t64 (((bursaryref18_Take c11_0_1 c11_1_1 c11_2_1).1).2.1), t64 (((bursaryref18_Take c11_0_1 c11_1_1 c11_2_1).1).2.2)], t64 ((bursaryref18_Take c11_0_1 c11_1_1 c11_2_1).2.1), ti ((bursaryref18_Take c11_0_1 c11_1_1 c11_2_1).2.2)], H' := [] } }), (6, { id := 13 })] } [] [2, 15, 17, 18, 23, 24, 25, 26, 27] _ [(2, .sl 1 g_a2 a2.length (bos a2)), (15, .addr 10 0), (17, .addr 11 0), (18, ti t181), (23, t64 x13.1), (24, er 82 x13.2.1), (25, .addr 13 0), (26, t64 ((bursaryref18_Take c11_0_1 c11_1_1 c11_2_1).2.1)), (27, ti ((bursaryref18_Take c11_0_1 c11_1_1 c11_2_1).2.2))] [(10, [t64 ((x13.2.2).1), t64 ((x13.2.2).2.1), t64 ((x13.2.2).2.2)]), (11, [t64 c11_0_1, t64 c11_1_1, t64 c11_2_1]), (13, [t64 (((bursaryref18_Take c11_0_1 c11_1_1 c11_2_1).1).1), t64 (((bursaryref18_Take c11_0_1 c11_1_1 c11_2_1).1).2.1), t64 (((bursaryref18_Take c11_0_1 c11_1_1 c11_2_1).1).2.2)])] hk rfl (by as_aux_lemma => kernel_rfl) (.cons (bursaryref18_Take_m c11_0_1 c11_1_1 c11_2_1) (.cons (by first | rfl | (simp only [T.ids, idsL, er_ids, List.append_nil, List.nil_append]; rfl) : subN (idsL [.agg [t64 c11_0_1, t64 c11_1_1, t64 c11_2_1]]) [] = true) .nil)) ?_
                            clear hk; intro k hk
                            refine Go.bnd (Pf := (fun z : Lo (UInt64 × UInt64 × UInt64 × UInt64 × UInt64 × UInt64) (Bool) => (PostX Γ bursarylaw18_NonceRuns_enc) (Lo.el z (fun z : UInt64 × UInt64 × UInt64 × UInt64 × UInt64 × UInt64 => bursarylaw18_NonceRuns_k1 z.1 z.2.1 z.2.2.1 z.2.2.2.1 z.2.2.2.2.1 z.2.2.2.2.2)))) (v := (bursaryref18_Take c11_0_1 c11_1_1 c11_2_1)) (fun x14 => [(2, .sl 1 g_a2 a2.length (bos a2)), (15, .addr 10 0), (17, .addr 11 0), (18, ti t181), (23, t64 x13.1), (24, er 82 x13.2.1), (25, .addr 13 0), (26, t64 x14.2.1), (27, ti x14.2.2)]) (fun x14 => [(10, [t64 ((x13.2.2).1), t64 ((x13.2.2).2.1), t64 ((x13.2.2).2.2)]), (11, [t64 c11_0_1, t64 c11_1_1, t64 c11_2_1]), (13, [t64 ((x14.1).1), t64 ((x14.1).2.1), t64 ((x14.1).2.2)])]) ?_
                            intro x14 hx14
                            refine Go.rx 20 { ps := [24] } [13] [2, 15, 17, 18, 23, 24, 26, 27] _ [(2, .sl 1 g_a2 a2.length (bos a2)), (15, .addr 10 0), (17, .addr 11 0), (18, ti t181), (23, t64 x13.1), (24, er 82 x13.2.1), (26, t64 x14.2.1), (27, ti x14.2.2)] [(10, [t64 ((x13.2.2).1), t64 ((x13.2.2).2.1), t64 ((x13.2.2).2.2)]), (11, [t64 ((x14.1).1), t64 ((x14.1).2.1), t64 ((x14.1).2.2)])] hk rfl (by as_aux_lemma => kernel_rfl) (.cons (er_mem (i := 13) 82 x13.2.1) .nil) ?_
                            clear hk; intro k hk
                            refine Go.regJ 20 [(2, .sl 1 g_a2 a2.length (bos a2)), (15, .addr 10 0), (17, .addr 11 0), (18, ti t181), (188, tb (((id x13.2.1) != x14.2.2) || (x13.1 != x14.2.1)))] [(10, [t64 ((x13.2.2).1), t64 ((x13.2.2).2.1), t64 ((x13.2.2).2.2)]), (11, [t64 ((x14.1).1), t64 ((x14.1).2.1), t64 ((x14.1).2.2)])] hk rfl ?_ ?_
                            · clear hk; intro k hk
                              refine Go.bnd (Pf := (fun z : Lo (UInt64 × UInt64 × UInt64 × UInt64 × UInt64 × UInt64) (Bool) => (PostX Γ bursarylaw18_NonceRuns_enc) (Lo.el z (fun z : UInt64 × UInt64 × UInt64 × UInt64 × UInt64 × UInt64 => bursarylaw18_NonceRuns_k1 z.1 z.2.1 z.2.2.1 z.2.2.2.1 z.2.2.2.2.1 z.2.2.2.2.2)))) (v := (id x13.2.1)) (fun x15 => [(2, .sl 1 g_a2 a2.length (bos a2)), (15, .addr 10 0), (17, .addr 11 0), (18, ti t181), (188, tb ((x15 != x14.2.2) || (x13.1 != x14.2.1)))]) (fun x15 => [(10, [t64 ((x13.2.2).1), t64 ((x13.2.2).2.1), t64 ((x13.2.2).2.2)]), (11, [t64 ((x14.1).1), t64 ((x14.1).2.1), t64 ((x14.1).2.2)])]) ?_
                              intro x15 hx15
                              refine Go.br 20 (Pf := (fun z : Lo (UInt64 × UInt64 × UInt64 × UInt64 × UInt64 × UInt64) (Bool) => (PostX Γ bursarylaw18_NonceRuns_enc) (Lo.el z (fun z : UInt64 × UInt64 × UInt64 × UInt64 × UInt64 × UInt64 => bursarylaw18_NonceRuns_k1 z.1 z.2.1 z.2.2.1 z.2.2.2.1 z.2.2.2.2.1 z.2.2.2.2.2)))) hk rfl rfl ?_ ?_ <;> clear hk <;> intro ct9 k hk
                              · refine Go.rx 20 {} [10, 11] [6] _ [(6, tb false)] [] hk rfl (by as_aux_lemma => kernel_rfl) .nil ?_
                                clear hk; intro k hk
                                exact Go.lvx 20 [] _ [tb false] Tryd.func7 hk rfl (by as_aux_lemma => kernel_rfl) .nil (T.Le.of_eq rfl) rfl rfl .nil
                              · have ct91 : (x15 != x14.2.2) = false := (Bool.or_eq_false_iff.1 ct9).1
                                have ct92 : (x13.1 != x14.2.1) = false := (Bool.or_eq_false_iff.1 ct9).2
                                have ct91p := neIf ct91
                                refine Go.split (Pf := (fun z : Lo (UInt64 × UInt64 × UInt64 × UInt64 × UInt64 × UInt64) (Bool) => (PostX Γ bursarylaw18_NonceRuns_enc) (Lo.el z (fun z : UInt64 × UInt64 × UInt64 × UInt64 × UInt64 × UInt64 => bursarylaw18_NonceRuns_k1 z.1 z.2.1 z.2.2.1 z.2.2.2.1 z.2.2.2.2.1 z.2.2.2.2.2)))) (((nonce_Counter_Mark ((x13.2.2).1) ((x13.2.2).2.1) ((x13.2.2).2.2)).1) != ((x14.1).2.1)) ?_ ?_ <;> intro p3
                                · refine Go.dx 20 [0, 1, 2, 3, 4, 5, 6, 7, 8, 9, 10, 11, 12, 13, 14] { ws := [(1, { call := some { ids := [10], S := [10], M := [], R := t64 ((nonce_Counter_Mark ((x13.2.2).1) ((x13.2.2).2.1) ((x13.2.2).2.2)).1), H' := [(10, [t64 (((nonce_Counter_Mark ((x13.2.2).1) ((x13.2.2).2.1) ((x13.2.2).2.2)).2).1), t64 (((nonce_Counter_Mark ((x13.2.2).1) ((x13.2.2).2.1) ((x13.2.2).2.2)).2).2.1), t64 (((nonce_Counter_Mark ((x13.2.2).1) ((x13.2.2).2.1) ((x13.2.2).2.2)).2).2.2)])] } }), (4, { v := some (tb true) })] } [] [2, 15, 17, 18, 203] _ [(2, .sl 1 g_a2 a2.length (bos a2)), (15, .addr 10 0), (17, .addr 11 0), (18, ti t181), (203, tb true)] [(10, [t64 (((nonce_Counter_Mark ((x13.2.2).1) ((x13.2.2).2.1) ((x13.2.2).2.2)).2).1), t64 (((nonce_Counter_Mark ((x13.2.2).1) ((x13.2.2).2.1) ((x13.2.2).2.2)).2).2.1), t64 (((nonce_Counter_Mark ((x13.2.2).1) ((x13.2.2).2.1) ((x13.2.2).2.2)).2).2.2)]), (11, [t64 ((x14.1).1), t64 ((x14.1).2.1), t64 ((x14.1).2.2)])] hk rfl (by as_aux_lemma => kernel_rfl) (.cons (Meets.swp [(0, 10)] (nonce_Counter_Mark_m ((x13.2.2).1) ((x13.2.2).2.1) ((x13.2.2).2.2)) (.cons (.addr rfl 0) .nil) (.cons rfl (.same (by first | rfl | (simp only [T.ids, idsL, er_ids, List.append_nil, List.nil_append] <;> rfl))) .nil) rfl (.same (by first | rfl | (simp only [T.ids, idsL, er_ids, List.append_nil, List.nil_append] <;> rfl))) (.cons rfl (.same (by first | rfl | (simp only [T.ids, idsL, er_ids, List.append_nil, List.nil_append] <;> rfl))) .nil) : Meets Tryd.prog 29 [.addr 10 0] [(10, [t64 ((x13.2.2).1), t64 ((x13.2.2).2.1), t64 ((x13.2.2).2.2)])] [10] (t64 ((nonce_Counter_Mark ((x13.2.2).1) ((x13.2.2).2.1) ((x13.2.2).2.2)).1)) [(10, [t64 (((nonce_Counter_Mark ((x13.2.2).1) ((x13.2.2).2.1) ((x13.2.2).2.2)).2).1), t64 (((nonce_Counter_Mark ((x13.2.2).1) ((x13.2.2).2.1) ((x13.2.2).2.2)).2).2.1), t64 (((nonce_Counter_Mark ((x13.2.2).1) ((x13.2.2).2.1) ((x13.2.2).2.2)).2).2.2)])]) (.cons (by first | rfl | (simp only [T.ids, idsL, er_ids, List.append_nil, List.nil_append]; rfl) : subN (idsL [.addr 10 0]) [10] = true) (.cons (by first | rfl | (simp only [T.ids, idsL, er_ids, List.append_nil, List.nil_append]; rfl) : subN (idsL [t64 ((x13.2.2).1), t64 ((x13.2.2).2.1), t64 ((x13.2.2).2.2)]) [10] = true) (.cons trivial (.cons ((neB64 ((nonce_Counter_Mark ((x13.2.2).1) ((x13.2.2).2.1) ((x13.2.2).2.2)).1) ((x14.1).2.1)).trans (eb p3)) .nil))))) ?_
                                  clear hk; intro k hk
                                  refine Go.bnd (Pf := (fun z : Lo (UInt64 × UInt64 × UInt64 × UInt64 × UInt64 × UInt64) (Bool) => (PostX Γ bursarylaw18_NonceRuns_enc) (Lo.el z (fun z : UInt64 × UInt64 × UInt64 × UInt64 × UInt64 × UInt64 => bursarylaw18_NonceRuns_k1 z.1 z.2.1 z.2.2.1 z.2.2.2.1 z.2.2.2.2.1 z.2.2.2.2.2)))) (v := (nonce_Counter_Mark ((x13.2.2).1) ((x13.2.2).2.1) ((x13.2.2).2.2))) (fun x16 => [(2, .sl 1 g_a2 a2.length (bos a2)), (15, .addr 10 0), (17, .addr 11 0), (18, ti t181), (203, tb true)]) (fun x16 => [(10, [t64 ((x16.2).1), t64 ((x16.2).2.1), t64 ((x16.2).2.2)]), (11, [t64 ((x14.1).1), t64 ((x14.1).2.1), t64 ((x14.1).2.2)])]) ?_
                                  intro x16 hx16
                                  refine Go.cond 20 hk rfl (t := true) rfl ?_; clear hk; intro k hk
                                  refine Go.rx 20 {} [10, 11] [6] _ [(6, tb false)] [] hk rfl (by as_aux_lemma => kernel_rfl) .nil ?_
                                  clear hk; intro k hk
                                  exact Go.lvx 20 [] _ [tb false] Tryd.func7 hk rfl (by as_aux_lemma => kernel_rfl) .nil (T.Le.of_eq rfl) rfl rfl .nil
                                · refine Go.dx 20 [0, 1, 2, 3, 4, 5, 6, 7, 8, 9, 10, 11, 12, 13, 14] { ws := [(1, { call := some { ids := [10], S := [10], M := [], R := t64 ((nonce_Counter_Mark ((x13.2.2).1) ((x13.2.2).2.1) ((x13.2.2).2.2)).1), H' := [(10, [t64 (((nonce_Counter_Mark ((x13.2.2).1) ((x13.2.2).2.1) ((x13.2.2).2.2)).2).1), t64 (((nonce_Counter_Mark ((x13.2.2).1) ((x13.2.2).2.1) ((x13.2.2).2.2)).2).2.1), t64 (((nonce_Counter_Mark ((x13.2.2).1) ((x13.2.2).2.1) ((x13.2.2).2.2)).2).2.2)])] } }), (4, { v := some (tb false) }), (7, { call := some { ids := [10], S := [10], M := [], R := t64 ((nonce_Counter_Left (((nonce_Counter_Mark ((x13.2.2).1) ((x13.2.2).2.1) ((x13.2.2).2.2)).2).1) (((nonce_Counter_Mark ((x13.2.2).1) ((x13.2.2).2.1) ((x13.2.2).2.2)).2).2.1) (((nonce_Counter_Mark ((x13.2.2).1) ((x13.2.2).2.1) ((x13.2.2).2.2)).2).2.2)).1), H' := [(10, [t64 (((nonce_Counter_Left (((nonce_Counter_Mark ((x13.2.2).1) ((x13.2.2).2.1) ((x13.2.2).2.2)).2).1) (((nonce_Counter_Mark ((x13.2.2).1) ((x13.2.2).2.1) ((x13.2.2).2.2)).2).2.1) (((nonce_Counter_Mark ((x13.2.2).1) ((x13.2.2).2.1) ((x13.2.2).2.2)).2).2.2)).2).1), t64 (((nonce_Counter_Left (((nonce_Counter_Mark ((x13.2.2).1) ((x13.2.2).2.1) ((x13.2.2).2.2)).2).1) (((nonce_Counter_Mark ((x13.2.2).1) ((x13.2.2).2.1) ((x13.2.2).2.2)).2).2.1) (((nonce_Counter_Mark ((x13.2.2).1) ((x13.2.2).2.1) ((x13.2.2).2.2)).2).2.2)).2).2.1), t64 (((nonce_Counter_Left (((nonce_Counter_Mark ((x13.2.2).1) ((x13.2.2).2.1) ((x13.2.2).2.2)).2).1) (((nonce_Counter_Mark ((x13.2.2).1) ((x13.2.2).2.1) ((x13.2.2).2.2)).2).2.1) (((nonce_Counter_Mark ((x13.2.2).1) ((x13.2.2).2.1) ((x13.2.2).2.2)).2).2.2)).2).2.2)])] } }), (12, { v := some (t64 (((x14.1).2.1) - ((x14.1).1))) }), (13, { v := some (tb (((nonce_Counter_Left (((nonce_Counter_Mark ((x13.2.2).1) ((x13.2.2).2.1) ((x13.2.2).2.2)).2).1) (((nonce_Counter_Mark ((x13.2.2).1) ((x13.2.2).2.1) ((x13.2.2).2.2)).2).2.1) (((nonce_Counter_Mark ((x13.2.2).1) ((x13.2.2).2.1) ((x13.2.2).2.2)).2).2.2)).1) != (((x14.1).2.1) - ((x14.1).1)))) })] } [] [2, 15, 17, 18, 203] _ [(2, .sl 1 g_a2 a2.length (bos a2)), (15, .addr 10 0), (17, .addr 11 0), (18, ti t181), (203, tb (((nonce_Counter_Left (((nonce_Counter_Mark ((x13.2.2).1) ((x13.2.2).2.1) ((x13.2.2).2.2)).2).1) (((nonce_Counter_Mark ((x13.2.2).1) ((x13.2.2).2.1) ((x13.2.2).2.2)).2).2.1) (((nonce_Counter_Mark ((x13.2.2).1) ((x13.2.2).2.1) ((x13.2.2).2.2)).2).2.2)).1) != (((x14.1).2.1) - ((x14.1).1))))] [(10, [t64 (((nonce_Counter_Left (((nonce_Counter_Mark ((x13.2.2).1) ((x13.2.2).2.1) ((x13.2.2).2.2)).2).1) (((nonce_Counter_Mark ((x13.2.2).1) ((x13.2.2).2.1) ((x13.2.2).2.2)).2).2.1) (((nonce_Counter_Mark ((x13.2.2).1) ((x13.2.2).2.1) ((x13.2.2).2.2)).2).2.2)).2).1), t64 (((nonce_Counter_Left (((nonce_Counter_Mark ((x13.2.2).1) ((x13.2.2).2.1) ((x13.2.2).2.2)).2).1) (((nonce_Counter_Mark ((x13.2.2).1) ((x13.2.2).2.1) ((x13.2.2).2.2)).2).2.1) (((nonce_Counter_Mark ((x13.2.2).1) ((x13.2.2).2.1) ((x13.2.2).2.2)).2).2.2)).2).2.1), t64 (((nonce_Counter_Left (((nonce_Counter_Mark ((x13.2.2).1) ((x13.2.2).2.1) ((x13.2.2).2.2)).2).1) (((nonce_Counter_Mark ((x13.2.2).1) ((x13.2.2).2.1) ((x13.2.2).2.2)).2).2.1) (((nonce_Counter_Mark ((x13.2.2).1) ((x13.2.2).2.1) ((x13.2.2).2.2)).2).2.2)).2).2.2)]), (11, [t64 ((x14.1).1), t64 ((x14.1).2.1), t64 ((x14.1).2.2)])] hk rfl (by as_aux_lemma => kernel_rfl) (.cons (Meets.swp [(0, 10)] (nonce_Counter_Mark_m ((x13.2.2).1) ((x13.2.2).2.1) ((x13.2.2).2.2)) (.cons (.addr rfl 0) .nil) (.cons rfl (.same (by first | rfl | (simp only [T.ids, idsL, er_ids, List.append_nil, List.nil_append] <;> rfl))) .nil) rfl (.same (by first | rfl | (simp only [T.ids, idsL, er_ids, List.append_nil, List.nil_append] <;> rfl))) (.cons rfl (.same (by first | rfl | (simp only [T.ids, idsL, er_ids, List.append_nil, List.nil_append] <;> rfl))) .nil) : Meets Tryd.prog 29 [.addr 10 0] [(10, [t64 ((x13.2.2).1), t64 ((x13.2.2).2.1), t64 ((x13.2.2).2.2)])] [10] (t64 ((nonce_Counter_Mark ((x13.2.2).1) ((x13.2.2).2.1) ((x13.2.2).2.2)).1)) [(10, [t64 (((nonce_Counter_Mark ((x13.2.2).1) ((x13.2.2).2.1) ((x13.2.2).2.2)).2).1), t64 (((nonce_Counter_Mark ((x13.2.2).1) ((x13.2.2).2.1) ((x13.2.2).2.2)).2).2.1), t64 (((nonce_Counter_Mark ((x13.2.2).1) ((x13.2.2).2.1) ((x13.2.2).2.2)).2).2.2)])]) (.cons (by first | rfl | (simp only [T.ids, idsL, er_ids, List.append_nil, List.nil_append]; rfl) : subN (idsL [.addr 10 0]) [10] = true) (.cons (by first | rfl | (simp only [T.ids, idsL, er_ids, List.append_nil, List.nil_append]; rfl) : subN (idsL [t64 ((x13.2.2).1), t64 ((x13.2.2).2.1), t64 ((x13.2.2).2.2)]) [10] = true) (.cons trivial (.cons ((neB64 ((nonce_Counter_Mark ((x13.2.2).1) ((x13.2.2).2.1) ((x13.2.2).2.2)).1) ((x14.1).2.1)).trans (eb p3)) (.cons (Meets.swp [(0, 10)] (nonce_Counter_Left_m (((nonce_Counter_Mark ((x13.2.2).1) ((x13.2.2).2.1) ((x13.2.2).2.2)).2).1) (((nonce_Counter_Mark ((x13.2.2).1) ((x13.2.2).2.1) ((x13.2.2).2.2)).2).2.1) (((nonce_Counter_Mark ((x13.2.2).1) ((x13.2.2).2.1) ((x13.2.2).2.2)).2).2.2)) (.cons (.addr rfl 0) .nil) (.cons rfl (.same (by first | rfl | (simp only [T.ids, idsL, er_ids, List.append_nil, List.nil_append] <;> rfl))) .nil) rfl (.same (by first | rfl | (simp only [T.ids, idsL, er_ids, List.append_nil, List.nil_append] <;> rfl))) (.cons rfl (.same (by first | rfl | (simp only [T.ids, idsL, er_ids, List.append_nil, List.nil_append] <;> rfl))) .nil) : Meets Tryd.prog 30 [.addr 10 0] [(10, [t64 (((nonce_Counter_Mark ((x13.2.2).1) ((x13.2.2).2.1) ((x13.2.2).2.2)).2).1), t64 (((nonce_Counter_Mark ((x13.2.2).1) ((x13.2.2).2.1) ((x13.2.2).2.2)).2).2.1), t64 (((nonce_Counter_Mark ((x13.2.2).1) ((x13.2.2).2.1) ((x13.2.2).2.2)).2).2.2)])] [10] (t64 ((nonce_Counter_Left (((nonce_Counter_Mark ((x13.2.2).1) ((x13.2.2).2.1) ((x13.2.2).2.2)).2).1) (((nonce_Counter_Mark ((x13.2.2).1) ((x13.2.2).2.1) ((x13.2.2).2.2)).2).2.1) (((nonce_Counter_Mark ((x13.2.2).1) ((x13.2.2).2.1) ((x13.2.2).2.2)).2).2.2)).1)) [(10, [t64 (((nonce_Counter_Left (((nonce_Counter_Mark ((x13.2.2).1) ((x13.2.2).2.1) ((x13.2.2).2.2)).2).1) (((nonce_Counter_Mark ((x13.2.2).1) ((x13.2.2).2.1) ((x13.2.2).2.2)).2).2.1) (((nonce_Counter_Mark ((x13.2.2).1) ((x13.2.2).2.1) ((x13.2.2).2.2)).2).2.2)).2).1), t64 (((nonce_Counter_Left (((nonce_Counter_Mark ((x13.2.2).1) ((x13.2.2).2.1) ((x13.2.2).2.2)).2).1) (((nonce_Counter_Mark ((x13.2.2).1) ((x13.2.2).2.1) ((x13.2.2).2.2)).2).2.1) (((nonce_Counter_Mark ((x13.2.2).1) ((x13.2.2).2.1) ((x13.2.2).2.2)).2).2.2)).2).2.1), t64 (((nonce_Counter_Left (((nonce_Counter_Mark ((x13.2.2).1) ((x13.2.2).2.1) ((x13.2.2).2.2)).2).1) (((nonce_Counter_Mark ((x13.2.2).1) ((x13.2.2).2.1) ((x13.2.2).2.2)).2).2.1) (((nonce_Counter_Mark ((x13.2.2).1) ((x13.2.2).2.1) ((x13.2.2).2.2)).2).2.2)).2).2.2)])]) (.cons (by first | rfl | (simp only [T.ids, idsL, er_ids, List.append_nil, List.nil_append]; rfl) : subN (idsL [.addr 10 0]) [10] = true) (.cons (by first | rfl | (simp only [T.ids, idsL, er_ids, List.append_nil, List.nil_append]; rfl) : subN (idsL [t64 (((nonce_Counter_Mark ((x13.2.2).1) ((x13.2.2).2.1) ((x13.2.2).2.2)).2).1), t64 (((nonce_Counter_Mark ((x13.2.2).1) ((x13.2.2).2.1) ((x13.2.2).2.2)).2).2.1), t64 (((nonce_Counter_Mark ((x13.2.2).1) ((x13.2.2).2.1) ((x13.2.2).2.2)).2).2.2)]) [10] = true) (.cons trivial (.cons (sub64 ((x14.1).2.1) ((x14.1).1)) (.cons trivial (.cons (neB64 ((nonce_Counter_Left (((nonce_Counter_Mark ((x13.2.2).1) ((x13.2.2).2.1) ((x13.2.2).2.2)).2).1) (((nonce_Counter_Mark ((x13.2.2).1) ((x13.2.2).2.1) ((x13.2.2).2.2)).2).2.1) (((nonce_Counter_Mark ((x13.2.2).1) ((x13.2.2).2.1) ((x13.2.2).2.2)).2).2.2)).1) (((x14.1).2.1) - ((x14.1).1))) .nil)))))))))))) ?_
                                  clear hk; intro k hk
                                  refine Go.bnd (Pf := (fun z : Lo (UInt64 × UInt64 × UInt64 × UInt64 × UInt64 × UInt64) (Bool) => (PostX Γ bursarylaw18_NonceRuns_enc) (Lo.el z (fun z : UInt64 × UInt64 × UInt64 × UInt64 × UInt64 × UInt64 => bursarylaw18_NonceRuns_k1 z.1 z.2.1 z.2.2.1 z.2.2.2.1 z.2.2.2.2.1 z.2.2.2.2.2)))) (v := (nonce_Counter_Mark ((x13.2.2).1) ((x13.2.2).2.1) ((x13.2.2).2.2))) (fun x17 => [(2, .sl 1 g_a2 a2.length (bos a2)), (15, .addr 10 0), (17, .addr 11 0), (18, ti t181), (203, tb (((nonce_Counter_Left ((x17.2).1) ((x17.2).2.1) ((x17.2).2.2)).1) != (((x14.1).2.1) - ((x14.1).1))))]) (fun x17 => [(10, [t64 (((nonce_Counter_Left ((x17.2).1) ((x17.2).2.1) ((x17.2).2.2)).2).1), t64 (((nonce_Counter_Left ((x17.2).1) ((x17.2).2.1) ((x17.2).2.2)).2).2.1), t64 (((nonce_Counter_Left ((x17.2).1) ((x17.2).2.1) ((x17.2).2.2)).2).2.2)]), (11, [t64 ((x14.1).1), t64 ((x14.1).2.1), t64 ((x14.1).2.2)])]) ?_
                                  intro x17 hx17
                                  refine Go.br 20 (Pf := (fun z : Lo (UInt64 × UInt64 × UInt64 × UInt64 × UInt64 × UInt64) (Bool) => (PostX Γ bursarylaw18_NonceRuns_enc) (Lo.el z (fun z : UInt64 × UInt64 × UInt64 × UInt64 × UInt64 × UInt64 => bursarylaw18_NonceRuns_k1 z.1 z.2.1 z.2.2.1 z.2.2.2.1 z.2.2.2.2.1 z.2.2.2.2.2)))) hk rfl rfl ?_ ?_ <;> clear hk <;> intro ct10 k hk
                                  · refine Go.rx 20 {} [10, 11] [6] _ [(6, tb false)] [] hk rfl (by as_aux_lemma => kernel_rfl) .nil ?_
                                    clear hk; intro k hk
                                    exact Go.lvx 20 [] _ [tb false] Tryd.func7 hk rfl (by as_aux_lemma => kernel_rfl) .nil (T.Le.of_eq rfl) rfl rfl .nil
                                  · refine Go.rx 20 { ws := [(1, { v := some (ti (t181 + 1)) })] } [] [2, 15, 17, 18] _ [(2, .sl 1 g_a2 a2.length (bos a2)), (15, .addr 10 0), (17, .addr 11 0), (18, ti (t181 + 1))] [(10, [t64 (((nonce_Counter_Left ((x17.2).1) ((x17.2).2.1) ((x17.2).2.2)).2).1), t64 (((nonce_Counter_Left ((x17.2).1) ((x17.2).2.1) ((x17.2).2.2)).2).2.1), t64 (((nonce_Counter_Left ((x17.2).1) ((x17.2).2.1) ((x17.2).2.2)).2).2.2)]), (11, [t64 ((x14.1).1), t64 ((x14.1).2.1), t64 ((x14.1).2.2)])] hk rfl (by as_aux_lemma => kernel_rfl) (.cons trivial (.cons (iw (t181 + 1) (by omega)) .nil)) ?_
                                    clear hk; intro k hk
                                    exact Go.join 20 hk hl1 rfl (ihl1 (t181 + 1) (((nonce_Counter_Left ((x17.2).1) ((x17.2).2.1) ((x17.2).2.2)).2).1) (((nonce_Counter_Left ((x17.2).1) ((x17.2).2.1) ((x17.2).2.2)).2).2.1) (((nonce_Counter_Left ((x17.2).1) ((x17.2).2.1) ((x17.2).2.2)).2).2.2) ((x14.1).1) ((x14.1).2.1) ((x14.1).2.2) (by omega) (by omega))
                            · intro hk J
                              rcases Bool.eq_false_or_eq_true ((id x13.2.1) != x14.2.2) with gd15 | gd15
                              · have gd15p := neIt gd15
                                refine Go.rx 20 { ws := [(1, { call := some { ids := [], S := [], M := [], R := ti (id x13.2.1), H' := [] } }), (3, { v := some (tb true) })] } [] [2, 15, 17, 18, 188] _ [(2, .sl 1 g_a2 a2.length (bos a2)), (15, .addr 10 0), (17, .addr 11 0), (18, ti t181), (188, tb true)] [(10, [t64 ((x13.2.2).1), t64 ((x13.2.2).2.1), t64 ((x13.2.2).2.2)]), (11, [t64 ((x14.1).1), t64 ((x14.1).2.1), t64 ((x14.1).2.2)])] hk rfl (by as_aux_lemma => kernel_rfl) (.cons (bursarylaw18_num_m x13.2.1) (.cons (by first | rfl | (simp only [T.ids, idsL, er_ids, List.append_nil, List.nil_append]; rfl) : subN (idsL [er 82 x13.2.1]) [] = true) (.cons trivial (.cons (eb gd15) .nil)))) ?_
                                intro k' hk'
                                refine Go.slotEq 188 (tb (((id x13.2.1) != x14.2.2) || (x13.1 != x14.2.1))) rfl (eb (orT gd15).symm) ?_
                                exact J k' hk'
                              · have gd15p := neIf gd15
                                refine Go.rx 20 { ws := [(1, { call := some { ids := [], S := [], M := [], R := ti (id x13.2.1), H' := [] } }), (3, { v := some (tb false) }), (7, { v := some (tb (x13.1 != x14.2.1)) })] } [] [2, 15, 17, 18, 188] _ [(2, .sl 1 g_a2 a2.length (bos a2)), (15, .addr 10 0), (17, .addr 11 0), (18, ti t181), (188, tb (x13.1 != x14.2.1))] [(10, [t64 ((x13.2.2).1), t64 ((x13.2.2).2.1), t64 ((x13.2.2).2.2)]), (11, [t64 ((x14.1).1), t64 ((x14.1).2.1), t64 ((x14.1).2.2)])] hk rfl (by as_aux_lemma => kernel_rfl) (.cons (bursarylaw18_num_m x13.2.1) (.cons (by first | rfl | (simp only [T.ids, idsL, er_ids, List.append_nil, List.nil_append]; rfl) : subN (idsL [er 82 x13.2.1]) [] = true) (.cons trivial (.cons (eb gd15) (.cons trivial (.cons (neB64 x13.1 x14.2.1) .nil)))))) ?_
                                intro k' hk'
                                refine Go.slotEq 188 (tb (((id x13.2.1) != x14.2.2) || (x13.1 != x14.2.1))) rfl (eb (orF gd15 rfl).symm) ?_
                                exact J k' hk'
                        · refine Go.keepN [] (L' := []) rfl ?_
                          exact Go.join 20 hk hxl1 rfl (Xl1 c10_0_1 c10_1_1 c10_2_1 c11_0_1 c11_1_1 c11_2_1)
                      · intro hk J
                        rcases Bool.eq_false_or_eq_true (decide (t181 < (a2.length : Int))) with gd9 | gd9
                        · have gd9p := of_decide_eq_true gd9
                          refine Go.rx 20 { ws := [(3, { v := some (tb true) })] } [] [2, 15, 17, 18, 128] _ [(2, .sl 1 g_a2 a2.length (bos a2)), (15, .addr 10 0), (17, .addr 11 0), (18, ti t181), (128, tb (decide (t181 < 200)))] [(10, [t64 c10_0_1, t64 c10_1_1, t64 c10_2_1]), (11, [t64 c11_0_1, t64 c11_1_1, t64 c11_2_1])] hk rfl (by as_aux_lemma => kernel_rfl) (.cons trivial (.cons (eb gd9) (.cons trivial .nil))) ?_
                          intro k' hk'
                          refine Go.slotEq 128 (tb ((decide (t181 < (a2.length : Int))) && (decide (t181 < 200)))) rfl (eb (andT gd9 rfl).symm) ?_
                          exact J k' hk'
                        · have gd9p := of_decide_eq_false gd9
                          refine Go.rx 20 { ws := [(3, { v := some (tb false) })] } [] [2, 15, 17, 18, 128] _ [(2, .sl 1 g_a2 a2.length (bos a2)), (15, .addr 10 0), (17, .addr 11 0), (18, ti t181), (128, tb false)] [(10, [t64 c10_0_1, t64 c10_1_1, t64 c10_2_1]), (11, [t64 c11_0_1, t64 c11_1_1, t64 c11_2_1])] hk rfl (by as_aux_lemma => kernel_rfl) (.cons trivial (.cons (eb gd9) .nil)) ?_
                          intro k' hk'
                          refine Go.slotEq 128 (tb ((decide (t181 < (a2.length : Int))) && (decide (t181 < 200)))) rfl (eb (andF gd9).symm) ?_
                          exact J k' hk'
                  exact Ll1 _ 0 (((x6.1).getD default).1) (((x6.1).getD default).2.1) (((x6.1).getD default).2.2) a0 a0 a1 (by omega) (Nat.lt_succ_self _)
              · intro hk J
                rcases Bool.eq_false_or_eq_true (!(decide (x6.2 = 0))) with gd8 | gd8
                · have gd8' : (decide (x6.2 = 0)) = false := ntT gd8
                  have gd8'p := of_decide_eq_false gd8'
                  refine Go.rx 20 { ws := [(1, { v := some (tb true), er := some (82, x6.2) })] } [] [0, 1, 2, 15, 116] _ [(0, t64 a0), (1, t64 a1), (2, .sl 1 g_a2 a2.length (bos a2)), (15, .addr 10 0), (116, tb true)] [(10, [t64 (((x6.1).getD default).1), t64 (((x6.1).getD default).2.1), t64 (((x6.1).getD default).2.2)])] hk rfl (by as_aux_lemma => kernel_rfl) (.cons (⟨rfl, rfl⟩ : (er 82 x6.2) = er 82 x6.2 ∧ (.leaf .nilIface : T) = .leaf .nilIface) (.cons (eb gd8) .nil)) ?_
                  intro k' hk'
                  refine Go.slotEq 116 (tb (!(decide (x6.2 = 0)))) rfl (eb gd8.symm) ?_
                  exact J k' hk'
                · have gd8' : (decide (x6.2 = 0)) = true := ntF gd8
                  have gd8'p := of_decide_eq_true gd8'
                  refine Go.rx 20 { ws := [(1, { v := some (tb false), er := some (82, x6.2) })] } [] [0, 1, 2, 15, 116] _ [(0, t64 a0), (1, t64 a1), (2, .sl 1 g_a2 a2.length (bos a2)), (15, .addr 10 0), (116, tb false)] [(10, [t64 (((x6.1).getD default).1), t64 (((x6.1).getD default).2.1), t64 (((x6.1).getD default).2.2)])] hk rfl (by as_aux_lemma => kernel_rfl) (.cons (⟨rfl, rfl⟩ : (er 82 x6.2) = er 82 x6.2 ∧ (.leaf .nilIface : T) = .leaf .nilIface) (.cons (eb gd8) (.cons (⟨94, by as_aux_lemma => kernel_rfl⟩ : ∃ e, (E.ti 54).k = .ptr e) .nil))) ?_
                  intro k' hk'
                  refine Go.slotEq 116 (tb (!(decide (x6.2 = 0)))) rfl (eb gd8.symm) ?_
                  exact J k' hk'
          · refine Go.rx 20 { ws := [(2, { call := some { ids := [], S := [], M := [], R := .tup [.leaf (.pointer none), er 82 ((nonce_New a0 a1).2)], H' := [] } })] } [] [0, 1, 2, 15, 16] _ [(0, t64 a0), (1, t64 a1), (2, .sl 1 g_a2 a2.length (bos a2)), (15, .leaf (.pointer none)), (16, er 82 ((nonce_New a0 a1).2))] [] hk rfl (by as_aux_lemma => kernel_rfl) (.cons (Meets.swp [] (Meets.optN (i := 10) (g := fun z => [t64 z.1, t64 z.2.1, t64 z.2.2]) (fun q => .tup [q, er 82 ((nonce_New a0 a1).2)]) (nonce_New_m a0 a1) p1) (.cons (.same (by first | rfl | (simp only [T.ids, idsL, er_ids, List.append_nil, List.nil_append] <;> rfl))) (.cons (.same (by first | rfl | (simp only [T.ids, idsL, er_ids, List.append_nil, List.nil_append] <;> rfl))) .nil)) .nil rfl (.same (by first | rfl | (simp only [T.ids, idsL, er_ids, List.append_nil, List.nil_append] <;> rfl))) .nil : Meets Tryd.prog 32 [t64 a0, t64 a1] [] [] (.tup [.leaf (.pointer none), er 82 ((nonce_New a0 a1).2)]) []) (.cons (by first | rfl | (simp only [T.ids, idsL, er_ids, List.append_nil, List.nil_append]; rfl) : subN (idsL [t64 a0, t64 a1]) [] = true) .nil)) ?_
            clear hk; intro k hk
            refine Go.bnd (Pf := (PostX Γ bursarylaw18_NonceRuns_enc)) (v := (nonce_New a0 a1)) (fun x18 => [(0, t64 a0), (1, t64 a1), (2, .sl 1 g_a2 a2.length (bos a2)), (15, .leaf (.pointer none)), (16, er 82 x18.2)]) (fun x18 => []) ?_
            intro x18 hx18
            refine Go.rx 20 { ws := [(2, { call := some { ids := [], S := [], M := [], R := tb (bursaryref18_May a0 a1), H' := [] } })] } [] [0, 1, 2, 15, 16, 100] _ [(0, t64 a0), (1, t64 a1), (2, .sl 1 g_a2 a2.length (bos a2)), (15, .leaf (.pointer none)), (16, er 82 x18.2), (100, tb (!(bursaryref18_May a0 a1)))] [] hk rfl (by as_aux_lemma => kernel_rfl) (.cons (bursaryref18_May_m a0 a1) (.cons (by first | rfl | (simp only [T.ids, idsL, er_ids, List.append_nil, List.nil_append]; rfl) : subN (idsL [t64 a0, t64 a1]) [] = true) .nil)) ?_
            clear hk; intro k hk
            refine Go.bnd (Pf := (PostX Γ bursarylaw18_NonceRuns_enc)) (v := (bursaryref18_May a0 a1)) (fun x19 => [(0, t64 a0), (1, t64 a1), (2, .sl 1 g_a2 a2.length (bos a2)), (15, .leaf (.pointer none)), (16, er 82 x18.2), (100, tb (!x19))]) (fun x19 => []) ?_
            intro x19 hx19
            refine Go.br 20 (Pf := (PostX Γ bursarylaw18_NonceRuns_enc)) hk rfl rfl ?_ ?_ <;> clear hk <;> intro ct11 k hk
            · have ct11' : x19 = false := ntT ct11
              refine Go.regJ 20 [(6, tb (((id x18.2) == 1) && bursarylaw18_sure))] [] hk rfl ?_ ?_
              · clear hk; intro k hk
                refine Go.bnd (Pf := (PostX Γ bursarylaw18_NonceRuns_enc)) (v := (id x18.2)) (fun x20 => [(6, tb ((x20 == 1) && bursarylaw18_sure))]) (fun x20 => []) ?_
                intro x20 hx20
                exact Go.lvx 20 [] _ [tb ((x20 == 1) && bursarylaw18_sure)] Tryd.func7 hk rfl (by as_aux_lemma => kernel_rfl) .nil (T.Le.of_eq rfl) rfl rfl .nil
              · intro hk J
                rcases Bool.eq_false_or_eq_true ((id x18.2) == 1) with gd16 | gd16
                · have gd16p := eqIt gd16
                  refine Go.rx 20 { ws := [(1, { call := some { ids := [], S := [], M := [], R := ti (id x18.2), H' := [] } }), (2, { v := some (tb true) }), (8, { call := some { ids := [], S := [], M := [], R := tb bursarylaw18_sure, H' := [] } })] } [] [6] _ [(6, tb bursarylaw18_sure)] [] hk rfl (by as_aux_lemma => kernel_rfl) (.cons (bursarylaw18_num_m x18.2) (.cons (by first | rfl | (simp only [T.ids, idsL, er_ids, List.append_nil, List.nil_append]; rfl) : subN (idsL [er 82 x18.2]) [] = true) (.cons trivial (.cons (eb gd16) (.cons (⟨94, by as_aux_lemma => kernel_rfl⟩ : ∃ e, (E.ti 54).k = .ptr e) (.cons (bursarylaw18_sure_m) (.cons (by first | rfl | (simp only [T.ids, idsL, er_ids, List.append_nil, List.nil_append]; rfl) : subN (idsL []) [] = true) .nil))))))) ?_
                  intro k' hk'
                  refine Go.slotEq 6 (tb (((id x18.2) == 1) && bursarylaw18_sure)) rfl (eb (andT gd16 rfl).symm) ?_
                  exact J k' hk'
                · have gd16p := eqIf gd16
                  refine Go.rx 20 { ws := [(1, { call := some { ids := [], S := [], M := [], R := ti (id x18.2), H' := [] } }), (2, { v := some (tb false) })] } [] [6] _ [(6, tb false)] [] hk rfl (by as_aux_lemma => kernel_rfl) (.cons (bursarylaw18_num_m x18.2) (.cons (by first | rfl | (simp only [T.ids, idsL, er_ids, List.append_nil, List.nil_append]; rfl) : subN (idsL [er 82 x18.2]) [] = true) (.cons trivial (.cons (eb gd16) .nil)))) ?_
                  intro k' hk'
                  refine Go.slotEq 6 (tb (((id x18.2) == 1) && bursarylaw18_sure)) rfl (eb (andF gd16).symm) ?_
                  exact J k' hk'
            · have ct11' : x19 = true := ntF ct11
              refine Go.regJ 20 [(0, t64 a0), (1, t64 a1), (2, .sl 1 g_a2 a2.length (bos a2)), (15, .leaf (.pointer none)), (116, tb true)] [] hk rfl ?_ ?_
              · clear hk; intro k hk
                refine Go.cond 20 hk rfl (t := true) rfl ?_; clear hk; intro k hk
                refine Go.rx 20 {} [] [6] _ [(6, tb false)] [] hk rfl (by as_aux_lemma => kernel_rfl) .nil ?_
                clear hk; intro k hk
                exact Go.lvx 20 [] _ [tb false] Tryd.func7 hk rfl (by as_aux_lemma => kernel_rfl) .nil (T.Le.of_eq rfl) rfl rfl .nil
              · intro hk J
                rcases Bool.eq_false_or_eq_true (!(decide (x18.2 = 0))) with gd17 | gd17
                · have gd17' : (decide (x18.2 = 0)) = false := ntT gd17
                  have gd17'p := of_decide_eq_false gd17'
                  refine Go.rx 20 { ws := [(1, { v := some (tb true), er := some (82, x18.2) })] } [] [0, 1, 2, 15, 116] _ [(0, t64 a0), (1, t64 a1), (2, .sl 1 g_a2 a2.length (bos a2)), (15, .leaf (.pointer none)), (116, tb true)] [] hk rfl (by as_aux_lemma => kernel_rfl) (.cons (⟨rfl, rfl⟩ : (er 82 x18.2) = er 82 x18.2 ∧ (.leaf .nilIface : T) = .leaf .nilIface) (.cons (eb gd17) .nil)) ?_
                  intro k' hk'
                  exact J k' hk'
                · have gd17' : (decide (x18.2 = 0)) = true := ntF gd17
                  have gd17'p := of_decide_eq_true gd17'
                  refine Go.rx 20 { ws := [(1, { v := some (tb false), er := some (82, x18.2) })] } [] [0, 1, 2, 15, 116] _ [(0, t64 a0), (1, t64 a1), (2, .sl 1 g_a2 a2.length (bos a2)), (15, .leaf (.pointer none)), (116, tb true)] [] hk rfl (by as_aux_lemma => kernel_rfl) (.cons (⟨rfl, rfl⟩ : (er 82 x18.2) = er 82 x18.2 ∧ (.leaf .nilIface : T) = .leaf .nilIface) (.cons (eb gd17) (.cons (⟨94, by as_aux_lemma => kernel_rfl⟩ : ∃ e, (E.ti 54).k = .ptr e) .nil))) ?_
                  intro k' hk'
                  exact J k' hk'
      · intro hk J
        rcases Bool.eq_false_or_eq_true (!(decide ((nonce_Parse x5).2.2 = 0))) with gd5 | gd5
        · have gd5' : (decide ((nonce_Parse x5).2.2 = 0)) = false := ntT gd5
          have gd5'p := of_decide_eq_false gd5'
          refine Go.rx 20 { ws := [(1, { v := some (tb true), er := some (82, (nonce_Parse x5).2.2) })] } [] [0, 1, 2, 90] _ [(0, t64 a0), (1, t64 a1), (2, .sl 1 g_a2 a2.length (bos a2)), (90, tb true)] [] hk rfl (by as_aux_lemma => kernel_rfl) (.cons (⟨rfl, rfl⟩ : (er 82 ((nonce_Parse x5).2.2)) = er 82 ((nonce_Parse x5).2.2) ∧ (.leaf .nilIface : T) = .leaf .nilIface) (.cons (eb gd5) .nil)) ?_
          intro k' hk'
          refine Go.slotEq 90 (tb ((!(decide ((nonce_Parse x5).2.2 = 0))) || ((((nonce_Parse x5).1) != a1.toUInt32) || (((nonce_Parse x5).2.1) != a0)))) rfl (eb (orT gd5).symm) ?_
          exact J k' hk'
        · have gd5' : (decide ((nonce_Parse x5).2.2 = 0)) = true := ntF gd5
          have gd5'p := of_decide_eq_true gd5'
          rcases Bool.eq_false_or_eq_true (((nonce_Parse x5).1) != a1.toUInt32) with gd6 | gd6
          · refine Go.rx 20 { ws := [(1, { v := some (tb false), er := some (82, (nonce_Parse x5).2.2) }), (5, { v := some (t32 a1.toUInt32) }), (6, { v := some (tb true) })] } [] [0, 1, 2, 90] _ [(0, t64 a0), (1, t64 a1), (2, .sl 1 g_a2 a2.length (bos a2)), (90, tb true)] [] hk rfl (by as_aux_lemma => kernel_rfl) (.cons (⟨rfl, rfl⟩ : (er 82 ((nonce_Parse x5).2.2)) = er 82 ((nonce_Parse x5).2.2) ∧ (.leaf .nilIface : T) = .leaf .nilIface) (.cons (eb gd5) (.cons (cv64_32 a1) (.cons trivial (.cons ((neB32 ((nonce_Parse x5).1) a1.toUInt32).trans (eb gd6)) .nil))))) ?_
            intro k' hk'
            refine Go.slotEq 90 (tb ((!(decide ((nonce_Parse x5).2.2 = 0))) || ((((nonce_Parse x5).1) != a1.toUInt32) || (((nonce_Parse x5).2.1) != a0)))) rfl (eb (orF gd5 (orT gd6)).symm) ?_
            exact J k' hk'
          · refine Go.rx 20 { ws := [(1, { v := some (tb false), er := some (82, (nonce_Parse x5).2.2) }), (5, { v := some (t32 a1.toUInt32) }), (6, { v := some (tb false) }), (11, { v := some (tb (((nonce_Parse x5).2.1) != a0)) })] } [] [0, 1, 2, 90] _ [(0, t64 a0), (1, t64 a1), (2, .sl 1 g_a2 a2.length (bos a2)), (90, tb (((nonce_Parse x5).2.1) != a0))] [] hk rfl (by as_aux_lemma => kernel_rfl) (.cons (⟨rfl, rfl⟩ : (er 82 ((nonce_Parse x5).2.2)) = er 82 ((nonce_Parse x5).2.2) ∧ (.leaf .nilIface : T) = .leaf .nilIface) (.cons (eb gd5) (.cons (cv64_32 a1) (.cons trivial (.cons ((neB32 ((nonce_Parse x5).1) a1.toUInt32).trans (eb gd6)) (.cons trivial (.cons (neB64 ((nonce_Parse x5).2.1) a0) .nil))))))) ?_
            intro k' hk'
            refine Go.slotEq 90 (tb ((!(decide ((nonce_Parse x5).2.2 = 0))) || ((((nonce_Parse x5).1) != a1.toUInt32) || (((nonce_Parse x5).2.1) != a0)))) rfl (eb (orF gd5 (orF gd6 rfl)).symm) ?_
            exact J k' hk'
  · intro hk J
    rcases Bool.eq_false_or_eq_true ((id nil_Take.2) != 1) with gd1 | gd1
    · have gd1p := neIt gd1
      refine Go.dx 20 [0, 1, 2, 3, 4, 5, 6, 7, 8, 9, 10, 11, 12, 13, 14, 15, 16, 17, 18, 19, 20, 21, 22, 23, 24, 25, 26, 27, 28, 29, 30] { ws := [(1, { call := some { ids := [], S := [], M := [], R := ti (id nil_Take.2), H' := [] } }), (2, { v := some (tb true) })] } [] [0, 1, 2, 68] _ [(0, t64 a0), (1, t64 a1), (2, .sl 1 g_a2 a2.length (bos a2)), (68, tb true)] [] hk rfl (by as_aux_lemma => kernel_rfl) (.cons (bursarylaw18_num_m nil_Take.2) (.cons (by first | rfl | (simp only [T.ids, idsL, er_ids, List.append_nil, List.nil_append]; rfl) : subN (idsL [er 82 nil_Take.2]) [] = true) (.cons trivial (.cons (eb gd1) .nil)))) ?_
      intro k' hk'
      refine Go.slotEq 68 (tb (((id nil_Take.2) != 1) || (((id nil_Extend.2) != 1) || ((nil_Mark != 0) || ((nil_Left != 0) || ((nonce_Bytes a0.toUInt32 a1) != (bursaryref18_Bytes a0.toUInt32 a1))))))) rfl (eb (orT gd1).symm) ?_
      exact J k' hk'
    · have gd1p := neIf gd1
      rcases Bool.eq_false_or_eq_true ((id nil_Extend.2) != 1) with gd2 | gd2
      · have gd2p := neIt gd2
        refine Go.dx 20 [0, 1, 2, 3, 4, 5, 6, 7, 8, 9, 10, 11, 12, 13, 14, 15, 16, 17, 18, 19, 20, 21, 22, 23, 24, 25, 26, 27, 28, 29, 30] { ws := [(1, { call := some { ids := [], S := [], M := [], R := ti (id nil_Take.2), H' := [] } }), (2, { v := some (tb false) }), (5, { call := some { ids := [], S := [], M := [], R := ti (id nil_Extend.2), H' := [] } }), (6, { v := some (tb true) })] } [] [0, 1, 2, 68] _ [(0, t64 a0), (1, t64 a1), (2, .sl 1 g_a2 a2.length (bos a2)), (68, tb true)] [] hk rfl (by as_aux_lemma => kernel_rfl) (.cons (bursarylaw18_num_m nil_Take.2) (.cons (by first | rfl | (simp only [T.ids, idsL, er_ids, List.append_nil, List.nil_append]; rfl) : subN (idsL [er 82 nil_Take.2]) [] = true) (.cons trivial (.cons (eb gd1) (.cons (bursarylaw18_num_m nil_Extend.2) (.cons (by first | rfl | (simp only [T.ids, idsL, er_ids, List.append_nil, List.nil_append]; rfl) : subN (idsL [er 82 nil_Extend.2]) [] = true) (.cons trivial (.cons (eb gd2) .nil)))))))) ?_
        intro k' hk'
        refine Go.slotEq 68 (tb (((id nil_Take.2) != 1) || (((id nil_Extend.2) != 1) || ((nil_Mark != 0) || ((nil_Left != 0) || ((nonce_Bytes a0.toUInt32 a1) != (bursaryref18_Bytes a0.toUInt32 a1))))))) rfl (eb (orF gd1 (orT gd2)).symm) ?_
        exact J k' hk'
      · have gd2p := neIf gd2
        rcases Bool.eq_false_or_eq_true (nil_Mark != 0) with gd3 | gd3
        · refine Go.dx 20 [0, 1, 2, 3, 4, 5, 6, 7, 8, 9, 10, 11, 12, 13, 14, 15, 16, 17, 18, 19, 20, 21, 22, 23, 24, 25, 26, 27, 28, 29, 30] { ws := [(1, { call := some { ids := [], S := [], M := [], R := ti (id nil_Take.2), H' := [] } }), (2, { v := some (tb false) }), (5, { call := some { ids := [], S := [], M := [], R := ti (id nil_Extend.2), H' := [] } }), (6, { v := some (tb false) }), (10, { call := some { ids := [], S := [], M := [], R := t64 nil_Mark, H' := [] } }), (11, { v := some (tb true) })] } [] [0, 1, 2, 68] _ [(0, t64 a0), (1, t64 a1), (2, .sl 1 g_a2 a2.length (bos a2)), (68, tb true)] [] hk rfl (by as_aux_lemma => kernel_rfl) (.cons (bursarylaw18_num_m nil_Take.2) (.cons (by first | rfl | (simp only [T.ids, idsL, er_ids, List.append_nil, List.nil_append]; rfl) : subN (idsL [er 82 nil_Take.2]) [] = true) (.cons trivial (.cons (eb gd1) (.cons (bursarylaw18_num_m nil_Extend.2) (.cons (by first | rfl | (simp only [T.ids, idsL, er_ids, List.append_nil, List.nil_append]; rfl) : subN (idsL [er 82 nil_Extend.2]) [] = true) (.cons trivial (.cons (eb gd2) (.cons (Meets.swp [] (nil_Mark_m) (.cons (.same (by first | rfl | (simp only [T.ids, idsL, er_ids, List.append_nil, List.nil_append] <;> rfl))) .nil) .nil rfl (.same (by first | rfl | (simp only [T.ids, idsL, er_ids, List.append_nil, List.nil_append] <;> rfl))) .nil : Meets Tryd.prog 29 [.leaf (.pointer none)] [] [] (t64 nil_Mark) []) (.cons (by first | rfl | (simp only [T.ids, idsL, er_ids, List.append_nil, List.nil_append]; rfl) : subN (idsL [.leaf (.pointer none)]) [] = true) (.cons trivial (.cons ((neB64 nil_Mark 0).trans (eb gd3)) .nil)))))))))))) ?_
          intro k' hk'
          refine Go.slotEq 68 (tb (((id nil_Take.2) != 1) || (((id nil_Extend.2) != 1) || ((nil_Mark != 0) || ((nil_Left != 0) || ((nonce_Bytes a0.toUInt32 a1) != (bursaryref18_Bytes a0.toUInt32 a1))))))) rfl (eb (orF gd1 (orF gd2 (orT gd3))).symm) ?_
          exact J k' hk'
        · rcases Bool.eq_false_or_eq_true (nil_Left != 0) with gd4 | gd4
          · refine Go.dx 20 [0, 1, 2, 3, 4, 5, 6, 7, 8, 9, 10, 11, 12, 13, 14, 15, 16, 17, 18, 19, 20, 21, 22, 23, 24, 25, 26, 27, 28, 29, 30] { ws := [(1, { call := some { ids := [], S := [], M := [], R := ti (id nil_Take.2), H' := [] } }), (2, { v := some (tb false) }), (5, { call := some { ids := [], S := [], M := [], R := ti (id nil_Extend.2), H' := [] } }), (6, { v := some (tb false) }), (10, { call := some { ids := [], S := [], M := [], R := t64 nil_Mark, H' := [] } }), (11, { v := some (tb false) }), (15, { call := some { ids := [], S := [], M := [], R := t64 nil_Left, H' := [] } }), (16, { v := some (tb true) })] } [] [0, 1, 2, 68] _ [(0, t64 a0), (1, t64 a1), (2, .sl 1 g_a2 a2.length (bos a2)), (68, tb true)] [] hk rfl (by as_aux_lemma => kernel_rfl) (.cons (bursarylaw18_num_m nil_Take.2) (.cons (by first | rfl | (simp only [T.ids, idsL, er_ids, List.append_nil, List.nil_append]; rfl) : subN (idsL [er 82 nil_Take.2]) [] = true) (.cons trivial (.cons (eb gd1) (.cons (bursarylaw18_num_m nil_Extend.2) (.cons (by first | rfl | (simp only [T.ids, idsL, er_ids, List.append_nil, List.nil_append]; rfl) : subN (idsL [er 82 nil_Extend.2]) [] = true) (.cons trivial (.cons (eb gd2) (.cons (Meets.swp [] (nil_Mark_m) (.cons (.same (by first | rfl | (simp only [T.ids, idsL, er_ids, List.append_nil, List.nil_append] <;> rfl))) .nil) .nil rfl (.same (by first | rfl | (simp only [T.ids, idsL, er_ids, List.append_nil, List.nil_append] <;> rfl))) .nil : Meets Tryd.prog 29 [.leaf (.pointer none)] [] [] (t64 nil_Mark) []) (.cons (by first | rfl | (simp only [T.ids, idsL, er_ids, List.append_nil, List.nil_append]; rfl) : subN (idsL [.leaf (.pointer none)]) [] = true) (.cons trivial (.cons ((neB64 nil_Mark 0).trans (eb gd3)) (.cons (Meets.swp [] (nil_Left_m) (.cons (.same (by first | rfl | (simp only [T.ids, idsL, er_ids, List.append_nil, List.nil_append] <;> rfl))) .nil) .nil rfl (.same (by first | rfl | (simp only [T.ids, idsL, er_ids, List.append_nil, List.nil_append] <;> rfl))) .nil : Meets Tryd.prog 30 [.leaf (.pointer none)] [] [] (t64 nil_Left) []) (.cons (by first | rfl | (simp only [T.ids, idsL, er_ids, List.append_nil, List.nil_append]; rfl) : subN (idsL [.leaf (.pointer none)]) [] = true) (.cons trivial (.cons ((neB64 nil_Left 0).trans (eb gd4)) .nil)))))))))))))))) ?_
            intro k' hk'
            refine Go.slotEq 68 (tb (((id nil_Take.2) != 1) || (((id nil_Extend.2) != 1) || ((nil_Mark != 0) || ((nil_Left != 0) || ((nonce_Bytes a0.toUInt32 a1) != (bursaryref18_Bytes a0.toUInt32 a1))))))) rfl (eb (orF gd1 (orF gd2 (orF gd3 (orT gd4)))).symm) ?_
            exact J k' hk'
          · refine Go.dx 20 [0, 1, 2, 3, 4, 5, 6, 7, 8, 9, 10, 11, 12, 13, 14, 15, 16, 17, 18, 19, 20, 21, 22, 23, 24, 25, 26, 27, 28, 29, 30] { ws := [(1, { call := some { ids := [], S := [], M := [], R := ti (id nil_Take.2), H' := [] } }), (2, { v := some (tb false) }), (5, { call := some { ids := [], S := [], M := [], R := ti (id nil_Extend.2), H' := [] } }), (6, { v := some (tb false) }), (10, { call := some { ids := [], S := [], M := [], R := t64 nil_Mark, H' := [] } }), (11, { v := some (tb false) }), (15, { call := some { ids := [], S := [], M := [], R := t64 nil_Left, H' := [] } }), (16, { v := some (tb false) }), (20, { v := some (t32 a0.toUInt32) }), (22, { call := some { ids := [], S := [], M := [], R := .sl 1 .shr (nonce_Bytes a0.toUInt32 a1).length (u8s (nonce_Bytes a0.toUInt32 a1)), H' := [] } }), (23, { b := (nonce_Bytes a0.toUInt32 a1) }), (25, { v := some (t32 a0.toUInt32) }), (27, { call := some { ids := [], S := [], M := [], R := .sl 1 .shr (bursaryref18_Bytes a0.toUInt32 a1).length (u8s (bursaryref18_Bytes a0.toUInt32 a1)), H' := [] } }), (28, { b := (bursaryref18_Bytes a0.toUInt32 a1) }), (29, { v := some (tb ((nonce_Bytes a0.toUInt32 a1) != (bursaryref18_Bytes a0.toUInt32 a1))) })] } [] [0, 1, 2, 68] _ [(0, t64 a0), (1, t64 a1), (2, .sl 1 g_a2 a2.length (bos a2)), (68, tb ((nonce_Bytes a0.toUInt32 a1) != (bursaryref18_Bytes a0.toUInt32 a1)))] [] hk rfl (by as_aux_lemma => kernel_rfl) (.cons (bursarylaw18_num_m nil_Take.2) (.cons (by first | rfl | (simp only [T.ids, idsL, er_ids, List.append_nil, List.nil_append]; rfl) : subN (idsL [er 82 nil_Take.2]) [] = true) (.cons trivial (.cons (eb gd1) (.cons (bursarylaw18_num_m nil_Extend.2) (.cons (by first | rfl | (simp only [T.ids, idsL, er_ids, List.append_nil, List.nil_append]; rfl) : subN (idsL [er 82 nil_Extend.2]) [] = true) (.cons trivial (.cons (eb gd2) (.cons (Meets.swp [] (nil_Mark_m) (.cons (.same (by first | rfl | (simp only [T.ids, idsL, er_ids, List.append_nil, List.nil_append] <;> rfl))) .nil) .nil rfl (.same (by first | rfl | (simp only [T.ids, idsL, er_ids, List.append_nil, List.nil_append] <;> rfl))) .nil : Meets Tryd.prog 29 [.leaf (.pointer none)] [] [] (t64 nil_Mark) []) (.cons (by first | rfl | (simp only [T.ids, idsL, er_ids, List.append_nil, List.nil_append]; rfl) : subN (idsL [.leaf (.pointer none)]) [] = true) (.cons trivial (.cons ((neB64 nil_Mark 0).trans (eb gd3)) (.cons (Meets.swp [] (nil_Left_m) (.cons (.same (by first | rfl | (simp only [T.ids, idsL, er_ids, List.append_nil, List.nil_append] <;> rfl))) .nil) .nil rfl (.same (by first | rfl | (simp only [T.ids, idsL, er_ids, List.append_nil, List.nil_append] <;> rfl))) .nil : Meets Tryd.prog 30 [.leaf (.pointer none)] [] [] (t64 nil_Left) []) (.cons (by first | rfl | (simp only [T.ids, idsL, er_ids, List.append_nil, List.nil_append]; rfl) : subN (idsL [.leaf (.pointer none)]) [] = true) (.cons trivial (.cons ((neB64 nil_Left 0).trans (eb gd4)) (.cons (cv64_32 a0) (.cons (nonce_Bytes_m a0.toUInt32 a1) (.cons (by first | rfl | (simp only [T.ids, idsL, er_ids, List.append_nil, List.nil_append]; rfl) : subN (idsL [t32 a0.toUInt32, t64 a1]) [] = true) (.cons (rfl : u8s (nonce_Bytes a0.toUInt32 a1) = u8s (nonce_Bytes a0.toUInt32 a1)) (.cons (cv64_32 a0) (.cons (bursaryref18_Bytes_m a0.toUInt32 a1) (.cons (by first | rfl | (simp only [T.ids, idsL, er_ids, List.append_nil, List.nil_append]; rfl) : subN (idsL [t32 a0.toUInt32, t64 a1]) [] = true) (.cons (rfl : u8s (bursaryref18_Bytes a0.toUInt32 a1) = u8s (bursaryref18_Bytes a0.toUInt32 a1)) (.cons trivial (.cons (s_ne (nonce_Bytes a0.toUInt32 a1) (bursaryref18_Bytes a0.toUInt32 a1)) .nil)))))))))))))))))))))))))) ?_
            intro k' hk'
            refine Go.slotEq 68 (tb (((id nil_Take.2) != 1) || (((id nil_Extend.2) != 1) || ((nil_Mark != 0) || ((nil_Left != 0) || ((nonce_Bytes a0.toUInt32 a1) != (bursaryref18_Bytes a0.toUInt32 a1))))))) rfl (eb (orF gd1 (orF gd2 (orF gd3 (orF gd4 rfl)))).symm) ?_
            exact J k' hk'
end Go.Proofs.YtkomeflgnikflaaDoor

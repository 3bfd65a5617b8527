/- Functions, told: what each call returns. -/
import Derived.Test.YtmedboagdnpkbaaDoorEr
import Derived.Test.YtmedboagdnpkbaaDoorAt
namespace Go.Proofs.YtmedboagdnpkbaaDoor
open Go Go.Vw Go.Proofs
def at_st_next_enc (x00 : UInt64) (x10 : UInt64) (x2 : UInt64) (val : UInt64) (_ : Unit) : T × List (Nat × List T) := (.tup [], [(0, [t64 val, t64 x10, t64 x2])])
theorem at_st_next_m (x00 : UInt64) (x10 : UInt64) (x2 : UInt64) (val : UInt64) : Meets Tryd.prog 55 [.addr 0 0, t64 val] ([(0, [t64 x00, t64 x10, t64 x2])]) [0] (.tup []) ([(0, [t64 val, t64 x10, t64 x2])]) := by
  refine Meets.enterX (E := E) (N := 9) (enc := at_st_next_enc x00 x10 x2 val) (x := ()) Tryd.func55 Tryd.call55 rfl rfl ?_
  intro Γ k hk
  refine Go.rx 20 { ws := [(4, { call := some { ids := [0], S := [0], M := [], R := .tup [], H' := [(0, [t64 val, t64 x10, t64 x2])] } })] } [] [] _ [] [(0, [t64 val, t64 x10, t64 x2])] hk rfl (by as_aux_lemma => kernel_rfl) (.cons (atSt (by first | rfl | kernel_rfl) (by first | rfl | (simp only [T.ids, idsL, er_ids, List.append_nil, List.nil_append] <;> rfl)) : Meets Tryd.prog 65 [.addr 0 0, t64 val] [(0, [t64 x00, t64 x10, t64 x2])] [0] (.tup []) [(0, [t64 val, t64 x10, t64 x2])]) (.cons (rfl : subN (idsL [.addr 0 0, t64 val]) [0] = true) (.cons (by first | rfl | (simp only [T.ids, idsL, er_ids, List.append_nil, List.nil_append]; rfl) : subN (idsL [t64 x00, t64 x10, t64 x2]) [0] = true) .nil))) ?_
  clear hk; intro k hk
  exact Go.lvx 20 [0] _ [] Tryd.func55 hk rfl (by as_aux_lemma => kernel_rfl) .nil (T.Le.of_eq rfl) rfl rfl (.cons (by first | rfl | (simp only [T.ids, idsL, er_ids, List.append_nil, List.nil_append]; rfl)) .nil)
def at_ld_next_enc (x00 : UInt64) (x10 : UInt64) (x2 : UInt64) (_ : Unit) : T × List (Nat × List T) := (t64 x00, [(0, [t64 x00, t64 x10, t64 x2])])
theorem at_ld_next_m (x00 : UInt64) (x10 : UInt64) (x2 : UInt64) : Meets Tryd.prog 56 [.addr 0 0] ([(0, [t64 x00, t64 x10, t64 x2])]) [0] (t64 x00) ([(0, [t64 x00, t64 x10, t64 x2])]) := by
  refine Meets.enterX (E := E) (N := 7) (enc := at_ld_next_enc x00 x10 x2) (x := ()) Tryd.func56 Tryd.call56 rfl rfl ?_
  intro Γ k hk
  refine Go.rx 20 {} [] [0] _ [(0, .addr 0 0)] [(0, [t64 x00, t64 x10, t64 x2])] hk rfl (by as_aux_lemma => kernel_rfl) .nil ?_
  clear hk; intro k hk
  refine Go.rx 20 { ws := [(3, { call := some { ids := [0], S := [0], M := [], R := t64 x00, H' := [(0, [t64 x00, t64 x10, t64 x2])] } })] } [] [2] _ [(2, t64 x00)] [(0, [t64 x00, t64 x10, t64 x2])] hk rfl (by as_aux_lemma => kernel_rfl) (.cons (atLd (by first | rfl | kernel_rfl) (by first | rfl | (simp only [T.ids, idsL, er_ids, List.append_nil, List.nil_append] <;> rfl)) : Meets Tryd.prog 66 [.addr 0 0] [(0, [t64 x00, t64 x10, t64 x2])] [0] (t64 x00) [(0, [t64 x00, t64 x10, t64 x2])]) (.cons (rfl : subN (idsL [.addr 0 0]) [0] = true) (.cons (by first | rfl | (simp only [T.ids, idsL, er_ids, List.append_nil, List.nil_append]; rfl) : subN (idsL [t64 x00, t64 x10, t64 x2]) [0] = true) .nil))) ?_
  clear hk; intro k hk
  exact Go.lvx 20 [0] _ [t64 x00] Tryd.func56 hk rfl (by as_aux_lemma => kernel_rfl) .nil (T.Le.of_eq rfl) rfl rfl (.cons (by first | rfl | (simp only [T.ids, idsL, er_ids, List.append_nil, List.nil_append]; rfl)) .nil)
def at_st_mark_enc (x00 : UInt64) (x10 : UInt64) (x2 : UInt64) (val : UInt64) (_ : Unit) : T × List (Nat × List T) := (.tup [], [(0, [t64 x00, t64 val, t64 x2])])
theorem at_st_mark_m (x00 : UInt64) (x10 : UInt64) (x2 : UInt64) (val : UInt64) : Meets Tryd.prog 55 [.addr 0 1, t64 val] ([(0, [t64 x00, t64 x10, t64 x2])]) [0] (.tup []) ([(0, [t64 x00, t64 val, t64 x2])]) := by
  refine Meets.enterX (E := E) (N := 9) (enc := at_st_mark_enc x00 x10 x2 val) (x := ()) Tryd.func55 Tryd.call55 rfl rfl ?_
  intro Γ k hk
  refine Go.rx 20 { ws := [(4, { call := some { ids := [0], S := [0], M := [], R := .tup [], H' := [(0, [t64 x00, t64 val, t64 x2])] } })] } [] [] _ [] [(0, [t64 x00, t64 val, t64 x2])] hk rfl (by as_aux_lemma => kernel_rfl) (.cons (atSt (by first | rfl | kernel_rfl) (by first | rfl | (simp only [T.ids, idsL, er_ids, List.append_nil, List.nil_append] <;> rfl)) : Meets Tryd.prog 65 [.addr 0 1, t64 val] [(0, [t64 x00, t64 x10, t64 x2])] [0] (.tup []) [(0, [t64 x00, t64 val, t64 x2])]) (.cons (rfl : subN (idsL [.addr 0 1, t64 val]) [0] = true) (.cons (by first | rfl | (simp only [T.ids, idsL, er_ids, List.append_nil, List.nil_append]; rfl) : subN (idsL [t64 x00, t64 x10, t64 x2]) [0] = true) .nil))) ?_
  clear hk; intro k hk
  exact Go.lvx 20 [0] _ [] Tryd.func55 hk rfl (by as_aux_lemma => kernel_rfl) .nil (T.Le.of_eq rfl) rfl rfl (.cons (by first | rfl | (simp only [T.ids, idsL, er_ids, List.append_nil, List.nil_append]; rfl)) .nil)
def at_ld_mark_enc (x00 : UInt64) (x10 : UInt64) (x2 : UInt64) (_ : Unit) : T × List (Nat × List T) := (t64 x10, [(0, [t64 x00, t64 x10, t64 x2])])
theorem at_ld_mark_m (x00 : UInt64) (x10 : UInt64) (x2 : UInt64) : Meets Tryd.prog 56 [.addr 0 1] ([(0, [t64 x00, t64 x10, t64 x2])]) [0] (t64 x10) ([(0, [t64 x00, t64 x10, t64 x2])]) := by
  refine Meets.enterX (E := E) (N := 7) (enc := at_ld_mark_enc x00 x10 x2) (x := ()) Tryd.func56 Tryd.call56 rfl rfl ?_
  intro Γ k hk
  refine Go.rx 20 {} [] [0] _ [(0, .addr 0 1)] [(0, [t64 x00, t64 x10, t64 x2])] hk rfl (by as_aux_lemma => kernel_rfl) .nil ?_
  clear hk; intro k hk
  refine Go.rx 20 { ws := [(3, { call := some { ids := [0], S := [0], M := [], R := t64 x10, H' := [(0, [t64 x00, t64 x10, t64 x2])] } })] } [] [2] _ [(2, t64 x10)] [(0, [t64 x00, t64 x10, t64 x2])] hk rfl (by as_aux_lemma => kernel_rfl) (.cons (atLd (by first | rfl | kernel_rfl) (by first | rfl | (simp only [T.ids, idsL, er_ids, List.append_nil, List.nil_append] <;> rfl)) : Meets Tryd.prog 66 [.addr 0 1] [(0, [t64 x00, t64 x10, t64 x2])] [0] (t64 x10) [(0, [t64 x00, t64 x10, t64 x2])]) (.cons (rfl : subN (idsL [.addr 0 1]) [0] = true) (.cons (by first | rfl | (simp only [T.ids, idsL, er_ids, List.append_nil, List.nil_append]; rfl) : subN (idsL [t64 x00, t64 x10, t64 x2]) [0] = true) .nil))) ?_
  clear hk; intro k hk
  exact Go.lvx 20 [0] _ [t64 x10] Tryd.func56 hk rfl (by as_aux_lemma => kernel_rfl) .nil (T.Le.of_eq rfl) rfl rfl (.cons (by first | rfl | (simp only [T.ids, idsL, er_ids, List.append_nil, List.nil_append]; rfl)) .nil)
def at_cas_next_enc (x00 : UInt64) (x10 : UInt64) (x2 : UInt64) (new : UInt64) (_ : Unit) : T × List (Nat × List T) := (tb true, [(0, [t64 new, t64 x10, t64 x2])])
theorem at_cas_next_m (x00 : UInt64) (x10 : UInt64) (x2 : UInt64) (new : UInt64) : Meets Tryd.prog 57 [.addr 0 0, t64 x00, t64 new] ([(0, [t64 x00, t64 x10, t64 x2])]) [0] (tb true) ([(0, [t64 new, t64 x10, t64 x2])]) := by
  refine Meets.enterX (E := E) (N := 13) (enc := at_cas_next_enc x00 x10 x2 new) (x := ()) Tryd.func57 Tryd.call57 rfl rfl ?_
  intro Γ k hk
  refine Go.rx 20 {} [] [0, 1, 2] _ [(0, .addr 0 0), (1, t64 x00), (2, t64 new)] [(0, [t64 x00, t64 x10, t64 x2])] hk rfl (by as_aux_lemma => kernel_rfl) .nil ?_
  clear hk; intro k hk
  refine Go.rx 20 { ws := [(5, { call := some { ids := [0], S := [0], M := [], R := tb true, H' := [(0, [t64 new, t64 x10, t64 x2])] } })] } [] [6] _ [(6, tb true)] [(0, [t64 new, t64 x10, t64 x2])] hk rfl (by as_aux_lemma => kernel_rfl) (.cons (atCas (by first | rfl | kernel_rfl) (by first | rfl | (simp only [T.ids, idsL, er_ids, List.append_nil, List.nil_append] <;> rfl)) : Meets Tryd.prog 67 [.addr 0 0, t64 x00, t64 new] [(0, [t64 x00, t64 x10, t64 x2])] [0] (tb true) [(0, [t64 new, t64 x10, t64 x2])]) (.cons (rfl : subN (idsL [.addr 0 0, t64 x00, t64 new]) [0] = true) (.cons (by first | rfl | (simp only [T.ids, idsL, er_ids, List.append_nil, List.nil_append]; rfl) : subN (idsL [t64 x00, t64 x10, t64 x2]) [0] = true) .nil))) ?_
  clear hk; intro k hk
  exact Go.lvx 20 [0] _ [tb true] Tryd.func57 hk rfl (by as_aux_lemma => kernel_rfl) .nil (T.Le.of_eq rfl) rfl rfl (.cons (by first | rfl | (simp only [T.ids, idsL, er_ids, List.append_nil, List.nil_append]; rfl)) .nil)
def at_cas_mark_enc (x00 : UInt64) (x10 : UInt64) (x2 : UInt64) (new : UInt64) (_ : Unit) : T × List (Nat × List T) := (tb true, [(0, [t64 x00, t64 new, t64 x2])])
theorem at_cas_mark_m (x00 : UInt64) (x10 : UInt64) (x2 : UInt64) (new : UInt64) : Meets Tryd.prog 57 [.addr 0 1, t64 x10, t64 new] ([(0, [t64 x00, t64 x10, t64 x2])]) [0] (tb true) ([(0, [t64 x00, t64 new, t64 x2])]) := by
  refine Meets.enterX (E := E) (N := 13) (enc := at_cas_mark_enc x00 x10 x2 new) (x := ()) Tryd.func57 Tryd.call57 rfl rfl ?_
  intro Γ k hk
  refine Go.rx 20 {} [] [0, 1, 2] _ [(0, .addr 0 1), (1, t64 x10), (2, t64 new)] [(0, [t64 x00, t64 x10, t64 x2])] hk rfl (by as_aux_lemma => kernel_rfl) .nil ?_
  clear hk; intro k hk
  refine Go.rx 20 { ws := [(5, { call := some { ids := [0], S := [0], M := [], R := tb true, H' := [(0, [t64 x00, t64 new, t64 x2])] } })] } [] [6] _ [(6, tb true)] [(0, [t64 x00, t64 new, t64 x2])] hk rfl (by as_aux_lemma => kernel_rfl) (.cons (atCas (by first | rfl | kernel_rfl) (by first | rfl | (simp only [T.ids, idsL, er_ids, List.append_nil, List.nil_append] <;> rfl)) : Meets Tryd.prog 67 [.addr 0 1, t64 x10, t64 new] [(0, [t64 x00, t64 x10, t64 x2])] [0] (tb true) [(0, [t64 x00, t64 new, t64 x2])]) (.cons (rfl : subN (idsL [.addr 0 1, t64 x10, t64 new]) [0] = true) (.cons (by first | rfl | (simp only [T.ids, idsL, er_ids, List.append_nil, List.nil_append]; rfl) : subN (idsL [t64 x00, t64 x10, t64 x2]) [0] = true) .nil))) ?_
  clear hk; intro k hk
  exact Go.lvx 20 [0] _ [tb true] Tryd.func57 hk rfl (by as_aux_lemma => kernel_rfl) .nil (T.Le.of_eq rfl) rfl rfl (.cons (by first | rfl | (simp only [T.ids, idsL, er_ids, List.append_nil, List.nil_append]; rfl)) .nil)
noncomputable def nonce_New (mark : UInt64) (limit : UInt64) : (Option (UInt64 × UInt64 × UInt64)) × Int :=
  bif (decide (mark > limit)) || (decide (limit > 281474976710656)) then
    (none, 1)
  else
    (some (mark, mark, limit), 0)
def nonce_New_enc (x : (Option (UInt64 × UInt64 × UInt64)) × Int) : T × List (Nat × List T) := (.tup [optA 10 x.1, er 83 x.2], optH 10 (fun z => [t64 z.1, t64 z.2.1, t64 z.2.2]) x.1)
theorem nonce_New_m (mark : UInt64) (limit : UInt64) : Meets Tryd.prog 34 [t64 mark, t64 limit] [] [] (.tup [optA 10 ((nonce_New mark limit).1), er 83 ((nonce_New mark limit).2)]) (optH 10 (fun z => [t64 z.1, t64 z.2.1, t64 z.2.2]) ((nonce_New mark limit).1)) := by
  refine Meets.enterX (E := E) (N := 29) (enc := nonce_New_enc) (x := (nonce_New mark limit)) Tryd.func34 Tryd.call34 rfl rfl ?_
  intro Γ k hk
  refine Go.rx 20 {} [] [0, 1] _ [(0, t64 mark), (1, t64 limit)] [] hk rfl (by as_aux_lemma => kernel_rfl) .nil ?_
  clear hk; intro k hk
  refine Go.regJ 20 [(0, t64 mark), (1, t64 limit), (13, tb ((decide (mark > limit)) || (decide (limit > 281474976710656))))] [] hk rfl ?_ ?_
  · clear hk; intro k hk
    refine Go.br 20 (Pf := (PostX Γ nonce_New_enc)) hk rfl rfl ?_ ?_ <;> clear hk <;> intro c1 k hk
    · refine Go.rx 20 {} [] [4, 5] _ [(4, .leaf (.pointer none)), (5, er 83 1)] [] hk rfl (by as_aux_lemma => kernel_rfl) .nil ?_
      clear hk; intro k hk
      exact Go.lvx 20 [] _ [.leaf (.pointer none), er 83 1] Tryd.func34 hk rfl (by as_aux_lemma => kernel_rfl) .nil (T.Le.tup (.cons (T.Le.of_eq rfl) (.cons (T.Le.of_eq rfl) .nil))) rfl (by first | rfl | (simp only [nonce_New_enc, T.ids, idsL, er_ids, List.append_nil, List.nil_append]; rfl)) .nil
    · have c11 : (decide (mark > limit)) = false := (Bool.or_eq_false_iff.1 c1).1
      have c12 : (decide (limit > 281474976710656)) = false := (Bool.or_eq_false_iff.1 c1).2
      refine Go.rx 20 { ws := [(2, { id := 10 })] } [] [0, 6] _ [(0, t64 mark), (6, .addr 10 0)] [(10, [t64 0, t64 0, t64 limit])] hk rfl (by as_aux_lemma => kernel_rfl) .nil ?_
      clear hk; intro k hk
      refine Go.rx 20 { ws := [(4, { call := some { ids := [10], S := [10], M := [], R := .tup [], H' := [(10, [t64 mark, t64 0, t64 limit])] } })] } [] [0, 6] _ [(0, t64 mark), (6, .addr 10 0)] [(10, [t64 mark, t64 0, t64 limit])] hk rfl (by as_aux_lemma => kernel_rfl) (.cons (Meets.swp [(0, 10)] (at_st_next_m 0 0 limit mark) (.cons (.addr rfl 0) (.cons (.same (by first | rfl | (simp only [T.ids, idsL, er_ids, List.append_nil, List.nil_append] <;> rfl))) .nil)) (.cons rfl (.same (by first | rfl | (simp only [T.ids, idsL, er_ids, List.append_nil, List.nil_append] <;> rfl))) .nil) rfl (.same (by first | rfl | (simp only [T.ids, idsL, er_ids, List.append_nil, List.nil_append] <;> rfl))) (.cons rfl (.same (by first | rfl | (simp only [T.ids, idsL, er_ids, List.append_nil, List.nil_append] <;> rfl))) .nil) : Meets Tryd.prog 55 [.addr 10 0, t64 mark] [(10, [t64 0, t64 0, t64 limit])] [10] (.tup []) [(10, [t64 mark, t64 0, t64 limit])]) (.cons (by first | rfl | (simp only [T.ids, idsL, er_ids, List.append_nil, List.nil_append]; rfl) : subN (idsL [.addr 10 0, t64 mark]) [10] = true) (.cons (by first | rfl | (simp only [T.ids, idsL, er_ids, List.append_nil, List.nil_append]; rfl) : subN (idsL [t64 0, t64 0, t64 limit]) [10] = true) .nil))) ?_
      clear hk; intro k hk
      refine Go.rx 20 { ws := [(4, { call := some { ids := [10], S := [10], M := [], R := .tup [], H' := [(10, [t64 mark, t64 mark, t64 limit])] } })] } [] [6] _ [(6, .addr 10 0)] [(10, [t64 mark, t64 mark, t64 limit])] hk rfl (by as_aux_lemma => kernel_rfl) (.cons (Meets.swp [(0, 10)] (at_st_mark_m mark 0 limit mark) (.cons (.addr rfl 1) (.cons (.same (by first | rfl | (simp only [T.ids, idsL, er_ids, List.append_nil, List.nil_append] <;> rfl))) .nil)) (.cons rfl (.same (by first | rfl | (simp only [T.ids, idsL, er_ids, List.append_nil, List.nil_append] <;> rfl))) .nil) rfl (.same (by first | rfl | (simp only [T.ids, idsL, er_ids, List.append_nil, List.nil_append] <;> rfl))) (.cons rfl (.same (by first | rfl | (simp only [T.ids, idsL, er_ids, List.append_nil, List.nil_append] <;> rfl))) .nil) : Meets Tryd.prog 55 [.addr 10 1, t64 mark] [(10, [t64 mark, t64 0, t64 limit])] [10] (.tup []) [(10, [t64 mark, t64 mark, t64 limit])]) (.cons (by first | rfl | (simp only [T.ids, idsL, er_ids, List.append_nil, List.nil_append]; rfl) : subN (idsL [.addr 10 1, t64 mark]) [10] = true) (.cons (by first | rfl | (simp only [T.ids, idsL, er_ids, List.append_nil, List.nil_append]; rfl) : subN (idsL [t64 mark, t64 0, t64 limit]) [10] = true) .nil))) ?_
      clear hk; intro k hk
      refine Go.rx 20 {} [] [4, 5] _ [(4, .addr 10 0), (5, .leaf .nilIface)] [(10, [t64 mark, t64 mark, t64 limit])] hk rfl (by as_aux_lemma => kernel_rfl) .nil ?_
      clear hk; intro k hk
      exact Go.lvx 20 [10] _ [.addr 10 0, .leaf .nilIface] Tryd.func34 hk rfl (by as_aux_lemma => kernel_rfl) .nil (T.Le.tup (.cons (T.Le.of_eq rfl) (.cons (T.Le.of_eq rfl) .nil))) rfl rfl (.cons (by first | rfl | (simp only [T.ids, idsL, er_ids, List.append_nil, List.nil_append]; rfl)) .nil)
  · intro hk J
    rcases Bool.eq_false_or_eq_true (decide (mark > limit)) with g1 | g1
    · refine Go.rx 20 { ws := [(2, { v := some (tb true) })] } [] [0, 1, 13] _ [(0, t64 mark), (1, t64 limit), (13, tb true)] [] hk rfl (by as_aux_lemma => kernel_rfl) (.cons trivial (.cons ((gtB64 mark limit).trans (eb g1)) .nil)) ?_
      intro k' hk'
      refine Go.slotEq 13 (tb ((decide (mark > limit)) || (decide (limit > 281474976710656)))) rfl (eb (orT g1).symm) ?_
      exact J k' hk'
    · refine Go.rx 20 { ws := [(2, { v := some (tb false) }), (5, { v := some (tb (decide (limit > 281474976710656))) })] } [] [0, 1, 13] _ [(0, t64 mark), (1, t64 limit), (13, tb (decide (limit > 281474976710656)))] [] hk rfl (by as_aux_lemma => kernel_rfl) (.cons trivial (.cons ((gtB64 mark limit).trans (eb g1)) (.cons trivial (.cons (gtB64 limit 281474976710656) .nil)))) ?_
      intro k' hk'
      refine Go.slotEq 13 (tb ((decide (mark > limit)) || (decide (limit > 281474976710656)))) rfl (eb (orF g1 rfl).symm) ?_
      exact J k' hk'
noncomputable def nonce_Counter_Left (c00 : UInt64) (c10 : UInt64) (c2 : UInt64) : UInt64 × (UInt64 × UInt64 × UInt64) :=
  (c10 - c00, (c00, c10, c2))
def nonce_Counter_Left_enc (x : UInt64 × (UInt64 × UInt64 × UInt64)) : T × List (Nat × List T) := (t64 x.1, [(0, [t64 x.2.1, t64 x.2.2.1, t64 x.2.2.2])])
theorem nonce_Counter_Left_m (c00 : UInt64) (c10 : UInt64) (c2 : UInt64) : Meets Tryd.prog 38 [.addr 0 0] ([(0, [t64 c00, t64 c10, t64 c2])]) [0] (t64 ((nonce_Counter_Left c00 c10 c2).1)) ([(0, [t64 (((nonce_Counter_Left c00 c10 c2).2).1), t64 (((nonce_Counter_Left c00 c10 c2).2).2.1), t64 (((nonce_Counter_Left c00 c10 c2).2).2.2)])]) := by
  refine Meets.enterX (E := E) (N := 16) (enc := nonce_Counter_Left_enc) (x := (nonce_Counter_Left c00 c10 c2)) Tryd.func38 Tryd.call38 rfl rfl ?_
  intro Γ k hk
  refine Go.rx 20 {} [] [0] _ [(0, .addr 0 0)] [(0, [t64 c00, t64 c10, t64 c2])] hk rfl (by as_aux_lemma => kernel_rfl) .nil ?_
  clear hk; intro k hk
  refine Go.rx 20 {} [] [0, 5] _ [(0, .addr 0 0), (5, tb false)] [(0, [t64 c00, t64 c10, t64 c2])] hk rfl (by as_aux_lemma => kernel_rfl) (.cons (⟨95, by as_aux_lemma => kernel_rfl⟩ : ∃ e, (E.ti 60).k = .ptr e) .nil) ?_
  clear hk; intro k hk
  refine Go.cond 20 hk rfl (t := false) rfl ?_; clear hk; intro k hk
  refine Go.rx 20 { ws := [(3, { call := some { ids := [0], S := [0], M := [], R := t64 c00, H' := [(0, [t64 c00, t64 c10, t64 c2])] } })] } [] [0, 3] _ [(0, .addr 0 0), (3, t64 c00)] [(0, [t64 c00, t64 c10, t64 c2])] hk rfl (by as_aux_lemma => kernel_rfl) (.cons (Meets.swp [] (at_ld_next_m c00 c10 c2) (.cons (.addr rfl 0) .nil) (.cons rfl (.same (by first | rfl | (simp only [T.ids, idsL, er_ids, List.append_nil, List.nil_append] <;> rfl))) .nil) rfl (.same (by first | rfl | (simp only [T.ids, idsL, er_ids, List.append_nil, List.nil_append] <;> rfl))) (.cons rfl (.same (by first | rfl | (simp only [T.ids, idsL, er_ids, List.append_nil, List.nil_append] <;> rfl))) .nil) : Meets Tryd.prog 56 [.addr 0 0] [(0, [t64 c00, t64 c10, t64 c2])] [0] (t64 c00) [(0, [t64 c00, t64 c10, t64 c2])]) (.cons (by first | rfl | (simp only [T.ids, idsL, er_ids, List.append_nil, List.nil_append]; rfl) : subN (idsL [.addr 0 0]) [0] = true) (.cons (by first | rfl | (simp only [T.ids, idsL, er_ids, List.append_nil, List.nil_append]; rfl) : subN (idsL [t64 c00, t64 c10, t64 c2]) [0] = true) .nil))) ?_
  clear hk; intro k hk
  refine Go.rx 20 { ws := [(3, { call := some { ids := [0], S := [0], M := [], R := t64 c10, H' := [(0, [t64 c00, t64 c10, t64 c2])] } }), (5, { v := some (t64 (c10 - c00)) })] } [] [2] _ [(2, t64 (c10 - c00))] [(0, [t64 c00, t64 c10, t64 c2])] hk rfl (by as_aux_lemma => kernel_rfl) (.cons (Meets.swp [] (at_ld_mark_m c00 c10 c2) (.cons (.addr rfl 1) .nil) (.cons rfl (.same (by first | rfl | (simp only [T.ids, idsL, er_ids, List.append_nil, List.nil_append] <;> rfl))) .nil) rfl (.same (by first | rfl | (simp only [T.ids, idsL, er_ids, List.append_nil, List.nil_append] <;> rfl))) (.cons rfl (.same (by first | rfl | (simp only [T.ids, idsL, er_ids, List.append_nil, List.nil_append] <;> rfl))) .nil) : Meets Tryd.prog 56 [.addr 0 1] [(0, [t64 c00, t64 c10, t64 c2])] [0] (t64 c10) [(0, [t64 c00, t64 c10, t64 c2])]) (.cons (by first | rfl | (simp only [T.ids, idsL, er_ids, List.append_nil, List.nil_append]; rfl) : subN (idsL [.addr 0 1]) [0] = true) (.cons (by first | rfl | (simp only [T.ids, idsL, er_ids, List.append_nil, List.nil_append]; rfl) : subN (idsL [t64 c00, t64 c10, t64 c2]) [0] = true) (.cons trivial (.cons (sub64 c10 c00) .nil))))) ?_
  clear hk; intro k hk
  exact Go.lvx 20 [0] _ [t64 (c10 - c00)] Tryd.func38 hk rfl (by as_aux_lemma => kernel_rfl) .nil (T.Le.of_eq rfl) rfl rfl (.cons (by first | rfl | (simp only [T.ids, idsL, er_ids, List.append_nil, List.nil_append]; rfl)) .nil)
noncomputable def nonce_Counter_Take_l1 (c00 : UInt64) (c10 : UInt64) (c2 : UInt64) : Nat → Lo Unit (UInt64 × Int × (UInt64 × UInt64 × UInt64))
  | 0 => .brk default
  | _ + 1 =>
    bif decide (c00 ≥ c10) then
      Lo.ret (0, 2, (c00, c10, c2))
    else
      Lo.ret (c00, 0, (c00 + 1, c10, c2))
noncomputable def nonce_Counter_Take (c00 : UInt64) (c10 : UInt64) (c2 : UInt64) : UInt64 × Int × (UInt64 × UInt64 × UInt64) :=
  Lo.el (nonce_Counter_Take_l1 c00 c10 c2 (0 + 1)) (fun _ => default)
def nonce_Counter_Take_enc (x : UInt64 × Int × (UInt64 × UInt64 × UInt64)) : T × List (Nat × List T) := (.tup [t64 x.1, er 83 x.2.1], [(0, [t64 x.2.2.1, t64 x.2.2.2.1, t64 x.2.2.2.2])])
theorem nonce_Counter_Take_m (c00 : UInt64) (c10 : UInt64) (c2 : UInt64) : Meets Tryd.prog 36 [.addr 0 0] ([(0, [t64 c00, t64 c10, t64 c2])]) [0] (.tup [t64 ((nonce_Counter_Take c00 c10 c2).1), er 83 ((nonce_Counter_Take c00 c10 c2).2.1)]) ([(0, [t64 (((nonce_Counter_Take c00 c10 c2).2.2).1), t64 (((nonce_Counter_Take c00 c10 c2).2.2).2.1), t64 (((nonce_Counter_Take c00 c10 c2).2.2).2.2)])]) := by
  refine Meets.enterX (E := E) (N := 27) (enc := nonce_Counter_Take_enc) (x := (nonce_Counter_Take c00 c10 c2)) Tryd.func36 Tryd.call36 rfl rfl ?_
  intro Γ k hk
  refine Go.rx 20 {} [] [0] _ [(0, .addr 0 0)] [(0, [t64 c00, t64 c10, t64 c2])] hk rfl (by as_aux_lemma => kernel_rfl) .nil ?_
  clear hk; intro k hk
  refine Go.rx 20 {} [] [0, 6] _ [(0, .addr 0 0), (6, tb false)] [(0, [t64 c00, t64 c10, t64 c2])] hk rfl (by as_aux_lemma => kernel_rfl) (.cons (⟨95, by as_aux_lemma => kernel_rfl⟩ : ∃ e, (E.ti 60).k = .ptr e) .nil) ?_
  clear hk; intro k hk
  refine Go.cond 20 hk rfl (t := false) rfl ?_; clear hk; intro k hk
  refine Go.keepN [0] (L' := [(0, .addr 0 0)]) rfl ?_
  refine Go.loopX 20 hk rfl ?_
  clear hk; intro kl1 kxl1 hl1 hxl1
  have Ll1 : ∀ (ml1 : Nat) , (0 < ml1) → Go E Γ 36 27 [0] ((PostX Γ nonce_Counter_Take_enc) (Lo.el (nonce_Counter_Take_l1 c00 c10 c2 ml1) (fun _ => default))) kl1 (stL [(0, .addr 0 0)] [(0, [t64 c00, t64 c10, t64 c2])]) := by
    intro ml1
    induction ml1 with
    | zero => intro hml1; exact absurd hml1 (Nat.not_lt_zero _)
    | succ ml1 ihl1 =>
      intro hml1
      refine Go.round hl1 ?_
      intro k hk
      refine Go.rx 20 { ws := [(3, { call := some { ids := [0], S := [0], M := [], R := t64 c00, H' := [(0, [t64 c00, t64 c10, t64 c2])] } })] } [] [0, 4] _ [(0, .addr 0 0), (4, t64 c00)] [(0, [t64 c00, t64 c10, t64 c2])] hk rfl (by as_aux_lemma => kernel_rfl) (.cons (Meets.swp [] (at_ld_next_m c00 c10 c2) (.cons (.addr rfl 0) .nil) (.cons rfl (.same (by first | rfl | (simp only [T.ids, idsL, er_ids, List.append_nil, List.nil_append] <;> rfl))) .nil) rfl (.same (by first | rfl | (simp only [T.ids, idsL, er_ids, List.append_nil, List.nil_append] <;> rfl))) (.cons rfl (.same (by first | rfl | (simp only [T.ids, idsL, er_ids, List.append_nil, List.nil_append] <;> rfl))) .nil) : Meets Tryd.prog 56 [.addr 0 0] [(0, [t64 c00, t64 c10, t64 c2])] [0] (t64 c00) [(0, [t64 c00, t64 c10, t64 c2])]) (.cons (by first | rfl | (simp only [T.ids, idsL, er_ids, List.append_nil, List.nil_append]; rfl) : subN (idsL [.addr 0 0]) [0] = true) (.cons (by first | rfl | (simp only [T.ids, idsL, er_ids, List.append_nil, List.nil_append]; rfl) : subN (idsL [t64 c00, t64 c10, t64 c2]) [0] = true) .nil))) ?_
      clear hk; intro k hk
      refine Go.rx 20 { ws := [(4, { call := some { ids := [0], S := [0], M := [], R := t64 c10, H' := [(0, [t64 c00, t64 c10, t64 c2])] } }), (5, { v := some (tb (decide (c00 ≥ c10))) })] } [] [0, 4, 17] _ [(0, .addr 0 0), (4, t64 c00), (17, tb (decide (c00 ≥ c10)))] [(0, [t64 c00, t64 c10, t64 c2])] hk rfl (by as_aux_lemma => kernel_rfl) (.cons (Meets.swp [] (at_ld_mark_m c00 c10 c2) (.cons (.addr rfl 1) .nil) (.cons rfl (.same (by first | rfl | (simp only [T.ids, idsL, er_ids, List.append_nil, List.nil_append] <;> rfl))) .nil) rfl (.same (by first | rfl | (simp only [T.ids, idsL, er_ids, List.append_nil, List.nil_append] <;> rfl))) (.cons rfl (.same (by first | rfl | (simp only [T.ids, idsL, er_ids, List.append_nil, List.nil_append] <;> rfl))) .nil) : Meets Tryd.prog 56 [.addr 0 1] [(0, [t64 c00, t64 c10, t64 c2])] [0] (t64 c10) [(0, [t64 c00, t64 c10, t64 c2])]) (.cons (by first | rfl | (simp only [T.ids, idsL, er_ids, List.append_nil, List.nil_append]; rfl) : subN (idsL [.addr 0 1]) [0] = true) (.cons (by first | rfl | (simp only [T.ids, idsL, er_ids, List.append_nil, List.nil_append]; rfl) : subN (idsL [t64 c00, t64 c10, t64 c2]) [0] = true) (.cons trivial (.cons (geB64 c00 c10) .nil))))) ?_
      clear hk; intro k hk
      refine Go.br 20 (Pf := (fun z => (PostX Γ nonce_Counter_Take_enc) (Lo.el z (fun _ => default)))) hk rfl rfl ?_ ?_ <;> clear hk <;> intro c1 k hk
      · refine Go.rx 20 {} [] [2, 3] _ [(2, t64 0), (3, er 83 2)] [(0, [t64 c00, t64 c10, t64 c2])] hk rfl (by as_aux_lemma => kernel_rfl) .nil ?_
        clear hk; intro k hk
        exact Go.lvx 20 [0] _ [t64 0, er 83 2] Tryd.func36 hk rfl (by as_aux_lemma => kernel_rfl) .nil (T.Le.tup (.cons (T.Le.of_eq rfl) (.cons (T.Le.of_eq rfl) .nil))) rfl (by first | rfl | (simp only [nonce_Counter_Take_enc, T.ids, idsL, er_ids, List.append_nil, List.nil_append]; rfl)) (.cons (by first | rfl | (simp only [T.ids, idsL, er_ids, List.append_nil, List.nil_append]; rfl)) .nil)
      · refine Go.rx 20 { ws := [(5, { v := some (t64 (c00 + 1)) }), (6, { call := some { ids := [0], S := [0], M := [], R := tb true, H' := [(0, [t64 (c00 + 1), t64 c10, t64 c2])] } })] } [] [0, 4, 25] _ [(0, .addr 0 0), (4, t64 c00), (25, tb true)] [(0, [t64 (c00 + 1), t64 c10, t64 c2])] hk rfl (by as_aux_lemma => kernel_rfl) (.cons trivial (.cons (add64 c00 1) (.cons (Meets.swp [] (at_cas_next_m c00 c10 c2 (c00 + 1)) (.cons (.addr rfl 0) (.cons (.same (by first | rfl | (simp only [T.ids, idsL, er_ids, List.append_nil, List.nil_append] <;> rfl))) (.cons (.same (by first | rfl | (simp only [T.ids, idsL, er_ids, List.append_nil, List.nil_append] <;> rfl))) .nil))) (.cons rfl (.same (by first | rfl | (simp only [T.ids, idsL, er_ids, List.append_nil, List.nil_append] <;> rfl))) .nil) rfl (.same (by first | rfl | (simp only [T.ids, idsL, er_ids, List.append_nil, List.nil_append] <;> rfl))) (.cons rfl (.same (by first | rfl | (simp only [T.ids, idsL, er_ids, List.append_nil, List.nil_append] <;> rfl))) .nil) : Meets Tryd.prog 57 [.addr 0 0, t64 c00, t64 (c00 + 1)] [(0, [t64 c00, t64 c10, t64 c2])] [0] (tb true) [(0, [t64 (c00 + 1), t64 c10, t64 c2])]) (.cons (by first | rfl | (simp only [T.ids, idsL, er_ids, List.append_nil, List.nil_append]; rfl) : subN (idsL [.addr 0 0, t64 c00, t64 (c00 + 1)]) [0] = true) (.cons (by first | rfl | (simp only [T.ids, idsL, er_ids, List.append_nil, List.nil_append]; rfl) : subN (idsL [t64 c00, t64 c10, t64 c2]) [0] = true) .nil))))) ?_
        clear hk; intro k hk
        refine Go.cond 20 hk rfl (t := true) rfl ?_; clear hk; intro k hk
        refine Go.rx 20 {} [] [2, 3] _ [(2, t64 c00), (3, .leaf .nilIface)] [(0, [t64 (c00 + 1), t64 c10, t64 c2])] hk rfl (by as_aux_lemma => kernel_rfl) .nil ?_
        clear hk; intro k hk
        exact Go.lvx 20 [0] _ [t64 c00, .leaf .nilIface] Tryd.func36 hk rfl (by as_aux_lemma => kernel_rfl) .nil (T.Le.tup (.cons (T.Le.of_eq rfl) (.cons (T.Le.of_eq rfl) .nil))) rfl rfl (.cons (by first | rfl | (simp only [T.ids, idsL, er_ids, List.append_nil, List.nil_append]; rfl)) .nil)
  exact Ll1 _   (Nat.lt_succ_self _)
noncomputable def nonce_Counter_Extend_l1 (c00 : UInt64) (c10 : UInt64) (c2 : UInt64) : Nat → Lo Unit (UInt64 × Int × (UInt64 × UInt64 × UInt64))
  | 0 => .brk default
  | _ + 1 =>
    bif c10 == c2 then
      Lo.ret (0, 8, (c00, c10, c2))
    else
      Lo.ret (if c2 < c10 + 16 then c2 else c10 + 16, 0, (c00, if c2 < c10 + 16 then c2 else c10 + 16, c2))
noncomputable def nonce_Counter_Extend (c00 : UInt64) (c10 : UInt64) (c2 : UInt64) : UInt64 × Int × (UInt64 × UInt64 × UInt64) :=
  Lo.el (nonce_Counter_Extend_l1 c00 c10 c2 (0 + 1)) (fun _ => default)
def nonce_Counter_Extend_enc (x : UInt64 × Int × (UInt64 × UInt64 × UInt64)) : T × List (Nat × List T) := (.tup [t64 x.1, er 83 x.2.1], [(0, [t64 x.2.2.1, t64 x.2.2.2.1, t64 x.2.2.2.2])])
theorem nonce_Counter_Extend_m (c00 : UInt64) (c10 : UInt64) (c2 : UInt64) : Meets Tryd.prog 35 [.addr 0 0] ([(0, [t64 c00, t64 c10, t64 c2])]) [0] (.tup [t64 ((nonce_Counter_Extend c00 c10 c2).1), er 83 ((nonce_Counter_Extend c00 c10 c2).2.1)]) ([(0, [t64 (((nonce_Counter_Extend c00 c10 c2).2.2).1), t64 (((nonce_Counter_Extend c00 c10 c2).2.2).2.1), t64 (((nonce_Counter_Extend c00 c10 c2).2.2).2.2)])]) := by
  refine Meets.enterX (E := E) (N := 34) (enc := nonce_Counter_Extend_enc) (x := (nonce_Counter_Extend c00 c10 c2)) Tryd.func35 Tryd.call35 rfl rfl ?_
  intro Γ k hk
  refine Go.rx 20 {} [] [0] _ [(0, .addr 0 0)] [(0, [t64 c00, t64 c10, t64 c2])] hk rfl (by as_aux_lemma => kernel_rfl) .nil ?_
  clear hk; intro k hk
  refine Go.rx 20 {} [] [0, 7] _ [(0, .addr 0 0), (7, tb false)] [(0, [t64 c00, t64 c10, t64 c2])] hk rfl (by as_aux_lemma => kernel_rfl) (.cons (⟨95, by as_aux_lemma => kernel_rfl⟩ : ∃ e, (E.ti 60).k = .ptr e) .nil) ?_
  clear hk; intro k hk
  refine Go.cond 20 hk rfl (t := false) rfl ?_; clear hk; intro k hk
  refine Go.keepN [0] (L' := [(0, .addr 0 0)]) rfl ?_
  refine Go.loopX 20 hk rfl ?_
  clear hk; intro kl1 kxl1 hl1 hxl1
  have Ll1 : ∀ (ml1 : Nat) , (0 < ml1) → Go E Γ 35 34 [0] ((PostX Γ nonce_Counter_Extend_enc) (Lo.el (nonce_Counter_Extend_l1 c00 c10 c2 ml1) (fun _ => default))) kl1 (stL [(0, .addr 0 0)] [(0, [t64 c00, t64 c10, t64 c2])]) := by
    intro ml1
    induction ml1 with
    | zero => intro hml1; exact absurd hml1 (Nat.not_lt_zero _)
    | succ ml1 ihl1 =>
      intro hml1
      refine Go.round hl1 ?_
      intro k hk
      refine Go.rx 20 { ws := [(3, { call := some { ids := [0], S := [0], M := [], R := t64 c10, H' := [(0, [t64 c00, t64 c10, t64 c2])] } })] } [] [0, 4] _ [(0, .addr 0 0), (4, t64 c10)] [(0, [t64 c00, t64 c10, t64 c2])] hk rfl (by as_aux_lemma => kernel_rfl) (.cons (Meets.swp [] (at_ld_mark_m c00 c10 c2) (.cons (.addr rfl 1) .nil) (.cons rfl (.same (by first | rfl | (simp only [T.ids, idsL, er_ids, List.append_nil, List.nil_append] <;> rfl))) .nil) rfl (.same (by first | rfl | (simp only [T.ids, idsL, er_ids, List.append_nil, List.nil_append] <;> rfl))) (.cons rfl (.same (by first | rfl | (simp only [T.ids, idsL, er_ids, List.append_nil, List.nil_append] <;> rfl))) .nil) : Meets Tryd.prog 56 [.addr 0 1] [(0, [t64 c00, t64 c10, t64 c2])] [0] (t64 c10) [(0, [t64 c00, t64 c10, t64 c2])]) (.cons (by first | rfl | (simp only [T.ids, idsL, er_ids, List.append_nil, List.nil_append]; rfl) : subN (idsL [.addr 0 1]) [0] = true) (.cons (by first | rfl | (simp only [T.ids, idsL, er_ids, List.append_nil, List.nil_append]; rfl) : subN (idsL [t64 c00, t64 c10, t64 c2]) [0] = true) .nil))) ?_
      clear hk; intro k hk
      refine Go.rx 20 { ws := [(5, { v := some (tb (c10 == c2)) })] } [] [0, 4, 18] _ [(0, .addr 0 0), (4, t64 c10), (18, tb (c10 == c2))] [(0, [t64 c00, t64 c10, t64 c2])] hk rfl (by as_aux_lemma => kernel_rfl) (.cons trivial (.cons (eqB64 c10 c2) .nil)) ?_
      clear hk; intro k hk
      refine Go.br 20 (Pf := (fun z => (PostX Γ nonce_Counter_Extend_enc) (Lo.el z (fun _ => default)))) hk rfl rfl ?_ ?_ <;> clear hk <;> intro c1 k hk
      · refine Go.rx 20 {} [] [2, 3] _ [(2, t64 0), (3, er 83 8)] [(0, [t64 c00, t64 c10, t64 c2])] hk rfl (by as_aux_lemma => kernel_rfl) .nil ?_
        clear hk; intro k hk
        exact Go.lvx 20 [0] _ [t64 0, er 83 8] Tryd.func35 hk rfl (by as_aux_lemma => kernel_rfl) .nil (T.Le.tup (.cons (T.Le.of_eq rfl) (.cons (T.Le.of_eq rfl) .nil))) rfl (by first | rfl | (simp only [nonce_Counter_Extend_enc, T.ids, idsL, er_ids, List.append_nil, List.nil_append]; rfl)) (.cons (by first | rfl | (simp only [T.ids, idsL, er_ids, List.append_nil, List.nil_append]; rfl)) .nil)
      · refine Go.rx 20 { ws := [(1, { v := some (t64 (c10 + 16)) }), (6, { v := some (t64 (if c2 < c10 + 16 then c2 else c10 + 16)) })] } [] [0, 4, 5] _ [(0, .addr 0 0), (4, t64 c10), (5, t64 (if c2 < c10 + 16 then c2 else c10 + 16))] [(0, [t64 c00, t64 c10, t64 c2])] hk rfl (by as_aux_lemma => kernel_rfl) (.cons trivial (.cons (add64 c10 16) (.cons (min64 (c10 + 16) c2) .nil))) ?_
        clear hk; intro k hk
        refine Go.rx 20 { ws := [(5, { call := some { ids := [0], S := [0], M := [], R := tb true, H' := [(0, [t64 c00, t64 (if c2 < c10 + 16 then c2 else c10 + 16), t64 c2])] } })] } [] [0, 5, 32] _ [(0, .addr 0 0), (5, t64 (if c2 < c10 + 16 then c2 else c10 + 16)), (32, tb true)] [(0, [t64 c00, t64 (if c2 < c10 + 16 then c2 else c10 + 16), t64 c2])] hk rfl (by as_aux_lemma => kernel_rfl) (.cons (Meets.swp [] (at_cas_mark_m c00 c10 c2 (if c2 < c10 + 16 then c2 else c10 + 16)) (.cons (.addr rfl 1) (.cons (.same (by first | rfl | (simp only [T.ids, idsL, er_ids, List.append_nil, List.nil_append] <;> rfl))) (.cons (.same (by first | rfl | (simp only [T.ids, idsL, er_ids, List.append_nil, List.nil_append] <;> rfl))) .nil))) (.cons rfl (.same (by first | rfl | (simp only [T.ids, idsL, er_ids, List.append_nil, List.nil_append] <;> rfl))) .nil) rfl (.same (by first | rfl | (simp only [T.ids, idsL, er_ids, List.append_nil, List.nil_append] <;> rfl))) (.cons rfl (.same (by first | rfl | (simp only [T.ids, idsL, er_ids, List.append_nil, List.nil_append] <;> rfl))) .nil) : Meets Tryd.prog 57 [.addr 0 1, t64 c10, t64 (if c2 < c10 + 16 then c2 else c10 + 16)] [(0, [t64 c00, t64 c10, t64 c2])] [0] (tb true) [(0, [t64 c00, t64 (if c2 < c10 + 16 then c2 else c10 + 16), t64 c2])]) (.cons (by first | rfl | (simp only [T.ids, idsL, er_ids, List.append_nil, List.nil_append]; rfl) : subN (idsL [.addr 0 1, t64 c10, t64 (if c2 < c10 + 16 then c2 else c10 + 16)]) [0] = true) (.cons (by first | rfl | (simp only [T.ids, idsL, er_ids, List.append_nil, List.nil_append]; rfl) : subN (idsL [t64 c00, t64 c10, t64 c2]) [0] = true) .nil))) ?_
        clear hk; intro k hk
        refine Go.cond 20 hk rfl (t := true) rfl ?_; clear hk; intro k hk
        refine Go.rx 20 {} [] [2, 3] _ [(2, t64 (if c2 < c10 + 16 then c2 else c10 + 16)), (3, .leaf .nilIface)] [(0, [t64 c00, t64 (if c2 < c10 + 16 then c2 else c10 + 16), t64 c2])] hk rfl (by as_aux_lemma => kernel_rfl) .nil ?_
        clear hk; intro k hk
        exact Go.lvx 20 [0] _ [t64 (if c2 < c10 + 16 then c2 else c10 + 16), .leaf .nilIface] Tryd.func35 hk rfl (by as_aux_lemma => kernel_rfl) .nil (T.Le.tup (.cons (T.Le.of_eq rfl) (.cons (T.Le.of_eq rfl) .nil))) rfl rfl (.cons (by first | rfl | (simp only [T.ids, idsL, er_ids, List.append_nil, List.nil_append]; rfl)) .nil)
  exact Ll1 _   (Nat.lt_succ_self _)
noncomputable def nonce_Bytes_k1 (o2 : List UInt8) : List UInt8 :=
  o2
noncomputable def nonce_Bytes_l1 (n : UInt64) : Nat → Int → (List UInt8) → Lo (List UInt8) (List UInt8)
  | 0, _, _ => .brk default
  | ml1 + 1, t191, o1 =>
    bif decide (t191 < 8) then
      nonce_Bytes_l1 n ml1 (t191 + 1) (o1 ++ [(shr64 n (56 - (8 * t191))).toUInt8])
    else
      Lo.brk o1
noncomputable def nonce_Bytes (term : UInt32) (n : UInt64) : List UInt8 :=
  Lo.el (nonce_Bytes_l1 n ((8 - (0 : Int)).toNat + 1) 0 [(shr32 term 24).toUInt8, (shr32 term 16).toUInt8, (shr32 term 8).toUInt8, term.toUInt8]) (fun z => nonce_Bytes_k1 z)
def nonce_Bytes_enc (x : List UInt8) : T × List (Nat × List T) := (.sl 1 .shr x.length (u8s x), [])
theorem nonce_Bytes_m (term : UInt32) (n : UInt64) : Meets Tryd.prog 58 [t32 term, t64 n] [] [] (.sl 1 .shr (nonce_Bytes term n).length (u8s (nonce_Bytes term n))) [] := by
  refine Meets.enterX (E := E) (N := 33) (enc := nonce_Bytes_enc) (x := (nonce_Bytes term n)) Tryd.func58 Tryd.call58 rfl rfl ?_
  intro Γ k hk
  refine Go.rx 20 {} [] [0, 1] _ [(0, t32 term), (1, t64 n)] [] hk rfl (by as_aux_lemma => kernel_rfl) .nil ?_
  clear hk; intro k hk
  refine Go.rx 20 { ws := [(1, { v := some (t32 (shr32 term 24)) }), (2, { v := some (t8 ((shr32 term 24).toUInt8)) }), (4, { v := some (t32 (shr32 term 16)) }), (5, { v := some (t8 ((shr32 term 16).toUInt8)) }), (7, { v := some (t32 (shr32 term 8)) }), (8, { v := some (t8 ((shr32 term 8).toUInt8)) }), (10, { v := some (t8 term.toUInt8) }), (11, { id := 10 })] } [] [1, 5] _ [(1, t64 n), (5, .ref 10 1 0 4)] [(10, [t8 ((shr32 term 24).toUInt8), t8 ((shr32 term 16).toUInt8), t8 ((shr32 term 8).toUInt8), t8 term.toUInt8])] hk rfl (by as_aux_lemma => kernel_rfl) (.cons (by decide : 0 ≤ (24 : Int)) (.cons (shrT32 term 24) (.cons (cv32_8 (shr32 term 24)) (.cons (by decide : 0 ≤ (16 : Int)) (.cons (shrT32 term 16) (.cons (cv32_8 (shr32 term 16)) (.cons (by decide : 0 ≤ (8 : Int)) (.cons (shrT32 term 8) (.cons (cv32_8 (shr32 term 8)) (.cons (cv32_8 term) .nil)))))))))) ?_
  clear hk; intro k hk
  refine Go.rx 20 {} [] [1, 5, 19] _ [(1, t64 n), (5, .ref 10 1 0 4), (19, ti 0)] [(10, [t8 ((shr32 term 24).toUInt8), t8 ((shr32 term 16).toUInt8), t8 ((shr32 term 8).toUInt8), t8 term.toUInt8])] hk rfl (by as_aux_lemma => kernel_rfl) .nil ?_
  clear hk; intro k hk
  refine Go.loopX 20 hk rfl ?_
  clear hk; intro kl1 kxl1 hl1 hxl1
  have Xl1 : ∀ (o2 : List UInt8), Go E Γ 58 33 [] ((PostX Γ nonce_Bytes_enc) (nonce_Bytes_k1 o2)) kxl1 (stL [(5, .ref 10 1 0 o2.length)] [(10, u8s o2)]) := by
    intro o2
    refine Go.rx 20 {} [] [4] _ [(4, .ref 10 1 0 o2.length)] [(10, u8s o2)] hxl1 rfl (by as_aux_lemma => kernel_rfl) .nil ?_
    clear hxl1; intro kxl1 hxl1
    refine Go.frz [] [] 4 10 (u8s o2) _ [(4, .dead)] [] rfl rfl (mp_ids _ (fun _ => rfl)) (by simp only [List.length_map]; omega) (mp_all _) (by as_aux_lemma => kernel_rfl) .nil ?_
    exact Go.lvx 20 [] _ [.sl 1 .shr o2.length (u8s o2)] Tryd.func58 hxl1 rfl (by as_aux_lemma => kernel_rfl) .nil (T.Le.of_eq rfl) rfl rfl .nil
  have Ll1 : ∀ (ml1 : Nat) (t191 : Int) (o1 : List UInt8), (0 ≤ t191) → (t191 ≤ 8) → ((o1.length : Int) = 4 + t191) → ((8 - t191).toNat < ml1) → Go E Γ 58 33 [] ((PostX Γ nonce_Bytes_enc) (Lo.el (nonce_Bytes_l1 n ml1 t191 o1) (fun z => nonce_Bytes_k1 z))) kl1 (stL [(1, t64 n), (5, .ref 10 1 0 o1.length), (19, ti t191)] [(10, u8s o1)]) := by
    intro ml1
    induction ml1 with
    | zero => intro t191 o1 i0l1 i1l1 i2l1 hml1; exact absurd hml1 (Nat.not_lt_zero _)
    | succ ml1 ihl1 =>
      intro t191 o1 i0l1 i1l1 i2l1 hml1
      refine Go.round hl1 ?_
      intro k hk
      refine Go.rx 20 {} [] [1, 5, 19, 20] _ [(1, t64 n), (5, .ref 10 1 0 o1.length), (19, ti t191), (20, tb (decide (t191 < 8)))] [(10, u8s o1)] hk rfl (by as_aux_lemma => kernel_rfl) (.cons trivial .nil) ?_
      clear hk; intro k hk
      refine Go.br 20 (Pf := (fun z => (PostX Γ nonce_Bytes_enc) (Lo.el z (fun z => nonce_Bytes_k1 z)))) hk rfl rfl ?_ ?_ <;> clear hk <;> intro c1 k hk
      · have c1p := of_decide_eq_true c1
        refine Go.rx 20 {} [] [1, 5, 6, 19] _ [(1, t64 n), (5, .ref 10 1 0 o1.length), (6, ti t191), (19, ti t191)] [(10, u8s o1)] hk rfl (by as_aux_lemma => kernel_rfl) .nil ?_
        clear hk; intro k hk
        refine Go.rx 20 { ws := [(3, { v := some (ti (8 * t191)) }), (4, { v := some (ti (56 - (8 * t191))) }), (5, { v := some (t64 (shr64 n (56 - (8 * t191)))) }), (6, { v := some (t8 ((shr64 n (56 - (8 * t191))).toUInt8)) }), (7, { id := 11 }), (8, { v := some (.ref 10 1 0 ((o1 ++ [(shr64 n (56 - (8 * t191))).toUInt8]).length)), c := some (u8s (o1 ++ [(shr64 n (56 - (8 * t191))).toUInt8])), id := 10, sym := true })], pg := [10] } [11] [1, 5, 19] _ [(1, t64 n), (5, .ref 10 1 0 ((o1 ++ [(shr64 n (56 - (8 * t191))).toUInt8]).length)), (19, ti t191)] [(10, u8s (o1 ++ [(shr64 n (56 - (8 * t191))).toUInt8]))] hk rfl (by as_aux_lemma => kernel_rfl) (.cons trivial (.cons (iw (8 * t191) (by omega)) (.cons trivial (.cons (iw (56 - (8 * t191)) (by omega)) (.cons (by omega : 0 ≤ ((56 - (8 * t191)) : Int)) (.cons (shrT64 n (56 - (8 * t191))) (.cons (cv64_8 (shr64 n (56 - (8 * t191)))) (.cons (Nat.le_of_ble_eq_true rfl : 0 + 1 * 1 ≤ ([t8 ((shr64 n (56 - (8 * t191))).toUInt8)] : List T).length) (.cons (by simp only [List.length_map]; omega : 0 + o1.length * 1 ≤ (u8s o1).length) (.cons (rfl : scalL [t8 ((shr64 n (56 - (8 * t191))).toUInt8)] = true) (.cons (by first | omega | (simp only [List.length_append, List.length_cons, List.length_nil, List.length_map] at *; omega) : (o1.length + 1) * 1 ≤ 140737488355328) (.cons (mp_app (g := (fun c : UInt8 => T.leaf (.int .u8 c.toNat))) (o1) [(shr64 n (56 - (8 * t191))).toUInt8] rfl) (.cons (mp_mem (i := 10) (g := (fun c : UInt8 => T.leaf (.int .u8 c.toNat))) (o1 ++ [(shr64 n (56 - (8 * t191))).toUInt8]) (fun _ => rfl)) (.cons (by simp : T.ref 10 1 0 (o1.length + 1) = .ref 10 1 0 ((o1 ++ [(shr64 n (56 - (8 * t191))).toUInt8]).length)) (.cons (mp_mem (i := 11) (g := (fun c : UInt8 => T.leaf (.int .u8 c.toNat))) (o1 ++ [(shr64 n (56 - (8 * t191))).toUInt8]) (fun _ => rfl)) .nil))))))))))))))) ?_
        clear hk; intro k hk
        refine Go.rx 20 { ws := [(0, { v := some (ti (t191 + 1)) })] } [] [1, 5, 19] _ [(1, t64 n), (5, .ref 10 1 0 ((o1 ++ [(shr64 n (56 - (8 * t191))).toUInt8]).length)), (19, ti (t191 + 1))] [(10, u8s (o1 ++ [(shr64 n (56 - (8 * t191))).toUInt8]))] hk rfl (by as_aux_lemma => kernel_rfl) (.cons trivial (.cons (iw (t191 + 1) (by omega)) .nil)) ?_
        clear hk; intro k hk
        exact Go.join 20 hk hl1 rfl (ihl1 (t191 + 1) (o1 ++ [(shr64 n (56 - (8 * t191))).toUInt8]) (by first | omega | (simp only [List.length_append, List.length_cons, List.length_nil] at *; omega)) (by first | omega | (simp only [List.length_append, List.length_cons, List.length_nil] at *; omega)) (by first | omega | (simp only [List.length_append, List.length_cons, List.length_nil] at *; omega)) (by omega))
      · have c1p := of_decide_eq_false c1
        refine Go.keepN [5] (L' := [(5, .ref 10 1 0 o1.length)]) rfl ?_
        exact Go.join 20 hk hxl1 rfl (Xl1 o1)
  exact Ll1 _ 0 [(shr32 term 24).toUInt8, (shr32 term 16).toUInt8, (shr32 term 8).toUInt8, term.toUInt8] (by first | omega | decide | rfl) (by first | omega | decide | rfl) (by first | omega | decide | rfl) (Nat.lt_succ_self _)
def bursarylaw18_num_enc (x : Int) : T × List (Nat × List T) := (ti x, [])
theorem bursarylaw18_num_m (e : Int) : Meets Tryd.prog 37 [er 83 e] [] [] (ti e) [] := by
  by_cases p : e = 0
  · subst p
    rw [er_zero]
    refine Meets.enterX (E := E) (N := 10) (enc := bursarylaw18_num_enc) (x := (0 : Int)) Tryd.func37 Tryd.call37 rfl rfl ?_
    intro Γ k hk
    refine Go.rx 20 {} [] [0] _ [(0, .leaf .nilIface)] [] hk rfl (by as_aux_lemma => kernel_rfl) .nil ?_
    clear hk; intro k hk
    refine Go.rx 20 { ws := [(0, { id := 10 })] } [] [0, 3] _ [(0, .leaf .nilIface), (3, .addr 10 0)] [(10, [ti 0])] hk rfl (by as_aux_lemma => kernel_rfl) .nil ?_
    clear hk; intro k hk
    refine Go.rx 20 {} [] [0, 3, 5] _ [(0, .leaf .nilIface), (3, .addr 10 0), (5, tb true)] [(10, [ti 0])] hk rfl (by as_aux_lemma => kernel_rfl) (.cons (by as_aux_lemma => kernel_rfl : (E.ti 25).k = .iface) .nil) ?_
    clear hk; intro k hk
    refine Go.cond 20 hk rfl (t := true) rfl ?_; clear hk; intro k hk
    refine Go.rx 20 {} [10] [2] _ [(2, ti 0)] [] hk rfl (by as_aux_lemma => kernel_rfl) .nil ?_
    clear hk; intro k hk
    exact Go.lvx 20 [] _ [ti 0] Tryd.func37 hk rfl (by as_aux_lemma => kernel_rfl) .nil (T.Le.of_eq rfl) rfl rfl .nil
  · rw [er_ne p]
    refine Meets.enterX (E := E) (N := 10) (enc := bursarylaw18_num_enc) (x := (e : Int)) Tryd.func37 Tryd.call37 rfl rfl ?_
    intro Γ k hk
    refine Go.rx 20 {} [] [0] _ [(0, .iface 83 (ti e))] [] hk rfl (by as_aux_lemma => kernel_rfl) .nil ?_
    clear hk; intro k hk
    refine Go.rx 20 { ws := [(0, { id := 10 })] } [] [0, 3] _ [(0, .iface 83 (ti e)), (3, .addr 10 0)] [(10, [ti 0])] hk rfl (by as_aux_lemma => kernel_rfl) .nil ?_
    clear hk; intro k hk
    refine Go.rx 20 {} [] [0, 3, 5] _ [(0, .iface 83 (ti e)), (3, .addr 10 0), (5, tb false)] [(10, [ti 0])] hk rfl (by as_aux_lemma => kernel_rfl) (.cons (by as_aux_lemma => kernel_rfl : (E.ti 25).k = .iface) .nil) ?_
    clear hk; intro k hk
    refine Go.cond 20 hk rfl (t := false) rfl ?_; clear hk; intro k hk
    refine Go.rx 20 { ws := [(2, { call := some { ids := [10], S := [10], R := tb true, H' := [(10, [ti e])] } })] } [] [3, 8] _ [(3, .addr 10 0), (8, tb true)] [(10, [ti e])] hk rfl (by as_aux_lemma => kernel_rfl) (.cons (meets_errAs 10 e 0) (.cons (rfl : subN (idsL [.iface 83 (ti e), .iface 85 (.addr 10 0)]) [10] = true) (.cons (rfl : subN (idsL [ti 0]) [10] = true) .nil))) ?_
    clear hk; intro k hk
    refine Go.cond 20 hk rfl (t := true) rfl ?_; clear hk; intro k hk
    refine Go.rx 20 {} [10] [2] _ [(2, ti e)] [] hk rfl (by as_aux_lemma => kernel_rfl) .nil ?_
    clear hk; intro k hk
    exact Go.lvx 20 [] _ [ti e] Tryd.func37 hk rfl (by as_aux_lemma => kernel_rfl) .nil (T.Le.of_eq rfl) rfl rfl .nil
noncomputable def bursarylaw18_sure  : Bool :=
  bif ((nonce_New 3 10).1).isSome then
    bnd (nonce_New 3 10) fun x1 =>
    bif !(decide (x1.2 = 0)) then
      false
    else
      bnd (nonce_Counter_Take (((x1.1).getD default).1) (((x1.1).getD default).2.1) (((x1.1).getD default).2.2)) fun x2 =>
      bnd (nonce_Counter_Extend ((x2.2.2).1) ((x2.2.2).2.1) ((x2.2.2).2.2)) fun x3 =>
      bnd (nonce_Counter_Take ((x3.2.2).1) ((x3.2.2).2.1) ((x3.2.2).2.2)) fun x4 =>
      bnd (nonce_Counter_Extend ((x4.2.2).1) ((x4.2.2).2.1) ((x4.2.2).2.2)) fun x5 =>
      bnd (id x2.2.1) fun x6 =>
      bnd (id x5.2.1) fun x7 =>
      bnd (nonce_Counter_Left ((x5.2.2).1) ((x5.2.2).2.1) ((x5.2.2).2.2)) fun x8 =>
      bnd (nonce_Bytes 1 2) fun x9 =>
      (x6 == 2) && ((decide (x3.2.1 = 0)) && ((x3.1 == 10) && ((decide (x4.2.1 = 0)) && ((x4.1 == 3) && ((x7 == 8) && (((x8.1) == 6) && (x9 == [0, 0, 0, 1, 0, 0, 0, 0, 0, 0, 0, 2])))))))
  else
    bnd (nonce_New 3 10) fun x10 =>
    false
def bursarylaw18_sure_enc (x : Bool) : T × List (Nat × List T) := (tb x, [])
theorem bursarylaw18_sure_m  : Meets Tryd.prog 39 [] [] [] (tb bursarylaw18_sure) [] := by
  refine Meets.enterX (E := E) (N := 75) (enc := bursarylaw18_sure_enc) (x := bursarylaw18_sure) Tryd.func39 Tryd.call39 rfl rfl ?_
  intro Γ k hk
  refine Go.rx 20 {} [] [] _ [] [] hk rfl (by as_aux_lemma => kernel_rfl) .nil ?_
  clear hk; intro k hk
  refine Go.split (Pf := (PostX Γ bursarylaw18_sure_enc)) (((nonce_New 3 10).1).isSome) ?_ ?_ <;> intro p1
  · refine Go.rx 20 { ws := [(0, { call := some { ids := [], S := [], M := [], R := .tup [.addr 10 0, er 83 ((nonce_New 3 10).2)], H' := [(10, [t64 ((((nonce_New 3 10).1).getD default).1), t64 ((((nonce_New 3 10).1).getD default).2.1), t64 ((((nonce_New 3 10).1).getD default).2.2)])] } })] } [] [1, 2] _ [(1, .addr 10 0), (2, er 83 ((nonce_New 3 10).2))] [(10, [t64 ((((nonce_New 3 10).1).getD default).1), t64 ((((nonce_New 3 10).1).getD default).2.1), t64 ((((nonce_New 3 10).1).getD default).2.2)])] hk rfl (by as_aux_lemma => kernel_rfl) (.cons (Meets.swp [] (Meets.optS (i := 10) (g := fun z => [t64 z.1, t64 z.2.1, t64 z.2.2]) (fun q => .tup [q, er 83 ((nonce_New 3 10).2)]) (nonce_New_m 3 10) p1) (.cons (.same (by first | rfl | (simp only [T.ids, idsL, er_ids, List.append_nil, List.nil_append] <;> rfl))) (.cons (.same (by first | rfl | (simp only [T.ids, idsL, er_ids, List.append_nil, List.nil_append] <;> rfl))) .nil)) .nil rfl (.tup (.cons (.addr rfl 0) (.cons (.same (by first | rfl | (simp only [T.ids, idsL, er_ids, List.append_nil, List.nil_append] <;> rfl))) .nil))) (.cons rfl (.same (by first | rfl | (simp only [T.ids, idsL, er_ids, List.append_nil, List.nil_append] <;> rfl))) .nil) : Meets Tryd.prog 34 [t64 3, t64 10] [] [] (.tup [.addr 10 0, er 83 ((nonce_New 3 10).2)]) [(10, [t64 ((((nonce_New 3 10).1).getD default).1), t64 ((((nonce_New 3 10).1).getD default).2.1), t64 ((((nonce_New 3 10).1).getD default).2.2)])]) (.cons (by first | rfl | (simp only [T.ids, idsL, er_ids, List.append_nil, List.nil_append]; rfl) : subN (idsL [t64 3, t64 10]) [] = true) .nil)) ?_
    clear hk; intro k hk
    refine Go.bnd (Pf := (PostX Γ bursarylaw18_sure_enc)) (v := (nonce_New 3 10)) (fun x1 => [(1, .addr 10 0), (2, er 83 x1.2)]) (fun x1 => [(10, [t64 (((x1.1).getD default).1), t64 (((x1.1).getD default).2.1), t64 (((x1.1).getD default).2.2)])]) ?_
    intro x1 hx1
    refine Go.regJ 20 [(1, .addr 10 0), (20, tb (!(decide (x1.2 = 0))))] [(10, [t64 (((x1.1).getD default).1), t64 (((x1.1).getD default).2.1), t64 (((x1.1).getD default).2.2)])] hk rfl ?_ ?_
    · clear hk; intro k hk
      refine Go.br 20 (Pf := (PostX Γ bursarylaw18_sure_enc)) hk rfl rfl ?_ ?_ <;> clear hk <;> intro c1 k hk
      · have c1' : (decide (x1.2 = 0)) = false := ntT c1
        have c1'p := of_decide_eq_false c1'
        refine Go.rx 20 {} [10] [0] _ [(0, tb false)] [] hk rfl (by as_aux_lemma => kernel_rfl) .nil ?_
        clear hk; intro k hk
        exact Go.lvx 20 [] _ [tb false] Tryd.func39 hk rfl (by as_aux_lemma => kernel_rfl) .nil (T.Le.of_eq rfl) rfl rfl .nil
      · have c1' : (decide (x1.2 = 0)) = true := ntF c1
        have c1'p := of_decide_eq_true c1'
        refine Go.rx 20 { ws := [(1, { call := some { ids := [10], S := [10], M := [], R := .tup [t64 ((nonce_Counter_Take (((x1.1).getD default).1) (((x1.1).getD default).2.1) (((x1.1).getD default).2.2)).1), er 83 ((nonce_Counter_Take (((x1.1).getD default).1) (((x1.1).getD default).2.1) (((x1.1).getD default).2.2)).2.1)], H' := [(10, [t64 (((nonce_Counter_Take (((x1.1).getD default).1) (((x1.1).getD default).2.1) (((x1.1).getD default).2.2)).2.2).1), t64 (((nonce_Counter_Take (((x1.1).getD default).1) (((x1.1).getD default).2.1) (((x1.1).getD default).2.2)).2.2).2.1), t64 (((nonce_Counter_Take (((x1.1).getD default).1) (((x1.1).getD default).2.1) (((x1.1).getD default).2.2)).2.2).2.2)])] } })] } [] [1, 4] _ [(1, .addr 10 0), (4, er 83 ((nonce_Counter_Take (((x1.1).getD default).1) (((x1.1).getD default).2.1) (((x1.1).getD default).2.2)).2.1))] [(10, [t64 (((nonce_Counter_Take (((x1.1).getD default).1) (((x1.1).getD default).2.1) (((x1.1).getD default).2.2)).2.2).1), t64 (((nonce_Counter_Take (((x1.1).getD default).1) (((x1.1).getD default).2.1) (((x1.1).getD default).2.2)).2.2).2.1), t64 (((nonce_Counter_Take (((x1.1).getD default).1) (((x1.1).getD default).2.1) (((x1.1).getD default).2.2)).2.2).2.2)])] hk rfl (by as_aux_lemma => kernel_rfl) (.cons (Meets.swp [(0, 10)] (nonce_Counter_Take_m (((x1.1).getD default).1) (((x1.1).getD default).2.1) (((x1.1).getD default).2.2)) (.cons (.addr rfl 0) .nil) (.cons rfl (.same (by first | rfl | (simp only [T.ids, idsL, er_ids, List.append_nil, List.nil_append] <;> rfl))) .nil) rfl (.same (by first | rfl | (simp only [T.ids, idsL, er_ids, List.append_nil, List.nil_append] <;> rfl))) (.cons rfl (.same (by first | rfl | (simp only [T.ids, idsL, er_ids, List.append_nil, List.nil_append] <;> rfl))) .nil) : Meets Tryd.prog 36 [.addr 10 0] [(10, [t64 (((x1.1).getD default).1), t64 (((x1.1).getD default).2.1), t64 (((x1.1).getD default).2.2)])] [10] (.tup [t64 ((nonce_Counter_Take (((x1.1).getD default).1) (((x1.1).getD default).2.1) (((x1.1).getD default).2.2)).1), er 83 ((nonce_Counter_Take (((x1.1).getD default).1) (((x1.1).getD default).2.1) (((x1.1).getD default).2.2)).2.1)]) [(10, [t64 (((nonce_Counter_Take (((x1.1).getD default).1) (((x1.1).getD default).2.1) (((x1.1).getD default).2.2)).2.2).1), t64 (((nonce_Counter_Take (((x1.1).getD default).1) (((x1.1).getD default).2.1) (((x1.1).getD default).2.2)).2.2).2.1), t64 (((nonce_Counter_Take (((x1.1).getD default).1) (((x1.1).getD default).2.1) (((x1.1).getD default).2.2)).2.2).2.2)])]) (.cons (by first | rfl | (simp only [T.ids, idsL, er_ids, List.append_nil, List.nil_append]; rfl) : subN (idsL [.addr 10 0]) [10] = true) (.cons (by first | rfl | (simp only [T.ids, idsL, er_ids, List.append_nil, List.nil_append]; rfl) : subN (idsL [t64 (((x1.1).getD default).1), t64 (((x1.1).getD default).2.1), t64 (((x1.1).getD default).2.2)]) [10] = true) .nil))) ?_
        clear hk; intro k hk
        refine Go.bnd (Pf := (PostX Γ bursarylaw18_sure_enc)) (v := (nonce_Counter_Take (((x1.1).getD default).1) (((x1.1).getD default).2.1) (((x1.1).getD default).2.2))) (fun x2 => [(1, .addr 10 0), (4, er 83 x2.2.1)]) (fun x2 => [(10, [t64 ((x2.2.2).1), t64 ((x2.2.2).2.1), t64 ((x2.2.2).2.2)])]) ?_
        intro x2 hx2
        refine Go.rx 20 { ws := [(1, { call := some { ids := [10], S := [10], M := [], R := .tup [t64 ((nonce_Counter_Extend ((x2.2.2).1) ((x2.2.2).2.1) ((x2.2.2).2.2)).1), er 83 ((nonce_Counter_Extend ((x2.2.2).1) ((x2.2.2).2.1) ((x2.2.2).2.2)).2.1)], H' := [(10, [t64 (((nonce_Counter_Extend ((x2.2.2).1) ((x2.2.2).2.1) ((x2.2.2).2.2)).2.2).1), t64 (((nonce_Counter_Extend ((x2.2.2).1) ((x2.2.2).2.1) ((x2.2.2).2.2)).2.2).2.1), t64 (((nonce_Counter_Extend ((x2.2.2).1) ((x2.2.2).2.1) ((x2.2.2).2.2)).2.2).2.2)])] } })] } [] [1, 4, 5, 6] _ [(1, .addr 10 0), (4, er 83 x2.2.1), (5, t64 ((nonce_Counter_Extend ((x2.2.2).1) ((x2.2.2).2.1) ((x2.2.2).2.2)).1)), (6, er 83 ((nonce_Counter_Extend ((x2.2.2).1) ((x2.2.2).2.1) ((x2.2.2).2.2)).2.1))] [(10, [t64 (((nonce_Counter_Extend ((x2.2.2).1) ((x2.2.2).2.1) ((x2.2.2).2.2)).2.2).1), t64 (((nonce_Counter_Extend ((x2.2.2).1) ((x2.2.2).2.1) ((x2.2.2).2.2)).2.2).2.1), t64 (((nonce_Counter_Extend ((x2.2.2).1) ((x2.2.2).2.1) ((x2.2.2).2.2)).2.2).2.2)])] hk rfl (by as_aux_lemma => kernel_rfl) (.cons (Meets.swp [(0, 10)] (nonce_Counter_Extend_m ((x2.2.2).1) ((x2.2.2).2.1) ((x2.2.2).2.2)) (.cons (.addr rfl 0) .nil) (.cons rfl (.same (by first | rfl | (simp only [T.ids, idsL, er_ids, List.append_nil, List.nil_append] <;> rfl))) .nil) rfl (.same (by first | rfl | (simp only [T.ids, idsL, er_ids, List.append_nil, List.nil_append] <;> rfl))) (.cons rfl (.same (by first | rfl | (simp only [T.ids, idsL, er_ids, List.append_nil, List.nil_append] <;> rfl))) .nil) : Meets Tryd.prog 35 [.addr 10 0] [(10, [t64 ((x2.2.2).1), t64 ((x2.2.2).2.1), t64 ((x2.2.2).2.2)])] [10] (.tup [t64 ((nonce_Counter_Extend ((x2.2.2).1) ((x2.2.2).2.1) ((x2.2.2).2.2)).1), er 83 ((nonce_Counter_Extend ((x2.2.2).1) ((x2.2.2).2.1) ((x2.2.2).2.2)).2.1)]) [(10, [t64 (((nonce_Counter_Extend ((x2.2.2).1) ((x2.2.2).2.1) ((x2.2.2).2.2)).2.2).1), t64 (((nonce_Counter_Extend ((x2.2.2).1) ((x2.2.2).2.1) ((x2.2.2).2.2)).2.2).2.1), t64 (((nonce_Counter_Extend ((x2.2.2).1) ((x2.2.2).2.1) ((x2.2.2).2.2)).2.2).2.2)])]) (.cons (by first | rfl | (simp only [T.ids, idsL, er_ids, List.append_nil, List.nil_append]; rfl) : subN (idsL [.addr 10 0]) [10] = true) (.cons (by first | rfl | (simp only [T.ids, idsL, er_ids, List.append_nil, List.nil_append]; rfl) : subN (idsL [t64 ((x2.2.2).1), t64 ((x2.2.2).2.1), t64 ((x2.2.2).2.2)]) [10] = true) .nil))) ?_
        clear hk; intro k hk
        refine Go.bnd (Pf := (PostX Γ bursarylaw18_sure_enc)) (v := (nonce_Counter_Extend ((x2.2.2).1) ((x2.2.2).2.1) ((x2.2.2).2.2))) (fun x3 => [(1, .addr 10 0), (4, er 83 x2.2.1), (5, t64 x3.1), (6, er 83 x3.2.1)]) (fun x3 => [(10, [t64 ((x3.2.2).1), t64 ((x3.2.2).2.1), t64 ((x3.2.2).2.2)])]) ?_
        intro x3 hx3
        refine Go.rx 20 { ws := [(1, { call := some { ids := [10], S := [10], M := [], R := .tup [t64 ((nonce_Counter_Take ((x3.2.2).1) ((x3.2.2).2.1) ((x3.2.2).2.2)).1), er 83 ((nonce_Counter_Take ((x3.2.2).1) ((x3.2.2).2.1) ((x3.2.2).2.2)).2.1)], H' := [(10, [t64 (((nonce_Counter_Take ((x3.2.2).1) ((x3.2.2).2.1) ((x3.2.2).2.2)).2.2).1), t64 (((nonce_Counter_Take ((x3.2.2).1) ((x3.2.2).2.1) ((x3.2.2).2.2)).2.2).2.1), t64 (((nonce_Counter_Take ((x3.2.2).1) ((x3.2.2).2.1) ((x3.2.2).2.2)).2.2).2.2)])] } })] } [] [1, 4, 5, 6, 7, 8] _ [(1, .addr 10 0), (4, er 83 x2.2.1), (5, t64 x3.1), (6, er 83 x3.2.1), (7, t64 ((nonce_Counter_Take ((x3.2.2).1) ((x3.2.2).2.1) ((x3.2.2).2.2)).1)), (8, er 83 ((nonce_Counter_Take ((x3.2.2).1) ((x3.2.2).2.1) ((x3.2.2).2.2)).2.1))] [(10, [t64 (((nonce_Counter_Take ((x3.2.2).1) ((x3.2.2).2.1) ((x3.2.2).2.2)).2.2).1), t64 (((nonce_Counter_Take ((x3.2.2).1) ((x3.2.2).2.1) ((x3.2.2).2.2)).2.2).2.1), t64 (((nonce_Counter_Take ((x3.2.2).1) ((x3.2.2).2.1) ((x3.2.2).2.2)).2.2).2.2)])] hk rfl (by as_aux_lemma => kernel_rfl) (.cons (Meets.swp [(0, 10)] (nonce_Counter_Take_m ((x3.2.2).1) ((x3.2.2).2.1) ((x3.2.2).2.2)) (.cons (.addr rfl 0) .nil) (.cons rfl (.same (by first | rfl | (simp only [T.ids, idsL, er_ids, List.append_nil, List.nil_append] <;> rfl))) .nil) rfl (.same (by first | rfl | (simp only [T.ids, idsL, er_ids, List.append_nil, List.nil_append] <;> rfl))) (.cons rfl (.same (by first | rfl | (simp only [T.ids, idsL, er_ids, List.append_nil, List.nil_append] <;> rfl))) .nil) : Meets Tryd.prog 36 [.addr 10 0] [(10, [t64 ((x3.2.2).1), t64 ((x3.2.2).2.1), t64 ((x3.2.2).2.2)])] [10] (.tup [t64 ((nonce_Counter_Take ((x3.2.2).1) ((x3.2.2).2.1) ((x3.2.2).2.2)).1), er 83 ((nonce_Counter_Take ((x3.2.2).1) ((x3.2.2).2.1) ((x3.2.2).2.2)).2.1)]) [(10, [t64 (((nonce_Counter_Take ((x3.2.2).1) ((x3.2.2).2.1) ((x3.2.2).2.2)).2.2).1), t64 (((nonce_Counter_Take ((x3.2.2).1) ((x3.2.2).2.1) ((x3.2.2).2.2)).2.2).2.1), t64 (((nonce_Counter_Take ((x3.2.2).1) ((x3.2.2).2.1) ((x3.2.2).2.2)).2.2).2.2)])]) (.cons (by first | rfl | (simp only [T.ids, idsL, er_ids, List.append_nil, List.nil_append]; rfl) : subN (idsL [.addr 10 0]) [10] = true) (.cons (by first | rfl | (simp only [T.ids, idsL, er_ids, List.append_nil, List.nil_append]; rfl) : subN (idsL [t64 ((x3.2.2).1), t64 ((x3.2.2).2.1), t64 ((x3.2.2).2.2)]) [10] = true) .nil))) ?_
        clear hk; intro k hk
        refine Go.bnd (Pf := (PostX Γ bursarylaw18_sure_enc)) (v := (nonce_Counter_Take ((x3.2.2).1) ((x3.2.2).2.1) ((x3.2.2).2.2))) (fun x4 => [(1, .addr 10 0), (4, er 83 x2.2.1), (5, t64 x3.1), (6, er 83 x3.2.1), (7, t64 x4.1), (8, er 83 x4.2.1)]) (fun x4 => [(10, [t64 ((x4.2.2).1), t64 ((x4.2.2).2.1), t64 ((x4.2.2).2.2)])]) ?_
        intro x4 hx4
        refine Go.rx 20 { ws := [(1, { call := some { ids := [10], S := [10], M := [], R := .tup [t64 ((nonce_Counter_Extend ((x4.2.2).1) ((x4.2.2).2.1) ((x4.2.2).2.2)).1), er 83 ((nonce_Counter_Extend ((x4.2.2).1) ((x4.2.2).2.1) ((x4.2.2).2.2)).2.1)], H' := [(10, [t64 (((nonce_Counter_Extend ((x4.2.2).1) ((x4.2.2).2.1) ((x4.2.2).2.2)).2.2).1), t64 (((nonce_Counter_Extend ((x4.2.2).1) ((x4.2.2).2.1) ((x4.2.2).2.2)).2.2).2.1), t64 (((nonce_Counter_Extend ((x4.2.2).1) ((x4.2.2).2.1) ((x4.2.2).2.2)).2.2).2.2)])] } })] } [] [1, 4, 5, 6, 7, 8, 10] _ [(1, .addr 10 0), (4, er 83 x2.2.1), (5, t64 x3.1), (6, er 83 x3.2.1), (7, t64 x4.1), (8, er 83 x4.2.1), (10, er 83 ((nonce_Counter_Extend ((x4.2.2).1) ((x4.2.2).2.1) ((x4.2.2).2.2)).2.1))] [(10, [t64 (((nonce_Counter_Extend ((x4.2.2).1) ((x4.2.2).2.1) ((x4.2.2).2.2)).2.2).1), t64 (((nonce_Counter_Extend ((x4.2.2).1) ((x4.2.2).2.1) ((x4.2.2).2.2)).2.2).2.1), t64 (((nonce_Counter_Extend ((x4.2.2).1) ((x4.2.2).2.1) ((x4.2.2).2.2)).2.2).2.2)])] hk rfl (by as_aux_lemma => kernel_rfl) (.cons (Meets.swp [(0, 10)] (nonce_Counter_Extend_m ((x4.2.2).1) ((x4.2.2).2.1) ((x4.2.2).2.2)) (.cons (.addr rfl 0) .nil) (.cons rfl (.same (by first | rfl | (simp only [T.ids, idsL, er_ids, List.append_nil, List.nil_append] <;> rfl))) .nil) rfl (.same (by first | rfl | (simp only [T.ids, idsL, er_ids, List.append_nil, List.nil_append] <;> rfl))) (.cons rfl (.same (by first | rfl | (simp only [T.ids, idsL, er_ids, List.append_nil, List.nil_append] <;> rfl))) .nil) : Meets Tryd.prog 35 [.addr 10 0] [(10, [t64 ((x4.2.2).1), t64 ((x4.2.2).2.1), t64 ((x4.2.2).2.2)])] [10] (.tup [t64 ((nonce_Counter_Extend ((x4.2.2).1) ((x4.2.2).2.1) ((x4.2.2).2.2)).1), er 83 ((nonce_Counter_Extend ((x4.2.2).1) ((x4.2.2).2.1) ((x4.2.2).2.2)).2.1)]) [(10, [t64 (((nonce_Counter_Extend ((x4.2.2).1) ((x4.2.2).2.1) ((x4.2.2).2.2)).2.2).1), t64 (((nonce_Counter_Extend ((x4.2.2).1) ((x4.2.2).2.1) ((x4.2.2).2.2)).2.2).2.1), t64 (((nonce_Counter_Extend ((x4.2.2).1) ((x4.2.2).2.1) ((x4.2.2).2.2)).2.2).2.2)])]) (.cons (by first | rfl | (simp only [T.ids, idsL, er_ids, List.append_nil, List.nil_append]; rfl) : subN (idsL [.addr 10 0]) [10] = true) (.cons (by first | rfl | (simp only [T.ids, idsL, er_ids, List.append_nil, List.nil_append]; rfl) : subN (idsL [t64 ((x4.2.2).1), t64 ((x4.2.2).2.1), t64 ((x4.2.2).2.2)]) [10] = true) .nil))) ?_
        clear hk; intro k hk
        refine Go.bnd (Pf := (PostX Γ bursarylaw18_sure_enc)) (v := (nonce_Counter_Extend ((x4.2.2).1) ((x4.2.2).2.1) ((x4.2.2).2.2))) (fun x5 => [(1, .addr 10 0), (4, er 83 x2.2.1), (5, t64 x3.1), (6, er 83 x3.2.1), (7, t64 x4.1), (8, er 83 x4.2.1), (10, er 83 x5.2.1)]) (fun x5 => [(10, [t64 ((x5.2.2).1), t64 ((x5.2.2).2.1), t64 ((x5.2.2).2.2)])]) ?_
        intro x5 hx5
        refine Go.regJ 20 [(0, tb (((id x2.2.1) == 2) && ((decide (x3.2.1 = 0)) && ((x3.1 == 10) && ((decide (x4.2.1 = 0)) && ((x4.1 == 3) && (((id x5.2.1) == 8) && ((((nonce_Counter_Left ((x5.2.2).1) ((x5.2.2).2.1) ((x5.2.2).2.2)).1) == 6) && ((nonce_Bytes 1 2) == [0, 0, 0, 1, 0, 0, 0, 0, 0, 0, 0, 2])))))))))] [] hk rfl ?_ ?_
        · clear hk; intro k hk
          refine Go.bnd (Pf := (PostX Γ bursarylaw18_sure_enc)) (v := (id x2.2.1)) (fun x6 => [(0, tb ((x6 == 2) && ((decide (x3.2.1 = 0)) && ((x3.1 == 10) && ((decide (x4.2.1 = 0)) && ((x4.1 == 3) && (((id x5.2.1) == 8) && ((((nonce_Counter_Left ((x5.2.2).1) ((x5.2.2).2.1) ((x5.2.2).2.2)).1) == 6) && ((nonce_Bytes 1 2) == [0, 0, 0, 1, 0, 0, 0, 0, 0, 0, 0, 2])))))))))]) (fun x6 => []) ?_
          intro x6 hx6
          refine Go.bnd (Pf := (PostX Γ bursarylaw18_sure_enc)) (v := (id x5.2.1)) (fun x7 => [(0, tb ((x6 == 2) && ((decide (x3.2.1 = 0)) && ((x3.1 == 10) && ((decide (x4.2.1 = 0)) && ((x4.1 == 3) && ((x7 == 8) && ((((nonce_Counter_Left ((x5.2.2).1) ((x5.2.2).2.1) ((x5.2.2).2.2)).1) == 6) && ((nonce_Bytes 1 2) == [0, 0, 0, 1, 0, 0, 0, 0, 0, 0, 0, 2])))))))))]) (fun x7 => []) ?_
          intro x7 hx7
          refine Go.bnd (Pf := (PostX Γ bursarylaw18_sure_enc)) (v := (nonce_Counter_Left ((x5.2.2).1) ((x5.2.2).2.1) ((x5.2.2).2.2))) (fun x8 => [(0, tb ((x6 == 2) && ((decide (x3.2.1 = 0)) && ((x3.1 == 10) && ((decide (x4.2.1 = 0)) && ((x4.1 == 3) && ((x7 == 8) && (((x8.1) == 6) && ((nonce_Bytes 1 2) == [0, 0, 0, 1, 0, 0, 0, 0, 0, 0, 0, 2])))))))))]) (fun x8 => []) ?_
          intro x8 hx8
          refine Go.bnd (Pf := (PostX Γ bursarylaw18_sure_enc)) (v := (nonce_Bytes 1 2)) (fun x9 => [(0, tb ((x6 == 2) && ((decide (x3.2.1 = 0)) && ((x3.1 == 10) && ((decide (x4.2.1 = 0)) && ((x4.1 == 3) && ((x7 == 8) && (((x8.1) == 6) && (x9 == [0, 0, 0, 1, 0, 0, 0, 0, 0, 0, 0, 2])))))))))]) (fun x9 => []) ?_
          intro x9 hx9
          exact Go.lvx 20 [] _ [tb ((x6 == 2) && ((decide (x3.2.1 = 0)) && ((x3.1 == 10) && ((decide (x4.2.1 = 0)) && ((x4.1 == 3) && ((x7 == 8) && (((x8.1) == 6) && (x9 == [0, 0, 0, 1, 0, 0, 0, 0, 0, 0, 0, 2]))))))))] Tryd.func39 hk rfl (by as_aux_lemma => kernel_rfl) .nil (T.Le.of_eq rfl) rfl rfl .nil
        · intro hk J
          rcases Bool.eq_false_or_eq_true ((id x2.2.1) == 2) with g2 | g2
          · have g2p := eqIt g2
            rcases Bool.eq_false_or_eq_true (decide (x3.2.1 = 0)) with g3 | g3
            · have g3p := of_decide_eq_true g3
              rcases Bool.eq_false_or_eq_true (x3.1 == 10) with g4 | g4
              · rcases Bool.eq_false_or_eq_true (decide (x4.2.1 = 0)) with g5 | g5
                · have g5p := of_decide_eq_true g5
                  rcases Bool.eq_false_or_eq_true (x4.1 == 3) with g6 | g6
                  · rcases Bool.eq_false_or_eq_true ((id x5.2.1) == 8) with g7 | g7
                    · have g7p := eqIt g7
                      rcases Bool.eq_false_or_eq_true (((nonce_Counter_Left ((x5.2.2).1) ((x5.2.2).2.1) ((x5.2.2).2.2)).1) == 6) with g8 | g8
                      · refine Go.rx 20 { ws := [(1, { call := some { ids := [], S := [], M := [], R := ti (id x2.2.1), H' := [] } }), (2, { v := some (tb true) }), (5, { v := some (tb true), er := some (83, x3.2.1) }), (9, { v := some (tb true) }), (13, { v := some (tb true), er := some (83, x4.2.1) }), (17, { v := some (tb true) }), (21, { call := some { ids := [], S := [], M := [], R := ti (id x5.2.1), H' := [] } }), (22, { v := some (tb true) }), (26, { call := some { ids := [10], S := [10], M := [], R := t64 ((nonce_Counter_Left ((x5.2.2).1) ((x5.2.2).2.1) ((x5.2.2).2.2)).1), H' := [(10, [t64 (((nonce_Counter_Left ((x5.2.2).1) ((x5.2.2).2.1) ((x5.2.2).2.2)).2).1), t64 (((nonce_Counter_Left ((x5.2.2).1) ((x5.2.2).2.1) ((x5.2.2).2.2)).2).2.1), t64 (((nonce_Counter_Left ((x5.2.2).1) ((x5.2.2).2.1) ((x5.2.2).2.2)).2).2.2)])] } }), (27, { v := some (tb true) }), (30, { call := some { ids := [], S := [], M := [], R := .sl 1 .shr (nonce_Bytes 1 2).length (u8s (nonce_Bytes 1 2)), H' := [] } }), (31, { b := (nonce_Bytes 1 2) }), (32, { v := some (tb ((nonce_Bytes 1 2) == [0, 0, 0, 1, 0, 0, 0, 0, 0, 0, 0, 2])) })], ps := [4, 6, 8, 10, 41, 45, 53, 61] } [10] [0] _ [(0, tb ((nonce_Bytes 1 2) == [0, 0, 0, 1, 0, 0, 0, 0, 0, 0, 0, 2]))] [] hk rfl (by as_aux_lemma => kernel_rfl) (.cons (bursarylaw18_num_m x2.2.1) (.cons (by first | rfl | (simp only [T.ids, idsL, er_ids, List.append_nil, List.nil_append]; rfl) : subN (idsL [er 83 x2.2.1]) [] = true) (.cons trivial (.cons (eb g2) (.cons (⟨rfl, rfl⟩ : (er 83 x3.2.1) = er 83 x3.2.1 ∧ (.leaf .nilIface : T) = .leaf .nilIface) (.cons (eb g3) (.cons trivial (.cons ((eqB64 x3.1 10).trans (eb g4)) (.cons (⟨rfl, rfl⟩ : (er 83 x4.2.1) = er 83 x4.2.1 ∧ (.leaf .nilIface : T) = .leaf .nilIface) (.cons (eb g5) (.cons trivial (.cons ((eqB64 x4.1 3).trans (eb g6)) (.cons (bursarylaw18_num_m x5.2.1) (.cons (by first | rfl | (simp only [T.ids, idsL, er_ids, List.append_nil, List.nil_append]; rfl) : subN (idsL [er 83 x5.2.1]) [] = true) (.cons trivial (.cons (eb g7) (.cons (Meets.swp [(0, 10)] (nonce_Counter_Left_m ((x5.2.2).1) ((x5.2.2).2.1) ((x5.2.2).2.2)) (.cons (.addr rfl 0) .nil) (.cons rfl (.same (by first | rfl | (simp only [T.ids, idsL, er_ids, List.append_nil, List.nil_append] <;> rfl))) .nil) rfl (.same (by first | rfl | (simp only [T.ids, idsL, er_ids, List.append_nil, List.nil_append] <;> rfl))) (.cons rfl (.same (by first | rfl | (simp only [T.ids, idsL, er_ids, List.append_nil, List.nil_append] <;> rfl))) .nil) : Meets Tryd.prog 38 [.addr 10 0] [(10, [t64 ((x5.2.2).1), t64 ((x5.2.2).2.1), t64 ((x5.2.2).2.2)])] [10] (t64 ((nonce_Counter_Left ((x5.2.2).1) ((x5.2.2).2.1) ((x5.2.2).2.2)).1)) [(10, [t64 (((nonce_Counter_Left ((x5.2.2).1) ((x5.2.2).2.1) ((x5.2.2).2.2)).2).1), t64 (((nonce_Counter_Left ((x5.2.2).1) ((x5.2.2).2.1) ((x5.2.2).2.2)).2).2.1), t64 (((nonce_Counter_Left ((x5.2.2).1) ((x5.2.2).2.1) ((x5.2.2).2.2)).2).2.2)])]) (.cons (by first | rfl | (simp only [T.ids, idsL, er_ids, List.append_nil, List.nil_append]; rfl) : subN (idsL [.addr 10 0]) [10] = true) (.cons (by first | rfl | (simp only [T.ids, idsL, er_ids, List.append_nil, List.nil_append]; rfl) : subN (idsL [t64 ((x5.2.2).1), t64 ((x5.2.2).2.1), t64 ((x5.2.2).2.2)]) [10] = true) (.cons trivial (.cons ((eqB64 ((nonce_Counter_Left ((x5.2.2).1) ((x5.2.2).2.1) ((x5.2.2).2.2)).1) 6).trans (eb g8)) (.cons (nonce_Bytes_m 1 2) (.cons (by first | rfl | (simp only [T.ids, idsL, er_ids, List.append_nil, List.nil_append]; rfl) : subN (idsL [t32 1, t64 2]) [] = true) (.cons (rfl : u8s (nonce_Bytes 1 2) = u8s (nonce_Bytes 1 2)) (.cons trivial (.cons (s_eq (nonce_Bytes 1 2) [0, 0, 0, 1, 0, 0, 0, 0, 0, 0, 0, 2]) (.cons (er_mem (i := 10) 83 x2.2.1) (.cons (er_mem (i := 10) 83 x3.2.1) (.cons (er_mem (i := 10) 83 x4.2.1) (.cons (er_mem (i := 10) 83 x5.2.1) (.cons (er_mem (i := 10) 83 x2.2.1) (.cons (er_mem (i := 10) 83 x3.2.1) (.cons (er_mem (i := 10) 83 x4.2.1) (.cons (er_mem (i := 10) 83 x5.2.1) .nil)))))))))))))))))))))))))))))))))) ?_
                        intro k' hk'
                        refine Go.slotEq 0 (tb (((id x2.2.1) == 2) && ((decide (x3.2.1 = 0)) && ((x3.1 == 10) && ((decide (x4.2.1 = 0)) && ((x4.1 == 3) && (((id x5.2.1) == 8) && ((((nonce_Counter_Left ((x5.2.2).1) ((x5.2.2).2.1) ((x5.2.2).2.2)).1) == 6) && ((nonce_Bytes 1 2) == [0, 0, 0, 1, 0, 0, 0, 0, 0, 0, 0, 2]))))))))) rfl (eb (andT g2 (andT g3 (andT g4 (andT g5 (andT g6 (andT g7 (andT g8 rfl))))))).symm) ?_
                        exact J k' hk'
                      · refine Go.rx 20 { ws := [(1, { call := some { ids := [], S := [], M := [], R := ti (id x2.2.1), H' := [] } }), (2, { v := some (tb true) }), (5, { v := some (tb true), er := some (83, x3.2.1) }), (9, { v := some (tb true) }), (13, { v := some (tb true), er := some (83, x4.2.1) }), (17, { v := some (tb true) }), (21, { call := some { ids := [], S := [], M := [], R := ti (id x5.2.1), H' := [] } }), (22, { v := some (tb true) }), (26, { call := some { ids := [10], S := [10], M := [], R := t64 ((nonce_Counter_Left ((x5.2.2).1) ((x5.2.2).2.1) ((x5.2.2).2.2)).1), H' := [(10, [t64 (((nonce_Counter_Left ((x5.2.2).1) ((x5.2.2).2.1) ((x5.2.2).2.2)).2).1), t64 (((nonce_Counter_Left ((x5.2.2).1) ((x5.2.2).2.1) ((x5.2.2).2.2)).2).2.1), t64 (((nonce_Counter_Left ((x5.2.2).1) ((x5.2.2).2.1) ((x5.2.2).2.2)).2).2.2)])] } }), (27, { v := some (tb false) })], ps := [4, 6, 8, 10, 41, 45, 53, 61] } [10] [0] _ [(0, tb false)] [] hk rfl (by as_aux_lemma => kernel_rfl) (.cons (bursarylaw18_num_m x2.2.1) (.cons (by first | rfl | (simp only [T.ids, idsL, er_ids, List.append_nil, List.nil_append]; rfl) : subN (idsL [er 83 x2.2.1]) [] = true) (.cons trivial (.cons (eb g2) (.cons (⟨rfl, rfl⟩ : (er 83 x3.2.1) = er 83 x3.2.1 ∧ (.leaf .nilIface : T) = .leaf .nilIface) (.cons (eb g3) (.cons trivial (.cons ((eqB64 x3.1 10).trans (eb g4)) (.cons (⟨rfl, rfl⟩ : (er 83 x4.2.1) = er 83 x4.2.1 ∧ (.leaf .nilIface : T) = .leaf .nilIface) (.cons (eb g5) (.cons trivial (.cons ((eqB64 x4.1 3).trans (eb g6)) (.cons (bursarylaw18_num_m x5.2.1) (.cons (by first | rfl | (simp only [T.ids, idsL, er_ids, List.append_nil, List.nil_append]; rfl) : subN (idsL [er 83 x5.2.1]) [] = true) (.cons trivial (.cons (eb g7) (.cons (Meets.swp [(0, 10)] (nonce_Counter_Left_m ((x5.2.2).1) ((x5.2.2).2.1) ((x5.2.2).2.2)) (.cons (.addr rfl 0) .nil) (.cons rfl (.same (by first | rfl | (simp only [T.ids, idsL, er_ids, List.append_nil, List.nil_append] <;> rfl))) .nil) rfl (.same (by first | rfl | (simp only [T.ids, idsL, er_ids, List.append_nil, List.nil_append] <;> rfl))) (.cons rfl (.same (by first | rfl | (simp only [T.ids, idsL, er_ids, List.append_nil, List.nil_append] <;> rfl))) .nil) : Meets Tryd.prog 38 [.addr 10 0] [(10, [t64 ((x5.2.2).1), t64 ((x5.2.2).2.1), t64 ((x5.2.2).2.2)])] [10] (t64 ((nonce_Counter_Left ((x5.2.2).1) ((x5.2.2).2.1) ((x5.2.2).2.2)).1)) [(10, [t64 (((nonce_Counter_Left ((x5.2.2).1) ((x5.2.2).2.1) ((x5.2.2).2.2)).2).1), t64 (((nonce_Counter_Left ((x5.2.2).1) ((x5.2.2).2.1) ((x5.2.2).2.2)).2).2.1), t64 (((nonce_Counter_Left ((x5.2.2).1) ((x5.2.2).2.1) ((x5.2.2).2.2)).2).2.2)])]) (.cons (by first | rfl | (simp only [T.ids, idsL, er_ids, List.append_nil, List.nil_append]; rfl) : subN (idsL [.addr 10 0]) [10] = true) (.cons (by first | rfl | (simp only [T.ids, idsL, er_ids, List.append_nil, List.nil_append]; rfl) : subN (idsL [t64 ((x5.2.2).1), t64 ((x5.2.2).2.1), t64 ((x5.2.2).2.2)]) [10] = true) (.cons trivial (.cons ((eqB64 ((nonce_Counter_Left ((x5.2.2).1) ((x5.2.2).2.1) ((x5.2.2).2.2)).1) 6).trans (eb g8)) (.cons (er_mem (i := 10) 83 x2.2.1) (.cons (er_mem (i := 10) 83 x3.2.1) (.cons (er_mem (i := 10) 83 x4.2.1) (.cons (er_mem (i := 10) 83 x5.2.1) (.cons (er_mem (i := 10) 83 x2.2.1) (.cons (er_mem (i := 10) 83 x3.2.1) (.cons (er_mem (i := 10) 83 x4.2.1) (.cons (er_mem (i := 10) 83 x5.2.1) .nil))))))))))))))))))))))))))))) ?_
                        intro k' hk'
                        refine Go.slotEq 0 (tb (((id x2.2.1) == 2) && ((decide (x3.2.1 = 0)) && ((x3.1 == 10) && ((decide (x4.2.1 = 0)) && ((x4.1 == 3) && (((id x5.2.1) == 8) && ((((nonce_Counter_Left ((x5.2.2).1) ((x5.2.2).2.1) ((x5.2.2).2.2)).1) == 6) && ((nonce_Bytes 1 2) == [0, 0, 0, 1, 0, 0, 0, 0, 0, 0, 0, 2]))))))))) rfl (eb (andT g2 (andT g3 (andT g4 (andT g5 (andT g6 (andT g7 (andF g8))))))).symm) ?_
                        exact J k' hk'
                    · have g7p := eqIf g7
                      refine Go.rx 20 { ws := [(1, { call := some { ids := [], S := [], M := [], R := ti (id x2.2.1), H' := [] } }), (2, { v := some (tb true) }), (5, { v := some (tb true), er := some (83, x3.2.1) }), (9, { v := some (tb true) }), (13, { v := some (tb true), er := some (83, x4.2.1) }), (17, { v := some (tb true) }), (21, { call := some { ids := [], S := [], M := [], R := ti (id x5.2.1), H' := [] } }), (22, { v := some (tb false) })], ps := [4, 6, 8, 10, 41, 45, 53, 61] } [10] [0] _ [(0, tb false)] [] hk rfl (by as_aux_lemma => kernel_rfl) (.cons (bursarylaw18_num_m x2.2.1) (.cons (by first | rfl | (simp only [T.ids, idsL, er_ids, List.append_nil, List.nil_append]; rfl) : subN (idsL [er 83 x2.2.1]) [] = true) (.cons trivial (.cons (eb g2) (.cons (⟨rfl, rfl⟩ : (er 83 x3.2.1) = er 83 x3.2.1 ∧ (.leaf .nilIface : T) = .leaf .nilIface) (.cons (eb g3) (.cons trivial (.cons ((eqB64 x3.1 10).trans (eb g4)) (.cons (⟨rfl, rfl⟩ : (er 83 x4.2.1) = er 83 x4.2.1 ∧ (.leaf .nilIface : T) = .leaf .nilIface) (.cons (eb g5) (.cons trivial (.cons ((eqB64 x4.1 3).trans (eb g6)) (.cons (bursarylaw18_num_m x5.2.1) (.cons (by first | rfl | (simp only [T.ids, idsL, er_ids, List.append_nil, List.nil_append]; rfl) : subN (idsL [er 83 x5.2.1]) [] = true) (.cons trivial (.cons (eb g7) (.cons (er_mem (i := 10) 83 x2.2.1) (.cons (er_mem (i := 10) 83 x3.2.1) (.cons (er_mem (i := 10) 83 x4.2.1) (.cons (er_mem (i := 10) 83 x5.2.1) (.cons (er_mem (i := 10) 83 x2.2.1) (.cons (er_mem (i := 10) 83 x3.2.1) (.cons (er_mem (i := 10) 83 x4.2.1) (.cons (er_mem (i := 10) 83 x5.2.1) .nil)))))))))))))))))))))))) ?_
                      intro k' hk'
                      refine Go.slotEq 0 (tb (((id x2.2.1) == 2) && ((decide (x3.2.1 = 0)) && ((x3.1 == 10) && ((decide (x4.2.1 = 0)) && ((x4.1 == 3) && (((id x5.2.1) == 8) && ((((nonce_Counter_Left ((x5.2.2).1) ((x5.2.2).2.1) ((x5.2.2).2.2)).1) == 6) && ((nonce_Bytes 1 2) == [0, 0, 0, 1, 0, 0, 0, 0, 0, 0, 0, 2]))))))))) rfl (eb (andT g2 (andT g3 (andT g4 (andT g5 (andT g6 (andF g7)))))).symm) ?_
                      exact J k' hk'
                  · refine Go.rx 20 { ws := [(1, { call := some { ids := [], S := [], M := [], R := ti (id x2.2.1), H' := [] } }), (2, { v := some (tb true) }), (5, { v := some (tb true), er := some (83, x3.2.1) }), (9, { v := some (tb true) }), (13, { v := some (tb true), er := some (83, x4.2.1) }), (17, { v := some (tb false) })], ps := [4, 6, 8, 10, 41, 45, 53] } [10] [0] _ [(0, tb false)] [] hk rfl (by as_aux_lemma => kernel_rfl) (.cons (bursarylaw18_num_m x2.2.1) (.cons (by first | rfl | (simp only [T.ids, idsL, er_ids, List.append_nil, List.nil_append]; rfl) : subN (idsL [er 83 x2.2.1]) [] = true) (.cons trivial (.cons (eb g2) (.cons (⟨rfl, rfl⟩ : (er 83 x3.2.1) = er 83 x3.2.1 ∧ (.leaf .nilIface : T) = .leaf .nilIface) (.cons (eb g3) (.cons trivial (.cons ((eqB64 x3.1 10).trans (eb g4)) (.cons (⟨rfl, rfl⟩ : (er 83 x4.2.1) = er 83 x4.2.1 ∧ (.leaf .nilIface : T) = .leaf .nilIface) (.cons (eb g5) (.cons trivial (.cons ((eqB64 x4.1 3).trans (eb g6)) (.cons (er_mem (i := 10) 83 x2.2.1) (.cons (er_mem (i := 10) 83 x3.2.1) (.cons (er_mem (i := 10) 83 x4.2.1) (.cons (er_mem (i := 10) 83 x5.2.1) (.cons (er_mem (i := 10) 83 x2.2.1) (.cons (er_mem (i := 10) 83 x3.2.1) (.cons (er_mem (i := 10) 83 x4.2.1) .nil))))))))))))))))))) ?_
                    intro k' hk'
                    refine Go.slotEq 0 (tb (((id x2.2.1) == 2) && ((decide (x3.2.1 = 0)) && ((x3.1 == 10) && ((decide (x4.2.1 = 0)) && ((x4.1 == 3) && (((id x5.2.1) == 8) && ((((nonce_Counter_Left ((x5.2.2).1) ((x5.2.2).2.1) ((x5.2.2).2.2)).1) == 6) && ((nonce_Bytes 1 2) == [0, 0, 0, 1, 0, 0, 0, 0, 0, 0, 0, 2]))))))))) rfl (eb (andT g2 (andT g3 (andT g4 (andT g5 (andF g6))))).symm) ?_
                    exact J k' hk'
                · have g5p := of_decide_eq_false g5
                  refine Go.rx 20 { ws := [(1, { call := some { ids := [], S := [], M := [], R := ti (id x2.2.1), H' := [] } }), (2, { v := some (tb true) }), (5, { v := some (tb true), er := some (83, x3.2.1) }), (9, { v := some (tb true) }), (13, { v := some (tb false), er := some (83, x4.2.1) })], ps := [4, 6, 8, 10, 41, 45, 53] } [10] [0] _ [(0, tb false)] [] hk rfl (by as_aux_lemma => kernel_rfl) (.cons (bursarylaw18_num_m x2.2.1) (.cons (by first | rfl | (simp only [T.ids, idsL, er_ids, List.append_nil, List.nil_append]; rfl) : subN (idsL [er 83 x2.2.1]) [] = true) (.cons trivial (.cons (eb g2) (.cons (⟨rfl, rfl⟩ : (er 83 x3.2.1) = er 83 x3.2.1 ∧ (.leaf .nilIface : T) = .leaf .nilIface) (.cons (eb g3) (.cons trivial (.cons ((eqB64 x3.1 10).trans (eb g4)) (.cons (⟨rfl, rfl⟩ : (er 83 x4.2.1) = er 83 x4.2.1 ∧ (.leaf .nilIface : T) = .leaf .nilIface) (.cons (eb g5) (.cons (er_mem (i := 10) 83 x2.2.1) (.cons (er_mem (i := 10) 83 x3.2.1) (.cons (er_mem (i := 10) 83 x4.2.1) (.cons (er_mem (i := 10) 83 x5.2.1) (.cons (er_mem (i := 10) 83 x2.2.1) (.cons (er_mem (i := 10) 83 x3.2.1) (.cons (er_mem (i := 10) 83 x4.2.1) .nil))))))))))))))))) ?_
                  intro k' hk'
                  refine Go.slotEq 0 (tb (((id x2.2.1) == 2) && ((decide (x3.2.1 = 0)) && ((x3.1 == 10) && ((decide (x4.2.1 = 0)) && ((x4.1 == 3) && (((id x5.2.1) == 8) && ((((nonce_Counter_Left ((x5.2.2).1) ((x5.2.2).2.1) ((x5.2.2).2.2)).1) == 6) && ((nonce_Bytes 1 2) == [0, 0, 0, 1, 0, 0, 0, 0, 0, 0, 0, 2]))))))))) rfl (eb (andT g2 (andT g3 (andT g4 (andF g5)))).symm) ?_
                  exact J k' hk'
              · refine Go.rx 20 { ws := [(1, { call := some { ids := [], S := [], M := [], R := ti (id x2.2.1), H' := [] } }), (2, { v := some (tb true) }), (5, { v := some (tb true), er := some (83, x3.2.1) }), (9, { v := some (tb false) })], ps := [4, 6, 8, 10, 41, 45] } [10] [0] _ [(0, tb false)] [] hk rfl (by as_aux_lemma => kernel_rfl) (.cons (bursarylaw18_num_m x2.2.1) (.cons (by first | rfl | (simp only [T.ids, idsL, er_ids, List.append_nil, List.nil_append]; rfl) : subN (idsL [er 83 x2.2.1]) [] = true) (.cons trivial (.cons (eb g2) (.cons (⟨rfl, rfl⟩ : (er 83 x3.2.1) = er 83 x3.2.1 ∧ (.leaf .nilIface : T) = .leaf .nilIface) (.cons (eb g3) (.cons trivial (.cons ((eqB64 x3.1 10).trans (eb g4)) (.cons (er_mem (i := 10) 83 x2.2.1) (.cons (er_mem (i := 10) 83 x3.2.1) (.cons (er_mem (i := 10) 83 x4.2.1) (.cons (er_mem (i := 10) 83 x5.2.1) (.cons (er_mem (i := 10) 83 x2.2.1) (.cons (er_mem (i := 10) 83 x3.2.1) .nil)))))))))))))) ?_
                intro k' hk'
                refine Go.slotEq 0 (tb (((id x2.2.1) == 2) && ((decide (x3.2.1 = 0)) && ((x3.1 == 10) && ((decide (x4.2.1 = 0)) && ((x4.1 == 3) && (((id x5.2.1) == 8) && ((((nonce_Counter_Left ((x5.2.2).1) ((x5.2.2).2.1) ((x5.2.2).2.2)).1) == 6) && ((nonce_Bytes 1 2) == [0, 0, 0, 1, 0, 0, 0, 0, 0, 0, 0, 2]))))))))) rfl (eb (andT g2 (andT g3 (andF g4))).symm) ?_
                exact J k' hk'
            · have g3p := of_decide_eq_false g3
              refine Go.rx 20 { ws := [(1, { call := some { ids := [], S := [], M := [], R := ti (id x2.2.1), H' := [] } }), (2, { v := some (tb true) }), (5, { v := some (tb false), er := some (83, x3.2.1) })], ps := [4, 6, 8, 10, 41, 45] } [10] [0] _ [(0, tb false)] [] hk rfl (by as_aux_lemma => kernel_rfl) (.cons (bursarylaw18_num_m x2.2.1) (.cons (by first | rfl | (simp only [T.ids, idsL, er_ids, List.append_nil, List.nil_append]; rfl) : subN (idsL [er 83 x2.2.1]) [] = true) (.cons trivial (.cons (eb g2) (.cons (⟨rfl, rfl⟩ : (er 83 x3.2.1) = er 83 x3.2.1 ∧ (.leaf .nilIface : T) = .leaf .nilIface) (.cons (eb g3) (.cons (er_mem (i := 10) 83 x2.2.1) (.cons (er_mem (i := 10) 83 x3.2.1) (.cons (er_mem (i := 10) 83 x4.2.1) (.cons (er_mem (i := 10) 83 x5.2.1) (.cons (er_mem (i := 10) 83 x2.2.1) (.cons (er_mem (i := 10) 83 x3.2.1) .nil)))))))))))) ?_
              intro k' hk'
              refine Go.slotEq 0 (tb (((id x2.2.1) == 2) && ((decide (x3.2.1 = 0)) && ((x3.1 == 10) && ((decide (x4.2.1 = 0)) && ((x4.1 == 3) && (((id x5.2.1) == 8) && ((((nonce_Counter_Left ((x5.2.2).1) ((x5.2.2).2.1) ((x5.2.2).2.2)).1) == 6) && ((nonce_Bytes 1 2) == [0, 0, 0, 1, 0, 0, 0, 0, 0, 0, 0, 2]))))))))) rfl (eb (andT g2 (andF g3)).symm) ?_
              exact J k' hk'
          · have g2p := eqIf g2
            refine Go.rx 20 { ws := [(1, { call := some { ids := [], S := [], M := [], R := ti (id x2.2.1), H' := [] } }), (2, { v := some (tb false) })], ps := [4, 6, 8, 10, 41] } [10] [0] _ [(0, tb false)] [] hk rfl (by as_aux_lemma => kernel_rfl) (.cons (bursarylaw18_num_m x2.2.1) (.cons (by first | rfl | (simp only [T.ids, idsL, er_ids, List.append_nil, List.nil_append]; rfl) : subN (idsL [er 83 x2.2.1]) [] = true) (.cons trivial (.cons (eb g2) (.cons (er_mem (i := 10) 83 x2.2.1) (.cons (er_mem (i := 10) 83 x3.2.1) (.cons (er_mem (i := 10) 83 x4.2.1) (.cons (er_mem (i := 10) 83 x5.2.1) (.cons (er_mem (i := 10) 83 x2.2.1) .nil))))))))) ?_
            intro k' hk'
            refine Go.slotEq 0 (tb (((id x2.2.1) == 2) && ((decide (x3.2.1 = 0)) && ((x3.1 == 10) && ((decide (x4.2.1 = 0)) && ((x4.1 == 3) && (((id x5.2.1) == 8) && ((((nonce_Counter_Left ((x5.2.2).1) ((x5.2.2).2.1) ((x5.2.2).2.2)).1) == 6) && ((nonce_Bytes 1 2) == [0, 0, 0, 1, 0, 0, 0, 0, 0, 0, 0, 2]))))))))) rfl (eb (andF g2).symm) ?_
            exact J k' hk'
    · intro hk J
      rcases Bool.eq_false_or_eq_true (!(decide (x1.2 = 0))) with g1 | g1
      · have g1' : (decide (x1.2 = 0)) = false := ntT g1
        have g1'p := of_decide_eq_false g1'
        refine Go.rx 20 { ws := [(1, { v := some (tb true), er := some (83, x1.2) })] } [] [1, 20] _ [(1, .addr 10 0), (20, tb true)] [(10, [t64 (((x1.1).getD default).1), t64 (((x1.1).getD default).2.1), t64 (((x1.1).getD default).2.2)])] hk rfl (by as_aux_lemma => kernel_rfl) (.cons (⟨rfl, rfl⟩ : (er 83 x1.2) = er 83 x1.2 ∧ (.leaf .nilIface : T) = .leaf .nilIface) (.cons (eb g1) .nil)) ?_
        intro k' hk'
        refine Go.slotEq 20 (tb (!(decide (x1.2 = 0)))) rfl (eb g1.symm) ?_
        exact J k' hk'
      · have g1' : (decide (x1.2 = 0)) = true := ntF g1
        have g1'p := of_decide_eq_true g1'
        refine Go.rx 20 { ws := [(1, { v := some (tb false), er := some (83, x1.2) })] } [] [1, 20] _ [(1, .addr 10 0), (20, tb false)] [(10, [t64 (((x1.1).getD default).1), t64 (((x1.1).getD default).2.1), t64 (((x1.1).getD default).2.2)])] hk rfl (by as_aux_lemma => kernel_rfl) (.cons (⟨rfl, rfl⟩ : (er 83 x1.2) = er 83 x1.2 ∧ (.leaf .nilIface : T) = .leaf .nilIface) (.cons (eb g1) (.cons (⟨95, by as_aux_lemma => kernel_rfl⟩ : ∃ e, (E.ti 60).k = .ptr e) .nil))) ?_
        intro k' hk'
        refine Go.slotEq 20 (tb (!(decide (x1.2 = 0)))) rfl (eb g1.symm) ?_
        exact J k' hk'
  · refine Go.rx 20 { ws := [(0, { call := some { ids := [], S := [], M := [], R := .tup [.leaf (.pointer none), er 83 ((nonce_New 3 10).2)], H' := [] } })] } [] [1, 2] _ [(1, .leaf (.pointer none)), (2, er 83 ((nonce_New 3 10).2))] [] hk rfl (by as_aux_lemma => kernel_rfl) (.cons (Meets.swp [] (Meets.optN (i := 10) (g := fun z => [t64 z.1, t64 z.2.1, t64 z.2.2]) (fun q => .tup [q, er 83 ((nonce_New 3 10).2)]) (nonce_New_m 3 10) p1) (.cons (.same (by first | rfl | (simp only [T.ids, idsL, er_ids, List.append_nil, List.nil_append] <;> rfl))) (.cons (.same (by first | rfl | (simp only [T.ids, idsL, er_ids, List.append_nil, List.nil_append] <;> rfl))) .nil)) .nil rfl (.same (by first | rfl | (simp only [T.ids, idsL, er_ids, List.append_nil, List.nil_append] <;> rfl))) .nil : Meets Tryd.prog 34 [t64 3, t64 10] [] [] (.tup [.leaf (.pointer none), er 83 ((nonce_New 3 10).2)]) []) (.cons (by first | rfl | (simp only [T.ids, idsL, er_ids, List.append_nil, List.nil_append]; rfl) : subN (idsL [t64 3, t64 10]) [] = true) .nil)) ?_
    clear hk; intro k hk
    refine Go.bnd (Pf := (PostX Γ bursarylaw18_sure_enc)) (v := (nonce_New 3 10)) (fun x10 => [(1, .leaf (.pointer none)), (2, er 83 x10.2)]) (fun x10 => []) ?_
    intro x10 hx10
    refine Go.regJ 20 [(1, .leaf (.pointer none)), (20, tb true)] [] hk rfl ?_ ?_
    · clear hk; intro k hk
      refine Go.cond 20 hk rfl (t := true) rfl ?_; clear hk; intro k hk
      refine Go.rx 20 {} [] [0] _ [(0, tb false)] [] hk rfl (by as_aux_lemma => kernel_rfl) .nil ?_
      clear hk; intro k hk
      exact Go.lvx 20 [] _ [tb false] Tryd.func39 hk rfl (by as_aux_lemma => kernel_rfl) .nil (T.Le.of_eq rfl) rfl rfl .nil
    · intro hk J
      rcases Bool.eq_false_or_eq_true (!(decide (x10.2 = 0))) with g9 | g9
      · have g9' : (decide (x10.2 = 0)) = false := ntT g9
        have g9'p := of_decide_eq_false g9'
        refine Go.rx 20 { ws := [(1, { v := some (tb true), er := some (83, x10.2) })] } [] [1, 20] _ [(1, .leaf (.pointer none)), (20, tb true)] [] hk rfl (by as_aux_lemma => kernel_rfl) (.cons (⟨rfl, rfl⟩ : (er 83 x10.2) = er 83 x10.2 ∧ (.leaf .nilIface : T) = .leaf .nilIface) (.cons (eb g9) .nil)) ?_
        intro k' hk'
        exact J k' hk'
      · have g9' : (decide (x10.2 = 0)) = true := ntF g9
        have g9'p := of_decide_eq_true g9'
        refine Go.rx 20 { ws := [(1, { v := some (tb false), er := some (83, x10.2) })] } [] [1, 20] _ [(1, .leaf (.pointer none)), (20, tb true)] [] hk rfl (by as_aux_lemma => kernel_rfl) (.cons (⟨rfl, rfl⟩ : (er 83 x10.2) = er 83 x10.2 ∧ (.leaf .nilIface : T) = .leaf .nilIface) (.cons (eb g9) (.cons (⟨95, by as_aux_lemma => kernel_rfl⟩ : ∃ e, (E.ti 60).k = .ptr e) .nil))) ?_
        intro k' hk'
        exact J k' hk'
noncomputable def bursarylaw18_NonceOnce_k1 (c10_0_2 : UInt64) (c10_1_2 : UInt64) (c10_2_2 : UInt64) : Bool :=
  bursarylaw18_sure
noncomputable def bursarylaw18_NonceOnce_l1 (a0 : List UInt8) : Nat → UInt64 → UInt64 → Bool → Int → UInt64 → UInt64 → UInt64 → Lo (UInt64 × UInt64 × UInt64) Bool
  | 0, _, _, _, _, _, _, _ => .brk default
  | ml1 + 1, t51, t61, t71, t81, c10_0_1, c10_1_1, c10_2_1 =>
    bif (decide (t81 < (a0.length : Int))) && (decide (t81 < 300)) then
      bif ((a0.getD t81.toNat 0) % 4) == 0 then
        bnd (nonce_Counter_Extend c10_0_1 c10_1_1 c10_2_1) fun x2 =>
        bif (!(decide (x2.2.1 = 0))) || (decide (x2.1 ≤ t51)) then
          Lo.ret false
        else
          bursarylaw18_NonceOnce_l1 a0 ml1 x2.1 t61 t71 (t81 + 1) ((x2.2.2).1) ((x2.2.2).2.1) ((x2.2.2).2.2)
      else
        bif ((a0.getD t81.toNat 0) % 4) == 1 then
          bif decide ((a0.getD t81.toNat 0) < 32) then
            bif ((nonce_New t51 1099511627776).1).isSome then
              bnd (nonce_New t51 1099511627776) fun x3 =>
              bif !(decide (x3.2 = 0)) then
                Lo.ret false
              else
                bursarylaw18_NonceOnce_l1 a0 ml1 t51 t61 t71 (t81 + 1) (((x3.1).getD default).1) (((x3.1).getD default).2.1) (((x3.1).getD default).2.2)
            else
              bnd (nonce_New t51 1099511627776) fun x4 =>
              Lo.ret false
          else
            bursarylaw18_NonceOnce_l1 a0 ml1 t51 t61 t71 (t81 + 1) c10_0_1 c10_1_1 c10_2_1
        else
          bnd (nonce_Counter_Take c10_0_1 c10_1_1 c10_2_1) fun x5 =>
          bif !(decide (x5.2.1 = 0)) then
            bif (id x5.2.1) != 2 then
              Lo.ret false
            else
              bnd (nonce_Counter_Left ((x5.2.2).1) ((x5.2.2).2.1) ((x5.2.2).2.2)) fun x6 =>
              bif (x6.1) != 0 then
                Lo.ret false
              else
                bursarylaw18_NonceOnce_l1 a0 ml1 t51 t61 t71 (t81 + 1) ((x6.2).1) ((x6.2).2.1) ((x6.2).2.2)
          else
            bif (decide (x5.1 ≥ t51)) || (t71 && (decide (x5.1 ≤ t61))) then
              Lo.ret false
            else
              bursarylaw18_NonceOnce_l1 a0 ml1 t51 x5.1 true (t81 + 1) ((x5.2.2).1) ((x5.2.2).2.1) ((x5.2.2).2.2)
    else
      Lo.brk (c10_0_1, c10_1_1, c10_2_1)
noncomputable def bursarylaw18_NonceOnce (a0 : List UInt8) : Bool :=
  bif ((nonce_New 0 1099511627776).1).isSome then
    bnd (nonce_New 0 1099511627776) fun x1 =>
    bif !(decide (x1.2 = 0)) then
      false
    else
      Lo.el (bursarylaw18_NonceOnce_l1 a0 (((a0.length : Int) - (0 : Int)).toNat + 1) 0 0 false 0 (((x1.1).getD default).1) (((x1.1).getD default).2.1) (((x1.1).getD default).2.2)) (fun z => bursarylaw18_NonceOnce_k1 z.1 z.2.1 z.2.2)
  else
    bnd (nonce_New 0 1099511627776) fun x7 =>
    false
def bursarylaw18_NonceOnce_enc (x : Bool) : T × List (Nat × List T) := (tb x, [])
theorem bursarylaw18_NonceOnce_m {g_a0 : Tag} (a0 : List UInt8) : Meets Tryd.prog 8 [.sl 1 g_a0 a0.length (u8s a0)] [] [] (tb (bursarylaw18_NonceOnce a0)) [] := by
  refine Meets.enterX (E := E) (N := 102) (enc := bursarylaw18_NonceOnce_enc) (x := (bursarylaw18_NonceOnce a0)) Tryd.func8 Tryd.call8 rfl rfl ?_
  intro Γ k hk
  refine Go.rx 20 {} [] [0] _ [(0, .sl 1 g_a0 a0.length (u8s a0))] [] hk rfl (by as_aux_lemma => kernel_rfl) .nil ?_
  clear hk; intro k hk
  refine Go.split (Pf := (PostX Γ bursarylaw18_NonceOnce_enc)) (((nonce_New 0 1099511627776).1).isSome) ?_ ?_ <;> intro p1
  · refine Go.rx 20 { ws := [(0, { call := some { ids := [], S := [], M := [], R := .tup [.addr 10 0, er 83 ((nonce_New 0 1099511627776).2)], H' := [(10, [t64 ((((nonce_New 0 1099511627776).1).getD default).1), t64 ((((nonce_New 0 1099511627776).1).getD default).2.1), t64 ((((nonce_New 0 1099511627776).1).getD default).2.2)])] } })] } [] [0, 3, 4] _ [(0, .sl 1 g_a0 a0.length (u8s a0)), (3, .addr 10 0), (4, er 83 ((nonce_New 0 1099511627776).2))] [(10, [t64 ((((nonce_New 0 1099511627776).1).getD default).1), t64 ((((nonce_New 0 1099511627776).1).getD default).2.1), t64 ((((nonce_New 0 1099511627776).1).getD default).2.2)])] hk rfl (by as_aux_lemma => kernel_rfl) (.cons (Meets.swp [] (Meets.optS (i := 10) (g := fun z => [t64 z.1, t64 z.2.1, t64 z.2.2]) (fun q => .tup [q, er 83 ((nonce_New 0 1099511627776).2)]) (nonce_New_m 0 1099511627776) p1) (.cons (.same (by first | rfl | (simp only [T.ids, idsL, er_ids, List.append_nil, List.nil_append] <;> rfl))) (.cons (.same (by first | rfl | (simp only [T.ids, idsL, er_ids, List.append_nil, List.nil_append] <;> rfl))) .nil)) .nil rfl (.tup (.cons (.addr rfl 0) (.cons (.same (by first | rfl | (simp only [T.ids, idsL, er_ids, List.append_nil, List.nil_append] <;> rfl))) .nil))) (.cons rfl (.same (by first | rfl | (simp only [T.ids, idsL, er_ids, List.append_nil, List.nil_append] <;> rfl))) .nil) : Meets Tryd.prog 34 [t64 0, t64 1099511627776] [] [] (.tup [.addr 10 0, er 83 ((nonce_New 0 1099511627776).2)]) [(10, [t64 ((((nonce_New 0 1099511627776).1).getD default).1), t64 ((((nonce_New 0 1099511627776).1).getD default).2.1), t64 ((((nonce_New 0 1099511627776).1).getD default).2.2)])]) (.cons (by first | rfl | (simp only [T.ids, idsL, er_ids, List.append_nil, List.nil_append]; rfl) : subN (idsL [t64 0, t64 1099511627776]) [] = true) .nil)) ?_
    clear hk; intro k hk
    refine Go.bnd (Pf := (PostX Γ bursarylaw18_NonceOnce_enc)) (v := (nonce_New 0 1099511627776)) (fun x1 => [(0, .sl 1 g_a0 a0.length (u8s a0)), (3, .addr 10 0), (4, er 83 x1.2)]) (fun x1 => [(10, [t64 (((x1.1).getD default).1), t64 (((x1.1).getD default).2.1), t64 (((x1.1).getD default).2.2)])]) ?_
    intro x1 hx1
    refine Go.regJ 20 [(0, .sl 1 g_a0 a0.length (u8s a0)), (3, .addr 10 0), (24, tb (!(decide (x1.2 = 0))))] [(10, [t64 (((x1.1).getD default).1), t64 (((x1.1).getD default).2.1), t64 (((x1.1).getD default).2.2)])] hk rfl ?_ ?_
    · clear hk; intro k hk
      refine Go.br 20 (Pf := (PostX Γ bursarylaw18_NonceOnce_enc)) hk rfl rfl ?_ ?_ <;> clear hk <;> intro c1 k hk
      · have c1' : (decide (x1.2 = 0)) = false := ntT c1
        have c1'p := of_decide_eq_false c1'
        refine Go.rx 20 {} [10] [2] _ [(2, tb false)] [] hk rfl (by as_aux_lemma => kernel_rfl) .nil ?_
        clear hk; intro k hk
        exact Go.lvx 20 [] _ [tb false] Tryd.func8 hk rfl (by as_aux_lemma => kernel_rfl) .nil (T.Le.of_eq rfl) rfl rfl .nil
      · have c1' : (decide (x1.2 = 0)) = true := ntF c1
        have c1'p := of_decide_eq_true c1'
        refine Go.rx 20 {} [] [0, 3, 5] _ [(0, .sl 1 g_a0 a0.length (u8s a0)), (3, .addr 10 0), (5, t64 0)] [(10, [t64 (((x1.1).getD default).1), t64 (((x1.1).getD default).2.1), t64 (((x1.1).getD default).2.2)])] hk rfl (by as_aux_lemma => kernel_rfl) .nil ?_
        clear hk; intro k hk
        refine Go.rx 20 {} [] [0, 3, 5, 6, 7] _ [(0, .sl 1 g_a0 a0.length (u8s a0)), (3, .addr 10 0), (5, t64 0), (6, t64 0), (7, tb false)] [(10, [t64 (((x1.1).getD default).1), t64 (((x1.1).getD default).2.1), t64 (((x1.1).getD default).2.2)])] hk rfl (by as_aux_lemma => kernel_rfl) .nil ?_
        clear hk; intro k hk
        refine Go.rx 20 {} [] [0, 3, 5, 6, 7, 8] _ [(0, .sl 1 g_a0 a0.length (u8s a0)), (3, .addr 10 0), (5, t64 0), (6, t64 0), (7, tb false), (8, ti 0)] [(10, [t64 (((x1.1).getD default).1), t64 (((x1.1).getD default).2.1), t64 (((x1.1).getD default).2.2)])] hk rfl (by as_aux_lemma => kernel_rfl) .nil ?_
        clear hk; intro k hk
        refine Go.loopX 20 hk rfl ?_
        clear hk; intro kl1 kxl1 hl1 hxl1
        have Xl1 : ∀ (c10_0_2 : UInt64) (c10_1_2 : UInt64) (c10_2_2 : UInt64), Go E Γ 8 102 [] ((PostX Γ bursarylaw18_NonceOnce_enc) (bursarylaw18_NonceOnce_k1 c10_0_2 c10_1_2 c10_2_2)) kxl1 (stL [] [(10, [t64 c10_0_2, t64 c10_1_2, t64 c10_2_2])]) := by
          intro c10_0_2 c10_1_2 c10_2_2
          refine Go.rx 20 { ws := [(0, { call := some { ids := [], S := [], M := [], R := tb bursarylaw18_sure, H' := [] } })] } [10] [2] _ [(2, tb bursarylaw18_sure)] [] hxl1 rfl (by as_aux_lemma => kernel_rfl) (.cons (bursarylaw18_sure_m) (.cons (by first | rfl | (simp only [T.ids, idsL, er_ids, List.append_nil, List.nil_append]; rfl) : subN (idsL []) [] = true) .nil)) ?_
          clear hxl1; intro kxl1 hxl1
          exact Go.lvx 20 [] _ [tb bursarylaw18_sure] Tryd.func8 hxl1 rfl (by as_aux_lemma => kernel_rfl) .nil (T.Le.of_eq rfl) rfl rfl .nil
        have Ll1 : ∀ (ml1 : Nat) (t51 : UInt64) (t61 : UInt64) (t71 : Bool) (t81 : Int) (c10_0_1 : UInt64) (c10_1_1 : UInt64) (c10_2_1 : UInt64), (0 ≤ t81) → (((a0.length : Int) - t81).toNat < ml1) → Go E Γ 8 102 [] ((PostX Γ bursarylaw18_NonceOnce_enc) (Lo.el (bursarylaw18_NonceOnce_l1 a0 ml1 t51 t61 t71 t81 c10_0_1 c10_1_1 c10_2_1) (fun z => bursarylaw18_NonceOnce_k1 z.1 z.2.1 z.2.2))) kl1 (stL [(0, .sl 1 g_a0 a0.length (u8s a0)), (3, .addr 10 0), (5, t64 t51), (6, t64 t61), (7, tb t71), (8, ti t81)] [(10, [t64 c10_0_1, t64 c10_1_1, t64 c10_2_1])]) := by
          intro ml1
          induction ml1 with
          | zero => intro t51 t61 t71 t81 c10_0_1 c10_1_1 c10_2_1 i0l1 hml1; exact absurd hml1 (Nat.not_lt_zero _)
          | succ ml1 ihl1 =>
            intro t51 t61 t71 t81 c10_0_1 c10_1_1 c10_2_1 i0l1 hml1
            refine Go.round hl1 ?_
            intro k hk
            refine Go.regJ 20 [(0, .sl 1 g_a0 a0.length (u8s a0)), (3, .addr 10 0), (5, t64 t51), (6, t64 t61), (7, tb t71), (8, ti t81), (32, tb ((decide (t81 < (a0.length : Int))) && (decide (t81 < 300))))] [(10, [t64 c10_0_1, t64 c10_1_1, t64 c10_2_1])] hk rfl ?_ ?_
            · clear hk; intro k hk
              refine Go.br 20 (Pf := (fun z => (PostX Γ bursarylaw18_NonceOnce_enc) (Lo.el z (fun z => bursarylaw18_NonceOnce_k1 z.1 z.2.1 z.2.2)))) hk rfl rfl ?_ ?_ <;> clear hk <;> intro c2 k hk
              · have c21 : (decide (t81 < (a0.length : Int))) = true := (Bool.and_eq_true_iff.1 c2).1
                have c22 : (decide (t81 < 300)) = true := (Bool.and_eq_true_iff.1 c2).2
                have c21p := of_decide_eq_true c21
                have c22p := of_decide_eq_true c22
                refine Go.rx 20 { ws := [(3, { v := some (t8 (a0.getD t81.toNat 0)) }), (4, { v := some (t8 ((a0.getD t81.toNat 0) % 4)) })] } [] [0, 3, 5, 6, 7, 8, 39] _ [(0, .sl 1 g_a0 a0.length (u8s a0)), (3, .addr 10 0), (5, t64 t51), (6, t64 t61), (7, tb t71), (8, ti t81), (39, t8 ((a0.getD t81.toNat 0) % 4))] [(10, [t64 c10_0_1, t64 c10_1_1, t64 c10_2_1])] hk rfl (by as_aux_lemma => kernel_rfl) (.cons (by omega : 0 ≤ (t81 : Int) ∧ (t81 : Int) < ((a0.length : Nat) : Int)) (.cons (part1 (by as_aux_lemma => kernel_rfl : (E.ti 5).agg = false) (mp_get (g := (fun c : UInt8 => T.leaf (.int .u8 c.toNat))) (k := t81.toNat * 1) (n := t81.toNat) a0 (0 : UInt8) (by omega) (by omega))) (.cons (by decide : ((4 : UInt8).toNat : Int) ≠ (0 : Int)) (.cons (rem8 (a0.getD t81.toNat 0) 4) .nil)))) ?_
                clear hk; intro k hk
                refine Go.rx 20 { ws := [(0, { v := some (tb (((a0.getD t81.toNat 0) % 4) == 0)) })] } [] [0, 3, 5, 6, 7, 8, 39, 67] _ [(0, .sl 1 g_a0 a0.length (u8s a0)), (3, .addr 10 0), (5, t64 t51), (6, t64 t61), (7, tb t71), (8, ti t81), (39, t8 ((a0.getD t81.toNat 0) % 4)), (67, tb (((a0.getD t81.toNat 0) % 4) == 0))] [(10, [t64 c10_0_1, t64 c10_1_1, t64 c10_2_1])] hk rfl (by as_aux_lemma => kernel_rfl) (.cons trivial (.cons (eqB8 ((a0.getD t81.toNat 0) % 4) 0) .nil)) ?_
                clear hk; intro k hk
                refine Go.br 20 (Pf := (fun z => (PostX Γ bursarylaw18_NonceOnce_enc) (Lo.el z (fun z => bursarylaw18_NonceOnce_k1 z.1 z.2.1 z.2.2)))) hk rfl rfl ?_ ?_ <;> clear hk <;> intro c4 k hk
                · refine Go.rx 20 { ws := [(1, { call := some { ids := [10], S := [10], M := [], R := .tup [t64 ((nonce_Counter_Extend c10_0_1 c10_1_1 c10_2_1).1), er 83 ((nonce_Counter_Extend c10_0_1 c10_1_1 c10_2_1).2.1)], H' := [(10, [t64 (((nonce_Counter_Extend c10_0_1 c10_1_1 c10_2_1).2.2).1), t64 (((nonce_Counter_Extend c10_0_1 c10_1_1 c10_2_1).2.2).2.1), t64 (((nonce_Counter_Extend c10_0_1 c10_1_1 c10_2_1).2.2).2.2)])] } })] } [] [0, 3, 5, 6, 7, 8, 9, 10] _ [(0, .sl 1 g_a0 a0.length (u8s a0)), (3, .addr 10 0), (5, t64 t51), (6, t64 t61), (7, tb t71), (8, ti t81), (9, t64 ((nonce_Counter_Extend c10_0_1 c10_1_1 c10_2_1).1)), (10, er 83 ((nonce_Counter_Extend c10_0_1 c10_1_1 c10_2_1).2.1))] [(10, [t64 (((nonce_Counter_Extend c10_0_1 c10_1_1 c10_2_1).2.2).1), t64 (((nonce_Counter_Extend c10_0_1 c10_1_1 c10_2_1).2.2).2.1), t64 (((nonce_Counter_Extend c10_0_1 c10_1_1 c10_2_1).2.2).2.2)])] hk rfl (by as_aux_lemma => kernel_rfl) (.cons (Meets.swp [(0, 10)] (nonce_Counter_Extend_m c10_0_1 c10_1_1 c10_2_1) (.cons (.addr rfl 0) .nil) (.cons rfl (.same (by first | rfl | (simp only [T.ids, idsL, er_ids, List.append_nil, List.nil_append] <;> rfl))) .nil) rfl (.same (by first | rfl | (simp only [T.ids, idsL, er_ids, List.append_nil, List.nil_append] <;> rfl))) (.cons rfl (.same (by first | rfl | (simp only [T.ids, idsL, er_ids, List.append_nil, List.nil_append] <;> rfl))) .nil) : Meets Tryd.prog 35 [.addr 10 0] [(10, [t64 c10_0_1, t64 c10_1_1, t64 c10_2_1])] [10] (.tup [t64 ((nonce_Counter_Extend c10_0_1 c10_1_1 c10_2_1).1), er 83 ((nonce_Counter_Extend c10_0_1 c10_1_1 c10_2_1).2.1)]) [(10, [t64 (((nonce_Counter_Extend c10_0_1 c10_1_1 c10_2_1).2.2).1), t64 (((nonce_Counter_Extend c10_0_1 c10_1_1 c10_2_1).2.2).2.1), t64 (((nonce_Counter_Extend c10_0_1 c10_1_1 c10_2_1).2.2).2.2)])]) (.cons (by first | rfl | (simp only [T.ids, idsL, er_ids, List.append_nil, List.nil_append]; rfl) : subN (idsL [.addr 10 0]) [10] = true) (.cons (by first | rfl | (simp only [T.ids, idsL, er_ids, List.append_nil, List.nil_append]; rfl) : subN (idsL [t64 c10_0_1, t64 c10_1_1, t64 c10_2_1]) [10] = true) .nil))) ?_
                  clear hk; intro k hk
                  refine Go.bnd (Pf := (fun z => (PostX Γ bursarylaw18_NonceOnce_enc) (Lo.el z (fun z => bursarylaw18_NonceOnce_k1 z.1 z.2.1 z.2.2)))) (v := (nonce_Counter_Extend c10_0_1 c10_1_1 c10_2_1)) (fun x2 => [(0, .sl 1 g_a0 a0.length (u8s a0)), (3, .addr 10 0), (5, t64 t51), (6, t64 t61), (7, tb t71), (8, ti t81), (9, t64 x2.1), (10, er 83 x2.2.1)]) (fun x2 => [(10, [t64 ((x2.2.2).1), t64 ((x2.2.2).2.1), t64 ((x2.2.2).2.2)])]) ?_
                  intro x2 hx2
                  refine Go.regJ 20 [(0, .sl 1 g_a0 a0.length (u8s a0)), (3, .addr 10 0), (6, t64 t61), (7, tb t71), (8, ti t81), (9, t64 x2.1), (80, tb ((!(decide (x2.2.1 = 0))) || (decide (x2.1 ≤ t51))))] [(10, [t64 ((x2.2.2).1), t64 ((x2.2.2).2.1), t64 ((x2.2.2).2.2)])] hk rfl ?_ ?_
                  · clear hk; intro k hk
                    refine Go.br 20 (Pf := (fun z => (PostX Γ bursarylaw18_NonceOnce_enc) (Lo.el z (fun z => bursarylaw18_NonceOnce_k1 z.1 z.2.1 z.2.2)))) hk rfl rfl ?_ ?_ <;> clear hk <;> intro c5 k hk
                    · refine Go.rx 20 {} [10] [2] _ [(2, tb false)] [] hk rfl (by as_aux_lemma => kernel_rfl) .nil ?_
                      clear hk; intro k hk
                      exact Go.lvx 20 [] _ [tb false] Tryd.func8 hk rfl (by as_aux_lemma => kernel_rfl) .nil (T.Le.of_eq rfl) rfl rfl .nil
                    · have c51 : (!(decide (x2.2.1 = 0))) = false := (Bool.or_eq_false_iff.1 c5).1
                      have c52 : (decide (x2.1 ≤ t51)) = false := (Bool.or_eq_false_iff.1 c5).2
                      have c51' : (decide (x2.2.1 = 0)) = true := ntF c51
                      have c51'p := of_decide_eq_true c51'
                      refine Go.rx 20 {} [] [0, 3, 5, 6, 7, 8] _ [(0, .sl 1 g_a0 a0.length (u8s a0)), (3, .addr 10 0), (5, t64 x2.1), (6, t64 t61), (7, tb t71), (8, ti t81)] [(10, [t64 ((x2.2.2).1), t64 ((x2.2.2).2.1), t64 ((x2.2.2).2.2)])] hk rfl (by as_aux_lemma => kernel_rfl) .nil ?_
                      clear hk; intro k hk
                      refine Go.rx 20 { ws := [(1, { v := some (ti (t81 + 1)) })] } [] [0, 3, 5, 6, 7, 8] _ [(0, .sl 1 g_a0 a0.length (u8s a0)), (3, .addr 10 0), (5, t64 x2.1), (6, t64 t61), (7, tb t71), (8, ti (t81 + 1))] [(10, [t64 ((x2.2.2).1), t64 ((x2.2.2).2.1), t64 ((x2.2.2).2.2)])] hk rfl (by as_aux_lemma => kernel_rfl) (.cons trivial (.cons (iw (t81 + 1) (by omega)) .nil)) ?_
                      clear hk; intro k hk
                      exact Go.join 20 hk hl1 rfl (ihl1 x2.1 t61 t71 (t81 + 1) ((x2.2.2).1) ((x2.2.2).2.1) ((x2.2.2).2.2) (by omega) (by omega))
                  · intro hk J
                    rcases Bool.eq_false_or_eq_true (!(decide (x2.2.1 = 0))) with g3 | g3
                    · have g3' : (decide (x2.2.1 = 0)) = false := ntT g3
                      have g3'p := of_decide_eq_false g3'
                      refine Go.rx 20 { ws := [(1, { v := some (tb true), er := some (83, x2.2.1) })] } [] [0, 3, 6, 7, 8, 9, 80] _ [(0, .sl 1 g_a0 a0.length (u8s a0)), (3, .addr 10 0), (6, t64 t61), (7, tb t71), (8, ti t81), (9, t64 x2.1), (80, tb true)] [(10, [t64 ((x2.2.2).1), t64 ((x2.2.2).2.1), t64 ((x2.2.2).2.2)])] hk rfl (by as_aux_lemma => kernel_rfl) (.cons (⟨rfl, rfl⟩ : (er 83 x2.2.1) = er 83 x2.2.1 ∧ (.leaf .nilIface : T) = .leaf .nilIface) (.cons (eb g3) .nil)) ?_
                      intro k' hk'
                      refine Go.slotEq 80 (tb ((!(decide (x2.2.1 = 0))) || (decide (x2.1 ≤ t51)))) rfl (eb (orT g3).symm) ?_
                      exact J k' hk'
                    · have g3' : (decide (x2.2.1 = 0)) = true := ntF g3
                      have g3'p := of_decide_eq_true g3'
                      refine Go.rx 20 { ws := [(1, { v := some (tb false), er := some (83, x2.2.1) }), (5, { v := some (tb (decide (x2.1 ≤ t51))) })] } [] [0, 3, 6, 7, 8, 9, 80] _ [(0, .sl 1 g_a0 a0.length (u8s a0)), (3, .addr 10 0), (6, t64 t61), (7, tb t71), (8, ti t81), (9, t64 x2.1), (80, tb (decide (x2.1 ≤ t51)))] [(10, [t64 ((x2.2.2).1), t64 ((x2.2.2).2.1), t64 ((x2.2.2).2.2)])] hk rfl (by as_aux_lemma => kernel_rfl) (.cons (⟨rfl, rfl⟩ : (er 83 x2.2.1) = er 83 x2.2.1 ∧ (.leaf .nilIface : T) = .leaf .nilIface) (.cons (eb g3) (.cons trivial (.cons (leB64 x2.1 t51) .nil)))) ?_
                      intro k' hk'
                      refine Go.slotEq 80 (tb ((!(decide (x2.2.1 = 0))) || (decide (x2.1 ≤ t51)))) rfl (eb (orF g3 rfl).symm) ?_
                      exact J k' hk'
                · refine Go.rx 20 { ws := [(0, { v := some (tb (((a0.getD t81.toNat 0) % 4) == 1)) })] } [] [0, 3, 5, 6, 7, 8, 82] _ [(0, .sl 1 g_a0 a0.length (u8s a0)), (3, .addr 10 0), (5, t64 t51), (6, t64 t61), (7, tb t71), (8, ti t81), (82, tb (((a0.getD t81.toNat 0) % 4) == 1))] [(10, [t64 c10_0_1, t64 c10_1_1, t64 c10_2_1])] hk rfl (by as_aux_lemma => kernel_rfl) (.cons trivial (.cons (eqB8 ((a0.getD t81.toNat 0) % 4) 1) .nil)) ?_
                  clear hk; intro k hk
                  refine Go.br 20 (Pf := (fun z => (PostX Γ bursarylaw18_NonceOnce_enc) (Lo.el z (fun z => bursarylaw18_NonceOnce_k1 z.1 z.2.1 z.2.2)))) hk rfl rfl ?_ ?_ <;> clear hk <;> intro c7 k hk
                  · refine Go.rx 20 { ws := [(3, { v := some (t8 (a0.getD t81.toNat 0)) }), (4, { v := some (tb (decide ((a0.getD t81.toNat 0) < 32))) })] } [] [0, 3, 5, 6, 7, 8, 88] _ [(0, .sl 1 g_a0 a0.length (u8s a0)), (3, .addr 10 0), (5, t64 t51), (6, t64 t61), (7, tb t71), (8, ti t81), (88, tb (decide ((a0.getD t81.toNat 0) < 32)))] [(10, [t64 c10_0_1, t64 c10_1_1, t64 c10_2_1])] hk rfl (by as_aux_lemma => kernel_rfl) (.cons (by omega : 0 ≤ (t81 : Int) ∧ (t81 : Int) < ((a0.length : Nat) : Int)) (.cons (part1 (by as_aux_lemma => kernel_rfl : (E.ti 5).agg = false) (mp_get (g := (fun c : UInt8 => T.leaf (.int .u8 c.toNat))) (k := t81.toNat * 1) (n := t81.toNat) a0 (0 : UInt8) (by omega) (by omega))) (.cons trivial (.cons (ltB8 (a0.getD t81.toNat 0) 32) .nil)))) ?_
                    clear hk; intro k hk
                    refine Go.br 20 (Pf := (fun z => (PostX Γ bursarylaw18_NonceOnce_enc) (Lo.el z (fun z => bursarylaw18_NonceOnce_k1 z.1 z.2.1 z.2.2)))) hk rfl rfl ?_ ?_ <;> clear hk <;> intro c9 k hk
                    · refine Go.split (Pf := (fun z => (PostX Γ bursarylaw18_NonceOnce_enc) (Lo.el z (fun z => bursarylaw18_NonceOnce_k1 z.1 z.2.1 z.2.2)))) (((nonce_New t51 1099511627776).1).isSome) ?_ ?_ <;> intro p2
                      · refine Go.rx 20 { ws := [(1, { call := some { ids := [], S := [], M := [], R := .tup [.addr 11 0, er 83 ((nonce_New t51 1099511627776).2)], H' := [(11, [t64 ((((nonce_New t51 1099511627776).1).getD default).1), t64 ((((nonce_New t51 1099511627776).1).getD default).2.1), t64 ((((nonce_New t51 1099511627776).1).getD default).2.2)])] } })], ps := [12, 89, 91, 93] } [10] [0, 5, 6, 7, 8, 11, 12] _ [(0, .sl 1 g_a0 a0.length (u8s a0)), (5, t64 t51), (6, t64 t61), (7, tb t71), (8, ti t81), (11, .addr 11 0), (12, er 83 ((nonce_New t51 1099511627776).2))] [(11, [t64 ((((nonce_New t51 1099511627776).1).getD default).1), t64 ((((nonce_New t51 1099511627776).1).getD default).2.1), t64 ((((nonce_New t51 1099511627776).1).getD default).2.2)])] hk rfl (by as_aux_lemma => kernel_rfl) (.cons (Meets.swp [(10, 11)] (Meets.optS (i := 10) (g := fun z => [t64 z.1, t64 z.2.1, t64 z.2.2]) (fun q => .tup [q, er 83 ((nonce_New t51 1099511627776).2)]) (nonce_New_m t51 1099511627776) p2) (.cons (.same (by first | rfl | (simp only [T.ids, idsL, er_ids, List.append_nil, List.nil_append] <;> rfl))) (.cons (.same (by first | rfl | (simp only [T.ids, idsL, er_ids, List.append_nil, List.nil_append] <;> rfl))) .nil)) .nil rfl (.tup (.cons (.addr rfl 0) (.cons (.same (by first | rfl | (simp only [T.ids, idsL, er_ids, List.append_nil, List.nil_append] <;> rfl))) .nil))) (.cons rfl (.same (by first | rfl | (simp only [T.ids, idsL, er_ids, List.append_nil, List.nil_append] <;> rfl))) .nil) : Meets Tryd.prog 34 [t64 t51, t64 1099511627776] [] [] (.tup [.addr 11 0, er 83 ((nonce_New t51 1099511627776).2)]) [(11, [t64 ((((nonce_New t51 1099511627776).1).getD default).1), t64 ((((nonce_New t51 1099511627776).1).getD default).2.1), t64 ((((nonce_New t51 1099511627776).1).getD default).2.2)])]) (.cons (by first | rfl | (simp only [T.ids, idsL, er_ids, List.append_nil, List.nil_append]; rfl) : subN (idsL [t64 t51, t64 1099511627776]) [] = true) (.cons (by first | rfl | (simp only [T.ids, idsL, er_ids, List.append_nil, List.nil_append]; rfl) : memN 10 (T.ids (.tup [.addr 11 0, er 83 ((nonce_New t51 1099511627776).2)])) = false) (.cons (by first | rfl | (simp only [T.ids, idsL, er_ids, List.append_nil, List.nil_append]; rfl) : memN 10 (T.ids (.tup [.addr 11 0, er 83 ((nonce_New t51 1099511627776).2)])) = false) (.cons (er_mem (i := 10) 83 ((nonce_New t51 1099511627776).2)) (.cons (er_mem (i := 10) 83 ((nonce_New t51 1099511627776).2)) .nil)))))) ?_
                        clear hk; intro k hk
                        refine Go.bnd (Pf := (fun z => (PostX Γ bursarylaw18_NonceOnce_enc) (Lo.el z (fun z => bursarylaw18_NonceOnce_k1 z.1 z.2.1 z.2.2)))) (v := (nonce_New t51 1099511627776)) (fun x3 => [(0, .sl 1 g_a0 a0.length (u8s a0)), (5, t64 t51), (6, t64 t61), (7, tb t71), (8, ti t81), (11, .addr 11 0), (12, er 83 x3.2)]) (fun x3 => [(11, [t64 (((x3.1).getD default).1), t64 (((x3.1).getD default).2.1), t64 (((x3.1).getD default).2.2)])]) ?_
                        intro x3 hx3
                        refine Go.regJ 20 [(0, .sl 1 g_a0 a0.length (u8s a0)), (5, t64 t51), (6, t64 t61), (7, tb t71), (8, ti t81), (11, .addr 11 0), (99, tb (!(decide (x3.2 = 0))))] [(11, [t64 (((x3.1).getD default).1), t64 (((x3.1).getD default).2.1), t64 (((x3.1).getD default).2.2)])] hk rfl ?_ ?_
                        · clear hk; intro k hk
                          refine Go.br 20 (Pf := (fun z => (PostX Γ bursarylaw18_NonceOnce_enc) (Lo.el z (fun z => bursarylaw18_NonceOnce_k1 z.1 z.2.1 z.2.2)))) hk rfl rfl ?_ ?_ <;> clear hk <;> intro c10 k hk
                          · have c10' : (decide (x3.2 = 0)) = false := ntT c10
                            have c10'p := of_decide_eq_false c10'
                            refine Go.rx 20 {} [11] [2] _ [(2, tb false)] [] hk rfl (by as_aux_lemma => kernel_rfl) .nil ?_
                            clear hk; intro k hk
                            exact Go.lvx 20 [] _ [tb false] Tryd.func8 hk rfl (by as_aux_lemma => kernel_rfl) .nil (T.Le.of_eq rfl) rfl rfl .nil
                          · have c10' : (decide (x3.2 = 0)) = true := ntF c10
                            have c10'p := of_decide_eq_true c10'
                            refine Go.rx 20 {} [] [0, 3, 5, 6, 7, 8] _ [(0, .sl 1 g_a0 a0.length (u8s a0)), (3, .addr 11 0), (5, t64 t51), (6, t64 t61), (7, tb t71), (8, ti t81)] [(11, [t64 (((x3.1).getD default).1), t64 (((x3.1).getD default).2.1), t64 (((x3.1).getD default).2.2)])] hk rfl (by as_aux_lemma => kernel_rfl) .nil ?_
                            clear hk; intro k hk
                            refine Go.rx 20 { ws := [(1, { v := some (ti (t81 + 1)) })] } [] [0, 3, 5, 6, 7, 8] _ [(0, .sl 1 g_a0 a0.length (u8s a0)), (3, .addr 11 0), (5, t64 t51), (6, t64 t61), (7, tb t71), (8, ti (t81 + 1))] [(11, [t64 (((x3.1).getD default).1), t64 (((x3.1).getD default).2.1), t64 (((x3.1).getD default).2.2)])] hk rfl (by as_aux_lemma => kernel_rfl) (.cons trivial (.cons (iw (t81 + 1) (by omega)) .nil)) ?_
                            clear hk; intro k hk
                            refine Go.swp (L' := [(0, .sl 1 g_a0 a0.length (u8s a0)), (3, .addr 10 0), (5, t64 t51), (6, t64 t61), (7, tb t71), (8, ti (t81 + 1))]) (H' := [(10, [t64 (((x3.1).getD default).1), t64 (((x3.1).getD default).2.1), t64 (((x3.1).getD default).2.2)])]) [(11, 10)] rfl (.cons (.same (by first | rfl | (simp only [T.ids, idsL, er_ids, List.append_nil, List.nil_append] <;> rfl))) (.cons (.addr rfl 0) (.cons (.same (by first | rfl | (simp only [T.ids, idsL, er_ids, List.append_nil, List.nil_append] <;> rfl))) (.cons (.same (by first | rfl | (simp only [T.ids, idsL, er_ids, List.append_nil, List.nil_append] <;> rfl))) (.cons (.same (by first | rfl | (simp only [T.ids, idsL, er_ids, List.append_nil, List.nil_append] <;> rfl))) (.cons (.same (by first | rfl | (simp only [T.ids, idsL, er_ids, List.append_nil, List.nil_append] <;> rfl))) .nil)))))) (.cons rfl (.same (by first | rfl | (simp only [T.ids, idsL, er_ids, List.append_nil, List.nil_append] <;> rfl))) .nil) ?_
                            exact Go.join 20 hk hl1 rfl (ihl1 t51 t61 t71 (t81 + 1) (((x3.1).getD default).1) (((x3.1).getD default).2.1) (((x3.1).getD default).2.2) (by omega) (by omega))
                        · intro hk J
                          rcases Bool.eq_false_or_eq_true (!(decide (x3.2 = 0))) with g4 | g4
                          · have g4' : (decide (x3.2 = 0)) = false := ntT g4
                            have g4'p := of_decide_eq_false g4'
                            refine Go.rx 20 { ws := [(1, { v := some (tb true), er := some (83, x3.2) })] } [] [0, 5, 6, 7, 8, 11, 99] _ [(0, .sl 1 g_a0 a0.length (u8s a0)), (5, t64 t51), (6, t64 t61), (7, tb t71), (8, ti t81), (11, .addr 11 0), (99, tb true)] [(11, [t64 (((x3.1).getD default).1), t64 (((x3.1).getD default).2.1), t64 (((x3.1).getD default).2.2)])] hk rfl (by as_aux_lemma => kernel_rfl) (.cons (⟨rfl, rfl⟩ : (er 83 x3.2) = er 83 x3.2 ∧ (.leaf .nilIface : T) = .leaf .nilIface) (.cons (eb g4) .nil)) ?_
                            intro k' hk'
                            refine Go.slotEq 99 (tb (!(decide (x3.2 = 0)))) rfl (eb g4.symm) ?_
                            exact J k' hk'
                          · have g4' : (decide (x3.2 = 0)) = true := ntF g4
                            have g4'p := of_decide_eq_true g4'
                            refine Go.rx 20 { ws := [(1, { v := some (tb false), er := some (83, x3.2) })] } [] [0, 5, 6, 7, 8, 11, 99] _ [(0, .sl 1 g_a0 a0.length (u8s a0)), (5, t64 t51), (6, t64 t61), (7, tb t71), (8, ti t81), (11, .addr 11 0), (99, tb false)] [(11, [t64 (((x3.1).getD default).1), t64 (((x3.1).getD default).2.1), t64 (((x3.1).getD default).2.2)])] hk rfl (by as_aux_lemma => kernel_rfl) (.cons (⟨rfl, rfl⟩ : (er 83 x3.2) = er 83 x3.2 ∧ (.leaf .nilIface : T) = .leaf .nilIface) (.cons (eb g4) (.cons (⟨95, by as_aux_lemma => kernel_rfl⟩ : ∃ e, (E.ti 60).k = .ptr e) .nil))) ?_
                            intro k' hk'
                            refine Go.slotEq 99 (tb (!(decide (x3.2 = 0)))) rfl (eb g4.symm) ?_
                            exact J k' hk'
                      · refine Go.rx 20 { ws := [(1, { call := some { ids := [], S := [], M := [], R := .tup [.leaf (.pointer none), er 83 ((nonce_New t51 1099511627776).2)], H' := [] } })], ps := [12, 89, 91, 93] } [10] [0, 5, 6, 7, 8, 11, 12] _ [(0, .sl 1 g_a0 a0.length (u8s a0)), (5, t64 t51), (6, t64 t61), (7, tb t71), (8, ti t81), (11, .leaf (.pointer none)), (12, er 83 ((nonce_New t51 1099511627776).2))] [] hk rfl (by as_aux_lemma => kernel_rfl) (.cons (Meets.swp [] (Meets.optN (i := 10) (g := fun z => [t64 z.1, t64 z.2.1, t64 z.2.2]) (fun q => .tup [q, er 83 ((nonce_New t51 1099511627776).2)]) (nonce_New_m t51 1099511627776) p2) (.cons (.same (by first | rfl | (simp only [T.ids, idsL, er_ids, List.append_nil, List.nil_append] <;> rfl))) (.cons (.same (by first | rfl | (simp only [T.ids, idsL, er_ids, List.append_nil, List.nil_append] <;> rfl))) .nil)) .nil rfl (.same (by first | rfl | (simp only [T.ids, idsL, er_ids, List.append_nil, List.nil_append] <;> rfl))) .nil : Meets Tryd.prog 34 [t64 t51, t64 1099511627776] [] [] (.tup [.leaf (.pointer none), er 83 ((nonce_New t51 1099511627776).2)]) []) (.cons (by first | rfl | (simp only [T.ids, idsL, er_ids, List.append_nil, List.nil_append]; rfl) : subN (idsL [t64 t51, t64 1099511627776]) [] = true) (.cons (by first | rfl | (simp only [T.ids, idsL, er_ids, List.append_nil, List.nil_append]; rfl) : memN 10 (T.ids (.tup [.leaf (.pointer none), er 83 ((nonce_New t51 1099511627776).2)])) = false) (.cons (by first | rfl | (simp only [T.ids, idsL, er_ids, List.append_nil, List.nil_append]; rfl) : memN 10 (T.ids (.tup [.leaf (.pointer none), er 83 ((nonce_New t51 1099511627776).2)])) = false) (.cons (er_mem (i := 10) 83 ((nonce_New t51 1099511627776).2)) (.cons (er_mem (i := 10) 83 ((nonce_New t51 1099511627776).2)) .nil)))))) ?_
                        clear hk; intro k hk
                        refine Go.bnd (Pf := (fun z => (PostX Γ bursarylaw18_NonceOnce_enc) (Lo.el z (fun z => bursarylaw18_NonceOnce_k1 z.1 z.2.1 z.2.2)))) (v := (nonce_New t51 1099511627776)) (fun x4 => [(0, .sl 1 g_a0 a0.length (u8s a0)), (5, t64 t51), (6, t64 t61), (7, tb t71), (8, ti t81), (11, .leaf (.pointer none)), (12, er 83 x4.2)]) (fun x4 => []) ?_
                        intro x4 hx4
                        refine Go.regJ 20 [(0, .sl 1 g_a0 a0.length (u8s a0)), (5, t64 t51), (6, t64 t61), (7, tb t71), (8, ti t81), (11, .leaf (.pointer none)), (99, tb true)] [] hk rfl ?_ ?_
                        · clear hk; intro k hk
                          refine Go.cond 20 hk rfl (t := true) rfl ?_; clear hk; intro k hk
                          refine Go.rx 20 {} [] [2] _ [(2, tb false)] [] hk rfl (by as_aux_lemma => kernel_rfl) .nil ?_
                          clear hk; intro k hk
                          exact Go.lvx 20 [] _ [tb false] Tryd.func8 hk rfl (by as_aux_lemma => kernel_rfl) .nil (T.Le.of_eq rfl) rfl rfl .nil
                        · intro hk J
                          rcases Bool.eq_false_or_eq_true (!(decide (x4.2 = 0))) with g5 | g5
                          · have g5' : (decide (x4.2 = 0)) = false := ntT g5
                            have g5'p := of_decide_eq_false g5'
                            refine Go.rx 20 { ws := [(1, { v := some (tb true), er := some (83, x4.2) })] } [] [0, 5, 6, 7, 8, 11, 99] _ [(0, .sl 1 g_a0 a0.length (u8s a0)), (5, t64 t51), (6, t64 t61), (7, tb t71), (8, ti t81), (11, .leaf (.pointer none)), (99, tb true)] [] hk rfl (by as_aux_lemma => kernel_rfl) (.cons (⟨rfl, rfl⟩ : (er 83 x4.2) = er 83 x4.2 ∧ (.leaf .nilIface : T) = .leaf .nilIface) (.cons (eb g5) .nil)) ?_
                            intro k' hk'
                            exact J k' hk'
                          · have g5' : (decide (x4.2 = 0)) = true := ntF g5
                            have g5'p := of_decide_eq_true g5'
                            refine Go.rx 20 { ws := [(1, { v := some (tb false), er := some (83, x4.2) })] } [] [0, 5, 6, 7, 8, 11, 99] _ [(0, .sl 1 g_a0 a0.length (u8s a0)), (5, t64 t51), (6, t64 t61), (7, tb t71), (8, ti t81), (11, .leaf (.pointer none)), (99, tb true)] [] hk rfl (by as_aux_lemma => kernel_rfl) (.cons (⟨rfl, rfl⟩ : (er 83 x4.2) = er 83 x4.2 ∧ (.leaf .nilIface : T) = .leaf .nilIface) (.cons (eb g5) (.cons (⟨95, by as_aux_lemma => kernel_rfl⟩ : ∃ e, (E.ti 60).k = .ptr e) .nil))) ?_
                            intro k' hk'
                            exact J k' hk'
                    · refine Go.rx 20 { ws := [(1, { v := some (ti (t81 + 1)) })] } [] [0, 3, 5, 6, 7, 8] _ [(0, .sl 1 g_a0 a0.length (u8s a0)), (3, .addr 10 0), (5, t64 t51), (6, t64 t61), (7, tb t71), (8, ti (t81 + 1))] [(10, [t64 c10_0_1, t64 c10_1_1, t64 c10_2_1])] hk rfl (by as_aux_lemma => kernel_rfl) (.cons trivial (.cons (iw (t81 + 1) (by omega)) .nil)) ?_
                      clear hk; intro k hk
                      exact Go.join 20 hk hl1 rfl (ihl1 t51 t61 t71 (t81 + 1) c10_0_1 c10_1_1 c10_2_1 (by omega) (by omega))
                  · refine Go.rx 20 { ws := [(1, { call := some { ids := [10], S := [10], M := [], R := .tup [t64 ((nonce_Counter_Take c10_0_1 c10_1_1 c10_2_1).1), er 83 ((nonce_Counter_Take c10_0_1 c10_1_1 c10_2_1).2.1)], H' := [(10, [t64 (((nonce_Counter_Take c10_0_1 c10_1_1 c10_2_1).2.2).1), t64 (((nonce_Counter_Take c10_0_1 c10_1_1 c10_2_1).2.2).2.1), t64 (((nonce_Counter_Take c10_0_1 c10_1_1 c10_2_1).2.2).2.2)])] } })] } [] [0, 3, 5, 6, 7, 8, 13, 14] _ [(0, .sl 1 g_a0 a0.length (u8s a0)), (3, .addr 10 0), (5, t64 t51), (6, t64 t61), (7, tb t71), (8, ti t81), (13, t64 ((nonce_Counter_Take c10_0_1 c10_1_1 c10_2_1).1)), (14, er 83 ((nonce_Counter_Take c10_0_1 c10_1_1 c10_2_1).2.1))] [(10, [t64 (((nonce_Counter_Take c10_0_1 c10_1_1 c10_2_1).2.2).1), t64 (((nonce_Counter_Take c10_0_1 c10_1_1 c10_2_1).2.2).2.1), t64 (((nonce_Counter_Take c10_0_1 c10_1_1 c10_2_1).2.2).2.2)])] hk rfl (by as_aux_lemma => kernel_rfl) (.cons (Meets.swp [(0, 10)] (nonce_Counter_Take_m c10_0_1 c10_1_1 c10_2_1) (.cons (.addr rfl 0) .nil) (.cons rfl (.same (by first | rfl | (simp only [T.ids, idsL, er_ids, List.append_nil, List.nil_append] <;> rfl))) .nil) rfl (.same (by first | rfl | (simp only [T.ids, idsL, er_ids, List.append_nil, List.nil_append] <;> rfl))) (.cons rfl (.same (by first | rfl | (simp only [T.ids, idsL, er_ids, List.append_nil, List.nil_append] <;> rfl))) .nil) : Meets Tryd.prog 36 [.addr 10 0] [(10, [t64 c10_0_1, t64 c10_1_1, t64 c10_2_1])] [10] (.tup [t64 ((nonce_Counter_Take c10_0_1 c10_1_1 c10_2_1).1), er 83 ((nonce_Counter_Take c10_0_1 c10_1_1 c10_2_1).2.1)]) [(10, [t64 (((nonce_Counter_Take c10_0_1 c10_1_1 c10_2_1).2.2).1), t64 (((nonce_Counter_Take c10_0_1 c10_1_1 c10_2_1).2.2).2.1), t64 (((nonce_Counter_Take c10_0_1 c10_1_1 c10_2_1).2.2).2.2)])]) (.cons (by first | rfl | (simp only [T.ids, idsL, er_ids, List.append_nil, List.nil_append]; rfl) : subN (idsL [.addr 10 0]) [10] = true) (.cons (by first | rfl | (simp only [T.ids, idsL, er_ids, List.append_nil, List.nil_append]; rfl) : subN (idsL [t64 c10_0_1, t64 c10_1_1, t64 c10_2_1]) [10] = true) .nil))) ?_
                    clear hk; intro k hk
                    refine Go.bnd (Pf := (fun z => (PostX Γ bursarylaw18_NonceOnce_enc) (Lo.el z (fun z => bursarylaw18_NonceOnce_k1 z.1 z.2.1 z.2.2)))) (v := (nonce_Counter_Take c10_0_1 c10_1_1 c10_2_1)) (fun x5 => [(0, .sl 1 g_a0 a0.length (u8s a0)), (3, .addr 10 0), (5, t64 t51), (6, t64 t61), (7, tb t71), (8, ti t81), (13, t64 x5.1), (14, er 83 x5.2.1)]) (fun x5 => [(10, [t64 ((x5.2.2).1), t64 ((x5.2.2).2.1), t64 ((x5.2.2).2.2)])]) ?_
                    intro x5 hx5
                    refine Go.rx 20 { ws := [(1, { er := some (83, x5.2.1) })] } [] [0, 3, 5, 6, 7, 8, 13, 14, 46] _ [(0, .sl 1 g_a0 a0.length (u8s a0)), (3, .addr 10 0), (5, t64 t51), (6, t64 t61), (7, tb t71), (8, ti t81), (13, t64 x5.1), (14, er 83 x5.2.1), (46, tb (!(decide (x5.2.1 = 0))))] [(10, [t64 ((x5.2.2).1), t64 ((x5.2.2).2.1), t64 ((x5.2.2).2.2)])] hk rfl (by as_aux_lemma => kernel_rfl) (.cons (⟨rfl, rfl⟩ : (er 83 x5.2.1) = er 83 x5.2.1 ∧ (.leaf .nilIface : T) = .leaf .nilIface) .nil) ?_
                    clear hk; intro k hk
                    refine Go.br 20 (Pf := (fun z => (PostX Γ bursarylaw18_NonceOnce_enc) (Lo.el z (fun z => bursarylaw18_NonceOnce_k1 z.1 z.2.1 z.2.2)))) hk rfl rfl ?_ ?_ <;> clear hk <;> intro c11 k hk
                    · have c11' : (decide (x5.2.1 = 0)) = false := ntT c11
                      have c11'p := of_decide_eq_false c11'
                      refine Go.split (Pf := (fun z => (PostX Γ bursarylaw18_NonceOnce_enc) (Lo.el z (fun z => bursarylaw18_NonceOnce_k1 z.1 z.2.1 z.2.2)))) ((id x5.2.1) != 2) ?_ ?_ <;> intro p3
                      · have p3p := neIt p3
                        refine Go.rx 20 { ws := [(1, { call := some { ids := [], S := [], M := [], R := ti (id x5.2.1), H' := [] } }), (2, { v := some (tb true) })] } [] [0, 3, 5, 6, 7, 8, 54] _ [(0, .sl 1 g_a0 a0.length (u8s a0)), (3, .addr 10 0), (5, t64 t51), (6, t64 t61), (7, tb t71), (8, ti t81), (54, tb true)] [(10, [t64 ((x5.2.2).1), t64 ((x5.2.2).2.1), t64 ((x5.2.2).2.2)])] hk rfl (by as_aux_lemma => kernel_rfl) (.cons (bursarylaw18_num_m x5.2.1) (.cons (by first | rfl | (simp only [T.ids, idsL, er_ids, List.append_nil, List.nil_append]; rfl) : subN (idsL [er 83 x5.2.1]) [] = true) (.cons trivial (.cons (eb p3) .nil)))) ?_
                        clear hk; intro k hk
                        refine Go.cond 20 hk rfl (t := true) rfl ?_; clear hk; intro k hk
                        refine Go.rx 20 {} [10] [2] _ [(2, tb false)] [] hk rfl (by as_aux_lemma => kernel_rfl) .nil ?_
                        clear hk; intro k hk
                        exact Go.lvx 20 [] _ [tb false] Tryd.func8 hk rfl (by as_aux_lemma => kernel_rfl) .nil (T.Le.of_eq rfl) rfl rfl .nil
                      · have p3p := neIf p3
                        refine Go.rx 20 { ws := [(1, { call := some { ids := [], S := [], M := [], R := ti (id x5.2.1), H' := [] } }), (2, { v := some (tb false) }), (5, { call := some { ids := [10], S := [10], M := [], R := t64 ((nonce_Counter_Left ((x5.2.2).1) ((x5.2.2).2.1) ((x5.2.2).2.2)).1), H' := [(10, [t64 (((nonce_Counter_Left ((x5.2.2).1) ((x5.2.2).2.1) ((x5.2.2).2.2)).2).1), t64 (((nonce_Counter_Left ((x5.2.2).1) ((x5.2.2).2.1) ((x5.2.2).2.2)).2).2.1), t64 (((nonce_Counter_Left ((x5.2.2).1) ((x5.2.2).2.1) ((x5.2.2).2.2)).2).2.2)])] } }), (6, { v := some (tb (((nonce_Counter_Left ((x5.2.2).1) ((x5.2.2).2.1) ((x5.2.2).2.2)).1) != 0)) })] } [] [0, 3, 5, 6, 7, 8, 54] _ [(0, .sl 1 g_a0 a0.length (u8s a0)), (3, .addr 10 0), (5, t64 t51), (6, t64 t61), (7, tb t71), (8, ti t81), (54, tb (((nonce_Counter_Left ((x5.2.2).1) ((x5.2.2).2.1) ((x5.2.2).2.2)).1) != 0))] [(10, [t64 (((nonce_Counter_Left ((x5.2.2).1) ((x5.2.2).2.1) ((x5.2.2).2.2)).2).1), t64 (((nonce_Counter_Left ((x5.2.2).1) ((x5.2.2).2.1) ((x5.2.2).2.2)).2).2.1), t64 (((nonce_Counter_Left ((x5.2.2).1) ((x5.2.2).2.1) ((x5.2.2).2.2)).2).2.2)])] hk rfl (by as_aux_lemma => kernel_rfl) (.cons (bursarylaw18_num_m x5.2.1) (.cons (by first | rfl | (simp only [T.ids, idsL, er_ids, List.append_nil, List.nil_append]; rfl) : subN (idsL [er 83 x5.2.1]) [] = true) (.cons trivial (.cons (eb p3) (.cons (Meets.swp [(0, 10)] (nonce_Counter_Left_m ((x5.2.2).1) ((x5.2.2).2.1) ((x5.2.2).2.2)) (.cons (.addr rfl 0) .nil) (.cons rfl (.same (by first | rfl | (simp only [T.ids, idsL, er_ids, List.append_nil, List.nil_append] <;> rfl))) .nil) rfl (.same (by first | rfl | (simp only [T.ids, idsL, er_ids, List.append_nil, List.nil_append] <;> rfl))) (.cons rfl (.same (by first | rfl | (simp only [T.ids, idsL, er_ids, List.append_nil, List.nil_append] <;> rfl))) .nil) : Meets Tryd.prog 38 [.addr 10 0] [(10, [t64 ((x5.2.2).1), t64 ((x5.2.2).2.1), t64 ((x5.2.2).2.2)])] [10] (t64 ((nonce_Counter_Left ((x5.2.2).1) ((x5.2.2).2.1) ((x5.2.2).2.2)).1)) [(10, [t64 (((nonce_Counter_Left ((x5.2.2).1) ((x5.2.2).2.1) ((x5.2.2).2.2)).2).1), t64 (((nonce_Counter_Left ((x5.2.2).1) ((x5.2.2).2.1) ((x5.2.2).2.2)).2).2.1), t64 (((nonce_Counter_Left ((x5.2.2).1) ((x5.2.2).2.1) ((x5.2.2).2.2)).2).2.2)])]) (.cons (by first | rfl | (simp only [T.ids, idsL, er_ids, List.append_nil, List.nil_append]; rfl) : subN (idsL [.addr 10 0]) [10] = true) (.cons (by first | rfl | (simp only [T.ids, idsL, er_ids, List.append_nil, List.nil_append]; rfl) : subN (idsL [t64 ((x5.2.2).1), t64 ((x5.2.2).2.1), t64 ((x5.2.2).2.2)]) [10] = true) (.cons trivial (.cons (neB64 ((nonce_Counter_Left ((x5.2.2).1) ((x5.2.2).2.1) ((x5.2.2).2.2)).1) 0) .nil))))))))) ?_
                        clear hk; intro k hk
                        refine Go.bnd (Pf := (fun z => (PostX Γ bursarylaw18_NonceOnce_enc) (Lo.el z (fun z => bursarylaw18_NonceOnce_k1 z.1 z.2.1 z.2.2)))) (v := (nonce_Counter_Left ((x5.2.2).1) ((x5.2.2).2.1) ((x5.2.2).2.2))) (fun x6 => [(0, .sl 1 g_a0 a0.length (u8s a0)), (3, .addr 10 0), (5, t64 t51), (6, t64 t61), (7, tb t71), (8, ti t81), (54, tb ((x6.1) != 0))]) (fun x6 => [(10, [t64 ((x6.2).1), t64 ((x6.2).2.1), t64 ((x6.2).2.2)])]) ?_
                        intro x6 hx6
                        refine Go.br 20 (Pf := (fun z => (PostX Γ bursarylaw18_NonceOnce_enc) (Lo.el z (fun z => bursarylaw18_NonceOnce_k1 z.1 z.2.1 z.2.2)))) hk rfl rfl ?_ ?_ <;> clear hk <;> intro c12 k hk
                        · refine Go.rx 20 {} [10] [2] _ [(2, tb false)] [] hk rfl (by as_aux_lemma => kernel_rfl) .nil ?_
                          clear hk; intro k hk
                          exact Go.lvx 20 [] _ [tb false] Tryd.func8 hk rfl (by as_aux_lemma => kernel_rfl) .nil (T.Le.of_eq rfl) rfl rfl .nil
                        · refine Go.rx 20 { ws := [(1, { v := some (ti (t81 + 1)) })] } [] [0, 3, 5, 6, 7, 8] _ [(0, .sl 1 g_a0 a0.length (u8s a0)), (3, .addr 10 0), (5, t64 t51), (6, t64 t61), (7, tb t71), (8, ti (t81 + 1))] [(10, [t64 ((x6.2).1), t64 ((x6.2).2.1), t64 ((x6.2).2.2)])] hk rfl (by as_aux_lemma => kernel_rfl) (.cons trivial (.cons (iw (t81 + 1) (by omega)) .nil)) ?_
                          clear hk; intro k hk
                          exact Go.join 20 hk hl1 rfl (ihl1 t51 t61 t71 (t81 + 1) ((x6.2).1) ((x6.2).2.1) ((x6.2).2.2) (by omega) (by omega))
                    · have c11' : (decide (x5.2.1 = 0)) = true := ntF c11
                      have c11'p := of_decide_eq_true c11'
                      refine Go.regJ 20 [(0, .sl 1 g_a0 a0.length (u8s a0)), (3, .addr 10 0), (5, t64 t51), (8, ti t81), (13, t64 x5.1), (65, tb ((decide (x5.1 ≥ t51)) || (t71 && (decide (x5.1 ≤ t61)))))] [(10, [t64 ((x5.2.2).1), t64 ((x5.2.2).2.1), t64 ((x5.2.2).2.2)])] hk rfl ?_ ?_
                      · clear hk; intro k hk
                        refine Go.br 20 (Pf := (fun z => (PostX Γ bursarylaw18_NonceOnce_enc) (Lo.el z (fun z => bursarylaw18_NonceOnce_k1 z.1 z.2.1 z.2.2)))) hk rfl rfl ?_ ?_ <;> clear hk <;> intro c13 k hk
                        · refine Go.rx 20 {} [10] [2] _ [(2, tb false)] [] hk rfl (by as_aux_lemma => kernel_rfl) .nil ?_
                          clear hk; intro k hk
                          exact Go.lvx 20 [] _ [tb false] Tryd.func8 hk rfl (by as_aux_lemma => kernel_rfl) .nil (T.Le.of_eq rfl) rfl rfl .nil
                        · have c131 : (decide (x5.1 ≥ t51)) = false := (Bool.or_eq_false_iff.1 c13).1
                          have c132 : (t71 && (decide (x5.1 ≤ t61))) = false := (Bool.or_eq_false_iff.1 c13).2
                          refine Go.rx 20 {} [] [0, 3, 5, 6, 7, 8] _ [(0, .sl 1 g_a0 a0.length (u8s a0)), (3, .addr 10 0), (5, t64 t51), (6, t64 x5.1), (7, tb true), (8, ti t81)] [(10, [t64 ((x5.2.2).1), t64 ((x5.2.2).2.1), t64 ((x5.2.2).2.2)])] hk rfl (by as_aux_lemma => kernel_rfl) .nil ?_
                          clear hk; intro k hk
                          refine Go.rx 20 { ws := [(1, { v := some (ti (t81 + 1)) })] } [] [0, 3, 5, 6, 7, 8] _ [(0, .sl 1 g_a0 a0.length (u8s a0)), (3, .addr 10 0), (5, t64 t51), (6, t64 x5.1), (7, tb true), (8, ti (t81 + 1))] [(10, [t64 ((x5.2.2).1), t64 ((x5.2.2).2.1), t64 ((x5.2.2).2.2)])] hk rfl (by as_aux_lemma => kernel_rfl) (.cons trivial (.cons (iw (t81 + 1) (by omega)) .nil)) ?_
                          clear hk; intro k hk
                          exact Go.join 20 hk hl1 rfl (ihl1 t51 x5.1 true (t81 + 1) ((x5.2.2).1) ((x5.2.2).2.1) ((x5.2.2).2.2) (by omega) (by omega))
                      · intro hk J
                        rcases Bool.eq_false_or_eq_true (decide (x5.1 ≥ t51)) with g6 | g6
                        · refine Go.rx 20 { ws := [(2, { v := some (tb true) })] } [] [0, 3, 5, 8, 13, 65] _ [(0, .sl 1 g_a0 a0.length (u8s a0)), (3, .addr 10 0), (5, t64 t51), (8, ti t81), (13, t64 x5.1), (65, tb true)] [(10, [t64 ((x5.2.2).1), t64 ((x5.2.2).2.1), t64 ((x5.2.2).2.2)])] hk rfl (by as_aux_lemma => kernel_rfl) (.cons trivial (.cons ((geB64 x5.1 t51).trans (eb g6)) .nil)) ?_
                          intro k' hk'
                          refine Go.slotEq 65 (tb ((decide (x5.1 ≥ t51)) || (t71 && (decide (x5.1 ≤ t61))))) rfl (eb (orT g6).symm) ?_
                          exact J k' hk'
                        · rcases Bool.eq_false_or_eq_true t71 with g7 | g7
                          · refine Go.rx 20 { ws := [(2, { v := some (tb false) }), (4, { v := some (tb true) }), (8, { v := some (tb (decide (x5.1 ≤ t61))) })] } [] [0, 3, 5, 8, 13, 65] _ [(0, .sl 1 g_a0 a0.length (u8s a0)), (3, .addr 10 0), (5, t64 t51), (8, ti t81), (13, t64 x5.1), (65, tb (decide (x5.1 ≤ t61)))] [(10, [t64 ((x5.2.2).1), t64 ((x5.2.2).2.1), t64 ((x5.2.2).2.2)])] hk rfl (by as_aux_lemma => kernel_rfl) (.cons trivial (.cons ((geB64 x5.1 t51).trans (eb g6)) (.cons (eb g7) (.cons trivial (.cons (leB64 x5.1 t61) .nil))))) ?_
                            intro k' hk'
                            refine Go.slotEq 65 (tb ((decide (x5.1 ≥ t51)) || (t71 && (decide (x5.1 ≤ t61))))) rfl (eb (orF g6 (andT g7 rfl)).symm) ?_
                            exact J k' hk'
                          · refine Go.rx 20 { ws := [(2, { v := some (tb false) }), (4, { v := some (tb false) })] } [] [0, 3, 5, 8, 13, 65] _ [(0, .sl 1 g_a0 a0.length (u8s a0)), (3, .addr 10 0), (5, t64 t51), (8, ti t81), (13, t64 x5.1), (65, tb false)] [(10, [t64 ((x5.2.2).1), t64 ((x5.2.2).2.1), t64 ((x5.2.2).2.2)])] hk rfl (by as_aux_lemma => kernel_rfl) (.cons trivial (.cons ((geB64 x5.1 t51).trans (eb g6)) (.cons (eb g7) .nil))) ?_
                            intro k' hk'
                            refine Go.slotEq 65 (tb ((decide (x5.1 ≥ t51)) || (t71 && (decide (x5.1 ≤ t61))))) rfl (eb (orF g6 (andF g7)).symm) ?_
                            exact J k' hk'
              · refine Go.keepN [] (L' := []) rfl ?_
                exact Go.join 20 hk hxl1 rfl (Xl1 c10_0_1 c10_1_1 c10_2_1)
            · intro hk J
              rcases Bool.eq_false_or_eq_true (decide (t81 < (a0.length : Int))) with g2 | g2
              · have g2p := of_decide_eq_true g2
                refine Go.rx 20 { ws := [(3, { v := some (tb true) })] } [] [0, 3, 5, 6, 7, 8, 32] _ [(0, .sl 1 g_a0 a0.length (u8s a0)), (3, .addr 10 0), (5, t64 t51), (6, t64 t61), (7, tb t71), (8, ti t81), (32, tb (decide (t81 < 300)))] [(10, [t64 c10_0_1, t64 c10_1_1, t64 c10_2_1])] hk rfl (by as_aux_lemma => kernel_rfl) (.cons trivial (.cons (eb g2) (.cons trivial .nil))) ?_
                intro k' hk'
                refine Go.slotEq 32 (tb ((decide (t81 < (a0.length : Int))) && (decide (t81 < 300)))) rfl (eb (andT g2 rfl).symm) ?_
                exact J k' hk'
              · have g2p := of_decide_eq_false g2
                refine Go.rx 20 { ws := [(3, { v := some (tb false) })] } [] [0, 3, 5, 6, 7, 8, 32] _ [(0, .sl 1 g_a0 a0.length (u8s a0)), (3, .addr 10 0), (5, t64 t51), (6, t64 t61), (7, tb t71), (8, ti t81), (32, tb false)] [(10, [t64 c10_0_1, t64 c10_1_1, t64 c10_2_1])] hk rfl (by as_aux_lemma => kernel_rfl) (.cons trivial (.cons (eb g2) .nil)) ?_
                intro k' hk'
                refine Go.slotEq 32 (tb ((decide (t81 < (a0.length : Int))) && (decide (t81 < 300)))) rfl (eb (andF g2).symm) ?_
                exact J k' hk'
        exact Ll1 _ 0 0 false 0 (((x1.1).getD default).1) (((x1.1).getD default).2.1) (((x1.1).getD default).2.2) (by omega) (Nat.lt_succ_self _)
    · intro hk J
      rcases Bool.eq_false_or_eq_true (!(decide (x1.2 = 0))) with g1 | g1
      · have g1' : (decide (x1.2 = 0)) = false := ntT g1
        have g1'p := of_decide_eq_false g1'
        refine Go.rx 20 { ws := [(1, { v := some (tb true), er := some (83, x1.2) })] } [] [0, 3, 24] _ [(0, .sl 1 g_a0 a0.length (u8s a0)), (3, .addr 10 0), (24, tb true)] [(10, [t64 (((x1.1).getD default).1), t64 (((x1.1).getD default).2.1), t64 (((x1.1).getD default).2.2)])] hk rfl (by as_aux_lemma => kernel_rfl) (.cons (⟨rfl, rfl⟩ : (er 83 x1.2) = er 83 x1.2 ∧ (.leaf .nilIface : T) = .leaf .nilIface) (.cons (eb g1) .nil)) ?_
        intro k' hk'
        refine Go.slotEq 24 (tb (!(decide (x1.2 = 0)))) rfl (eb g1.symm) ?_
        exact J k' hk'
      · have g1' : (decide (x1.2 = 0)) = true := ntF g1
        have g1'p := of_decide_eq_true g1'
        refine Go.rx 20 { ws := [(1, { v := some (tb false), er := some (83, x1.2) })] } [] [0, 3, 24] _ [(0, .sl 1 g_a0 a0.length (u8s a0)), (3, .addr 10 0), (24, tb false)] [(10, [t64 (((x1.1).getD default).1), t64 (((x1.1).getD default).2.1), t64 (((x1.1).getD default).2.2)])] hk rfl (by as_aux_lemma => kernel_rfl) (.cons (⟨rfl, rfl⟩ : (er 83 x1.2) = er 83 x1.2 ∧ (.leaf .nilIface : T) = .leaf .nilIface) (.cons (eb g1) (.cons (⟨95, by as_aux_lemma => kernel_rfl⟩ : ∃ e, (E.ti 60).k = .ptr e) .nil))) ?_
        intro k' hk'
        refine Go.slotEq 24 (tb (!(decide (x1.2 = 0)))) rfl (eb g1.symm) ?_
        exact J k' hk'
  · refine Go.rx 20 { ws := [(0, { call := some { ids := [], S := [], M := [], R := .tup [.leaf (.pointer none), er 83 ((nonce_New 0 1099511627776).2)], H' := [] } })] } [] [0, 3, 4] _ [(0, .sl 1 g_a0 a0.length (u8s a0)), (3, .leaf (.pointer none)), (4, er 83 ((nonce_New 0 1099511627776).2))] [] hk rfl (by as_aux_lemma => kernel_rfl) (.cons (Meets.swp [] (Meets.optN (i := 10) (g := fun z => [t64 z.1, t64 z.2.1, t64 z.2.2]) (fun q => .tup [q, er 83 ((nonce_New 0 1099511627776).2)]) (nonce_New_m 0 1099511627776) p1) (.cons (.same (by first | rfl | (simp only [T.ids, idsL, er_ids, List.append_nil, List.nil_append] <;> rfl))) (.cons (.same (by first | rfl | (simp only [T.ids, idsL, er_ids, List.append_nil, List.nil_append] <;> rfl))) .nil)) .nil rfl (.same (by first | rfl | (simp only [T.ids, idsL, er_ids, List.append_nil, List.nil_append] <;> rfl))) .nil : Meets Tryd.prog 34 [t64 0, t64 1099511627776] [] [] (.tup [.leaf (.pointer none), er 83 ((nonce_New 0 1099511627776).2)]) []) (.cons (by first | rfl | (simp only [T.ids, idsL, er_ids, List.append_nil, List.nil_append]; rfl) : subN (idsL [t64 0, t64 1099511627776]) [] = true) .nil)) ?_
    clear hk; intro k hk
    refine Go.bnd (Pf := (PostX Γ bursarylaw18_NonceOnce_enc)) (v := (nonce_New 0 1099511627776)) (fun x7 => [(0, .sl 1 g_a0 a0.length (u8s a0)), (3, .leaf (.pointer none)), (4, er 83 x7.2)]) (fun x7 => []) ?_
    intro x7 hx7
    refine Go.regJ 20 [(0, .sl 1 g_a0 a0.length (u8s a0)), (3, .leaf (.pointer none)), (24, tb true)] [] hk rfl ?_ ?_
    · clear hk; intro k hk
      refine Go.cond 20 hk rfl (t := true) rfl ?_; clear hk; intro k hk
      refine Go.rx 20 {} [] [2] _ [(2, tb false)] [] hk rfl (by as_aux_lemma => kernel_rfl) .nil ?_
      clear hk; intro k hk
      exact Go.lvx 20 [] _ [tb false] Tryd.func8 hk rfl (by as_aux_lemma => kernel_rfl) .nil (T.Le.of_eq rfl) rfl rfl .nil
    · intro hk J
      rcases Bool.eq_false_or_eq_true (!(decide (x7.2 = 0))) with g8 | g8
      · have g8' : (decide (x7.2 = 0)) = false := ntT g8
        have g8'p := of_decide_eq_false g8'
        refine Go.rx 20 { ws := [(1, { v := some (tb true), er := some (83, x7.2) })] } [] [0, 3, 24] _ [(0, .sl 1 g_a0 a0.length (u8s a0)), (3, .leaf (.pointer none)), (24, tb true)] [] hk rfl (by as_aux_lemma => kernel_rfl) (.cons (⟨rfl, rfl⟩ : (er 83 x7.2) = er 83 x7.2 ∧ (.leaf .nilIface : T) = .leaf .nilIface) (.cons (eb g8) .nil)) ?_
        intro k' hk'
        exact J k' hk'
      · have g8' : (decide (x7.2 = 0)) = true := ntF g8
        have g8'p := of_decide_eq_true g8'
        refine Go.rx 20 { ws := [(1, { v := some (tb false), er := some (83, x7.2) })] } [] [0, 3, 24] _ [(0, .sl 1 g_a0 a0.length (u8s a0)), (3, .leaf (.pointer none)), (24, tb true)] [] hk rfl (by as_aux_lemma => kernel_rfl) (.cons (⟨rfl, rfl⟩ : (er 83 x7.2) = er 83 x7.2 ∧ (.leaf .nilIface : T) = .leaf .nilIface) (.cons (eb g8) (.cons (⟨95, by as_aux_lemma => kernel_rfl⟩ : ∃ e, (E.ti 60).k = .ptr e) .nil))) ?_
        intro k' hk'
        exact J k' hk'
end Go.Proofs.YtmedboagdnpkbaaDoor

import Derived.Test.YtbppcnhfeobefaaDoorX
set_option linter.unusedVariables false
set_option linter.unusedSimpArgs false
namespace Go.Proofs.YtbppcnhfeobefaaDoor
open Go Go.Vw Go.Proofs
theorem qy_1 {p : Prop} (h : p := by first | (simp; done) | (with_reducible assumption) | omega | (simp <;> omega) | rfl) : p := h
theorem qy_2 {p : Prop} (h : p := by first | (simp; done) | (with_reducible assumption) | omega | (simp <;> omega) | rfl | exact asc_len _) : p := h
def slices_Chunk_byte_byte_enc (s : List UInt8) (n : Int) (_ : Unit) : T × List (Nat × List T) := (.fn (.func 135) [] [.addr 10 0, .addr 11 0], [(10, [.sl 1 .shr s.length (u8s s)]), (11, [ti n])])
theorem slices_Chunk_byte_byte_m (s : List UInt8) (n : Int) (hn : decide (n < 1) = false) : Meets Tryd.prog 118 [.sl 1 .shr s.length (u8s s), ti n] [] [] (.fn (.func 135) [] [.addr 10 0, .addr 11 0]) ([(10, [.sl 1 .shr s.length (u8s s)]), (11, [ti n])]) := by
  refine Meets.enterX (E := E) (N := 9) (enc := slices_Chunk_byte_byte_enc s n) (x := ()) Tryd.func118 Tryd.call118 rfl rfl ?_
  intro Γ k hk
  refine Go.rx 20 { ws := [(0, { id := 10 }), (1, { id := 11 })] } [] [2, 3] _ [(2, .addr 10 0), (3, .addr 11 0)] [(10, [.sl 1 .shr s.length (u8s s)]), (11, [ti n])] hk rfl kr .nil ?_
  clear hk; intro k hk
  refine Go.rx 20 { ws := [(1, { v := some (tb false) })] } [] [2, 3, 6] _ [(2, .addr 10 0), (3, .addr 11 0), (6, tb false)] [(10, [.sl 1 .shr s.length (u8s s)]), (11, [ti n])] hk rfl kr (.cons trivial (.cons (eb hn) .nil)) ?_
  clear hk; intro k hk
  refine Go.cond 20 hk rfl (t := false) rfl ?_; clear hk; intro k hk
  refine Go.rx 20 {} [] [4] _ [(4, .fn (.func 135) [] [.addr 10 0, .addr 11 0])] [(10, [.sl 1 .shr s.length (u8s s)]), (11, [ti n])] hk rfl kr .nil ?_
  clear hk; intro k hk
  exact Go.lvx 20 [10, 11] _ [.fn (.func 135) [] [.addr 10 0, .addr 11 0]] Tryd.func118 hk rfl kr .nil (T.Le.of_eq rfl) rfl rfl (.cons sb (.cons sb .nil))
noncomputable def strings_trimLeftByte_k1 (s2 : List UInt8) : List UInt8 :=
  s2
noncomputable def strings_trimLeftByte_l1 (c : UInt8) : Nat → (List UInt8) → Lo (List UInt8) (List UInt8)
  | 0, _ => .brk default
  | ml1 + 1, s1 =>
    bif (decide ((s1.length : Int) > 0)) && ((s1.getD 0 0) == c) then
      strings_trimLeftByte_l1 c ml1 (slc s1 1 (s1.length : Int))
    else
      Lo.brk s1
noncomputable def strings_trimLeftByte (s : List UInt8) (c : UInt8) : List UInt8 :=
  Lo.el (strings_trimLeftByte_l1 c (s.length + 1) s) (fun z : List UInt8 => strings_trimLeftByte_k1 z)
def strings_trimLeftByte_enc (x : List UInt8) : T × List (Nat × List T) := (ts x, [])
theorem strings_trimLeftByte_m (s : List UInt8) (c : UInt8) : Meets Tryd.prog 131 [ts s, t8 c] [] [] (ts (strings_trimLeftByte s c)) [] := by
  refine Meets.enterX (E := E) (N := 17) (enc := strings_trimLeftByte_enc) (x := (strings_trimLeftByte s c)) Tryd.func131 Tryd.call131 rfl rfl ?_
  intro Γ k hk
  refine Go.rx 20 {} [] [0, 1] _ [(0, ts s), (1, t8 c)] [] hk rfl kr .nil ?_
  clear hk; intro k hk
  refine Go.loopX 20 hk rfl ?_
  clear hk; intro kl1 kxl1 hl1 hxl1
  have Xl1 : ∀ (s2 : List UInt8), Go E Γ 131 17 [] ((PostX Γ strings_trimLeftByte_enc) (strings_trimLeftByte_k1 s2)) kxl1 (stL [(0, ts s2)] []) := by
    intro s2
    refine Go.rx 20 {} [] [4] _ [(4, ts s2)] [] hxl1 rfl kr .nil ?_
    clear hxl1; intro kxl1 hxl1
    exact Go.lvx 20 [] _ [ts s2] Tryd.func131 hxl1 rfl kr .nil (T.Le.of_eq rfl) rfl rfl .nil
  have Ll1 : ∀ (ml1 : Nat) (s1 : List UInt8), (s1.length < ml1) → Go E Γ 131 17 [] ((PostX Γ strings_trimLeftByte_enc) (Lo.el (strings_trimLeftByte_l1 c ml1 s1) (fun z : List UInt8 => strings_trimLeftByte_k1 z))) kl1 (stL [(0, ts s1), (1, t8 c)] []) := by
    intro ml1
    induction ml1 with
    | zero => intro s1 hml1; exact absurd hml1 (Nat.not_lt_zero _)
    | succ ml1 ihl1 =>
      intro s1 hml1
      rw [strings_trimLeftByte_l1]
      refine Go.round hl1 ?_
      intro k hk
      refine Go.regJ 20 [(0, ts s1), (1, t8 c), (13, tb ((decide ((s1.length : Int) > 0)) && ((s1.getD 0 0) == c)))] [] hk rfl ?_ ?_
      · clear hk; intro k hk
        refine Go.br 20 (Pf := (fun z : Lo (List UInt8) (List UInt8) => (PostX Γ strings_trimLeftByte_enc) (Lo.el z (fun z : List UInt8 => strings_trimLeftByte_k1 z)))) hk rfl rfl ?_ ?_ <;> clear hk <;> intro ct1 k hk
        · have ct11 : (decide ((s1.length : Int) > 0)) = true := (Bool.and_eq_true_iff.1 ct1).1
          have ct12 : ((s1.getD 0 0) == c) = true := (Bool.and_eq_true_iff.1 ct1).2
          have ct11p := of_decide_eq_true ct11
          refine Go.rx 20 { ws := [(1, { v := some (ts (slc s1 1 (s1.length : Int))) })] } [] [0, 1] _ [(0, ts (slc s1 1 (s1.length : Int))), (1, t8 c)] [] hk rfl kr (.cons (by simp only [sOf_size]; first | omega | (simp <;> omega) | (simp at * <;> omega) | (split <;> omega) | (split <;> (first | omega | (simp <;> omega) | (simp at * <;> omega))) : 0 ≤ (1 : Int) ∧ (1 : Int) ≤ (((sOf s1).size : Nat) : Int) ∧ (((sOf s1).size : Nat) : Int) ≤ (((sOf s1).size : Nat) : Int) ∧ (((sOf s1).size : Nat) : Int) ≤ (((sOf s1).size : Nat) : Int)) (.cons (s_slc_end (lo := 1) s1 om) .nil)) ?_
          clear hk; intro k hk
          exact Go.join 20 hk hl1 rfl (ihl1 (slc s1 1 (s1.length : Int))  om)
        · refine Go.keepN [0] (L' := [(0, ts s1)]) rfl ?_
          exact Go.exitX (Pf := (PostX Γ strings_trimLeftByte_enc)) (F := fun z : List UInt8 => strings_trimLeftByte_k1 z) (a := s1) (Go.join 20 hk hxl1 rfl (Xl1 s1))
      · intro hk J
        rcases Bool.eq_false_or_eq_true (decide ((s1.length : Int) > 0)) with gd1 | gd1
        · have gd1p := of_decide_eq_true gd1
          refine Go.rx 20 { ws := [(1, { v := some (ti (s1.length : Int)) }), (2, { v := some (tb true) }), (5, { b := [s1.getD 0 0] }), (7, { v := some (tb ((s1.getD 0 0) == c)) })] } [] [0, 1, 13] _ [(0, ts s1), (1, t8 c), (13, tb ((s1.getD 0 0) == c))] [] hk rfl kr (.cons (len_sOf s1) (.cons trivial (.cons (eb gd1) (.cons (sOf_get (n := 0) s1 om) (.cons trivial (.cons (eqB8 (s1.getD 0 0) c) .nil)))))) ?_
          intro k' hk'
          refine Go.slotEq 13 (tb ((decide ((s1.length : Int) > 0)) && ((s1.getD 0 0) == c))) rfl (eb (andT gd1 rfl).symm) ?_
          exact J k' hk'
        · have gd1p := of_decide_eq_false gd1
          refine Go.rx 20 { ws := [(1, { v := some (ti (s1.length : Int)) }), (2, { v := some (tb false) })] } [] [0, 1, 13] _ [(0, ts s1), (1, t8 c), (13, tb false)] [] hk rfl kr (.cons (len_sOf s1) (.cons trivial (.cons (eb gd1) .nil))) ?_
          intro k' hk'
          refine Go.slotEq 13 (tb ((decide ((s1.length : Int) > 0)) && ((s1.getD 0 0) == c))) rfl (eb (andF gd1).symm) ?_
          exact J k' hk'
  exact Ll1 _ s  (Nat.lt_succ_self _)
attribute [irreducible] strings_trimLeftByte_k1 strings_trimLeftByte_l1 strings_trimLeftByte
noncomputable def strings_makeASCIISet_k1 (o2 : List Bool) : List Bool × Bool :=
  (o2, true)
noncomputable def strings_makeASCIISet_l1 (chars : List UInt8) : Nat → Int → (List Bool) → Lo (List Bool) (List Bool × Bool)
  | 0, _, _ => .brk default
  | ml1 + 1, i1, o1 =>
    bif decide (i1 < (chars.length : Int)) then
      bif decide ((chars.getD i1.toNat 0) ≥ 128) then
        Lo.ret (o1, false)
      else
        strings_makeASCIISet_l1 chars ml1 (i1 + 1) (o1.set (((chars.getD i1.toNat 0).toNat : Int).toNat) true)
    else
      Lo.brk o1
noncomputable def strings_makeASCIISet (chars : List UInt8) : List Bool × Bool :=
  Lo.el (strings_makeASCIISet_l1 chars (((chars.length : Int) - (0 : Int)).toNat + 1) 0 (List.replicate 256 false)) (fun z : List Bool => strings_makeASCIISet_k1 z)
def strings_makeASCIISet_enc (x : List Bool × Bool) : T × List (Nat × List T) := (.tup [.agg (bos x.1), tb x.2], [])
set_option maxRecDepth 100000 in
theorem strings_makeASCIISet_m (chars : List UInt8) (hs : chars.length ≤ 1000) : Meets Tryd.prog 132 [ts chars] [] [] (.tup [.agg (bos ((strings_makeASCIISet chars).1)), tb ((strings_makeASCIISet chars).2)]) [] := by
  refine Meets.enterX (E := E) (N := 21) (enc := strings_makeASCIISet_enc) (x := (strings_makeASCIISet chars)) Tryd.func132 Tryd.call132 rfl rfl ?_
  intro Γ k hk
  refine Go.rx 20 { ws := [(0, { id := 10 })] } [] [0, 2] _ [(0, ts chars), (2, .addr 10 0)] [(10, (List.replicate 256 (tb false)))] hk rfl kr .nil ?_
  clear hk; intro k hk
  refine Go.rx 20 {} [] [0, 2, 4] _ [(0, ts chars), (2, .addr 10 0), (4, ti 0)] [(10, (List.replicate 256 (tb false)))] hk rfl kr .nil ?_
  clear hk; intro k hk
  refine Go.loopX 20 hk rfl ?_
  clear hk; intro kl1 kxl1 hl1 hxl1
  have Xl1 : ∀ (o2 : List Bool) (f0l1 : o2.length = 256), Go E Γ 132 21 [] ((PostX Γ strings_makeASCIISet_enc) (strings_makeASCIISet_k1 o2)) kxl1 (stL [(2, .addr 10 0)] [(10, bos o2)]) := by
    intro o2 f0l1
    refine Go.rx 20 { ws := [(0, { v := some (.agg (bos o2)) }), (1, { c := some (bos o2), sym := true })] } [] [2, 3] _ [(2, .addr 10 0), (3, tb true)] [(10, bos o2)] hxl1 rfl kr (.cons (mp_whole (g := (fun c : Bool => T.leaf (.bool c))) (kr : (E.ti 230).agg = true) (kr : (E.ti 230).size = 256) (qy_1 : (o2).length = 256)) (.cons (mp_scal (g := (fun c : Bool => T.leaf (.bool c))) o2 (fun _ => rfl) : scalL (bos o2) = true) (.cons (by show (List.map (fun c : Bool => T.leaf (.bool c)) o2).length ≤ 256; rw [List.length_map, (qy_1 : (o2).length = 256)]; exact Nat.le_refl _ : (bos o2).length ≤ 256) (.cons (by show 256 ≤ (List.map (fun c : Bool => T.leaf (.bool c)) o2).length; rw [List.length_map, (qy_1 : (o2).length = 256)]; exact Nat.le_refl _ : 256 ≤ (bos o2).length) (.cons (by show 0 + (List.map (fun c : Bool => T.leaf (.bool c)) o2).length ≤ (List.map (fun c : Bool => T.leaf (.bool c)) o2).length; have h1 := (qy_1 : (o2).length = 256); have h2 := (qy_1 : (o2).length = 256); simp only [List.length_map]; omega : 0 + (bos o2).length ≤ (bos o2).length) (.cons (arr_store (g := (fun c : Bool => T.leaf (.bool c))) (l := o2) (x := o2) ((qy_1 : (o2).length = 256).trans (qy_1 : (o2).length = 256).symm)) .nil)))))) ?_
    clear hxl1; intro kxl1 hxl1
    exact Go.lvx 20 [] _ [.agg (sub (bos o2) 0 256), tb true] Tryd.func132 hxl1 rfl kr (.cons (by rw [List.length_map, (qy_1 : (o2).length = 256)]; exact Nat.le_of_ble_eq_true rfl : 0 + 256 ≤ (bos o2).length) .nil) (T.Le.tup (.cons (T.Le.of_eq (congrArg T.agg (arr_all (qy_1 : (o2).length = 256)))) (.cons (T.Le.of_eq rfl) .nil))) rfl (by first | rfl | (simp only [strings_makeASCIISet_enc, T.ids, idsL, er_ids, List.append_nil, List.nil_append]; first | rfl | (rw [mp_ids _ (fun _ => rfl)]; rfl))) .nil
  have Ll1 : ∀ (ml1 : Nat) (i1 : Int) (o1 : List Bool), (0 ≤ i1) → (o1.length = 256) → (((chars.length : Int) - i1).toNat < ml1) → Go E Γ 132 21 [] ((PostX Γ strings_makeASCIISet_enc) (Lo.el (strings_makeASCIISet_l1 chars ml1 i1 o1) (fun z : List Bool => strings_makeASCIISet_k1 z))) kl1 (stL [(0, ts chars), (2, .addr 10 0), (4, ti i1)] [(10, bos o1)]) := by
    intro ml1
    induction ml1 with
    | zero => intro i1 o1 i0l1 i1l1 hml1; exact absurd hml1 (Nat.not_lt_zero _)
    | succ ml1 ihl1 =>
      intro i1 o1 i0l1 i1l1 hml1
      rw [strings_makeASCIISet_l1]
      refine Go.round hl1 ?_
      intro k hk
      refine Go.rx 20 { ws := [(2, { v := some (ti (chars.length : Int)) })] } [] [0, 2, 4, 9] _ [(0, ts chars), (2, .addr 10 0), (4, ti i1), (9, tb (decide (i1 < (chars.length : Int))))] [(10, bos o1)] hk rfl kr (.cons (len_sOf chars) (.cons trivial .nil)) ?_
      clear hk; intro k hk
      refine Go.br 20 (Pf := (fun z : Lo (List Bool) (List Bool × Bool) => (PostX Γ strings_makeASCIISet_enc) (Lo.el z (fun z : List Bool => strings_makeASCIISet_k1 z)))) hk rfl rfl ?_ ?_ <;> clear hk <;> intro ct1 k hk
      · have ct1p := of_decide_eq_true ct1
        refine Go.rx 20 { ws := [(2, { b := [chars.getD i1.toNat 0] })] } [] [0, 2, 4, 5] _ [(0, ts chars), (2, .addr 10 0), (4, ti i1), (5, t8 (chars.getD i1.toNat 0))] [(10, bos o1)] hk rfl kr (.cons (sOf_get (n := i1) chars om) .nil) ?_
        clear hk; intro k hk
        refine Go.rx 20 { ws := [(1, { v := some (tb (decide ((chars.getD i1.toNat 0) ≥ 128))) })] } [] [0, 2, 4, 5, 16] _ [(0, ts chars), (2, .addr 10 0), (4, ti i1), (5, t8 (chars.getD i1.toNat 0)), (16, tb (decide ((chars.getD i1.toNat 0) ≥ 128)))] [(10, bos o1)] hk rfl kr (.cons trivial (.cons (geB8 (chars.getD i1.toNat 0) 128) .nil)) ?_
        clear hk; intro k hk
        refine Go.br 20 (Pf := (fun z : Lo (List Bool) (List Bool × Bool) => (PostX Γ strings_makeASCIISet_enc) (Lo.el z (fun z : List Bool => strings_makeASCIISet_k1 z)))) hk rfl rfl ?_ ?_ <;> clear hk <;> intro ct2 k hk
        · refine Go.rx 20 { ws := [(0, { v := some (.agg (bos o1)) }), (1, { c := some (bos o1), sym := true })] } [] [2, 3] _ [(2, .addr 10 0), (3, tb false)] [(10, bos o1)] hk rfl kr (.cons (mp_whole (g := (fun c : Bool => T.leaf (.bool c))) (kr : (E.ti 230).agg = true) (kr : (E.ti 230).size = 256) (qy_1 : (o1).length = 256)) (.cons (mp_scal (g := (fun c : Bool => T.leaf (.bool c))) o1 (fun _ => rfl) : scalL (bos o1) = true) (.cons (by show (List.map (fun c : Bool => T.leaf (.bool c)) o1).length ≤ 256; rw [List.length_map, (qy_1 : (o1).length = 256)]; exact Nat.le_refl _ : (bos o1).length ≤ 256) (.cons (by show 256 ≤ (List.map (fun c : Bool => T.leaf (.bool c)) o1).length; rw [List.length_map, (qy_1 : (o1).length = 256)]; exact Nat.le_refl _ : 256 ≤ (bos o1).length) (.cons (by show 0 + (List.map (fun c : Bool => T.leaf (.bool c)) o1).length ≤ (List.map (fun c : Bool => T.leaf (.bool c)) o1).length; have h1 := (qy_1 : (o1).length = 256); have h2 := (qy_1 : (o1).length = 256); simp only [List.length_map]; omega : 0 + (bos o1).length ≤ (bos o1).length) (.cons (arr_store (g := (fun c : Bool => T.leaf (.bool c))) (l := o1) (x := o1) ((qy_1 : (o1).length = 256).trans (qy_1 : (o1).length = 256).symm)) .nil)))))) ?_
          clear hk; intro k hk
          exact Go.lvx 20 [] _ [.agg (sub (bos o1) 0 256), tb false] Tryd.func132 hk rfl kr (.cons (by rw [List.length_map, (qy_1 : (o1).length = 256)]; exact Nat.le_of_ble_eq_true rfl : 0 + 256 ≤ (bos o1).length) .nil) (T.Le.tup (.cons (T.Le.of_eq (congrArg T.agg (arr_all (qy_1 : (o1).length = 256)))) (.cons (T.Le.of_eq rfl) .nil))) rfl (by first | rfl | (simp only [strings_makeASCIISet_enc, T.ids, idsL, er_ids, List.append_nil, List.nil_append]; first | rfl | (rw [mp_ids _ (fun _ => rfl)]; rfl))) .nil
        · have := lt8 (chars.getD i1.toNat 0)
          have := lt8 (chars.getD i1.toNat 0)
          refine Go.rx 20 { ws := [(2, { c := some (bos (o1.set (((chars.getD i1.toNat 0).toNat : Int).toNat) true)), sym := true })] } [] [0, 2, 4] _ [(0, ts chars), (2, .addr 10 0), (4, ti i1)] [(10, bos (o1.set (((chars.getD i1.toNat 0).toNat : Int).toNat) true))] hk rfl kr (.cons (om : 0 ≤ (((chars.getD i1.toNat 0).toNat : Int) : Int) ∧ (((chars.getD i1.toNat 0).toNat : Int) : Int) < 256) (.cons (rfl : scalL [tb true] = true) (.cons (by decide : 1 ≤ 1) (.cons (by decide : 1 ≤ 1) (.cons (by simp only [List.length_map]; first | omega | (simp <;> omega) | (simp at * <;> omega) | (split <;> omega) | (split <;> (first | omega | (simp <;> omega) | (simp at * <;> omega))) : 0 + ((chars.getD i1.toNat 0).toNat : Int).toNat * 1 + 1 ≤ (bos o1).length) (.cons (mp_set (g := (fun c : Bool => T.leaf (.bool c))) (k := 0 + ((chars.getD i1.toNat 0).toNat : Int).toNat * 1) (n := ((chars.getD i1.toNat 0).toNat : Int).toNat) (x := true) o1 rfl (by omega) om) .nil)))))) ?_
          clear hk; intro k hk
          refine Go.rx 20 { ws := [(1, { v := some (ti (i1 + 1)) })] } [] [0, 2, 4] _ [(0, ts chars), (2, .addr 10 0), (4, ti (i1 + 1))] [(10, bos (o1.set (((chars.getD i1.toNat 0).toNat : Int).toNat) true))] hk rfl kr (.cons trivial (.cons (iw (i1 + 1) om) .nil)) ?_
          clear hk; intro k hk
          exact Go.join 20 hk hl1 rfl (ihl1 (i1 + 1) (o1.set (((chars.getD i1.toNat 0).toNat : Int).toNat) true) (by first | omega | (simp; done) | (simp; omega)) (by first | omega | (simp; done) | (simp; omega)) om)
      · have ct1p := of_decide_eq_false ct1
        refine Go.keepN [2] (L' := [(2, .addr 10 0)]) rfl ?_
        exact Go.exitX (Pf := (PostX Γ strings_makeASCIISet_enc)) (F := fun z : List Bool => strings_makeASCIISet_k1 z) (a := o1) (Go.join 20 hk hxl1 rfl (Xl1 o1 (by first | omega | assumption)))
  exact Ll1 _ 0 (List.replicate 256 false) (by first | omega | (simp; done)) (by first | omega | (simp; done)) (Nat.lt_succ_self _)
theorem asc_l1 (c : List UInt8) : ∀ (m : Nat) (i : Int) (o : List Bool), ((c.length : Int) - i).toNat < m → o.length = 256 → (Lo.el (strings_makeASCIISet_l1 c m i o) (fun z : List Bool => strings_makeASCIISet_k1 z)).1.length = 256
  | 0, _, _, h, _ => absurd h (Nat.not_lt_zero _)
  | m + 1, i, o, h, ho => by
    rw [strings_makeASCIISet_l1]
    by_cases q : i < (c.length : Int)
    · rw [decide_eq_true q, cond_true]
      cases decide ((c.getD i.toNat 0) ≥ 128) with
      | true => rw [cond_true]; exact ho
      | false => rw [cond_false]; exact asc_l1 c m (i + 1) _ (by omega) (by rw [List.length_set]; exact ho)
    · rw [decide_eq_false q, cond_false]; exact ho
theorem asc_len (c : List UInt8) : (strings_makeASCIISet c).1.length = 256 := by
  rw [strings_makeASCIISet]; exact asc_l1 c _ _ _ (by omega) List.length_replicate
theorem asc_hexa : (strings_makeASCIISet [48, 49, 50, 51, 52, 53, 54, 55, 56, 57, 97, 98, 99, 100, 101, 102]).2 = true := by kernel_rfl
attribute [irreducible] strings_makeASCIISet_k1 strings_makeASCIISet_l1 strings_makeASCIISet
noncomputable def strings_asciiSet_contains (as_ : List Bool) (c : UInt8) : Bool × List Bool :=
  (as_.getD ((c.toNat : Int).toNat) false, as_)
def strings_asciiSet_contains_enc (x : Bool × List Bool) : T × List (Nat × List T) := (tb x.1, [(0, bos x.2)])
theorem strings_asciiSet_contains_m (as_ : List Bool) (c : UInt8) (hl_as_ : as_.length = 256) : Meets Tryd.prog 143 [.addr 0 0, t8 c] [(0, bos as_)] [0] (tb ((strings_asciiSet_contains as_ c).1)) [(0, bos ((strings_asciiSet_contains as_ c).2))] := by
  refine Meets.enterX (E := E) (N := 10) (enc := strings_asciiSet_contains_enc) (x := (strings_asciiSet_contains as_ c)) Tryd.func143 Tryd.call143 rfl rfl ?_
  intro Γ k hk
  refine Go.rx 20 {} [] [0, 1] _ [(0, .addr 0 0), (1, t8 c)] [(0, bos as_)] hk rfl kr .nil ?_
  clear hk; intro k hk
  have := lt8 c
  have := lt8 c
  refine Go.rx 20 { ws := [(4, { v := some (tb (as_.getD ((c.toNat : Int).toNat) false)) })] } [] [4] _ [(4, tb (as_.getD ((c.toNat : Int).toNat) false))] [(0, bos as_)] hk rfl kr (.cons (om : 0 ≤ ((c.toNat : Int) : Int) ∧ ((c.toNat : Int) : Int) < 256) (.cons (part1 (kr : (E.ti 4).agg = false) (mp_get (g := (fun c : Bool => T.leaf (.bool c))) (k := 0 + (c.toNat : Int).toNat * 1) (n := (c.toNat : Int).toNat) as_ false (by omega) om)) .nil)) ?_
  clear hk; intro k hk
  exact Go.lvx 20 [0] _ [tb (as_.getD ((c.toNat : Int).toNat) false)] Tryd.func143 hk rfl kr .nil (T.Le.of_eq rfl) rfl rfl (.cons (by first | rfl | (rw [mp_ids _ (fun _ => rfl)]; rfl)) .nil)
theorem contains_eq (l : List Bool) (c : UInt8) : strings_asciiSet_contains l c = (l.getD c.toNat false, l) := by rw [strings_asciiSet_contains]; rfl
attribute [irreducible] strings_asciiSet_contains
noncomputable def strings_trimLeftASCII_k1 (s2 : List UInt8) (o2 : List Bool) : List UInt8 × List Bool :=
  (s2, o2)
noncomputable def strings_trimLeftASCII_l1  : Nat → (List UInt8) → (List Bool) → Lo (List UInt8 × List Bool) (List UInt8 × List Bool)
  | 0, _, _ => .brk default
  | ml1 + 1, s1, o1 =>
    bif decide ((s1.length : Int) > 0) then
      bnd (strings_asciiSet_contains o1 (s1.getD 0 0)) fun x1 =>
      bif !(x1.1) then
        Lo.brk (s1, x1.2)
      else
        strings_trimLeftASCII_l1 ml1 (slc s1 1 (s1.length : Int)) x1.2
    else
      Lo.brk (s1, o1)
noncomputable def strings_trimLeftASCII (s : List UInt8) (as_ : List Bool) : List UInt8 × List Bool :=
  Lo.el (strings_trimLeftASCII_l1 (s.length + 1) s as_) (fun z : List UInt8 × List Bool => strings_trimLeftASCII_k1 z.1 z.2)
def strings_trimLeftASCII_enc (x : List UInt8 × List Bool) : T × List (Nat × List T) := (ts x.1, [(1, bos x.2)])
theorem strings_trimLeftASCII_m (s : List UInt8) (as_ : List Bool) (hl_as_ : as_.length = 256) : Meets Tryd.prog 133 [ts s, .addr 1 0] [(1, bos as_)] [1] (ts ((strings_trimLeftASCII s as_).1)) [(1, bos ((strings_trimLeftASCII s as_).2))] := by
  refine Meets.enterX (E := E) (N := 16) (enc := strings_trimLeftASCII_enc) (x := (strings_trimLeftASCII s as_)) Tryd.func133 Tryd.call133 rfl rfl ?_
  intro Γ k hk
  refine Go.rx 20 {} [] [0, 1] _ [(0, ts s), (1, .addr 1 0)] [(1, bos as_)] hk rfl kr .nil ?_
  clear hk; intro k hk
  refine Go.loopX 20 hk rfl ?_
  clear hk; intro kl1 kxl1 hl1 hxl1
  have Xl1 : ∀ (s2 : List UInt8) (o2 : List Bool), Go E Γ 133 16 [1] ((PostX Γ strings_trimLeftASCII_enc) (strings_trimLeftASCII_k1 s2 o2)) kxl1 (stL [(0, ts s2)] [(1, bos o2)]) := by
    intro s2 o2
    refine Go.rx 20 {} [] [4] _ [(4, ts s2)] [(1, bos o2)] hxl1 rfl kr .nil ?_
    clear hxl1; intro kxl1 hxl1
    exact Go.lvx 20 [1] _ [ts s2] Tryd.func133 hxl1 rfl kr .nil (T.Le.of_eq rfl) rfl rfl (.cons (by first | rfl | (rw [mp_ids _ (fun _ => rfl)]; rfl)) .nil)
  have Ll1 : ∀ (ml1 : Nat) (s1 : List UInt8) (o1 : List Bool), (o1.length = 256) → (s1.length < ml1) → Go E Γ 133 16 [1] ((PostX Γ strings_trimLeftASCII_enc) (Lo.el (strings_trimLeftASCII_l1 ml1 s1 o1) (fun z : List UInt8 × List Bool => strings_trimLeftASCII_k1 z.1 z.2))) kl1 (stL [(0, ts s1), (1, .addr 1 0)] [(1, bos o1)]) := by
    intro ml1
    induction ml1 with
    | zero => intro s1 o1 i0l1 hml1; exact absurd hml1 (Nat.not_lt_zero _)
    | succ ml1 ihl1 =>
      intro s1 o1 i0l1 hml1
      rw [strings_trimLeftASCII_l1]
      refine Go.round hl1 ?_
      intro k hk
      refine Go.rx 20 { ws := [(1, { v := some (ti (s1.length : Int)) })] } [] [0, 1, 7] _ [(0, ts s1), (1, .addr 1 0), (7, tb (decide ((s1.length : Int) > 0)))] [(1, bos o1)] hk rfl kr (.cons (len_sOf s1) (.cons trivial .nil)) ?_
      clear hk; intro k hk
      refine Go.br 20 (Pf := (fun z : Lo (List UInt8 × List Bool) (List UInt8 × List Bool) => (PostX Γ strings_trimLeftASCII_enc) (Lo.el z (fun z : List UInt8 × List Bool => strings_trimLeftASCII_k1 z.1 z.2)))) hk rfl rfl ?_ ?_ <;> clear hk <;> intro ct1 k hk
      · have ct1p := of_decide_eq_true ct1
        refine Go.rx 20 { ws := [(2, { b := [s1.getD 0 0] }), (3, { call := some { ids := [1], S := [1], M := [], R := tb ((strings_asciiSet_contains o1 (s1.getD 0 0)).1), H' := [(1, bos ((strings_asciiSet_contains o1 (s1.getD 0 0)).2))] } })] } [] [0, 1, 12] _ [(0, ts s1), (1, .addr 1 0), (12, tb (!((strings_asciiSet_contains o1 (s1.getD 0 0)).1)))] [(1, bos ((strings_asciiSet_contains o1 (s1.getD 0 0)).2))] hk rfl kr (.cons (sOf_get (n := 0) s1 om) (.cons (Meets.sw [(0, 1)] (strings_asciiSet_contains_m o1 (s1.getD 0 0) qy_1) : Meets Tryd.prog 143 [.addr 1 0, t8 (s1.getD 0 0)] [(1, bos o1)] [1] (tb ((strings_asciiSet_contains o1 (s1.getD 0 0)).1)) [(1, bos ((strings_asciiSet_contains o1 (s1.getD 0 0)).2))]) (.cons (sb : subN (idsL [.addr 1 0, t8 (s1.getD 0 0)]) [1] = true) (.cons (by rw [(mp_ids (g := (fun c : Bool => T.leaf (.bool c))) o1 (fun _ => rfl))]; rfl : subN (idsL (bos o1)) [1] = true) .nil)))) ?_
        clear hk; intro k hk
        refine Go.bnd (Pf := (fun z : Lo (List UInt8 × List Bool) (List UInt8 × List Bool) => (PostX Γ strings_trimLeftASCII_enc) (Lo.el z (fun z : List UInt8 × List Bool => strings_trimLeftASCII_k1 z.1 z.2)))) (v := (strings_asciiSet_contains o1 (s1.getD 0 0))) (fun x1 => [(0, ts s1), (1, .addr 1 0), (12, tb (!(x1.1)))]) (fun x1 => [(1, bos x1.2)]) ?_
        intro x1 hx1
        have fx1 := contains_eq o1 (s1.getD 0 0)
        rw [← hx1] at fx1
        have gx1 : x1.2 = o1 := by rw [fx1]
        refine Go.br 20 (Pf := (fun z : Lo (List UInt8 × List Bool) (List UInt8 × List Bool) => (PostX Γ strings_trimLeftASCII_enc) (Lo.el z (fun z : List UInt8 × List Bool => strings_trimLeftASCII_k1 z.1 z.2)))) hk rfl rfl ?_ ?_ <;> clear hk <;> intro ct2 k hk
        · have ct2' : x1.1 = false := ntT ct2
          refine Go.keepN [0] (L' := [(0, ts s1)]) rfl ?_
          exact Go.exitX (Pf := (PostX Γ strings_trimLeftASCII_enc)) (F := fun z : List UInt8 × List Bool => strings_trimLeftASCII_k1 z.1 z.2) (a := (s1, x1.2)) (Go.join 20 hk hxl1 rfl (Xl1 s1 x1.2))
        · have ct2' : x1.1 = true := ntF ct2
          refine Go.rx 20 { ws := [(1, { v := some (ts (slc s1 1 (s1.length : Int))) })] } [] [0, 1] _ [(0, ts (slc s1 1 (s1.length : Int))), (1, .addr 1 0)] [(1, bos x1.2)] hk rfl kr (.cons (by simp only [sOf_size]; first | omega | (simp <;> omega) | (simp at * <;> omega) | (split <;> omega) | (split <;> (first | omega | (simp <;> omega) | (simp at * <;> omega))) : 0 ≤ (1 : Int) ∧ (1 : Int) ≤ (((sOf s1).size : Nat) : Int) ∧ (((sOf s1).size : Nat) : Int) ≤ (((sOf s1).size : Nat) : Int) ∧ (((sOf s1).size : Nat) : Int) ≤ (((sOf s1).size : Nat) : Int)) (.cons (s_slc_end (lo := 1) s1 om) .nil)) ?_
          clear hk; intro k hk
          exact Go.join 20 hk hl1 rfl (ihl1 (slc s1 1 (s1.length : Int)) x1.2 (by first | omega | assumption | (simp_all; done)) (by first | omega | (simp [slc]; omega) | (simp [slc] at *; omega)))
      · have ct1p := of_decide_eq_false ct1
        refine Go.keepN [0] (L' := [(0, ts s1)]) rfl ?_
        exact Go.exitX (Pf := (PostX Γ strings_trimLeftASCII_enc)) (F := fun z : List UInt8 × List Bool => strings_trimLeftASCII_k1 z.1 z.2) (a := (s1, o1)) (Go.join 20 hk hxl1 rfl (Xl1 s1 o1))
  exact Ll1 _ s as_ om (Nat.lt_succ_self _)
attribute [irreducible] strings_trimLeftASCII_k1 strings_trimLeftASCII_l1 strings_trimLeftASCII
theorem tlu_m (s c : List UInt8) (h : False) : Meets Tryd.prog 134 [ts s, ts c] [] [] (ts s) [] := h.elim
noncomputable def strings_TrimLeft (s : List UInt8) (cutset : List UInt8) : List UInt8 :=
  bif (s == []) || (cutset == []) then
    s
  else
    bif ((cutset.length : Int) == 1) && (decide ((cutset.getD 0 0) < 128)) then
      bnd (strings_trimLeftByte s (cutset.getD 0 0)) fun x1 =>
      x1
    else
      bnd (strings_makeASCIISet cutset) fun x2 =>
      bif x2.2 then
        bnd (strings_trimLeftASCII s x2.1) fun x3 =>
        x3.1
      else
        bnd ((fun (s _ : List UInt8) => s) s cutset) fun x4 =>
        x4
def strings_TrimLeft_enc (x : List UInt8) : T × List (Nat × List T) := (ts x, [])
set_option maxRecDepth 100000 in
theorem strings_TrimLeft_m (s : List UInt8) (cutset : List UInt8) (hs : cutset.length ≤ 1000) (hc : (strings_makeASCIISet cutset).2 = true) : Meets Tryd.prog 117 [ts s, ts cutset] [] [] (ts (strings_TrimLeft s cutset)) [] := by
  refine Meets.enterX (E := E) (N := 37) (enc := strings_TrimLeft_enc) (x := (strings_TrimLeft s cutset)) Tryd.func117 Tryd.call117 rfl rfl ?_
  intro Γ k hk
  refine Go.rx 20 {} [] [0, 1] _ [(0, ts s), (1, ts cutset)] [] hk rfl kr .nil ?_
  clear hk; intro k hk
  refine Go.regJ 20 [(0, ts s), (1, ts cutset), (12, tb ((s == []) || (cutset == [])))] [] hk rfl ?_ ?_
  · clear hk; intro k hk
    refine Go.br 20 (Pf := (PostX Γ strings_TrimLeft_enc)) hk rfl rfl ?_ ?_ <;> clear hk <;> intro ct1 k hk
    · refine Go.rx 20 {} [] [4] _ [(4, ts s)] [] hk rfl kr .nil ?_
      clear hk; intro k hk
      exact Go.lvx 20 [] _ [ts s] Tryd.func117 hk rfl kr .nil (T.Le.of_eq rfl) rfl rfl .nil
    · have ct11 : (s == []) = false := (Bool.or_eq_false_iff.1 ct1).1
      have ct12 : (cutset == []) = false := (Bool.or_eq_false_iff.1 ct1).2
      refine Go.regJ 20 [(0, ts s), (1, ts cutset), (21, tb (((cutset.length : Int) == 1) && (decide ((cutset.getD 0 0) < 128))))] [] hk rfl ?_ ?_
      · clear hk; intro k hk
        refine Go.br 20 (Pf := (PostX Γ strings_TrimLeft_enc)) hk rfl rfl ?_ ?_ <;> clear hk <;> intro ct2 k hk
        · have ct21 : ((cutset.length : Int) == 1) = true := (Bool.and_eq_true_iff.1 ct2).1
          have ct22 : (decide ((cutset.getD 0 0) < 128)) = true := (Bool.and_eq_true_iff.1 ct2).2
          have ct21p := eqIt ct21
          refine Go.rx 20 { ws := [(2, { b := [cutset.getD 0 0] }), (3, { call := some { ids := [], S := [], M := [], R := ts (strings_trimLeftByte s (cutset.getD 0 0)), H' := [] } })] } [] [4] _ [(4, ts (strings_trimLeftByte s (cutset.getD 0 0)))] [] hk rfl kr (.cons (sOf_get (n := 0) cutset om) (.cons (strings_trimLeftByte_m s (cutset.getD 0 0)) (.cons (sb : subN (idsL [ts s, t8 (cutset.getD 0 0)]) [] = true) .nil))) ?_
          clear hk; intro k hk
          refine Go.bnd (Pf := (PostX Γ strings_TrimLeft_enc)) (v := (strings_trimLeftByte s (cutset.getD 0 0))) (fun x1 => [(4, ts x1)]) (fun x1 => []) ?_
          intro x1 hx1
          exact Go.lvx 20 [] _ [ts x1] Tryd.func117 hk rfl kr .nil (T.Le.of_eq rfl) rfl rfl .nil
        · refine Go.rx 20 { ws := [(1, { call := some { ids := [], S := [], M := [], R := .tup [.agg (bos ((strings_makeASCIISet cutset).1)), tb ((strings_makeASCIISet cutset).2)], H' := [] } }), (5, { id := 10 }), (6, { c := some (bos ((strings_makeASCIISet cutset).1)), sym := true })] } [] [0, 1, 5, 6] _ [(0, ts s), (1, ts cutset), (5, .addr 10 0), (6, tb ((strings_makeASCIISet cutset).2))] [(10, bos ((strings_makeASCIISet cutset).1))] hk rfl kr (.cons (strings_makeASCIISet_m cutset om) (.cons (sb : subN (idsL [ts cutset]) [] = true) (.cons (mp_scal ((strings_makeASCIISet cutset).1) (fun _ => rfl) : scalL (bos ((strings_makeASCIISet cutset).1)) = true) (.cons (by rw [List.length_map, (qy_2 : ((strings_makeASCIISet cutset).1).length = 256)]; decide : (bos ((strings_makeASCIISet cutset).1)).length ≤ 256) (.cons (by rw [List.length_map, (qy_2 : ((strings_makeASCIISet cutset).1).length = 256)]; decide : 256 ≤ (bos ((strings_makeASCIISet cutset).1)).length) (.cons (by rw [List.length_map, (qy_2 : ((strings_makeASCIISet cutset).1).length = 256)]; exact Nat.le_of_ble_eq_true rfl : 0 + (bos ((strings_makeASCIISet cutset).1)).length ≤ ((List.replicate 256 (tb false)) : List T).length) (.cons (splice_whole (cs := (List.replicate 256 (tb false))) (v := bos ((strings_makeASCIISet cutset).1)) (by rw [List.length_map, (qy_2 : ((strings_makeASCIISet cutset).1).length = 256)]; rfl)) .nil))))))) ?_
          clear hk; intro k hk
          refine Go.bnd (Pf := (PostX Γ strings_TrimLeft_enc)) (v := (strings_makeASCIISet cutset)) (fun x2 => [(0, ts s), (1, ts cutset), (5, .addr 10 0), (6, tb x2.2)]) (fun x2 => [(10, bos x2.1)]) ?_
          intro x2 hx2
          have fx2 : x2.2 = true := by rw [hx2]; exact hc
          have gx2 : x2.1.length = 256 := by rw [hx2]; exact asc_len _
          refine Go.rx 20 {} [] [0, 1, 5, 31] _ [(0, ts s), (1, ts cutset), (5, .addr 10 0), (31, tb x2.2)] [(10, bos x2.1)] hk rfl kr .nil ?_
          clear hk; intro k hk
          refine Go.br 20 (Pf := (PostX Γ strings_TrimLeft_enc)) hk rfl rfl ?_ ?_ <;> clear hk <;> intro ct3 k hk
          · refine Go.rx 20 { ws := [(1, { call := some { ids := [10], S := [10], M := [], R := ts ((strings_trimLeftASCII s x2.1).1), H' := [(10, bos ((strings_trimLeftASCII s x2.1).2))] } })] } [10] [4] _ [(4, ts ((strings_trimLeftASCII s x2.1).1))] [] hk rfl kr (.cons (Meets.sw [(1, 10)] (strings_trimLeftASCII_m s x2.1 qy_1) : Meets Tryd.prog 133 [ts s, .addr 10 0] [(10, bos x2.1)] [10] (ts ((strings_trimLeftASCII s x2.1).1)) [(10, bos ((strings_trimLeftASCII s x2.1).2))]) (.cons (sb : subN (idsL [ts s, .addr 10 0]) [10] = true) (.cons (by rw [(mp_ids (g := (fun c : Bool => T.leaf (.bool c))) x2.1 (fun _ => rfl))]; rfl : subN (idsL (bos x2.1)) [10] = true) .nil))) ?_
            clear hk; intro k hk
            refine Go.bnd (Pf := (PostX Γ strings_TrimLeft_enc)) (v := (strings_trimLeftASCII s x2.1)) (fun x3 => [(4, ts x3.1)]) (fun x3 => []) ?_
            intro x3 hx3
            exact Go.lvx 20 [] _ [ts x3.1] Tryd.func117 hk rfl kr .nil (T.Le.of_eq rfl) rfl rfl .nil
          · refine Go.rx 20 { ws := [(2, { call := some { ids := [], S := [], M := [], R := ts ((fun (s _ : List UInt8) => s) s cutset), H' := [] } })] } [10] [4] _ [(4, ts ((fun (s _ : List UInt8) => s) s cutset))] [] hk rfl kr (.cons (tlu_m s cutset (by simp_all)) (.cons (sb : subN (idsL [ts s, ts cutset]) [] = true) .nil)) ?_
            clear hk; intro k hk
            refine Go.bnd (Pf := (PostX Γ strings_TrimLeft_enc)) (v := ((fun (s _ : List UInt8) => s) s cutset)) (fun x4 => [(4, ts x4)]) (fun x4 => []) ?_
            intro x4 hx4
            exact Go.lvx 20 [] _ [ts x4] Tryd.func117 hk rfl kr .nil (T.Le.of_eq rfl) rfl rfl .nil
      · intro hk J
        rcases Bool.eq_false_or_eq_true ((cutset.length : Int) == 1) with gd2 | gd2
        · have gd2p := eqIt gd2
          refine Go.rx 20 { ws := [(1, { v := some (ti (cutset.length : Int)) }), (2, { v := some (tb true) }), (5, { b := [cutset.getD 0 0] }), (6, { v := some (tb (decide ((cutset.getD 0 0) < 128))) })] } [] [0, 1, 21] _ [(0, ts s), (1, ts cutset), (21, tb (decide ((cutset.getD 0 0) < 128)))] [] hk rfl kr (.cons (len_sOf cutset) (.cons trivial (.cons (eb gd2) (.cons (sOf_get (n := 0) cutset om) (.cons trivial (.cons (ltB8 (cutset.getD 0 0) 128) .nil)))))) ?_
          intro k' hk'
          refine Go.slotEq 21 (tb (((cutset.length : Int) == 1) && (decide ((cutset.getD 0 0) < 128)))) rfl (eb (andT gd2 rfl).symm) ?_
          exact J k' hk'
        · have gd2p := eqIf gd2
          refine Go.rx 20 { ws := [(1, { v := some (ti (cutset.length : Int)) }), (2, { v := some (tb false) })] } [] [0, 1, 21] _ [(0, ts s), (1, ts cutset), (21, tb false)] [] hk rfl kr (.cons (len_sOf cutset) (.cons trivial (.cons (eb gd2) .nil))) ?_
          intro k' hk'
          refine Go.slotEq 21 (tb (((cutset.length : Int) == 1) && (decide ((cutset.getD 0 0) < 128)))) rfl (eb (andF gd2).symm) ?_
          exact J k' hk'
  · intro hk J
    rcases Bool.eq_false_or_eq_true (s == []) with gd1 | gd1
    · refine Go.rx 20 { ws := [(1, { v := some (tb true) })] } [] [0, 1, 12] _ [(0, ts s), (1, ts cutset), (12, tb true)] [] hk rfl kr (.cons trivial (.cons ((s_eq s []).trans (eb gd1)) .nil)) ?_
      intro k' hk'
      refine Go.slotEq 12 (tb ((s == []) || (cutset == []))) rfl (eb (orT gd1).symm) ?_
      exact J k' hk'
    · refine Go.rx 20 { ws := [(1, { v := some (tb false) }), (4, { v := some (tb (cutset == [])) })] } [] [0, 1, 12] _ [(0, ts s), (1, ts cutset), (12, tb (cutset == []))] [] hk rfl kr (.cons trivial (.cons ((s_eq s []).trans (eb gd1)) (.cons trivial (.cons (s_eq cutset []) .nil)))) ?_
      intro k' hk'
      refine Go.slotEq 12 (tb ((s == []) || (cutset == []))) rfl (eb (orF gd1 rfl).symm) ?_
      exact J k' hk'
attribute [irreducible] strings_TrimLeft
end Go.Proofs.YtbppcnhfeobefaaDoor

import Derived.Test.YtdlnppcndcfikaaDoorG2
set_option linter.unusedVariables false
set_option linter.unusedSimpArgs false
namespace Go.Proofs.YtdlnppcndcfikaaDoor
open Go Go.Vw Go.Proofs
abbrev qg3_1 : List T := [t64 0, t8 0, t8 0, t8 0, t8 0, t8 0, t8 0, t8 0, t8 0, t8 0, t8 0, t8 0, t8 0, t8 0, t8 0, t8 0, t8 0, t8 0, t8 0, t8 0, t8 0, t8 0, t8 0, t8 0, t8 0, t8 0, t8 0, t8 0, t8 0, t8 0, t8 0, t8 0, t8 0]
noncomputable def bursaryref34_Next (key : List UInt8) (h0 : UInt64) (h1 : List UInt8) (entry : List UInt8) : (UInt64 × List UInt8) × Int :=
  bif h0 == 18446744073709551615 then
    ((0, List.replicate 32 (0 : UInt8)), 19)
  else
    bnd (bursaryref06_Mac key (fxa 32 h1 ++ entry)) fun x1 =>
    ((h0 + 1, x1), 0)
def bursaryref34_Next_enc (x : (UInt64 × List UInt8) × Int) : T × List (Nat × List T) := (.tup [.agg (hD x.1), ti x.2], [])
theorem bursaryref34_Next_m {g_key : Tag} {g_entry : Tag} (key : List UInt8) (h0 : UInt64) (h1 : List UInt8) (entry : List UInt8) (hl : key.length ≤ 1000000000) (he : entry.length ≤ 800000000) : Meets Tryd.prog 20 [.sl 1 g_key key.length (u8s key), .agg ([t64 h0] ++ u8s (fxa 32 h1)), .sl 1 g_entry entry.length (u8s entry)] [] [] (.tup [.agg (hD ((bursaryref34_Next key h0 h1 entry).1)), ti ((bursaryref34_Next key h0 h1 entry).2)]) [] := by
  refine Meets.enterX (E := E) (N := 26) (enc := bursaryref34_Next_enc) (x := (bursaryref34_Next key h0 h1 entry)) Tryd.func20 Tryd.call20 rfl rfl ?_
  intro Γ k hk
  refine Go.rx 20 { ws := [(0, { id := 10 }), (1, { id := 11 })] } [] [0, 2, 4, 6] _ [(0, .sl 1 g_key key.length (u8s key)), (2, .sl 1 g_entry entry.length (u8s entry)), (4, .addr 10 0), (6, .addr 11 0)] [(10, ([t64 h0] ++ u8s (fxa 32 h1))), (11, qg3_1)] hk rfl kr .nil ?_
  clear hk; intro k hk
  refine Go.rx 20 { ws := [(2, { v := some (tb (h0 == 18446744073709551615)) })] } [] [0, 2, 4, 6, 11] _ [(0, .sl 1 g_key key.length (u8s key)), (2, .sl 1 g_entry entry.length (u8s entry)), (4, .addr 10 0), (6, .addr 11 0), (11, tb (h0 == 18446744073709551615))] [(10, ([t64 h0] ++ u8s (fxa 32 h1))), (11, qg3_1)] hk rfl kr (.cons trivial (.cons (eqB64 h0 18446744073709551615) .nil)) ?_
  clear hk; intro k hk
  refine Go.br 20 (Pf := (PostX Γ bursaryref34_Next_enc)) hk rfl rfl ?_ ?_ <;> clear hk <;> intro ct1 k hk
  · refine Go.rx 20 {} [10] [6, 7] _ [(6, .addr 11 0), (7, ti 19)] [(11, qg3_1)] hk rfl kr .nil ?_
    clear hk; intro k hk
    exact Go.lvx 20 [] _ [.agg qg3_1, ti 19] Tryd.func20 hk rfl kr (.cons (by decide : 0 + 33 ≤ 33) .nil) (T.Le.tup (.cons (T.Le.of_eq rfl) (.cons (T.Le.of_eq rfl) .nil))) rfl rfl .nil
  · refine Go.rx 20 {} [] [0, 2, 4, 6, 8] _ [(0, .sl 1 g_key key.length (u8s key)), (2, .sl 1 g_entry entry.length (u8s entry)), (4, .addr 10 0), (6, .addr 11 0), (8, .leaf (.slice none 0 0))] [(10, ([t64 h0] ++ u8s (fxa 32 h1))), (11, qg3_1)] hk rfl kr .nil ?_
    clear hk; intro k hk
    refine Go.rx 20 { ws := [(2, { v := some (.ref 10 1 1 32) }), (3, { id := 12 }), (5, { v := some (.ref 12 1 0 ((fxa 32 h1 ++ entry).length)), c := some (u8s (fxa 32 h1 ++ entry)), id := 12, sym := true })], fd := some [12] } [] [0, 4, 6, 8] _ [(0, .sl 1 g_key key.length (u8s key)), (4, .addr 10 0), (6, .addr 11 0), (8, .ref 12 1 0 ((fxa 32 h1 ++ entry).length))] [(10, ([t64 h0] ++ u8s (fxa 32 h1))), (11, qg3_1), (12, u8s (fxa 32 h1 ++ entry))] hk rfl kr (.cons (by decide : 0 ≤ (0 : Int) ∧ (0 : Int) ≤ ((32 : Nat) : Int) ∧ ((32 : Nat) : Int) ≤ ((32 : Nat) : Int) ∧ ((32 : Nat) : Int) ≤ ((32 : Nat) : Int)) (.cons (rfl : T.ref 10 1 (1 + (0 : Int).toNat * 1) ((((32 : Nat) : Int)).toNat - (0 : Int).toNat) = .ref 10 1 1 32) (.cons (by decide : 32 * 1 ≤ 140737488355328) (.cons (by first | decide | simp : 0 + 32 * 1 ≤ (((u8s (fxa 32 h1)) : List T)).length) (.cons (mp_scal entry (fun _ => rfl) : scalL (u8s entry) = true) (.cons (om : (32 + entry.length) * 1 ≤ 140737488355328) (.cons (mp_app' (g := (fun c : UInt8 => T.leaf (.int .u8 c.toNat))) (m := 32) (fxa 32 h1) entry rfl rfl) (.cons (mp_mem (i := 12) (g := (fun c : UInt8 => T.leaf (.int .u8 c.toNat))) (fxa 32 h1 ++ entry) (fun _ => rfl)) (.cons (by first | rfl | (simp; done) | (refine congrArg (fun q => T.ref 12 1 0 q) ?_; simp <;> omega) : T.ref 12 1 0 (32 + entry.length) = .ref 12 1 0 ((fxa 32 h1 ++ entry).length)) .nil))))))))) ?_
    clear hk; intro k hk
    refine Go.dx 20 [0, 1, 2, 3, 4, 5, 6, 7, 8] { ws := [(2, { v := some (t64 (h0 + 1)) }), (5, { call := some { ids := [], S := [], M := [12], R := .agg (u8s (fxa 32 (bursaryref06_Mac key (fxa 32 h1 ++ entry)))), H' := [] } })], pg := [12] } [10, 12] [6, 7] _ [(6, .addr 11 0), (7, ti 0)] [(11, ([t64 (h0 + 1)] ++ (u8s (fxa 32 (bursaryref06_Mac key (fxa 32 h1 ++ entry))))))] hk rfl kr (.cons trivial (.cons (add64 h0 1) (.cons (Meets.fx 32 (Meets.eqA (A := [.sl 1 g_key key.length (u8s key), .sl 1 .brw ((fxa 32 h1 ++ entry).length) (sub (u8s (fxa 32 h1 ++ entry)) 0 (((fxa 32 h1 ++ entry).length) * 1))]) (by first | rfl | (simp only [mp_all]; done) | (simp only [mp_all]; rfl) | simp only [fl_all (fun _ => rfl)]) (bursaryref06_Mac_m (g_key := g_key) (g_b := .brw) key (fxa 32 h1 ++ entry) (by first | omega | (simp; done) | (simp; omega)) (by first | omega | (simp; done) | (rw [summed_len]; omega) | (rw [concat_eq]; simp only [List.flatten_cons, List.flatten_nil, List.append_nil, List.length_append, List.length_cons, List.length_nil]; omega) | (simp only [List.length_append, fxa_len]; omega) | (simp; omega)))) (by first | (simp; done) | (with_reducible assumption) | omega | (simp <;> omega) | rfl)) (.cons (mp_ids (g := (fun c : UInt8 => T.leaf (.int .u8 c.toNat))) (fxa 32 h1 ++ entry) (fun _ => rfl)) (.cons (by simp only [List.length_map]; first | omega | (simp <;> omega) | (simp at * <;> omega) | (split <;> omega) | (split <;> (first | omega | (simp <;> omega) | (simp at * <;> omega))) : 0 + ((fxa 32 h1 ++ entry).length) * 1 ≤ (u8s (fxa 32 h1 ++ entry)).length) (.cons (sb : subN (idsL [.sl 1 g_key key.length (u8s key), .sl 1 .brw ((fxa 32 h1 ++ entry).length) (sub (u8s (fxa 32 h1 ++ entry)) 0 (((fxa 32 h1 ++ entry).length) * 1))]) [] = true) (.cons (nb : T.noB (.agg (u8s (fxa 32 (bursaryref06_Mac key (fxa 32 h1 ++ entry))))) = true) (.cons (mp_mem (i := 10) (g := (fun c : UInt8 => T.leaf (.int .u8 c.toNat))) (fxa 32 h1 ++ entry) (fun _ => rfl)) .nil)))))))) ?_
    clear hk; intro k hk
    refine Go.bnd (Pf := (PostX Γ bursaryref34_Next_enc)) (v := (bursaryref06_Mac key (fxa 32 h1 ++ entry))) (fun x1 => [(6, .addr 11 0), (7, ti 0)]) (fun x1 => [(11, ([t64 (h0 + 1)] ++ u8s (fxa 32 x1)))]) ?_
    intro x1 hx1
    have fx1 := rmac_len key (fxa 32 h1 ++ entry)
    rw [← hx1] at fx1
    exact Go.lvx 20 [] _ [.agg ([t64 (h0 + 1)] ++ u8s (fxa 32 x1)), ti 0] Tryd.func20 hk rfl kr (.cons (by decide : 0 + 33 ≤ 33) .nil) (T.Le.tup (.cons (T.Le.of_eq rfl) (.cons (T.Le.of_eq rfl) .nil))) rfl rfl .nil
attribute [irreducible] bursaryref34_Next
noncomputable def bursaryref34_Of_k1 (d2 : hDT) : (UInt64 × List UInt8) :=
  (d2.1, d2.2)
noncomputable def bursaryref34_Of_l1 (key : List UInt8) (l : List (List UInt8)) : Nat → Int → hDT → Lo hDT (UInt64 × List UInt8)
  | 0, _, _ => .brk default
  | ml1 + 1, i1, d1 =>
    bif decide (i1 < (l.length : Int)) then
      bnd (bursaryref34_Next key d1.1 d1.2 (l.getD i1.toNat [])) fun x1 =>
      bursaryref34_Of_l1 key l ml1 (i1 + 1) x1.1
    else
      Lo.brk d1
noncomputable def bursaryref34_Of (key : List UInt8) (l : List (List UInt8)) : (UInt64 × List UInt8) :=
  Lo.el (bursaryref34_Of_l1 key l (((l.length : Int) - (0 : Int)).toNat + 1) 0 (0, List.replicate 32 (0 : UInt8))) (fun z : hDT => bursaryref34_Of_k1 z)
def bursaryref34_Of_enc (x : (UInt64 × List UInt8)) : T × List (Nat × List T) := (.agg (hD x), [])
theorem bursaryref34_Of_m {g_key : Tag} {g_l : Tag} (key : List UInt8) (l : List (List UInt8)) (hl : key.length ≤ 1000000000) (hq : ∀ i : Nat, (l.getD i []).length ≤ 800000000) (hn : l.length ≤ 1000000) : Meets Tryd.prog 21 [.sl 1 g_key key.length (u8s key), .sl 1 g_l l.length (b8s .shr l)] [] [] (.agg (hD (bursaryref34_Of key l))) [] := by
  refine Meets.enterX (E := E) (N := 25) (enc := bursaryref34_Of_enc) (x := (bursaryref34_Of key l)) Tryd.func21 Tryd.call21 rfl rfl ?_
  intro Γ k hk
  refine Go.rx 20 { ws := [(0, { id := 10 })] } [] [0, 1, 4] _ [(0, .sl 1 g_key key.length (u8s key)), (1, .sl 1 g_l l.length (b8s .shr l)), (4, .addr 10 0)] [(10, qg3_1)] hk rfl kr .nil ?_
  clear hk; intro k hk
  refine Go.rx 20 { ws := [(1, { id := 11 })] } [] [0, 1, 4, 5] _ [(0, .sl 1 g_key key.length (u8s key)), (1, .sl 1 g_l l.length (b8s .shr l)), (4, .addr 10 0), (5, .addr 11 0)] [(10, qg3_1), (11, qg3_1)] hk rfl kr .nil ?_
  clear hk; intro k hk
  refine Go.rx 20 {} [] [0, 1, 4, 5, 6] _ [(0, .sl 1 g_key key.length (u8s key)), (1, .sl 1 g_l l.length (b8s .shr l)), (4, .addr 10 0), (5, .addr 11 0), (6, ti 0)] [(10, qg3_1), (11, qg3_1)] hk rfl kr .nil ?_
  clear hk; intro k hk
  refine Go.loopX 20 hk rfl ?_
  clear hk; intro kl1 kxl1 hl1 hxl1
  have Xl1 : ∀ (d2 : hDT), Go E Γ 21 25 [] ((PostX Γ bursaryref34_Of_enc) (bursaryref34_Of_k1 d2)) kxl1 (stL [(4, .addr 10 0), (5, .addr 11 0)] [(10, qg3_1), (11, (hD d2))]) := by
    intro d2
    refine Go.rx 20 {} [11] [4] _ [(4, .addr 10 0)] [(10, (hD d2))] hxl1 rfl kr .nil ?_
    clear hxl1; intro kxl1 hxl1
    exact Go.lvx 20 [] _ [.agg (hD d2)] Tryd.func21 hxl1 rfl kr (.cons (by decide : 0 + 33 ≤ 33) .nil) (T.Le.of_eq rfl) rfl rfl .nil
  have Ll1 : ∀ (ml1 : Nat) (i1 : Int) (d1 : hDT), (0 ≤ i1) → (((l.length : Int) - i1).toNat < ml1) → Go E Γ 21 25 [] ((PostX Γ bursaryref34_Of_enc) (Lo.el (bursaryref34_Of_l1 key l ml1 i1 d1) (fun z : hDT => bursaryref34_Of_k1 z))) kl1 (stL [(0, .sl 1 g_key key.length (u8s key)), (1, .sl 1 g_l l.length (b8s .shr l)), (4, .addr 10 0), (5, .addr 11 0), (6, ti i1)] [(10, qg3_1), (11, (hD d1))]) := by
    intro ml1
    induction ml1 with
    | zero => intro i1 d1 i0l1 hml1; exact absurd hml1 (Nat.not_lt_zero _)
    | succ ml1 ihl1 =>
      intro i1 d1 i0l1 hml1
      rw [bursaryref34_Of_l1]
      refine Go.round hl1 ?_
      intro k hk
      have hz := hq i1.toNat
      refine Go.rx 20 {} [] [0, 1, 4, 5, 6, 11] _ [(0, .sl 1 g_key key.length (u8s key)), (1, .sl 1 g_l l.length (b8s .shr l)), (4, .addr 10 0), (5, .addr 11 0), (6, ti i1), (11, tb (decide (i1 < (l.length : Int))))] [(10, qg3_1), (11, (hD d1))] hk rfl kr (.cons trivial .nil) ?_
      clear hk; intro k hk
      refine Go.br 20 (Pf := (fun z : Lo (hDT) ((UInt64 × List UInt8)) => (PostX Γ bursaryref34_Of_enc) (Lo.el z (fun z : hDT => bursaryref34_Of_k1 z)))) hk rfl rfl ?_ ?_ <;> clear hk <;> intro ct1 k hk
      · have ct1p := of_decide_eq_true ct1
        refine Go.dx 20 [0, 1, 2, 3, 4, 5, 6, 7, 8, 10, 9] { ws := [(5, { v := some (.sl 1 .shr (l.getD i1.toNat []).length (u8s (l.getD i1.toNat []))) }), (6, { call := some { ids := [], S := [], M := [], R := .tup [.agg (hD ((bursaryref34_Next key d1.1 d1.2 (l.getD i1.toNat [])).1)), ti ((bursaryref34_Next key d1.1 d1.2 (l.getD i1.toNat [])).2)], H' := [] } })] } [] [0, 1, 4, 5, 6] _ [(0, .sl 1 g_key key.length (u8s key)), (1, .sl 1 g_l l.length (b8s .shr l)), (4, .addr 10 0), (5, .addr 11 0), (6, ti i1)] [(10, qg3_1), (11, (hD ((bursaryref34_Next key d1.1 d1.2 (l.getD i1.toNat [])).1)))] hk rfl kr (.cons (om : 0 ≤ (i1 : Int) ∧ (i1 : Int) < ((l.length : Nat) : Int)) (.cons (part1 (kr : (E.ti 22).agg = false) (mp_get (g := (fun c : List UInt8 => tl .shr c)) (k := i1.toNat * 1) (n := i1.toNat) l [] (by omega) om)) (.cons (bursaryref34_Next_m (g_key := g_key) (g_entry := .shr) key d1.1 d1.2 (l.getD i1.toNat []) (by first | omega | (simp; done) | (simp; omega)) (by first | omega | (simp; done) | exact Nat.le_trans ((fx1 ct121).2 _) (by decide))) (.cons (sb : subN (idsL [.sl 1 g_key key.length (u8s key), .agg (hD d1), .sl 1 .shr (l.getD i1.toNat []).length (u8s (l.getD i1.toNat []))]) [] = true) .nil)))) ?_
        clear hk; intro k hk
        refine Go.bnd (Pf := (fun z : Lo (hDT) ((UInt64 × List UInt8)) => (PostX Γ bursaryref34_Of_enc) (Lo.el z (fun z : hDT => bursaryref34_Of_k1 z)))) (v := (bursaryref34_Next key d1.1 d1.2 (l.getD i1.toNat []))) (fun x1 => [(0, .sl 1 g_key key.length (u8s key)), (1, .sl 1 g_l l.length (b8s .shr l)), (4, .addr 10 0), (5, .addr 11 0), (6, ti i1)]) (fun x1 => [(10, qg3_1), (11, (hD x1.1))]) ?_
        intro x1 hx1
        refine Go.rx 20 { ws := [(1, { v := some (ti (i1 + 1)) })] } [] [0, 1, 4, 5, 6] _ [(0, .sl 1 g_key key.length (u8s key)), (1, .sl 1 g_l l.length (b8s .shr l)), (4, .addr 10 0), (5, .addr 11 0), (6, ti (i1 + 1))] [(10, qg3_1), (11, (hD x1.1))] hk rfl kr (.cons trivial (.cons (iw (i1 + 1) om) .nil)) ?_
        clear hk; intro k hk
        exact Go.join 20 hk hl1 rfl (ihl1 (i1 + 1) x1.1 om om)
      · have ct1p := of_decide_eq_false ct1
        refine Go.keepN [4, 5] (L' := [(4, .addr 10 0), (5, .addr 11 0)]) rfl ?_
        exact Go.exitX (Pf := (PostX Γ bursaryref34_Of_enc)) (F := fun z : hDT => bursaryref34_Of_k1 z) (a := d1) (Go.join 20 hk hxl1 rfl (Xl1 d1))
  exact Ll1 _ 0 (0, List.replicate 32 (0 : UInt8)) om (Nat.lt_succ_self _)
attribute [irreducible] bursaryref34_Of_k1 bursaryref34_Of_l1 bursaryref34_Of
noncomputable def bursaryref34_Encode (h0 : UInt64) (h1 : List UInt8) : List UInt8 :=
  bnd (bursaryref31_Number h0) fun x1 =>
  (x1 ++ (fxa 32 h1))
def bursaryref34_Encode_enc (x : List UInt8) : T × List (Nat × List T) := (.sl 1 .shr x.length (u8s x), [])
theorem bursaryref34_Encode_m (h0 : UInt64) (h1 : List UInt8) : Meets Tryd.prog 28 [.agg ([t64 h0] ++ u8s (fxa 32 h1))] [] [] (.sl 1 .shr (bursaryref34_Encode h0 h1).length (u8s (bursaryref34_Encode h0 h1))) [] := by
  refine Meets.enterX (E := E) (N := 11) (enc := bursaryref34_Encode_enc) (x := (bursaryref34_Encode h0 h1)) Tryd.func28 Tryd.call28 rfl rfl ?_
  intro Γ k hk
  refine Go.rx 20 { ws := [(0, { id := 10 })] } [] [1] _ [(1, .addr 10 0)] [(10, ([t64 h0] ++ u8s (fxa 32 h1)))] hk rfl kr .nil ?_
  clear hk; intro k hk
  refine Go.rx 20 { ws := [(2, { call := some { ids := [], S := [], M := [], R := .ref 11 1 0 ((bursaryref31_Number h0).length), H' := [(11, u8s (bursaryref31_Number h0))] } })] } [] [1, 3] _ [(1, .addr 10 0), (3, .ref 11 1 0 ((bursaryref31_Number h0).length))] [(10, ([t64 h0] ++ u8s (fxa 32 h1))), (11, u8s (bursaryref31_Number h0))] hk rfl kr (.cons (Meets.sw [(99, 11)] (bursaryref31_Number_m h0) : Meets Tryd.prog 40 [t64 h0] [] [] (.ref 11 1 0 ((bursaryref31_Number h0).length)) [(11, u8s (bursaryref31_Number h0))]) (.cons (sb : subN (idsL [t64 h0]) [] = true) .nil)) ?_
  clear hk; intro k hk
  refine Go.bnd (Pf := (PostX Γ bursaryref34_Encode_enc)) (v := (bursaryref31_Number h0)) (fun x1 => [(1, .addr 10 0), (3, .ref 11 1 0 x1.length)]) (fun x1 => [(10, ([t64 h0] ++ u8s (fxa 32 h1))), (11, u8s x1)]) ?_
  intro x1 hx1
  have fx1 := rnumber_len h0
  rw [← hx1] at fx1
  refine Go.rx 20 { ws := [(2, { v := some (.ref 10 1 1 32) }), (3, { v := some (.ref 11 1 0 ((x1 ++ (fxa 32 h1)).length)), c := some (u8s (x1 ++ (fxa 32 h1))), id := 11, sym := true })], pg := [11], fd := some [11] } [10] [2] _ [(2, .ref 11 1 0 ((x1 ++ (fxa 32 h1)).length))] [(11, u8s (x1 ++ (fxa 32 h1)))] hk rfl kr (.cons (by decide : 0 ≤ (0 : Int) ∧ (0 : Int) ≤ ((32 : Nat) : Int) ∧ ((32 : Nat) : Int) ≤ ((32 : Nat) : Int) ∧ ((32 : Nat) : Int) ≤ ((32 : Nat) : Int)) (.cons (rfl : T.ref 10 1 (1 + (0 : Int).toNat * 1) ((((32 : Nat) : Int)).toNat - (0 : Int).toNat) = .ref 10 1 1 32) (.cons (Nat.le_of_ble_eq_true rfl : 1 + 32 * 1 ≤ (([t64 h0] ++ u8s (fxa 32 h1)) : List T).length) (.cons (by simp only [List.length_map]; omega : 0 + x1.length * 1 ≤ (u8s x1).length) (.cons (rfl : scalL (u8s (fxa 32 h1)) = true) (.cons (om : (x1.length + 32) * 1 ≤ 140737488355328) (.cons (mp_app (g := (fun c : UInt8 => T.leaf (.int .u8 c.toNat))) (x1) (fxa 32 h1) rfl) (.cons (mp_mem (i := 11) (g := (fun c : UInt8 => T.leaf (.int .u8 c.toNat))) (x1 ++ (fxa 32 h1)) (fun _ => rfl)) (.cons (by first | rfl | (simp; done) | (refine congrArg (fun q => T.ref 11 1 0 q) ?_; simp <;> omega) : T.ref 11 1 0 (x1.length + 32) = .ref 11 1 0 ((x1 ++ (fxa 32 h1)).length)) (.cons (mp_mem (i := 10) (g := (fun c : UInt8 => T.leaf (.int .u8 c.toNat))) (x1 ++ (fxa 32 h1)) (fun _ => rfl)) .nil)))))))))) ?_
  clear hk; intro k hk
  refine Go.frz [] [] 2 11 (u8s (x1 ++ (fxa 32 h1))) _ [(2, .dead)] [] rfl rfl (mp_ids (g := (fun c : UInt8 => T.leaf (.int .u8 c.toNat))) (x1 ++ (fxa 32 h1)) (fun _ => rfl)) (by simp only [List.length_map]; omega) (mp_all (g := (fun c : UInt8 => T.leaf (.int .u8 c.toNat))) (x1 ++ (fxa 32 h1))) kr .nil ?_
  exact Go.lvx 20 [] _ [.sl 1 .shr (x1 ++ (fxa 32 h1)).length (u8s (x1 ++ (fxa 32 h1)))] Tryd.func28 hk rfl kr .nil (T.Le.of_eq rfl) rfl rfl .nil
attribute [irreducible] bursaryref34_Encode
noncomputable def bursaryref34_Decode_k1 (d2 : hDT) : (UInt64 × List UInt8) × Int :=
  ((d2.1, d2.2), 0)
noncomputable def bursaryref34_Decode_l1 (b : List UInt8) : Nat → Int → hDT → Lo hDT ((UInt64 × List UInt8) × Int)
  | 0, _, _ => .brk default
  | ml1 + 1, i1, d1 =>
    bif decide (i1 < 32) then
      bursaryref34_Decode_l1 b ml1 (i1 + 1) (d1.1, (fxa 32 d1.2).set i1.toNat (b.getD ((8 + i1).toNat) 0))
    else
      Lo.brk d1
noncomputable def bursaryref34_Decode (b : List UInt8) : (UInt64 × List UInt8) × Int :=
  bif (b.length : Int) != 40 then
    ((0, List.replicate 32 (0 : UInt8)), 4)
  else
    bnd (bursaryref31_Read (slc b 0 8)) fun x1 =>
    Lo.el (bursaryref34_Decode_l1 b ((32 - (0 : Int)).toNat + 1) 0 (x1.1, List.replicate 32 (0 : UInt8))) (fun z : hDT => bursaryref34_Decode_k1 z)
def bursaryref34_Decode_enc (x : (UInt64 × List UInt8) × Int) : T × List (Nat × List T) := (.tup [.agg (hD x.1), ti x.2], [])
theorem bursaryref34_Decode_m {g_b : Tag} (b : List UInt8) : Meets Tryd.prog 23 [.sl 1 g_b b.length (u8s b)] [] [] (.tup [.agg (hD ((bursaryref34_Decode b).1)), ti ((bursaryref34_Decode b).2)]) [] := by
  refine Meets.enterX (E := E) (N := 31) (enc := bursaryref34_Decode_enc) (x := (bursaryref34_Decode b)) Tryd.func23 Tryd.call23 rfl rfl ?_
  intro Γ k hk
  refine Go.rx 20 { ws := [(0, { id := 10 })] } [] [0, 2] _ [(0, .sl 1 g_b b.length (u8s b)), (2, .addr 10 0)] [(10, qg3_1)] hk rfl kr .nil ?_
  clear hk; intro k hk
  refine Go.rx 20 {} [] [0, 2, 8] _ [(0, .sl 1 g_b b.length (u8s b)), (2, .addr 10 0), (8, tb ((b.length : Int) != 40))] [(10, qg3_1)] hk rfl kr (.cons trivial .nil) ?_
  clear hk; intro k hk
  refine Go.br 20 (Pf := (PostX Γ bursaryref34_Decode_enc)) hk rfl rfl ?_ ?_ <;> clear hk <;> intro ct1 k hk
  · have ct1p := neIt ct1
    refine Go.rx 20 {} [] [2, 3] _ [(2, .addr 10 0), (3, ti 4)] [(10, qg3_1)] hk rfl kr .nil ?_
    clear hk; intro k hk
    exact Go.lvx 20 [] _ [.agg qg3_1, ti 4] Tryd.func23 hk rfl kr (.cons (by decide : 0 + 33 ≤ 33) .nil) (T.Le.tup (.cons (T.Le.of_eq rfl) (.cons (T.Le.of_eq rfl) .nil))) rfl rfl .nil
  · have ct1p := neIf ct1
    refine Go.rx 20 { ws := [(1, { id := 11 })] } [] [0, 2, 4] _ [(0, .sl 1 g_b b.length (u8s b)), (2, .addr 10 0), (4, .addr 11 0)] [(10, qg3_1), (11, qg3_1)] hk rfl kr .nil ?_
    clear hk; intro k hk
    refine Go.rx 20 { ws := [(1, { v := some (.sl 1 g_b (slc b 0 8).length (u8s (slc b 0 8))) }), (2, { call := some { ids := [], S := [], M := [], R := .tup [t64 ((bursaryref31_Read (slc b 0 8)).1), ti ((bursaryref31_Read (slc b 0 8)).2)], H' := [] } })] } [] [0, 2, 4] _ [(0, .sl 1 g_b b.length (u8s b)), (2, .addr 10 0), (4, .addr 11 0)] [(10, qg3_1), (11, [t64 ((bursaryref31_Read (slc b 0 8)).1), t8 0, t8 0, t8 0, t8 0, t8 0, t8 0, t8 0, t8 0, t8 0, t8 0, t8 0, t8 0, t8 0, t8 0, t8 0, t8 0, t8 0, t8 0, t8 0, t8 0, t8 0, t8 0, t8 0, t8 0, t8 0, t8 0, t8 0, t8 0, t8 0, t8 0, t8 0, t8 0])] hk rfl kr (.cons (om : 0 ≤ (0 : Int) ∧ (0 : Int) ≤ 8 ∧ 8 ≤ (b.length : Int) ∧ (b.length : Int) ≤ (b.length : Nat)) (.cons (sl_slc (t := g_b) (g := (fun c : UInt8 => T.leaf (.int .u8 c.toNat))) (lo := 0) (hi := 8) b om rfl rfl) (.cons (bursaryref31_Read_m (g_b := g_b) (slc b 0 8)) (.cons (sb : subN (idsL [.sl 1 g_b (slc b 0 8).length (u8s (slc b 0 8))]) [] = true) .nil)))) ?_
    clear hk; intro k hk
    refine Go.bnd (Pf := (PostX Γ bursaryref34_Decode_enc)) (v := (bursaryref31_Read (slc b 0 8))) (fun x1 => [(0, .sl 1 g_b b.length (u8s b)), (2, .addr 10 0), (4, .addr 11 0)]) (fun x1 => [(10, qg3_1), (11, [t64 x1.1, t8 0, t8 0, t8 0, t8 0, t8 0, t8 0, t8 0, t8 0, t8 0, t8 0, t8 0, t8 0, t8 0, t8 0, t8 0, t8 0, t8 0, t8 0, t8 0, t8 0, t8 0, t8 0, t8 0, t8 0, t8 0, t8 0, t8 0, t8 0, t8 0, t8 0, t8 0, t8 0])]) ?_
    intro x1 hx1
    refine Go.rx 20 {} [] [0, 2, 4, 5] _ [(0, .sl 1 g_b b.length (u8s b)), (2, .addr 10 0), (4, .addr 11 0), (5, ti 0)] [(10, qg3_1), (11, [t64 x1.1, t8 0, t8 0, t8 0, t8 0, t8 0, t8 0, t8 0, t8 0, t8 0, t8 0, t8 0, t8 0, t8 0, t8 0, t8 0, t8 0, t8 0, t8 0, t8 0, t8 0, t8 0, t8 0, t8 0, t8 0, t8 0, t8 0, t8 0, t8 0, t8 0, t8 0, t8 0, t8 0])] hk rfl kr .nil ?_
    clear hk; intro k hk
    refine Go.loopX 20 hk rfl ?_
    clear hk; intro kl1 kxl1 hl1 hxl1
    have Xl1 : ∀ (d2 : hDT), Go E Γ 23 31 [] ((PostX Γ bursaryref34_Decode_enc) (bursaryref34_Decode_k1 d2)) kxl1 (stL [(2, .addr 10 0), (4, .addr 11 0)] [(10, qg3_1), (11, (hD d2))]) := by
      intro d2
      refine Go.rx 20 {} [11] [2, 3] _ [(2, .addr 10 0), (3, ti 0)] [(10, (hD d2))] hxl1 rfl kr .nil ?_
      clear hxl1; intro kxl1 hxl1
      exact Go.lvx 20 [] _ [.agg (hD d2), ti 0] Tryd.func23 hxl1 rfl kr (.cons (by decide : 0 + 33 ≤ 33) .nil) (T.Le.tup (.cons (T.Le.of_eq rfl) (.cons (T.Le.of_eq rfl) .nil))) rfl rfl .nil
    have Ll1 : ∀ (ml1 : Nat) (i1 : Int) (d1 : hDT), (0 ≤ i1) → ((32 - i1).toNat < ml1) → Go E Γ 23 31 [] ((PostX Γ bursaryref34_Decode_enc) (Lo.el (bursaryref34_Decode_l1 b ml1 i1 d1) (fun z : hDT => bursaryref34_Decode_k1 z))) kl1 (stL [(0, .sl 1 g_b b.length (u8s b)), (2, .addr 10 0), (4, .addr 11 0), (5, ti i1)] [(10, qg3_1), (11, (hD d1))]) := by
      intro ml1
      induction ml1 with
      | zero => intro i1 d1 i0l1 hml1; exact absurd hml1 (Nat.not_lt_zero _)
      | succ ml1 ihl1 =>
        intro i1 d1 i0l1 hml1
        rw [bursaryref34_Decode_l1]
        refine Go.round hl1 ?_
        intro k hk
        refine Go.rx 20 {} [] [0, 2, 4, 5, 19] _ [(0, .sl 1 g_b b.length (u8s b)), (2, .addr 10 0), (4, .addr 11 0), (5, ti i1), (19, tb (decide (i1 < 32)))] [(10, qg3_1), (11, (hD d1))] hk rfl kr (.cons trivial .nil) ?_
        clear hk; intro k hk
        refine Go.br 20 (Pf := (fun z : Lo (hDT) ((UInt64 × List UInt8) × Int) => (PostX Γ bursaryref34_Decode_enc) (Lo.el z (fun z : hDT => bursaryref34_Decode_k1 z)))) hk rfl rfl ?_ ?_ <;> clear hk <;> intro ct2 k hk
        · have ct2p := of_decide_eq_true ct2
          refine Go.rx 20 { ws := [(3, { v := some (ti (8 + i1)) }), (5, { v := some (t8 (b.getD ((8 + i1).toNat) 0)) }), (8, { c := some ([t64 d1.1] ++ u8s (fxa 32 ((fxa 32 d1.2).set i1.toNat (b.getD ((8 + i1).toNat) 0)))), sym := true })] } [] [0, 2, 4, 5] _ [(0, .sl 1 g_b b.length (u8s b)), (2, .addr 10 0), (4, .addr 11 0), (5, ti i1)] [(10, qg3_1), (11, ([t64 d1.1] ++ u8s (fxa 32 ((fxa 32 d1.2).set i1.toNat (b.getD ((8 + i1).toNat) 0)))))] hk rfl kr (.cons trivial (.cons (iw (8 + i1) om) (.cons (om : 0 ≤ (8 + i1 : Int) ∧ (8 + i1 : Int) < ((b.length : Nat) : Int)) (.cons (part1 (kr : (E.ti 5).agg = false) (mp_get (g := (fun c : UInt8 => T.leaf (.int .u8 c.toNat))) (k := (8 + i1).toNat * 1) (n := (8 + i1).toNat) b (0 : UInt8) (by omega) om)) (.cons (om : 0 ≤ (i1 : Int) ∧ (i1 : Int) < 32) (.cons (rfl : scalL [t8 (b.getD ((8 + i1).toNat) 0)] = true) (.cons (by decide : 1 ≤ 1) (.cons (by decide : 1 ≤ 1) (.cons (by simp only [List.length_append, List.length_map, List.length_cons, List.length_nil, fxa_len]; first | omega | (simp <;> omega) | (simp at * <;> omega) | (split <;> omega) | (split <;> (first | omega | (simp <;> omega) | (simp at * <;> omega))) : 1 + i1.toNat * 1 + 1 ≤ ([t64 d1.1] ++ u8s (fxa 32 d1.2)).length) (.cons (seg_set (pre := [t64 d1.1]) (n := 32) (i := i1.toNat) (k := 1 + i1.toNat * 1) (s := d1.2) (v := b.getD ((8 + i1).toNat) 0) (by simp only [List.length_cons, List.length_nil]; omega) om) .nil)))))))))) ?_
          clear hk; intro k hk
          refine Go.rx 20 { ws := [(1, { v := some (ti (i1 + 1)) })] } [] [0, 2, 4, 5] _ [(0, .sl 1 g_b b.length (u8s b)), (2, .addr 10 0), (4, .addr 11 0), (5, ti (i1 + 1))] [(10, qg3_1), (11, ([t64 d1.1] ++ u8s (fxa 32 ((fxa 32 d1.2).set i1.toNat (b.getD ((8 + i1).toNat) 0)))))] hk rfl kr (.cons trivial (.cons (iw (i1 + 1) om) .nil)) ?_
          clear hk; intro k hk
          exact Go.join 20 hk hl1 rfl (ihl1 (i1 + 1) (d1.1, (fxa 32 d1.2).set i1.toNat (b.getD ((8 + i1).toNat) 0)) om om)
        · have ct2p := of_decide_eq_false ct2
          refine Go.keepN [2, 4] (L' := [(2, .addr 10 0), (4, .addr 11 0)]) rfl ?_
          exact Go.exitX (Pf := (PostX Γ bursaryref34_Decode_enc)) (F := fun z : hDT => bursaryref34_Decode_k1 z) (a := d1) (Go.join 20 hk hxl1 rfl (Xl1 d1))
    exact Ll1 _ 0 (x1.1, List.replicate 32 (0 : UInt8)) om (Nat.lt_succ_self _)
attribute [irreducible] bursaryref34_Decode_k1 bursaryref34_Decode_l1 bursaryref34_Decode
end Go.Proofs.YtdlnppcndcfikaaDoor

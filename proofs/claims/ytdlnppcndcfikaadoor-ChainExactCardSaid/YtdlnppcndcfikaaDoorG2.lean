import Derived.Test.YtdlnppcndcfikaaDoorG1
set_option linter.unusedVariables false
set_option linter.unusedSimpArgs false
namespace Go.Proofs.YtdlnppcndcfikaaDoor
open Go Go.Vw Go.Proofs
theorem qg2_1 {p : Prop} (h : p := by first | assumption | exact nil_le | exact (fun i => Nat.le_trans ((fx1 ct121).2 i) (by decide)) | exact (fun i => Nat.le_trans ((fx2 ct1221).2 i) (by decide)) | exact slc_le (fun i => Nat.le_trans ((fx1 ct121).2 i) (by decide)) _ _ | exact (cons_le (by simp) nil_le) | exact app_le (app_le nil_le (fun i => Nat.le_trans ((fx1 ct121).2 i) (by decide))) (cons_le (by simp) nil_le) | exact app_le (app_le nil_le (fun i => Nat.le_trans ((fx1 ct121).2 i) (by decide))) (cons_le (by first | omega | (simp; done)) nil_le)) : p := h
theorem qg2_2 {p : Prop} (h : p := by first | omega | (simp only [List.length_append, List.length_cons, List.length_nil, slc_len]; omega) | (simp; done) | (simp; omega)) : p := h
theorem qg2_3 {p : Prop} (h : p := by first | omega | (simp; done) | (simp only [List.length_append, List.length_cons, List.length_nil]; omega) | (simp; omega)) : p := h
theorem qg2_4 {p : Prop} (h : p := by first | omega | (simp; done) | exact Nat.le_trans ((fx1 ct121).2 _) (by decide)) : p := h
theorem qg2_5 {p : Prop} (h : p := by first | omega | (simp; done) | (simp; omega)) : p := h
theorem qg2_7 {p : Prop} (h : p := by rw [fl_len (m := 33) (fun _ => rfl)]; omega) : p := h
abbrev qg2_9 : List T := [t64 0, t8 0, t8 0, t8 0, t8 0, t8 0, t8 0, t8 0, t8 0, t8 0, t8 0, t8 0, t8 0, t8 0, t8 0, t8 0, t8 0, t8 0, t8 0, t8 0, t8 0, t8 0, t8 0, t8 0, t8 0, t8 0, t8 0, t8 0, t8 0, t8 0, t8 0, t8 0, t8 0]
noncomputable def chain_summed (h0 : UInt64) (h1 : List UInt8) (entry : List UInt8) : List UInt8 :=
  bnd (slices_Concat ([(fxa 32 h1 : List UInt8), entry] : List (List UInt8))) fun x1 =>
  x1
def chain_summed_enc (x : List UInt8) : T × List (Nat × List T) := (.sl 1 .shr x.length (u8s x), [])
theorem chain_summed_m (h0 : UInt64) (h1 : List UInt8) (entry : List UInt8) (he : entry.length ≤ 800000000) : Meets Tryd.prog 35 [.agg ([t64 h0] ++ u8s (fxa 32 h1)), .sl 1 .shr entry.length (u8s entry)] [] [] (.sl 1 .shr (chain_summed h0 h1 entry).length (u8s (chain_summed h0 h1 entry))) [] := by
  refine Meets.enterX (E := E) (N := 10) (enc := chain_summed_enc) (x := (chain_summed h0 h1 entry)) Tryd.func35 Tryd.call35 rfl rfl ?_
  intro Γ k hk
  refine Go.rx 20 { ws := [(0, { id := 10 })] } [] [1, 2] _ [(1, .sl 1 .shr entry.length (u8s entry)), (2, .addr 10 0)] [(10, ([t64 h0] ++ u8s (fxa 32 h1)))] hk rfl kr .nil ?_
  clear hk; intro k hk
  refine Go.rx 20 { ws := [(1, { v := some (.sl 1 .shr (fxa 32 h1 : List UInt8).length (u8s (fxa 32 h1 : List UInt8))), gv := true }), (3, { id := 11 }), (4, { call := some { ids := [], S := [], M := [11], R := .ref 12 1 0 ((slices_Concat ([(fxa 32 h1 : List UInt8), entry] : List (List UInt8))).length), H' := [(12, u8s (slices_Concat ([(fxa 32 h1 : List UInt8), entry] : List (List UInt8))))] } })], pg := [12], fd := some [10] } [11] [4] _ [(4, .ref 12 1 0 ((slices_Concat ([(fxa 32 h1 : List UInt8), entry] : List (List UInt8))).length))] [(12, u8s (slices_Concat ([(fxa 32 h1 : List UInt8), entry] : List (List UInt8))))] hk rfl kr (.cons (by decide : 0 ≤ (0 : Int) ∧ (0 : Int) ≤ ((32 : Nat) : Int) ∧ ((32 : Nat) : Int) ≤ ((32 : Nat) : Int) ∧ ((32 : Nat) : Int) ≤ ((32 : Nat) : Int)) (.cons (⟨rfl, Nat.le_of_ble_eq_true (by kernel_rfl)⟩ : idsL ([t64 h0] ++ u8s (fxa 32 h1)) = [] ∧ 1 + 32 * 1 ≤ (([t64 h0] ++ u8s (fxa 32 h1)) : List T).length) (.cons (by kernel_rfl : T.sl 1 .shr 32 (sub ([t64 h0] ++ u8s (fxa 32 h1)) 1 (32 * 1)) = .sl 1 .shr (fxa 32 h1 : List UInt8).length (u8s (fxa 32 h1 : List UInt8))) (.cons (Meets.sw [(99, 12)] (Meets.eqA (A := [.sl 1 .brw 2 (sub [.sl 1 .shr (fxa 32 h1 : List UInt8).length (u8s (fxa 32 h1 : List UInt8)), .sl 1 .shr entry.length (u8s entry)] 0 (2 * 1))]) (by first | rfl | (simp only [mp_all]; done) | (simp only [mp_all]; rfl)) (slices_Concat_m (g_slices := .brw) ([(fxa 32 h1 : List UInt8), entry] : List (List UInt8)) (by first | (simp; done) | (simp <;> omega) | omega) (by refine (cons_le ?_ (cons_le ?_ nil_le)) <;> first | omega | (simp only [List.length_replicate, List.length_cons, List.length_nil, List.length_append]; omega) | (simp <;> omega)))) : Meets Tryd.prog 33 [.sl 1 .brw 2 (sub [.sl 1 .shr (fxa 32 h1 : List UInt8).length (u8s (fxa 32 h1 : List UInt8)), .sl 1 .shr entry.length (u8s entry)] 0 (2 * 1))] [] [] (.ref 12 1 0 ((slices_Concat ([(fxa 32 h1 : List UInt8), entry] : List (List UInt8))).length)) [(12, u8s (slices_Concat ([(fxa 32 h1 : List UInt8), entry] : List (List UInt8))))]) (.cons (rfl : idsL [.sl 1 .shr (fxa 32 h1 : List UInt8).length (u8s (fxa 32 h1 : List UInt8)), .sl 1 .shr entry.length (u8s entry)] = []) (.cons (by decide : 0 + 2 * 1 ≤ 2) (.cons (sb : subN (idsL [.sl 1 .brw 2 (sub [.sl 1 .shr (fxa 32 h1 : List UInt8).length (u8s (fxa 32 h1 : List UInt8)), .sl 1 .shr entry.length (u8s entry)] 0 (2 * 1))]) [] = true) (.cons (nb : T.noB (.ref 12 1 0 ((slices_Concat ([(fxa 32 h1 : List UInt8), entry] : List (List UInt8))).length)) = true) (.cons (mp_noB (g := (fun c : UInt8 => T.leaf (.int .u8 c.toNat))) (slices_Concat ([(fxa 32 h1 : List UInt8), entry] : List (List UInt8))) (fun _ => rfl)) (.cons (mp_mem (i := 11) (g := (fun c : UInt8 => T.leaf (.int .u8 c.toNat))) (slices_Concat ([(fxa 32 h1 : List UInt8), entry] : List (List UInt8))) (fun _ => rfl)) .nil)))))))))) ?_
  clear hk; intro k hk
  refine Go.bnd (Pf := (PostX Γ chain_summed_enc)) (v := (slices_Concat ([(fxa 32 h1 : List UInt8), entry] : List (List UInt8)))) (fun x1 => [(4, .ref 12 1 0 x1.length)]) (fun x1 => [(12, u8s x1)]) ?_
  intro x1 hx1
  have fx1 := concat_eq ([(fxa 32 h1 : List UInt8), entry] : List (List UInt8))
  rw [← hx1] at fx1
  have gx1 := congrArg List.length fx1
  simp only [List.flatten_cons, List.flatten_nil, List.append_nil, List.length_append, List.length_cons, List.length_nil] at fx1 gx1
  refine Go.frz [] [] 4 12 (u8s x1) _ [(4, .dead)] [] rfl rfl (mp_ids (g := (fun c : UInt8 => T.leaf (.int .u8 c.toNat))) x1 (fun _ => rfl)) (by simp only [List.length_map]; omega) (mp_all (g := (fun c : UInt8 => T.leaf (.int .u8 c.toNat))) x1) kr .nil ?_
  exact Go.lvx 20 [] _ [.sl 1 .shr x1.length (u8s x1)] Tryd.func35 hk rfl kr .nil (T.Le.of_eq rfl) rfl rfl .nil
theorem summed_eq (h0 : UInt64) (h1 e : List UInt8) : chain_summed h0 h1 e = fxa 32 h1 ++ e := by
  rw [chain_summed, bnd_eq, concat_eq]; simp
theorem summed_len (h0 : UInt64) (h1 e : List UInt8) : (chain_summed h0 h1 e).length = 32 + e.length := by
  rw [summed_eq, List.length_append, fxa_len]
attribute [irreducible] chain_summed
noncomputable def chain_Next (key : List UInt8) (h0 : UInt64) (h1 : List UInt8) (entry : List UInt8) : (UInt64 × List UInt8) × Int :=
  bif h0 == 18446744073709551615 then
    ((0, List.replicate 32 (0 : UInt8)), 19)
  else
    bnd (chain_summed h0 h1 entry) fun x1 =>
    ((h0 + 1, hmac_Mac key x1), 0)
def chain_Next_enc (x : (UInt64 × List UInt8) × Int) : T × List (Nat × List T) := (.tup [.agg (hD x.1), er 65 x.2], [])
theorem chain_Next_m (key : List UInt8) (h0 : UInt64) (h1 : List UInt8) (entry : List UInt8) (hl : key.length ≤ 1000000000) (he : entry.length ≤ 800000000) : Meets Tryd.prog 19 [.sl 1 .shr key.length (u8s key), .agg ([t64 h0] ++ u8s (fxa 32 h1)), .sl 1 .shr entry.length (u8s entry)] [] [] (.tup [.agg (hD ((chain_Next key h0 h1 entry).1)), er 65 ((chain_Next key h0 h1 entry).2)]) [] := by
  refine Meets.enterX (E := E) (N := 22) (enc := chain_Next_enc) (x := (chain_Next key h0 h1 entry)) Tryd.func19 Tryd.call19 rfl rfl ?_
  intro Γ k hk
  refine Go.rx 20 { ws := [(0, { id := 10 }), (1, { id := 11 })] } [] [0, 2, 4, 6] _ [(0, .sl 1 .shr key.length (u8s key)), (2, .sl 1 .shr entry.length (u8s entry)), (4, .addr 10 0), (6, .addr 11 0)] [(10, ([t64 h0] ++ u8s (fxa 32 h1))), (11, qg2_9)] hk rfl kr .nil ?_
  clear hk; intro k hk
  refine Go.rx 20 { ws := [(2, { v := some (tb (h0 == 18446744073709551615)) })] } [] [0, 2, 4, 6, 10] _ [(0, .sl 1 .shr key.length (u8s key)), (2, .sl 1 .shr entry.length (u8s entry)), (4, .addr 10 0), (6, .addr 11 0), (10, tb (h0 == 18446744073709551615))] [(10, ([t64 h0] ++ u8s (fxa 32 h1))), (11, qg2_9)] hk rfl kr (.cons trivial (.cons (eqB64 h0 18446744073709551615) .nil)) ?_
  clear hk; intro k hk
  refine Go.br 20 (Pf := (PostX Γ chain_Next_enc)) hk rfl rfl ?_ ?_ <;> clear hk <;> intro ct1 k hk
  · refine Go.rx 20 { ps := [7, 12] } [10] [6, 7] _ [(6, .addr 11 0), (7, er 65 19)] [(11, qg2_9)] hk rfl kr (.cons (er_mem (i := 10) 65 19) (.cons (er_mem (i := 10) 65 19) .nil)) ?_
    clear hk; intro k hk
    exact Go.lvx 20 [] _ [.agg qg2_9, er 65 19] Tryd.func19 hk rfl kr (.cons (by decide : 0 + 33 ≤ 33) .nil) (T.Le.tup (.cons (T.Le.of_eq rfl) (.cons (T.Le.of_eq rfl) .nil))) rfl (by first | rfl | (simp only [chain_Next_enc, T.ids, idsL, er_ids, List.append_nil, List.nil_append]; first | rfl | (rw [mp_ids _ (fun _ => rfl)]; rfl))) .nil
  · refine Go.dx 20 [0, 1, 2, 3, 4, 5, 6, 7, 8, 9, 10] { ws := [(2, { v := some (t64 (h0 + 1)) }), (6, { call := some { ids := [], S := [], M := [], R := .sl 1 .shr (chain_summed h0 h1 entry).length (u8s (chain_summed h0 h1 entry)), H' := [] } }), (7, { call := some { ids := [], S := [], M := [], R := .agg (u8s (fxa 32 (hmac_Mac key (chain_summed h0 h1 entry)))), H' := [] } })] } [10] [6, 7] _ [(6, .addr 11 0), (7, .leaf .nilIface)] [(11, ([t64 (h0 + 1)] ++ u8s (fxa 32 (hmac_Mac key (chain_summed h0 h1 entry)))))] hk rfl kr (.cons trivial (.cons (add64 h0 1) (.cons (chain_summed_m h0 h1 entry qg2_4) (.cons (sb : subN (idsL [.agg ([t64 h0] ++ u8s (fxa 32 h1)), .sl 1 .shr entry.length (u8s entry)]) [] = true) (.cons (Meets.fx 32 (hmac_Mac_m (g_b := .shr) key (chain_summed h0 h1 entry) qg2_5 (by first | omega | (simp; done) | (rw [summed_len]; omega) | (rw [concat_eq]; simp only [List.flatten_cons, List.flatten_nil, List.append_nil, List.length_append, List.length_cons, List.length_nil]; omega) | (simp only [List.length_append, fxa_len]; omega) | (simp; omega))) (by first | (simp; done) | (with_reducible assumption) | omega | (simp <;> omega) | rfl)) (.cons (sb : subN (idsL [.sl 1 .shr key.length (u8s key), .sl 1 .shr (chain_summed h0 h1 entry).length (u8s (chain_summed h0 h1 entry))]) [] = true) .nil)))))) ?_
    clear hk; intro k hk
    refine Go.bnd (Pf := (PostX Γ chain_Next_enc)) (v := (chain_summed h0 h1 entry)) (fun x1 => [(6, .addr 11 0), (7, .leaf .nilIface)]) (fun x1 => [(11, ([t64 (h0 + 1)] ++ u8s (fxa 32 (hmac_Mac key x1))))]) ?_
    intro x1 hx1
    have fx1 := summed_len h0 h1 entry
    rw [← hx1] at fx1
    exact Go.lvx 20 [] _ [.agg ([t64 (h0 + 1)] ++ u8s (fxa 32 (hmac_Mac key x1))), .leaf .nilIface] Tryd.func19 hk rfl kr (.cons (by decide : 0 + 33 ≤ 33) .nil) (T.Le.tup (.cons (T.Le.of_eq rfl) (.cons (T.Le.of_eq rfl) .nil))) rfl rfl .nil
theorem next_val (key : List UInt8) (h0 : UInt64) (h1 e : List UInt8) (h : h0 ≠ 18446744073709551615) : chain_Next key h0 h1 e = ((h0 + 1, hmac_Mac key (fxa 32 h1 ++ e)), 0) := by
  rw [chain_Next, show (h0 == 18446744073709551615) = false from beq_eq_false_iff_ne.2 h, cond_false, bnd_eq, summed_eq]
theorem next_lt {h0 : UInt64} (h : h0.toNat < 9223372036854775808) : h0 ≠ 18446744073709551615 := fun e => by rw [e, show (18446744073709551615 : UInt64).toNat = 18446744073709551615 from rfl] at h; omega
theorem next_fact (key : List UInt8) (h0 : UInt64) (h1 e : List UInt8) : h0.toNat < 9223372036854775808 → (chain_Next key h0 h1 e).1.1.toNat = h0.toNat + 1 := by
  intro h
  rw [next_val key h0 h1 e (next_lt h), UInt64.toNat_add, show (1 : UInt64).toNat = 1 from rfl, Nat.mod_eq_of_lt (by omega)]
attribute [irreducible] chain_Next
noncomputable def chain_heads_k1 (d2 : hDT) (o2 : List (UInt64 × List UInt8)) : (List (UInt64 × List UInt8)) :=
  o2
noncomputable def chain_heads_l1 (key : List UInt8) (l : List (List UInt8)) : Nat → Int → hDT → (List (UInt64 × List UInt8)) → Lo (hDT × (List (UInt64 × List UInt8))) (List (UInt64 × List UInt8))
  | 0, _, _, _ => .brk default
  | ml1 + 1, t161, d1, o1 =>
    bif decide (t161 < (l.length : Int)) then
      bnd (chain_Next key d1.1 d1.2 (l.getD t161.toNat [])) fun x1 =>
      bif !(decide (x1.2 = 0)) then
        Lo.ret o1
      else
        chain_heads_l1 key l ml1 (t161 + 1) x1.1 (o1 ++ [x1.1])
    else
      Lo.brk (d1, o1)
noncomputable def chain_heads (key : List UInt8) (l : List (List UInt8)) : (List (UInt64 × List UInt8)) :=
  Lo.el (chain_heads_l1 key l (((l.length : Int) - (0 : Int)).toNat + 1) 0 (0, List.replicate 32 (0 : UInt8)) [(0, List.replicate 32 (0 : UInt8))]) (fun z : hDT × (List (UInt64 × List UInt8)) => chain_heads_k1 z.1 z.2)
def chain_heads_enc (x : (List (UInt64 × List UInt8))) : T × List (Nat × List T) := (.sl 33 .shr x.length (fl (fun c : UInt64 × List UInt8 => (hD c)) x), [])
theorem chain_heads_m {g_l : Tag} (key : List UInt8) (l : List (List UInt8)) (hl : key.length ≤ 1000000000) (hq : ∀ i : Nat, (l.getD i []).length ≤ 800000000) (hn : l.length ≤ 1000000) : Meets Tryd.prog 38 [.sl 1 .shr key.length (u8s key), .sl 1 g_l l.length (b8s .shr l)] [] [] (.sl 33 .shr (chain_heads key l).length (fl (fun c : UInt64 × List UInt8 => (hD c)) (chain_heads key l))) [] := by
  refine Meets.enterX (E := E) (N := 37) (enc := chain_heads_enc) (x := (chain_heads key l)) Tryd.func38 Tryd.call38 rfl rfl ?_
  intro Γ k hk
  refine Go.rx 20 {} [] [0, 1] _ [(0, .sl 1 .shr key.length (u8s key)), (1, .sl 1 g_l l.length (b8s .shr l))] [] hk rfl kr .nil ?_
  clear hk; intro k hk
  refine Go.rx 20 { ws := [(1, { id := 10 })] } [] [0, 1, 5] _ [(0, .sl 1 .shr key.length (u8s key)), (1, .sl 1 g_l l.length (b8s .shr l)), (5, .addr 10 0)] [(10, qg2_9)] hk rfl kr .nil ?_
  clear hk; intro k hk
  refine Go.rx 20 { ws := [(1, { id := 11 })] } [] [0, 1, 5, 6] _ [(0, .sl 1 .shr key.length (u8s key)), (1, .sl 1 g_l l.length (b8s .shr l)), (5, .addr 10 0), (6, .ref 11 33 0 1)] [(10, qg2_9), (11, qg2_9)] hk rfl kr .nil ?_
  clear hk; intro k hk
  refine Go.rx 20 {} [] [0, 5, 6, 14, 15, 16] _ [(0, .sl 1 .shr key.length (u8s key)), (5, .addr 10 0), (6, .ref 11 33 0 1), (14, .sl 1 g_l l.length (b8s .shr l)), (15, ti (l.length : Int)), (16, ti 0)] [(10, qg2_9), (11, qg2_9)] hk rfl kr .nil ?_
  clear hk; intro k hk
  refine Go.loopX 20 hk rfl ?_
  clear hk; intro kl1 kxl1 hl1 hxl1
  have Xl1 : ∀ (d2 : hDT) (o2 : List (UInt64 × List UInt8)) (f0l1 : o2.length ≤ 1000001), Go E Γ 38 37 [] ((PostX Γ chain_heads_enc) (chain_heads_k1 d2 o2)) kxl1 (stL [(6, .ref 11 33 0 o2.length)] [(10, (hD d2)), (11, fl (fun c : UInt64 × List UInt8 => (hD c)) o2)]) := by
    intro d2 o2 f0l1
    refine Go.rx 20 { pg := [11] } [10] [4] _ [(4, .ref 11 33 0 o2.length)] [(11, fl (fun c : UInt64 × List UInt8 => (hD c)) o2)] hxl1 rfl kr (.cons (fl_mem (i := 10) (g := (fun c : UInt64 × List UInt8 => (hD c))) o2 (fun _ => rfl)) .nil) ?_
    clear hxl1; intro kxl1 hxl1
    refine Go.frz [] [] 4 11 (fl (fun c : UInt64 × List UInt8 => (hD c)) o2) _ [(4, .dead)] [] rfl rfl (fl_ids (g := (fun c : UInt64 × List UInt8 => (hD c))) (fun _ => rfl) o2) qg2_7 (fl_all (g := (fun c : UInt64 × List UInt8 => (hD c))) (m := 33) (fun _ => rfl) o2) kr .nil ?_
    exact Go.lvx 20 [] _ [.sl 33 .shr o2.length (fl (fun c : UInt64 × List UInt8 => (hD c)) o2)] Tryd.func38 hxl1 rfl kr .nil (T.Le.of_eq rfl) rfl rfl .nil
  have Ll1 : ∀ (ml1 : Nat) (t161 : Int) (d1 : hDT) (o1 : List (UInt64 × List UInt8)), (0 ≤ t161) → (t161 ≤ (l.length : Int)) → ((o1.length : Int) = t161 + 1) → (((l.length : Int) - t161).toNat < ml1) → Go E Γ 38 37 [] ((PostX Γ chain_heads_enc) (Lo.el (chain_heads_l1 key l ml1 t161 d1 o1) (fun z : hDT × (List (UInt64 × List UInt8)) => chain_heads_k1 z.1 z.2))) kl1 (stL [(0, .sl 1 .shr key.length (u8s key)), (5, .addr 10 0), (6, .ref 11 33 0 o1.length), (14, .sl 1 g_l l.length (b8s .shr l)), (15, ti (l.length : Int)), (16, ti t161)] [(10, (hD d1)), (11, fl (fun c : UInt64 × List UInt8 => (hD c)) o1)]) := by
    intro ml1
    induction ml1 with
    | zero => intro t161 d1 o1 i0l1 i1l1 i2l1 hml1; exact absurd hml1 (Nat.not_lt_zero _)
    | succ ml1 ihl1 =>
      intro t161 d1 o1 i0l1 i1l1 i2l1 hml1
      rw [chain_heads_l1]
      refine Go.round hl1 ?_
      intro k hk
      have hz := hq t161.toNat
      refine Go.rx 20 {} [] [0, 5, 6, 14, 15, 16, 17] _ [(0, .sl 1 .shr key.length (u8s key)), (5, .addr 10 0), (6, .ref 11 33 0 o1.length), (14, .sl 1 g_l l.length (b8s .shr l)), (15, ti (l.length : Int)), (16, ti t161), (17, tb (decide (t161 < (l.length : Int))))] [(10, (hD d1)), (11, fl (fun c : UInt64 × List UInt8 => (hD c)) o1)] hk rfl kr (.cons trivial .nil) ?_
      clear hk; intro k hk
      refine Go.br 20 (Pf := (fun z : Lo (hDT × (List (UInt64 × List UInt8))) ((List (UInt64 × List UInt8))) => (PostX Γ chain_heads_enc) (Lo.el z (fun z : hDT × (List (UInt64 × List UInt8)) => chain_heads_k1 z.1 z.2)))) hk rfl rfl ?_ ?_ <;> clear hk <;> intro ct1 k hk
      · have ct1p := of_decide_eq_true ct1
        refine Go.rx 20 { ws := [(1, { v := some (.sl 1 .shr (l.getD t161.toNat []).length (u8s (l.getD t161.toNat []))) })] } [] [0, 5, 6, 8, 14, 15, 16] _ [(0, .sl 1 .shr key.length (u8s key)), (5, .addr 10 0), (6, .ref 11 33 0 o1.length), (8, .sl 1 .shr (l.getD t161.toNat []).length (u8s (l.getD t161.toNat []))), (14, .sl 1 g_l l.length (b8s .shr l)), (15, ti (l.length : Int)), (16, ti t161)] [(10, (hD d1)), (11, fl (fun c : UInt64 × List UInt8 => (hD c)) o1)] hk rfl kr (.cons (om : 0 ≤ (t161 : Int) ∧ (t161 : Int) < ((l.length : Nat) : Int)) (.cons (part1 (kr : (E.ti 22).agg = false) (mp_get (g := (fun c : List UInt8 => tl .shr c)) (k := t161.toNat * 1) (n := t161.toNat) l [] (by omega) om)) .nil)) ?_
        clear hk; intro k hk
        refine Go.rx 20 { ws := [(3, { call := some { ids := [], S := [], M := [], R := .tup [.agg (hD ((chain_Next key d1.1 d1.2 (l.getD t161.toNat [])).1)), er 65 ((chain_Next key d1.1 d1.2 (l.getD t161.toNat [])).2)], H' := [] } }), (7, { id := 12 })] } [] [0, 5, 6, 9, 10, 14, 15, 16] _ [(0, .sl 1 .shr key.length (u8s key)), (5, .addr 10 0), (6, .ref 11 33 0 o1.length), (9, .addr 12 0), (10, er 65 ((chain_Next key d1.1 d1.2 (l.getD t161.toNat [])).2)), (14, .sl 1 g_l l.length (b8s .shr l)), (15, ti (l.length : Int)), (16, ti t161)] [(10, (hD d1)), (11, fl (fun c : UInt64 × List UInt8 => (hD c)) o1), (12, (hD ((chain_Next key d1.1 d1.2 (l.getD t161.toNat [])).1)))] hk rfl kr (.cons (chain_Next_m key d1.1 d1.2 (l.getD t161.toNat []) qg2_5 qg2_4) (.cons (sb : subN (idsL [.sl 1 .shr key.length (u8s key), .agg (hD d1), .sl 1 .shr (l.getD t161.toNat []).length (u8s (l.getD t161.toNat []))]) [] = true) .nil)) ?_
        clear hk; intro k hk
        refine Go.bnd (Pf := (fun z : Lo (hDT × (List (UInt64 × List UInt8))) ((List (UInt64 × List UInt8))) => (PostX Γ chain_heads_enc) (Lo.el z (fun z : hDT × (List (UInt64 × List UInt8)) => chain_heads_k1 z.1 z.2)))) (v := (chain_Next key d1.1 d1.2 (l.getD t161.toNat []))) (fun x1 => [(0, .sl 1 .shr key.length (u8s key)), (5, .addr 10 0), (6, .ref 11 33 0 o1.length), (9, .addr 12 0), (10, er 65 x1.2), (14, .sl 1 g_l l.length (b8s .shr l)), (15, ti (l.length : Int)), (16, ti t161)]) (fun x1 => [(10, (hD d1)), (11, fl (fun c : UInt64 × List UInt8 => (hD c)) o1), (12, (hD x1.1))]) ?_
        intro x1 hx1
        have fx1 := next_fact key d1.1 d1.2 (l.getD t161.toNat [])
        rw [← hx1] at fx1
        refine Go.rx 20 { ws := [(1, { er := some (65, x1.2) })] } [] [0, 5, 6, 9, 14, 15, 16, 28] _ [(0, .sl 1 .shr key.length (u8s key)), (5, .addr 10 0), (6, .ref 11 33 0 o1.length), (9, .addr 12 0), (14, .sl 1 g_l l.length (b8s .shr l)), (15, ti (l.length : Int)), (16, ti t161), (28, tb (!(decide (x1.2 = 0))))] [(10, (hD d1)), (11, fl (fun c : UInt64 × List UInt8 => (hD c)) o1), (12, (hD x1.1))] hk rfl kr (.cons (⟨rfl, rfl⟩ : (er 65 x1.2) = er 65 x1.2 ∧ (.leaf .nilIface : T) = .leaf .nilIface) .nil) ?_
        clear hk; intro k hk
        refine Go.br 20 (Pf := (fun z : Lo (hDT × (List (UInt64 × List UInt8))) ((List (UInt64 × List UInt8))) => (PostX Γ chain_heads_enc) (Lo.el z (fun z : hDT × (List (UInt64 × List UInt8)) => chain_heads_k1 z.1 z.2)))) hk rfl rfl ?_ ?_ <;> clear hk <;> intro ct2 k hk
        · have ct2' : (decide (x1.2 = 0)) = false := ntT ct2
          have ct2'p := of_decide_eq_false ct2'
          refine Go.rx 20 { pg := [11] } [10, 12] [4] _ [(4, .ref 11 33 0 o1.length)] [(11, fl (fun c : UInt64 × List UInt8 => (hD c)) o1)] hk rfl kr (.cons (fl_mem (i := 10) (g := (fun c : UInt64 × List UInt8 => (hD c))) o1 (fun _ => rfl)) (.cons (fl_mem (i := 12) (g := (fun c : UInt64 × List UInt8 => (hD c))) o1 (fun _ => rfl)) .nil)) ?_
          clear hk; intro k hk
          refine Go.frz [] [] 4 11 (fl (fun c : UInt64 × List UInt8 => (hD c)) o1) _ [(4, .dead)] [] rfl rfl (fl_ids (g := (fun c : UInt64 × List UInt8 => (hD c))) (fun _ => rfl) o1) qg2_7 (fl_all (g := (fun c : UInt64 × List UInt8 => (hD c))) (m := 33) (fun _ => rfl) o1) kr .nil ?_
          exact Go.lvx 20 [] _ [.sl 33 .shr o1.length (fl (fun c : UInt64 × List UInt8 => (hD c)) o1)] Tryd.func38 hk rfl kr .nil (T.Le.of_eq rfl) rfl rfl .nil
        · have ct2' : (decide (x1.2 = 0)) = true := ntF ct2
          have ct2'p := of_decide_eq_true ct2'
          refine Go.rx 20 { pg := [11] } [12] [0, 5, 6, 14, 15, 16] _ [(0, .sl 1 .shr key.length (u8s key)), (5, .addr 10 0), (6, .ref 11 33 0 o1.length), (14, .sl 1 g_l l.length (b8s .shr l)), (15, ti (l.length : Int)), (16, ti t161)] [(10, (hD x1.1)), (11, fl (fun c : UInt64 × List UInt8 => (hD c)) o1)] hk rfl kr (.cons (fl_mem (i := 12) (g := (fun c : UInt64 × List UInt8 => (hD c))) o1 (fun _ => rfl)) .nil) ?_
          clear hk; intro k hk
          refine Go.rx 20 { ws := [(2, { id := 13 }), (3, { v := some (.ref 11 33 0 ((o1 ++ [x1.1]).length)), c := some (fl (fun c : UInt64 × List UInt8 => (hD c)) (o1 ++ [x1.1])), id := 11, sym := true })], pg := [11], fd := some [11] } [13] [0, 5, 6, 14, 15, 16] _ [(0, .sl 1 .shr key.length (u8s key)), (5, .addr 10 0), (6, .ref 11 33 0 ((o1 ++ [x1.1]).length)), (14, .sl 1 g_l l.length (b8s .shr l)), (15, ti (l.length : Int)), (16, ti t161)] [(10, (hD x1.1)), (11, fl (fun c : UInt64 × List UInt8 => (hD c)) (o1 ++ [x1.1]))] hk rfl kr (.cons (Nat.le_of_ble_eq_true rfl : 0 + 1 * 33 ≤ ((hD x1.1) : List T).length) (.cons (qg2_7 : 0 + o1.length * 33 ≤ (fl (fun c : UInt64 × List UInt8 => (hD c)) o1).length) (.cons (rfl : scalL (hD x1.1) = true) (.cons (om : (o1.length + 1) * 40 ≤ 140737488355328) (.cons (fl_app' (g := (fun c : UInt64 × List UInt8 => (hD c))) (m := 33) (k := o1.length) (fun _ => rfl) o1 [x1.1] rfl rfl) (.cons (fl_mem (i := 11) (g := (fun c : UInt64 × List UInt8 => (hD c))) (o1 ++ [x1.1]) (fun _ => rfl)) (.cons (by first | rfl | (simp; done) | (refine congrArg (fun q => T.ref 11 33 0 q) ?_; simp <;> omega) : T.ref 11 33 0 (o1.length + 1) = .ref 11 33 0 ((o1 ++ [x1.1]).length)) (.cons (fl_mem (i := 13) (g := (fun c : UInt64 × List UInt8 => (hD c))) (o1 ++ [x1.1]) (fun _ => rfl)) .nil)))))))) ?_
          clear hk; intro k hk
          refine Go.rx 20 { ws := [(0, { v := some (ti (t161 + 1)) })] } [] [0, 5, 6, 14, 15, 16] _ [(0, .sl 1 .shr key.length (u8s key)), (5, .addr 10 0), (6, .ref 11 33 0 ((o1 ++ [x1.1]).length)), (14, .sl 1 g_l l.length (b8s .shr l)), (15, ti (l.length : Int)), (16, ti (t161 + 1))] [(10, (hD x1.1)), (11, fl (fun c : UInt64 × List UInt8 => (hD c)) (o1 ++ [x1.1]))] hk rfl kr (.cons trivial (.cons (iw (t161 + 1) om) .nil)) ?_
          clear hk; intro k hk
          exact Go.join 20 hk hl1 rfl (ihl1 (t161 + 1) x1.1 (o1 ++ [x1.1]) qg2_3 qg2_3 qg2_3 om)
      · have ct1p := of_decide_eq_false ct1
        refine Go.keepN [6] (L' := [(6, .ref 11 33 0 o1.length)]) rfl ?_
        exact Go.exitX (Pf := (PostX Γ chain_heads_enc)) (F := fun z : hDT × (List (UInt64 × List UInt8)) => chain_heads_k1 z.1 z.2) (a := (d1, o1)) (Go.join 20 hk hxl1 rfl (Xl1 d1 o1 qg2_3))
  exact Ll1 _ 0 (0, List.replicate 32 (0 : UInt8)) [(0, List.replicate 32 (0 : UInt8))] qg2_3 qg2_3 qg2_3 (Nat.lt_succ_self _)
noncomputable def hAt (key : List UInt8) (l : List (List UInt8)) : Nat → UInt64 × List UInt8
  | 0 => (0, List.replicate 32 0)
  | n + 1 => ((hAt key l n).1 + 1, hmac_Mac key (fxa 32 (hAt key l n).2 ++ l.getD n []))
theorem hAt_n (key : List UInt8) (l : List (List UInt8)) : ∀ n : Nat, n < 9223372036854775808 → (hAt key l n).1.toNat = n
  | 0, _ => rfl
  | n + 1, h => by rw [hAt, UInt64.toNat_add, hAt_n key l n (by omega), show (1 : UInt64).toNat = 1 from rfl, Nat.mod_eq_of_lt (by omega)]
theorem heads_l1 (key : List UInt8) (l : List (List UInt8)) (hn : l.length ≤ 1000000) : ∀ (m i : Nat) (o : List (UInt64 × List UInt8)), i ≤ l.length → l.length - i < m → chain_heads_l1 key l m (i : Int) (hAt key l i) o = Lo.brk (hAt key l l.length, o ++ ((List.range (l.length - i)).map fun j => hAt key l (i + 1 + j)))
  | 0, _, _, _, h => absurd h (Nat.not_lt_zero _)
  | m + 1, i, o, h1, h2 => by
    rw [chain_heads_l1]
    by_cases c : i < l.length
    · rw [decide_eq_true (by omega : (i : Int) < (l.length : Int)), cond_true, Int.toNat_natCast, next_val _ _ _ _ (next_lt (by rw [hAt_n key l i (by omega)]; omega)), bnd_eq]
      have w := heads_l1 key l hn m (i + 1) (o ++ [hAt key l (i + 1)]) (by omega) (by omega)
      rw [Int.natCast_add i 1] at w
      refine Eq.trans (b := chain_heads_l1 key l m ((i : Int) + ((1 : Nat) : Int)) (hAt key l (i + 1)) (o ++ [hAt key l (i + 1)])) ?_ (w.trans ?_)
      · rfl
      · congr 2
        rw [List.append_assoc, show l.length - i = (l.length - (i + 1)) + 1 by omega, List.range_succ_eq_map, List.map_cons, List.map_map, List.singleton_append]
        congr 2
        apply List.map_congr_left
        intro j _
        show hAt key l (i + 1 + 1 + j) = hAt key l (i + 1 + (j + 1))
        congr 1; omega
    · have e : i = l.length := by omega
      subst e
      rw [decide_eq_false (by omega), cond_false, Nat.sub_self]
      simp
theorem heads_eq (key : List UInt8) (l : List (List UInt8)) (hn : l.length ≤ 1000000) : chain_heads key l = (List.range (l.length + 1)).map (hAt key l) := by
  rw [chain_heads, show chain_heads_l1 key l (((l.length : Int) - (0 : Int)).toNat + 1) 0 (0, List.replicate 32 (0 : UInt8)) [(0, List.replicate 32 (0 : UInt8))] = _ from heads_l1 key l hn (((l.length : Int) - (0 : Int)).toNat + 1) 0 [(0, List.replicate 32 (0 : UInt8))] (Nat.zero_le _) (by omega), elB, chain_heads_k1, Nat.sub_zero, List.range_succ_eq_map, List.map_cons, List.map_map, List.singleton_append]
  show hAt key l 0 :: List.map (fun j => hAt key l (0 + 1 + j)) (List.range l.length) = hAt key l 0 :: List.map (hAt key l ∘ Nat.succ) (List.range l.length)
  refine congrArg (hAt key l 0 :: ·) (List.map_congr_left fun j _ => ?_)
  show hAt key l (0 + 1 + j) = hAt key l (j + 1)
  congr 1; omega
theorem heads_at (key : List UInt8) (l : List (List UInt8)) (hn : l.length ≤ 1000000) (i : Nat) (hi : i ≤ l.length) : (chain_heads key l).getD i ((0, []) : UInt64 × List UInt8) = hAt key l i := by
  rw [heads_eq key l hn, List.getD_eq_getElem?_getD, List.getElem?_map, List.getElem?_range (by omega)]; rfl
theorem heads_len (key : List UInt8) (l : List (List UInt8)) (hn : l.length ≤ 1000000) : (chain_heads key l).length = l.length + 1 := by
  rw [heads_eq key l hn, List.length_map, List.length_range]
theorem heads_fact (key : List UInt8) (l : List (List UInt8)) (hn : l.length ≤ 1000000) : (chain_heads key l).length = l.length + 1 ∧ ((chain_heads key l).getD ((((chain_heads key l).length : Int) - 1).toNat) ((0, []) : UInt64 × List UInt8)).1.toNat = l.length := by
  have h := heads_len key l hn
  refine ⟨h, ?_⟩
  rw [h, show (((l.length + 1 : Nat) : Int) - 1).toNat = l.length by omega, heads_at key l hn _ (Nat.le_refl _), hAt_n _ _ _ (by omega)]
attribute [irreducible] chain_heads_k1 chain_heads_l1 chain_heads
noncomputable def chain_Of (key : List UInt8) (l : List (List UInt8)) : (UInt64 × List UInt8) :=
  bnd (chain_heads key l) fun x1 =>
  ((x1.getD (((x1.length : Int) - 1).toNat) ((0, []) : UInt64 × List UInt8)).1, (x1.getD (((x1.length : Int) - 1).toNat) ((0, []) : UInt64 × List UInt8)).2)
def chain_Of_enc (x : (UInt64 × List UInt8)) : T × List (Nat × List T) := (.agg (hD x), [])
theorem chain_Of_m {g_l : Tag} (key : List UInt8) (l : List (List UInt8)) (hl : key.length ≤ 1000000000) (hq : ∀ i : Nat, (l.getD i []).length ≤ 800000000) (hn : l.length ≤ 1000000) : Meets Tryd.prog 25 [.sl 1 .shr key.length (u8s key), .sl 1 g_l l.length (b8s .shr l)] [] [] (.agg (hD (chain_Of key l))) [] := by
  refine Meets.enterX (E := E) (N := 15) (enc := chain_Of_enc) (x := (chain_Of key l)) Tryd.func25 Tryd.call25 rfl rfl ?_
  intro Γ k hk
  refine Go.rx 20 { ws := [(0, { id := 10 })] } [] [0, 1, 4] _ [(0, .sl 1 .shr key.length (u8s key)), (1, .sl 1 g_l l.length (b8s .shr l)), (4, .addr 10 0)] [(10, qg2_9)] hk rfl kr .nil ?_
  clear hk; intro k hk
  refine Go.rx 20 { ws := [(2, { call := some { ids := [], S := [], M := [], R := .sl 33 .shr (chain_heads key l).length (fl (fun c : UInt64 × List UInt8 => (hD c)) (chain_heads key l)), H' := [] } })] } [] [4, 5] _ [(4, .addr 10 0), (5, .sl 33 .shr (chain_heads key l).length (fl (fun c : UInt64 × List UInt8 => (hD c)) (chain_heads key l)))] [(10, qg2_9)] hk rfl kr (.cons (chain_heads_m (g_l := g_l) key l qg2_5 qg2_1 qg2_2) (.cons (sb : subN (idsL [.sl 1 .shr key.length (u8s key), .sl 1 g_l l.length (b8s .shr l)]) [] = true) .nil)) ?_
  clear hk; intro k hk
  refine Go.bnd (Pf := (PostX Γ chain_Of_enc)) (v := (chain_heads key l)) (fun x1 => [(4, .addr 10 0), (5, .sl 33 .shr x1.length (fl (fun c : UInt64 × List UInt8 => (hD c)) x1))]) (fun x1 => [(10, qg2_9)]) ?_
  intro x1 hx1
  have fx1 := heads_fact key l qg2_2
  rw [← hx1] at fx1
  obtain ⟨fx1l, fx1n⟩ := fx1
  refine Go.rx 20 { ws := [(3, { v := some (ti ((x1.length : Int) - 1)) }), (5, { v := some (.agg (hD (x1.getD (((x1.length : Int) - 1).toNat) ((0, []) : UInt64 × List UInt8)))) })] } [] [4] _ [(4, .addr 10 0)] [(10, (hD (x1.getD (((x1.length : Int) - 1).toNat) ((0, []) : UInt64 × List UInt8))))] hk rfl kr (.cons trivial (.cons (iw ((x1.length : Int) - 1) om) (.cons (om : 0 ≤ ((x1.length : Int) - 1 : Int) ∧ ((x1.length : Int) - 1 : Int) < ((x1.length : Nat) : Int)) (.cons (fl_part (g := (fun c : UInt64 × List UInt8 => (hD c))) (k := ((x1.length : Int) - 1).toNat * 33) (n := ((x1.length : Int) - 1).toNat) (l := x1) (d := ((0, []) : UInt64 × List UInt8)) (kr : (E.ti 46).agg = true) rfl (fun _ => rfl) rfl om rfl) .nil)))) ?_
  clear hk; intro k hk
  exact Go.lvx 20 [] _ [.agg (hD (x1.getD (((x1.length : Int) - 1).toNat) ((0, []) : UInt64 × List UInt8)))] Tryd.func25 hk rfl kr (.cons (by decide : 0 + 33 ≤ 33) .nil) (T.Le.of_eq rfl) rfl rfl .nil
attribute [irreducible] chain_Of
noncomputable def chain_Verify (key : List UInt8) (l : List (List UInt8)) (h0 : UInt64) (h1 : List UInt8) : Bool :=
  bnd (chain_Of key l) fun x1 =>
  ((x1.1) == h0) && (fxa 32 (x1.2) == fxa 32 h1)
def chain_Verify_enc (x : Bool) : T × List (Nat × List T) := (tb x, [])
theorem chain_Verify_m {g_l : Tag} (key : List UInt8) (l : List (List UInt8)) (h0 : UInt64) (h1 : List UInt8) (hl : key.length ≤ 1000000000) (hq : ∀ i : Nat, (l.getD i []).length ≤ 800000000) (hn : l.length ≤ 1000000) : Meets Tryd.prog 26 [.sl 1 .shr key.length (u8s key), .sl 1 g_l l.length (b8s .shr l), .agg ([t64 h0] ++ u8s (fxa 32 h1))] [] [] (tb (chain_Verify key l h0 h1)) [] := by
  refine Meets.enterX (E := E) (N := 12) (enc := chain_Verify_enc) (x := (chain_Verify key l h0 h1)) Tryd.func26 Tryd.call26 rfl rfl ?_
  intro Γ k hk
  refine Go.rx 20 { ws := [(0, { id := 10 })] } [] [0, 1, 5] _ [(0, .sl 1 .shr key.length (u8s key)), (1, .sl 1 g_l l.length (b8s .shr l)), (5, .addr 10 0)] [(10, ([t64 h0] ++ u8s (fxa 32 h1)))] hk rfl kr .nil ?_
  clear hk; intro k hk
  refine Go.dx 20 [0, 1, 2, 3, 4, 5] { ws := [(2, { call := some { ids := [], S := [], M := [], R := .agg (hD (chain_Of key l)), H' := [] } }), (4, { v := some (tb ((((chain_Of key l).1) == h0) && (fxa 32 ((chain_Of key l).2) == fxa 32 h1))) })] } [10] [6] _ [(6, tb ((((chain_Of key l).1) == h0) && (fxa 32 ((chain_Of key l).2) == fxa 32 h1)))] [] hk rfl kr (.cons (chain_Of_m (g_l := g_l) key l qg2_5 qg2_1 qg2_2) (.cons (sb : subN (idsL [.sl 1 .shr key.length (u8s key), .sl 1 g_l l.length (b8s .shr l)]) [] = true) (.cons (eqMt (eqLc (leq64 ((chain_Of key l).1) h0) (eqL_fxa 32 ((chain_Of key l).2) h1))) .nil))) ?_
  clear hk; intro k hk
  refine Go.bnd (Pf := (PostX Γ chain_Verify_enc)) (v := (chain_Of key l)) (fun x1 => [(6, tb (((x1.1) == h0) && (fxa 32 (x1.2) == fxa 32 h1)))]) (fun x1 => []) ?_
  intro x1 hx1
  exact Go.lvx 20 [] _ [tb (((x1.1) == h0) && (fxa 32 (x1.2) == fxa 32 h1))] Tryd.func26 hk rfl kr .nil (T.Le.of_eq rfl) rfl rfl .nil
attribute [irreducible] chain_Verify
noncomputable def chain_Encode (h0 : UInt64) (h1 : List UInt8) : List UInt8 :=
  bnd (wire_Number h0) fun x1 =>
  (slices_Concat ([x1, (fxa 32 h1 : List UInt8)] : List (List UInt8)))
def chain_Encode_enc (x : List UInt8) : T × List (Nat × List T) := (.sl 1 .shr x.length (u8s x), [])
theorem chain_Encode_m (h0 : UInt64) (h1 : List UInt8) : Meets Tryd.prog 27 [.agg ([t64 h0] ++ u8s (fxa 32 h1))] [] [] (.sl 1 .shr (chain_Encode h0 h1).length (u8s (chain_Encode h0 h1))) [] := by
  refine Meets.enterX (E := E) (N := 10) (enc := chain_Encode_enc) (x := (chain_Encode h0 h1)) Tryd.func27 Tryd.call27 rfl rfl ?_
  intro Γ k hk
  refine Go.rx 20 { ws := [(0, { id := 10, gv := true })] } [10] [1] _ [(1, .pt .shr 0 ([t64 h0] ++ u8s (fxa 32 h1)))] [] hk rfl kr (.cons (rfl : idsL ([t64 h0] ++ u8s (fxa 32 h1)) = []) .nil) ?_
  clear hk; intro k hk
  refine Go.dx 20 [0, 1, 2, 3, 4, 5, 6, 7] { ws := [(2, { call := some { ids := [], S := [], M := [], R := .sl 1 .shr (wire_Number h0).length (u8s (wire_Number h0)), H' := [] } }), (4, { v := some (.sl 1 .shr (fxa 32 h1 : List UInt8).length (u8s (fxa 32 h1 : List UInt8))) }), (5, { id := 11 }), (6, { call := some { ids := [], S := [], M := [11], R := .ref 12 1 0 ((slices_Concat ([(wire_Number h0), (fxa 32 h1 : List UInt8)] : List (List UInt8))).length), H' := [(12, u8s (slices_Concat ([(wire_Number h0), (fxa 32 h1 : List UInt8)] : List (List UInt8))))] } })], pg := [12] } [11] [2] _ [(2, .ref 12 1 0 ((slices_Concat ([(wire_Number h0), (fxa 32 h1 : List UInt8)] : List (List UInt8))).length))] [(12, u8s (slices_Concat ([(wire_Number h0), (fxa 32 h1 : List UInt8)] : List (List UInt8))))] hk rfl kr (.cons (wire_Number_m h0) (.cons (sb : subN (idsL [t64 h0]) [] = true) (.cons (by decide : 0 ≤ (0 : Int) ∧ (0 : Int) ≤ ((32 : Nat) : Int) ∧ ((32 : Nat) : Int) ≤ ((32 : Nat) : Int) ∧ ((32 : Nat) : Int) ≤ ((32 : Nat) : Int)) (.cons (by kernel_rfl : T.sl 1 .shr 32 (sub ([t64 h0] ++ u8s (fxa 32 h1)) 1 (32 * 1)) = .sl 1 .shr (fxa 32 h1 : List UInt8).length (u8s (fxa 32 h1 : List UInt8))) (.cons (Meets.sw [(99, 12)] (Meets.eqA (A := [.sl 1 .brw 2 (sub [.sl 1 .shr (wire_Number h0).length (u8s (wire_Number h0)), .sl 1 .shr (fxa 32 h1 : List UInt8).length (u8s (fxa 32 h1 : List UInt8))] 0 (2 * 1))]) (by first | rfl | (simp only [mp_all]; done) | (simp only [mp_all]; rfl)) (slices_Concat_m (g_slices := .brw) ([(wire_Number h0), (fxa 32 h1 : List UInt8)] : List (List UInt8)) (by first | (simp; done) | (simp <;> omega) | omega) (by refine (cons_le ?_ (cons_le ?_ nil_le)) <;> first | omega | (simp only [List.length_replicate, List.length_cons, List.length_nil, List.length_append]; omega) | (simp <;> omega)))) : Meets Tryd.prog 33 [.sl 1 .brw 2 (sub [.sl 1 .shr (wire_Number h0).length (u8s (wire_Number h0)), .sl 1 .shr (fxa 32 h1 : List UInt8).length (u8s (fxa 32 h1 : List UInt8))] 0 (2 * 1))] [] [] (.ref 12 1 0 ((slices_Concat ([(wire_Number h0), (fxa 32 h1 : List UInt8)] : List (List UInt8))).length)) [(12, u8s (slices_Concat ([(wire_Number h0), (fxa 32 h1 : List UInt8)] : List (List UInt8))))]) (.cons (rfl : idsL [.sl 1 .shr (wire_Number h0).length (u8s (wire_Number h0)), .sl 1 .shr (fxa 32 h1 : List UInt8).length (u8s (fxa 32 h1 : List UInt8))] = []) (.cons (by decide : 0 + 2 * 1 ≤ 2) (.cons (sb : subN (idsL [.sl 1 .brw 2 (sub [.sl 1 .shr (wire_Number h0).length (u8s (wire_Number h0)), .sl 1 .shr (fxa 32 h1 : List UInt8).length (u8s (fxa 32 h1 : List UInt8))] 0 (2 * 1))]) [] = true) (.cons (nb : T.noB (.ref 12 1 0 ((slices_Concat ([(wire_Number h0), (fxa 32 h1 : List UInt8)] : List (List UInt8))).length)) = true) (.cons (mp_noB (g := (fun c : UInt8 => T.leaf (.int .u8 c.toNat))) (slices_Concat ([(wire_Number h0), (fxa 32 h1 : List UInt8)] : List (List UInt8))) (fun _ => rfl)) (.cons (mp_mem (i := 11) (g := (fun c : UInt8 => T.leaf (.int .u8 c.toNat))) (slices_Concat ([(wire_Number h0), (fxa 32 h1 : List UInt8)] : List (List UInt8))) (fun _ => rfl)) .nil))))))))))) ?_
  clear hk; intro k hk
  refine Go.bnd (Pf := (PostX Γ chain_Encode_enc)) (v := (wire_Number h0)) (fun x1 => [(2, .ref 12 1 0 ((slices_Concat ([x1, (fxa 32 h1 : List UInt8)] : List (List UInt8))).length))]) (fun x1 => [(12, u8s (slices_Concat ([x1, (fxa 32 h1 : List UInt8)] : List (List UInt8))))]) ?_
  intro x1 hx1
  have fx1 := number_fact h0
  rw [← hx1] at fx1
  refine Go.frz [] [] 2 12 (u8s (slices_Concat ([x1, (fxa 32 h1 : List UInt8)] : List (List UInt8)))) _ [(2, .dead)] [] rfl rfl (mp_ids (g := (fun c : UInt8 => T.leaf (.int .u8 c.toNat))) (slices_Concat ([x1, (fxa 32 h1 : List UInt8)] : List (List UInt8))) (fun _ => rfl)) (by simp only [List.length_map]; omega) (mp_all (g := (fun c : UInt8 => T.leaf (.int .u8 c.toNat))) (slices_Concat ([x1, (fxa 32 h1 : List UInt8)] : List (List UInt8)))) kr .nil ?_
  exact Go.lvx 20 [] _ [.sl 1 .shr (slices_Concat ([x1, (fxa 32 h1 : List UInt8)] : List (List UInt8))).length (u8s (slices_Concat ([x1, (fxa 32 h1 : List UInt8)] : List (List UInt8))))] Tryd.func27 hk rfl kr .nil (T.Le.of_eq rfl) rfl rfl .nil
attribute [irreducible] chain_Encode
noncomputable def chain_Decode (b : List UInt8) : (UInt64 × List UInt8) × Int :=
  bif (b.length : Int) != 40 then
    ((0, List.replicate 32 (0 : UInt8)), 4)
  else
    bnd (wire_Read (slc b 0 8)) fun x1 =>
    bif !(decide (x1.2 = 0)) then
      ((0, List.replicate 32 (0 : UInt8)), x1.2)
    else
      ((x1.1, slc b 8 (b.length : Int)), 0)
def chain_Decode_enc (x : (UInt64 × List UInt8) × Int) : T × List (Nat × List T) := (.tup [.agg (hD x.1), er 65 x.2], [])
theorem chain_Decode_m {g_b : Tag} (b : List UInt8) : Meets Tryd.prog 22 [.sl 1 g_b b.length (u8s b)] [] [] (.tup [.agg (hD ((chain_Decode b).1)), er 65 ((chain_Decode b).2)]) [] := by
  refine Meets.enterX (E := E) (N := 27) (enc := chain_Decode_enc) (x := (chain_Decode b)) Tryd.func22 Tryd.call22 rfl rfl ?_
  intro Γ k hk
  refine Go.rx 20 { ws := [(0, { id := 10 })] } [] [0, 2] _ [(0, .sl 1 g_b b.length (u8s b)), (2, .addr 10 0)] [(10, qg2_9)] hk rfl kr .nil ?_
  clear hk; intro k hk
  refine Go.rx 20 {} [] [0, 2, 8] _ [(0, .sl 1 g_b b.length (u8s b)), (2, .addr 10 0), (8, tb ((b.length : Int) != 40))] [(10, qg2_9)] hk rfl kr (.cons trivial .nil) ?_
  clear hk; intro k hk
  refine Go.br 20 (Pf := (PostX Γ chain_Decode_enc)) hk rfl rfl ?_ ?_ <;> clear hk <;> intro ct1 k hk
  · have ct1p := neIt ct1
    refine Go.rx 20 {} [] [2, 3] _ [(2, .addr 10 0), (3, er 65 4)] [(10, qg2_9)] hk rfl kr .nil ?_
    clear hk; intro k hk
    exact Go.lvx 20 [] _ [.agg qg2_9, er 65 4] Tryd.func22 hk rfl kr (.cons (by decide : 0 + 33 ≤ 33) .nil) (T.Le.tup (.cons (T.Le.of_eq rfl) (.cons (T.Le.of_eq rfl) .nil))) rfl (by first | rfl | (simp only [chain_Decode_enc, T.ids, idsL, er_ids, List.append_nil, List.nil_append]; first | rfl | (rw [mp_ids _ (fun _ => rfl)]; rfl))) .nil
  · have ct1p := neIf ct1
    refine Go.rx 20 { ws := [(1, { v := some (.sl 1 g_b (slc b 0 8).length (u8s (slc b 0 8))) }), (2, { call := some { ids := [], S := [], M := [], R := .tup [t64 ((wire_Read (slc b 0 8)).1), er 65 ((wire_Read (slc b 0 8)).2)], H' := [] } })] } [] [0, 2, 4, 5] _ [(0, .sl 1 g_b b.length (u8s b)), (2, .addr 10 0), (4, t64 ((wire_Read (slc b 0 8)).1)), (5, er 65 ((wire_Read (slc b 0 8)).2))] [(10, qg2_9)] hk rfl kr (.cons (om : 0 ≤ (0 : Int) ∧ (0 : Int) ≤ 8 ∧ 8 ≤ (b.length : Int) ∧ (b.length : Int) ≤ (b.length : Nat)) (.cons (sl_slc (t := g_b) (g := (fun c : UInt8 => T.leaf (.int .u8 c.toNat))) (lo := 0) (hi := 8) b om rfl rfl) (.cons (wire_Read_m (g_b := g_b) (slc b 0 8)) (.cons (sb : subN (idsL [.sl 1 g_b (slc b 0 8).length (u8s (slc b 0 8))]) [] = true) .nil)))) ?_
    clear hk; intro k hk
    refine Go.bnd (Pf := (PostX Γ chain_Decode_enc)) (v := (wire_Read (slc b 0 8))) (fun x1 => [(0, .sl 1 g_b b.length (u8s b)), (2, .addr 10 0), (4, t64 x1.1), (5, er 65 x1.2)]) (fun x1 => [(10, qg2_9)]) ?_
    intro x1 hx1
    refine Go.rx 20 { ws := [(1, { er := some (65, x1.2) })] } [] [0, 2, 4, 5, 18] _ [(0, .sl 1 g_b b.length (u8s b)), (2, .addr 10 0), (4, t64 x1.1), (5, er 65 x1.2), (18, tb (!(decide (x1.2 = 0))))] [(10, qg2_9)] hk rfl kr (.cons (⟨rfl, rfl⟩ : (er 65 x1.2) = er 65 x1.2 ∧ (.leaf .nilIface : T) = .leaf .nilIface) .nil) ?_
    clear hk; intro k hk
    refine Go.br 20 (Pf := (PostX Γ chain_Decode_enc)) hk rfl rfl ?_ ?_ <;> clear hk <;> intro ct2 k hk
    · have ct2' : (decide (x1.2 = 0)) = false := ntT ct2
      have ct2'p := of_decide_eq_false ct2'
      refine Go.rx 20 {} [] [2, 3] _ [(2, .addr 10 0), (3, er 65 x1.2)] [(10, qg2_9)] hk rfl kr .nil ?_
      clear hk; intro k hk
      exact Go.lvx 20 [] _ [.agg qg2_9, er 65 x1.2] Tryd.func22 hk rfl kr (.cons (by decide : 0 + 33 ≤ 33) .nil) (T.Le.tup (.cons (T.Le.of_eq rfl) (.cons (T.Le.of_eq rfl) .nil))) rfl (by first | rfl | (simp only [chain_Decode_enc, T.ids, idsL, er_ids, List.append_nil, List.nil_append]; first | rfl | (rw [mp_ids _ (fun _ => rfl)]; rfl))) .nil
    · have ct2' : (decide (x1.2 = 0)) = true := ntF ct2
      have ct2'p := of_decide_eq_true ct2'
      refine Go.rx 20 { ws := [(2, { v := some (.sl 1 g_b (slc b 8 (b.length : Int)).length (u8s (slc b 8 (b.length : Int)))) }), (4, { v := some (.agg (u8s (fxa 32 (slc b 8 (b.length : Int))))) })] } [] [2, 3] _ [(2, .addr 10 0), (3, .leaf .nilIface)] [(10, ([t64 x1.1] ++ u8s (fxa 32 (slc b 8 (b.length : Int)))))] hk rfl kr (.cons (om : 0 ≤ (8 : Int) ∧ (8 : Int) ≤ (b.length : Int) ∧ (b.length : Int) ≤ (b.length : Int) ∧ (b.length : Int) ≤ (b.length : Nat)) (.cons (sl_slc (t := g_b) (g := (fun c : UInt8 => T.leaf (.int .u8 c.toNat))) (lo := 8) (hi := (b.length : Int)) b om rfl rfl) (.cons (om : 32 ≤ (slc b 8 (b.length : Int)).length) (.cons (fx_whole (kr : (E.ti 24).agg = true) (kr : (E.ti 24).size = 32) (by first | (simp; done) | (with_reducible assumption) | omega | (simp <;> omega) | rfl : (slc b 8 (b.length : Int)).length = 32)) .nil)))) ?_
      clear hk; intro k hk
      exact Go.lvx 20 [] _ [.agg ([t64 x1.1] ++ u8s (fxa 32 (slc b 8 (b.length : Int)))), .leaf .nilIface] Tryd.func22 hk rfl kr (.cons (by decide : 0 + 33 ≤ 33) .nil) (T.Le.tup (.cons (T.Le.of_eq rfl) (.cons (T.Le.of_eq rfl) .nil))) rfl rfl .nil
attribute [irreducible] chain_Decode
end Go.Proofs.YtdlnppcndcfikaaDoor

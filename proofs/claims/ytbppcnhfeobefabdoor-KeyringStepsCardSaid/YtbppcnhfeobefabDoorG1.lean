import Derived.Test.YtbppcnhfeobefabDoorF1
import Derived.Test.YtbppcnhfeobefabDoorEnVy0
set_option linter.unusedVariables false
namespace Go.Proofs.YtbppcnhfeobefabDoor
open Go Go.Vw Go.Proofs
abbrev Tn : Type := (UInt32 × List UInt8)
abbrev gTm : UInt32 × List UInt8 → List T := (fun c : UInt32 × List UInt8 => ([t32 c.1] ++ u8s (fxa 32 c.2)))
theorem qg1_1 {p : Prop} (h : p := by first | rfl | (rw [fl_ids (g := gTm) (fun _ => rfl) _]; rfl)) : p := h
noncomputable def kr_Check_k1  : Int :=
 0
noncomputable def kr_Check_l1 (r0 : List Tn) : Nat → Int → Lo Unit Int
 | 0, _ => .brk default
 | ml1 + 1, t191 =>
  bif decide (t191 < (r0.length : Int)) then
   bif ((r0.getD t191.toNat ((0, []) : UInt32 × List UInt8)).1) != (u32i (t191 + 1)) then
    Lo.ret 1
   else
    kr_Check_l1 r0 ml1 (t191 + 1)
  else
   Lo.brk ()
noncomputable def kr_Check (r0 : List Tn) : Int :=
 bif (decide ((r0.length : Int) < 1)) || (decide ((r0.length : Int) > 16)) then
  1
 else
  Lo.el (kr_Check_l1 r0 (((r0.length : Int) - (0 : Int)).toNat + 1) 0) (fun z : Unit => kr_Check_k1)
def kr_Check_enc (x : Int) : T × List (Nat × List T) := (er 105 x, [])
theorem kr_Check_m {g_r0 : Tag} (r0 : List Tn) : Meets Tryd.prog 47 [.agg ([.sl 33 g_r0 r0.length (fl gTm r0)])] [] [] (er 105 (kr_Check r0)) [] := by
 refine Meets.enterX (E := E) (N := 32) (enc := kr_Check_enc) (x := (kr_Check r0)) Tryd.func47 Tryd.call47 rfl rfl ?_
 intro Γ k hk
 refine Go.rx 20 { ws := [(0, { id := 10 })] } [] [1] _ [(1, .addr 10 0)] [(10, [.sl 33 g_r0 r0.length (fl gTm r0)])] hk rfl kr .nil ?_
 clear hk; intro k hk
 refine Go.regJ 20 [(1, .addr 10 0), (14, tb ((decide ((r0.length : Int) < 1)) || (decide ((r0.length : Int) > 16))))] [(10, [.sl 33 g_r0 r0.length (fl gTm r0)])] hk rfl ?_ ?_
 ·clear hk; intro k hk
  refine Go.br 20 (Pf := (PostX Γ kr_Check_enc)) hk rfl rfl ?_ ?_ <;> clear hk <;> intro ct1 k hk
  ·refine Go.rx 20 { ps := [2, 15] } [10] [2] _ [(2, er 105 1)] [] hk rfl kr (.cons (er_mem (i := 10) 105 1) (.cons (er_mem (i := 10) 105 1) .nil)) ?_
   clear hk; intro k hk
   exact Go.lvx 20 [] _ [er 105 1] Tryd.func47 hk rfl kr .nil (T.Le.of_eq rfl) rfl (by first | rfl | (simp only [kr_Check_enc, T.ids, idsL, er_ids, List.append_nil, List.nil_append]; first | rfl | (rw [mp_ids _ (fun _ => rfl)]; rfl))) .nil
  ·have ct11 : (decide ((r0.length : Int) < 1)) = false := (Bool.or_eq_false_iff.1 ct1).1
   have ct12 : (decide ((r0.length : Int) > 16)) = false := (Bool.or_eq_false_iff.1 ct1).2
   have ct11p := of_decide_eq_false ct11
   have ct12p := of_decide_eq_false ct12
   refine Go.rx 20 {} [10] [17, 18, 19] _ [(17, .sl 33 g_r0 r0.length (fl gTm r0)), (18, ti (r0.length : Int)), (19, ti 0)] [] hk rfl kr .nil ?_
   clear hk; intro k hk
   refine Go.loopX 20 hk rfl ?_
   clear hk; intro kl1 kxl1 hl1 hxl1
   have Xl1 : ∀ (_ : True), Go E Γ 47 32 [] ((PostX Γ kr_Check_enc) (kr_Check_k1)) kxl1 (stL [] []) := by
    intro _
    refine Go.rx 20 {} [] [2] _ [(2, .leaf .nilIface)] [] hxl1 rfl kr .nil ?_
    clear hxl1; intro kxl1 hxl1
    exact Go.lvx 20 [] _ [.leaf .nilIface] Tryd.func47 hxl1 rfl kr .nil (T.Le.of_eq rfl) rfl rfl .nil
   have Ll1 : ∀ (ml1 : Nat) (t191 : Int), (0 ≤ t191) → (((r0.length : Int) - t191).toNat < ml1) → Go E Γ 47 32 [] ((PostX Γ kr_Check_enc) (Lo.el (kr_Check_l1 r0 ml1 t191) (fun z : Unit => kr_Check_k1))) kl1 (stL [(17, .sl 33 g_r0 r0.length (fl gTm r0)), (18, ti (r0.length : Int)), (19, ti t191)] []) := by
    intro ml1
    induction ml1 with
    | zero => intro t191 i0l1 hml1; exact absurd hml1 (Nat.not_lt_zero _)
    | succ ml1 ihl1 =>
     intro t191 i0l1 hml1
     rw [kr_Check_l1]
     refine Go.round hl1 ?_
     intro k hk
     refine Go.rx 20 {} [] [17, 18, 19, 20] _ [(17, .sl 33 g_r0 r0.length (fl gTm r0)), (18, ti (r0.length : Int)), (19, ti t191), (20, tb (decide (t191 < (r0.length : Int))))] [] hk rfl kr (.cons trivial .nil) ?_
     clear hk; intro k hk
     refine Go.br 20 (Pf := (fun z : Lo (Unit) (Int) => (PostX Γ kr_Check_enc) (Lo.el z (fun z : Unit => kr_Check_k1)))) hk rfl rfl ?_ ?_ <;> clear hk <;> intro ct2 k hk
     ·have ct2p := of_decide_eq_true ct2
      refine Go.rx 20 { ws := [(2, { v := some (.agg ([t32 ((r0.getD t191.toNat ((0, []) : UInt32 × List UInt8)).1)] ++ u8s (fxa 32 ((r0.getD t191.toNat ((0, []) : UInt32 × List UInt8)).2)))) }), (3, { id := 11 })] } [] [3, 4, 17, 18, 19] _ [(3, ti t191), (4, .addr 11 0), (17, .sl 33 g_r0 r0.length (fl gTm r0)), (18, ti (r0.length : Int)), (19, ti t191)] [(11, ([t32 ((r0.getD t191.toNat ((0, []) : UInt32 × List UInt8)).1)] ++ u8s (fxa 32 ((r0.getD t191.toNat ((0, []) : UInt32 × List UInt8)).2))))] hk rfl kr (.cons (om : 0 ≤ (t191 : Int) ∧ (t191 : Int) < ((r0.length : Nat) : Int)) (.cons (fl_part (m := 33) (g := gTm) (k := t191.toNat * 33) (n := t191.toNat) (l := r0) (d := ((0, []) : UInt32 × List UInt8)) (kr : (E.ti 93).agg = true) rfl (fun _ => rfl) rfl om rfl) .nil)) ?_
      clear hk; intro k hk
      refine Go.rx 20 { ws := [(3, { v := some (ti (t191 + 1)) }), (4, { v := some (t32 (u32i (t191 + 1))) }), (5, { v := some (tb (((r0.getD t191.toNat ((0, []) : UInt32 × List UInt8)).1) != (u32i (t191 + 1)))) })] } [11] [17, 18, 19, 29] _ [(17, .sl 33 g_r0 r0.length (fl gTm r0)), (18, ti (r0.length : Int)), (19, ti t191), (29, tb (((r0.getD t191.toNat ((0, []) : UInt32 × List UInt8)).1) != (u32i (t191 + 1))))] [] hk rfl kr (.cons trivial (.cons (iw (t191 + 1) om) (.cons (cvi_32 (t191 + 1)) (.cons trivial (.cons (neB32 ((r0.getD t191.toNat ((0, []) : UInt32 × List UInt8)).1) (u32i (t191 + 1))) .nil))))) ?_
      clear hk; intro k hk
      refine Go.br 20 (Pf := (fun z : Lo (Unit) (Int) => (PostX Γ kr_Check_enc) (Lo.el z (fun z : Unit => kr_Check_k1)))) hk rfl rfl ?_ ?_ <;> clear hk <;> intro ct3 k hk
      ·refine Go.rx 20 {} [] [2] _ [(2, er 105 1)] [] hk rfl kr .nil ?_
       clear hk; intro k hk
       exact Go.lvx 20 [] _ [er 105 1] Tryd.func47 hk rfl kr .nil (T.Le.of_eq rfl) rfl (by first | rfl | (simp only [kr_Check_enc, T.ids, idsL, er_ids, List.append_nil, List.nil_append]; first | rfl | (rw [mp_ids _ (fun _ => rfl)]; rfl))) .nil
      ·refine Go.rx 20 { ws := [(0, { v := some (ti (t191 + 1)) })] } [] [17, 18, 19] _ [(17, .sl 33 g_r0 r0.length (fl gTm r0)), (18, ti (r0.length : Int)), (19, ti (t191 + 1))] [] hk rfl kr (.cons trivial (.cons (iw (t191 + 1) om) .nil)) ?_
       clear hk; intro k hk
       exact Go.join 20 hk hl1 rfl (ihl1 (t191 + 1) om om)
     ·have ct2p := of_decide_eq_false ct2
      refine Go.keepN [] (L' := []) rfl ?_
      exact Go.exitX (Pf := (PostX Γ kr_Check_enc)) (F := fun z : Unit => kr_Check_k1) (a := ()) (Go.join 20 hk hxl1 rfl (Xl1 trivial))
   exact Ll1 _ 0 om (Nat.lt_succ_self _)
 ·intro hk J
  rcases Bool.eq_false_or_eq_true (decide ((r0.length : Int) < 1)) with gd1 | gd1
  ·have gd1p := of_decide_eq_true gd1
   refine Go.rx 20 { ws := [(3, { v := some (tb true) })] } [] [1, 14] _ [(1, .addr 10 0), (14, tb true)] [(10, [.sl 33 g_r0 r0.length (fl gTm r0)])] hk rfl kr (.cons trivial (.cons (eb gd1) .nil)) ?_
   intro k' hk'
   refine Go.slotEq 14 (tb ((decide ((r0.length : Int) < 1)) || (decide ((r0.length : Int) > 16)))) rfl (eb (orT gd1).symm) ?_
   exact J k' hk'
  ·have gd1p := of_decide_eq_false gd1
   refine Go.rx 20 { ws := [(3, { v := some (tb false) })] } [] [1, 14] _ [(1, .addr 10 0), (14, tb (decide ((r0.length : Int) > 16)))] [(10, [.sl 33 g_r0 r0.length (fl gTm r0)])] hk rfl kr (.cons trivial (.cons (eb gd1) (.cons trivial .nil))) ?_
   intro k' hk'
   refine Go.slotEq 14 (tb ((decide ((r0.length : Int) < 1)) || (decide ((r0.length : Int) > 16)))) rfl (eb (orF gd1 rfl).symm) ?_
   exact J k' hk'
theorem kr_Check_l1_gen : True := by have := @kr_Check_l1.eq_1; have := @kr_Check_l1.eq_2; trivial
attribute [irreducible] kr_Check_k1 kr_Check_l1 kr_Check
noncomputable def kr_First (key : List UInt8) : ((List Tn)) :=
 ([(1, key)] : List Tn)
def kr_First_enc (x : ((List Tn))) : T × List (Nat × List T) := (.agg ([.sl 33 .shr x.length (fl gTm x)]), [])
theorem kr_First_m (key : List UInt8) (hl_key : key.length = 32) : Meets Tryd.prog 31 [.agg (u8s key)] [] [] (.agg ([.sl 33 .shr (kr_First key).length (fl gTm (kr_First key))])) [] := by
 refine Meets.enterX (E := E) (N := 7) (enc := kr_First_enc) (x := (kr_First key)) Tryd.func31 Tryd.call31 rfl rfl ?_
 intro Γ k hk
 refine Go.rx 20 { ws := [(0, { id := 10 }), (1, { id := 11 })] } [] [1, 2] _ [(1, .addr 10 0), (2, .addr 11 0)] [(10, u8s key), (11, [.leaf (.slice none 0 0)])] hk rfl kr .nil ?_
 clear hk; intro k hk
 refine Go.rx 20 { ws := [(0, { v := some (.agg (u8s (fxa 32 key))) }), (2, { v := some (.sl 33 .shr ([(1, key)] : List Tn).length (fl gTm ([(1, key)] : List Tn))), id := 12, gv := true })] } [10, 12] [2] _ [(2, .addr 11 0)] [(11, [.sl 33 .shr ([(1, key)] : List Tn).length (fl gTm ([(1, key)] : List Tn))])] hk rfl kr (.cons (fx_whole (kr : (E.ti 74).agg = true) (kr : (E.ti 74).size = 32) (by first | (simp; done) | (with_reducible assumption) | omega | (simp <;> omega) | rfl : (key).length = 32)) (.cons (⟨rfl, Nat.le_of_ble_eq_true (by kernel_rfl)⟩ : idsL ([t32 1] ++ u8s (fxa 32 key)) = [] ∧ 1 * 33 ≤ (([t32 1] ++ u8s (fxa 32 key)) : List T).length) (.cons (by kernel_rfl : T.sl 33 .shr 1 (sub ([t32 1] ++ u8s (fxa 32 key)) 0 (1 * 33)) = .sl 33 .shr ([(1, key)] : List Tn).length (fl gTm ([(1, key)] : List Tn))) .nil))) ?_
 clear hk; intro k hk
 exact Go.lvx 20 [] _ [.agg ([.sl 33 .shr ([(1, key)] : List Tn).length (fl gTm ([(1, key)] : List Tn))])] Tryd.func31 hk rfl kr (.cons (by decide : 0 + 1 ≤ 1) .nil) (T.Le.of_eq rfl) rfl rfl .nil
attribute [irreducible] kr_First
noncomputable def tclone_x (ad : Addr) (cap : Nat) : (List Tn) :=
 []
def tclone_x_enc (x : (List Tn)) : T × List (Nat × List T) := (.ref 99 33 0 x.length, [(99, fl gTm x)])
theorem tclone_x_m (ad : Addr) (cap : Nat) : Meets Tryd.prog 66 [.leaf (.slice (some ad) 0 cap)] [] [] (.ref 99 33 0 ((tclone_x ad cap).length)) ([(99, fl gTm (tclone_x ad cap))]) := by
 refine Meets.enterX (E := E) (N := 8) (enc := tclone_x_enc) (x := (tclone_x ad cap)) Tryd.func66 Tryd.call66 rfl rfl ?_
 intro Γ k hk
 refine Go.rx 20 {} [] [0] _ [(0, .leaf (.slice (some ad) 0 cap))] [] hk rfl kr .nil ?_
 clear hk; intro k hk
 refine Go.rx 20 {} [] [0, 4] _ [(0, .leaf (.slice (some ad) 0 cap)), (4, tb false)] [] hk rfl kr (.cons (⟨93, by as_aux_lemma => kernel_rfl⟩ : ∃ e, (E.ti 70).k = .slice e) .nil) ?_
 clear hk; intro k hk
 refine Go.cond 20 hk rfl (t := false) rfl ?_; clear hk; intro k hk
 refine Go.rx 20 { ws := [(0, { id := 10 }), (2, { id := 10 })], ps := [0, 6], fd := some [10] } [] [2] _ [(2, .ref 10 33 0 0)] [(10, [])] hk rfl kr (.cons (by decide : (0 + 0) * 36 ≤ 140737488355328) (.cons (sb : memN 10 (T.ids (.leaf (.slice (some ad) 0 cap))) = false) (.cons (sb : memN 10 (T.ids (.leaf (.slice (some ad) 0 cap))) = false) .nil))) ?_
 clear hk; intro k hk
 refine Go.sw (L' := [(2, .ref 99 33 0 0)]) (H' := [(99, [])]) [(99, 10)] ?_
 exact Go.lvx 20 [99] _ [.ref 99 33 0 0] Tryd.func66 hk rfl kr .nil (T.Le.of_eq rfl) rfl rfl (.cons qg1_1 .nil)
attribute [irreducible] tclone_x
noncomputable def tclone_0 (cap : Nat) : (List Tn) :=
 []
def tclone_0_enc (x : (List Tn)) : T × List (Nat × List T) := (.ref 99 33 0 x.length, [(99, fl gTm x)])
theorem tclone_0_m (cap : Nat) : Meets Tryd.prog 66 [.leaf (.slice none 0 cap)] [] [] (.ref 99 33 0 ((tclone_0 cap).length)) ([(99, fl gTm (tclone_0 cap))]) := by
 refine Meets.enterX (E := E) (N := 8) (enc := tclone_0_enc) (x := (tclone_0 cap)) Tryd.func66 Tryd.call66 rfl rfl ?_
 intro Γ k hk
 refine Go.rx 20 {} [] [0] _ [(0, .leaf (.slice none 0 cap))] [] hk rfl kr .nil ?_
 clear hk; intro k hk
 refine Go.rx 20 {} [] [0, 4] _ [(0, .leaf (.slice none 0 cap)), (4, tb true)] [] hk rfl kr (.cons (⟨93, by as_aux_lemma => kernel_rfl⟩ : ∃ e, (E.ti 70).k = .slice e) .nil) ?_
 clear hk; intro k hk
 refine Go.cond 20 hk rfl (t := true) rfl ?_; clear hk; intro k hk
 refine Go.rx 20 {} [] [2] _ [(2, .leaf (.slice none 0 0))] [] hk rfl kr .nil ?_
 clear hk; intro k hk
 refine Go.phn 2 99 33 rfl (.inl rfl) rfl rfl ?_
 exact Go.lvx 20 [99] _ [.ref 99 33 0 0] Tryd.func66 hk rfl kr .nil (T.Le.of_eq rfl) rfl rfl (.cons qg1_1 .nil)
attribute [irreducible] tclone_0
noncomputable def tclone_s (s : List Tn) : (List Tn) :=
 [] ++ s
def tclone_s_enc (x : (List Tn)) : T × List (Nat × List T) := (.ref 99 33 0 x.length, [(99, fl gTm x)])
theorem tclone_s_m {g_s : Tag} (s : List Tn) (hs : 0 < s.length ∧ s.length ≤ 1000) : Meets Tryd.prog 66 [.sl 33 g_s s.length (fl gTm s)] [] [] (.ref 99 33 0 ((tclone_s s).length)) ([(99, fl gTm (tclone_s s))]) := by
 refine Meets.enterX (E := E) (N := 8) (enc := tclone_s_enc) (x := (tclone_s s)) Tryd.func66 Tryd.call66 rfl rfl ?_
 intro Γ k hk
 refine Go.rx 20 {} [] [0] _ [(0, .sl 33 g_s s.length (fl gTm s))] [] hk rfl kr .nil ?_
 clear hk; intro k hk
 refine Go.rx 20 {} [] [0, 4] _ [(0, .sl 33 g_s s.length (fl gTm s)), (4, tb false)] [] hk rfl kr (.cons (⟨by omega, ⟨93, by as_aux_lemma => kernel_rfl⟩⟩ : 0 < s.length ∧ ∃ e, (E.ti 70).k = .slice e) .nil) ?_
 clear hk; intro k hk
 refine Go.cond 20 hk rfl (t := false) rfl ?_; clear hk; intro k hk
 refine Go.rx 20 { ws := [(0, { id := 10 }), (2, { v := some (.ref 10 33 0 (([] ++ s).length)), c := some (fl gTm ([] ++ s)), id := 10, sym := true })], fd := some [10] } [] [2] _ [(2, .ref 10 33 0 (([] ++ s).length))] [(10, fl gTm ([] ++ s))] hk rfl kr (.cons (by first | decide | simp : 0 + 0 * 33 ≤ (([] : List T)).length) (.cons (fl_scal (g := gTm) (fun _ => rfl) s : scalL (fl gTm s) = true) (.cons (om : (0 + s.length) * 36 ≤ 140737488355328) (.cons (fl_app' (g := gTm) (m := 33) (k := 0) (fun _ => rfl) [] s rfl rfl) (.cons (fl_mem (i := 10) (g := gTm) ([] ++ s) (fun _ => rfl)) (.cons (by first | rfl | (simp; done) | (refine congrArg (fun q => T.ref 10 33 0 q) ?_; simp <;> omega) : T.ref 10 33 0 (0 + s.length) = .ref 10 33 0 (([] ++ s).length)) .nil)))))) ?_
 clear hk; intro k hk
 refine Go.sw (L' := [(2, .ref 99 33 0 (([] ++ s).length))]) (H' := [(99, fl gTm ([] ++ s))]) [(99, 10)] ?_
 exact Go.lvx 20 [99] _ [.ref 99 33 0 (([] ++ s).length)] Tryd.func66 hk rfl kr .nil (T.Le.of_eq rfl) rfl rfl (.cons qg1_1 .nil)
attribute [irreducible] tclone_s
theorem tclone_m {g_s : Tag} (s : List Tn) (hs : s.length ≤ 1000) : Meets Tryd.prog 66 [.sl 33 g_s s.length (fl gTm s)] [] [] (.ref 99 33 0 (id s).length) [(99, fl gTm (id s))] := by
 cases s with
 | nil =>
  have h0 : ∀ cap, tclone_0 cap = [] := fun cap => by rw [tclone_0]
  have hx : ∀ a cap, tclone_x a cap = [] := fun a cap => by rw [tclone_x]
  exact Meets.nilOr (m := 33) (g := g_s) (fun ad cap => match ad with | none => by have h := tclone_0_m cap; rw [h0] at h; exact h | some a => by have h := tclone_x_m a cap; rw [hx] at h; exact h)
 | cons x s =>
  have hq : ∀ s, tclone_s s = s := fun s => by rw [tclone_s]; first | rfl | simp
  have h := tclone_s_m (g_s := g_s) (x :: s) ⟨by simp, hs⟩
  rw [hq] at h; exact h
end Go.Proofs.YtbppcnhfeobefabDoor

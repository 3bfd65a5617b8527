import Derived.Test.YtbppcnhfeobefaaDoorH2
set_option linter.unusedVariables false
set_option linter.unusedSimpArgs false
namespace Go.Proofs.YtbppcnhfeobefaaDoor
open Go Go.Vw Go.Proofs
theorem qh5_1 {p : Prop} (h : p := by first | rfl | (rw [fl_ids (g := (fun c : Int × List UInt8 => [ti c.1, .sl 1 .shr c.2.length (u8s c.2)])) (fun _ => rfl) _]; rfl)) : p := h
theorem qh5_2 {p : Prop} (h : p := by first | rfl | (rw [mp_ids (g := (fun c : List UInt8 => tl .shr c)) _ (fun _ => rfl)]; rfl)) : p := h
theorem qh5_3 {p : Prop} (h : p := by first | rfl | (rw [mp_ids _ (fun _ => rfl)]; rfl)) : p := h
def nil_Safe_enc  (_ : Unit) : T × List (Nat × List T) := (.leaf (.slice none 0 0), [])
theorem nil_Safe_m  : Meets Tryd.prog 27 [.leaf (.pointer none)] [] [] (.leaf (.slice none 0 0)) [] := by
  refine Meets.enterX (E := E) (N := 10) (enc := nil_Safe_enc ) (x := ()) Tryd.func27 Tryd.call27 rfl rfl ?_
  intro Γ k hk
  refine Go.rx 20 {} [] [0] _ [(0, .leaf (.pointer none))] [] hk rfl kr .nil ?_
  clear hk; intro k hk
  refine Go.rx 20 {} [] [0, 4] _ [(0, .leaf (.pointer none)), (4, tb true)] [] hk rfl kr (.cons (⟨152, by as_aux_lemma => kernel_rfl⟩ : ∃ e, (E.ti 24).k = .ptr e) .nil) ?_
  clear hk; intro k hk
  refine Go.cond 20 hk rfl (t := true) rfl ?_; clear hk; intro k hk
  refine Go.rx 20 {} [] [2] _ [(2, .leaf (.slice none 0 0))] [] hk rfl kr .nil ?_
  clear hk; intro k hk
  exact Go.lvx 20 [] _ [.leaf (.slice none 0 0)] Tryd.func27 hk rfl kr .nil (T.Le.of_eq rfl) rfl rfl .nil
noncomputable def disk_Disk_Safe (d0 : List (List UInt8)) (d1 : List (Int × List UInt8)) (d2 : Int) (d3 : Bool) : List UInt8 × (Unit × Unit × Unit × Unit) :=
  bnd (slices_Concat d0) fun x1 =>
  (x1, ((), (), (), ()))
def disk_Disk_Safe_enc (d0 : List (List UInt8)) (d1 : List (Int × List UInt8)) (d2 : Int) (d3 : Bool) (x : List UInt8 × (Unit × Unit × Unit × Unit)) : T × List (Nat × List T) := (.sl 1 .shr x.1.length (u8s x.1), [(0, [.ref 21 1 0 d0.length, .ref 22 2 0 d1.length, ti d2, tb d3]), (21, b8s .shr d0), (22, fl (fun c : Int × List UInt8 => [ti c.1, .sl 1 .shr c.2.length (u8s c.2)]) d1)])
theorem disk_Disk_Safe_m (d0 : List (List UInt8)) (d1 : List (Int × List UInt8)) (d2 : Int) (d3 : Bool) (hD : okD 1000 d0 d1 d2) (h0 : d0.length ≤ 1000) : Meets Tryd.prog 27 [.addr 0 0] ([(0, [.ref 21 1 0 d0.length, .ref 22 2 0 d1.length, ti d2, tb d3]), (21, b8s .shr d0), (22, fl (fun c : Int × List UInt8 => [ti c.1, .sl 1 .shr c.2.length (u8s c.2)]) d1)]) [0, 21, 22] (.sl 1 .shr ((disk_Disk_Safe d0 d1 d2 d3).1).length (u8s ((disk_Disk_Safe d0 d1 d2 d3).1))) ([(0, [.ref 21 1 0 d0.length, .ref 22 2 0 d1.length, ti d2, tb d3]), (21, b8s .shr d0), (22, fl (fun c : Int × List UInt8 => [ti c.1, .sl 1 .shr c.2.length (u8s c.2)]) d1)]) := by
  refine Meets.enterX (E := E) (N := 10) (enc := (disk_Disk_Safe_enc d0 d1 d2 d3)) (x := (disk_Disk_Safe d0 d1 d2 d3)) Tryd.func27 Tryd.call27 rfl rfl ?_
  intro Γ k hk
  obtain ⟨hl0, hl1, hw, hm0, hm1, ha⟩ := hD
  refine Go.rx 20 {} [] [0] _ [(0, .addr 0 0)] [(0, [.ref 21 1 0 d0.length, .ref 22 2 0 d1.length, ti d2, tb d3]), (21, b8s .shr d0), (22, fl (fun c : Int × List UInt8 => [ti c.1, .sl 1 .shr c.2.length (u8s c.2)]) d1)] hk rfl kr .nil ?_
  clear hk; intro k hk
  refine Go.rx 20 {} [] [0, 4] _ [(0, .addr 0 0), (4, tb false)] [(0, [.ref 21 1 0 d0.length, .ref 22 2 0 d1.length, ti d2, tb d3]), (21, b8s .shr d0), (22, fl (fun c : Int × List UInt8 => [ti c.1, .sl 1 .shr c.2.length (u8s c.2)]) d1)] hk rfl kr (.cons (⟨152, by as_aux_lemma => kernel_rfl⟩ : ∃ e, (E.ti 24).k = .ptr e) .nil) ?_
  clear hk; intro k hk
  refine Go.cond 20 hk rfl (t := false) rfl ?_; clear hk; intro k hk
  refine Go.rx 20 { ws := [(4, { call := some { ids := [], S := [], M := [21], R := .sl 1 .shr (slices_Concat d0).length (u8s (slices_Concat d0)), H' := [] } })] } [] [2] _ [(2, .sl 1 .shr (slices_Concat d0).length (u8s (slices_Concat d0)))] [(0, [.ref 21 1 0 d0.length, .ref 22 2 0 d1.length, ti d2, tb d3]), (21, b8s .shr d0), (22, fl (fun c : Int × List UInt8 => [ti c.1, .sl 1 .shr c.2.length (u8s c.2)]) d1)] hk rfl kr (.cons (Meets.frz (Meets.swp [(99, 10)] (Meets.eqA (A := [.sl 1 .brw d0.length (sub (b8s .shr d0) 0 (d0.length * 1))]) (by first | rfl | (simp only [mp_all]; done) | (simp only [mp_all]; rfl) | simp only [fl_all (fun _ => rfl)]) (slices_Concat_m (g_slices := .brw) d0 (by first | (simp; done) | (simp <;> omega) | omega) (by intro i; have := hm0 i; omega))) (.cons (.same sb) .nil) .nil rfl (.ref rfl 1 0 ((slices_Concat d0).length)) (.cons rfl (.same (mp_ids (g := (fun c : UInt8 => T.leaf (.int .u8 c.toNat))) (slices_Concat d0) (fun _ => rfl))) .nil) : Meets Tryd.prog 91 [.sl 1 .brw d0.length (sub (b8s .shr d0) 0 (d0.length * 1))] [] [] (.ref 10 1 0 ((slices_Concat d0).length)) [(10, u8s (slices_Concat d0))]) rfl (mp_ids (g := (fun c : UInt8 => T.leaf (.int .u8 c.toNat))) _ (fun _ => rfl)) (by simp) : Meets Tryd.prog 91 [.sl 1 .brw d0.length (sub (b8s .shr d0) 0 (d0.length * 1))] [] [] (.sl 1 .shr (slices_Concat d0).length (u8s (slices_Concat d0))) []) (.cons (mp_ids (g := (fun c : List UInt8 => tl .shr c)) d0 (fun _ => rfl)) (.cons (by simp only [List.length_map]; omega : 0 + d0.length * 1 ≤ (b8s .shr d0).length) (.cons (sb : subN (idsL [.sl 1 .brw d0.length (sub (b8s .shr d0) 0 (d0.length * 1))]) [] = true) (.cons (nb : T.noB (.sl 1 .shr (slices_Concat d0).length (u8s (slices_Concat d0))) = true) .nil))))) ?_
  clear hk; intro k hk
  refine Go.bnd (Pf := (PostX Γ (disk_Disk_Safe_enc d0 d1 d2 d3))) (v := (slices_Concat d0)) (fun x1 => [(2, .sl 1 .shr x1.length (u8s x1))]) (fun x1 => [(0, [.ref 21 1 0 d0.length, .ref 22 2 0 d1.length, ti d2, tb d3]), (21, b8s .shr d0), (22, fl (fun c : Int × List UInt8 => [ti c.1, .sl 1 .shr c.2.length (u8s c.2)]) d1)]) ?_
  intro x1 hx1
  have fx1 := concat_eq d0
  rw [← hx1] at fx1
  have gx1 := congrArg List.length fx1
  try simp only [List.flatten_cons, List.flatten_nil, List.append_nil, List.length_append, List.length_cons, List.length_nil] at fx1 gx1
  exact Go.lvx 20 [0, 21, 22] _ [.sl 1 .shr x1.length (u8s x1)] Tryd.func27 hk rfl kr .nil (T.Le.of_eq rfl) rfl rfl (.cons sb (.cons qh5_3 (.cons ((congrArg (fun z => subN z [0, 21, 22]) (fl_ids (g := (fun c : Int × List UInt8 => [ti c.1, .sl 1 .shr c.2.length (u8s c.2)])) (fun _ => rfl) d1)).trans rfl) .nil)))
attribute [irreducible] disk_Disk_Safe
noncomputable def bclone_x (ad : Addr) (cap : Nat) : List (List UInt8) :=
  []
def bclone_x_enc (x : List (List UInt8)) : T × List (Nat × List T) := (.ref 99 1 0 x.length, [(99, b8s .shr x)])
theorem bclone_x_m (ad : Addr) (cap : Nat) : Meets Tryd.prog 92 [.leaf (.slice (some ad) 0 cap)] [] [] (.ref 99 1 0 ((bclone_x ad cap).length)) [(99, b8s .shr (bclone_x ad cap))] := by
  refine Meets.enterX (E := E) (N := 8) (enc := bclone_x_enc) (x := (bclone_x ad cap)) Tryd.func92 Tryd.call92 rfl rfl ?_
  intro Γ k hk
  refine Go.rx 20 {} [] [0] _ [(0, .leaf (.slice (some ad) 0 cap))] [] hk rfl kr .nil ?_
  clear hk; intro k hk
  refine Go.rx 20 {} [] [0, 4] _ [(0, .leaf (.slice (some ad) 0 cap)), (4, tb false)] [] hk rfl kr (.cons (⟨22, by as_aux_lemma => kernel_rfl⟩ : ∃ e, (E.ti 44).k = .slice e) .nil) ?_
  clear hk; intro k hk
  refine Go.cond 20 hk rfl (t := false) rfl ?_; clear hk; intro k hk
  refine Go.rx 20 { ws := [(0, { id := 10 }), (2, { id := 10 })], ps := [0, 6], fd := some [10] } [] [2] _ [(2, .ref 10 1 0 0)] [(10, [])] hk rfl kr (.cons (by decide : (0 + 0) * 24 ≤ 140737488355328) (.cons (sb : memN 10 (T.ids (.leaf (.slice (some ad) 0 cap))) = false) (.cons (sb : memN 10 (T.ids (.leaf (.slice (some ad) 0 cap))) = false) .nil))) ?_
  clear hk; intro k hk
  refine Go.sw (L' := [(2, .ref 99 1 0 0)]) (H' := [(99, [])]) [(99, 10)] ?_
  exact Go.lvx 20 [99] _ [.ref 99 1 0 0] Tryd.func92 hk rfl kr .nil (T.Le.of_eq rfl) rfl rfl (.cons qh5_2 .nil)
attribute [irreducible] bclone_x
noncomputable def bclone_0 (cap : Nat) : List (List UInt8) :=
  []
def bclone_0_enc (x : List (List UInt8)) : T × List (Nat × List T) := (.ref 99 1 0 x.length, [(99, b8s .shr x)])
theorem bclone_0_m (cap : Nat) : Meets Tryd.prog 92 [.leaf (.slice none 0 cap)] [] [] (.ref 99 1 0 ((bclone_0 cap).length)) [(99, b8s .shr (bclone_0 cap))] := by
  refine Meets.enterX (E := E) (N := 8) (enc := bclone_0_enc) (x := (bclone_0 cap)) Tryd.func92 Tryd.call92 rfl rfl ?_
  intro Γ k hk
  refine Go.rx 20 {} [] [0] _ [(0, .leaf (.slice none 0 cap))] [] hk rfl kr .nil ?_
  clear hk; intro k hk
  refine Go.rx 20 {} [] [0, 4] _ [(0, .leaf (.slice none 0 cap)), (4, tb true)] [] hk rfl kr (.cons (⟨22, by as_aux_lemma => kernel_rfl⟩ : ∃ e, (E.ti 44).k = .slice e) .nil) ?_
  clear hk; intro k hk
  refine Go.cond 20 hk rfl (t := true) rfl ?_; clear hk; intro k hk
  refine Go.rx 20 {} [] [2] _ [(2, .leaf (.slice none 0 0))] [] hk rfl kr .nil ?_
  clear hk; intro k hk
  refine Go.phn 2 99 1 rfl (.inl rfl) rfl rfl ?_
  exact Go.lvx 20 [99] _ [.ref 99 1 0 0] Tryd.func92 hk rfl kr .nil (T.Le.of_eq rfl) rfl rfl (.cons qh5_2 .nil)
attribute [irreducible] bclone_0
noncomputable def bclone_s (s : List (List UInt8)) : List (List UInt8) :=
  [] ++ s
def bclone_s_enc (x : List (List UInt8)) : T × List (Nat × List T) := (.ref 99 1 0 x.length, [(99, b8s .shr x)])
theorem bclone_s_m {g_s : Tag} (s : List (List UInt8)) (hs : 0 < s.length ∧ s.length ≤ 1000000) : Meets Tryd.prog 92 [.sl 1 g_s s.length (b8s .shr s)] [] [] (.ref 99 1 0 ((bclone_s s).length)) [(99, b8s .shr (bclone_s s))] := by
  refine Meets.enterX (E := E) (N := 8) (enc := bclone_s_enc) (x := (bclone_s s)) Tryd.func92 Tryd.call92 rfl rfl ?_
  intro Γ k hk
  refine Go.rx 20 {} [] [0] _ [(0, .sl 1 g_s s.length (b8s .shr s))] [] hk rfl kr .nil ?_
  clear hk; intro k hk
  refine Go.rx 20 {} [] [0, 4] _ [(0, .sl 1 g_s s.length (b8s .shr s)), (4, tb false)] [] hk rfl kr (.cons (⟨by omega, ⟨22, by as_aux_lemma => kernel_rfl⟩⟩ : 0 < s.length ∧ ∃ e, (E.ti 44).k = .slice e) .nil) ?_
  clear hk; intro k hk
  refine Go.cond 20 hk rfl (t := false) rfl ?_; clear hk; intro k hk
  refine Go.rx 20 { ws := [(0, { id := 10 }), (2, { v := some (.ref 10 1 0 (([] ++ s).length)), c := some (b8s .shr ([] ++ s)), id := 10, sym := true })], fd := some [10] } [] [2] _ [(2, .ref 10 1 0 (([] ++ s).length))] [(10, b8s .shr ([] ++ s))] hk rfl kr (.cons (by first | decide | simp : 0 + 0 * 1 ≤ (([] : List T)).length) (.cons (mp_scal s (fun _ => rfl) : scalL (b8s .shr s) = true) (.cons (om : (0 + s.length) * 24 ≤ 140737488355328) (.cons (mp_app' (g := (fun c : List UInt8 => tl .shr c)) (m := 0) [] s rfl rfl) (.cons (mp_mem (i := 10) (g := (fun c : List UInt8 => tl .shr c)) ([] ++ s) (fun _ => rfl)) (.cons (by first | rfl | (simp; done) | (refine congrArg (fun q => T.ref 10 1 0 q) ?_; simp <;> omega) : T.ref 10 1 0 (0 + s.length) = .ref 10 1 0 (([] ++ s).length)) .nil)))))) ?_
  clear hk; intro k hk
  refine Go.sw (L' := [(2, .ref 99 1 0 (([] ++ s).length))]) (H' := [(99, b8s .shr ([] ++ s))]) [(99, 10)] ?_
  exact Go.lvx 20 [99] _ [.ref 99 1 0 (([] ++ s).length)] Tryd.func92 hk rfl kr .nil (T.Le.of_eq rfl) rfl rfl (.cons qh5_2 .nil)
attribute [irreducible] bclone_s
theorem bclone_m {g_s : Tag} (s : List (List UInt8)) (hs : s.length ≤ 1000000) : Meets Tryd.prog 92 [.sl 1 g_s s.length (b8s .shr s)] [] [] (.ref 99 1 0 (id s).length) [(99, b8s .shr (id s))] := by
  cases s with
  | nil =>
    have h0 : ∀ cap, bclone_0 cap = [] := fun cap => by rw [bclone_0]
    have hx : ∀ a cap, bclone_x a cap = [] := fun a cap => by rw [bclone_x]
    exact Meets.nilOr (m := 1) (g := g_s) (fun ad cap => match ad with | none => by have h := bclone_0_m cap; rw [h0] at h; exact h | some a => by have h := bclone_x_m a cap; rw [hx] at h; exact h)
  | cons x s =>
    have hq : ∀ s, bclone_s s = s := fun s => by rw [bclone_s]; first | rfl | simp
    have h := bclone_s_m (g_s := g_s) (x :: s) ⟨by simp, hs⟩
    rw [hq] at h; exact h
noncomputable def wclone_x (ad : Addr) (cap : Nat) : (List (Int × List UInt8)) :=
  []
def wclone_x_enc (x : (List (Int × List UInt8))) : T × List (Nat × List T) := (.ref 99 2 0 x.length, [(99, fl (fun c : Int × List UInt8 => [ti c.1, .sl 1 .shr c.2.length (u8s c.2)]) x)])
theorem wclone_x_m (ad : Addr) (cap : Nat) : Meets Tryd.prog 93 [.leaf (.slice (some ad) 0 cap)] [] [] (.ref 99 2 0 ((wclone_x ad cap).length)) ([(99, fl (fun c : Int × List UInt8 => [ti c.1, .sl 1 .shr c.2.length (u8s c.2)]) (wclone_x ad cap))]) := by
  refine Meets.enterX (E := E) (N := 8) (enc := wclone_x_enc) (x := (wclone_x ad cap)) Tryd.func93 Tryd.call93 rfl rfl ?_
  intro Γ k hk
  refine Go.rx 20 {} [] [0] _ [(0, .leaf (.slice (some ad) 0 cap))] [] hk rfl kr .nil ?_
  clear hk; intro k hk
  refine Go.rx 20 {} [] [0, 4] _ [(0, .leaf (.slice (some ad) 0 cap)), (4, tb false)] [] hk rfl kr (.cons (⟨155, by as_aux_lemma => kernel_rfl⟩ : ∃ e, (E.ti 150).k = .slice e) .nil) ?_
  clear hk; intro k hk
  refine Go.cond 20 hk rfl (t := false) rfl ?_; clear hk; intro k hk
  refine Go.rx 20 { ws := [(0, { id := 10 }), (2, { id := 10 })], ps := [0, 6], fd := some [10] } [] [2] _ [(2, .ref 10 2 0 0)] [(10, [])] hk rfl kr (.cons (by decide : (0 + 0) * 32 ≤ 140737488355328) (.cons (sb : memN 10 (T.ids (.leaf (.slice (some ad) 0 cap))) = false) (.cons (sb : memN 10 (T.ids (.leaf (.slice (some ad) 0 cap))) = false) .nil))) ?_
  clear hk; intro k hk
  refine Go.sw (L' := [(2, .ref 99 2 0 0)]) (H' := [(99, [])]) [(99, 10)] ?_
  exact Go.lvx 20 [99] _ [.ref 99 2 0 0] Tryd.func93 hk rfl kr .nil (T.Le.of_eq rfl) rfl rfl (.cons qh5_1 .nil)
attribute [irreducible] wclone_x
noncomputable def wclone_0 (cap : Nat) : (List (Int × List UInt8)) :=
  []
def wclone_0_enc (x : (List (Int × List UInt8))) : T × List (Nat × List T) := (.ref 99 2 0 x.length, [(99, fl (fun c : Int × List UInt8 => [ti c.1, .sl 1 .shr c.2.length (u8s c.2)]) x)])
theorem wclone_0_m (cap : Nat) : Meets Tryd.prog 93 [.leaf (.slice none 0 cap)] [] [] (.ref 99 2 0 ((wclone_0 cap).length)) ([(99, fl (fun c : Int × List UInt8 => [ti c.1, .sl 1 .shr c.2.length (u8s c.2)]) (wclone_0 cap))]) := by
  refine Meets.enterX (E := E) (N := 8) (enc := wclone_0_enc) (x := (wclone_0 cap)) Tryd.func93 Tryd.call93 rfl rfl ?_
  intro Γ k hk
  refine Go.rx 20 {} [] [0] _ [(0, .leaf (.slice none 0 cap))] [] hk rfl kr .nil ?_
  clear hk; intro k hk
  refine Go.rx 20 {} [] [0, 4] _ [(0, .leaf (.slice none 0 cap)), (4, tb true)] [] hk rfl kr (.cons (⟨155, by as_aux_lemma => kernel_rfl⟩ : ∃ e, (E.ti 150).k = .slice e) .nil) ?_
  clear hk; intro k hk
  refine Go.cond 20 hk rfl (t := true) rfl ?_; clear hk; intro k hk
  refine Go.rx 20 {} [] [2] _ [(2, .leaf (.slice none 0 0))] [] hk rfl kr .nil ?_
  clear hk; intro k hk
  refine Go.phn 2 99 2 rfl (.inl rfl) rfl rfl ?_
  exact Go.lvx 20 [99] _ [.ref 99 2 0 0] Tryd.func93 hk rfl kr .nil (T.Le.of_eq rfl) rfl rfl (.cons qh5_1 .nil)
attribute [irreducible] wclone_0
noncomputable def wclone_s (s : List (Int × List UInt8)) : (List (Int × List UInt8)) :=
  [] ++ s
def wclone_s_enc (x : (List (Int × List UInt8))) : T × List (Nat × List T) := (.ref 99 2 0 x.length, [(99, fl (fun c : Int × List UInt8 => [ti c.1, .sl 1 .shr c.2.length (u8s c.2)]) x)])
theorem wclone_s_m {g_s : Tag} (s : List (Int × List UInt8)) (hs : 0 < s.length ∧ s.length ≤ 1000000) : Meets Tryd.prog 93 [.sl 2 g_s s.length (fl (fun c : Int × List UInt8 => [ti c.1, .sl 1 .shr c.2.length (u8s c.2)]) s)] [] [] (.ref 99 2 0 ((wclone_s s).length)) ([(99, fl (fun c : Int × List UInt8 => [ti c.1, .sl 1 .shr c.2.length (u8s c.2)]) (wclone_s s))]) := by
  refine Meets.enterX (E := E) (N := 8) (enc := wclone_s_enc) (x := (wclone_s s)) Tryd.func93 Tryd.call93 rfl rfl ?_
  intro Γ k hk
  refine Go.rx 20 {} [] [0] _ [(0, .sl 2 g_s s.length (fl (fun c : Int × List UInt8 => [ti c.1, .sl 1 .shr c.2.length (u8s c.2)]) s))] [] hk rfl kr .nil ?_
  clear hk; intro k hk
  refine Go.rx 20 {} [] [0, 4] _ [(0, .sl 2 g_s s.length (fl (fun c : Int × List UInt8 => [ti c.1, .sl 1 .shr c.2.length (u8s c.2)]) s)), (4, tb false)] [] hk rfl kr (.cons (⟨by omega, ⟨155, by as_aux_lemma => kernel_rfl⟩⟩ : 0 < s.length ∧ ∃ e, (E.ti 150).k = .slice e) .nil) ?_
  clear hk; intro k hk
  refine Go.cond 20 hk rfl (t := false) rfl ?_; clear hk; intro k hk
  refine Go.rx 20 { ws := [(0, { id := 10 }), (2, { v := some (.ref 10 2 0 (([] ++ s).length)), c := some (fl (fun c : Int × List UInt8 => [ti c.1, .sl 1 .shr c.2.length (u8s c.2)]) ([] ++ s)), id := 10, sym := true })], fd := some [10] } [] [2] _ [(2, .ref 10 2 0 (([] ++ s).length))] [(10, fl (fun c : Int × List UInt8 => [ti c.1, .sl 1 .shr c.2.length (u8s c.2)]) ([] ++ s))] hk rfl kr (.cons (by first | decide | simp : 0 + 0 * 2 ≤ (([] : List T)).length) (.cons (fl_scal (g := (fun c : Int × List UInt8 => [ti c.1, .sl 1 .shr c.2.length (u8s c.2)])) (fun _ => rfl) s : scalL (fl (fun c : Int × List UInt8 => [ti c.1, .sl 1 .shr c.2.length (u8s c.2)]) s) = true) (.cons (om : (0 + s.length) * 32 ≤ 140737488355328) (.cons (fl_app' (g := (fun c : Int × List UInt8 => [ti c.1, .sl 1 .shr c.2.length (u8s c.2)])) (m := 2) (k := 0) (fun _ => rfl) [] s rfl rfl) (.cons (fl_mem (i := 10) (g := (fun c : Int × List UInt8 => [ti c.1, .sl 1 .shr c.2.length (u8s c.2)])) ([] ++ s) (fun _ => rfl)) (.cons (by first | rfl | (simp; done) | (refine congrArg (fun q => T.ref 10 2 0 q) ?_; simp <;> omega) : T.ref 10 2 0 (0 + s.length) = .ref 10 2 0 (([] ++ s).length)) .nil)))))) ?_
  clear hk; intro k hk
  refine Go.sw (L' := [(2, .ref 99 2 0 (([] ++ s).length))]) (H' := [(99, fl (fun c : Int × List UInt8 => [ti c.1, .sl 1 .shr c.2.length (u8s c.2)]) ([] ++ s))]) [(99, 10)] ?_
  exact Go.lvx 20 [99] _ [.ref 99 2 0 (([] ++ s).length)] Tryd.func93 hk rfl kr .nil (T.Le.of_eq rfl) rfl rfl (.cons qh5_1 .nil)
attribute [irreducible] wclone_s
theorem wclone_m {g_s : Tag} (s : List (Int × List UInt8)) (hs : s.length ≤ 1000000) : Meets Tryd.prog 93 [.sl 2 g_s s.length (fl (fun c : Int × List UInt8 => [ti c.1, .sl 1 .shr c.2.length (u8s c.2)]) s)] [] [] (.ref 99 2 0 (id s).length) [(99, fl (fun c : Int × List UInt8 => [ti c.1, .sl 1 .shr c.2.length (u8s c.2)]) (id s))] := by
  cases s with
  | nil =>
    have h0 : ∀ cap, wclone_0 cap = [] := fun cap => by rw [wclone_0]
    have hx : ∀ a cap, wclone_x a cap = [] := fun a cap => by rw [wclone_x]
    exact Meets.nilOr (m := 2) (g := g_s) (fun ad cap => match ad with | none => by have h := wclone_0_m cap; rw [h0] at h; exact h | some a => by have h := wclone_x_m a cap; rw [hx] at h; exact h)
  | cons x s =>
    have hq : ∀ s, wclone_s s = s := fun s => by rw [wclone_s]; first | rfl | simp
    have h := wclone_s_m (g_s := g_s) (x :: s) ⟨by simp, hs⟩
    rw [hq] at h; exact h
def nil_Clone_enc  (_ : Unit) : T × List (Nat × List T) := (.leaf (.pointer none), [])
theorem nil_Clone_m  : Meets Tryd.prog 28 [.leaf (.pointer none)] [] [] (.leaf (.pointer none)) [] := by
  refine Meets.enterX (E := E) (N := 25) (enc := nil_Clone_enc ) (x := ()) Tryd.func28 Tryd.call28 rfl rfl ?_
  intro Γ k hk
  refine Go.rx 20 {} [] [0] _ [(0, .leaf (.pointer none))] [] hk rfl kr .nil ?_
  clear hk; intro k hk
  refine Go.rx 20 {} [] [0, 4] _ [(0, .leaf (.pointer none)), (4, tb true)] [] hk rfl kr (.cons (⟨152, by as_aux_lemma => kernel_rfl⟩ : ∃ e, (E.ti 24).k = .ptr e) .nil) ?_
  clear hk; intro k hk
  refine Go.cond 20 hk rfl (t := true) rfl ?_; clear hk; intro k hk
  refine Go.rx 20 {} [] [2] _ [(2, .leaf (.pointer none))] [] hk rfl kr .nil ?_
  clear hk; intro k hk
  exact Go.lvx 20 [] _ [.leaf (.pointer none)] Tryd.func28 hk rfl kr .nil (T.Le.of_eq rfl) rfl rfl .nil
noncomputable def disk_Disk_Clone (d0 : List (List UInt8)) (d1 : List (Int × List UInt8)) (d2 : Int) (d3 : Bool) : (List (List UInt8) × (List (Int × List UInt8)) × Int × Bool) × (Unit × Unit × Unit × Unit) :=
  bnd (id d0) fun x1 =>
  bnd (id d1) fun x2 =>
  ((x1, x2, d2, d3), ((), (), (), ()))
def disk_Disk_Clone_enc (d0 : List (List UInt8)) (d1 : List (Int × List UInt8)) (d2 : Int) (d3 : Bool) (x : (List (List UInt8) × (List (Int × List UInt8)) × Int × Bool) × (Unit × Unit × Unit × Unit)) : T × List (Nat × List T) := (.addr 30 0, [(0, [.ref 21 1 0 d0.length, .ref 22 2 0 d1.length, ti d2, tb d3]), (21, b8s .shr d0), (22, fl (fun c : Int × List UInt8 => [ti c.1, .sl 1 .shr c.2.length (u8s c.2)]) d1), (30, [.ref 31 1 0 x.1.1.length, .ref 32 2 0 x.1.2.1.length, ti x.1.2.2.1, tb x.1.2.2.2]), (31, b8s .shr x.1.1), (32, fl (fun c : Int × List UInt8 => [ti c.1, .sl 1 .shr c.2.length (u8s c.2)]) x.1.2.1)])
theorem disk_Disk_Clone_m (d0 : List (List UInt8)) (d1 : List (Int × List UInt8)) (d2 : Int) (d3 : Bool) (hD : okD 1000 d0 d1 d2) : Meets Tryd.prog 28 [.addr 0 0] ([(0, [.ref 21 1 0 d0.length, .ref 22 2 0 d1.length, ti d2, tb d3]), (21, b8s .shr d0), (22, fl (fun c : Int × List UInt8 => [ti c.1, .sl 1 .shr c.2.length (u8s c.2)]) d1)]) [0] (.addr 30 0) ([(0, [.ref 21 1 0 d0.length, .ref 22 2 0 d1.length, ti d2, tb d3]), (21, b8s .shr d0), (22, fl (fun c : Int × List UInt8 => [ti c.1, .sl 1 .shr c.2.length (u8s c.2)]) d1), (30, [.ref 31 1 0 ((((disk_Disk_Clone d0 d1 d2 d3).1).1).length), .ref 32 2 0 ((((disk_Disk_Clone d0 d1 d2 d3).1).2.1).length), ti (((disk_Disk_Clone d0 d1 d2 d3).1).2.2.1), tb (((disk_Disk_Clone d0 d1 d2 d3).1).2.2.2)]), (31, b8s .shr (((disk_Disk_Clone d0 d1 d2 d3).1).1)), (32, fl (fun c : Int × List UInt8 => [ti c.1, .sl 1 .shr c.2.length (u8s c.2)]) (((disk_Disk_Clone d0 d1 d2 d3).1).2.1))]) := by
  refine Meets.enterX (E := E) (N := 25) (enc := (disk_Disk_Clone_enc d0 d1 d2 d3)) (x := (disk_Disk_Clone d0 d1 d2 d3)) Tryd.func28 Tryd.call28 rfl rfl ?_
  intro Γ k hk
  obtain ⟨hl0, hl1, hw, hm0, hm1, ha⟩ := hD
  refine Go.rx 20 {} [] [0] _ [(0, .addr 0 0)] [(0, [.ref 21 1 0 d0.length, .ref 22 2 0 d1.length, ti d2, tb d3]), (21, b8s .shr d0), (22, fl (fun c : Int × List UInt8 => [ti c.1, .sl 1 .shr c.2.length (u8s c.2)]) d1)] hk rfl kr .nil ?_
  clear hk; intro k hk
  refine Go.rx 20 {} [] [0, 4] _ [(0, .addr 0 0), (4, tb false)] [(0, [.ref 21 1 0 d0.length, .ref 22 2 0 d1.length, ti d2, tb d3]), (21, b8s .shr d0), (22, fl (fun c : Int × List UInt8 => [ti c.1, .sl 1 .shr c.2.length (u8s c.2)]) d1)] hk rfl kr (.cons (⟨152, by as_aux_lemma => kernel_rfl⟩ : ∃ e, (E.ti 24).k = .ptr e) .nil) ?_
  clear hk; intro k hk
  refine Go.cond 20 hk rfl (t := false) rfl ?_; clear hk; intro k hk
  refine Go.dx 20 [0, 1, 2, 3, 4, 5, 6, 7, 8, 9, 10, 11, 12, 13, 14, 15, 16, 17, 18, 19, 20] { ws := [(4, { call := some { ids := [], S := [], M := [21], R := .ref 10 1 0 ((id d0).length), H' := [(10, b8s .shr (id d0))] } }), (9, { call := some { ids := [], S := [], M := [22], R := .ref 11 2 0 ((id d1).length), H' := [(11, fl (fun c : Int × List UInt8 => [ti c.1, .sl 1 .shr c.2.length (u8s c.2)]) (id d1))] } }), (19, { id := 12 })] } [] [2] _ [(2, .addr 12 0)] [(0, [.ref 21 1 0 d0.length, .ref 22 2 0 d1.length, ti d2, tb d3]), (21, b8s .shr d0), (22, fl (fun c : Int × List UInt8 => [ti c.1, .sl 1 .shr c.2.length (u8s c.2)]) d1), (10, b8s .shr (id d0)), (11, fl (fun c : Int × List UInt8 => [ti c.1, .sl 1 .shr c.2.length (u8s c.2)]) (id d1)), (12, [.ref 10 1 0 ((id d0).length), .ref 11 2 0 ((id d1).length), ti d2, tb d3])] hk rfl kr (.cons (Meets.sw [(99, 10)] (Meets.eqA (A := [.sl 1 .brw d0.length (sub (b8s .shr d0) 0 (d0.length * 1))]) (by first | rfl | (simp only [mp_all]; done) | (simp only [mp_all]; rfl) | simp only [fl_all (fun _ => rfl)]) (bclone_m (g_s := .brw) d0 om)) : Meets Tryd.prog 92 [.sl 1 .brw d0.length (sub (b8s .shr d0) 0 (d0.length * 1))] [] [] (.ref 10 1 0 ((id d0).length)) [(10, b8s .shr (id d0))]) (.cons (mp_ids (g := (fun c : List UInt8 => tl .shr c)) d0 (fun _ => rfl)) (.cons (by simp only [List.length_map]; omega : 0 + d0.length * 1 ≤ (b8s .shr d0).length) (.cons (sb : subN (idsL [.sl 1 .brw d0.length (sub (b8s .shr d0) 0 (d0.length * 1))]) [] = true) (.cons (nb : T.noB (.ref 10 1 0 ((id d0).length)) = true) (.cons (mp_noB (g := (fun c : List UInt8 => tl .shr c)) (id d0) (fun _ => by first | rfl | (simp only [T.noB, u8s_noB, b8s_noB, Bool.and_self, Bool.and_true, Bool.true_and] <;> rfl))) (.cons (Meets.sw [(99, 11)] (Meets.eqA (A := [.sl 2 .brw d1.length (sub (fl (fun c : Int × List UInt8 => [ti c.1, .sl 1 .shr c.2.length (u8s c.2)]) d1) 0 (d1.length * 2))]) (by first | rfl | (simp only [mp_all]; done) | (simp only [mp_all]; rfl) | simp only [fl_all (fun _ => rfl)] | (rw [(fl_all (g := (fun c : Int × List UInt8 => [ti c.1, .sl 1 .shr c.2.length (u8s c.2)])) (m := 2) (fun _ => rfl) d1)])) (wclone_m (g_s := .brw) d1 om)) : Meets Tryd.prog 93 [.sl 2 .brw d1.length (sub (fl (fun c : Int × List UInt8 => [ti c.1, .sl 1 .shr c.2.length (u8s c.2)]) d1) 0 (d1.length * 2))] [] [] (.ref 11 2 0 ((id d1).length)) [(11, fl (fun c : Int × List UInt8 => [ti c.1, .sl 1 .shr c.2.length (u8s c.2)]) (id d1))]) (.cons (fl_ids (g := (fun c : Int × List UInt8 => [ti c.1, .sl 1 .shr c.2.length (u8s c.2)])) (fun _ => rfl) d1) (.cons (by rw [fl_len (m := 2) (fun _ => rfl)]; omega : 0 + d1.length * 2 ≤ (fl (fun c : Int × List UInt8 => [ti c.1, .sl 1 .shr c.2.length (u8s c.2)]) d1).length) (.cons (sb : subN (idsL [.sl 2 .brw d1.length (sub (fl (fun c : Int × List UInt8 => [ti c.1, .sl 1 .shr c.2.length (u8s c.2)]) d1) 0 (d1.length * 2))]) [] = true) (.cons (nb : T.noB (.ref 11 2 0 ((id d1).length)) = true) (.cons (fl_noB (g := (fun c : Int × List UInt8 => [ti c.1, .sl 1 .shr c.2.length (u8s c.2)])) (fun _ => by first | rfl | (simp only [noBL, T.noB, u8s_noB, b8s_noB, Bool.and_self, Bool.and_true, Bool.true_and] <;> rfl)) (id d1)) .nil)))))))))))) ?_
  clear hk; intro k hk
  refine Go.bnd (Pf := (PostX Γ (disk_Disk_Clone_enc d0 d1 d2 d3))) (v := (id d0)) (fun x1 => [(2, .addr 12 0)]) (fun x1 => [(0, [.ref 21 1 0 d0.length, .ref 22 2 0 d1.length, ti d2, tb d3]), (21, b8s .shr d0), (22, fl (fun c : Int × List UInt8 => [ti c.1, .sl 1 .shr c.2.length (u8s c.2)]) d1), (10, b8s .shr x1), (11, fl (fun c : Int × List UInt8 => [ti c.1, .sl 1 .shr c.2.length (u8s c.2)]) (id d1)), (12, [.ref 10 1 0 x1.length, .ref 11 2 0 ((id d1).length), ti d2, tb d3])]) ?_
  intro x1 hx1
  have gx1 : x1 = d0 := hx1
  refine Go.bnd (Pf := (PostX Γ (disk_Disk_Clone_enc d0 d1 d2 d3))) (v := (id d1)) (fun x2 => [(2, .addr 12 0)]) (fun x2 => [(0, [.ref 21 1 0 d0.length, .ref 22 2 0 d1.length, ti d2, tb d3]), (21, b8s .shr d0), (22, fl (fun c : Int × List UInt8 => [ti c.1, .sl 1 .shr c.2.length (u8s c.2)]) d1), (10, b8s .shr x1), (11, fl (fun c : Int × List UInt8 => [ti c.1, .sl 1 .shr c.2.length (u8s c.2)]) x2), (12, [.ref 10 1 0 x1.length, .ref 11 2 0 x2.length, ti d2, tb d3])]) ?_
  intro x2 hx2
  have gx2 : x2 = d1 := hx2
  refine Go.sw (L' := [(2, .addr 30 0)]) (H' := [(0, [.ref 21 1 0 d0.length, .ref 22 2 0 d1.length, ti d2, tb d3]), (21, b8s .shr d0), (22, fl (fun c : Int × List UInt8 => [ti c.1, .sl 1 .shr c.2.length (u8s c.2)]) d1), (10, b8s .shr x1), (11, fl (fun c : Int × List UInt8 => [ti c.1, .sl 1 .shr c.2.length (u8s c.2)]) x2), (30, [.ref 10 1 0 x1.length, .ref 11 2 0 x2.length, ti d2, tb d3])]) [(30, 12)] ?_
  refine Go.ord [0, 10, 11, 21, 22, 30] ([(0, [.ref 21 1 0 d0.length, .ref 22 2 0 d1.length, ti d2, tb d3]), (10, b8s .shr x1), (11, fl (fun c : Int × List UInt8 => [ti c.1, .sl 1 .shr c.2.length (u8s c.2)]) x2), (21, b8s .shr d0), (22, fl (fun c : Int × List UInt8 => [ti c.1, .sl 1 .shr c.2.length (u8s c.2)]) d1), (30, [.ref 10 1 0 x1.length, .ref 11 2 0 x2.length, ti d2, tb d3])]) rfl rfl ?_
  refine Go.sw (L' := [(2, .addr 30 0)]) (H' := [(0, [.ref 21 1 0 d0.length, .ref 22 2 0 d1.length, ti d2, tb d3]), (31, b8s .shr x1), (11, fl (fun c : Int × List UInt8 => [ti c.1, .sl 1 .shr c.2.length (u8s c.2)]) x2), (21, b8s .shr d0), (22, fl (fun c : Int × List UInt8 => [ti c.1, .sl 1 .shr c.2.length (u8s c.2)]) d1), (30, [.ref 31 1 0 x1.length, .ref 11 2 0 x2.length, ti d2, tb d3])]) [(31, 10)] ?_
  refine Go.ord [0, 11, 21, 22, 30, 31] ([(0, [.ref 21 1 0 d0.length, .ref 22 2 0 d1.length, ti d2, tb d3]), (11, fl (fun c : Int × List UInt8 => [ti c.1, .sl 1 .shr c.2.length (u8s c.2)]) x2), (21, b8s .shr d0), (22, fl (fun c : Int × List UInt8 => [ti c.1, .sl 1 .shr c.2.length (u8s c.2)]) d1), (30, [.ref 31 1 0 x1.length, .ref 11 2 0 x2.length, ti d2, tb d3]), (31, b8s .shr x1)]) rfl rfl ?_
  refine Go.sw (L' := [(2, .addr 30 0)]) (H' := [(0, [.ref 21 1 0 d0.length, .ref 22 2 0 d1.length, ti d2, tb d3]), (32, fl (fun c : Int × List UInt8 => [ti c.1, .sl 1 .shr c.2.length (u8s c.2)]) x2), (21, b8s .shr d0), (22, fl (fun c : Int × List UInt8 => [ti c.1, .sl 1 .shr c.2.length (u8s c.2)]) d1), (30, [.ref 31 1 0 x1.length, .ref 32 2 0 x2.length, ti d2, tb d3]), (31, b8s .shr x1)]) [(32, 11)] ?_
  refine Go.ord [0, 21, 22, 30, 31, 32] ([(0, [.ref 21 1 0 d0.length, .ref 22 2 0 d1.length, ti d2, tb d3]), (21, b8s .shr d0), (22, fl (fun c : Int × List UInt8 => [ti c.1, .sl 1 .shr c.2.length (u8s c.2)]) d1), (30, [.ref 31 1 0 x1.length, .ref 32 2 0 x2.length, ti d2, tb d3]), (31, b8s .shr x1), (32, fl (fun c : Int × List UInt8 => [ti c.1, .sl 1 .shr c.2.length (u8s c.2)]) x2)]) rfl rfl ?_
  exact Go.lvx 20 [0, 21, 22, 30, 31, 32] _ [.addr 30 0] Tryd.func28 hk rfl kr .nil (T.Le.of_eq rfl) rfl rfl (.cons sb (.cons qh5_3 (.cons ((congrArg (fun z => subN z [0, 21, 22, 30, 31, 32]) (fl_ids (g := (fun c : Int × List UInt8 => [ti c.1, .sl 1 .shr c.2.length (u8s c.2)])) (fun _ => rfl) d1)).trans rfl) (.cons sb (.cons qh5_3 (.cons ((congrArg (fun z => subN z [0, 21, 22, 30, 31, 32]) (fl_ids (g := (fun c : Int × List UInt8 => [ti c.1, .sl 1 .shr c.2.length (u8s c.2)])) (fun _ => rfl) x2)).trans rfl) .nil))))))
attribute [irreducible] disk_Disk_Clone
end Go.Proofs.YtbppcnhfeobefaaDoor

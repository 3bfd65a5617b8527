import Derived.Test.YtbppcnhfeobefabDoorTy
import Derived.Test.YtbppcnhfeobefabDoorEnVx8
set_option linter.unusedVariables false
set_option linter.unusedSimpArgs false
namespace Go.Proofs.YtbppcnhfeobefabDoor
open Go Go.Vw Go.Proofs
abbrev W8 : Type := (UInt32 × UInt32 × UInt32 × UInt32 × UInt32 × UInt32 × UInt32 × UInt32)
abbrev w08 : List T := [t32 0, t32 0, t32 0, t32 0, t32 0, t32 0, t32 0, t32 0]
abbrev zU : UInt8 → T := (fun c : UInt8 => T.leaf (.int .u8 c.toNat))
theorem qd6_1 {p : Prop} (h : p := by first | (simp; done) | (with_reducible assumption) | omega | (simp <;> omega) | rfl) : p := h
theorem qd6_2 {p : Prop} (h : p := by first | omega | assumption | (simp; done) | (simp; omega)) : p := h
theorem qd6_3 {p : Prop} (h : p := by simp only [List.length_map]; first | omega | (simp <;> omega) | (simp at * <;> omega) | (split <;> omega) | (split <;> (first | omega | (simp <;> omega) | (simp at * <;> omega)))) : p := h
abbrev qd6_5 : List T := [t32 1779033703, t32 3144134277, t32 1013904242, t32 2773480762, t32 1359893119, t32 2600822924, t32 528734635, t32 1541459225]
abbrev qd6_6 : List T := [t32 1116352408, t32 1899447441, t32 3049323471, t32 3921009573, t32 961987163, t32 1508970993, t32 2453635748, t32 2870763221, t32 3624381080, t32 310598401, t32 607225278, t32 1426881987, t32 1925078388, t32 2162078206, t32 2614888103, t32 3248222580, t32 3835390401, t32 4022224774, t32 264347078, t32 604807628, t32 770255983, t32 1249150122, t32 1555081692, t32 1996064986, t32 2554220882, t32 2821834349, t32 2952996808, t32 3210313671, t32 3336571891, t32 3584528711, t32 113926993, t32 338241895, t32 666307205, t32 773529912, t32 1294757372, t32 1396182291, t32 1695183700, t32 1986661051, t32 2177026350, t32 2456956037, t32 2730485921, t32 2820302411, t32 3259730800, t32 3345764771, t32 3516065817, t32 3600352804, t32 4094571909, t32 275423344, t32 430227734, t32 506948616, t32 659060556, t32 883997877, t32 958139571, t32 1322822218, t32 1537002063, t32 1747873779, t32 1955562222, t32 2024104815, t32 2227730452, t32 2361852424, t32 2428436474, t32 2756734187, t32 3204031479, t32 3329325298]
noncomputable def rl32_ (x : UInt32) (k_ : Int) : UInt32 :=
 (shl32 x (((u64i k_) &&& 31 : UInt64).toNat : Int)) ||| (shr32 x ((32 - ((u64i k_) &&& 31) : UInt64).toNat : Int))
def rl32__enc (x : UInt32) : T × List (Nat × List T) := (t32 x, [])
theorem rl32__m (x : UInt32) (k_ : Int) : Meets Tryd.prog 114 [t32 x, ti k_] [] [] (t32 (rl32_ x k_)) [] := by
 refine Meets.enterX (E := E) (N := 17) (enc := rl32__enc) (x := (rl32_ x k_)) Tryd.func114 Tryd.call114 rfl rfl ?_
 intro Γ k hk
 refine Go.rx 20 {} [] [0, 1] _ [(0, t32 x), (1, ti k_)] [] hk rfl kr .nil ?_
 clear hk; intro k hk
 refine Go.rx 20 { ws := [(1, { v := some (t64 (u64i k_)) }), (2, { v := some (t64 ((u64i k_) &&& 31)) })] } [] [0, 5] _ [(0, t32 x), (5, t64 ((u64i k_) &&& 31))] [] hk rfl kr (.cons (cvi_64 k_) (.cons trivial (.cons (and64 (u64i k_) 31) .nil))) ?_
 clear hk; intro k hk
 refine Go.rx 20 { ws := [(2, { v := some (t32 (shl32 x (((u64i k_) &&& 31 : UInt64).toNat : Int))) }), (5, { v := some (t64 (32 - ((u64i k_) &&& 31))) }), (6, { v := some (t32 (shr32 x ((32 - ((u64i k_) &&& 31) : UInt64).toNat : Int))) }), (7, { v := some (t32 ((shl32 x (((u64i k_) &&& 31 : UInt64).toNat : Int)) ||| (shr32 x ((32 - ((u64i k_) &&& 31) : UInt64).toNat : Int)))) })] } [] [4] _ [(4, t32 ((shl32 x (((u64i k_) &&& 31 : UInt64).toNat : Int)) ||| (shr32 x ((32 - ((u64i k_) &&& 31) : UInt64).toNat : Int))))] [] hk rfl kr (.cons (by omega : 0 ≤ ((((u64i k_) &&& 31 : UInt64).toNat : Int) : Int)) (.cons (shlT32 x (((u64i k_) &&& 31 : UInt64).toNat : Int)) (.cons trivial (.cons (sub64 32 ((u64i k_) &&& 31)) (.cons (by omega : 0 ≤ (((32 - ((u64i k_) &&& 31) : UInt64).toNat : Int) : Int)) (.cons (shrT32 x ((32 - ((u64i k_) &&& 31) : UInt64).toNat : Int)) (.cons trivial (.cons (or32 (shl32 x (((u64i k_) &&& 31 : UInt64).toNat : Int)) (shr32 x ((32 - ((u64i k_) &&& 31) : UInt64).toNat : Int))) .nil)))))))) ?_
 clear hk; intro k hk
 exact Go.lvx 20 [] _ [t32 ((shl32 x (((u64i k_) &&& 31 : UInt64).toNat : Int)) ||| (shr32 x ((32 - ((u64i k_) &&& 31) : UInt64).toNat : Int)))] Tryd.func114 hk rfl kr .nil (T.Le.of_eq rfl) rfl rfl .nil
attribute [irreducible] rl32_
noncomputable def sha_first  : W8 :=
 (1779033703, 3144134277, 1013904242, 2773480762, 1359893119, 2600822924, 528734635, 1541459225)
def sha_first_enc (x : W8) : T × List (Nat × List T) := (.agg [t32 x.1, t32 x.2.1, t32 x.2.2.1, t32 x.2.2.2.1, t32 x.2.2.2.2.1, t32 x.2.2.2.2.2.1, t32 x.2.2.2.2.2.2.1, t32 x.2.2.2.2.2.2.2], [])
theorem sha_first_m  : Meets Tryd.prog 107 [] [] [] (.agg [t32 sha_first.1, t32 sha_first.2.1, t32 sha_first.2.2.1, t32 sha_first.2.2.2.1, t32 sha_first.2.2.2.2.1, t32 sha_first.2.2.2.2.2.1, t32 sha_first.2.2.2.2.2.2.1, t32 sha_first.2.2.2.2.2.2.2]) [] := by
 refine Meets.enterX (E := E) (N := 2) (enc := sha_first_enc) (x := sha_first) Tryd.func107 Tryd.call107 rfl rfl ?_
 intro Γ k hk
 refine Go.rx 20 { ws := [(0, { id := 10 })] } [] [0] _ [(0, .addr 10 0)] [(10, w08)] hk rfl kr .nil ?_
 clear hk; intro k hk
 refine Go.rx 20 {} [] [0] _ [(0, .addr 10 0)] [(10, qd6_5)] hk rfl kr .nil ?_
 clear hk; intro k hk
 exact Go.lvx 20 [] _ [.agg qd6_5] Tryd.func107 hk rfl kr (.cons (by decide : 0 + 8 ≤ 8) .nil) (T.Le.of_eq rfl) rfl rfl .nil
attribute [irreducible] sha_first
noncomputable def sha_constants  : List UInt32 :=
 [1116352408, 1899447441, 3049323471, 3921009573, 961987163, 1508970993, 2453635748, 2870763221, 3624381080, 310598401, 607225278, 1426881987, 1925078388, 2162078206, 2614888103, 3248222580, 3835390401, 4022224774, 264347078, 604807628, 770255983, 1249150122, 1555081692, 1996064986, 2554220882, 2821834349, 2952996808, 3210313671, 3336571891, 3584528711, 113926993, 338241895, 666307205, 773529912, 1294757372, 1396182291, 1695183700, 1986661051, 2177026350, 2456956037, 2730485921, 2820302411, 3259730800, 3345764771, 3516065817, 3600352804, 4094571909, 275423344, 430227734, 506948616, 659060556, 883997877, 958139571, 1322822218, 1537002063, 1747873779, 1955562222, 2024104815, 2227730452, 2361852424, 2428436474, 2756734187, 3204031479, 3329325298]
def sha_constants_enc (x : List UInt32) : T × List (Nat × List T) := (.agg (u32s x), [])
set_option maxRecDepth 100000 in
theorem sha_constants_m  : Meets Tryd.prog 112 [] [] [] (.agg (u32s sha_constants)) [] := by
 refine Meets.enterX (E := E) (N := 2) (enc := sha_constants_enc) (x := sha_constants) Tryd.func112 Tryd.call112 rfl rfl ?_
 intro Γ k hk
 refine Go.rx 20 { ws := [(0, { id := 10 })] } [] [0] _ [(0, .addr 10 0)] [(10, (List.replicate 64 (t32 0)))] hk rfl kr .nil ?_
 clear hk; intro k hk
 refine Go.rx 20 {} [] [0] _ [(0, .addr 10 0)] [(10, qd6_6)] hk rfl kr .nil ?_
 clear hk; intro k hk
 exact Go.lvx 20 [] _ [.agg qd6_6] Tryd.func112 hk rfl kr (.cons (by decide : 0 + 64 ≤ 64) .nil) (T.Le.of_eq rfl) rfl rfl .nil
set_option maxRecDepth 100000 in
@[simp] theorem constants_len : sha_constants.length = 64 := by rw [sha_constants]; rfl
attribute [irreducible] sha_constants
noncomputable def sha_schedule_k2 (o4 : List UInt32) : List UInt32 :=
 o4
noncomputable def sha_schedule_l2  : Nat → Int → (List UInt32) → Lo (List UInt32) (List UInt32)
 | 0, _, _ => .brk default
 | ml2 + 1, t51, o3 =>
  bif decide (t51 < 64) then
   bnd (rl32_ (o3.getD ((t51 - 15).toNat) 0) (-7)) fun x1 =>
   bnd (rl32_ (o3.getD ((t51 - 15).toNat) 0) (-18)) fun x2 =>
   bnd (rl32_ (o3.getD ((t51 - 2).toNat) 0) (-17)) fun x3 =>
   bnd (rl32_ (o3.getD ((t51 - 2).toNat) 0) (-19)) fun x4 =>
   sha_schedule_l2 ml2 (t51 + 1) (o3.set t51.toNat (((((x3 ^^^ x4) ^^^ (shr32 (o3.getD ((t51 - 2).toNat) 0) 10)) + (o3.getD ((t51 - 7).toNat) 0)) + ((x1 ^^^ x2) ^^^ (shr32 (o3.getD ((t51 - 15).toNat) 0) 3))) + (o3.getD ((t51 - 16).toNat) 0)))
  else
   Lo.brk o3
noncomputable def sha_schedule_k1 (o2 : List UInt32) : List UInt32 :=
 Lo.el (sha_schedule_l2 ((64 - (16 : Int)).toNat + 1) 16 o2) (fun z : List UInt32 => sha_schedule_k2 z)
noncomputable def sha_schedule_l1 (a0 : List UInt8) : Nat → Int → (List UInt32) → Lo (List UInt32) (List UInt32)
 | 0, _, _ => .brk default
 | ml1 + 1, t101, o1 =>
  bif decide (t101 < 16) then
   sha_schedule_l1 a0 ml1 (t101 + 1) (o1.set t101.toNat ((((shl32 ((a0.getD ((4 * t101).toNat) 0).toUInt32) 24) ||| (shl32 ((a0.getD ((4 * t101 + 1).toNat) 0).toUInt32) 16)) ||| (shl32 ((a0.getD ((4 * t101 + 2).toNat) 0).toUInt32) 8)) ||| ((a0.getD ((4 * t101 + 3).toNat) 0).toUInt32)))
  else
   Lo.brk o1
noncomputable def sha_schedule (a0 : List UInt8) : List UInt32 :=
 Lo.el (sha_schedule_l1 a0 ((16 - (0 : Int)).toNat + 1) 0 (List.replicate 64 0)) (fun z : List UInt32 => sha_schedule_k1 z)
def sha_schedule_enc (x : List UInt32) : T × List (Nat × List T) := (.agg (u32s x), [])
theorem sha_schedule_m {g_a0 : Tag} (a0 : List UInt8) (h64 : a0.length = 64) : Meets Tryd.prog 113 [.sl 1 g_a0 a0.length (u8s a0)] [] [] (.agg (u32s (sha_schedule a0))) [] := by
 refine Meets.enterX (E := E) (N := 93) (enc := sha_schedule_enc) (x := (sha_schedule a0)) Tryd.func113 Tryd.call113 rfl rfl ?_
 intro Γ k hk
 refine Go.rx 20 { ws := [(0, { id := 10 })] } [] [0, 2] _ [(0, .sl 1 g_a0 a0.length (u8s a0)), (2, .addr 10 0)] [(10, (List.replicate 64 (t32 0)))] hk rfl kr .nil ?_
 clear hk; intro k hk
 refine Go.rx 20 { ws := [(0, { id := 11 })] } [] [0, 2, 3] _ [(0, .sl 1 g_a0 a0.length (u8s a0)), (2, .addr 10 0), (3, .addr 11 0)] [(10, (List.replicate 64 (t32 0))), (11, (List.replicate 64 (t32 0)))] hk rfl kr .nil ?_
 clear hk; intro k hk
 refine Go.rx 20 {} [] [0, 2, 3, 10] _ [(0, .sl 1 g_a0 a0.length (u8s a0)), (2, .addr 10 0), (3, .addr 11 0), (10, ti 0)] [(10, (List.replicate 64 (t32 0))), (11, (List.replicate 64 (t32 0)))] hk rfl kr .nil ?_
 clear hk; intro k hk
 refine Go.loopX 20 hk rfl ?_
 clear hk; intro kl1 kxl1 hl1 hxl1
 have Xl1 : ∀ (o2 : List UInt32) (f0l1 : o2.length = 64), Go E Γ 113 93 [] ((PostX Γ sha_schedule_enc) (sha_schedule_k1 o2)) kxl1 (stL [(2, .addr 10 0), (3, .addr 11 0)] [(10, (List.replicate 64 (t32 0))), (11, u32s o2)]) := by
  intro o2 f0l1
  refine Go.rx 20 {} [] [2, 3, 5] _ [(2, .addr 10 0), (3, .addr 11 0), (5, ti 16)] [(10, (List.replicate 64 (t32 0))), (11, u32s o2)] hxl1 rfl kr .nil ?_
  clear hxl1; intro kxl1 hxl1
  refine Go.loopX 20 hxl1 rfl ?_
  clear hxl1; intro kl2 kxl2 hl2 hxl2
  have Xl2 : ∀ (o4 : List UInt32) (f0l2 : o4.length = 64), Go E Γ 113 93 [] ((PostX Γ sha_schedule_enc) (sha_schedule_k2 o4)) kxl2 (stL [(2, .addr 10 0), (3, .addr 11 0)] [(10, (List.replicate 64 (t32 0))), (11, u32s o4)]) := by
   intro o4 f0l2
   refine Go.rx 20 { ws := [(0, { v := some (.agg (u32s o4)) }), (1, { c := some (u32s o4), sym := true })], ps := [92], pg := [10] } [11] [2] _ [(2, .addr 10 0)] [(10, u32s o4)] hxl2 rfl kr (.cons (mp_whole (g := (fun c : UInt32 => T.leaf (.int .u32 c.toNat))) (kr : (E.ti 190).agg = true) (kr : (E.ti 190).size = 64) (qd6_1 : (o4).length = 64)) (.cons (mp_scal o4 (fun _ => rfl) : scalL (u32s o4) = true) (.cons (by rw [List.length_map, (qd6_1 : (o4).length = 64)]; decide : (u32s o4).length ≤ 64) (.cons (by rw [List.length_map, (qd6_1 : (o4).length = 64)]; decide : 64 ≤ (u32s o4).length) (.cons (by rw [List.length_map, (qd6_1 : (o4).length = 64)]; exact Nat.le_of_ble_eq_true rfl : 0 + (u32s o4).length ≤ ((List.replicate 64 (t32 0)) : List T).length) (.cons (splice_whole (cs := (List.replicate 64 (t32 0))) (v := u32s o4) (by rw [List.length_map, (qd6_1 : (o4).length = 64)]; rfl)) (.cons (mp_memA (i := 11) (g := (fun c : UInt32 => T.leaf (.int .u32 c.toNat))) o4 (fun _ => rfl)) (.cons (mp_mem (i := 11) (g := (fun c : UInt32 => T.leaf (.int .u32 c.toNat))) o4 (fun _ => rfl)) .nil)))))))) ?_
   clear hxl2; intro kxl2 hxl2
   exact Go.lvx 20 [] _ [.agg (sub (u32s o4) 0 64)] Tryd.func113 hxl2 rfl kr (.cons (by rw [List.length_map, (qd6_1 : (o4).length = 64)]; exact Nat.le_of_ble_eq_true rfl : 0 + 64 ≤ (u32s o4).length) .nil) (T.Le.of_eq (congrArg T.agg (arr_all (qd6_1 : (o4).length = 64)))) rfl (by first | rfl | (simp only [sha_schedule_enc, T.ids, idsL, er_ids, List.append_nil, List.nil_append]; first | rfl | (rw [mp_ids _ (fun _ => rfl)]; rfl))) .nil
  have Ll2 : ∀ (ml2 : Nat) (t51 : Int) (o3 : List UInt32), (16 ≤ t51) → (t51 ≤ 64) → (o3.length = 64) → ((64 - t51).toNat < ml2) → Go E Γ 113 93 [] ((PostX Γ sha_schedule_enc) (Lo.el (sha_schedule_l2 ml2 t51 o3) (fun z : List UInt32 => sha_schedule_k2 z))) kl2 (stL [(2, .addr 10 0), (3, .addr 11 0), (5, ti t51)] [(10, (List.replicate 64 (t32 0))), (11, u32s o3)]) := by
   intro ml2
   induction ml2 with
   | zero => intro t51 o3 i0l2 i1l2 i2l2 hml2; exact absurd hml2 (Nat.not_lt_zero _)
   | succ ml2 ihl2 =>
    intro t51 o3 i0l2 i1l2 i2l2 hml2
    rw [sha_schedule_l2]
    refine Go.round hl2 ?_
    intro k hk
    refine Go.rx 20 {} [] [2, 3, 5, 50] _ [(2, .addr 10 0), (3, .addr 11 0), (5, ti t51), (50, tb (decide (t51 < 64)))] [(10, (List.replicate 64 (t32 0))), (11, u32s o3)] hk rfl kr (.cons trivial .nil) ?_
    clear hk; intro k hk
    refine Go.br 20 (Pf := (fun z : Lo (List UInt32) (List UInt32) => (PostX Γ sha_schedule_enc) (Lo.el z (fun z : List UInt32 => sha_schedule_k2 z)))) hk rfl rfl ?_ ?_ <;> clear hk <;> intro ct1 k hk
    ·have ct1p := of_decide_eq_true ct1
     refine Go.dx 20 [0, 1, 2, 3, 8, 4, 5, 6, 7, 9] { ws := [(1, { v := some (ti (t51 - 15)) }), (3, { v := some (t32 (o3.getD ((t51 - 15).toNat) 0)) }), (5, { v := some (ti (t51 - 2)) }), (7, { v := some (t32 (o3.getD ((t51 - 2).toNat) 0)) })] } [] [2, 3, 5, 6, 7] _ [(2, .addr 10 0), (3, .addr 11 0), (5, ti t51), (6, t32 (o3.getD ((t51 - 15).toNat) 0)), (7, t32 (o3.getD ((t51 - 2).toNat) 0))] [(10, (List.replicate 64 (t32 0))), (11, u32s o3)] hk rfl kr (.cons trivial (.cons (iw (t51 - 15) om) (.cons (om : 0 ≤ (t51 - 15 : Int) ∧ (t51 - 15 : Int) < 64) (.cons (part1 (kr : (E.ti 81).agg = false) (mp_get (g := (fun c : UInt32 => T.leaf (.int .u32 c.toNat))) (k := 0 + (t51 - 15).toNat * 1) (n := (t51 - 15).toNat) o3 (0 : UInt32) (by omega) om)) (.cons trivial (.cons (iw (t51 - 2) om) (.cons (om : 0 ≤ (t51 - 2 : Int) ∧ (t51 - 2 : Int) < 64) (.cons (part1 (kr : (E.ti 81).agg = false) (mp_get (g := (fun c : UInt32 => T.leaf (.int .u32 c.toNat))) (k := 0 + (t51 - 2).toNat * 1) (n := (t51 - 2).toNat) o3 (0 : UInt32) (by omega) om)) .nil)))))))) ?_
     clear hk; intro k hk
     refine Go.rx 20 { ws := [(1, { call := some { ids := [], S := [], M := [], R := t32 (rl32_ (o3.getD ((t51 - 15).toNat) 0) (-7)), H' := [] } }), (3, { call := some { ids := [], S := [], M := [], R := t32 (rl32_ (o3.getD ((t51 - 15).toNat) 0) (-18)), H' := [] } }), (4, { v := some (t32 ((rl32_ (o3.getD ((t51 - 15).toNat) 0) (-7)) ^^^ (rl32_ (o3.getD ((t51 - 15).toNat) 0) (-18)))) }), (6, { v := some (t32 (shr32 (o3.getD ((t51 - 15).toNat) 0) 3)) }), (7, { v := some (t32 (((rl32_ (o3.getD ((t51 - 15).toNat) 0) (-7)) ^^^ (rl32_ (o3.getD ((t51 - 15).toNat) 0) (-18))) ^^^ (shr32 (o3.getD ((t51 - 15).toNat) 0) 3))) })] } [] [2, 3, 5, 7, 8] _ [(2, .addr 10 0), (3, .addr 11 0), (5, ti t51), (7, t32 (o3.getD ((t51 - 2).toNat) 0)), (8, t32 (((rl32_ (o3.getD ((t51 - 15).toNat) 0) (-7)) ^^^ (rl32_ (o3.getD ((t51 - 15).toNat) 0) (-18))) ^^^ (shr32 (o3.getD ((t51 - 15).toNat) 0) 3)))] [(10, (List.replicate 64 (t32 0))), (11, u32s o3)] hk rfl kr (.cons (rl32__m (o3.getD ((t51 - 15).toNat) 0) (-7)) (.cons (sb : subN (idsL [t32 (o3.getD ((t51 - 15).toNat) 0), ti (-7)]) [] = true) (.cons (rl32__m (o3.getD ((t51 - 15).toNat) 0) (-18)) (.cons (sb : subN (idsL [t32 (o3.getD ((t51 - 15).toNat) 0), ti (-18)]) [] = true) (.cons trivial (.cons (xor32 (rl32_ (o3.getD ((t51 - 15).toNat) 0) (-7)) (rl32_ (o3.getD ((t51 - 15).toNat) 0) (-18))) (.cons (by decide : 0 ≤ (3 : Int)) (.cons (shrT32 (o3.getD ((t51 - 15).toNat) 0) 3) (.cons trivial (.cons (xor32 ((rl32_ (o3.getD ((t51 - 15).toNat) 0) (-7)) ^^^ (rl32_ (o3.getD ((t51 - 15).toNat) 0) (-18))) (shr32 (o3.getD ((t51 - 15).toNat) 0) 3)) .nil)))))))))) ?_
     clear hk; intro k hk
     refine Go.bnd (Pf := (fun z : Lo (List UInt32) (List UInt32) => (PostX Γ sha_schedule_enc) (Lo.el z (fun z : List UInt32 => sha_schedule_k2 z)))) (v := (rl32_ (o3.getD ((t51 - 15).toNat) 0) (-7))) (fun x1 => [(2, .addr 10 0), (3, .addr 11 0), (5, ti t51), (7, t32 (o3.getD ((t51 - 2).toNat) 0)), (8, t32 ((x1 ^^^ (rl32_ (o3.getD ((t51 - 15).toNat) 0) (-18))) ^^^ (shr32 (o3.getD ((t51 - 15).toNat) 0) 3)))]) (fun x1 => [(10, (List.replicate 64 (t32 0))), (11, u32s o3)]) ?_
     intro x1 hx1
     refine Go.bnd (Pf := (fun z : Lo (List UInt32) (List UInt32) => (PostX Γ sha_schedule_enc) (Lo.el z (fun z : List UInt32 => sha_schedule_k2 z)))) (v := (rl32_ (o3.getD ((t51 - 15).toNat) 0) (-18))) (fun x2 => [(2, .addr 10 0), (3, .addr 11 0), (5, ti t51), (7, t32 (o3.getD ((t51 - 2).toNat) 0)), (8, t32 ((x1 ^^^ x2) ^^^ (shr32 (o3.getD ((t51 - 15).toNat) 0) 3)))]) (fun x2 => [(10, (List.replicate 64 (t32 0))), (11, u32s o3)]) ?_
     intro x2 hx2
     refine Go.rx 20 { ws := [(1, { call := some { ids := [], S := [], M := [], R := t32 (rl32_ (o3.getD ((t51 - 2).toNat) 0) (-17)), H' := [] } }), (3, { call := some { ids := [], S := [], M := [], R := t32 (rl32_ (o3.getD ((t51 - 2).toNat) 0) (-19)), H' := [] } }), (4, { v := some (t32 ((rl32_ (o3.getD ((t51 - 2).toNat) 0) (-17)) ^^^ (rl32_ (o3.getD ((t51 - 2).toNat) 0) (-19)))) }), (6, { v := some (t32 (shr32 (o3.getD ((t51 - 2).toNat) 0) 10)) }), (7, { v := some (t32 (((rl32_ (o3.getD ((t51 - 2).toNat) 0) (-17)) ^^^ (rl32_ (o3.getD ((t51 - 2).toNat) 0) (-19))) ^^^ (shr32 (o3.getD ((t51 - 2).toNat) 0) 10))) })] } [] [2, 3, 5, 8, 9] _ [(2, .addr 10 0), (3, .addr 11 0), (5, ti t51), (8, t32 ((x1 ^^^ x2) ^^^ (shr32 (o3.getD ((t51 - 15).toNat) 0) 3))), (9, t32 (((rl32_ (o3.getD ((t51 - 2).toNat) 0) (-17)) ^^^ (rl32_ (o3.getD ((t51 - 2).toNat) 0) (-19))) ^^^ (shr32 (o3.getD ((t51 - 2).toNat) 0) 10)))] [(10, (List.replicate 64 (t32 0))), (11, u32s o3)] hk rfl kr (.cons (rl32__m (o3.getD ((t51 - 2).toNat) 0) (-17)) (.cons (sb : subN (idsL [t32 (o3.getD ((t51 - 2).toNat) 0), ti (-17)]) [] = true) (.cons (rl32__m (o3.getD ((t51 - 2).toNat) 0) (-19)) (.cons (sb : subN (idsL [t32 (o3.getD ((t51 - 2).toNat) 0), ti (-19)]) [] = true) (.cons trivial (.cons (xor32 (rl32_ (o3.getD ((t51 - 2).toNat) 0) (-17)) (rl32_ (o3.getD ((t51 - 2).toNat) 0) (-19))) (.cons (by decide : 0 ≤ (10 : Int)) (.cons (shrT32 (o3.getD ((t51 - 2).toNat) 0) 10) (.cons trivial (.cons (xor32 ((rl32_ (o3.getD ((t51 - 2).toNat) 0) (-17)) ^^^ (rl32_ (o3.getD ((t51 - 2).toNat) 0) (-19))) (shr32 (o3.getD ((t51 - 2).toNat) 0) 10)) .nil)))))))))) ?_
     clear hk; intro k hk
     refine Go.bnd (Pf := (fun z : Lo (List UInt32) (List UInt32) => (PostX Γ sha_schedule_enc) (Lo.el z (fun z : List UInt32 => sha_schedule_k2 z)))) (v := (rl32_ (o3.getD ((t51 - 2).toNat) 0) (-17))) (fun x3 => [(2, .addr 10 0), (3, .addr 11 0), (5, ti t51), (8, t32 ((x1 ^^^ x2) ^^^ (shr32 (o3.getD ((t51 - 15).toNat) 0) 3))), (9, t32 ((x3 ^^^ (rl32_ (o3.getD ((t51 - 2).toNat) 0) (-19))) ^^^ (shr32 (o3.getD ((t51 - 2).toNat) 0) 10)))]) (fun x3 => [(10, (List.replicate 64 (t32 0))), (11, u32s o3)]) ?_
     intro x3 hx3
     refine Go.bnd (Pf := (fun z : Lo (List UInt32) (List UInt32) => (PostX Γ sha_schedule_enc) (Lo.el z (fun z : List UInt32 => sha_schedule_k2 z)))) (v := (rl32_ (o3.getD ((t51 - 2).toNat) 0) (-19))) (fun x4 => [(2, .addr 10 0), (3, .addr 11 0), (5, ti t51), (8, t32 ((x1 ^^^ x2) ^^^ (shr32 (o3.getD ((t51 - 15).toNat) 0) 3))), (9, t32 ((x3 ^^^ x4) ^^^ (shr32 (o3.getD ((t51 - 2).toNat) 0) 10)))]) (fun x4 => [(10, (List.replicate 64 (t32 0))), (11, u32s o3)]) ?_
     intro x4 hx4
     refine Go.dx 20 [0, 1, 2, 3, 4, 5, 6, 7, 8, 9, 10, 11, 12, 13, 14, 15] { ws := [(3, { v := some (ti (t51 - 7)) }), (5, { v := some (t32 (o3.getD ((t51 - 7).toNat) 0)) }), (6, { v := some (t32 (((x3 ^^^ x4) ^^^ (shr32 (o3.getD ((t51 - 2).toNat) 0) 10)) + (o3.getD ((t51 - 7).toNat) 0))) }), (8, { v := some (t32 ((((x3 ^^^ x4) ^^^ (shr32 (o3.getD ((t51 - 2).toNat) 0) 10)) + (o3.getD ((t51 - 7).toNat) 0)) + ((x1 ^^^ x2) ^^^ (shr32 (o3.getD ((t51 - 15).toNat) 0) 3)))) }), (10, { v := some (ti (t51 - 16)) }), (12, { v := some (t32 (o3.getD ((t51 - 16).toNat) 0)) }), (13, { v := some (t32 (((((x3 ^^^ x4) ^^^ (shr32 (o3.getD ((t51 - 2).toNat) 0) 10)) + (o3.getD ((t51 - 7).toNat) 0)) + ((x1 ^^^ x2) ^^^ (shr32 (o3.getD ((t51 - 15).toNat) 0) 3))) + (o3.getD ((t51 - 16).toNat) 0))) }), (15, { c := some (u32s (o3.set t51.toNat (((((x3 ^^^ x4) ^^^ (shr32 (o3.getD ((t51 - 2).toNat) 0) 10)) + (o3.getD ((t51 - 7).toNat) 0)) + ((x1 ^^^ x2) ^^^ (shr32 (o3.getD ((t51 - 15).toNat) 0) 3))) + (o3.getD ((t51 - 16).toNat) 0)))), sym := true })] } [] [2, 3, 5] _ [(2, .addr 10 0), (3, .addr 11 0), (5, ti t51)] [(10, (List.replicate 64 (t32 0))), (11, u32s (o3.set t51.toNat (((((x3 ^^^ x4) ^^^ (shr32 (o3.getD ((t51 - 2).toNat) 0) 10)) + (o3.getD ((t51 - 7).toNat) 0)) + ((x1 ^^^ x2) ^^^ (shr32 (o3.getD ((t51 - 15).toNat) 0) 3))) + (o3.getD ((t51 - 16).toNat) 0))))] hk rfl kr (.cons trivial (.cons (iw (t51 - 7) om) (.cons (om : 0 ≤ (t51 - 7 : Int) ∧ (t51 - 7 : Int) < 64) (.cons (part1 (kr : (E.ti 81).agg = false) (mp_get (g := (fun c : UInt32 => T.leaf (.int .u32 c.toNat))) (k := 0 + (t51 - 7).toNat * 1) (n := (t51 - 7).toNat) o3 (0 : UInt32) (by omega) om)) (.cons trivial (.cons (add32 ((x3 ^^^ x4) ^^^ (shr32 (o3.getD ((t51 - 2).toNat) 0) 10)) (o3.getD ((t51 - 7).toNat) 0)) (.cons trivial (.cons (add32 (((x3 ^^^ x4) ^^^ (shr32 (o3.getD ((t51 - 2).toNat) 0) 10)) + (o3.getD ((t51 - 7).toNat) 0)) ((x1 ^^^ x2) ^^^ (shr32 (o3.getD ((t51 - 15).toNat) 0) 3))) (.cons trivial (.cons (iw (t51 - 16) om) (.cons (om : 0 ≤ (t51 - 16 : Int) ∧ (t51 - 16 : Int) < 64) (.cons (part1 (kr : (E.ti 81).agg = false) (mp_get (g := (fun c : UInt32 => T.leaf (.int .u32 c.toNat))) (k := 0 + (t51 - 16).toNat * 1) (n := (t51 - 16).toNat) o3 (0 : UInt32) (by omega) om)) (.cons trivial (.cons (add32 ((((x3 ^^^ x4) ^^^ (shr32 (o3.getD ((t51 - 2).toNat) 0) 10)) + (o3.getD ((t51 - 7).toNat) 0)) + ((x1 ^^^ x2) ^^^ (shr32 (o3.getD ((t51 - 15).toNat) 0) 3))) (o3.getD ((t51 - 16).toNat) 0)) (.cons (om : 0 ≤ (t51 : Int) ∧ (t51 : Int) < 64) (.cons (rfl : scalL [t32 (((((x3 ^^^ x4) ^^^ (shr32 (o3.getD ((t51 - 2).toNat) 0) 10)) + (o3.getD ((t51 - 7).toNat) 0)) + ((x1 ^^^ x2) ^^^ (shr32 (o3.getD ((t51 - 15).toNat) 0) 3))) + (o3.getD ((t51 - 16).toNat) 0))] = true) (.cons (by decide : 1 ≤ 1) (.cons (by decide : 1 ≤ 1) (.cons (qd6_3 : 0 + t51.toNat * 1 + 1 ≤ (u32s o3).length) (.cons (mp_set (g := (fun c : UInt32 => T.leaf (.int .u32 c.toNat))) (k := 0 + t51.toNat * 1) (n := t51.toNat) (x := ((((x3 ^^^ x4) ^^^ (shr32 (o3.getD ((t51 - 2).toNat) 0) 10)) + (o3.getD ((t51 - 7).toNat) 0)) + ((x1 ^^^ x2) ^^^ (shr32 (o3.getD ((t51 - 15).toNat) 0) 3))) + (o3.getD ((t51 - 16).toNat) 0)) o3 rfl (by omega) om) .nil)))))))))))))))))))) ?_
     clear hk; intro k hk
     refine Go.rx 20 { ws := [(1, { v := some (ti (t51 + 1)) })] } [] [2, 3, 5] _ [(2, .addr 10 0), (3, .addr 11 0), (5, ti (t51 + 1))] [(10, (List.replicate 64 (t32 0))), (11, u32s (o3.set t51.toNat (((((x3 ^^^ x4) ^^^ (shr32 (o3.getD ((t51 - 2).toNat) 0) 10)) + (o3.getD ((t51 - 7).toNat) 0)) + ((x1 ^^^ x2) ^^^ (shr32 (o3.getD ((t51 - 15).toNat) 0) 3))) + (o3.getD ((t51 - 16).toNat) 0))))] hk rfl kr (.cons trivial (.cons (iw (t51 + 1) om) .nil)) ?_
     clear hk; intro k hk
     exact Go.join 20 hk hl2 rfl (ihl2 (t51 + 1) (o3.set t51.toNat (((((x3 ^^^ x4) ^^^ (shr32 (o3.getD ((t51 - 2).toNat) 0) 10)) + (o3.getD ((t51 - 7).toNat) 0)) + ((x1 ^^^ x2) ^^^ (shr32 (o3.getD ((t51 - 15).toNat) 0) 3))) + (o3.getD ((t51 - 16).toNat) 0))) qd6_2 qd6_2 qd6_2 om)
    ·have ct1p := of_decide_eq_false ct1
     refine Go.keepN [2, 3] (L' := [(2, .addr 10 0), (3, .addr 11 0)]) rfl ?_
     exact Go.exitX (Pf := (PostX Γ sha_schedule_enc)) (F := fun z : List UInt32 => sha_schedule_k2 z) (a := o3) (Go.join 20 hk hxl2 rfl (Xl2 o3 qd6_2))
  exact Ll2 _ 16 o2 qd6_2 qd6_2 qd6_2 (Nat.lt_succ_self _)
 have Ll1 : ∀ (ml1 : Nat) (t101 : Int) (o1 : List UInt32), (0 ≤ t101) → (t101 ≤ 16) → (o1.length = 64) → ((16 - t101).toNat < ml1) → Go E Γ 113 93 [] ((PostX Γ sha_schedule_enc) (Lo.el (sha_schedule_l1 a0 ml1 t101 o1) (fun z : List UInt32 => sha_schedule_k1 z))) kl1 (stL [(0, .sl 1 g_a0 a0.length (u8s a0)), (2, .addr 10 0), (3, .addr 11 0), (10, ti t101)] [(10, (List.replicate 64 (t32 0))), (11, u32s o1)]) := by
  intro ml1
  induction ml1 with
  | zero => intro t101 o1 i0l1 i1l1 i2l1 hml1; exact absurd hml1 (Nat.not_lt_zero _)
  | succ ml1 ihl1 =>
   intro t101 o1 i0l1 i1l1 i2l1 hml1
   rw [sha_schedule_l1]
   refine Go.round hl1 ?_
   intro k hk
   refine Go.rx 20 {} [] [0, 2, 3, 10, 11] _ [(0, .sl 1 g_a0 a0.length (u8s a0)), (2, .addr 10 0), (3, .addr 11 0), (10, ti t101), (11, tb (decide (t101 < 16)))] [(10, (List.replicate 64 (t32 0))), (11, u32s o1)] hk rfl kr (.cons trivial .nil) ?_
   clear hk; intro k hk
   refine Go.br 20 (Pf := (fun z : Lo (List UInt32) (List UInt32) => (PostX Γ sha_schedule_enc) (Lo.el z (fun z : List UInt32 => sha_schedule_k1 z)))) hk rfl rfl ?_ ?_ <;> clear hk <;> intro ct2 k hk
   ·have ct2p := of_decide_eq_true ct2
    refine Go.rx 20 {} [] [0, 2, 3, 4, 10] _ [(0, .sl 1 g_a0 a0.length (u8s a0)), (2, .addr 10 0), (3, .addr 11 0), (4, ti t101), (10, ti t101)] [(10, (List.replicate 64 (t32 0))), (11, u32s o1)] hk rfl kr .nil ?_
    clear hk; intro k hk
    refine Go.dx 20 [0, 1, 2, 3, 4, 5, 6, 7, 8, 9, 10, 11, 12, 13, 14, 15, 16, 17, 18, 19, 20, 21, 22, 23, 24, 25, 26, 27, 28, 29, 30, 31, 32, 33, 34, 35] { ws := [(3, { v := some (ti (4 * t101)) }), (5, { v := some (t8 (a0.getD ((4 * t101).toNat) 0)) }), (6, { v := some (t32 ((a0.getD ((4 * t101).toNat) 0).toUInt32)) }), (7, { v := some (t32 (shl32 ((a0.getD ((4 * t101).toNat) 0).toUInt32) 24)) }), (10, { v := some (ti (4 * t101)) }), (11, { v := some (ti (4 * t101 + 1)) }), (13, { v := some (t8 (a0.getD ((4 * t101 + 1).toNat) 0)) }), (14, { v := some (t32 ((a0.getD ((4 * t101 + 1).toNat) 0).toUInt32)) }), (15, { v := some (t32 (shl32 ((a0.getD ((4 * t101 + 1).toNat) 0).toUInt32) 16)) }), (16, { v := some (t32 ((shl32 ((a0.getD ((4 * t101).toNat) 0).toUInt32) 24) ||| (shl32 ((a0.getD ((4 * t101 + 1).toNat) 0).toUInt32) 16))) }), (19, { v := some (ti (4 * t101)) }), (20, { v := some (ti (4 * t101 + 2)) }), (22, { v := some (t8 (a0.getD ((4 * t101 + 2).toNat) 0)) }), (23, { v := some (t32 ((a0.getD ((4 * t101 + 2).toNat) 0).toUInt32)) }), (24, { v := some (t32 (shl32 ((a0.getD ((4 * t101 + 2).toNat) 0).toUInt32) 8)) }), (25, { v := some (t32 (((shl32 ((a0.getD ((4 * t101).toNat) 0).toUInt32) 24) ||| (shl32 ((a0.getD ((4 * t101 + 1).toNat) 0).toUInt32) 16)) ||| (shl32 ((a0.getD ((4 * t101 + 2).toNat) 0).toUInt32) 8))) }), (28, { v := some (ti (4 * t101)) }), (29, { v := some (ti (4 * t101 + 3)) }), (31, { v := some (t8 (a0.getD ((4 * t101 + 3).toNat) 0)) }), (32, { v := some (t32 ((a0.getD ((4 * t101 + 3).toNat) 0).toUInt32)) }), (33, { v := some (t32 ((((shl32 ((a0.getD ((4 * t101).toNat) 0).toUInt32) 24) ||| (shl32 ((a0.getD ((4 * t101 + 1).toNat) 0).toUInt32) 16)) ||| (shl32 ((a0.getD ((4 * t101 + 2).toNat) 0).toUInt32) 8)) ||| ((a0.getD ((4 * t101 + 3).toNat) 0).toUInt32))) }), (35, { c := some (u32s (o1.set t101.toNat ((((shl32 ((a0.getD ((4 * t101).toNat) 0).toUInt32) 24) ||| (shl32 ((a0.getD ((4 * t101 + 1).toNat) 0).toUInt32) 16)) ||| (shl32 ((a0.getD ((4 * t101 + 2).toNat) 0).toUInt32) 8)) ||| ((a0.getD ((4 * t101 + 3).toNat) 0).toUInt32)))), sym := true })] } [] [0, 2, 3, 10] _ [(0, .sl 1 g_a0 a0.length (u8s a0)), (2, .addr 10 0), (3, .addr 11 0), (10, ti t101)] [(10, (List.replicate 64 (t32 0))), (11, u32s (o1.set t101.toNat ((((shl32 ((a0.getD ((4 * t101).toNat) 0).toUInt32) 24) ||| (shl32 ((a0.getD ((4 * t101 + 1).toNat) 0).toUInt32) 16)) ||| (shl32 ((a0.getD ((4 * t101 + 2).toNat) 0).toUInt32) 8)) ||| ((a0.getD ((4 * t101 + 3).toNat) 0).toUInt32))))] hk rfl kr (.cons trivial (.cons (iw (4 * t101) om) (.cons (om : 0 ≤ (4 * t101 : Int) ∧ (4 * t101 : Int) < ((a0.length : Nat) : Int)) (.cons (part1 (kr : (E.ti 5).agg = false) (mp_get (g := zU) (k := (4 * t101).toNat * 1) (n := (4 * t101).toNat) a0 (0 : UInt8) (by omega) om)) (.cons (cv8_32 (a0.getD ((4 * t101).toNat) 0)) (.cons (by decide : 0 ≤ (24 : Int)) (.cons (shlT32 ((a0.getD ((4 * t101).toNat) 0).toUInt32) 24) (.cons trivial (.cons (iw (4 * t101) om) (.cons trivial (.cons (iw (4 * t101 + 1) om) (.cons (om : 0 ≤ (4 * t101 + 1 : Int) ∧ (4 * t101 + 1 : Int) < ((a0.length : Nat) : Int)) (.cons (part1 (kr : (E.ti 5).agg = false) (mp_get (g := zU) (k := (4 * t101 + 1).toNat * 1) (n := (4 * t101 + 1).toNat) a0 (0 : UInt8) (by omega) om)) (.cons (cv8_32 (a0.getD ((4 * t101 + 1).toNat) 0)) (.cons (by decide : 0 ≤ (16 : Int)) (.cons (shlT32 ((a0.getD ((4 * t101 + 1).toNat) 0).toUInt32) 16) (.cons trivial (.cons (or32 (shl32 ((a0.getD ((4 * t101).toNat) 0).toUInt32) 24) (shl32 ((a0.getD ((4 * t101 + 1).toNat) 0).toUInt32) 16)) (.cons trivial (.cons (iw (4 * t101) om) (.cons trivial (.cons (iw (4 * t101 + 2) om) (.cons (om : 0 ≤ (4 * t101 + 2 : Int) ∧ (4 * t101 + 2 : Int) < ((a0.length : Nat) : Int)) (.cons (part1 (kr : (E.ti 5).agg = false) (mp_get (g := zU) (k := (4 * t101 + 2).toNat * 1) (n := (4 * t101 + 2).toNat) a0 (0 : UInt8) (by omega) om)) (.cons (cv8_32 (a0.getD ((4 * t101 + 2).toNat) 0)) (.cons (by decide : 0 ≤ (8 : Int)) (.cons (shlT32 ((a0.getD ((4 * t101 + 2).toNat) 0).toUInt32) 8) (.cons trivial (.cons (or32 ((shl32 ((a0.getD ((4 * t101).toNat) 0).toUInt32) 24) ||| (shl32 ((a0.getD ((4 * t101 + 1).toNat) 0).toUInt32) 16)) (shl32 ((a0.getD ((4 * t101 + 2).toNat) 0).toUInt32) 8)) (.cons trivial (.cons (iw (4 * t101) om) (.cons trivial (.cons (iw (4 * t101 + 3) om) (.cons (om : 0 ≤ (4 * t101 + 3 : Int) ∧ (4 * t101 + 3 : Int) < ((a0.length : Nat) : Int)) (.cons (part1 (kr : (E.ti 5).agg = false) (mp_get (g := zU) (k := (4 * t101 + 3).toNat * 1) (n := (4 * t101 + 3).toNat) a0 (0 : UInt8) (by omega) om)) (.cons (cv8_32 (a0.getD ((4 * t101 + 3).toNat) 0)) (.cons trivial (.cons (or32 (((shl32 ((a0.getD ((4 * t101).toNat) 0).toUInt32) 24) ||| (shl32 ((a0.getD ((4 * t101 + 1).toNat) 0).toUInt32) 16)) ||| (shl32 ((a0.getD ((4 * t101 + 2).toNat) 0).toUInt32) 8)) ((a0.getD ((4 * t101 + 3).toNat) 0).toUInt32)) (.cons (om : 0 ≤ (t101 : Int) ∧ (t101 : Int) < 64) (.cons (rfl : scalL [t32 ((((shl32 ((a0.getD ((4 * t101).toNat) 0).toUInt32) 24) ||| (shl32 ((a0.getD ((4 * t101 + 1).toNat) 0).toUInt32) 16)) ||| (shl32 ((a0.getD ((4 * t101 + 2).toNat) 0).toUInt32) 8)) ||| ((a0.getD ((4 * t101 + 3).toNat) 0).toUInt32))] = true) (.cons (by decide : 1 ≤ 1) (.cons (by decide : 1 ≤ 1) (.cons (qd6_3 : 0 + t101.toNat * 1 + 1 ≤ (u32s o1).length) (.cons (mp_set (g := (fun c : UInt32 => T.leaf (.int .u32 c.toNat))) (k := 0 + t101.toNat * 1) (n := t101.toNat) (x := (((shl32 ((a0.getD ((4 * t101).toNat) 0).toUInt32) 24) ||| (shl32 ((a0.getD ((4 * t101 + 1).toNat) 0).toUInt32) 16)) ||| (shl32 ((a0.getD ((4 * t101 + 2).toNat) 0).toUInt32) 8)) ||| ((a0.getD ((4 * t101 + 3).toNat) 0).toUInt32)) o1 rfl (by omega) om) .nil)))))))))))))))))))))))))))))))))))))))))))) ?_
    clear hk; intro k hk
    refine Go.rx 20 { ws := [(0, { v := some (ti (t101 + 1)) })] } [] [0, 2, 3, 10] _ [(0, .sl 1 g_a0 a0.length (u8s a0)), (2, .addr 10 0), (3, .addr 11 0), (10, ti (t101 + 1))] [(10, (List.replicate 64 (t32 0))), (11, u32s (o1.set t101.toNat ((((shl32 ((a0.getD ((4 * t101).toNat) 0).toUInt32) 24) ||| (shl32 ((a0.getD ((4 * t101 + 1).toNat) 0).toUInt32) 16)) ||| (shl32 ((a0.getD ((4 * t101 + 2).toNat) 0).toUInt32) 8)) ||| ((a0.getD ((4 * t101 + 3).toNat) 0).toUInt32))))] hk rfl kr (.cons trivial (.cons (iw (t101 + 1) om) .nil)) ?_
    clear hk; intro k hk
    exact Go.join 20 hk hl1 rfl (ihl1 (t101 + 1) (o1.set t101.toNat ((((shl32 ((a0.getD ((4 * t101).toNat) 0).toUInt32) 24) ||| (shl32 ((a0.getD ((4 * t101 + 1).toNat) 0).toUInt32) 16)) ||| (shl32 ((a0.getD ((4 * t101 + 2).toNat) 0).toUInt32) 8)) ||| ((a0.getD ((4 * t101 + 3).toNat) 0).toUInt32))) qd6_2 qd6_2 qd6_2 om)
   ·have ct2p := of_decide_eq_false ct2
    refine Go.keepN [2, 3] (L' := [(2, .addr 10 0), (3, .addr 11 0)]) rfl ?_
    exact Go.exitX (Pf := (PostX Γ sha_schedule_enc)) (F := fun z : List UInt32 => sha_schedule_k1 z) (a := o1) (Go.join 20 hk hxl1 rfl (Xl1 o1 qd6_2))
 exact Ll1 _ 0 (List.replicate 64 0) qd6_2 qd6_2 qd6_2 (Nat.lt_succ_self _)
theorem sched_l2 : ∀ (m : Nat) (t : Int) (o : List UInt32), (64 - t).toNat < m → o.length = 64 → (Lo.el (sha_schedule_l2 m t o) (fun z => sha_schedule_k2 z)).length = 64 := by
 intro m
 induction m with
 | zero => intro t o h; exact absurd h (Nat.not_lt_zero _)
 | succ m ih =>
  intro t o h ho
  rw [sha_schedule_l2]
  by_cases c : t < 64
  ·rw [decide_eq_true c, cond_true]
   simp only [bnd_eq]
   exact ih _ _ (by omega) (by simpa using ho)
  ·rw [decide_eq_false c]; exact ho
theorem sched_l1 (a0 : List UInt8) : ∀ (m : Nat) (t : Int) (o : List UInt32), (16 - t).toNat < m → o.length = 64 → (Lo.el (sha_schedule_l1 a0 m t o) (fun z => sha_schedule_k1 z)).length = 64 := by
 intro m
 induction m with
 | zero => intro t o h; exact absurd h (Nat.not_lt_zero _)
 | succ m ih =>
  intro t o h ho
  rw [sha_schedule_l1]
  by_cases c : t < 16
  ·rw [decide_eq_true c, cond_true]
   exact ih _ _ (by omega) (by simpa using ho)
  ·rw [decide_eq_false c, cond_false]
   simp only [Lo.el]
   rw [sha_schedule_k1]
   exact sched_l2 _ _ _ (by omega) ho
@[simp] theorem schedule_len (a0 : List UInt8) : (sha_schedule a0).length = 64 := by
 rw [sha_schedule]
 exact sched_l1 a0 _ _ _ (by omega) rfl
theorem sha_schedule_l2_gen : True := by have := @sha_schedule_l2.eq_1; have := @sha_schedule_l2.eq_2; trivial
theorem sha_schedule_l1_gen : True := by have := @sha_schedule_l1.eq_1; have := @sha_schedule_l1.eq_2; trivial
attribute [irreducible] sha_schedule_k2 sha_schedule_l2 sha_schedule_k1 sha_schedule_l1 sha_schedule
noncomputable def sha_mix_k2 (o2 : List UInt32) : W8 :=
 (o2.getD 0 0, o2.getD 1 0, o2.getD 2 0, o2.getD 3 0, o2.getD 4 0, o2.getD 5 0, o2.getD 6 0, o2.getD 7 0)
noncomputable def sha_mix_l2 (c14_0_2 : UInt32) (c14_1_2 : UInt32) (c14_2_2 : UInt32) (c14_3_2 : UInt32) (c14_4_2 : UInt32) (c14_5_2 : UInt32) (c14_6_2 : UInt32) (c14_7_2 : UInt32) : Nat → Int → (List UInt32) → Lo (List UInt32) W8
 | 0, _, _ => .brk default
 | ml2 + 1, t1001, o1 =>
  bif decide (t1001 < 8) then
   sha_mix_l2 c14_0_2 c14_1_2 c14_2_2 c14_3_2 c14_4_2 c14_5_2 c14_6_2 c14_7_2 ml2 (t1001 + 1) (o1.set t1001.toNat ((o1.getD t1001.toNat 0) + (([c14_0_2, c14_1_2, c14_2_2, c14_3_2, c14_4_2, c14_5_2, c14_6_2, c14_7_2] : List UInt32).getD t1001.toNat 0)))
  else
   Lo.brk o1
noncomputable def sha_mix_k1 (a00 : UInt32) (a01 : UInt32) (a02 : UInt32) (a03 : UInt32) (a04 : UInt32) (a05 : UInt32) (a06 : UInt32) (a07 : UInt32) (c14_0_2 : UInt32) (c14_1_2 : UInt32) (c14_2_2 : UInt32) (c14_3_2 : UInt32) (c14_4_2 : UInt32) (c14_5_2 : UInt32) (c14_6_2 : UInt32) (c14_7_2 : UInt32) : W8 :=
 Lo.el (sha_mix_l2 c14_0_2 c14_1_2 c14_2_2 c14_3_2 c14_4_2 c14_5_2 c14_6_2 c14_7_2 ((8 - (0 : Int)).toNat + 1) 0 [a00, a01, a02, a03, a04, a05, a06, a07]) (fun z : List UInt32 => sha_mix_k2 z)
noncomputable def sha_mix_l1 (x1 : List UInt32) : Nat → Int → UInt32 → UInt32 → UInt32 → UInt32 → UInt32 → UInt32 → UInt32 → UInt32 → Lo W8 W8
 | 0, _, _, _, _, _, _, _, _, _ => .brk default
 | ml1 + 1, t181, c14_0_1, c14_1_1, c14_2_1, c14_3_1, c14_4_1, c14_5_1, c14_6_1, c14_7_1 =>
  bif decide (t181 < 64) then
   bnd (rl32_ c14_4_1 (-6)) fun x2 =>
   bnd (rl32_ c14_4_1 (-11)) fun x3 =>
   bnd (rl32_ c14_4_1 (-25)) fun x4 =>
   bnd (rl32_ c14_0_1 (-2)) fun x5 =>
   bnd (rl32_ c14_0_1 (-13)) fun x6 =>
   bnd (rl32_ c14_0_1 (-22)) fun x7 =>
   sha_mix_l1 x1 ml1 (t181 + 1) (((((c14_7_1 + ((x2 ^^^ x3) ^^^ x4)) + ((c14_4_1 &&& c14_5_1) ^^^ ((~~~c14_4_1) &&& c14_6_1))) + (sha_constants.getD t181.toNat 0)) + (x1.getD t181.toNat 0)) + (((x5 ^^^ x6) ^^^ x7) + (((c14_0_1 &&& c14_1_1) ^^^ (c14_0_1 &&& c14_2_1)) ^^^ (c14_1_1 &&& c14_2_1)))) c14_0_1 c14_1_1 c14_2_1 (c14_3_1 + ((((c14_7_1 + ((x2 ^^^ x3) ^^^ x4)) + ((c14_4_1 &&& c14_5_1) ^^^ ((~~~c14_4_1) &&& c14_6_1))) + (sha_constants.getD t181.toNat 0)) + (x1.getD t181.toNat 0))) c14_4_1 c14_5_1 c14_6_1
  else
   Lo.brk (c14_0_1, c14_1_1, c14_2_1, c14_3_1, c14_4_1, c14_5_1, c14_6_1, c14_7_1)
noncomputable def sha_mix (a00 : UInt32) (a01 : UInt32) (a02 : UInt32) (a03 : UInt32) (a04 : UInt32) (a05 : UInt32) (a06 : UInt32) (a07 : UInt32) (a1 : List UInt8) : W8 :=
 bnd (sha_schedule a1) fun x1 =>
 Lo.el (sha_mix_l1 x1 ((64 - (0 : Int)).toNat + 1) 0 a00 a01 a02 a03 a04 a05 a06 a07) (fun z : UInt32 × UInt32 × UInt32 × UInt32 × UInt32 × UInt32 × UInt32 × UInt32 => sha_mix_k1 a00 a01 a02 a03 a04 a05 a06 a07 z.1 z.2.1 z.2.2.1 z.2.2.2.1 z.2.2.2.2.1 z.2.2.2.2.2.1 z.2.2.2.2.2.2.1 z.2.2.2.2.2.2.2)
def sha_mix_enc (x : W8) : T × List (Nat × List T) := (.agg [t32 x.1, t32 x.2.1, t32 x.2.2.1, t32 x.2.2.2.1, t32 x.2.2.2.2.1, t32 x.2.2.2.2.2.1, t32 x.2.2.2.2.2.2.1, t32 x.2.2.2.2.2.2.2], [])
theorem sha_mix_m {g_a1 : Tag} (a00 : UInt32) (a01 : UInt32) (a02 : UInt32) (a03 : UInt32) (a04 : UInt32) (a05 : UInt32) (a06 : UInt32) (a07 : UInt32) (a1 : List UInt8) (h64 : a1.length = 64) : Meets Tryd.prog 108 [.agg [t32 a00, t32 a01, t32 a02, t32 a03, t32 a04, t32 a05, t32 a06, t32 a07], .sl 1 g_a1 a1.length (u8s a1)] [] [] (.agg [t32 ((sha_mix a00 a01 a02 a03 a04 a05 a06 a07 a1).1), t32 ((sha_mix a00 a01 a02 a03 a04 a05 a06 a07 a1).2.1), t32 ((sha_mix a00 a01 a02 a03 a04 a05 a06 a07 a1).2.2.1), t32 ((sha_mix a00 a01 a02 a03 a04 a05 a06 a07 a1).2.2.2.1), t32 ((sha_mix a00 a01 a02 a03 a04 a05 a06 a07 a1).2.2.2.2.1), t32 ((sha_mix a00 a01 a02 a03 a04 a05 a06 a07 a1).2.2.2.2.2.1), t32 ((sha_mix a00 a01 a02 a03 a04 a05 a06 a07 a1).2.2.2.2.2.2.1), t32 ((sha_mix a00 a01 a02 a03 a04 a05 a06 a07 a1).2.2.2.2.2.2.2)]) [] := by
 refine Meets.enterX (E := E) (N := 113) (enc := sha_mix_enc) (x := (sha_mix a00 a01 a02 a03 a04 a05 a06 a07 a1)) Tryd.func108 Tryd.call108 rfl rfl ?_
 intro Γ k hk
 refine Go.rx 20 { ws := [(0, { id := 10 }), (1, { id := 11 })] } [] [1, 2, 4] _ [(1, .sl 1 g_a1 a1.length (u8s a1)), (2, .addr 10 0), (4, .addr 11 0)] [(10, [t32 a00, t32 a01, t32 a02, t32 a03, t32 a04, t32 a05, t32 a06, t32 a07]), (11, w08)] hk rfl kr .nil ?_
 clear hk; intro k hk
 refine Go.dx 20 [0, 1, 2, 4, 5, 6, 7, 8, 3, 9] { ws := [(0, { call := some { ids := [], S := [], M := [], R := .agg (u32s sha_constants), H' := [] } }), (2, { call := some { ids := [], S := [], M := [], R := .agg (u32s (sha_schedule a1)), H' := [] } }), (4, { id := 12 }), (5, { id := 13 }), (6, { id := 14 }), (7, { c := some (u32s sha_constants), sym := true }), (8, { c := some (u32s (sha_schedule a1)), sym := true })] } [] [2, 4, 5, 6, 7] _ [(2, .addr 10 0), (4, .addr 11 0), (5, .addr 12 0), (6, .addr 13 0), (7, .addr 14 0)] [(10, [t32 a00, t32 a01, t32 a02, t32 a03, t32 a04, t32 a05, t32 a06, t32 a07]), (11, w08), (12, u32s sha_constants), (13, u32s (sha_schedule a1)), (14, [t32 a00, t32 a01, t32 a02, t32 a03, t32 a04, t32 a05, t32 a06, t32 a07])] hk rfl kr (.cons (sha_constants_m) (.cons (sb : subN (idsL []) [] = true) (.cons (sha_schedule_m (g_a0 := g_a1) a1 om) (.cons (sb : subN (idsL [.sl 1 g_a1 a1.length (u8s a1)]) [] = true) (.cons (mp_scal sha_constants (fun _ => rfl) : scalL (u32s sha_constants) = true) (.cons (by rw [List.length_map, (qd6_1 : (sha_constants).length = 64)]; decide : (u32s sha_constants).length ≤ 64) (.cons (by rw [List.length_map, (qd6_1 : (sha_constants).length = 64)]; decide : 64 ≤ (u32s sha_constants).length) (.cons (by rw [List.length_map, (qd6_1 : (sha_constants).length = 64)]; exact Nat.le_of_ble_eq_true rfl : 0 + (u32s sha_constants).length ≤ ((List.replicate 64 (t32 0)) : List T).length) (.cons (splice_whole (cs := (List.replicate 64 (t32 0))) (v := u32s sha_constants) (by rw [List.length_map, (qd6_1 : (sha_constants).length = 64)]; rfl)) (.cons (mp_scal (sha_schedule a1) (fun _ => rfl) : scalL (u32s (sha_schedule a1)) = true) (.cons (by rw [List.length_map, (qd6_1 : ((sha_schedule a1)).length = 64)]; decide : (u32s (sha_schedule a1)).length ≤ 64) (.cons (by rw [List.length_map, (qd6_1 : ((sha_schedule a1)).length = 64)]; decide : 64 ≤ (u32s (sha_schedule a1)).length) (.cons (by rw [List.length_map, (qd6_1 : ((sha_schedule a1)).length = 64)]; exact Nat.le_of_ble_eq_true rfl : 0 + (u32s (sha_schedule a1)).length ≤ ((List.replicate 64 (t32 0)) : List T).length) (.cons (splice_whole (cs := (List.replicate 64 (t32 0))) (v := u32s (sha_schedule a1)) (by rw [List.length_map, (qd6_1 : ((sha_schedule a1)).length = 64)]; rfl)) .nil)))))))))))))) ?_
 clear hk; intro k hk
 refine Go.bnd (Pf := (PostX Γ sha_mix_enc)) (v := (sha_schedule a1)) (fun x1 => [(2, .addr 10 0), (4, .addr 11 0), (5, .addr 12 0), (6, .addr 13 0), (7, .addr 14 0)]) (fun x1 => [(10, [t32 a00, t32 a01, t32 a02, t32 a03, t32 a04, t32 a05, t32 a06, t32 a07]), (11, w08), (12, u32s sha_constants), (13, u32s x1), (14, [t32 a00, t32 a01, t32 a02, t32 a03, t32 a04, t32 a05, t32 a06, t32 a07])]) ?_
 intro x1 hx1
 have fx1 := schedule_len a1
 rw [← hx1] at fx1
 refine Go.rx 20 {} [] [2, 4, 5, 6, 7, 18] _ [(2, .addr 10 0), (4, .addr 11 0), (5, .addr 12 0), (6, .addr 13 0), (7, .addr 14 0), (18, ti 0)] [(10, [t32 a00, t32 a01, t32 a02, t32 a03, t32 a04, t32 a05, t32 a06, t32 a07]), (11, w08), (12, u32s sha_constants), (13, u32s x1), (14, [t32 a00, t32 a01, t32 a02, t32 a03, t32 a04, t32 a05, t32 a06, t32 a07])] hk rfl kr .nil ?_
 clear hk; intro k hk
 refine Go.loopX 20 hk rfl ?_
 clear hk; intro kl1 kxl1 hl1 hxl1
 have Xl1 : ∀ (c14_0_2 : UInt32) (c14_1_2 : UInt32) (c14_2_2 : UInt32) (c14_3_2 : UInt32) (c14_4_2 : UInt32) (c14_5_2 : UInt32) (c14_6_2 : UInt32) (c14_7_2 : UInt32), Go E Γ 108 113 [] ((PostX Γ sha_mix_enc) (sha_mix_k1 a00 a01 a02 a03 a04 a05 a06 a07 c14_0_2 c14_1_2 c14_2_2 c14_3_2 c14_4_2 c14_5_2 c14_6_2 c14_7_2)) kxl1 (stL [(2, .addr 10 0), (4, .addr 11 0), (7, .addr 14 0)] [(10, [t32 a00, t32 a01, t32 a02, t32 a03, t32 a04, t32 a05, t32 a06, t32 a07]), (11, w08), (12, u32s sha_constants), (13, u32s x1), (14, [t32 c14_0_2, t32 c14_1_2, t32 c14_2_2, t32 c14_3_2, t32 c14_4_2, t32 c14_5_2, t32 c14_6_2, t32 c14_7_2])]) := by
  intro c14_0_2 c14_1_2 c14_2_2 c14_3_2 c14_4_2 c14_5_2 c14_6_2 c14_7_2
  refine Go.rx 20 { pg := [13] } [12, 13] [2, 4, 7, 100] _ [(2, .addr 10 0), (4, .addr 11 0), (7, .addr 14 0), (100, ti 0)] [(10, [t32 a00, t32 a01, t32 a02, t32 a03, t32 a04, t32 a05, t32 a06, t32 a07]), (11, w08), (14, [t32 c14_0_2, t32 c14_1_2, t32 c14_2_2, t32 c14_3_2, t32 c14_4_2, t32 c14_5_2, t32 c14_6_2, t32 c14_7_2])] hxl1 rfl kr (.cons (mp_mem (i := 12) (g := (fun c : UInt32 => T.leaf (.int .u32 c.toNat))) x1 (fun _ => rfl)) .nil) ?_
  clear hxl1; intro kxl1 hxl1
  refine Go.loopX 20 hxl1 rfl ?_
  clear hxl1; intro kl2 kxl2 hl2 hxl2
  have Xl2 : ∀ (o2 : List UInt32) (f0l2 : o2.length = 8), Go E Γ 108 113 [] ((PostX Γ sha_mix_enc) (sha_mix_k2 o2)) kxl2 (stL [(2, .addr 10 0), (4, .addr 11 0)] [(10, u32s o2), (11, w08), (14, [t32 c14_0_2, t32 c14_1_2, t32 c14_2_2, t32 c14_3_2, t32 c14_4_2, t32 c14_5_2, t32 c14_6_2, t32 c14_7_2])]) := by
   intro o2 f0l2
   refine Go.rx 20 { ws := [(0, { v := some (.agg (u32s o2)) }), (1, { c := some ([t32 (o2.getD 0 0), t32 (o2.getD 1 0), t32 (o2.getD 2 0), t32 (o2.getD 3 0), t32 (o2.getD 4 0), t32 (o2.getD 5 0), t32 (o2.getD 6 0), t32 (o2.getD 7 0)]), sym := true })], ps := [112] } [10, 14] [4] _ [(4, .addr 11 0)] [(11, [t32 (o2.getD 0 0), t32 (o2.getD 1 0), t32 (o2.getD 2 0), t32 (o2.getD 3 0), t32 (o2.getD 4 0), t32 (o2.getD 5 0), t32 (o2.getD 6 0), t32 (o2.getD 7 0)])] hxl2 rfl kr (.cons (mp_whole (g := (fun c : UInt32 => T.leaf (.int .u32 c.toNat))) (kr : (E.ti 185).agg = true) (kr : (E.ti 185).size = 8) (qd6_1 : (o2).length = 8)) (.cons (mp_scal o2 (fun _ => rfl) : scalL (u32s o2) = true) (.cons (by rw [List.length_map, (qd6_1 : (o2).length = 8)]; decide : (u32s o2).length ≤ 8) (.cons (by rw [List.length_map, (qd6_1 : (o2).length = 8)]; decide : 8 ≤ (u32s o2).length) (.cons (by rw [List.length_map, (qd6_1 : (o2).length = 8)]; exact Nat.le_of_ble_eq_true rfl : 0 + (u32s o2).length ≤ (w08 : List T).length) (.cons (by rw [← arr_list (qd6_1 : (o2).length = 8) (0 : UInt32)]; rfl : splice w08 0 (u32s o2) = [t32 (o2.getD 0 0), t32 (o2.getD 1 0), t32 (o2.getD 2 0), t32 (o2.getD 3 0), t32 (o2.getD 4 0), t32 (o2.getD 5 0), t32 (o2.getD 6 0), t32 (o2.getD 7 0)]) (.cons (mp_memA (i := 10) (g := (fun c : UInt32 => T.leaf (.int .u32 c.toNat))) o2 (fun _ => rfl)) (.cons (mp_memA (i := 14) (g := (fun c : UInt32 => T.leaf (.int .u32 c.toNat))) o2 (fun _ => rfl)) .nil)))))))) ?_
   clear hxl2; intro kxl2 hxl2
   exact Go.lvx 20 [] _ [.agg [t32 (o2.getD 0 0), t32 (o2.getD 1 0), t32 (o2.getD 2 0), t32 (o2.getD 3 0), t32 (o2.getD 4 0), t32 (o2.getD 5 0), t32 (o2.getD 6 0), t32 (o2.getD 7 0)]] Tryd.func108 hxl2 rfl kr (.cons (by decide : 0 + 8 ≤ 8) .nil) (T.Le.of_eq rfl) rfl rfl .nil
  have Ll2 : ∀ (ml2 : Nat) (t1001 : Int) (o1 : List UInt32), (0 ≤ t1001) → (t1001 ≤ 8) → (o1.length = 8) → ((8 - t1001).toNat < ml2) → Go E Γ 108 113 [] ((PostX Γ sha_mix_enc) (Lo.el (sha_mix_l2 c14_0_2 c14_1_2 c14_2_2 c14_3_2 c14_4_2 c14_5_2 c14_6_2 c14_7_2 ml2 t1001 o1) (fun z : List UInt32 => sha_mix_k2 z))) kl2 (stL [(2, .addr 10 0), (4, .addr 11 0), (7, .addr 14 0), (100, ti t1001)] [(10, u32s o1), (11, w08), (14, [t32 c14_0_2, t32 c14_1_2, t32 c14_2_2, t32 c14_3_2, t32 c14_4_2, t32 c14_5_2, t32 c14_6_2, t32 c14_7_2])]) := by
   intro ml2
   induction ml2 with
   | zero => intro t1001 o1 i0l2 i1l2 i2l2 hml2; exact absurd hml2 (Nat.not_lt_zero _)
   | succ ml2 ihl2 =>
    intro t1001 o1 i0l2 i1l2 i2l2 hml2
    rw [sha_mix_l2]
    refine Go.round hl2 ?_
    intro k hk
    refine Go.rx 20 {} [] [2, 4, 7, 100, 101] _ [(2, .addr 10 0), (4, .addr 11 0), (7, .addr 14 0), (100, ti t1001), (101, tb (decide (t1001 < 8)))] [(10, u32s o1), (11, w08), (14, [t32 c14_0_2, t32 c14_1_2, t32 c14_2_2, t32 c14_3_2, t32 c14_4_2, t32 c14_5_2, t32 c14_6_2, t32 c14_7_2])] hk rfl kr (.cons trivial .nil) ?_
    clear hk; intro k hk
    refine Go.br 20 (Pf := (fun z : Lo (List UInt32) (W8) => (PostX Γ sha_mix_enc) (Lo.el z (fun z : List UInt32 => sha_mix_k2 z)))) hk rfl rfl ?_ ?_ <;> clear hk <;> intro ct1 k hk
    ·have ct1p := of_decide_eq_true ct1
     refine Go.rx 20 {} [] [2, 4, 7, 13, 100] _ [(2, .addr 10 0), (4, .addr 11 0), (7, .addr 14 0), (13, ti t1001), (100, ti t1001)] [(10, u32s o1), (11, w08), (14, [t32 c14_0_2, t32 c14_1_2, t32 c14_2_2, t32 c14_3_2, t32 c14_4_2, t32 c14_5_2, t32 c14_6_2, t32 c14_7_2])] hk rfl kr .nil ?_
     clear hk; intro k hk
     refine Go.dx 20 [0, 1, 2, 3, 4, 5, 6, 7, 8] { ws := [(2, { v := some (t32 (o1.getD t1001.toNat 0)) }), (5, { v := some (t32 (([c14_0_2, c14_1_2, c14_2_2, c14_3_2, c14_4_2, c14_5_2, c14_6_2, c14_7_2] : List UInt32).getD t1001.toNat 0)) }), (6, { v := some (t32 ((o1.getD t1001.toNat 0) + (([c14_0_2, c14_1_2, c14_2_2, c14_3_2, c14_4_2, c14_5_2, c14_6_2, c14_7_2] : List UInt32).getD t1001.toNat 0))) }), (8, { c := some (u32s (o1.set t1001.toNat ((o1.getD t1001.toNat 0) + (([c14_0_2, c14_1_2, c14_2_2, c14_3_2, c14_4_2, c14_5_2, c14_6_2, c14_7_2] : List UInt32).getD t1001.toNat 0)))), sym := true })] } [] [2, 4, 7, 100] _ [(2, .addr 10 0), (4, .addr 11 0), (7, .addr 14 0), (100, ti t1001)] [(10, u32s (o1.set t1001.toNat ((o1.getD t1001.toNat 0) + (([c14_0_2, c14_1_2, c14_2_2, c14_3_2, c14_4_2, c14_5_2, c14_6_2, c14_7_2] : List UInt32).getD t1001.toNat 0)))), (11, w08), (14, [t32 c14_0_2, t32 c14_1_2, t32 c14_2_2, t32 c14_3_2, t32 c14_4_2, t32 c14_5_2, t32 c14_6_2, t32 c14_7_2])] hk rfl kr (.cons (om : 0 ≤ (t1001 : Int) ∧ (t1001 : Int) < 8) (.cons (part1 (kr : (E.ti 81).agg = false) (mp_get (g := (fun c : UInt32 => T.leaf (.int .u32 c.toNat))) (k := 0 + t1001.toNat * 1) (n := t1001.toNat) o1 (0 : UInt32) (by omega) om)) (.cons (om : 0 ≤ (t1001 : Int) ∧ (t1001 : Int) < 8) (.cons (part1 (kr : (E.ti 81).agg = false) (mp_get (g := (fun c : UInt32 => T.leaf (.int .u32 c.toNat))) (k := 0 + t1001.toNat * 1) (n := t1001.toNat) ([c14_0_2, c14_1_2, c14_2_2, c14_3_2, c14_4_2, c14_5_2, c14_6_2, c14_7_2] : List UInt32) (0 : UInt32) (by omega) om)) (.cons trivial (.cons (add32 (o1.getD t1001.toNat 0) (([c14_0_2, c14_1_2, c14_2_2, c14_3_2, c14_4_2, c14_5_2, c14_6_2, c14_7_2] : List UInt32).getD t1001.toNat 0)) (.cons (om : 0 ≤ (t1001 : Int) ∧ (t1001 : Int) < 8) (.cons (rfl : scalL [t32 ((o1.getD t1001.toNat 0) + (([c14_0_2, c14_1_2, c14_2_2, c14_3_2, c14_4_2, c14_5_2, c14_6_2, c14_7_2] : List UInt32).getD t1001.toNat 0))] = true) (.cons (by decide : 1 ≤ 1) (.cons (by decide : 1 ≤ 1) (.cons (qd6_3 : 0 + t1001.toNat * 1 + 1 ≤ (u32s o1).length) (.cons (mp_set (g := (fun c : UInt32 => T.leaf (.int .u32 c.toNat))) (k := 0 + t1001.toNat * 1) (n := t1001.toNat) (x := (o1.getD t1001.toNat 0) + (([c14_0_2, c14_1_2, c14_2_2, c14_3_2, c14_4_2, c14_5_2, c14_6_2, c14_7_2] : List UInt32).getD t1001.toNat 0)) o1 rfl (by omega) om) .nil)))))))))))) ?_
     clear hk; intro k hk
     refine Go.rx 20 { ws := [(0, { v := some (ti (t1001 + 1)) })] } [] [2, 4, 7, 100] _ [(2, .addr 10 0), (4, .addr 11 0), (7, .addr 14 0), (100, ti (t1001 + 1))] [(10, u32s (o1.set t1001.toNat ((o1.getD t1001.toNat 0) + (([c14_0_2, c14_1_2, c14_2_2, c14_3_2, c14_4_2, c14_5_2, c14_6_2, c14_7_2] : List UInt32).getD t1001.toNat 0)))), (11, w08), (14, [t32 c14_0_2, t32 c14_1_2, t32 c14_2_2, t32 c14_3_2, t32 c14_4_2, t32 c14_5_2, t32 c14_6_2, t32 c14_7_2])] hk rfl kr (.cons trivial (.cons (iw (t1001 + 1) om) .nil)) ?_
     clear hk; intro k hk
     exact Go.join 20 hk hl2 rfl (ihl2 (t1001 + 1) (o1.set t1001.toNat ((o1.getD t1001.toNat 0) + (([c14_0_2, c14_1_2, c14_2_2, c14_3_2, c14_4_2, c14_5_2, c14_6_2, c14_7_2] : List UInt32).getD t1001.toNat 0))) qd6_2 qd6_2 qd6_2 om)
    ·have ct1p := of_decide_eq_false ct1
     refine Go.keepN [2, 4] (L' := [(2, .addr 10 0), (4, .addr 11 0)]) rfl ?_
     exact Go.exitX (Pf := (PostX Γ sha_mix_enc)) (F := fun z : List UInt32 => sha_mix_k2 z) (a := o1) (Go.join 20 hk hxl2 rfl (Xl2 o1 qd6_2))
  exact Ll2 _ 0 [a00, a01, a02, a03, a04, a05, a06, a07] qd6_2 qd6_2 qd6_2 (Nat.lt_succ_self _)
 have Ll1 : ∀ (ml1 : Nat) (t181 : Int) (c14_0_1 : UInt32) (c14_1_1 : UInt32) (c14_2_1 : UInt32) (c14_3_1 : UInt32) (c14_4_1 : UInt32) (c14_5_1 : UInt32) (c14_6_1 : UInt32) (c14_7_1 : UInt32), (0 ≤ t181) → (t181 ≤ 64) → ((64 - t181).toNat < ml1) → Go E Γ 108 113 [] ((PostX Γ sha_mix_enc) (Lo.el (sha_mix_l1 x1 ml1 t181 c14_0_1 c14_1_1 c14_2_1 c14_3_1 c14_4_1 c14_5_1 c14_6_1 c14_7_1) (fun z : UInt32 × UInt32 × UInt32 × UInt32 × UInt32 × UInt32 × UInt32 × UInt32 => sha_mix_k1 a00 a01 a02 a03 a04 a05 a06 a07 z.1 z.2.1 z.2.2.1 z.2.2.2.1 z.2.2.2.2.1 z.2.2.2.2.2.1 z.2.2.2.2.2.2.1 z.2.2.2.2.2.2.2))) kl1 (stL [(2, .addr 10 0), (4, .addr 11 0), (5, .addr 12 0), (6, .addr 13 0), (7, .addr 14 0), (18, ti t181)] [(10, [t32 a00, t32 a01, t32 a02, t32 a03, t32 a04, t32 a05, t32 a06, t32 a07]), (11, w08), (12, u32s sha_constants), (13, u32s x1), (14, [t32 c14_0_1, t32 c14_1_1, t32 c14_2_1, t32 c14_3_1, t32 c14_4_1, t32 c14_5_1, t32 c14_6_1, t32 c14_7_1])]) := by
  intro ml1
  induction ml1 with
  | zero => intro t181 c14_0_1 c14_1_1 c14_2_1 c14_3_1 c14_4_1 c14_5_1 c14_6_1 c14_7_1 i0l1 i1l1 hml1; exact absurd hml1 (Nat.not_lt_zero _)
  | succ ml1 ihl1 =>
   intro t181 c14_0_1 c14_1_1 c14_2_1 c14_3_1 c14_4_1 c14_5_1 c14_6_1 c14_7_1 i0l1 i1l1 hml1
   rw [sha_mix_l1]
   refine Go.round hl1 ?_
   intro k hk
   refine Go.rx 20 {} [] [2, 4, 5, 6, 7, 18, 19] _ [(2, .addr 10 0), (4, .addr 11 0), (5, .addr 12 0), (6, .addr 13 0), (7, .addr 14 0), (18, ti t181), (19, tb (decide (t181 < 64)))] [(10, [t32 a00, t32 a01, t32 a02, t32 a03, t32 a04, t32 a05, t32 a06, t32 a07]), (11, w08), (12, u32s sha_constants), (13, u32s x1), (14, [t32 c14_0_1, t32 c14_1_1, t32 c14_2_1, t32 c14_3_1, t32 c14_4_1, t32 c14_5_1, t32 c14_6_1, t32 c14_7_1])] hk rfl kr (.cons trivial .nil) ?_
   clear hk; intro k hk
   refine Go.br 20 (Pf := (fun z : Lo W8 (W8) => (PostX Γ sha_mix_enc) (Lo.el z (fun z : UInt32 × UInt32 × UInt32 × UInt32 × UInt32 × UInt32 × UInt32 × UInt32 => sha_mix_k1 a00 a01 a02 a03 a04 a05 a06 a07 z.1 z.2.1 z.2.2.1 z.2.2.2.1 z.2.2.2.2.1 z.2.2.2.2.2.1 z.2.2.2.2.2.2.1 z.2.2.2.2.2.2.2)))) hk rfl rfl ?_ ?_ <;> clear hk <;> intro ct2 k hk
   ·have ct2p := of_decide_eq_true ct2
    refine Go.rx 20 {} [] [2, 4, 5, 6, 7, 8, 18] _ [(2, .addr 10 0), (4, .addr 11 0), (5, .addr 12 0), (6, .addr 13 0), (7, .addr 14 0), (8, ti t181), (18, ti t181)] [(10, [t32 a00, t32 a01, t32 a02, t32 a03, t32 a04, t32 a05, t32 a06, t32 a07]), (11, w08), (12, u32s sha_constants), (13, u32s x1), (14, [t32 c14_0_1, t32 c14_1_1, t32 c14_2_1, t32 c14_3_1, t32 c14_4_1, t32 c14_5_1, t32 c14_6_1, t32 c14_7_1])] hk rfl kr .nil ?_
    clear hk; intro k hk
    refine Go.dx 20 [0, 1, 2, 3, 4, 5, 6, 7, 8, 9, 10, 11] { ws := [(2, { call := some { ids := [], S := [], M := [], R := t32 (rl32_ c14_4_1 (-6)), H' := [] } }), (5, { call := some { ids := [], S := [], M := [], R := t32 (rl32_ c14_4_1 (-11)), H' := [] } }), (6, { v := some (t32 ((rl32_ c14_4_1 (-6)) ^^^ (rl32_ c14_4_1 (-11)))) }), (9, { call := some { ids := [], S := [], M := [], R := t32 (rl32_ c14_4_1 (-25)), H' := [] } }), (10, { v := some (t32 (((rl32_ c14_4_1 (-6)) ^^^ (rl32_ c14_4_1 (-11))) ^^^ (rl32_ c14_4_1 (-25)))) })] } [] [2, 4, 5, 6, 7, 8, 9, 18] _ [(2, .addr 10 0), (4, .addr 11 0), (5, .addr 12 0), (6, .addr 13 0), (7, .addr 14 0), (8, ti t181), (9, t32 (((rl32_ c14_4_1 (-6)) ^^^ (rl32_ c14_4_1 (-11))) ^^^ (rl32_ c14_4_1 (-25)))), (18, ti t181)] [(10, [t32 a00, t32 a01, t32 a02, t32 a03, t32 a04, t32 a05, t32 a06, t32 a07]), (11, w08), (12, u32s sha_constants), (13, u32s x1), (14, [t32 c14_0_1, t32 c14_1_1, t32 c14_2_1, t32 c14_3_1, t32 c14_4_1, t32 c14_5_1, t32 c14_6_1, t32 c14_7_1])] hk rfl kr (.cons (by decide : 0 ≤ (4 : Int) ∧ (4 : Int) < 8) (.cons (rl32__m c14_4_1 (-6)) (.cons (sb : subN (idsL [t32 c14_4_1, ti (-6)]) [] = true) (.cons (by decide : 0 ≤ (4 : Int) ∧ (4 : Int) < 8) (.cons (rl32__m c14_4_1 (-11)) (.cons (sb : subN (idsL [t32 c14_4_1, ti (-11)]) [] = true) (.cons trivial (.cons (xor32 (rl32_ c14_4_1 (-6)) (rl32_ c14_4_1 (-11))) (.cons (by decide : 0 ≤ (4 : Int) ∧ (4 : Int) < 8) (.cons (rl32__m c14_4_1 (-25)) (.cons (sb : subN (idsL [t32 c14_4_1, ti (-25)]) [] = true) (.cons trivial (.cons (xor32 ((rl32_ c14_4_1 (-6)) ^^^ (rl32_ c14_4_1 (-11))) (rl32_ c14_4_1 (-25))) .nil))))))))))))) ?_
    clear hk; intro k hk
    refine Go.bnd (Pf := (fun z : Lo W8 (W8) => (PostX Γ sha_mix_enc) (Lo.el z (fun z : UInt32 × UInt32 × UInt32 × UInt32 × UInt32 × UInt32 × UInt32 × UInt32 => sha_mix_k1 a00 a01 a02 a03 a04 a05 a06 a07 z.1 z.2.1 z.2.2.1 z.2.2.2.1 z.2.2.2.2.1 z.2.2.2.2.2.1 z.2.2.2.2.2.2.1 z.2.2.2.2.2.2.2)))) (v := (rl32_ c14_4_1 (-6))) (fun x2 => [(2, .addr 10 0), (4, .addr 11 0), (5, .addr 12 0), (6, .addr 13 0), (7, .addr 14 0), (8, ti t181), (9, t32 ((x2 ^^^ (rl32_ c14_4_1 (-11))) ^^^ (rl32_ c14_4_1 (-25)))), (18, ti t181)]) (fun x2 => [(10, [t32 a00, t32 a01, t32 a02, t32 a03, t32 a04, t32 a05, t32 a06, t32 a07]), (11, w08), (12, u32s sha_constants), (13, u32s x1), (14, [t32 c14_0_1, t32 c14_1_1, t32 c14_2_1, t32 c14_3_1, t32 c14_4_1, t32 c14_5_1, t32 c14_6_1, t32 c14_7_1])]) ?_
    intro x2 hx2
    refine Go.bnd (Pf := (fun z : Lo W8 (W8) => (PostX Γ sha_mix_enc) (Lo.el z (fun z : UInt32 × UInt32 × UInt32 × UInt32 × UInt32 × UInt32 × UInt32 × UInt32 => sha_mix_k1 a00 a01 a02 a03 a04 a05 a06 a07 z.1 z.2.1 z.2.2.1 z.2.2.2.1 z.2.2.2.2.1 z.2.2.2.2.2.1 z.2.2.2.2.2.2.1 z.2.2.2.2.2.2.2)))) (v := (rl32_ c14_4_1 (-11))) (fun x3 => [(2, .addr 10 0), (4, .addr 11 0), (5, .addr 12 0), (6, .addr 13 0), (7, .addr 14 0), (8, ti t181), (9, t32 ((x2 ^^^ x3) ^^^ (rl32_ c14_4_1 (-25)))), (18, ti t181)]) (fun x3 => [(10, [t32 a00, t32 a01, t32 a02, t32 a03, t32 a04, t32 a05, t32 a06, t32 a07]), (11, w08), (12, u32s sha_constants), (13, u32s x1), (14, [t32 c14_0_1, t32 c14_1_1, t32 c14_2_1, t32 c14_3_1, t32 c14_4_1, t32 c14_5_1, t32 c14_6_1, t32 c14_7_1])]) ?_
    intro x3 hx3
    refine Go.bnd (Pf := (fun z : Lo W8 (W8) => (PostX Γ sha_mix_enc) (Lo.el z (fun z : UInt32 × UInt32 × UInt32 × UInt32 × UInt32 × UInt32 × UInt32 × UInt32 => sha_mix_k1 a00 a01 a02 a03 a04 a05 a06 a07 z.1 z.2.1 z.2.2.1 z.2.2.2.1 z.2.2.2.2.1 z.2.2.2.2.2.1 z.2.2.2.2.2.2.1 z.2.2.2.2.2.2.2)))) (v := (rl32_ c14_4_1 (-25))) (fun x4 => [(2, .addr 10 0), (4, .addr 11 0), (5, .addr 12 0), (6, .addr 13 0), (7, .addr 14 0), (8, ti t181), (9, t32 ((x2 ^^^ x3) ^^^ x4)), (18, ti t181)]) (fun x4 => [(10, [t32 a00, t32 a01, t32 a02, t32 a03, t32 a04, t32 a05, t32 a06, t32 a07]), (11, w08), (12, u32s sha_constants), (13, u32s x1), (14, [t32 c14_0_1, t32 c14_1_1, t32 c14_2_1, t32 c14_3_1, t32 c14_4_1, t32 c14_5_1, t32 c14_6_1, t32 c14_7_1])]) ?_
    intro x4 hx4
    refine Go.dx 20 [0, 1, 2, 3, 4, 5, 6, 7, 8, 9, 10, 11, 12, 13, 14, 15, 16, 17, 18, 19, 20, 21, 22, 23, 24, 25] { ws := [(3, { v := some (t32 (c14_7_1 + ((x2 ^^^ x3) ^^^ x4))) }), (8, { v := some (t32 (c14_4_1 &&& c14_5_1)) }), (11, { v := some (t32 (~~~c14_4_1)) }), (14, { v := some (t32 ((~~~c14_4_1) &&& c14_6_1)) }), (15, { v := some (t32 ((c14_4_1 &&& c14_5_1) ^^^ ((~~~c14_4_1) &&& c14_6_1))) }), (16, { v := some (t32 ((c14_7_1 + ((x2 ^^^ x3) ^^^ x4)) + ((c14_4_1 &&& c14_5_1) ^^^ ((~~~c14_4_1) &&& c14_6_1)))) }), (19, { v := some (t32 (sha_constants.getD t181.toNat 0)) }), (20, { v := some (t32 (((c14_7_1 + ((x2 ^^^ x3) ^^^ x4)) + ((c14_4_1 &&& c14_5_1) ^^^ ((~~~c14_4_1) &&& c14_6_1))) + (sha_constants.getD t181.toNat 0))) }), (23, { v := some (t32 (x1.getD t181.toNat 0)) }), (24, { v := some (t32 ((((c14_7_1 + ((x2 ^^^ x3) ^^^ x4)) + ((c14_4_1 &&& c14_5_1) ^^^ ((~~~c14_4_1) &&& c14_6_1))) + (sha_constants.getD t181.toNat 0)) + (x1.getD t181.toNat 0))) })] } [] [2, 4, 5, 6, 7, 10, 18] _ [(2, .addr 10 0), (4, .addr 11 0), (5, .addr 12 0), (6, .addr 13 0), (7, .addr 14 0), (10, t32 ((((c14_7_1 + ((x2 ^^^ x3) ^^^ x4)) + ((c14_4_1 &&& c14_5_1) ^^^ ((~~~c14_4_1) &&& c14_6_1))) + (sha_constants.getD t181.toNat 0)) + (x1.getD t181.toNat 0))), (18, ti t181)] [(10, [t32 a00, t32 a01, t32 a02, t32 a03, t32 a04, t32 a05, t32 a06, t32 a07]), (11, w08), (12, u32s sha_constants), (13, u32s x1), (14, [t32 c14_0_1, t32 c14_1_1, t32 c14_2_1, t32 c14_3_1, t32 c14_4_1, t32 c14_5_1, t32 c14_6_1, t32 c14_7_1])] hk rfl kr (.cons (by decide : 0 ≤ (7 : Int) ∧ (7 : Int) < 8) (.cons trivial (.cons (add32 c14_7_1 ((x2 ^^^ x3) ^^^ x4)) (.cons (by decide : 0 ≤ (4 : Int) ∧ (4 : Int) < 8) (.cons (by decide : 0 ≤ (5 : Int) ∧ (5 : Int) < 8) (.cons trivial (.cons (and32 c14_4_1 c14_5_1) (.cons (by decide : 0 ≤ (4 : Int) ∧ (4 : Int) < 8) (.cons (not32 c14_4_1) (.cons (by decide : 0 ≤ (6 : Int) ∧ (6 : Int) < 8) (.cons trivial (.cons (and32 (~~~c14_4_1) c14_6_1) (.cons trivial (.cons (xor32 (c14_4_1 &&& c14_5_1) ((~~~c14_4_1) &&& c14_6_1)) (.cons trivial (.cons (add32 (c14_7_1 + ((x2 ^^^ x3) ^^^ x4)) ((c14_4_1 &&& c14_5_1) ^^^ ((~~~c14_4_1) &&& c14_6_1))) (.cons (om : 0 ≤ (t181 : Int) ∧ (t181 : Int) < 64) (.cons (part1 (kr : (E.ti 81).agg = false) (mp_get (g := (fun c : UInt32 => T.leaf (.int .u32 c.toNat))) (k := 0 + t181.toNat * 1) (n := t181.toNat) sha_constants (0 : UInt32) (by omega) om)) (.cons trivial (.cons (add32 ((c14_7_1 + ((x2 ^^^ x3) ^^^ x4)) + ((c14_4_1 &&& c14_5_1) ^^^ ((~~~c14_4_1) &&& c14_6_1))) (sha_constants.getD t181.toNat 0)) (.cons (om : 0 ≤ (t181 : Int) ∧ (t181 : Int) < 64) (.cons (part1 (kr : (E.ti 81).agg = false) (mp_get (g := (fun c : UInt32 => T.leaf (.int .u32 c.toNat))) (k := 0 + t181.toNat * 1) (n := t181.toNat) x1 (0 : UInt32) (by omega) om)) (.cons trivial (.cons (add32 (((c14_7_1 + ((x2 ^^^ x3) ^^^ x4)) + ((c14_4_1 &&& c14_5_1) ^^^ ((~~~c14_4_1) &&& c14_6_1))) + (sha_constants.getD t181.toNat 0)) (x1.getD t181.toNat 0)) .nil)))))))))))))))))))))))) ?_
    clear hk; intro k hk
    refine Go.dx 20 [0, 1, 2, 3, 4, 5, 6, 7, 8, 9, 10, 11] { ws := [(2, { call := some { ids := [], S := [], M := [], R := t32 (rl32_ c14_0_1 (-2)), H' := [] } }), (5, { call := some { ids := [], S := [], M := [], R := t32 (rl32_ c14_0_1 (-13)), H' := [] } }), (6, { v := some (t32 ((rl32_ c14_0_1 (-2)) ^^^ (rl32_ c14_0_1 (-13)))) }), (9, { call := some { ids := [], S := [], M := [], R := t32 (rl32_ c14_0_1 (-22)), H' := [] } }), (10, { v := some (t32 (((rl32_ c14_0_1 (-2)) ^^^ (rl32_ c14_0_1 (-13))) ^^^ (rl32_ c14_0_1 (-22)))) })] } [] [2, 4, 5, 6, 7, 10, 11, 18] _ [(2, .addr 10 0), (4, .addr 11 0), (5, .addr 12 0), (6, .addr 13 0), (7, .addr 14 0), (10, t32 ((((c14_7_1 + ((x2 ^^^ x3) ^^^ x4)) + ((c14_4_1 &&& c14_5_1) ^^^ ((~~~c14_4_1) &&& c14_6_1))) + (sha_constants.getD t181.toNat 0)) + (x1.getD t181.toNat 0))), (11, t32 (((rl32_ c14_0_1 (-2)) ^^^ (rl32_ c14_0_1 (-13))) ^^^ (rl32_ c14_0_1 (-22)))), (18, ti t181)] [(10, [t32 a00, t32 a01, t32 a02, t32 a03, t32 a04, t32 a05, t32 a06, t32 a07]), (11, w08), (12, u32s sha_constants), (13, u32s x1), (14, [t32 c14_0_1, t32 c14_1_1, t32 c14_2_1, t32 c14_3_1, t32 c14_4_1, t32 c14_5_1, t32 c14_6_1, t32 c14_7_1])] hk rfl kr (.cons (by decide : 0 ≤ (0 : Int) ∧ (0 : Int) < 8) (.cons (rl32__m c14_0_1 (-2)) (.cons (sb : subN (idsL [t32 c14_0_1, ti (-2)]) [] = true) (.cons (by decide : 0 ≤ (0 : Int) ∧ (0 : Int) < 8) (.cons (rl32__m c14_0_1 (-13)) (.cons (sb : subN (idsL [t32 c14_0_1, ti (-13)]) [] = true) (.cons trivial (.cons (xor32 (rl32_ c14_0_1 (-2)) (rl32_ c14_0_1 (-13))) (.cons (by decide : 0 ≤ (0 : Int) ∧ (0 : Int) < 8) (.cons (rl32__m c14_0_1 (-22)) (.cons (sb : subN (idsL [t32 c14_0_1, ti (-22)]) [] = true) (.cons trivial (.cons (xor32 ((rl32_ c14_0_1 (-2)) ^^^ (rl32_ c14_0_1 (-13))) (rl32_ c14_0_1 (-22))) .nil))))))))))))) ?_
    clear hk; intro k hk
    refine Go.bnd (Pf := (fun z : Lo W8 (W8) => (PostX Γ sha_mix_enc) (Lo.el z (fun z : UInt32 × UInt32 × UInt32 × UInt32 × UInt32 × UInt32 × UInt32 × UInt32 => sha_mix_k1 a00 a01 a02 a03 a04 a05 a06 a07 z.1 z.2.1 z.2.2.1 z.2.2.2.1 z.2.2.2.2.1 z.2.2.2.2.2.1 z.2.2.2.2.2.2.1 z.2.2.2.2.2.2.2)))) (v := (rl32_ c14_0_1 (-2))) (fun x5 => [(2, .addr 10 0), (4, .addr 11 0), (5, .addr 12 0), (6, .addr 13 0), (7, .addr 14 0), (10, t32 ((((c14_7_1 + ((x2 ^^^ x3) ^^^ x4)) + ((c14_4_1 &&& c14_5_1) ^^^ ((~~~c14_4_1) &&& c14_6_1))) + (sha_constants.getD t181.toNat 0)) + (x1.getD t181.toNat 0))), (11, t32 ((x5 ^^^ (rl32_ c14_0_1 (-13))) ^^^ (rl32_ c14_0_1 (-22)))), (18, ti t181)]) (fun x5 => [(10, [t32 a00, t32 a01, t32 a02, t32 a03, t32 a04, t32 a05, t32 a06, t32 a07]), (11, w08), (12, u32s sha_constants), (13, u32s x1), (14, [t32 c14_0_1, t32 c14_1_1, t32 c14_2_1, t32 c14_3_1, t32 c14_4_1, t32 c14_5_1, t32 c14_6_1, t32 c14_7_1])]) ?_
    intro x5 hx5
    refine Go.bnd (Pf := (fun z : Lo W8 (W8) => (PostX Γ sha_mix_enc) (Lo.el z (fun z : UInt32 × UInt32 × UInt32 × UInt32 × UInt32 × UInt32 × UInt32 × UInt32 => sha_mix_k1 a00 a01 a02 a03 a04 a05 a06 a07 z.1 z.2.1 z.2.2.1 z.2.2.2.1 z.2.2.2.2.1 z.2.2.2.2.2.1 z.2.2.2.2.2.2.1 z.2.2.2.2.2.2.2)))) (v := (rl32_ c14_0_1 (-13))) (fun x6 => [(2, .addr 10 0), (4, .addr 11 0), (5, .addr 12 0), (6, .addr 13 0), (7, .addr 14 0), (10, t32 ((((c14_7_1 + ((x2 ^^^ x3) ^^^ x4)) + ((c14_4_1 &&& c14_5_1) ^^^ ((~~~c14_4_1) &&& c14_6_1))) + (sha_constants.getD t181.toNat 0)) + (x1.getD t181.toNat 0))), (11, t32 ((x5 ^^^ x6) ^^^ (rl32_ c14_0_1 (-22)))), (18, ti t181)]) (fun x6 => [(10, [t32 a00, t32 a01, t32 a02, t32 a03, t32 a04, t32 a05, t32 a06, t32 a07]), (11, w08), (12, u32s sha_constants), (13, u32s x1), (14, [t32 c14_0_1, t32 c14_1_1, t32 c14_2_1, t32 c14_3_1, t32 c14_4_1, t32 c14_5_1, t32 c14_6_1, t32 c14_7_1])]) ?_
    intro x6 hx6
    refine Go.bnd (Pf := (fun z : Lo W8 (W8) => (PostX Γ sha_mix_enc) (Lo.el z (fun z : UInt32 × UInt32 × UInt32 × UInt32 × UInt32 × UInt32 × UInt32 × UInt32 => sha_mix_k1 a00 a01 a02 a03 a04 a05 a06 a07 z.1 z.2.1 z.2.2.1 z.2.2.2.1 z.2.2.2.2.1 z.2.2.2.2.2.1 z.2.2.2.2.2.2.1 z.2.2.2.2.2.2.2)))) (v := (rl32_ c14_0_1 (-22))) (fun x7 => [(2, .addr 10 0), (4, .addr 11 0), (5, .addr 12 0), (6, .addr 13 0), (7, .addr 14 0), (10, t32 ((((c14_7_1 + ((x2 ^^^ x3) ^^^ x4)) + ((c14_4_1 &&& c14_5_1) ^^^ ((~~~c14_4_1) &&& c14_6_1))) + (sha_constants.getD t181.toNat 0)) + (x1.getD t181.toNat 0))), (11, t32 ((x5 ^^^ x6) ^^^ x7)), (18, ti t181)]) (fun x7 => [(10, [t32 a00, t32 a01, t32 a02, t32 a03, t32 a04, t32 a05, t32 a06, t32 a07]), (11, w08), (12, u32s sha_constants), (13, u32s x1), (14, [t32 c14_0_1, t32 c14_1_1, t32 c14_2_1, t32 c14_3_1, t32 c14_4_1, t32 c14_5_1, t32 c14_6_1, t32 c14_7_1])]) ?_
    intro x7 hx7
    refine Go.rx 20 { ws := [(5, { v := some (t32 (c14_0_1 &&& c14_1_1)) }), (10, { v := some (t32 (c14_0_1 &&& c14_2_1)) }), (11, { v := some (t32 ((c14_0_1 &&& c14_1_1) ^^^ (c14_0_1 &&& c14_2_1))) }), (16, { v := some (t32 (c14_1_1 &&& c14_2_1)) }), (17, { v := some (t32 (((c14_0_1 &&& c14_1_1) ^^^ (c14_0_1 &&& c14_2_1)) ^^^ (c14_1_1 &&& c14_2_1))) }), (18, { v := some (t32 (((x5 ^^^ x6) ^^^ x7) + (((c14_0_1 &&& c14_1_1) ^^^ (c14_0_1 &&& c14_2_1)) ^^^ (c14_1_1 &&& c14_2_1)))) })] } [] [2, 4, 5, 6, 7, 10, 12, 18] _ [(2, .addr 10 0), (4, .addr 11 0), (5, .addr 12 0), (6, .addr 13 0), (7, .addr 14 0), (10, t32 ((((c14_7_1 + ((x2 ^^^ x3) ^^^ x4)) + ((c14_4_1 &&& c14_5_1) ^^^ ((~~~c14_4_1) &&& c14_6_1))) + (sha_constants.getD t181.toNat 0)) + (x1.getD t181.toNat 0))), (12, t32 (((x5 ^^^ x6) ^^^ x7) + (((c14_0_1 &&& c14_1_1) ^^^ (c14_0_1 &&& c14_2_1)) ^^^ (c14_1_1 &&& c14_2_1)))), (18, ti t181)] [(10, [t32 a00, t32 a01, t32 a02, t32 a03, t32 a04, t32 a05, t32 a06, t32 a07]), (11, w08), (12, u32s sha_constants), (13, u32s x1), (14, [t32 c14_0_1, t32 c14_1_1, t32 c14_2_1, t32 c14_3_1, t32 c14_4_1, t32 c14_5_1, t32 c14_6_1, t32 c14_7_1])] hk rfl kr (.cons (by decide : 0 ≤ (0 : Int) ∧ (0 : Int) < 8) (.cons (by decide : 0 ≤ (1 : Int) ∧ (1 : Int) < 8) (.cons trivial (.cons (and32 c14_0_1 c14_1_1) (.cons (by decide : 0 ≤ (0 : Int) ∧ (0 : Int) < 8) (.cons (by decide : 0 ≤ (2 : Int) ∧ (2 : Int) < 8) (.cons trivial (.cons (and32 c14_0_1 c14_2_1) (.cons trivial (.cons (xor32 (c14_0_1 &&& c14_1_1) (c14_0_1 &&& c14_2_1)) (.cons (by decide : 0 ≤ (1 : Int) ∧ (1 : Int) < 8) (.cons (by decide : 0 ≤ (2 : Int) ∧ (2 : Int) < 8) (.cons trivial (.cons (and32 c14_1_1 c14_2_1) (.cons trivial (.cons (xor32 ((c14_0_1 &&& c14_1_1) ^^^ (c14_0_1 &&& c14_2_1)) (c14_1_1 &&& c14_2_1)) (.cons trivial (.cons (add32 ((x5 ^^^ x6) ^^^ x7) (((c14_0_1 &&& c14_1_1) ^^^ (c14_0_1 &&& c14_2_1)) ^^^ (c14_1_1 &&& c14_2_1))) .nil)))))))))))))))))) ?_
    clear hk; intro k hk
    refine Go.dx 20 [0, 1, 2] { ws := [(0, { v := some (.ref 14 1 1 7) }), (1, { v := some (.ref 14 1 0 7) })] } [] [2, 4, 5, 6, 7, 10, 12, 18] _ [(2, .addr 10 0), (4, .addr 11 0), (5, .addr 12 0), (6, .addr 13 0), (7, .addr 14 0), (10, t32 ((((c14_7_1 + ((x2 ^^^ x3) ^^^ x4)) + ((c14_4_1 &&& c14_5_1) ^^^ ((~~~c14_4_1) &&& c14_6_1))) + (sha_constants.getD t181.toNat 0)) + (x1.getD t181.toNat 0))), (12, t32 (((x5 ^^^ x6) ^^^ x7) + (((c14_0_1 &&& c14_1_1) ^^^ (c14_0_1 &&& c14_2_1)) ^^^ (c14_1_1 &&& c14_2_1)))), (18, ti t181)] [(10, [t32 a00, t32 a01, t32 a02, t32 a03, t32 a04, t32 a05, t32 a06, t32 a07]), (11, w08), (12, u32s sha_constants), (13, u32s x1), (14, [t32 c14_0_1, t32 c14_0_1, t32 c14_1_1, t32 c14_2_1, t32 c14_3_1, t32 c14_4_1, t32 c14_5_1, t32 c14_6_1])] hk rfl kr (.cons (by decide : 0 ≤ (1 : Int) ∧ (1 : Int) ≤ ((8 : Nat) : Int) ∧ ((8 : Nat) : Int) ≤ ((8 : Nat) : Int) ∧ ((8 : Nat) : Int) ≤ ((8 : Nat) : Int)) (.cons (rfl : T.ref 14 1 (0 + (1 : Int).toNat * 1) ((((8 : Nat) : Int)).toNat - (1 : Int).toNat) = .ref 14 1 1 7) (.cons (by decide : 0 ≤ (0 : Int) ∧ (0 : Int) ≤ 7 ∧ 7 ≤ ((8 : Nat) : Int) ∧ ((8 : Nat) : Int) ≤ ((8 : Nat) : Int)) (.cons (rfl : T.ref 14 1 (0 + (0 : Int).toNat * 1) ((7 : Int).toNat - (0 : Int).toNat) = .ref 14 1 0 7) .nil)))) ?_
    clear hk; intro k hk
    refine Go.rx 20 { ws := [(3, { v := some (t32 (c14_3_1 + ((((c14_7_1 + ((x2 ^^^ x3) ^^^ x4)) + ((c14_4_1 &&& c14_5_1) ^^^ ((~~~c14_4_1) &&& c14_6_1))) + (sha_constants.getD t181.toNat 0)) + (x1.getD t181.toNat 0)))) })] } [] [2, 4, 5, 6, 7, 10, 12, 18] _ [(2, .addr 10 0), (4, .addr 11 0), (5, .addr 12 0), (6, .addr 13 0), (7, .addr 14 0), (10, t32 ((((c14_7_1 + ((x2 ^^^ x3) ^^^ x4)) + ((c14_4_1 &&& c14_5_1) ^^^ ((~~~c14_4_1) &&& c14_6_1))) + (sha_constants.getD t181.toNat 0)) + (x1.getD t181.toNat 0))), (12, t32 (((x5 ^^^ x6) ^^^ x7) + (((c14_0_1 &&& c14_1_1) ^^^ (c14_0_1 &&& c14_2_1)) ^^^ (c14_1_1 &&& c14_2_1)))), (18, ti t181)] [(10, [t32 a00, t32 a01, t32 a02, t32 a03, t32 a04, t32 a05, t32 a06, t32 a07]), (11, w08), (12, u32s sha_constants), (13, u32s x1), (14, [t32 c14_0_1, t32 c14_0_1, t32 c14_1_1, t32 c14_2_1, t32 (c14_3_1 + ((((c14_7_1 + ((x2 ^^^ x3) ^^^ x4)) + ((c14_4_1 &&& c14_5_1) ^^^ ((~~~c14_4_1) &&& c14_6_1))) + (sha_constants.getD t181.toNat 0)) + (x1.getD t181.toNat 0))), t32 c14_4_1, t32 c14_5_1, t32 c14_6_1])] hk rfl kr (.cons (by decide : 0 ≤ (4 : Int) ∧ (4 : Int) < 8) (.cons trivial (.cons (add32 c14_3_1 ((((c14_7_1 + ((x2 ^^^ x3) ^^^ x4)) + ((c14_4_1 &&& c14_5_1) ^^^ ((~~~c14_4_1) &&& c14_6_1))) + (sha_constants.getD t181.toNat 0)) + (x1.getD t181.toNat 0))) (.cons (by decide : 0 ≤ (4 : Int) ∧ (4 : Int) < 8) .nil)))) ?_
    clear hk; intro k hk
    refine Go.rx 20 { ws := [(2, { v := some (t32 (((((c14_7_1 + ((x2 ^^^ x3) ^^^ x4)) + ((c14_4_1 &&& c14_5_1) ^^^ ((~~~c14_4_1) &&& c14_6_1))) + (sha_constants.getD t181.toNat 0)) + (x1.getD t181.toNat 0)) + (((x5 ^^^ x6) ^^^ x7) + (((c14_0_1 &&& c14_1_1) ^^^ (c14_0_1 &&& c14_2_1)) ^^^ (c14_1_1 &&& c14_2_1))))) })] } [] [2, 4, 5, 6, 7, 18] _ [(2, .addr 10 0), (4, .addr 11 0), (5, .addr 12 0), (6, .addr 13 0), (7, .addr 14 0), (18, ti t181)] [(10, [t32 a00, t32 a01, t32 a02, t32 a03, t32 a04, t32 a05, t32 a06, t32 a07]), (11, w08), (12, u32s sha_constants), (13, u32s x1), (14, [t32 (((((c14_7_1 + ((x2 ^^^ x3) ^^^ x4)) + ((c14_4_1 &&& c14_5_1) ^^^ ((~~~c14_4_1) &&& c14_6_1))) + (sha_constants.getD t181.toNat 0)) + (x1.getD t181.toNat 0)) + (((x5 ^^^ x6) ^^^ x7) + (((c14_0_1 &&& c14_1_1) ^^^ (c14_0_1 &&& c14_2_1)) ^^^ (c14_1_1 &&& c14_2_1)))), t32 c14_0_1, t32 c14_1_1, t32 c14_2_1, t32 (c14_3_1 + ((((c14_7_1 + ((x2 ^^^ x3) ^^^ x4)) + ((c14_4_1 &&& c14_5_1) ^^^ ((~~~c14_4_1) &&& c14_6_1))) + (sha_constants.getD t181.toNat 0)) + (x1.getD t181.toNat 0))), t32 c14_4_1, t32 c14_5_1, t32 c14_6_1])] hk rfl kr (.cons trivial (.cons (add32 ((((c14_7_1 + ((x2 ^^^ x3) ^^^ x4)) + ((c14_4_1 &&& c14_5_1) ^^^ ((~~~c14_4_1) &&& c14_6_1))) + (sha_constants.getD t181.toNat 0)) + (x1.getD t181.toNat 0)) (((x5 ^^^ x6) ^^^ x7) + (((c14_0_1 &&& c14_1_1) ^^^ (c14_0_1 &&& c14_2_1)) ^^^ (c14_1_1 &&& c14_2_1)))) (.cons (by decide : 0 ≤ (0 : Int) ∧ (0 : Int) < 8) .nil))) ?_
    clear hk; intro k hk
    refine Go.rx 20 { ws := [(0, { v := some (ti (t181 + 1)) })] } [] [2, 4, 5, 6, 7, 18] _ [(2, .addr 10 0), (4, .addr 11 0), (5, .addr 12 0), (6, .addr 13 0), (7, .addr 14 0), (18, ti (t181 + 1))] [(10, [t32 a00, t32 a01, t32 a02, t32 a03, t32 a04, t32 a05, t32 a06, t32 a07]), (11, w08), (12, u32s sha_constants), (13, u32s x1), (14, [t32 (((((c14_7_1 + ((x2 ^^^ x3) ^^^ x4)) + ((c14_4_1 &&& c14_5_1) ^^^ ((~~~c14_4_1) &&& c14_6_1))) + (sha_constants.getD t181.toNat 0)) + (x1.getD t181.toNat 0)) + (((x5 ^^^ x6) ^^^ x7) + (((c14_0_1 &&& c14_1_1) ^^^ (c14_0_1 &&& c14_2_1)) ^^^ (c14_1_1 &&& c14_2_1)))), t32 c14_0_1, t32 c14_1_1, t32 c14_2_1, t32 (c14_3_1 + ((((c14_7_1 + ((x2 ^^^ x3) ^^^ x4)) + ((c14_4_1 &&& c14_5_1) ^^^ ((~~~c14_4_1) &&& c14_6_1))) + (sha_constants.getD t181.toNat 0)) + (x1.getD t181.toNat 0))), t32 c14_4_1, t32 c14_5_1, t32 c14_6_1])] hk rfl kr (.cons trivial (.cons (iw (t181 + 1) om) .nil)) ?_
    clear hk; intro k hk
    exact Go.join 20 hk hl1 rfl (ihl1 (t181 + 1) (((((c14_7_1 + ((x2 ^^^ x3) ^^^ x4)) + ((c14_4_1 &&& c14_5_1) ^^^ ((~~~c14_4_1) &&& c14_6_1))) + (sha_constants.getD t181.toNat 0)) + (x1.getD t181.toNat 0)) + (((x5 ^^^ x6) ^^^ x7) + (((c14_0_1 &&& c14_1_1) ^^^ (c14_0_1 &&& c14_2_1)) ^^^ (c14_1_1 &&& c14_2_1)))) c14_0_1 c14_1_1 c14_2_1 (c14_3_1 + ((((c14_7_1 + ((x2 ^^^ x3) ^^^ x4)) + ((c14_4_1 &&& c14_5_1) ^^^ ((~~~c14_4_1) &&& c14_6_1))) + (sha_constants.getD t181.toNat 0)) + (x1.getD t181.toNat 0))) c14_4_1 c14_5_1 c14_6_1 om om om)
   ·have ct2p := of_decide_eq_false ct2
    refine Go.keepN [2, 4, 7] (L' := [(2, .addr 10 0), (4, .addr 11 0), (7, .addr 14 0)]) rfl ?_
    exact Go.exitX (Pf := (PostX Γ sha_mix_enc)) (F := fun z : UInt32 × UInt32 × UInt32 × UInt32 × UInt32 × UInt32 × UInt32 × UInt32 => sha_mix_k1 a00 a01 a02 a03 a04 a05 a06 a07 z.1 z.2.1 z.2.2.1 z.2.2.2.1 z.2.2.2.2.1 z.2.2.2.2.2.1 z.2.2.2.2.2.2.1 z.2.2.2.2.2.2.2) (a := (c14_0_1, c14_1_1, c14_2_1, c14_3_1, c14_4_1, c14_5_1, c14_6_1, c14_7_1)) (Go.join 20 hk hxl1 rfl (Xl1 c14_0_1 c14_1_1 c14_2_1 c14_3_1 c14_4_1 c14_5_1 c14_6_1 c14_7_1))
 exact Ll1 _ 0 a00 a01 a02 a03 a04 a05 a06 a07 om om (Nat.lt_succ_self _)
theorem sha_mix_l2_gen : True := by have := @sha_mix_l2.eq_1; have := @sha_mix_l2.eq_2; trivial
theorem sha_mix_l1_gen : True := by have := @sha_mix_l1.eq_1; have := @sha_mix_l1.eq_2; trivial
attribute [irreducible] sha_mix_k2 sha_mix_l2 sha_mix_k1 sha_mix_l1 sha_mix
noncomputable def r5_ror_k1 (v2 : UInt64) : UInt32 :=
 v2.toUInt32
noncomputable def r5_ror_l1 (n : Int) : Nat → UInt64 → Int → Lo UInt64 UInt32
 | 0, _, _ => .brk default
 | ml1 + 1, v1, i1 =>
  bif decide (i1 < n) then
   r5_ror_l1 n ml1 ((v1 / 2) + ((v1 % 2) * 2147483648)) (i1 + 1)
  else
   Lo.brk v1
noncomputable def r5_ror (x : UInt32) (n : Int) : UInt32 :=
 Lo.el (r5_ror_l1 n ((n - (0 : Int)).toNat + 1) x.toUInt64 0) (fun z : UInt64 => r5_ror_k1 z)
theorem r5_ror_l1_gen : True := by have := @r5_ror_l1.eq_1; have := @r5_ror_l1.eq_2; trivial
attribute [irreducible] r5_ror_k1 r5_ror_l1 r5_ror
noncomputable def r5_shr_k1 (x2 : UInt32) : UInt32 :=
 x2
noncomputable def r5_shr_l1 (n : Int) : Nat → UInt32 → Int → Lo UInt32 UInt32
 | 0, _, _ => .brk default
 | ml1 + 1, x1, i1 =>
  bif decide (i1 < n) then
   r5_shr_l1 n ml1 (x1 / 2) (i1 + 1)
  else
   Lo.brk x1
noncomputable def r5_shr (x : UInt32) (n : Int) : UInt32 :=
 Lo.el (r5_shr_l1 n ((n - (0 : Int)).toNat + 1) x 0) (fun z : UInt32 => r5_shr_k1 z)
theorem r5_shr_l1_gen : True := by have := @r5_shr_l1.eq_1; have := @r5_shr_l1.eq_2; trivial
attribute [irreducible] r5_shr_k1 r5_shr_l1 r5_shr
noncomputable def r5_one_tab1 : List UInt32 := (List.replicate 64 0)
set_option maxRecDepth 100000 in
@[simp] theorem r5_one_tab1_len : r5_one_tab1.length = ((List.replicate 64 0) : List UInt32).length := by rw [r5_one_tab1]
noncomputable def r5_one_tab2 : List UInt32 := [1116352408, 1899447441, 3049323471, 3921009573, 961987163, 1508970993, 2453635748, 2870763221, 3624381080, 310598401, 607225278, 1426881987, 1925078388, 2162078206, 2614888103, 3248222580, 3835390401, 4022224774, 264347078, 604807628, 770255983, 1249150122, 1555081692, 1996064986, 2554220882, 2821834349, 2952996808, 3210313671, 3336571891, 3584528711, 113926993, 338241895, 666307205, 773529912, 1294757372, 1396182291, 1695183700, 1986661051, 2177026350, 2456956037, 2730485921, 2820302411, 3259730800, 3345764771, 3516065817, 3600352804, 4094571909, 275423344, 430227734, 506948616, 659060556, 883997877, 958139571, 1322822218, 1537002063, 1747873779, 1955562222, 2024104815, 2227730452, 2361852424, 2428436474, 2756734187, 3204031479, 3329325298]
set_option maxRecDepth 100000 in
@[simp] theorem r5_one_tab2_len : r5_one_tab2.length = ([1116352408, 1899447441, 3049323471, 3921009573, 961987163, 1508970993, 2453635748, 2870763221, 3624381080, 310598401, 607225278, 1426881987, 1925078388, 2162078206, 2614888103, 3248222580, 3835390401, 4022224774, 264347078, 604807628, 770255983, 1249150122, 1555081692, 1996064986, 2554220882, 2821834349, 2952996808, 3210313671, 3336571891, 3584528711, 113926993, 338241895, 666307205, 773529912, 1294757372, 1396182291, 1695183700, 1986661051, 2177026350, 2456956037, 2730485921, 2820302411, 3259730800, 3345764771, 3516065817, 3600352804, 4094571909, 275423344, 430227734, 506948616, 659060556, 883997877, 958139571, 1322822218, 1537002063, 1747873779, 1955562222, 2024104815, 2227730452, 2361852424, 2428436474, 2756734187, 3204031479, 3329325298] : List UInt32).length := by rw [r5_one_tab2]
noncomputable def r5_one_k2 (a00 : UInt32) (a01 : UInt32) (a02 : UInt32) (a03 : UInt32) (a04 : UInt32) (a05 : UInt32) (a06 : UInt32) (a07 : UInt32) (t1 : UInt32) (t2 : UInt32) (t3 : UInt32) (t4 : UInt32) (t5 : UInt32) (t6 : UInt32) (t7 : UInt32) (t8 : UInt32) : W8 :=
 (a00 + t1, a01 + t2, a02 + t3, a03 + t4, a04 + t5, a05 + t6, a06 + t7, a07 + t8)
noncomputable def r5_one_l2 (o2 : List UInt32) : Nat → UInt32 → UInt32 → UInt32 → UInt32 → UInt32 → UInt32 → UInt32 → UInt32 → Int → Lo W8 W8
 | 0, _, _, _, _, _, _, _, _, _ => .brk default
 | ml2 + 1, t101, t111, t121, t131, t141, t151, t161, t171, t181 =>
  bif decide (t181 < 64) then
   bnd (r5_ror t141 6) fun x1 =>
   bnd (r5_ror t141 11) fun x2 =>
   bnd (r5_ror t141 25) fun x3 =>
   bnd (r5_ror t101 2) fun x4 =>
   bnd (r5_ror t101 13) fun x5 =>
   bnd (r5_ror t101 22) fun x6 =>
   r5_one_l2 o2 ml2 (((((t171 + ((x1 ^^^ x2) ^^^ x3)) + ((t141 &&& t151) ^^^ ((4294967295 - t141) &&& t161))) + (r5_one_tab2.getD t181.toNat 0)) + (o2.getD t181.toNat 0)) + (((x4 ^^^ x5) ^^^ x6) + (((t101 &&& t111) ^^^ (t101 &&& t121)) ^^^ (t111 &&& t121)))) t101 t111 t121 (t131 + ((((t171 + ((x1 ^^^ x2) ^^^ x3)) + ((t141 &&& t151) ^^^ ((4294967295 - t141) &&& t161))) + (r5_one_tab2.getD t181.toNat 0)) + (o2.getD t181.toNat 0))) t141 t151 t161 (t181 + 1)
  else
   Lo.brk (t101, t111, t121, t131, t141, t151, t161, t171)
noncomputable def r5_one_k1 (a00 : UInt32) (a01 : UInt32) (a02 : UInt32) (a03 : UInt32) (a04 : UInt32) (a05 : UInt32) (a06 : UInt32) (a07 : UInt32) (o2 : List UInt32) : W8 :=
 Lo.el (r5_one_l2 o2 ((64 - (0 : Int)).toNat + 1) a00 a01 a02 a03 a04 a05 a06 a07 0) (fun z : UInt32 × UInt32 × UInt32 × UInt32 × UInt32 × UInt32 × UInt32 × UInt32 => r5_one_k2 a00 a01 a02 a03 a04 a05 a06 a07 z.1 z.2.1 z.2.2.1 z.2.2.2.1 z.2.2.2.2.1 z.2.2.2.2.2.1 z.2.2.2.2.2.2.1 z.2.2.2.2.2.2.2)
noncomputable def r5_one_l1 (a1 : List UInt8) : Nat → Int → (List UInt32) → Lo (List UInt32) W8
 | 0, _, _ => .brk default
 | ml1 + 1, t71, o1 =>
  bif decide (t71 < 64) then
   bif decide (t71 < 16) then
    r5_one_l1 a1 ml1 (t71 + 1) (o1.set t71.toNat ((((((a1.getD ((4 * t71).toNat) 0).toUInt32) * 16777216) + (((a1.getD ((4 * t71 + 1).toNat) 0).toUInt32) * 65536)) + (((a1.getD ((4 * t71 + 2).toNat) 0).toUInt32) * 256)) + ((a1.getD ((4 * t71 + 3).toNat) 0).toUInt32)))
   else
    bnd (r5_ror (o1.getD ((t71 - 2).toNat) 0) 17) fun x7 =>
    bnd (r5_ror (o1.getD ((t71 - 2).toNat) 0) 19) fun x8 =>
    bnd (r5_shr (o1.getD ((t71 - 2).toNat) 0) 10) fun x9 =>
    bnd (r5_ror (o1.getD ((t71 - 15).toNat) 0) 7) fun x10 =>
    bnd (r5_ror (o1.getD ((t71 - 15).toNat) 0) 18) fun x11 =>
    bnd (r5_shr (o1.getD ((t71 - 15).toNat) 0) 3) fun x12 =>
    r5_one_l1 a1 ml1 (t71 + 1) (o1.set t71.toNat (((((x7 ^^^ x8) ^^^ x9) + (o1.getD ((t71 - 7).toNat) 0)) + ((x10 ^^^ x11) ^^^ x12)) + (o1.getD ((t71 - 16).toNat) 0)))
  else
   Lo.brk o1
noncomputable def r5_one (a00 : UInt32) (a01 : UInt32) (a02 : UInt32) (a03 : UInt32) (a04 : UInt32) (a05 : UInt32) (a06 : UInt32) (a07 : UInt32) (a1 : List UInt8) : W8 :=
 Lo.el (r5_one_l1 a1 ((64 - (0 : Int)).toNat + 1) 0 (List.replicate 64 0)) (fun z : List UInt32 => r5_one_k1 a00 a01 a02 a03 a04 a05 a06 a07 z)
theorem r5_one_l2_gen : True := by have := @r5_one_l2.eq_1; have := @r5_one_l2.eq_2; trivial
theorem r5_one_l1_gen : True := by have := @r5_one_l1.eq_1; have := @r5_one_l1.eq_2; trivial
attribute [irreducible] r5_one_k2 r5_one_l2 r5_one_k1 r5_one_l1 r5_one
noncomputable def r5_Sum_k4 (o6 : List UInt8) : List UInt8 :=
 o6
noncomputable def r5_Sum_l4 (c13_0_2 : UInt32) (c13_1_2 : UInt32) (c13_2_2 : UInt32) (c13_3_2 : UInt32) (c13_4_2 : UInt32) (c13_5_2 : UInt32) (c13_6_2 : UInt32) (c13_7_2 : UInt32) : Nat → Int → (List UInt8) → Lo (List UInt8) (List UInt8)
 | 0, _, _ => .brk default
 | ml4 + 1, t91, o5 =>
  bif decide (t91 < 32) then
   r5_Sum_l4 c13_0_2 c13_1_2 c13_2_2 c13_3_2 c13_4_2 c13_5_2 c13_6_2 c13_7_2 ml4 (t91 + 1) (o5.set t91.toNat ((shr32 (([c13_0_2, c13_1_2, c13_2_2, c13_3_2, c13_4_2, c13_5_2, c13_6_2, c13_7_2] : List UInt32).getD ((t91 / 4).toNat) 0) ((u64i (24 - (8 * (t91 % 4))) : UInt64).toNat : Int)).toUInt8))
  else
   Lo.brk o5
noncomputable def r5_Sum_k3 (c13_0_2 : UInt32) (c13_1_2 : UInt32) (c13_2_2 : UInt32) (c13_3_2 : UInt32) (c13_4_2 : UInt32) (c13_5_2 : UInt32) (c13_6_2 : UInt32) (c13_7_2 : UInt32) : List UInt8 :=
 Lo.el (r5_Sum_l4 c13_0_2 c13_1_2 c13_2_2 c13_3_2 c13_4_2 c13_5_2 c13_6_2 c13_7_2 ((32 - (0 : Int)).toNat + 1) 0 (List.replicate 32 0)) (fun z : List UInt8 => r5_Sum_k4 z)
noncomputable def r5_Sum_l3 (o4 : List UInt8) : Nat → Int → UInt32 → UInt32 → UInt32 → UInt32 → UInt32 → UInt32 → UInt32 → UInt32 → Lo W8 (List UInt8)
 | 0, _, _, _, _, _, _, _, _, _ => .brk default
 | ml3 + 1, t71, c13_0_1, c13_1_1, c13_2_1, c13_3_1, c13_4_1, c13_5_1, c13_6_1, c13_7_1 =>
  bif decide (t71 < (o4.length : Int)) then
   bnd (r5_one c13_0_1 c13_1_1 c13_2_1 c13_3_1 c13_4_1 c13_5_1 c13_6_1 c13_7_1 (prt o4 ((t71).toNat) ((t71 + 64).toNat - (t71).toNat))) fun x1 =>
   r5_Sum_l3 o4 ml3 (t71 + 64) x1.1 x1.2.1 x1.2.2.1 x1.2.2.2.1 x1.2.2.2.2.1 x1.2.2.2.2.2.1 x1.2.2.2.2.2.2.1 x1.2.2.2.2.2.2.2
  else
   Lo.brk (c13_0_1, c13_1_1, c13_2_1, c13_3_1, c13_4_1, c13_5_1, c13_6_1, c13_7_1)
noncomputable def r5_Sum_k2 (o4 : List UInt8) : List UInt8 :=
 Lo.el (r5_Sum_l3 o4 (((o4.length : Int) - (0 : Int)).toNat + 1) 0 1779033703 3144134277 1013904242 2773480762 1359893119 2600822924 528734635 1541459225) (fun z : UInt32 × UInt32 × UInt32 × UInt32 × UInt32 × UInt32 × UInt32 × UInt32 => r5_Sum_k3 z.1 z.2.1 z.2.2.1 z.2.2.2.1 z.2.2.2.2.1 z.2.2.2.2.2.1 z.2.2.2.2.2.2.1 z.2.2.2.2.2.2.2)
noncomputable def r5_Sum_l2 (a0 : List UInt8) : Nat → Int → (List UInt8) → Lo (List UInt8) (List UInt8)
 | 0, _, _ => .brk default
 | ml2 + 1, t51, o3 =>
  bif decide (t51 ≥ 0) then
   r5_Sum_l2 a0 ml2 (t51 - 8) (o3 ++ [(shr64 (8 * (u64i (a0.length : Int))) ((u64i t51 : UInt64).toNat : Int)).toUInt8])
  else
   Lo.brk o3
noncomputable def r5_Sum_k1 (a0 : List UInt8) (o2 : List UInt8) : List UInt8 :=
 Lo.el (r5_Sum_l2 a0 (((56 : Int) + 8).toNat + 1) 56 o2) (fun z : List UInt8 => r5_Sum_k2 z)
noncomputable def r5_Sum_l1  : Nat → (List UInt8) → Lo (List UInt8) (List UInt8)
 | 0, _ => .brk default
 | ml1 + 1, o1 =>
  bif ((o1.length : Int) % 64) != 56 then
   r5_Sum_l1 ml1 (o1 ++ [0])
  else
   Lo.brk o1
noncomputable def r5_Sum (a0 : List UInt8) : List UInt8 :=
 Lo.el (r5_Sum_l1 (((120 - ((a0 ++ [128]).length : Int) % 64) % 64).toNat + 1) (a0 ++ [128])) (fun z : List UInt8 => r5_Sum_k1 a0 z)
theorem elB {α β : Type} (a : α) (k : α → β) : Lo.el (Lo.brk a) k = k a := rfl
theorem rsum_l4 (a b c d e f g h : UInt32) : ∀ (m : Nat) (t : Int) (o : List UInt8), (32 - t).toNat < m → o.length = 32 → ∃ z, r5_Sum_l4 a b c d e f g h m t o = Lo.brk z ∧ z.length = 32 := by
 intro m
 induction m with
 | zero => intro t o h; exact absurd h (Nat.not_lt_zero _)
 | succ m ih =>
  intro t o h ho
  rw [r5_Sum_l4]
  by_cases c : t < 32
  ·rw [decide_eq_true c, cond_true]
   exact ih _ _ (by omega) (by simpa using ho)
  ·rw [decide_eq_false c, cond_false]; exact ⟨o, rfl, ho⟩
theorem rsum_k3 (a b c d e f g h : UInt32) : (r5_Sum_k3 a b c d e f g h).length = 32 := by
 rw [r5_Sum_k3]
 obtain ⟨z, h1, h2⟩ := rsum_l4 a b c d e f g h ((32 - (0 : Int)).toNat + 1) 0 (List.replicate 32 0) (by decide) rfl
 rw [h1, elB, r5_Sum_k4]; exact h2
theorem rsum_l3 (l : List UInt8) : ∀ (m : Nat) (t : Int) (a b c d e f g h : UInt32), ∃ z, r5_Sum_l3 l m t a b c d e f g h = Lo.brk z := by
 intro m
 induction m with
 | zero => intro t a b c d e f g h; exact ⟨_, r5_Sum_l3.eq_1 l t a b c d e f g h⟩
 | succ m ih =>
  intro t a b c d e f g h
  rw [r5_Sum_l3, bnd_eq]
  cases decide (t < (l.length : Int)) with
  | true => rw [cond_true]; exact ih _ _ _ _ _ _ _ _ _
  | false => rw [cond_false]; exact ⟨_, rfl⟩
theorem rsum_k2 (l : List UInt8) : (r5_Sum_k2 l).length = 32 := by
 rw [r5_Sum_k2]
 obtain ⟨z, h1⟩ := rsum_l3 l (((l.length : Int) - (0 : Int)).toNat + 1) 0 1779033703 3144134277 1013904242 2773480762 1359893119 2600822924 528734635 1541459225
 rw [h1, elB]; exact rsum_k3 _ _ _ _ _ _ _ _
theorem rsum_l2 (b : List UInt8) : ∀ (m : Nat) (t : Int) (o : List UInt8), ∃ z, r5_Sum_l2 b m t o = Lo.brk z := by
 intro m
 induction m with
 | zero => intro t o; exact ⟨_, r5_Sum_l2.eq_1 b t o⟩
 | succ m ih =>
  intro t o
  rw [r5_Sum_l2]
  cases decide (t ≥ 0) with
  | true => rw [cond_true]; exact ih _ _
  | false => rw [cond_false]; exact ⟨_, rfl⟩
theorem rsum_k1 (b l : List UInt8) : (r5_Sum_k1 b l).length = 32 := by
 rw [r5_Sum_k1]
 obtain ⟨z, h1⟩ := rsum_l2 b (((56 : Int) + 8).toNat + 1) 56 l
 rw [h1, elB]; exact rsum_k2 _
theorem rsum_l1 : ∀ (m : Nat) (o : List UInt8), ∃ z, r5_Sum_l1 m o = Lo.brk z := by
 intro m
 induction m with
 | zero => intro o; exact ⟨_, r5_Sum_l1.eq_1 o⟩
 | succ m ih =>
  intro o
  rw [r5_Sum_l1]
  cases ((o.length : Int) % 64) != 56 with
  | true => rw [cond_true]; exact ih _
  | false => rw [cond_false]; exact ⟨_, rfl⟩
@[simp] theorem rsum_len (b : List UInt8) : (r5_Sum b).length = 32 := by
 rw [r5_Sum]
 obtain ⟨z, h1⟩ := rsum_l1 (((120 - ((b ++ [128]).length : Int) % 64) % 64).toNat + 1) (b ++ [128])
 rw [h1, elB]; exact rsum_k1 _ _
theorem r5_Sum_l4_gen : True := by have := @r5_Sum_l4.eq_1; have := @r5_Sum_l4.eq_2; trivial
theorem r5_Sum_l3_gen : True := by have := @r5_Sum_l3.eq_1; have := @r5_Sum_l3.eq_2; trivial
theorem r5_Sum_l2_gen : True := by have := @r5_Sum_l2.eq_1; have := @r5_Sum_l2.eq_2; trivial
theorem r5_Sum_l1_gen : True := by have := @r5_Sum_l1.eq_1; have := @r5_Sum_l1.eq_2; trivial
attribute [irreducible] r5_Sum_k4 r5_Sum_l4 r5_Sum_k3 r5_Sum_l3 r5_Sum_k2 r5_Sum_l2 r5_Sum_k1 r5_Sum_l1 r5_Sum
end Go.Proofs.YtbppcnhfeobefabDoor

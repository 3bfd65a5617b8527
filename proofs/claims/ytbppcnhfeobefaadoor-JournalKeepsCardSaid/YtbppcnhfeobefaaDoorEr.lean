import Derived.Test.YtbppcnhfeobefaaDoorTy
import Derived.Test.YtbppcnhfeobefaaDoorEnVx8
set_option linter.unusedVariables false
namespace Go.Proofs.YtbppcnhfeobefaaDoor
open Go Go.Vw Go.Proofs
abbrev zU : UInt8 → T := (fun c : UInt8 => T.leaf (.int .u8 c.toNat))
abbrev z64 : List UInt8 := (List.replicate 64 (0 : UInt8))
abbrev gWq : Int × List UInt8 → List T := (fun c : Int × List UInt8 => [ti c.1, .sl 1 .shr c.2.length (u8s c.2)])
abbrev gXq : Int × Int × List UInt8 × List Bool → List T := (fun c : Int × Int × List UInt8 × List Bool => [ti c.1, ti c.2.1, .sl 1 .shr c.2.2.1.length (u8s c.2.2.1), .sl 1 .shr c.2.2.2.length (bos c.2.2.2)])
abbrev gRq : UInt32 × List UInt8 → List T := (fun c : UInt32 × List UInt8 => [t32 c.1, .sl 1 .shr c.2.length (u8s c.2)])
abbrev gLq : List UInt8 → T := (fun c : List UInt8 => tl .shr c)
abbrev zA4 : Int × Int × List UInt8 × List Bool := ((0, 0, [], []) : Int × Int × List UInt8 × List Bool)
abbrev aX (l : List (Int × Int × List UInt8 × List Bool)) (t : Int) : Int × Int × List UInt8 × List Bool := l.getD t.toNat ((0, 0, [], []) : Int × Int × List UInt8 × List Bool)
abbrev zR2 : UInt32 × List UInt8 := ((0, []) : UInt32 × List UInt8)
abbrev tLB : Type := List (List UInt8)
abbrev tLW : Type := List (Int × List UInt8)
abbrev tJK : Type := (Int × Bool × tLB × (tLW) × Int × Int × UInt32 × tLB)
theorem meets_errAs (i : Nat) (n o : Int) : Meets Tryd.prog 88 [.iface 149 (.leaf (.int .i64 n)), .iface 161 (.addr i 0)] [(i, [.leaf (.int .i64 o)])] [i] (.leaf (.bool true)) [(i, [.leaf (.int .i64 n)])] := by
 refine meets_as Tryd.call88 (fun e t old w hc hf hk => ?_) i n o
 have hg : w.cell? ⟨0, 0, none⟩ = some (.iface 238 (.agg #[.pointer (some ⟨4, 26, none⟩)])) := hk 0 [.iface 238 (.agg #[.pointer (some ⟨4, 26, none⟩)])] ⟨by kernel_rfl, 238, 26, by kernel_rfl, of_decide_eq_true (by kernel_rfl), by kernel_rfl, by kernel_rfl⟩ 0 _ rfl
 refine (as_hit e t old w hg hc hf).mono ?_
 rintro ev w' ⟨rfl, rfl⟩
 refine ⟨rfl, _, ?_, rfl⟩
 exact (((Keeps.alloc _ _ _).trans (Keeps.alloc _ _ _) (fun _ _ h => h)).trans (Keeps.alloc _ _ _) (fun _ _ h => h)).trans (Keeps.alloc _ _ _) (fun _ _ h => h)
end Go.Proofs.YtbppcnhfeobefaaDoor
namespace Go.Proofs.YtbppcnhfeobefaaDoor
open Go Go.Vw Go.Proofs
noncomputable def clone_x (ad : Addr) (cap : Nat) : List UInt8 :=
 []
def clone_x_enc (x : List UInt8) : T × List (Nat × List T) := (.sl 1 .shr x.length (u8s x), [])
theorem clone_x_m (ad : Addr) (cap : Nat) : Meets Tryd.prog 85 [.leaf (.slice (some ad) 0 cap)] [] [] (.sl 1 .shr (clone_x ad cap).length (u8s (clone_x ad cap))) [] := by
 refine Meets.enterX (E := E) (N := 8) (enc := clone_x_enc) (x := (clone_x ad cap)) Tryd.func85 Tryd.call85 rfl rfl ?_
 intro Γ k hk
 refine Go.rx 20 {} [] [0] _ [(0, .leaf (.slice (some ad) 0 cap))] [] hk rfl kr .nil ?_
 clear hk; intro k hk
 refine Go.rx 20 {} [] [0, 4] _ [(0, .leaf (.slice (some ad) 0 cap)), (4, tb false)] [] hk rfl kr (.cons (⟨5, by as_aux_lemma => kernel_rfl⟩ : ∃ e, (E.ti 22).k = .slice e) .nil) ?_
 clear hk; intro k hk
 refine Go.cond 20 hk rfl (t := false) rfl ?_; clear hk; intro k hk
 refine Go.rx 20 { ws := [(0, { id := 10 }), (2, { id := 10 })], ps := [0, 6], fd := some [10] } [] [2] _ [(2, .ref 10 1 0 0)] [(10, [])] hk rfl kr (.cons (by decide : (0 + 0) * 1 ≤ 140737488355328) (.cons (sb : memN 10 (T.ids (.leaf (.slice (some ad) 0 cap))) = false) (.cons (sb : memN 10 (T.ids (.leaf (.slice (some ad) 0 cap))) = false) .nil))) ?_
 clear hk; intro k hk
 refine Go.frz [] [] 2 10 ([]) _ [(2, .dead)] [] rfl rfl rfl (Nat.le_of_ble_eq_true rfl) rfl kr .nil ?_
 exact Go.lvx 20 [] _ [.sl 1 .shr 0 []] Tryd.func85 hk rfl kr .nil (T.Le.of_eq rfl) rfl (by first | rfl | (simp only [clone_x_enc, T.ids, idsL, er_ids, List.append_nil, List.nil_append]; first | rfl | (rw [mp_ids _ (fun _ => rfl)]; rfl))) .nil
attribute [irreducible] clone_x
noncomputable def clone_0 (cap : Nat) : List UInt8 :=
 []
def clone_0_enc (x : List UInt8) : T × List (Nat × List T) := (.sl 1 .shr x.length (u8s x), [])
theorem clone_0_m (cap : Nat) : Meets Tryd.prog 85 [.leaf (.slice none 0 cap)] [] [] (.sl 1 .shr (clone_0 cap).length (u8s (clone_0 cap))) [] := by
 refine Meets.enterX (E := E) (N := 8) (enc := clone_0_enc) (x := (clone_0 cap)) Tryd.func85 Tryd.call85 rfl rfl ?_
 intro Γ k hk
 refine Go.rx 20 {} [] [0] _ [(0, .leaf (.slice none 0 cap))] [] hk rfl kr .nil ?_
 clear hk; intro k hk
 refine Go.rx 20 {} [] [0, 4] _ [(0, .leaf (.slice none 0 cap)), (4, tb true)] [] hk rfl kr (.cons (⟨5, by as_aux_lemma => kernel_rfl⟩ : ∃ e, (E.ti 22).k = .slice e) .nil) ?_
 clear hk; intro k hk
 refine Go.cond 20 hk rfl (t := true) rfl ?_; clear hk; intro k hk
 refine Go.rx 20 {} [] [2] _ [(2, .leaf (.slice none 0 0))] [] hk rfl kr .nil ?_
 clear hk; intro k hk
 exact Go.lvx 20 [] _ [.leaf (.slice none 0 0)] Tryd.func85 hk rfl kr .nil (T.Le.nil _ _) rfl rfl .nil
attribute [irreducible] clone_0
noncomputable def clone_s (s : List UInt8) : List UInt8 :=
 ([] ++ s)
def clone_s_enc (x : List UInt8) : T × List (Nat × List T) := (.sl 1 .shr x.length (u8s x), [])
theorem clone_s_m {g_s : Tag} (s : List UInt8) (hs : 0 < s.length ∧ s.length ≤ 140737488355328) : Meets Tryd.prog 85 [.sl 1 g_s s.length (u8s s)] [] [] (.sl 1 .shr (clone_s s).length (u8s (clone_s s))) [] := by
 refine Meets.enterX (E := E) (N := 8) (enc := clone_s_enc) (x := (clone_s s)) Tryd.func85 Tryd.call85 rfl rfl ?_
 intro Γ k hk
 refine Go.rx 20 {} [] [0] _ [(0, .sl 1 g_s s.length (u8s s))] [] hk rfl kr .nil ?_
 clear hk; intro k hk
 refine Go.rx 20 {} [] [0, 4] _ [(0, .sl 1 g_s s.length (u8s s)), (4, tb false)] [] hk rfl kr (.cons (⟨by omega, ⟨5, by as_aux_lemma => kernel_rfl⟩⟩ : 0 < s.length ∧ ∃ e, (E.ti 22).k = .slice e) .nil) ?_
 clear hk; intro k hk
 refine Go.cond 20 hk rfl (t := false) rfl ?_; clear hk; intro k hk
 refine Go.rx 20 { ws := [(0, { id := 10 }), (2, { v := some (.ref 10 1 0 (([] ++ s).length)), c := some (u8s ([] ++ s)), id := 10, sym := true })], fd := some [10] } [] [2] _ [(2, .ref 10 1 0 (([] ++ s).length))] [(10, u8s ([] ++ s))] hk rfl kr (.cons (by first | decide | simp : 0 + 0 * 1 ≤ (([] : List T)).length) (.cons (mp_scal s (fun _ => rfl) : scalL (u8s s) = true) (.cons (om : (0 + s.length) * 1 ≤ 140737488355328) (.cons (mp_app' (g := zU) (m := 0) [] s rfl rfl) (.cons (mp_mem (i := 10) (g := zU) ([] ++ s) (fun _ => rfl)) (.cons (by first | rfl | (simp; done) | (refine congrArg (fun q => T.ref 10 1 0 q) ?_; simp <;> omega) : T.ref 10 1 0 (0 + s.length) = .ref 10 1 0 (([] ++ s).length)) .nil)))))) ?_
 clear hk; intro k hk
 refine Go.frz [] [] 2 10 (u8s ([] ++ s)) _ [(2, .dead)] [] rfl rfl (mp_ids (g := zU) ([] ++ s) (fun _ => rfl)) (by simp only [List.length_map]; omega) (mp_all (g := zU) ([] ++ s)) kr .nil ?_
 exact Go.lvx 20 [] _ [.sl 1 .shr ([] ++ s).length (u8s ([] ++ s))] Tryd.func85 hk rfl kr .nil (T.Le.of_eq rfl) rfl rfl .nil
attribute [irreducible] clone_s
theorem clone_m {g_s : Tag} (s : List UInt8) (hs : s.length ≤ 140737488355328) : Meets Tryd.prog 85 [.sl 1 g_s s.length (u8s s)] [] [] (.sl 1 .shr (id s).length (u8s (id s))) [] := by
 cases s with
 | nil =>
  have h0 : ∀ cap, clone_0 cap = [] := fun cap => by rw [clone_0]
  have hx : ∀ a cap, clone_x a cap = [] := fun a cap => by rw [clone_x]
  exact Meets.nilOr (m := 1) (g := g_s) (fun ad cap => match ad with | none => by have h := clone_0_m cap; rw [h0] at h; exact h | some a => by have h := clone_x_m a cap; rw [hx] at h; exact h)
 | cons x s =>
  have hq : ∀ s, clone_s s = s := fun s => by rw [clone_s]; first | rfl | simp
  have h := clone_s_m (g_s := g_s) (x :: s) ⟨by simp, hs⟩
  rw [hq] at h; exact h
end Go.Proofs.YtbppcnhfeobefaaDoor

/- Nil as a slice of one's own; copies. -/
import Derived.Test.YtdlnppcndcfikaaVx9
namespace Go.Vw
set_option linter.unusedVariables false
set_option linter.unusedSimpArgs false
open Go Go.RowKit

/-- A slice that is nil, or holds nothing, is told as one's own. -/
theorem Go.phn {E : Env} {Γ : Cx} {f : FuncId} {N : Nat} {S : List Nat} {Post : Value → World → Prop} {k : List Item} {L : List (Nat × T)} {H : List (Nat × List T)} (t i m : Nat) {x : T} (ht : look L t = some x) (hx : x = .leaf (.slice none 0 0) ∨ x = .e0) (hi : look H i = none) (hS : memN i S = false)
    (hg : Go E Γ f N S Post k (stL (ins t (.ref i m 0 0) L) (ins i [] H))) : Go E Γ f N S Post k (stL L H) := by
  intro h1 h2 h3 a w ⟨β, hs⟩
  have hp := hs.phantom (id := i) hi (by rw [h3]; exact memN_false hS)
  refine hg h1 h2 h3 a w ⟨reals β i .ph, ?_⟩
  obtain ⟨v, hv1, hv2⟩ := hs.slot t x ht
  have hr : Rep w (okOf Γ.X { stL L H with h := upd (stL L H).h i (some []) } (reals β i .ph) w) (.ref i m 0 0) (reals β i .ph) v := by
    have : reals β i .ph i = .ph := by simp [reals]
    simp only [Rep, this]
    rcases hx with rfl | rfl
    · simp only [Rep] at hv2; exact ⟨trivial, trivial, none, hv2⟩
    · simp only [Rep] at hv2; exact ⟨trivial, trivial, hv2⟩
  have e1 : stL (ins t (.ref i m 0 0) L) (ins i [] H) = { s := upd (look L) t (some (.ref i m 0 0)), h := upd (look H) i (some []) } := by
    simp only [stL, look_ins]
  rw [e1]
  refine ⟨hp.defers, hp.size, hp.keeps, fun u y e => ?_, hp.obj, hp.inj, hp.ownb, fun u y e => ?_, hp.wfh, hp.stab⟩
  · simp only [upd] at e
    split at e
    · rename_i e'; subst e'; injection e with e; subst e; exact ⟨v, hv1, hr⟩
    · exact hp.slot u y e
  · simp only [upd] at e
    split at e
    · injection e with e; subst e; simp [T.ids, upd]
    · exact hp.wfs u y e

/-- What a copy leaves. -/
def cpy {α : Type} (l : List α) (off n : Nat) (src : List α) : List α := l.take off ++ src.take n ++ l.drop (off + (src.take n).length)
theorem mp_cpy {α : Type} {g : α → T} (l src : List α) (off n : Nat) {k : Nat} {c : List T} (hc : c = src.map g) (hk : k = min src.length n) : splice (l.map g) off (c.take (k * 1)) = (cpy l off n src).map g := by
  subst hc; subst hk
  have e : (src.map g).take (min src.length n * 1) = (src.take n).map g := by
    rw [Nat.mul_one, List.map_take]
    rw [List.take_eq_take_iff]; simp; omega
  simp only [splice, e, cpy, List.map_append, List.map_take, List.map_drop, List.length_map, List.length_take]
theorem cpy_len {α : Type} (l src : List α) (off n : Nat) (h : off + n ≤ l.length) : (cpy l off n src).length = l.length := by
  simp [cpy]; omega
end Go.Vw
namespace Go.Vw
@[simp] theorem cpy_length {α : Type} (l src : List α) (off n : Nat) : (cpy l off n src).length = min off l.length + min n src.length + (l.length - (off + min n src.length)) := by
  simp [cpy]; omega
theorem mp_part {α : Type} {g : α → T} (l : List α) (off n : Nat) : sub (l.map g) off (n * 1) = ((l.drop off).take n).map g := by
  simp [sub, List.map_take, List.map_drop]
end Go.Vw
namespace Go.Vw
/-- A part of a list. -/
def prt {α : Type} (l : List α) (off n : Nat) : List α := (l.drop off).take n
theorem prt_len {α : Type} (l : List α) (off n : Nat) (h : off + n ≤ l.length) : (prt l off n).length = n := by simp [prt]; omega
@[simp] theorem prt_length {α : Type} (l : List α) (off n : Nat) : (prt l off n).length = min n (l.length - off) := by simp [prt]
theorem lend_part {α : Type} {g : α → T} {t : Tag} (l : List α) (off n : Nat) (h : off + n ≤ l.length) : T.sl 1 t n (sub (l.map g) off (n * 1)) = T.sl 1 t (prt l off n).length ((prt l off n).map g) := by
  rw [prt_len l off n h, mp_part]; rfl
end Go.Vw

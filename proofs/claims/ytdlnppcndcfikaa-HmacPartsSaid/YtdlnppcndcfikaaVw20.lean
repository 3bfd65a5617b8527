/- What is made is given up at once, to be read by all. -/
import Derived.Test.YtdlnppcndcfikaaVw19
namespace Go.Vw
set_option linter.unusedVariables false
set_option linter.unusedSimpArgs false
open Go Go.RowKit

mutual
theorem T.purge_id {i : Nat} : ∀ (t : T), i ∉ t.ids → t.purge i = t
  | .dead, _ | .leaf _, _ | .e0, _ | .sl .., _ | .pt .., _ => rfl
  | .agg cs, h => by simp only [T.purge]; rw [purgeL_id cs (by simpa [T.ids] using h)]
  | .tup cs, h => by simp only [T.purge]; rw [purgeL_id cs (by simpa [T.ids] using h)]
  | .iface _ v, h => by simp only [T.purge]; rw [T.purge_id v (by simpa [T.ids] using h)]
  | .fn _ p q, h => by
    simp only [T.ids, List.mem_append, not_or] at h
    simp only [T.purge]; rw [purgeL_id p h.1, purgeL_id q h.2]
  | .ref id _ _ _, h | .addr id _, h => by
    simp only [T.ids, List.mem_singleton] at h
    simp only [T.purge]; rw [if_neg (Ne.symm h)]
theorem purgeL_id {i : Nat} : ∀ (ts : List T), i ∉ idsL ts → purgeL i ts = ts
  | [], _ => rfl
  | t :: ts, h => by
    simp only [idsL, List.mem_append, not_or] at h
    simp only [purgeL]; rw [T.purge_id t h.1, purgeL_id ts h.2]
end

theorem frz_rep {Γ : Cx} {σ : St} {β : Nat → Real} {a : Act} {w : World} (hs : SimB Γ σ β a w) {i m o n : Nat} {cs : List T} (hi : σ.h i = some cs) (hc : idsL cs = []) (hl : o + n * m ≤ cs.length) {okc : Tag → Nat → Prop}
    (hok : ∀ g b, okOf Γ.X σ β w g b → okc g b) (hX : ∀ b ob E, β i = .real b ob E → okc .shr b) {β' : Nat → Real} {x : Value} (hx : Rep w (okOf Γ.X σ β w) (.ref i m o n) β x) : Rep w okc (.sl m .shr n (sub cs o (n * m))) β' x := by
  have hlen : (sub cs o (n * m)).length = n * m := by simp [sub]; omega
  have hids : idsL (sub cs o (n * m)) = [] := by
    refine List.eq_nil_iff_forall_not_mem.2 fun j hj => ?_
    have := ids_drop (cs := cs) o j (ids_take (n * m) j hj)
    rw [hc] at this; simp at this
  cases hb : β i with
  | ph =>
    simp only [Rep, hb] at hx ⊢
    obtain ⟨h1, h2, ad, h3⟩ := hx
    subst h2
    exact ⟨⟨hlen, hids⟩, ad, 0, h3, by omega, .inl rfl⟩
  | real b ob E' =>
    simp only [Rep, hb] at hx ⊢
    obtain ⟨ad, cap, h1, h2, h3, h4⟩ := hx
    refine ⟨⟨hlen, hids⟩, ad, cap, h1, h2, ?_⟩
    by_cases hn : n = 0
    · exact .inl hn
    · right
      obtain ⟨c, e, fr, vs, g1, g2, g3, g4, g5, g6⟩ := obj_open hs hi hb
      refine ⟨b, ob + o, h4.resolve_left (by omega), hX b ob E' hb, ?_⟩
      have r : RepL w okc cs (fun _ => .ph) vs := RepL.mono (w := w) (fun g b' hb' => ⟨hok g b' hb', rfl⟩) cs _ _ vs (fun _ _ => rfl) (g5.sealed hc)
      exact RepAt.shut ((r.drop o).take (n * m)) ((g6.drop o).take (n * m))

theorem SimB.unX {Γ : Cx} {σ : St} {β : Nat → Real} {a : Act} {w : World} (hs : SimB Γ σ β a w) {i : Nat} {cs : List T} (hi : σ.h i = some cs) {b ob E : Nat} (hb : β i = .real b ob E) (g : Tag) : ¬ Γ.X g b := fun hx => by
  obtain ⟨h1, h2⟩ := Γ.X_old g b hx
  rcases (hs.ownb b ⟨i, cs, ob, E, hi, hb⟩).2 with h | h
  · omega
  · exact h2 h

/-- An object is given up: the slot that led to it holds what it held, to be read by all. -/
theorem SimB.frz {Γ : Cx} {σ : St} {β : Nat → Real} {a : Act} {w : World} (hs : SimB Γ σ β a w) {t i m o n : Nat} {cs : List T} (ht : σ.s t = some (.ref i m o n)) (hi : σ.h i = some cs) (hc : idsL cs = []) (hl : o + n * m ≤ cs.length) :
    SimB Γ { σ.drop i with s := upd (σ.drop i).s t (some (.sl m .shr n (sub cs o (n * m)))) } β a w := by
  have hd := hs.drop i
  obtain ⟨v, hv1, hv2⟩ := hs.slot t _ ht
  have how : ∀ b, own (σ.drop i) β b → own σ β b := by
    rintro b ⟨id, c, o', E, e1, e2⟩
    simp only [St.drop] at e1
    split at e1
    · simp at e1
    · obtain ⟨c', e3, _⟩ := Option.map_eq_some_iff.1 e1
      exact ⟨id, c', o', E, e3, e2⟩
  have hrep : Rep w (okOf Γ.X (σ.drop i) β w) (.sl m .shr n (sub cs o (n * m))) β v := by
    refine frz_rep hs hi hc hl (fun g b hb => ⟨hb.1, fun ho => hb.2.1 (how b ho), hb.2.2⟩) (fun b ob E hb => ⟨(hs.ownb b ⟨i, cs, ob, E, hi, hb⟩).1, ?_, hs.unX hi hb _⟩) hv2
    rintro ⟨id, c, o', E', e1, e2⟩
    simp only [St.drop] at e1
    split at e1
    · simp at e1
    · rename_i hne
      obtain ⟨c', e3, _⟩ := Option.map_eq_some_iff.1 e1
      exact hne (hs.inj id i c' cs b o' E' ob E e3 hi e2 hb)
  refine ⟨hd.defers, hd.size, hd.keeps, fun u z e => ?_, hd.obj, hd.inj, hd.ownb, fun u z e => ?_, hd.wfh, hd.stab⟩
  · simp only [upd] at e
    split at e
    · rename_i e'; subst e'; injection e with e; subst e; exact ⟨v, hv1, hrep⟩
    · exact hd.slot u z e
  · simp only [upd] at e
    split at e
    · injection e with e; subst e; simp [T.ids]
    · exact hd.wfs u z e

section
variable {P : Program} {o : Oper} {ev : Operand → Option T} {h : Nat → Option (List T)} {r : List Nat}
theorem Acts.give {d m n : Nat} {cs : List T} (hd : d ∉ r) (hc : idsL cs = []) (hl : n * m ≤ cs.length) (hA : Acts P o ev h r { val := .ref d m 0 n, puts := [(d, cs)] }) :
    Acts P o ev h r { val := .sl m .shr n (sub cs 0 (n * m)), puts := [(d, [])] } := by
  intro Γ σ β a w K Q hP hev hh hn hdst hs hK
  have hfr := hn (d, []) (by simp) (by simp)
  have h0 : σ.h d = none := hfr.2 hd
  have hS : ∀ u, (σ.s u).map (T.purge d) = σ.s u := fun u => by
    cases e : σ.s u with
    | none => rfl
    | some x => rw [Option.map_some, T.purge_id x (fun hm => hs.wfs u x e d hm h0)]
  have hH : ∀ j, (σ.h j).map (purgeL d) = σ.h j := fun j => by
    cases e : σ.h j with
    | none => rfl
    | some x => rw [Option.map_some, purgeL_id x (fun hm => hs.wfh j x e d hm h0)]
  refine hA Γ σ β a w K Q hP hev hh (fun p hp hq => ?_) hdst hs ?_
  · simp only [List.mem_singleton] at hp; subst hp; exact hfr
  rintro a' w' ⟨β', hs'⟩
  apply hK
  cases ho : o.dst with
  | none =>
    rw [ho] at hs'
    have hp := (hs'.drop d).phantom (id := d) (by simp [St.drop]) hfr.1
    refine ⟨_, cast (congrArg (fun τ => SimB Γ τ _ a' w') ?_) hp⟩
    refine St.ext' (fun u => ?_) (fun j => ?_)
    · simp only [Eff.apply, St.drops, St.puts, St.set, St.drop]; exact hS u
    · simp only [Eff.apply, St.drops, St.puts, St.set, St.drop, upd]
      split
      · rfl
      · exact hH j
  | some t =>
    rw [ho] at hs'
    have hz := hs'.frz (t := t) (i := d) (m := m) (o := 0) (n := n) (cs := cs) (by simp [Eff.apply, St.set, upd]) (by simp [Eff.apply, St.puts, St.set, St.drops, upd]) hc (by omega)
    have hp := hz.phantom (id := d) (by simp [St.drop]) hfr.1
    refine ⟨_, cast (congrArg (fun τ => SimB Γ τ _ a' w') ?_) hp⟩
    refine St.ext' (fun u => ?_) (fun j => ?_)
    · simp only [Eff.apply, St.drops, St.puts, St.set, St.drop, upd]
      split
      · rfl
      · rename_i hne
        exact hS u
    · simp only [Eff.apply, St.drops, St.puts, St.set, St.drop, upd]
      split
      · rfl
      · exact hH j
theorem Acts.giveStay {d m off n : Nat} {cs : List T} (hr : d ∈ r) (hid : h d = some cs) (hc : idsL cs = []) (hl : off + n * m ≤ cs.length) (hA : Acts P o ev h r { val := .ref d m off n, puts := [(d, cs)], stay := [d] }) :
    Acts P o ev h r { val := .sl m .shr n (sub cs off (n * m)), drops := [d] } := by
  intro Γ σ β a w K Q hP hev hh hn hds hs hK
  refine hA Γ σ β a w K Q hP hev hh (fun p hp hq => ?_) hds hs ?_
  · simp only [List.mem_singleton] at hp; subst hp; exact absurd (List.mem_singleton.2 rfl) hq
  rintro a' w' ⟨β', hs'⟩
  apply hK
  cases ho : o.dst with
  | none =>
    rw [ho] at hs'
    refine ⟨_, cast (congrArg (fun τ => SimB Γ τ _ a' w') ?_) (hs'.drop d)⟩
    refine St.ext' (fun u => ?_) (fun j => ?_)
    · simp only [Eff.apply, St.drops, St.puts, St.set, St.drop]
    · simp only [Eff.apply, St.drops, St.puts, St.set, St.drop, upd]
      split
      · rfl
      · rfl
  | some t =>
    rw [ho] at hs'
    have hz := hs'.frz (t := t) (i := d) (m := m) (o := off) (n := n) (cs := cs) (by simp [Eff.apply, St.set, upd]) (by simp [Eff.apply, St.puts, St.set, St.drops, upd]) hc hl
    refine ⟨_, cast (congrArg (fun τ => SimB Γ τ _ a' w') ?_) hz⟩
    refine St.ext' (fun u => ?_) (fun j => ?_)
    · simp only [Eff.apply, St.drops, St.puts, St.set, St.drop, upd]
      split <;> rfl
    · simp only [Eff.apply, St.drops, St.puts, St.set, St.drop, upd]
      split
      · rfl
      · rename_i hj; rfl
end
end Go.Vw

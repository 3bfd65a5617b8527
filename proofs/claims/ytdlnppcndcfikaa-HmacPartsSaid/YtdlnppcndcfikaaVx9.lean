/- sync/atomic's functions, told. -/
import Derived.Test.YtdlnppcndcfikaaVx8
import Derived.Laws.LoneSync
namespace Go.Vw
set_option linter.unusedVariables false
set_option linter.unusedSimpArgs false
open Go Go.RowKit

theorem SimB.ret {Γ : Cx} {τ : St} {β : Nat → Real} {a : Act} {w : World} {R : T} {H' : List (Nat × List T)} {v : Value} (hs : SimB Γ τ β a w) (hsub : ∀ id cs, look H' id = some cs → τ.h id = some cs) (hi : ∀ i ∈ R.ids, look H' i ≠ none)
    (hw : ∀ id cs, look H' id = some cs → ∀ i ∈ idsL cs, look H' i ≠ none) (hv : Rep w (okOf Γ.X τ β w) R β v) : SimB { Γ with n := 1 } (retSt R (look H')) β ⟨#[v], []⟩ w := by
  have how : ∀ c, own (retSt R (look H')) β c → own τ β c := fun c ⟨id, cs, o, E', q1, q2⟩ => ⟨id, cs, o, E', hsub id cs q1, q2⟩
  have hok : ∀ g c, okOf Γ.X τ β w g c → okOf Γ.X (retSt R (look H')) β w g c ∧ w.heap[c]? = w.heap[c]? := fun g c hc => ⟨⟨hc.1, fun ho => hc.2.1 (how c ho), hc.2.2⟩, rfl⟩
  refine ⟨rfl, rfl, hs.keeps, fun t y e => ?_, fun id cs e => (hs.obj id cs (hsub id cs e)).mono hok (fun _ _ _ _ => rfl) (fun _ _ => rfl),
    fun i1 i2 c1 c2 b1 o1 E1 o2 E2 q1 q2 => hs.inj i1 i2 c1 c2 b1 o1 E1 o2 E2 (hsub _ _ q1) (hsub _ _ q2), fun c hc => hs.ownb c (how c hc), fun t y e => ?_, hw, hs.stab⟩
  · simp only [retSt] at e
    split at e
    · rename_i ht; subst ht; injection e with e; subst e
      exact ⟨v, rfl, Rep.mono hok _ _ _ _ (fun _ _ => rfl) hv⟩
    · simp at e
  · simp only [retSt] at e
    split at e
    · injection e with e; subst e; exact hi
    · simp at e

section
variable {P : Program} {f : FuncId} {fn : Func} {i off : Nat} {cs : List T} {n m : Int}
variable (hf : P.funcs[f]? = some fn) (hname : (fn.name == "runtime.NumGoroutine") = false) (hb : fn.body.isNone = true) (hn : Extern.findNext fn = none)

/-- Where a pointer to an object's cell leads. -/
theorem addr_open {Γ : Cx} {σ : St} {β : Nat → Real} {a : Act} {w : World} (hs : SimB Γ σ β a w) {u v : Value} (hid : σ.h i = some cs) (hr : Rep w (okOf Γ.X σ β w) (.addr i off) β v) (hc : cs[off]? = some (.leaf u)) :
    ∃ b o E, β i = .real b o E ∧ v = .pointer (some ⟨b, o + off, none⟩) ∧ w.cell? ⟨b, o + off, none⟩ = some u ∧ w.frozen? ⟨b, o + off, none⟩ = false ∧ cs.length ≤ E := by
  cases hb : β i with
  | ph => simp only [Rep, hb] at hr
  | real b o E =>
    simp only [Rep, hb] at hr
    obtain ⟨c, e, fr, vs, h1, h2, h3, h4, h5, h6⟩ := obj_open hs hid hb
    obtain ⟨v', hv1, hv2⟩ := h5.get hc
    simp only [Rep] at hv2; subst hv2
    have hlt : off < cs.length := by
      rw [List.getElem?_eq_some_iff] at hc; exact hc.1
    exact ⟨b, o, E, rfl, hr, h6 off _ hv1, h4.get (by omega), h3⟩

include hf hname hb hn in
theorem meets_ld (he : Extern.find fn = some (Extern.Atomic.loadT (.int .u64))) (hc : cs[off]? = some (.leaf (.int .u64 n))) (hi : idsL cs = []) : Meets P f [.addr i off] [(i, cs)] [i] (.leaf (.int .u64 n)) [(i, cs)] := by
  intro Γ β vs hP hS hn' hl hβ hlent hs
  match vs, hl with
  | [v0], _ =>
    obtain ⟨x0, e0, r0⟩ := hs.slot 0 _ rfl
    simp only [List.getElem?_toArray, List.getElem?_cons_zero, Option.some.injEq] at e0
    subst e0
    have hid : (⟨fun t => [T.addr i off][t]?, look [(i, cs)]⟩ : St).h i = some cs := by simp [look]
    obtain ⟨b, o, E, _, rfl, h3, _⟩ := addr_open hs hid r0 hc
    refine .inr ⟨.int .u64 n, Γ.w0, run_call_load hf hname hb hn .u64 he h3, β, hs.ret (H' := [(i, cs)]) (fun _ _ h => h) (by simp [T.ids]) (fun id c e j hj => ?_) (by simp only [Rep])⟩
    exact hs.wfh id c e j hj

theorem st_ok {Γ : Cx} {β : Nat → Real} {vs : List Value} {A : List T} {v0 : Value} {R : T} {rv : Value} {k : Value} (hs : SimB Γ ⟨fun t => A[t]?, look [(i, cs)]⟩ β ⟨vs.toArray, []⟩ Γ.w0) (hk : scalL [.leaf k] = true)
    {b o E : Nat} (hbr : β i = .real b o E) (hoff : off < cs.length) (hE : cs.length ≤ E) (hi : idsL cs = []) (hR : R.ids = []) (hrv : ∀ w ok β, Rep w ok R β rv) :
    Sim { Γ with n := 1 } (retSt R (look [(i, splice cs off [.leaf k])])) ⟨#[rv], []⟩ (Γ.w0.setCell ⟨b, o + off, none⟩ k) := by
  have hid : (⟨fun t => A[t]?, look [(i, cs)]⟩ : St).h i = some cs := by simp [look]
  have hw := hs.write (new := [.leaf k]) (cs' := splice cs off [.leaf k]) (nv := [k]) hid hbr off (by simp; omega) (by simp [RepL, Rep]) hk
    (fun j hj => by
      rcases ids_splice j hj with h | h
      · rw [hi] at h; simp at h
      · simp [idsL, T.ids] at h)
    (fun vs' hvs => ⟨spliceV vs' off [k], hvs.splice off (by simp [RepL, Rep]), fun j u hu => by
      rw [spliceV_get (by rw [hvs.length]; simp; omega)] at hu
      by_cases hj : off ≤ j ∧ j < off + [k].length
      · rw [if_pos hj] at hu ⊢; exact hu
      · rw [if_neg hj] at hu ⊢; exact hu⟩) (by rw [splice_length (by simp; omega)]; exact hE)
  have hw2 := hw.2
  have hset : Γ.w0.setCells b (o + off) [k] = Γ.w0.setCell ⟨b, o + off, none⟩ k := rfl
  rw [hset] at hw2
  refine ⟨β, hw2.ret (H' := [(i, splice cs off [.leaf k])]) (fun id c e => ?_) (by simp [hR]) (fun id c e j hj => ?_) (hrv _ _ _)⟩
  · simp only [look] at e
    split at e
    · rename_i e'; subst e'; simpa [upd] using e
    · simp at e
  · simp only [look] at e
    split at e
    · injection e with e; subst e
      rcases ids_splice j hj with h | h
      · rw [hi] at h; simp at h
      · simp [idsL, T.ids] at h
    · simp at e

include hf hname hb hn in
theorem meets_st (he : Extern.find fn = some Extern.Atomic.storeT) (hc : cs[off]? = some (.leaf (.int .u64 n))) (hi : idsL cs = []) :
    Meets P f [.addr i off, .leaf (.int .u64 m)] [(i, cs)] [i] (.tup []) [(i, splice cs off [.leaf (.int .u64 m)])] := by
  intro Γ β vs hP hS hn' hl hβ hlent hs
  match vs, hl with
  | [v0, v1], _ =>
    obtain ⟨x0, e0, r0⟩ := hs.slot 0 _ rfl
    obtain ⟨x1, e1, r1⟩ := hs.slot 1 _ rfl
    simp only [List.getElem?_toArray, List.getElem?_cons_zero, List.getElem?_cons_succ, Option.some.injEq] at e0 e1
    subst e0; subst e1
    simp only [Rep] at r1; subst r1
    have hid : (⟨fun t => [T.addr i off, .leaf (.int .u64 m)][t]?, look [(i, cs)]⟩ : St).h i = some cs := by simp [look]
    obtain ⟨b, o, E, hbr, rfl, h3, h4, h5⟩ := addr_open hs hid r0 hc
    have hoff : off < cs.length := by rw [List.getElem?_eq_some_iff] at hc; exact hc.1
    exact .inr ⟨.tuple #[], _, run_call_store hf hname hb hn he h3 h4, st_ok (v0 := .nilIface) hs rfl hbr hoff h5 hi (by simp [T.ids, idsL]) (fun w ok β => by simp only [Rep]; exact ⟨[], rfl, by simp only [RepL]⟩)⟩

include hf hname hb hn in
theorem meets_cas (he : Extern.find fn = some (Extern.Atomic.casT (.int .u64))) (hc : cs[off]? = some (.leaf (.int .u64 n))) (hi : idsL cs = []) :
    Meets P f [.addr i off, .leaf (.int .u64 n), .leaf (.int .u64 m)] [(i, cs)] [i] (.leaf (.bool true)) [(i, splice cs off [.leaf (.int .u64 m)])] := by
  intro Γ β vs hP hS hn' hl hβ hlent hs
  match vs, hl with
  | [v0, v1, v2], _ =>
    obtain ⟨x0, e0, r0⟩ := hs.slot 0 _ rfl
    obtain ⟨x1, e1, r1⟩ := hs.slot 1 _ rfl
    obtain ⟨x2, e2, r2⟩ := hs.slot 2 _ rfl
    simp only [List.getElem?_toArray, List.getElem?_cons_zero, List.getElem?_cons_succ, Option.some.injEq] at e0 e1 e2
    subst e0; subst e1; subst e2
    simp only [Rep] at r1 r2; subst r1; subst r2
    have hid : (⟨fun t => [T.addr i off, .leaf (.int .u64 n), .leaf (.int .u64 m)][t]?, look [(i, cs)]⟩ : St).h i = some cs := by simp [look]
    obtain ⟨b, o, E, hbr, rfl, h3, h4, h5⟩ := addr_open hs hid r0 hc
    have hoff : off < cs.length := by rw [List.getElem?_eq_some_iff] at hc; exact hc.1
    exact .inr ⟨.bool true, _, run_call_cas_hit hf hname hb hn .u64 he h3 h4, st_ok (v0 := .nilIface) hs rfl hbr hoff h5 hi (by simp [T.ids]) (fun w ok β => by simp only [Rep])⟩
end
end Go.Vw

/- The frame: what a law that is told to meet its result says of the program's calls; errors.As, told. -/
import Derived.Test.YtdlnppcndcfikaaVw16
import Derived.Carry
namespace Go.Vw
set_option linter.unusedVariables false
set_option linter.unusedSimpArgs false
open Go Go.RowKit

/-- errors.As, at an api.Errno and a target that is one's own, told. -/
theorem meets_as {P : Program} {f : FuncId} {E PE : TypeId} (hcall : ∀ args w, (callFunc f args).run P w = .ok (.enter f args) w)
    (hhit : ∀ (e : Int) (t : Addr) (old : Value) (w : World), w.cell? t = some old → w.frozen? t = false → (∀ b cs, Known P b cs → CellsAt w b 0 cs) →
      Calls P f #[.iface E (.int .i64 e), .iface PE (.pointer (some t))] w fun ev w' => ev = .returned (.bool true) ∧ ∃ wa, Keeps (fun _ => False) w wa ∧ w' = wa.setCell t (.int .i64 e)) (i : Nat) (n o : Int) :
    Meets P f [.iface E (.leaf (.int .i64 n)), .iface PE (.addr i 0)] [(i, [.leaf (.int .i64 o)])] [i] (.leaf (.bool true)) [(i, [.leaf (.int .i64 n)])] := by
  refine fun Γ β vs hP hS hn hl hβ hlent hs => .inl ⟨hcall _ _, ?_⟩
  match vs, hl with
  | [v0, v1], _ =>
    obtain ⟨x0, e0, r0⟩ := hs.slot 0 _ rfl
    obtain ⟨x1, e1, r1⟩ := hs.slot 1 _ rfl
    simp only [List.getElem?_toArray, List.getElem?_cons_zero, List.getElem?_cons_succ, Option.some.injEq] at e0 e1
    subst e0; subst e1
    simp only [Rep] at r0 r1
    obtain ⟨_, rfl, rfl⟩ := r0
    obtain ⟨y, rfl, r1⟩ := r1
    cases hb : β i with
    | ph => rw [hb] at r1; exact r1.elim
    | real b ob E' =>
      rw [hb] at r1
      simp only [Nat.add_zero] at r1
      subst r1
      have hid : (⟨fun t => [T.iface E (.leaf (.int .i64 n)), .iface PE (.addr i 0)][t]?, look [(i, [.leaf (.int .i64 o)])]⟩ : St).h i = some [.leaf (.int .i64 o)] := by simp [look]
      obtain ⟨c, el, fr, ws, h1, h2, h3, h4, h5, h6⟩ := obj_open hs hid hb
      simp only [RepL, Rep] at h5
      obtain ⟨_, _, rfl, rfl, rfl⟩ := h5
      have hcell := h6 0 _ rfl
      simp only [Nat.add_zero] at hcell
      simp only [List.length_cons, List.length_nil] at h3
      have hfz := h4.get (i := ob) (by omega)
      refine (hhit n ⟨b, ob, none⟩ _ Γ.w0 hcell hfz fun b cs hk => (hs.known hP hk).2.2).mono ?_
      rintro ev w' ⟨rfl, wa, hka, rfl⟩
      refine ⟨_, rfl, β, ?_⟩
      have hga := hs.grow hka
      have hw := hga.write (new := [.leaf (.int .i64 n)]) (cs' := [.leaf (.int .i64 n)]) (nv := [.int .i64 n]) hid hb 0 (by simp; omega) (by simp [RepL, Rep]) rfl (by simp [idsL, T.ids])
        (fun vs hvs => ⟨[.int .i64 n], by simp [RepL, Rep], fun j u hu => by
          cases j with
          | zero => simpa using hu
          | succ j => simp at hu⟩) (by simp; omega)
      have hw2 := hw.2
      have hset : wa.setCells b (ob + 0) [.int .i64 n] = wa.setCell ⟨b, ob, none⟩ (.int .i64 n) := rfl
      rw [hset] at hw2
      have how : ∀ c, own (retSt (.leaf (.bool true)) (look [(i, [.leaf (.int .i64 n)])])) β c → own (⟨fun t => [T.iface E (.leaf (.int .i64 n)), .iface PE (.addr i 0)][t]?, upd (look [(i, [.leaf (.int .i64 o)])]) i (some [.leaf (.int .i64 n)])⟩ : St) β c := fun c ⟨id, cs, o', E2, q1, q2⟩ => by
        simp only [retSt, look] at q1
        split at q1
        · rename_i e; subst e; exact ⟨_, cs, o', E2, by simpa [upd] using q1, q2⟩
        · simp at q1
      have hobj : ∀ id cs, look [(i, [T.leaf (.int .i64 n)])] id = some cs → upd (look [(i, [.leaf (.int .i64 o)])]) i (some [.leaf (.int .i64 n)]) id = some cs := fun id cs q => by
        simp only [look] at q
        split at q
        · rename_i e; subst e; simpa [upd] using q
        · simp at q
      have hok : ∀ g c, okOf Γ.X (⟨fun t => [T.iface E (.leaf (.int .i64 n)), .iface PE (.addr i 0)][t]?, upd (look [(i, [.leaf (.int .i64 o)])]) i (some [.leaf (.int .i64 n)])⟩ : St) β (wa.setCell ⟨b, ob, none⟩ (.int .i64 n)) g c → okOf Γ.X (retSt (.leaf (.bool true)) (look [(i, [.leaf (.int .i64 n)])])) β (wa.setCell ⟨b, ob, none⟩ (.int .i64 n)) g c ∧ (wa.setCell ⟨b, ob, none⟩ (.int .i64 n)).heap[c]? = (wa.setCell ⟨b, ob, none⟩ (.int .i64 n)).heap[c]? := fun g c hc => ⟨⟨hc.1, fun ho => hc.2.1 (how c ho), hc.2.2⟩, rfl⟩
      refine ⟨rfl, rfl, hw2.keeps, fun t y e => ?_, fun id cs e => (hw2.obj id cs (hobj id cs e)).mono hok (fun _ _ _ _ => rfl) (fun _ _ => rfl),
        fun i1 i2 c1 c2 b1 o1 E1 o2 E2 q1 q2 => hw2.inj i1 i2 c1 c2 b1 o1 E1 o2 E2 (hobj _ _ q1) (hobj _ _ q2), fun c hc => hw2.ownb c (how c hc), fun t y e => ?_, fun id cs e j hj => ?_, hw2.stab⟩
      · simp only [retSt] at e
        split at e
        · rename_i ht; subst ht; injection e with e; subst e; exact ⟨_, rfl, by simp [Rep]⟩
        · simp at e
      · simp only [retSt] at e
        split at e
        · injection e with e; subst e; simp [T.ids]
        · simp at e
      · simp only [retSt, look] at e
        split at e
        · injection e with e; subst e; simp [idsL, T.ids] at hj
        · simp at e

/-- What a call of a function that is told says of the world: nothing of what was is turned. -/
theorem calls_of_meets {P : Program} {f : FuncId} {A : List T} {R : T} {W : World} {args : Array Value} (hen : ∀ args w, (callFunc f args).run P w = .ok (.enter f args) w) (hM : Meets P f A [] [] R []) (hi : idsL A = [])
    (held : ∀ b cs, Known P b cs → b < W.heap.size ∧ CellsAt W b 0 cs) (hrep : RepL W (fun _ b => b < W.heap.size) A (fun _ => .ph) args.toList) :
    Calls P f args W fun e W' => ∃ v, e = .returned v ∧ Below W.heap.size W W' ∧ ∃ ok β, Rep W' ok R β v := by
  have hno : ∀ b, ¬ own ⟨fun t => A[t]?, look []⟩ (fun _ => .ph) b := fun b ⟨id, cs, o, E, h1, h2⟩ => by simp [look] at h1
  let Γ : Cx := { P := P, n := args.toList.length, w0 := W, lent := own ⟨fun t => A[t]?, look []⟩ (fun _ => .ph), X := (fun _ _ => False), X_old := (fun _ _ h => False.elim h), X_sub := (fun _ h => h), S := [], β0 := (fun _ => .ph), held := fun b cs hk => ⟨(held b cs hk).1, hno b, (held b cs hk).2⟩ }
  have hl : args.toList.length = A.length := hrep.length
  have hs : SimB Γ ⟨fun t => A[t]?, look []⟩ (fun _ => .ph) ⟨args.toList.toArray, []⟩ W := by
    refine ⟨rfl, by simp [Γ], Keeps.refl _ _, fun t x e => ?_, fun id cs e => by simp [look] at e, fun i1 i2 c1 c2 b1 o1 E1 o2 E2 q1 => by simp [look] at q1, fun b hb => (hno b hb).elim, fun t x e i hx => ?_, fun id cs e => by simp [look] at e, fun _ _ => rfl⟩
    · obtain ⟨v, h1, h2⟩ := hrep.get e
      exact ⟨v, by simpa using h1, Rep.mono (fun g b hb => ⟨⟨hb, hno b, fun h => h⟩, rfl⟩) x _ _ v (fun _ _ => rfl) h2⟩
    · have := RepL.idsub e i hx
      rw [hi] at this; simp at this
  have := hM Γ (fun _ => .ph) args.toList rfl rfl rfl hl rfl rfl hs
  simp only [Array.toArray_toList] at this
  have this : Calls P f args W fun e w' => ∃ v, e = .returned v ∧ Sim { Γ with n := 1 } (retSt R (look [])) ⟨#[v], []⟩ w' := by
    rcases this with ⟨_, h⟩ | ⟨v, w', h, _⟩
    · exact h
    · rw [hen] at h; simp at h
  refine this.mono ?_
  rintro e W' ⟨v, rfl, β, h⟩
  refine ⟨v, rfl, ⟨h.keeps.os, h.keeps.tape, h.keeps.output, h.keeps.size, fun k hk => h.keeps.block k hk (hno k)⟩, ?_⟩
  obtain ⟨x, h1, h2⟩ := h.slot 0 R rfl
  simp only [List.getElem?_toArray, List.getElem?_cons_zero, Option.some.injEq] at h1
  subst h1
  exact ⟨_, _, h2⟩
end Go.Vw

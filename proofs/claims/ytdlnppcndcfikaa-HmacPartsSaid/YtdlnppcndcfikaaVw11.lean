/- Calls: by what the callee is known to do. -/
import Derived.Test.YtdlnppcndcfikaaVw10
namespace Go.Vw
set_option linter.unusedVariables false
set_option linter.unusedSimpArgs false
open Go Go.RowKit

mutual
/-- Nothing in it is borrowed. -/
def T.noB : T → Bool
  | .dead | .leaf _ | .e0 | .ref .. | .addr .. => true
  | .sl _ g _ cs => (g == .shr) && noBL cs
  | .pt g _ cs => (g == .shr) && noBL cs
  | .agg cs | .tup cs => noBL cs
  | .iface _ v => v.noB
  | .fn _ p q => noBL p && noBL q
def noBL : List T → Bool
  | [] => true
  | t :: ts => t.noB && noBL ts
end

section
variable {w : World} {ok : Tag → Nat → Prop}
mutual
theorem Rep.noB (ok' : Tag → Nat → Prop) (hs : ∀ b, ok .shr b → ok' .shr b) : ∀ (t : T) (β : Nat → Real) (x : Value), t.noB = true → Rep w ok t β x → Rep w ok' t β x
  | .dead, _, _, _, _ => by simp only [Rep]
  | .leaf _, _, _, _, h => by simpa only [Rep] using h
  | .e0, _, _, _, h => by simpa only [Rep] using h
  | .sl m g n cs, _, _, hn, h => by
    simp only [T.noB, Bool.and_eq_true, beq_iff_eq] at hn
    obtain ⟨rfl, hn⟩ := hn
    simp only [Rep] at h ⊢
    obtain ⟨h1, a, cap, h2, h3, h4⟩ := h
    refine ⟨h1, a, cap, h2, h3, h4.imp (fun e => e) ?_⟩
    rintro ⟨b, o, h5, h6, h7⟩
    exact ⟨b, o, h5, hs b h6, RepAt.noB ok' hs b cs o hn h7⟩
  | .pt g off cs, _, _, hn, h => by
    simp only [T.noB, Bool.and_eq_true, beq_iff_eq] at hn
    obtain ⟨rfl, hn⟩ := hn
    simp only [Rep] at h ⊢
    obtain ⟨h0, b, o, h5, h6, h7⟩ := h
    exact ⟨h0, b, o, h5, hs b h6, RepAt.noB ok' hs b cs o hn h7⟩
  | .agg cs, β, _, hn, h => by
    simp only [T.noB] at hn
    simp only [Rep] at h ⊢
    obtain ⟨vs, h1, h2⟩ := h
    exact ⟨vs, h1, RepL.noB ok' hs cs β vs hn h2⟩
  | .tup cs, β, _, hn, h => by
    simp only [T.noB] at hn
    simp only [Rep] at h ⊢
    obtain ⟨vs, h1, h2⟩ := h
    exact ⟨vs, h1, RepL.noB ok' hs cs β vs hn h2⟩
  | .iface t v, β, _, hn, h => by
    simp only [T.noB] at hn
    simp only [Rep] at h ⊢
    obtain ⟨y, h1, h2⟩ := h
    exact ⟨y, h1, Rep.noB ok' hs v β y hn h2⟩
  | .fn f p q, β, _, hn, h => by
    simp only [T.noB, Bool.and_eq_true] at hn
    simp only [Rep] at h ⊢
    obtain ⟨ps, qs, h1, h2, h3⟩ := h
    exact ⟨ps, qs, h1, RepL.noB ok' hs p β ps hn.1 h2, RepL.noB ok' hs q β qs hn.2 h3⟩
  | .ref id m off n, β, _, _, h => by simpa only [Rep] using h
  | .addr id off, β, _, _, h => by simpa only [Rep] using h
theorem RepL.noB (ok' : Tag → Nat → Prop) (hs : ∀ b, ok .shr b → ok' .shr b) : ∀ (ts : List T) (β : Nat → Real) (vs : List Value), noBL ts = true → RepL w ok ts β vs → RepL w ok' ts β vs
  | [], _, _, _, h => by simpa only [RepL] using h
  | t :: ts, β, vs, hn, h => by
    simp only [noBL, Bool.and_eq_true] at hn
    simp only [RepL] at h ⊢
    obtain ⟨v, us, h1, h2, h3⟩ := h
    exact ⟨v, us, h1, Rep.noB ok' hs t β v hn.1 h2, RepL.noB ok' hs ts β us hn.2 h3⟩
theorem RepAt.noB (ok' : Tag → Nat → Prop) (hs : ∀ b, ok .shr b → ok' .shr b) (b : Nat) : ∀ (ts : List T) (o : Nat), noBL ts = true → RepAt w ok b ts o → RepAt w ok' b ts o
  | [], _, _, _ => by simp only [RepAt]
  | t :: ts, o, hn, h => by
    simp only [noBL, Bool.and_eq_true] at hn
    simp only [RepAt] at h ⊢
    obtain ⟨⟨v, h1, h2⟩, h3⟩ := h
    exact ⟨⟨v, h1, Rep.noB ok' hs t _ v hn.1 h2⟩, RepAt.noB ok' hs b ts (o + 1) hn.2 h3⟩
end
end

/-! ### What is lent to be read alone -/

mutual
def T.snap (h : Nat → Option (List T)) (M : List Nat) : T → T
  | .dead => .dead
  | .leaf v => .leaf v
  | .e0 => .e0
  | .sl m g n cs => .sl m g n cs
  | .pt g o cs => .pt g o cs
  | .agg cs => .agg (snapL h M cs)
  | .tup cs => .tup (snapL h M cs)
  | .iface t v => .iface t (v.snap h M)
  | .fn f p q => .fn f (snapL h M p) (snapL h M q)
  | .ref id m o n => if id ∈ M then (match h id with | some cs => .sl m .brw n (sub cs o (n * m)) | none => .dead) else .ref id m o n
  | .addr id o => if id ∈ M then (match h id with | some cs => .pt .brw o cs | none => .dead) else .addr id o
def snapL (h : Nat → Option (List T)) (M : List Nat) : List T → List T
  | [] => []
  | t :: ts => t.snap h M :: snapL h M ts
end

mutual
def T.snapOk (h : Nat → Option (List T)) (M : List Nat) : T → Prop
  | .dead | .leaf _ | .e0 | .sl .. | .pt .. => True
  | .agg cs | .tup cs => snapOkL h M cs
  | .iface _ v => v.snapOk h M
  | .fn _ p q => snapOkL h M p ∧ snapOkL h M q
  | .ref id m o n => id ∈ M → ∃ cs, h id = some cs ∧ idsL cs = [] ∧ o + n * m ≤ cs.length
  | .addr id _ => id ∈ M → ∃ cs, h id = some cs ∧ idsL cs = []
def snapOkL (h : Nat → Option (List T)) (M : List Nat) : List T → Prop
  | [] => True
  | t :: ts => t.snapOk h M ∧ snapOkL h M ts
end

theorem snapOkL_nil (h : Nat → Option (List T)) (ts : List T) : snapOkL h [] ts := by
  have key : ∀ t : T, t.snapOk h [] := by
    intro t
    induction t using T.rec (motive_2 := fun ts => snapOkL h [] ts) <;> simp_all [T.snapOk, snapOkL]
  induction ts with
  | nil => simp [snapOkL]
  | cons t ts ih => simp only [snapOkL]; exact ⟨key t, ih⟩

theorem snapL_nil (h : Nat → Option (List T)) (ts : List T) : snapL h [] ts = ts := by
  have key : ∀ t : T, t.snap h [] = t := by
    intro t
    induction t using T.rec (motive_2 := fun ts => snapL h [] ts = ts) <;> simp_all [T.snap, snapL]
  induction ts with
  | nil => simp [snapL]
  | cons t ts ih => simp only [snapL, key t, ih]

section
variable {Γ : Cx} {σ : St} {β : Nat → Real} {a : Act} {w : World} {okc : Tag → Nat → Prop} {M : List Nat}
mutual
theorem Rep.snap (hs : SimB Γ σ β a w) (hok : ∀ g b, okOf Γ.X σ β w g b → okc g b) (hM : ∀ id ∈ M, ∀ cs, σ.h id = some cs → ∀ b o E, β id = .real b o E → okc .brw b) :
    ∀ (t : T) (v : Value), t.snapOk σ.h M → Rep w (okOf Γ.X σ β w) t β v → Rep w okc (t.snap σ.h M) β v
  | .dead, _, _, _ => by simp only [T.snap, Rep]
  | .leaf _, _, _, h => by simpa only [T.snap, Rep] using h
  | .e0, _, _, h => by simpa only [T.snap, Rep] using h
  | .sl m g n cs, v, _, h => by
    simp only [T.snap]
    exact Rep.mono (fun g b hb => ⟨hok g b hb, rfl⟩) _ β β v (fun _ _ => rfl) h
  | .pt g o cs, v, _, h => by
    simp only [T.snap]
    exact Rep.mono (fun g b hb => ⟨hok g b hb, rfl⟩) _ β β v (fun _ _ => rfl) h
  | .agg cs, _, hO, h => by
    simp only [T.snapOk] at hO
    simp only [T.snap, Rep] at h ⊢
    obtain ⟨vs, h1, h2⟩ := h
    exact ⟨vs, h1, RepL.snap hs hok hM cs vs hO h2⟩
  | .tup cs, _, hO, h => by
    simp only [T.snapOk] at hO
    simp only [T.snap, Rep] at h ⊢
    obtain ⟨vs, h1, h2⟩ := h
    exact ⟨vs, h1, RepL.snap hs hok hM cs vs hO h2⟩
  | .iface t v, _, hO, h => by
    simp only [T.snapOk] at hO
    simp only [T.snap, Rep] at h ⊢
    obtain ⟨y, h1, h2⟩ := h
    exact ⟨y, h1, Rep.snap hs hok hM v y hO h2⟩
  | .fn f p q, _, hO, h => by
    simp only [T.snapOk] at hO
    simp only [T.snap, Rep] at h ⊢
    obtain ⟨ps, qs, h1, h2, h3⟩ := h
    exact ⟨ps, qs, h1, RepL.snap hs hok hM p ps hO.1 h2, RepL.snap hs hok hM q qs hO.2 h3⟩
  | .ref id m off n, v, hO, h => by
    simp only [T.snap]
    split
    · rename_i hm
      simp only [T.snapOk] at hO
      obtain ⟨cs, h1, h2, h3⟩ := hO hm
      rw [h1]
      simp only [Rep] at h ⊢
      refine ⟨⟨by simp [sub]; omega, ?_⟩, ?_⟩
      · refine List.eq_nil_iff_forall_not_mem.2 fun j hj => ?_
        have := ids_sub _ _ j hj
        rw [h2] at this; simp at this
      · cases hb : β id with
        | ph =>
          rw [hb] at h
          obtain ⟨_, rfl, ad, hv⟩ := h
          exact ⟨ad, 0, hv, Nat.le_refl _, .inl rfl⟩
        | real b o E =>
          rw [hb] at h
          obtain ⟨ad, cap, hv, g1, g2, g3⟩ := h
          refine ⟨ad, cap, hv, g1, ?_⟩
          by_cases hn : n = 0
          · exact .inl hn
          · right
            have had := g3.resolve_left (by omega)
            obtain ⟨c, el, fr, vs, q1, q2, q3, q4, q5, q6⟩ := obj_open hs h1 hb
            have q5' : RepL w okc cs (fun _ => .ph) vs := RepL.mono (fun g b hb => ⟨hok g b hb, rfl⟩) cs β _ vs (by simp [h2]) q5
            exact ⟨b, o + off, had, hM id hm cs h1 b o E hb, RepAt.shut ((q5'.drop off).take (n * m)) ((q6.drop off).take (n * m))⟩
    · simpa only [Rep] using h
  | .addr id off, v, hO, h => by
    simp only [T.snap]
    split
    · rename_i hm
      simp only [T.snapOk] at hO
      obtain ⟨cs, h1, h2⟩ := hO hm
      rw [h1]
      simp only [Rep] at h ⊢
      cases hb : β id with
      | ph => rw [hb] at h; exact h.elim
      | real b o E =>
        rw [hb] at h
        obtain ⟨c, el, fr, vs, q1, q2, q3, q4, q5, q6⟩ := obj_open hs h1 hb
        have q5' : RepL w okc cs (fun _ => .ph) vs := RepL.mono (fun g b hb => ⟨hok g b hb, rfl⟩) cs β _ vs (by simp [h2]) q5
        exact ⟨h2, b, o, h, hM id hm cs h1 b o E hb, RepAt.shut q5' q6⟩
    · simpa only [Rep] using h
theorem RepL.snap (hs : SimB Γ σ β a w) (hok : ∀ g b, okOf Γ.X σ β w g b → okc g b) (hM : ∀ id ∈ M, ∀ cs, σ.h id = some cs → ∀ b o E, β id = .real b o E → okc .brw b) :
    ∀ (ts : List T) (vs : List Value), snapOkL σ.h M ts → RepL w (okOf Γ.X σ β w) ts β vs → RepL w okc (snapL σ.h M ts) β vs
  | [], _, _, h => by simpa only [snapL, RepL] using h
  | t :: ts, vs, hO, h => by
    simp only [snapOkL] at hO
    simp only [RepL, snapL] at h ⊢
    obtain ⟨v, us, h1, h2, h3⟩ := h
    exact ⟨v, us, h1, Rep.snap hs hok hM t v hO.1 h2, RepL.snap hs hok hM ts us hO.2 h3⟩
end
end

/-- The callee of a call, told. -/
def calleeT : T → Option (FuncId × List T × List T)
  | .fn (.func f) p q => some (f, p, q)
  | _ => none

theorem calleeT_eq {x : T} {f : FuncId} {p q : List T} (h : calleeT x = some (f, p, q)) : x = .fn (.func f) p q := by
  cases x with
  | fn g p' q' =>
    cases g with
    | func g => simp only [calleeT, Option.some.injEq, Prod.mk.injEq] at h; obtain ⟨rfl, rfl, rfl⟩ := h; rfl
    | _ => simp [calleeT] at h
  | _ => simp [calleeT] at h

theorem calleeT_run {Γ : Cx} {σ : St} {β : Nat → Real} {w : World} {x : T} {f : FuncId} {p q : List T} (h : calleeT x = some (f, p, q)) {v : Value} (hv : Rep w (okOf Γ.X σ β w) x β v) :
    ∃ ps qs, v = .func (.func f) (List.toArray ps) (List.toArray qs) ∧ RepL w (okOf Γ.X σ β w) p β ps ∧ RepL w (okOf Γ.X σ β w) q β qs := by
  rw [calleeT_eq h] at hv
  simpa only [Rep] using hv

/-- Purged of several. -/
def T.purges : List Nat → T → T
  | [], t => t
  | i :: l, t => T.purges l (t.purge i)
def purgesL : List Nat → List T → List T
  | [], ts => ts
  | i :: l, ts => purgesL l (purgeL i ts)

theorem drops_s : ∀ (l : List Nat) (σ : St) (t : Nat), (σ.drops l).s t = (σ.s t).map (T.purges l)
  | [], σ, t => by simp only [St.drops]; cases σ.s t <;> rfl
  | i :: l, σ, t => by simp only [St.drops]; rw [drops_s l]; simp only [St.drop]; cases σ.s t <;> rfl

theorem drops_hh : ∀ (l : List Nat) (σ : St) (j : Nat) (cs : List T), (σ.drops l).h j = some cs → ∃ c, σ.h j = some c ∧ cs = purgesL l c
  | [], σ, j, cs, h => ⟨cs, h, rfl⟩
  | i :: l, σ, j, cs, h => by
    simp only [St.drops] at h
    obtain ⟨c, h1, h2⟩ := drops_hh l _ j cs h
    simp only [St.drop] at h1
    split at h1
    · simp at h1
    · obtain ⟨c', h3, h4⟩ := Option.map_eq_some_iff.1 h1
      exact ⟨c', h3, by rw [h2, ← h4]; rfl⟩

theorem Rep.purges {w : World} {ok : Tag → Nat → Prop} {β : Nat → Real} {v : Value} : ∀ (l : List Nat) {t : T}, Rep w ok t β v → Rep w ok (t.purges l) β v
  | [], _, h => h
  | i :: l, _, h => by simp only [T.purges]; exact Rep.purges l (Rep.purge i _ β v h)

theorem ObjAt.purges {w : World} {ok : Tag → Nat → Prop} {β : Nat → Real} {r : Real} : ∀ (l : List Nat) {cs : List T}, ObjAt w ok β cs r → ObjAt w ok β (purgesL l cs) r
  | [], _, h => h
  | i :: l, _, h => by simp only [purgesL]; exact ObjAt.purges l (h.purge i)

theorem look_mem {α : Type} : ∀ {L : List (Nat × α)} {n : Nat} {x : α}, look L n = some x → (n, x) ∈ L
  | (m, y) :: l, n, x, h => by
    simp only [look] at h
    split at h
    · rename_i e; subst e; injection h with h; subst h; simp
    · exact List.mem_cons_of_mem _ (look_mem h)

theorem drops_h {σ : St} : ∀ (l : List Nat) {j : Nat} {cs : List T}, (σ.drops l).h j = some cs → j ∉ l ∧ ∃ c, σ.h j = some c
  | [], j, cs, h => ⟨by simp, cs, h⟩
  | i :: l, j, cs, h => by
    simp only [St.drops] at h
    obtain ⟨h1, c, h2⟩ := drops_h l h
    simp only [St.drop] at h2
    split at h2
    · simp at h2
    · obtain ⟨c', h3, _⟩ := Option.map_eq_some_iff.1 h2
      exact ⟨by simp; exact ⟨by assumption, h1⟩, c', h3⟩

theorem drops_dom {σ : St} : ∀ (l : List Nat) {j : Nat}, j ∉ l → σ.h j ≠ none → (σ.drops l).h j ≠ none
  | [], j, _, h => h
  | i :: l, j, hj, h => by
    simp only [List.mem_cons, not_or] at hj
    simp only [St.drops]
    refine drops_dom l hj.2 ?_
    simp only [St.drop, if_neg hj.1]
    simpa using h

theorem SimB.drops {Γ : Cx} {β : Nat → Real} {a : Act} {w : World} : ∀ (l : List Nat) {σ : St}, SimB Γ σ β a w → SimB Γ (σ.drops l) β a w
  | [], _, h => h
  | i :: l, _, h => by simp only [St.drops]; exact SimB.drops l (h.drop i)

/-- The last that is put counts. -/
def lastP : List (Nat × List T) → Nat → Option (List T)
  | [], _ => none
  | (i, cs) :: l, j => match lastP l j with | some c => some c | none => if i = j then some cs else none

theorem puts_h : ∀ (l : List (Nat × List T)) (σ : St) (j : Nat), (σ.puts l).h j = match lastP l j with | some c => some c | none => σ.h j
  | [], σ, j => rfl
  | (i, cs) :: l, σ, j => by
    simp only [St.puts]
    rw [puts_h l _ j]
    simp only [lastP]
    cases lastP l j with
    | some c => rfl
    | none =>
      simp only [upd]
      by_cases h : j = i
      · subst h; simp
      · rw [if_neg h, if_neg (Ne.symm h)]

theorem puts_s : ∀ (l : List (Nat × List T)) (σ : St), (σ.puts l).s = σ.s
  | [], _ => rfl
  | (i, cs) :: l, σ => by simp only [St.puts]; rw [puts_s l]

/-- No number stands twice. -/
def once : List (Nat × List T) → Bool
  | [] => true
  | (i, _) :: l => (look l i).isNone && once l

theorem lastP_look : ∀ {l : List (Nat × List T)}, once l = true → ∀ j, lastP l j = look l j
  | [], _, _ => rfl
  | (i, cs) :: l, h, j => by
    simp only [once, Bool.and_eq_true] at h
    simp only [lastP, look, lastP_look h.2 j]
    by_cases e : i = j
    · subst e
      have := h.1
      cases hl : look l i <;> simp_all
    · rw [if_neg e, if_neg e]
      cases look l j <;> rfl

section
variable {P : Program} {o : Oper} {ev : Operand → Option T} {h : Nat → Option (List T)}

/-- What the program's variables hold, it holds still. -/
theorem SimB.known {P : Program} {Γ : Cx} {σ : St} {β : Nat → Real} {a : Act} {w : World} (hs : SimB Γ σ β a w) (hP : Γ.P = P) {b : Nat} {cs : List Value} (hk : Known P b cs) : b < w.heap.size ∧ ¬ own σ β b ∧ CellsAt w b 0 cs := by
  subst hP
  obtain ⟨h1, h2, h3⟩ := Γ.held b cs hk
  refine ⟨Nat.lt_of_lt_of_le h1 hs.keeps.size, fun ho => ?_, fun i v hv => ?_⟩
  · rcases (hs.ownb b ho).2 with h | h
    · omega
    · exact h2 h
  · rw [World.cell?_of_block (w := Γ.w0) (hs.keeps.block b h1 h2)]; exact h3 i v hv

/-- What is new behind a call. -/
def notStay (S : List Nat) (H : List (Nat × List T)) : List Nat := (H.map (·.1)).filter fun i => !S.contains i

set_option maxHeartbeats 2000000 in
theorem acts_call {fo : Operand} {xs : Array Operand} {ts : Array TypeId} {f : FuncId} {x : T} {p q AV A : List T} {H H' : List (Nat × List T)} {S M : List Nat} {R : T}
    (hM : Meets P f A H S R H') (ho : o.op = .call { callee := .value fo, args := xs, argTypes := ts }) (hx : ev fo = some x) (hc : calleeT x = some (f, p, q)) (hA : evL ev xs.toList = some AV)
    (hsn : snapL h M (p ++ AV ++ q) = A) (hsO : snapOkL h M (p ++ AV ++ q)) (hH : ∀ i cs, look H i = some cs → h i = some cs) (hcl : ∀ i cs, look H i = some cs → ∀ j ∈ idsL cs, look H j ≠ none) (hAi : ∀ i ∈ idsL A, look H i ≠ none)
    (hMH : ∀ i ∈ M, look H i = none) (hnb : M = [] ∨ (R.noB = true ∧ ∀ q ∈ H', noBL q.2 = true)) (h1 : once H' = true) (hSH : ∀ i ∈ S, look H i ≠ none ∧ look H' i ≠ none) (hMH' : ∀ i ∈ M, look H' i = none) :
    Acts P o ev h (H.map (·.1) ++ M) { val := R, drops := notStay S H, puts := H', stay := S } := by
  intro Γ σ β a w K Q hP hev hh hn hd hs hK
  have hopx : σ.ev fo = some x := by rw [hev fo (by simp [ho, Op.operands, Call.operands]), hx]
  have hopA : evL σ.ev xs.toList = some AV := by
    rw [evL_congr (fun y hy => hev y (by simp [ho, Op.operands, Call.operands]; exact .inr (by simpa using hy))), hA]
  -- what the call is handed
  obtain ⟨ps, qs, hf, hps, hqs⟩ := calleeT_run hc (hs.ev hopx)
  obtain ⟨hAr, hAids⟩ := evL_rep hs hopA
  have hall : RepL w (okOf Γ.X σ β w) (p ++ AV ++ q) β (ps ++ xs.toList.map a.eval ++ qs) := (hps.append hAr).append hqs
  have hhM : ∀ i ∈ M, σ.h i = h i := fun i hi => hh i (by simp [hi])
  have hhH : ∀ i cs, look H i = some cs → σ.h i = some cs := fun i cs e => by
    rw [hh i (by simp; exact .inl ⟨cs, look_mem e⟩)]; exact hH i cs e
  have hsnap : snapL σ.h M (p ++ AV ++ q) = A ∧ snapOkL σ.h M (p ++ AV ++ q) := by
    have key : ∀ t : T, t.snap σ.h M = t.snap h M ∧ (t.snapOk h M → t.snapOk σ.h M) := by
      intro t
      induction t using T.rec (motive_2 := fun ts => snapL σ.h M ts = snapL h M ts ∧ (snapOkL h M ts → snapOkL σ.h M ts)) with
      | ref id m off n => simp only [T.snap, T.snapOk]; by_cases hm : id ∈ M <;> simp [hm, hhM]
      | addr id off => simp only [T.snap, T.snapOk]; by_cases hm : id ∈ M <;> simp [hm, hhM]
      | fn f p q hp hq => simp only [T.snap, T.snapOk, hp.1, hq.1]; exact ⟨trivial, fun ⟨a, b⟩ => ⟨hp.2 a, hq.2 b⟩⟩
      | cons t ts ht hts => simp only [snapL, snapOkL, ht.1, hts.1]; exact ⟨trivial, fun ⟨a, b⟩ => ⟨ht.2 a, hts.2 b⟩⟩
      | _ => simp_all [T.snap, T.snapOk, snapL, snapOkL]
    have keyL : ∀ ts : List T, snapL σ.h M ts = snapL h M ts ∧ (snapOkL h M ts → snapOkL σ.h M ts) := by
      intro ts
      induction ts with
      | nil => simp [snapL, snapOkL]
      | cons t ts ih => simp only [snapL, snapOkL, (key t).1, ih.1]; exact ⟨trivial, fun ⟨a, b⟩ => ⟨(key t).2 a, ih.2 b⟩⟩
    exact ⟨by rw [(keyL _).1, hsn], (keyL _).2 hsO⟩
  -- the callee's own context
  let σc : St := ⟨fun t => A[t]?, look H⟩
  have hownc : ∀ b, own σc β b → own σ β b := fun b ⟨id, cs, o', E', e1, e2⟩ => ⟨id, cs, o', E', hhH id cs e1, e2⟩
  let lentM : Nat → Prop := fun b => ∃ id ∈ M, ∃ cs o' E', σ.h id = some cs ∧ β id = .real b o' E'
  let Xc : Tag → Nat → Prop := fun g b => (b < w.heap.size ∧ ¬ own σc β b) ∧ ((own σ β b ∧ (g = .brw → ¬ lentM b)) ∨ Γ.X g b)
  let vs := ps ++ xs.toList.map a.eval ++ qs
  let Γc : Cx := { P := P, n := vs.length, w0 := w, lent := own σc β, X := Xc, X_old := fun g b hb => ⟨hb.1.1, hb.1.2⟩, X_sub := fun b hb => ⟨hb.1, hb.2.imp (fun h => ⟨h.1, fun e => by simp at e⟩) (Γ.X_sub b)⟩, S := S, β0 := β, held := fun b cs hk => (hs.known hP hk).imp_right fun h => ⟨fun ho => h.1 (hownc b ho), h.2⟩ }
  have hokc : ∀ g b, okOf Γ.X σ β w g b → okOf Xc σc β w g b := fun g b hb => ⟨hb.1, fun ho => hb.2.1 (hownc b ho), fun hX => hX.2.elim (fun ho => hb.2.1 ho.1) hb.2.2⟩
  have hMne : ∀ id ∈ M, ∀ cs, σ.h id = some cs → ∀ b o' E', β id = .real b o' E' → ¬ own σc β b := by
    rintro id hid cs hcs b o' E' hb ⟨id2, cs2, o2, E2, e1, e2⟩
    have := hs.inj id id2 cs cs2 b o' E' o2 E2 hcs (hhH id2 cs2 e1) hb e2
    subst this
    have hno := hMH id hid
    have e1' : look H id = some cs2 := e1
    rw [hno] at e1'; simp at e1'
  have hlent : ∀ id ∈ M, ∀ cs, σ.h id = some cs → ∀ b o' E', β id = .real b o' E' → okOf Xc σc β w .brw b := fun id hid cs hcs b o' E' hb => by
    refine ⟨(hs.ownb b ⟨id, cs, o', E', hcs, hb⟩).1, hMne id hid cs hcs b o' E' hb, fun hX => ?_⟩
    rcases hX.2 with ⟨_, hX⟩ | hX
    · exact hX rfl ⟨id, hid, cs, o', E', hcs, hb⟩
    · have hold := Γ.X_old .brw b hX
      rcases (hs.ownb b ⟨id, cs, o', E', hcs, hb⟩).2 with h' | h'
      · exact absurd hold.1 (by omega)
      · exact hold.2 h'
  have hrepA : RepL w (okOf Xc σc β w) A β vs := by
    have := RepL.snap hs hokc hlent (p ++ AV ++ q) vs hsnap.2 hall
    rw [hsnap.1] at this
    exact this
  have hvl : vs.length = A.length := hrepA.length
  have hsc : SimB Γc σc β ⟨vs.toArray, []⟩ w := by
    refine ⟨rfl, by simp [Γc], Keeps.refl _ _, fun t y e => ?_, fun id cs e => ?_, fun i1 i2 c1 c2 b1 o1 E1 o2 E2 e1 e2 => hs.inj i1 i2 c1 c2 b1 o1 E1 o2 E2 (hhH _ _ e1) (hhH _ _ e2), fun b hb => ⟨(hs.ownb b (hownc b hb)).1, .inr hb⟩,
      fun t y e i hi => hAi i (RepL.idsub e i hi), fun id cs e i hi => hcl id cs e i hi, fun _ _ => rfl⟩
    · obtain ⟨v, e1, e2⟩ := hrepA.get e
      exact ⟨v, by simpa using e1, e2⟩
    · exact (hs.obj id cs (hhH id cs e)).mono (fun g b hb => ⟨hokc g b hb, rfl⟩) (fun _ _ _ _ => rfl) (fun _ _ => rfl)
  have hcalls := hM Γc β vs rfl rfl rfl hvl rfl rfl hsc
  -- behind it
  have fin : ∀ v w', Sim { Γc with n := 1 } (retSt R (look H')) ⟨#[v], []⟩ w' → K (a.put o.dst v) w' := by
    rintro v w' ⟨β', hs'⟩
    refine hK _ _ ?_
    -- the caller's state
    have hkeep : Keeps (own σc β) w w' := hs'.keeps
    have hla : ∀ j, lastP H' j = look H' j := lastP_look h1
    let τ : St := (σ.drops (notStay S H)).puts H'
    have hτh : ∀ j, τ.h j = match look H' j with | some c => some c | none => (σ.drops (notStay S H)).h j := fun j => by
      simp only [τ, puts_h, hla]
    let β'' : Nat → Real := fun i => match look H' i with | some _ => β' i | none => β i
    have hd0 : SimB Γ (σ.drops (notStay S H)) β a w := hs.drops _
    have hβag : ∀ j, σ.h j ≠ none → j ∉ notStay S H → β'' j = β j := fun j hj hq => by
      simp only [β'']
      cases hl : look H' j with
      | none => rfl
      | some c =>
        by_cases hjS : j ∈ S
        · exact hs'.stab j hjS
        · exfalso
          have := hn (j, c) (look_mem hl) hjS
          have hjr : j ∉ H.map (·.1) ++ M := by
            intro hmem
            simp only [List.mem_append, List.mem_map] at hmem
            rcases hmem with ⟨r, hr, rfl⟩ | hmem
            · apply hq
              simp only [notStay, List.mem_filter, List.mem_map, Bool.not_eq_true']
              exact ⟨⟨r, hr, rfl⟩, by simpa using hjS⟩
            · have := hMH' j hmem
              rw [hl] at this; simp at this
          exact hj (this.2 hjr)
    have hdom0 : ∀ j, (σ.drops (notStay S H)).h j ≠ none → σ.h j ≠ none ∧ j ∉ notStay S H := fun j hj => by
      cases hq : (σ.drops (notStay S H)).h j with
      | none => exact absurd hq hj
      | some c => obtain ⟨q1, c', q2⟩ := drops_h _ hq; exact ⟨by rw [q2]; simp, q1⟩
    have hdomτ : ∀ j, (σ.drops (notStay S H)).h j ≠ none → τ.h j ≠ none := fun j hj => by
      rw [hτh]; cases look H' j with
      | none => exact hj
      | some c => simp
    -- whose block it is
    have hownτ : ∀ b, own τ β'' b → own σ β b ∨ w.heap.size ≤ b := by
      rintro b ⟨j, cs, o', E', e1, e2⟩
      rw [hτh] at e1
      simp only [β''] at e2
      cases hl : look H' j with
      | none =>
        rw [hl] at e1 e2
        obtain ⟨_, c, q2⟩ := drops_h _ e1
        exact .inl ⟨j, c, o', E', q2, e2⟩
      | some c =>
        rw [hl] at e2
        rcases (hs'.ownb b ⟨j, c, o', E', hl, e2⟩).2 with h' | h'
        · exact .inr h'
        · exact .inl (hownc b h')
    -- an own block that isn't an object's of the callee
    have hother : ∀ j cs b o' E', look H' j = none → (σ.drops (notStay S H)).h j = some cs → β j = .real b o' E' → own σ β b ∧ ¬ own σc β b := by
      intro j cs b o' E' hl e1 e2
      obtain ⟨q1, c, q2⟩ := drops_h _ e1
      refine ⟨⟨j, c, o', E', q2, e2⟩, ?_⟩
      rintro ⟨j2, c2, o2, E2, e3, e4⟩
      have := hs.inj j j2 c c2 b o' E' o2 E2 q2 (hhH j2 c2 e3) e2 e4
      subst this
      by_cases hjS : j ∈ S
      · exact (hSH j hjS).2 hl
      · apply q1
        have e3' : look H j = some c2 := e3
        simp only [notStay, List.mem_filter, List.mem_map, Bool.not_eq_true']
        exact ⟨⟨(j, c2), look_mem e3', rfl⟩, by simpa using hjS⟩
    have hΓX : ∀ g b, Γ.X g b → b < w.heap.size ∧ ¬ own σ β b := fun g b hX => by
      have hold := Γ.X_old g b hX
      refine ⟨Nat.lt_of_lt_of_le hold.1 hs.keeps.size, fun ho => ?_⟩
      rcases (hs.ownb b ho).2 with h' | h'
      · exact absurd hold.1 (by omega)
      · exact hold.2 h'
    have hokτ : ∀ g b, okOf Γ.X σ β w g b → okOf Γ.X τ β'' w' g b ∧ w'.heap[b]? = w.heap[b]? := fun g b hb =>
      ⟨⟨Nat.lt_of_lt_of_le hb.1 hkeep.size, fun ho => (hownτ b ho).elim hb.2.1 (fun h' => by have := hb.1; omega), hb.2.2⟩, hkeep.block b hb.1 (fun ho => hb.2.1 (hownc b ho))⟩
    -- what the callee could tell of
    let okc' : Tag → Nat → Prop := okOf Xc (retSt R (look H')) β' w'
    have hshr : ∀ g b, okc' .shr b → okOf Γ.X τ β'' w' g b := by
      intro g b ⟨k1, k2, k3⟩
      refine ⟨k1, ?_, fun hX => ?_⟩
      · rintro ⟨j, cs, o', E', e1, e2⟩
        rw [hτh] at e1
        simp only [β''] at e2
        cases hl : look H' j with
        | none =>
          rw [hl] at e1 e2
          obtain ⟨r1, r2⟩ := hother j cs b o' E' hl e1 e2
          exact k3 ⟨⟨(hs.ownb b r1).1, r2⟩, .inl ⟨r1, fun e => by simp at e⟩⟩
        | some c => rw [hl] at e2; exact k2 ⟨j, c, o', E', hl, e2⟩
      · have hX' : Γ.X .shr b := by cases g with | shr => exact hX | brw => exact Γ.X_sub b hX
        obtain ⟨r1, r2⟩ := hΓX .shr b hX'
        exact k3 ⟨⟨r1, fun ho => r2 (hownc b ho)⟩, .inr hX'⟩
    have hokr : M = [] → ∀ g b, okc' g b → okOf Γ.X τ β'' w' g b := by
      intro hM0 g b ⟨k1, k2, k3⟩
      refine ⟨k1, ?_, fun hX => ?_⟩
      · rintro ⟨j, cs, o', E', e1, e2⟩
        rw [hτh] at e1
        simp only [β''] at e2
        cases hl : look H' j with
        | none =>
          rw [hl] at e1 e2
          obtain ⟨r1, r2⟩ := hother j cs b o' E' hl e1 e2
          exact k3 ⟨⟨(hs.ownb b r1).1, r2⟩, .inl ⟨r1, fun _ ⟨id, hid, _⟩ => by rw [hM0] at hid; simp at hid⟩⟩
        | some c => rw [hl] at e2; exact k2 ⟨j, c, o', E', hl, e2⟩
      · obtain ⟨r1, r2⟩ := hΓX g b hX
        exact k3 ⟨⟨r1, fun ho => r2 (hownc b ho)⟩, .inr hX⟩
    have hobjc : ∀ j c, look H' j = some c → ObjAt w' (okOf Γ.X τ β'' w') β'' c (β'' j) := by
      intro j c hl
      have h0 := hs'.obj j c hl
      have hβj : β'' j = β' j := by simp only [β'', hl]
      rw [hβj]
      have hids : ∀ i ∈ idsL c, β'' i = β' i := fun i hi => by
        have := hs'.wfh j c hl i hi
        simp only [β'']
        cases hl2 : look H' i with
        | none => exact absurd hl2 this
        | some _ => rfl
      rcases hnb with hM0 | ⟨_, hnbH⟩
      · exact h0.mono (fun g b hb => ⟨hokr hM0 g b hb, rfl⟩) (fun _ _ _ _ => rfl) hids
      · cases hr : β' j with
        | ph => rw [hr] at h0; exact h0
        | real b o' E' =>
          rw [hr] at h0
          obtain ⟨c', el, fr, vs', q1, q2, q3, q4, q5, q6⟩ := h0
          have q5' := RepL.noB (fun _ b => okc' .shr b) (fun b hb => hb) c β' vs' (hnbH (j, c) (look_mem hl)) q5
          exact ⟨c', el, fr, vs', q1, q2, q3, q4, RepL.mono (fun g b hb => ⟨hshr g b hb, rfl⟩) c β' β'' vs' hids q5', q6⟩
    have hsim : SimB Γ τ β'' a w' := by
      refine ⟨hs.defers, hs.size, ?_, fun t y e => ?_, fun j cs e => ?_, fun i1 i2 c1 c2 b1 o1 E1 o2 E2 e1 e2 r1 r2 => ?_, fun b hb => ?_, fun t y e i hi => ?_, fun j cs e i hi => ?_, fun i hi => ?_⟩
      · exact hs.keeps.trans hkeep (fun b hb ho => (hs.ownb b (hownc b ho)).2.resolve_left (by omega))
      · have e' : (σ.drops (notStay S H)).s t = some y := by simpa only [τ, puts_s] using e
        rw [drops_s] at e'
        obtain ⟨y0, e1, rfl⟩ := Option.map_eq_some_iff.1 e'
        obtain ⟨u, q1, q2⟩ := hs.slot t y0 e1
        refine ⟨u, q1, Rep.mono hokτ _ β β'' u (fun i hi => ?_) (Rep.purges _ q2)⟩
        obtain ⟨r1, r2⟩ := hdom0 i (hd0.wfs t _ (by rw [drops_s, e1]; rfl) i hi)
        exact hβag i r1 r2
      · have e' := e
        rw [hτh] at e'
        cases hl : look H' j with
        | some c => rw [hl] at e'; injection e' with e'; subst e'; exact hobjc j _ hl
        | none =>
          rw [hl] at e'
          obtain ⟨c0, e1, rfl⟩ := drops_hh _ _ _ _ e'
          have hβj : β'' j = β j := by simp only [β'', hl]
          rw [hβj]
          refine ((hs.obj j c0 e1).purges _).mono hokτ (fun b o' E' hr => ?_) (fun i hi => ?_)
          · obtain ⟨r1, r2⟩ := hother j _ b o' E' hl e' hr
            exact hkeep.block b (hs.ownb b r1).1 r2
          · obtain ⟨r1, r2⟩ := hdom0 i (hd0.wfh j _ e' i hi)
            exact hβag i r1 r2
      · rw [hτh] at e1 e2
        simp only [β''] at r1 r2
        cases hl1 : look H' i1 with
        | none =>
          rw [hl1] at e1 r1
          obtain ⟨k1, k2⟩ := hother i1 c1 b1 o1 E1 hl1 e1 r1
          cases hl2 : look H' i2 with
          | none =>
            rw [hl2] at e2 r2
            obtain ⟨_, d1, q1⟩ := drops_h _ e1
            obtain ⟨_, d2, q2⟩ := drops_h _ e2
            exact hs.inj i1 i2 d1 d2 b1 o1 E1 o2 E2 q1 q2 r1 r2
          | some c =>
            rw [hl2] at r2
            rcases (hs'.ownb b1 ⟨i2, c, o2, E2, hl2, r2⟩).2 with h' | h'
            · have h'' : w.heap.size ≤ b1 := h'
              have := (hs.ownb b1 k1).1; omega
            · exact absurd h' k2
        | some c =>
          rw [hl1] at r1
          cases hl2 : look H' i2 with
          | none =>
            rw [hl2] at e2 r2
            obtain ⟨k1, k2⟩ := hother i2 c2 b1 o2 E2 hl2 e2 r2
            rcases (hs'.ownb b1 ⟨i1, c, o1, E1, hl1, r1⟩).2 with h' | h'
            · have h'' : w.heap.size ≤ b1 := h'
              have := (hs.ownb b1 k1).1; omega
            · exact absurd h' k2
          | some c' =>
            rw [hl2] at r2
            exact hs'.inj i1 i2 c c' b1 o1 E1 o2 E2 hl1 hl2 r1 r2
      · obtain ⟨j, cs, o', E', e1, e2⟩ := hb
        have e1' := e1
        rw [hτh] at e1'
        simp only [β''] at e2
        cases hl : look H' j with
        | none =>
          rw [hl] at e1' e2
          obtain ⟨r1, _⟩ := hother j cs b o' E' hl e1' e2
          exact ⟨Nat.lt_of_lt_of_le (hs.ownb b r1).1 hkeep.size, (hs.ownb b r1).2⟩
        | some c =>
          rw [hl] at e2
          have := hs'.ownb b ⟨j, c, o', E', hl, e2⟩
          refine ⟨this.1, ?_⟩
          rcases this.2 with h' | h'
          · exact .inl (Nat.le_trans hs.keeps.size h')
          · exact (hs.ownb b (hownc b h')).2
      · have e' : (σ.drops (notStay S H)).s t = some y := by simpa only [τ, puts_s] using e
        exact hdomτ i (hd0.wfs t y e' i hi)
      · rw [hτh] at e
        cases hl : look H' j with
        | none => rw [hl] at e; exact hdomτ i (hd0.wfh j cs e i hi)
        | some c =>
          rw [hl] at e; injection e with e; subst e
          rw [hτh]
          have : look H' i ≠ none := hs'.wfh j _ hl i hi
          cases hl2 : look H' i with
          | none => exact absurd hl2 this
          | some _ => simp
      · simp only [β'']
        cases hl : look H' i with
        | none => exact hs.stab i hi
        | some c =>
          by_cases hiS : i ∈ S
          · have := hs'.stab i hiS
            exact this.trans (hs.stab i hi)
          · exact absurd hi (hn (i, c) (look_mem hl) hiS).1
    have hRs : (retSt R (look H')).s 0 = some R := rfl
    obtain ⟨u, u1, u2⟩ := hs'.slot 0 R hRs
    have hu : u = v := by simpa using u1.symm
    subst hu
    have hRids : ∀ i ∈ R.ids, look H' i ≠ none := hs'.wfs 0 R hRs
    have hβR : ∀ i ∈ R.ids, β'' i = β' i := fun i hi => by
      simp only [β'']
      cases hl2 : look H' i with
      | none => exact absurd hl2 (hRids i hi)
      | some _ => rfl
    have hRrep : Rep w' (okOf Γ.X τ β'' w') R β'' u := by
      rcases hnb with hM0 | ⟨hnbR, _⟩
      · exact Rep.mono (fun g b hb => ⟨hokr hM0 g b hb, rfl⟩) R β' β'' u hβR u2
      · exact Rep.mono (fun g b hb => ⟨hshr g b hb, rfl⟩) R β' β'' u hβR (Rep.noB (fun _ b => okc' .shr b) (fun b hb => hb) R β' u hnbR u2)
    exact ⟨β'', hsim.set hd hRrep (fun i hi => by
      rw [hτh]
      cases hl2 : look H' i with
      | none => exact absurd hl2 (hRids i hi)
      | some _ => simp)⟩
  unfold Oper.wp
  rcases hcalls with ⟨hen, hcalls⟩ | ⟨v, w', hen, hpost⟩
  · have hexec : (execOp a.eval o).run P w = .ok (.enter f vs.toArray) w := by
      simp only [execOp, ho, resolve, hf, Deferred.ofValue, Sem.run_bind, Sem.run_pure, Result.andThen_ok, invoke]
      exact Eq.trans (congrArg (fun z => (callFunc f z).run P w) (show _ = vs.toArray by simp [vs])) hen
    rw [hexec]
    simp only [Oper.upon]
    refine hcalls.mono ?_
    rintro e w' ⟨v, rfl, h⟩
    exact fin v w' h
  · have hexec : (execOp a.eval o).run P w = .ok (.value v) w' := by
      simp only [execOp, ho, resolve, hf, Deferred.ofValue, Sem.run_bind, Sem.run_pure, Result.andThen_ok, invoke]
      exact Eq.trans (congrArg (fun z => (callFunc f z).run P w) (show _ = vs.toArray by simp [vs])) hen
    rw [hexec]
    exact fin v w' hpost

end
end Go.Vw

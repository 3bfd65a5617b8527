import Derived.Test.YtdlnppcndcfikaaDoorEnVw8
import Derived.Orders
set_option linter.unusedVariables false
set_option linter.unusedSimpArgs false
namespace Go.Vw
open Go Go.RowKit
mutual
def T.noB : T → Bool
  | .dead | .leaf _ | .e0 | .ref .. | .addr .. => true
  | .sl _ g _ cs => (g == .shr) && noBL cs
  | .pt g _ cs => (g == .shr) && noBL cs
  | .agg cs | .tup cs => noBL cs
  | .iface _ v => v.noB
  | .fn _ p q => noBL p && noBL q
def noBL : List T → Bool
  | [] => true
  | t :: ts => t.noB && noBL ts
end
section
variable {w : World} {ok : Tag → Nat → Prop}
mutual
theorem Rep.noB (ok' : Tag → Nat → Prop) (hs : ∀ b, ok .shr b → ok' .shr b) : ∀ (t : T) (β : Nat → Real) (x : Value), t.noB = true → Rep w ok t β x → Rep w ok' t β x
  | .dead, _, _, _, _ => by simp only [Rep]
  | .leaf _, _, _, _, h => by simpa only [Rep] using h
  | .e0, _, _, _, h => by simpa only [Rep] using h
  | .sl m g n cs, _, _, hn, h => by
    simp only [T.noB, Bool.and_eq_true, beq_iff_eq] at hn
    obtain ⟨rfl, hn⟩ := hn
    simp only [Rep] at h ⊢
    obtain ⟨h1, a, cap, h2, h3, h4⟩ := h
    refine ⟨h1, a, cap, h2, h3, h4.imp (fun e => e) ?_⟩
    rintro ⟨b, o, h5, h6, h7⟩
    exact ⟨b, o, h5, hs b h6, RepAt.noB ok' hs b cs o hn h7⟩
  | .pt g off cs, _, _, hn, h => by
    simp only [T.noB, Bool.and_eq_true, beq_iff_eq] at hn
    obtain ⟨rfl, hn⟩ := hn
    simp only [Rep] at h ⊢
    obtain ⟨h0, b, o, h5, h6, h7⟩ := h
    exact ⟨h0, b, o, h5, hs b h6, RepAt.noB ok' hs b cs o hn h7⟩
  | .agg cs, β, _, hn, h => by
    simp only [T.noB] at hn
    simp only [Rep] at h ⊢
    obtain ⟨vs, h1, h2⟩ := h
    exact ⟨vs, h1, RepL.noB ok' hs cs β vs hn h2⟩
  | .tup cs, β, _, hn, h => by
    simp only [T.noB] at hn
    simp only [Rep] at h ⊢
    obtain ⟨vs, h1, h2⟩ := h
    exact ⟨vs, h1, RepL.noB ok' hs cs β vs hn h2⟩
  | .iface t v, β, _, hn, h => by
    simp only [T.noB] at hn
    simp only [Rep] at h ⊢
    obtain ⟨y, h1, h2⟩ := h
    exact ⟨y, h1, Rep.noB ok' hs v β y hn h2⟩
  | .fn f p q, β, _, hn, h => by
    simp only [T.noB, Bool.and_eq_true] at hn
    simp only [Rep] at h ⊢
    obtain ⟨ps, qs, h1, h2, h3⟩ := h
    exact ⟨ps, qs, h1, RepL.noB ok' hs p β ps hn.1 h2, RepL.noB ok' hs q β qs hn.2 h3⟩
  | .ref id m off n, β, _, _, h => by simpa only [Rep] using h
  | .addr id off, β, _, _, h => by simpa only [Rep] using h
theorem RepL.noB (ok' : Tag → Nat → Prop) (hs : ∀ b, ok .shr b → ok' .shr b) : ∀ (ts : List T) (β : Nat → Real) (vs : List Value), noBL ts = true → RepL w ok ts β vs → RepL w ok' ts β vs
  | [], _, _, _, h => by simpa only [RepL] using h
  | t :: ts, β, vs, hn, h => by
    simp only [noBL, Bool.and_eq_true] at hn
    simp only [RepL] at h ⊢
    obtain ⟨v, us, h1, h2, h3⟩ := h
    exact ⟨v, us, h1, Rep.noB ok' hs t β v hn.1 h2, RepL.noB ok' hs ts β us hn.2 h3⟩
theorem RepAt.noB (ok' : Tag → Nat → Prop) (hs : ∀ b, ok .shr b → ok' .shr b) (b : Nat) : ∀ (ts : List T) (o : Nat), noBL ts = true → RepAt w ok b ts o → RepAt w ok' b ts o
  | [], _, _, _ => by simp only [RepAt]
  | t :: ts, o, hn, h => by
    simp only [noBL, Bool.and_eq_true] at hn
    simp only [RepAt] at h ⊢
    obtain ⟨⟨v, h1, h2⟩, h3⟩ := h
    exact ⟨⟨v, h1, Rep.noB ok' hs t _ v hn.1 h2⟩, RepAt.noB ok' hs b ts (o + 1) hn.2 h3⟩
end
end
mutual
def T.snap (h : Nat → Option (List T)) (M : List Nat) : T → T
  | .dead => .dead
  | .leaf v => .leaf v
  | .e0 => .e0
  | .sl m g n cs => .sl m g n cs
  | .pt g o cs => .pt g o cs
  | .agg cs => .agg (snapL h M cs)
  | .tup cs => .tup (snapL h M cs)
  | .iface t v => .iface t (v.snap h M)
  | .fn f p q => .fn f (snapL h M p) (snapL h M q)
  | .ref id m o n => if id ∈ M then (match h id with | some cs => .sl m .brw n (sub cs o (n * m)) | none => .dead) else .ref id m o n
  | .addr id o => if id ∈ M then (match h id with | some cs => .pt .brw o cs | none => .dead) else .addr id o
def snapL (h : Nat → Option (List T)) (M : List Nat) : List T → List T
  | [] => []
  | t :: ts => t.snap h M :: snapL h M ts
end
mutual
def T.snapOk (h : Nat → Option (List T)) (M : List Nat) : T → Prop
  | .dead | .leaf _ | .e0 | .sl .. | .pt .. => True
  | .agg cs | .tup cs => snapOkL h M cs
  | .iface _ v => v.snapOk h M
  | .fn _ p q => snapOkL h M p ∧ snapOkL h M q
  | .ref id m o n => id ∈ M → ∃ cs, h id = some cs ∧ idsL cs = [] ∧ o + n * m ≤ cs.length
  | .addr id _ => id ∈ M → ∃ cs, h id = some cs ∧ idsL cs = []
def snapOkL (h : Nat → Option (List T)) (M : List Nat) : List T → Prop
  | [] => True
  | t :: ts => t.snapOk h M ∧ snapOkL h M ts
end
theorem snapOkL_nil (h : Nat → Option (List T)) (ts : List T) : snapOkL h [] ts := by
  have key : ∀ t : T, t.snapOk h [] := by
    intro t
    induction t using T.rec (motive_2 := fun ts => snapOkL h [] ts) <;> simp_all [T.snapOk, snapOkL]
  induction ts with
  | nil => simp [snapOkL]
  | cons t ts ih => simp only [snapOkL]; exact ⟨key t, ih⟩
theorem snapL_nil (h : Nat → Option (List T)) (ts : List T) : snapL h [] ts = ts := by
  have key : ∀ t : T, t.snap h [] = t := by
    intro t
    induction t using T.rec (motive_2 := fun ts => snapL h [] ts = ts) <;> simp_all [T.snap, snapL]
  induction ts with
  | nil => simp [snapL]
  | cons t ts ih => simp only [snapL, key t, ih]
section
variable {Γ : Cx} {σ : St} {β : Nat → Real} {a : Act} {w : World} {okc : Tag → Nat → Prop} {M : List Nat}
mutual
theorem Rep.snap (hs : SimB Γ σ β a w) (hok : ∀ g b, okOf Γ.X σ β w g b → okc g b) (hM : ∀ id ∈ M, ∀ cs, σ.h id = some cs → ∀ b o E, β id = .real b o E → okc .brw b) :
    ∀ (t : T) (v : Value), t.snapOk σ.h M → Rep w (okOf Γ.X σ β w) t β v → Rep w okc (t.snap σ.h M) β v
  | .dead, _, _, _ => by simp only [T.snap, Rep]
  | .leaf _, _, _, h => by simpa only [T.snap, Rep] using h
  | .e0, _, _, h => by simpa only [T.snap, Rep] using h
  | .sl m g n cs, v, _, h => by
    simp only [T.snap]
    exact Rep.mono (fun g b hb => ⟨hok g b hb, rfl⟩) _ β β v (fun _ _ => rfl) h
  | .pt g o cs, v, _, h => by
    simp only [T.snap]
    exact Rep.mono (fun g b hb => ⟨hok g b hb, rfl⟩) _ β β v (fun _ _ => rfl) h
  | .agg cs, _, hO, h => by
    simp only [T.snapOk] at hO
    simp only [T.snap, Rep] at h ⊢
    obtain ⟨vs, h1, h2⟩ := h
    exact ⟨vs, h1, RepL.snap hs hok hM cs vs hO h2⟩
  | .tup cs, _, hO, h => by
    simp only [T.snapOk] at hO
    simp only [T.snap, Rep] at h ⊢
    obtain ⟨vs, h1, h2⟩ := h
    exact ⟨vs, h1, RepL.snap hs hok hM cs vs hO h2⟩
  | .iface t v, _, hO, h => by
    simp only [T.snapOk] at hO
    simp only [T.snap, Rep] at h ⊢
    obtain ⟨y, h1, h2⟩ := h
    exact ⟨y, h1, Rep.snap hs hok hM v y hO h2⟩
  | .fn f p q, _, hO, h => by
    simp only [T.snapOk] at hO
    simp only [T.snap, Rep] at h ⊢
    obtain ⟨ps, qs, h1, h2, h3⟩ := h
    exact ⟨ps, qs, h1, RepL.snap hs hok hM p ps hO.1 h2, RepL.snap hs hok hM q qs hO.2 h3⟩
  | .ref id m off n, v, hO, h => by
    simp only [T.snap]
    split
    · rename_i hm
      simp only [T.snapOk] at hO
      obtain ⟨cs, h1, h2, h3⟩ := hO hm
      rw [h1]
      simp only [Rep] at h ⊢
      refine ⟨⟨by simp [sub]; omega, ?_⟩, ?_⟩
      · refine List.eq_nil_iff_forall_not_mem.2 fun j hj => ?_
        have := ids_sub _ _ j hj
        rw [h2] at this; simp at this
      · cases hb : β id with
        | ph =>
          rw [hb] at h
          obtain ⟨_, rfl, ad, hv⟩ := h
          exact ⟨ad, 0, hv, Nat.le_refl _, .inl rfl⟩
        | real b o E =>
          rw [hb] at h
          obtain ⟨ad, cap, hv, g1, g2, g3⟩ := h
          refine ⟨ad, cap, hv, g1, ?_⟩
          by_cases hn : n = 0
          · exact .inl hn
          · right
            have had := g3.resolve_left (by omega)
            obtain ⟨c, el, fr, vs, q1, q2, q3, q4, q5, q6⟩ := obj_open hs h1 hb
            have q5' : RepL w okc cs (fun _ => .ph) vs := RepL.mono (fun g b hb => ⟨hok g b hb, rfl⟩) cs β _ vs (by simp [h2]) q5
            exact ⟨b, o + off, had, hM id hm cs h1 b o E hb, RepAt.shut ((q5'.drop off).take (n * m)) ((q6.drop off).take (n * m))⟩
    · simpa only [Rep] using h
  | .addr id off, v, hO, h => by
    simp only [T.snap]
    split
    · rename_i hm
      simp only [T.snapOk] at hO
      obtain ⟨cs, h1, h2⟩ := hO hm
      rw [h1]
      simp only [Rep] at h ⊢
      cases hb : β id with
      | ph => rw [hb] at h; exact h.elim
      | real b o E =>
        rw [hb] at h
        obtain ⟨c, el, fr, vs, q1, q2, q3, q4, q5, q6⟩ := obj_open hs h1 hb
        have q5' : RepL w okc cs (fun _ => .ph) vs := RepL.mono (fun g b hb => ⟨hok g b hb, rfl⟩) cs β _ vs (by simp [h2]) q5
        exact ⟨h2, b, o, h, hM id hm cs h1 b o E hb, RepAt.shut q5' q6⟩
    · simpa only [Rep] using h
theorem RepL.snap (hs : SimB Γ σ β a w) (hok : ∀ g b, okOf Γ.X σ β w g b → okc g b) (hM : ∀ id ∈ M, ∀ cs, σ.h id = some cs → ∀ b o E, β id = .real b o E → okc .brw b) :
    ∀ (ts : List T) (vs : List Value), snapOkL σ.h M ts → RepL w (okOf Γ.X σ β w) ts β vs → RepL w okc (snapL σ.h M ts) β vs
  | [], _, _, h => by simpa only [snapL, RepL] using h
  | t :: ts, vs, hO, h => by
    simp only [snapOkL] at hO
    simp only [RepL, snapL] at h ⊢
    obtain ⟨v, us, h1, h2, h3⟩ := h
    exact ⟨v, us, h1, Rep.snap hs hok hM t v hO.1 h2, RepL.snap hs hok hM ts us hO.2 h3⟩
end
end
def calleeT : T → Option (FuncId × List T × List T)
  | .fn (.func f) p q => some (f, p, q)
  | _ => none
theorem calleeT_eq {x : T} {f : FuncId} {p q : List T} (h : calleeT x = some (f, p, q)) : x = .fn (.func f) p q := by
  cases x with
  | fn g p' q' =>
    cases g with
    | func g => simp only [calleeT, Option.some.injEq, Prod.mk.injEq] at h; obtain ⟨rfl, rfl, rfl⟩ := h; rfl
    | _ => simp [calleeT] at h
  | _ => simp [calleeT] at h
theorem calleeT_run {Γ : Cx} {σ : St} {β : Nat → Real} {w : World} {x : T} {f : FuncId} {p q : List T} (h : calleeT x = some (f, p, q)) {v : Value} (hv : Rep w (okOf Γ.X σ β w) x β v) :
    ∃ ps qs, v = .func (.func f) (List.toArray ps) (List.toArray qs) ∧ RepL w (okOf Γ.X σ β w) p β ps ∧ RepL w (okOf Γ.X σ β w) q β qs := by
  rw [calleeT_eq h] at hv
  simpa only [Rep] using hv
def T.purges : List Nat → T → T
  | [], t => t
  | i :: l, t => T.purges l (t.purge i)
def purgesL : List Nat → List T → List T
  | [], ts => ts
  | i :: l, ts => purgesL l (purgeL i ts)
theorem drops_s : ∀ (l : List Nat) (σ : St) (t : Nat), (σ.drops l).s t = (σ.s t).map (T.purges l)
  | [], σ, t => by simp only [St.drops]; cases σ.s t <;> rfl
  | i :: l, σ, t => by simp only [St.drops]; rw [drops_s l]; simp only [St.drop]; cases σ.s t <;> rfl
theorem drops_hh : ∀ (l : List Nat) (σ : St) (j : Nat) (cs : List T), (σ.drops l).h j = some cs → ∃ c, σ.h j = some c ∧ cs = purgesL l c
  | [], σ, j, cs, h => ⟨cs, h, rfl⟩
  | i :: l, σ, j, cs, h => by
    simp only [St.drops] at h
    obtain ⟨c, h1, h2⟩ := drops_hh l _ j cs h
    simp only [St.drop] at h1
    split at h1
    · simp at h1
    · obtain ⟨c', h3, h4⟩ := Option.map_eq_some_iff.1 h1
      exact ⟨c', h3, by rw [h2, ← h4]; rfl⟩
theorem Rep.purges {w : World} {ok : Tag → Nat → Prop} {β : Nat → Real} {v : Value} : ∀ (l : List Nat) {t : T}, Rep w ok t β v → Rep w ok (t.purges l) β v
  | [], _, h => h
  | i :: l, _, h => by simp only [T.purges]; exact Rep.purges l (Rep.purge i _ β v h)
theorem ObjAt.purges {w : World} {ok : Tag → Nat → Prop} {β : Nat → Real} {r : Real} : ∀ (l : List Nat) {cs : List T}, ObjAt w ok β cs r → ObjAt w ok β (purgesL l cs) r
  | [], _, h => h
  | i :: l, _, h => by simp only [purgesL]; exact ObjAt.purges l (h.purge i)
theorem look_mem {α : Type} : ∀ {L : List (Nat × α)} {n : Nat} {x : α}, look L n = some x → (n, x) ∈ L
  | (m, y) :: l, n, x, h => by
    simp only [look] at h
    split at h
    · rename_i e; subst e; injection h with h; subst h; simp
    · exact List.mem_cons_of_mem _ (look_mem h)
theorem drops_h {σ : St} : ∀ (l : List Nat) {j : Nat} {cs : List T}, (σ.drops l).h j = some cs → j ∉ l ∧ ∃ c, σ.h j = some c
  | [], j, cs, h => ⟨by simp, cs, h⟩
  | i :: l, j, cs, h => by
    simp only [St.drops] at h
    obtain ⟨h1, c, h2⟩ := drops_h l h
    simp only [St.drop] at h2
    split at h2
    · simp at h2
    · obtain ⟨c', h3, _⟩ := Option.map_eq_some_iff.1 h2
      exact ⟨by simp; exact ⟨by assumption, h1⟩, c', h3⟩
theorem drops_dom {σ : St} : ∀ (l : List Nat) {j : Nat}, j ∉ l → σ.h j ≠ none → (σ.drops l).h j ≠ none
  | [], j, _, h => h
  | i :: l, j, hj, h => by
    simp only [List.mem_cons, not_or] at hj
    simp only [St.drops]
    refine drops_dom l hj.2 ?_
    simp only [St.drop, if_neg hj.1]
    simpa using h
theorem SimB.drops {Γ : Cx} {β : Nat → Real} {a : Act} {w : World} : ∀ (l : List Nat) {σ : St}, SimB Γ σ β a w → SimB Γ (σ.drops l) β a w
  | [], _, h => h
  | i :: l, _, h => by simp only [St.drops]; exact SimB.drops l (h.drop i)
def lastP : List (Nat × List T) → Nat → Option (List T)
  | [], _ => none
  | (i, cs) :: l, j => match lastP l j with | some c => some c | none => if i = j then some cs else none
theorem puts_h : ∀ (l : List (Nat × List T)) (σ : St) (j : Nat), (σ.puts l).h j = match lastP l j with | some c => some c | none => σ.h j
  | [], σ, j => rfl
  | (i, cs) :: l, σ, j => by
    simp only [St.puts]
    rw [puts_h l _ j]
    simp only [lastP]
    cases lastP l j with
    | some c => rfl
    | none =>
      simp only [upd]
      by_cases h : j = i
      · subst h; simp
      · rw [if_neg h, if_neg (Ne.symm h)]
theorem puts_s : ∀ (l : List (Nat × List T)) (σ : St), (σ.puts l).s = σ.s
  | [], _ => rfl
  | (i, cs) :: l, σ => by simp only [St.puts]; rw [puts_s l]
def once : List (Nat × List T) → Bool
  | [] => true
  | (i, _) :: l => (look l i).isNone && once l
theorem lastP_look : ∀ {l : List (Nat × List T)}, once l = true → ∀ j, lastP l j = look l j
  | [], _, _ => rfl
  | (i, cs) :: l, h, j => by
    simp only [once, Bool.and_eq_true] at h
    simp only [lastP, look, lastP_look h.2 j]
    by_cases e : i = j
    · subst e
      have := h.1
      cases hl : look l i <;> simp_all
    · rw [if_neg e, if_neg e]
      cases look l j <;> rfl
section
variable {P : Program} {o : Oper} {ev : Operand → Option T} {h : Nat → Option (List T)}
theorem SimB.known {P : Program} {Γ : Cx} {σ : St} {β : Nat → Real} {a : Act} {w : World} (hs : SimB Γ σ β a w) (hP : Γ.P = P) {b : Nat} {cs : List Value} (hk : Known P b cs) : b < w.heap.size ∧ ¬ own σ β b ∧ CellsAt w b 0 cs := by
  subst hP
  obtain ⟨h1, h2, h3⟩ := Γ.held b cs hk
  refine ⟨Nat.lt_of_lt_of_le h1 hs.keeps.size, fun ho => ?_, fun i v hv => ?_⟩
  · rcases (hs.ownb b ho).2 with h | h
    · omega
    · exact h2 h
  · rw [World.cell?_of_block (w := Γ.w0) (hs.keeps.block b h1 h2)]; exact h3 i v hv
def notStay (S : List Nat) (H : List (Nat × List T)) : List Nat := (H.map (·.1)).filter fun i => !S.contains i
set_option maxHeartbeats 2000000 in
theorem acts_call {fo : Operand} {xs : Array Operand} {ts : Array TypeId} {f : FuncId} {x : T} {p q AV A : List T} {H H' : List (Nat × List T)} {S M : List Nat} {R : T}
    (hM : Meets P f A H S R H') (ho : o.op = .call { callee := .value fo, args := xs, argTypes := ts }) (hx : ev fo = some x) (hc : calleeT x = some (f, p, q)) (hA : evL ev xs.toList = some AV)
    (hsn : snapL h M (p ++ AV ++ q) = A) (hsO : snapOkL h M (p ++ AV ++ q)) (hH : ∀ i cs, look H i = some cs → h i = some cs) (hcl : ∀ i cs, look H i = some cs → ∀ j ∈ idsL cs, look H j ≠ none) (hAi : ∀ i ∈ idsL A, look H i ≠ none)
    (hMH : ∀ i ∈ M, look H i = none) (hnb : M = [] ∨ (R.noB = true ∧ ∀ q ∈ H', noBL q.2 = true)) (h1 : once H' = true) (hSH : ∀ i ∈ S, look H i ≠ none ∧ look H' i ≠ none) (hMH' : ∀ i ∈ M, look H' i = none) :
    Acts P o ev h (H.map (·.1) ++ M) { val := R, drops := notStay S H, puts := H', stay := S } := by
  intro Γ σ β a w K Q hP hev hh hn hd hs hK
  have hopx : σ.ev fo = some x := by rw [hev fo (by simp [ho, Op.operands, Call.operands]), hx]
  have hopA : evL σ.ev xs.toList = some AV := by
    rw [evL_congr (fun y hy => hev y (by simp [ho, Op.operands, Call.operands]; exact .inr (by simpa using hy))), hA]
  -- what the call is handed
  obtain ⟨ps, qs, hf, hps, hqs⟩ := calleeT_run hc (hs.ev hopx)
  obtain ⟨hAr, hAids⟩ := evL_rep hs hopA
  have hall : RepL w (okOf Γ.X σ β w) (p ++ AV ++ q) β (ps ++ xs.toList.map a.eval ++ qs) := (hps.append hAr).append hqs
  have hhM : ∀ i ∈ M, σ.h i = h i := fun i hi => hh i (by simp [hi])
  have hhH : ∀ i cs, look H i = some cs → σ.h i = some cs := fun i cs e => by
    rw [hh i (by simp; exact .inl ⟨cs, look_mem e⟩)]; exact hH i cs e
  have hsnap : snapL σ.h M (p ++ AV ++ q) = A ∧ snapOkL σ.h M (p ++ AV ++ q) := by
    have key : ∀ t : T, t.snap σ.h M = t.snap h M ∧ (t.snapOk h M → t.snapOk σ.h M) := by
      intro t
      induction t using T.rec (motive_2 := fun ts => snapL σ.h M ts = snapL h M ts ∧ (snapOkL h M ts → snapOkL σ.h M ts)) with
      | ref id m off n => simp only [T.snap, T.snapOk]; by_cases hm : id ∈ M <;> simp [hm, hhM]
      | addr id off => simp only [T.snap, T.snapOk]; by_cases hm : id ∈ M <;> simp [hm, hhM]
      | fn f p q hp hq => simp only [T.snap, T.snapOk, hp.1, hq.1]; exact ⟨trivial, fun ⟨a, b⟩ => ⟨hp.2 a, hq.2 b⟩⟩
      | cons t ts ht hts => simp only [snapL, snapOkL, ht.1, hts.1]; exact ⟨trivial, fun ⟨a, b⟩ => ⟨ht.2 a, hts.2 b⟩⟩
      | _ => simp_all [T.snap, T.snapOk, snapL, snapOkL]
    have keyL : ∀ ts : List T, snapL σ.h M ts = snapL h M ts ∧ (snapOkL h M ts → snapOkL σ.h M ts) := by
      intro ts
      induction ts with
      | nil => simp [snapL, snapOkL]
      | cons t ts ih => simp only [snapL, snapOkL, (key t).1, ih.1]; exact ⟨trivial, fun ⟨a, b⟩ => ⟨(key t).2 a, ih.2 b⟩⟩
    exact ⟨by rw [(keyL _).1, hsn], (keyL _).2 hsO⟩
  -- the callee's own context
  let σc : St := ⟨fun t => A[t]?, look H⟩
  have hownc : ∀ b, own σc β b → own σ β b := fun b ⟨id, cs, o', E', e1, e2⟩ => ⟨id, cs, o', E', hhH id cs e1, e2⟩
  let lentM : Nat → Prop := fun b => ∃ id ∈ M, ∃ cs o' E', σ.h id = some cs ∧ β id = .real b o' E'
  let Xc : Tag → Nat → Prop := fun g b => (b < w.heap.size ∧ ¬ own σc β b) ∧ ((own σ β b ∧ (g = .brw → ¬ lentM b)) ∨ Γ.X g b)
  let vs := ps ++ xs.toList.map a.eval ++ qs
  let Γc : Cx := { P := P, n := vs.length, w0 := w, lent := own σc β, X := Xc, X_old := fun g b hb => ⟨hb.1.1, hb.1.2⟩, X_sub := fun b hb => ⟨hb.1, hb.2.imp (fun h => ⟨h.1, fun e => by simp at e⟩) (Γ.X_sub b)⟩, S := S, β0 := β, held := fun b cs hk => (hs.known hP hk).imp_right fun h => ⟨fun ho => h.1 (hownc b ho), h.2⟩ }
  have hokc : ∀ g b, okOf Γ.X σ β w g b → okOf Xc σc β w g b := fun g b hb => ⟨hb.1, fun ho => hb.2.1 (hownc b ho), fun hX => hX.2.elim (fun ho => hb.2.1 ho.1) hb.2.2⟩
  have hMne : ∀ id ∈ M, ∀ cs, σ.h id = some cs → ∀ b o' E', β id = .real b o' E' → ¬ own σc β b := by
    rintro id hid cs hcs b o' E' hb ⟨id2, cs2, o2, E2, e1, e2⟩
    have := hs.inj id id2 cs cs2 b o' E' o2 E2 hcs (hhH id2 cs2 e1) hb e2
    subst this
    have hno := hMH id hid
    have e1' : look H id = some cs2 := e1
    rw [hno] at e1'; simp at e1'
  have hlent : ∀ id ∈ M, ∀ cs, σ.h id = some cs → ∀ b o' E', β id = .real b o' E' → okOf Xc σc β w .brw b := fun id hid cs hcs b o' E' hb => by
    refine ⟨(hs.ownb b ⟨id, cs, o', E', hcs, hb⟩).1, hMne id hid cs hcs b o' E' hb, fun hX => ?_⟩
    rcases hX.2 with ⟨_, hX⟩ | hX
    · exact hX rfl ⟨id, hid, cs, o', E', hcs, hb⟩
    · have hold := Γ.X_old .brw b hX
      rcases (hs.ownb b ⟨id, cs, o', E', hcs, hb⟩).2 with h' | h'
      · exact absurd hold.1 (by omega)
      · exact hold.2 h'
  have hrepA : RepL w (okOf Xc σc β w) A β vs := by
    have := RepL.snap hs hokc hlent (p ++ AV ++ q) vs hsnap.2 hall
    rw [hsnap.1] at this
    exact this
  have hvl : vs.length = A.length := hrepA.length
  have hsc : SimB Γc σc β ⟨vs.toArray, []⟩ w := by
    refine ⟨rfl, by simp [Γc], Keeps.refl _ _, fun t y e => ?_, fun id cs e => ?_, fun i1 i2 c1 c2 b1 o1 E1 o2 E2 e1 e2 => hs.inj i1 i2 c1 c2 b1 o1 E1 o2 E2 (hhH _ _ e1) (hhH _ _ e2), fun b hb => ⟨(hs.ownb b (hownc b hb)).1, .inr hb⟩,
      fun t y e i hi => hAi i (RepL.idsub e i hi), fun id cs e i hi => hcl id cs e i hi, fun _ _ => rfl⟩
    · obtain ⟨v, e1, e2⟩ := hrepA.get e
      exact ⟨v, by simpa using e1, e2⟩
    · exact (hs.obj id cs (hhH id cs e)).mono (fun g b hb => ⟨hokc g b hb, rfl⟩) (fun _ _ _ _ => rfl) (fun _ _ => rfl)
  have hcalls := hM Γc β vs rfl rfl rfl hvl rfl rfl hsc
  -- behind it
  have fin : ∀ v w', Sim { Γc with n := 1 } (retSt R (look H')) ⟨#[v], []⟩ w' → K (a.put o.dst v) w' := by
    rintro v w' ⟨β', hs'⟩
    refine hK _ _ ?_
    -- the caller's state
    have hkeep : Keeps (own σc β) w w' := hs'.keeps
    have hla : ∀ j, lastP H' j = look H' j := lastP_look h1
    let τ : St := (σ.drops (notStay S H)).puts H'
    have hτh : ∀ j, τ.h j = match look H' j with | some c => some c | none => (σ.drops (notStay S H)).h j := fun j => by
      simp only [τ, puts_h, hla]
    let β'' : Nat → Real := fun i => match look H' i with | some _ => β' i | none => β i
    have hd0 : SimB Γ (σ.drops (notStay S H)) β a w := hs.drops _
    have hβag : ∀ j, σ.h j ≠ none → j ∉ notStay S H → β'' j = β j := fun j hj hq => by
      simp only [β'']
      cases hl : look H' j with
      | none => rfl
      | some c =>
        by_cases hjS : j ∈ S
        · exact hs'.stab j hjS
        · exfalso
          have := hn (j, c) (look_mem hl) hjS
          have hjr : j ∉ H.map (·.1) ++ M := by
            intro hmem
            simp only [List.mem_append, List.mem_map] at hmem
            rcases hmem with ⟨r, hr, rfl⟩ | hmem
            · apply hq
              simp only [notStay, List.mem_filter, List.mem_map, Bool.not_eq_true']
              exact ⟨⟨r, hr, rfl⟩, by simpa using hjS⟩
            · have := hMH' j hmem
              rw [hl] at this; simp at this
          exact hj (this.2 hjr)
    have hdom0 : ∀ j, (σ.drops (notStay S H)).h j ≠ none → σ.h j ≠ none ∧ j ∉ notStay S H := fun j hj => by
      cases hq : (σ.drops (notStay S H)).h j with
      | none => exact absurd hq hj
      | some c => obtain ⟨q1, c', q2⟩ := drops_h _ hq; exact ⟨by rw [q2]; simp, q1⟩
    have hdomτ : ∀ j, (σ.drops (notStay S H)).h j ≠ none → τ.h j ≠ none := fun j hj => by
      rw [hτh]; cases look H' j with
      | none => exact hj
      | some c => simp
    -- whose block it is
    have hownτ : ∀ b, own τ β'' b → own σ β b ∨ w.heap.size ≤ b := by
      rintro b ⟨j, cs, o', E', e1, e2⟩
      rw [hτh] at e1
      simp only [β''] at e2
      cases hl : look H' j with
      | none =>
        rw [hl] at e1 e2
        obtain ⟨_, c, q2⟩ := drops_h _ e1
        exact .inl ⟨j, c, o', E', q2, e2⟩
      | some c =>
        rw [hl] at e2
        rcases (hs'.ownb b ⟨j, c, o', E', hl, e2⟩).2 with h' | h'
        · exact .inr h'
        · exact .inl (hownc b h')
    -- an own block that isn't an object's of the callee
    have hother : ∀ j cs b o' E', look H' j = none → (σ.drops (notStay S H)).h j = some cs → β j = .real b o' E' → own σ β b ∧ ¬ own σc β b := by
      intro j cs b o' E' hl e1 e2
      obtain ⟨q1, c, q2⟩ := drops_h _ e1
      refine ⟨⟨j, c, o', E', q2, e2⟩, ?_⟩
      rintro ⟨j2, c2, o2, E2, e3, e4⟩
      have := hs.inj j j2 c c2 b o' E' o2 E2 q2 (hhH j2 c2 e3) e2 e4
      subst this
      by_cases hjS : j ∈ S
      · exact (hSH j hjS).2 hl
      · apply q1
        have e3' : look H j = some c2 := e3
        simp only [notStay, List.mem_filter, List.mem_map, Bool.not_eq_true']
        exact ⟨⟨(j, c2), look_mem e3', rfl⟩, by simpa using hjS⟩
    have hΓX : ∀ g b, Γ.X g b → b < w.heap.size ∧ ¬ own σ β b := fun g b hX => by
      have hold := Γ.X_old g b hX
      refine ⟨Nat.lt_of_lt_of_le hold.1 hs.keeps.size, fun ho => ?_⟩
      rcases (hs.ownb b ho).2 with h' | h'
      · exact absurd hold.1 (by omega)
      · exact hold.2 h'
    have hokτ : ∀ g b, okOf Γ.X σ β w g b → okOf Γ.X τ β'' w' g b ∧ w'.heap[b]? = w.heap[b]? := fun g b hb =>
      ⟨⟨Nat.lt_of_lt_of_le hb.1 hkeep.size, fun ho => (hownτ b ho).elim hb.2.1 (fun h' => by have := hb.1; omega), hb.2.2⟩, hkeep.block b hb.1 (fun ho => hb.2.1 (hownc b ho))⟩
    -- what the callee could tell of
    let okc' : Tag → Nat → Prop := okOf Xc (retSt R (look H')) β' w'
    have hshr : ∀ g b, okc' .shr b → okOf Γ.X τ β'' w' g b := by
      intro g b ⟨k1, k2, k3⟩
      refine ⟨k1, ?_, fun hX => ?_⟩
      · rintro ⟨j, cs, o', E', e1, e2⟩
        rw [hτh] at e1
        simp only [β''] at e2
        cases hl : look H' j with
        | none =>
          rw [hl] at e1 e2
          obtain ⟨r1, r2⟩ := hother j cs b o' E' hl e1 e2
          exact k3 ⟨⟨(hs.ownb b r1).1, r2⟩, .inl ⟨r1, fun e => by simp at e⟩⟩
        | some c => rw [hl] at e2; exact k2 ⟨j, c, o', E', hl, e2⟩
      · have hX' : Γ.X .shr b := by cases g with | shr => exact hX | brw => exact Γ.X_sub b hX
        obtain ⟨r1, r2⟩ := hΓX .shr b hX'
        exact k3 ⟨⟨r1, fun ho => r2 (hownc b ho)⟩, .inr hX'⟩
    have hokr : M = [] → ∀ g b, okc' g b → okOf Γ.X τ β'' w' g b := by
      intro hM0 g b ⟨k1, k2, k3⟩
      refine ⟨k1, ?_, fun hX => ?_⟩
      · rintro ⟨j, cs, o', E', e1, e2⟩
        rw [hτh] at e1
        simp only [β''] at e2
        cases hl : look H' j with
        | none =>
          rw [hl] at e1 e2
          obtain ⟨r1, r2⟩ := hother j cs b o' E' hl e1 e2
          exact k3 ⟨⟨(hs.ownb b r1).1, r2⟩, .inl ⟨r1, fun _ ⟨id, hid, _⟩ => by rw [hM0] at hid; simp at hid⟩⟩
        | some c => rw [hl] at e2; exact k2 ⟨j, c, o', E', hl, e2⟩
      · obtain ⟨r1, r2⟩ := hΓX g b hX
        exact k3 ⟨⟨r1, fun ho => r2 (hownc b ho)⟩, .inr hX⟩
    have hobjc : ∀ j c, look H' j = some c → ObjAt w' (okOf Γ.X τ β'' w') β'' c (β'' j) := by
      intro j c hl
      have h0 := hs'.obj j c hl
      have hβj : β'' j = β' j := by simp only [β'', hl]
      rw [hβj]
      have hids : ∀ i ∈ idsL c, β'' i = β' i := fun i hi => by
        have := hs'.wfh j c hl i hi
        simp only [β'']
        cases hl2 : look H' i with
        | none => exact absurd hl2 this
        | some _ => rfl
      rcases hnb with hM0 | ⟨_, hnbH⟩
      · exact h0.mono (fun g b hb => ⟨hokr hM0 g b hb, rfl⟩) (fun _ _ _ _ => rfl) hids
      · cases hr : β' j with
        | ph => rw [hr] at h0; exact h0
        | real b o' E' =>
          rw [hr] at h0
          obtain ⟨c', el, fr, vs', q1, q2, q3, q4, q5, q6⟩ := h0
          have q5' := RepL.noB (fun _ b => okc' .shr b) (fun b hb => hb) c β' vs' (hnbH (j, c) (look_mem hl)) q5
          exact ⟨c', el, fr, vs', q1, q2, q3, q4, RepL.mono (fun g b hb => ⟨hshr g b hb, rfl⟩) c β' β'' vs' hids q5', q6⟩
    have hsim : SimB Γ τ β'' a w' := by
      refine ⟨hs.defers, hs.size, ?_, fun t y e => ?_, fun j cs e => ?_, fun i1 i2 c1 c2 b1 o1 E1 o2 E2 e1 e2 r1 r2 => ?_, fun b hb => ?_, fun t y e i hi => ?_, fun j cs e i hi => ?_, fun i hi => ?_⟩
      · exact hs.keeps.trans hkeep (fun b hb ho => (hs.ownb b (hownc b ho)).2.resolve_left (by omega))
      · have e' : (σ.drops (notStay S H)).s t = some y := by simpa only [τ, puts_s] using e
        rw [drops_s] at e'
        obtain ⟨y0, e1, rfl⟩ := Option.map_eq_some_iff.1 e'
        obtain ⟨u, q1, q2⟩ := hs.slot t y0 e1
        refine ⟨u, q1, Rep.mono hokτ _ β β'' u (fun i hi => ?_) (Rep.purges _ q2)⟩
        obtain ⟨r1, r2⟩ := hdom0 i (hd0.wfs t _ (by rw [drops_s, e1]; rfl) i hi)
        exact hβag i r1 r2
      · have e' := e
        rw [hτh] at e'
        cases hl : look H' j with
        | some c => rw [hl] at e'; injection e' with e'; subst e'; exact hobjc j _ hl
        | none =>
          rw [hl] at e'
          obtain ⟨c0, e1, rfl⟩ := drops_hh _ _ _ _ e'
          have hβj : β'' j = β j := by simp only [β'', hl]
          rw [hβj]
          refine ((hs.obj j c0 e1).purges _).mono hokτ (fun b o' E' hr => ?_) (fun i hi => ?_)
          · obtain ⟨r1, r2⟩ := hother j _ b o' E' hl e' hr
            exact hkeep.block b (hs.ownb b r1).1 r2
          · obtain ⟨r1, r2⟩ := hdom0 i (hd0.wfh j _ e' i hi)
            exact hβag i r1 r2
      · rw [hτh] at e1 e2
        simp only [β''] at r1 r2
        cases hl1 : look H' i1 with
        | none =>
          rw [hl1] at e1 r1
          obtain ⟨k1, k2⟩ := hother i1 c1 b1 o1 E1 hl1 e1 r1
          cases hl2 : look H' i2 with
          | none =>
            rw [hl2] at e2 r2
            obtain ⟨_, d1, q1⟩ := drops_h _ e1
            obtain ⟨_, d2, q2⟩ := drops_h _ e2
            exact hs.inj i1 i2 d1 d2 b1 o1 E1 o2 E2 q1 q2 r1 r2
          | some c =>
            rw [hl2] at r2
            rcases (hs'.ownb b1 ⟨i2, c, o2, E2, hl2, r2⟩).2 with h' | h'
            · have h'' : w.heap.size ≤ b1 := h'
              have := (hs.ownb b1 k1).1; omega
            · exact absurd h' k2
        | some c =>
          rw [hl1] at r1
          cases hl2 : look H' i2 with
          | none =>
            rw [hl2] at e2 r2
            obtain ⟨k1, k2⟩ := hother i2 c2 b1 o2 E2 hl2 e2 r2
            rcases (hs'.ownb b1 ⟨i1, c, o1, E1, hl1, r1⟩).2 with h' | h'
            · have h'' : w.heap.size ≤ b1 := h'
              have := (hs.ownb b1 k1).1; omega
            · exact absurd h' k2
          | some c' =>
            rw [hl2] at r2
            exact hs'.inj i1 i2 c c' b1 o1 E1 o2 E2 hl1 hl2 r1 r2
      · obtain ⟨j, cs, o', E', e1, e2⟩ := hb
        have e1' := e1
        rw [hτh] at e1'
        simp only [β''] at e2
        cases hl : look H' j with
        | none =>
          rw [hl] at e1' e2
          obtain ⟨r1, _⟩ := hother j cs b o' E' hl e1' e2
          exact ⟨Nat.lt_of_lt_of_le (hs.ownb b r1).1 hkeep.size, (hs.ownb b r1).2⟩
        | some c =>
          rw [hl] at e2
          have := hs'.ownb b ⟨j, c, o', E', hl, e2⟩
          refine ⟨this.1, ?_⟩
          rcases this.2 with h' | h'
          · exact .inl (Nat.le_trans hs.keeps.size h')
          · exact (hs.ownb b (hownc b h')).2
      · have e' : (σ.drops (notStay S H)).s t = some y := by simpa only [τ, puts_s] using e
        exact hdomτ i (hd0.wfs t y e' i hi)
      · rw [hτh] at e
        cases hl : look H' j with
        | none => rw [hl] at e; exact hdomτ i (hd0.wfh j cs e i hi)
        | some c =>
          rw [hl] at e; injection e with e; subst e
          rw [hτh]
          have : look H' i ≠ none := hs'.wfh j _ hl i hi
          cases hl2 : look H' i with
          | none => exact absurd hl2 this
          | some _ => simp
      · simp only [β'']
        cases hl : look H' i with
        | none => exact hs.stab i hi
        | some c =>
          by_cases hiS : i ∈ S
          · have := hs'.stab i hiS
            exact this.trans (hs.stab i hi)
          · exact absurd hi (hn (i, c) (look_mem hl) hiS).1
    have hRs : (retSt R (look H')).s 0 = some R := rfl
    obtain ⟨u, u1, u2⟩ := hs'.slot 0 R hRs
    have hu : u = v := by simpa using u1.symm
    subst hu
    have hRids : ∀ i ∈ R.ids, look H' i ≠ none := hs'.wfs 0 R hRs
    have hβR : ∀ i ∈ R.ids, β'' i = β' i := fun i hi => by
      simp only [β'']
      cases hl2 : look H' i with
      | none => exact absurd hl2 (hRids i hi)
      | some _ => rfl
    have hRrep : Rep w' (okOf Γ.X τ β'' w') R β'' u := by
      rcases hnb with hM0 | ⟨hnbR, _⟩
      · exact Rep.mono (fun g b hb => ⟨hokr hM0 g b hb, rfl⟩) R β' β'' u hβR u2
      · exact Rep.mono (fun g b hb => ⟨hshr g b hb, rfl⟩) R β' β'' u hβR (Rep.noB (fun _ b => okc' .shr b) (fun b hb => hb) R β' u hnbR u2)
    exact ⟨β'', hsim.set hd hRrep (fun i hi => by
      rw [hτh]
      cases hl2 : look H' i with
      | none => exact absurd hl2 (hRids i hi)
      | some _ => simp)⟩
  unfold Oper.wp
  rcases hcalls with ⟨hen, hcalls⟩ | ⟨v, w', hen, hpost⟩
  · have hexec : (execOp a.eval o).run P w = .ok (.enter f vs.toArray) w := by
      simp only [execOp, ho, resolve, hf, Deferred.ofValue, Sem.run_bind, Sem.run_pure, Result.andThen_ok, invoke]
      exact Eq.trans (congrArg (fun z => (callFunc f z).run P w) (show _ = vs.toArray by simp [vs])) hen
    rw [hexec]
    simp only [Oper.upon]
    refine hcalls.mono ?_
    rintro e w' ⟨v, rfl, h⟩
    exact fin v w' h
  · have hexec : (execOp a.eval o).run P w = .ok (.value v) w' := by
      simp only [execOp, ho, resolve, hf, Deferred.ofValue, Sem.run_bind, Sem.run_pure, Result.andThen_ok, invoke]
      exact Eq.trans (congrArg (fun z => (callFunc f z).run P w) (show _ = vs.toArray by simp [vs])) hen
    rw [hexec]
    exact fin v w' hpost
end
end Go.Vw
namespace Go.Vw
open Go Go.RowKit
def zeq : Value → Value → Bool
  | .bool a, .bool b => a == b
  | .int k a, .int k' b => k == k' && a == b
  | .float k a, .float k' b => k == k' && a == b
  | .string a, .string b => a.data == b.data
  | .pointer none, .pointer none => true
  | .slice none 0 0, .slice none 0 0 => true
  | .map none, .map none => true
  | .chan none, .chan none => true
  | .nilFunc, .nilFunc => true
  | .nilIface, .nilIface => true
  | _, _ => false
theorem zeq_eq {a b : Value} (h : zeq a b = true) : a = b := by
  unfold zeq at h
  split at h <;> simp_all
  rename_i a b
  cases a; cases b; simp_all
def zeqL : List Value → List Value → Bool
  | [], [] => true
  | a :: as, b :: bs => zeq a b && zeqL as bs
  | _, _ => false
theorem zeqL_eq : ∀ {a b : List Value}, zeqL a b = true → a = b
  | [], [], _ => rfl
  | a :: as, b :: bs, h => by
    simp only [zeqL, Bool.and_eq_true] at h
    rw [zeq_eq h.1, zeqL_eq h.2]
  | [], _ :: _, h => by simp [zeqL] at h
  | _ :: _, [], h => by simp [zeqL] at h
def kchk : TypeDesc → K → Bool
  | _, .no => true
  | _, .other => true
  | .bool, .bool => true
  | .string, .str => true
  | .interface _, .iface => true
  | .func .., .func => true
  | .int k, .int k' => k == k'
  | .slice e, .slice e' => e == e'
  | .array n e, .array n' e' => n == n' && e == e'
  | .struct fs, .struct fs' => fs.toList.map (fun x => (x.offset, x.type)) == fs'
  | .pointer e, .ptr e' => e == e'
  | _, _ => false
theorem kchk_ok {d : TypeDesc} {k : K} (h : kchk d k = true) : kOk d k := by
  unfold kchk at h
  split at h <;> simp_all [kOk]
def dAgg : TypeDesc → Bool | .struct _ | .array _ _ => true | _ => false
def tchk (P : Program) (t : TypeId) (i : TI) : Bool :=
  match P.info? t, P.underlying t with
  | some j, some d => j.size == i.size && j.bytes == i.bytes && (match j.zero with | some z => zeqL z.cells.toList i.zero | none => false) && kchk d i.k && i.zero.length == i.size && dAgg d == i.agg
  | _, _ => false
theorem tchk_ok {P : Program} {t : TypeId} {i : TI} (h : tchk P t i = true) : TOk P t i := by
  unfold tchk at h
  split at h
  · rename_i j d h1 h2
    simp only [Bool.and_eq_true, beq_iff_eq] at h
    obtain ⟨⟨⟨⟨⟨a, b⟩, c⟩, k⟩, e⟩, g⟩ := h
    split at c
    · rename_i z hz
      refine ⟨⟨j, h1, a, b, z, hz, ?_⟩, e, ⟨d, h2, kchk_ok k, ?_⟩⟩
      · have := zeqL_eq c
        apply Array.ext'; simpa using this
      · rw [← g]; cases d <;> rfl
    · simp at c
  · simp at h
def K.isNo : K → Bool | .no => true | _ => false
def rowIn (tbl : List (Nat × TI)) : K → Bool
  | .slice e => (look tbl e).isSome
  | .array _ e => (look tbl e).isSome
  | .struct fs => fs.all fun f => (look tbl f.2).isSome
  | _ => true
def tiOf (tbl : List (Nat × TI)) (t : TypeId) : TI := match look tbl t with | some i => i | none => {}
theorem tiOf_k {tbl : List (Nat × TI)} (hn : tbl.all (fun p => !p.2.k.isNo) = true) {e : TypeId} (h : (look tbl e).isSome = true) : (tiOf tbl e).k ≠ .no := by
  obtain ⟨i, hi⟩ := Option.isSome_iff_exists.1 h
  have := (List.all_eq_true.1 hn) (e, i) (look_mem hi)
  intro hk
  simp only [tiOf, hi] at hk
  simp [hk, K.isNo] at this
def Env.mk' (P : Program) (tbl : List (Nat × TI)) (hn : tbl.all (fun p => !p.2.k.isNo) = true) (h : ∀ p ∈ tbl, tchk P p.1 p.2 = true) (hr : tbl.all (fun p => rowIn tbl p.2.k) = true) : Env where
  P := P
  ti := tiOf tbl
  ok := fun t ht => by
    cases hl : look tbl t with
    | none => simp [tiOf, hl] at ht
    | some i => simp only [tiOf, hl]; exact tchk_ok (h (t, i) (look_mem hl))
  sl := fun t e ht => by
    cases hl : look tbl t with
    | none => simp [tiOf, hl] at ht
    | some i =>
      have := (List.all_eq_true.1 hr) (t, i) (look_mem hl)
      simp only [tiOf, hl] at ht
      simp only [ht, rowIn] at this
      exact tiOf_k hn this
  ar := fun t n e ht => by
    cases hl : look tbl t with
    | none => simp [tiOf, hl] at ht
    | some i =>
      have := (List.all_eq_true.1 hr) (t, i) (look_mem hl)
      simp only [tiOf, hl] at ht
      simp only [ht, rowIn] at this
      exact tiOf_k hn this
  st := fun t fs ht f hf => by
    cases hl : look tbl t with
    | none => simp [tiOf, hl] at ht
    | some i =>
      have := (List.all_eq_true.1 hr) (t, i) (look_mem hl)
      simp only [tiOf, hl] at ht
      simp only [ht, rowIn] at this
      exact tiOf_k hn ((List.all_eq_true.1 this) f hf)
end Go.Vw
namespace Go.Vw
open Go Go.RowKit
structure Step where
  e : Eff
  r : List Nat
  go : Bool
  c : List Nat
structure Mark where
  rd : List Nat
  pt : List Nat
  dr : List Nat
  cl : List Nat
def Step.mark (s : Step) : Mark := ⟨s.r, s.e.puts.map (·.1), s.e.drops, s.c⟩
def memN (n : Nat) : List Nat → Bool
  | [] => false
  | m :: l => Nat.beq m n || memN n l
theorem memN_iff {n : Nat} : ∀ {l : List Nat}, memN n l = true ↔ n ∈ l
  | [] => by simp [memN]
  | m :: l => by
    simp only [memN, Bool.or_eq_true, Nat.beq_eq, memN_iff, List.mem_cons]
    exact ⟨fun h => h.imp Eq.symm id, fun h => h.imp Eq.symm id⟩
def inD : Option (List Nat) → Nat → Prop
  | none, _ => True
  | some D, i => i ∈ D
def outD : Option (List Nat) → Nat → Bool
  | none, _ => false
  | some D, i => !memN i D
theorem outD_ne {o : Option (List Nat)} {i j : Nat} (h : outD o j = true) (hi : inD o i) : j ≠ i := by
  cases o with
  | none => simp [outD] at h
  | some D =>
    intro e; subst e
    simp only [outD, Bool.not_eq_true'] at h
    rw [memN_iff.2 hi] at h; cases h
def dropB (o : Option (List Nat)) (l : List Nat) : Bool := match o with | none => true | some D => l.all fun i => memN i D
theorem dropB_ok {o : Option (List Nat)} {l : List Nat} (h : dropB o l = true) : ∀ i ∈ l, inD o i := by
  intro i hi
  cases o with
  | none => trivial
  | some D => exact memN_iff.1 (List.all_eq_true.1 h i hi)
mutual
def flatT (o : Option (List Nat)) : T → Bool
  | .dead => false
  | .leaf _ => true
  | .e0 => true
  | .sl _ _ _ _ => true
  | .pt _ _ _ => true
  | .agg cs => flatL o cs
  | .tup cs => flatL o cs
  | .iface _ v => flatT o v
  | .fn _ p r => flatL o p && flatL o r
  | .ref i _ _ _ => outD o i
  | .addr i _ => outD o i
def flatL (o : Option (List Nat)) : List T → Bool
  | [] => true
  | t :: ts => flatT o t && flatL o ts
end
mutual
theorem flat_purge {o : Option (List Nat)} {i : Nat} (hi : inD o i) : ∀ {p : T}, flatT o p = true → p.purge i = p
  | .dead, h => rfl
  | .leaf _, h => rfl
  | .e0, h => rfl
  | .sl _ _ _ _, h => rfl
  | .pt _ _ _, h => rfl
  | .agg cs, h => by simp only [flatT] at h; simp only [T.purge, flatL_purge hi h]
  | .tup cs, h => by simp only [flatT] at h; simp only [T.purge, flatL_purge hi h]
  | .iface _ v, h => by simp only [flatT] at h; simp only [T.purge, flat_purge hi h]
  | .fn _ p r, h => by simp only [flatT, Bool.and_eq_true] at h; simp only [T.purge, flatL_purge hi h.1, flatL_purge hi h.2]
  | .ref id m a n, h => by simp only [flatT] at h; simp only [T.purge]; rw [if_neg (outD_ne h hi)]
  | .addr id a, h => by simp only [flatT] at h; simp only [T.purge]; rw [if_neg (outD_ne h hi)]
theorem flatL_purge {o : Option (List Nat)} {i : Nat} (hi : inD o i) : ∀ {p : List T}, flatL o p = true → purgeL i p = p
  | [], _ => rfl
  | t :: ts, h => by simp only [flatL, Bool.and_eq_true] at h; simp only [purgeL, flat_purge hi h.1, flatL_purge hi h.2]
end
mutual
theorem purge_flat0 {o : Option (List Nat)} {i : Nat} : ∀ (v : T), flatT o (v.purge i) = true → v.purge i = v
  | .dead, h => rfl
  | .leaf _, h => rfl
  | .e0, h => rfl
  | .sl _ _ _ _, h => rfl
  | .pt _ _ _, h => rfl
  | .agg cs, h => by simp only [T.purge, flatT] at h ⊢; rw [purge_flatL0 cs h]
  | .tup cs, h => by simp only [T.purge, flatT] at h ⊢; rw [purge_flatL0 cs h]
  | .iface _ v, h => by simp only [T.purge, flatT] at h ⊢; rw [purge_flat0 v h]
  | .fn _ p r, h => by simp only [T.purge, flatT, Bool.and_eq_true] at h ⊢; rw [purge_flatL0 p h.1, purge_flatL0 r h.2]
  | .ref id m a n, h => by
    simp only [T.purge] at h ⊢; split at h
    · simp [flatT] at h
    · rename_i q; rw [if_neg q]
  | .addr id a, h => by
    simp only [T.purge] at h ⊢; split at h
    · simp [flatT] at h
    · rename_i q; rw [if_neg q]
theorem purge_flatL0 {o : Option (List Nat)} {i : Nat} : ∀ (v : List T), flatL o (purgeL i v) = true → purgeL i v = v
  | [], _ => rfl
  | t :: ts, h => by simp only [purgeL, flatL, Bool.and_eq_true] at h ⊢; rw [purge_flat0 t h.1, purge_flatL0 ts h.2]
end
theorem purge_flat {o : Option (List Nat)} {i : Nat} {v p : T} (h : flatT o p = true) (e : v.purge i = p) : v = p := by
  subst e; exact (purge_flat0 v h).symm
theorem purge_flatL {o : Option (List Nat)} {i : Nat} {v p : List T} (h : flatL o p = true) (e : purgeL i v = p) : v = p := by
  subst e; exact (purge_flatL0 v h).symm
def opsT (E : Env) (S : List Nat) (ds : List (Option Nat)) (K : List Mark → St → Prop) : List Oper → List Mark → St → Prop
  | [], tr, σ => K tr σ
  | o :: l, tr, σ =>
    bindO (guardT ds σ o.guard) fun g => condB g
      (act E σ o.dst (fun e r => putOk σ S r e ∧ withSt (e.apply σ o.dst) fun σ' => opsT E S ds K l (⟨r, e.puts.map (·.1), e.drops, []⟩ :: tr) σ') o.op)
      (withSt (σ.set o.dst (.tup [])) fun σ' => opsT E S ds K l (⟨[], [], [], []⟩ :: tr) σ')
theorem opsT_nil {E : Env} {S : List Nat} {ds : List (Option Nat)} {K : List Mark → St → Prop} {tr : List Mark} {σ : St} : opsT E S ds K [] tr σ = K tr σ := rfl
theorem opsT_cons {E : Env} {S : List Nat} {ds : List (Option Nat)} {K : List Mark → St → Prop} {tr : List Mark} {σ : St} {dst : Option Tmp} {op : Op} {type : TypeId} {pos : String} {after : Array Edge} {g : Option (Nat × Bool)} {l : List Oper} :
    opsT E S ds K (⟨dst, op, type, pos, after, g⟩ :: l) tr σ = bindO (guardT ds σ g) fun g => condB g
      (act E σ dst (fun e r => putOk σ S r e ∧ withSt (e.apply σ dst) fun σ' => opsT E S ds K l (⟨r, e.puts.map (·.1), e.drops, []⟩ :: tr) σ') op)
      (withSt (σ.set dst (.tup [])) fun σ' => opsT E S ds K l (⟨[], [], [], []⟩ :: tr) σ') := rfl
@[congr] theorem opsT_congr {E : Env} {S : List Nat} {ds : List (Option Nat)} {K : List Mark → St → Prop} {σ : St} {l : List Oper} {tr : List Mark} : opsT E S ds K l tr σ = opsT E S ds K l tr σ := rfl
def stp (z : Oper × Step) (σ : St) : St := z.2.e.apply σ z.1.dst
def CleanE (q : Option (List Nat)) (z : Oper × Step) : Prop := flatT q z.2.e.val = true ∧ ∀ p ∈ z.2.e.puts, outD q p.1 = true ∧ flatL q p.2 = true
def CleanAt (q : Option (List Nat)) (ds : List (Option Nat)) (σ : St) (z : Oper × Step) : Prop :=
  CleanE q z ∧ (∀ i ∈ z.2.r, outD q i = true ∧ ∃ cs, σ.h i = some cs ∧ flatL q cs = true) ∧ (∀ t, .tmp t ∈ z.1.op.operands → ∃ p, σ.s t = some p ∧ flatT q p = true) ∧ ∀ j b d, z.1.guard = some (j, b) → ds[j]? = some (some d) → ∃ p, σ.s d = some p ∧ flatT q p = true
def StepOk (E : Env) (S : List Nat) (ds : List (Option Nat)) (σ : St) (z : Oper × Step) : Prop :=
  guardT ds σ z.1.guard = some z.2.go ∧ (if z.2.go then Acts E.P z.1 σ.ev σ.h z.2.r z.2.e ∧ putOk σ S z.2.r z.2.e else z.2.e = {} ∧ z.2.r = []) ∧ (z.2.c ≠ [] → CleanAt (some z.2.c) ds σ z)
def Runs (E : Env) (S : List Nat) (ds : List (Option Nat)) : List (Oper × Step) → St → Prop
  | [], _ => True
  | z :: l, σ => StepOk E S ds σ z ∧ Runs E S ds l (stp z σ)
theorem opsT_runs {E : Env} {S : List Nat} {ds : List (Option Nat)} {K : List Mark → St → Prop} : ∀ (l : List Oper) (tr : List Mark) (σ : St), opsT E S ds K l tr σ →
    ∃ zs : List (Oper × Step), zs.map (·.1) = l ∧ Runs E S ds zs σ ∧ K ((zs.map (·.2.mark)).reverse ++ tr) (zs.foldl (fun σ z => stp z σ) σ)
  | [], tr, σ, h => ⟨[], rfl, trivial, by simpa [opsT] using h⟩
  | o :: l, tr, σ, h => by
    simp only [opsT] at h
    obtain ⟨g, hg, h⟩ := h
    cases g with
    | true =>
      rw [condB_true] at h
      obtain ⟨e, r, hact, hput, hnext⟩ := act_sound h
      obtain ⟨zs, h1, h2, h3⟩ := opsT_runs l _ _ hnext
      refine ⟨(o, ⟨e, r, true, []⟩) :: zs, by simp [h1], ⟨⟨hg, by simp [hact, hput], fun h => absurd rfl h⟩, h2⟩, ?_⟩
      simpa [Step.mark, stp] using h3
    | false =>
      rw [condB_false] at h
      obtain ⟨zs, h1, h2, h3⟩ := opsT_runs l _ _ h
      refine ⟨(o, ⟨{}, [], false, []⟩) :: zs, by simp [h1], ⟨⟨hg, by simp, fun h => absurd rfl h⟩, h2⟩, ?_⟩
      simpa [Step.mark, stp, Eff.apply, St.drops, St.puts] using h3
def foldD (D : Nat → Bool) : Nat → List (Oper × Step) → St → St
  | _, [], σ => σ
  | k, z :: l, σ => foldD D (k + 1) l (if D k then stp z σ else σ)
theorem foldD_all {D : Nat → Bool} : ∀ (zs : List (Oper × Step)) (k : Nat) (σ : St), (∀ i, k ≤ i → i < k + zs.length → D i = true) → foldD D k zs σ = zs.foldl (fun σ z => stp z σ) σ
  | [], _, _, _ => rfl
  | z :: l, k, σ, h => by
    simp only [foldD, List.foldl_cons]
    rw [if_pos (h k (Nat.le_refl _) (by simp)), foldD_all l (k + 1) _ fun i h1 h2 => h i (by omega) (by simp; omega)]
theorem foldD_congr {D D' : Nat → Bool} : ∀ (zs : List (Oper × Step)) (k : Nat) (σ : St), (∀ i, k ≤ i → i < k + zs.length → D i = D' i) → foldD D k zs σ = foldD D' k zs σ
  | [], _, _, _ => rfl
  | z :: l, k, σ, h => by
    simp only [foldD]
    rw [h k (Nat.le_refl _) (by simp), foldD_congr l (k + 1) _ fun i h1 h2 => h i (by omega) (by simp; omega)]
theorem foldD_none {D : Nat → Bool} : ∀ (zs : List (Oper × Step)) (k : Nat) (σ : St), (∀ i, k ≤ i → D i = false) → foldD D k zs σ = σ
  | [], _, _, _ => rfl
  | z :: l, k, σ, h => by
    simp only [foldD]
    rw [if_neg (by simp [h k (Nat.le_refl _)]), foldD_none l (k + 1) _ fun i h1 => h i (by omega)]
theorem runs_at {E : Env} {S : List Nat} {ds : List (Option Nat)} : ∀ (zs : List (Oper × Step)) (k : Nat) (σ : St), Runs E S ds zs σ → ∀ j z, zs[j]? = some z → StepOk E S ds (foldD (fun i => decide (i < k + j)) k zs σ) z
  | [], _, _, _, j, z, h => by simp at h
  | z0 :: l, k, σ, hr, 0, z, h => by
    simp only [List.getElem?_cons_zero, Option.some.injEq] at h; subst h
    rw [foldD_none _ _ _ fun i hi => by simp; omega]
    exact hr.1
  | z0 :: l, k, σ, hr, j + 1, z, h => by
    simp only [List.getElem?_cons_succ] at h
    have := runs_at l (k + 1) _ hr.2 j z h
    simp only [foldD]
    rw [if_pos (by simp)]
    rw [show (fun i => decide (i < k + (j + 1))) = fun i => decide (i < k + 1 + j) from by funext i; congr 1; simp; omega]
    exact this
structure View (vs : Nat → Prop) (vi : Nat → Prop) (σ τ : St) : Prop where
  s : ∀ t, vs t → σ.s t = τ.s t
  h : ∀ i, vi i → σ.h i = τ.h i
theorem St.drops_s (σ τ : St) {vs vi : Nat → Prop} : ∀ (is : List Nat) {σ τ : St}, View vs vi σ τ → View vs vi (σ.drops is) (τ.drops is)
  | [], _, _, h => h
  | i :: is, σ, τ, h => by
    simp only [St.drops]
    refine St.drops_s σ τ is ⟨fun t ht => ?_, fun j hj => ?_⟩
    · simp only [St.drop, h.s t ht]
    · simp only [St.drop, h.h j hj]
theorem St.puts_view {vs vi : Nat → Prop} : ∀ (ps : List (Nat × List T)) {σ τ : St}, View vs vi σ τ → View vs vi (σ.puts ps) (τ.puts ps)
  | [], _, _, h => h
  | (i, cs) :: ps, σ, τ, h => by
    simp only [St.puts]
    exact St.puts_view ps ⟨h.s, fun j hj => by simp only [upd, h.h j hj]⟩
theorem St.set_view {vs vi : Nat → Prop} (d : Option Nat) (x : T) {σ τ : St} (h : View vs vi σ τ) : View vs vi (σ.set d x) (τ.set d x) := by
  cases d with
  | none => exact h
  | some d => exact ⟨fun t ht => by simp only [St.set, upd, h.s t ht], h.h⟩
theorem stp_view {vs vi : Nat → Prop} (z : Oper × Step) {σ τ : St} (h : View vs vi σ τ) : View vs vi (stp z σ) (stp z τ) :=
  St.set_view _ _ (St.puts_view _ (St.drops_s σ τ _ h))
theorem St.puts_s : ∀ (ps : List (Nat × List T)) (σ : St), (σ.puts ps).s = σ.s
  | [], _ => rfl
  | (i, cs) :: ps, σ => by simp only [St.puts]; rw [St.puts_s ps]
theorem St.puts_h : ∀ (ps : List (Nat × List T)) (σ : St) (j : Nat), j ∉ ps.map (·.1) → (σ.puts ps).h j = σ.h j
  | [], _, _, _ => rfl
  | (i, cs) :: ps, σ, j, h => by
    simp only [List.map_cons, List.mem_cons, not_or] at h
    simp only [St.puts]; rw [St.puts_h ps _ j h.2]
    simp only [upd]; rw [if_neg h.1]
def Out (vs vi : Nat → Prop) (z : Oper × Step) : Prop := z.2.e.drops = [] ∧ (∀ d, z.1.dst = some d → ¬ vs d) ∧ ∀ i ∈ z.2.e.puts.map (·.1), ¬ vi i
theorem stp_out {vs vi : Nat → Prop} {z : Oper × Step} (h : Out vs vi z) (σ : St) : View vs vi (stp z σ) σ := by
  obtain ⟨h1, h2, h3⟩ := h
  simp only [stp, Eff.apply, h1, St.drops]
  refine ⟨fun t ht => ?_, fun i hi => ?_⟩
  · cases hd : z.1.dst with
    | none => simp only [St.set]; rw [St.puts_s]
    | some d =>
      simp only [St.set, upd]
      rw [if_neg (fun e => h2 d hd (by rw [← e]; exact ht)), St.puts_s]
  · have : ((σ.puts z.2.e.puts).set z.1.dst z.2.e.val).h = (σ.puts z.2.e.puts).h := by cases z.1.dst <;> rfl
    rw [this, St.puts_h _ _ _ fun hm => h3 i hm hi]
theorem View.trans {vs vi : Nat → Prop} {σ τ υ : St} (h : View vs vi σ τ) (k : View vs vi τ υ) : View vs vi σ υ := ⟨fun t ht => (h.s t ht).trans (k.s t ht), fun t ht => (h.h t ht).trans (k.h t ht)⟩
theorem View.symm {vs vi : Nat → Prop} {σ τ : St} (h : View vs vi σ τ) : View vs vi τ σ := ⟨fun t ht => (h.s t ht).symm, fun t ht => (h.h t ht).symm⟩
theorem View.refl {vs vi : Nat → Prop} {σ : St} : View vs vi σ σ := ⟨fun _ _ => rfl, fun _ _ => rfl⟩
theorem foldD_view {vs vi : Nat → Prop} {D D' : Nat → Bool} : ∀ (zs : List (Oper × Step)) (k : Nat) {σ τ : St}, (∀ i z, zs[i]? = some z → D (k + i) ≠ D' (k + i) → Out vs vi z) → View vs vi σ τ → View vs vi (foldD D k zs σ) (foldD D' k zs τ)
  | [], _, _, _, _, hv => hv
  | z :: l, k, σ, τ, h, hv => by
    simp only [foldD]
    refine foldD_view l (k + 1) (fun i z' hz hd => h (i + 1) z' (by simpa using hz) (by rwa [show k + (i + 1) = k + 1 + i from by omega])) ?_
    have h0 := h 0 z rfl
    simp only [Nat.add_zero] at h0
    cases h1 : D k <;> cases h2 : D' k
    · simpa using hv
    · simp only [Bool.false_eq_true, if_false, if_true]
      exact hv.trans (stp_out (h0 (by simp [h1, h2])) τ).symm
    · simp only [Bool.false_eq_true, if_false, if_true]
      exact (stp_out (h0 (by simp [h1, h2])) σ).trans hv
    · simp only [if_true]
      exact stp_view z hv
theorem St.ext0 {σ τ : St} (h1 : ∀ t, σ.s t = τ.s t) (h2 : σ.h = τ.h) : σ = τ := by
  cases σ; cases τ; simp only [St.mk.injEq]; exact ⟨funext h1, h2⟩
def FE (q : Option (List Nat)) (a b : Option T) : Prop := ∀ p, flatT q p = true → (a = some p ↔ b = some p)
theorem FE.refl {q : Option (List Nat)} (a : Option T) : FE q a a := fun _ _ => Iff.rfl
theorem FE.symm {q : Option (List Nat)} {a b : Option T} (h : FE q a b) : FE q b a := fun p hp => (h p hp).symm
theorem FE.trans {q : Option (List Nat)} {a b c : Option T} (h : FE q a b) (k : FE q b c) : FE q a c := fun p hp => (h p hp).trans (k p hp)
theorem FE.drop {q : Option (List Nat)} {i : Nat} (hi : inD q i) (a : Option T) : FE q (a.map (T.purge i)) a := fun p hp => by
  cases a with
  | none => simp
  | some v =>
    simp only [Option.map_some, Option.some.injEq]
    exact ⟨purge_flat hp, fun e => by subst e; exact flat_purge hi hp⟩
def FEH (q : Option (List Nat)) (a b : Option (List T)) : Prop := ∀ p, flatL q p = true → (a = some p ↔ b = some p)
theorem FEH.refl {q : Option (List Nat)} (a : Option (List T)) : FEH q a a := fun _ _ => Iff.rfl
theorem FEH.symm {q : Option (List Nat)} {a b : Option (List T)} (h : FEH q a b) : FEH q b a := fun p hp => (h p hp).symm
theorem FEH.trans {q : Option (List Nat)} {a b c : Option (List T)} (h : FEH q a b) (k : FEH q b c) : FEH q a c := fun p hp => (h p hp).trans (k p hp)
theorem FEH.drop {q : Option (List Nat)} {i : Nat} (hi : inD q i) (a : Option (List T)) : FEH q (a.map (purgeL i)) a := fun p hp => by
  cases a with
  | none => simp
  | some v =>
    simp only [Option.map_some, Option.some.injEq]
    exact ⟨purge_flatL hp, fun e => by subst e; exact flatL_purge hi hp⟩
theorem FEH.puts {q : Option (List Nat)} {j : Nat} : ∀ (ps : List (Nat × List T)) {σ τ : St}, FEH q (σ.h j) (τ.h j) → FEH q ((σ.puts ps).h j) ((τ.puts ps).h j)
  | [], _, _, h => h
  | (i, cs) :: ps, σ, τ, h => by
    simp only [St.puts]
    refine FEH.puts ps ?_
    simp only [upd]
    split
    · exact FEH.refl _
    · exact h
theorem FE.drop2 {q : Option (List Nat)} (i : Nat) {a b : Option T} (h : FE q a b) : FE q (a.map (T.purge i)) (b.map (T.purge i)) := by
  have go : ∀ {a b : Option T}, FE q a b → ∀ p, flatT q p = true → a.map (T.purge i) = some p → b.map (T.purge i) = some p := by
    intro a b h p hp e
    cases a with
    | none => simp at e
    | some v =>
      simp only [Option.map_some, Option.some.injEq] at e
      have e2 := purge_flat hp e
      subst e2
      rw [(h v hp).1 rfl, Option.map_some, e]
  exact fun p hp => ⟨go h p hp, go h.symm p hp⟩
theorem FEH.drop2 {q : Option (List Nat)} (i : Nat) {a b : Option (List T)} (h : FEH q a b) : FEH q (a.map (purgeL i)) (b.map (purgeL i)) := by
  have go : ∀ {a b : Option (List T)}, FEH q a b → ∀ p, flatL q p = true → a.map (purgeL i) = some p → b.map (purgeL i) = some p := by
    intro a b h p hp e
    cases a with
    | none => simp at e
    | some v =>
      simp only [Option.map_some, Option.some.injEq] at e
      have e2 := purge_flatL hp e
      subst e2
      rw [(h v hp).1 rfl, Option.map_some, e]
  exact fun p hp => ⟨go h p hp, go h.symm p hp⟩
structure VF (q : Option (List Nat)) (vs vi vn : Nat → Prop) (σ τ : St) : Prop where
  s : ∀ t, vs t → FE q (σ.s t) (τ.s t)
  h : ∀ i, vi i → FEH q (σ.h i) (τ.h i)
  n : ∀ i, vn i → (σ.h i = none ↔ τ.h i = none)
section
variable {q : Option (List Nat)} {vs vi vn : Nat → Prop}
theorem VF.refl {σ : St} : VF q vs vi vn σ σ := ⟨fun _ _ => FE.refl _, fun _ _ => FEH.refl _, fun _ _ => Iff.rfl⟩
theorem VF.symm {σ τ : St} (h : VF q vs vi vn σ τ) : VF q vs vi vn τ σ := ⟨fun t ht => (h.s t ht).symm, fun t ht => (h.h t ht).symm, fun t ht => (h.n t ht).symm⟩
theorem VF.trans {σ τ υ : St} (h : VF q vs vi vn σ τ) (k : VF q vs vi vn τ υ) : VF q vs vi vn σ υ := ⟨fun t ht => (h.s t ht).trans (k.s t ht), fun t ht => (h.h t ht).trans (k.h t ht), fun t ht => (h.n t ht).trans (k.n t ht)⟩
theorem VF.drops (hvi : ∀ i, vi i → outD q i = true) (hvn : ∀ i, vn i → outD q i = true) : ∀ (is : List Nat) (σ : St), (∀ i ∈ is, inD q i) → VF q vs vi vn (σ.drops is) σ
  | [], _, _ => VF.refl
  | i :: is, σ, h => (VF.drops hvi hvn is (σ.drop i) fun j hj => h j (List.mem_cons_of_mem _ hj)).trans ⟨fun t _ => FE.drop (h i (List.mem_cons_self ..)) _, fun j hj => by
      have : j ≠ i := outD_ne (hvi j hj) (h i (List.mem_cons_self ..))
      simp only [St.drop, if_neg this]
      exact FEH.drop (h i (List.mem_cons_self ..)) _, fun j hj => by
      have : j ≠ i := outD_ne (hvn j hj) (h i (List.mem_cons_self ..))
      simp only [St.drop, if_neg this, Option.map_eq_none_iff]⟩
theorem VF.drop2 : ∀ (is : List Nat) {σ τ : St}, VF q vs vi vn σ τ → VF q vs vi vn (σ.drops is) (τ.drops is)
  | [], _, _, h => h
  | i :: is, σ, τ, h => by
    refine VF.drop2 is ⟨fun t ht => FE.drop2 i (h.s t ht), fun j hj => ?_, fun j hj => ?_⟩
    · simp only [St.drop]
      split
      · exact FEH.refl _
      · exact FEH.drop2 i (h.h j hj)
    · simp only [St.drop]
      split
      · exact Iff.rfl
      · simp only [Option.map_eq_none_iff]; exact h.n j hj
theorem puts_none {j : Nat} : ∀ (ps : List (Nat × List T)) {σ τ : St}, (σ.h j = none ↔ τ.h j = none) → ((σ.puts ps).h j = none ↔ (τ.puts ps).h j = none)
  | [], _, _, h => h
  | (i, cs) :: ps, σ, τ, h => by
    simp only [St.puts]
    refine puts_none ps ?_
    simp only [upd]
    split
    · exact Iff.rfl
    · exact h
end
theorem set_h (σ : St) (d : Option Nat) (x : T) : (σ.set d x).h = σ.h := by cases d <;> rfl
theorem set_s (σ : St) (d : Option Nat) (x : T) (t : Nat) : (σ.set d x).s t = if d = some t then some x else σ.s t := by
  cases d with
  | none => simp [St.set]
  | some d =>
    simp only [St.set, upd, Option.some.injEq]
    by_cases e : t = d
    · rw [if_pos e, if_pos e.symm]
    · rw [if_neg e, if_neg (Ne.symm e)]
section
variable {q : Option (List Nat)} {vs vi vn : Nat → Prop}
theorem stp_vf (z : Oper × Step) {σ τ : St} (h : VF q vs vi vn σ τ) : VF q vs vi vn (stp z σ) (stp z τ) := by
  have hd := VF.drop2 z.2.e.drops h
  refine ⟨fun t ht => ?_, fun i hi => ?_, fun i hi => ?_⟩
  · simp only [stp, Eff.apply]
    rw [set_s, set_s]
    split
    · exact FE.refl _
    · rw [St.puts_s, St.puts_s]
      exact hd.s t ht
  · simp only [stp, Eff.apply]
    rw [set_h, set_h]
    exact FEH.puts _ (hd.h i hi)
  · simp only [stp, Eff.apply]
    rw [set_h, set_h]
    exact puts_none _ (hd.n i hi)
theorem stp_outF (hvi : ∀ i, vi i → outD q i = true) (hvn : ∀ i, vn i → outD q i = true) {z : Oper × Step} (hz : ∀ i ∈ z.2.e.drops, inD q i) (h : ∀ d, z.1.dst = some d → ¬ vs d) (hp : ∀ i ∈ z.2.e.puts.map (·.1), ¬ vi i ∧ ¬ vn i) (σ : St) : VF q vs vi vn (stp z σ) σ := by
  have hd := VF.drops (vs := vs) hvi hvn z.2.e.drops σ hz
  refine ⟨fun t ht => ?_, fun i hi => ?_, fun i hi => ?_⟩
  · simp only [stp, Eff.apply]
    rw [set_s, if_neg (fun e => h t e ht), St.puts_s]
    exact hd.s t ht
  · simp only [stp, Eff.apply]
    rw [set_h, St.puts_h _ _ _ fun hm => (hp i hm).1 hi]
    exact hd.h i hi
  · simp only [stp, Eff.apply]
    rw [set_h, St.puts_h _ _ _ fun hm => (hp i hm).2 hi]
    exact hd.n i hi
theorem foldD_vf (hvi : ∀ i, vi i → outD q i = true) (hvn : ∀ i, vn i → outD q i = true) {D D' : Nat → Bool} : ∀ (zs : List (Oper × Step)) (k : Nat) {σ τ : St}, (∀ i z, zs[i]? = some z → D (k + i) ≠ D' (k + i) → (∀ j ∈ z.2.e.drops, inD q j) ∧ (∀ d, z.1.dst = some d → ¬ vs d) ∧ ∀ j ∈ z.2.e.puts.map (·.1), ¬ vi j ∧ ¬ vn j) → VF q vs vi vn σ τ → VF q vs vi vn (foldD D k zs σ) (foldD D' k zs τ)
  | [], _, _, _, _, hv => hv
  | z :: l, k, σ, τ, h, hv => by
    simp only [foldD]
    refine foldD_vf hvi hvn l (k + 1) (fun i z' hz hd => h (i + 1) z' (by simpa using hz) (by rwa [show k + (i + 1) = k + 1 + i from by omega])) ?_
    have h0 := h 0 z rfl
    simp only [Nat.add_zero] at h0
    cases h1 : D k <;> cases h2 : D' k
    · simpa using hv
    · simp only [Bool.false_eq_true, if_false, if_true]
      obtain ⟨a, b, c⟩ := h0 (by simp [h1, h2])
      exact hv.trans (stp_outF hvi hvn a b c τ).symm
    · simp only [Bool.false_eq_true, if_false, if_true]
      obtain ⟨a, b, c⟩ := h0 (by simp [h1, h2])
      exact (stp_outF hvi hvn a b c σ).trans hv
    · simp only [if_true]
      exact stp_vf z hv
end
theorem puts_set {d : Option Nat} {x : T} : ∀ (ps : List (Nat × List T)) (σ : St), (σ.set d x).puts ps = (σ.puts ps).set d x
  | [], _ => rfl
  | (i, cs) :: ps, σ => by
    simp only [St.puts]
    rw [← puts_set ps]
    cases d <;> rfl
mutual
theorem T.purge_comm (i j : Nat) : ∀ (t : T), (t.purge i).purge j = (t.purge j).purge i
  | .dead | .leaf _ | .e0 | .sl .. | .pt .. => rfl
  | .agg cs => by simp only [T.purge, purgeL_comm i j cs]
  | .tup cs => by simp only [T.purge, purgeL_comm i j cs]
  | .iface _ v => by simp only [T.purge, T.purge_comm i j v]
  | .fn _ p r => by simp only [T.purge, purgeL_comm i j p, purgeL_comm i j r]
  | .ref id _ _ _ | .addr id _ => by
    simp only [T.purge]
    by_cases a : id = i
    · by_cases b : id = j
      · rw [if_pos a, if_pos b]; rfl
      · rw [if_pos a, if_neg b]; simp only [T.purge]; rw [if_pos a]
    · by_cases b : id = j
      · rw [if_neg a, if_pos b]; simp only [T.purge]; rw [if_pos b]
      · rw [if_neg a, if_neg b]; simp only [T.purge]; rw [if_neg a, if_neg b]
theorem purgeL_comm (i j : Nat) : ∀ (ts : List T), purgeL j (purgeL i ts) = purgeL i (purgeL j ts)
  | [] => rfl
  | t :: ts => by simp only [purgeL, T.purge_comm i j t, purgeL_comm i j ts]
end
theorem drop_drop (i j : Nat) (σ : St) : (σ.drop i).drop j = (σ.drop j).drop i := by
  refine St.ext0 (fun t => ?_) (funext fun k => ?_)
  · simp only [St.drop]
    cases σ.s t with
    | none => rfl
    | some v => simp only [Option.map_some, T.purge_comm i j v]
  · simp only [St.drop]
    by_cases a : k = i <;> by_cases b : k = j <;> simp only [a, b, if_true, if_false, Option.map_none]
    all_goals first | rfl | (split <;> first | rfl | (cases σ.h k <;> first | rfl | simp only [Option.map_some, purgeL_comm i j]) | simp) | skip
    cases σ.h k with
    | none => rfl
    | some v => simp only [Option.map_some, purgeL_comm i j v]
theorem drops_drop (j : Nat) : ∀ (is : List Nat) (σ : St), (σ.drops is).drop j = (σ.drop j).drops is
  | [], _ => rfl
  | i :: is, σ => by simp only [St.drops]; rw [drops_drop j is, drop_drop]
theorem drops_drops (is : List Nat) : ∀ (js : List Nat) (σ : St), (σ.drops is).drops js = (σ.drops js).drops is
  | [], _ => rfl
  | j :: js, σ => by simp only [St.drops]; rw [drops_drop, drops_drops is js]
theorem puts_drop {i : Nat} : ∀ (ps : List (Nat × List T)) (σ : St), (∀ p ∈ ps, p.1 ≠ i ∧ purgeL i p.2 = p.2) → (σ.puts ps).drop i = (σ.drop i).puts ps
  | [], _, _ => rfl
  | (k, cs) :: ps, σ, h => by
    simp only [St.puts]
    rw [puts_drop ps _ fun p hp => h p (List.mem_cons_of_mem _ hp)]
    congr 1
    obtain ⟨h1, h2⟩ := h (k, cs) (List.mem_cons_self ..)
    refine St.ext0 (fun t => rfl) (funext fun j => ?_)
    simp only [St.drop, upd]
    by_cases e : j = k
    · subst e; rw [if_neg h1, if_pos rfl, if_pos rfl, Option.map_some, h2]
    · rw [if_neg e, if_neg e]
theorem puts_drops : ∀ (is : List Nat) (ps : List (Nat × List T)) (σ : St), (∀ i ∈ is, ∀ p ∈ ps, p.1 ≠ i ∧ purgeL i p.2 = p.2) → (σ.puts ps).drops is = (σ.drops is).puts ps
  | [], _, _, _ => rfl
  | i :: is, ps, σ, h => by
    simp only [St.drops]
    rw [puts_drop ps σ (h i (List.mem_cons_self ..)), puts_drops is ps _ fun j hj => h j (List.mem_cons_of_mem _ hj)]
theorem set_drops {d : Option Nat} {x : T} : ∀ (is : List Nat) (σ : St), (∀ i ∈ is, x.purge i = x) → (σ.set d x).drops is = (σ.drops is).set d x
  | [], _, _ => rfl
  | i :: is, σ, hi => by
    simp only [St.drops]
    rw [← set_drops is (σ.drop i) fun j hj => hi j (List.mem_cons_of_mem _ hj)]
    congr 1
    cases d with
    | none => rfl
    | some d =>
      simp only [St.set, St.drop]
      congr 1
      funext t
      simp only [upd]
      split
      · rw [Option.map_some, hi i (List.mem_cons_self ..)]
      · rfl
def Past (y : Oper × Step) (is : List Nat) : Prop := ∀ i ∈ is, y.2.e.val.purge i = y.2.e.val ∧ ∀ p ∈ y.2.e.puts, p.1 ≠ i ∧ purgeL i p.2 = p.2
theorem CleanE.past {q : Option (List Nat)} {y : Oper × Step} (h : CleanE q y) {is : List Nat} (hi : ∀ i ∈ is, inD q i) : Past y is := fun i hm => ⟨flat_purge (hi i hm) h.1, fun p hp => ⟨outD_ne (h.2 p hp).1 (hi i hm), flatL_purge (hi i hm) (h.2 p hp).2⟩⟩
def nod (z : Oper × Step) : Oper × Step := (z.1, { z.2 with e := { z.2.e with drops := [] } })
theorem stp_nod (z : Oper × Step) (σ : St) : stp z σ = stp (nod z) (σ.drops z.2.e.drops) := rfl
theorem nod_drops {z : Oper × Step} {is : List Nat} (h : Past z is) (σ : St) : (stp (nod z) σ).drops is = stp (nod z) (σ.drops is) := by
  simp only [stp, nod, Eff.apply, St.drops]
  rw [set_drops _ _ fun i hi => (h i hi).1, puts_drops _ _ _ fun i hi => (h i hi).2]
def Comm (y z : Oper × Step) : Prop := (Past y z.2.e.drops ∧ Past z y.2.e.drops) ∧ (∀ d, y.1.dst = some d → z.1.dst ≠ some d) ∧ ∀ i ∈ y.2.e.puts.map (·.1), i ∉ z.2.e.puts.map (·.1)
theorem St.ext' {σ τ : St} (h1 : ∀ t, σ.s t = τ.s t) (h2 : ∀ i, σ.h i = τ.h i) : σ = τ := by
  cases σ; cases τ; simp only [St.mk.injEq]; exact ⟨funext h1, funext h2⟩
theorem upd_self {α : Type} (f : Nat → Option α) (n : Nat) (x : Option α) : upd f n x n = x := by simp [upd]
theorem stp_s {z : Oper × Step} (h : z.2.e.drops = []) (σ : St) (t : Nat) : (stp z σ).s t = if z.1.dst = some t then some z.2.e.val else σ.s t := by
  simp only [stp, Eff.apply, h, St.drops]
  cases hd : z.1.dst with
  | none => simp only [St.set]; rw [St.puts_s, if_neg (by simp)]
  | some d =>
    simp only [St.set, upd, Option.some.injEq]
    by_cases e : t = d
    · rw [if_pos e, if_pos e.symm]
    · rw [if_neg e, if_neg (Ne.symm e), St.puts_s]
theorem stp_h {z : Oper × Step} (h : z.2.e.drops = []) (σ : St) (i : Nat) : (stp z σ).h i = (σ.puts z.2.e.puts).h i := by
  simp only [stp, Eff.apply, h, St.drops]
  cases z.1.dst <;> rfl
theorem puts_h_in : ∀ (ps : List (Nat × List T)) (σ τ : St) (i : Nat), i ∈ ps.map (·.1) → (σ.puts ps).h i = (τ.puts ps).h i
  | [], _, _, _, h => by simp at h
  | (j, cs) :: ps, σ, τ, i, h => by
    simp only [St.puts]
    by_cases hi : i ∈ ps.map (·.1)
    · exact puts_h_in ps _ _ i hi
    · rw [St.puts_h _ _ _ hi, St.puts_h _ _ _ hi]
      simp only [List.map_cons, List.mem_cons] at h
      rcases h with rfl | h
      · simp [upd]
      · exact absurd h hi
theorem stp_comm0 {y z : Oper × Step} (h1 : y.2.e.drops = []) (h2 : z.2.e.drops = []) (h3 : ∀ d, y.1.dst = some d → z.1.dst ≠ some d) (h4 : ∀ i ∈ y.2.e.puts.map (·.1), i ∉ z.2.e.puts.map (·.1)) (σ : St) : stp y (stp z σ) = stp z (stp y σ) := by
  refine St.ext' (fun t => ?_) fun i => ?_
  · rw [stp_s h1, stp_s h2, stp_s h2, stp_s h1]
    by_cases a : y.1.dst = some t
    · rw [if_pos a, if_neg (h3 t a), if_pos a]
    · rw [if_neg a]
      by_cases b : z.1.dst = some t
      · rw [if_pos b, if_pos b]
      · rw [if_neg b, if_neg b, if_neg a]
  · rw [stp_h h1, stp_h h2]
    by_cases a : i ∈ y.2.e.puts.map (·.1)
    · rw [St.puts_h _ (stp y σ) i (h4 i a), stp_h h1]
      exact puts_h_in _ _ _ _ a
    · rw [St.puts_h _ _ i a, stp_h h2]
      by_cases b : i ∈ z.2.e.puts.map (·.1)
      · exact puts_h_in _ _ _ _ b
      · rw [St.puts_h _ _ i b, St.puts_h _ _ i b, stp_h h1, St.puts_h _ _ i a]
theorem stp_comm {y z : Oper × Step} (h : Comm y z) (σ : St) : stp y (stp z σ) = stp z (stp y σ) := by
  obtain ⟨⟨h1, h2⟩, h3, h4⟩ := h
  rw [stp_nod y, stp_nod z, stp_nod z (stp y σ), stp_nod y σ, nod_drops h2, nod_drops h1, drops_drops]
  exact stp_comm0 (y := nod y) (z := nod z) rfl rfl h3 h4 _
theorem foldD_push {D : Nat → Bool} (y : Oper × Step) : ∀ (zs : List (Oper × Step)) (k : Nat) (σ : St), (∀ i z, zs[i]? = some z → D (k + i) = true → Comm y z) → foldD D k zs (stp y σ) = stp y (foldD D k zs σ)
  | [], _, _, _ => rfl
  | z :: l, k, σ, h => by
    simp only [foldD]
    have ih := fun τ => foldD_push (D := D) y l (k + 1) τ fun i z' hz hd => h (i + 1) z' (by simpa using hz) (by rwa [show k + (i + 1) = k + 1 + i from by omega])
    cases hk : D k with
    | false => simp only [Bool.false_eq_true, if_false]; exact ih σ
    | true =>
      simp only [if_true]
      rw [← stp_comm (h 0 z rfl (by simpa using hk)) σ]
      exact ih _
theorem foldD_add {D D' : Nat → Bool} {j : Nat} (hD : ∀ i, i ≠ j → D' i = D i) (h0 : D j = false) (h1 : D' j = true) : ∀ (zs : List (Oper × Step)) (k : Nat) (σ : St) (y : Oper × Step), k ≤ j → zs[j - k]? = some y →
    (∀ i z, zs[i]? = some z → j < k + i → D (k + i) = true → Comm y z) → foldD D' k zs σ = stp y (foldD D k zs σ)
  | [], _, _, _, _, h, _ => by simp at h
  | z :: l, k, σ, y, hk, hy, h => by
    simp only [foldD]
    by_cases e : k = j
    · subst e
      simp only [Nat.sub_self, List.getElem?_cons_zero, Option.some.injEq] at hy
      subst hy
      rw [if_pos h1, if_neg (by simp [h0]), foldD_congr (D := D') (D' := D) l (k + 1) _ fun i h1 h2 => hD i (by omega)]
      exact foldD_push z l (k + 1) σ fun i z' hz hd => h (i + 1) z' (by simpa using hz) (by omega) (by rwa [show k + (i + 1) = k + 1 + i from by omega])
    · rw [hD k e]
      have hy' : l[j - (k + 1)]? = some y := by rw [show j - k = (j - (k + 1)) + 1 from by omega] at hy; simpa using hy
      exact foldD_add hD h0 h1 l (k + 1) _ y (by omega) hy' fun i z' hz hlt hd => h (i + 1) z' (by simpa using hz) (by omega) (by rwa [show k + (i + 1) = k + 1 + i from by omega])
end Go.Vw
namespace Go.Vw
open Go Go.RowKit
def disjN : List Nat → List Nat → Bool
  | [], _ => true
  | n :: l, m => !memN n m && disjN l m
theorem disjN_spec : ∀ {l m : List Nat}, disjN l m = true → ∀ i ∈ l, i ∉ m
  | [], _, _, i, hi => by simp at hi
  | n :: l, m, h, i, hi => by
    simp only [disjN, Bool.and_eq_true, Bool.not_eq_true'] at h
    rcases List.mem_cons.1 hi with rfl | hi
    · intro hm; rw [memN_iff.2 hm] at h; exact absurd h.1 (by simp)
    · exact disjN_spec h.2 i hi
structure Row where
  dst : Option Nat
  looks : List Nat
  mask : Nat
def maskOf (acc : List Nat) : List Edge → Nat
  | [] => 0
  | e :: es => if Region.binds .any e then maskOf acc es ||| 2 ^ e.on ||| acc.getD e.on 0 else maskOf acc es
def rowsGo (ops : Array Oper) : List Oper → List Nat → List Row
  | [], _ => []
  | o :: l, acc => { dst := o.dst, looks := o.looksAt ops, mask := maskOf acc o.after.toList } :: rowsGo ops l (acc ++ [maskOf acc o.after.toList])
def rowsOf (ops : Array Oper) : List Row := rowsGo ops ops.toList []
theorem maskOf_spec {D : Nat → Bool} {acc : List Nat} (hacc : ∀ k m, acc[k]? = some m → D k = true → ∀ i, m.testBit i = true → D i = true) :
    ∀ {es : List Edge}, (∀ e ∈ es, Region.binds .any e = true → D e.on = true) → ∀ i, (maskOf acc es).testBit i = true → D i = true
  | [], _, i, h => by simp [maskOf] at h
  | e :: es, he, i, h => by
    simp only [maskOf] at h
    split at h
    · rename_i hb
      simp only [Nat.testBit_or, Bool.or_eq_true] at h
      rcases h with (h | h) | h
      · exact maskOf_spec hacc (fun e' h' => he e' (List.mem_cons_of_mem _ h')) i h
      · rw [Nat.testBit_two_pow] at h
        have : e.on = i := by simpa using h
        rw [← this]; exact he e (List.mem_cons_self ..) hb
      · cases hk : acc[e.on]? with
        | none => simp [List.getD, hk] at h
        | some m =>
          simp [List.getD, hk] at h
          exact hacc e.on m hk (he e (List.mem_cons_self ..) hb) i h
    · exact maskOf_spec hacc (fun e' h' => he e' (List.mem_cons_of_mem _ h')) i h
def Closed (D : Nat → Bool) (l : List Oper) : Prop := ∀ (j : Nat) (o : Oper), l[j]? = some o → D j = true → ∀ e ∈ o.after.toList, Region.binds .any e = true → D e.on = true
theorem rows_get {ops : Array Oper} : ∀ (l : List Oper) (acc : List Nat) (j : Nat) (r : Row), (rowsGo ops l acc)[j]? = some r → ∃ o, l[j]? = some o ∧ r.dst = o.dst ∧ r.looks = o.looksAt ops
  | [], _, j, r, h => by simp [rowsGo] at h
  | o :: l, acc, 0, r, h => by simp only [rowsGo, List.getElem?_cons_zero, Option.some.injEq] at h; subst h; exact ⟨o, rfl, rfl, rfl⟩
  | o :: l, acc, j + 1, r, h => by simp only [rowsGo, List.getElem?_cons_succ] at h; simpa using rows_get l _ j r h
theorem rows_len {ops : Array Oper} : ∀ (l : List Oper) (acc : List Nat), (rowsGo ops l acc).length = l.length
  | [], _ => rfl
  | o :: l, acc => by simp [rowsGo, rows_len l]
theorem rows_mask {ops : Array Oper} {D : Nat → Bool} : ∀ (l : List Oper) (acc : List Nat),
    (∀ k m, acc[k]? = some m → D k = true → ∀ i, m.testBit i = true → D i = true) →
    (∀ (j : Nat) (o : Oper), l[j]? = some o → D (acc.length + j) = true → ∀ e ∈ o.after.toList, Region.binds .any e = true → D e.on = true) →
    ∀ (j : Nat) (o : Oper) (r : Row), l[j]? = some o → (rowsGo ops l acc)[j]? = some r → (∀ e ∈ o.after.toList, Region.binds .any e = true → D e.on = true) → ∀ i, r.mask.testBit i = true → D i = true
  | [], _, _, _, j, o, r, h, _, _, _, _ => by simp at h
  | o0 :: l, acc, hacc, hc, 0, o, r, h, hr, he, i, hi => by
    simp only [List.getElem?_cons_zero, Option.some.injEq, rowsGo] at h hr
    subst h; subst hr
    exact maskOf_spec hacc he i hi
  | o0 :: l, acc, hacc, hc, j + 1, o, r, h, hr, he, i, hi => by
    simp only [List.getElem?_cons_succ, rowsGo] at h hr
    refine rows_mask l (acc ++ [maskOf acc o0.after.toList]) (fun k m hk hd i' hi' => ?_) (fun j' o' h' hd => hc (j' + 1) o' (by simpa using h') (by simpa [Nat.add_assoc, Nat.add_comm 1] using hd)) j o r h hr he i hi
    rcases Nat.lt_or_ge k acc.length with hl | hl
    · rw [List.getElem?_append_left hl] at hk; exact hacc k m hk hd i' hi'
    · rw [List.getElem?_append_right hl] at hk
      have hk0 : k - acc.length = 0 := by
        have := (List.getElem?_eq_some_iff.1 hk).1; simp at this; omega
      rw [hk0] at hk
      simp only [List.getElem?_cons_zero, Option.some.injEq] at hk
      subst hk
      have : k = acc.length := by omega
      subst this
      exact maskOf_spec hacc (hc 0 o0 rfl hd) i' hi'
def apartS (x y : Row) : Bool :=
  (match x.dst with | some d => !memN d y.looks && (match y.dst with | some d' => !Nat.beq d d' | none => true) | none => true) && (match y.dst with | some d => !memN d x.looks | none => true)
def subD : List Nat → List Nat → Bool
  | [], _ => true
  | n :: l, m => memN n m && subD l m
theorem subD_spec : ∀ {l m : List Nat}, subD l m = true → ∀ i ∈ l, i ∈ m
  | [], _, _, i, hi => by simp at hi
  | n :: l, m, h, i, hi => by
    simp only [subD, Bool.and_eq_true] at h
    rcases List.mem_cons.1 hi with rfl | hi
    · exact memN_iff.1 h.1
    · exact subD_spec h.2 i hi
def apartM (x y : Mark) : Bool := subD x.dr y.cl && subD y.dr x.cl && disjN x.pt y.rd && disjN y.pt x.rd && disjN x.pt y.pt
def pairs1 (i : Nat) (x : Row) (m : Mark) : List Row → List Mark → Bool
  | y :: l, n :: k => (y.mask.testBit i || (apartS x y && apartM m n)) && pairs1 i x m l k
  | _, _ => true
def pairs : Nat → List Row → List Mark → Bool
  | i, x :: l, m :: k => pairs1 i x m l k && pairs (i + 1) l k
  | _, _, _ => true
theorem pairs1_spec {i : Nat} {x : Row} {m : Mark} : ∀ {l : List Row} {k : List Mark} {j : Nat} {y : Row} {n : Mark}, pairs1 i x m l k = true → l[j]? = some y → k[j]? = some n → y.mask.testBit i = true ∨ apartS x y = true ∧ apartM m n = true
  | [], _, j, y, n, _, h, _ => by simp at h
  | _ :: _, [], j, y, n, _, _, h => by simp at h
  | y0 :: l, n0 :: k, 0, y, n, h, h1, h2 => by
    simp only [List.getElem?_cons_zero, Option.some.injEq] at h1 h2
    subst h1; subst h2
    simp only [pairs1, Bool.and_eq_true, Bool.or_eq_true] at h
    exact h.1
  | y0 :: l, n0 :: k, j + 1, y, n, h, h1, h2 => by
    simp only [List.getElem?_cons_succ] at h1 h2
    simp only [pairs1, Bool.and_eq_true] at h
    exact pairs1_spec h.2 h1 h2
theorem pairs_spec : ∀ {s : Nat} {l : List Row} {k : List Mark} {i j : Nat} {x y : Row} {m n : Mark}, pairs s l k = true → i < j → l[i]? = some x → k[i]? = some m → l[j]? = some y → k[j]? = some n →
    y.mask.testBit (s + i) = true ∨ apartS x y = true ∧ apartM m n = true
  | _, [], _, i, _, _, _, _, _, _, _, h, _, _, _ => by simp at h
  | _, _ :: _, [], i, _, _, _, _, _, _, _, _, h, _, _ => by simp at h
  | s, x0 :: l, m0 :: k, 0, j + 1, x, y, m, n, h, _, h1, h2, h3, h4 => by
    simp only [List.getElem?_cons_zero, Option.some.injEq, List.getElem?_cons_succ] at h1 h2 h3 h4
    subst h1; subst h2
    simp only [pairs, Bool.and_eq_true] at h
    exact pairs1_spec h.1 h3 h4
  | s, x0 :: l, m0 :: k, i + 1, j + 1, x, y, m, n, h, hij, h1, h2, h3, h4 => by
    simp only [List.getElem?_cons_succ] at h1 h2 h3 h4
    simp only [pairs, Bool.and_eq_true] at h
    have := pairs_spec h.2 (by omega : i < j) h1 h2 h3 h4
    rwa [show s + 1 + i = s + (i + 1) from by omega] at this
def chkL (md : Region.Mode) (ops : Array Oper) : List Nat → Nat → Bool
  | [], _ => true
  | i :: l, seen => (match ops[i]? with | some o => o.after.toList.all fun e => !Region.binds md e || seen.testBit e.on | none => false) && chkL md ops l (seen ||| 2 ^ i)
def allIn (L : List Nat) : Nat → Bool
  | 0 => true
  | n + 1 => memN n L && allIn L n
theorem allIn_spec {L : List Nat} : ∀ {n : Nat}, allIn L n = true → ∀ i, i < n → i ∈ L
  | 0, _, i, h => by omega
  | n + 1, h, i, hi => by
    simp only [allIn, Bool.and_eq_true] at h
    rcases Nat.lt_or_ge i n with h' | h'
    · exact allIn_spec h.2 i h'
    · have : i = n := by omega
      rw [this]; exact memN_iff.1 h.1
theorem chkL_ready {md : Region.Mode} {ops : Array Oper} {listed : Array Bool} : ∀ {L : List Nat} {seen : Nat}, chkL md ops L seen = true → (∀ i, seen.testBit i = true → listed.getD i false = true) → Region.ready md ops listed = [] →
    (hsz : listed.size = ops.size) → ∀ i ∈ L, i < ops.size → listed.getD i false = true
  | [], _, _, _, _, _, i, hi, _ => by simp at hi
  | j :: L, seen, h, hs, hr, hsz, i, hi, hlt => by
    simp only [chkL, Bool.and_eq_true] at h
    have hj : j < ops.size → listed.getD j false = true := fun hj => by
      cases hl : listed.getD j false with
      | true => rfl
      | false =>
        exfalso
        have hmem : j ∈ Region.ready md ops listed := by
          rw [mem_ready]
          have hjs : j < listed.size := by omega
          refine ⟨by simpa [Array.getD, hjs] using hl, ops[j], by simp [hj], fun e he hb => hs _ ?_⟩
          have h1 := h.1
          simp only [Array.getElem?_eq_getElem hj, List.all_eq_true, Bool.or_eq_true, Bool.not_eq_true'] at h1
          have := h1 e (by simpa using he)
          rcases this with this | this
          · rw [hb] at this; cases this
          · exact this
        rw [hr] at hmem; cases hmem
    rcases List.mem_cons.1 hi with rfl | hi
    · exact hj hlt
    · have hjs : j < ops.size := by
        rcases Nat.lt_or_ge j ops.size with hjs | hjs
        · exact hjs
        · have h1 := h.1
          simp [Array.getElem?_eq_none hjs] at h1
      refine chkL_ready h.2 (fun i' hi' => ?_) hr hsz i hi hlt
      simp only [Nat.testBit_or, Bool.or_eq_true, Nat.testBit_two_pow, decide_eq_true_eq] at hi'
      rcases hi' with hi' | rfl
      · exact hs _ hi'
      · exact hj hjs
def topo (ops : Array Oper) (L : List Nat) : Bool :=
  chkL .text ops (List.range ops.size) 0 && chkL .any ops (List.range ops.size) 0 && chkL .gc ops L 0 && allIn L ops.size
theorem topo_ready {md : Region.Mode} {ops : Array Oper} {L : List Nat} (h : topo ops L = true) {listed : Array Bool} (hr : Region.ready md ops listed = []) (hsz : listed.size = ops.size) : ∀ i, i < ops.size → listed.getD i false = true := by
  simp only [topo, Bool.and_eq_true] at h
  obtain ⟨⟨⟨h1, h2⟩, h3⟩, h4⟩ := h
  intro i hi
  cases md with
  | text => exact chkL_ready h1 (by simp) hr hsz i (List.mem_range.2 hi) hi
  | any => exact chkL_ready h2 (by simp) hr hsz i (List.mem_range.2 hi) hi
  | gc => exact chkL_ready h3 (by simp) hr hsz i (allIn_spec h4 i hi) hi
theorem binds_any {md : Region.Mode} {e : Edge} (h : Region.binds .any e = true) : Region.binds md e = true := by
  unfold Region.binds at *
  split <;> simp_all
theorem apart_of {ops : Array Oper} {x y : Oper} {r r' : Row} {s t : Step} (h1 : r.dst = x.dst) (h2 : r.looks = x.looksAt ops) (h3 : r'.dst = y.dst) (h4 : r'.looks = y.looksAt ops) (h : apartS r r' = true) (h' : apartM s.mark t.mark = true) :
    (∀ d, x.dst = some d → d ∉ y.looksAt ops ∧ y.dst ≠ some d) ∧ (∀ d, y.dst = some d → d ∉ x.looksAt ops) ∧ (∀ i ∈ s.e.drops, i ∈ t.c) ∧ (∀ i ∈ t.e.drops, i ∈ s.c) ∧
    (∀ i ∈ s.e.puts.map (·.1), i ∉ t.r ∧ i ∉ t.e.puts.map (·.1)) ∧ ∀ i ∈ t.e.puts.map (·.1), i ∉ s.r := by
  simp only [apartS, h1, h2, h3, h4, Bool.and_eq_true] at h
  simp only [apartM, Step.mark, Bool.and_eq_true] at h'
  obtain ⟨⟨⟨⟨a1, a2⟩, a3⟩, a4⟩, a5⟩ := h'
  refine ⟨fun d hd => ?_, fun d hd => ?_, subD_spec a1, subD_spec a2, fun i hi => ⟨disjN_spec a3 i hi, disjN_spec a5 i hi⟩, disjN_spec a4⟩
  · rw [hd] at h
    simp only [Bool.and_eq_true, Bool.not_eq_true'] at h
    refine ⟨fun hm => ?_, fun he => ?_⟩
    · rw [memN_iff.2 hm] at h; exact absurd h.1.1 (by simp)
    · rw [he] at h; simp at h
  · rw [hd] at h
    simp only [Bool.and_eq_true, Bool.not_eq_true'] at h
    intro hm
    rw [memN_iff.2 hm] at h; exact absurd h.2 (by simp)
end Go.Vw

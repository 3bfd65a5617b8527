import Derived.Test.YtbppcnhfeobefaaDoorEnVx8
set_option linter.unusedVariables false
set_option linter.unusedSimpArgs false
namespace Go.Vw
open Go Go.RowKit
section
variable {α : Type} {g : α → T}
theorem arr_list {l : List α} {n : Nat} (h : l.length = n) (d : α) : (List.range n).map (fun i => l.getD i d) = l := by
  refine ext_gD d (by simp [h]) (fun i hi => ?_)
  rw [List.length_map, List.length_range] at hi
  rw [gD_range, if_pos hi]
end
theorem Go.exitX {E : Env} {Γ : Cx} {f : FuncId} {N : Nat} {S : List Nat} {k : List Item} {σ : St} {α β : Type} {Pf : β → Value → World → Prop} {F : α → β} {a : α} (h : Go E Γ f N S (Pf (F a)) k σ) : Go E Γ f N S (Pf (Lo.el (Lo.brk a) F)) k σ := h
end Go.Vw
namespace Go.Vw
open Go Go.RowKit
theorem RepL.reset {w : World} {ok : Tag → Nat → Prop} {β : Nat → Real} {x y : T} (hxy : ∀ v, Rep w ok x β v → Rep w ok y β v) : ∀ (cs : List T) (off : Nat) (vs : List Value), cs[off]? = some x → RepL w ok cs β vs → RepL w ok (cs.set off y) β vs
  | [], off, vs, h, _ => by simp at h
  | t :: ts, 0, vs, h, hr => by
    simp only [List.getElem?_cons_zero, Option.some.injEq] at h; subst h
    simp only [List.set_cons_zero, RepL] at hr ⊢
    obtain ⟨v, us, h1, h2, h3⟩ := hr
    exact ⟨v, us, h1, hxy v h2, h3⟩
  | t :: ts, off + 1, vs, h, hr => by
    simp only [List.getElem?_cons_succ] at h
    simp only [List.set_cons_succ, RepL] at hr ⊢
    obtain ⟨v, us, h1, h2, h3⟩ := hr
    exact ⟨v, us, h1, h2, RepL.reset hxy ts off us h h3⟩
theorem ids_set {y : T} : ∀ (cs : List T) (off : Nat), ∀ i ∈ idsL (cs.set off y), i ∈ idsL cs ∨ i ∈ y.ids
  | [], _, i, h => by simp [idsL] at h
  | t :: ts, 0, i, h => by
    simp only [List.set_cons_zero, idsL, List.mem_append] at h ⊢
    rcases h with h | h
    · exact .inr h
    · exact .inl (.inr h)
  | t :: ts, off + 1, i, h => by
    simp only [List.set_cons_succ, idsL, List.mem_append] at h ⊢
    rcases h with h | h
    · exact .inl (.inl h)
    · rcases ids_set ts off i h with h | h
      · exact .inl (.inr h)
      · exact .inr h
theorem SimB.recell {Γ : Cx} {σ : St} {β : Nat → Real} {a : Act} {w : World} (hs : SimB Γ σ β a w) {i off : Nat} {cs : List T} {x y : T} (hi : σ.h i = some cs) (hx : cs[off]? = some x) (hxy : ∀ v, Rep w (okOf Γ.X σ β w) x β v → Rep w (okOf Γ.X σ β w) y β v)
    (hy : ∀ j ∈ y.ids, σ.h j ≠ none) : SimB Γ { σ with h := upd σ.h i (some (cs.set off y)) } β a w := by
  have hd : ∀ j, σ.h j = none ↔ (upd σ.h i (some (cs.set off y))) j = none := fun j => by
    simp only [upd]; split
    · rename_i e; subst e; rw [hi]; simp
    · exact Iff.rfl
  have ho : own { σ with h := upd σ.h i (some (cs.set off y)) } β = own σ β := (own_dom (τ := { σ with h := upd σ.h i (some (cs.set off y)) }) hd β).symm
  have hk : okOf Γ.X { σ with h := upd σ.h i (some (cs.set off y)) } β w = okOf Γ.X σ β w := by
    unfold okOf; rw [ho]
  refine ⟨hs.defers, hs.size, hs.keeps, fun t x e => ?_, fun j c e => ?_, fun id id' c c' b o E o' E' e1 e2 e3 e4 => ?_, fun b hb => ?_, fun t x e j hj => ?_, fun j c e l hl => ?_, hs.stab⟩
  · rw [hk]; exact hs.slot t x e
  · rw [hk]
    simp only [upd] at e
    split at e
    · rename_i q; subst q; injection e with e; subst e
      have h := hs.obj _ _ hi
      cases hb : β j with
      | ph => rw [hb] at h; simp only [ObjAt] at h ⊢; subst h; simp
      | real b o E =>
        rw [hb] at h; simp only [ObjAt] at h ⊢
        obtain ⟨c, e, fr, vs, h1, h2, h3, h4, h5, h6⟩ := h
        exact ⟨c, e, fr, vs, h1, h2, by rw [List.length_set]; exact h3, h4, RepL.reset hxy cs off vs hx h5, h6⟩
    · exact hs.obj _ _ e
  · have g : ∀ j c, (upd σ.h i (some (cs.set off y))) j = some c → ∃ c', σ.h j = some c' := fun j c e => by
      cases q : σ.h j with
      | none => rw [(hd j).1 q] at e; cases e
      | some c' => exact ⟨c', rfl⟩
    obtain ⟨c1, q1⟩ := g _ _ e1
    obtain ⟨c2, q2⟩ := g _ _ e2
    exact hs.inj id id' c1 c2 b o E o' E' q1 q2 e3 e4
  · rw [ho] at hb; exact hs.ownb b hb
  · exact fun q => hs.wfs t x e j hj ((hd j).2 q)
  · simp only [upd] at e
    split at e
    · rename_i q; subst q; injection e with e; subst e
      rcases ids_set cs off l hl with h | h
      · exact fun q => hs.wfh j cs hi l h ((hd l).2 q)
      · exact fun q => hy l h ((hd l).2 q)
    · exact fun q => hs.wfh j c e l hl ((hd l).2 q)
theorem Go.phnC {E : Env} {Γ : Cx} {f : FuncId} {N : Nat} {S : List Nat} {Post : Value → World → Prop} {k : List Item} {L : List (Nat × T)} {H : List (Nat × List T)} (i off d m : Nat) {cs : List T} {x : T} (new : List T) (hi : look H i = some cs) (hx : cs[off]? = some x)
    (hn : x = .leaf (.slice none 0 0) ∨ x = .e0) (hd : look H d = none) (hne : Nat.beq i d = false) (hS : memN d S = false) (hnew : cs.set off (.ref d m 0 0) = new)
    (hg : Go E Γ f N S Post k (stL L (ins i new (ins d [] H)))) : Go E Γ f N S Post k (stL L H) := by
  intro h1 h2 h3 a w ⟨β, hs⟩
  have hid : i ≠ d := fun e => by rw [e] at hne; simp at hne
  have hp := hs.phantom (id := d) hd (by rw [h3]; exact memN_false hS)
  have hb : reals β d .ph d = .ph := by simp [reals]
  have hr := hp.recell (i := i) (off := off) (x := x) (y := .ref d m 0 0) (cs := cs) (by simp only [upd, if_neg hid]; exact hi) hx (fun v hv => by
    simp only [Rep, hb]
    rcases hn with rfl | rfl
    · simp only [Rep] at hv; exact ⟨trivial, trivial, none, hv⟩
    · simp only [Rep] at hv; exact ⟨trivial, trivial, hv⟩) (fun j hj => by
    simp only [T.ids, List.mem_singleton] at hj; subst hj; simp [upd])
  refine hg h1 h2 h3 a w ⟨reals β d .ph, ?_⟩
  rw [hnew] at hr
  have e1 : stL L (ins i new (ins d [] H)) = { s := look L, h := upd (upd (look H) d (some [])) i (some new) } := by
    simp only [stL, look_ins]
  rw [e1]
  exact hr
def pick {α : Type} (H : List (Nat × α)) : List Nat → List (Nat × α)
  | [] => []
  | k :: ks => match look H k with | some c => (k, c) :: pick H ks | none => pick H ks
theorem look_pick {α : Type} (H : List (Nat × α)) (n : Nat) : ∀ ks : List Nat, look (pick H ks) n = if n ∈ ks then look H n else none
  | [] => rfl
  | k :: ks => by
    rw [pick]
    cases h : look H k with
    | none =>
      simp only [look_pick H n ks, List.mem_cons]
      by_cases e : n = k
      · subst e; simp [h]
      · simp [e]
    | some c =>
      simp only [look, List.mem_cons]
      by_cases e : k = n
      · subst e; simp [h]
      · rw [if_neg e, look_pick H n ks]
        have : ¬ n = k := fun q => e q.symm
        simp [this]
theorem look_out {α : Type} (n : Nat) (ks : List Nat) (hn : n ∉ ks) : ∀ H : List (Nat × α), (H.all fun p => ks.contains p.1) = true → look H n = none
  | [], _ => rfl
  | (m, x) :: H, h => by
    simp only [List.all_cons, Bool.and_eq_true] at h
    rw [look]
    have : m ≠ n := fun e => hn (by subst e; simpa using h.1)
    rw [if_neg this]
    exact look_out n ks hn H h.2
theorem Go.ord {E : Env} {Γ : Cx} {f : FuncId} {N : Nat} {S : List Nat} {Post : Value → World → Prop} {k : List Item} {L : List (Nat × T)} {H : List (Nat × List T)} (ks : List Nat) (H' : List (Nat × List T)) (hk : (H.all fun p => ks.contains p.1) = true) (hH : pick H ks = H')
    (hg : Go E Γ f N S Post k (stL L H')) : Go E Γ f N S Post k (stL L H) := by
  have e : stL L H = stL L H' := by
    simp only [stL, St.mk.injEq, true_and]
    funext n
    rw [← hH, look_pick]
    by_cases q : n ∈ ks
    · rw [if_pos q]
    · rw [if_neg q, look_out n ks q H hk]
  rw [e]; exact hg
end Go.Vw
namespace Go.Vw
open Go Go.RowKit
end Go.Vw
namespace Go.Vw
open Go Go.RowKit
theorem om {p : Prop} (h : p := by first | omega | (simp <;> omega) | (simp at * <;> omega) | (split <;> omega) | (split <;> (first | omega | (simp <;> omega) | (simp at * <;> omega)))) : p := h
theorem sb {p : Prop} (h : p := by first | rfl | (simp only [T.ids, idsL, er_ids, List.append_nil, List.nil_append] <;> rfl)) : p := h
theorem kr {p : Prop} (h : p := by as_aux_lemma => kernel_rfl) : p := h
theorem Meets.sw {P : Program} {f : FuncId} {A B : List T} {H K H' K' : List (Nat × List T)} {S S1 : List Nat} {R R1 : T} (l : List (Nat × Nat)) (hM : Meets P f A H S R H')
    (hA : RenA (swps l) A B := by repeat' (first | exact .nil | exact robj1 rfl | exact robj2 rfl | exact robj3 rfl | exact .addr rfl _ | exact .ref rfl _ _ _ | (refine .same ?_; first | exact mp_ids _ (fun _ => rfl) | rfl | exact er_ids _ _ | exact fl_ids (fun _ => rfl) _ | (simp only [T.ids, idsL, er_ids, List.append_nil, List.nil_append]; done)) | refine .cons ?_ ?_ | refine .agg ?_ | refine .tup ?_ | refine .iface _ ?_ | refine .fn _ ?_ ?_))
    (hH : RenH (swps l) H K := by repeat' (first | exact .nil | exact robj1 rfl | exact robj2 rfl | exact robj3 rfl | exact .addr rfl _ | exact .ref rfl _ _ _ | (refine .same ?_; first | exact mp_ids _ (fun _ => rfl) | rfl | exact er_ids _ _ | exact fl_ids (fun _ => rfl) _ | (simp only [T.ids, idsL, er_ids, List.append_nil, List.nil_append]; done)) | refine .cons rfl ?_ ?_ | refine .cons ?_ ?_ | refine .agg ?_ | refine .tup ?_ | refine .iface _ ?_ | refine .fn _ ?_ ?_))
    (hS : S.map (swps l) = S1 := by rfl)
    (hR : Ren (swps l) R R1 := by repeat' (first | exact .nil | exact robj1 rfl | exact robj2 rfl | exact robj3 rfl | exact .addr rfl _ | exact .ref rfl _ _ _ | (refine .same ?_; first | exact mp_ids _ (fun _ => rfl) | rfl | exact er_ids _ _ | exact fl_ids (fun _ => rfl) _ | (simp only [T.ids, idsL, er_ids, List.append_nil, List.nil_append]; done)) | refine .cons ?_ ?_ | refine .agg ?_ | refine .tup ?_ | refine .iface _ ?_ | refine .fn _ ?_ ?_))
    (hH' : RenH (swps l) H' K' := by repeat' (first | exact .nil | exact robj1 rfl | exact robj2 rfl | exact robj3 rfl | exact .addr rfl _ | exact .ref rfl _ _ _ | (refine .same ?_; first | exact mp_ids _ (fun _ => rfl) | rfl | exact er_ids _ _ | exact fl_ids (fun _ => rfl) _ | (simp only [T.ids, idsL, er_ids, List.append_nil, List.nil_append]; done)) | refine .cons rfl ?_ ?_ | refine .cons ?_ ?_ | refine .agg ?_ | refine .tup ?_ | refine .iface _ ?_ | refine .fn _ ?_ ?_)) : Meets P f B K S1 R1 K' := Meets.swp l hM hA hH hS hR hH'
theorem Go.sw {E : Env} {Γ : Cx} {f : FuncId} {N : Nat} {S : List Nat} {Post : Value → World → Prop} {k : List Item} {L L' : List (Nat × T)} {H H' : List (Nat × List T)} (l : List (Nat × Nat))
    (hg : Go E Γ f N S Post k (stL L' H')) (hS : S.map (swps l) = S := by rfl)
    (hL : RenQ (swps l) L' L := by repeat' (first | exact .nil | exact robj1 rfl | exact robj2 rfl | exact robj3 rfl | exact .addr rfl _ | exact .ref rfl _ _ _ | (refine .same ?_; first | exact mp_ids _ (fun _ => rfl) | rfl | exact er_ids _ _ | exact fl_ids (fun _ => rfl) _ | (simp only [T.ids, idsL, er_ids, List.append_nil, List.nil_append]; done)) | refine .cons ?_ ?_ | refine .agg ?_ | refine .tup ?_ | refine .iface _ ?_ | refine .fn _ ?_ ?_))
    (hH : RenH (swps l) H' H := by repeat' (first | exact .nil | exact robj1 rfl | exact robj2 rfl | exact robj3 rfl | exact .addr rfl _ | exact .ref rfl _ _ _ | (refine .same ?_; first | exact mp_ids _ (fun _ => rfl) | rfl | exact er_ids _ _ | exact fl_ids (fun _ => rfl) _ | (simp only [T.ids, idsL, er_ids, List.append_nil, List.nil_append]; done)) | refine .cons rfl ?_ ?_ | refine .cons ?_ ?_ | refine .agg ?_ | refine .tup ?_ | refine .iface _ ?_ | refine .fn _ ?_ ?_)) : Go E Γ f N S Post k (stL L H) := Go.swp l hS hL hH hg
end Go.Vw
namespace Go.Vw
open Go Go.RowKit
def fxa (n : Nat) (l : List UInt8) : List UInt8 := (List.range n).map fun i => l.getD i 0
@[simp] theorem fxa_len (n : Nat) (l : List UInt8) : (fxa n l).length = n := by simp [fxa]
theorem fxa_eq {n : Nat} {l : List UInt8} (h : l.length = n) : fxa n l = l := arr_list h 0
@[simp] theorem fxa_fxa (n : Nat) (l : List UInt8) : fxa n (fxa n l) = fxa n l := fxa_eq (fxa_len n l)
end Go.Vw

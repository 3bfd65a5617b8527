import Derived.Test.YtbppcnhfeobefaaDoorEnVx8
set_option linter.unusedVariables false
set_option linter.unusedSimpArgs false
namespace Go.Vw
open Go
theorem b8s_noB (l : List (List UInt8)) : noBL (b8s .shr l) = true := mp_noB l (fun c => by rw [T.noB]; exact u8s_noB c)
@[simp] theorem slc_len {α : Type} (l : List α) (lo hi : Int) : (slc l lo hi).length = min (hi.toNat - lo.toNat) (l.length - lo.toNat) := by simp [slc]
theorem slc_getD {α : Type} (l : List α) (lo hi : Int) (k : Nat) (d : α) : (slc l lo hi).getD k d = if k < hi.toNat - lo.toNat then l.getD (lo.toNat + k) d else d := by
  simp only [slc, List.getD_eq_getElem?_getD, List.getElem?_take, List.getElem?_drop]
  split <;> rfl
theorem shlC (k : Nat) (x c : Int) (hc : (2 : Int) ^ (min k 64) = c) (h : -9223372036854775808 ≤ x * c ∧ x * c < 9223372036854775808) : ti (IntKind.i64.wrap (x * 2 ^ (min k 64))) = ti (x * c) := by
  rw [hc]; exact iw _ h
theorem giveOk {α : Type} {g : α → T} {n : Nat} (l : List α) (h : n = l.length) (hg : ∀ x, (g x).ids = []) : idsL (l.map g) = [] ∧ n * 1 ≤ (l.map g).length :=
  ⟨mp_ids l hg, by simp [h]⟩
theorem giveEq {α : Type} {g : α → T} {n : Nat} (l : List α) (h : n = l.length) : T.sl 1 .shr n (sub (l.map g) 0 (n * 1)) = T.sl 1 .shr l.length (l.map g) := by
  subst h; rw [mp_all]
theorem bnd_eq {α β : Type} (v : α) (F : α → β) : bnd v F = F v := rfl
end Go.Vw
namespace Go.Vw
open Go
section
variable {α : Type}
theorem gD_app (l l2 : List α) (i : Nat) (d : α) : (l ++ l2).getD i d = if i < l.length then l.getD i d else l2.getD (i - l.length) d := by
  simp only [List.getD_eq_getElem?_getD, List.getElem?_append]
  split <;> rfl
theorem gD_take (l : List α) (n i : Nat) (d : α) : (l.take n).getD i d = if i < n then l.getD i d else d := by
  simp only [List.getD_eq_getElem?_getD, List.getElem?_take]
  split <;> rfl
theorem gD_drop (l : List α) (n i : Nat) (d : α) : (l.drop n).getD i d = l.getD (n + i) d := by
  simp only [List.getD_eq_getElem?_getD, List.getElem?_drop]
theorem gD_range (n : Nat) (f : Nat → α) (i : Nat) (d : α) : ((List.range n).map f).getD i d = if i < n then f i else d := by
  rw [List.getD_eq_getElem?_getD, List.getElem?_map]
  by_cases h : i < n
  · rw [if_pos h, List.getElem?_range h]; rfl
  · rw [if_neg h, List.getElem?_eq_none (by simpa using h)]; rfl
theorem ext_gD (d : α) {l l2 : List α} (hl : l.length = l2.length) (h : ∀ i, i < l.length → l.getD i d = l2.getD i d) : l = l2 := by
  refine List.ext_getElem hl (fun i h1 h2 => ?_)
  have := h i h1
  rwa [List.getD_eq_getElem?_getD, List.getD_eq_getElem?_getD, List.getElem?_eq_getElem h1, List.getElem?_eq_getElem h2] at this
theorem drop_cons (l : List α) (n : Nat) (d : α) (h : n < l.length) : l.drop n = l.getD n d :: l.drop (n + 1) := by
  rw [List.getD_eq_getElem?_getD, List.getElem?_eq_getElem h]
  exact List.drop_eq_getElem_cons h
theorem slc_drop (l : List α) (lo : Int) : slc l lo (l.length : Int) = l.drop lo.toNat := by
  rw [slc, List.take_of_length_le]; simp
theorem slc_take (l : List α) (hi : Int) : slc l 0 hi = l.take hi.toNat := by
  simp [slc]
end
theorem or_step (a b m i : Nat) (h : 2 ^ i = m) (hb : b < m) : (a * m ||| b) = a * m + b := by
  subst h
  have := Nat.shiftLeft_add_eq_or_of_lt hb a
  rw [Nat.shiftLeft_eq] at this
  exact this.symm
theorem u64i_len (n : Nat) (h : n < 18446744073709551616) : (u64i (n : Int)).toNat = n := by
  rw [u64i, UInt64.toNat_ofNat']; omega
theorem u8i_nat (n : Nat) (h : n < 256) : (u8i (n : Int)).toNat = n := by
  rw [u8i, UInt8.toNat_ofNat']; omega
section
variable {α β ρ : Type}
theorem appLoop {f : Nat → Int → List α → Lo (List α) ρ} {n : Int} {g : Int → List α} (hs : ∀ m i o, 0 ≤ i → f (m + 1) i o = _root_.cond (decide (i < n)) (f m (i + 1) (o ++ g i)) (.brk o)) :
    ∀ (m : Nat) (i : Int) (o : List α), 0 ≤ i → (n - i).toNat < m → f m i o = .brk (o ++ (List.range (n - i).toNat).flatMap (fun k : Nat => g (i + k))) := by
  intro m
  induction m with
  | zero => intro i o _ h; exact absurd h (Nat.not_lt_zero _)
  | succ m ih =>
    intro i o h0 h
    rw [hs m i o h0]
    by_cases c : i < n
    · rw [decide_eq_true c, cond_true, ih (i + 1) _ (by omega) (by omega)]
      have e : (n - i).toNat = (n - (i + 1)).toNat + 1 := by omega
      have e2 : ∀ k : Nat, i + 1 + (k : Int) = i + ((k + 1 : Nat) : Int) := by intro k; omega
      rw [e, List.range_succ_eq_map, List.flatMap_cons, List.append_assoc, List.flatMap_map]
      simp only [e2]
      rw [show i + ((0 : Nat) : Int) = i by omega]
    · rw [decide_eq_false c, cond_false, show (n - i).toNat = 0 by omega]
      simp
end
end Go.Vw
namespace Go.Vw
open Go Go.RowKit
theorem own_dom {σ τ : St} (h : ∀ j, σ.h j = none ↔ τ.h j = none) (β : Nat → Real) : own σ β = own τ β := by
  funext b
  apply propext
  constructor
  · rintro ⟨id, c, o, E, e1, e2⟩
    cases e : τ.h id with
    | none => rw [(h id).2 e] at e1; cases e1
    | some c' => exact ⟨id, c', o, E, e, e2⟩
  · rintro ⟨id, c, o, E, e1, e2⟩
    cases e : σ.h id with
    | none => rw [(h id).1 e] at e1; cases e1
    | some c' => exact ⟨id, c', o, E, e, e2⟩
theorem SimB.cutH {Γ : Cx} {σ : St} {β : Nat → Real} {a : Act} {w : World} (hs : SimB Γ σ β a w) {i k : Nat} {cs : List T} (hi : σ.h i = some cs) : SimB Γ { σ with h := upd σ.h i (some (cs.take k)) } β a w := by
  have hd : ∀ j, σ.h j = none ↔ (upd σ.h i (some (cs.take k))) j = none := fun j => by
    simp only [upd]; split
    · rename_i e; subst e; rw [hi]; simp
    · exact Iff.rfl
  have ho : own { σ with h := upd σ.h i (some (cs.take k)) } β = own σ β := (own_dom (τ := { σ with h := upd σ.h i (some (cs.take k)) }) hd β).symm
  have hk : okOf Γ.X { σ with h := upd σ.h i (some (cs.take k)) } β w = okOf Γ.X σ β w := by
    unfold okOf; rw [ho]
  refine ⟨hs.defers, hs.size, hs.keeps, fun t x e => ?_, fun j c e => ?_, fun id id' c c' b o E o' E' e1 e2 e3 e4 => ?_, fun b hb => ?_, fun t x e j hj => ?_, fun j c e l hl => ?_, hs.stab⟩
  · rw [hk]; exact hs.slot t x e
  · rw [hk]
    simp only [upd] at e
    split at e
    · rename_i q; subst q; injection e with e; subst e
      have h := hs.obj _ _ hi
      cases hb : β j with
      | ph => rw [hb] at h; simp only [ObjAt] at h ⊢; subst h; simp
      | real b o E =>
        rw [hb] at h; simp only [ObjAt] at h ⊢
        obtain ⟨c, e, fr, vs, h1, h2, h3, h4, h5, h6⟩ := h
        exact ⟨c, e, fr, vs.take k, h1, h2, by rw [List.length_take]; omega, h4, h5.take k, h6.take k⟩
    · exact hs.obj _ _ e
  · have g : ∀ j c, (upd σ.h i (some (cs.take k))) j = some c → ∃ c', σ.h j = some c' := fun j c e => by
      cases q : σ.h j with
      | none => rw [(hd j).1 q] at e; cases e
      | some c' => exact ⟨c', rfl⟩
    obtain ⟨c1, q1⟩ := g _ _ e1
    obtain ⟨c2, q2⟩ := g _ _ e2
    exact hs.inj id id' c1 c2 b o E o' E' q1 q2 e3 e4
  · rw [ho] at hb; exact hs.ownb b hb
  · exact fun q => hs.wfs t x e j hj ((hd j).2 q)
  · simp only [upd] at e
    have : ∃ c', σ.h j = some c' ∧ l ∈ idsL c' := by
      split at e
      · rename_i q; subst q; injection e with e; subst e; exact ⟨cs, hi, ids_take k l hl⟩
      · exact ⟨c, e, hl⟩
    obtain ⟨c', q1, q2⟩ := this
    exact fun q => hs.wfh j c' q1 l q2 ((hd l).2 q)
theorem Go.cutH {E : Env} {Γ : Cx} {f : FuncId} {N : Nat} {S : List Nat} {Post : Value → World → Prop} {k : List Item} {L : List (Nat × T)} {H : List (Nat × List T)} (i n : Nat) {cs : List T} (new : List T) (hi : look H i = some cs) (hn : cs.take n = new)
    (hg : Go E Γ f N S Post k (stL L (ins i new H))) : Go E Γ f N S Post k (stL L H) := by
  intro h1 h2 h3 a w ⟨β, hs⟩
  refine hg h1 h2 h3 a w ⟨β, ?_⟩
  have := hs.cutH (i := i) (k := n) hi
  rw [hn] at this
  simpa only [stL, look_ins] using this
instance {α β : Type} [Inhabited β] : Inhabited (Lo α β) := ⟨.ret default⟩
theorem flat_all {α : Type} : ∀ (l : List (List α)), (List.range l.length).flatMap (fun k => l.getD k []) = l.flatten := by
  intro l
  induction l with
  | nil => rfl
  | cons a l ih =>
    rw [List.length_cons, List.range_succ_eq_map, List.flatMap_cons, List.flatMap_map, List.flatten_cons, ← ih]
    rfl
theorem nil_le {α : Type} {c : Nat} : ∀ i : Nat, (([] : List (List α)).getD i []).length ≤ c := fun i => by simp
theorem cons_le {α : Type} {x : List α} {l : List (List α)} {c : Nat} (h : x.length ≤ c) (hl : ∀ i : Nat, (l.getD i []).length ≤ c) : ∀ i : Nat, ((x :: l).getD i []).length ≤ c := by
  intro i
  cases i with
  | zero => exact h
  | succ i => exact hl i
theorem Meets.nilOr {P : Program} {f : FuncId} {m : Nat} {g : Tag} {A : List T} {H H' : List (Nat × List T)} {S : List Nat} {R : T} (h : ∀ ad cap, Meets P f (.leaf (.slice ad 0 cap) :: A) H S R H') : Meets P f (.sl m g 0 [] :: A) H S R H' := by
  refine fun Γ β vs hP hS hn hvl hβ hlent hs => ?_
  obtain ⟨v, hv1, hv2⟩ := hs.slot 0 _ rfl
  simp only [Rep] at hv2
  obtain ⟨_, ad, cap, rfl, _⟩ := hv2
  refine h ad cap Γ β vs hP hS hn (by simpa using hvl) hβ (hlent.trans rfl) ⟨hs.defers, hs.size, hs.keeps, fun t y e => ?_, hs.obj, hs.inj, hs.ownb, fun t y e => ?_, hs.wfh, hs.stab⟩
  · cases t with
    | zero => simp only [List.getElem?_cons_zero, Option.some.injEq] at e; subst e; exact ⟨_, hv1, by simp only [Rep]⟩
    | succ t => exact hs.slot (t + 1) y (by simpa using e)
  · cases t with
    | zero => simp only [List.getElem?_cons_zero, Option.some.injEq] at e; subst e; simp [T.ids]
    | succ t => exact hs.wfs (t + 1) y (by simpa using e)
theorem RepAt.le {w : World} {ok : Tag → Nat → Prop} {b : Nat} {cs cs' : List T} (h : LeL cs cs') : ∀ o, RepAt w ok b cs o → RepAt w ok b cs' o := by
  induction h with
  | nil => exact fun _ h => h
  | cons h0 _ ih =>
    intro o h
    simp only [RepAt] at h ⊢
    obtain ⟨⟨v, h1, h2⟩, h3⟩ := h
    exact ⟨⟨v, h1, h0.1 _ _ _ _ h2⟩, ih _ h3⟩
theorem LeL.len {cs cs' : List T} (h : LeL cs cs') : cs.length = cs'.length := by
  induction h with
  | nil => rfl
  | cons _ _ ih => simp [ih]
theorem T.Le.cells {m n : Nat} {g : Tag} {cs cs' : List T} (h : LeL cs cs') (hi : idsL cs' = []) : T.Le (.sl m g n cs) (.sl m g n cs') := by
  refine ⟨fun w ok β v hr => ?_, fun i hi => by simp [T.ids] at hi⟩
  simp only [Rep] at hr ⊢
  obtain ⟨⟨h1, h2⟩, ad, cap, h3, h4, h5⟩ := hr
  refine ⟨⟨h.len ▸ h1, hi⟩, ad, cap, h3, h4, h5.imp id ?_⟩
  rintro ⟨b, o, e, hok, hr⟩
  exact ⟨b, o, e, hok, RepAt.le h _ hr⟩
end Go.Vw
namespace Go.Vw
open Go
theorem u32eq {a b : UInt32} (h : a.toNat = b.toNat) : a = b := UInt32.toNat_inj.1 h
theorem q0 : (2 : Nat) ^ Int.toNat 0 = 1 := by decide
theorem q8 : (2 : Nat) ^ Int.toNat 8 = 256 := by decide
theorem shr8_32 (t : UInt32) {k : Int} {m : Nat} (hk : 2 ^ k.toNat = m) : (shr32 t k).toUInt8.toNat = t.toNat / m % 256 := by
  have hl := t.toNat_lt
  have : t.toNat / m ≤ t.toNat := Nat.div_le_self _ _
  rw [UInt32.toNat_toUInt8, shr32, UInt32.toNat_ofNat', hk]
  omega
theorem byte32 (x : UInt32) (c : UInt8) : (shl32 x 8 ||| c.toUInt32) = 256 * x + c.toUInt32 := by
  have := c.toNat_lt
  have hx := x.toNat_lt
  have e : (256 : UInt32).toNat = 256 := rfl
  apply u32eq
  rw [UInt32.toNat_or, shl32, UInt32.toNat_ofNat', q8, UInt32.toNat_add, UInt32.toNat_mul, e, UInt8.toNat_toUInt32]
  have h1 : x.toNat * 256 % 2 ^ 32 = x.toNat % 2 ^ 24 * 256 := by omega
  rw [h1, or_step _ _ 256 8 (by decide) (by omega)]
  omega
end Go.Vw
namespace Go.Vw
open Go Go.RowKit
abbrev fl {α : Type} (g : α → List T) (l : List α) : List T := l.flatMap g
section
variable {α : Type} {g : α → List T} {m : Nat}
theorem fl_drop (hm : ∀ x, (g x).length = m) : ∀ (l : List α) (n : Nat), (fl g l).drop (n * m) = fl g (l.drop n)
  | [], n => by simp
  | a :: l, 0 => by simp
  | a :: l, n + 1 => by
    rw [List.drop_succ_cons, ← fl_drop hm l n, fl, List.flatMap_cons, Nat.succ_mul, Nat.add_comm, ← List.drop_drop, List.drop_left' (hm a)]
theorem fl_take (hm : ∀ x, (g x).length = m) : ∀ (l : List α) (n : Nat), (fl g l).take (n * m) = fl g (l.take n)
  | [], n => by simp
  | a :: l, 0 => by simp
  | a :: l, n + 1 => by
    have e : (n + 1) * m = (g a).length + n * m := by rw [Nat.succ_mul, hm]; omega
    rw [List.take_succ_cons, fl, List.flatMap_cons, e, List.take_length_add_append]
    show g a ++ (fl g l).take (n * m) = _
    rw [fl_take hm l n]; rfl
theorem fl_sub (hm : ∀ x, (g x).length = m) (l : List α) (a b : Nat) : sub (fl g l) (a * m) (b * m) = fl g ((l.drop a).take b) := by
  rw [sub, fl_drop hm, fl_take hm]
theorem fl_ids (hg : ∀ x, idsL (g x) = []) (l : List α) : idsL (fl g l) = [] := by
  induction l with
  | nil => rfl
  | cons a l ih =>
    rw [fl, List.flatMap_cons]
    have : ∀ (x y : List T), idsL x = [] → idsL y = [] → idsL (x ++ y) = [] := by
      intro x y hx hy
      induction x with
      | nil => exact hy
      | cons c x ihx =>
        simp only [List.cons_append, idsL, List.append_eq_nil_iff] at hx ⊢
        exact ⟨hx.1, ihx hx.2⟩
    exact this _ _ (hg a) ih
theorem fl_all (hm : ∀ x, (g x).length = m) (l : List α) : sub (fl g l) 0 (l.length * m) = fl g l := by
  have := fl_sub hm l 0 l.length
  rw [Nat.zero_mul] at this
  rw [this]; simp
end
end Go.Vw
namespace Go.Vw
open Go Go.RowKit
section
variable {α : Type} {g : α → T}
theorem mp_whole {i : TI} {l : List α} {n : Nat} (ha : i.agg = true) (hs : i.size = n) (hl : l.length = n) : partOf i (l.map g) 0 (.agg (l.map g)) := by
  refine partA ha (by rw [hs, List.length_map, hl]; omega) ?_
  rw [hs, sub, List.drop_zero, List.take_of_length_le (by rw [List.length_map, hl]; exact Nat.le_refl _)]
theorem arr_all {l : List α} {n : Nat} (h : l.length = n) : sub (l.map g) 0 n = l.map g := by
  rw [sub, List.drop_zero, List.take_of_length_le (by rw [List.length_map, h]; exact Nat.le_refl _)]
theorem arr_list {l : List α} {n : Nat} (h : l.length = n) (d : α) : (List.range n).map (fun i => l.getD i d) = l := by
  refine ext_gD d (by simp [h]) (fun i hi => ?_)
  rw [List.length_map, List.length_range] at hi
  rw [gD_range, if_pos hi]
theorem arr_store {l x : List α} (h : x.length = l.length) : splice (l.map g) 0 (x.map g) = x.map g := by
  unfold splice
  rw [List.length_map, Nat.zero_add, List.drop_of_length_le (by rw [List.length_map, h]; exact Nat.le_refl _)]
  simp
end
theorem Go.exitX {E : Env} {Γ : Cx} {f : FuncId} {N : Nat} {S : List Nat} {k : List Item} {σ : St} {α β : Type} {Pf : β → Value → World → Prop} {F : α → β} {a : α} (h : Go E Γ f N S (Pf (F a)) k σ) : Go E Γ f N S (Pf (Lo.el (Lo.brk a) F)) k σ := h
theorem splice_whole {cs v : List T} (h : v.length = cs.length) : splice cs 0 v = v := by
  unfold splice
  rw [Nat.zero_add, List.drop_of_length_le (by rw [h]; exact Nat.le_refl _)]
  simp
end Go.Vw
namespace Go.Vw
open Go Go.RowKit
def pick {α : Type} (H : List (Nat × α)) : List Nat → List (Nat × α)
  | [] => []
  | k :: ks => match look H k with | some c => (k, c) :: pick H ks | none => pick H ks
theorem look_pick {α : Type} (H : List (Nat × α)) (n : Nat) : ∀ ks : List Nat, look (pick H ks) n = if n ∈ ks then look H n else none
  | [] => rfl
  | k :: ks => by
    rw [pick]
    cases h : look H k with
    | none =>
      simp only [look_pick H n ks, List.mem_cons]
      by_cases e : n = k
      · subst e; simp [h]
      · simp [e]
    | some c =>
      simp only [look, List.mem_cons]
      by_cases e : k = n
      · subst e; simp [h]
      · rw [if_neg e, look_pick H n ks]
        have : ¬ n = k := fun q => e q.symm
        simp [this]
theorem look_out {α : Type} (n : Nat) (ks : List Nat) (hn : n ∉ ks) : ∀ H : List (Nat × α), (H.all fun p => ks.contains p.1) = true → look H n = none
  | [], _ => rfl
  | (m, x) :: H, h => by
    simp only [List.all_cons, Bool.and_eq_true] at h
    rw [look]
    have : m ≠ n := fun e => hn (by subst e; simpa using h.1)
    rw [if_neg this]
    exact look_out n ks hn H h.2
theorem Go.ord {E : Env} {Γ : Cx} {f : FuncId} {N : Nat} {S : List Nat} {Post : Value → World → Prop} {k : List Item} {L : List (Nat × T)} {H : List (Nat × List T)} (ks : List Nat) (H' : List (Nat × List T)) (hk : (H.all fun p => ks.contains p.1) = true) (hH : pick H ks = H')
    (hg : Go E Γ f N S Post k (stL L H')) : Go E Γ f N S Post k (stL L H) := by
  have e : stL L H = stL L H' := by
    simp only [stL, St.mk.injEq, true_and]
    funext n
    rw [← hH, look_pick]
    by_cases q : n ∈ ks
    · rw [if_pos q]
    · rw [if_neg q, look_out n ks q H hk]
  rw [e]; exact hg
end Go.Vw
namespace Go.Vw
open Go Go.RowKit
end Go.Vw
namespace Go.Vw
open Go Go.RowKit
theorem om {p : Prop} (h : p := by first | omega | (simp <;> omega) | (simp at * <;> omega) | (split <;> omega) | (split <;> (first | omega | (simp <;> omega) | (simp at * <;> omega)))) : p := h
theorem sb {p : Prop} (h : p := by first | rfl | (simp only [T.ids, idsL, er_ids, List.append_nil, List.nil_append] <;> rfl)) : p := h
theorem nb {p : Prop} (h : p := by first | rfl | (simp only [T.noB, noBL, er_noB, u8s_noB, b8s_noB, Bool.and_self, Bool.true_and, Bool.and_true]; rfl) | simp only [T.noB, noBL, er_noB, u8s_noB, b8s_noB, Bool.and_self, Bool.true_and, Bool.and_true]) : p := h
theorem kr {p : Prop} (h : p := by as_aux_lemma => kernel_rfl) : p := h
theorem Meets.sw {P : Program} {f : FuncId} {A B : List T} {H K H' K' : List (Nat × List T)} {S S1 : List Nat} {R R1 : T} (l : List (Nat × Nat)) (hM : Meets P f A H S R H')
    (hA : RenA (swps l) A B := by repeat' (first | exact .nil | exact robj1 rfl | exact robj2 rfl | exact robj3 rfl | exact .addr rfl _ | exact .ref rfl _ _ _ | (refine .same ?_; first | exact mp_ids _ (fun _ => rfl) | rfl | exact er_ids _ _ | exact fl_ids (fun _ => rfl) _ | (simp only [T.ids, idsL, er_ids, List.append_nil, List.nil_append]; done)) | refine .cons ?_ ?_ | refine .agg ?_ | refine .tup ?_ | refine .iface _ ?_ | refine .fn _ ?_ ?_))
    (hH : RenH (swps l) H K := by repeat' (first | exact .nil | exact robj1 rfl | exact robj2 rfl | exact robj3 rfl | exact .addr rfl _ | exact .ref rfl _ _ _ | (refine .same ?_; first | exact mp_ids _ (fun _ => rfl) | rfl | exact er_ids _ _ | exact fl_ids (fun _ => rfl) _ | (simp only [T.ids, idsL, er_ids, List.append_nil, List.nil_append]; done)) | refine .cons rfl ?_ ?_ | refine .cons ?_ ?_ | refine .agg ?_ | refine .tup ?_ | refine .iface _ ?_ | refine .fn _ ?_ ?_))
    (hS : S.map (swps l) = S1 := by rfl)
    (hR : Ren (swps l) R R1 := by repeat' (first | exact .nil | exact robj1 rfl | exact robj2 rfl | exact robj3 rfl | exact .addr rfl _ | exact .ref rfl _ _ _ | (refine .same ?_; first | exact mp_ids _ (fun _ => rfl) | rfl | exact er_ids _ _ | exact fl_ids (fun _ => rfl) _ | (simp only [T.ids, idsL, er_ids, List.append_nil, List.nil_append]; done)) | refine .cons ?_ ?_ | refine .agg ?_ | refine .tup ?_ | refine .iface _ ?_ | refine .fn _ ?_ ?_))
    (hH' : RenH (swps l) H' K' := by repeat' (first | exact .nil | exact robj1 rfl | exact robj2 rfl | exact robj3 rfl | exact .addr rfl _ | exact .ref rfl _ _ _ | (refine .same ?_; first | exact mp_ids _ (fun _ => rfl) | rfl | exact er_ids _ _ | exact fl_ids (fun _ => rfl) _ | (simp only [T.ids, idsL, er_ids, List.append_nil, List.nil_append]; done)) | refine .cons rfl ?_ ?_ | refine .cons ?_ ?_ | refine .agg ?_ | refine .tup ?_ | refine .iface _ ?_ | refine .fn _ ?_ ?_)) : Meets P f B K S1 R1 K' := Meets.swp l hM hA hH hS hR hH'
theorem Go.sw {E : Env} {Γ : Cx} {f : FuncId} {N : Nat} {S : List Nat} {Post : Value → World → Prop} {k : List Item} {L L' : List (Nat × T)} {H H' : List (Nat × List T)} (l : List (Nat × Nat))
    (hg : Go E Γ f N S Post k (stL L' H')) (hS : S.map (swps l) = S := by rfl)
    (hL : RenQ (swps l) L' L := by repeat' (first | exact .nil | exact robj1 rfl | exact robj2 rfl | exact robj3 rfl | exact .addr rfl _ | exact .ref rfl _ _ _ | (refine .same ?_; first | exact mp_ids _ (fun _ => rfl) | rfl | exact er_ids _ _ | exact fl_ids (fun _ => rfl) _ | (simp only [T.ids, idsL, er_ids, List.append_nil, List.nil_append]; done)) | refine .cons ?_ ?_ | refine .agg ?_ | refine .tup ?_ | refine .iface _ ?_ | refine .fn _ ?_ ?_))
    (hH : RenH (swps l) H' H := by repeat' (first | exact .nil | exact robj1 rfl | exact robj2 rfl | exact robj3 rfl | exact .addr rfl _ | exact .ref rfl _ _ _ | (refine .same ?_; first | exact mp_ids _ (fun _ => rfl) | rfl | exact er_ids _ _ | exact fl_ids (fun _ => rfl) _ | (simp only [T.ids, idsL, er_ids, List.append_nil, List.nil_append]; done)) | refine .cons rfl ?_ ?_ | refine .cons ?_ ?_ | refine .agg ?_ | refine .tup ?_ | refine .iface _ ?_ | refine .fn _ ?_ ?_)) : Go E Γ f N S Post k (stL L H) := Go.swp l hS hL hH hg
end Go.Vw
namespace Go.Vw
open Go Go.RowKit
def fxa (n : Nat) (l : List UInt8) : List UInt8 := (List.range n).map fun i => l.getD i 0
@[simp] theorem fxa_len (n : Nat) (l : List UInt8) : (fxa n l).length = n := by simp [fxa]
theorem fxa_eq {n : Nat} {l : List UInt8} (h : l.length = n) : fxa n l = l := arr_list h 0
@[simp] theorem fxa_fxa (n : Nat) (l : List UInt8) : fxa n (fxa n l) = fxa n l := fxa_eq (fxa_len n l)
end Go.Vw

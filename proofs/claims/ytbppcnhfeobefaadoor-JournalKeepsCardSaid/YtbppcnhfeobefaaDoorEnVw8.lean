import Derived.Test.YtbppcnhfeobefaaDoorEnVw5
set_option linter.unusedVariables false
namespace Go.Vw
open Go Go.RowKit
section
variable {P : Program} {o : Oper} {ev : Operand → Option T} {h : Nat → Option (List T)} {reads : List Nat} {ti : TypeId → TI}
theorem foldl_push (l : List Int) : ∀ (s : ByteArray), l.foldl (fun r n => r.push (UInt8.ofNat n.toNat)) s = ⟨s.data ++ (l.map fun n => UInt8.ofNat n.toNat).toArray⟩ := by
 induction l with
 | nil => intro s; simp
 | cons n l ih => intro s; rw [List.foldl_cons, ih]; simp [ByteArray.push]
theorem take_bs_rep {w : World} {ok : Tag → Nat → Prop} {β : Nat → Real} {l : List Int} {vs : List Value} (h : RepL w ok (bs l) β vs) : vs = l.map (Value.int .u8) := by
 induction l generalizing vs with
 | nil => simpa [bs, RepL] using h
 | cons n l ih =>
  simp only [bs, List.map_cons, RepL] at h
  obtain ⟨v, us, rfl, h2, h3⟩ := h
  simp only [Rep] at h2
  subst h2
  simp [ih h3]
theorem acts_convBS {s d e : TypeId} {x : Operand} {tx : T} {l : List Int} {n : Nat} {i i' i'' : TI} (ho : o.op = .convert s d x) (hx : ev x = some tx) (hs0 : TOk P s i) (hk : i.k = .slice e) (he : TOk P e i') (hk' : i'.k = .int .u8) (hd : TOk P d i'') (hk'' : i''.k = .str)
  (hr : ∀ j ∈ tx.ids, j ∈ reads) (hns : ∀ b, tx ≠ .leaf (.string b)) (hsrc : srcOf h tx = some (n, bs l)) (hf : srcFits h 1 tx) : Acts P o ev h reads { val := .leaf (.string (strOf l)) } := by
 refine acts_value fun Γ σ β a w hP hev hh hs => ⟨.string (strOf l), ?_, by simp [Rep], by simp [T.ids]⟩
 have e1 : σ.ev x = some tx := by rw [hev x (by simp [ho, Op.operands]), hx]
 have hag : ∀ j ∈ tx.ids, σ.h j = h j := fun j hj => hh j (hr j hj)
 obtain ⟨s1, s2, s3, vs, s4, s5⟩ := src_run hs e1 (by rw [srcOf_congr hag, hsrc]) ((srcFits_congr hag).2 hf) (P := P)
 have hvs := take_bs_rep s4
 obtain ⟨d1, h1, h2, _⟩ := hs0.und
 rw [hk] at h2; simp only [kOk] at h2; subst h2
 obtain ⟨d2, h3, h4, _⟩ := he.und
 rw [hk'] at h4; simp only [kOk] at h4; subst h4
 obtain ⟨d3, h5, h6, _⟩ := hd.und
 rw [hk''] at h6; simp only [kOk] at h6; subst h6
 have hln : l.length = n := by have := s2; simpa [bs] using this
 have hval : ∃ ad c, a.eval x = .slice ad n c := by
  have hrep := hs.ev e1
  have hl := s1 w
  cases tx with
  | dead => simp [srcOf] at hsrc
  | leaf v =>
   simp only [Rep] at hrep
   cases v <;> simp [srcOf] at hsrc
   ·exact absurd rfl (hns _)
   ·rename_i a' n' c'
    rw [hrep] at hl ⊢
    simp only [Builtin.lenOf, Sem.run_pure, Result.ok.injEq, and_true] at hl
    subst hl; exact ⟨_, _, rfl⟩
  | e0 =>
   simp only [Rep] at hrep; obtain ⟨ad, hv⟩ := hrep
   simp only [srcOf, Option.some.injEq, Prod.mk.injEq] at hsrc
   exact ⟨ad, 0, by rw [hv, ← hsrc.1]⟩
  | sl m g n' cs =>
   simp only [Rep] at hrep; obtain ⟨_, ad, cap, hv, _⟩ := hrep
   simp only [srcOf, Option.some.injEq, Prod.mk.injEq] at hsrc
   exact ⟨ad, cap, by rw [hv, ← hsrc.1]⟩
  | ref id m off n' =>
   simp only [srcOf] at hsrc
   split at hsrc
   ·simp only [Option.some.injEq, Prod.mk.injEq] at hsrc
    simp only [Rep] at hrep
    cases hb : β id with
    | ph => rw [hb] at hrep; obtain ⟨_, h0, ad, hv⟩ := hrep; exact ⟨ad, 0, by rw [hv, ← hsrc.1, h0]⟩
    | real b ob E => rw [hb] at hrep; obtain ⟨ad, cap, hv, _⟩ := hrep; exact ⟨ad, cap, by rw [hv, ← hsrc.1]⟩
   ·simp at hsrc
  | _ => simp [srcOf] at hsrc
 obtain ⟨ad, c, hv⟩ := hval
 simp only [execOp, ho, hv]
 refine run_v ?_
 rw [run_convert_bytes_string w s d e ad n c h1 h3 h5]
 cases ad with
 | none =>
  have hn0 : n = 0 := by
   have hrep := hs.ev e1
   rw [hv] at hrep
   cases tx with
   | leaf v =>
    simp only [Rep] at hrep
    rw [← hrep] at hsrc
    simp only [srcOf] at hsrc
    split at hsrc <;> simp_all
   | e0 => simp only [Rep] at hrep; obtain ⟨_, hv⟩ := hrep; injection hv
   | sl m g n' cs =>
    simp only [Rep] at hrep; obtain ⟨_, ad, cap, hv', _, hz⟩ := hrep
    injection hv' with q1 q2 q3
    rcases hz with hz | ⟨b, ob, hz, _⟩
    ·omega
    ·rw [← q1] at hz; simp at hz
   | ref id m off n' =>
    simp only [Rep] at hrep
    cases hb : β id with
    | ph => rw [hb] at hrep; obtain ⟨_, h0, ad, hv⟩ := hrep; injection hv
    | real b ob E =>
     rw [hb] at hrep; obtain ⟨ad, cap, hv', q0, _, hz⟩ := hrep
     injection hv' with q1 q2 q3
     rcases hz with hz | hz
     ·omega
     ·rw [← q1] at hz; simp at hz
   | _ => simp [srcOf] at hsrc
  have : l = [] := List.length_eq_zero_iff.1 (by omega)
  subst this
  simp [Conv.bytesToString, strOf]; rfl
 | some b =>
  have := s5 w rfl n (Nat.le_refl _)
  rw [hv, List.take_of_length_le (by rw [s4.length]; simp [bs]; omega), hvs] at this
  simp only [Builtin.firstCells, Nat.mul_one] at this
  rw [run_bytesToString w b n c l this, foldl_push]
  simp [strOf, ByteArray.empty, ByteArray.emptyWithCapacity]
  try rfl
theorem acts_convSB {s d e : TypeId} {x : Operand} {b : ByteArray} {dd : Nat} {i i' i'' : TI} (ho : o.op = .convert s d x) (hx : ev x = some (.leaf (.string b))) (hs0 : TOk P s i) (hk : i.k = .str) (hd : TOk P d i'') (hk'' : i''.k = .slice e) (he : TOk P e i') (hk' : i'.k = .int .u8) (hdd : dd ∉ reads) :
  Acts P o ev h reads { val := .ref dd 1 0 b.size, puts := [(dd, bs (bytesOf b))] } := by
 refine acts_of fun Γ σ β a w hP hev hh hn hs => ?_
 have hd' : σ.h dd = none := (hn (dd, bs (bytesOf b)) (by simp) (by simp)).2 hdd
 have hdS := (hn (dd, bs (bytesOf b)) (by simp) (by simp)).1
 have e1 : a.eval x = .string b := by simpa [Rep] using hs.ev (show σ.ev x = some (.leaf (.string b)) by rw [hev x (by simp [ho, Op.operands]), hx])
 obtain ⟨d1, h1, h2, _⟩ := hs0.und
 rw [hk] at h2; simp only [kOk] at h2; subst h2
 obtain ⟨d2, h3, h4, _⟩ := he.und
 rw [hk'] at h4; simp only [kOk] at h4; subst h4
 obtain ⟨d3, h5, h6, _⟩ := hd.und
 rw [hk''] at h6; simp only [kOk] at h6; subst h6
 have hrun := Lib.run_convert_string_bytes (P := P) w s d e b h1 h5 h3
 -- the frozen mark lies behind the block: as a new block with that mark
 let C := Lib.bytesCells w e b
 have hworld : Lib.bytesWorld w e b = w.drew.alloc (.cells C e (C.size, C.size + 1)) := by
  simp only [Lib.bytesWorld, World.freeze, if_neg (show ¬ (1 = 0) by decide), C]
  simp only [World.alloc, World.drew]
  congr 1
  apply Array.ext
  ·simp
  ·intro q hq1 hq2
   simp at hq1 hq2
   by_cases hq : q = w.heap.size
   ·subst hq; simp [Array.getElem_modify]
   ·have : q < w.heap.size := by omega
    simp [Array.getElem_modify, Array.getElem_push, this, Ne.symm hq]
 have hsz : b.size ≤ C.size := by simp [C, Lib.bytesCells]
 have hk0 : Keeps (fun _ => False) w w.drew := Keeps.drew _ w
 have hs' := hs.grow hk0
 have hrep : RepL w.drew (okOf Γ.X σ β w.drew) (bs (bytesOf b)) β ((bytesOf b).map (Value.int .u8)) := by
  have : bs (bytesOf b) = ((bytesOf b).map (Value.int .u8)).map .leaf := by simp [bs]
  rw [this]; exact RepL.leaves _
 have hlen : (bs (bytesOf b)).length = b.size := by simp [bs, bytesOf]
 have hsim := hs'.new (c := C) (el := e) (fr := (C.size, C.size + 1)) hd' hdS (E := C.size) (Nat.le_refl _) (by rw [hlen]; exact hsz) (.inr (Nat.le_refl _)) hrep (fun j v hv => by
  obtain ⟨hj, e'⟩ := List.getElem?_eq_some_iff.1 hv
  simp [bytesOf] at hj e'
  simp [C, Lib.bytesCells, Array.getElem?_append, hj, e']) (by simp [idsL_bs])
 refine ⟨.slice (some ⟨w.heap.size, 0, none⟩) b.size (grownCap w b.size 0 e), w.drew.alloc (.cells C e (C.size, C.size + 1)), _, .inl ?_, hsim, ?_, by simp [T.ids, St.puts, St.drops, upd]⟩
 ·simp only [execOp, ho, e1]
  refine run_v ?_
  rw [hrun, hworld]
 ·simp only [Rep, reals, if_true]
  have hcap : C.size = grownCap w b.size 0 e := by
   have := grownCap_ge w b.size 0 e
   simp only [C, Lib.bytesCells, Array.size_append, Array.size_map, Array.size_replicate]
   show b.size + _ = _
   omega
  exact ⟨_, _, rfl, grownCap_ge w b.size 0 e, by omega, .inr rfl⟩
theorem acts_convSS {s e : TypeId} {x : Operand} {id m off n : Nat} {cs : List T} {i i' : TI} (ho : o.op = .convert s s x) (hx : ev x = some (.ref id m off n)) (hs0 : TOk P s i) (hk : i.k = .slice e) (he : TOk P e i') (hk' : i'.k = .int .u8) (hr : id ∈ reads) (hid : h id = some cs) (hm : 0 < m) (hn : 0 < n) :
  Acts P o ev h reads { val := .ref id m off n, puts := [(id, cs)], stay := [id] } := by
 refine acts_of fun Γ σ β a w hP hev hh hnw hs => ?_
 have hid' : σ.h id = some cs := by rw [hh id hr, hid]
 have hrep := hs.ev (show σ.ev x = some (.ref id m off n) by rw [hev x (by simp [ho, Op.operands]), hx])
 obtain ⟨d2, h3, h4, _⟩ := he.und
 rw [hk'] at h4; simp only [kOk] at h4; subst h4
 obtain ⟨d3, h5, h6, _⟩ := hs0.und
 rw [hk] at h6; simp only [kOk] at h6; subst h6
 cases hb : β id with
 | ph =>
  simp only [Rep, hb] at hrep
  omega
 | real b ob E =>
  have hrep0 := hrep
  simp only [Rep, hb] at hrep
  obtain ⟨ad, cap, hv, hnc, hcap, had⟩ := hrep
  have had := had.resolve_left (by omega)
  subst had
  obtain ⟨c, el, fr, vs, g1, g2, g3, g4, g5, g6⟩ := obj_open hs hid' hb
  obtain ⟨lo, hi⟩ := fr
  let fr' : Nat × Nat := if lo == hi then (c.size, c.size + 1) else (min lo c.size, max hi (c.size + 1))
  let w' : World := w.freeze ⟨b, c.size, none⟩ 1
  have hb' : w'.heap[b]? = some (.cells c el fr') := by
   simp only [w', World.freeze, if_neg (show ¬ (1 = 0) by decide), Array.getElem?_modify, if_true, g1, Option.map_some]
   rfl
  have hne : ∀ j, j ≠ b → w'.heap[j]? = w.heap[j]? := fun j hj => by
   simp only [w', World.freeze, if_neg (show ¬ (1 = 0) by decide), Array.getElem?_modify, if_neg (Ne.symm hj)]
  have hsize : w'.heap.size = w.heap.size := by simp only [w', World.freeze, if_neg (show ¬ (1 = 0) by decide), Array.size_modify]
  have hkeep : Keeps (fun q => q = b) w w' := ⟨rfl, rfl, rfl, by rw [hsize]; exact Nat.le_refl _, fun j _ hj => hne j hj⟩
  have hfr : fr'.1 = fr'.2 ∨ c.size ≤ fr'.1 := by
   simp only [fr']
   rcases g4 _ _ _ _ g1 with q | q
   ·right; rw [if_pos (by simpa using q)]; exact Nat.le_refl _
   ·right; split
    ·exact Nat.le_refl _
    ·exact Nat.le_min.2 ⟨q, Nat.le_refl _⟩
  have hcell : ∀ j, w'.cell? ⟨b, j, none⟩ = w.cell? ⟨b, j, none⟩ := fun j => by simp only [World.cell?, hb', g1]
  have hsim := hs.change (cs' := cs) hid' hb hkeep hb' g2 g3 (fun c1 e1 lo1 hi1 q => by rw [hb'] at q; simp only [Option.some.injEq, Obj.cells.injEq] at q; obtain ⟨rfl, rfl, q⟩ := q; rw [q] at hfr; exact hfr) g5 (fun j v hv => by rw [hcell]; exact g6 j v hv) (fun j hj => hs.wfh id cs hid' j hj)
  refine ⟨a.eval x, w', β, .inl ?_, hsim, ?_, fun j hj => ?_⟩
  ·simp only [execOp, ho, hv]
   refine run_v ?_
   have hshape : w.shape? b = some (el, c.size) := by simp only [World.shape?, g1]
   simp [convert, run_underlying h5, run_underlying h3, markStringish, hshape, w']
  ·simp only [Rep, hb]
   exact ⟨_, cap, hv, hnc, hcap, .inr rfl⟩
  ·simp only [T.ids, List.mem_singleton] at hj
   subst hj
   simp [St.drops, St.puts, upd]
def lenT : T → Option Nat
 | .leaf (.string s) => some s.size
 | .leaf (.slice none 0 0) => some 0
 | .e0 => some 0
 | .sl _ _ m _ => some m
 | .ref _ _ _ m => some m
 | _ => none
theorem acts_lenSrc {t : TypeId} {x : Operand} {tx : T} {n : Nat} {i : TI} (ho : o.op = .call { callee := .builtin .len, args := #[x], argTypes := #[t] }) (hx : ev x = some tx) (ht : TOk P t i) (hk : (∃ e, i.k = .slice e) ∨ i.k = .str)
  (hn : lenT tx = some n) (hks : (∃ s, tx = .leaf (.string s)) ↔ i.k = .str) :
  Acts P o ev h reads { val := .leaf (.int .i64 n) } := by
 refine acts_value fun Γ σ β a w hP hev hh hs => ⟨.int .i64 n, ?_, by simp [Rep], by simp [T.ids]⟩
 have e1 : σ.ev x = some tx := by rw [hev x (by simp [ho, Op.operands, Call.operands]), hx]
 have hrep := hs.ev e1
 obtain ⟨d1, h1, h2, _⟩ := ht.und
 have hrun : (Builtin.len_ #[t] o.type #[a.eval x]).run P w = .ok (goInt n) w := by
  by_cases hstr : i.k = .str
  ·obtain ⟨s, rfl⟩ := hks.2 hstr
   simp only [Rep] at hrep
   rw [hstr] at h2; simp only [kOk] at h2; subst h2
   simp only [lenT, Option.some.injEq] at hn; subst hn
   simp [Builtin.len_, hrep, run_underlying h1]
  ·obtain ⟨e, hk⟩ := hk.resolve_right hstr
   rw [hk] at h2; simp only [kOk] at h2; subst h2
   have : ∃ ad c, a.eval x = .slice ad n c := by
    cases tx with
    | leaf v =>
     simp only [Rep] at hrep
     cases v with
     | string s => exact absurd (hks.1 ⟨_, rfl⟩) hstr
     | slice ad n' c =>
      rw [hrep]
      cases ad with
      | some _ => simp [lenT] at hn
      | none =>
       cases n' with
       | succ _ => simp [lenT] at hn
       | zero =>
        cases c with
        | succ _ => simp [lenT] at hn
        | zero => exact ⟨none, 0, by rw [show n = 0 by simpa [lenT] using hn.symm]⟩
     | _ => simp [lenT] at hn
    | e0 => simp only [Rep] at hrep; obtain ⟨ad, hv⟩ := hrep; exact ⟨ad, 0, by rw [hv, show n = 0 by simpa [lenT] using hn.symm]⟩
    | sl m g n' cs => simp only [Rep] at hrep; obtain ⟨_, ad, cap, hv, _⟩ := hrep; exact ⟨ad, cap, by rw [hv, show n = n' by simpa [lenT] using hn.symm]⟩
    | ref id m off n' =>
     simp only [Rep] at hrep
     cases hb : β id with
     | ph => rw [hb] at hrep; obtain ⟨_, h0, ad, hv⟩ := hrep; exact ⟨ad, 0, by rw [hv, show n = n' by simpa [lenT] using hn.symm, h0]⟩
     | real b ob E => rw [hb] at hrep; obtain ⟨ad, cap, hv, _⟩ := hrep; exact ⟨ad, cap, by rw [hv, show n = n' by simpa [lenT] using hn.symm]⟩
    | _ => simp [lenT] at hn
   obtain ⟨ad, c, hv⟩ := this
   simp [Builtin.len_, hv, run_underlying h1]
 simp only [execOp, ho, resolve, Sem.run_bind, Sem.run_pure, Result.andThen_ok, invoke, builtin]
 simp [hrun, goInt]
theorem acts_lenArr {t el : TypeId} {x : Operand} {n : Nat} {i : TI} (ho : o.op = .call { callee := .builtin .len, args := #[x], argTypes := #[t] }) (ht : TOk P t i) (hk : i.k = .array n el) : Acts P o ev h reads { val := .leaf (.int .i64 n) } := by
 refine acts_value fun Γ σ β a w hP hev hh hs => ⟨.int .i64 n, ?_, by simp [Rep], by simp [T.ids]⟩
 obtain ⟨d1, h1, h2, _⟩ := ht.und
 rw [hk] at h2; simp only [kOk] at h2; subst h2
 simp only [execOp, ho, resolve, Sem.run_bind, Sem.run_pure, Result.andThen_ok, invoke, builtin]
 simp [Builtin.len_, run_underlying h1, goInt]
theorem acts_capNil {t el : TypeId} {x : Operand} {i : TI} (ho : o.op = .call { callee := .builtin .cap, args := #[x], argTypes := #[t] }) (hx : ev x = some (.leaf (.slice none 0 0))) (ht : TOk P t i) (hk : i.k = .slice el) : Acts P o ev h reads { val := .leaf (.int .i64 0) } := by
 refine acts_value fun Γ σ β a w hP hev hh hs => ⟨.int .i64 0, ?_, by simp [Rep], by simp [T.ids]⟩
 have hv : a.eval x = .slice none 0 0 := by simpa [Rep] using hs.ev (show σ.ev x = some (.leaf (.slice none 0 0)) by rw [hev x (by simp [ho, Op.operands, Call.operands]), hx])
 obtain ⟨d1, h1, h2, _⟩ := ht.und
 rw [hk] at h2; simp only [kOk] at h2; subst h2
 simp only [execOp, ho, resolve, Sem.run_bind, Sem.run_pure, Result.andThen_ok, invoke, builtin]
 simp [Builtin.cap_, hv, run_underlying h1, goInt]
theorem acts_minmax {b : Builtin} {ts : Array TypeId} {x y : Operand} {k k' : IntKind} {p q : Int} (ho : o.op = .call { callee := .builtin b, args := #[x, y], argTypes := ts }) (hb : b = .min ∨ b = .max) (hx : ev x = some (.leaf (.int k p))) (hy : ev y = some (.leaf (.int k' q))) :
  Acts P o ev h reads { val := .leaf (.int k (if b = .min then (if q < p then q else p) else (if q > p then q else p))) } := by
 refine acts_leaf fun ac w H => ?_
 have e1 := H x (by simp [ho, Op.operands, Call.operands]) _ hx
 have e2 := H y (by simp [ho, Op.operands, Call.operands]) _ hy
 simp only [execOp, ho, resolve, Sem.run_bind, Sem.run_pure, Result.andThen_ok, invoke, builtin]
 rcases hb with rfl | rfl
 ·simp [builtin, Builtin.min_, Builtin.min2, e1, e2]
 ·simp [builtin, Builtin.max_, Builtin.max2, e1, e2]
def evL (ev : Operand → Option T) : List Operand → Option (List T)
 | [] => some []
 | x :: l => match ev x, evL ev l with | some t, some r => some (t :: r) | _, _ => none
theorem evL_congr {ev ev' : Operand → Option T} : ∀ {ps : List Operand}, (∀ p ∈ ps, ev p = ev' p) → evL ev ps = evL ev' ps
 | [], _ => rfl
 | x :: l, h => by simp only [evL]; rw [h x (by simp), evL_congr (fun p hp => h p (by simp [hp]))]
theorem evL_rep {Γ : Cx} {σ : St} {β : Nat → Real} {a : Act} {w : World} (hs : SimB Γ σ β a w) : ∀ {ps : List Operand} {ts : List T}, evL σ.ev ps = some ts → RepL w (okOf Γ.X σ β w) ts β (ps.map a.eval) ∧ ∀ i ∈ idsL ts, σ.h i ≠ none
 | [], ts, h => by simp only [evL, Option.some.injEq] at h; subst h; simp [RepL, idsL]
 | x :: l, ts, h => by
  simp only [evL] at h
  split at h
  ·rename_i t r e1 e2
   injection h with h; subst h
   obtain ⟨h1, h2⟩ := evL_rep hs e2
   simp only [List.map_cons, RepL, idsL, List.mem_append]
   exact ⟨⟨_, _, rfl, hs.ev e1, h1⟩, fun i hi => hi.elim (hs.ev_ids e1 i) (h2 i)⟩
  ·simp at h
theorem acts_makeFunc {fn : Fn} {p q : Array Operand} {ps qs : List T} (ho : o.op = .makeFunc fn p q) (hp : evL ev p.toList = some ps) (hq : evL ev q.toList = some qs) : Acts P o ev h reads { val := .fn fn ps qs } := by
 refine acts_value fun Γ σ β a w hP hev hh hs => ?_
 have hp' : evL σ.ev p.toList = some ps := by rw [evL_congr (fun x hx => hev x (by simp [ho, Op.operands]; exact .inl (by simpa using hx))), hp]
 have hq' : evL σ.ev q.toList = some qs := by rw [evL_congr (fun x hx => hev x (by simp [ho, Op.operands]; exact .inr (by simpa using hx))), hq]
 obtain ⟨r1, i1⟩ := evL_rep hs hp'
 obtain ⟨r2, i2⟩ := evL_rep hs hq'
 refine ⟨.func fn (p.map a.eval) (q.map a.eval), ?_, ?_, ?_⟩
 ·simp [execOp, ho, Instr.makeFunc]
 ·simp only [Rep]
  exact ⟨p.toList.map a.eval, q.toList.map a.eval, by rw [← Array.toList_map, ← Array.toList_map], r1, r2⟩
 ·simp only [T.ids, List.mem_append]; exact fun i hi => hi.elim (i1 i) (i2 i)
def eqTo (p q : T) (c : Bool) : Option Bool :=
 match p, q with
 | .leaf .nilIface, .leaf .nilIface => if c then some true else none
 | .leaf .nilIface, .iface _ _ => some false
 | .iface _ _, .leaf .nilIface => some false
 | .leaf (.pointer none), .leaf (.pointer none) => some true
 | .leaf (.pointer none), .addr _ _ => some false
 | .leaf (.pointer none), .pt _ _ _ => some false
 | .addr _ _, .leaf (.pointer none) => some false
 | .pt _ _ _, .leaf (.pointer none) => some false
 | .leaf (.slice none _ _), .leaf (.slice none 0 0) => some true
 | .leaf (.slice (some _) _ _), .leaf (.slice none 0 0) => some false
 | .sl _ _ _ _, .leaf (.slice none 0 0) => some false
 | _, _ => none
def eqK (p : T) (k : K) : Prop :=
 match p with
 | .leaf .nilIface | .iface _ _ => k = .iface
 | .leaf (.slice ..) => ∃ e, k = .slice e
 | .sl _ _ n _ => 0 < n ∧ ∃ e, k = .slice e
 | _ => ∃ e, k = .ptr e
def isConstOp : Operand → Bool | .const _ => true | _ => false
theorem acts_eqTo {op : BinOp} {t yt : TypeId} {x y : Operand} {p q : T} {r : Bool} {i : TI} (ho : o.op = .binOp op t x y yt) (hop : op = .eql ∨ op = .neq) (hx : ev x = some p) (hy : ev y = some q) (ht : TOk P t i)
  (hk : eqK p i.k) (hr : eqTo p q (isConstOp x || isConstOp y) = some r) :
  Acts P o ev h reads { val := .leaf (.bool (if op = .eql then r else !r)) } := by
 refine acts_value fun Γ σ β a w hP hev hh hs => ⟨.bool (if op = .eql then r else !r), ?_, by simp only [Rep], by simp [T.ids]⟩
 have e1 : σ.ev x = some p := by rw [hev x (by simp [ho, Op.operands]), hx]
 have e2 : σ.ev y = some q := by rw [hev y (by simp [ho, Op.operands]), hy]
 have r1 := hs.ev e1
 have r2 := hs.ev e2
 obtain ⟨d, h1, h2, _⟩ := ht.und
 simp only [execOp, ho]
 refine run_v ?_
 have key : (eqGuard op t x y (a.eval x) (a.eval y)).run P w = .ok () w ∧ (∀ n, (Op.equalIn (n + 1) t (a.eval x) (a.eval y)).run P w = .ok r w) ∧ binOp .eql t (a.eval x) (a.eval y) = (do pure (.bool (← Op.equal t (a.eval x) (a.eval y)))) ∧ binOp .neq t (a.eval x) (a.eval y) = (do pure (.bool (!(← Op.equal t (a.eval x) (a.eval y))))) := by
  unfold eqTo at hr
  split at hr
  ·-- both nil
   simp only [Rep] at r1 r2
   simp only [eqK] at hk; rw [hk] at h2; simp only [kOk] at h2; obtain ⟨ms, rfl⟩ := h2
   split at hr
   ·rename_i hc
    injection hr with hr; subst hr
    rw [r1, r2]
    refine ⟨?_, fun n => by simp [Op.equalIn, run_underlying h1], rfl, rfl⟩
    cases x <;> cases y <;> first | (simp [isConstOp] at hc; done) | (rcases hop with rfl | rfl <;> simp [eqGuard])
   ·simp at hr
  ·simp only [Rep] at r1 r2
   simp only [eqK] at hk; rw [hk] at h2; simp only [kOk] at h2; obtain ⟨ms, rfl⟩ := h2
   obtain ⟨z, r2, _⟩ := r2
   injection hr with hr; subst hr
   rw [r1, r2]
   exact ⟨by rcases hop with rfl | rfl <;> simp [eqGuard], fun n => by simp [Op.equalIn, run_underlying h1], rfl, rfl⟩
  ·simp only [Rep] at r1 r2
   simp only [eqK] at hk; rw [hk] at h2; simp only [kOk] at h2; obtain ⟨ms, rfl⟩ := h2
   obtain ⟨z, r1, _⟩ := r1
   injection hr with hr; subst hr
   rw [r1, r2]
   exact ⟨by rcases hop with rfl | rfl <;> simp [eqGuard], fun n => by simp [Op.equalIn, run_underlying h1], rfl, rfl⟩
  ·simp only [Rep] at r1 r2
   simp only [eqK] at hk; obtain ⟨e, hk⟩ := hk; rw [hk] at h2; simp only [kOk] at h2; subst h2
   injection hr with hr; subst hr
   rw [r1, r2]
   exact ⟨by rcases hop with rfl | rfl <;> simp [eqGuard], fun n => by simp [Op.equalIn, run_underlying h1], rfl, rfl⟩
  ·simp only [Rep] at r1 r2
   simp only [eqK] at hk; obtain ⟨e, hk⟩ := hk; rw [hk] at h2; simp only [kOk] at h2; subst h2
   injection hr with hr; subst hr
   split at r2
   ·exact r2.elim
   ·rw [r1, r2]
    exact ⟨by rcases hop with rfl | rfl <;> simp [eqGuard], fun n => by simp [Op.equalIn, run_underlying h1], rfl, rfl⟩
  ·simp only [Rep] at r1 r2
   simp only [eqK] at hk; obtain ⟨e, hk⟩ := hk; rw [hk] at h2; simp only [kOk] at h2; subst h2
   injection hr with hr; subst hr
   obtain ⟨_, b, ob, r2, _⟩ := r2
   rw [r1, r2]
   exact ⟨by rcases hop with rfl | rfl <;> simp [eqGuard], fun n => by simp [Op.equalIn, run_underlying h1], rfl, rfl⟩
  ·simp only [Rep] at r1 r2
   simp only [eqK] at hk; obtain ⟨e, hk⟩ := hk; rw [hk] at h2; simp only [kOk] at h2; subst h2
   injection hr with hr; subst hr
   split at r1
   ·exact r1.elim
   ·rw [r1, r2]
    exact ⟨by rcases hop with rfl | rfl <;> simp [eqGuard], fun n => by simp [Op.equalIn, run_underlying h1], rfl, rfl⟩
  ·simp only [Rep] at r1 r2
   simp only [eqK] at hk; obtain ⟨e, hk⟩ := hk; rw [hk] at h2; simp only [kOk] at h2; subst h2
   injection hr with hr; subst hr
   obtain ⟨_, b, ob, r1, _⟩ := r1
   rw [r1, r2]
   exact ⟨by rcases hop with rfl | rfl <;> simp [eqGuard], fun n => by simp [Op.equalIn, run_underlying h1], rfl, rfl⟩
  ·simp only [Rep] at r1 r2
   simp only [eqK] at hk; obtain ⟨e, hk⟩ := hk; rw [hk] at h2; simp only [kOk] at h2; subst h2
   injection hr with hr; subst hr
   rw [r1, r2]
   exact ⟨by rcases hop with rfl | rfl <;> simp [eqGuard], fun n => by simp [Op.equalIn, run_underlying h1], rfl, rfl⟩
  ·simp only [Rep] at r1 r2
   simp only [eqK] at hk; obtain ⟨e, hk⟩ := hk; rw [hk] at h2; simp only [kOk] at h2; subst h2
   injection hr with hr; subst hr
   rw [r1, r2]
   exact ⟨by rcases hop with rfl | rfl <;> simp [eqGuard], fun n => by simp [Op.equalIn, run_underlying h1], rfl, rfl⟩
  ·simp only [Rep] at r1 r2
   simp only [eqK] at hk; obtain ⟨h0, e, hk⟩ := hk; rw [hk] at h2; simp only [kOk] at h2; subst h2
   injection hr with hr; subst hr
   obtain ⟨_, ad, cap, r1, _, r3⟩ := r1
   obtain ⟨b, ob, rfl, _⟩ := r3.resolve_left (by omega)
   rw [r1, r2]
   exact ⟨by rcases hop with rfl | rfl <;> simp [eqGuard], fun n => by simp [Op.equalIn, run_underlying h1], rfl, rfl⟩
  ·simp at hr
 obtain ⟨k1, k2, k3, k4⟩ := key
 have k5 := run_equal_of k2
 rw [Sem.run_bind, k1]
 rcases hop with rfl | rfl
 ·simp only [Result.andThen_ok, k3, Sem.run_bind, k5, Sem.run_pure, if_true]
 ·simp only [Result.andThen_ok, k4, Sem.run_bind, k5, Sem.run_pure]; simp
end
end Go.Vw
namespace Go.Vw
open Go Go.RowKit
structure Env where
 P : Program
 ti : TypeId → TI
 ok : ∀ t, (ti t).k ≠ .no → TOk P t (ti t)
 sl : ∀ t e, (ti t).k = .slice e → (ti e).k ≠ .no
 ar : ∀ t n e, (ti t).k = .array n e → (ti e).k ≠ .no
 st : ∀ t fs, (ti t).k = .struct fs → ∀ f ∈ fs, (ti f.2).k ≠ .no
theorem Env.TOk (E : Env) {t : TypeId} (h : (E.ti t).k ≠ .no) : Vw.TOk E.P t (E.ti t) := E.ok t h
def putL (h : Nat → Option (List T)) (S reads stay : List Nat) : List (Nat × List T) → Prop
 | [] => True
 | (i, _) :: l => (i ∈ stay ∨ (i ∉ S ∧ (i ∈ reads ∨ h i = none))) ∧ putL h S reads stay l
def putOk (σ : St) (S reads : List Nat) (e : Eff) : Prop := putL σ.h S reads e.stay e.puts
theorem putL_ok {h : Nat → Option (List T)} {S reads stay : List Nat} : ∀ {l : List (Nat × List T)}, putL h S reads stay l → ∀ p ∈ l, p.1 ∉ stay → p.1 ∉ S ∧ (p.1 ∉ reads → h p.1 = none)
 | (i, cs) :: l, hl, p, hp, hs => by
  simp only [putL] at hl
  rcases List.mem_cons.1 hp with rfl | hp
  ·obtain ⟨h1, h2⟩ := hl.1.resolve_left hs
   exact ⟨h1, fun hr => h2.resolve_left hr⟩
  ·exact putL_ok hl.2 p hp hs
def bindO {α : Type} (x : Option α) (F : α → Prop) : Prop := ∃ a, x = some a ∧ F a
theorem bindO_some {α : Type} (a : α) (F : α → Prop) : bindO (some a) F = F a := by simp [bindO]
@[congr] theorem bindO_congr {α : Type} {x y : Option α} {F : α → Prop} (h : x = y) : bindO x F = bindO y F := by rw [h]
def condB (b : Bool) (p q : Prop) : Prop := if b then p else q
theorem condB_true (p q : Prop) : condB true p q = p := by simp [condB]
theorem condB_false (p q : Prop) : condB false p q = q := by simp [condB]
@[congr] theorem condB_congr {b c : Bool} {p q : Prop} (h : b = c) : condB b p q = condB c p q := by rw [h]
def cutC (lo hi mx : Option Int) (n : Nat) (F : Nat → Nat → Nat → Prop) : Prop :=
 (0 ≤ lo.getD 0 ∧ lo.getD 0 ≤ hi.getD n ∧ hi.getD n ≤ mx.getD n ∧ mx.getD n ≤ n ∧ (mx ≠ none → hi ≠ none)) ∧ bindO (some ((lo.getD 0).toNat, (hi.getD n).toNat, (mx.getD n).toNat)) fun r => F r.1 r.2.1 r.2.2
theorem cutC_ok {lo hi mx : Option Int} {n : Nat} {F : Nat → Nat → Nat → Prop} (h : cutC lo hi mx n F) : ∃ l h m, cutOk lo hi mx n l h m ∧ F l h m := by
 obtain ⟨⟨h1, h2, h3, h4, h5⟩, h6⟩ := h
 rw [bindO_some] at h6
 exact ⟨(lo.getD 0).toNat, (hi.getD n).toNat, (mx.getD n).toNat, ⟨by omega, by omega, by omega, by omega, by omega, by omega, h5⟩, h6⟩
def eqC (ti : TypeId → TI) (op : BinOp) (t : TypeId) (x y : Operand) (K : T → Prop) (p q : T) : Prop :=
 (op = .eql ∨ op = .neq) ∧ eqK p (ti t).k ∧ bindO (eqTo p q (isConstOp x || isConstOp y)) fun r => bindO (some (if op = .eql then r else !r)) fun r => K (.leaf (.bool r))
def binC (ti : TypeId → TI) (op : BinOp) (t : TypeId) (x y : Operand) (K : T → Prop) : T → T → Prop
 | .leaf (.int k a), .leaf (.int k' b) => (isShift op = true ∨ k = k') ∧ bindO (binI op k a b) fun r => r.1 ∧ K (.leaf r.2)
 | .leaf (.string a), .leaf (.string b) => bindO (binS op a b) fun r => r.1 ∧ K (.leaf r.2)
 | .leaf (.bool a), .leaf (.bool b) => (ti t).k = .bool ∧ (op = .eql ∨ op = .neq) ∧ bindO (some (if op = .eql then a == b else a != b)) fun r => K (.leaf (.bool r))
 | p, q => eqC ti op t x y K p q
def partC (i : TI) (cs : List T) (off : Nat) (K : T → Prop) : Prop :=
 condB i.agg (off + i.size ≤ cs.length ∧ bindO (some (sub cs off i.size)) fun r => K (.agg r)) (bindO cs[off]? K)
theorem partC_ok {i : TI} {cs : List T} {off : Nat} {K : T → Prop} (h : partC i cs off K) : ∃ v, partOf i cs off v ∧ K v := by
 unfold partC condB at h
 unfold partOf
 split at h
 ·rename_i hi
  rw [bindO_some] at h
  exact ⟨_, by rw [if_pos hi]; exact ⟨h.1, rfl⟩, h.2⟩
 ·rename_i hi
  obtain ⟨v, h1, h2⟩ := h
  exact ⟨v, by rw [if_neg hi]; exact h1, h2⟩
def loadC (ti : TypeId → TI) (σ : St) (t : TypeId) (K : T → List Nat → Prop) : T → Prop
 | .addr id off => bindO (σ.h id) fun cs => partC (ti t) cs off fun v => K v [id]
 | .pt _ off cs => partC (ti t) cs off fun v => K v []
 | _ => False
def addrC (K : T → Prop) (fo : Nat) : T → Prop
 | .addr id off => bindO (some (off + fo)) fun r => K (.addr id r)
 | .pt g off cs => bindO (some (off + fo)) fun r => K (.pt g r cs)
 | _ => False
def fieldAddrC (ti : TypeId → TI) (f : Nat) (p : T) (K : T → Prop) : Vw.K → Prop
 | .struct fs => bindO fs[f]? fun r => (ti r.2).size ≠ 0 ∧ addrC K r.1 p
 | _ => False
def indexAddrC (ti : TypeId → TI) (n : Int) (K : T → Prop) : Vw.K → T → Prop
 | .array N el, .addr id off => (0 ≤ n ∧ n < N) ∧ bindO (some (off + n.toNat * (ti el).size)) fun r => K (.addr id r)
 | .array N el, .pt g off cs => (0 ≤ n ∧ n < N) ∧ bindO (some (off + n.toNat * (ti el).size)) fun r => K (.pt g r cs)
 | .slice el, .ref id m off N => (ti el).size = m ∧ (0 ≤ n ∧ n < N) ∧ bindO (some (off + n.toNat * m)) fun r => K (.addr id r)
 | .slice el, .sl m g N cs => (ti el).size = m ∧ (0 ≤ n ∧ n < N) ∧ bindO (some (n.toNat * m)) fun r => K (.pt g r cs)
 | _, _ => False
def indexC (ti : TypeId → TI) (n : Int) (K : T → Prop) : Vw.K → T → Prop
 | .array N el, .agg cs => (0 ≤ n ∧ n < N) ∧ partC (ti el) cs (n.toNat * (ti el).size) K
 | .str, .leaf (.string b) => 0 ≤ n ∧ bindO b[n.toNat]? fun c => K (.leaf (.int .u8 c.toNat))
 | _, _ => False
def sliceC (ti : TypeId → TI) (σ : St) (lo hi mx : Option Int) (nomx : Bool) (K : T → List Nat → Prop) : Vw.K → T → Prop
 | .slice el, .ref id m off n => (ti el).size = m ∧ cutC lo hi mx n fun l h _ => bindO (some (T.ref id m (off + l * m) (h - l))) fun v => K v []
 | .slice el, .sl m g n cs => (ti el).size = m ∧ cutC lo hi mx n fun l h mm => bindO (some (if mx ≠ none ∧ l = mm then T.e0 else .sl m g (h - l) (sub cs (l * m) ((h - l) * m)))) fun v => K v []
 | .slice _, .leaf (.slice none 0 0) => cutC lo hi mx 0 fun _ _ _ => K (.leaf (.slice none 0 0)) []
 | .array N el, .addr id off => bindO (σ.h id) fun cs => off + N * (ti el).size ≤ cs.length ∧ cutC lo hi mx N fun l h _ => bindO (some (T.ref id (ti el).size (off + l * (ti el).size) (h - l))) fun v => K v [id]
 | .str, .leaf (.string s) => nomx = true ∧ cutC lo hi none s.size fun l h _ => bindO (some (s.extract l h)) fun r => K (.leaf (.string r)) []
 | _, _ => False
def bytesC (cs : List T) (K : List Int → Prop) : Prop := ∃ l, cs = bs l ∧ K l
@[congr] theorem bytesC_congr {cs ds : List T} {K : List Int → Prop} (h : cs = ds) : bytesC cs K = bytesC ds K := by rw [h]
def isStr : T → Bool | .leaf (.string _) => true | _ => false
def convC (ti : TypeId → TI) (σ : St) (dst : Option Nat) (K : Eff → List Nat → Prop) : Vw.K → Vw.K → T → Prop
 | .int _, .int k', .leaf (.int _ n) => bindO (some (k'.wrap n)) fun r => K { val := .leaf (.int k' r) } []
 | .str, .str, .leaf (.string b) => K { val := .leaf (.string b) } []
 | .slice e, .str, p => (ti e).k = .int .u8 ∧ isStr p = false ∧ bindO (srcOf σ.h p) fun r => srcFits σ.h 1 p ∧ bytesC r.2 fun l => K { val := .leaf (.string (strOf l)) } p.ids
 | .str, .slice e, .leaf (.string b) => (ti e).k = .int .u8 ∧ bindO dst fun d => K { val := .ref d 1 0 b.size, puts := [(d, bs (bytesOf b))] } []
 | _, _, _ => False
def appendD (σ : St) (i : TI) (q : T) (d : Nat) (k : Nat) (cs : List T) (K : Eff → List Nat → Prop) : T → Prop
 | .leaf (.slice none 0 0) => k * i.bytes ≤ 140737488355328 ∧ d ∉ q.ids ∧ K { val := .ref d i.size 0 k, puts := [(d, cs)] } q.ids
 | .e0 => k * i.bytes ≤ 140737488355328 ∧ d ∉ q.ids ∧ K { val := .ref d i.size 0 k, puts := [(d, cs)] } q.ids
 | .ref id m off n => i.size = m ∧ bindO (σ.h id) fun c0 => off + n * m ≤ c0.length ∧ scalL cs = true ∧ (n + k) * i.bytes ≤ 140737488355328 ∧ (d = id ∨ d ∉ q.ids) ∧
   bindO (some (sub c0 off (n * m) ++ cs)) fun r => id ∉ idsL r ∧ K { val := .ref d m 0 (n + k), drops := [id], puts := [(d, r)] } (id :: q.ids)
 | _ => False
def strOrSlice : K → Bool | .slice _ => true | .str => true | _ => false
def appendC (ti : TypeId → TI) (σ : St) (u : TypeId) (p q : T) (dst : Option Nat) (K : Eff → List Nat → Prop) : Vw.K → Prop
 | .slice el => strOrSlice (ti u).k = true ∧ bindO dst fun d => bindO (srcOf σ.h q) fun r => srcFits σ.h (ti el).size q ∧ 0 < (ti el).bytes ∧ appendD σ (ti el) q d r.1 r.2 K p
 | _ => False
def copyC (ti : TypeId → TI) (σ : St) (q : T) (K : Eff → List Nat → Prop) : Vw.K → T → Prop
 | .slice el, .ref id m off n => (ti el).size = m ∧ bindO (σ.h id) fun c0 => off + n * m ≤ c0.length ∧ bindO (srcOf σ.h q) fun r => srcFits σ.h m q ∧ scalL r.2 = true ∧
   bindO (some (splice c0 off (r.2.take (min r.1 n * m)))) fun cs => bindO (some (min r.1 n)) fun j => K { val := .leaf (.int .i64 j), puts := [(id, cs)], stay := [id] } (id :: q.ids)
 | _, _ => False
def lenC (σ : St) (x : Operand) (K : Eff → List Nat → Prop) : Vw.K → Prop
 | .array n _ => K { val := .leaf (.int .i64 n) } []
 | .slice _ => bindO (σ.ev x) fun p => bindO (lenT p) fun n => isStr p = false ∧ K { val := .leaf (.int .i64 n) } []
 | .str => bindO (σ.ev x) fun p => bindO (lenT p) fun n => isStr p = true ∧ K { val := .leaf (.int .i64 n) } []
 | _ => False
def capC (K : Eff → List Nat → Prop) : Vw.K → T → Prop
 | .slice _, .leaf (.slice none 0 0) => K { val := .leaf (.int .i64 0) } []
 | _, _ => False
def minmaxC (mn : Bool) (K : Eff → List Nat → Prop) : T → T → Prop
 | .leaf (.int k p), .leaf (.int _ q) => bindO (some (if mn then (if q < p then q else p) else (if q > p then q else p))) fun r => K { val := .leaf (.int k r) } []
 | _, _ => False
def builtinC (ti : TypeId → TI) (σ : St) (dst : Option Nat) (K : Eff → List Nat → Prop) : Builtin → List Operand → List TypeId → Prop
 | .len, [x], [t] => bindO (some (ti t).k) fun k => lenC σ x K k
 | .cap, [x], [t] => bindO (some (ti t).k) fun k => bindO (σ.ev x) fun p => capC K k p
 | .append, [x, y], [t, u] => bindO (σ.ev x) fun p => bindO (σ.ev y) fun q => bindO (some (ti t).k) fun k => appendC ti σ u p q dst K k
 | .copy, [x, y], [t, _] => bindO (σ.ev x) fun p => bindO (σ.ev y) fun q => bindO (some (ti t).k) fun k => copyC ti σ q K k p
 | .min, [x, y], _ => bindO (σ.ev x) fun p => bindO (σ.ev y) fun q => minmaxC true K p q
 | .max, [x, y], _ => bindO (σ.ev x) fun p => bindO (σ.ev y) fun q => minmaxC false K p q
 | _, _, _ => False
def callC (P : Program) (σ : St) (op : Op) (dst : Option Nat) (K : Eff → List Nat → Prop) : Prop := ∃ e reads, (∀ o : Oper, o.op = op → o.dst = dst → Acts P o σ.ev σ.h reads e) ∧ K e reads
@[congr] theorem callC_congr {P : Program} {σ : St} {op : Op} {dst : Option Nat} {K : Eff → List Nat → Prop} : callC P σ op dst K = callC P σ op dst K := rfl
def boolC (F : Bool → Prop) : T → Prop
 | .leaf (.bool b) => F b
 | _ => False
def intC (F : Int → Prop) : T → Prop
 | .leaf (.int _ n) => F n
 | _ => False
def tupC (F : List T → Prop) : T → Prop
 | .tup cs => F cs
 | _ => False
def aggC (F : List T → Prop) : T → Prop
 | .agg cs => F cs
 | _ => False
def buildC (E : Env) (t : TypeId) (ts : List (Nat × T)) (K : Eff → List Nat → Prop) : Vw.K → Prop
 | .struct fs => bindO (fillT (fun n => (fs[n]?).map fun f => (f.1, (E.ti f.2).size)) ((E.ti t).zero.map .leaf) ts) fun cs => K { val := .agg cs } []
 | .array _ el => bindO (fillT (fun n => some (n * (E.ti el).size, (E.ti el).size)) ((E.ti t).zero.map .leaf) ts) fun cs => K { val := .agg cs } []
 | _ => False
def buildSliceC (E : Env) (len : Nat) (ts : List (Nat × T)) (d : Nat) (K : Eff → List Nat → Prop) : Vw.K → Prop
 | .slice el => len * (E.ti el).size ≤ 16777216 ∧ bindO (fillT (fun n => some (n * (E.ti el).size, (E.ti el).size)) (zerosT (E.ti el).zero len) ts) fun cs => bindO (some (E.ti el).size) fun m => K { val := .ref d m 0 len, puts := [(d, cs)] } []
 | _ => False
def storeC (i : TI) (σ : St) (v : T) (K : Eff → List Nat → Prop) : T → Prop
 | .addr id off => bindO (σ.h id) fun cs => v.cellOk = true ∧ scalL v.cells = true ∧ v.cells.length = i.size ∧ off + v.cells.length ≤ cs.length ∧ bindO (some (splice cs off v.cells)) fun r => K { val := .dead, puts := [(id, r)], stay := [id] } [id]
 | _ => False
def unC (K : Eff → List Nat → Prop) : UnOp → T → Prop
 | .not, .leaf (.bool b) => K { val := .leaf (.bool !b) } []
 | .neg, .leaf (.int k n) => K { val := .leaf (.int k (k.wrap (0 - n))) } []
 | .xor, .leaf (.int k n) => K { val := .leaf (.int k (k.wrap (BitVec.ofInt k.bits (if k.signed then -1 else k.max) ^^^ BitVec.ofInt k.bits n).toNat)) } []
 | _, _ => False
def makeSliceC (E : Env) (n c : Int) (d : Nat) (K : Eff → List Nat → Prop) : Vw.K → Prop
 | .slice el => (0 ≤ n ∧ n ≤ c ∧ c < 9223372036854775808 ∧ ((E.ti el).bytes : Int) * c ≤ 281474976710656) ∧ bindO (some (zerosT (E.ti el).zero n.toNat)) fun cs => bindO (some (E.ti el).size) fun m => K { val := .ref d m 0 n.toNat, puts := [(d, cs)] } []
 | _ => False
def fieldC (E : Env) (f : Nat) (cs : List T) (K : Eff → List Nat → Prop) : Vw.K → Prop
 | .struct fs => bindO fs[f]? fun r => partC (E.ti r.2) cs r.1 fun v => K { val := v } []
 | _ => False
def act (E : Env) (σ : St) (dst : Option Nat) (K : Eff → List Nat → Prop) : Op → Prop
 | .move x => bindO (σ.ev x) fun t => K { val := t } []
 | .assign x => bindO (σ.ev x) fun t => K { val := t } []
 | .pick c x y => bindO (σ.ev c) fun p => boolC (fun b => condB b (bindO (σ.ev x) fun t => K { val := t } []) (bindO (σ.ev y) fun t => K { val := t } [])) p
 | .alloc t => (E.ti t).k ≠ .no ∧ bindO dst fun d => bindO (some ((E.ti t).zero.map .leaf)) fun cs => K { val := .addr d 0, puts := [(d, cs)] } []
 | .box _ x => bindO (σ.ev x) fun v => bindO dst fun d => v.cellOk = true ∧ bindO (some v.cells) fun cs => K { val := .addr d 0, puts := [(d, cs)] } []
 | .build t ps => bindO (evP σ.ev ps.toList) fun ts => bindO (some (E.ti t).k) fun k => buildC E t ts K k
 | .buildSlice t len ps => bindO (evP σ.ev ps.toList) fun ts => bindO dst fun d => bindO (some (E.ti t).k) fun k => buildSliceC E len ts d K k
 | .load t x => (E.ti t).k ≠ .no ∧ bindO (σ.ev x) fun p => loadC E.ti σ t (fun v r => K { val := v } r) p
 | .store t x y => (E.ti t).k ≠ .no ∧ bindO (σ.ev x) fun p => bindO (σ.ev y) fun v => storeC (E.ti t) σ v K p
 | .nilCheck x => bindO (σ.ev x) fun p => p.isPtr = true ∧ K { val := p } []
 | .binOp op t x y _ => bindO (σ.ev x) fun p => bindO (σ.ev y) fun q => binC E.ti op t x y (fun v => K { val := v } []) p q
 | .unOp op _ x => bindO (σ.ev x) fun p => unC K op p
 | .convert s d x => bindO (σ.ev x) fun p => bindO (some (E.ti s).k) fun ks => bindO (some (E.ti d).k) fun kd => convC E.ti σ dst K ks kd p
 | .makeInterface t x => (E.ti t).k.concrete = true ∧ bindO (σ.ev x) fun v => K { val := .iface t v } []
 | .makeFunc fn p q => bindO (evL σ.ev p.toList) fun ps => bindO (evL σ.ev q.toList) fun qs => K { val := .fn fn ps qs } []
 | .makeSlice t x y => bindO (σ.ev x) fun p => bindO (σ.ev y) fun q => intC (fun n => intC (fun c => bindO dst fun d => bindO (some (E.ti t).k) fun k => makeSliceC E n c d K k) q) p
 | .slice t x lo hi mx => bindO (σ.ev x) fun p => bindO (evB σ.ev lo) fun rl => bindO (evB σ.ev hi) fun rh => bindO (evB σ.ev mx) fun rm => bindO (some (E.ti t).k) fun k => sliceC E.ti σ rl rh rm mx.isNone (fun v r => K { val := v } r) k p
 | .fieldAddr s x f => bindO (σ.ev x) fun p => bindO (some (E.ti s).k) fun k => fieldAddrC E.ti f p (fun v => K { val := v } []) k
 | .field s x f => bindO (σ.ev x) fun p => aggC (fun cs => bindO (some (E.ti s).k) fun k => fieldC E f cs K k) p
 | .indexAddr t x y => bindO (σ.ev x) fun p => bindO (σ.ev y) fun q => intC (fun n => bindO (some (E.ti t).k) fun k => indexAddrC E.ti n (fun v => K { val := v } []) k p) q
 | .index t x y => bindO (σ.ev x) fun p => bindO (σ.ev y) fun q => intC (fun n => bindO (some (E.ti t).k) fun k => indexC E.ti n (fun v => K { val := v } []) k p) q
 | .extract x i => bindO (σ.ev x) fun p => tupC (fun cs => bindO cs[i]? fun v => K { val := v } []) p
 | .call { callee := .builtin b, args := xs, argTypes := ts } => builtinC E.ti σ dst K b xs.toList ts.toList
 | .call { callee := .value f, args := xs, argTypes := ts } => callC E.P σ (.call { callee := .value f, args := xs, argTypes := ts }) dst K
 | .call { callee := .invoke r m, args := xs, argTypes := ts } => callC E.P σ (.call { callee := .invoke r m, args := xs, argTypes := ts }) dst K
 | _ => False
theorem intC_ok {F : Int → Prop} {p : T} (h : intC F p) : ∃ k n, p = .leaf (.int k n) ∧ F n := by
 unfold intC at h; split at h
 ·exact ⟨_, _, rfl, h⟩
 ·exact h.elim
theorem boolC_ok {F : Bool → Prop} {p : T} (h : boolC F p) : ∃ n, p = .leaf (.bool n) ∧ F n := by
 unfold boolC at h; split at h
 ·exact ⟨_, rfl, h⟩
 ·exact h.elim
theorem tupC_ok {F : List T → Prop} {p : T} (h : tupC F p) : ∃ n, p = .tup n ∧ F n := by
 unfold tupC at h; split at h
 ·exact ⟨_, rfl, h⟩
 ·exact h.elim
theorem aggC_ok {F : List T → Prop} {p : T} (h : aggC F p) : ∃ n, p = .agg n ∧ F n := by
 unfold aggC at h; split at h
 ·exact ⟨_, rfl, h⟩
 ·exact h.elim
theorem ne_no {k k' : K} (h : k = k') (h' : k' ≠ .no) : k ≠ .no := h ▸ h'
theorem isStr_false {p : T} (h : isStr p = false) : ∀ s, p ≠ .leaf (.string s) := by
 rintro s rfl; simp [isStr] at h
theorem isStr_true {p : T} (h : isStr p = true) : ∃ s, p = .leaf (.string s) := by
 unfold isStr at h; split at h
 ·exact ⟨_, rfl⟩
 ·simp at h
set_option maxHeartbeats 1000000 in
theorem act_sound {E : Env} {σ : St} {o : Oper} {R : Eff → List Nat → Prop} (h : act E σ o.dst R o.op) : ∃ e reads, Acts E.P o σ.ev σ.h reads e ∧ R e reads := by
 obtain ⟨dst, op, type, pos, after, guard⟩ := o
 simp only at h
 cases op
 case move x => simp only [act] at h; obtain ⟨t, h1, h2⟩ := h; exact ⟨_, _, acts_move (.inl rfl) h1, h2⟩
 case assign x => simp only [act] at h; obtain ⟨t, h1, h2⟩ := h; exact ⟨_, _, acts_move (.inr rfl) h1, h2⟩
 case pick c x y =>
  simp only [act] at h; obtain ⟨p, h1, h2⟩ := h
  obtain ⟨b, rfl, h3⟩ := boolC_ok h2
  cases b with
  | true => rw [condB_true] at h3; obtain ⟨t, h4, h5⟩ := h3; exact ⟨_, _, acts_pick rfl h1 (by simpa using h4), h5⟩
  | false => rw [condB_false] at h3; obtain ⟨t, h4, h5⟩ := h3; exact ⟨_, _, acts_pick rfl h1 (by simpa using h4), h5⟩
 case alloc t =>
  simp only [act, bindO_some] at h; obtain ⟨h0, d, h1, h3⟩ := h; subst h1
  exact ⟨_, _, acts_alloc rfl (E.TOk h0) (by simp), h3⟩
 case box t x =>
  simp only [act, bindO_some] at h; obtain ⟨v, h1, d, h2, h3, h4⟩ := h; subst h2
  exact ⟨_, _, acts_box rfl h1 h3 (by simp), h4⟩
 case build t ps =>
  simp only [act, bindO_some] at h; obtain ⟨ts, h1, h2⟩ := h
  unfold buildC at h2
  split at h2
  ·rename_i fs hk
   obtain ⟨cs, h3, h4⟩ := h2
   exact ⟨_, _, acts_buildS rfl (E.TOk (ne_no hk (by simp))) hk h1 (fun f hf => E.TOk (E.st _ _ hk f hf)) h3, h4⟩
  ·rename_i n el hk
   obtain ⟨cs, h3, h4⟩ := h2
   exact ⟨_, _, acts_buildA rfl (E.TOk (ne_no hk (by simp))) hk (E.TOk (E.ar _ _ _ hk)) h1 h3, h4⟩
  ·exact h2.elim
 case buildSlice t len ps =>
  simp only [act, bindO_some] at h; obtain ⟨ts, h1, d, h2, h3⟩ := h; subst h2
  unfold buildSliceC at h3
  split at h3
  ·rename_i el hk
   obtain ⟨h4, cs, h5, h6⟩ := h3
   rw [bindO_some] at h6
   have he := E.TOk (E.sl _ _ hk)
   exact ⟨_, _, acts_buildSlice rfl (E.TOk (ne_no hk (by simp))) hk he h1 he.zlen h4 h5 (by simp), h6⟩
  ·exact h3.elim
 case load t x =>
  simp only [act] at h; obtain ⟨h0, p, h1, h2⟩ := h
  unfold loadC at h2
  split at h2
  ·obtain ⟨cs, h3, h2⟩ := h2
   obtain ⟨v, h4, h5⟩ := partC_ok h2
   exact ⟨_, _, acts_load rfl (E.TOk h0) h1 (by simp) h3 h4, h5⟩
  ·obtain ⟨v, h4, h5⟩ := partC_ok h2
   exact ⟨_, _, acts_loadP rfl (E.TOk h0) h1 h4, h5⟩
  ·exact h2.elim
 case store t x y =>
  simp only [act] at h; obtain ⟨h0, p, h1, v, h2, h3⟩ := h
  unfold storeC at h3
  split at h3
  ·obtain ⟨cs, h3, h4, h5, h6, h7, h8⟩ := h3
   rw [bindO_some] at h8
   exact ⟨_, _, acts_store rfl (E.TOk h0) h1 h2 (by simp) h3 h4 h5 h6 h7, h8⟩
  ·exact h3.elim
 case nilCheck x => simp only [act] at h; obtain ⟨p, h1, h2, h3⟩ := h; exact ⟨_, _, acts_nilCheck rfl h1 h2, h3⟩
 case binOp op t x y yt =>
  simp only [act] at h; obtain ⟨p, h1, q, h2, h3⟩ := h
  unfold binC at h3
  split at h3
  ·obtain ⟨h4, ⟨C, v⟩, h5, h6, h7⟩ := h3; exact ⟨_, _, acts_binI rfl h1 h2 h4 h5 h6, h7⟩
  ·obtain ⟨⟨C, v⟩, h5, h6, h7⟩ := h3; exact ⟨_, _, acts_binS rfl h1 h2 h5 h6, h7⟩
  ·obtain ⟨h4, h5, h6⟩ := h3; rw [bindO_some] at h6; exact ⟨_, _, acts_binB rfl h1 h2 ⟨_, E.TOk (ne_no h4 (by simp)), h4⟩ h5, h6⟩
  ·unfold eqC at h3
   obtain ⟨h4, h5, r, h6, h7⟩ := h3
   rw [bindO_some] at h7
   have hne : (E.ti t).k ≠ .no := by
    unfold eqK at h5
    split at h5
    ·exact ne_no h5 (by simp)
    ·exact ne_no h5 (by simp)
    ·obtain ⟨e, h5⟩ := h5; exact ne_no h5 (by simp)
    ·obtain ⟨_, e, h5⟩ := h5; exact ne_no h5 (by simp)
    ·obtain ⟨e, h5⟩ := h5; exact ne_no h5 (by simp)
   exact ⟨_, _, acts_eqTo rfl h4 h1 h2 (E.TOk hne) h5 h6, h7⟩
 case unOp op t x =>
  simp only [act] at h; obtain ⟨p, h1, h2⟩ := h
  unfold unC at h2
  split at h2
  ·exact ⟨_, _, acts_not rfl h1, h2⟩
  ·exact ⟨_, _, acts_neg rfl h1, h2⟩
  ·exact ⟨_, _, acts_com rfl h1, h2⟩
  ·exact h2.elim
 case convert s d x =>
  simp only [act, bindO_some] at h; obtain ⟨p, h1, h2⟩ := h
  unfold convC at h2
  split at h2
  ·rename_i k0 k' k n hs hd
   rw [bindO_some] at h2
   exact ⟨_, _, acts_convI rfl h1 ⟨_, _, E.TOk (ne_no hs (by simp)), hs⟩ ⟨_, E.TOk (ne_no hd (by simp)), hd⟩, h2⟩
  ·rename_i b hs hd
   exact ⟨_, _, acts_convS rfl h1 ⟨_, E.TOk (ne_no hs (by simp)), hs⟩ ⟨_, E.TOk (ne_no hd (by simp)), hd⟩, h2⟩
  ·rename_i e p hs hd
   obtain ⟨h3, h4, ⟨n, cs⟩, h5, h6, l, h8, h7⟩ := h2
   simp only at h8; subst h8
   exact ⟨_, _, acts_convBS rfl h1 (E.TOk (ne_no hs (by simp))) hs (E.TOk (ne_no h3 (by simp))) h3 (E.TOk (ne_no hd (by simp))) hd (fun j hj => hj) (isStr_false h4) h5 h6, h7⟩
  ·rename_i e b hs hd
   obtain ⟨h3, dd, h5, h4⟩ := h2
   subst h5
   exact ⟨_, _, acts_convSB rfl h1 (E.TOk (ne_no hs (by simp))) hs (E.TOk (ne_no hd (by simp))) hd (E.TOk (ne_no h3 (by simp))) h3 (by simp), h4⟩
  ·exact h2.elim
 case makeInterface t x =>
  simp only [act] at h; obtain ⟨h0, v, h1, h2⟩ := h
  exact ⟨_, _, acts_makeIface rfl h1 ⟨_, E.TOk (fun e => by rw [e] at h0; simp [K.concrete] at h0), h0⟩, h2⟩
 case makeFunc fn p q => simp only [act] at h; obtain ⟨ps, h1, qs, h2, h3⟩ := h; exact ⟨_, _, acts_makeFunc rfl h1 h2, h3⟩
 case makeSlice t x y =>
  simp only [act, bindO_some] at h
  obtain ⟨p, h1, q, h2, ha⟩ := h
  obtain ⟨k, n, e1, hb⟩ := intC_ok ha
  obtain ⟨k', c, e2, hc⟩ := intC_ok hb
  subst e1 e2
  obtain ⟨d, h3, h⟩ := hc
  subst h3
  unfold makeSliceC at h
  split at h
  ·rename_i el hk
   obtain ⟨⟨h4, h5, h6, h7⟩, h8⟩ := h
   simp only [bindO_some] at h8
   have he := E.TOk (E.sl _ _ hk)
   exact ⟨_, _, acts_makeSlice rfl h1 h2 (E.TOk (ne_no hk (by simp))) hk he he.zlen h4 h5 h6 h7 (by simp), h8⟩
  ·exact h.elim
 case slice t x lo hi mx =>
  simp only [act, bindO_some] at h; obtain ⟨p, h1, rl, h2, rh, h3, rm, h4, h5⟩ := h
  unfold sliceC at h5
  split at h5
  ·rename_i el id m off n hk
   obtain ⟨h6, h7⟩ := h5
   obtain ⟨l, h, mm, h8, h9⟩ := cutC_ok h7
   rw [bindO_some] at h9
   exact ⟨_, _, acts_sliceRef rfl h1 h2 h3 h4 (E.TOk (ne_no hk (by simp))) hk (E.TOk (E.sl _ _ hk)) h6 h8, h9⟩
  ·rename_i el m g n cs hk
   obtain ⟨h6, h7⟩ := h5
   obtain ⟨l, h, mm, h8, h9⟩ := cutC_ok h7
   rw [bindO_some] at h9
   exact ⟨_, _, acts_sliceSl rfl h1 h2 h3 h4 (E.TOk (ne_no hk (by simp))) hk (E.TOk (E.sl _ _ hk)) h6 h8, h9⟩
  ·rename_i el hk
   obtain ⟨l, h, mm, h8, h9⟩ := cutC_ok h5
   have : l = 0 ∧ h = 0 ∧ mm = 0 := by obtain ⟨_, _, _, a, b, c, _⟩ := h8; omega
   obtain ⟨rfl, rfl, rfl⟩ := this
   exact ⟨_, _, acts_sliceNil rfl h1 h2 h3 h4 (E.TOk (ne_no hk (by simp))) hk (E.TOk (E.sl _ _ hk)) h8, h9⟩
  ·rename_i N el id off hk
   obtain ⟨cs, h6, h7, h8⟩ := h5
   obtain ⟨l, h, mm, h8, h9⟩ := cutC_ok h8
   rw [bindO_some] at h9
   exact ⟨_, _, acts_sliceArr rfl h1 h2 h3 h4 (E.TOk (ne_no hk (by simp))) hk (E.TOk (E.ar _ _ _ hk)) (by simp) h6 h7 h8, h9⟩
  ·rename_i s hk
   obtain ⟨h6, h7⟩ := h5
   obtain ⟨l, h, mm, h8, h9⟩ := cutC_ok h7
   rw [bindO_some] at h9
   cases mx with
   | some _ => simp at h6
   | none =>
    have hmm : mm = s.size := by obtain ⟨_, _, a, _⟩ := h8; simp at a; omega
    subst hmm
    exact ⟨_, _, acts_sliceStr rfl h1 h2 h3 (E.TOk (ne_no hk (by simp))) hk h8, h9⟩
  ·exact h5.elim
 case fieldAddr s x f =>
  simp only [act, bindO_some] at h; obtain ⟨p, h1, h2⟩ := h
  unfold fieldAddrC at h2
  split at h2
  ·rename_i fs hk
   obtain ⟨⟨fo, ft⟩, h3, h4, h5⟩ := h2
   have hft : (E.ti ft).k ≠ .no := E.st _ _ hk (fo, ft) (List.mem_of_getElem? h3)
   unfold addrC at h5
   split at h5
   ·rw [bindO_some] at h5; exact ⟨_, _, acts_fieldAddr rfl h1 (E.TOk (ne_no hk (by simp))) hk h3 (E.TOk hft) h4, h5⟩
   ·rw [bindO_some] at h5; exact ⟨_, _, acts_fieldAddrP rfl h1 (E.TOk (ne_no hk (by simp))) hk h3 (E.TOk hft) h4, h5⟩
   ·exact h5.elim
  ·exact h2.elim
 case field s x f =>
  simp only [act, bindO_some] at h; obtain ⟨p, h1, h⟩ := h
  obtain ⟨cs, rfl, h2⟩ := aggC_ok h
  unfold fieldC at h2
  split at h2
  ·rename_i fs hk
   obtain ⟨⟨fo, ft⟩, h3, h2⟩ := h2
   obtain ⟨v, h4, h5⟩ := partC_ok h2
   have hft : (E.ti ft).k ≠ .no := E.st _ _ hk (fo, ft) (List.mem_of_getElem? h3)
   exact ⟨_, _, acts_field rfl h1 (E.TOk (ne_no hk (by simp))) hk h3 (E.TOk hft) h4, h5⟩
  ·exact h2.elim
 case indexAddr t x y =>
  simp only [act, bindO_some] at h; obtain ⟨p, h1, q, h2, h⟩ := h
  obtain ⟨k, n, rfl, h3⟩ := intC_ok h
  unfold indexAddrC at h3
  split at h3
  ·rename_i N el id off hk
   obtain ⟨⟨h4, h5⟩, h6⟩ := h3
   rw [bindO_some] at h6
   exact ⟨_, _, acts_indexArr rfl h1 h2 (E.TOk (ne_no hk (by simp))) hk (E.TOk (E.ar _ _ _ hk)) h4 h5, h6⟩
  ·rename_i N el g off cs hk
   obtain ⟨⟨h4, h5⟩, h6⟩ := h3
   rw [bindO_some] at h6
   exact ⟨_, _, acts_indexArrP rfl h1 h2 (E.TOk (ne_no hk (by simp))) hk (E.TOk (E.ar _ _ _ hk)) h4 h5, h6⟩
  ·rename_i el id m off N hk
   obtain ⟨h3, ⟨h4, h5⟩, h6⟩ := h3
   rw [bindO_some] at h6
   exact ⟨_, _, acts_indexRef rfl h1 h2 (E.TOk (ne_no hk (by simp))) hk (E.TOk (E.sl _ _ hk)) h3 h4 h5, h6⟩
  ·rename_i el m g N cs hk
   obtain ⟨h3, ⟨h4, h5⟩, h6⟩ := h3
   rw [bindO_some] at h6
   exact ⟨_, _, acts_indexSl rfl h1 h2 (E.TOk (ne_no hk (by simp))) hk (E.TOk (E.sl _ _ hk)) h3 h4 h5, h6⟩
  ·exact h3.elim
 case index t x y =>
  simp only [act, bindO_some] at h; obtain ⟨p, h1, q, h2, h⟩ := h
  obtain ⟨k, n, rfl, h3⟩ := intC_ok h
  unfold indexC at h3
  split at h3
  ·rename_i N el cs hk
   obtain ⟨⟨h4, h5⟩, h3⟩ := h3
   obtain ⟨v, h6, h7⟩ := partC_ok h3
   exact ⟨_, _, acts_indexAgg rfl h1 h2 (E.TOk (ne_no hk (by simp))) hk (E.TOk (E.ar _ _ _ hk)) h4 h5 h6, h7⟩
  ·rename_i b hk
   obtain ⟨h4, c, h5, h6⟩ := h3
   exact ⟨_, _, acts_indexStr rfl h1 h2 (E.TOk (ne_no hk (by simp))) hk h4 h5, h6⟩
  ·exact h3.elim
 case extract x i =>
  simp only [act] at h; obtain ⟨p, h1, h⟩ := h
  obtain ⟨cs, rfl, v, h2, h3⟩ := tupC_ok h
  exact ⟨_, _, acts_extract rfl h1 h2, h3⟩
 case call c =>
  obtain ⟨cal, ⟨xs⟩, ⟨ts⟩⟩ := c
  cases cal with
  | value f => simp only [act] at h; obtain ⟨e, r, h1, h2⟩ := h; exact ⟨e, r, h1 _ rfl rfl, h2⟩
  | invoke r m => simp only [act] at h; obtain ⟨e, r, h1, h2⟩ := h; exact ⟨e, r, h1 _ rfl rfl, h2⟩
  | builtin b =>
   simp only [act] at h
   unfold builtinC at h
   split at h
   ·rename_i x t
    rw [bindO_some] at h
    unfold lenC at h
    split at h
    ·rename_i n el hk; exact ⟨_, _, acts_lenArr rfl (E.TOk (ne_no hk (by simp))) hk, h⟩
    ·rename_i e hk
     obtain ⟨p, h1, n, h2, h3, h4⟩ := h
     exact ⟨_, _, acts_lenSrc rfl h1 (E.TOk (ne_no hk (by simp))) (.inl ⟨_, hk⟩) h2 ⟨fun ⟨s, e⟩ => absurd e (isStr_false h3 s), fun e => by rw [hk] at e; simp at e⟩, h4⟩
    ·rename_i hk
     obtain ⟨p, h1, n, h2, h3, h4⟩ := h
     exact ⟨_, _, acts_lenSrc rfl h1 (E.TOk (ne_no hk (by simp))) (.inr hk) h2 ⟨fun _ => hk, fun _ => isStr_true h3⟩, h4⟩
    ·exact h.elim
   ·rw [bindO_some] at h
    obtain ⟨p, h1, h2⟩ := h
    unfold capC at h2
    split at h2
    ·rename_i e hk
     exact ⟨_, _, acts_capNil rfl h1 (E.TOk (ne_no hk (by simp))) hk, h2⟩
    ·exact h2.elim
   ·obtain ⟨p, h1, q, h2, h3⟩ := h
    rw [bindO_some] at h3
    unfold appendC at h3
    split at h3
    ·rename_i el hk
     obtain ⟨h4, d, h5, ⟨k, cs⟩, h6, h7, h8, h9⟩ := h3
     simp only at h9
     have he := E.TOk (E.sl _ _ hk)
     have h4' : ∀ u, strOrSlice (E.ti u).k = true → (∃ e, (E.ti u).k = .slice e) ∨ (E.ti u).k = .str := fun u hu => by
      unfold strOrSlice at hu
      split at hu <;> simp_all
     have hu : ∃ j, Vw.TOk E.P _ j ∧ ((∃ e, j.k = .slice e) ∨ j.k = .str) := ⟨_, E.TOk (by rcases h4' _ h4 with ⟨e, h4⟩ | h4 <;> exact ne_no h4 (by simp)), h4' _ h4⟩
     subst h5
     unfold appendD at h9
     split at h9
     ·obtain ⟨g1, g2, g3⟩ := h9
      exact ⟨_, _, acts_append0 rfl h1 (.inl rfl) h2 (E.TOk (ne_no hk (by simp))) hk hu he he.zlen (fun j hj => hj) h6 h7 g1 h8 g2, g3⟩
     ·obtain ⟨g1, g2, g3⟩ := h9
      exact ⟨_, _, acts_append0 rfl h1 (.inr rfl) h2 (E.TOk (ne_no hk (by simp))) hk hu he he.zlen (fun j hj => hj) h6 h7 g1 h8 g2, g3⟩
     ·rename_i id m off n
      obtain ⟨g0, c0, g1, g2, g3, g4, g5, g6⟩ := h9
      rw [bindO_some] at g6
      obtain ⟨g6, g7⟩ := g6
      by_cases hdi : d = id
      ·exact ⟨_, _, acts_append rfl h1 h2 (E.TOk (ne_no hk (by simp))) hk hu he g0 he.zlen (by simp) g1 g2 (fun j hj => List.mem_cons_of_mem _ hj) h6 (g0 ▸ h7) g3 g4 h8 (.inl hdi) g6, g7⟩
      ·exact ⟨_, _, acts_append rfl h1 h2 (E.TOk (ne_no hk (by simp))) hk hu he g0 he.zlen (by simp) g1 g2 (fun j hj => List.mem_cons_of_mem _ hj) h6 (g0 ▸ h7) g3 g4 h8 (.inr (by simpa using ⟨hdi, g5.resolve_left hdi⟩)) g6, g7⟩
     ·exact h9.elim
    ·exact h3.elim
   ·obtain ⟨p, h1, q, h2, h3⟩ := h
    rw [bindO_some] at h3
    unfold copyC at h3
    split at h3
    ·rename_i el id m off n hk
     obtain ⟨h4, c0, g1, g2, ⟨k, cs⟩, g3, g4, g5, g6⟩ := h3
     simp only [bindO_some] at g6
     exact ⟨_, _, acts_copy rfl h1 h2 (E.TOk (ne_no hk (by simp))) hk (E.TOk (E.sl _ _ hk)) h4 (by simp) g1 g2 (fun j hj => List.mem_cons_of_mem _ hj) g3 g4 g5, g6⟩
    ·exact h3.elim
   ·obtain ⟨p, h1, q, h2, h3⟩ := h
    unfold minmaxC at h3
    split at h3
    ·rw [bindO_some] at h3; exact ⟨_, _, acts_minmax rfl (.inl rfl) h1 h2, by simpa using h3⟩
    ·exact h3.elim
   ·obtain ⟨p, h1, q, h2, h3⟩ := h
    unfold minmaxC at h3
    split at h3
    ·rw [bindO_some] at h3; exact ⟨_, _, acts_minmax rfl (.inr rfl) h1 h2, by simpa using h3⟩
    ·exact h3.elim
   ·exact h.elim
 all_goals simp only [act] at h
end Go.Vw

/- Bytes and strings; lengths; comparisons; function values. -/
import Derived.Test.YtdlnppcndcfikaaVw7
namespace Go.Vw
set_option linter.unusedVariables false
set_option linter.unusedSimpArgs false
open Go Go.RowKit

section
variable {P : Program} {o : Oper} {ev : Operand → Option T} {h : Nat → Option (List T)} {reads : List Nat} {ti : TypeId → TI}

theorem foldl_push (l : List Int) : ∀ (s : ByteArray), l.foldl (fun r n => r.push (UInt8.ofNat n.toNat)) s = ⟨s.data ++ (l.map fun n => UInt8.ofNat n.toNat).toArray⟩ := by
  induction l with
  | nil => intro s; simp
  | cons n l ih => intro s; rw [List.foldl_cons, ih]; simp [ByteArray.push]

theorem take_bs_rep {w : World} {ok : Tag → Nat → Prop} {β : Nat → Real} {l : List Int} {vs : List Value} (h : RepL w ok (bs l) β vs) : vs = l.map (Value.int .u8) := by
  induction l generalizing vs with
  | nil => simpa [bs, RepL] using h
  | cons n l ih =>
    simp only [bs, List.map_cons, RepL] at h
    obtain ⟨v, us, rfl, h2, h3⟩ := h
    simp only [Rep] at h2
    subst h2
    simp [ih h3]

/-- []byte to string. -/
theorem acts_convBS {s d e : TypeId} {x : Operand} {tx : T} {l : List Int} {n : Nat} {i i' i'' : TI} (ho : o.op = .convert s d x) (hx : ev x = some tx) (hs0 : TOk P s i) (hk : i.k = .slice e) (he : TOk P e i') (hk' : i'.k = .int .u8) (hd : TOk P d i'') (hk'' : i''.k = .str)
    (hr : ∀ j ∈ tx.ids, j ∈ reads) (hns : ∀ b, tx ≠ .leaf (.string b)) (hsrc : srcOf h tx = some (n, bs l)) (hf : srcFits h 1 tx) : Acts P o ev h reads { val := .leaf (.string (strOf l)) } := by
  refine acts_value fun Γ σ β a w hP hev hh hs => ⟨.string (strOf l), ?_, by simp [Rep], by simp [T.ids]⟩
  have e1 : σ.ev x = some tx := by rw [hev x (by simp [ho, Op.operands]), hx]
  have hag : ∀ j ∈ tx.ids, σ.h j = h j := fun j hj => hh j (hr j hj)
  obtain ⟨s1, s2, s3, vs, s4, s5⟩ := src_run hs e1 (by rw [srcOf_congr hag, hsrc]) ((srcFits_congr hag).2 hf) (P := P)
  have hvs := take_bs_rep s4
  obtain ⟨d1, h1, h2, _⟩ := hs0.und
  rw [hk] at h2; simp only [kOk] at h2; subst h2
  obtain ⟨d2, h3, h4, _⟩ := he.und
  rw [hk'] at h4; simp only [kOk] at h4; subst h4
  obtain ⟨d3, h5, h6, _⟩ := hd.und
  rw [hk''] at h6; simp only [kOk] at h6; subst h6
  have hln : l.length = n := by have := s2; simpa [bs] using this
  have hval : ∃ ad c, a.eval x = .slice ad n c := by
    have hrep := hs.ev e1
    have hl := s1 w
    cases tx with
    | dead => simp [srcOf] at hsrc
    | leaf v =>
      simp only [Rep] at hrep
      cases v <;> simp [srcOf] at hsrc
      · exact absurd rfl (hns _)
      · rename_i a' n' c'
        rw [hrep] at hl ⊢
        simp only [Builtin.lenOf, Sem.run_pure, Result.ok.injEq, and_true] at hl
        subst hl; exact ⟨_, _, rfl⟩
    | e0 =>
      simp only [Rep] at hrep; obtain ⟨ad, hv⟩ := hrep
      simp only [srcOf, Option.some.injEq, Prod.mk.injEq] at hsrc
      exact ⟨ad, 0, by rw [hv, ← hsrc.1]⟩
    | sl m g n' cs =>
      simp only [Rep] at hrep; obtain ⟨_, ad, cap, hv, _⟩ := hrep
      simp only [srcOf, Option.some.injEq, Prod.mk.injEq] at hsrc
      exact ⟨ad, cap, by rw [hv, ← hsrc.1]⟩
    | ref id m off n' =>
      simp only [srcOf] at hsrc
      split at hsrc
      · simp only [Option.some.injEq, Prod.mk.injEq] at hsrc
        simp only [Rep] at hrep
        cases hb : β id with
        | ph => rw [hb] at hrep; obtain ⟨_, h0, ad, hv⟩ := hrep; exact ⟨ad, 0, by rw [hv, ← hsrc.1, h0]⟩
        | real b ob E => rw [hb] at hrep; obtain ⟨ad, cap, hv, _⟩ := hrep; exact ⟨ad, cap, by rw [hv, ← hsrc.1]⟩
      · simp at hsrc
    | _ => simp [srcOf] at hsrc
  obtain ⟨ad, c, hv⟩ := hval
  simp only [execOp, ho, hv]
  refine run_v ?_
  rw [run_convert_bytes_string w s d e ad n c h1 h3 h5]
  cases ad with
  | none =>
    have hn0 : n = 0 := by
      have hrep := hs.ev e1
      rw [hv] at hrep
      cases tx with
      | leaf v =>
        simp only [Rep] at hrep
        rw [← hrep] at hsrc
        simp only [srcOf] at hsrc
        split at hsrc <;> simp_all
      | e0 => simp only [Rep] at hrep; obtain ⟨_, hv⟩ := hrep; injection hv
      | sl m g n' cs =>
        simp only [Rep] at hrep; obtain ⟨_, ad, cap, hv', _, hz⟩ := hrep
        injection hv' with q1 q2 q3
        rcases hz with hz | ⟨b, ob, hz, _⟩
        · omega
        · rw [← q1] at hz; simp at hz
      | ref id m off n' =>
        simp only [Rep] at hrep
        cases hb : β id with
        | ph => rw [hb] at hrep; obtain ⟨_, h0, ad, hv⟩ := hrep; injection hv
        | real b ob E =>
          rw [hb] at hrep; obtain ⟨ad, cap, hv', q0, _, hz⟩ := hrep
          injection hv' with q1 q2 q3
          rcases hz with hz | hz
          · omega
          · rw [← q1] at hz; simp at hz
      | _ => simp [srcOf] at hsrc
    have : l = [] := List.length_eq_zero_iff.1 (by omega)
    subst this
    simp [Conv.bytesToString, strOf]; rfl
  | some b =>
    have := s5 w rfl n (Nat.le_refl _)
    rw [hv, List.take_of_length_le (by rw [s4.length]; simp [bs]; omega), hvs] at this
    simp only [Builtin.firstCells, Nat.mul_one] at this
    rw [run_bytesToString w b n c l this, foldl_push]
    simp [strOf, ByteArray.empty, ByteArray.emptyWithCapacity]
    try rfl

/-- string to []byte: an object of the call's own. -/
theorem acts_convSB {s d e : TypeId} {x : Operand} {b : ByteArray} {dd : Nat} {i i' i'' : TI} (ho : o.op = .convert s d x) (hx : ev x = some (.leaf (.string b))) (hs0 : TOk P s i) (hk : i.k = .str) (hd : TOk P d i'') (hk'' : i''.k = .slice e) (he : TOk P e i') (hk' : i'.k = .int .u8) (hdd : dd ∉ reads) :
    Acts P o ev h reads { val := .ref dd 1 0 b.size, puts := [(dd, bs (bytesOf b))] } := by
  refine acts_of fun Γ σ β a w hP hev hh hn hs => ?_
  have hd' : σ.h dd = none := (hn (dd, bs (bytesOf b)) (by simp) (by simp)).2 hdd
  have hdS := (hn (dd, bs (bytesOf b)) (by simp) (by simp)).1
  have e1 : a.eval x = .string b := by simpa [Rep] using hs.ev (show σ.ev x = some (.leaf (.string b)) by rw [hev x (by simp [ho, Op.operands]), hx])
  obtain ⟨d1, h1, h2, _⟩ := hs0.und
  rw [hk] at h2; simp only [kOk] at h2; subst h2
  obtain ⟨d2, h3, h4, _⟩ := he.und
  rw [hk'] at h4; simp only [kOk] at h4; subst h4
  obtain ⟨d3, h5, h6, _⟩ := hd.und
  rw [hk''] at h6; simp only [kOk] at h6; subst h6
  have hrun := Lib.run_convert_string_bytes (P := P) w s d e b h1 h5 h3
  -- the frozen mark lies behind the block: as a new block with that mark
  let C := Lib.bytesCells w e b
  have hworld : Lib.bytesWorld w e b = w.drew.alloc (.cells C e (C.size, C.size + 1)) := by
    simp only [Lib.bytesWorld, World.freeze, if_neg (show ¬ (1 = 0) by decide), C]
    simp only [World.alloc, World.drew]
    congr 1
    apply Array.ext
    · simp
    · intro q hq1 hq2
      simp at hq1 hq2
      by_cases hq : q = w.heap.size
      · subst hq; simp [Array.getElem_modify]
      · have : q < w.heap.size := by omega
        simp [Array.getElem_modify, Array.getElem_push, this, Ne.symm hq]
  have hsz : b.size ≤ C.size := by simp [C, Lib.bytesCells]
  have hk0 : Keeps (fun _ => False) w w.drew := Keeps.drew _ w
  have hs' := hs.grow hk0
  have hrep : RepL w.drew (okOf Γ.X σ β w.drew) (bs (bytesOf b)) β ((bytesOf b).map (Value.int .u8)) := by
    have : bs (bytesOf b) = ((bytesOf b).map (Value.int .u8)).map .leaf := by simp [bs]
    rw [this]; exact RepL.leaves _
  have hlen : (bs (bytesOf b)).length = b.size := by simp [bs, bytesOf]
  have hsim := hs'.new (c := C) (el := e) (fr := (C.size, C.size + 1)) hd' hdS (E := C.size) (Nat.le_refl _) (by rw [hlen]; exact hsz) (.inr (Nat.le_refl _)) hrep (fun j v hv => by
    obtain ⟨hj, e'⟩ := List.getElem?_eq_some_iff.1 hv
    simp [bytesOf] at hj e'
    simp [C, Lib.bytesCells, Array.getElem?_append, hj, e']) (by simp [idsL_bs])
  refine ⟨.slice (some ⟨w.heap.size, 0, none⟩) b.size (grownCap w b.size 0 e), w.drew.alloc (.cells C e (C.size, C.size + 1)), _, .inl ?_, hsim, ?_, by simp [T.ids, St.puts, St.drops, upd]⟩
  · simp only [execOp, ho, e1]
    refine run_v ?_
    rw [hrun, hworld]
  · simp only [Rep, reals, if_true]
    have hcap : C.size = grownCap w b.size 0 e := by
      have := grownCap_ge w b.size 0 e
      simp only [C, Lib.bytesCells, Array.size_append, Array.size_map, Array.size_replicate]
      show b.size + _ = _
      omega
    exact ⟨_, _, rfl, grownCap_ge w b.size 0 e, by omega, .inr rfl⟩

/-- []byte("..") of a text that is known: the row is marked behind its cells. -/
theorem acts_convSS {s e : TypeId} {x : Operand} {id m off n : Nat} {cs : List T} {i i' : TI} (ho : o.op = .convert s s x) (hx : ev x = some (.ref id m off n)) (hs0 : TOk P s i) (hk : i.k = .slice e) (he : TOk P e i') (hk' : i'.k = .int .u8) (hr : id ∈ reads) (hid : h id = some cs) (hm : 0 < m) (hn : 0 < n) :
    Acts P o ev h reads { val := .ref id m off n, puts := [(id, cs)], stay := [id] } := by
  refine acts_of fun Γ σ β a w hP hev hh hnw hs => ?_
  have hid' : σ.h id = some cs := by rw [hh id hr, hid]
  have hrep := hs.ev (show σ.ev x = some (.ref id m off n) by rw [hev x (by simp [ho, Op.operands]), hx])
  obtain ⟨d2, h3, h4, _⟩ := he.und
  rw [hk'] at h4; simp only [kOk] at h4; subst h4
  obtain ⟨d3, h5, h6, _⟩ := hs0.und
  rw [hk] at h6; simp only [kOk] at h6; subst h6
  cases hb : β id with
  | ph =>
    simp only [Rep, hb] at hrep
    omega
  | real b ob E =>
    have hrep0 := hrep
    simp only [Rep, hb] at hrep
    obtain ⟨ad, cap, hv, hnc, hcap, had⟩ := hrep
    have had := had.resolve_left (by omega)
    subst had
    obtain ⟨c, el, fr, vs, g1, g2, g3, g4, g5, g6⟩ := obj_open hs hid' hb
    obtain ⟨lo, hi⟩ := fr
    let fr' : Nat × Nat := if lo == hi then (c.size, c.size + 1) else (min lo c.size, max hi (c.size + 1))
    let w' : World := w.freeze ⟨b, c.size, none⟩ 1
    have hb' : w'.heap[b]? = some (.cells c el fr') := by
      simp only [w', World.freeze, if_neg (show ¬ (1 = 0) by decide), Array.getElem?_modify, if_true, g1, Option.map_some]
      rfl
    have hne : ∀ j, j ≠ b → w'.heap[j]? = w.heap[j]? := fun j hj => by
      simp only [w', World.freeze, if_neg (show ¬ (1 = 0) by decide), Array.getElem?_modify, if_neg (Ne.symm hj)]
    have hsize : w'.heap.size = w.heap.size := by simp only [w', World.freeze, if_neg (show ¬ (1 = 0) by decide), Array.size_modify]
    have hkeep : Keeps (fun q => q = b) w w' := ⟨rfl, rfl, rfl, by rw [hsize]; exact Nat.le_refl _, fun j _ hj => hne j hj⟩
    have hfr : fr'.1 = fr'.2 ∨ c.size ≤ fr'.1 := by
      simp only [fr']
      rcases g4 _ _ _ _ g1 with q | q
      · right; rw [if_pos (by simpa using q)]; exact Nat.le_refl _
      · right; split
        · exact Nat.le_refl _
        · exact Nat.le_min.2 ⟨q, Nat.le_refl _⟩
    have hcell : ∀ j, w'.cell? ⟨b, j, none⟩ = w.cell? ⟨b, j, none⟩ := fun j => by simp only [World.cell?, hb', g1]
    have hsim := hs.change (cs' := cs) hid' hb hkeep hb' g2 g3 (fun c1 e1 lo1 hi1 q => by rw [hb'] at q; simp only [Option.some.injEq, Obj.cells.injEq] at q; obtain ⟨rfl, rfl, q⟩ := q; rw [q] at hfr; exact hfr) g5 (fun j v hv => by rw [hcell]; exact g6 j v hv) (fun j hj => hs.wfh id cs hid' j hj)
    refine ⟨a.eval x, w', β, .inl ?_, hsim, ?_, fun j hj => ?_⟩
    · simp only [execOp, ho, hv]
      refine run_v ?_
      have hshape : w.shape? b = some (el, c.size) := by simp only [World.shape?, g1]
      simp [convert, run_underlying h5, run_underlying h3, markStringish, hshape, w']
    · simp only [Rep, hb]
      exact ⟨_, cap, hv, hnc, hcap, .inr rfl⟩
    · simp only [T.ids, List.mem_singleton] at hj
      subst hj
      simp [St.drops, St.puts, upd]

/-! ### Lengths -/

def lenT : T → Option Nat
  | .leaf (.string s) => some s.size
  | .leaf (.slice none 0 0) => some 0
  | .e0 => some 0
  | .sl _ _ m _ => some m
  | .ref _ _ _ m => some m
  | _ => none

theorem acts_lenSrc {t : TypeId} {x : Operand} {tx : T} {n : Nat} {i : TI} (ho : o.op = .call { callee := .builtin .len, args := #[x], argTypes := #[t] }) (hx : ev x = some tx) (ht : TOk P t i) (hk : (∃ e, i.k = .slice e) ∨ i.k = .str)
    (hn : lenT tx = some n) (hks : (∃ s, tx = .leaf (.string s)) ↔ i.k = .str) :
    Acts P o ev h reads { val := .leaf (.int .i64 n) } := by
  refine acts_value fun Γ σ β a w hP hev hh hs => ⟨.int .i64 n, ?_, by simp [Rep], by simp [T.ids]⟩
  have e1 : σ.ev x = some tx := by rw [hev x (by simp [ho, Op.operands, Call.operands]), hx]
  have hrep := hs.ev e1
  obtain ⟨d1, h1, h2, _⟩ := ht.und
  have hrun : (Builtin.len_ #[t] o.type #[a.eval x]).run P w = .ok (goInt n) w := by
    by_cases hstr : i.k = .str
    · obtain ⟨s, rfl⟩ := hks.2 hstr
      simp only [Rep] at hrep
      rw [hstr] at h2; simp only [kOk] at h2; subst h2
      simp only [lenT, Option.some.injEq] at hn; subst hn
      simp [Builtin.len_, hrep, run_underlying h1]
    · obtain ⟨e, hk⟩ := hk.resolve_right hstr
      rw [hk] at h2; simp only [kOk] at h2; subst h2
      have : ∃ ad c, a.eval x = .slice ad n c := by
        cases tx with
        | leaf v =>
          simp only [Rep] at hrep
          cases v with
          | string s => exact absurd (hks.1 ⟨_, rfl⟩) hstr
          | slice ad n' c =>
            rw [hrep]
            cases ad with
            | some _ => simp [lenT] at hn
            | none =>
              cases n' with
              | succ _ => simp [lenT] at hn
              | zero =>
                cases c with
                | succ _ => simp [lenT] at hn
                | zero => exact ⟨none, 0, by rw [show n = 0 by simpa [lenT] using hn.symm]⟩
          | _ => simp [lenT] at hn
        | e0 => simp only [Rep] at hrep; obtain ⟨ad, hv⟩ := hrep; exact ⟨ad, 0, by rw [hv, show n = 0 by simpa [lenT] using hn.symm]⟩
        | sl m g n' cs => simp only [Rep] at hrep; obtain ⟨_, ad, cap, hv, _⟩ := hrep; exact ⟨ad, cap, by rw [hv, show n = n' by simpa [lenT] using hn.symm]⟩
        | ref id m off n' =>
          simp only [Rep] at hrep
          cases hb : β id with
          | ph => rw [hb] at hrep; obtain ⟨_, h0, ad, hv⟩ := hrep; exact ⟨ad, 0, by rw [hv, show n = n' by simpa [lenT] using hn.symm, h0]⟩
          | real b ob E => rw [hb] at hrep; obtain ⟨ad, cap, hv, _⟩ := hrep; exact ⟨ad, cap, by rw [hv, show n = n' by simpa [lenT] using hn.symm]⟩
        | _ => simp [lenT] at hn
      obtain ⟨ad, c, hv⟩ := this
      simp [Builtin.len_, hv, run_underlying h1]
  simp only [execOp, ho, resolve, Sem.run_bind, Sem.run_pure, Result.andThen_ok, invoke, builtin]
  simp [hrun, goInt]

theorem acts_lenArr {t el : TypeId} {x : Operand} {n : Nat} {i : TI} (ho : o.op = .call { callee := .builtin .len, args := #[x], argTypes := #[t] }) (ht : TOk P t i) (hk : i.k = .array n el) : Acts P o ev h reads { val := .leaf (.int .i64 n) } := by
  refine acts_value fun Γ σ β a w hP hev hh hs => ⟨.int .i64 n, ?_, by simp [Rep], by simp [T.ids]⟩
  obtain ⟨d1, h1, h2, _⟩ := ht.und
  rw [hk] at h2; simp only [kOk] at h2; subst h2
  simp only [execOp, ho, resolve, Sem.run_bind, Sem.run_pure, Result.andThen_ok, invoke, builtin]
  simp [Builtin.len_, run_underlying h1, goInt]

theorem acts_capNil {t el : TypeId} {x : Operand} {i : TI} (ho : o.op = .call { callee := .builtin .cap, args := #[x], argTypes := #[t] }) (hx : ev x = some (.leaf (.slice none 0 0))) (ht : TOk P t i) (hk : i.k = .slice el) : Acts P o ev h reads { val := .leaf (.int .i64 0) } := by
  refine acts_value fun Γ σ β a w hP hev hh hs => ⟨.int .i64 0, ?_, by simp [Rep], by simp [T.ids]⟩
  have hv : a.eval x = .slice none 0 0 := by simpa [Rep] using hs.ev (show σ.ev x = some (.leaf (.slice none 0 0)) by rw [hev x (by simp [ho, Op.operands, Call.operands]), hx])
  obtain ⟨d1, h1, h2, _⟩ := ht.und
  rw [hk] at h2; simp only [kOk] at h2; subst h2
  simp only [execOp, ho, resolve, Sem.run_bind, Sem.run_pure, Result.andThen_ok, invoke, builtin]
  simp [Builtin.cap_, hv, run_underlying h1, goInt]

theorem acts_minmax {b : Builtin} {ts : Array TypeId} {x y : Operand} {k k' : IntKind} {p q : Int} (ho : o.op = .call { callee := .builtin b, args := #[x, y], argTypes := ts }) (hb : b = .min ∨ b = .max) (hx : ev x = some (.leaf (.int k p))) (hy : ev y = some (.leaf (.int k' q))) :
    Acts P o ev h reads { val := .leaf (.int k (if b = .min then (if q < p then q else p) else (if q > p then q else p))) } := by
  refine acts_leaf fun ac w H => ?_
  have e1 := H x (by simp [ho, Op.operands, Call.operands]) _ hx
  have e2 := H y (by simp [ho, Op.operands, Call.operands]) _ hy
  simp only [execOp, ho, resolve, Sem.run_bind, Sem.run_pure, Result.andThen_ok, invoke, builtin]
  rcases hb with rfl | rfl
  · simp [builtin, Builtin.min_, Builtin.min2, e1, e2]
  · simp [builtin, Builtin.max_, Builtin.max2, e1, e2]

/-! ### Function values -/

def evL (ev : Operand → Option T) : List Operand → Option (List T)
  | [] => some []
  | x :: l => match ev x, evL ev l with | some t, some r => some (t :: r) | _, _ => none

theorem evL_congr {ev ev' : Operand → Option T} : ∀ {ps : List Operand}, (∀ p ∈ ps, ev p = ev' p) → evL ev ps = evL ev' ps
  | [], _ => rfl
  | x :: l, h => by simp only [evL]; rw [h x (by simp), evL_congr (fun p hp => h p (by simp [hp]))]

theorem evL_rep {Γ : Cx} {σ : St} {β : Nat → Real} {a : Act} {w : World} (hs : SimB Γ σ β a w) : ∀ {ps : List Operand} {ts : List T}, evL σ.ev ps = some ts → RepL w (okOf Γ.X σ β w) ts β (ps.map a.eval) ∧ ∀ i ∈ idsL ts, σ.h i ≠ none
  | [], ts, h => by simp only [evL, Option.some.injEq] at h; subst h; simp [RepL, idsL]
  | x :: l, ts, h => by
    simp only [evL] at h
    split at h
    · rename_i t r e1 e2
      injection h with h; subst h
      obtain ⟨h1, h2⟩ := evL_rep hs e2
      simp only [List.map_cons, RepL, idsL, List.mem_append]
      exact ⟨⟨_, _, rfl, hs.ev e1, h1⟩, fun i hi => hi.elim (hs.ev_ids e1 i) (h2 i)⟩
    · simp at h

theorem acts_makeFunc {fn : Fn} {p q : Array Operand} {ps qs : List T} (ho : o.op = .makeFunc fn p q) (hp : evL ev p.toList = some ps) (hq : evL ev q.toList = some qs) : Acts P o ev h reads { val := .fn fn ps qs } := by
  refine acts_value fun Γ σ β a w hP hev hh hs => ?_
  have hp' : evL σ.ev p.toList = some ps := by rw [evL_congr (fun x hx => hev x (by simp [ho, Op.operands]; exact .inl (by simpa using hx))), hp]
  have hq' : evL σ.ev q.toList = some qs := by rw [evL_congr (fun x hx => hev x (by simp [ho, Op.operands]; exact .inr (by simpa using hx))), hq]
  obtain ⟨r1, i1⟩ := evL_rep hs hp'
  obtain ⟨r2, i2⟩ := evL_rep hs hq'
  refine ⟨.func fn (p.map a.eval) (q.map a.eval), ?_, ?_, ?_⟩
  · simp [execOp, ho, Instr.makeFunc]
  · simp only [Rep]
    exact ⟨p.toList.map a.eval, q.toList.map a.eval, by rw [← Array.toList_map, ← Array.toList_map], r1, r2⟩
  · simp only [T.ids, List.mem_append]; exact fun i hi => hi.elim (i1 i) (i2 i)

/-! ### Comparisons -/

/-- What '==' of two told values tells, where it hangs on no number. -/
def eqTo (p q : T) (c : Bool) : Option Bool :=
  match p, q with
  | .leaf .nilIface, .leaf .nilIface => if c then some true else none
  | .leaf .nilIface, .iface _ _ => some false
  | .iface _ _, .leaf .nilIface => some false
  | .leaf (.pointer none), .leaf (.pointer none) => some true
  | .leaf (.pointer none), .addr _ _ => some false
  | .leaf (.pointer none), .pt _ _ _ => some false
  | .addr _ _, .leaf (.pointer none) => some false
  | .pt _ _ _, .leaf (.pointer none) => some false
  | .leaf (.slice none _ _), .leaf (.slice none 0 0) => some true
  | .leaf (.slice (some _) _ _), .leaf (.slice none 0 0) => some false
  | .sl _ _ _ _, .leaf (.slice none 0 0) => some false
  | _, _ => none

/-- The type of such values. -/
def eqK (p : T) (k : K) : Prop :=
  match p with
  | .leaf .nilIface | .iface _ _ => k = .iface
  | .leaf (.slice ..) => ∃ e, k = .slice e
  | .sl _ _ n _ => 0 < n ∧ ∃ e, k = .slice e
  | _ => ∃ e, k = .ptr e

def isConstOp : Operand → Bool | .const _ => true | _ => false

theorem acts_eqTo {op : BinOp} {t yt : TypeId} {x y : Operand} {p q : T} {r : Bool} {i : TI} (ho : o.op = .binOp op t x y yt) (hop : op = .eql ∨ op = .neq) (hx : ev x = some p) (hy : ev y = some q) (ht : TOk P t i)
    (hk : eqK p i.k) (hr : eqTo p q (isConstOp x || isConstOp y) = some r) :
    Acts P o ev h reads { val := .leaf (.bool (if op = .eql then r else !r)) } := by
  refine acts_value fun Γ σ β a w hP hev hh hs => ⟨.bool (if op = .eql then r else !r), ?_, by simp only [Rep], by simp [T.ids]⟩
  have e1 : σ.ev x = some p := by rw [hev x (by simp [ho, Op.operands]), hx]
  have e2 : σ.ev y = some q := by rw [hev y (by simp [ho, Op.operands]), hy]
  have r1 := hs.ev e1
  have r2 := hs.ev e2
  obtain ⟨d, h1, h2, _⟩ := ht.und
  simp only [execOp, ho]
  refine run_v ?_
  have key : (eqGuard op t x y (a.eval x) (a.eval y)).run P w = .ok () w ∧ (∀ n, (Op.equalIn (n + 1) t (a.eval x) (a.eval y)).run P w = .ok r w) ∧ binOp .eql t (a.eval x) (a.eval y) = (do pure (.bool (← Op.equal t (a.eval x) (a.eval y)))) ∧ binOp .neq t (a.eval x) (a.eval y) = (do pure (.bool (!(← Op.equal t (a.eval x) (a.eval y))))) := by
    unfold eqTo at hr
    split at hr
    · -- both nil
      simp only [Rep] at r1 r2
      simp only [eqK] at hk; rw [hk] at h2; simp only [kOk] at h2; obtain ⟨ms, rfl⟩ := h2
      split at hr
      · rename_i hc
        injection hr with hr; subst hr
        rw [r1, r2]
        refine ⟨?_, fun n => by simp [Op.equalIn, run_underlying h1], rfl, rfl⟩
        cases x <;> cases y <;> first | (simp [isConstOp] at hc; done) | (rcases hop with rfl | rfl <;> simp [eqGuard])
      · simp at hr
    · simp only [Rep] at r1 r2
      simp only [eqK] at hk; rw [hk] at h2; simp only [kOk] at h2; obtain ⟨ms, rfl⟩ := h2
      obtain ⟨z, r2, _⟩ := r2
      injection hr with hr; subst hr
      rw [r1, r2]
      exact ⟨by rcases hop with rfl | rfl <;> simp [eqGuard], fun n => by simp [Op.equalIn, run_underlying h1], rfl, rfl⟩
    · simp only [Rep] at r1 r2
      simp only [eqK] at hk; rw [hk] at h2; simp only [kOk] at h2; obtain ⟨ms, rfl⟩ := h2
      obtain ⟨z, r1, _⟩ := r1
      injection hr with hr; subst hr
      rw [r1, r2]
      exact ⟨by rcases hop with rfl | rfl <;> simp [eqGuard], fun n => by simp [Op.equalIn, run_underlying h1], rfl, rfl⟩
    · simp only [Rep] at r1 r2
      simp only [eqK] at hk; obtain ⟨e, hk⟩ := hk; rw [hk] at h2; simp only [kOk] at h2; subst h2
      injection hr with hr; subst hr
      rw [r1, r2]
      exact ⟨by rcases hop with rfl | rfl <;> simp [eqGuard], fun n => by simp [Op.equalIn, run_underlying h1], rfl, rfl⟩
    · simp only [Rep] at r1 r2
      simp only [eqK] at hk; obtain ⟨e, hk⟩ := hk; rw [hk] at h2; simp only [kOk] at h2; subst h2
      injection hr with hr; subst hr
      split at r2
      · exact r2.elim
      · rw [r1, r2]
        exact ⟨by rcases hop with rfl | rfl <;> simp [eqGuard], fun n => by simp [Op.equalIn, run_underlying h1], rfl, rfl⟩
    · simp only [Rep] at r1 r2
      simp only [eqK] at hk; obtain ⟨e, hk⟩ := hk; rw [hk] at h2; simp only [kOk] at h2; subst h2
      injection hr with hr; subst hr
      obtain ⟨_, b, ob, r2, _⟩ := r2
      rw [r1, r2]
      exact ⟨by rcases hop with rfl | rfl <;> simp [eqGuard], fun n => by simp [Op.equalIn, run_underlying h1], rfl, rfl⟩
    · simp only [Rep] at r1 r2
      simp only [eqK] at hk; obtain ⟨e, hk⟩ := hk; rw [hk] at h2; simp only [kOk] at h2; subst h2
      injection hr with hr; subst hr
      split at r1
      · exact r1.elim
      · rw [r1, r2]
        exact ⟨by rcases hop with rfl | rfl <;> simp [eqGuard], fun n => by simp [Op.equalIn, run_underlying h1], rfl, rfl⟩
    · simp only [Rep] at r1 r2
      simp only [eqK] at hk; obtain ⟨e, hk⟩ := hk; rw [hk] at h2; simp only [kOk] at h2; subst h2
      injection hr with hr; subst hr
      obtain ⟨_, b, ob, r1, _⟩ := r1
      rw [r1, r2]
      exact ⟨by rcases hop with rfl | rfl <;> simp [eqGuard], fun n => by simp [Op.equalIn, run_underlying h1], rfl, rfl⟩
    · simp only [Rep] at r1 r2
      simp only [eqK] at hk; obtain ⟨e, hk⟩ := hk; rw [hk] at h2; simp only [kOk] at h2; subst h2
      injection hr with hr; subst hr
      rw [r1, r2]
      exact ⟨by rcases hop with rfl | rfl <;> simp [eqGuard], fun n => by simp [Op.equalIn, run_underlying h1], rfl, rfl⟩
    · simp only [Rep] at r1 r2
      simp only [eqK] at hk; obtain ⟨e, hk⟩ := hk; rw [hk] at h2; simp only [kOk] at h2; subst h2
      injection hr with hr; subst hr
      rw [r1, r2]
      exact ⟨by rcases hop with rfl | rfl <;> simp [eqGuard], fun n => by simp [Op.equalIn, run_underlying h1], rfl, rfl⟩
    · simp only [Rep] at r1 r2
      simp only [eqK] at hk; obtain ⟨h0, e, hk⟩ := hk; rw [hk] at h2; simp only [kOk] at h2; subst h2
      injection hr with hr; subst hr
      obtain ⟨_, ad, cap, r1, _, r3⟩ := r1
      obtain ⟨b, ob, rfl, _⟩ := r3.resolve_left (by omega)
      rw [r1, r2]
      exact ⟨by rcases hop with rfl | rfl <;> simp [eqGuard], fun n => by simp [Op.equalIn, run_underlying h1], rfl, rfl⟩
    · simp at hr
  obtain ⟨k1, k2, k3, k4⟩ := key
  have k5 := run_equal_of k2
  rw [Sem.run_bind, k1]
  rcases hop with rfl | rfl
  · simp only [Result.andThen_ok, k3, Sem.run_bind, k5, Sem.run_pure, if_true]
  · simp only [Result.andThen_ok, k4, Sem.run_bind, k5, Sem.run_pure]; simp

/-- '==' of two errors that are whole numbers of one type, or of two types. -/
theorem acts_eqErr {op : BinOp} {t yt : TypeId} {x y : Operand} {tx ty : TypeId} {k k' : IntKind} {m n : Int} {i : TI} (ho : o.op = .binOp op t x y yt) (hop : op = .eql ∨ op = .neq) (hx : ev x = some (.iface tx (.leaf (.int k m)))) (hy : ev y = some (.iface ty (.leaf (.int k' n)))) (ht : TOk P t i) (hk : i.k = .iface)
    (hq : tx = ty → k = k' ∧ (∃ j, P.info? tx = some j ∧ j.comparable = true) ∧ ∃ k0, P.underlying tx = some (.int k0)) :
    Acts P o ev h reads { val := .leaf (.bool (if op = .eql then decide (tx = ty ∧ m = n) else !decide (tx = ty ∧ m = n))) } := by
  refine acts_value fun Γ σ β a w hP hev hh hs => ⟨.bool (if op = .eql then decide (tx = ty ∧ m = n) else !decide (tx = ty ∧ m = n)), ?_, by simp only [Rep], by simp [T.ids]⟩
  have e1 : σ.ev x = some (.iface tx (.leaf (.int k m))) := by rw [hev x (by simp [ho, Op.operands]), hx]
  have e2 : σ.ev y = some (.iface ty (.leaf (.int k' n))) := by rw [hev y (by simp [ho, Op.operands]), hy]
  have r1 := hs.ev e1
  have r2 := hs.ev e2
  simp only [Rep] at r1 r2
  obtain ⟨_, r1, rfl⟩ := r1
  obtain ⟨_, r2, rfl⟩ := r2
  obtain ⟨d, h1, h2, _⟩ := ht.und
  rw [hk] at h2; simp only [kOk] at h2; obtain ⟨ms, rfl⟩ := h2
  simp only [execOp, ho, r1, r2]
  refine run_v ?_
  have k1 : (eqGuard op t x y (.iface tx (.int k m)) (.iface ty (.int k' n))).run P w = .ok () w := by rcases hop with rfl | rfl <;> simp [eqGuard]
  have k2 : (Op.equal t (.iface tx (.int k m)) (.iface ty (.int k' n))).run P w = .ok (decide (tx = ty ∧ m = n)) w := by
    suffices hd : ∀ d, (Op.equalIn (d + 2) t (.iface tx (.int k m)) (.iface ty (.int k' n))).run P w = .ok (decide (tx = ty ∧ m = n)) w from hd 9998
    intro d
    by_cases hxy : tx = ty
    · subst hxy
      obtain ⟨rfl, ⟨j, hj, hc⟩, k0, hu⟩ := hq rfl
      simp [Op.equalIn, run_underlying h1, run_underlying hu, typeInfo, hj, hc]
      rfl
    · simp [Op.equalIn, run_underlying h1, hxy]
  rw [Sem.run_bind, k1]
  rcases hop with rfl | rfl
  · simp only [Result.andThen_ok, binOp, Sem.run_bind, k2, Sem.run_pure, if_true]
  · simp only [Result.andThen_ok, binOp, Sem.run_bind, k2, Sem.run_pure]; simp
end

end Go.Vw

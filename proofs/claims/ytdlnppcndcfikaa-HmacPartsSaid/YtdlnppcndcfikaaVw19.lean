/- Structs and arrays, compared cell by cell. -/
import Derived.Test.YtdlnppcndcfikaaVw18
import Derived.Laws.StructEq
import Derived.ChangeKeysEq
namespace Go.Vw
set_option linter.unusedVariables false
set_option linter.unusedSimpArgs false
open Go Go.RowKit

def leafEq : K → T → T → Option Bool
  | .int _, .leaf (.int k a), .leaf (.int k' b) => match decide (k = k') with | true => some (a == b) | false => none
  | .bool, .leaf (.bool a), .leaf (.bool b) => some (a == b)
  | .str, .leaf (.string a), .leaf (.string b) => some (a.toList == b.toList)
  | _, _, _ => none

def eqL : List K → List T → List T → Option Bool
  | [], [], [] => some true
  | k :: ks, x :: xs, y :: ys => match leafEq k x y with
    | none => none
    | some a => match eqL ks xs ys with
      | none => none
      | some b => some (a && b)
  | _, _, _ => none

theorem eqL_len : ∀ {ks : List K} {a b : List T} {r : Bool}, eqL ks a b = some r → a.length = ks.length ∧ b.length = ks.length
  | [], [], [], _, _ => ⟨rfl, rfl⟩
  | k :: ks, x :: xs, y :: ys, r, h => by
    simp only [eqL] at h
    split at h
    · simp at h
    · split at h
      · simp at h
      · rename_i s hs
        obtain ⟨h1, h2⟩ := eqL_len hs
        exact ⟨by simp [h1], by simp [h2]⟩
  | [], [], _ :: _, _, h => by simp [eqL] at h
  | [], _ :: _, _, _, h => by simp [eqL] at h
  | _ :: _, [], _, _, h => by simp [eqL] at h
  | _ :: _, _ :: _, [], _, h => by simp [eqL] at h

theorem eqL_split : ∀ {ks ls : List K} {a c b d : List T} {r : Bool}, a.length = ks.length → c.length = ks.length → eqL (ks ++ ls) (a ++ b) (c ++ d) = some r → ∃ r1 r2, eqL ks a c = some r1 ∧ eqL ls b d = some r2 ∧ r = (r1 && r2)
  | [], _, [], [], b, d, r, _, _, h => ⟨true, r, rfl, h, rfl⟩
  | [], _, _ :: _, _, _, _, _, e, _, _ => by simp at e
  | [], _, [], _ :: _, _, _, _, _, e, _ => by simp at e
  | _ :: _, _, [], _, _, _, _, e, _, _ => by simp at e
  | _ :: _, _, _ :: _, [], _, _, _, _, e, _ => by simp at e
  | k :: ks, ls, x :: a, y :: c, b, d, r, e, e', h => by
    simp only [List.cons_append, eqL] at h
    split at h
    · simp at h
    · rename_i q hq
      split at h
      · simp at h
      · rename_i s hs
        obtain ⟨r1, r2, h1, h2, h3⟩ := eqL_split (by simpa using e) (by simpa using e') hs
        simp only [Option.some.injEq] at h
        exact ⟨q && r1, r2, by simp [eqL, hq, h1], h2, by rw [← h, h3, Bool.and_assoc]⟩

theorem eqL_at {ks ls : List K} {cs ds : List T} {o : Nat} {r : Bool} (h : eqL (ks ++ ls) (cs.drop o) (ds.drop o) = some r) :
    ∃ r1 r2, eqL ks ((cs.drop o).take ks.length) ((ds.drop o).take ks.length) = some r1 ∧ eqL ls (cs.drop (o + ks.length)) (ds.drop (o + ks.length)) = some r2 ∧ r = (r1 && r2) := by
  obtain ⟨h1, h2⟩ := eqL_len h
  rw [← List.take_append_drop ks.length (cs.drop o), ← List.take_append_drop ks.length (ds.drop o), List.drop_drop, List.drop_drop] at h
  simp at h1 h2
  exact eqL_split (by simp; omega) (by simp; omega) h

def eqFs (f : TypeId → Option (List K)) : Nat → List Field → Option (List K)
  | _, [] => some []
  | o, x :: fs => match x.name != "_", Nat.beq x.offset o, f x.type with
    | true, true, some m => match eqFs f (o + m.length) fs with
      | some l => some (m ++ l)
      | none => none
    | _, _, _ => none

def rep (m : List K) : Nat → List K
  | 0 => []
  | n + 1 => m ++ rep m n

theorem rep_len (m : List K) (n : Nat) : (rep m n).length = n * m.length := by
  induction n with
  | zero => simp [rep]
  | succ n ih => simp [rep, ih, Nat.succ_mul]; omega

/-- The cells of a type whose values are compared cell by cell. -/
def eqTy (E : Env) : Nat → TypeId → Option (List K)
  | 0, _ => none
  | d + 1, t => match (E.ti t).k with
    | .bool => some [.bool]
    | .str => some [.str]
    | .int k => some [.int k]
    | .array n e => match eqTy E d e with
      | some m => match Nat.beq m.length (E.ti e).size, Nat.beq (n * m.length) (E.ti t).size with | true, true => some (rep m n) | _, _ => none
      | none => none
    | .struct _ => match E.P.stoodInHeld t, E.P.underlying t with
      | false, some (.struct fs) => match eqFs (eqTy E d) 0 fs.toList with
        | some n => match Nat.beq n.length (E.ti t).size with | true => some n | false => none
        | none => none
      | _, _ => none
    | _ => none

section
variable {E : Env}

def EqPart (E : Env) (d : Nat) (t : TypeId) (ks : List K) : Prop :=
  ∀ (w : World) (ok : Tag → Nat → Prop) (β : Nat → Real) (cs ds : List T) (vs us : List Value) (r : Bool) (off : Nat), RepL w ok cs β vs → RepL w ok ds β us →
    eqL ks ((cs.drop off).take ks.length) ((ds.drop off).take ks.length) = some r →
    ∃ a b, (part t vs.toArray off).run E.P w = .ok a w ∧ (part t us.toArray off).run E.P w = .ok b w ∧ (Op.equalIn d t a b).run E.P w = .ok r w

def EqAgg (E : Env) (d : Nat) (t : TypeId) (ks : List K) : Prop :=
  ∀ (w : World) (ok : Tag → Nat → Prop) (β : Nat → Real) (cs ds : List T) (vs us : List Value) (r : Bool), RepL w ok cs β vs → RepL w ok ds β us → eqL ks cs ds = some r →
    (Op.equalIn d t (.agg vs.toArray) (.agg us.toArray)).run E.P w = .ok r w

theorem EqAgg.part {d : Nat} {t : TypeId} {ks : List K} (h : EqAgg E d t ks) (ht : TOk E.P t (E.ti t)) (ha : (E.ti t).agg = true) (hn : (E.ti t).size = ks.length) : EqPart E d t ks := by
  intro w ok β cs ds vs us r off h1 h2 h5
  have hagg := ht.isAgg w
  have hz := ht.size w
  rw [ha] at hagg
  rw [hn] at hz
  refine ⟨.agg (vs.toArray.extract off (off + ks.length)), .agg (us.toArray.extract off (off + ks.length)), ?_, ?_, ?_⟩
  · simp only [Go.part, Sem.run_bind, hagg, Result.andThen_ok, if_true, hz]; rfl
  · simp only [Go.part, Sem.run_bind, hagg, Result.andThen_ok, if_true, hz]; rfl
  · have := h w ok β _ _ _ _ r (h1.extract off ks.length) (h2.extract off ks.length) h5
    simpa using this

theorem eqLeaf_part {d : Nat} {t : TypeId} (ht : TOk E.P t (E.ti t)) (hk : (E.ti t).k = .bool ∨ (E.ti t).k = .str ∨ ∃ k, (E.ti t).k = .int k) : EqPart E (d + 1) t [(E.ti t).k] := by
  intro w ok β cs ds vs us r off h1 h2 h5
  have ha : (E.ti t).agg = false := by rcases hk with h | h | ⟨k, h⟩ <;> simp [TI.agg, h]
  have hagg := ht.isAgg w
  rw [ha] at hagg
  obtain ⟨l1, l2⟩ := eqL_len h5
  simp at l1 l2
  obtain ⟨c, hc⟩ : ∃ c, cs[off]? = some c := ⟨_, List.getElem?_eq_getElem (by omega)⟩
  obtain ⟨e, he⟩ : ∃ e, ds[off]? = some e := ⟨_, List.getElem?_eq_getElem (by omega)⟩
  obtain ⟨v, hv1, hv2⟩ := h1.get hc
  obtain ⟨u, hu1, hu2⟩ := h2.get he
  refine ⟨v, u, by simp only [Go.part, Sem.run_bind, hagg, Result.andThen_ok]; simp [hv1], by simp only [Go.part, Sem.run_bind, hagg, Result.andThen_ok]; simp [hu1], ?_⟩
  have e1 : (cs.drop off).take 1 = [c] := by
    rw [List.getElem?_eq_some_iff] at hc
    obtain ⟨hl, rfl⟩ := hc
    rw [List.drop_eq_getElem_cons hl]; rfl
  have e2 : (ds.drop off).take 1 = [e] := by
    rw [List.getElem?_eq_some_iff] at he
    obtain ⟨hl, rfl⟩ := he
    rw [List.drop_eq_getElem_cons hl]; rfl
  simp only [List.length_cons, List.length_nil, Nat.zero_add] at h5
  rw [e1, e2] at h5
  simp only [eqL] at h5
  split at h5
  · simp at h5
  rename_i q hq
  simp only [Bool.and_true, Option.some.injEq] at h5
  subst h5
  obtain ⟨D, hd1, hd2, _⟩ := ht.und
  revert hq
  rcases hk with h | h | ⟨k, h⟩ <;> rw [h] at hd2 ⊢ <;> simp only [kOk] at hd2 <;> subst hd2 <;> intro hq <;> unfold leafEq at hq <;> split at hq <;> simp only [Rep, reduceCtorEq] at * <;>
    (try subst hv2) <;> (try subst hu2) <;> (try (split at hq)) <;> simp_all [Op.equalIn, run_underlying hd1, beq_toListBytes]

theorem eqFs_run {d : Nat} (w : World) {ok : Tag → Nat → Prop} {β : Nat → Real} {cs ds : List T} {vs us : List Value} (h1 : RepL w ok cs β vs) (h2 : RepL w ok ds β us) {f : TypeId → Option (List K)} (hf : ∀ t ks, f t = some ks → EqPart E d t ks) :
    ∀ (fs : List Field) (o : Nat) (ks : List K) (r : Bool), eqFs f o fs = some ks → eqL ks (cs.drop o) (ds.drop o) = some r → (Op.eqFields d vs.toArray us.toArray fs).run E.P w = .ok r w
  | [], o, ks, r, h, hr => by
    simp only [eqFs, Option.some.injEq] at h; subst h
    obtain ⟨l1, l2⟩ := eqL_len hr
    rw [List.length_eq_zero_iff.1 l1, List.length_eq_zero_iff.1 l2] at hr
    simp only [eqL, Option.some.injEq] at hr; subst hr
    simp [Op.eqFields]
  | x :: fs, o, ks, r, h, hr => by
    simp only [eqFs] at h
    split at h
    · rename_i m hn ho hm
      split at h
      · rename_i l hl
        simp only [Option.some.injEq] at h; subst h
        obtain ⟨r1, r2, a1, a2, rfl⟩ := eqL_at hr
        have ho := Nat.eq_of_beq_eq_true ho
        subst ho
        obtain ⟨a, b, p1, p2, p3⟩ := hf _ _ hm w ok β cs ds vs us r1 x.offset h1 h2 a1
        have hn : x.name ≠ "_" := by simpa using hn
        simp only [Op.eqFields, hn, ne_eq, not_false_eq_true, if_true, Sem.run_bind, p1, p2, p3, Result.andThen_ok]
        cases r1 with
        | false => simp
        | true => simpa using eqFs_run w h1 h2 hf fs _ l r2 hl a2
      · simp at h
    · simp at h

theorem eqItems_run {d : Nat} (w : World) {ok : Tag → Nat → Prop} {β : Nat → Real} {cs ds : List T} {vs us : List Value} (h1 : RepL w ok cs β vs) (h2 : RepL w ok ds β us) {e : TypeId} {m : List K} (hf : EqPart E d e m) :
    ∀ (n j : Nat) (r : Bool), eqL (rep m n) (cs.drop (j * m.length)) (ds.drop (j * m.length)) = some r → (Op.eqItems d e m.length vs.toArray us.toArray (List.range' j n)).run E.P w = .ok r w
  | 0, j, r, hr => by
    obtain ⟨l1, l2⟩ := eqL_len hr
    rw [List.length_eq_zero_iff.1 l1, List.length_eq_zero_iff.1 l2] at hr
    simp only [rep, eqL, Option.some.injEq] at hr; subst hr
    simp [Op.eqItems]
  | n + 1, j, r, hr => by
    obtain ⟨r1, r2, a1, a2, rfl⟩ := eqL_at hr
    obtain ⟨a, b, p1, p2, p3⟩ := hf w ok β cs ds vs us r1 _ h1 h2 a1
    rw [List.range'_succ]
    simp only [Op.eqItems, Sem.run_bind, p1, p2, p3, Result.andThen_ok]
    cases r1 with
    | false => simp
    | true => simpa using eqItems_run w h1 h2 hf n (j + 1) r2 (by rw [Nat.succ_mul]; exact a2)

theorem eqTy_part : ∀ (d : Nat) (k : Nat) (t : TypeId) (ks : List K), eqTy E d t = some ks → EqPart E (k + d) t ks ∧ ((E.ti t).agg = true → EqAgg E (k + d) t ks)
  | 0, _, _, _, h => by simp [eqTy] at h
  | d + 1, k, t, ks, h => by
    have hne : (E.ti t).k ≠ .no := by
      intro h0; simp [eqTy, h0] at h
    have ht := E.TOk hne
    simp only [eqTy] at h
    split at h
    · rename_i hk; simp only [Option.some.injEq] at h; subst h
      exact ⟨by have := eqLeaf_part (d := k + d) ht (.inl hk); rwa [hk] at this, by simp [TI.agg, hk]⟩
    · rename_i hk; simp only [Option.some.injEq] at h; subst h
      exact ⟨by have := eqLeaf_part (d := k + d) ht (.inr (.inl hk)); rwa [hk] at this, by simp [TI.agg, hk]⟩
    · rename_i kk hk; simp only [Option.some.injEq] at h; subst h
      exact ⟨by have := eqLeaf_part (d := k + d) ht (.inr (.inr ⟨kk, hk⟩)); rwa [hk] at this, by simp [TI.agg, hk]⟩
    · rename_i n e hk
      split at h
      · rename_i m hm
        split at h
        · rename_i hz1 hz2
          simp only [Option.some.injEq] at h; subst h
          have ha : (E.ti t).agg = true := by simp [TI.agg, hk]
          have hz1 := Nat.eq_of_beq_eq_true hz1
          have hz2 := Nat.eq_of_beq_eq_true hz2
          have key : EqAgg E (k + (d + 1)) t (rep m n) := by
            intro w ok β cs ds vs us r h1 h2 hr
            obtain ⟨D, hd1, hd2, _⟩ := ht.und
            rw [hk] at hd2; simp only [kOk] at hd2; subst hd2
            obtain ⟨j, hj, hj2, _⟩ := (E.TOk (E.ar t n e hk)).info
            have hc : E.P.cellsOf e = m.length := by simp [Program.cellsOf, hj, hj2, hz1]
            rw [show k + (d + 1) = (k + d) + 1 from rfl, run_equalIn_array w (k + d) _ _ hd1 hj, hc, List.range_eq_range']
            exact eqItems_run w h1 h2 (eqTy_part d k e m hm).1 n 0 r (by simpa using hr)
          exact ⟨key.part ht ha (by rw [rep_len]; exact hz2.symm), fun _ => key⟩
        · simp at h
      · simp at h
    · rename_i fs0 hk
      split at h
      · rename_i fs hs hu
        split at h
        · rename_i n hn
          split at h
          · rename_i hz
            simp only [Option.some.injEq] at h; subst h
            have hz := Nat.eq_of_beq_eq_true hz
            have ha : (E.ti t).agg = true := by simp [TI.agg, hk]
            have key : EqAgg E (k + (d + 1)) t n := by
              intro w ok β cs ds vs us r h1 h2 hr
              have hfs : E.P.fieldsOf t = fs := by simp [Program.fieldsOf, hu]
              rw [show k + (d + 1) = (k + d) + 1 from rfl, run_equalIn_struct w (k + d) t _ _ (by rw [hfs]; exact hu) hs, hfs]
              exact eqFs_run w h1 h2 (fun t ks ht => (eqTy_part d k t ks ht).1) fs.toList 0 n r hn (by simpa using hr)
            exact ⟨key.part ht ha hz.symm, fun _ => key⟩
          · simp at h
        · simp at h
      · simp at h
    · simp at h

def eqV (op : BinOp) (b : Bool) : Bool := match op with | .neq => !b | _ => b

theorem acts_eqAgg {o : Oper} {ev : Operand → Option T} {h : Nat → Option (List T)} {reads : List Nat} {op : BinOp} {t yt : TypeId} {x y : Operand} {cs ds : List T} {ks : List K} {r : Bool}
    (ho : o.op = .binOp op t x y yt) (hop : op = .eql ∨ op = .neq) (hx : ev x = some (.agg cs)) (hy : ev y = some (.agg ds)) (ht : eqTy E 16 t = some ks) (ha : (E.ti t).agg = true)
    (hg : E.P.eqGuardType E.P.depth t = false) (hr : eqL ks cs ds = some r) : Acts E.P o ev h reads { val := .leaf (.bool (eqV op r)) } := by
  refine acts_value fun Γ σ β a w hP hev hh hs => ⟨.bool (eqV op r), ?_, by simp only [Rep], by simp [T.ids]⟩
  have e1 : σ.ev x = some (.agg cs) := by rw [hev x (by simp [ho, Op.operands]), hx]
  have e2 : σ.ev y = some (.agg ds) := by rw [hev y (by simp [ho, Op.operands]), hy]
  have r1 := hs.ev e1
  have r2 := hs.ev e2
  simp only [Rep] at r1 r2
  obtain ⟨vs, r1, q1⟩ := r1
  obtain ⟨us, r2, q2⟩ := r2
  have key := (eqTy_part 16 9984 t ks ht).2 ha w _ β cs ds vs us r q1 q2 hr
  simp only [execOp, ho, r1, r2]
  refine run_v ?_
  rw [Sem.run_bind, run_eqGuard_agg w op t x y _ _ hg, Result.andThen_ok]
  rcases hop with rfl | rfl
  · rw [run_eql_struct, key]; rfl
  · rw [run_neq_struct, key]; rfl
end
end Go.Vw

import Derived.Test.YtbppcnhfeobefaaDoorEnVw13
import Derived.Laws.StructEq
import Derived.ChangeKeysEq
import Derived.Laws.Cover3
import Derived.Lib.SliceRun
set_option linter.unusedVariables false
namespace Go.Vw
open Go Go.RowKit
def leafEq : K → T → T → Option Bool
 | .int _, .leaf (.int k a), .leaf (.int k' b) => match decide (k = k') with | true => some (a == b) | false => none
 | .bool, .leaf (.bool a), .leaf (.bool b) => some (a == b)
 | .str, .leaf (.string a), .leaf (.string b) => some (a.toList == b.toList)
 | _, _, _ => none
def eqL : List K → List T → List T → Option Bool
 | [], [], [] => some true
 | k :: ks, x :: xs, y :: ys => match leafEq k x y with
  | none => none
  | some a => match eqL ks xs ys with
   | none => none
   | some b => some (a && b)
 | _, _, _ => none
theorem eqL_len : ∀ {ks : List K} {a b : List T} {r : Bool}, eqL ks a b = some r → a.length = ks.length ∧ b.length = ks.length
 | [], [], [], _, _ => ⟨rfl, rfl⟩
 | k :: ks, x :: xs, y :: ys, r, h => by
  simp only [eqL] at h
  split at h
  ·simp at h
  ·split at h
   ·simp at h
   ·rename_i s hs
    obtain ⟨h1, h2⟩ := eqL_len hs
    exact ⟨by simp [h1], by simp [h2]⟩
 | [], [], _ :: _, _, h => by simp [eqL] at h
 | [], _ :: _, _, _, h => by simp [eqL] at h
 | _ :: _, [], _, _, h => by simp [eqL] at h
 | _ :: _, _ :: _, [], _, h => by simp [eqL] at h
theorem eqL_split : ∀ {ks ls : List K} {a c b d : List T} {r : Bool}, a.length = ks.length → c.length = ks.length → eqL (ks ++ ls) (a ++ b) (c ++ d) = some r → ∃ r1 r2, eqL ks a c = some r1 ∧ eqL ls b d = some r2 ∧ r = (r1 && r2)
 | [], _, [], [], b, d, r, _, _, h => ⟨true, r, rfl, h, rfl⟩
 | [], _, _ :: _, _, _, _, _, e, _, _ => by simp at e
 | [], _, [], _ :: _, _, _, _, _, e, _ => by simp at e
 | _ :: _, _, [], _, _, _, _, e, _, _ => by simp at e
 | _ :: _, _, _ :: _, [], _, _, _, _, e, _ => by simp at e
 | k :: ks, ls, x :: a, y :: c, b, d, r, e, e', h => by
  simp only [List.cons_append, eqL] at h
  split at h
  ·simp at h
  ·rename_i q hq
   split at h
   ·simp at h
   ·rename_i s hs
    obtain ⟨r1, r2, h1, h2, h3⟩ := eqL_split (by simpa using e) (by simpa using e') hs
    simp only [Option.some.injEq] at h
    exact ⟨q && r1, r2, by simp [eqL, hq, h1], h2, by rw [← h, h3, Bool.and_assoc]⟩
theorem eqL_at {ks ls : List K} {cs ds : List T} {o : Nat} {r : Bool} (h : eqL (ks ++ ls) (cs.drop o) (ds.drop o) = some r) :
  ∃ r1 r2, eqL ks ((cs.drop o).take ks.length) ((ds.drop o).take ks.length) = some r1 ∧ eqL ls (cs.drop (o + ks.length)) (ds.drop (o + ks.length)) = some r2 ∧ r = (r1 && r2) := by
 obtain ⟨h1, h2⟩ := eqL_len h
 rw [← List.take_append_drop ks.length (cs.drop o), ← List.take_append_drop ks.length (ds.drop o), List.drop_drop, List.drop_drop] at h
 simp at h1 h2
 exact eqL_split (by simp; omega) (by simp; omega) h
def eqFs (f : TypeId → Option (List K)) : Nat → List Field → Option (List K)
 | _, [] => some []
 | o, x :: fs => match x.name != "_", Nat.beq x.offset o, f x.type with
  | true, true, some m => match eqFs f (o + m.length) fs with
   | some l => some (m ++ l)
   | none => none
  | _, _, _ => none
def rep (m : List K) : Nat → List K
 | 0 => []
 | n + 1 => m ++ rep m n
theorem rep_len (m : List K) (n : Nat) : (rep m n).length = n * m.length := by
 induction n with
 | zero => simp [rep]
 | succ n ih => simp [rep, ih, Nat.succ_mul]; omega
def eqTy (E : Env) : Nat → TypeId → Option (List K)
 | 0, _ => none
 | d + 1, t => match (E.ti t).k with
  | .bool => some [.bool]
  | .str => some [.str]
  | .int k => some [.int k]
  | .array n e => match eqTy E d e with
   | some m => match Nat.beq m.length (E.ti e).size, Nat.beq (n * m.length) (E.ti t).size with | true, true => some (rep m n) | _, _ => none
   | none => none
  | .struct _ => match E.P.stoodInHeld t, E.P.underlying t with
   | false, some (.struct fs) => match eqFs (eqTy E d) 0 fs.toList with
    | some n => match Nat.beq n.length (E.ti t).size with | true => some n | false => none
    | none => none
   | _, _ => none
  | _ => none
section
variable {E : Env}
def EqPart (E : Env) (d : Nat) (t : TypeId) (ks : List K) : Prop :=
 ∀ (w : World) (ok : Tag → Nat → Prop) (β : Nat → Real) (cs ds : List T) (vs us : List Value) (r : Bool) (off : Nat), RepL w ok cs β vs → RepL w ok ds β us →
  eqL ks ((cs.drop off).take ks.length) ((ds.drop off).take ks.length) = some r →
  ∃ a b, (part t vs.toArray off).run E.P w = .ok a w ∧ (part t us.toArray off).run E.P w = .ok b w ∧ (Op.equalIn d t a b).run E.P w = .ok r w
def EqAgg (E : Env) (d : Nat) (t : TypeId) (ks : List K) : Prop :=
 ∀ (w : World) (ok : Tag → Nat → Prop) (β : Nat → Real) (cs ds : List T) (vs us : List Value) (r : Bool), RepL w ok cs β vs → RepL w ok ds β us → eqL ks cs ds = some r →
  (Op.equalIn d t (.agg vs.toArray) (.agg us.toArray)).run E.P w = .ok r w
theorem EqAgg.part {d : Nat} {t : TypeId} {ks : List K} (h : EqAgg E d t ks) (ht : TOk E.P t (E.ti t)) (ha : (E.ti t).agg = true) (hn : (E.ti t).size = ks.length) : EqPart E d t ks := by
 intro w ok β cs ds vs us r off h1 h2 h5
 have hagg := ht.isAgg w
 have hz := ht.size w
 rw [ha] at hagg
 rw [hn] at hz
 refine ⟨.agg (vs.toArray.extract off (off + ks.length)), .agg (us.toArray.extract off (off + ks.length)), ?_, ?_, ?_⟩
 ·simp only [Go.part, Sem.run_bind, hagg, Result.andThen_ok, if_true, hz]; rfl
 ·simp only [Go.part, Sem.run_bind, hagg, Result.andThen_ok, if_true, hz]; rfl
 ·have := h w ok β _ _ _ _ r (h1.extract off ks.length) (h2.extract off ks.length) h5
  simpa using this
theorem eqLeaf_part {d : Nat} {t : TypeId} (ht : TOk E.P t (E.ti t)) (hk : (E.ti t).k = .bool ∨ (E.ti t).k = .str ∨ ∃ k, (E.ti t).k = .int k) : EqPart E (d + 1) t [(E.ti t).k] := by
 intro w ok β cs ds vs us r off h1 h2 h5
 have ha : (E.ti t).agg = false := by rcases hk with h | h | ⟨k, h⟩ <;> simp [TI.agg, h]
 have hagg := ht.isAgg w
 rw [ha] at hagg
 obtain ⟨l1, l2⟩ := eqL_len h5
 simp at l1 l2
 obtain ⟨c, hc⟩ : ∃ c, cs[off]? = some c := ⟨_, List.getElem?_eq_getElem (by omega)⟩
 obtain ⟨e, he⟩ : ∃ e, ds[off]? = some e := ⟨_, List.getElem?_eq_getElem (by omega)⟩
 obtain ⟨v, hv1, hv2⟩ := h1.get hc
 obtain ⟨u, hu1, hu2⟩ := h2.get he
 refine ⟨v, u, by simp only [Go.part, Sem.run_bind, hagg, Result.andThen_ok]; simp [hv1], by simp only [Go.part, Sem.run_bind, hagg, Result.andThen_ok]; simp [hu1], ?_⟩
 have e1 : (cs.drop off).take 1 = [c] := by
  rw [List.getElem?_eq_some_iff] at hc
  obtain ⟨hl, rfl⟩ := hc
  rw [List.drop_eq_getElem_cons hl]; rfl
 have e2 : (ds.drop off).take 1 = [e] := by
  rw [List.getElem?_eq_some_iff] at he
  obtain ⟨hl, rfl⟩ := he
  rw [List.drop_eq_getElem_cons hl]; rfl
 simp only [List.length_cons, List.length_nil, Nat.zero_add] at h5
 rw [e1, e2] at h5
 simp only [eqL] at h5
 split at h5
 ·simp at h5
 rename_i q hq
 simp only [Bool.and_true, Option.some.injEq] at h5
 subst h5
 obtain ⟨D, hd1, hd2, _⟩ := ht.und
 revert hq
 rcases hk with h | h | ⟨k, h⟩ <;> rw [h] at hd2 ⊢ <;> simp only [kOk] at hd2 <;> subst hd2 <;> intro hq <;> unfold leafEq at hq <;> split at hq <;> simp only [Rep, reduceCtorEq] at * <;>
  (try subst hv2) <;> (try subst hu2) <;> (try (split at hq)) <;> simp_all [Op.equalIn, run_underlying hd1, beq_toListBytes]
theorem eqFs_run {d : Nat} (w : World) {ok : Tag → Nat → Prop} {β : Nat → Real} {cs ds : List T} {vs us : List Value} (h1 : RepL w ok cs β vs) (h2 : RepL w ok ds β us) {f : TypeId → Option (List K)} (hf : ∀ t ks, f t = some ks → EqPart E d t ks) :
  ∀ (fs : List Field) (o : Nat) (ks : List K) (r : Bool), eqFs f o fs = some ks → eqL ks (cs.drop o) (ds.drop o) = some r → (Op.eqFields d vs.toArray us.toArray fs).run E.P w = .ok r w
 | [], o, ks, r, h, hr => by
  simp only [eqFs, Option.some.injEq] at h; subst h
  obtain ⟨l1, l2⟩ := eqL_len hr
  rw [List.length_eq_zero_iff.1 l1, List.length_eq_zero_iff.1 l2] at hr
  simp only [eqL, Option.some.injEq] at hr; subst hr
  simp [Op.eqFields]
 | x :: fs, o, ks, r, h, hr => by
  simp only [eqFs] at h
  split at h
  ·rename_i m hn ho hm
   split at h
   ·rename_i l hl
    simp only [Option.some.injEq] at h; subst h
    obtain ⟨r1, r2, a1, a2, rfl⟩ := eqL_at hr
    have ho := Nat.eq_of_beq_eq_true ho
    subst ho
    obtain ⟨a, b, p1, p2, p3⟩ := hf _ _ hm w ok β cs ds vs us r1 x.offset h1 h2 a1
    have hn : x.name ≠ "_" := by simpa using hn
    simp only [Op.eqFields, hn, ne_eq, not_false_eq_true, if_true, Sem.run_bind, p1, p2, p3, Result.andThen_ok]
    cases r1 with
    | false => simp
    | true => simpa using eqFs_run w h1 h2 hf fs _ l r2 hl a2
   ·simp at h
  ·simp at h
theorem eqItems_run {d : Nat} (w : World) {ok : Tag → Nat → Prop} {β : Nat → Real} {cs ds : List T} {vs us : List Value} (h1 : RepL w ok cs β vs) (h2 : RepL w ok ds β us) {e : TypeId} {m : List K} (hf : EqPart E d e m) :
  ∀ (n j : Nat) (r : Bool), eqL (rep m n) (cs.drop (j * m.length)) (ds.drop (j * m.length)) = some r → (Op.eqItems d e m.length vs.toArray us.toArray (List.range' j n)).run E.P w = .ok r w
 | 0, j, r, hr => by
  obtain ⟨l1, l2⟩ := eqL_len hr
  rw [List.length_eq_zero_iff.1 l1, List.length_eq_zero_iff.1 l2] at hr
  simp only [rep, eqL, Option.some.injEq] at hr; subst hr
  simp [Op.eqItems]
 | n + 1, j, r, hr => by
  obtain ⟨r1, r2, a1, a2, rfl⟩ := eqL_at hr
  obtain ⟨a, b, p1, p2, p3⟩ := hf w ok β cs ds vs us r1 _ h1 h2 a1
  rw [List.range'_succ]
  simp only [Op.eqItems, Sem.run_bind, p1, p2, p3, Result.andThen_ok]
  cases r1 with
  | false => simp
  | true => simpa using eqItems_run w h1 h2 hf n (j + 1) r2 (by rw [Nat.succ_mul]; exact a2)
theorem eqTy_part : ∀ (d : Nat) (k : Nat) (t : TypeId) (ks : List K), eqTy E d t = some ks → EqPart E (k + d) t ks ∧ ((E.ti t).agg = true → EqAgg E (k + d) t ks)
 | 0, _, _, _, h => by simp [eqTy] at h
 | d + 1, k, t, ks, h => by
  have hne : (E.ti t).k ≠ .no := by
   intro h0; simp [eqTy, h0] at h
  have ht := E.TOk hne
  simp only [eqTy] at h
  split at h
  ·rename_i hk; simp only [Option.some.injEq] at h; subst h
   exact ⟨by have := eqLeaf_part (d := k + d) ht (.inl hk); rwa [hk] at this, by simp [TI.agg, hk]⟩
  ·rename_i hk; simp only [Option.some.injEq] at h; subst h
   exact ⟨by have := eqLeaf_part (d := k + d) ht (.inr (.inl hk)); rwa [hk] at this, by simp [TI.agg, hk]⟩
  ·rename_i kk hk; simp only [Option.some.injEq] at h; subst h
   exact ⟨by have := eqLeaf_part (d := k + d) ht (.inr (.inr ⟨kk, hk⟩)); rwa [hk] at this, by simp [TI.agg, hk]⟩
  ·rename_i n e hk
   split at h
   ·rename_i m hm
    split at h
    ·rename_i hz1 hz2
     simp only [Option.some.injEq] at h; subst h
     have ha : (E.ti t).agg = true := by simp [TI.agg, hk]
     have hz1 := Nat.eq_of_beq_eq_true hz1
     have hz2 := Nat.eq_of_beq_eq_true hz2
     have key : EqAgg E (k + (d + 1)) t (rep m n) := by
      intro w ok β cs ds vs us r h1 h2 hr
      obtain ⟨D, hd1, hd2, _⟩ := ht.und
      rw [hk] at hd2; simp only [kOk] at hd2; subst hd2
      obtain ⟨j, hj, hj2, _⟩ := (E.TOk (E.ar t n e hk)).info
      have hc : E.P.cellsOf e = m.length := by simp [Program.cellsOf, hj, hj2, hz1]
      rw [show k + (d + 1) = (k + d) + 1 from rfl, run_equalIn_array w (k + d) _ _ hd1 hj, hc, List.range_eq_range']
      exact eqItems_run w h1 h2 (eqTy_part d k e m hm).1 n 0 r (by simpa using hr)
     exact ⟨key.part ht ha (by rw [rep_len]; exact hz2.symm), fun _ => key⟩
    ·simp at h
   ·simp at h
  ·rename_i fs0 hk
   split at h
   ·rename_i fs hs hu
    split at h
    ·rename_i n hn
     split at h
     ·rename_i hz
      simp only [Option.some.injEq] at h; subst h
      have hz := Nat.eq_of_beq_eq_true hz
      have ha : (E.ti t).agg = true := by simp [TI.agg, hk]
      have key : EqAgg E (k + (d + 1)) t n := by
       intro w ok β cs ds vs us r h1 h2 hr
       have hfs : E.P.fieldsOf t = fs := by simp [Program.fieldsOf, hu]
       rw [show k + (d + 1) = (k + d) + 1 from rfl, run_equalIn_struct w (k + d) t _ _ (by rw [hfs]; exact hu) hs, hfs]
       exact eqFs_run w h1 h2 (fun t ks ht => (eqTy_part d k t ks ht).1) fs.toList 0 n r hn (by simpa using hr)
      exact ⟨key.part ht ha hz.symm, fun _ => key⟩
     ·simp at h
    ·simp at h
   ·simp at h
  ·simp at h
def eqV (op : BinOp) (b : Bool) : Bool := match op with | .neq => !b | _ => b
theorem acts_eqAgg {o : Oper} {ev : Operand → Option T} {h : Nat → Option (List T)} {reads : List Nat} {op : BinOp} {t yt : TypeId} {x y : Operand} {cs ds : List T} {ks : List K} {r : Bool}
  (ho : o.op = .binOp op t x y yt) (hop : op = .eql ∨ op = .neq) (hx : ev x = some (.agg cs)) (hy : ev y = some (.agg ds)) (ht : eqTy E 16 t = some ks) (ha : (E.ti t).agg = true)
  (hg : E.P.eqGuardType E.P.depth t = false) (hr : eqL ks cs ds = some r) : Acts E.P o ev h reads { val := .leaf (.bool (eqV op r)) } := by
 refine acts_value fun Γ σ β a w hP hev hh hs => ⟨.bool (eqV op r), ?_, by simp only [Rep], by simp [T.ids]⟩
 have e1 : σ.ev x = some (.agg cs) := by rw [hev x (by simp [ho, Op.operands]), hx]
 have e2 : σ.ev y = some (.agg ds) := by rw [hev y (by simp [ho, Op.operands]), hy]
 have r1 := hs.ev e1
 have r2 := hs.ev e2
 simp only [Rep] at r1 r2
 obtain ⟨vs, r1, q1⟩ := r1
 obtain ⟨us, r2, q2⟩ := r2
 have key := (eqTy_part 16 9984 t ks ht).2 ha w _ β cs ds vs us r q1 q2 hr
 simp only [execOp, ho, r1, r2]
 refine run_v ?_
 rw [Sem.run_bind, run_eqGuard_agg w op t x y _ _ hg, Result.andThen_ok]
 rcases hop with rfl | rfl
 ·rw [run_eql_struct, key]; rfl
 ·rw [run_neq_struct, key]; rfl
end
end Go.Vw
namespace Go.Vw
open Go Go.RowKit
mutual
theorem T.purge_id {i : Nat} : ∀ (t : T), i ∉ t.ids → t.purge i = t
 | .dead, _ | .leaf _, _ | .e0, _ | .sl .., _ | .xl .., _ | .pt .., _ => rfl
 | .agg cs, h => by simp only [T.purge]; rw [purgeL_id cs (by simpa [T.ids] using h)]
 | .tup cs, h => by simp only [T.purge]; rw [purgeL_id cs (by simpa [T.ids] using h)]
 | .iface _ v, h => by simp only [T.purge]; rw [T.purge_id v (by simpa [T.ids] using h)]
 | .fn _ p q, h => by
  simp only [T.ids, List.mem_append, not_or] at h
  simp only [T.purge]; rw [purgeL_id p h.1, purgeL_id q h.2]
 | .ref id _ _ _, h | .addr id _, h => by
  simp only [T.ids, List.mem_singleton] at h
  simp only [T.purge]; rw [if_neg (Ne.symm h)]
theorem purgeL_id {i : Nat} : ∀ (ts : List T), i ∉ idsL ts → purgeL i ts = ts
 | [], _ => rfl
 | t :: ts, h => by
  simp only [idsL, List.mem_append, not_or] at h
  simp only [purgeL]; rw [T.purge_id t h.1, purgeL_id ts h.2]
end
theorem frz_rep {Γ : Cx} {σ : St} {β : Nat → Real} {a : Act} {w : World} (hs : SimB Γ σ β a w) {i m o n : Nat} {cs : List T} (hi : σ.h i = some cs) (hc : idsL cs = []) (hl : o + n * m ≤ cs.length) {okc : Tag → Nat → Prop}
  (hok : ∀ g b, okOf Γ.X σ β w g b → okc g b) (hX : ∀ b ob E, β i = .real b ob E → okc .shr b) {β' : Nat → Real} {x : Value} (hx : Rep w (okOf Γ.X σ β w) (.ref i m o n) β x) : Rep w okc (.sl m .shr n (sub cs o (n * m))) β' x := by
 have hlen : (sub cs o (n * m)).length = n * m := by simp [sub]; omega
 have hids : idsL (sub cs o (n * m)) = [] := by
  refine List.eq_nil_iff_forall_not_mem.2 fun j hj => ?_
  have := ids_drop (cs := cs) o j (ids_take (n * m) j hj)
  rw [hc] at this; simp at this
 cases hb : β i with
 | ph =>
  simp only [Rep, hb] at hx ⊢
  obtain ⟨h1, h2, ad, h3⟩ := hx
  subst h2
  exact ⟨⟨hlen, hids⟩, ad, 0, h3, by omega, .inl rfl⟩
 | real b ob E' =>
  simp only [Rep, hb] at hx ⊢
  obtain ⟨ad, cap, h1, h2, h3, h4⟩ := hx
  refine ⟨⟨hlen, hids⟩, ad, cap, h1, h2, ?_⟩
  by_cases hn : n = 0
  ·exact .inl hn
  ·right
   obtain ⟨c, e, fr, vs, g1, g2, g3, g4, g5, g6⟩ := obj_open hs hi hb
   refine ⟨b, ob + o, h4.resolve_left (by omega), hX b ob E' hb, ?_⟩
   have r : RepL w okc cs (fun _ => .ph) vs := RepL.mono (w := w) (fun g b' hb' => ⟨hok g b' hb', rfl⟩) cs _ _ vs (fun _ _ => rfl) (g5.sealed hc)
   exact RepAt.shut ((r.drop o).take (n * m)) ((g6.drop o).take (n * m))
theorem SimB.unX {Γ : Cx} {σ : St} {β : Nat → Real} {a : Act} {w : World} (hs : SimB Γ σ β a w) {i : Nat} {cs : List T} (hi : σ.h i = some cs) {b ob E : Nat} (hb : β i = .real b ob E) (g : Tag) : ¬ Γ.X g b := fun hx => by
 obtain ⟨h1, h2⟩ := Γ.X_old g b hx
 rcases (hs.ownb b ⟨i, cs, ob, E, hi, hb⟩).2 with h | h
 ·omega
 ·exact h2 h
theorem SimB.frz {Γ : Cx} {σ : St} {β : Nat → Real} {a : Act} {w : World} (hs : SimB Γ σ β a w) {t i m o n : Nat} {cs : List T} (ht : σ.s t = some (.ref i m o n)) (hi : σ.h i = some cs) (hc : idsL cs = []) (hl : o + n * m ≤ cs.length) :
  SimB Γ { σ.drop i with s := upd (σ.drop i).s t (some (.sl m .shr n (sub cs o (n * m)))) } β a w := by
 have hd := hs.drop i
 obtain ⟨v, hv1, hv2⟩ := hs.slot t _ ht
 have how : ∀ b, own (σ.drop i) β b → own σ β b := by
  rintro b ⟨id, c, o', E, e1, e2⟩
  simp only [St.drop] at e1
  split at e1
  ·simp at e1
  ·obtain ⟨c', e3, _⟩ := Option.map_eq_some_iff.1 e1
   exact ⟨id, c', o', E, e3, e2⟩
 have hrep : Rep w (okOf Γ.X (σ.drop i) β w) (.sl m .shr n (sub cs o (n * m))) β v := by
  refine frz_rep hs hi hc hl (fun g b hb => ⟨hb.1, fun ho => hb.2.1 (how b ho), hb.2.2⟩) (fun b ob E hb => ⟨(hs.ownb b ⟨i, cs, ob, E, hi, hb⟩).1, ?_, hs.unX hi hb _⟩) hv2
  rintro ⟨id, c, o', E', e1, e2⟩
  simp only [St.drop] at e1
  split at e1
  ·simp at e1
  ·rename_i hne
   obtain ⟨c', e3, _⟩ := Option.map_eq_some_iff.1 e1
   exact hne (hs.inj id i c' cs b o' E' ob E e3 hi e2 hb)
 refine ⟨hd.defers, hd.size, hd.keeps, fun u z e => ?_, hd.obj, hd.inj, hd.ownb, fun u z e => ?_, hd.wfh, hd.stab⟩
 ·simp only [upd] at e
  split at e
  ·rename_i e'; subst e'; injection e with e; subst e; exact ⟨v, hv1, hrep⟩
  ·exact hd.slot u z e
 ·simp only [upd] at e
  split at e
  ·injection e with e; subst e; simp [T.ids]
  ·exact hd.wfs u z e
theorem frzPt_rep {Γ : Cx} {σ : St} {β : Nat → Real} {a : Act} {w : World} (hs : SimB Γ σ β a w) {i off : Nat} {cs : List T} (hi : σ.h i = some cs) (hc : idsL cs = []) {okc : Tag → Nat → Prop}
  (hok : ∀ g b, okOf Γ.X σ β w g b → okc g b) (hX : ∀ b ob E, β i = .real b ob E → okc .shr b) {β' : Nat → Real} {x : Value} (hx : Rep w (okOf Γ.X σ β w) (.addr i off) β x) : Rep w okc (.pt .shr off cs) β' x := by
 cases hb : β i with
 | ph => simp only [Rep, hb] at hx
 | real b ob E' =>
  simp only [Rep, hb] at hx ⊢
  obtain ⟨c, e, fr, vs, g1, g2, g3, g4, g5, g6⟩ := obj_open hs hi hb
  have r : RepL w okc cs (fun _ => .ph) vs := RepL.mono (w := w) (fun g b' hb' => ⟨hok g b' hb', rfl⟩) cs _ _ vs (fun _ _ => rfl) (g5.sealed hc)
  exact ⟨hc, b, ob, hx, hX b ob E' hb, RepAt.shut r g6⟩
theorem SimB.frzPt {Γ : Cx} {σ : St} {β : Nat → Real} {a : Act} {w : World} (hs : SimB Γ σ β a w) {t i off : Nat} {cs : List T} (ht : σ.s t = some (.addr i off)) (hi : σ.h i = some cs) (hc : idsL cs = []) :
  SimB Γ { σ.drop i with s := upd (σ.drop i).s t (some (.pt .shr off cs)) } β a w := by
 have hd := hs.drop i
 obtain ⟨v, hv1, hv2⟩ := hs.slot t _ ht
 have how : ∀ b, own (σ.drop i) β b → own σ β b := by
  rintro b ⟨id, c, o', E, e1, e2⟩
  simp only [St.drop] at e1
  split at e1
  ·simp at e1
  ·obtain ⟨c', e3, _⟩ := Option.map_eq_some_iff.1 e1
   exact ⟨id, c', o', E, e3, e2⟩
 have hrep : Rep w (okOf Γ.X (σ.drop i) β w) (.pt .shr off cs) β v := by
  refine frzPt_rep hs hi hc (fun g b hb => ⟨hb.1, fun ho => hb.2.1 (how b ho), hb.2.2⟩) (fun b ob E hb => ⟨(hs.ownb b ⟨i, cs, ob, E, hi, hb⟩).1, ?_, hs.unX hi hb _⟩) hv2
  rintro ⟨id, c, o', E', e1, e2⟩
  simp only [St.drop] at e1
  split at e1
  ·simp at e1
  ·rename_i hne
   obtain ⟨c', e3, _⟩ := Option.map_eq_some_iff.1 e1
   exact hne (hs.inj id i c' cs b o' E' ob E e3 hi e2 hb)
 refine ⟨hd.defers, hd.size, hd.keeps, fun u z e => ?_, hd.obj, hd.inj, hd.ownb, fun u z e => ?_, hd.wfh, hd.stab⟩
 ·simp only [upd] at e
  split at e
  ·rename_i e'; subst e'; injection e with e; subst e; exact ⟨v, hv1, hrep⟩
  ·exact hd.slot u z e
 ·simp only [upd] at e
  split at e
  ·injection e with e; subst e; simp [T.ids]
  ·exact hd.wfs u z e
section
variable {P : Program} {o : Oper} {ev : Operand → Option T} {h : Nat → Option (List T)} {r : List Nat}
theorem Acts.give {d m n : Nat} {cs : List T} (hd : d ∉ r) (hc : idsL cs = []) (hl : n * m ≤ cs.length) (hA : Acts P o ev h r { val := .ref d m 0 n, puts := [(d, cs)] }) :
  Acts P o ev h r { val := .sl m .shr n (sub cs 0 (n * m)), puts := [(d, [])] } := by
 intro Γ σ β a w K Q hP hev hh hn hdst hs hK
 have hfr := hn (d, []) (by simp) (by simp)
 have h0 : σ.h d = none := hfr.2 hd
 have hS : ∀ u, (σ.s u).map (T.purge d) = σ.s u := fun u => by
  cases e : σ.s u with
  | none => rfl
  | some x => rw [Option.map_some, T.purge_id x (fun hm => hs.wfs u x e d hm h0)]
 have hH : ∀ j, (σ.h j).map (purgeL d) = σ.h j := fun j => by
  cases e : σ.h j with
  | none => rfl
  | some x => rw [Option.map_some, purgeL_id x (fun hm => hs.wfh j x e d hm h0)]
 refine hA Γ σ β a w K Q hP hev hh (fun p hp hq => ?_) hdst hs ?_
 ·simp only [List.mem_singleton] at hp; subst hp; exact hfr
 rintro a' w' ⟨β', hs'⟩
 apply hK
 cases ho : o.dst with
 | none =>
  rw [ho] at hs'
  have hp := (hs'.drop d).phantom (id := d) (by simp [St.drop]) hfr.1
  refine ⟨_, cast (congrArg (fun τ => SimB Γ τ _ a' w') ?_) hp⟩
  refine St.ext' (fun u => ?_) (fun j => ?_)
  ·simp only [Eff.apply, St.drops, St.puts, St.set, St.drop]; exact hS u
  ·simp only [Eff.apply, St.drops, St.puts, St.set, St.drop, upd]
   split
   ·rfl
   ·exact hH j
 | some t =>
  rw [ho] at hs'
  have hz := hs'.frz (t := t) (i := d) (m := m) (o := 0) (n := n) (cs := cs) (by simp [Eff.apply, St.set, upd]) (by simp [Eff.apply, St.puts, St.set, St.drops, upd]) hc (by omega)
  have hp := hz.phantom (id := d) (by simp [St.drop]) hfr.1
  refine ⟨_, cast (congrArg (fun τ => SimB Γ τ _ a' w') ?_) hp⟩
  refine St.ext' (fun u => ?_) (fun j => ?_)
  ·simp only [Eff.apply, St.drops, St.puts, St.set, St.drop, upd]
   split
   ·rfl
   ·rename_i hne
    exact hS u
  ·simp only [Eff.apply, St.drops, St.puts, St.set, St.drop, upd]
   split
   ·rfl
   ·exact hH j
theorem T.purge_pp (d : Nat) (x : T) : (x.purge d).purge d = x.purge d := T.purge_id _ (fun hm => (T.ids_purge d x d hm).1 rfl)
theorem purgeL_pp (d : Nat) (x : List T) : purgeL d (purgeL d x) = purgeL d x := purgeL_id _ (fun hm => (ids_purgeL d x d hm).1 rfl)
theorem Acts.giveApp {d m n : Nat} {cs : List T} (hc : idsL cs = []) (hl : n * m ≤ cs.length) (hA : Acts P o ev h r { val := .ref d m 0 n, drops := [d], puts := [(d, cs)] }) :
  Acts P o ev h r { val := .sl m .shr n (sub cs 0 (n * m)), drops := [d], puts := [(d, [])] } := by
 intro Γ σ β a w K Q hP hev hh hn hdst hs hK
 have hfr := hn (d, []) (by simp) (by simp)
 refine hA Γ σ β a w K Q hP hev hh (fun p hp hq => ?_) hdst hs ?_
 ·simp only [List.mem_singleton] at hp; subst hp; exact hfr
 rintro a' w' ⟨β', hs'⟩
 apply hK
 cases ho : o.dst with
 | none =>
  rw [ho] at hs'
  have hp := (hs'.drop d).phantom (id := d) (by simp [St.drop]) hfr.1
  refine ⟨_, cast (congrArg (fun τ => SimB Γ τ _ a' w') ?_) hp⟩
  refine St.ext' (fun u => ?_) (fun j => ?_)
  ·simp only [Eff.apply, St.drops, St.puts, St.set, St.drop, Option.map_map]; congr 1; funext x; exact T.purge_pp d x
  ·simp only [Eff.apply, St.drops, St.puts, St.set, St.drop, upd]
   split
   ·rfl
   ·simp only [Option.map_map]; congr 1; funext x; exact purgeL_pp d x
 | some t =>
  rw [ho] at hs'
  have hz := hs'.frz (t := t) (i := d) (m := m) (o := 0) (n := n) (cs := cs) (by simp [Eff.apply, St.set, upd]) (by simp [Eff.apply, St.puts, St.set, St.drops, upd]) hc (by omega)
  have hp := hz.phantom (id := d) (by simp [St.drop]) hfr.1
  refine ⟨_, cast (congrArg (fun τ => SimB Γ τ _ a' w') ?_) hp⟩
  refine St.ext' (fun u => ?_) (fun j => ?_)
  ·simp only [Eff.apply, St.drops, St.puts, St.set, St.drop, upd]
   split
   ·rfl
   ·simp only [Option.map_map]; congr 1; funext x; exact T.purge_pp d x
  ·simp only [Eff.apply, St.drops, St.puts, St.set, St.drop, upd]
   split
   ·rfl
   ·simp only [Option.map_map]; congr 1; funext x; exact purgeL_pp d x
theorem Acts.givePt {d off : Nat} {cs : List T} (hd : d ∉ r) (hc : idsL cs = []) (hA : Acts P o ev h r { val := .addr d off, puts := [(d, cs)] }) :
  Acts P o ev h r { val := .pt .shr off cs, puts := [(d, [])] } := by
 intro Γ σ β a w K Q hP hev hh hn hdst hs hK
 have hfr := hn (d, []) (by simp) (by simp)
 have h0 : σ.h d = none := hfr.2 hd
 have hS : ∀ u, (σ.s u).map (T.purge d) = σ.s u := fun u => by
  cases e : σ.s u with
  | none => rfl
  | some x => rw [Option.map_some, T.purge_id x (fun hm => hs.wfs u x e d hm h0)]
 have hH : ∀ j, (σ.h j).map (purgeL d) = σ.h j := fun j => by
  cases e : σ.h j with
  | none => rfl
  | some x => rw [Option.map_some, purgeL_id x (fun hm => hs.wfh j x e d hm h0)]
 refine hA Γ σ β a w K Q hP hev hh (fun p hp hq => ?_) hdst hs ?_
 ·simp only [List.mem_singleton] at hp; subst hp; exact hfr
 rintro a' w' ⟨β', hs'⟩
 apply hK
 cases ho : o.dst with
 | none =>
  rw [ho] at hs'
  have hp := (hs'.drop d).phantom (id := d) (by simp [St.drop]) hfr.1
  refine ⟨_, cast (congrArg (fun τ => SimB Γ τ _ a' w') ?_) hp⟩
  refine St.ext' (fun u => ?_) (fun j => ?_)
  ·simp only [Eff.apply, St.drops, St.puts, St.set, St.drop]; exact hS u
  ·simp only [Eff.apply, St.drops, St.puts, St.set, St.drop, upd]
   split
   ·rfl
   ·exact hH j
 | some t =>
  rw [ho] at hs'
  have hz := hs'.frzPt (t := t) (i := d) (off := off) (cs := cs) (by simp [Eff.apply, St.set, upd]) (by simp [Eff.apply, St.puts, St.set, St.drops, upd]) hc
  have hp := hz.phantom (id := d) (by simp [St.drop]) hfr.1
  refine ⟨_, cast (congrArg (fun τ => SimB Γ τ _ a' w') ?_) hp⟩
  refine St.ext' (fun u => ?_) (fun j => ?_)
  ·simp only [Eff.apply, St.drops, St.puts, St.set, St.drop, upd]
   split
   ·rfl
   ·rename_i hne
    exact hS u
  ·simp only [Eff.apply, St.drops, St.puts, St.set, St.drop, upd]
   split
   ·rfl
   ·exact hH j
theorem Acts.giveStay {d m off n : Nat} {cs : List T} (hr : d ∈ r) (hid : h d = some cs) (hc : idsL cs = []) (hl : off + n * m ≤ cs.length) (hA : Acts P o ev h r { val := .ref d m off n, puts := [(d, cs)], stay := [d] }) :
  Acts P o ev h r { val := .sl m .shr n (sub cs off (n * m)), drops := [d] } := by
 intro Γ σ β a w K Q hP hev hh hn hds hs hK
 refine hA Γ σ β a w K Q hP hev hh (fun p hp hq => ?_) hds hs ?_
 ·simp only [List.mem_singleton] at hp; subst hp; exact absurd (List.mem_singleton.2 rfl) hq
 rintro a' w' ⟨β', hs'⟩
 apply hK
 cases ho : o.dst with
 | none =>
  rw [ho] at hs'
  refine ⟨_, cast (congrArg (fun τ => SimB Γ τ _ a' w') ?_) (hs'.drop d)⟩
  refine St.ext' (fun u => ?_) (fun j => ?_)
  ·simp only [Eff.apply, St.drops, St.puts, St.set, St.drop]
  ·simp only [Eff.apply, St.drops, St.puts, St.set, St.drop, upd]
   split
   ·rfl
   ·rfl
 | some t =>
  rw [ho] at hs'
  have hz := hs'.frz (t := t) (i := d) (m := m) (o := off) (n := n) (cs := cs) (by simp [Eff.apply, St.set, upd]) (by simp [Eff.apply, St.puts, St.set, St.drops, upd]) hc hl
  refine ⟨_, cast (congrArg (fun τ => SimB Γ τ _ a' w') ?_) hz⟩
  refine St.ext' (fun u => ?_) (fun j => ?_)
  ·simp only [Eff.apply, St.drops, St.puts, St.set, St.drop, upd]
   split <;> rfl
  ·simp only [Eff.apply, St.drops, St.puts, St.set, St.drop, upd]
   split
   ·rfl
   ·rename_i hj; rfl
theorem Acts.giveLook {d m off n : Nat} {cs : List T} (hr : d ∈ r) (hid : h d = some cs) (hc : idsL cs = []) (hl : off + n * m ≤ cs.length) (hA : Acts P o ev h r { val := .ref d m off n }) :
  Acts P o ev h r { val := .sl m .shr n (sub cs off (n * m)), drops := [d] } := by
 intro Γ σ β a w K Q hP hev hh hn hds hs hK
 have hσ : σ.h d = some cs := (hh d hr).trans hid
 refine hA Γ σ β a w K Q hP hev hh (fun p hp hq => by cases hp) hds hs ?_
 rintro a' w' ⟨β', hs'⟩
 apply hK
 cases ho : o.dst with
 | none =>
  rw [ho] at hs'
  refine ⟨_, cast (congrArg (fun τ => SimB Γ τ _ a' w') ?_) (hs'.drop d)⟩
  refine St.ext' (fun u => ?_) (fun j => ?_)
  ·simp only [Eff.apply, St.drops, St.puts, St.set, St.drop]
  ·simp only [Eff.apply, St.drops, St.puts, St.set, St.drop, upd]
 | some t =>
  rw [ho] at hs'
  have hz := hs'.frz (t := t) (i := d) (m := m) (o := off) (n := n) (cs := cs) (by simp [Eff.apply, St.set, upd]) (by simp [Eff.apply, St.puts, St.set, St.drops, hσ]) hc hl
  refine ⟨_, cast (congrArg (fun τ => SimB Γ τ _ a' w') ?_) hz⟩
  refine St.ext' (fun u => ?_) (fun j => ?_)
  ·simp only [Eff.apply, St.drops, St.puts, St.set, St.drop, upd]
   split <;> rfl
  ·simp only [Eff.apply, St.drops, St.puts, St.set, St.drop, upd]
theorem acts_slicePt {ty el : TypeId} {x : Operand} {lo hi mx : Option Operand} {rl rh rm : Option Int} {off N l hh' mm : Nat} {g : Tag} {cs : List T} {i i' : TI} (ho : o.op = .slice ty x lo hi mx) (hx : ev x = some (.pt g off cs)) (hlo : evB ev lo = some rl) (hhi : evB ev hi = some rh) (hmx : evB ev mx = some rm)
  (ht : TOk P ty i) (hk : i.k = .array N el) (he : TOk P el i') (hl : off + N * i'.size ≤ cs.length) (hc : cutOk rl rh rm N l hh' mm) : Acts P o ev h r { val := .sl i'.size g (hh' - l) (sub cs (off + l * i'.size) ((hh' - l) * i'.size)) } := by
 refine acts_value fun Γ σ β a w hP hev hh hs => ?_
 have e : σ.ev x = some (.pt g off cs) := by rw [hev x (operands_slice ho (.inl rfl)), hx]
 have bl := evB_run hs (show evB σ.ev lo = some rl by rw [evB_congr fun y hy => hev y (operands_slice ho (.inr (.inl hy))), hlo])
 have bh := evB_run hs (show evB σ.ev hi = some rh by rw [evB_congr fun y hy => hev y (operands_slice ho (.inr (.inr (.inl hy)))), hhi])
 have bm := evB_run hs (show evB σ.ev mx = some rm by rw [evB_congr fun y hy => hev y (operands_slice ho (.inr (.inr (.inr hy)))), hmx])
 obtain ⟨d, h3, h4, _⟩ := ht.und
 rw [hk] at h4; simp only [kOk] at h4; subst h4
 have hrep := hs.ev e
 simp only [Rep] at hrep
 obtain ⟨g2, b, ob, hv, g5, g6⟩ := hrep
 have hc' := hc
 obtain ⟨c1, c2, c3, c4, c5, c6, c7⟩ := hc'
 have hbd := run_bounds (P := P) w false bl bh bm hc (Nat.le_refl N)
 refine ⟨.slice (some (if (if mx = none then N else mm) = l then ⟨b, ob + off, none⟩ else (⟨b, ob + off, none⟩ : Addr).add (l * i'.size))) (hh' - l) ((if mx = none then N else mm) - l), ?_, ?_, by simp [T.ids]⟩
 ·simp only [execOp, ho, hv]
  refine run_v ?_
  simp only [Instr.sliceAt, Sem.run_bind, run_underlying h3, Result.andThen_ok, Instr.sureAddr, Sem.run_pure, hbd, he.size w]
 ·have hle : (if mx = none then N else mm) ≤ N := by split <;> omega
  have hlm : l ≤ (if mx = none then N else mm) := by split <;> omega
  have hhm : hh' ≤ (if mx = none then N else mm) := by split <;> omega
  have hln : l * i'.size + (hh' - l) * i'.size ≤ N * i'.size := by
   rw [← Nat.add_mul]; exact Nat.mul_le_mul_right _ (by omega)
  simp only [Rep]
  refine ⟨⟨by simp [sub]; omega, ?_⟩, _, _, rfl, by omega, ?_⟩
  ·refine List.eq_nil_iff_forall_not_mem.2 fun q hq => ?_
   have := ids_sub _ _ q hq
   rw [g2] at this; simp at this
  ·by_cases hz : hh' - l = 0
   ·exact .inl hz
   ·right
    rw [if_neg (by omega)]
    obtain ⟨vs, g7, g8⟩ := g6.open_
    refine ⟨b, ob + (off + l * i'.size), by simp [addr_add, Nat.add_assoc], g5, RepAt.shut (vs := (vs.drop (off + l * i'.size)).take ((hh' - l) * i'.size)) ((g7.drop _).take _) ((g8.drop _).take _)⟩
theorem acts_arrayAtSl {arr el : TypeId} {x : Operand} {m n N : Nat} {g : Tag} {cs : List T} {i : TI} (ho : o.op = .sliceToArrayPointer arr x) (hx : ev x = some (.sl m g n cs)) (ht : TOk P arr i) (hk : i.k = .array N el) (h0 : 0 < N) (h1 : N ≤ n) : Acts P o ev h r { val := .pt g 0 cs } := by
 refine acts_value fun Γ σ β a w hP hev hh hsim => ?_
 have e : σ.ev x = some (.sl m g n cs) := by rw [hev x (by simp [ho, Op.operands]), hx]
 have hrep := hsim.ev e
 simp only [Rep] at hrep
 obtain ⟨⟨h2, h2'⟩, ad, cap, h3, h4, h4'⟩ := hrep
 obtain ⟨b, ob, rfl, h7, h8⟩ := h4'.resolve_left (by omega)
 obtain ⟨d, h5, h6, _⟩ := ht.und
 rw [hk] at h6; simp only [kOk] at h6; subst h6
 refine ⟨.pointer (some ⟨b, ob, none⟩), ?_, by simp only [Rep]; exact ⟨h2', b, ob, rfl, h7, h8⟩, by simp [T.ids]⟩
 simp only [execOp, ho]
 refine run_v ?_
 rw [h3]
 exact run_arrayAt w arr el N _ n cap h5 h1
theorem acts_arrayAtRef {arr el : TypeId} {x : Operand} {id m off n N : Nat} {i : TI} (ho : o.op = .sliceToArrayPointer arr x) (hx : ev x = some (.ref id m off n)) (ht : TOk P arr i) (hk : i.k = .array N el) (h0 : 0 < N) (h1 : N ≤ n) : Acts P o ev h r { val := .addr id off } := by
 refine acts_value fun Γ σ β a w hP hev hh hsim => ?_
 have e : σ.ev x = some (.ref id m off n) := by rw [hev x (by simp [ho, Op.operands]), hx]
 have hrep := hsim.ev e
 simp only [Rep] at hrep
 cases hb : β id with
 | ph => rw [hb] at hrep; obtain ⟨_, rfl, _⟩ := hrep; omega
 | real b ob E =>
  rw [hb] at hrep
  obtain ⟨ad, cap, h3, h4, h4', h4''⟩ := hrep
  have had : ad = some ⟨b, ob + off, none⟩ := h4''.resolve_left (by omega)
  subst had
  obtain ⟨d, h5, h6, _⟩ := ht.und
  rw [hk] at h6; simp only [kOk] at h6; subst h6
  refine ⟨.pointer (some ⟨b, ob + off, none⟩), ?_, by simp [Rep, hb], by simpa [T.ids] using hsim.ev_ids e⟩
  simp only [execOp, ho]
  refine run_v ?_
  rw [h3]
  exact run_arrayAt w arr el N _ n cap h5 h1
def LeT (a b : T) : Prop := (∀ w ok β v, Rep w ok a β v → Rep w ok b β v) ∧ ∀ i ∈ b.ids, i ∈ a.ids
theorem SimB.slotLeT {Γ : Cx} {σ : St} {β : Nat → Real} {a : Act} {w : World} (hs : SimB Γ σ β a w) {t : Nat} {x y : T} (hx : σ.s t = some x) (h : LeT x y) : SimB Γ { σ with s := upd σ.s t (some y) } β a w := by
 refine ⟨hs.defers, hs.size, hs.keeps, fun u z e => ?_, hs.obj, hs.inj, hs.ownb, fun u z e => ?_, hs.wfh, hs.stab⟩
 ·simp only [upd] at e
  split at e
  ·rename_i e'; subst e'; injection e with e; subst e
   obtain ⟨v, h1, h2⟩ := hs.slot _ _ hx
   exact ⟨v, h1, h.1 _ _ _ _ h2⟩
  ·exact hs.slot u z e
 ·simp only [upd] at e
  split at e
  ·injection e with e; subst e; exact fun i hi => hs.wfs _ _ hx i (h.2 i hi)
  ·exact hs.wfs u z e
theorem Acts.leT {e : Eff} {v : T} (hv : LeT e.val v) (hA : Acts P o ev h r e) : Acts P o ev h r { val := v, drops := e.drops, puts := e.puts, stay := e.stay } := by
 intro Γ σ β a w K Q hP hev hh hn hds hs hK
 refine hA Γ σ β a w K Q hP hev hh hn hds hs ?_
 rintro a' w' ⟨β', hs'⟩
 apply hK
 cases ho : o.dst with
 | none =>
  rw [ho] at hs'
  exact ⟨_, hs'⟩
 | some t =>
  rw [ho] at hs'
  have hz := hs'.slotLeT (t := t) (x := e.val) (y := v) (by simp [Eff.apply, St.set, upd]) hv
  refine ⟨_, cast (congrArg (fun τ => SimB Γ τ _ a' w') ?_) hz⟩
  refine St.ext' (fun u => ?_) (fun j => ?_)
  ·simp only [Eff.apply, St.set, upd]
   split <;> rfl
  ·simp only [Eff.apply, St.set, upd]
def LeC (a b : List T) : Prop := (∀ w ok β vs, RepL w ok a β vs → RepL w ok b β vs) ∧ (∀ i ∈ idsL b, i ∈ idsL a) ∧ b.length = a.length
theorem SimB.objLeT {Γ : Cx} {σ : St} {β : Nat → Real} {a : Act} {w : World} (hs : SimB Γ σ β a w) {i : Nat} {cs cs' : List T} (hi : σ.h i = some cs) (h : LeC cs cs') : SimB Γ { σ with h := upd σ.h i (some cs') } β a w := by
 have hkey : ∀ j, (upd σ.h i (some cs') j).isSome = (σ.h j).isSome := fun j => by
  simp only [upd]; split
  ·rename_i e; subst e; rw [hi]; rfl
  ·rfl
 have ho : own { σ with h := upd σ.h i (some cs') } β = own σ β := funext fun b => propext ⟨fun ⟨id, c, o, E, h1, h2⟩ => by
   have := hkey id
   rw [show upd σ.h i (some cs') id = some c from h1] at this
   cases q : σ.h id with
   | none => rw [q] at this; cases this
   | some c' => exact ⟨id, c', o, E, q, h2⟩,
  fun ⟨id, c, o, E, h1, h2⟩ => by
   have := hkey id
   rw [h1] at this
   cases q : upd σ.h i (some cs') id with
   | none => rw [q] at this; cases this
   | some c' => exact ⟨id, c', o, E, q, h2⟩⟩
 have hk : okOf Γ.X { σ with h := upd σ.h i (some cs') } β w = okOf Γ.X σ β w := by
  funext g b; simp only [okOf, ho]
 have hsome : ∀ j, σ.h j ≠ none → upd σ.h i (some cs') j ≠ none := fun j hj hn => by
  have := hkey j
  rw [hn] at this
  cases q : σ.h j with
  | none => exact hj q
  | some c => rw [q] at this; cases this
 refine ⟨hs.defers, hs.size, hs.keeps, fun t x e => ?_, fun id c e => ?_, fun id id' c c' b o E o' E' e e' => ?_, fun b hb => hs.ownb b (by rw [← ho]; exact hb), fun t x e j hj => hsome j (hs.wfs t x e j hj), fun id c e j hj => ?_, hs.stab⟩
 ·rw [hk]; exact hs.slot t x e
 ·rw [hk]
  simp only [upd] at e
  split at e
  ·rename_i e'; subst e'; injection e with e; subst e
   have := hs.obj _ _ hi
   cases q : β id with
   | ph =>
    rw [q] at this
    simp only [ObjAt] at this ⊢
    subst this
    exact List.length_eq_zero_iff.1 (by rw [h.2.2]; rfl)
   | real b o E =>
    rw [q] at this
    simp only [ObjAt] at this ⊢
    obtain ⟨c, e, fr, vs, h1, h2, h3, h4, h5, h6⟩ := this
    exact ⟨c, e, fr, vs, h1, h2, by rw [h.2.2]; exact h3, h4, h.1 _ _ _ _ h5, h6⟩
  ·exact hs.obj id c e
 ·intro h1 h2
  have k1 := hkey id; have k2 := hkey id'
  rw [show upd σ.h i (some cs') id = some c from e] at k1
  rw [show upd σ.h i (some cs') id' = some c' from e'] at k2
  cases q1 : σ.h id with
  | none => rw [q1] at k1; cases k1
  | some d1 =>
   cases q2 : σ.h id' with
   | none => rw [q2] at k2; cases k2
   | some d2 => exact hs.inj id id' d1 d2 b o E o' E' q1 q2 h1 h2
 ·simp only [upd] at e
  split at e
  ·rename_i e'; subst e'; injection e with e; subst e
   exact hsome j (hs.wfh _ _ hi j (h.2.1 j hj))
  ·exact hsome j (hs.wfh _ _ e j hj)
end
end Go.Vw
namespace Go.Vw
open Go Go.RowKit
section
variable {P : Program} {o : Oper} {ev : Operand → Option T} {h : Nat → Option (List T)} {reads : List Nat}
theorem run_append_make {t u ty el : TypeId} {i' : TI} {kk k' : IntKind} (ht : P.underlying t = some (.slice el)) (hu : P.underlying u = some (.int kk)) (he : TOk P el i') (hzl : i'.zero.length = i'.size) {ad : Option Addr} {n : Int} {w : World}
  (h0 : 0 ≤ n) (hb : n * i'.bytes ≤ 140737488355328) (hp : 0 < i'.bytes) :
  (n = 0 ∧ (Builtin.append_ #[t, u] ty #[.slice ad 0 0, .int k' n]).run P w = .ok (.slice ad 0 0) w) ∨
  (0 < n ∧ ∃ C, n.toNat ≤ C ∧ (Builtin.append_ #[t, u] ty #[.slice ad 0 0, .int k' n]).run P w = .ok (.slice (some ⟨w.heap.size, 0, none⟩) n.toNat C) (w.drew.alloc (.cells ((Builtin.zeroCells i'.zero.toArray n.toNat) ++ Builtin.zeroCells i'.zero.toArray (C - n.toNat)) el))) := by
 obtain ⟨j, q1, q2, q3, z, q4, q5⟩ := he.info
 have hz : ∀ w : World, (sizeOf el).run P w = .ok i'.size w := he.size
 have hn63 : n ≤ 140737488355328 := by
  have : n * 1 ≤ n * i'.bytes := Int.mul_le_mul_of_nonneg_left (by omega) h0
  omega
 have wn : IntKind.i64.wrap n = n := by simp [IntKind.wrap, IntKind.bits, IntKind.signed]; omega
 have h48 : ¬ (281474976710656 < n * (i'.bytes : Int)) := by omega
 have hneg : ¬ n < 0 := by omega
 by_cases c : n = 0
 ·subst c
  left
  refine ⟨rfl, ?_⟩
  cases ad with
  | none => simp [Builtin.append_, run_underlying ht, run_underlying hu, sizeOf, typeInfo, q1, q2, q3, asInt, asIntOf, wn]
  | some a => simp [Builtin.append_, run_underlying ht, run_underlying hu, sizeOf, typeInfo, q1, q2, q3, asInt, asIntOf, wn, storeCells]
 ·right
  refine ⟨by omega, grownCap w n.toNat 0 el, grownCap_ge w n.toNat 0 el, ?_⟩
  have hfit := growslice_fits (need := n.toNat) (old := 0) (bytes := i'.bytes) (by omega) (by
   have : ((n.toNat * i'.bytes : Nat) : Int) ≤ 140737488355328 := by rw [Int.natCast_mul, Int.toNat_of_nonneg h0]; exact hb
   omega)
  have h48' : ¬ (281474976710656 < Builtin.nextslicecap n.toNat 0 * i'.bytes) := by omega
  have hnn : ¬ n.toNat ≤ 0 := by omega
  have h63' : ¬ (9223372036854775807 < ((n.toNat : Nat) : Int)) := by omega
  have hold : (Builtin.firstCells i'.size 0 (.slice ad 0 0)).run P w.drew = .ok #[] w.drew := by
   cases ad <;> simp [Builtin.firstCells, loadCells, loadCellsFrom]
  have ez : z.cells.size = i'.size := by rw [q5]; simpa using hzl
  have ez2 : z.cells = i'.zero.toArray := by rw [q5]
  have e0 : n.toNat * i'.size = 0 → Builtin.zeroCells i'.zero.toArray n.toNat = #[] := fun e => by
   simp [Builtin.zeroCells, hzl, e]
  have hint : ¬ n ≤ 0 := by omega
  have hmax : ¬ (9223372036854775807 < max n 0) := by omega
  have hmax2 : max n 0 ≤ 9223372036854775807 := by omega
  by_cases cz : n.toNat * i'.size = 0
  ·rw [e0 cz]
   simp [Builtin.append_, run_underlying ht, run_underlying hu, sizeOf, typeInfo, zeroValue, q1, q2, q3, q4, asInt, asIntOf, wn, hneg, h48, h48', hnn, hint, h63', Question.forced, newRow, grownCap, hold, cz, ez2, c, hmax]
  ·simp [Builtin.append_, run_underlying ht, run_underlying hu, sizeOf, typeInfo, zeroValue, q1, q2, q3, q4, asInt, asIntOf, wn, hneg, h48, h48', hnn, hint, h63', Question.forced, newRow, grownCap, hold, cz, ez2, c, hmax]
theorem acts_appendMake {t u el : TypeId} {x y : Operand} {d : Nat} {b0 : T} {k' kk : IntKind} {n : Int} {i i' : TI} (ho : o.op = .call { callee := .builtin .append, args := #[x, y], argTypes := #[t, u] }) (hx : ev x = some b0) (hb0 : b0 = .leaf (.slice none 0 0) ∨ b0 = .e0) (hy : ev y = some (.leaf (.int k' n)))
  (ht : TOk P t i) (hk : i.k = .slice el) (hu : ∃ j, TOk P u j ∧ j.k = .int kk) (he : TOk P el i') (hz : i'.zero.length = i'.size) (h0 : 0 ≤ n) (hb : n * i'.bytes ≤ 140737488355328) (hp : 0 < i'.bytes) (hd : d ∉ reads) :
  Acts P o ev h reads { val := .ref d i'.size 0 n.toNat, puts := [(d, zerosT i'.zero n.toNat)] } := by
 refine acts_of fun Γ σ β a w hP hev hh hn hs => ?_
 have hd' : σ.h d = none := (hn (d, zerosT i'.zero n.toNat) (by simp) (by simp)).2 hd
 have hdS := (hn (d, zerosT i'.zero n.toNat) (by simp) (by simp)).1
 have e1 : σ.ev x = some b0 := by rw [hev x (by simp [ho, Op.operands, Call.operands]), hx]
 have e2 : a.eval y = .int k' n := by simpa [Rep] using hs.ev (show σ.ev y = some (.leaf (.int k' n)) by rw [hev y (by simp [ho, Op.operands, Call.operands]), hy])
 obtain ⟨dd, h6, h7, _⟩ := ht.und
 rw [hk] at h7; simp only [kOk] at h7; subst h7
 obtain ⟨j, hj, hjk⟩ := hu
 obtain ⟨d2, h8, h9, _⟩ := hj.und
 rw [hjk] at h9; simp only [kOk] at h9; subst h9
 have hv : ∃ ad, a.eval x = .slice ad 0 0 := by
  have := hs.ev e1
  rcases hb0 with rfl | rfl
  ·exact ⟨none, by simpa [Rep] using this⟩
  ·simpa [Rep] using this
 obtain ⟨ad, hv⟩ := hv
 have hexec : ∀ r w', (Builtin.append_ #[t, u] o.type #[.slice ad 0 0, .int k' n]).run P w = .ok r w' → (execOp a.eval o).run P w = .ok (.value r) w' := fun r w' hr => by
  simp only [execOp, ho, resolve, Sem.run_bind, Sem.run_pure, Result.andThen_ok, invoke, builtin]
  simp [hv, e2, hr]
 have hlz := zerosT_length i'.zero n.toNat
 rw [hz] at hlz
 rcases run_append_make (ty := o.type) (ad := ad) (k' := k') (w := w) h6 h8 he hz h0 hb hp with ⟨g1, g2⟩ | ⟨g1, C, g2, g3⟩
 ·subst g1
  have ez : zerosT i'.zero (Int.toNat 0) = [] := List.length_eq_zero_iff.1 (by rw [hlz]; simp)
  rw [ez]
  refine ⟨.slice ad 0 0, w, _, .inl (hexec _ _ g2), hs.phantom hd' hdS, ?_, by simp [T.ids, St.puts, St.drops, upd]⟩
  simp [Rep, reals]
 ·have hrz : RepL w (okOf Γ.X σ β w) (zerosT i'.zero n.toNat) β (Builtin.zeroCells i'.zero.toArray n.toNat).toList := by
   have := RepL.zeros (w := w) (ok := okOf Γ.X σ β w) (β := β) i'.zero n.toNat
   simpa [Builtin.zeroCells] using this
  have hsim := hs.newRow (el := el) (z := i'.zero.toArray) (C := C) hd' hdS (by simpa using hz) g2 hlz hrz (by simp [idsL_zerosT])
  simp only [Array.toArray_toList] at hsim
  refine ⟨_, _, _, .inl (hexec _ _ g3), hsim, ?_, by simp [T.ids, St.puts, St.drops, upd]⟩
  simp only [Rep, reals, if_true]
  refine ⟨_, C, rfl, g2, by omega, .inr rfl⟩
end
end Go.Vw
namespace Go.Vw
open Go Go.RowKit
section
variable {P : Program} {o : Oper} {ev : Operand → Option T} {h : Nat → Option (List T)} {reads : List Nat}
theorem run_clear_m {P : Program} {n : Nat} (w : World) (t e ty : TypeId) (z : Value) (ht : P.underlying t = some (.slice e)) (hv : ∀ w, (zeroValue e).run P w = .ok z w) (h1 : ∀ v ∈ (Builtin.zeroCells z.cells n).toList, v.oneCell' = true) (b o c : Nat) (hn : 0 < n)
  (hc : ∀ j, j < (Builtin.zeroCells z.cells n).toList.length → (w.cell? ⟨b, o + j, none⟩).isSome = true) (hf : ∀ j, j < (Builtin.zeroCells z.cells n).toList.length → w.frozen? ⟨b, o + j, none⟩ = false) :
  (Builtin.clear_ #[t] ty #[.slice (some ⟨b, o, none⟩) n c]).run P w = .ok (.tuple #[]) (w.setCells b o (Builtin.zeroCells z.cells n).toList) := by
 have hst := run_storeCells_cells (P := P) b o (Builtin.zeroCells z.cells n).toList 0 w (by simpa using hc) (by simpa using hf) h1
 simp only [Nat.add_zero] at hst
 obtain ⟨m, rfl⟩ : ∃ m, n = m + 1 := ⟨n - 1, by omega⟩
 simp [Builtin.clear_, run_underlying ht, hv, hst]
theorem scal_one : ∀ {zs : List Value}, scalL (zs.map .leaf) = true → ∀ v ∈ zs, v.oneCell' = true
 | [], _, v, h => by simp at h
 | z :: zs, hs, v, h => by
  simp only [List.map_cons, scalL, T.scal, Bool.and_eq_true] at hs
  rcases List.mem_cons.1 h with rfl | h
  ·exact hs.1
  ·exact scal_one hs.2 v h
theorem one_scal : ∀ {zs : List Value}, (∀ v ∈ zs, v.oneCell' = true) → scalL (zs.map .leaf) = true
 | [], _ => rfl
 | z :: zs, h => by
  simp only [List.map_cons, scalL, T.scal, Bool.and_eq_true]
  exact ⟨h z (by simp), one_scal fun v hv => h v (by simp [hv])⟩
theorem acts_clear {t el : TypeId} {x : Operand} {id m off n : Nat} {c0 : List T} {i i' : TI} (ho : o.op = .call { callee := .builtin .clear, args := #[x], argTypes := #[t] }) (hx : ev x = some (.ref id m off n)) (ht : TOk P t i) (hk : i.k = .slice el)
  (he : TOk P el i') (hm : i'.size = m) (hzs : scalL (i'.zero.map .leaf) = true) (hri : id ∈ reads) (hid : h id = some c0) (hoff : off + n * m ≤ c0.length) (hn : 0 < n) : Acts P o ev h reads { val := .tup [], puts := [(id, c0.take off)], stay := [id] } := by
 refine acts_of fun Γ σ β a w hP hev hh _ hs => ?_
 subst hm
 have hid' : σ.h id = some c0 := by rw [hh id hri, hid]
 have e1 : σ.ev x = some (.ref id i'.size off n) := by rw [hev x (by simp [ho, Op.operands, Call.operands]), hx]
 obtain ⟨dd, h6, h7, _⟩ := ht.und
 rw [hk] at h7; simp only [kOk] at h7; subst h7
 have hrep := hs.ev e1
 simp only [Rep] at hrep
 cases hb : β id with
 | ph => rw [hb] at hrep; obtain ⟨_, h0, _⟩ := hrep; omega
 | real b ob E =>
  rw [hb] at hrep
  obtain ⟨ad, cap, hv, g1, g2, g3⟩ := hrep
  have had := g3.resolve_left (by omega)
  subst had
  obtain ⟨c, el', fr, vs, q1, q2, q3, q4, q5, q6⟩ := obj_open hs hid' hb
  obtain ⟨j, z1, z2, z3, z, z4, z5⟩ := he.info
  have hzv : ∀ w : World, (zeroValue el).run P w = .ok z w := fun w => by simp [zeroValue, typeInfo, z1, z4]
  obtain ⟨nv, hnv⟩ : ∃ nv, nv = (Builtin.zeroCells z.cells n).toList := ⟨_, rfl⟩
  have hnl : nv.length = n * i'.size := by rw [hnv, Array.length_toList, Builtin.zeroCells, Array.size_map, Array.size_range, z5, List.size_toArray, he.zlen]
  have hone : ∀ v ∈ nv, v.oneCell' = true := by
   intro v hv'
   have hpos : 0 < i'.size := by
    rcases Nat.eq_zero_or_pos i'.size with h0 | h0
    ·rw [h0, Nat.mul_zero] at hnl; rw [List.length_eq_zero_iff.1 hnl] at hv'; simp at hv'
    ·exact h0
   rw [hnv] at hv'
   simp only [Builtin.zeroCells, Array.toList_map, List.mem_map] at hv'
   obtain ⟨k, _, rfl⟩ := hv'
   have hlt : k % z.cells.size < z.cells.size := Nat.mod_lt _ (by rw [z5, List.size_toArray, he.zlen]; exact hpos)
   refine scal_one hzs _ ?_
   have : z.cells[k % z.cells.size]! ∈ z.cells := by
    rw [getElem!_pos z.cells _ hlt]; exact Array.getElem_mem hlt
   rw [z5] at this ⊢
   simpa using this
  have hle : n * i'.size ≤ cap * i'.size := Nat.mul_le_mul_right _ g1
  have hex : ∀ j, j < c.size → (w.cell? ⟨b, j, none⟩).isSome = true := fun j hj => by simp [World.cell?, q1, hj]
  have hrun : (Builtin.clear_ #[t] o.type #[.slice (some ⟨b, ob + off, none⟩) n cap]).run P w = .ok (.tuple #[]) (w.setCells b (ob + off) nv) := by
   rw [hnv]
   exact run_clear_m w t el o.type z h6 hzv (by rw [← hnv]; exact hone) b (ob + off) cap hn (fun j hj => by rw [← hnv, hnl] at hj; exact hex _ (by omega)) (fun j hj => by rw [← hnv, hnl] at hj; exact q4.get (by omega))
  have hw := (hs.write (new := nv.map .leaf) (cs' := c0.take off) (nv := nv) hid' hb off (by rw [hnl]; omega) (RepL.leaves _) (one_scal hone) (fun j hj => hs.wfh id c0 hid' j (ids_take _ _ hj))
   (fun vs' hvs => ⟨vs'.take off, hvs.take off, fun k u hu => by
    have hk1 : k < off := by
     have := (List.getElem?_eq_some_iff.1 hu).1
     rw [List.length_take] at this; omega
    rw [if_neg (by omega)]
    rw [List.getElem?_take, if_pos hk1] at hu; exact hu⟩) (by rw [List.length_take]; omega)).2
  refine ⟨.tuple #[], _, β, .inl ?_, hw, by simp [Rep, RepL], by simp [T.ids, idsL]⟩
  simp only [execOp, ho, resolve, Sem.run_bind, Sem.run_pure, Result.andThen_ok, invoke, builtin]
  simp [hv, hrun]
end
end Go.Vw
namespace Go.Vw
open Go Go.RowKit
inductive AllP : List Prop → Prop where
 | nil : AllP []
 | cons {p : Prop} {ps : List Prop} (h : p) (t : AllP ps) : AllP (p :: ps)
theorem AllP.append {ps qs : List Prop} (h : AllP (ps ++ qs)) : AllP ps ∧ AllP qs := by
 induction ps with
 | nil => exact ⟨.nil, h⟩
 | cons p ps ih => cases h with | cons h t => exact ⟨.cons h (ih t).1, (ih t).2⟩
structure CW where
 ids : List Nat := []
 S : List Nat := []
 M : List Nat := []
 R : T
 H' : List (Nat × List T) := []
structure Wt where
 v : Option T := none
 c : Option (List T) := none
 id : Nat := 0
 sym : Bool := false
 b : List UInt8 := []
 er : Option (TypeId × Int) := none
 call : Option CW := none
 gv : Bool := false
 fl : List Nat := []
 fo : List Nat := []
 fv : Bool := false
 lv : Bool := false
abbrev Res1 := Option (List Prop × Eff × List Nat)
def outE (w : Wt) (e : Eff) (r : List Nat) : Res1 :=
 match w.v with
 | none => some ([], e, r)
 | some v => some ([e.val = v], { val := v, drops := e.drops, puts := e.puts, stay := e.stay }, r)
def addP (p : Prop) (x : Res1) : Res1 :=
 match x with
 | some (cs, e, r) => some (p :: cs, e, r)
 | none => none
def guardB (b : Bool) (x : Res1) : Res1 := match b with | true => x | false => none
def guardS (w : Wt) (b : Bool) (x : Res1) : Res1 := match w.sym with | true => addP (b = true) x | false => guardB b x
def guardN (w : Wt) (a b : Nat) (x : Res1) : Res1 := match w.sym with | true => addP (a ≤ b) x | false => guardB (Nat.ble a b) x
def withC (w : Wt) (c0 : List T) (F : List T → Res1) : Res1 :=
 match w.c with
 | none => F c0
 | some c => addP (c0 = c) (F c)
def bindX {α : Type} (x : Option α) (F : α → Res1) : Res1 := match x with | some a => F a | none => none
def outL (w : Wt) (e : Eff) (r : List Nat) : Res1 :=
 match w.lv, w.v with
 | true, some v => some ([LeT e.val v], { val := v, drops := e.drops, puts := e.puts, stay := e.stay }, r)
 | true, none => none
 | false, _ => outE w e r
def outG (w : Wt) (m n : Nat) (cs : List T) (r : List Nat) : Res1 :=
 match w.gv with
 | false => outE w { val := .ref w.id m 0 n, puts := [(w.id, cs)] } r
 | true => guardB (!memN w.id r) (addP (idsL cs = [] ∧ n * m ≤ cs.length) (outL w { val := .sl m .shr n (sub cs 0 (n * m)), puts := [(w.id, [])] } r))
def Ok (x : Res1) (A : Eff → List Nat → Prop) : Prop := ∀ cs e r, x = some (cs, e, r) → AllP cs → A e r
section
variable {A : Eff → List Nat → Prop} {w : Wt} {x : Res1}
theorem Ok.none : Ok none A := fun _ _ _ h => by simp at h
theorem Ok.some {e : Eff} {r : List Nat} (h : A e r) : Ok (some ([], e, r)) A := fun cs e' r' h' _ => by
 simp only [Option.some.injEq, Prod.mk.injEq] at h'; obtain ⟨_, rfl, rfl⟩ := h'; exact h
theorem Ok.outE {e : Eff} {r : List Nat} (h : A e r) : Ok (outE w e r) A := fun cs e' r' h' hc => by
 unfold Vw.outE at h'
 split at h'
 ·simp only [Option.some.injEq, Prod.mk.injEq] at h'; obtain ⟨_, rfl, rfl⟩ := h'; exact h
 ·simp only [Option.some.injEq, Prod.mk.injEq] at h'; obtain ⟨rfl, rfl, rfl⟩ := h'
  cases hc with | cons hp _ => subst hp; exact h
theorem Ok.guardB0 {b : Bool} (h : b = true → Ok x A) : Ok (Vw.guardB b x) A := by
 cases b with
 | true => exact h rfl
 | false => exact Ok.none
theorem Ok.addP {p : Prop} (h : p → Ok x A) : Ok (addP p x) A := fun cs e r h' hc => by
 unfold Vw.addP at h'
 split at h'
 ·simp only [Option.some.injEq, Prod.mk.injEq] at h'; obtain ⟨rfl, rfl, rfl⟩ := h'
  cases hc with | cons hp ht => exact h hp _ _ _ rfl ht
 ·simp at h'
theorem Ok.outL {P : Program} {o : Oper} {ev : Operand → Option T} {h : Nat → Option (List T)} {e : Eff} {r : List Nat} (hA : Acts P o ev h r e) : Ok (outL w e r) (fun e r => Acts P o ev h r e) := by
 unfold Vw.outL
 split
 ·intro cs e' r' h' hc
  simp only [Option.some.injEq, Prod.mk.injEq] at h'; obtain ⟨rfl, rfl, rfl⟩ := h'
  cases hc with | cons hp _ => exact hA.leT hp
 ·exact Ok.none
 ·exact Ok.outE hA
theorem Ok.outG {P : Program} {o : Oper} {ev : Operand → Option T} {h : Nat → Option (List T)} {m n : Nat} {cs : List T} {r : List Nat} (hA : Acts P o ev h r { val := .ref w.id m 0 n, puts := [(w.id, cs)] }) : Ok (outG w m n cs r) (fun e r => Acts P o ev h r e) := by
 unfold Vw.outG
 split
 ·exact Ok.outE hA
 ·refine Ok.guardB0 fun hm => Ok.addP fun hc => Ok.outL ?_
  exact hA.give (fun hq => by rw [memN_iff.2 hq] at hm; simp at hm) hc.1 hc.2
theorem Ok.guardB {b : Bool} (h : b = true → Ok x A) : Ok (guardB b x) A := by
 cases b with
 | true => exact h rfl
 | false => exact Ok.none
theorem Ok.guardS {b : Bool} (h : b = true → Ok x A) : Ok (guardS w b x) A := by
 unfold Vw.guardS; split
 ·exact Ok.addP h
 ·exact Ok.guardB h
theorem Ok.guardN {a b : Nat} (h : a ≤ b → Ok x A) : Ok (guardN w a b x) A := by
 unfold Vw.guardN; split
 ·exact Ok.addP h
 ·exact Ok.guardB fun e => h (Nat.le_of_ble_eq_true e)
theorem Ok.withC {c0 : List T} {F : List T → Res1} (h : Ok (F c0) A) : Ok (withC w c0 F) A := by
 unfold Vw.withC; split
 ·exact h
 ·exact Ok.addP fun e => by subst e; exact h
theorem Ok.bindX {α : Type} {x : Option α} {F : α → Res1} (h : ∀ a, x = .some a → Ok (F a) A) : Ok (bindX x F) A := by
 cases x with
 | none => exact Ok.none
 | some a => exact h a rfl
end
def partX (w : Wt) (i : TI) (cs : List T) (off : Nat) (r : List Nat) : Res1 :=
 match w.v with
 | some v => some ([partOf i cs off v], { val := v }, r)
 | none =>
  match i.agg with
  | true => guardB (Nat.ble (off + i.size) cs.length) (some ([], { val := .agg (sub cs off i.size) }, r))
  | false => bindX cs[off]? fun v => some ([], { val := v }, r)
theorem Ok.partX {w : Wt} {i : TI} {cs : List T} {off : Nat} {r : List Nat} {A : Eff → List Nat → Prop} (h : ∀ v, partOf i cs off v → A { val := v } r) : Ok (partX w i cs off r) A := by
 unfold Vw.partX
 split
 ·rename_i v _
  exact fun cs' e' r' h' hc => by
   simp only [Option.some.injEq, Prod.mk.injEq] at h'; obtain ⟨rfl, rfl, rfl⟩ := h'
   cases hc with | cons hp _ => exact h _ hp
 ·split
  ·rename_i ha
   exact Ok.guardB fun e => Ok.some (h _ (by unfold partOf; rw [if_pos ha]; exact ⟨Nat.le_of_ble_eq_true e, rfl⟩))
  ·rename_i ha
   exact Ok.bindX fun v e => Ok.some (h _ (by unfold partOf; rw [if_neg (by simp [ha])]; exact e))
def eqX (E : Env) (w : Wt) (op : BinOp) (t : TypeId) (c : Bool) (p q : T) : Res1 :=
 match op with
 | .eql => bindX (eqTo p q c) fun r => addP (eqK p (E.ti t).k) (outE w { val := .leaf (.bool r) } [])
 | .neq => bindX (eqTo p q c) fun r => addP (eqK p (E.ti t).k) (outE w { val := .leaf (.bool !r) } [])
 | _ => none
def aggX (E : Env) (w : Wt) (op : BinOp) (t : TypeId) (cs ds : List T) : Res1 :=
 match eqTy E 16 t, (E.ti t).agg, E.P.eqGuardType E.P.depth t, (match op with | .eql | .neq => true | _ => false) with
 | some ks, true, false, true => match w.v with
  | some (.leaf (.bool r)) => some ([(eqL ks cs ds).map (eqV op) = some r], { val := .leaf (.bool r) }, [])
  | _ => bindX (eqL ks cs ds) fun r => some ([], { val := .leaf (.bool (eqV op r)) }, [])
 | _, _, _, _ => none
def binX (E : Env) (w : Wt) (op : BinOp) (t : TypeId) (c : Bool) : T → T → Res1
 | .agg cs, .agg ds => aggX E w op t cs ds
 | .leaf (.int k a), .leaf (.int k' b) => guardB (isShift op || decide (k = k')) (bindX (binI op k a b) fun r => addP r.1 (outE w { val := .leaf r.2 } []))
 | .leaf (.string a), .leaf (.string b) => bindX (binS op a b) fun r => addP r.1 (outE w { val := .leaf r.2 } [])
 | .leaf (.bool a), .leaf (.bool b) =>
  match (E.ti t).k, op with
  | .bool, .eql => outE w { val := .leaf (.bool (a == b)) } []
  | .bool, .neq => outE w { val := .leaf (.bool (a != b)) } []
  | _, _ => none
 | p, q => eqX E w op t c p q
def erX (E : Env) (w : Wt) (op : BinOp) (t : TypeId) (c : Bool) (p q : T) (ty : TypeId) (n : Int) : Res1 :=
 match (E.ti t).k, c with
 | .iface, true =>
  match op with
  | .eql => addP (p = er ty n ∧ q = .leaf .nilIface) (outE w { val := .leaf (.bool (decide (n = 0))) } [])
  | .neq => addP (p = er ty n ∧ q = .leaf .nilIface) (outE w { val := .leaf (.bool !decide (n = 0)) } [])
  | _ => none
 | _, _ => none
def unX (w : Wt) : UnOp → T → Res1
 | .not, .leaf (.bool b) => outE w { val := .leaf (.bool !b) } []
 | .neg, .leaf (.int k n) => outE w { val := .leaf (.int k (k.wrap (0 - n))) } []
 | .xor, .leaf (.int k n) => outE w { val := .leaf (.int k (k.wrap (BitVec.ofInt k.bits (if k.signed then -1 else k.max) ^^^ BitVec.ofInt k.bits n).toNat)) } []
 | _, _ => none
def fitsX (w : Wt) (h : Nat → Option (List T)) (m : Nat) (q : T) (x : Res1) : Res1 :=
 match q with
 | .sl m' _ _ _ => guardB (Nat.beq m' m) x
 | .ref id m' off n => guardB (Nat.beq m' m) (bindX (h id) fun cs => guardN w (off + n * m) cs.length x)
 | .leaf (.string _) => guardB (Nat.beq m 1) x
 | _ => x
abbrev u8s (l : List UInt8) : List T := l.map fun c => .leaf (.int .u8 c.toNat)
def sOf (l : List UInt8) : ByteArray := ⟨l.toArray⟩
theorem u8s_bs (l : List UInt8) : u8s l = bs (l.map fun c => (c.toNat : Int)) := by
 simp [u8s, bs, Function.comp_def]
theorem strOf_u8s (l : List UInt8) : strOf (l.map fun c => (c.toNat : Int)) = sOf l := by
 simp [strOf, sOf, Function.comp_def]
def convX (E : Env) (w : Wt) (σ : St) : K → K → T → Res1
 | .int _, .int k', .leaf (.int _ n) => outE w { val := .leaf (.int k' (k'.wrap n)) } []
 | .str, .str, .leaf (.string b) => outE w { val := .leaf (.string b) } []
 | .slice e, .str, p =>
  match (E.ti e).k, isStr p with
  | .int .u8, false => bindX (srcOf σ.h p) fun r => fitsX w σ.h 1 p (addP (r.2 = u8s w.b) (outE w { val := .leaf (.string (sOf w.b)) } p.ids))
  | _, _ => none
 | .str, .slice e, .leaf (.string b) =>
  match (E.ti e).k with
  | .int .u8 => withC w (bs (bytesOf b)) fun cs => outG w 1 b.size cs []
  | _ => none
 | _, _, _ => none
def convY (E : Env) (w : Wt) (σ : St) (s d : TypeId) (p : T) : Res1 :=
 match Nat.beq s d, (E.ti s).k, p with
 | true, .slice e, .ref id m off n =>
  match (E.ti e).k with
  | .int .u8 => guardB (Nat.blt 0 m && Nat.blt 0 n) (bindX (σ.h id) fun cs =>
   match w.gv with
   | true => addP (idsL cs = [] ∧ off + n * m ≤ cs.length) (outE w { val := .sl m .shr n (sub cs off (n * m)), drops := [id] } [id])
   | false => some ([], { val := .ref id m off n, puts := [(id, cs)], stay := [id] }, [id]))
  | _ => none
 | _, _, _ => convX E w σ (E.ti s).k (E.ti d).k p
def cutX (lo hi mx : Option Int) (n : Nat) (F : Nat → Nat → Nat → Res1) : Res1 :=
 addP (0 ≤ lo.getD 0 ∧ lo.getD 0 ≤ hi.getD n ∧ hi.getD n ≤ mx.getD n ∧ mx.getD n ≤ n) (guardB (mx.isNone || hi.isSome) (F (lo.getD 0).toNat (hi.getD n).toNat (mx.getD n).toNat))
theorem Ok.cutX {lo hi mx : Option Int} {n : Nat} {F : Nat → Nat → Nat → Res1} {A : Eff → List Nat → Prop} (h : ∀ l hh m, cutOk lo hi mx n l hh m → Ok (F l hh m) A) : Ok (cutX lo hi mx n F) A := by
 refine Ok.addP fun ⟨h1, h2, h3, h4⟩ => Ok.guardB fun h5 => h _ _ _ ⟨by omega, by omega, by omega, by omega, by omega, by omega, fun hm => ?_⟩
 cases mx with
 | none => simp at hm
 | some m => intro e; subst e; simp at h5
def sliceX (E : Env) (w : Wt) (σ : St) (lo hi mx : Option Int) (nomx : Bool) : K → T → Res1
 | .slice el, .ref id m off n => guardB (Nat.beq (E.ti el).size m) (match w.gv with
  | true => bindX (σ.h id) fun cs => cutX lo hi mx n fun l h _ => addP (idsL cs = [] ∧ off + l * m + (h - l) * m ≤ cs.length) (outE w { val := .sl m .shr (h - l) (sub cs (off + l * m) ((h - l) * m)), drops := [id] } [id])
  | false => cutX lo hi mx n fun l h _ => outE w { val := .ref id m (off + l * m) (h - l) } [])
 | .slice el, .sl m g n cs => guardB (Nat.beq (E.ti el).size m) (match w.gv with
  | true => guardB mx.isSome (cutX lo hi mx n fun l h mm => addP (h = mm) (outE w { val := .xl m g (h - l) (sub cs (l * m) ((h - l) * m)) } []))
  | false => cutX lo hi mx n fun l h mm => outE w { val := if mx ≠ none ∧ l = mm then T.e0 else .sl m g (h - l) (sub cs (l * m) ((h - l) * m)) } [])
 | .slice _, .leaf (.slice none 0 0) => cutX lo hi mx 0 fun _ _ _ => outE w { val := .leaf (.slice none 0 0) } []
 | .array N el, .addr id off => bindX (σ.h id) fun cs => guardN w (off + N * (E.ti el).size) cs.length (match w.gv with
  | true => cutX lo hi mx N fun l h _ => addP (idsL cs = [] ∧ off + l * (E.ti el).size + (h - l) * (E.ti el).size ≤ cs.length) (outE w { val := .sl (E.ti el).size .shr (h - l) (sub cs (off + l * (E.ti el).size) ((h - l) * (E.ti el).size)), drops := [id] } [id])
  | false => cutX lo hi mx N fun l h _ => outE w { val := .ref id (E.ti el).size (off + l * (E.ti el).size) (h - l) } [id])
 | .array N el, .pt g off cs => guardN w (off + N * (E.ti el).size) cs.length (cutX lo hi mx N fun l h _ => outE w { val := .sl (E.ti el).size g (h - l) (sub cs (off + l * (E.ti el).size) ((h - l) * (E.ti el).size)) } [])
 | .str, .leaf (.string s) => guardB nomx (cutX lo hi none s.size fun l h _ => outE w { val := .leaf (.string (s.extract l h)) } [])
 | _, _ => none
def arrAtX (w : Wt) : K → T → Res1
 | .array N _, .sl _ g n cs => guardB (Nat.blt 0 N) (addP (N ≤ n) (outE w { val := .pt g 0 cs } []))
 | .array N _, .ref id _ off n => guardB (Nat.blt 0 N) (addP (N ≤ n) (outE w { val := .addr id off } []))
 | _, _ => none
def addrX (w : Wt) (fo : Nat) : T → Res1
 | .addr id off => outE w { val := .addr id (off + fo) } []
 | .pt g off cs => outE w { val := .pt g (off + fo) cs } []
 | _ => none
def indexAddrX (E : Env) (w : Wt) (n : Int) : K → T → Res1
 | .array N el, .addr id off => addP (0 ≤ n ∧ n < N) (outE w { val := .addr id (off + n.toNat * (E.ti el).size) } [])
 | .array N el, .pt g off cs => addP (0 ≤ n ∧ n < N) (outE w { val := .pt g (off + n.toNat * (E.ti el).size) cs } [])
 | .slice el, .ref id m off N => guardB (Nat.beq (E.ti el).size m) (addP (0 ≤ n ∧ n < N) (outE w { val := .addr id (off + n.toNat * m) } []))
 | .slice el, .sl m g N cs => guardB (Nat.beq (E.ti el).size m) (addP (0 ≤ n ∧ n < N) (outE w { val := .pt g (n.toNat * m) cs } []))
 | _, _ => none
def indexX (E : Env) (w : Wt) (n : Int) : K → T → Res1
 | .array N el, .agg cs => addP (0 ≤ n ∧ n < N) (partX w (E.ti el) cs (n.toNat * (E.ti el).size) [])
 | .str, .leaf (.string b) =>
  match w.b with
  | [c] => addP (0 ≤ n ∧ b[n.toNat]? = some c) (some ([], { val := .leaf (.int .u8 c.toNat) }, []))
  | _ => none
 | _, _ => none
def fillX (w : Wt) (place : Nat → Option (Nat × Nat)) (c0 : List T) (ts : List (Nat × T)) (F : List T → Res1) : Res1 :=
 match w.c with
 | some cs => addP (fillT place c0 ts = some cs) (F cs)
 | none => bindX (fillT place c0 ts) F
theorem Ok.fillX {w : Wt} {place : Nat → Option (Nat × Nat)} {c0 : List T} {ts : List (Nat × T)} {F : List T → Res1} {A : Eff → List Nat → Prop} (h : ∀ cs, fillT place c0 ts = .some cs → Ok (F cs) A) : Ok (fillX w place c0 ts F) A := by
 unfold Vw.fillX; split
 ·exact Ok.addP fun e => h _ e
 ·exact Ok.bindX h
def buildX (E : Env) (w : Wt) (t : TypeId) (ts : List (Nat × T)) : K → Res1
 | .struct fs => fillX w (fun n => (fs[n]?).map fun f => (f.1, (E.ti f.2).size)) ((E.ti t).zero.map .leaf) ts fun cs => outE w { val := .agg cs } []
 | .array _ el => fillX w (fun n => some (n * (E.ti el).size, (E.ti el).size)) ((E.ti t).zero.map .leaf) ts fun cs => outE w { val := .agg cs } []
 | _ => none
def storeX (w : Wt) (i : TI) (σ : St) (v : T) : T → Res1
 | .addr id off => bindX (σ.h id) fun cs => guardB v.cellOk (guardS w (scalL v.cells) (guardN w v.cells.length i.size (guardN w i.size v.cells.length (guardN w (off + v.cells.length) cs.length
   (withC w (splice cs off v.cells) fun r => some ([], { val := .dead, puts := [(id, r)], stay := [id] }, [id]))))))
 | _ => none
def memNot (w : Wt) (n : Nat) (l : List Nat) (x : Res1) : Res1 := match w.sym with | true => addP (memN n l = false) x | false => guardB (!memN n l) x
theorem Ok.memNot {w : Wt} {n : Nat} {l : List Nat} {x : Res1} {A : Eff → List Nat → Prop} (h : n ∉ l → Ok x A) : Ok (memNot w n l x) A := by
 have k : memN n l = false → n ∉ l := fun e hm => by rw [memN_iff.2 hm] at e; simp at e
 unfold Vw.memNot; split
 ·exact Ok.addP fun e => h (k e)
 ·exact Ok.guardB fun e => h (k (by simpa using e))
def isIntK : K → Bool | .int _ => true | _ => false
theorem isIntK_ok {k : K} (h : isIntK k = true) : ∃ i, k = .int i := by cases k <;> simp [isIntK] at h; exact ⟨_, rfl⟩
def appMakeX (E : Env) (w : Wt) (u : TypeId) (p q : T) : K → Res1
 | .slice el => guardB (isIntK (E.ti u).k && Nat.blt 0 (E.ti el).bytes)
   (match p, q with
   | .leaf (.slice none 0 0), .leaf (.int _ n) => addP (0 ≤ n ∧ n * ((E.ti el).bytes : Int) ≤ 140737488355328) (withC w (zerosT (E.ti el).zero n.toNat) fun cs => outG w (E.ti el).size n.toNat cs [])
   | .e0, .leaf (.int _ n) => addP (0 ≤ n ∧ n * ((E.ti el).bytes : Int) ≤ 140737488355328) (withC w (zerosT (E.ti el).zero n.toNat) fun cs => outG w (E.ti el).size n.toNat cs [])
   | _, _ => none)
 | _ => none
def appendX (E : Env) (w : Wt) (σ : St) (u : TypeId) (p q : T) : K → Res1
 | .slice el => guardB (strOrSlice (E.ti u).k && Nat.blt 0 (E.ti el).bytes) (bindX (srcOf σ.h q) fun r => fitsX w σ.h (E.ti el).size q
   (match p with
   | .leaf (.slice none 0 0) => addP (r.1 * (E.ti el).bytes ≤ 140737488355328) (guardB (!memN w.id q.ids) (withC w r.2 fun cs => outG w (E.ti el).size r.1 cs q.ids))
   | .e0 => addP (r.1 * (E.ti el).bytes ≤ 140737488355328) (guardB (!memN w.id q.ids) (withC w r.2 fun cs => outG w (E.ti el).size r.1 cs q.ids))
   | .ref id m off n => guardB (Nat.beq (E.ti el).size m) (bindX (σ.h id) fun c0 => guardN w (off + n * m) c0.length (guardS w (scalL r.2) (addP ((n + r.1) * (E.ti el).bytes ≤ 140737488355328)
     (guardB (Nat.beq w.id id || !memN w.id (id :: q.ids)) (withC w (sub c0 off (n * m) ++ r.2) fun cs => memNot w id (idsL cs)
      (match w.gv with
       | false => outE w { val := .ref w.id m 0 (n + r.1), drops := [id], puts := [(w.id, cs)] } (id :: q.ids)
       | true => guardB (Nat.beq w.id id) (addP (idsL cs = [] ∧ (n + r.1) * m ≤ cs.length) (outE w { val := .sl m .shr (n + r.1) (sub cs 0 ((n + r.1) * m)), drops := [id], puts := [(w.id, [])] } (id :: q.ids)))))))))
   | .xl m _ n c0 => guardB (Nat.beq (E.ti el).size m) (addP (0 < r.1 ∧ (n + r.1) * (E.ti el).bytes ≤ 140737488355328) (guardB (!memN w.id q.ids) (withC w (c0 ++ r.2) fun cs => outG w (E.ti el).size (n + r.1) cs q.ids)))
   | _ => none))
 | _ => none
def copyX (E : Env) (w : Wt) (σ : St) (q : T) : K → T → Res1
 | .slice el, .ref id m off n => guardB (Nat.beq (E.ti el).size m) (bindX (σ.h id) fun c0 => guardN w (off + n * m) c0.length (bindX (srcOf σ.h q) fun r => fitsX w σ.h m q (guardS w (scalL r.2)
   (withC w (splice c0 off (r.2.take (min r.1 n * m))) fun cs => outE w { val := .leaf (.int .i64 (min r.1 n : Nat)), puts := [(id, cs)], stay := [id] } (id :: q.ids)))))
 | _, _ => none
def lenX (w : Wt) (σ : St) (x : Operand) : K → Res1
 | .array n _ => outE w { val := .leaf (.int .i64 n) } []
 | .slice _ => bindX (σ.ev x) fun p => bindX (lenT p) fun n => guardB (!isStr p) (outE w { val := .leaf (.int .i64 n) } [])
 | .str => bindX (σ.ev x) fun p => bindX (lenT p) fun n => guardB (isStr p) (outE w { val := .leaf (.int .i64 n) } [])
 | _ => none
def capX (w : Wt) : K → T → Res1
 | .slice _, .leaf (.slice none 0 0) => outE w { val := .leaf (.int .i64 0) } []
 | _, _ => none
def clearX (E : Env) (w : Wt) (σ : St) : K → T → Res1
 | .slice el, .ref id m off n => guardB (Nat.beq (E.ti el).size m && scalL ((E.ti el).zero.map .leaf)) (bindX (σ.h id) fun c0 => addP (off + n * m ≤ c0.length ∧ 0 < n) (withC w (c0.take off) fun cs => some ([], { val := .tup [], puts := [(id, cs)], stay := [id] }, [id])))
 | _, _ => none
def minmaxX (w : Wt) (mn : Bool) : T → T → Res1
 | .leaf (.int k p), .leaf (.int _ q) =>
  match mn with
  | true => outE w { val := .leaf (.int k (if q < p then q else p)) } []
  | false => outE w { val := .leaf (.int k (if q > p then q else p)) } []
 | _, _ => none
def builtinX (E : Env) (w : Wt) (σ : St) : Builtin → List Operand → List TypeId → Res1
 | .len, [x], [t] => lenX w σ x (E.ti t).k
 | .cap, [x], [t] => bindX (σ.ev x) fun p => capX w (E.ti t).k p
 | .clear, [x], [t] => bindX (σ.ev x) fun p => clearX E w σ (E.ti t).k p
 | .append, [x, y], [t, u] => bindX (σ.ev x) fun p => bindX (σ.ev y) fun q =>
  match isIntK (E.ti u).k with
  | true => appMakeX E w u p q (E.ti t).k
  | false => appendX E w σ u p q (E.ti t).k
 | .copy, [x, y], [t, _] => bindX (σ.ev x) fun p => bindX (σ.ev y) fun q => copyX E w σ q (E.ti t).k p
 | .min, [x, y], _ => bindX (σ.ev x) fun p => bindX (σ.ev y) fun q => minmaxX w true p q
 | .max, [x, y], _ => bindX (σ.ev x) fun p => bindX (σ.ev y) fun q => minmaxX w false p q
 | _, _, _ => none
def takeH (h : Nat → Option (List T)) : List Nat → Option (List (Nat × List T))
 | [] => some []
 | i :: l => match h i, takeH h l with | some cs, some r => some ((i, cs) :: r) | _, _ => none
def subN : List Nat → List Nat → Bool
 | [], _ => true
 | n :: l, m => memN n m && subN l m
theorem subN_spec : ∀ {l m : List Nat}, subN l m = true → ∀ i ∈ l, i ∈ m
 | n :: l, m, h, i, hi => by
  simp only [subN, Bool.and_eq_true] at h
  rcases List.mem_cons.1 hi with rfl | hi
  ·exact memN_iff.1 h.1
  ·exact subN_spec h.2 i hi
def closedP (ids : List Nat) : List (Nat × List T) → Res1 → Res1
 | [], x => x
 | (_, cs) :: l, x => addP (subN (idsL cs) ids = true) (closedP ids l x)
def noBP : List (Nat × List T) → Res1 → Res1
 | [], x => x
 | (_, cs) :: l, x => addP (noBL cs = true) (noBP l x)
def noBX (M : List Nat) (R : T) (H' : List (Nat × List T)) (x : Res1) : Res1 :=
 match M with
 | [] => x
 | _ => addP (R.noB = true) (noBP H' x)
theorem Ok.closedP {ids : List Nat} {x : Res1} {A : Eff → List Nat → Prop} : ∀ {H : List (Nat × List T)}, ((∀ p ∈ H, ∀ j ∈ idsL p.2, j ∈ ids) → Ok x A) → Ok (closedP ids H x) A
 | [], h => h (by simp)
 | (i, cs) :: l, h => Ok.addP fun e => Ok.closedP (H := l) fun hl => h fun p hp => by
   rcases List.mem_cons.1 hp with rfl | hp
   ·exact subN_spec e
   ·exact hl p hp
theorem Ok.noBP {x : Res1} {A : Eff → List Nat → Prop} : ∀ {H : List (Nat × List T)}, ((∀ p ∈ H, noBL p.2 = true) → Ok x A) → Ok (noBP H x) A
 | [], h => h (by simp)
 | (i, cs) :: l, h => Ok.addP fun e => Ok.noBP (H := l) fun hl => h fun p hp => by
   rcases List.mem_cons.1 hp with rfl | hp
   ·exact e
   ·exact hl p hp
theorem Ok.noBX {M : List Nat} {R : T} {H' : List (Nat × List T)} {x : Res1} {A : Eff → List Nat → Prop} (h : (M = [] ∨ (R.noB = true ∧ ∀ q ∈ H', noBL q.2 = true)) → Ok x A) : Ok (noBX M R H' x) A := by
 cases M with
 | nil => exact h (.inl rfl)
 | cons m M => exact Ok.addP fun e => Ok.noBP fun e' => h (.inr ⟨e, e'⟩)
theorem takeH_spec {h : Nat → Option (List T)} : ∀ {l : List Nat} {H : List (Nat × List T)}, takeH h l = some H → H.map (·.1) = l ∧ ∀ i cs, look H i = some cs → h i = some cs
 | [], H, e => by simp only [takeH, Option.some.injEq] at e; subst e; exact ⟨rfl, fun i cs e => by simp [look] at e⟩
 | i :: l, H, e => by
  simp only [takeH] at e
  split at e
  ·rename_i cs r e1 e2
   injection e with e; subst e
   obtain ⟨h1, h2⟩ := takeH_spec e2
   refine ⟨by simp [h1], fun j cs' e => ?_⟩
   simp only [look] at e
   split at e
   ·rename_i hj; subst hj; rw [e1]; exact e
   ·exact h2 j cs' e
  ·simp at e
def snapX (h : Nat → Option (List T)) (M : List Nat) (ts : List T) : List T := match M with | [] => ts | _ => snapL h M ts
theorem snapX_eq (h : Nat → Option (List T)) (M : List Nat) (ts : List T) : snapX h M ts = snapL h M ts := by
 cases M with
 | nil => exact (snapL_nil h ts).symm
 | cons m M => rfl
def snapP (h : Nat → Option (List T)) (M : List Nat) : List T → Res1 → Res1
 | [], x => x
 | t :: ts, x =>
  match t with
  | .ref id m o n =>
   match memN id M with
   | true => bindX (h id) fun cs => addP (idsL cs = []) (addP (o + n * m ≤ cs.length) (snapP h M ts x))
   | false => snapP h M ts x
  | .addr id _ =>
   match memN id M with
   | true => bindX (h id) fun cs => addP (idsL cs = []) (snapP h M ts x)
   | false => snapP h M ts x
  | .dead | .leaf _ | .e0 | .sl .. | .xl .. | .pt .. => snapP h M ts x
  | t => addP (T.snapOk h M t) (snapP h M ts x)
theorem Ok.snapP {h : Nat → Option (List T)} {M : List Nat} {x : Res1} {A : Eff → List Nat → Prop} : ∀ {ts : List T}, (snapOkL h M ts → Ok x A) → Ok (snapP h M ts x) A
 | [], k => k trivial
 | t :: ts, k => by
  have no : ∀ {id : Nat}, memN id M = false → id ∉ M := fun e hm => by rw [memN_iff.2 hm] at e; simp at e
  cases t with
  | ref id m o n =>
   simp only [Vw.snapP]
   split
   ·exact Ok.bindX fun cs hcs => Ok.addP fun h1 => Ok.addP fun h2 => Ok.snapP fun hr => k ⟨fun _ => ⟨cs, hcs, h1, h2⟩, hr⟩
   ·rename_i e; exact Ok.snapP fun hr => k ⟨fun hm => (no e hm).elim, hr⟩
  | addr id o =>
   simp only [Vw.snapP]
   split
   ·exact Ok.bindX fun cs hcs => Ok.addP fun h1 => Ok.snapP fun hr => k ⟨fun _ => ⟨cs, hcs, h1⟩, hr⟩
   ·rename_i e; exact Ok.snapP fun hr => k ⟨fun hm => (no e hm).elim, hr⟩
  | dead => exact Ok.snapP (ts := ts) fun hr => k ⟨trivial, hr⟩
  | leaf v => exact Ok.snapP (ts := ts) fun hr => k ⟨trivial, hr⟩
  | e0 => exact Ok.snapP (ts := ts) fun hr => k ⟨trivial, hr⟩
  | sl m g n cs => exact Ok.snapP (ts := ts) fun hr => k ⟨trivial, hr⟩
  | xl m g n cs => exact Ok.snapP (ts := ts) fun hr => k ⟨trivial, hr⟩
  | pt g o cs => exact Ok.snapP (ts := ts) fun hr => k ⟨trivial, hr⟩
  | agg cs => exact Ok.addP fun h1 => Ok.snapP fun hr => k ⟨h1, hr⟩
  | tup cs => exact Ok.addP fun h1 => Ok.snapP fun hr => k ⟨h1, hr⟩
  | iface t v => exact Ok.addP fun h1 => Ok.snapP fun hr => k ⟨h1, hr⟩
  | fn f p q => exact Ok.addP fun h1 => Ok.snapP fun hr => k ⟨h1, hr⟩
def snapQ (h : Nat → Option (List T)) (M : List Nat) (ts : List T) (x : Res1) : Res1 := match M with | [] => x | _ => snapP h M ts x
theorem Ok.snapQ {h : Nat → Option (List T)} {M : List Nat} {ts : List T} {x : Res1} {A : Eff → List Nat → Prop} (k : snapOkL h M ts → Ok x A) : Ok (snapQ h M ts x) A := by
 cases M with
 | nil => exact k (snapOkL_nil h ts)
 | cons m M => exact Ok.snapP k
def callX (E : Env) (w : Wt) (σ : St) (fo : Operand) (xs : List Operand) : Res1 :=
 bindX (σ.ev fo) fun x => bindX (calleeT x) fun c => bindX (evL σ.ev xs) fun AV => bindX w.call fun k => bindX (takeH σ.h k.ids) fun H =>
  addP (Meets E.P c.1 (snapX σ.h k.M (c.2.1 ++ AV ++ c.2.2)) H k.S k.R k.H')
  (snapQ σ.h k.M (c.2.1 ++ AV ++ c.2.2)
  (addP (subN (idsL (snapX σ.h k.M (c.2.1 ++ AV ++ c.2.2))) k.ids = true)
  (closedP k.ids H (noBX k.M k.R k.H'
  (guardB (disjN k.M k.ids && disjN k.M (k.H'.map (·.1)) && once k.H' && subN k.S k.ids && subN k.S (k.H'.map (·.1)))
  (outE w { val := k.R, drops := notStay k.S H, puts := k.H', stay := k.S } (k.ids ++ k.M)))))))
def exec1 (E : Env) (σ : St) (w : Wt) : Op → Res1
 | .move x => bindX (σ.ev x) fun t => outE w { val := t } []
 | .assign x => bindX (σ.ev x) fun t => outE w { val := t } []
 | .pick c x y => bindX (σ.ev c) fun p =>
  match p with
  | .leaf (.bool true) => bindX (σ.ev x) fun t => outE w { val := t } []
  | .leaf (.bool false) => bindX (σ.ev y) fun t => outE w { val := t } []
  | _ => none
 | .alloc t => guardB (!(E.ti t).k.isNo) (withC w ((E.ti t).zero.map .leaf) fun cs => outE w { val := .addr w.id 0, puts := [(w.id, cs)] } [])
 | .box _ x => bindX (σ.ev x) fun v => guardB v.cellOk (withC w v.cells fun cs => match w.gv with
  | false => outE w { val := .addr w.id 0, puts := [(w.id, cs)] } []
  | true => addP (idsL cs = []) (outE w { val := .pt .shr 0 cs, puts := [(w.id, [])] } []))
 | .build t ps => bindX (evP σ.ev ps.toList) fun ts => buildX E w t ts (E.ti t).k
 | .buildSlice t len ps => bindX (evP σ.ev ps.toList) fun ts =>
  match (E.ti t).k with
  | .slice el => guardB (Nat.ble (len * (E.ti el).size) 16777216) (fillX w (fun n => some (n * (E.ti el).size, (E.ti el).size)) (zerosT (E.ti el).zero len) ts fun cs => outG w (E.ti el).size len cs [])
  | _ => none
 | .load t x => guardB (!(E.ti t).k.isNo) (bindX (σ.ev x) fun p =>
  match p with
  | .addr id off => bindX (σ.h id) fun cs => partX w (E.ti t) cs off [id]
  | .pt _ off cs => partX w (E.ti t) cs off []
  | _ => none)
 | .store t x y => guardB (!(E.ti t).k.isNo) (bindX (σ.ev x) fun p => bindX (σ.ev y) fun v => storeX w (E.ti t) σ v p)
 | .nilCheck x => bindX (σ.ev x) fun p => guardB p.isPtr (outE w { val := p } [])
 | .binOp op t x y _ => bindX (σ.ev x) fun p => bindX (σ.ev y) fun q =>
  match w.er with
  | some r => erX E w op t (isConstOp x || isConstOp y) p q r.1 r.2
  | none => binX E w op t (isConstOp x || isConstOp y) p q
 | .unOp op _ x => bindX (σ.ev x) fun p => unX w op p
 | .convert s d x => bindX (σ.ev x) fun p => convY E w σ s d p
 | .makeInterface t x => guardB (E.ti t).k.concrete (bindX (σ.ev x) fun v => outE w { val := .iface t v } [])
 | .makeFunc fn p q => bindX (evL σ.ev p.toList) fun ps => bindX (evL σ.ev q.toList) fun qs => outE w { val := .fn fn ps qs } []
 | .makeSlice t x y => bindX (σ.ev x) fun p => bindX (σ.ev y) fun q =>
  match p, q, (E.ti t).k with
  | .leaf (.int _ n), .leaf (.int _ c), .slice el => addP (0 ≤ n ∧ n ≤ c ∧ c < 9223372036854775808 ∧ ((E.ti el).bytes : Int) * c ≤ 281474976710656)
    (withC w (zerosT (E.ti el).zero n.toNat) fun cs => outG w (E.ti el).size n.toNat cs [])
  | _, _, _ => none
 | .slice t x lo hi mx => bindX (σ.ev x) fun p => bindX (evB σ.ev lo) fun rl => bindX (evB σ.ev hi) fun rh => bindX (evB σ.ev mx) fun rm => sliceX E w σ rl rh rm mx.isNone (E.ti t).k p
 | .sliceToArrayPointer t x => bindX (σ.ev x) fun p => arrAtX w (E.ti t).k p
 | .fieldAddr s x f => bindX (σ.ev x) fun p =>
  match (E.ti s).k with
  | .struct fs => bindX fs[f]? fun r => guardB (Nat.blt 0 (E.ti r.2).size) (addrX w r.1 p)
  | _ => none
 | .field s x f => bindX (σ.ev x) fun p =>
  match p, (E.ti s).k with
  | .agg cs, .struct fs => bindX fs[f]? fun r => partX w (E.ti r.2) cs r.1 []
  | _, _ => none
 | .indexAddr t x y => bindX (σ.ev x) fun p => bindX (σ.ev y) fun q =>
  match q with
  | .leaf (.int _ n) => indexAddrX E w n (E.ti t).k p
  | _ => none
 | .index t x y => bindX (σ.ev x) fun p => bindX (σ.ev y) fun q =>
  match q with
  | .leaf (.int _ n) => indexX E w n (E.ti t).k p
  | _ => none
 | .extract x i => bindX (σ.ev x) fun p =>
  match p with
  | .tup cs => bindX cs[i]? fun v => outE w { val := v } []
  | _ => none
 | .call { callee := .builtin b, args := xs, argTypes := ts } => builtinX E w σ b xs.toList ts.toList
 | .call { callee := .value f, args := xs, argTypes := _ } => callX E w σ f xs.toList
 | _ => none
theorem notNo {k : K} (h : (!k.isNo) = true) : k ≠ .no := by rintro rfl; simp [K.isNo] at h
theorem acts_eqEr {P : Program} {o : Oper} {ev : Operand → Option T} {h : Nat → Option (List T)} {reads : List Nat} {op : BinOp} {t yt : TypeId} {x y : Operand} {ty : TypeId} {n : Int} {i : TI}
  (ho : o.op = .binOp op t x y yt) (hop : op = .eql ∨ op = .neq) (hx : ev x = some (er ty n)) (hy : ev y = some (.leaf .nilIface)) (ht : TOk P t i) (hk : i.k = .iface) (hc : (isConstOp x || isConstOp y) = true) :
  Acts P o ev h reads { val := .leaf (.bool (if op = .eql then decide (n = 0) else !decide (n = 0))) } := by
 by_cases hn : n = 0
 ·subst hn
  rw [er_zero] at hx
  simpa using acts_eqTo (r := true) ho hop hx hy ht (by simpa [eqK] using hk) (by simp [eqTo, hc])
 ·rw [er_ne hn] at hx
  simpa [hn] using acts_eqTo (r := false) ho hop hx hy ht (by simpa [eqK] using hk) (by simp [eqTo])
end Go.Vw

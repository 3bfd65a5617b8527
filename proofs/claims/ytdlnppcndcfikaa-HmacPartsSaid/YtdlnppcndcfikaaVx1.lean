/- What the executor reckons is so. -/
import Derived.Test.YtdlnppcndcfikaaVx0
namespace Go.Vw
set_option linter.unusedVariables false
set_option linter.unusedSimpArgs false
open Go Go.RowKit

section
variable {E : Env} {σ : St} {o : Oper} {w : Wt}

abbrev AX (E : Env) (σ : St) (o : Oper) : Eff → List Nat → Prop := fun e r => Acts E.P o σ.ev σ.h r e

theorem eqX_ok {op : BinOp} {t yt : TypeId} {x y : Operand} {p q : T} (ho : o.op = .binOp op t x y yt) (hx : σ.ev x = some p) (hy : σ.ev y = some q) : Ok (eqX E w op t (isConstOp x || isConstOp y) p q) (AX E σ o) := by
  have hne : eqK p (E.ti t).k → (E.ti t).k ≠ .no := fun h => by
    unfold eqK at h
    split at h
    · exact ne_no h (by simp)
    · exact ne_no h (by simp)
    · obtain ⟨e, h⟩ := h; exact ne_no h (by simp)
    · obtain ⟨_, e, h⟩ := h; exact ne_no h (by simp)
    · obtain ⟨e, h⟩ := h; exact ne_no h (by simp)
  unfold eqX
  split
  · exact Ok.bindX fun r hr => Ok.addP fun hk => Ok.outE (by simpa using acts_eqTo ho (.inl rfl) hx hy (E.TOk (hne hk)) hk hr)
  · exact Ok.bindX fun r hr => Ok.addP fun hk => Ok.outE (by simpa using acts_eqTo ho (.inr rfl) hx hy (E.TOk (hne hk)) hk hr)
  · exact Ok.none

theorem aggX_ok {op : BinOp} {t yt : TypeId} {x y : Operand} {cs ds : List T} (ho : o.op = .binOp op t x y yt) (hx : σ.ev x = some (.agg cs)) (hy : σ.ev y = some (.agg ds)) : Ok (aggX E w op t cs ds) (AX E σ o) := by
  unfold aggX
  split
  · rename_i ks ht ha hg hop
    have hop : op = .eql ∨ op = .neq := by cases op <;> simp at hop <;> simp
    split
    · rename_i r hv
      intro c e q h' hc
      simp only [Option.some.injEq, Prod.mk.injEq] at h'; obtain ⟨rfl, rfl, rfl⟩ := h'
      cases hc with | cons hp _ =>
        simp only [Option.map_eq_some_iff] at hp
        obtain ⟨b, hb, rfl⟩ := hp
        exact acts_eqAgg ho hop hx hy ht ha hg hb
    · exact Ok.bindX fun r hr => Ok.some (acts_eqAgg ho hop hx hy ht ha hg hr)
  · exact Ok.none

theorem binX_ok {op : BinOp} {t yt : TypeId} {x y : Operand} {p q : T} (ho : o.op = .binOp op t x y yt) (hx : σ.ev x = some p) (hy : σ.ev y = some q) : Ok (binX E w op t (isConstOp x || isConstOp y) p q) (AX E σ o) := by
  unfold binX
  split
  · exact aggX_ok ho hx hy
  · exact Ok.guardB fun hk => Ok.bindX fun r hr => Ok.addP fun hC => Ok.outE (acts_binI (C := r.1) (v := r.2) ho hx hy (by simpa using hk) hr hC)
  · exact Ok.bindX fun r hr => Ok.addP fun hC => Ok.outE (acts_binS (C := r.1) (v := r.2) ho hx hy hr hC)
  · split
    · rename_i hk; exact Ok.outE (by simpa using acts_binB ho hx hy ⟨_, E.TOk (ne_no hk (by simp)), hk⟩ (.inl rfl))
    · rename_i hk; exact Ok.outE (by simpa using acts_binB ho hx hy ⟨_, E.TOk (ne_no hk (by simp)), hk⟩ (.inr rfl))
    · exact Ok.none
  · exact eqX_ok ho hx hy

theorem erX_ok {op : BinOp} {t yt : TypeId} {x y : Operand} {p q : T} {ty : TypeId} {n : Int} (ho : o.op = .binOp op t x y yt) (hx : σ.ev x = some p) (hy : σ.ev y = some q) : Ok (erX E w op t (isConstOp x || isConstOp y) p q ty n) (AX E σ o) := by
  unfold erX
  split
  · rename_i hk hc
    split
    · exact Ok.addP fun ⟨h1, h2⟩ => Ok.outE (by subst h1; subst h2; simpa using acts_eqEr ho (.inl rfl) hx hy (E.TOk (ne_no hk (by simp))) hk hc)
    · exact Ok.addP fun ⟨h1, h2⟩ => Ok.outE (by subst h1; subst h2; simpa using acts_eqEr ho (.inr rfl) hx hy (E.TOk (ne_no hk (by simp))) hk hc)
    · exact Ok.none
  · exact Ok.none

theorem unX_ok {op : UnOp} {t : TypeId} {x : Operand} {p : T} (ho : o.op = .unOp op t x) (hx : σ.ev x = some p) : Ok (unX w op p) (AX E σ o) := by
  unfold unX
  split
  · exact Ok.outE (acts_not ho hx)
  · exact Ok.outE (acts_neg ho hx)
  · exact Ok.outE (acts_com ho hx)
  · exact Ok.none

theorem fitsX_ok {h : Nat → Option (List T)} {m : Nat} {q : T} {x : Res1} {A : Eff → List Nat → Prop} (hx : srcFits h m q → Ok x A) : Ok (fitsX w h m q x) A := by
  unfold fitsX
  split
  · exact Ok.guardB fun e => hx (by simpa [srcFits] using e)
  · exact Ok.guardB fun e => Ok.bindX fun cs hc => Ok.guardN fun hl => hx (by simp only [srcFits]; exact ⟨by simpa using e, cs, hc, hl⟩)
  · exact Ok.guardB fun e => hx (by simpa [srcFits] using e)
  · rename_i h1 h2 h3
    refine hx ?_
    cases q with
    | sl m' g n cs => exact (h1 _ _ _ _ rfl).elim
    | ref id m' off n => exact (h2 _ _ _ _ rfl).elim
    | leaf v => cases v <;> first | exact (h3 _ rfl).elim | exact trivial
    | _ => exact trivial

theorem convX_ok {s d : TypeId} {x : Operand} {p : T} (ho : o.op = .convert s d x) (hx : σ.ev x = some p) : Ok (convX E w σ (E.ti s).k (E.ti d).k p) (AX E σ o) := by
  unfold convX
  split
  · rename_i hs hd
    exact Ok.outE (acts_convI ho hx ⟨_, _, E.TOk (ne_no hs (by simp)), hs⟩ ⟨_, E.TOk (ne_no hd (by simp)), hd⟩)
  · rename_i hs hd
    exact Ok.outE (acts_convS ho hx ⟨_, E.TOk (ne_no hs (by simp)), hs⟩ ⟨_, E.TOk (ne_no hd (by simp)), hd⟩)
  · rename_i e p hs hd
    split
    · rename_i hk hstr
      refine Ok.bindX fun r hr => fitsX_ok fun hf => Ok.addP fun hb => Ok.outE ?_
      rw [← strOf_u8s]
      exact acts_convBS ho hx (E.TOk (ne_no hs (by simp))) hs (E.TOk (ne_no hk (by simp))) hk (E.TOk (ne_no hd (by simp))) hd (fun j hj => hj) (isStr_false hstr) (by rw [hr, ← u8s_bs, ← hb]) hf
    · exact Ok.none
  · rename_i e b hs hd
    split
    · rename_i hk
      refine Ok.withC (Ok.outG ?_)
      exact acts_convSB ho hx (E.TOk (ne_no hs (by simp))) hs (E.TOk (ne_no hd (by simp))) hd (E.TOk (ne_no hk (by simp))) hk (by simp)
    · exact Ok.none
  · exact Ok.none

theorem convY_ok {s d : TypeId} {x : Operand} {p : T} (ho : o.op = .convert s d x) (hx : σ.ev x = some p) : Ok (convY E w σ s d p) (AX E σ o) := by
  unfold convY
  split
  · rename_i e id m off n hb hk
    have hsd : s = d := by simpa using hb
    subst hsd
    split
    · rename_i hk'
      refine Ok.guardB fun hg => Ok.bindX fun cs hcs => ?_
      simp only [Bool.and_eq_true, Nat.blt_eq] at hg
      split
      · exact Ok.addP fun hc => Ok.outE (Acts.giveStay (by simp) hcs hc.1 hc.2 (acts_convSS ho hx (E.TOk (ne_no hk (by simp))) hk (E.TOk (ne_no hk' (by simp))) hk' (by simp) hcs hg.1 hg.2))
      · exact Ok.some (acts_convSS ho hx (E.TOk (ne_no hk (by simp))) hk (E.TOk (ne_no hk' (by simp))) hk' (by simp) hcs hg.1 hg.2)
    · exact Ok.none
  · exact convX_ok ho hx

theorem sliceX_ok {t : TypeId} {x : Operand} {lo hi mx : Option Operand} {rl rh rm : Option Int} {p : T} (ho : o.op = .slice t x lo hi mx) (hx : σ.ev x = some p) (hl : evB σ.ev lo = some rl) (hh : evB σ.ev hi = some rh) (hm : evB σ.ev mx = some rm) :
    Ok (sliceX E w σ rl rh rm mx.isNone (E.ti t).k p) (AX E σ o) := by
  unfold sliceX
  split
  · rename_i el id m off n hk
    refine Ok.guardB fun e => Ok.cutX fun l h mm hc => Ok.outE ?_
    exact acts_sliceRef ho hx hl hh hm (E.TOk (ne_no hk (by simp))) hk (E.TOk (E.sl _ _ hk)) (by simpa using e) hc
  · rename_i el m g n cs hk
    refine Ok.guardB fun e => Ok.cutX fun l h mm hc => Ok.outE ?_
    exact acts_sliceSl ho hx hl hh hm (E.TOk (ne_no hk (by simp))) hk (E.TOk (E.sl _ _ hk)) (by simpa using e) hc
  · rename_i el hk
    refine Ok.cutX fun l h mm hc => Ok.outE ?_
    have : l = 0 ∧ h = 0 ∧ mm = 0 := by obtain ⟨_, _, _, a, b, c, _⟩ := hc; omega
    obtain ⟨rfl, rfl, rfl⟩ := this
    exact acts_sliceNil ho hx hl hh hm (E.TOk (ne_no hk (by simp))) hk (E.TOk (E.sl _ _ hk)) hc
  · rename_i N el id off hk
    refine Ok.bindX fun cs hcs => Ok.guardN fun hle => Ok.cutX fun l h mm hc => Ok.outE ?_
    exact acts_sliceArr ho hx hl hh hm (E.TOk (ne_no hk (by simp))) hk (E.TOk (E.ar _ _ _ hk)) (by simp) hcs hle hc
  · rename_i s hk
    refine Ok.guardB fun hn => ?_
    cases mx with
    | some m => simp at hn
    | none =>
      simp only [evB, Option.some.injEq] at hm; subst hm
      refine Ok.cutX fun l h mm hc => Ok.outE ?_
      have e : mm = s.size := by obtain ⟨_, _, c, _⟩ := hc; simp at c; omega
      subst e
      exact acts_sliceStr ho hx hl hh (E.TOk (ne_no hk (by simp))) hk hc
  · exact Ok.none

theorem indexAddrX_ok {t : TypeId} {x y : Operand} {k : IntKind} {n : Int} {p : T} (ho : o.op = .indexAddr t x y) (hx : σ.ev x = some p) (hy : σ.ev y = some (.leaf (.int k n))) : Ok (indexAddrX E w n (E.ti t).k p) (AX E σ o) := by
  unfold indexAddrX
  split
  · rename_i N el id off hk
    exact Ok.addP fun ⟨h0, h1⟩ => Ok.outE (acts_indexArr ho hx hy (E.TOk (ne_no hk (by simp))) hk (E.TOk (E.ar _ _ _ hk)) h0 h1)
  · rename_i N el g off cs hk
    exact Ok.addP fun ⟨h0, h1⟩ => Ok.outE (acts_indexArrP ho hx hy (E.TOk (ne_no hk (by simp))) hk (E.TOk (E.ar _ _ _ hk)) h0 h1)
  · rename_i el id m off N hk
    exact Ok.guardB fun e => Ok.addP fun ⟨h0, h1⟩ => Ok.outE (acts_indexRef ho hx hy (E.TOk (ne_no hk (by simp))) hk (E.TOk (E.sl _ _ hk)) (by simpa using e) h0 h1)
  · rename_i el m g N cs hk
    exact Ok.guardB fun e => Ok.addP fun ⟨h0, h1⟩ => Ok.outE (acts_indexSl ho hx hy (E.TOk (ne_no hk (by simp))) hk (E.TOk (E.sl _ _ hk)) (by simpa using e) h0 h1)
  · exact Ok.none

theorem indexX_ok {t : TypeId} {x y : Operand} {k : IntKind} {n : Int} {p : T} (ho : o.op = .index t x y) (hx : σ.ev x = some p) (hy : σ.ev y = some (.leaf (.int k n))) : Ok (indexX E w n (E.ti t).k p) (AX E σ o) := by
  unfold indexX
  split
  · rename_i N el cs hk
    exact Ok.addP fun ⟨h0, h1⟩ => Ok.partX fun v hv => acts_indexAgg ho hx hy (E.TOk (ne_no hk (by simp))) hk (E.TOk (E.ar _ _ _ hk)) h0 h1 hv
  · rename_i b hk
    split
    · exact Ok.addP fun ⟨h0, h1⟩ => Ok.some (acts_indexStr ho hx hy (E.TOk (ne_no hk (by simp))) hk h0 h1)
    · exact Ok.none
  · exact Ok.none

theorem storeX_ok {t : TypeId} {x y : Operand} {p v : T} (h0 : (E.ti t).k ≠ .no) (ho : o.op = .store t x y) (hx : σ.ev x = some p) (hy : σ.ev y = some v) : Ok (storeX w (E.ti t) σ v p) (AX E σ o) := by
  unfold storeX
  split
  · refine Ok.bindX fun cs hcs => Ok.guardB fun h1 => Ok.guardS fun h2 => Ok.guardN fun h3 => Ok.guardN fun h4 => Ok.guardN fun h5 => Ok.withC (Ok.some ?_)
    exact acts_store ho (E.TOk h0) hx hy (by simp) hcs h1 h2 (by omega) h5
  · exact Ok.none

theorem appendX_ok {t u : TypeId} {x y : Operand} {p q : T} (ho : o.op = .call { callee := .builtin .append, args := #[x, y], argTypes := #[t, u] }) (hx : σ.ev x = some p) (hy : σ.ev y = some q) : Ok (appendX E w σ u p q (E.ti t).k) (AX E σ o) := by
  unfold appendX
  split
  · rename_i el hk
    refine Ok.guardB fun hg => Ok.bindX fun r hr => fitsX_ok fun hf => ?_
    simp only [Bool.and_eq_true] at hg
    have hu : (E.ti u).k ≠ .no ∧ ((∃ e, (E.ti u).k = .slice e) ∨ (E.ti u).k = .str) := by
      have := hg.1
      unfold strOrSlice at this
      split at this
      · rename_i e h; exact ⟨ne_no h (by simp), .inl ⟨_, h⟩⟩
      · rename_i h; exact ⟨ne_no h (by simp), .inr h⟩
      · simp at this
    have hby : 0 < (E.ti el).bytes := by simpa [Nat.blt_eq] using hg.2
    have he := E.TOk (E.sl _ _ hk)
    have nm : ∀ {n : Nat} {l : List Nat}, memN n l = false → n ∉ l := fun e hm => by rw [memN_iff.2 hm] at e; simp at e
    split
    · exact Ok.addP fun hb => Ok.guardB fun hn => Ok.withC (Ok.outG (acts_append0 ho hx (.inl rfl) hy (E.TOk (ne_no hk (by simp))) hk ⟨_, E.TOk hu.1, hu.2⟩ he he.zlen (fun j hj => hj) hr hf hb hby (nm (by simpa using hn))))
    · exact Ok.addP fun hb => Ok.guardB fun hn => Ok.withC (Ok.outG (acts_append0 ho hx (.inr rfl) hy (E.TOk (ne_no hk (by simp))) hk ⟨_, E.TOk hu.1, hu.2⟩ he he.zlen (fun j hj => hj) hr hf hb hby (nm (by simpa using hn))))
    · rename_i id m off n
      refine Ok.guardB fun hm => Ok.bindX fun c0 hc0 => Ok.guardN fun hoff => Ok.guardS fun hsc => Ok.addP fun hb => Ok.guardB fun hd => Ok.withC (Ok.memNot fun hni => Ok.outE ?_)
      have hm' : (E.ti el).size = m := by simpa using hm
      refine acts_append ho hx hy (E.TOk (ne_no hk (by simp))) hk ⟨_, E.TOk hu.1, hu.2⟩ he hm' he.zlen (by simp) hc0 hoff (fun j hj => List.mem_cons_of_mem _ hj) hr (by rw [← hm']; exact hf) hsc hb hby ?_ hni
      simp only [Bool.or_eq_true, Nat.beq_eq, Bool.not_eq_true'] at hd
      exact hd.imp (fun h => h) nm
    · exact Ok.none
  · exact Ok.none

theorem appMakeX_ok {t u : TypeId} {x y : Operand} {p q : T} (ho : o.op = .call { callee := .builtin .append, args := #[x, y], argTypes := #[t, u] }) (hx : σ.ev x = some p) (hy : σ.ev y = some q) : Ok (appMakeX E w u p q (E.ti t).k) (AX E σ o) := by
  unfold appMakeX
  split
  · rename_i el hk
    refine Ok.guardB fun hg => ?_
    simp only [Bool.and_eq_true] at hg
    obtain ⟨kk, hu⟩ := isIntK_ok hg.1
    have hby : 0 < (E.ti el).bytes := by simpa [Nat.blt_eq] using hg.2
    have he := E.TOk (E.sl _ _ hk)
    split
    · exact Ok.addP fun ⟨h0, hb⟩ => Ok.withC (Ok.outG (acts_appendMake ho hx (.inl rfl) hy (E.TOk (ne_no hk (by simp))) hk ⟨_, E.TOk (ne_no hu (by simp)), hu⟩ he he.zlen h0 hb hby (by simp)))
    · exact Ok.addP fun ⟨h0, hb⟩ => Ok.withC (Ok.outG (acts_appendMake ho hx (.inr rfl) hy (E.TOk (ne_no hk (by simp))) hk ⟨_, E.TOk (ne_no hu (by simp)), hu⟩ he he.zlen h0 hb hby (by simp)))
    · exact Ok.none
  · exact Ok.none

theorem copyX_ok {t u : TypeId} {x y : Operand} {p q : T} (ho : o.op = .call { callee := .builtin .copy, args := #[x, y], argTypes := #[t, u] }) (hx : σ.ev x = some p) (hy : σ.ev y = some q) : Ok (copyX E w σ q (E.ti t).k p) (AX E σ o) := by
  unfold copyX
  split
  · rename_i el id m off n hk
    refine Ok.guardB fun hm => Ok.bindX fun c0 hc0 => Ok.guardN fun hoff => Ok.bindX fun r hr => fitsX_ok fun hf => Ok.guardS fun hsc => Ok.withC (Ok.outE ?_)
    have he := E.TOk (E.sl _ _ hk)
    exact acts_copy ho hx hy (E.TOk (ne_no hk (by simp))) hk he (by simpa using hm) (by simp) hc0 hoff (fun j hj => List.mem_cons_of_mem _ hj) hr hf hsc
  · exact Ok.none

theorem lenX_ok {t : TypeId} {x : Operand} (ho : o.op = .call { callee := .builtin .len, args := #[x], argTypes := #[t] }) : Ok (lenX w σ x (E.ti t).k) (AX E σ o) := by
  unfold lenX
  split
  · rename_i hk
    exact Ok.outE (acts_lenArr ho (E.TOk (ne_no hk (by simp))) hk)
  · rename_i e hk
    refine Ok.bindX fun p hp => Ok.bindX fun n hn => Ok.guardB fun hs => Ok.outE ?_
    exact acts_lenSrc ho hp (E.TOk (ne_no hk (by simp))) (.inl ⟨e, hk⟩) hn (by rw [hk]; simpa using isStr_false (by simpa using hs))
  · rename_i hk
    refine Ok.bindX fun p hp => Ok.bindX fun n hn => Ok.guardB fun hs => Ok.outE ?_
    exact acts_lenSrc ho hp (E.TOk (ne_no hk (by simp))) (.inr hk) hn (by rw [hk]; simpa using isStr_true hs)
  · exact Ok.none

theorem builtinX_ok {b : Builtin} {xs : Array Operand} {ts : Array TypeId} (ho : o.op = .call { callee := .builtin b, args := xs, argTypes := ts }) : Ok (builtinX E w σ b xs.toList ts.toList) (AX E σ o) := by
  obtain ⟨xs⟩ := xs
  obtain ⟨ts⟩ := ts
  simp only
  unfold builtinX
  split
  · rename_i x t; exact lenX_ok (by simpa using ho)
  · rename_i x t
    refine Ok.bindX fun p hp => ?_
    unfold capX
    split
    · rename_i e hk
      exact Ok.outE (acts_capNil (by simpa using ho) hp (E.TOk (ne_no hk (by simp))) hk)
    · exact Ok.none
  · rename_i x y t u
    refine Ok.bindX fun p hp => Ok.bindX fun q hq => ?_
    split
    · exact appMakeX_ok (by simpa using ho) hp hq
    · exact appendX_ok (by simpa using ho) hp hq
  · rename_i x y t u
    exact Ok.bindX fun p hp => Ok.bindX fun q hq => copyX_ok (u := u) (by simpa using ho) hp hq
  · rename_i x y _
    refine Ok.bindX fun p hp => Ok.bindX fun q hq => ?_
    unfold minmaxX
    split
    · exact Ok.outE (by simpa using acts_minmax (b := .min) ho (.inl rfl) hp hq)
    · exact Ok.none
  · rename_i x y _
    refine Ok.bindX fun p hp => Ok.bindX fun q hq => ?_
    unfold minmaxX
    split
    · exact Ok.outE (by simpa using acts_minmax (b := .max) ho (.inr rfl) hp hq)
    · exact Ok.none
  · exact Ok.none

theorem callX_ok {fo : Operand} {xs : Array Operand} {ts : Array TypeId} (ho : o.op = .call { callee := .value fo, args := xs, argTypes := ts }) : Ok (callX E w σ fo xs.toList) (AX E σ o) := by
  unfold callX
  refine Ok.bindX fun x hx => Ok.bindX fun c hc => Ok.bindX fun AV hA => Ok.bindX fun k hk => Ok.bindX fun H hH => Ok.addP fun hM => Ok.snapQ fun hsO => Ok.addP fun hAi => Ok.closedP fun hcl => Ok.noBX fun hnb => Ok.guardB fun hg => Ok.outE ?_
  obtain ⟨f, p, q⟩ := c
  rw [snapX_eq] at hM hAi
  simp only [Bool.and_eq_true] at hg
  obtain ⟨⟨⟨⟨g1, g2⟩, g3⟩, g4⟩, g5⟩ := hg
  obtain ⟨hids, hlk⟩ := takeH_spec hH
  have := acts_call (o := o) (ev := σ.ev) (h := σ.h) hM ho hx hc hA rfl hsO hlk (fun i cs e j hj => look_of_mem (by rw [hids]; exact hcl _ (look_mem e) j hj)) (fun i hi => look_of_mem (by rw [hids]; exact subN_spec hAi i hi))
    (fun i hi => look_none (by rw [hids]; exact disjN_spec g1 i hi)) hnb g3 (fun i hi => ⟨look_of_mem (by rw [hids]; exact subN_spec g4 i hi), look_of_mem (subN_spec g5 i hi)⟩) (fun i hi => look_none (disjN_spec g2 i hi))
  rw [hids] at this
  exact this

set_option maxHeartbeats 1000000 in
theorem exec1_ok : Ok (exec1 E σ w o.op) (AX E σ o) := by
  obtain ⟨dst, op, type, pos, after, guard⟩ := o
  simp only
  unfold exec1
  split
  · exact Ok.bindX fun t ht => Ok.outE (acts_move (.inl rfl) ht)
  · exact Ok.bindX fun t ht => Ok.outE (acts_move (.inr rfl) ht)
  · refine Ok.bindX fun p hp => ?_
    split
    · exact Ok.bindX fun t ht => Ok.outE (acts_pick (b := true) rfl hp (by simpa using ht))
    · exact Ok.bindX fun t ht => Ok.outE (acts_pick (b := false) rfl hp (by simpa using ht))
    · exact Ok.none
  · exact Ok.guardB fun h0 => Ok.withC (Ok.outE (acts_alloc rfl (E.TOk (notNo h0)) (by simp)))
  · exact Ok.bindX fun v hv => Ok.guardB fun hc => Ok.withC (Ok.outE (acts_box rfl hv hc (by simp)))
  · refine Ok.bindX fun ts hts => ?_
    unfold buildX
    split
    · rename_i fs hk
      exact Ok.fillX fun cs hcs => Ok.outE (acts_buildS rfl (E.TOk (ne_no hk (by simp))) hk hts (fun f hf => E.TOk (E.st _ _ hk f hf)) hcs)
    · rename_i n el hk
      exact Ok.fillX fun cs hcs => Ok.outE (acts_buildA rfl (E.TOk (ne_no hk (by simp))) hk (E.TOk (E.ar _ _ _ hk)) hts hcs)
    · exact Ok.none
  · refine Ok.bindX fun ts hts => ?_
    split
    · rename_i el hk
      refine Ok.guardB fun hb => Ok.fillX fun cs hcs => Ok.outG ?_
      have he := E.TOk (E.sl _ _ hk)
      exact acts_buildSlice rfl (E.TOk (ne_no hk (by simp))) hk he hts he.zlen (Nat.le_of_ble_eq_true hb) hcs (by simp)
    · exact Ok.none
  · refine Ok.guardB fun h0 => Ok.bindX fun p hp => ?_
    split
    · exact Ok.bindX fun cs hcs => Ok.partX fun v hv => acts_load rfl (E.TOk (notNo h0)) hp (by simp) hcs hv
    · exact Ok.partX fun v hv => acts_loadP rfl (E.TOk (notNo h0)) hp hv
    · exact Ok.none
  · exact Ok.guardB fun h0 => Ok.bindX fun p hp => Ok.bindX fun v hv => storeX_ok (notNo h0) rfl hp hv
  · exact Ok.bindX fun p hp => Ok.guardB fun h => Ok.outE (acts_nilCheck rfl hp h)
  · refine Ok.bindX fun p hp => Ok.bindX fun q hq => ?_
    split
    · exact erX_ok rfl hp hq
    · exact binX_ok rfl hp hq
  · exact Ok.bindX fun p hp => unX_ok rfl hp
  · exact Ok.bindX fun p hp => convY_ok rfl hp
  · rename_i t x
    exact Ok.guardB fun h0 => Ok.bindX fun v hv => Ok.outE (acts_makeIface rfl hv ⟨_, E.TOk (fun e => by rw [e] at h0; simp [K.concrete] at h0), h0⟩)
  · exact Ok.bindX fun ps hp => Ok.bindX fun qs hq => Ok.outE (acts_makeFunc rfl hp hq)
  · refine Ok.bindX fun p hp => Ok.bindX fun q hq => ?_
    split
    · rename_i el hk
      refine Ok.addP fun ⟨h1, h2, h3, h4⟩ => Ok.withC (Ok.outG ?_)
      have he := E.TOk (E.sl _ _ hk)
      exact acts_makeSlice rfl hp hq (E.TOk (ne_no hk (by simp))) hk he he.zlen h1 h2 h3 h4 (by simp)
    · exact Ok.none
  · exact Ok.bindX fun p hp => Ok.bindX fun rl hl => Ok.bindX fun rh hh => Ok.bindX fun rm hm => sliceX_ok rfl hp hl hh hm
  · refine Ok.bindX fun p hp => ?_
    split
    · rename_i fs hk
      refine Ok.bindX fun r hr => Ok.guardB fun hz => ?_
      have hz' : (E.ti r.2).size ≠ 0 := by have : 0 < (E.ti r.2).size := by simpa [Nat.blt_eq] using hz
                                           omega
      unfold addrX
      split
      · exact Ok.outE (acts_fieldAddr rfl hp (E.TOk (ne_no hk (by simp))) hk hr (E.TOk (E.st _ _ hk r (List.mem_of_getElem? hr))) hz')
      · exact Ok.outE (acts_fieldAddrP rfl hp (E.TOk (ne_no hk (by simp))) hk hr (E.TOk (E.st _ _ hk r (List.mem_of_getElem? hr))) hz')
      · exact Ok.none
    · exact Ok.none
  · refine Ok.bindX fun p hp => ?_
    split
    · rename_i cs fs hk
      exact Ok.bindX fun r hr => Ok.partX fun v hv => acts_field rfl hp (E.TOk (ne_no hk (by simp))) hk hr (E.TOk (E.st _ _ hk r (List.mem_of_getElem? hr))) hv
    · exact Ok.none
  · refine Ok.bindX fun p hp => Ok.bindX fun q hq => ?_
    split
    · exact indexAddrX_ok rfl hp hq
    · exact Ok.none
  · refine Ok.bindX fun p hp => Ok.bindX fun q hq => ?_
    split
    · exact indexX_ok rfl hp hq
    · exact Ok.none
  · refine Ok.bindX fun p hp => ?_
    split
    · exact Ok.bindX fun v hv => Ok.outE (acts_extract rfl hp hv)
    · exact Ok.none
  · exact builtinX_ok rfl
  · exact callX_ok (ts := _) rfl
  · exact Ok.none
end
end Go.Vw

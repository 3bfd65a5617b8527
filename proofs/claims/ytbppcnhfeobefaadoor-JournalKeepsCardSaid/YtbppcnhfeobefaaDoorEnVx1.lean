import Derived.Test.YtbppcnhfeobefaaDoorEnVw19
set_option linter.unusedVariables false
namespace Go.Vw
open Go Go.RowKit
section
variable {E : Env} {σ : St} {o : Oper} {w : Wt}
abbrev AX (E : Env) (σ : St) (o : Oper) : Eff → List Nat → Prop := fun e r => Acts E.P o σ.ev σ.h r e
theorem eqX_ok {op : BinOp} {t yt : TypeId} {x y : Operand} {p q : T} (ho : o.op = .binOp op t x y yt) (hx : σ.ev x = some p) (hy : σ.ev y = some q) : Ok (eqX E w op t (isConstOp x || isConstOp y) p q) (AX E σ o) := by
  have hne : eqK p (E.ti t).k → (E.ti t).k ≠ .no := fun h => by
    unfold eqK at h
    split at h
    · exact ne_no h (by simp)
    · exact ne_no h (by simp)
    · obtain ⟨e, h⟩ := h; exact ne_no h (by simp)
    · obtain ⟨_, e, h⟩ := h; exact ne_no h (by simp)
    · obtain ⟨e, h⟩ := h; exact ne_no h (by simp)
  unfold eqX
  split
  · exact Ok.bindX fun r hr => Ok.addP fun hk => Ok.outE (by simpa using acts_eqTo ho (.inl rfl) hx hy (E.TOk (hne hk)) hk hr)
  · exact Ok.bindX fun r hr => Ok.addP fun hk => Ok.outE (by simpa using acts_eqTo ho (.inr rfl) hx hy (E.TOk (hne hk)) hk hr)
  · exact Ok.none
theorem aggX_ok {op : BinOp} {t yt : TypeId} {x y : Operand} {cs ds : List T} (ho : o.op = .binOp op t x y yt) (hx : σ.ev x = some (.agg cs)) (hy : σ.ev y = some (.agg ds)) : Ok (aggX E w op t cs ds) (AX E σ o) := by
  unfold aggX
  split
  · rename_i ks ht ha hg hop
    have hop : op = .eql ∨ op = .neq := by cases op <;> simp at hop <;> simp
    split
    · rename_i r hv
      intro c e q h' hc
      simp only [Option.some.injEq, Prod.mk.injEq] at h'; obtain ⟨rfl, rfl, rfl⟩ := h'
      cases hc with | cons hp _ =>
        simp only [Option.map_eq_some_iff] at hp
        obtain ⟨b, hb, rfl⟩ := hp
        exact acts_eqAgg ho hop hx hy ht ha hg hb
    · exact Ok.bindX fun r hr => Ok.some (acts_eqAgg ho hop hx hy ht ha hg hr)
  · exact Ok.none
theorem binX_ok {op : BinOp} {t yt : TypeId} {x y : Operand} {p q : T} (ho : o.op = .binOp op t x y yt) (hx : σ.ev x = some p) (hy : σ.ev y = some q) : Ok (binX E w op t (isConstOp x || isConstOp y) p q) (AX E σ o) := by
  unfold binX
  split
  · exact aggX_ok ho hx hy
  · exact Ok.guardB fun hk => Ok.bindX fun r hr => Ok.addP fun hC => Ok.outE (acts_binI (C := r.1) (v := r.2) ho hx hy (by simpa using hk) hr hC)
  · exact Ok.bindX fun r hr => Ok.addP fun hC => Ok.outE (acts_binS (C := r.1) (v := r.2) ho hx hy hr hC)
  · split
    · rename_i hk; exact Ok.outE (by simpa using acts_binB ho hx hy ⟨_, E.TOk (ne_no hk (by simp)), hk⟩ (.inl rfl))
    · rename_i hk; exact Ok.outE (by simpa using acts_binB ho hx hy ⟨_, E.TOk (ne_no hk (by simp)), hk⟩ (.inr rfl))
    · exact Ok.none
  · exact eqX_ok ho hx hy
theorem erX_ok {op : BinOp} {t yt : TypeId} {x y : Operand} {p q : T} {ty : TypeId} {n : Int} (ho : o.op = .binOp op t x y yt) (hx : σ.ev x = some p) (hy : σ.ev y = some q) : Ok (erX E w op t (isConstOp x || isConstOp y) p q ty n) (AX E σ o) := by
  unfold erX
  split
  · rename_i hk hc
    split
    · exact Ok.addP fun ⟨h1, h2⟩ => Ok.outE (by subst h1; subst h2; simpa using acts_eqEr ho (.inl rfl) hx hy (E.TOk (ne_no hk (by simp))) hk hc)
    · exact Ok.addP fun ⟨h1, h2⟩ => Ok.outE (by subst h1; subst h2; simpa using acts_eqEr ho (.inr rfl) hx hy (E.TOk (ne_no hk (by simp))) hk hc)
    · exact Ok.none
  · exact Ok.none
theorem unX_ok {op : UnOp} {t : TypeId} {x : Operand} {p : T} (ho : o.op = .unOp op t x) (hx : σ.ev x = some p) : Ok (unX w op p) (AX E σ o) := by
  unfold unX
  split
  · exact Ok.outE (acts_not ho hx)
  · exact Ok.outE (acts_neg ho hx)
  · exact Ok.outE (acts_com ho hx)
  · exact Ok.none
theorem fitsX_ok {h : Nat → Option (List T)} {m : Nat} {q : T} {x : Res1} {A : Eff → List Nat → Prop} (hx : srcFits h m q → Ok x A) : Ok (fitsX w h m q x) A := by
  unfold fitsX
  split
  · exact Ok.guardB fun e => hx (by simpa [srcFits] using e)
  · exact Ok.guardB fun e => Ok.bindX fun cs hc => Ok.guardN fun hl => hx (by simp only [srcFits]; exact ⟨by simpa using e, cs, hc, hl⟩)
  · exact Ok.guardB fun e => hx (by simpa [srcFits] using e)
  · rename_i h1 h2 h3
    refine hx ?_
    cases q with
    | sl m' g n cs => exact (h1 _ _ _ _ rfl).elim
    | ref id m' off n => exact (h2 _ _ _ _ rfl).elim
    | leaf v => cases v <;> first | exact (h3 _ rfl).elim | exact trivial
    | _ => exact trivial
theorem convX_ok {s d : TypeId} {x : Operand} {p : T} (ho : o.op = .convert s d x) (hx : σ.ev x = some p) : Ok (convX E w σ (E.ti s).k (E.ti d).k p) (AX E σ o) := by
  unfold convX
  split
  · rename_i hs hd
    exact Ok.outE (acts_convI ho hx ⟨_, _, E.TOk (ne_no hs (by simp)), hs⟩ ⟨_, E.TOk (ne_no hd (by simp)), hd⟩)
  · rename_i hs hd
    exact Ok.outE (acts_convS ho hx ⟨_, E.TOk (ne_no hs (by simp)), hs⟩ ⟨_, E.TOk (ne_no hd (by simp)), hd⟩)
  · rename_i e p hs hd
    split
    · rename_i hk hstr
      refine Ok.bindX fun r hr => fitsX_ok fun hf => Ok.addP fun hb => Ok.outE ?_
      rw [← strOf_u8s]
      exact acts_convBS ho hx (E.TOk (ne_no hs (by simp))) hs (E.TOk (ne_no hk (by simp))) hk (E.TOk (ne_no hd (by simp))) hd (fun j hj => hj) (isStr_false hstr) (by rw [hr, ← u8s_bs, ← hb]) hf
    · exact Ok.none
  · rename_i e b hs hd
    split
    · rename_i hk
      refine Ok.withC (Ok.outG ?_)
      exact acts_convSB ho hx (E.TOk (ne_no hs (by simp))) hs (E.TOk (ne_no hd (by simp))) hd (E.TOk (ne_no hk (by simp))) hk (by simp)
    · exact Ok.none
  · exact Ok.none
theorem convY_ok {s d : TypeId} {x : Operand} {p : T} (ho : o.op = .convert s d x) (hx : σ.ev x = some p) : Ok (convY E w σ s d p) (AX E σ o) := by
  unfold convY
  split
  · rename_i e id m off n hb hk
    have hsd : s = d := by simpa using hb
    subst hsd
    split
    · rename_i hk'
      refine Ok.guardB fun hg => Ok.bindX fun cs hcs => ?_
      simp only [Bool.and_eq_true, Nat.blt_eq] at hg
      split
      · exact Ok.addP fun hc => Ok.outE (Acts.giveStay (by simp) hcs hc.1 hc.2 (acts_convSS ho hx (E.TOk (ne_no hk (by simp))) hk (E.TOk (ne_no hk' (by simp))) hk' (by simp) hcs hg.1 hg.2))
      · exact Ok.some (acts_convSS ho hx (E.TOk (ne_no hk (by simp))) hk (E.TOk (ne_no hk' (by simp))) hk' (by simp) hcs hg.1 hg.2)
    · exact Ok.none
  · exact convX_ok ho hx
theorem sliceX_ok {t : TypeId} {x : Operand} {lo hi mx : Option Operand} {rl rh rm : Option Int} {p : T} (ho : o.op = .slice t x lo hi mx) (hx : σ.ev x = some p) (hl : evB σ.ev lo = some rl) (hh : evB σ.ev hi = some rh) (hm : evB σ.ev mx = some rm) :
    Ok (sliceX E w σ rl rh rm mx.isNone (E.ti t).k p) (AX E σ o) := by
  unfold sliceX
  split
  · rename_i el id m off n hk
    refine Ok.guardB fun e => ?_
    split
    · refine Ok.bindX fun cs hcs => Ok.cutX fun l h mm hc => Ok.addP fun hq => Ok.outE ?_
      refine Acts.giveLook (by simp) hcs hq.1 hq.2 ?_
      exact acts_sliceRef ho hx hl hh hm (E.TOk (ne_no hk (by simp))) hk (E.TOk (E.sl _ _ hk)) (by simpa using e) hc
    · refine Ok.cutX fun l h mm hc => Ok.outE ?_
      exact acts_sliceRef ho hx hl hh hm (E.TOk (ne_no hk (by simp))) hk (E.TOk (E.sl _ _ hk)) (by simpa using e) hc
  · rename_i el m g n cs hk
    refine Ok.guardB fun e => ?_
    split
    · refine Ok.guardB fun hs => Ok.cutX fun l h mm hc => Ok.addP fun hq => Ok.outE ?_
      exact acts_sliceXl ho hx hl hh hm (E.TOk (ne_no hk (by simp))) hk (E.TOk (E.sl _ _ hk)) (by simpa using e) hc (by intro q; rw [q] at hs; simp at hs) hq
    · refine Ok.cutX fun l h mm hc => Ok.outE ?_
      exact acts_sliceSl ho hx hl hh hm (E.TOk (ne_no hk (by simp))) hk (E.TOk (E.sl _ _ hk)) (by simpa using e) hc
  · rename_i el hk
    refine Ok.cutX fun l h mm hc => Ok.outE ?_
    have : l = 0 ∧ h = 0 ∧ mm = 0 := by obtain ⟨_, _, _, a, b, c, _⟩ := hc; omega
    obtain ⟨rfl, rfl, rfl⟩ := this
    exact acts_sliceNil ho hx hl hh hm (E.TOk (ne_no hk (by simp))) hk (E.TOk (E.sl _ _ hk)) hc
  · rename_i N el id off hk
    refine Ok.bindX fun cs hcs => Ok.guardN fun hle => ?_
    split
    · refine Ok.cutX fun l h mm hc => Ok.addP fun hq => Ok.outE ?_
      refine Acts.giveLook (by simp) hcs hq.1 hq.2 ?_
      exact acts_sliceArr ho hx hl hh hm (E.TOk (ne_no hk (by simp))) hk (E.TOk (E.ar _ _ _ hk)) (by simp) hcs hle hc
    · refine Ok.cutX fun l h mm hc => Ok.outE ?_
      exact acts_sliceArr ho hx hl hh hm (E.TOk (ne_no hk (by simp))) hk (E.TOk (E.ar _ _ _ hk)) (by simp) hcs hle hc
  · rename_i N el g off cs hk
    refine Ok.guardN fun hle => Ok.cutX fun l h mm hc => Ok.outE ?_
    exact acts_slicePt ho hx hl hh hm (E.TOk (ne_no hk (by simp))) hk (E.TOk (E.ar _ _ _ hk)) hle hc
  · rename_i s hk
    refine Ok.guardB fun hn => ?_
    cases mx with
    | some m => simp at hn
    | none =>
      simp only [evB, Option.some.injEq] at hm; subst hm
      refine Ok.cutX fun l h mm hc => Ok.outE ?_
      have e : mm = s.size := by obtain ⟨_, _, c, _⟩ := hc; simp at c; omega
      subst e
      exact acts_sliceStr ho hx hl hh (E.TOk (ne_no hk (by simp))) hk hc
  · exact Ok.none
theorem arrAtX_ok {t : TypeId} {x : Operand} {p : T} (ho : o.op = .sliceToArrayPointer t x) (hx : σ.ev x = some p) : Ok (arrAtX w (E.ti t).k p) (AX E σ o) := by
  unfold arrAtX
  split
  · rename_i N el m g n cs hk
    exact Ok.guardB fun h0 => Ok.addP fun h1 => Ok.outE (acts_arrayAtSl ho hx (E.TOk (ne_no hk (by simp))) hk (by simpa [Nat.blt_eq] using h0) h1)
  · rename_i N el id m off n hk
    exact Ok.guardB fun h0 => Ok.addP fun h1 => Ok.outE (acts_arrayAtRef ho hx (E.TOk (ne_no hk (by simp))) hk (by simpa [Nat.blt_eq] using h0) h1)
  · exact Ok.none
theorem indexAddrX_ok {t : TypeId} {x y : Operand} {k : IntKind} {n : Int} {p : T} (ho : o.op = .indexAddr t x y) (hx : σ.ev x = some p) (hy : σ.ev y = some (.leaf (.int k n))) : Ok (indexAddrX E w n (E.ti t).k p) (AX E σ o) := by
  unfold indexAddrX
  split
  · rename_i N el id off hk
    exact Ok.addP fun ⟨h0, h1⟩ => Ok.outE (acts_indexArr ho hx hy (E.TOk (ne_no hk (by simp))) hk (E.TOk (E.ar _ _ _ hk)) h0 h1)
  · rename_i N el g off cs hk
    exact Ok.addP fun ⟨h0, h1⟩ => Ok.outE (acts_indexArrP ho hx hy (E.TOk (ne_no hk (by simp))) hk (E.TOk (E.ar _ _ _ hk)) h0 h1)
  · rename_i el id m off N hk
    exact Ok.guardB fun e => Ok.addP fun ⟨h0, h1⟩ => Ok.outE (acts_indexRef ho hx hy (E.TOk (ne_no hk (by simp))) hk (E.TOk (E.sl _ _ hk)) (by simpa using e) h0 h1)
  · rename_i el m g N cs hk
    exact Ok.guardB fun e => Ok.addP fun ⟨h0, h1⟩ => Ok.outE (acts_indexSl ho hx hy (E.TOk (ne_no hk (by simp))) hk (E.TOk (E.sl _ _ hk)) (by simpa using e) h0 h1)
  · exact Ok.none
theorem indexX_ok {t : TypeId} {x y : Operand} {k : IntKind} {n : Int} {p : T} (ho : o.op = .index t x y) (hx : σ.ev x = some p) (hy : σ.ev y = some (.leaf (.int k n))) : Ok (indexX E w n (E.ti t).k p) (AX E σ o) := by
  unfold indexX
  split
  · rename_i N el cs hk
    exact Ok.addP fun ⟨h0, h1⟩ => Ok.partX fun v hv => acts_indexAgg ho hx hy (E.TOk (ne_no hk (by simp))) hk (E.TOk (E.ar _ _ _ hk)) h0 h1 hv
  · rename_i b hk
    split
    · exact Ok.addP fun ⟨h0, h1⟩ => Ok.some (acts_indexStr ho hx hy (E.TOk (ne_no hk (by simp))) hk h0 h1)
    · exact Ok.none
  · exact Ok.none
theorem storeX_ok {t : TypeId} {x y : Operand} {p v : T} (h0 : (E.ti t).k ≠ .no) (ho : o.op = .store t x y) (hx : σ.ev x = some p) (hy : σ.ev y = some v) : Ok (storeX w (E.ti t) σ v p) (AX E σ o) := by
  unfold storeX
  split
  · refine Ok.bindX fun cs hcs => Ok.guardB fun h1 => Ok.guardS fun h2 => Ok.guardN fun h3 => Ok.guardN fun h4 => Ok.guardN fun h5 => Ok.withC (Ok.some ?_)
    exact acts_store ho (E.TOk h0) hx hy (by simp) hcs h1 h2 (by omega) h5
  · exact Ok.none
theorem appendX_ok {t u : TypeId} {x y : Operand} {p q : T} (ho : o.op = .call { callee := .builtin .append, args := #[x, y], argTypes := #[t, u] }) (hx : σ.ev x = some p) (hy : σ.ev y = some q) : Ok (appendX E w σ u p q (E.ti t).k) (AX E σ o) := by
  unfold appendX
  split
  · rename_i el hk
    refine Ok.guardB fun hg => Ok.bindX fun r hr => fitsX_ok fun hf => ?_
    simp only [Bool.and_eq_true] at hg
    have hu : (E.ti u).k ≠ .no ∧ ((∃ e, (E.ti u).k = .slice e) ∨ (E.ti u).k = .str) := by
      have := hg.1
      unfold strOrSlice at this
      split at this
      · rename_i e h; exact ⟨ne_no h (by simp), .inl ⟨_, h⟩⟩
      · rename_i h; exact ⟨ne_no h (by simp), .inr h⟩
      · simp at this
    have hby : 0 < (E.ti el).bytes := by simpa [Nat.blt_eq] using hg.2
    have he := E.TOk (E.sl _ _ hk)
    have nm : ∀ {n : Nat} {l : List Nat}, memN n l = false → n ∉ l := fun e hm => by rw [memN_iff.2 hm] at e; simp at e
    split
    · exact Ok.addP fun hb => Ok.guardB fun hn => Ok.withC (Ok.outG (acts_append0 ho hx (.inl rfl) hy (E.TOk (ne_no hk (by simp))) hk ⟨_, E.TOk hu.1, hu.2⟩ he he.zlen (fun j hj => hj) hr hf hb hby (nm (by simpa using hn))))
    · exact Ok.addP fun hb => Ok.guardB fun hn => Ok.withC (Ok.outG (acts_append0 ho hx (.inr rfl) hy (E.TOk (ne_no hk (by simp))) hk ⟨_, E.TOk hu.1, hu.2⟩ he he.zlen (fun j hj => hj) hr hf hb hby (nm (by simpa using hn))))
    · rename_i id m off n
      refine Ok.guardB fun hm => Ok.bindX fun c0 hc0 => Ok.guardN fun hoff => Ok.guardS fun hsc => Ok.addP fun hb => Ok.guardB fun hd => Ok.withC (Ok.memNot fun hni => ?_)
      have hm' : (E.ti el).size = m := by simpa using hm
      have hA : AX E σ o { val := .ref w.id m 0 (n + r.1), drops := [id], puts := [(w.id, sub c0 off (n * m) ++ r.2)] } (id :: q.ids) := acts_append ho hx hy (E.TOk (ne_no hk (by simp))) hk ⟨_, E.TOk hu.1, hu.2⟩ he hm' he.zlen (by simp) hc0 hoff (fun j hj => List.mem_cons_of_mem _ hj) hr (by rw [← hm']; exact hf) hsc hb hby (by simp only [Bool.or_eq_true, Nat.beq_eq, Bool.not_eq_true'] at hd; exact hd.imp (fun h => h) nm) hni
      split
      · exact Ok.outE hA
      · refine Ok.guardB fun hi => Ok.addP fun hc => Ok.outE ?_
        have hi' : w.id = id := by simpa using hi
        rw [hi'] at hA ⊢
        exact hA.giveApp hc.1 hc.2
    · rename_i m g n c0
      exact Ok.guardB fun hm => Ok.addP fun hb => Ok.guardB fun hn => Ok.withC (Ok.outG (acts_appendXl ho hx hy (E.TOk (ne_no hk (by simp))) hk ⟨_, E.TOk hu.1, hu.2⟩ he (by simpa using hm) he.zlen (fun j hj => hj) hr hf hb.2 hby hb.1 (nm (by simpa using hn))))
    · exact Ok.none
  · exact Ok.none
theorem appMakeX_ok {t u : TypeId} {x y : Operand} {p q : T} (ho : o.op = .call { callee := .builtin .append, args := #[x, y], argTypes := #[t, u] }) (hx : σ.ev x = some p) (hy : σ.ev y = some q) : Ok (appMakeX E w u p q (E.ti t).k) (AX E σ o) := by
  unfold appMakeX
  split
  · rename_i el hk
    refine Ok.guardB fun hg => ?_
    simp only [Bool.and_eq_true] at hg
    obtain ⟨kk, hu⟩ := isIntK_ok hg.1
    have hby : 0 < (E.ti el).bytes := by simpa [Nat.blt_eq] using hg.2
    have he := E.TOk (E.sl _ _ hk)
    split
    · exact Ok.addP fun ⟨h0, hb⟩ => Ok.withC (Ok.outG (acts_appendMake ho hx (.inl rfl) hy (E.TOk (ne_no hk (by simp))) hk ⟨_, E.TOk (ne_no hu (by simp)), hu⟩ he he.zlen h0 hb hby (by simp)))
    · exact Ok.addP fun ⟨h0, hb⟩ => Ok.withC (Ok.outG (acts_appendMake ho hx (.inr rfl) hy (E.TOk (ne_no hk (by simp))) hk ⟨_, E.TOk (ne_no hu (by simp)), hu⟩ he he.zlen h0 hb hby (by simp)))
    · exact Ok.none
  · exact Ok.none
theorem copyX_ok {t u : TypeId} {x y : Operand} {p q : T} (ho : o.op = .call { callee := .builtin .copy, args := #[x, y], argTypes := #[t, u] }) (hx : σ.ev x = some p) (hy : σ.ev y = some q) : Ok (copyX E w σ q (E.ti t).k p) (AX E σ o) := by
  unfold copyX
  split
  · rename_i el id m off n hk
    refine Ok.guardB fun hm => Ok.bindX fun c0 hc0 => Ok.guardN fun hoff => Ok.bindX fun r hr => fitsX_ok fun hf => Ok.guardS fun hsc => Ok.withC (Ok.outE ?_)
    have he := E.TOk (E.sl _ _ hk)
    exact acts_copy ho hx hy (E.TOk (ne_no hk (by simp))) hk he (by simpa using hm) (by simp) hc0 hoff (fun j hj => List.mem_cons_of_mem _ hj) hr hf hsc
  · exact Ok.none
theorem lenX_ok {t : TypeId} {x : Operand} (ho : o.op = .call { callee := .builtin .len, args := #[x], argTypes := #[t] }) : Ok (lenX w σ x (E.ti t).k) (AX E σ o) := by
  unfold lenX
  split
  · rename_i hk
    exact Ok.outE (acts_lenArr ho (E.TOk (ne_no hk (by simp))) hk)
  · rename_i e hk
    refine Ok.bindX fun p hp => Ok.bindX fun n hn => Ok.guardB fun hs => Ok.outE ?_
    exact acts_lenSrc ho hp (E.TOk (ne_no hk (by simp))) (.inl ⟨e, hk⟩) hn (by rw [hk]; simpa using isStr_false (by simpa using hs))
  · rename_i hk
    refine Ok.bindX fun p hp => Ok.bindX fun n hn => Ok.guardB fun hs => Ok.outE ?_
    exact acts_lenSrc ho hp (E.TOk (ne_no hk (by simp))) (.inr hk) hn (by rw [hk]; simpa using isStr_true hs)
  · exact Ok.none
theorem builtinX_ok {b : Builtin} {xs : Array Operand} {ts : Array TypeId} (ho : o.op = .call { callee := .builtin b, args := xs, argTypes := ts }) : Ok (builtinX E w σ b xs.toList ts.toList) (AX E σ o) := by
  obtain ⟨xs⟩ := xs
  obtain ⟨ts⟩ := ts
  simp only
  unfold builtinX
  split
  · rename_i x t; exact lenX_ok (by simpa using ho)
  · rename_i x t
    refine Ok.bindX fun p hp => ?_
    unfold capX
    split
    · rename_i e hk
      exact Ok.outE (acts_capNil (by simpa using ho) hp (E.TOk (ne_no hk (by simp))) hk)
    · exact Ok.none
  · rename_i x t
    refine Ok.bindX fun p hp => ?_
    unfold clearX
    split
    · rename_i el id m off n hk
      refine Ok.guardB fun hm => Ok.bindX fun c0 hc0 => Ok.addP fun hb => Ok.withC (Ok.some ?_)
      simp only [Bool.and_eq_true] at hm
      exact acts_clear (by simpa using ho) hp (E.TOk (ne_no hk (by simp))) hk (E.TOk (E.sl _ _ hk)) (by simpa using hm.1) hm.2 (by simp) hc0 hb.1 hb.2
    · exact Ok.none
  · rename_i x y t u
    refine Ok.bindX fun p hp => Ok.bindX fun q hq => ?_
    split
    · exact appMakeX_ok (by simpa using ho) hp hq
    · exact appendX_ok (by simpa using ho) hp hq
  · rename_i x y t u
    exact Ok.bindX fun p hp => Ok.bindX fun q hq => copyX_ok (u := u) (by simpa using ho) hp hq
  · rename_i x y _
    refine Ok.bindX fun p hp => Ok.bindX fun q hq => ?_
    unfold minmaxX
    split
    · exact Ok.outE (by simpa using acts_minmax (b := .min) ho (.inl rfl) hp hq)
    · exact Ok.none
  · rename_i x y _
    refine Ok.bindX fun p hp => Ok.bindX fun q hq => ?_
    unfold minmaxX
    split
    · exact Ok.outE (by simpa using acts_minmax (b := .max) ho (.inr rfl) hp hq)
    · exact Ok.none
  · exact Ok.none
theorem callX_ok {fo : Operand} {xs : Array Operand} {ts : Array TypeId} (ho : o.op = .call { callee := .value fo, args := xs, argTypes := ts }) : Ok (callX E w σ fo xs.toList) (AX E σ o) := by
  unfold callX
  refine Ok.bindX fun x hx => Ok.bindX fun c hc => Ok.bindX fun AV hA => Ok.bindX fun k hk => Ok.bindX fun H hH => Ok.addP fun hM => Ok.snapQ fun hsO => Ok.addP fun hAi => Ok.closedP fun hcl => Ok.noBX fun hnb => Ok.guardB fun hg => Ok.outE ?_
  obtain ⟨f, p, q⟩ := c
  rw [snapX_eq] at hM hAi
  simp only [Bool.and_eq_true] at hg
  obtain ⟨⟨⟨⟨g1, g2⟩, g3⟩, g4⟩, g5⟩ := hg
  obtain ⟨hids, hlk⟩ := takeH_spec hH
  have := acts_call (o := o) (ev := σ.ev) (h := σ.h) hM ho hx hc hA rfl hsO hlk (fun i cs e j hj => look_of_mem (by rw [hids]; exact hcl _ (look_mem e) j hj)) (fun i hi => look_of_mem (by rw [hids]; exact subN_spec hAi i hi))
    (fun i hi => look_none (by rw [hids]; exact disjN_spec g1 i hi)) hnb g3 (fun i hi => ⟨look_of_mem (by rw [hids]; exact subN_spec g4 i hi), look_of_mem (subN_spec g5 i hi)⟩) (fun i hi => look_none (disjN_spec g2 i hi))
  rw [hids] at this
  exact this
set_option maxHeartbeats 1000000 in
theorem exec1_ok : Ok (exec1 E σ w o.op) (AX E σ o) := by
  obtain ⟨dst, op, type, pos, after, guard⟩ := o
  simp only
  unfold exec1
  split
  · exact Ok.bindX fun t ht => Ok.outE (acts_move (.inl rfl) ht)
  · exact Ok.bindX fun t ht => Ok.outE (acts_move (.inr rfl) ht)
  · refine Ok.bindX fun p hp => ?_
    split
    · exact Ok.bindX fun t ht => Ok.outE (acts_pick (b := true) rfl hp (by simpa using ht))
    · exact Ok.bindX fun t ht => Ok.outE (acts_pick (b := false) rfl hp (by simpa using ht))
    · exact Ok.none
  · exact Ok.guardB fun h0 => Ok.withC (Ok.outE (acts_alloc rfl (E.TOk (notNo h0)) (by simp)))
  · refine Ok.bindX fun v hv => Ok.guardB fun hc => Ok.withC ?_
    split
    · exact Ok.outE (acts_box rfl hv hc (by simp))
    · exact Ok.addP fun hq => Ok.outE (Acts.givePt (by simp) hq (acts_box rfl hv hc (by simp)))
  · refine Ok.bindX fun ts hts => ?_
    unfold buildX
    split
    · rename_i fs hk
      exact Ok.fillX fun cs hcs => Ok.outE (acts_buildS rfl (E.TOk (ne_no hk (by simp))) hk hts (fun f hf => E.TOk (E.st _ _ hk f hf)) hcs)
    · rename_i n el hk
      exact Ok.fillX fun cs hcs => Ok.outE (acts_buildA rfl (E.TOk (ne_no hk (by simp))) hk (E.TOk (E.ar _ _ _ hk)) hts hcs)
    · exact Ok.none
  · refine Ok.bindX fun ts hts => ?_
    split
    · rename_i el hk
      refine Ok.guardB fun hb => Ok.fillX fun cs hcs => Ok.outG ?_
      have he := E.TOk (E.sl _ _ hk)
      exact acts_buildSlice rfl (E.TOk (ne_no hk (by simp))) hk he hts he.zlen (Nat.le_of_ble_eq_true hb) hcs (by simp)
    · exact Ok.none
  · refine Ok.guardB fun h0 => Ok.bindX fun p hp => ?_
    split
    · exact Ok.bindX fun cs hcs => Ok.partX fun v hv => acts_load rfl (E.TOk (notNo h0)) hp (by simp) hcs hv
    · exact Ok.partX fun v hv => acts_loadP rfl (E.TOk (notNo h0)) hp hv
    · exact Ok.none
  · exact Ok.guardB fun h0 => Ok.bindX fun p hp => Ok.bindX fun v hv => storeX_ok (notNo h0) rfl hp hv
  · exact Ok.bindX fun p hp => Ok.guardB fun h => Ok.outE (acts_nilCheck rfl hp h)
  · refine Ok.bindX fun p hp => Ok.bindX fun q hq => ?_
    split
    · exact erX_ok rfl hp hq
    · exact binX_ok rfl hp hq
  · exact Ok.bindX fun p hp => unX_ok rfl hp
  · exact Ok.bindX fun p hp => convY_ok rfl hp
  · rename_i t x
    exact Ok.guardB fun h0 => Ok.bindX fun v hv => Ok.outE (acts_makeIface rfl hv ⟨_, E.TOk (fun e => by rw [e] at h0; simp [K.concrete] at h0), h0⟩)
  · exact Ok.bindX fun ps hp => Ok.bindX fun qs hq => Ok.outE (acts_makeFunc rfl hp hq)
  · refine Ok.bindX fun p hp => Ok.bindX fun q hq => ?_
    split
    · rename_i el hk
      refine Ok.addP fun ⟨h1, h2, h3, h4⟩ => Ok.withC (Ok.outG ?_)
      have he := E.TOk (E.sl _ _ hk)
      exact acts_makeSlice rfl hp hq (E.TOk (ne_no hk (by simp))) hk he he.zlen h1 h2 h3 h4 (by simp)
    · exact Ok.none
  · exact Ok.bindX fun p hp => Ok.bindX fun rl hl => Ok.bindX fun rh hh => Ok.bindX fun rm hm => sliceX_ok rfl hp hl hh hm
  · exact Ok.bindX fun p hp => arrAtX_ok rfl hp
  · refine Ok.bindX fun p hp => ?_
    split
    · rename_i fs hk
      refine Ok.bindX fun r hr => Ok.guardB fun hz => ?_
      have hz' : (E.ti r.2).size ≠ 0 := by have : 0 < (E.ti r.2).size := by simpa [Nat.blt_eq] using hz
                                           omega
      unfold addrX
      split
      · exact Ok.outE (acts_fieldAddr rfl hp (E.TOk (ne_no hk (by simp))) hk hr (E.TOk (E.st _ _ hk r (List.mem_of_getElem? hr))) hz')
      · exact Ok.outE (acts_fieldAddrP rfl hp (E.TOk (ne_no hk (by simp))) hk hr (E.TOk (E.st _ _ hk r (List.mem_of_getElem? hr))) hz')
      · exact Ok.none
    · exact Ok.none
  · refine Ok.bindX fun p hp => ?_
    split
    · rename_i cs fs hk
      exact Ok.bindX fun r hr => Ok.partX fun v hv => acts_field rfl hp (E.TOk (ne_no hk (by simp))) hk hr (E.TOk (E.st _ _ hk r (List.mem_of_getElem? hr))) hv
    · exact Ok.none
  · refine Ok.bindX fun p hp => Ok.bindX fun q hq => ?_
    split
    · exact indexAddrX_ok rfl hp hq
    · exact Ok.none
  · refine Ok.bindX fun p hp => Ok.bindX fun q hq => ?_
    split
    · exact indexX_ok rfl hp hq
    · exact Ok.none
  · refine Ok.bindX fun p hp => ?_
    split
    · exact Ok.bindX fun v hv => Ok.outE (acts_extract rfl hp hv)
    · exact Ok.none
  · exact builtinX_ok rfl
  · exact callX_ok (ts := _) rfl
  · exact Ok.none
end
end Go.Vw
namespace Go.Vw
open Go Go.RowKit
theorem memN_false {n : Nat} {l : List Nat} (h : memN n l = false) : n ∉ l := fun hm => by rw [memN_iff.2 hm] at h; simp at h
def purgeSX (ps : List Nat) (i : Nat) : List (Nat × T) → List Prop × List (Nat × T)
 | [] => ([], [])
 | (n, t) :: l =>
  match memN n ps with
  | true => ((memN i t.ids = false) :: (purgeSX ps i l).1, (n, t) :: (purgeSX ps i l).2)
  | false => ((purgeSX ps i l).1, (n, t.purge i) :: (purgeSX ps i l).2)
def purgeHX (pg : List Nat) (i : Nat) : List (Nat × List T) → List Prop × List (Nat × List T)
 | [] => ([], [])
 | (n, cs) :: l =>
  match Nat.beq n i with
  | true => purgeHX pg i l
  | false =>
   match memN n pg with
   | true => ((memN i (idsL cs) = false) :: (purgeHX pg i l).1, (n, cs) :: (purgeHX pg i l).2)
   | false => ((purgeHX pg i l).1, (n, purgeL i cs) :: (purgeHX pg i l).2)
theorem purgeSX_eq {ps : List Nat} {i : Nat} : ∀ (L : List (Nat × T)), AllP (purgeSX ps i L).1 → (purgeSX ps i L).2 = purgeS i L
 | [], _ => rfl
 | (n, t) :: l, h => by
  simp only [purgeSX] at h ⊢
  split at h
  ·cases h with | cons h1 h2 => simp only [purgeS, purgeSX_eq l h2, T.purge_id t (memN_false h1)]
  ·simp only [purgeS, purgeSX_eq l h]
theorem purgeHX_eq {pg : List Nat} {i : Nat} : ∀ (H : List (Nat × List T)), AllP (purgeHX pg i H).1 → (purgeHX pg i H).2 = purgeH i H
 | [], _ => rfl
 | (n, cs) :: l, h => by
  simp only [purgeHX] at h ⊢
  split at h
  ·rename_i e
   have e : n = i := by simpa using e
   simp only [purgeH, if_pos e, purgeHX_eq l h]
  ·rename_i e
   have e : ¬ n = i := fun e' => by rw [e'] at e; simp at e
   split at h
   ·cases h with | cons h1 h2 => simp only [purgeH, if_neg e, purgeHX_eq l h2, purgeL_id cs (memN_false h1)]
   ·simp only [purgeH, if_neg e, purgeHX_eq l h]
def drpX (ps pg : List Nat) : List Nat → List (Nat × T) → List (Nat × List T) → List Prop × List (Nat × T) × List (Nat × List T)
 | [], L, H => ([], L, H)
 | i :: is, L, H => ((purgeSX ps i L).1 ++ ((purgeHX pg i H).1 ++ (drpX ps pg is (purgeSX ps i L).2 (purgeHX pg i H).2).1), (drpX ps pg is (purgeSX ps i L).2 (purgeHX pg i H).2).2)
theorem drpX_eq {ps pg : List Nat} : ∀ (is : List Nat) (L : List (Nat × T)) (H : List (Nat × List T)), AllP (drpX ps pg is L H).1 → (stL L H).drops is = stL (drpX ps pg is L H).2.1 (drpX ps pg is L H).2.2
 | [], _, _, _ => rfl
 | i :: is, L, H, h => by
  simp only [drpX] at h ⊢
  obtain ⟨h1, h2⟩ := h.append
  obtain ⟨h2, h3⟩ := h2.append
  rw [St.drops, stL_drop, ← purgeSX_eq L h1, ← purgeHX_eq H h2]
  exact drpX_eq is _ _ h3
def setL (d : Option Nat) (x : T) (L : List (Nat × T)) : List (Nat × T) := match d with | none => L | some d => ins d x L
def putsL : List (Nat × List T) → List (Nat × List T) → List (Nat × List T)
 | [], H => H
 | (i, cs) :: ps, H => putsL ps (ins i cs H)
theorem setL_eq (d : Option Nat) (x : T) (L : List (Nat × T)) (H : List (Nat × List T)) : (stL L H).set d x = stL (setL d x L) H := by
 cases d with
 | none => rfl
 | some d => simp only [setL, stL, St.set, look_ins]
theorem putsL_eq : ∀ (ps : List (Nat × List T)) (L : List (Nat × T)) (H : List (Nat × List T)), (stL L H).puts ps = stL L (putsL ps H)
 | [], _, _ => rfl
 | (i, cs) :: ps, L, H => by
  simp only [St.puts, putsL]
  rw [← putsL_eq ps]
  congr 1
  simp only [stL, look_ins]
def aplX (ps pg : List Nat) (e : Eff) (d : Option Nat) (L : List (Nat × T)) (H : List (Nat × List T)) : List Prop × List (Nat × T) × List (Nat × List T) :=
 ((drpX ps pg e.drops L H).1, setL d e.val (drpX ps pg e.drops L H).2.1, putsL e.puts (drpX ps pg e.drops L H).2.2)
theorem aplX_eq {ps pg : List Nat} {e : Eff} {d : Option Nat} {L : List (Nat × T)} {H : List (Nat × List T)} (h : AllP (aplX ps pg e d L H).1) : e.apply (stL L H) d = stL (aplX ps pg e d L H).2.1 (aplX ps pg e d L H).2.2 := by
 simp only [aplX] at h ⊢
 rw [Eff.apply, drpX_eq _ _ _ h, putsL_eq, setL_eq]
def putB (h : Nat → Option (List T)) (S reads stay : List Nat) : List (Nat × List T) → Bool
 | [] => true
 | (i, _) :: l => (memN i stay || (!memN i S && (memN i reads || (h i).isNone))) && putB h S reads stay l
theorem putB_ok {h : Nat → Option (List T)} {S reads stay : List Nat} : ∀ {l : List (Nat × List T)}, putB h S reads stay l = true → putL h S reads stay l
 | [], _ => trivial
 | (i, cs) :: l, e => by
  simp only [putB, Bool.and_eq_true, Bool.or_eq_true, Bool.not_eq_true', Option.isNone_iff_eq_none] at e
  refine ⟨?_, putB_ok e.2⟩
  rcases e.1 with h1 | ⟨h1, h2⟩
  ·exact .inl (memN_iff.1 h1)
  ·exact .inr ⟨memN_false h1, h2.imp memN_iff.1 (fun h => h)⟩
structure Wr where
 ws : List (Nat × Wt) := []
 ps : List Nat := []
 pg : List Nat := []
 fd : Option (List Nat) := none
def wAt (ws : List (Nat × Wt)) (n : Nat) : Wt := match look ws n with | some w => w | none => {}
abbrev Res2 := Option (List Prop × List Mark × List (Nat × T) × List (Nat × List T))
def pre2 (cs : List Prop) (m : Mark) : Res2 → Res2
 | some (cs', ms, L, H) => some (cs ++ cs', m :: ms, L, H)
 | none => none
def flatAt (q : Option (List Nat)) (fo : List Nat) (L : List (Nat × T)) (t : Nat) : Bool := match memN t fo with | true => true | false => (match look L t with | some p => flatT q p | none => false)
def flatOps (q : Option (List Nat)) (fo : List Nat) (L : List (Nat × T)) : List Operand → Bool
 | [] => true
 | .tmp t :: l => flatAt q fo L t && flatOps q fo L l
 | _ :: l => flatOps q fo L l
def flatG (q : Option (List Nat)) (fo : List Nat) (ds : List (Option Nat)) (L : List (Nat × T)) : Option (Nat × Bool) → Bool
 | none => true
 | some (j, _) => match ds[j]? with | some (some d) => flatAt q fo L d | _ => true
def flatR (q : Option (List Nat)) (fl : List Nat) (H : List (Nat × List T)) : List Nat → Bool
 | [] => true
 | i :: l => (match outD q i with | true => (match memN i fl with | true => true | false => (match look H i with | some cs => flatL q cs | none => false)) | false => false) && flatR q fl H l
def clT (q : Option (List Nat)) (L : List (Nat × T)) (t : Nat) : Prop := match look L t with | some p => flatT q p = true | none => False
def clH (q : Option (List Nat)) (H : List (Nat × List T)) (i : Nat) : Prop := match look H i with | some cs => flatL q cs = true | none => False
def clV (q : Option (List Nat)) (v : T) : Bool → List Prop
 | true => [flatT q v = true]
 | false => []
def clC (q : Option (List Nat)) (w : Wt) (L : List (Nat × T)) (H : List (Nat × List T)) (e : Eff) : List Prop := w.fl.map (clH q H) ++ (w.fo.map (clT q L) ++ clV q e.val w.fv)
theorem allP_map {α : Type} {f : α → Prop} : ∀ {l : List α}, AllP (l.map f) → ∀ i ∈ l, f i
 | [], _, i, h => by cases h
 | j :: l, e, i, h => by
  cases e with
  | cons h1 h2 =>
   rcases List.mem_cons.1 h with rfl | h
   ·exact h1
   ·exact allP_map h2 i h
theorem clT_ok {q : Option (List Nat)} {L : List (Nat × T)} {t : Nat} (h : clT q L t) : ∃ p, look L t = some p ∧ flatT q p = true := by
 unfold clT at h
 split at h
 ·rename_i p e; exact ⟨p, e, h⟩
 ·exact h.elim
theorem clH_ok {q : Option (List Nat)} {H : List (Nat × List T)} {i : Nat} (h : clH q H i) : ∃ cs, look H i = some cs ∧ flatL q cs = true := by
 unfold clH at h
 split at h
 ·rename_i p e; exact ⟨p, e, h⟩
 ·exact h.elim
theorem flatR_ok {q : Option (List Nat)} {fl : List Nat} {H : List (Nat × List T)} (hf : ∀ i ∈ fl, clH q H i) : ∀ {l : List Nat}, flatR q fl H l = true → ∀ i ∈ l, outD q i = true ∧ ∃ cs, look H i = some cs ∧ flatL q cs = true
 | [], _, i, h => by cases h
 | j :: l, e, i, h => by
  simp only [flatR, Bool.and_eq_true] at e
  rcases List.mem_cons.1 h with rfl | h
  ·have e := e.1
   split at e
   ·rename_i q1
    split at e
    ·rename_i q2; exact ⟨q1, clH_ok (hf _ (memN_iff.1 q2))⟩
    ·split at e
     ·rename_i cs q2; exact ⟨q1, cs, q2, e⟩
     ·cases e
   ·cases e
  ·exact flatR_ok hf e.2 i h
def putsF (q : Option (List Nat)) : List (Nat × List T) → Bool
 | [] => true
 | (i, cs) :: l => outD q i && flatL q cs && putsF q l
theorem putsF_ok {q : Option (List Nat)} : ∀ {l : List (Nat × List T)}, putsF q l = true → ∀ p ∈ l, outD q p.1 = true ∧ flatL q p.2 = true
 | [], _, p, h => by cases h
 | (i, cs) :: l, e, p, h => by
  simp only [putsF, Bool.and_eq_true] at e
  rcases List.mem_cons.1 h with rfl | h
  ·exact e.1
  ·exact putsF_ok e.2 p h
mutual
theorem flatT_mono {q q' : Option (List Nat)} (h : ∀ i, outD q i = true → outD q' i = true) : ∀ (t : T), flatT q t = true → flatT q' t = true
 | .dead, e => by simp [flatT] at e
 | .leaf _, _ | .e0, _ | .sl .., _ | .xl .., _ | .pt .., _ => rfl
 | .agg cs, e => by simp only [flatT] at e ⊢; exact flatL_mono h cs e
 | .tup cs, e => by simp only [flatT] at e ⊢; exact flatL_mono h cs e
 | .iface _ v, e => by simp only [flatT] at e ⊢; exact flatT_mono h v e
 | .fn _ p r, e => by simp only [flatT, Bool.and_eq_true] at e ⊢; exact ⟨flatL_mono h p e.1, flatL_mono h r e.2⟩
 | .ref i _ _ _, e => by simp only [flatT] at e ⊢; exact h i e
 | .addr i _, e => by simp only [flatT] at e ⊢; exact h i e
theorem flatL_mono {q q' : Option (List Nat)} (h : ∀ i, outD q i = true → outD q' i = true) : ∀ (ts : List T), flatL q ts = true → flatL q' ts = true
 | [], _ => rfl
 | t :: ts, e => by simp only [flatL, Bool.and_eq_true] at e ⊢; exact ⟨flatT_mono h t e.1, flatL_mono h ts e.2⟩
end
theorem clH_mono {q q' : Option (List Nat)} (h : ∀ i, outD q i = true → outD q' i = true) {H : List (Nat × List T)} {i : Nat} (e : clH q H i) : clH q' H i := by
 unfold clH at e ⊢
 split at e
 ·exact flatL_mono h _ e
 ·exact e.elim
theorem clT_mono {q q' : Option (List Nat)} (h : ∀ i, outD q i = true → outD q' i = true) {L : List (Nat × T)} {i : Nat} (e : clT q L i) : clT q' L i := by
 unfold clT at e ⊢
 split at e
 ·exact flatT_mono h _ e
 ·exact e.elim
def cleanB (q : Option (List Nat)) (w : Wt) (ds : List (Option Nat)) (L : List (Nat × T)) (H : List (Nat × List T)) (o : Oper) (e : Eff) (r : List Nat) : Bool :=
 putsF q e.puts && flatR q w.fl H r && (w.fv || flatT q e.val) && flatOps q w.fo L o.op.operands.toList && flatG q w.fo ds L o.guard
theorem flatAt_ok {q : Option (List Nat)} {fo : List Nat} {L : List (Nat × T)} (hf : ∀ t ∈ fo, clT q L t) {t : Nat} (h : flatAt q fo L t = true) : ∃ p, look L t = some p ∧ flatT q p = true := by
 unfold flatAt at h
 split at h
 ·rename_i e; exact clT_ok (hf _ (memN_iff.1 e))
 ·split at h
  ·rename_i p e; exact ⟨p, e, h⟩
  ·cases h
theorem flatOps_ok {q : Option (List Nat)} {fo : List Nat} {L : List (Nat × T)} (hf : ∀ t ∈ fo, clT q L t) : ∀ {l : List Operand}, flatOps q fo L l = true → ∀ t, .tmp t ∈ l → ∃ p, look L t = some p ∧ flatT q p = true
 | [], _, t, h => by cases h
 | x :: l, e, t, h => by
  rcases List.mem_cons.1 h with h' | h'
  ·subst h'
   simp only [flatOps, Bool.and_eq_true] at e
   exact flatAt_ok hf e.1
  ·cases x with
   | tmp u => simp only [flatOps, Bool.and_eq_true] at e; exact flatOps_ok hf e.2 t h'
   | _ => simp only [flatOps] at e; exact flatOps_ok hf e t h'
theorem cleanB_ok {q q' : Option (List Nat)} (hq : ∀ i, outD q i = true → outD q' i = true) {w : Wt} {ds : List (Option Nat)} {L : List (Nat × T)} {H : List (Nat × List T)} {o : Oper} {e : Eff} {r : List Nat} {g : Bool} {c : List Nat} (hc : AllP (clC q w L H e)) (h : cleanB q' w ds L H o e r = true) : CleanAt q' ds (stL L H) (o, ⟨e, r, g, c⟩) := by
 obtain ⟨c1, c2⟩ := hc.append
 obtain ⟨c2, c3⟩ := c2.append
 have c1 : ∀ i ∈ w.fl, clH q' H i := fun i hi => clH_mono hq (allP_map c1 i hi)
 have c2 : ∀ t ∈ w.fo, clT q' L t := fun t ht => clT_mono hq (allP_map c2 t ht)
 simp only [cleanB, Bool.and_eq_true, Bool.or_eq_true] at h
 obtain ⟨⟨⟨⟨h1, h3⟩, h4⟩, h5⟩, h6⟩ := h
 have h4 : flatT q' e.val = true := by
  rcases h4 with h4 | h4
  ·rw [h4] at c3; cases c3 with | cons h _ => exact flatT_mono hq _ h
  ·exact h4
 refine ⟨⟨h4, putsF_ok h1⟩, flatR_ok c1 h3, fun t ht => flatOps_ok c2 h5 t (by simpa using ht), fun j b d hg hd => ?_⟩
 have hg : o.guard = some (j, b) := hg
 rw [hg] at h6
 simp only [flatG, hd] at h6
 exact flatAt_ok c2 h6
def clOf (F : Option (List Nat) → Bool) : List Nat → List Nat
 | [] => []
 | i :: l => match F (some [i]) with | true => i :: clOf F l | false => clOf F l
theorem clOf_sub (F : Option (List Nat) → Bool) : ∀ (l : List Nat), ∀ i ∈ clOf F l, i ∈ l
 | [], i, h => by cases h
 | j :: l, i, h => by
  simp only [clOf] at h
  split at h
  ·rcases List.mem_cons.1 h with rfl | h
   ·exact List.mem_cons_self ..
   ·exact List.mem_cons_of_mem _ (clOf_sub F l i h)
  ·exact List.mem_cons_of_mem _ (clOf_sub F l i h)
def clAll (F : Option (List Nat) → Bool) : Option (List Nat) → List Nat
 | none => []
 | some D => match F (some (clOf F D)) with | true => clOf F D | false => []
theorem clAll_ok {F : Option (List Nat) → Bool} {q : Option (List Nat)} (h : clAll F q ≠ []) : F (some (clAll F q)) = true ∧ ∀ i, outD q i = true → outD (some (clAll F q)) i = true := by
 cases q with
 | none => exact absurd rfl h
 | some D =>
  simp only [clAll] at h ⊢
  split at h
  ·rename_i e
   rw [e]
   refine ⟨by first | exact e | rfl, fun i hi => ?_⟩
   simp only [outD, Bool.not_eq_true'] at hi ⊢
   cases hm : memN i (clOf F D) with
   | false => rfl
   | true => rw [memN_iff.2 (clOf_sub F D i (memN_iff.1 hm))] at hi; cases hi
  ·exact absurd rfl h
def execs (E : Env) (S : List Nat) (ds : List (Option Nat)) (R : Wr) : List Oper → Nat → List (Nat × T) → List (Nat × List T) → Res2
 | [], _, L, H => some ([], [], L, H)
 | o :: l, n, L, H =>
  match guardT ds (stL L H) o.guard with
  | none => none
  | some false => pre2 [] ⟨[], [], [], []⟩ (execs E S ds R l (n + 1) (setL o.dst (.tup []) L) H)
  | some true =>
   match exec1 E (stL L H) (wAt R.ws n) o.op with
   | none => none
   | some (cs, e, r) =>
    match putB (look H) S r e.stay e.puts && dropB R.fd e.drops with
    | false => none
    | true => pre2 (cs ++ (clC R.fd (wAt R.ws n) L H e ++ (aplX R.ps R.pg e o.dst L H).1)) ⟨r, e.puts.map (·.1), e.drops, clAll (fun q => cleanB q (wAt R.ws n) ds L H o e r) R.fd⟩ (execs E S ds R l (n + 1) (aplX R.ps R.pg e o.dst L H).2.1 (aplX R.ps R.pg e o.dst L H).2.2)
theorem execs_runs {E : Env} {S : List Nat} {ds : List (Option Nat)} {R : Wr} : ∀ (l : List Oper) (n : Nat) (L : List (Nat × T)) (H : List (Nat × List T)) {cs : List Prop} {ms : List Mark} {L' : List (Nat × T)} {H' : List (Nat × List T)},
  execs E S ds R l n L H = some (cs, ms, L', H') → AllP cs →
  ∃ zs : List (Oper × Step), zs.map (·.1) = l ∧ Runs E S ds zs (stL L H) ∧ zs.map (·.2.mark) = ms ∧ zs.foldl (fun σ z => stp z σ) (stL L H) = stL L' H'
 | [], n, L, H, cs, ms, L', H', h, _ => by
  simp only [execs, Option.some.injEq, Prod.mk.injEq] at h
  obtain ⟨_, rfl, rfl, rfl⟩ := h
  exact ⟨[], rfl, trivial, rfl, rfl⟩
 | o :: l, n, L, H, cs, ms, L', H', h, hc => by
  have hpre : ∀ {c0 : List Prop} {m : Mark} {x : Res2}, pre2 c0 m x = some (cs, ms, L', H') → ∃ cs' ms', x = some (cs', ms', L', H') ∧ cs = c0 ++ cs' ∧ ms = m :: ms' := by
   intro c0 m x e
   unfold pre2 at e
   split at e
   ·simp only [Option.some.injEq, Prod.mk.injEq] at e
    obtain ⟨rfl, rfl, rfl, rfl⟩ := e
    exact ⟨_, _, rfl, rfl, rfl⟩
   ·simp at e
  simp only [execs] at h
  split at h
  ·simp at h
  ·rename_i hg
   obtain ⟨cs', ms', h1, rfl, rfl⟩ := hpre h
   obtain ⟨zs, z1, z2, z3, z4⟩ := execs_runs l (n + 1) _ _ h1 (by simpa using hc)
   have e0 : stp (o, (⟨{}, [], false, []⟩ : Step)) (stL L H) = stL (setL o.dst (.tup []) L) H := by
    rw [← setL_eq]; rfl
   refine ⟨(o, ⟨{}, [], false, []⟩) :: zs, by simp [z1], ⟨⟨hg, by simp, fun h => absurd rfl h⟩, by rw [e0]; exact z2⟩, by rw [List.map_cons, z3]; rfl, by rw [List.foldl_cons, e0]; exact z4⟩
  ·rename_i hg
   split at h
   ·simp at h
   ·rename_i c1 e r hx
    split at h
    ·simp at h
    ·rename_i hp
     simp only [Bool.and_eq_true] at hp
     obtain ⟨cs', ms', h1, rfl, rfl⟩ := hpre h
     obtain ⟨hc1, hc2⟩ := hc.append
     obtain ⟨hc1, hc3⟩ := hc1.append
     obtain ⟨hcC, hc3⟩ := hc3.append
     obtain ⟨zs, z1, z2, z3, z4⟩ := execs_runs l (n + 1) _ _ h1 hc2
     have e0 : stp (o, (⟨e, r, true, clAll (fun q => cleanB q (wAt R.ws n) ds L H o e r) R.fd⟩ : Step)) (stL L H) = stL (aplX R.ps R.pg e o.dst L H).2.1 (aplX R.ps R.pg e o.dst L H).2.2 := by
      rw [← aplX_eq hc3]; rfl
     refine ⟨(o, ⟨e, r, true, clAll (fun q => cleanB q (wAt R.ws n) ds L H o e r) R.fd⟩) :: zs, by simp [z1], ⟨⟨hg, ?_⟩, by rw [e0]; exact z2⟩, by rw [List.map_cons, z3]; rfl, by rw [List.foldl_cons, e0]; exact z4⟩
     simp only [if_true]
     exact ⟨⟨exec1_ok _ _ _ hx hc1, putB_ok hp.1⟩, fun hcl => cleanB_ok (clAll_ok hcl).2 hcC (clAll_ok (F := fun q => cleanB q (wAt R.ws n) ds L H o e r) hcl).1⟩
theorem runs_sound {E : Env} {Γ : Cx} {S : List Nat} {all : Array Oper} {ds : List (Option Nat)} (hds : all.toList.map (·.dst) = ds) {Q : Exit → Act → World → Prop} (hP : Γ.P = E.P) (hS : Γ.S = S) (hd : ∀ o ∈ all, ∀ d, o.dst = some d → d < Γ.n) :
  ∀ (zs : List (Oper × Step)) (s : Nat), (∀ j, (zs.map (·.1))[j]? = all[s + j]?) → ∀ (σ : St), Runs E S ds zs σ → ∀ (a : Act) (w : World), Sim Γ σ a w → (∀ a w, Sim Γ (zs.foldl (fun σ z => stp z σ) σ) a w → Q .normal a w) →
   wpOps E.P all Q (List.range' s zs.length) a w
 | [], s, _, σ, _, a, w, hs, hK => by simpa [wpOps] using hK a w hs
 | z :: l, s, hl, σ, hr, a, w, ⟨β, hs⟩, hK => by
  have ho : all[s]? = some z.1 := by have := hl 0; simpa using this.symm
  have hod : ∀ d, z.1.dst = some d → d < Γ.n := hd z.1 (Array.mem_of_getElem? ho)
  have ih := runs_sound hds (E := E) (S := S) (Q := Q) hP hS hd l (s + 1) (fun j => by have := hl (j + 1); simpa [Nat.add_assoc, Nat.add_comm 1 j] using this)
  simp only [List.length_cons, List.range'_succ, wpOps, ho]
  obtain ⟨⟨hg, hstep, _⟩, hr⟩ := hr
  rw [guardT_wanted hs hds hg]
  cases hz : z.2.go with
  | true =>
   rw [hz, if_pos rfl] at hstep
   obtain ⟨hact, hput⟩ := hstep
   rw [if_pos rfl]
   left
   exact hact Γ σ β a w _ _ hP (fun _ _ => rfl) (fun _ _ => rfl) (by rw [hS]; exact putL_ok hput) hod hs (fun a' w' hs' => ih _ hr _ _ hs' hK)
  | false =>
   rw [hz] at hstep
   simp only [Bool.false_eq_true, if_false] at hstep
   simp only [Bool.false_eq_true, if_false]
   have e0 : stp z σ = σ.set z.1.dst (.tup []) := by simp only [stp, hstep.1]; rfl
   refine ih (stp z σ) hr _ _ ⟨β, ?_⟩ hK
   rw [e0]
   exact hs.skip z.1.dst hod
abbrev Res3 := Option (List Prop × List (Nat × T) × List (Nat × List T))
def fin3 (ps pg fs ns : List Nat) : Res2 → Res3
 | some (cs, _, L, H) => some (cs ++ (drpX ps pg fs L H).1, keepL (drpX ps pg fs L H).2.1 ns, (drpX ps pg fs L H).2.2)
 | none => none
def execR (E : Env) (N : Nat) (S : List Nat) (ops : Array Oper) (R : Wr) (fs ns : List Nat) (L : List (Nat × T)) (H : List (Nat × List T)) : Res3 :=
 match dstB N ops.toList with
 | true => fin3 R.ps R.pg fs ns (execs E S (ops.toList.map (·.dst)) R ops.toList 0 L H)
 | false => none
def drawB (ops : Array Oper) (ord : List Nat) : Res2 → Bool
 | some (_, ms, _, _) => topo ops ord && pairs 0 (rowsOf ops) ms
 | none => false
def execD (E : Env) (N : Nat) (S : List Nat) (ops : Array Oper) (ord : List Nat) (R : Wr) (fs ns : List Nat) (L : List (Nat × T)) (H : List (Nat × List T)) : Res3 :=
 match dstB N ops.toList && drawB ops ord (execs E S (ops.toList.map (·.dst)) R ops.toList 0 L H) with
 | true => fin3 R.ps R.pg fs ns (execs E S (ops.toList.map (·.dst)) R ops.toList 0 L H)
 | false => none
section
variable {E : Env} {Γ : Cx} {f : FuncId} {N : Nat} {S : List Nat} {Post : Value → World → Prop} {k k0 rest : List Item}
theorem Go.drops (is : List Nat) {σ : St} (h : Go E Γ f N S Post k (σ.drops is)) : Go E Γ f N S Post k σ :=
 fun h1 h2 h3 a w ⟨β, hsb⟩ => h h1 h2 h3 a w ⟨β, hsb.drops is⟩
theorem fin3_ok {ps pg fs ns : List Nat} {x : Res2} {cs : List Prop} {L' : List (Nat × T)} {H' : List (Nat × List T)} (h : fin3 ps pg fs ns x = some (cs, L', H')) (hc : AllP cs) :
  ∃ c0 ms L1 H1, x = some (c0, ms, L1, H1) ∧ AllP c0 ∧ (Go E Γ f N S Post k (stL L' H') → Go E Γ f N S Post k (stL L1 H1)) := by
 unfold fin3 at h
 split at h
 ·rename_i c0 ms L1 H1
  simp only [Option.some.injEq, Prod.mk.injEq] at h
  obtain ⟨rfl, rfl, rfl⟩ := h
  obtain ⟨h1, h2⟩ := hc.append
  refine ⟨_, _, _, _, rfl, h1, fun hg => Go.drops fs ?_⟩
  rw [drpX_eq fs L1 H1 h2]
  exact Go.keep ns hg
 ·simp at h
theorem Go.rx {id : Nat} {ops : Array Oper} (n : Nat) (R : Wr) (fs ns : List Nat) {L : List (Nat × T)} {H : List (Nat × List T)} (cs : List Prop) (L' : List (Nat × T)) (H' : List (Nat × List T)) (hk : k = k0) (he : normI n k0 = .code (.region id ops false) :: rest)
  (hx : execR E N S ops R fs ns L H = some (cs, L', H')) (hc : AllP cs) (HH : ∀ k', k' = rest → Go E Γ f N S Post k' (stL L' H')) : Go E Γ f N S Post k (stL L H) := by
 subst hk
 refine Go.norm n ?_
 rw [he]
 unfold execR at hx
 split at hx
 ·rename_i hd
  obtain ⟨c0, ms, L1, H1, hx, hc0, hgo⟩ := fin3_ok (E := E) (Γ := Γ) (f := f) (N := N) (S := S) (Post := Post) (k := rest) hx hc
  have hgo := hgo (HH _ rfl)
  obtain ⟨zs, z1, z2, z3, z4⟩ := execs_runs _ _ _ _ hx hc0
  intro h1 h2 h3 a w hs cs' b hb hkd
  have hlen : zs.length = ops.size := by have := congrArg List.length z1; simpa using this
  have hw := runs_sound (E := E) (Γ := Γ) (S := S) (all := ops) rfl (Q := fun e a' w' => e = .normal ∧ Sim Γ (stL L1 H1) a' w') h1 h3 (fun o ho d hod => by rw [h2]; exact dstB_ok _ hd o (by simpa using ho) d hod) zs 0 (fun j => by rw [z1]; simp) _ z2 a w hs (fun a' w' hs' => ⟨rfl, by rw [← z4]; exact hs'⟩)
  rw [hlen, ← List.range_eq_range'] at hw
  obtain ⟨a', w', hs', harr⟩ := region_steps (dstB_nd ops hd) hw b rest cs'
  obtain ⟨v, w'', fr, p, st, r⟩ := hgo h1 h2 h3 a' w' hs' cs' b hb hkd
  exact ⟨v, w'', fr, p, .head stepR_region (Steps.trans harr st), r⟩
 ·simp at hx
theorem Go.dx {id : Nat} {ops : Array Oper} (n : Nat) (ord : List Nat) (R : Wr) (fs ns : List Nat) {L : List (Nat × T)} {H : List (Nat × List T)} (cs : List Prop) (L' : List (Nat × T)) (H' : List (Nat × List T)) (hk : k = k0) (he : normI n k0 = .code (.region id ops true) :: rest)
  (hx : execD E N S ops ord R fs ns L H = some (cs, L', H')) (hc : AllP cs) (HH : ∀ k', k' = rest → Go E Γ f N S Post k' (stL L' H')) : Go E Γ f N S Post k (stL L H) := by
 subst hk
 refine Go.norm n ?_
 rw [he]
 unfold execD at hx
 split at hx
 ·rename_i hd
  simp only [Bool.and_eq_true] at hd
  obtain ⟨hd, hdr⟩ := hd
  obtain ⟨c0, ms, L1, H1, hx, hc0, hgo⟩ := fin3_ok (E := E) (Γ := Γ) (f := f) (N := N) (S := S) (Post := Post) (k := rest) hx hc
  have hgo := hgo (HH _ rfl)
  rw [hx] at hdr
  simp only [drawB, Bool.and_eq_true] at hdr
  obtain ⟨ht, hp⟩ := hdr
  obtain ⟨zs, hz, hr, z3, z4⟩ := execs_runs _ _ _ _ hx hc0
  rw [← z3] at hp
  intro h1 h2 h3 a w hs cs' b hb hkd
  obtain ⟨β, hsb⟩ := hs
  have hs' : Sim Γ (stL L H) a { w with drawn := w.drawn + 1 } := ⟨β, hsb.grow (Keeps.drew _ w)⟩
  have hw : ∀ t, wpOps E.P ops (fun e a' w' => e = .normal ∧ Sim Γ (zs.foldl (fun σ z => stp z σ) (stL L H)) a' w') (Region.schedule (E.P.follows .mixedOrders) ops t) a { w with drawn := w.drawn + 1 } := fun t => by
   obtain ⟨md, t', e⟩ := schedule_md (E.P.follows .mixedOrders) ops t
   rw [e]
   refine wpAny_sound ops.size t' _ a _ ?_
   refine draw_any md h1 h3 (fun o ho d hod => by rw [h2]; exact dstB_ok _ hd o (by simpa using ho) d hod) hz rfl hr hp ht (fun a' w' hs => ⟨rfl, hs⟩) ops.size (List.range ops.size) _ a _ (by simp) (by simp) (fun i hi _ => List.mem_range.2 hi) ?_ ?_
   ·intro i o ho hDi
    simp only [Array.getD_eq_getD_getElem?, Array.getElem?_replicate] at hDi
    split at hDi <;> simp at hDi
   ·rw [foldD_none _ _ _ fun i _ => by
     simp only [Array.getD_eq_getD_getElem?, Array.getElem?_replicate]; split <;> simp]
    exact hs'
  obtain ⟨a', w', hs', harr⟩ := region_steps (dstB_nd ops hd) (hw _) b rest cs'
  rw [z4] at hs'
  obtain ⟨v, w'', fr, p, st, r⟩ := hgo h1 h2 h3 a' w' hs' cs' b hb hkd
  exact ⟨v, w'', fr, p, .head stepR_region_draw (Steps.trans harr st), r⟩
 ·simp at hx
end
end Go.Vw
namespace Go.Vw
open Go Go.RowKit
def PostX {α : Type} (Γ : Cx) (enc : α → T × List (Nat × List T)) (x : α) : Value → World → Prop := PostR Γ (enc x).1 (enc x).2
section
variable {E : Env} {Γ : Cx} {f : FuncId} {N : Nat} {S : List Nat} {Post : Value → World → Prop} {k k0 rest : List Item} {σ : St}
theorem Go.br {α : Type} {Pf : α → Value → World → Prop} {A B : α} {e : Bool} {c : Operand} {x y : Code} (n : Nat) (hk : k = k0) (he : normI n k0 = .code (.cond c x y) :: rest) (hc : σ.ev c = some (.leaf (.bool e)))
  (H1 : e = true → ∀ k', k' = .code x :: rest → Go E Γ f N S (Pf A) k' σ) (H2 : e = false → ∀ k', k' = .code y :: rest → Go E Γ f N S (Pf B) k' σ) : Go E Γ f N S (Pf (_root_.cond e A B)) k σ := by
 cases e with
 | true => exact Go.cond n hk he hc (by simpa using H1 rfl)
 | false => exact Go.cond n hk he hc (by simpa using H2 rfl)
theorem Go.split {α : Type} {Pf : α → Value → World → Prop} {A B : α} (e : Bool) (H1 : e = true → Go E Γ f N S (Pf A) k σ) (H2 : e = false → Go E Γ f N S (Pf B) k σ) : Go E Γ f N S (Pf (_root_.cond e A B)) k σ := by
 cases e with
 | true => exact H1 rfl
 | false => exact H2 rfl
def resX (E : Env) (σ : St) : List ResultVar → Option (List Prop × List T)
 | [] => some ([], [])
 | .tmp t :: rs =>
  match σ.s t, resX E σ rs with
  | some v, some (cs, us) => some (cs, v :: us)
  | _, _ => none
 | .cell a ty :: rs =>
  match (E.ti ty).k.isNo, σ.s a, resX E σ rs with
  | false, some (.addr id off), some (cs, us) =>
   match σ.h id with
   | some c =>
    match (E.ti ty).agg with
    | true => some ((off + (E.ti ty).size ≤ c.length) :: cs, .agg (sub c off (E.ti ty).size) :: us)
    | false => match c[off]? with | some v => some (cs, v :: us) | none => none
   | none => none
  | _, _, _ => none
theorem resX_ok {E : Env} {σ : St} : ∀ {rs : List ResultVar} {cs : List Prop} {vs : List T}, resX E σ rs = some (cs, vs) → AllP cs → resL E σ rs vs
 | [], cs, vs, h, _ => by simp only [resX, Option.some.injEq, Prod.mk.injEq] at h; simp [resL, h.2]
 | .tmp t :: rs, cs, vs, h, hc => by
  simp only [resX] at h
  split at h
  ·rename_i v cs' us h1 h2
   simp only [Option.some.injEq, Prod.mk.injEq] at h
   obtain ⟨rfl, rfl⟩ := h
   exact ⟨v, us, rfl, h1, resX_ok h2 hc⟩
  ·simp at h
 | .cell a ty :: rs, cs, vs, h, hc => by
  simp only [resX] at h
  split at h
  ·rename_i id off cs' us h0 h1 h2
   have hne : (E.ti ty).k ≠ .no := by rintro e; rw [e] at h0; simp [K.isNo] at h0
   split at h
   ·rename_i c hcell
    split at h
    ·rename_i ha
     simp only [Option.some.injEq, Prod.mk.injEq] at h
     obtain ⟨rfl, rfl⟩ := h
     cases hc with
     | cons hp hc =>
      refine ⟨_, us, rfl, ⟨hne, _, h1, ?_⟩, resX_ok h2 hc⟩
      simp only [loadC]
      refine ⟨c, hcell, ?_⟩
      show partC _ _ _ _
      unfold partC
      rw [ha, condB_true]
      exact ⟨hp, _, rfl, rfl⟩
    ·rename_i ha
     split at h
     ·rename_i v hv
      simp only [Option.some.injEq, Prod.mk.injEq] at h
      obtain ⟨rfl, rfl⟩ := h
      refine ⟨v, us, rfl, ⟨hne, _, h1, ?_⟩, resX_ok h2 hc⟩
      simp only [loadC]
      refine ⟨c, hcell, ?_⟩
      show partC _ _ _ _
      unfold partC
      rw [ha, condB_false]
      exact ⟨v, hv, rfl⟩
     ·simp at h
   ·simp at h
  ·simp at h
def T.Le (a b : T) : Prop := (∀ w ok β v, Rep w ok a β v → Rep w ok b β v) ∧ ∀ i ∈ b.ids, i ∈ a.ids
theorem T.Le.refl (a : T) : T.Le a a := ⟨fun _ _ _ _ h => h, fun _ h => h⟩
theorem T.Le.of_eq {a b : T} (h : a = b) : T.Le a b := h ▸ T.Le.refl a
theorem T.Le.nil (m : Nat) (g : Tag) : T.Le (.leaf (.slice none 0 0)) (.sl m g 0 []) :=
 ⟨fun w ok β v h => by simp only [Rep] at h ⊢; subst h; exact ⟨⟨by simp, by simp [idsL]⟩, none, 0, rfl, by omega, .inl trivial⟩, by simp [T.ids]⟩
theorem T.Le.e0 (m : Nat) (g : Tag) : T.Le .e0 (.sl m g 0 []) :=
 ⟨fun w ok β v h => by simp only [Rep] at h ⊢; obtain ⟨a, rfl⟩ := h; exact ⟨⟨by simp, by simp [idsL]⟩, a, 0, rfl, by omega, .inl trivial⟩, by simp [T.ids]⟩
theorem T.Le.trans {a b c : T} (h : T.Le a b) (k : T.Le b c) : T.Le a c := ⟨fun w ok β v r => k.1 w ok β v (h.1 w ok β v r), fun i hi => h.2 i (k.2 i hi)⟩
inductive LeL : List T → List T → Prop where
 | nil : LeL [] []
 | cons {a b : T} {as bs : List T} (h : T.Le a b) (t : LeL as bs) : LeL (a :: as) (b :: bs)
theorem LeL.rep {as bs : List T} (h : LeL as bs) : (∀ w ok β vs, RepL w ok as β vs → RepL w ok bs β vs) ∧ ∀ i ∈ idsL bs, i ∈ idsL as := by
 induction h with
 | nil => exact ⟨fun _ _ _ _ h => h, fun _ h => h⟩
 | cons h t ih =>
  refine ⟨fun w ok β vs r => ?_, fun i hi => ?_⟩
  ·simp only [RepL] at r ⊢
   obtain ⟨v, us, rfl, r1, r2⟩ := r
   exact ⟨v, us, rfl, h.1 _ _ _ _ r1, ih.1 _ _ _ _ r2⟩
  ·simp only [idsL, List.mem_append] at hi ⊢
   exact hi.imp (h.2 i) (ih.2 i)
theorem LeL.refl : ∀ (a : List T), LeL a a
 | [] => .nil
 | t :: ts => .cons (T.Le.refl t) (LeL.refl ts)
theorem T.Le.tup {as bs : List T} (h : LeL as bs) : T.Le (.tup as) (.tup bs) :=
 ⟨fun w ok β v r => by simp only [Rep] at r ⊢; obtain ⟨vs, rfl, r⟩ := r; exact ⟨vs, rfl, h.rep.1 _ _ _ _ r⟩, fun i hi => by simp only [T.ids] at hi ⊢; exact h.rep.2 i hi⟩
theorem T.Le.agg {as bs : List T} (h : LeL as bs) : T.Le (.agg as) (.agg bs) :=
 ⟨fun w ok β v r => by simp only [Rep] at r ⊢; obtain ⟨vs, rfl, r⟩ := r; exact ⟨vs, rfl, h.rep.1 _ _ _ _ r⟩, fun i hi => by simp only [T.ids] at hi ⊢; exact h.rep.2 i hi⟩
theorem SimB.slotLe {β : Nat → Real} {a : Act} {w : World} (hs : SimB Γ σ β a w) {t : Nat} {x y : T} (hx : σ.s t = some x) (h : T.Le x y) : SimB Γ { σ with s := upd σ.s t (some y) } β a w := by
 refine ⟨hs.defers, hs.size, hs.keeps, fun u z e => ?_, hs.obj, hs.inj, hs.ownb, fun u z e => ?_, hs.wfh, hs.stab⟩
 ·simp only [upd] at e
  split at e
  ·rename_i e'; subst e'; injection e with e; subst e
   obtain ⟨v, h1, h2⟩ := hs.slot _ _ hx
   exact ⟨v, h1, h.1 _ _ _ _ h2⟩
  ·exact hs.slot u z e
 ·simp only [upd] at e
  split at e
  ·injection e with e; subst e; exact fun i hi => hs.wfs _ _ hx i (h.2 i hi)
  ·exact hs.wfs u z e
theorem Go.le {L : List (Nat × T)} {H : List (Nat × List T)} (t : Nat) (x y : T) (hx : look L t = some x) (h : T.Le x y) (hg : Go E Γ f N S Post k (stL (ins t y L) H)) : Go E Γ f N S Post k (stL L H) :=
 fun h1 h2 h3 a w ⟨β, hsb⟩ => hg h1 h2 h3 a w ⟨β, by have := hsb.slotLe (t := t) (x := x) (y := y) hx h; simpa only [stL, look_ins] using this⟩
def atEnd : List Item → Bool
 | [] => true
 | .code .ret :: _ => true
 | _ => false
theorem atEnd_ok {l : List Item} (h : atEnd l = true) : l = [] ∨ ∃ rest, l = .code .ret :: rest := by
 unfold atEnd at h
 split at h
 ·exact .inl rfl
 ·exact .inr ⟨_, rfl⟩
 ·simp at h
def closedL (ids : List Nat) : List (Nat × List T) → List Prop
 | [] => []
 | (_, cs) :: l => (subN (idsL cs) ids = true) :: closedL ids l
theorem closedL_ok {ids : List Nat} : ∀ {H : List (Nat × List T)}, AllP (closedL ids H) → ∀ id cs, look H id = some cs → ∀ i ∈ idsL cs, i ∈ ids
 | [], _, id, cs, h => by simp [look] at h
 | (j, c) :: l, hp, id, cs, h => by
  cases hp with
  | cons h1 h2 =>
   simp only [look] at h
   split at h
   ·injection h with h; subst h; exact subN_spec h1
   ·exact closedL_ok h2 id cs h
theorem Go.lvx {fn : Func} {L : List (Nat × T)} {H : List (Nat × List T)} {R : T} {H' : List (Nat × List T)} (n : Nat) (ids : List Nat) (cs : List Prop) (vs : List T) (hfn : E.P.funcs[f]? = some fn) (hk : k = k0) (he : atEnd (normI n k0) = true)
  (hr : resX E (stL L H) fn.results.toList = some (cs, vs)) (hc : AllP cs) (hR : T.Le (tupT vs) R) (hH : keepL H ids = H') (hi : subN R.ids (H'.map (·.1)) = true) (hw : AllP (closedL (H'.map (·.1)) H')) : Go E Γ f N S (PostR Γ R H') k (stL L H) := by
 subst hk; subst hH
 refine Go.norm n ?_
 intro h1 h2 h3 a w ⟨β, hs⟩ cs' b hb hkd
 have hres := resX_ok hr hc
 obtain ⟨x, e1, e2, e3⟩ := results_run h1 hs hres
 have e2' := hR.1 _ _ _ _ e2
 have how : ∀ c, own (retSt R (look (keepL H ids))) β c → own (stL L H) β c := fun c ⟨id, cs, o, E', q1, q2⟩ => ⟨id, cs, o, E', look_keepL H ids id cs q1, q2⟩
 have hok : ∀ g c, okOf Γ.X (stL L H) β w g c → okOf Γ.X (retSt R (look (keepL H ids))) β w g c ∧ w.heap[c]? = w.heap[c]? := fun g c hc => ⟨⟨hc.1, fun ho => hc.2.1 (how c ho), hc.2.2⟩, rfl⟩
 have hpost : PostR Γ R (keepL H ids) x w := by
  intro _
  refine ⟨β, rfl, rfl, hs.keeps, fun t y e => ?_, fun id cs e => (hs.obj id cs (look_keepL H ids id cs e)).mono hok (fun _ _ _ _ => rfl) (fun _ _ => rfl),
   fun i1 i2 c1 c2 b1 o1 E1 o2 E2 q1 q2 => hs.inj i1 i2 c1 c2 b1 o1 E1 o2 E2 (look_keepL H ids _ _ q1) (look_keepL H ids _ _ q2), fun c hc => hs.ownb c (how c hc), fun t y e => ?_, fun id cs e i hi => look_of_mem (closedL_ok hw id cs e i hi), hs.stab⟩
  ·simp only [retSt] at e
   split at e
   ·rename_i ht; subst ht; injection e with e; subst e
    exact ⟨x, rfl, Rep.mono hok _ β β x (fun _ _ => rfl) e2'⟩
   ·simp at e
  ·simp only [retSt] at e
   split at e
   ·injection e with e; subst e; exact fun i hi' => look_of_mem (subN_spec hi i hi')
   ·simp at e
 cases hrd : Γ.rd with
 | none =>
  have hro : b.roundOf = none := hkd.2.trans hrd
  rcases atEnd_ok he with he | ⟨rest, he⟩ <;> rw [he]
  ·exact ⟨x, w, _, hpost, .one (stepR_end hro), hb, rfl, hs.defers, hkd.1, fn, by simpa [Frame.atR, hb] using hfn, e1⟩
  ·exact ⟨x, w, _, hpost, .one (stepR_ret hro), hb, rfl, hs.defers, hkd.1, fn, by simpa [Frame.atR, hb] using hfn, e1⟩
 | some l =>
  have hro : b.roundOf = some l := hkd.2.trans hrd
  rcases atEnd_ok he with he | ⟨rest, he⟩ <;> rw [he]
  ·exact ⟨.bool true, w, _, fun e => (by rw [hrd] at e; cases e), .refl _ _, hb, b, a, [], rfl, hro, hkd.1, .inl ⟨rfl, rfl⟩⟩
  ·exact ⟨.bool false, w, _, fun e => (by rw [hrd] at e; cases e), .refl _ _, hb, b, a, _, rfl, hro, hkd.1, .inr ⟨_, rfl, rfl⟩⟩
theorem Meets.enterX {α : Type} {enc : α → T × List (Nat × List T)} {x : α} {fn : Func} {c : Code} {A : List T} {H : List (Nat × List T)} (hfn : E.P.funcs[f]? = some fn) (hcall : ∀ args w, (callFunc f args).run E.P w = .ok (.enter f args) w) (hbody : fn.body = some c) (hN : max A.length fn.ntmps = N)
  (h : ∀ (Γ : Cx) (k : List Item), k = [.code c] → Go E Γ f N S (PostX Γ enc x) k (stL (idxL 0 A) H)) : Meets E.P f A H S (enc x).1 (enc x).2 :=
 Meets.enter hfn hcall hbody hN h
theorem Meets.enterRd {α : Type} {enc : α → T × List (Nat × List T)} {x : α} {fn : Func} {c : Code} {A : List T} {H : List (Nat × List T)} (hfn : E.P.funcs[f]? = some fn) (hcall : ∀ args w, (callFunc f args).run E.P w = .ok (.enter f args) w) (hbody : fn.body = some c) (hN : max A.length fn.ntmps = N)
  (h : ∀ (Γ : Cx) (k : List Item), Γ.rd = none → k = [.code c] → Go E Γ f N S (PostX Γ enc x) k (stL (idxL 0 A) H)) : Meets E.P f A H S (enc x).1 (enc x).2 :=
 Meets.enterN hfn hcall hbody hN h
theorem Go.back {k1 : List Item} (n : Nat) (hk : k = k0) (he : normI n k0 = k1) (H : ∀ k', k' = k1 → Go E Γ f N S Post k' σ) : Go E Γ f N S Post k σ := by
 subst hk; subst he
 exact Go.norm n (H _ rfl)
end
theorem Meets.eqA {P : Program} {f : FuncId} {A B : List T} {H H' : List (Nat × List T)} {S : List Nat} {R : T} (h : A = B) (hM : Meets P f B H S R H') : Meets P f A H S R H' := h ▸ hM
theorem Go.frz {E : Env} {Γ : Cx} {f : FuncId} {N : Nat} {S : List Nat} {Post : Value → World → Prop} {k : List Item} {L : List (Nat × T)} {H : List (Nat × List T)} (ps pg : List Nat) (t i : Nat) {m o n : Nat} {cs : List T} (new : List T) (cds : List Prop) (L' : List (Nat × T)) (H' : List (Nat × List T))
  (ht : look L t = some (.ref i m o n)) (hi : look H i = some cs) (hc : idsL cs = []) (hl : o + n * m ≤ cs.length) (hn : sub cs o (n * m) = new) (hx : drpX ps pg [i] L H = (cds, L', H')) (hp : AllP cds)
  (hg : Go E Γ f N S Post k (stL (ins t (.sl m .shr n new) L') H')) : Go E Γ f N S Post k (stL L H) :=
 fun h1 h2 h3 a w ⟨β, hsb⟩ => hg h1 h2 h3 a w ⟨β, by
  have := hsb.frz (t := t) (i := i) ht hi hc hl
  have e := drpX_eq (ps := ps) (pg := pg) [i] L H (by rw [hx]; exact hp)
  rw [hx] at e
  simp only [St.drops] at e
  rw [e, hn] at this
  simpa only [stL, look_ins] using this⟩
theorem Meets.frz {P : Program} {f : FuncId} {A : List T} {H : List (Nat × List T)} {S : List Nat} {d m n : Nat} {cs : List T} (hM : Meets P f A H S (.ref d m 0 n) [(d, cs)]) (hS : S = []) (hc : idsL cs = []) (hl : cs.length = n * m) : Meets P f A H S (.sl m .shr n cs) [] := by
 refine fun Γ β vs hP hS' hn hvl hβ hlent hs => ?_
 refine (hM Γ β vs hP hS' hn hvl hβ hlent hs).mono ?_
 rintro v w' ⟨β', h⟩
 refine ⟨β', ?_⟩
 have := h.frz (t := 0) (i := d) (m := m) (o := 0) (n := n) (cs := cs) rfl (by simp [retSt, look]) hc (by omega)
 have e : sub cs 0 (n * m) = cs := by simp [sub, ← hl]
 rw [e] at this
 have e2 : (⟨upd ((retSt (.ref d m 0 n) (look [(d, cs)])).drop d).s 0 (some (.sl m .shr n cs)), ((retSt (.ref d m 0 n) (look [(d, cs)])).drop d).h⟩ : St) = retSt (.sl m .shr n cs) (look []) := by
  refine St.ext' (fun t => ?_) (fun j => ?_)
  ·simp only [retSt, upd, St.drop]; split <;> simp_all
  ·simp only [retSt, St.drop, look]; split <;> simp_all [Ne.symm]
 rw [← e2]; exact this
end Go.Vw
namespace Go.Vw
open Go Go.RowKit
abbrev tb (b : Bool) : T := .leaf (.bool b)
abbrev ti (n : Int) : T := .leaf (.int .i64 n)
abbrev t8 (n : UInt8) : T := .leaf (.int .u8 (n.toNat : Int))
abbrev t32 (n : UInt32) : T := .leaf (.int .u32 (n.toNat : Int))
abbrev t64 (n : UInt64) : T := .leaf (.int .u64 (n.toNat : Int))
abbrev ts (l : List UInt8) : T := .leaf (.string (sOf l))
theorem eb {a b : Bool} (h : a = b) : tb a = tb b := by rw [h]
inductive Lo (α β : Type) where
 | brk (a : α)
 | ret (b : β)
def Lo.el {α β : Type} (x : Lo α β) (k : α → β) : β := match x with | .brk a => k a | .ret b => b
theorem condT {α : Type} {e : Bool} {a b : α} (h : e = true) : _root_.cond e a b = a := by rw [h]; rfl
theorem condF {α : Type} {e : Bool} {a b : α} (h : e = false) : _root_.cond e a b = b := by rw [h]; rfl
theorem andT {a x v : Bool} (h : a = true) (k : x = v) : (a && x) = v := by rw [h, k]; rfl
theorem andF {a x : Bool} (h : a = false) : (a && x) = false := by rw [h]; rfl
theorem orT {a x : Bool} (h : a = true) : (a || x) = true := by rw [h]; rfl
theorem orF {a x v : Bool} (h : a = false) (k : x = v) : (a || x) = v := by rw [h, k]; rfl
theorem notT {a : Bool} (h : a = true) : (!a) = false := by rw [h]; rfl
theorem notF {a : Bool} (h : a = false) : (!a) = true := by rw [h]; rfl
theorem iw (x : Int) (h : -9223372036854775808 ≤ x ∧ x < 9223372036854775808) : ti (IntKind.i64.wrap x) = ti x := by
 congr 2
 simp only [IntKind.wrap, IntKind.bits, IntKind.signed, Bool.true_and]
 have e : (2 : Int) ^ 64 = 18446744073709551616 := by decide
 have e2 : (2 : Int) ^ (64 - 1) = 9223372036854775808 := by decide
 simp only [e, e2]
 split <;> simp_all <;> omega
theorem wrap8 (x : Int) : IntKind.u8.wrap x = x % 256 := by
 simp only [IntKind.wrap, IntKind.bits, IntKind.signed, Bool.false_and, Bool.false_eq_true, if_false]; rfl
theorem wrap32' (x : Int) : IntKind.u32.wrap x = x % 4294967296 := by
 simp only [IntKind.wrap, IntKind.bits, IntKind.signed, Bool.false_and, Bool.false_eq_true, if_false]; rfl
theorem wrap64' (x : Int) : IntKind.u64.wrap x = x % 18446744073709551616 := by
 simp only [IntKind.wrap, IntKind.bits, IntKind.signed, Bool.false_and, Bool.false_eq_true, if_false]; rfl
def u8i (n : Int) : UInt8 := UInt8.ofNat (n % 256).toNat
def u64i (n : Int) : UInt64 := UInt64.ofNat (n % 18446744073709551616).toNat
end Go.Vw

import Derived.Test.YtbppcnhfeobefaaDoorEnVy0
import Derived.Test.YtbppcnhfeobefaaDoorEnVx8
set_option linter.unusedVariables false
namespace Go.Vw
open Go Go.RowKit
variable {α : Type} {g : α → List T} {m : Nat}
end Go.Vw
namespace Go.Vw
open Go Go.RowKit
variable {α : Type} {g : α → List T} {m : Nat}
theorem zb_le : ∀ n : Nat, LeL (zerosT [.slice none 0 0] n) (b8s .shr (List.replicate n []))
 | 0 => by rw [zerosT]; exact .nil
 | n + 1 => by
  rw [zerosT, List.replicate_succ]
  exact .cons (T.Le.nil _ _) (zb_le n)
end Go.Vw
namespace Go.Vw
open Go Go.RowKit
theorem zb_leC (n : Nat) : LeC (zerosT [.slice none 0 0] n) (b8s .shr (List.replicate n [])) :=
 ⟨(zb_le n).rep.1, (zb_le n).rep.2, by rw [zerosT_length, List.length_map, List.length_replicate]; simp⟩
def BackOk (P : Program) (gf : FuncId) (m : Nat) : Prop :=
 ∀ (l Bs os b off len cap : Nat) (ad : Option Addr) (vs : List Value) (J Jx : Nat → World → Prop), (len = 0 ∨ ad = some ⟨b, off, none⟩) → vs.length = len * m → len ≤ 140737488351232 → len ≤ cap → (∀ k W, J k W → J k W.drew) →
  (∀ k W, J k W → W.cell? ⟨Bs, os, none⟩ = some (.slice ad len cap) ∧ ∀ t v, vs[t]? = some v → W.cell? ⟨b, off + t, none⟩ = some v) →
  (∀ k W, k < len → J k W → YieldAt Fence.wide 0 P l #[.int .i64 ((len - 1 - k : Nat) : Int), .agg (vs.toArray.extract ((len - 1 - k) * m) ((len - 1 - k) * m + m))] W fun e W' => (e = .returned (.bool true) ∧ J (k + 1) W') ∨ (e = .returned (.bool false) ∧ Jx (k + 1) W')) →
  ∀ W, J 0 W → CallsIn Fence.wide 0 P gf #[.func (.yield l) #[] #[], .pointer (some ⟨Bs, os, none⟩)] W fun e W' => (∃ v, e = .returned v) ∧ (J len W' ∨ ∃ k, k ≤ len ∧ Jx k W')
def asgAl : Code → Option (Nat × Nat × TypeId)
 | .region _ ops dr =>
  match ops.toList, dr with
  | [o1, o2], false =>
   match o1.dst, o1.op, o1.guard, o2.dst, o2.op, o2.guard with
   | some d, .alloc ty, none, none, .store ty2 (.tmp d2) (.tmp p), none => condO (Nat.beq d d2 && Nat.beq ty ty2) (d, p, ty)
   | _, _, _, _, _, _ => none
  | _, _ => none
 | _ => none
where condO (b : Bool) (x : Nat × Nat × TypeId) : Option (Nat × Nat × TypeId) := match b with | true => some x | false => none
theorem asgAl_ok {asg : Code} {d p : Nat} {ty : TypeId} (h : asgAl asg = some (d, p, ty)) : ∃ id o1 o2, asg = .region id #[o1, o2] false ∧ o1.dst = some d ∧ o1.op = .alloc ty ∧ o1.guard = none ∧ o2.dst = none ∧ o2.op = .store ty (.tmp d) (.tmp p) ∧ o2.guard = none := by
 unfold asgAl at h
 split at h
 ·rename_i id ops dr
  split at h
  ·rename_i o1 o2 e
   split at h
   ·rename_i d' ty' ty2 d2 p' e1 e2 e3 e4 e5 e6
    unfold asgAl.condO at h
    split at h
    ·rename_i hb
     simp only [Bool.and_eq_true, Nat.beq_eq] at hb
     obtain ⟨hb1, hb2⟩ := hb
     simp only [Option.some.injEq, Prod.mk.injEq] at h
     obtain ⟨rfl, rfl, rfl⟩ := h
     have hb2 : ty' = ty2 := hb2
     subst hb1; subst hb2
     exact ⟨id, o1, o2, by cases ops; simp_all, e1, e2, e3, e4, e5, e6⟩
    ·simp at h
   ·simp at h
  ·simp at h
 ·simp at h
def putPt (d p : Nat) (L : List (Nat × T)) : List (Nat × T) := match look L p with | some (.agg cs) => (d, .pt .shr 0 cs) :: L | _ => L
def isAggL (p n : Nat) (L : List (Nat × T)) : Prop := ∃ cs, look L p = some (.agg cs) ∧ idsL cs = [] ∧ scalL cs = true ∧ cs.length = n
theorem asgOk_alloc {P : Program} {asg : Code} {d p N : Nat} {ty : TypeId} {i : TI} (has : asgAl asg = some (d, p, ty)) (ht : TOk P ty i) (hd : Nat.blt d N = true) (hdp : Nat.beq p d = false) : AsgOk P asg (putPt d p) (isAggL p i.size) N := by
 obtain ⟨idr, o1, o2, rfl, a1, a2, a3, b1, b2, b3⟩ := asgAl_ok has
 have hd : d < N := by simpa [Nat.blt_eq] using hd
 have hdp : p ≠ d := fun e => by rw [e] at hdp; simp at hdp
 rintro Γ σ β a W L tm1 bf cs k hP hs hr hn ⟨c, hl, hids, hsc, hlen⟩
 obtain ⟨j, h1, h2, h3, z, h4, h5⟩ := ht.info
 obtain ⟨v, hv, hrep⟩ := hr p _ hl
 simp only [Rep] at hrep
 obtain ⟨vs, rfl, hvs⟩ := hrep
 have hvl := hvs.length
 have hone := hvs.one hsc
 obtain ⟨W1, hW1⟩ : ∃ W1, W.alloc (.cells z.cells ty) = W1 := ⟨_, rfl⟩
 have hzs : z.cells.size = i.size := by rw [h5, List.size_toArray, ht.zlen]
 have hW1n : W1.heap[W.heap.size]? = some (.cells z.cells ty) := by rw [← hW1]; exact World.alloc_heap_new W _
 have hW1o : ∀ b, b < W.heap.size → W1.heap[b]? = W.heap[b]? := fun b hb => by rw [← hW1]; exact Below.heap_alloc _ _ _ hb
 have hW1s : W1.heap.size = W.heap.size + 1 := by rw [← hW1]; simp
 have hex : ∀ j, j < vs.length → (W1.cell? ⟨W.heap.size, 0 + j, none⟩).isSome = true := fun j hj => by simp [World.cell?, hW1n]; omega
 have hfr : ∀ j, j < vs.length → W1.frozen? ⟨W.heap.size, 0 + j, none⟩ = false := fun j hj => by
  have : NoFrost W1 W.heap.size vs.length := fun c e lo hi h => by rw [hW1n] at h; injection h with h; injection h with _ _ h; injection h with q1 q2; exact .inl (by omega)
  rw [Nat.zero_add]; exact this.get hj
 have hst := run_storeCells_cells (P := P) W.heap.size 0 vs 0 W1 (by simpa using hex) (by simpa using hfr) hone
 simp only [Nat.add_zero] at hst
 obtain ⟨W2, hW2⟩ : ∃ W2, W1.setCells W.heap.size 0 vs = W2 := ⟨_, rfl⟩
 rw [hW2] at hst
 have hk1 : Keeps (fun _ => False) W W1 := by rw [← hW1]; exact Keeps.alloc _ _ _
 have hk2 : Keeps (fun x => x = W.heap.size) W1 W2 := by rw [← hW2]; exact keeps_setCells _ _ _ _
 have hk : Keeps (fun _ => False) W W2 := hk1.trans hk2 (fun b hb e => by omega)
 have hs2 := hs.grow hk
 have hok : ∀ g b, okOf Γ.X σ β W g b → okOf Γ.X σ β W2 g b ∧ W2.heap[b]? = W.heap[b]? := fun g b h => ⟨⟨Nat.lt_of_lt_of_le h.1 hk.size, h.2⟩, hk.block b h.1 (by simp)⟩
 have hnew : okOf Γ.X σ β W2 .shr W.heap.size := by
  refine ⟨?_, fun ho => ?_, fun hX => ?_⟩
  ·have := hk2.size; omega
  ·have := (hs.ownb _ ho).1; omega
  ·have := (hs.noX hX).1; omega
 have hcells : CellsAt W2 W.heap.size 0 vs := fun j v hj => by
  have hj' := (List.getElem?_eq_some_iff.1 hj).1
  have := World.cell?_setCells_in W.heap.size vs 0 W1 (fun j hj => by simpa using hex j hj) j hj'
  rw [← hW2, this]
  obtain ⟨_, h8⟩ := List.getElem?_eq_some_iff.1 hj
  simp [h8]
 refine ⟨W2, tm1.setIfInBounds d (.pointer (some ⟨W.heap.size, 0, none⟩)), hk, ?_, by simp [hn], ?_⟩
 ·have hF : putPt d p L = (d, .pt .shr 0 c) :: L := by unfold putPt; rw [hl]
  rw [hF]
  have hr2 : RepS W2 (okOf Γ.X σ β W2) β L tm1 := fun t x e => by
   obtain ⟨v, q1, q2⟩ := hr t x e
   exact ⟨v, q1, Rep.mono hok x β β v (fun _ _ => rfl) q2⟩
  refine hr2.put (by rw [hn]; exact hd) ?_
  simp only [Rep]
  exact ⟨hids, W.heap.size, 0, rfl, hnew, RepAt.shut ((RepL.mono hok c β β vs (fun _ _ => rfl) hvs).sealed hids) hcells⟩
 ·refine .head stepR_region ?_
  have hz := ht.size W1
  obtain ⟨a', w', hr', st⟩ := region_steps (P := P) (w := W) (R := fun a' w' => a' = ⟨tm1.setIfInBounds d (.pointer (some ⟨W.heap.size, 0, none⟩)), []⟩ ∧ w' = W2) (ops := #[o1, o2]) (l := [0, 1]) (a := ⟨tm1, []⟩)
   (by intro o' ho' c'; simp at ho'; rcases ho' with rfl | rfl <;> simp [a2, b2])
   (by
    simp only [wpOps, List.getElem?_toArray, List.getElem?_cons_zero, List.getElem?_cons_succ, Region.wanted, a3, if_true]
    refine .inl ?_
    unfold Oper.wp
    have e1 : (execOp (Act.eval ⟨tm1, []⟩) o1).run P W = .ok (.value (.pointer (some ⟨W.heap.size, 0, none⟩))) W1 := by
     simp only [execOp, a2]
     refine run_v ?_
     rw [← hW1]
     simp [Instr.alloc, zeroValue, typeInfo, h1, h4, newVar, newRow]
    rw [e1, Oper.upon_value, a1]
    simp only [Region.wanted, b3, if_true]
    refine .inl ?_
    have hpv : (Act.put ⟨tm1, []⟩ (some d) (.pointer (some ⟨W.heap.size, 0, none⟩))).eval (.tmp p) = .agg vs.toArray := by
     simp only [Act.put, Act.eval, Array.getD_eq_getD_getElem?]
     rw [Array.getElem?_setIfInBounds_ne (Ne.symm hdp), hv]; rfl
    have hpd : (Act.put ⟨tm1, []⟩ (some d) (.pointer (some ⟨W.heap.size, 0, none⟩))).eval (.tmp d) = .pointer (some ⟨W.heap.size, 0, none⟩) := by
     simp only [Act.put, Act.eval, Array.getD_eq_getD_getElem?]
     rw [Array.getElem?_setIfInBounds_self_of_lt (by rw [hn]; exact hd)]; rfl
    have e2 : (execOp (Act.eval (Act.put ⟨tm1, []⟩ (some d) (.pointer (some ⟨W.heap.size, 0, none⟩)))) o2).run P W1 = .ok .skip W2 := by
     simp only [execOp, b2, Instr.storeAt, hpd, hpv, Instr.sureAddr, storeVar, Sem.run_bind, Sem.run_pure, Result.andThen_ok, hz]
     have : (Value.agg vs.toArray).cells.size = i.size := by simp [Value.cells]; omega
     simp [Value.cells] at this ⊢
     simp [hvl, hlen, hst]
    rw [e2, Oper.upon_skip, b1]
    exact ⟨trivial, rfl, rfl⟩) bf k cs
  obtain ⟨rfl, rfl⟩ := hr'
  exact st
def isK : K → Bool | .no => false | _ => true
theorem kNe {k : K} (h : isK k = true) : k ≠ .no := fun e => by rw [e] at h; cases h
section
variable {γ δ α ε : Type} {E : Env} {Γ : Cx} {f : FuncId} {N : Nat} {S : List Nat} {k k0 rest : List Item} {enc : α → T × List (Nat × List T)} {L : List (Nat × T)} {Hr : List (Nat × List T)} {z0 : γ}
 {p1 p2 : Nat} {asg body : Code} {g : Nat} {gf : FuncId}
set_option maxHeartbeats 1000000 in
theorem Go.rangeBack (m ib iw em : Nat) (F : List (Nat × T) → List (Nat × T)) (G : List (Nat × T) → Prop) (ge : ε → List T) (d0 : ε) (hgl : ∀ x, (ge x).length = em) (s : List ε) (bd : Nat → γ → γ ⊕ δ) (e1 : γ → List (Nat × List T)) (e2 : δ → List (Nat × List T)) (I : Nat → γ → Prop) (ns Sb D K1 K2 : List Nat) (A : Int → List T → List T) (X1 : γ → α) (X2 : δ → α)
  (hC : BackOk E.P gf em) (hlen : s.length ≤ 140737488351232) (hib : look Hr ib = some [.ref iw em 0 s.length]) (hiw : look Hr iw = some (fl ge s))
  (hrd : Γ.rd = none) (hk : k = k0) (he : normI m k0 = .code (.rangeFunc (.tmp g) #[p1, p2] asg body) :: rest)
  (hg : look L g = some (.fn (.func gf) [] [.addr ib 0])) (heg : ∀ args w, (callFunc gf args).run E.P w = .ok (.enter gf args) w) (has : AsgOk E.P asg F G N)
  (hps : (Nat.blt p1 N && Nat.blt p2 N) = true) (hG : ∀ (i : Int) x, G ((p2, .agg (ge x)) :: (p1, .leaf (.int .i64 i)) :: L))
  (hK1 : ∀ z, (e1 z).map (·.1) = K1) (hK2 : ∀ d, (e2 d).map (·.1) = K2) (hD : K1.filter (fun i => !Sb.contains i) = D) (hchk : chkK S Sb [ib, iw] K1 K2 (Hr.map (·.1)) = true)
  (hon1 : ∀ z, once (e1 z) = true) (hon2 : ∀ d, once (e2 d) = true) (hL : AllP (offL D L)) (hH : AllP (offH D Hr)) (hcl : ∀ z, AllP (closedL K1 (e1 z)))
  (hA : ∀ (i : Int) (p : List T), selL N ns (F ((p2, .agg p) :: (p1, .leaf (.int .i64 i)) :: L)) = A i p) (hAi : ∀ i x, subN (idsL (A i (ge x))) K1 = true) (h0 : I 0 z0)
  (hb : ∀ k z, k < s.length → I k z → RoundM E.P f body (A ((s.length - 1 - k : Nat) : Int) (ge (s.getD (s.length - 1 - k) d0))) (e1 z) Sb (rdB (bd k z)) (rdH e1 e2 (bd k z)))
  (hI : ∀ k z z', k < s.length → I k z → bd k z = .inl z' → I (k + 1) z')
  (h1 : ∀ z, I s.length z → ∀ (Γ' : Cx) (k' : List Item), Γ'.rd = none → k' = rest → Go E Γ' f N S (PostX Γ' enc (X1 z)) k' (stL L (Hr ++ e1 z)))
  (h2 : ∀ d, rng bd s.length 0 z0 = .inr d → ∀ (Γ' : Cx) (k' : List Item), Γ'.rd = none → k' = .code .ret :: rest → Go E Γ' f N S (PostX Γ' enc (X2 d)) k' (stL L (Hr ++ e2 d))) :
  Go E Γ f N S (PostX Γ enc (rngE X1 X2 (rng bd s.length 0 z0))) k (stL L (Hr ++ e1 z0)) := by
 have hHr : ∀ {i : Nat} {t : List T} (H2 : List (Nat × List T)), look Hr i = some t → (stL L (Hr ++ H2)).h i = some t := fun H2 h => by show look (Hr ++ H2) _ = _; rw [look_app, h]
 refine Go.rangeA m F G bd e1 e2 I s.length (fun k => [.leaf (.int .i64 ((s.length - 1 - k : Nat) : Int)), .agg (ge (s.getD (s.length - 1 - k) d0))]) ns Sb [ib, iw] D K1 K2 X1 X2 hrd hk he hg heg has (by simpa using hps) (fun k _ => hG _ _) ?_ hK1 hK2 hD hchk hon1 hon2 hL hH hcl
  (fun k => by show subN (idsL (selL N ns (F ((p2, .agg (ge (s.getD (s.length - 1 - k) d0))) :: (p1, .leaf (.int .i64 ((s.length - 1 - k : Nat) : Int))) :: L)))) K1 = true; rw [hA]; exact hAi _ _) h0
  (fun k z hk hi => by show RoundM E.P f body (selL N ns (F ((p2, .agg (ge (s.getD (s.length - 1 - k) d0))) :: (p1, .leaf (.int .i64 ((s.length - 1 - k : Nat) : Int))) :: L))) _ _ _ _; rw [hA]; exact hb k z hk hi) hI h1 h2
 intro Γ' β' a' W hP hs lb hlb
 simp only [RepL] at hlb
 obtain ⟨v1, _, rfl, r1, rfl⟩ := hlb
 obtain ⟨B1, o1, E1, x1, b1, rfl, c1, t1⟩ := box_open hs (hHr _ hib) r1
 simp only [Rep] at t1
 have key : ∃ (b off cap : Nat) (ad : Option Addr) (vs : List Value), x1 = .slice ad s.length cap ∧ (s.length = 0 ∨ ad = some ⟨b, off, none⟩) ∧ vs.length = s.length * em ∧ s.length ≤ cap ∧
   (∀ W2 : World, (∀ b, RB [ib, iw] β' b → W2.heap[b]? = W.heap[b]?) → ∀ t v, vs[t]? = some v → W2.cell? ⟨b, off + t, none⟩ = some v) ∧
   (s.length = 0 ∨ ∃ Eb, β' iw = .real b off Eb) := by
  cases hb : β' iw with
  | ph =>
   rw [hb] at t1
   obtain ⟨_, h0, a, rfl⟩ := t1
   exact ⟨0, 0, 0, a, [], by rw [h0], .inl h0, by simp [h0], by omega, fun _ _ t v h => by simp at h, .inl h0⟩
  | real b off Eb =>
   rw [hb] at t1
   obtain ⟨a, cap, rfl, hnc, _, hor⟩ := t1
   obtain ⟨c, el, fr, vs, q1, q2, q3, q4, q5, q6⟩ := obj_open hs (hHr (e1 z0) hiw) hb
   refine ⟨b, off, cap, a, vs, rfl, ?_, by rw [q5.length, fl_len hgl], hnc, fun W2 hW t v ht => ?_, .inr ⟨Eb, rfl⟩⟩
   ·rcases hor with h | h
    ·exact .inl (by omega)
    ·exact .inr (by simpa using h)
   ·exact (World.cell?_of_block (hW b ⟨iw, by simp, off, Eb, hb⟩)).trans (q6 t v ht)
 obtain ⟨b, off, cap, ad, vs, rfl, hor, hvl, hcap, hcells, hreal⟩ := key
 refine ⟨fun k => [.int .i64 ((s.length - 1 - k : Nat) : Int), .agg (vs.toArray.extract ((s.length - 1 - k) * em) ((s.length - 1 - k) * em + em))], ?_, fun _ => rfl, ?_⟩
 ·intro l J Jx W1 hRd hJd hJxd h0 hY
  refine hC l B1 o1 b off s.length cap ad vs J Jx hor hvl hlen hcap hJd (fun k W2 hJ => ?_) (fun k W2 hk hJ => hY k W2 hk hJ) W1 h0
  have := hRd k W2 hJ
  exact ⟨(World.cell?_of_block (this B1 ⟨ib, by simp, o1, E1, b1⟩)).trans c1, hcells W2 this⟩
 ·intro k hk z Γ2 β2 a2 W2 hs2 hβ hRB
  obtain ⟨Eb, hreal⟩ := hreal.resolve_left (by omega)
  have hiw2 : β2 iw = .real b off Eb := (hβ iw (by simp)).trans hreal
  obtain ⟨c', el, fr, vs2, q1, q2, q3, q4, q5, q6⟩ := obj_open hs2 (hHr (e1 z) hiw) hiw2
  have hv2 : vs2 = vs := by
   refine List.ext_getElem? fun t => ?_
   by_cases ht : t < s.length * em
   ·have hA' : vs2[t]? = some (vs2[t]'(by rw [q5.length, fl_len hgl]; exact ht)) := List.getElem?_eq_getElem _
    have hB' : vs[t]? = some (vs[t]'(by rw [hvl]; exact ht)) := List.getElem?_eq_getElem _
    have h1 := q6 t _ hA'
    have h2 := hcells W2 hRB t _ hB'
    rw [h1] at h2
    rw [hA', hB', Option.some.inj h2]
   ·rw [List.getElem?_eq_none (by rw [q5.length, fl_len hgl]; omega), List.getElem?_eq_none (by omega)]
  subst hv2
  have hx := q5.extract ((s.length - 1 - k) * em) em
  rw [fl_at hgl s (by omega) d0] at hx
  simp only [RepL, Rep]
  exact ⟨_, _, rfl, rfl, _, _, rfl, ⟨_, by simp, hx⟩, rfl⟩
end
end Go.Vw

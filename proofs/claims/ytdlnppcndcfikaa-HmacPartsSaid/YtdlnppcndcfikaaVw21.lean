/- append of a slice that is made there: so many zeros. -/
import Derived.Test.YtdlnppcndcfikaaVw20
namespace Go.Vw
set_option linter.unusedVariables false
set_option linter.unusedSimpArgs false
open Go Go.RowKit
section
variable {P : Program} {o : Oper} {ev : Operand → Option T} {h : Nat → Option (List T)} {reads : List Nat}
theorem run_append_make {t u ty el : TypeId} {i' : TI} {kk k' : IntKind} (ht : P.underlying t = some (.slice el)) (hu : P.underlying u = some (.int kk)) (he : TOk P el i') (hzl : i'.zero.length = i'.size) {ad : Option Addr} {n : Int} {w : World}
    (h0 : 0 ≤ n) (hb : n * i'.bytes ≤ 140737488355328) (hp : 0 < i'.bytes) :
    (n = 0 ∧ (Builtin.append_ #[t, u] ty #[.slice ad 0 0, .int k' n]).run P w = .ok (.slice ad 0 0) w) ∨
    (0 < n ∧ ∃ C, n.toNat ≤ C ∧ (Builtin.append_ #[t, u] ty #[.slice ad 0 0, .int k' n]).run P w = .ok (.slice (some ⟨w.heap.size, 0, none⟩) n.toNat C) (w.drew.alloc (.cells ((Builtin.zeroCells i'.zero.toArray n.toNat) ++ Builtin.zeroCells i'.zero.toArray (C - n.toNat)) el))) := by
  obtain ⟨j, q1, q2, q3, z, q4, q5⟩ := he.info
  have hz : ∀ w : World, (sizeOf el).run P w = .ok i'.size w := he.size
  have hn63 : n ≤ 140737488355328 := by
    have : n * 1 ≤ n * i'.bytes := Int.mul_le_mul_of_nonneg_left (by omega) h0
    omega
  have wn : IntKind.i64.wrap n = n := by simp [IntKind.wrap, IntKind.bits, IntKind.signed]; omega
  have h48 : ¬ (281474976710656 < n * (i'.bytes : Int)) := by omega
  have hneg : ¬ n < 0 := by omega
  by_cases c : n = 0
  · subst c
    left
    refine ⟨rfl, ?_⟩
    cases ad with
    | none => simp [Builtin.append_, run_underlying ht, run_underlying hu, sizeOf, typeInfo, q1, q2, q3, asInt, asIntOf, wn]
    | some a => simp [Builtin.append_, run_underlying ht, run_underlying hu, sizeOf, typeInfo, q1, q2, q3, asInt, asIntOf, wn, storeCells]
  · right
    refine ⟨by omega, grownCap w n.toNat 0 el, grownCap_ge w n.toNat 0 el, ?_⟩
    have hfit := growslice_fits (need := n.toNat) (old := 0) (bytes := i'.bytes) (by omega) (by
      have : ((n.toNat * i'.bytes : Nat) : Int) ≤ 140737488355328 := by rw [Int.natCast_mul, Int.toNat_of_nonneg h0]; exact hb
      omega)
    have h48' : ¬ (281474976710656 < Builtin.nextslicecap n.toNat 0 * i'.bytes) := by omega
    have hnn : ¬ n.toNat ≤ 0 := by omega
    have h63' : ¬ (9223372036854775807 < ((n.toNat : Nat) : Int)) := by omega
    have hold : (Builtin.firstCells i'.size 0 (.slice ad 0 0)).run P w.drew = .ok #[] w.drew := by
      cases ad <;> simp [Builtin.firstCells, loadCells, loadCellsFrom]
    have ez : z.cells.size = i'.size := by rw [q5]; simpa using hzl
    have ez2 : z.cells = i'.zero.toArray := by rw [q5]
    have e0 : n.toNat * i'.size = 0 → Builtin.zeroCells i'.zero.toArray n.toNat = #[] := fun e => by
      simp [Builtin.zeroCells, hzl, e]
    have hint : ¬ n ≤ 0 := by omega
    have hmax : ¬ (9223372036854775807 < max n 0) := by omega
    have hmax2 : max n 0 ≤ 9223372036854775807 := by omega
    by_cases cz : n.toNat * i'.size = 0
    · rw [e0 cz]
      simp [Builtin.append_, run_underlying ht, run_underlying hu, sizeOf, typeInfo, zeroValue, q1, q2, q3, q4, asInt, asIntOf, wn, hneg, h48, h48', hnn, hint, h63', Question.forced, newRow, grownCap, hold, cz, ez2, c, hmax]
    · simp [Builtin.append_, run_underlying ht, run_underlying hu, sizeOf, typeInfo, zeroValue, q1, q2, q3, q4, asInt, asIntOf, wn, hneg, h48, h48', hnn, hint, h63', Question.forced, newRow, grownCap, hold, cz, ez2, c, hmax]
theorem acts_appendMake {t u el : TypeId} {x y : Operand} {d : Nat} {b0 : T} {k' kk : IntKind} {n : Int} {i i' : TI} (ho : o.op = .call { callee := .builtin .append, args := #[x, y], argTypes := #[t, u] }) (hx : ev x = some b0) (hb0 : b0 = .leaf (.slice none 0 0) ∨ b0 = .e0) (hy : ev y = some (.leaf (.int k' n)))
    (ht : TOk P t i) (hk : i.k = .slice el) (hu : ∃ j, TOk P u j ∧ j.k = .int kk) (he : TOk P el i') (hz : i'.zero.length = i'.size) (h0 : 0 ≤ n) (hb : n * i'.bytes ≤ 140737488355328) (hp : 0 < i'.bytes) (hd : d ∉ reads) :
    Acts P o ev h reads { val := .ref d i'.size 0 n.toNat, puts := [(d, zerosT i'.zero n.toNat)] } := by
  refine acts_of fun Γ σ β a w hP hev hh hn hs => ?_
  have hd' : σ.h d = none := (hn (d, zerosT i'.zero n.toNat) (by simp) (by simp)).2 hd
  have hdS := (hn (d, zerosT i'.zero n.toNat) (by simp) (by simp)).1
  have e1 : σ.ev x = some b0 := by rw [hev x (by simp [ho, Op.operands, Call.operands]), hx]
  have e2 : a.eval y = .int k' n := by simpa [Rep] using hs.ev (show σ.ev y = some (.leaf (.int k' n)) by rw [hev y (by simp [ho, Op.operands, Call.operands]), hy])
  obtain ⟨dd, h6, h7, _⟩ := ht.und
  rw [hk] at h7; simp only [kOk] at h7; subst h7
  obtain ⟨j, hj, hjk⟩ := hu
  obtain ⟨d2, h8, h9, _⟩ := hj.und
  rw [hjk] at h9; simp only [kOk] at h9; subst h9
  have hv : ∃ ad, a.eval x = .slice ad 0 0 := by
    have := hs.ev e1
    rcases hb0 with rfl | rfl
    · exact ⟨none, by simpa [Rep] using this⟩
    · simpa [Rep] using this
  obtain ⟨ad, hv⟩ := hv
  have hexec : ∀ r w', (Builtin.append_ #[t, u] o.type #[.slice ad 0 0, .int k' n]).run P w = .ok r w' → (execOp a.eval o).run P w = .ok (.value r) w' := fun r w' hr => by
    simp only [execOp, ho, resolve, Sem.run_bind, Sem.run_pure, Result.andThen_ok, invoke, builtin]
    simp [hv, e2, hr]
  have hlz := zerosT_length i'.zero n.toNat
  rw [hz] at hlz
  rcases run_append_make (ty := o.type) (ad := ad) (k' := k') (w := w) h6 h8 he hz h0 hb hp with ⟨g1, g2⟩ | ⟨g1, C, g2, g3⟩
  · subst g1
    have ez : zerosT i'.zero (Int.toNat 0) = [] := List.length_eq_zero_iff.1 (by rw [hlz]; simp)
    rw [ez]
    refine ⟨.slice ad 0 0, w, _, .inl (hexec _ _ g2), hs.phantom hd' hdS, ?_, by simp [T.ids, St.puts, St.drops, upd]⟩
    simp [Rep, reals]
  · have hrz : RepL w (okOf Γ.X σ β w) (zerosT i'.zero n.toNat) β (Builtin.zeroCells i'.zero.toArray n.toNat).toList := by
      have := RepL.zeros (w := w) (ok := okOf Γ.X σ β w) (β := β) i'.zero n.toNat
      simpa [Builtin.zeroCells] using this
    have hsim := hs.newRow (el := el) (z := i'.zero.toArray) (C := C) hd' hdS (by simpa using hz) g2 hlz hrz (by simp [idsL_zerosT])
    simp only [Array.toArray_toList] at hsim
    refine ⟨_, _, _, .inl (hexec _ _ g3), hsim, ?_, by simp [T.ids, St.puts, St.drops, upd]⟩
    simp only [Rep, reals, if_true]
    refine ⟨_, C, rfl, g2, by omega, .inr rfl⟩
end
end Go.Vw

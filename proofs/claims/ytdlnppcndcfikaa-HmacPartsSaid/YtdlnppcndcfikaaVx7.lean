/- Where ways meet; loops. -/
import Derived.Test.YtdlnppcndcfikaaVx6
namespace Go.Vw
set_option linter.unusedVariables false
set_option linter.unusedSimpArgs false
open Go Go.RowKit

section
variable {E : Env} {Γ : Cx} {f : FuncId} {N : Nat} {S : List Nat} {Post : Value → World → Prop} {k k0 rest : List Item} {σ : St}

/-- A region that several ways go through, all to one state. -/
theorem Go.regJ {id : Nat} {ops : Array Oper} {d : Bool} (n : Nat) (Lm : List (Nat × T)) (Hm : List (Nat × List T)) (hk : k = k0) (_he : normI n k0 = .code (.region id ops d) :: rest) (H1 : ∀ k', k' = rest → Go E Γ f N S Post k' (stL Lm Hm))
    (H2 : k = k0 → (∀ k', k' = rest → Go E Γ f N S Post k' (stL Lm Hm)) → Go E Γ f N S Post k σ) : Go E Γ f N S Post k σ := H2 hk H1

/-- A test whose ways meet behind it. -/
theorem Go.condJ {c : Operand} {x y : Code} {e : Bool} (n : Nat) (Lm : List (Nat × T)) (Hm : List (Nat × List T)) (hk : k = k0) (he : normI n k0 = .code (.cond c x y) :: rest) (hc : σ.ev c = some (.leaf (.bool e)))
    (H3 : ∀ k', k' = normI 20 rest → Go E Γ f N S Post k' (stL Lm Hm))
    (H1 : (∀ k', k' = normI 20 rest → Go E Γ f N S Post k' (stL Lm Hm)) → e = true → ∀ k', k' = .code x :: rest → Go E Γ f N S Post k' σ)
    (H2 : (∀ k', k' = normI 20 rest → Go E Γ f N S Post k' (stL Lm Hm)) → e = false → ∀ k', k' = .code y :: rest → Go E Γ f N S Post k' σ) : Go E Γ f N S Post k σ := by
  cases e with
  | true => exact Go.cond n hk he hc (by simpa using H1 H3 rfl)
  | false => exact Go.cond n hk he hc (by simpa using H2 H3 rfl)

/-- The way that is known goes on there. -/
theorem Go.joinJ {kn0 : List Item} (n : Nat) (hk : k = k0) (J : ∀ k', k' = kn0 → Go E Γ f N S Post k' σ) (he : normI n k0 = kn0) : Go E Γ f N S Post k σ := by
  subst hk; subst he
  exact Go.norm n (J _ rfl)
theorem Go.join {kn kn0 : List Item} (n : Nat) (hk : k = k0) (hkn : kn = kn0) (he : normI n k0 = kn0) (H : Go E Γ f N S Post kn σ) : Go E Γ f N S Post k σ := by
  subst hk; subst hkn; subst he
  exact Go.norm n H

/-- A loop is come to: its head, and what stands behind it. -/
theorem Go.loopX {body : Code} (n : Nat) (hk : k = k0) (he : normI n k0 = .code (.loop body) :: rest) (H : ∀ k' kn, k' = .inLoop body :: rest → kn = normI 20 rest → Go E Γ f N S Post k' σ) : Go E Γ f N S Post k σ :=
  Go.loop n hk he fun k' hk' => H k' _ hk' rfl

theorem Go.slotEq {L : List (Nat × T)} {H : List (Nat × List T)} (t : Nat) {x : T} (y : T) (hx : look L t = some x) (h : x = y) (hg : Go E Γ f N S Post k (stL (ins t y L) H)) : Go E Γ f N S Post k (stL L H) :=
  Go.le t x y hx (T.Le.of_eq h) hg
theorem Go.keepN (ns : List Nat) {L L' : List (Nat × T)} {H : List (Nat × List T)} (hL : keepL L ns = L') (h : Go E Γ f N S Post k (stL L' H)) : Go E Γ f N S Post k (stL L H) := by
  subst hL; exact Go.keep ns h
end
end Go.Vw
namespace Go.Vw
open Go Go.RowKit
/-- By a name. -/
def bnd {α β : Type} (v : α) (F : α → β) : β := F v
theorem Go.bnd {E : Env} {Γ : Cx} {f : FuncId} {N : Nat} {S : List Nat} {k : List Item} {α β : Type} {Pf : β → Value → World → Prop} {v : α} {F : α → β} (Lf : α → List (Nat × T)) (Hf : α → List (Nat × List T))
    (h : ∀ x, x = v → Go E Γ f N S (Pf (F x)) k (stL (Lf x) (Hf x))) : Go E Γ f N S (Pf (bnd v F)) k (stL (Lf v) (Hf v)) := h v rfl
end Go.Vw
namespace Go.Vw
open Go Go.RowKit
/-! int, besides -/
theorem len_sOf (l : List UInt8) : ti ((sOf l).size : Int) = ti (l.length : Int) := by rw [sOf_size]
theorem sOf_get (l : List UInt8) {n : Int} (h : 0 ≤ n ∧ n < l.length) : 0 ≤ n ∧ (sOf l)[n.toNat]? = some (l.getD n.toNat 0) := by
  refine ⟨h.1, ?_⟩
  have hlt : n.toNat < l.length := by omega
  have hs : n.toNat < (sOf l).size := by rw [sOf_size]; exact hlt
  rw [getElem?_pos (sOf l) n.toNat hs, List.getD_eq_getElem?_getD, List.getElem?_eq_getElem hlt]
  rfl
theorem quoI (a b : Int) (h : 0 ≤ a ∧ 0 < b ∧ a < 9223372036854775808) : ti (IntKind.i64.wrap (a.tdiv b)) = ti (a / b) := by
  rw [Int.tdiv_eq_ediv_of_nonneg h.1]
  have h1 : 0 ≤ a / b := Int.ediv_nonneg h.1 (by omega)
  have h2 : a / b ≤ a := Int.ediv_le_self _ h.1
  exact iw _ (by omega)
theorem remI (a b : Int) (h : 0 ≤ a) : ti (a.tmod b) = ti (a % b) := by rw [Int.tmod_eq_emod_of_nonneg h]
theorem shlI (k : Nat) (x : Int) (h : -9223372036854775808 ≤ x * 2 ^ (min k 64) ∧ x * 2 ^ (min k 64) < 9223372036854775808) : ti (IntKind.i64.wrap (x * 2 ^ (min k 64))) = ti (x * 2 ^ (min k 64)) := iw _ h
theorem shrI (k : Nat) (x : Int) : ti (x.fdiv (2 ^ (min k 64))) = ti (x / 2 ^ (min k 64)) := by
  have : (0 : Int) ≤ 2 ^ (min k 64) := Int.pow_nonneg (by decide)
  rw [Int.fdiv_eq_ediv_of_nonneg _ this]
def andI (a b : Int) : Int := IntKind.i64.wrap (BitVec.ofInt 64 a &&& BitVec.ofInt 64 b).toNat
def orI (a b : Int) : Int := IntKind.i64.wrap (BitVec.ofInt 64 a ||| BitVec.ofInt 64 b).toNat
def xorI (a b : Int) : Int := IntKind.i64.wrap (BitVec.ofInt 64 a ^^^ BitVec.ofInt 64 b).toNat
end Go.Vw
namespace Go.Vw
open Go Go.RowKit
theorem eqIt {a b : Int} (h : (a == b) = true) : a = b := by simpa using h
theorem eqIf {a b : Int} (h : (a == b) = false) : ¬ a = b := by simpa using h
theorem neIt {a b : Int} (h : (a != b) = true) : ¬ a = b := by simpa using h
theorem neIf {a b : Int} (h : (a != b) = false) : a = b := by simpa using h
theorem er_mem {i : Nat} (ty : TypeId) (n : Int) : memN i (er ty n).ids = false := by rw [er_ids]; rfl
end Go.Vw
namespace Go.Vw
open Go Go.RowKit
/-! Structs and arrays, compared -/
theorem eqL1 {k : K} {x y : T} {a : Bool} (h : leafEq k x y = some a) : eqL [k] [x] [y] = some a := by simp [eqL, h]
theorem eqLc {k : K} {x y : T} {ks : List K} {xs ys : List T} {a b : Bool} (h : leafEq k x y = some a) (h' : eqL ks xs ys = some b) : eqL (k :: ks) (x :: xs) (y :: ys) = some (a && b) := by simp [eqL, h, h']
theorem eqLt {k : K} {x y : T} {ks : List K} {xs ys : List T} {b : Bool} (h : leafEq k x y = some true) (h' : eqL ks xs ys = some b) : eqL (k :: ks) (x :: xs) (y :: ys) = some b := by simp [eqL, h, h']
theorem eqMt {ks : List K} {cs ds : List T} {b : Bool} (h : eqL ks cs ds = some b) : (eqL ks cs ds).map (eqV .eql) = some b := by rw [h]; rfl
theorem eqMf {ks : List K} {cs ds : List T} {b : Bool} (h : eqL ks cs ds = some b) : (eqL ks cs ds).map (eqV .neq) = some (!b) := by rw [h]; rfl
theorem tb_inj {a b : Bool} (h : tb a = tb b) : a = b := by unfold tb at h; injection h with h; injection h
theorem leq8 (a b : UInt8) : leafEq (.int .u8) (t8 a) (t8 b) = some (a == b) := congrArg some (tb_inj (eqB8 a b))
theorem leq16 (a b : UInt16) : leafEq (.int .u16) (t16 a) (t16 b) = some (a == b) := congrArg some (tb_inj (eqB16 a b))
theorem leq32 (a b : UInt32) : leafEq (.int .u32) (t32 a) (t32 b) = some (a == b) := congrArg some (tb_inj (eqB32 a b))
theorem leq64 (a b : UInt64) : leafEq (.int .u64) (t64 a) (t64 b) = some (a == b) := congrArg some (tb_inj (eqB64 a b))
theorem leqI (a b : Int) : leafEq (.int .i64) (ti a) (ti b) = some (a == b) := rfl
theorem leqB (a b : Bool) : leafEq .bool (tb a) (tb b) = some (a == b) := rfl
theorem leqS (a b : List UInt8) : leafEq .str (ts a) (ts b) = some (a == b) := congrArg some (tb_inj (s_eq a b))
theorem someT {x : Option Bool} {a b : Bool} (h : x = some a) (k : tb a = tb b) : x = some b := by rw [h, tb_inj k]
theorem eqL_u8s : ∀ (n : Nat) (l m : List UInt8), l.length = n → m.length = n → eqL (rep [.int .u8] n) (u8s l) (u8s m) = some (l == m)
  | 0, [], [], _, _ => rfl
  | n + 1, a :: l, b :: m, h1, h2 => by
    have := eqLc (leq8 a b) (eqL_u8s n l m (by simpa using h1) (by simpa using h2))
    exact this
  | 0, _ :: _, _, h, _ => by simp at h
  | 0, [], _ :: _, _, h => by simp at h
  | n + 1, [], _, h, _ => by simp at h
  | n + 1, _ :: _, [], _, h => by simp at h
end Go.Vw
namespace Go.Vw
theorem ntT {x : Bool} (h : (!x) = true) : x = false := by cases x <;> simp_all
theorem ntF {x : Bool} (h : (!x) = false) : x = true := by cases x <;> simp_all
end Go.Vw
namespace Go.Vw
theorem er_noB (ty : Go.TypeId) (n : Int) : (er ty n).noB = true := by unfold er; split <;> rfl
theorem u8s_noB (l : List UInt8) : noBL (u8s l) = true := mp_noB l (fun _ => rfl)
end Go.Vw

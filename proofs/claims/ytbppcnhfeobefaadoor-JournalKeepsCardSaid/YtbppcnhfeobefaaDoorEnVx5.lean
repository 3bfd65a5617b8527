import Derived.Test.YtbppcnhfeobefaaDoorEnVx1
import Derived.Lib.Strings
import Derived.OpenShut
import Derived.Carry
import Derived.ChangeShapes
import Derived.WideShapes
set_option linter.unusedVariables false
namespace Go.Vw
open Go Go.RowKit
section
variable (a b : UInt8)
theorem lt8 : (a.toNat : Int) < 256 ∧ 0 ≤ (a.toNat : Int) := by
 have := a.toNat_lt
 omega
theorem neB8 : tb ((a.toNat : Int) != (b.toNat : Int)) = tb (a != b) := by
 refine eb ?_
 rw [Bool.eq_iff_iff]
 simp only [beq_iff_eq, bne_iff_ne, ne_eq, ← UInt8.toNat_inj]
 omega
theorem cv8_32 : (.leaf (.int .u32 (IntKind.u32.wrap (a.toNat : Int))) : T) = t32 a.toUInt32 := by
 congr 2
 all_goals
  rw [wrap32', UInt8.toNat_toUInt32]
  have h := lt8 a
  all_goals omega
theorem cv8_i : ti (IntKind.i64.wrap (a.toNat : Int)) = ti (a.toNat : Int) := by
 exact iw _ (by have := lt8 a; omega)
theorem cvi_8 (x : Int) : (.leaf (.int .u8 (IntKind.u8.wrap x)) : T) = t8 (u8i x) := by
 congr 2
 all_goals
  rw [wrap8]
  unfold u8i
  rw [UInt8.toNat_ofNat']
  have h1 := Int.emod_nonneg x (show (256 : Int) ≠ 0 by decide)
  have h2 := Int.emod_lt_of_pos x (show (0 : Int) < 256 by decide)
  omega
end
section
variable (a b : UInt16)
end
section
variable (a b : UInt32)
theorem lt32 : (a.toNat : Int) < 4294967296 ∧ 0 ≤ (a.toNat : Int) := by
 have := a.toNat_lt
 omega
theorem add32 : (.leaf (.int .u32 (IntKind.u32.wrap ((a.toNat : Int) + (b.toNat : Int)))) : T) = t32 (a + b) := by
 congr 2
 all_goals
  rw [wrap32', UInt32.toNat_add]
  all_goals omega
theorem or32 : (.leaf (.int .u32 (IntKind.u32.wrap (((BitVec.ofInt (IntKind.bits .u32) (a.toNat : Int) ||| BitVec.ofInt (IntKind.bits .u32) (b.toNat : Int)).toNat : Int)))) : T) = t32 (a ||| b) := by
 congr 2
 all_goals
  have e : ∀ c : UInt32, BitVec.ofInt (IntKind.bits .u32) (c.toNat : Int) = c.toBitVec := fun c => by
   apply BitVec.eq_of_toNat_eq
   rw [BitVec.toNat_ofInt]
   have h := lt32 c
   show ((c.toNat : Int) % ((2 ^ 32 : Nat) : Int)).toNat = c.toNat
   have e2 : ((2 ^ 32 : Nat) : Int) = 4294967296 := by decide
   rw [e2]
   omega
  have h := lt32 (a ||| b)
  rw [wrap32', e, e]
  exact Int.emod_eq_of_lt h.2 h.1
def shl32 (a : UInt32) (k : Int) : UInt32 := UInt32.ofNat (a.toNat * 2 ^ k.toNat)
def shr32 (a : UInt32) (k : Int) : UInt32 := UInt32.ofNat (a.toNat / 2 ^ k.toNat)
theorem shlT32 (k : Int) : (.leaf (.int .u32 (IntKind.u32.wrap ((a.toNat : Int) * 2 ^ (min k.toNat (IntKind.bits .u32))))) : T) = t32 (shl32 a k) := by
 congr 2
 all_goals
  simp only [IntKind.bits]
  unfold shl32
  rw [wrap32', UInt32.toNat_ofNat']
  have e0 : ∀ x : Nat, ((x % 2 ^ 32 : Nat) : Int) = (x : Int) % 4294967296 := fun x => by rw [Int.natCast_emod]; rfl
  rw [e0]
  rcases Nat.le_total k.toNat 32 with h | h
  ·rw [Nat.min_eq_left h, Int.natCast_mul, Int.natCast_pow]; rfl
  ·rw [Nat.min_eq_right h]
   obtain ⟨d, hd⟩ := Nat.exists_eq_add_of_le h
   have e1 : a.toNat * 2 ^ k.toNat = (a.toNat * 2 ^ d) * 4294967296 := by rw [hd, Nat.pow_add, Nat.mul_comm (2 ^ 32), ← Nat.mul_assoc]
   rw [e1, Int.natCast_mul]
   generalize (a.toNat * 2 ^ d : Nat) = z
   have e2 : (2 : Int) ^ 32 = 4294967296 := by decide
   rw [e2]
   omega
theorem shrT32 (k : Int) : (.leaf (.int .u32 ((a.toNat : Int).fdiv (2 ^ (min k.toNat (IntKind.bits .u32))))) : T) = t32 (shr32 a k) := by
 congr 2
 all_goals
  simp only [IntKind.bits]
  unfold shr32
  rw [UInt32.toNat_ofNat']
  have ha := a.toNat_lt
  have hq : a.toNat / 2 ^ k.toNat < 2 ^ 32 := Nat.lt_of_le_of_lt (Nat.div_le_self _ _) ha
  rw [Nat.mod_eq_of_lt hq]
  have e : ∀ j : Nat, (a.toNat : Int).fdiv (2 ^ j) = ((a.toNat / 2 ^ j : Nat) : Int) := fun j => by
   have h2 : (0 : Int) ≤ 2 ^ j := Int.pow_nonneg (by decide)
   rw [Int.fdiv_eq_ediv_of_nonneg _ h2, Int.natCast_ediv, Int.natCast_pow]
   rfl
  rcases Nat.le_total k.toNat 32 with h | h
  ·rw [Nat.min_eq_left h, e]
  ·rw [Nat.min_eq_right h, e, Nat.div_eq_of_lt ha, Nat.div_eq_of_lt (Nat.lt_of_lt_of_le ha (Nat.pow_le_pow_right (by decide) h))]
theorem leB32 : tb (decide ((a.toNat : Int) ≤ (b.toNat : Int))) = tb (decide (a ≤ b)) := by
 refine eb ?_
 rw [decide_eq_decide]
 simp only [GT.gt, GE.ge, UInt32.le_iff_toNat_le]
 omega
theorem eqB32 : tb ((a.toNat : Int) == (b.toNat : Int)) = tb (a == b) := by
 refine eb ?_
 rw [Bool.eq_iff_iff]
 simp only [beq_iff_eq, bne_iff_ne, ne_eq, ← UInt32.toNat_inj]
 omega
theorem cv32_8 : (.leaf (.int .u8 (IntKind.u8.wrap (a.toNat : Int))) : T) = t8 a.toUInt8 := by
 congr 2
 all_goals
  rw [wrap8, UInt32.toNat_toUInt8]
  have h := lt32 a
  all_goals omega
theorem max32 : (.leaf (.int .u32 (if (b.toNat : Int) > (a.toNat : Int) then (b.toNat : Int) else (a.toNat : Int))) : T) = t32 (if b > a then b else a) := by
 have e : ((b.toNat : Int) > (a.toNat : Int)) ↔ b > a := by simp only [GT.gt]; rw [UInt32.lt_iff_toNat_lt]; omega
 congr 2
 by_cases h : b > a
 ·rw [if_pos h, if_pos (e.2 h)]
 ·rw [if_neg h, if_neg (fun q => h (e.1 q))]
end
section
variable (a b : UInt64)
theorem rem64 : (.leaf (.int .u64 ((a.toNat : Int).tmod (b.toNat : Int))) : T) = t64 (a % b) := by
 congr 2
 all_goals
  rw [UInt64.toNat_mod, Int.tmod_eq_emod_of_nonneg (by omega), ← Int.natCast_emod]
theorem cvi_64 (x : Int) : (.leaf (.int .u64 (IntKind.u64.wrap x)) : T) = t64 (u64i x) := by
 congr 2
 all_goals
  rw [wrap64']
  unfold u64i
  rw [UInt64.toNat_ofNat']
  have h1 := Int.emod_nonneg x (show (18446744073709551616 : Int) ≠ 0 by decide)
  have h2 := Int.emod_lt_of_pos x (show (0 : Int) < 18446744073709551616 by decide)
  omega
end
end Go.Vw
namespace Go.Vw
open Go Go.RowKit
abbrev bos (l : List Bool) : List T := l.map fun c => .leaf (.bool c)
abbrev tl (g : Tag) (l : List UInt8) : T := .sl 1 g l.length (u8s l)
abbrev b8s (g : Tag) (l : List (List UInt8)) : List T := l.map fun c => tl g c
abbrev strs (l : List (List UInt8)) : List T := l.map fun c => ts c
def slc {α : Type} (l : List α) (lo hi : Int) : List α := (l.drop lo.toNat).take (hi.toNat - lo.toNat)
section
variable {α : Type} {g : α → T} (l l2 : List α)
theorem slc_length {lo hi : Int} (h : 0 ≤ lo ∧ lo ≤ hi ∧ hi ≤ l.length) : (slc l lo hi).length = hi.toNat - lo.toNat := by
 simp [slc]; omega
theorem slc_lenI {lo hi : Int} (h : 0 ≤ lo ∧ lo ≤ hi ∧ hi ≤ l.length) : ((slc l lo hi).length : Int) = hi - lo := by
 rw [slc_length l h]; omega
theorem part1 {i : TI} {cs : List T} {off : Nat} {v : T} (ha : i.agg = false) (h : cs[off]? = some v) : partOf i cs off v := by
 unfold partOf; rw [if_neg (by simp [ha])]; exact h
theorem partA {i : TI} {cs : List T} {off : Nat} {v : T} (ha : i.agg = true) (h : off + i.size ≤ cs.length) (hv : v = .agg (sub cs off i.size)) : partOf i cs off v := by
 unfold partOf; rw [if_pos ha]; exact ⟨h, hv⟩
theorem mp_get {k n : Nat} (d : α) (hk : k = n) (h : n < l.length) : (l.map g)[k]? = some (g (l.getD n d)) := by
 subst hk
 rw [List.getElem?_map, List.getD_eq_getElem?_getD, List.getElem?_eq_getElem h]; rfl
theorem mp_set {k n : Nat} {x : α} {c : List T} (hc : c = [g x]) (hk : k = n) (h : n < l.length) : splice (l.map g) k c = (l.set n x).map g := by
 subst hc; subst hk
 unfold splice
 rw [List.map_set, List.set_eq_take_append_cons_drop, if_pos (by simpa using h)]
 simp
theorem mp_app {c : List T} (hc : c = l2.map g) : sub (l.map g) 0 (l.length * 1) ++ c = (l ++ l2).map g := by
 subst hc
 have e : (l.map g).take (l.length * 1) = l.map g := List.take_of_length_le (by simp)
 simp only [sub, List.drop_zero, e, List.map_append]
theorem mp_app' {c : List T} {m : Nat} (hm : m = l.length) (hc : c = l2.map g) : sub (l.map g) 0 (m * 1) ++ c = (l ++ l2).map g := by
 subst hm; exact mp_app l l2 hc
theorem mp_all : sub (l.map g) 0 (l.length * 1) = l.map g := by
 have e : (l.map g).take (l.length * 1) = l.map g := List.take_of_length_le (by simp)
 simp only [sub, List.drop_zero, e]
theorem mp_sub {a b : Nat} {lo hi : Int} (ha : a = lo.toNat) (hb : b = hi.toNat - lo.toNat) : sub (l.map g) (a * 1) (b * 1) = (slc l lo hi).map g := by
 subst ha; subst hb
 simp [sub, slc]
theorem sl_slc {t : Tag} {a b : Nat} {lo hi : Int} (h : 0 ≤ lo ∧ lo ≤ hi ∧ hi ≤ l.length) (ha : a = lo.toNat) (hb : b = hi.toNat) :
  T.sl 1 t (b - a) (sub (l.map g) (a * 1) ((b - a) * 1)) = T.sl 1 t (slc l lo hi).length ((slc l lo hi).map g) := by
 subst ha; subst hb
 rw [slc_length l h, mp_sub l (lo := lo) (hi := hi) rfl rfl]
theorem mp_ids (h : ∀ x, (g x).ids = []) : idsL (l.map g) = [] := by
 induction l with
 | nil => rfl
 | cons a l ih => simp only [List.map_cons, idsL, h a, List.nil_append]; exact ih
theorem mp_mem {i : Nat} (h : ∀ x, (g x).ids = []) : memN i (idsL (l.map g)) = false := by rw [mp_ids l h]; rfl
theorem mp_scal (h : ∀ x, (g x).scal = true) : scalL (l.map g) = true := by
 induction l with
 | nil => rfl
 | cons a l ih => simp only [List.map_cons, scalL, h a, Bool.true_and]; exact ih
theorem mp_noB (h : ∀ x, (g x).noB = true) : noBL (l.map g) = true := by
 induction l with
 | nil => rfl
 | cons a l ih => simp only [List.map_cons, noBL, h a, Bool.true_and]; exact ih
theorem mp_zeros {n : Nat} {x : α} {z : List Value} (hz : z.map T.leaf = [g x]) : zerosT z n = (List.replicate n x).map g := by
 induction n with
 | zero => rfl
 | succ n ih => simp only [zerosT, hz, ih, List.replicate_succ, List.map_cons]; rfl
end
theorem sOf_toList (l : List UInt8) : (sOf l).toList = l := by
 rw [Lib.toList_data]; simp [sOf]
theorem s_eq (a b : List UInt8) : tb ((sOf a).toList == (sOf b).toList) = tb (a == b) := by rw [sOf_toList, sOf_toList]
theorem s_ne (a b : List UInt8) : tb (!((sOf a).toList == (sOf b).toList)) = tb (a != b) := by rw [sOf_toList, sOf_toList]; rfl
end Go.Vw
namespace Go.Vw
open Go Go.RowKit
section
variable {E : Env} {Γ : Cx} {f : FuncId} {N : Nat} {S : List Nat} {Post : Value → World → Prop} {k k0 rest : List Item} {σ : St}
theorem Go.regJ {id : Nat} {ops : Array Oper} {d : Bool} (n : Nat) (Lm : List (Nat × T)) (Hm : List (Nat × List T)) (hk : k = k0) (_he : normI n k0 = .code (.region id ops d) :: rest) (H1 : ∀ k', k' = rest → Go E Γ f N S Post k' (stL Lm Hm))
  (H2 : k = k0 → (∀ k', k' = rest → Go E Γ f N S Post k' (stL Lm Hm)) → Go E Γ f N S Post k σ) : Go E Γ f N S Post k σ := H2 hk H1
theorem Go.condJ {c : Operand} {x y : Code} {e : Bool} (n : Nat) (Lm : List (Nat × T)) (Hm : List (Nat × List T)) (hk : k = k0) (he : normI n k0 = .code (.cond c x y) :: rest) (hc : σ.ev c = some (.leaf (.bool e)))
  (H3 : ∀ k', k' = normI 20 rest → Go E Γ f N S Post k' (stL Lm Hm))
  (H1 : (∀ k', k' = normI 20 rest → Go E Γ f N S Post k' (stL Lm Hm)) → e = true → ∀ k', k' = .code x :: rest → Go E Γ f N S Post k' σ)
  (H2 : (∀ k', k' = normI 20 rest → Go E Γ f N S Post k' (stL Lm Hm)) → e = false → ∀ k', k' = .code y :: rest → Go E Γ f N S Post k' σ) : Go E Γ f N S Post k σ := by
 cases e with
 | true => exact Go.cond n hk he hc (by simpa using H1 H3 rfl)
 | false => exact Go.cond n hk he hc (by simpa using H2 H3 rfl)
theorem Go.joinJ {kn0 : List Item} (n : Nat) (hk : k = k0) (J : ∀ k', k' = kn0 → Go E Γ f N S Post k' σ) (he : normI n k0 = kn0) : Go E Γ f N S Post k σ := by
 subst hk; subst he
 exact Go.norm n (J _ rfl)
theorem Go.join {kn kn0 : List Item} (n : Nat) (hk : k = k0) (hkn : kn = kn0) (he : normI n k0 = kn0) (H : Go E Γ f N S Post kn σ) : Go E Γ f N S Post k σ := by
 subst hk; subst hkn; subst he
 exact Go.norm n H
theorem Go.loopX {body : Code} (n : Nat) (hk : k = k0) (he : normI n k0 = .code (.loop body) :: rest) (H : ∀ k' kn, k' = .inLoop body :: rest → kn = normI 20 rest → Go E Γ f N S Post k' σ) : Go E Γ f N S Post k σ :=
 Go.loop n hk he fun k' hk' => H k' _ hk' rfl
theorem Go.slotEq {L : List (Nat × T)} {H : List (Nat × List T)} (t : Nat) {x : T} (y : T) (hx : look L t = some x) (h : x = y) (hg : Go E Γ f N S Post k (stL (ins t y L) H)) : Go E Γ f N S Post k (stL L H) :=
 Go.le t x y hx (T.Le.of_eq h) hg
theorem Go.keepN (ns : List Nat) {L L' : List (Nat × T)} {H : List (Nat × List T)} (hL : keepL L ns = L') (h : Go E Γ f N S Post k (stL L' H)) : Go E Γ f N S Post k (stL L H) := by
 subst hL; exact Go.keep ns h
end
end Go.Vw
namespace Go.Vw
open Go Go.RowKit
def bnd {α β : Type} (v : α) (F : α → β) : β := F v
theorem Go.bnd {E : Env} {Γ : Cx} {f : FuncId} {N : Nat} {S : List Nat} {k : List Item} {α β : Type} {Pf : β → Value → World → Prop} {v : α} {F : α → β} (Lf : α → List (Nat × T)) (Hf : α → List (Nat × List T))
  (h : ∀ x, x = v → Go E Γ f N S (Pf (F x)) k (stL (Lf x) (Hf x))) : Go E Γ f N S (Pf (bnd v F)) k (stL (Lf v) (Hf v)) := h v rfl
end Go.Vw
namespace Go.Vw
open Go Go.RowKit
theorem quoI (a b : Int) (h : 0 ≤ a ∧ 0 < b ∧ a < 9223372036854775808) : ti (IntKind.i64.wrap (a.tdiv b)) = ti (a / b) := by
 rw [Int.tdiv_eq_ediv_of_nonneg h.1]
 have h1 : 0 ≤ a / b := Int.ediv_nonneg h.1 (by omega)
 have h2 : a / b ≤ a := Int.ediv_le_self _ h.1
 exact iw _ (by omega)
theorem shrI (k : Nat) (x : Int) : ti (x.fdiv (2 ^ (min k 64))) = ti (x / 2 ^ (min k 64)) := by
 have : (0 : Int) ≤ 2 ^ (min k 64) := Int.pow_nonneg (by decide)
 rw [Int.fdiv_eq_ediv_of_nonneg _ this]
def orI (a b : Int) : Int := IntKind.i64.wrap (BitVec.ofInt 64 a ||| BitVec.ofInt 64 b).toNat
end Go.Vw
namespace Go.Vw
open Go Go.RowKit
theorem eqIt {a b : Int} (h : (a == b) = true) : a = b := by simpa using h
theorem eqIf {a b : Int} (h : (a == b) = false) : ¬ a = b := by simpa using h
theorem neIt {a b : Int} (h : (a != b) = true) : ¬ a = b := by simpa using h
theorem neIf {a b : Int} (h : (a != b) = false) : a = b := by simpa using h
theorem er_mem {i : Nat} (ty : TypeId) (n : Int) : memN i (er ty n).ids = false := by rw [er_ids]; rfl
end Go.Vw
namespace Go.Vw
open Go Go.RowKit
end Go.Vw
namespace Go.Vw
theorem ntT {x : Bool} (h : (!x) = true) : x = false := by cases x <;> simp_all
theorem ntF {x : Bool} (h : (!x) = false) : x = true := by cases x <;> simp_all
end Go.Vw
namespace Go.Vw
theorem er_noB (ty : Go.TypeId) (n : Int) : (er ty n).noB = true := by unfold er; split <;> rfl
theorem u8s_noB (l : List UInt8) : noBL (u8s l) = true := mp_noB l (fun _ => rfl)
end Go.Vw
namespace Go.Vw
open Go Go.RowKit Go.ChangeShapes Go.WideShapes
abbrev okW (w : World) : Tag → Nat → Prop := fun _ b => b < w.heap.size
abbrev ph : Nat → Real := fun _ => .ph
def RdC (P : Program) (t : TypeId) {α : Type} (g : α → List T) (side : α → Prop) : Prop :=
 ∀ {H : Type} {enc : TypeId × Value → H} {w : World} {fuel : Nat} {cs : List Value} {x : DataW H × List MemPlace}, DataW.trod enc P w 0 (fun _ => true) true fuel t cs = some x → ∃ y, RepL w (okW w) (g y) ph cs ∧ side y
def RdV (P : Program) (t : TypeId) {α : Type} (g : α → T) (side : α → Prop) : Prop :=
 ∀ {H : Type} {enc : TypeId × Value → H} {w : World} {v : Value} {d : DataW H} {ps : List MemPlace} {base : Nat}, Value.okWide P w .any base t v → DataW.Trod enc P w 0 (fun _ => true) true t v d ps → ∃ y, Rep w (okW w) (g y) ph v ∧ side y
section
variable {P : Program} {t e : TypeId}
theorem one_rep {w : World} {g : T} {v : Value} (h : RepL w (okW w) [g] ph [v]) : Rep w (okW w) g ph v := by
 simp only [RepL] at h
 obtain ⟨u, us, e1, h1, h2⟩ := h
 simp only [List.cons.injEq] at e1
 obtain ⟨rfl, _⟩ := e1
 exact h1
theorem rep_one {w : World} {g : T} {v : Value} (h : Rep w (okW w) g ph v) : RepL w (okW w) [g] ph [v] := by
 simp only [RepL]; exact ⟨v, [], rfl, h, rfl⟩
theorem RdC.v {α : Type} {g : α → T} {side : α → Prop} (h : RdC P t (fun y => [g y]) side) (hs : ∀ d, P.underlying t = some d → (match d with | .struct _ | .array _ _ => False | _ => True)) : RdV P t g side := by
 intro H enc w v d ps base hv ⟨fuel, hf⟩
 have hone : v.cells.toList = [v] := by
  unfold Value.okWide at hv
  have hx : ∀ r, P.underlying t = r → Cell.okWide P w .any base t v → v.cells.toList = [v] := by
   intro r _ hc
   unfold Cell.okWide at hc
   cases v <;> first | rfl | skip
   all_goals (split at hc <;> simp_all [Cell.ok])
  split at hv
  ·rename_i hq; exact (hs _ hq).elim
  ·rename_i hq; exact (hs _ hq).elim
  ·exact hx _ rfl hv
 rw [hone] at hf
 obtain ⟨y, h1, h2⟩ := h hf
 exact ⟨y, one_rep h1, h2⟩
theorem wf_bounds {k : IntKind} {n : Int} (h : (Lit.int k n).wf = true) : k.min ≤ n ∧ n ≤ k.max := by
 simpa [Lit.wf] using h
theorem rd_i64 (ht : P.underlying t = some (.int .i64)) : RdC P t (fun n : Int => [ti n]) (fun n => -9223372036854775808 ≤ n ∧ n ≤ 9223372036854775807) := by
 intro H enc w fuel cs x h
 obtain ⟨n, rfl, _, hw⟩ := DataW.trod_int ht h
 have := wf_bounds hw
 refine ⟨n, rep_one (by simp only [Rep]), ?_⟩
 have e1 : IntKind.i64.min = -9223372036854775808 := by decide
 have e2 : IntKind.i64.max = 9223372036854775807 := by decide
 rw [e1, e2] at this; exact this
theorem rd_u8 (ht : P.underlying t = some (.int .u8)) : RdC P t (fun n : UInt8 => [t8 n]) (fun _ => True) := by
 intro H enc w fuel cs x h
 obtain ⟨n, rfl, _, hw⟩ := DataW.trod_int ht h
 have hb := wf_bounds hw
 have e1 : IntKind.u8.min = 0 := by decide
 have e2 : IntKind.u8.max = 255 := by decide
 rw [e1, e2] at hb
 refine ⟨UInt8.ofNat n.toNat, rep_one ?_, trivial⟩
 simp only [Rep, UInt8.toNat_ofNat']
 congr 1; omega
theorem rd_bool (ht : P.underlying t = some .bool) : RdC P t (fun b : Bool => [tb b]) (fun _ => True) := by
 intro H enc w fuel cs x h
 obtain ⟨b, rfl, _⟩ := DataW.trod_bool ht h
 exact ⟨b, rep_one (by simp only [Rep]), trivial⟩
theorem exists_list {α : Type} {Q : Nat → α → Prop} : ∀ (n : Nat), (∀ i, i < n → ∃ y, Q i y) → ∃ l : List α, l.length = n ∧ ∀ i y, l[i]? = some y → Q i y
 | 0, _ => ⟨[], rfl, fun i y e => by simp at e⟩
 | n + 1, h => by
  obtain ⟨l, hl, hq⟩ := exists_list n (fun i hi => h i (by omega))
  obtain ⟨y, hy⟩ := h n (by omega)
  refine ⟨l ++ [y], by simp [hl], fun i z e => ?_⟩
  rw [List.getElem?_append] at e
  split at e
  ·exact hq i z e
  ·rename_i hi
   have : i - l.length = 0 := by
    rcases Nat.eq_zero_or_pos (i - l.length) with h0 | h0
    ·exact h0
    ·rw [List.getElem?_eq_none (by simp; omega)] at e; simp at e
   rw [this] at e
   simp at e; subst e
   have : i = n := by omega
   rw [this]; exact hy
theorem repAt_map {α : Type} {w : World} {ok : Tag → Nat → Prop} {b : Nat} {g : α → T} : ∀ (l : List α) (o : Nat), (∀ i y, l[i]? = some y → ∃ v, w.cell? ⟨b, o + i, none⟩ = some v ∧ Rep w ok (g y) ph v) → RepAt w ok b (l.map g) o
 | [], _, _ => by simp only [List.map_nil, RepAt]
 | y :: l, o, h => by
  simp only [List.map_cons, RepAt]
  refine ⟨by simpa using h 0 y rfl, repAt_map l (o + 1) fun i z e => ?_⟩
  have := h (i + 1) z (by simpa using e)
  rw [show o + 1 + i = o + (i + 1) from by omega]; exact this
theorem rd_sl {α : Type} {g : α → T} {side : α → Prop} (ht : P.underlying t = some (.slice e)) (hc : P.cellsOf e = 1) (he : RdC P e (fun y => [g y]) side) (hg : ∀ y, (g y).ids = []) :
  RdC P t (fun l : List α => [.sl 1 .shr l.length (l.map g)]) (fun l => l.length ≤ 9223372036854775807 ∧ ∀ y ∈ l, side y) := by
 intro H enc w fuel cs x h
 rcases DataW.trod_slice ht h with ⟨rfl, _⟩ | ⟨a, len, cap, elems, rest, n, rfl, rfl, rfl, _, hlc, hcm, hlen, hel, _⟩
 ·refine ⟨[], rep_one ?_, Nat.zero_le _, fun y hy => by cases hy⟩
  simp only [Rep]
  exact ⟨⟨by simp, by simp [idsL]⟩, none, 0, rfl, by simp, .inl (by simp)⟩
 ·have hget : ∀ i, i < len → ∃ y, (∃ v, w.cell? (a.add i) = some v ∧ Rep w (okW w) (g y) ph v) ∧ side y := by
   intro i hi
   have h1 := hel i hi
   rw [hc, Nat.mul_one] at h1
   rw [List.getElem?_eq_getElem (by omega)] at h1
   obtain ⟨c, hcell, htr⟩ := Option.bind_eq_some_iff.1 h1
   obtain ⟨y, h2, h3⟩ := he htr
   simp only [World.cells?, Nat.zero_le, if_true, List.range_one, List.mapM_cons, List.mapM_nil, Option.bind_eq_bind, Option.pure_def] at hcell
   obtain ⟨v, hv, hc2⟩ := Option.bind_eq_some_iff.1 hcell
   simp only [Option.bind_some, Option.some.injEq] at hc2
   subst hc2
   have ha0 : ((a.add i).add 0) = a.add i := by unfold Addr.add; split <;> simp_all
   rw [ha0] at hv
   exact ⟨y, ⟨v, hv, one_rep h2⟩, h3⟩
  obtain ⟨l, hl, hq⟩ := exists_list len hget
  refine ⟨l, rep_one ?_, ?_, fun y hy => ?_⟩
  ·simp only [Rep]
   refine ⟨⟨by simp, mp_ids l hg⟩, some a, cap, by rw [hl], by omega, ?_⟩
   by_cases h0 : l.length = 0
   ·exact .inl h0
   ·right
    obtain ⟨y0, hy0⟩ : ∃ y0, l[0]? = some y0 := ⟨l[0], List.getElem?_eq_getElem (by omega)⟩
    obtain ⟨⟨v0, hv0, _⟩, _⟩ := hq 0 y0 hy0
    have hsp : a.spot = none := by
     unfold World.cell? at hv0
     split at hv0
     ·split at hv0
      ·simp at hv0
      ·rename_i hns
       cases hsa : a.spot with
       | none => rfl
       | some q => simp [Addr.add, hsa] at hns
     ·simp at hv0
    have hadd : ∀ i, a.add i = ⟨a.block, a.off + i, none⟩ := fun i => by
     cases a with | mk b o s => simp only at hsp; subst hsp; exact addr_add b o i
    have hblk : a.block < w.heap.size := by
     unfold World.cell? at hv0
     rw [hadd] at hv0
     simp only at hv0
     split at hv0
     ·rename_i hb; exact (Array.getElem?_eq_some_iff.1 hb).1
     ·simp at hv0
    refine ⟨a.block, a.off, ?_, hblk, repAt_map l a.off fun i y e => ?_⟩
    ·cases a with | mk b o s => simp only at hsp; subst hsp; rfl
    ·obtain ⟨⟨v, hv, hr⟩, _⟩ := hq i y e
     rw [hadd] at hv
     exact ⟨v, hv, hr⟩
  ·unfold maxLen at hcm; omega
  ·obtain ⟨i, hi, e⟩ := List.getElem_of_mem hy
   exact (hq i y (by rw [List.getElem?_eq_getElem hi, e])).2
end
section
variable {P : Program} {t e : TypeId}
theorem repL_app {w : World} {ok : Tag → Nat → Prop} {β : Nat → Real} : ∀ {a b : List T} {u v : List Value}, RepL w ok a β u → RepL w ok b β v → RepL w ok (a ++ b) β (u ++ v)
 | [], b, u, v, h1, h2 => by simp only [RepL] at h1; subst h1; exact h2
 | x :: a, b, u, v, h1, h2 => by
  simp only [RepL] at h1
  obtain ⟨z, us, rfl, h3, h4⟩ := h1
  simp only [List.cons_append, RepL]
  exact ⟨z, us ++ v, rfl, h3, repL_app h4 h2⟩
theorem RdC.agg {α : Type} {g : α → List T} {side : α → Prop} (h : RdC P t g side) (hs : ∀ d, P.underlying t = some d → (match d with | .struct _ | .array _ _ => True | _ => False)) (hu : (P.underlying t).isSome = true) : RdV P t (fun y => .agg (g y)) side := by
 intro H enc w v d ps base hv ⟨fuel, hf⟩
 obtain ⟨cs, rfl⟩ : ∃ cs, v = .agg cs := by
  unfold Value.okWide at hv
  split at hv
  ·obtain ⟨cs, h, _⟩ := hv; exact ⟨cs, h⟩
  ·obtain ⟨cs, h, _⟩ := hv; exact ⟨cs, h⟩
  ·rename_i h1 h2
   cases hq : P.underlying t with
   | none => rw [hq] at hu; cases hu
   | some d =>
    have := hs d hq
    cases d <;> first | exact this.elim | skip
    all_goals first | exact absurd hq (h1 _) | exact absurd hq (h2 _ _)
 obtain ⟨y, h1, h2⟩ := h hf
 exact ⟨y, by simp only [Rep]; exact ⟨cs.toList, by simp, h1⟩, h2⟩
def RdF (P : Program) (o : Nat) (fs : List Field) (tot : Nat) {α : Type} (g : α → List T) (side : α → Prop) : Prop :=
 ∀ {H : Type} {enc : TypeId × Value → H} {w : World} {cs : List Value}, cs.length = tot → (∀ f ∈ fs, ∃ n x, DataW.trod enc P w 0 (fun _ => true) true n f.type ((cs.drop f.offset).take (P.cellsOf f.type)) = some x) → ∃ y, RepL w (okW w) (g y) ph (cs.drop o) ∧ side y
theorem rdF_one {f : Field} {tot : Nat} {α : Type} {g : α → List T} {side : α → Prop} (h : RdC P f.type g side) (hz : f.offset + P.cellsOf f.type = tot) : RdF P f.offset [f] tot g side := by
 intro H enc w cs hl hf
 obtain ⟨n, x, hx⟩ := hf f (by simp)
 have e : (cs.drop f.offset).take (P.cellsOf f.type) = cs.drop f.offset := List.take_of_length_le (by simp; omega)
 rw [e] at hx
 exact h hx
theorem rdF_cons {f : Field} {fs : List Field} {tot o : Nat} {α β : Type} {g : α → List T} {g' : β → List T} {side : α → Prop} {side' : β → Prop} (h : RdC P f.type g side) (hz : o = f.offset + P.cellsOf f.type) (hr : RdF P o fs tot g' side') :
  RdF P f.offset (f :: fs) tot (fun p : α × β => g p.1 ++ g' p.2) (fun p => side p.1 ∧ side' p.2) := by
 subst hz
 intro H enc w cs hl hf
 obtain ⟨n, x, hx⟩ := hf f (by simp)
 obtain ⟨y, h1, h2⟩ := h hx
 obtain ⟨z, h3, h4⟩ := hr (H := H) (enc := enc) (w := w) hl (fun f' hf' => hf f' (by simp [hf']))
 refine ⟨(y, z), ?_, h2, h4⟩
 have := repL_app h1 h3
 rw [← List.drop_drop, List.take_append_drop] at this
 exact this
theorem rd_struct {fs : Array Field} {tot : Nat} {α : Type} {g : α → List T} {side : α → Prop} (ht : P.underlying t = some (.struct fs)) (hz : P.cellsOf t = tot) (h : RdF P 0 fs.toList tot g side) : RdC P t g side := by
 intro H enc w fuel cs x hx
 obtain ⟨xs, n, rfl, rfl, hl, hlen, hf⟩ := DataW.trod_struct ht hx
 obtain ⟨y, h1, h2⟩ := h (H := H) (enc := enc) (w := w) (hl.trans hz) (fun f hfm => by
  obtain ⟨i, hi, e⟩ := List.getElem_of_mem hfm
  have := hf i f (by rw [← Array.getElem?_toList, List.getElem?_eq_getElem hi, e])
  rw [List.getElem?_eq_getElem (by rw [hlen, ← Array.length_toList]; exact hi)] at this
  exact ⟨n, _, this⟩)
 exact ⟨y, by simpa using h1, h2⟩
end
theorem Below.trodAll {H : Type} {enc : TypeId × Value → H} {P : Program} {W W' : World} (hl : laidOutB P = true) (hb : Below W.heap.size W W') : ∀ {ts : List TypeId} {vs : List Value} {ds : List (DataW H)} {ps : List MemPlace},
  (∀ t ∈ ts, P.readableRec t = true ∧ t < P.types.size) → DataW.TrodAll enc P W 0 (fun _ => true) true ts vs ds ps → (∀ x ∈ ps, x.block < W.heap.size) → DataW.TrodAll enc P W' 0 (fun b => decide (b < W.heap.size)) true ts vs ds ps
 | [], vs, ds, ps, _, h, _ => by
  obtain ⟨rfl, rfl, rfl⟩ := trodAll_nil h
  exact rfl
 | t :: ts, vs, ds, ps, hts, h, hlt => by
  obtain ⟨v, vs', d, ds', p, q, rfl, rfl, rfl, h1, h2⟩ := trodAll_cons h
  exact ⟨p, q, Below.trod hl (hts t (by simp)).1 (hts t (by simp)).2 h1 hb (fun x hx => hlt x (by simp [hx])), Below.trodAll hl hb (fun t ht => hts t (by simp [ht])) h2 (fun x hx => hlt x (by simp [hx])), rfl⟩
theorem law_post {H : Type} {enc : TypeId × Value → H} {P : Program} {f : Func} {s : ChangeSpec} {W W' : World} {args : Array Value} {ds gs : List (DataW H)} {before : List MemPlace} {tb : TypeId} (hl : laidOutB P = true) (htb : P.underlying tb = some .bool)
  (hr : f.resultTypes = #[tb]) (hv0 : s.vars = []) (hts : ∀ t ∈ f.params.toList, P.readableRec t = true ∧ t < P.types.size)
  (hs : s.fn H (ds ++ gs) = { results := [.lit (.bool true)], args := ds }) (hW : DataW.Whole enc P f.params.toList s.vars false W args.toList ds gs before) (hb : Below W.heap.size W W') :
  s.post enc P f false true false false W args (.bool true) W' := by
 have hlt : ∀ p ∈ before, p.block < W.heap.size := fun p hp => hW.lt p hp
 have hW' := hW
 obtain ⟨p, q, hA, hV, rfl, hfz, hnd⟩ := hW'
 rw [hv0] at hV
 obtain ⟨rfl, rfl⟩ : gs = [] ∧ q = [] := by
  cases gs with
  | nil => exact ⟨rfl, hV⟩
  | cons g r => exact absurd hV (by intro h; cases h)
 refine ⟨ds, [], _, [], p, [], hW, ?_, ?_, ?_, World.keptBut_mono (fun x hx => ⟨hx, ?_⟩) (hb.frame (· ∈ p ++ [])), fun h => by cases h⟩
 ·rw [hs, hr]
  exact trodAll_mk1 (shut_bool htb true)
 ·rw [hs]
  exact Below.trodAll hl hb hts hA (fun x hx => hlt x (by simp [hx]))
 ·rw [hs, hv0]; rfl
 ·exact .inr (List.mem_append.1 hx)
end Go.Vw

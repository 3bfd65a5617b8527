/- Lists, told. -/
import Derived.Test.YtdlnppcndcfikaaVx5
import Derived.Lib.Strings
namespace Go.Vw
set_option linter.unusedVariables false
set_option linter.unusedSimpArgs false
open Go Go.RowKit

abbrev u16s (l : List UInt16) : List T := l.map fun c => .leaf (.int .u16 c.toNat)
abbrev u32s (l : List UInt32) : List T := l.map fun c => .leaf (.int .u32 c.toNat)
abbrev u64s (l : List UInt64) : List T := l.map fun c => .leaf (.int .u64 c.toNat)
abbrev i64s (l : List Int) : List T := l.map fun c => .leaf (.int .i64 c)
abbrev bos (l : List Bool) : List T := l.map fun c => .leaf (.bool c)
/-- Bytes that all may read. -/
abbrev tl (g : Tag) (l : List UInt8) : T := .sl 1 g l.length (u8s l)
abbrev b8s (g : Tag) (l : List (List UInt8)) : List T := l.map fun c => tl g c
abbrev strs (l : List (List UInt8)) : List T := l.map fun c => ts c

/-- From here to there. -/
def slc {α : Type} (l : List α) (lo hi : Int) : List α := (l.drop lo.toNat).take (hi.toNat - lo.toNat)

section
variable {α : Type} {g : α → T} (l l2 : List α)

theorem slc_length {lo hi : Int} (h : 0 ≤ lo ∧ lo ≤ hi ∧ hi ≤ l.length) : (slc l lo hi).length = hi.toNat - lo.toNat := by
  simp [slc]; omega
theorem slc_lenI {lo hi : Int} (h : 0 ≤ lo ∧ lo ≤ hi ∧ hi ≤ l.length) : ((slc l lo hi).length : Int) = hi - lo := by
  rw [slc_length l h]; omega

theorem part1 {i : TI} {cs : List T} {off : Nat} {v : T} (ha : i.agg = false) (h : cs[off]? = some v) : partOf i cs off v := by
  unfold partOf; rw [if_neg (by simp [ha])]; exact h
theorem partA {i : TI} {cs : List T} {off : Nat} {v : T} (ha : i.agg = true) (h : off + i.size ≤ cs.length) (hv : v = .agg (sub cs off i.size)) : partOf i cs off v := by
  unfold partOf; rw [if_pos ha]; exact ⟨h, hv⟩

theorem mp_get {k n : Nat} (d : α) (hk : k = n) (h : n < l.length) : (l.map g)[k]? = some (g (l.getD n d)) := by
  subst hk
  rw [List.getElem?_map, List.getD_eq_getElem?_getD, List.getElem?_eq_getElem h]; rfl
theorem mp_set {k n : Nat} {x : α} {c : List T} (hc : c = [g x]) (hk : k = n) (h : n < l.length) : splice (l.map g) k c = (l.set n x).map g := by
  subst hc; subst hk
  unfold splice
  rw [List.map_set, List.set_eq_take_append_cons_drop, if_pos (by simpa using h)]
  simp
theorem mp_app {c : List T} (hc : c = l2.map g) : sub (l.map g) 0 (l.length * 1) ++ c = (l ++ l2).map g := by
  subst hc
  have e : (l.map g).take (l.length * 1) = l.map g := List.take_of_length_le (by simp)
  simp only [sub, List.drop_zero, e, List.map_append]
theorem mp_app' {c : List T} {m : Nat} (hm : m = l.length) (hc : c = l2.map g) : sub (l.map g) 0 (m * 1) ++ c = (l ++ l2).map g := by
  subst hm; exact mp_app l l2 hc
theorem ref_len {id n m : Nat} (h : n = m) : T.ref id 1 0 n = T.ref id 1 0 m := by rw [h]
theorem mp_all : sub (l.map g) 0 (l.length * 1) = l.map g := by
  have e : (l.map g).take (l.length * 1) = l.map g := List.take_of_length_le (by simp)
  simp only [sub, List.drop_zero, e]
theorem mp_sub {a b : Nat} {lo hi : Int} (ha : a = lo.toNat) (hb : b = hi.toNat - lo.toNat) : sub (l.map g) (a * 1) (b * 1) = (slc l lo hi).map g := by
  subst ha; subst hb
  simp [sub, slc]
theorem sl_slc {t : Tag} {a b : Nat} {lo hi : Int} (h : 0 ≤ lo ∧ lo ≤ hi ∧ hi ≤ l.length) (ha : a = lo.toNat) (hb : b = hi.toNat) :
    T.sl 1 t (b - a) (sub (l.map g) (a * 1) ((b - a) * 1)) = T.sl 1 t (slc l lo hi).length ((slc l lo hi).map g) := by
  subst ha; subst hb
  rw [slc_length l h, mp_sub l (lo := lo) (hi := hi) rfl rfl]

theorem mp_ids (h : ∀ x, (g x).ids = []) : idsL (l.map g) = [] := by
  induction l with
  | nil => rfl
  | cons a l ih => simp only [List.map_cons, idsL, h a, List.nil_append]; exact ih
theorem mp_mem {i : Nat} (h : ∀ x, (g x).ids = []) : memN i (idsL (l.map g)) = false := by rw [mp_ids l h]; rfl
theorem mp_memA {i : Nat} (h : ∀ x, (g x).ids = []) : memN i (T.agg (l.map g)).ids = false := by simp only [T.ids]; exact mp_mem l h
theorem mp_sn {is : List Nat} (h : ∀ x, (g x).ids = []) : subN (idsL (l.map g)) is = true := by rw [mp_ids l h]; rfl
theorem mp_scal (h : ∀ x, (g x).scal = true) : scalL (l.map g) = true := by
  induction l with
  | nil => rfl
  | cons a l ih => simp only [List.map_cons, scalL, h a, Bool.true_and]; exact ih
theorem mp_noB (h : ∀ x, (g x).noB = true) : noBL (l.map g) = true := by
  induction l with
  | nil => rfl
  | cons a l ih => simp only [List.map_cons, noBL, h a, Bool.true_and]; exact ih
theorem mp_zeros {n : Nat} {x : α} {z : List Value} (hz : z.map T.leaf = [g x]) : zerosT z n = (List.replicate n x).map g := by
  induction n with
  | zero => rfl
  | succ n ih => simp only [zerosT, hz, ih, List.replicate_succ, List.map_cons]; rfl
end

theorem bytesOf_sOf (l : List UInt8) : bs (bytesOf (sOf l)) = u8s l := by
  simp [bytesOf, sOf, bs, u8s, Function.comp_def]
theorem sOf_size (l : List UInt8) : (sOf l).size = l.length := by simp [sOf, ByteArray.size]
theorem sOf_toList (l : List UInt8) : (sOf l).toList = l := by
  rw [Lib.toList_data]; simp [sOf]
theorem s_eq (a b : List UInt8) : tb ((sOf a).toList == (sOf b).toList) = tb (a == b) := by rw [sOf_toList, sOf_toList]
theorem s_ne (a b : List UInt8) : tb (!((sOf a).toList == (sOf b).toList)) = tb (a != b) := by rw [sOf_toList, sOf_toList]; rfl
theorem s_add (a b : List UInt8) : T.leaf (.string (sOf a ++ sOf b)) = ts (a ++ b) := by
  congr 2
  all_goals
    apply ByteArray.ext
    simp [sOf]
end Go.Vw

import Derived.Test.YtbppcnhfeobefaaDoorTy
import Derived.Test.YtbppcnhfeobefaaDoorEnVy0
import Derived.WalkKit
import Derived.Shelf.RegionOpenPlain
import Derived.Deep.RegionLaw
import Derived.Lib.Walk
import Derived.Deep.MidRow
set_option linter.unusedVariables false
set_option linter.unusedSimpArgs false
namespace Go.Proofs.YtbppcnhfeobefaaDoor
open Go Go.RowKit Go.Shelf Go.Proofs Go.Vw
attribute [local go_sem] Oper.semAt_some
theorem und67 : Tryd.prog.underlying 67 = some (.slice 76) := by kernel_rfl
theorem info76 : ∃ i, Tryd.prog.info? 76 = some i ∧ i.size = 4 := by
  have h : (Tryd.prog.info? 76).map (·.size) = some 4 := by kernel_rfl
  cases e : Tryd.prog.info? 76 with
  | none => rw [e] at h; cases h
  | some i => rw [e] at h; exact ⟨i, rfl, Option.some.inj h⟩
def zero76 : Value := .agg #[.int .u32 0, .slice none 0 0, .int .u64 0, .int .i64 0]
theorem zv76 (w : World) : (zeroValue 76).run Tryd.prog w = .ok zero76 w := by kernel_rfl
theorem zc76 (n : Nat) : (Builtin.zeroCells zero76.cells n).toList.length = n * 4 := by rw [Array.length_toList, size_zeroCells]; rfl
theorem zs76 (n : Nat) : ∀ v ∈ (Builtin.zeroCells zero76.cells n).toList, v = .int .u32 0 ∨ v = .slice none 0 0 ∨ v = .int .u64 0 ∨ v = .int .i64 0 := by
  intro v hv
  simp only [Builtin.zeroCells, Array.toList_map, List.mem_map] at hv
  obtain ⟨k, _, rfl⟩ := hv
  have h4 : k % 4 < 4 := Nat.mod_lt _ (by decide)
  have : zero76.cells = #[.int .u32 0, .slice none 0 0, .int .u64 0, .int .i64 0] := rfl
  rw [this]
  simp only [List.size_toArray, List.length_cons, List.length_nil, Nat.reduceAdd, Nat.zero_add]
  generalize k % 4 = r at h4
  match r, h4 with
  | 0, _ => exact .inl rfl
  | 1, _ => exact .inr (.inl rfl)
  | 2, _ => exact .inr (.inr (.inl rfl))
  | 3, _ => exact .inr (.inr (.inr rfl))
theorem scal_leaves : ∀ (zs : List Value), (∀ v ∈ zs, scalL [.leaf v] = true) → scalL (zs.map .leaf) = true
  | [], _ => rfl
  | z :: zs, h => by
    have h1 := h z (by simp)
    have h2 := scal_leaves zs (fun v hv => h v (by simp [hv]))
    simp only [List.map_cons, scalL, Bool.and_eq_true] at h1 ⊢
    exact ⟨h1.1, h2⟩
set_option maxRecDepth 100000 in
set_option maxHeartbeats 4000000 in
theorem delete_ok : DelOk Tryd.prog 98 4 := by
  intro b off n cap i j vs w hvl hij hj hnc hcell hfr
  have hic : i ≤ cap := by omega
  have hjc : j ≤ cap := by omega
  have hmo : Tryd.prog.follows .mixedOrders = true := by kernel_rfl
  obtain ⟨i0, hi0, hz0⟩ := info76
  obtain ⟨news, hnews⟩ : ∃ news, news = vs.drop (j * 4) := ⟨_, rfl⟩
  have hlen : news.length = (n - j) * 4 := by rw [hnews, List.length_drop, hvl]; omega
  obtain ⟨A, hA, hsrc⟩ : ∃ A : Addr, (if cap = j then some (⟨b, off, none⟩ : Addr) else some ⟨b, off + j * 4, none⟩) = some A ∧ (∀ t u, news[t]? = some u → w.drew.cell? (A.add t) = some u) := by
    by_cases h : cap = j
    · refine ⟨⟨b, off, none⟩, by simp [h], fun t u hu => ?_⟩
      have h0 : news.length = 0 := by rw [hlen]; omega
      rw [List.length_eq_zero_iff.1 h0] at hu
      simp at hu
    · refine ⟨⟨b, off + j * 4, none⟩, by simp [h], fun t u hu => ?_⟩
      rw [hnews, List.getElem?_drop] at hu
      have := (hcell _ _ hu).1
      rw [Addr.add_lit, Nat.add_assoc]; exact this
  have hone : ∀ u ∈ news, u.oneCell' = true := by
    intro u hu
    rw [hnews] at hu
    obtain ⟨k, hk⟩ := List.getElem?_of_mem (List.mem_of_mem_drop hu)
    exact (hcell _ _ hk).2
  have hsome : ∀ t, t < n * 4 → (w.cell? ⟨b, off + t, none⟩).isSome = true := fun t ht => by
    rw [(hcell t _ (List.getElem?_eq_getElem (by omega : t < vs.length))).1]; rfl
  have hspare : ∀ t, t < news.length → (w.drew.cell? ⟨b, off + i * 4 + t, none⟩).isSome = true ∧ w.drew.frozen? ⟨b, off + i * 4 + t, none⟩ = false := by
    intro t ht
    rw [hlen] at ht
    rw [Nat.add_assoc]
    exact ⟨hsome _ (by omega), hfr _ (by omega)⟩
  obtain ⟨W1, hW1⟩ : ∃ W1, W1 = w.drew.setCells b (off + i * 4) news := ⟨_, rfl⟩
  obtain ⟨zs, hzs⟩ : ∃ zs, zs = (Builtin.zeroCells zero76.cells (n - (i + (n - j)))).toList := ⟨_, rfl⟩
  have hzl : zs.length = (j - i) * 4 := by rw [hzs, zc76]; omega
  have hzc : scalL (zs.map .leaf) = true := scal_leaves zs fun v hv => by
    rw [hzs] at hv
    rcases zs76 _ v hv with rfl | rfl | rfl | rfl <;> rfl
  have hcl : ∀ ty, (Builtin.clear_ #[67] ty #[.slice (some ⟨b, off + (i + (n - j)) * 4, none⟩) (n - (i + (n - j))) (cap - (i + (n - j)))]).run Tryd.prog W1 = .ok (.tuple #[]) (W1.setCells b (off + (i + (n - j)) * 4) zs) := by
    intro ty
    rw [hzs]
    refine run_clear_m W1 67 76 ty zero76 und67 zv76 (fun v hv => ?_) b (off + (i + (n - j)) * 4) _ (by omega) (fun t ht => ?_) (fun t ht => ?_)
    · rcases zs76 _ v hv with rfl | rfl | rfl | rfl <;> rfl
    · rw [zc76] at ht
      rw [hW1, Nat.add_assoc]
      exact World.isSome_setCells b _ _ _ _ (show (w.cell? _).isSome = true from hsome _ (by omega))
    · rw [zc76] at ht
      rw [hW1, World.frozen?_setCells, Nat.add_assoc]
      exact hfr _ (by omega)
  have hW : Hid (W1 = w.drew.setCells b (off + i * 4) news) := hW1
  have hfin : Hid (∃ (W2 : World) (zs' : List Value), Keeps (fun _ => False) w W2 ∧ zs'.length = (j - i) * 4 ∧ scalL (zs'.map .leaf) = true ∧ W1.setCells b (off + (i + (n - j)) * 4) zs = (W2.setCells b (off + i * 4) (vs.drop (j * 4))).setCells b (off + (n - (j - i)) * 4) zs') :=
    ⟨w.drew, zs, Keeps.drew _ w, hzl, hzc, by rw [hW1, hnews, show i + (n - j) = n - (j - i) by omega]⟩
  have hret : Hid (i + (n - j) = n - (j - i)) := by show i + (n - j) = n - (j - i); omega
  clear hnews hcell hfr hsome hW1 hzs hzl hzc
  go_enter Tryd.func98, Tryd.ntmps98
  go_wp2_with fail
  go_region_law_o (refine step_append_room rfl (.tmp 22) (.tmp 25) 67 rfl 76 i0 4 und67 hi0 hz0 b off i cap (by simp [Act.eval, Act.put]) A (n - j) (cap - j) news (by simp [Act.eval, Act.put]) hlen hsrc hone (by omega) hspare ?_; rw [← hW.out])
  go_wp2
  go_ret
  exact ⟨by rw [hret.out]; rfl, hfin.out⟩
end Go.Proofs.YtbppcnhfeobefaaDoor

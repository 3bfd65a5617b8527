import Derived.Test.YtbppcnhfeobefaaDoorG8
set_option linter.unusedVariables false
set_option linter.unusedSimpArgs false
namespace Go.Proofs.YtbppcnhfeobefaaDoor
open Go Go.Vw Go.Proofs
def ver (v : Ver) : List UInt8 := be64 v.2.2.1 ++ ([u8i v.2.2.2, u8i (v.2.1.length : Int)] ++ v.2.1)
def be32 (a : UInt32) : List UInt8 := [(shr32 a 24).toUInt8, (shr32 a 16).toUInt8, (shr32 a 8).toUInt8, (shr32 a 0).toUInt8]
def encE (l : List Ver) (a : UInt32) (b : Int) : List UInt8 := 115 :: 101 :: u8i b :: (be32 a ++ (u8i (l.length : Int) :: l.flatMap ver))
theorem whole8 (n : UInt64) : engine_whole n 8 = be64 n := by rw [whole_eq n 8 (by decide)]; rfl
theorem sh (a : UInt32) {k : Int} {m : Nat} (hk : 2 ^ k.toNat = m) : (shr64 a.toUInt64 k).toUInt8 = (shr32 a k).toUInt8 := by
  apply UInt8.toNat_inj.1; rw [shr8_64 _ hk, shr8_32 _ hk, UInt32.toNat_toUInt64]
theorem whole4 (a : UInt32) : engine_whole a.toUInt64 4 = be32 a := by
  rw [whole_eq _ 4 (by decide)]
  show [(shr64 a.toUInt64 24).toUInt8, (shr64 a.toUInt64 16).toUInt8, (shr64 a.toUInt64 8).toUInt8, (shr64 a.toUInt64 0).toUInt8] = _
  rw [sh a q24, sh a q16, sh a q8, sh a q0]; rfl
theorem flat_getV {β : Type} (h : Ver → List β) (l : List Ver) : (List.range l.length).flatMap (fun k => h (l.getD k (0, [], 0, 0))) = l.flatMap h := by
  induction l with
  | nil => rfl
  | cons a l ih =>
    rw [List.length_cons, List.range_succ_eq_map, List.flatMap_cons, List.flatMap_map, List.flatMap_cons, ← ih]; rfl
theorem enc_eq30 (l : List Ver) (a : UInt32) (b : Int) : (okE l a b ∧ engine_Encode l a b = (encE l a b, 0)) ∨ (¬ okE l a b ∧ engine_Encode l a b = ([], 1)) := by
  rw [engine_Encode, bnd_eq]
  rcases check_or l a b with ⟨h1, h2⟩ | ⟨h1, h2⟩
  · left; refine ⟨h2, ?_⟩
    rw [h1]
    show _root_.cond false _ _ = _
    rw [cond_false, bnd_eq, concat_eq, whole4, appLoop (f := engine_Encode_l1 l) (n := (l.length : Int)) (g := fun i => ver (l.getD i.toNat (0, [], 0, 0))) (fun m i o h => by
      rw [engine_Encode_l1, bnd_eq, concat_eq, whole8]; simp only [List.flatten_cons, List.flatten_nil, List.append_nil, ver]) _ _ _ (Int.le_refl 0) (Nat.lt_succ_self _)]
    show engine_Encode_k1 _ = _
    rw [engine_Encode_k1, Int.sub_zero, Int.toNat_natCast]
    simp only [Int.zero_add, Int.toNat_natCast]
    rw [flat_getV]
    simp [encE]
  · right; refine ⟨h2, ?_⟩
    rw [h1]; rfl
theorem refl3 (l : List Ver) (t : Int) (o : List UInt8) : bursaryref30_Encode_l3 l t (((56 : Int) + 1).toNat + 1) 56 o = .brk (o ++ be64 ((l.getD t.toNat (0, [], 0, 0)).2.2.1)) := by
  rw [show (((56 : Int) + 1).toNat + 1) = 58 from rfl]
  rw [bursaryref30_Encode_l3, decide_eq_true (by decide), cond_true, bursaryref30_Encode_l3, decide_eq_true (by decide), cond_true, bursaryref30_Encode_l3, decide_eq_true (by decide), cond_true, bursaryref30_Encode_l3, decide_eq_true (by decide), cond_true, bursaryref30_Encode_l3, decide_eq_true (by decide), cond_true, bursaryref30_Encode_l3, decide_eq_true (by decide), cond_true, bursaryref30_Encode_l3, decide_eq_true (by decide), cond_true, bursaryref30_Encode_l3, decide_eq_true (by decide), cond_true, bursaryref30_Encode_l3, decide_eq_false (by decide), cond_false]
  rw [show (((u64i (56 - 8) : UInt64).toNat : Nat) : Int) = 48 from by decide, show (((u64i (56 - 8 - 8) : UInt64).toNat : Nat) : Int) = 40 from by decide, show (((u64i (56 - 8 - 8 - 8) : UInt64).toNat : Nat) : Int) = 32 from by decide, show (((u64i (56 - 8 - 8 - 8 - 8) : UInt64).toNat : Nat) : Int) = 24 from by decide, show (((u64i (56 - 8 - 8 - 8 - 8 - 8) : UInt64).toNat : Nat) : Int) = 16 from by decide, show (((u64i (56 - 8 - 8 - 8 - 8 - 8 - 8) : UInt64).toNat : Nat) : Int) = 8 from by decide, show (((u64i (56 - 8 - 8 - 8 - 8 - 8 - 8 - 8) : UInt64).toNat : Nat) : Int) = 0 from by decide, show (((u64i 56 : UInt64).toNat : Nat) : Int) = 56 from by decide]
  simp [be64]
theorem refenc30 (l : List Ver) (a : UInt32) (b : Int) : (okE l a b ∧ bursaryref30_Encode l a b = (encE l a b, 0)) ∨ (¬ okE l a b ∧ bursaryref30_Encode l a b = ([], 1)) := by
  rw [bursaryref30_Encode, bnd_eq]
  rcases mayS_or l a b with ⟨h1, h2⟩ | ⟨h1, h2⟩
  · left; refine ⟨h2, ?_⟩
    rw [h1]
    show _root_.cond false _ _ = _
    rw [cond_false, show (((24 : Int) + 1).toNat + 1) = 26 from rfl]
    rw [bursaryref30_Encode_l1, decide_eq_true (by decide), cond_true, bursaryref30_Encode_l1, decide_eq_true (by decide), cond_true, bursaryref30_Encode_l1, decide_eq_true (by decide), cond_true, bursaryref30_Encode_l1, decide_eq_true (by decide), cond_true, bursaryref30_Encode_l1, decide_eq_false (by decide), cond_false]
    rw [show (((u64i (24 - 8) : UInt64).toNat : Nat) : Int) = 16 from by decide, show (((u64i (24 - 8 - 8) : UInt64).toNat : Nat) : Int) = 8 from by decide, show (((u64i (24 - 8 - 8 - 8) : UInt64).toNat : Nat) : Int) = 0 from by decide, show (((u64i 24 : UInt64).toNat : Nat) : Int) = 24 from by decide]
    show bursaryref30_Encode_k1 l _ = _
    rw [bursaryref30_Encode_k1, appLoop (f := bursaryref30_Encode_l2 l) (n := (l.length : Int)) (g := fun i => ver (l.getD i.toNat (0, [], 0, 0))) (fun m i o h => by
      rw [bursaryref30_Encode_l2, refl3]
      show _root_.cond _ (bursaryref30_Encode_l2 l m (i + 1) _) _ = _
      simp only [ver, List.append_assoc]) _ _ _ (Int.le_refl 0) (Nat.lt_succ_self _)]
    show bursaryref30_Encode_k2 _ = _
    rw [bursaryref30_Encode_k2, Int.sub_zero, Int.toNat_natCast]
    simp only [Int.zero_add, Int.toNat_natCast]
    rw [flat_getV]
    simp [encE, be32]
  · right; refine ⟨h2, ?_⟩
    rw [h1]; rfl
end Go.Proofs.YtbppcnhfeobefaaDoor

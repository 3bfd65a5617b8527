import Derived.Test.YtbppcnhfeobefabDoorG6
set_option linter.unusedVariables false
set_option linter.unusedSimpArgs false
namespace Go.Proofs.YtbppcnhfeobefabDoor
open Go Go.Vw Go.Proofs
theorem kkeeps_l1 (a1 : List (List UInt8)) : ∀ (m : Nat) (t : Int) (c : List Tm) (o : List (List UInt8)), okR c → o.length = c.length → (∀ i, i < c.length → fxa 32 (c.getD i (0, [])).2 = fxa 32 (o.getD i [])) → ((a1.length : Int) - t).toNat < m →
  ∃ (c' : List Tm) (o' : List (List UInt8)), b9_KeyringKeeps_l1 a1 m t c o = .brk (c', o') ∧ okR c' ∧ o'.length = c'.length ∧ (∀ i, i < c'.length → fxa 32 (c'.getD i (0, [])).2 = fxa 32 (o'.getD i []))
 | 0, _, _, _, _, _, _, h => absurd h (Nat.not_lt_zero _)
 | m + 1, t, c, o, hc, ho, hg, hm => by
  rw [b9_KeyringKeeps_l1]
  by_cases q : t < (a1.length : Int) ∧ t < 24
  ·rw [show ((decide (t < (a1.length : Int))) && (decide (t < 24))) = true by rw [Bool.and_eq_true, decide_eq_true_eq, decide_eq_true_eq]; exact q, cond_true, bnd_eq, bnd_eq, rot_eq hc]
   by_cases c16 : c.length = 16
   ·rw [if_pos c16, decide_eq_false (by omega : ¬ (o.length : Int) < 16)]
    exact kkeeps_l1 a1 m (t + 1) c o hc ho hg (by omega)
   ·have := hc.2.1
    rw [if_neg c16, decide_eq_true (by omega : (o.length : Int) < 16)]
    refine kkeeps_l1 a1 m (t + 1) _ _ (okR_snoc hc (by omega) _) (by simp [ho]) (fun i hi => ?_) (by omega)
    rw [gD_app, gD_app, ho]
    by_cases r : i < c.length
    ·rw [if_pos r, if_pos r]; exact hg i r
    ·have : i = c.length := by simp at hi; omega
     rw [if_neg r, if_neg r, this, Nat.sub_self]
     exact Go.Vw.fxa_fxa 32 _
  ·rw [show ((decide (t < (a1.length : Int))) && (decide (t < 24))) = false by rw [← Bool.not_eq_true, Bool.and_eq_true, decide_eq_true_eq, decide_eq_true_eq]; exact q, cond_false]
   exact ⟨c, o, rfl, hc, ho, hg⟩
theorem kkeeps_l2 (c d : List Tm) (o : List (List UInt8)) (hc : okR c) (hd : okR d) (hcl : o.length = c.length) (hdl : d.length = c.length) (hg : ∀ i, i < c.length → fxa 32 (c.getD i (0, [])).2 = fxa 32 (o.getD i [])) (hh : ∀ i, i < c.length → fxa 32 (d.getD i (0, [])).2 = fxa 32 (c.getD i (0, [])).2) :
  ∀ (m t : Nat), t ≤ c.length → c.length - t < m → b9_KeyringKeeps_l2 c o (d, 0) m (t : Int) = .brk ()
 | 0, _, _, h => absurd h (Nat.not_lt_zero _)
 | m + 1, t, h1, h2 => by
  rw [b9_KeyringKeeps_l2]
  by_cases q : t < c.length
  ·rw [decide_eq_true (by omega : (t : Int) < (o.length : Int)), cond_true, bnd_eq, bnd_eq]
   show (bif _ then _ else _) = _
   rw [ring_find_eq hc t q, show kr_Find ((d, (0 : Int)) : List Tm × Int).1 (u32i ((t : Int) + 1)) = _ from ring_find_eq hd t (by omega), hh t q, Int.toNat_natCast, Go.Vw.fxa_fxa, hg t q]
   have w := kkeeps_l2 c d o hc hd hcl hdl hg hh m (t + 1) (by omega) (by omega)
   rw [Int.natCast_add t 1] at w
   simpa using w
  ·rw [decide_eq_false (by omega : ¬ (t : Int) < (o.length : Int)), cond_false]
theorem kkeeps_true (a0 : List UInt8) (a1 : List (List UInt8)) : b9_KeyringKeeps a0 a1 = true := by
 rw [b9_KeyringKeeps, bnd_eq, kr_First]
 obtain ⟨c, o, e, hc, ho, hg⟩ := kkeeps_l1 a1 (((a1.length : Int) - (0 : Int)).toNat + 1) 0 [(1, fxa 32 a0)] [a0] (okR_one _) rfl (fun i hi => by
  have : i = 0 := by simpa using hi
  subst this; exact Go.Vw.fxa_fxa 32 _) (Nat.lt_succ_self _)
 rw [e]
 show b9_KeyringKeeps_k1 c o = true
 rw [b9_KeyringKeeps_k1, bnd_eq, ring_enc_ok hc, bnd_eq]
 have hd := dec_enc hc
 have hok : okR (rl (keysOf c) c.length) := (rl_ok _ _).2 ⟨hc.1, hc.2.1⟩
 rw [show kr_Decode (([107, 114, u8i (c.length : Int)] ++ keysOf c, (0 : Int)) : List UInt8 × Int).1 = _ from hd]
 have hne : (((rl (keysOf c) c.length, (0 : Int)).1.length : Int) != (o.length : Int)) = false := by
  rw [bne_eq_false_iff_eq]; show ((rl (keysOf c) c.length).length : Int) = _; rw [rl_len, ho]
 rw [hne]
 show Lo.el (b9_KeyringKeeps_l2 c o (rl (keysOf c) c.length, 0) _ ((0 : Nat) : Int)) _ = true
 rw [kkeeps_l2 c (rl (keysOf c) c.length) o hc hok ho (rl_len _ _) hg (fun i hi => by rw [rl_get _ _ _ hi]; show fxa 32 (chk (keysOf c) 32 i) = _; rw [keys_chk c i hi, Go.Vw.fxa_fxa]) _ 0 (Nat.zero_le _) (by omega)]
 show b9_KeyringKeeps_k2 = true
 rw [b9_KeyringKeeps_k2, sure19]
end Go.Proofs.YtbppcnhfeobefabDoor

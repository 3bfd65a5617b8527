/- Nonce: the plain law. -/
import Derived.Test.YtmedboagdnpkbaaDoorD3
namespace Go.Proofs.YtmedboagdnpkbaaDoor
open Go Go.Vw Go.Proofs
theorem bnd_eq {α β : Type} (v : α) (F : α → β) : bnd v F = F v := (fun h => h) rfl
theorem sure18 : bursarylaw18_sure = true := by kernel_rfl
theorem take_eq (a b c : UInt64) : nonce_Counter_Take a b c = bif decide (a ≥ b) then (0, 2, (a, b, c)) else (a, 0, (a + 1, b, c)) := by
  rw [nonce_Counter_Take, nonce_Counter_Take_l1]
  cases decide (a ≥ b) <;> rfl
theorem ext_eq (a b c : UInt64) : nonce_Counter_Extend a b c = bif b == c then (0, 8, (a, b, c)) else (if c < b + 16 then c else b + 16, 0, (a, if c < b + 16 then c else b + 16, c)) := by
  rw [nonce_Counter_Extend, nonce_Counter_Extend_l1]
  cases b == c <;> rfl
theorem new_ok {m l : UInt64} (h1 : m.toNat ≤ l.toNat) (h2 : l.toNat ≤ 281474976710656) : nonce_New m l = (some (m, m, l), 0) := by
  have e1 : decide (m > l) = false := decide_eq_false (by show ¬ l < m; rw [UInt64.lt_iff_toNat_lt]; omega)
  have e : UInt64.toNat 281474976710656 = 281474976710656 := rfl
  have e2 : decide (l > 281474976710656) = false := decide_eq_false (by show ¬ _ < l; rw [UInt64.lt_iff_toNat_lt, e]; omega)
  rw [nonce_New, e1, e2]; rfl
theorem lim : UInt64.toNat 1099511627776 = 1099511627776 := rfl
theorem n16 : UInt64.toNat 16 = 16 := rfl
theorem n1 : UInt64.toNat 1 = 1 := rfl
theorem n0 : UInt64.toNat 0 = 0 := rfl
theorem add16 {b : UInt64} (h : b.toNat ≤ 5000) : (b + 16).toNat = b.toNat + 16 := by rw [UInt64.toNat_add, n16]; omega
theorem add1 {b : UInt64} (h : b.toNat ≤ 5000) : (b + 1).toNat = b.toNat + 1 := by rw [UInt64.toNat_add, n1]; omega
theorem ext_ok {a b : UInt64} (h : b.toNat ≤ 5000) : nonce_Counter_Extend a b 1099511627776 = (b + 16, 0, (a, b + 16, 1099511627776)) := by
  have e1 : (b == 1099511627776) = false := by
    cases h1 : b == 1099511627776 with
    | false => rfl
    | true =>
      have h1 : b = 1099511627776 := eq_of_beq h1
      rw [h1, lim] at h; omega
  have e2 : ¬ (1099511627776 : UInt64) < b + 16 := by rw [UInt64.lt_iff_toNat_lt, add16 h, lim]; omega
  rw [ext_eq, e1, cond_false, if_neg e2]

theorem once_loop (l : List UInt8) : ∀ (m : Nat) (w last : UInt64) (any : Bool) (i : Int) (a : UInt64), 0 ≤ i → (w.toNat : Int) ≤ 16 * i → a.toNat ≤ w.toNat → (any = true → last.toNat < a.toNat) → ((l.length : Int) - i).toNat < m →
    Lo.el (bursarylaw18_NonceOnce_l1 l m w last any i a w 1099511627776) (fun z => bursarylaw18_NonceOnce_k1 z.1 z.2.1 z.2.2) = true := by
  intro m
  induction m with
  | zero => intro w last any i a _ _ _ _ hm; exact absurd hm (Nat.not_lt_zero _)
  | succ m ih =>
    intro w last any i a h0 hw ha hl hm
    rw [bursarylaw18_NonceOnce_l1]
    cases hg : (decide (i < (l.length : Int))) && (decide (i < 300)) with
    | false => exact sure18
    | true =>
      obtain ⟨g1, g2⟩ := Bool.and_eq_true_iff.1 hg
      have g1 := of_decide_eq_true g1
      have g2 := of_decide_eq_true g2
      rw [cond_true]
      have hwn : w.toNat ≤ 5000 := by omega
      cases ((l.getD i.toNat 0) % 4) == 0 with
      | true =>
        rw [cond_true, ext_ok hwn, bnd_eq]
        have e : decide (w + 16 ≤ w) = false := decide_eq_false (by rw [UInt64.le_iff_toNat_le, add16 hwn]; omega)
        have e' : ((!(decide ((0 : Int) = 0))) || (decide (w + 16 ≤ w))) = false := by rw [e]; rfl
        show Lo.el (bif ((!(decide ((0 : Int) = 0))) || (decide (w + 16 ≤ w))) then _ else _) _ = true
        rw [e', cond_false]
        exact ih (w + 16) last any (i + 1) a (by omega) (by rw [add16 hwn]; omega) (by rw [add16 hwn]; omega) hl (by omega)
      | false =>
        rw [cond_false]
        cases ((l.getD i.toNat 0) % 4) == 1 with
        | true =>
          rw [cond_true]
          cases decide ((l.getD i.toNat 0) < 32) with
          | true =>
            rw [cond_true, new_ok (m := w) (l := 1099511627776) (by rw [lim]; omega) (by rw [lim]; omega)]
            exact ih w last any (i + 1) w (by omega) (by omega) (Nat.le_refl _) (fun h => by have := hl h; omega) (by omega)
          | false =>
            rw [cond_false]
            exact ih w last any (i + 1) a (by omega) (by omega) ha hl (by omega)
        | false =>
          rw [cond_false, take_eq, bnd_eq]
          by_cases hc : a ≥ w
          · have hc' : decide (a ≥ w) = true := decide_eq_true hc
            have haw : a = w := by
              apply UInt64.toNat_inj.1
              have : w.toNat ≤ a.toNat := UInt64.le_iff_toNat_le.1 hc
              omega
            subst haw
            rw [hc', cond_true]
            have e5 : (!(decide ((2 : Int) = 0))) = true := rfl
            have e6 : (id (2 : Int) != 2) = false := rfl
            show Lo.el (bif (!(decide ((2 : Int) = 0))) then (bif (id (2 : Int) != 2) then _ else bnd (nonce_Counter_Left a a 1099511627776) _) else _) _ = true
            rw [e5, cond_true, e6, cond_false, bnd_eq, nonce_Counter_Left]
            have e : (a - a != 0) = false := by rw [UInt64.sub_self]; rfl
            show Lo.el (bif (a - a != 0) then _ else _) _ = true
            rw [e, cond_false]
            exact ih a last any (i + 1) a (by omega) (by omega) ha hl (by omega)
          · have hc' : decide (a ≥ w) = false := decide_eq_false hc
            have haw : a.toNat < w.toNat := by
              have : ¬ w.toNat ≤ a.toNat := fun h => hc (UInt64.le_iff_toNat_le.2 h)
              omega
            rw [hc', cond_false]
            show Lo.el (bif (decide (a ≥ w)) || (any && (decide (a ≤ last))) then _ else _) _ = true
            have e : (any && (decide (a ≤ last))) = false := by
              cases any with
              | false => rfl
              | true =>
                have := hl rfl
                rw [Bool.true_and]; exact decide_eq_false (by rw [UInt64.le_iff_toNat_le]; omega)
            rw [hc', e]
            have e1 : (a + 1).toNat = a.toNat + 1 := add1 (by omega)
            exact ih w a true (i + 1) (a + 1) (by omega) (by omega) (by omega) (fun _ => by omega) (by omega)

theorem nonceOnce_true (l : List UInt8) : bursarylaw18_NonceOnce l = true := by
  rw [bursarylaw18_NonceOnce, new_ok (m := 0) (l := 1099511627776) (by rw [lim, n0]; omega) (by rw [lim]; omega)]
  exact once_loop l _ 0 0 false 0 0 (by omega) (by rw [n0]; omega) (Nat.le_refl _) (fun h => by cases h) (by omega)
end Go.Proofs.YtmedboagdnpkbaaDoor

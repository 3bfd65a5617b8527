import Derived.Test.YtbppcnhfeobefaaDoorD6
import Derived.Test.YtbppcnhfeobefaaDoorEnVy0
set_option linter.unusedVariables false
set_option linter.unusedSimpArgs false
namespace Go.Proofs.YtbppcnhfeobefaaDoor
open Go Go.Vw Go.Proofs
theorem ixb_m (s : List UInt8) (c : UInt8) : Meets Tryd.prog 146 [ts s, t8 c] [] [] (ti (ixb s c)) [] := meets_ixb Tryd.func146 (by kernel_rfl) (by kernel_rfl) (by kernel_rfl) (by kernel_rfl) s c
noncomputable def internal_stringslite_IndexByte (s : List UInt8) (c : UInt8) : Int :=
  bnd (ixb s c) fun x1 =>
  x1
def internal_stringslite_IndexByte_enc (x : Int) : T × List (Nat × List T) := (ti x, [])
theorem internal_stringslite_IndexByte_m (s : List UInt8) (c : UInt8) : Meets Tryd.prog 136 [ts s, t8 c] [] [] (ti (internal_stringslite_IndexByte s c)) [] := by
  refine Meets.enterX (E := E) (N := 8) (enc := internal_stringslite_IndexByte_enc) (x := (internal_stringslite_IndexByte s c)) Tryd.func136 Tryd.call136 rfl rfl ?_
  intro Γ k hk
  refine Go.rx 20 {} [] [0, 1] _ [(0, ts s), (1, t8 c)] [] hk rfl kr .nil ?_
  clear hk; intro k hk
  refine Go.rx 20 { ws := [(2, { call := some { ids := [], S := [], M := [], R := ti (ixb s c), H' := [] } })] } [] [4] _ [(4, ti (ixb s c))] [] hk rfl kr (.cons (ixb_m s c) (.cons (sb : subN (idsL [ts s, t8 c]) [] = true) .nil)) ?_
  clear hk; intro k hk
  refine Go.bnd (Pf := (PostX Γ internal_stringslite_IndexByte_enc)) (v := (ixb s c)) (fun x1 => [(4, ti x1)]) (fun x1 => []) ?_
  intro x1 hx1
  exact Go.lvx 20 [] _ [ti x1] Tryd.func136 hk rfl kr .nil (T.Le.of_eq rfl) rfl rfl .nil
attribute [irreducible] internal_stringslite_IndexByte
noncomputable def strings_IndexByte (s : List UInt8) (c : UInt8) : Int :=
  bnd (internal_stringslite_IndexByte s c) fun x1 =>
  x1
def strings_IndexByte_enc (x : Int) : T × List (Nat × List T) := (ti x, [])
theorem strings_IndexByte_m (s : List UInt8) (c : UInt8) : Meets Tryd.prog 119 [ts s, t8 c] [] [] (ti (strings_IndexByte s c)) [] := by
  refine Meets.enterX (E := E) (N := 8) (enc := strings_IndexByte_enc) (x := (strings_IndexByte s c)) Tryd.func119 Tryd.call119 rfl rfl ?_
  intro Γ k hk
  refine Go.rx 20 {} [] [0, 1] _ [(0, ts s), (1, t8 c)] [] hk rfl kr .nil ?_
  clear hk; intro k hk
  refine Go.rx 20 { ws := [(2, { call := some { ids := [], S := [], M := [], R := ti (internal_stringslite_IndexByte s c), H' := [] } })] } [] [4] _ [(4, ti (internal_stringslite_IndexByte s c))] [] hk rfl kr (.cons (internal_stringslite_IndexByte_m s c) (.cons (sb : subN (idsL [ts s, t8 c]) [] = true) .nil)) ?_
  clear hk; intro k hk
  refine Go.bnd (Pf := (PostX Γ strings_IndexByte_enc)) (v := (internal_stringslite_IndexByte s c)) (fun x1 => [(4, ti x1)]) (fun x1 => []) ?_
  intro x1 hx1
  exact Go.lvx 20 [] _ [ti x1] Tryd.func119 hk rfl kr .nil (T.Le.of_eq rfl) rfl rfl .nil
attribute [irreducible] strings_IndexByte
end Go.Proofs.YtbppcnhfeobefaaDoor

/- Calls, in the walk's own form. -/
import Derived.Test.YtdlnppcndcfikaaVw15
namespace Go.Vw
set_option linter.unusedVariables false
set_option linter.unusedSimpArgs false
open Go Go.RowKit

/-- A call that is handed no object and leaves none. -/
theorem callC_pure {P : Program} {σ : St} {op : Op} {dst : Option Nat} {K : Eff → List Nat → Prop} {f : FuncId} {A : List T} {R : T} {xs : Array Operand} {ts : Array TypeId} (hM : Meets P f A [] [] R [])
    (ho : op = .call { callee := .value (.func f), args := xs, argTypes := ts }) (hA : evL σ.ev xs.toList = some A) (hi : idsL A = []) (k : K { val := R } []) : callC P σ op dst K := by
  refine ⟨_, _, fun o ho' _ => acts_call (S := []) (M := []) (AV := A) hM (ho'.trans ho) rfl rfl hA (by simp [snapL_nil]) (snapOkL_nil _ _) (by simp [look]) (by simp [look]) (by simp [hi]) (by simp) (.inl rfl) rfl (by simp) (by simp), ?_⟩
  simpa [notStay] using k

theorem look_memq {α : Type} : ∀ {H : List (Nat × α)} {i : Nat} {x : α}, look H i = some x → (i, x) ∈ H
  | [], _, _, h => by simp [look] at h
  | (j, y) :: H, i, x, h => by
    simp only [look] at h
    split at h
    · rename_i e; subst e; injection h with h; subst h; exact List.mem_cons_self ..
    · exact List.mem_cons_of_mem _ (look_memq h)

theorem look_of_mem {α : Type} : ∀ {H : List (Nat × α)} {i : Nat}, i ∈ H.map (·.1) → look H i ≠ none
  | [], _, h => by simp at h
  | (j, y) :: H, i, h => by
    simp only [look]
    split
    · simp
    · rename_i e
      simp only [List.map_cons, List.mem_cons] at h
      exact look_of_mem (h.resolve_left (Ne.symm e))

theorem look_none {α : Type} : ∀ {H : List (Nat × α)} {i : Nat}, i ∉ H.map (·.1) → look H i = none
  | [], _, _ => rfl
  | (j, y) :: H, i, h => by
    simp only [List.map_cons, List.mem_cons, not_or] at h
    simp only [look]; rw [if_neg (Ne.symm h.1)]; exact look_none h.2

/-- A call that is handed objects: those of H are its own then, those of M it may read. -/
theorem callC_obj {P : Program} {σ : St} {op : Op} {dst : Option Nat} {K : Eff → List Nat → Prop} {f : FuncId} {AV A : List T} {R : T} {H H' : List (Nat × List T)} {S D : List Nat} (M : List Nat) {xs : Array Operand} {ts : Array TypeId} (hM : Meets P f A H S R H')
    (ho : op = .call { callee := .value (.func f), args := xs, argTypes := ts }) (hA : evL σ.ev xs.toList = some AV) (hsn : snapL σ.h M AV = A) (hsO : snapOkL σ.h M AV)
    (hH : ∀ p ∈ H, σ.h p.1 = some p.2) (hcl : ∀ p ∈ H, ∀ j ∈ idsL p.2, j ∈ H.map (·.1)) (hAi : ∀ i ∈ idsL A, i ∈ H.map (·.1)) (hMH : ∀ i ∈ M, i ∉ H.map (·.1) ∧ i ∉ H'.map (·.1))
    (hnb : M = [] ∨ (R.noB = true ∧ ∀ q ∈ H', noBL q.2 = true)) (h1 : once H' = true) (hSH : ∀ i ∈ S, i ∈ H.map (·.1) ∧ i ∈ H'.map (·.1)) (hD : notStay S H = D)
    (k : K { val := R, drops := D, puts := H', stay := S } (H.map (·.1) ++ M)) : callC P σ op dst K := by
  subst hD
  refine ⟨_, _, fun o ho' _ => acts_call (S := S) (M := M) (AV := AV) hM (ho'.trans ho) rfl rfl hA (by simpa using hsn) (by simpa using hsO) (fun i cs q => hH (i, cs) (look_memq q)) (fun i cs q j hj => look_of_mem (hcl (i, cs) (look_memq q) j hj)) (fun i hi => look_of_mem (hAi i hi))
    (fun i hi => look_none (hMH i hi).1) hnb h1 (fun i hi => ⟨look_of_mem (hSH i hi).1, look_of_mem (hSH i hi).2⟩) (fun i hi => look_none (hMH i hi).2), k⟩

section
variable {E : Env} {Γ : Cx} {f : FuncId} {N : Nat} {S : List Nat} {k k0 rest : List Item} {σ : St} {R : T}
/-- The function returns, and hands on no object. -/
theorem Go.leave0 {fn : Func} (n : Nat) (hfn : E.P.funcs[f]? = some fn) (hk : k = k0) (he : normI n k0 = [] ∨ ∃ rest, normI n k0 = .code .ret :: rest) {vs : List T} (hr : resL E σ fn.results.toList vs) (hR : tupT vs = R)
    (hi : R.ids = []) : Go E Γ f N S (PostR Γ R []) k σ :=
  Go.leave n hfn hk he hr hR (by simp [look]) (by simp [hi]) (by simp [look])
end

theorem wrap_u64 {x : Int} (h0 : 0 ≤ x) (h1 : x < 18446744073709551616) : IntKind.u64.wrap x = x := by
  simp only [IntKind.wrap, IntKind.bits, IntKind.signed, Bool.false_and, Bool.false_eq_true, if_false]
  exact Int.emod_eq_of_lt h0 h1
end Go.Vw

/- %s -/
import Derived.Test.YtmedboagdnpkbaaDoorTy
import Derived.Test.YtmedboagdnpkbaaDoorAs
import Derived.Test.YtmedboagdnpkbaaDoorVx7
namespace Go.Proofs.YtmedboagdnpkbaaDoor
open Go Go.Vw Go.Proofs
theorem meets_errAs (i : Nat) (n o : Int) : Meets Tryd.prog 52 [.iface 83 (.leaf (.int .i64 n)), .iface 85 (.addr i 0)] [(i, [.leaf (.int .i64 o)])] [i] (.leaf (.bool true)) [(i, [.leaf (.int .i64 n)])] := by
  refine meets_as Tryd.call52 (fun e t old w hc hf hk => ?_) i n o
  have hg : w.cell? ⟨0, 0, none⟩ = some (.iface 118 (.agg #[.pointer (some ⟨1, 25, none⟩)])) := hk 0 [.iface 118 (.agg #[.pointer (some ⟨1, 25, none⟩)])] ⟨by kernel_rfl, 118, 25, by kernel_rfl, of_decide_eq_true (by kernel_rfl), by kernel_rfl, by kernel_rfl⟩ 0 _ rfl
  refine (as_hit e t old w hg hc hf).mono ?_
  rintro ev w' ⟨rfl, rfl⟩
  refine ⟨rfl, _, ?_, rfl⟩
  exact (((Keeps.alloc _ _ _).trans (Keeps.alloc _ _ _) (fun _ _ h => h)).trans (Keeps.alloc _ _ _) (fun _ _ h => h)).trans (Keeps.alloc _ _ _) (fun _ _ h => h)
noncomputable def clock_Tick (now : UInt64) (by_ : UInt64) : UInt64 :=
  bif decide (by_ > (18446744073709551615 - now)) then
    18446744073709551615
  else
    now + by_
def clock_Tick_enc (x : UInt64) : T × List (Nat × List T) := (t64 x, [])
theorem clock_Tick_m (now : UInt64) (by_ : UInt64) : Meets Tryd.prog 12 [t64 now, t64 by_] [] [] (t64 (clock_Tick now by_)) [] := by
  refine Meets.enterX (E := E) (N := 12) (enc := clock_Tick_enc) (x := (clock_Tick now by_)) Tryd.func12 Tryd.call12 rfl rfl ?_
  intro Γ k hk
  refine Go.rx 20 {} [] [0, 1] _ [(0, t64 now), (1, t64 by_)] [] hk rfl (by as_aux_lemma => kernel_rfl) .nil ?_
  clear hk; intro k hk
  refine Go.rx 20 { ws := [(2, { v := some (t64 (18446744073709551615 - now)) }), (3, { v := some (tb (decide (by_ > (18446744073709551615 - now)))) })] } [] [0, 1, 8] _ [(0, t64 now), (1, t64 by_), (8, tb (decide (by_ > (18446744073709551615 - now))))] [] hk rfl (by as_aux_lemma => kernel_rfl) (.cons trivial (.cons (sub64 18446744073709551615 now) (.cons trivial (.cons (gtB64 by_ (18446744073709551615 - now)) .nil)))) ?_
  clear hk; intro k hk
  refine Go.br 20 (Pf := (PostX Γ clock_Tick_enc)) hk rfl rfl ?_ ?_ <;> clear hk <;> intro c1 k hk
  · refine Go.rx 20 {} [] [4] _ [(4, t64 18446744073709551615)] [] hk rfl (by as_aux_lemma => kernel_rfl) .nil ?_
    clear hk; intro k hk
    exact Go.lvx 20 [] _ [t64 18446744073709551615] Tryd.func12 hk rfl (by as_aux_lemma => kernel_rfl) .nil (T.Le.of_eq rfl) rfl rfl .nil
  · refine Go.rx 20 { ws := [(2, { v := some (t64 (now + by_)) })] } [] [4] _ [(4, t64 (now + by_))] [] hk rfl (by as_aux_lemma => kernel_rfl) (.cons trivial (.cons (add64 now by_) .nil)) ?_
    clear hk; intro k hk
    exact Go.lvx 20 [] _ [t64 (now + by_)] Tryd.func12 hk rfl (by as_aux_lemma => kernel_rfl) .nil (T.Le.of_eq rfl) rfl rfl .nil
noncomputable def bursaryref27_Tick (now : UInt64) (by_ : UInt64) : UInt64 :=
  bif decide (now > (18446744073709551615 - by_)) then
    18446744073709551615
  else
    now + by_
def bursaryref27_Tick_enc (x : UInt64) : T × List (Nat × List T) := (t64 x, [])
theorem bursaryref27_Tick_m (now : UInt64) (by_ : UInt64) : Meets Tryd.prog 19 [t64 now, t64 by_] [] [] (t64 (bursaryref27_Tick now by_)) [] := by
  refine Meets.enterX (E := E) (N := 12) (enc := bursaryref27_Tick_enc) (x := (bursaryref27_Tick now by_)) Tryd.func19 Tryd.call19 rfl rfl ?_
  intro Γ k hk
  refine Go.rx 20 {} [] [0, 1] _ [(0, t64 now), (1, t64 by_)] [] hk rfl (by as_aux_lemma => kernel_rfl) .nil ?_
  clear hk; intro k hk
  refine Go.rx 20 { ws := [(2, { v := some (t64 (18446744073709551615 - by_)) }), (3, { v := some (tb (decide (now > (18446744073709551615 - by_)))) })] } [] [0, 1, 8] _ [(0, t64 now), (1, t64 by_), (8, tb (decide (now > (18446744073709551615 - by_))))] [] hk rfl (by as_aux_lemma => kernel_rfl) (.cons trivial (.cons (sub64 18446744073709551615 by_) (.cons trivial (.cons (gtB64 now (18446744073709551615 - by_)) .nil)))) ?_
  clear hk; intro k hk
  refine Go.br 20 (Pf := (PostX Γ bursaryref27_Tick_enc)) hk rfl rfl ?_ ?_ <;> clear hk <;> intro c1 k hk
  · refine Go.rx 20 {} [] [4] _ [(4, t64 18446744073709551615)] [] hk rfl (by as_aux_lemma => kernel_rfl) .nil ?_
    clear hk; intro k hk
    exact Go.lvx 20 [] _ [t64 18446744073709551615] Tryd.func19 hk rfl (by as_aux_lemma => kernel_rfl) .nil (T.Le.of_eq rfl) rfl rfl .nil
  · refine Go.rx 20 { ws := [(2, { v := some (t64 (now + by_)) })] } [] [4] _ [(4, t64 (now + by_))] [] hk rfl (by as_aux_lemma => kernel_rfl) (.cons trivial (.cons (add64 now by_) .nil)) ?_
    clear hk; intro k hk
    exact Go.lvx 20 [] _ [t64 (now + by_)] Tryd.func19 hk rfl (by as_aux_lemma => kernel_rfl) .nil (T.Le.of_eq rfl) rfl rfl .nil
noncomputable def clock_Resume (mark : UInt64) (told : UInt64) : UInt64 :=
  if told > mark then told else mark
def clock_Resume_enc (x : UInt64) : T × List (Nat × List T) := (t64 x, [])
theorem clock_Resume_m (mark : UInt64) (told : UInt64) : Meets Tryd.prog 13 [t64 mark, t64 told] [] [] (t64 (clock_Resume mark told)) [] := by
  refine Meets.enterX (E := E) (N := 8) (enc := clock_Resume_enc) (x := (clock_Resume mark told)) Tryd.func13 Tryd.call13 rfl rfl ?_
  intro Γ k hk
  refine Go.rx 20 {} [] [0, 1] _ [(0, t64 mark), (1, t64 told)] [] hk rfl (by as_aux_lemma => kernel_rfl) .nil ?_
  clear hk; intro k hk
  refine Go.rx 20 { ws := [(2, { v := some (t64 (if told > mark then told else mark)) })] } [] [4] _ [(4, t64 (if told > mark then told else mark))] [] hk rfl (by as_aux_lemma => kernel_rfl) (.cons (max64 mark told) .nil) ?_
  clear hk; intro k hk
  exact Go.lvx 20 [] _ [t64 (if told > mark then told else mark)] Tryd.func13 hk rfl (by as_aux_lemma => kernel_rfl) .nil (T.Le.of_eq rfl) rfl rfl .nil
noncomputable def clock_Over (now : UInt64) (until_ : UInt64) : Bool :=
  (decide (until_ ≤ now)) && (until_ != 18446744073709551615)
def clock_Over_enc (x : Bool) : T × List (Nat × List T) := (tb x, [])
theorem clock_Over_m (now : UInt64) (until_ : UInt64) : Meets Tryd.prog 14 [t64 now, t64 until_] [] [] (tb (clock_Over now until_)) [] := by
  refine Meets.enterX (E := E) (N := 12) (enc := clock_Over_enc) (x := (clock_Over now until_)) Tryd.func14 Tryd.call14 rfl rfl ?_
  intro Γ k hk
  refine Go.rx 20 {} [] [0, 1] _ [(0, t64 now), (1, t64 until_)] [] hk rfl (by as_aux_lemma => kernel_rfl) .nil ?_
  clear hk; intro k hk
  refine Go.regJ 20 [(4, tb ((decide (until_ ≤ now)) && (until_ != 18446744073709551615)))] [] hk rfl ?_ ?_
  · clear hk; intro k hk
    exact Go.lvx 20 [] _ [tb ((decide (until_ ≤ now)) && (until_ != 18446744073709551615))] Tryd.func14 hk rfl (by as_aux_lemma => kernel_rfl) .nil (T.Le.of_eq rfl) rfl rfl .nil
  · intro hk J
    rcases Bool.eq_false_or_eq_true (decide (until_ ≤ now)) with g1 | g1
    · refine Go.rx 20 { ws := [(2, { v := some (tb true) }), (5, { v := some (tb (until_ != 18446744073709551615)) })] } [] [4] _ [(4, tb (until_ != 18446744073709551615))] [] hk rfl (by as_aux_lemma => kernel_rfl) (.cons trivial (.cons ((leB64 until_ now).trans (eb g1)) (.cons trivial (.cons (neB64 until_ 18446744073709551615) .nil)))) ?_
      intro k' hk'
      refine Go.slotEq 4 (tb ((decide (until_ ≤ now)) && (until_ != 18446744073709551615))) rfl (eb (andT g1 rfl).symm) ?_
      exact J k' hk'
    · refine Go.rx 20 { ws := [(2, { v := some (tb false) })] } [] [4] _ [(4, tb false)] [] hk rfl (by as_aux_lemma => kernel_rfl) (.cons trivial (.cons ((leB64 until_ now).trans (eb g1)) .nil)) ?_
      intro k' hk'
      refine Go.slotEq 4 (tb ((decide (until_ ≤ now)) && (until_ != 18446744073709551615))) rfl (eb (andF g1).symm) ?_
      exact J k' hk'
noncomputable def bursaryref27_Over (now : UInt64) (until_ : UInt64) : Bool :=
  (until_ != 18446744073709551615) && (decide (now ≥ until_))
def bursaryref27_Over_enc (x : Bool) : T × List (Nat × List T) := (tb x, [])
theorem bursaryref27_Over_m (now : UInt64) (until_ : UInt64) : Meets Tryd.prog 21 [t64 now, t64 until_] [] [] (tb (bursaryref27_Over now until_)) [] := by
  refine Meets.enterX (E := E) (N := 12) (enc := bursaryref27_Over_enc) (x := (bursaryref27_Over now until_)) Tryd.func21 Tryd.call21 rfl rfl ?_
  intro Γ k hk
  refine Go.rx 20 {} [] [0, 1] _ [(0, t64 now), (1, t64 until_)] [] hk rfl (by as_aux_lemma => kernel_rfl) .nil ?_
  clear hk; intro k hk
  refine Go.regJ 20 [(4, tb ((until_ != 18446744073709551615) && (decide (now ≥ until_))))] [] hk rfl ?_ ?_
  · clear hk; intro k hk
    exact Go.lvx 20 [] _ [tb ((until_ != 18446744073709551615) && (decide (now ≥ until_)))] Tryd.func21 hk rfl (by as_aux_lemma => kernel_rfl) .nil (T.Le.of_eq rfl) rfl rfl .nil
  · intro hk J
    rcases Bool.eq_false_or_eq_true (until_ != 18446744073709551615) with g1 | g1
    · refine Go.rx 20 { ws := [(1, { v := some (tb true) }), (5, { v := some (tb (decide (now ≥ until_))) })] } [] [4] _ [(4, tb (decide (now ≥ until_)))] [] hk rfl (by as_aux_lemma => kernel_rfl) (.cons trivial (.cons ((neB64 until_ 18446744073709551615).trans (eb g1)) (.cons trivial (.cons (geB64 now until_) .nil)))) ?_
      intro k' hk'
      refine Go.slotEq 4 (tb ((until_ != 18446744073709551615) && (decide (now ≥ until_)))) rfl (eb (andT g1 rfl).symm) ?_
      exact J k' hk'
    · refine Go.rx 20 { ws := [(1, { v := some (tb false) })] } [] [4] _ [(4, tb false)] [] hk rfl (by as_aux_lemma => kernel_rfl) (.cons trivial (.cons ((neB64 until_ 18446744073709551615).trans (eb g1)) .nil)) ?_
      intro k' hk'
      refine Go.slotEq 4 (tb ((until_ != 18446744073709551615) && (decide (now ≥ until_)))) rfl (eb (andF g1).symm) ?_
      exact J k' hk'
noncomputable def clock_Left (now : UInt64) (until_ : UInt64) : UInt64 :=
  bif until_ == 18446744073709551615 then
    18446744073709551615
  else
    bnd (clock_Over now until_) fun x1 =>
    bif x1 then
      0
    else
      until_ - now
def clock_Left_enc (x : UInt64) : T × List (Nat × List T) := (t64 x, [])
theorem clock_Left_m (now : UInt64) (until_ : UInt64) : Meets Tryd.prog 15 [t64 now, t64 until_] [] [] (t64 (clock_Left now until_)) [] := by
  refine Meets.enterX (E := E) (N := 15) (enc := clock_Left_enc) (x := (clock_Left now until_)) Tryd.func15 Tryd.call15 rfl rfl ?_
  intro Γ k hk
  refine Go.rx 20 {} [] [0, 1] _ [(0, t64 now), (1, t64 until_)] [] hk rfl (by as_aux_lemma => kernel_rfl) .nil ?_
  clear hk; intro k hk
  refine Go.rx 20 { ws := [(1, { v := some (tb (until_ == 18446744073709551615)) })] } [] [0, 1, 5] _ [(0, t64 now), (1, t64 until_), (5, tb (until_ == 18446744073709551615))] [] hk rfl (by as_aux_lemma => kernel_rfl) (.cons trivial (.cons (eqB64 until_ 18446744073709551615) .nil)) ?_
  clear hk; intro k hk
  refine Go.br 20 (Pf := (PostX Γ clock_Left_enc)) hk rfl rfl ?_ ?_ <;> clear hk <;> intro c1 k hk
  · refine Go.rx 20 {} [] [4] _ [(4, t64 18446744073709551615)] [] hk rfl (by as_aux_lemma => kernel_rfl) .nil ?_
    clear hk; intro k hk
    exact Go.lvx 20 [] _ [t64 18446744073709551615] Tryd.func15 hk rfl (by as_aux_lemma => kernel_rfl) .nil (T.Le.of_eq rfl) rfl rfl .nil
  · refine Go.rx 20 { ws := [(2, { call := some { ids := [], S := [], M := [], R := tb (clock_Over now until_), H' := [] } })] } [] [0, 1, 8] _ [(0, t64 now), (1, t64 until_), (8, tb (clock_Over now until_))] [] hk rfl (by as_aux_lemma => kernel_rfl) (.cons (clock_Over_m now until_) (.cons (by first | rfl | (simp only [T.ids, idsL, er_ids, List.append_nil, List.nil_append]; rfl) : subN (idsL [t64 now, t64 until_]) [] = true) .nil)) ?_
    clear hk; intro k hk
    refine Go.bnd (Pf := (PostX Γ clock_Left_enc)) (v := (clock_Over now until_)) (fun x1 => [(0, t64 now), (1, t64 until_), (8, tb x1)]) (fun x1 => []) ?_
    intro x1 hx1
    refine Go.br 20 (Pf := (PostX Γ clock_Left_enc)) hk rfl rfl ?_ ?_ <;> clear hk <;> intro c2 k hk
    · refine Go.rx 20 {} [] [4] _ [(4, t64 0)] [] hk rfl (by as_aux_lemma => kernel_rfl) .nil ?_
      clear hk; intro k hk
      exact Go.lvx 20 [] _ [t64 0] Tryd.func15 hk rfl (by as_aux_lemma => kernel_rfl) .nil (T.Le.of_eq rfl) rfl rfl .nil
    · refine Go.rx 20 { ws := [(2, { v := some (t64 (until_ - now)) })] } [] [4] _ [(4, t64 (until_ - now))] [] hk rfl (by as_aux_lemma => kernel_rfl) (.cons trivial (.cons (sub64 until_ now) .nil)) ?_
      clear hk; intro k hk
      exact Go.lvx 20 [] _ [t64 (until_ - now)] Tryd.func15 hk rfl (by as_aux_lemma => kernel_rfl) .nil (T.Le.of_eq rfl) rfl rfl .nil
noncomputable def clock_Until (now : UInt64) (ttl : UInt64) : UInt64 × Int :=
  bif ttl == 0 then
    (18446744073709551615, 0)
  else
    bif decide (ttl ≥ (18446744073709551615 - now)) then
      (0, 19)
    else
      (now + ttl, 0)
def clock_Until_enc (x : UInt64 × Int) : T × List (Nat × List T) := (.tup [t64 x.1, er 83 x.2], [])
theorem clock_Until_m (now : UInt64) (ttl : UInt64) : Meets Tryd.prog 10 [t64 now, t64 ttl] [] [] (.tup [t64 ((clock_Until now ttl).1), er 83 ((clock_Until now ttl).2)]) [] := by
  refine Meets.enterX (E := E) (N := 18) (enc := clock_Until_enc) (x := (clock_Until now ttl)) Tryd.func10 Tryd.call10 rfl rfl ?_
  intro Γ k hk
  refine Go.rx 20 {} [] [0, 1] _ [(0, t64 now), (1, t64 ttl)] [] hk rfl (by as_aux_lemma => kernel_rfl) .nil ?_
  clear hk; intro k hk
  refine Go.rx 20 { ws := [(1, { v := some (tb (ttl == 0)) })] } [] [0, 1, 6] _ [(0, t64 now), (1, t64 ttl), (6, tb (ttl == 0))] [] hk rfl (by as_aux_lemma => kernel_rfl) (.cons trivial (.cons (eqB64 ttl 0) .nil)) ?_
  clear hk; intro k hk
  refine Go.br 20 (Pf := (PostX Γ clock_Until_enc)) hk rfl rfl ?_ ?_ <;> clear hk <;> intro c1 k hk
  · refine Go.rx 20 {} [] [4, 5] _ [(4, t64 18446744073709551615), (5, .leaf .nilIface)] [] hk rfl (by as_aux_lemma => kernel_rfl) .nil ?_
    clear hk; intro k hk
    exact Go.lvx 20 [] _ [t64 18446744073709551615, .leaf .nilIface] Tryd.func10 hk rfl (by as_aux_lemma => kernel_rfl) .nil (T.Le.tup (.cons (T.Le.of_eq rfl) (.cons (T.Le.of_eq rfl) .nil))) rfl rfl .nil
  · refine Go.rx 20 { ws := [(2, { v := some (t64 (18446744073709551615 - now)) }), (3, { v := some (tb (decide (ttl ≥ (18446744073709551615 - now)))) })] } [] [0, 1, 9] _ [(0, t64 now), (1, t64 ttl), (9, tb (decide (ttl ≥ (18446744073709551615 - now))))] [] hk rfl (by as_aux_lemma => kernel_rfl) (.cons trivial (.cons (sub64 18446744073709551615 now) (.cons trivial (.cons (geB64 ttl (18446744073709551615 - now)) .nil)))) ?_
    clear hk; intro k hk
    refine Go.br 20 (Pf := (PostX Γ clock_Until_enc)) hk rfl rfl ?_ ?_ <;> clear hk <;> intro c2 k hk
    · refine Go.rx 20 {} [] [4, 5] _ [(4, t64 0), (5, er 83 19)] [] hk rfl (by as_aux_lemma => kernel_rfl) .nil ?_
      clear hk; intro k hk
      exact Go.lvx 20 [] _ [t64 0, er 83 19] Tryd.func10 hk rfl (by as_aux_lemma => kernel_rfl) .nil (T.Le.tup (.cons (T.Le.of_eq rfl) (.cons (T.Le.of_eq rfl) .nil))) rfl (by first | rfl | (simp only [clock_Until_enc, T.ids, idsL, er_ids, List.append_nil, List.nil_append]; rfl)) .nil
    · refine Go.rx 20 { ws := [(2, { v := some (t64 (now + ttl)) })] } [] [4, 5] _ [(4, t64 (now + ttl)), (5, .leaf .nilIface)] [] hk rfl (by as_aux_lemma => kernel_rfl) (.cons trivial (.cons (add64 now ttl) .nil)) ?_
      clear hk; intro k hk
      exact Go.lvx 20 [] _ [t64 (now + ttl), .leaf .nilIface] Tryd.func10 hk rfl (by as_aux_lemma => kernel_rfl) .nil (T.Le.tup (.cons (T.Le.of_eq rfl) (.cons (T.Le.of_eq rfl) .nil))) rfl rfl .nil
noncomputable def bursaryref27_Until (now : UInt64) (ttl : UInt64) : UInt64 × Int :=
  bif ttl == 0 then
    (18446744073709551615, 0)
  else
    bnd (bursaryref27_Tick now ttl) fun x1 =>
    bif x1 == 18446744073709551615 then
      (0, 19)
    else
      (now + ttl, 0)
def bursaryref27_Until_enc (x : UInt64 × Int) : T × List (Nat × List T) := (.tup [t64 x.1, ti x.2], [])
theorem bursaryref27_Until_m (now : UInt64) (ttl : UInt64) : Meets Tryd.prog 16 [t64 now, t64 ttl] [] [] (.tup [t64 ((bursaryref27_Until now ttl).1), ti ((bursaryref27_Until now ttl).2)]) [] := by
  refine Meets.enterX (E := E) (N := 15) (enc := bursaryref27_Until_enc) (x := (bursaryref27_Until now ttl)) Tryd.func16 Tryd.call16 rfl rfl ?_
  intro Γ k hk
  refine Go.rx 20 {} [] [0, 1] _ [(0, t64 now), (1, t64 ttl)] [] hk rfl (by as_aux_lemma => kernel_rfl) .nil ?_
  clear hk; intro k hk
  refine Go.rx 20 { ws := [(1, { v := some (tb (ttl == 0)) })] } [] [0, 1, 7] _ [(0, t64 now), (1, t64 ttl), (7, tb (ttl == 0))] [] hk rfl (by as_aux_lemma => kernel_rfl) (.cons trivial (.cons (eqB64 ttl 0) .nil)) ?_
  clear hk; intro k hk
  refine Go.br 20 (Pf := (PostX Γ bursaryref27_Until_enc)) hk rfl rfl ?_ ?_ <;> clear hk <;> intro c1 k hk
  · refine Go.rx 20 {} [] [4, 5] _ [(4, t64 18446744073709551615), (5, ti 0)] [] hk rfl (by as_aux_lemma => kernel_rfl) .nil ?_
    clear hk; intro k hk
    exact Go.lvx 20 [] _ [t64 18446744073709551615, ti 0] Tryd.func16 hk rfl (by as_aux_lemma => kernel_rfl) .nil (T.Le.tup (.cons (T.Le.of_eq rfl) (.cons (T.Le.of_eq rfl) .nil))) rfl rfl .nil
  · refine Go.rx 20 { ws := [(2, { call := some { ids := [], S := [], M := [], R := t64 (bursaryref27_Tick now ttl), H' := [] } }), (3, { v := some (tb ((bursaryref27_Tick now ttl) == 18446744073709551615)) })] } [] [0, 1, 11] _ [(0, t64 now), (1, t64 ttl), (11, tb ((bursaryref27_Tick now ttl) == 18446744073709551615))] [] hk rfl (by as_aux_lemma => kernel_rfl) (.cons (bursaryref27_Tick_m now ttl) (.cons (by first | rfl | (simp only [T.ids, idsL, er_ids, List.append_nil, List.nil_append]; rfl) : subN (idsL [t64 now, t64 ttl]) [] = true) (.cons trivial (.cons (eqB64 (bursaryref27_Tick now ttl) 18446744073709551615) .nil)))) ?_
    clear hk; intro k hk
    refine Go.bnd (Pf := (PostX Γ bursaryref27_Until_enc)) (v := (bursaryref27_Tick now ttl)) (fun x1 => [(0, t64 now), (1, t64 ttl), (11, tb (x1 == 18446744073709551615))]) (fun x1 => []) ?_
    intro x1 hx1
    refine Go.br 20 (Pf := (PostX Γ bursaryref27_Until_enc)) hk rfl rfl ?_ ?_ <;> clear hk <;> intro c2 k hk
    · refine Go.rx 20 {} [] [4, 5] _ [(4, t64 0), (5, ti 19)] [] hk rfl (by as_aux_lemma => kernel_rfl) .nil ?_
      clear hk; intro k hk
      exact Go.lvx 20 [] _ [t64 0, ti 19] Tryd.func16 hk rfl (by as_aux_lemma => kernel_rfl) .nil (T.Le.tup (.cons (T.Le.of_eq rfl) (.cons (T.Le.of_eq rfl) .nil))) rfl rfl .nil
    · refine Go.rx 20 { ws := [(2, { v := some (t64 (now + ttl)) })] } [] [4, 5] _ [(4, t64 (now + ttl)), (5, ti 0)] [] hk rfl (by as_aux_lemma => kernel_rfl) (.cons trivial (.cons (add64 now ttl) .nil)) ?_
      clear hk; intro k hk
      exact Go.lvx 20 [] _ [t64 (now + ttl), ti 0] Tryd.func16 hk rfl (by as_aux_lemma => kernel_rfl) .nil (T.Le.tup (.cons (T.Le.of_eq rfl) (.cons (T.Le.of_eq rfl) .nil))) rfl rfl .nil
noncomputable def clock_Renew (now : UInt64) (ttl : UInt64) (most : UInt64) : UInt64 × Int :=
  bif ttl == 0 then
    (0, 1)
  else
    bnd (clock_Until now ttl) fun x1 =>
    bif !(decide (x1.2 = 0)) then
      (0, x1.2)
    else
      (if most < x1.1 then most else x1.1, 0)
def clock_Renew_enc (x : UInt64 × Int) : T × List (Nat × List T) := (.tup [t64 x.1, er 83 x.2], [])
theorem clock_Renew_m (now : UInt64) (ttl : UInt64) (most : UInt64) : Meets Tryd.prog 17 [t64 now, t64 ttl, t64 most] [] [] (.tup [t64 ((clock_Renew now ttl most).1), er 83 ((clock_Renew now ttl most).2)]) [] := by
  refine Meets.enterX (E := E) (N := 25) (enc := clock_Renew_enc) (x := (clock_Renew now ttl most)) Tryd.func17 Tryd.call17 rfl rfl ?_
  intro Γ k hk
  refine Go.rx 20 {} [] [0, 1, 2] _ [(0, t64 now), (1, t64 ttl), (2, t64 most)] [] hk rfl (by as_aux_lemma => kernel_rfl) .nil ?_
  clear hk; intro k hk
  refine Go.rx 20 { ws := [(1, { v := some (tb (ttl == 0)) })] } [] [0, 1, 2, 11] _ [(0, t64 now), (1, t64 ttl), (2, t64 most), (11, tb (ttl == 0))] [] hk rfl (by as_aux_lemma => kernel_rfl) (.cons trivial (.cons (eqB64 ttl 0) .nil)) ?_
  clear hk; intro k hk
  refine Go.br 20 (Pf := (PostX Γ clock_Renew_enc)) hk rfl rfl ?_ ?_ <;> clear hk <;> intro c1 k hk
  · refine Go.rx 20 {} [] [6, 7] _ [(6, t64 0), (7, er 83 1)] [] hk rfl (by as_aux_lemma => kernel_rfl) .nil ?_
    clear hk; intro k hk
    exact Go.lvx 20 [] _ [t64 0, er 83 1] Tryd.func17 hk rfl (by as_aux_lemma => kernel_rfl) .nil (T.Le.tup (.cons (T.Le.of_eq rfl) (.cons (T.Le.of_eq rfl) .nil))) rfl (by first | rfl | (simp only [clock_Renew_enc, T.ids, idsL, er_ids, List.append_nil, List.nil_append]; rfl)) .nil
  · refine Go.rx 20 { ws := [(2, { call := some { ids := [], S := [], M := [], R := .tup [t64 ((clock_Until now ttl).1), er 83 ((clock_Until now ttl).2)], H' := [] } })] } [] [2, 8, 9] _ [(2, t64 most), (8, t64 ((clock_Until now ttl).1)), (9, er 83 ((clock_Until now ttl).2))] [] hk rfl (by as_aux_lemma => kernel_rfl) (.cons (clock_Until_m now ttl) (.cons (by first | rfl | (simp only [T.ids, idsL, er_ids, List.append_nil, List.nil_append]; rfl) : subN (idsL [t64 now, t64 ttl]) [] = true) .nil)) ?_
    clear hk; intro k hk
    refine Go.bnd (Pf := (PostX Γ clock_Renew_enc)) (v := (clock_Until now ttl)) (fun x1 => [(2, t64 most), (8, t64 x1.1), (9, er 83 x1.2)]) (fun x1 => []) ?_
    intro x1 hx1
    refine Go.rx 20 { ws := [(1, { er := some (83, x1.2) })] } [] [2, 8, 9, 20] _ [(2, t64 most), (8, t64 x1.1), (9, er 83 x1.2), (20, tb (!(decide (x1.2 = 0))))] [] hk rfl (by as_aux_lemma => kernel_rfl) (.cons (⟨rfl, rfl⟩ : (er 83 x1.2) = er 83 x1.2 ∧ (.leaf .nilIface : T) = .leaf .nilIface) .nil) ?_
    clear hk; intro k hk
    refine Go.br 20 (Pf := (PostX Γ clock_Renew_enc)) hk rfl rfl ?_ ?_ <;> clear hk <;> intro c2 k hk
    · have c2' : (decide (x1.2 = 0)) = false := by simpa using c2
      have c2'p := of_decide_eq_false c2'
      refine Go.rx 20 {} [] [6, 7] _ [(6, t64 0), (7, er 83 x1.2)] [] hk rfl (by as_aux_lemma => kernel_rfl) .nil ?_
      clear hk; intro k hk
      exact Go.lvx 20 [] _ [t64 0, er 83 x1.2] Tryd.func17 hk rfl (by as_aux_lemma => kernel_rfl) .nil (T.Le.tup (.cons (T.Le.of_eq rfl) (.cons (T.Le.of_eq rfl) .nil))) rfl (by first | rfl | (simp only [clock_Renew_enc, T.ids, idsL, er_ids, List.append_nil, List.nil_append]; rfl)) .nil
    · have c2' : (decide (x1.2 = 0)) = true := by simpa using c2
      have c2'p := of_decide_eq_true c2'
      refine Go.rx 20 { ws := [(2, { v := some (t64 (if most < x1.1 then most else x1.1)) })] } [] [6, 7] _ [(6, t64 (if most < x1.1 then most else x1.1)), (7, .leaf .nilIface)] [] hk rfl (by as_aux_lemma => kernel_rfl) (.cons (min64 x1.1 most) .nil) ?_
      clear hk; intro k hk
      exact Go.lvx 20 [] _ [t64 (if most < x1.1 then most else x1.1), .leaf .nilIface] Tryd.func17 hk rfl (by as_aux_lemma => kernel_rfl) .nil (T.Le.tup (.cons (T.Le.of_eq rfl) (.cons (T.Le.of_eq rfl) .nil))) rfl rfl .nil
noncomputable def bursaryref27_Renew (now : UInt64) (ttl : UInt64) (most : UInt64) : UInt64 × Int :=
  bif ttl == 0 then
    (0, 1)
  else
    bnd (bursaryref27_Until now ttl) fun x1 =>
    bif (x1.2 == 0) && (decide (x1.1 > most)) then
      (most, 0)
    else
      (x1.1, x1.2)
def bursaryref27_Renew_enc (x : UInt64 × Int) : T × List (Nat × List T) := (.tup [t64 x.1, ti x.2], [])
theorem bursaryref27_Renew_m (now : UInt64) (ttl : UInt64) (most : UInt64) : Meets Tryd.prog 18 [t64 now, t64 ttl, t64 most] [] [] (.tup [t64 ((bursaryref27_Renew now ttl most).1), ti ((bursaryref27_Renew now ttl most).2)]) [] := by
  refine Meets.enterX (E := E) (N := 28) (enc := bursaryref27_Renew_enc) (x := (bursaryref27_Renew now ttl most)) Tryd.func18 Tryd.call18 rfl rfl ?_
  intro Γ k hk
  refine Go.rx 20 {} [] [0, 1, 2] _ [(0, t64 now), (1, t64 ttl), (2, t64 most)] [] hk rfl (by as_aux_lemma => kernel_rfl) .nil ?_
  clear hk; intro k hk
  refine Go.rx 20 { ws := [(1, { v := some (tb (ttl == 0)) })] } [] [0, 1, 2, 11] _ [(0, t64 now), (1, t64 ttl), (2, t64 most), (11, tb (ttl == 0))] [] hk rfl (by as_aux_lemma => kernel_rfl) (.cons trivial (.cons (eqB64 ttl 0) .nil)) ?_
  clear hk; intro k hk
  refine Go.br 20 (Pf := (PostX Γ bursaryref27_Renew_enc)) hk rfl rfl ?_ ?_ <;> clear hk <;> intro c1 k hk
  · refine Go.rx 20 {} [] [6, 7] _ [(6, t64 0), (7, ti 1)] [] hk rfl (by as_aux_lemma => kernel_rfl) .nil ?_
    clear hk; intro k hk
    exact Go.lvx 20 [] _ [t64 0, ti 1] Tryd.func18 hk rfl (by as_aux_lemma => kernel_rfl) .nil (T.Le.tup (.cons (T.Le.of_eq rfl) (.cons (T.Le.of_eq rfl) .nil))) rfl rfl .nil
  · refine Go.rx 20 { ws := [(2, { call := some { ids := [], S := [], M := [], R := .tup [t64 ((bursaryref27_Until now ttl).1), ti ((bursaryref27_Until now ttl).2)], H' := [] } })] } [] [2, 8, 9] _ [(2, t64 most), (8, t64 ((bursaryref27_Until now ttl).1)), (9, ti ((bursaryref27_Until now ttl).2))] [] hk rfl (by as_aux_lemma => kernel_rfl) (.cons (bursaryref27_Until_m now ttl) (.cons (by first | rfl | (simp only [T.ids, idsL, er_ids, List.append_nil, List.nil_append]; rfl) : subN (idsL [t64 now, t64 ttl]) [] = true) .nil)) ?_
    clear hk; intro k hk
    refine Go.bnd (Pf := (PostX Γ bursaryref27_Renew_enc)) (v := (bursaryref27_Until now ttl)) (fun x1 => [(2, t64 most), (8, t64 x1.1), (9, ti x1.2)]) (fun x1 => []) ?_
    intro x1 hx1
    refine Go.regJ 20 [(2, t64 most), (8, t64 x1.1), (9, ti x1.2), (24, tb ((x1.2 == 0) && (decide (x1.1 > most))))] [] hk rfl ?_ ?_
    · clear hk; intro k hk
      refine Go.br 20 (Pf := (PostX Γ bursaryref27_Renew_enc)) hk rfl rfl ?_ ?_ <;> clear hk <;> intro c2 k hk
      · have c21 : (x1.2 == 0) = true := (Bool.and_eq_true_iff.1 c2).1
        have c22 : (decide (x1.1 > most)) = true := (Bool.and_eq_true_iff.1 c2).2
        have c21p := eqIt c21
        refine Go.rx 20 {} [] [6, 7] _ [(6, t64 most), (7, ti 0)] [] hk rfl (by as_aux_lemma => kernel_rfl) .nil ?_
        clear hk; intro k hk
        exact Go.lvx 20 [] _ [t64 most, ti 0] Tryd.func18 hk rfl (by as_aux_lemma => kernel_rfl) .nil (T.Le.tup (.cons (T.Le.of_eq rfl) (.cons (T.Le.of_eq rfl) .nil))) rfl rfl .nil
      · refine Go.rx 20 {} [] [6, 7] _ [(6, t64 x1.1), (7, ti x1.2)] [] hk rfl (by as_aux_lemma => kernel_rfl) .nil ?_
        clear hk; intro k hk
        exact Go.lvx 20 [] _ [t64 x1.1, ti x1.2] Tryd.func18 hk rfl (by as_aux_lemma => kernel_rfl) .nil (T.Le.tup (.cons (T.Le.of_eq rfl) (.cons (T.Le.of_eq rfl) .nil))) rfl rfl .nil
    · intro hk J
      rcases Bool.eq_false_or_eq_true (x1.2 == 0) with g1 | g1
      · have g1p := eqIt g1
        refine Go.rx 20 { ws := [(1, { v := some (tb true) }), (5, { v := some (tb (decide (x1.1 > most))) })] } [] [2, 8, 9, 24] _ [(2, t64 most), (8, t64 x1.1), (9, ti x1.2), (24, tb (decide (x1.1 > most)))] [] hk rfl (by as_aux_lemma => kernel_rfl) (.cons trivial (.cons (eb g1) (.cons trivial (.cons (gtB64 x1.1 most) .nil)))) ?_
        intro k' hk'
        refine Go.slotEq 24 (tb ((x1.2 == 0) && (decide (x1.1 > most)))) rfl (eb (andT g1 rfl).symm) ?_
        exact J k' hk'
      · have g1p := eqIf g1
        refine Go.rx 20 { ws := [(1, { v := some (tb false) })] } [] [2, 8, 9, 24] _ [(2, t64 most), (8, t64 x1.1), (9, ti x1.2), (24, tb false)] [] hk rfl (by as_aux_lemma => kernel_rfl) (.cons trivial (.cons (eb g1) .nil)) ?_
        intro k' hk'
        refine Go.slotEq 24 (tb ((x1.2 == 0) && (decide (x1.1 > most)))) rfl (eb (andF g1).symm) ?_
        exact J k' hk'
def bursarylaw27_num_enc (x : Int) : T × List (Nat × List T) := (ti x, [])
theorem bursarylaw27_num_m (e : Int) : Meets Tryd.prog 20 [er 83 e] [] [] (ti e) [] := by
  by_cases p : e = 0
  · subst p
    rw [er_zero]
    refine Meets.enterX (E := E) (N := 10) (enc := bursarylaw27_num_enc) (x := (0 : Int)) Tryd.func20 Tryd.call20 rfl rfl ?_
    intro Γ k hk
    refine Go.rx 20 {} [] [0] _ [(0, .leaf .nilIface)] [] hk rfl (by as_aux_lemma => kernel_rfl) .nil ?_
    clear hk; intro k hk
    refine Go.rx 20 { ws := [(0, { id := 10 })] } [] [0, 3] _ [(0, .leaf .nilIface), (3, .addr 10 0)] [(10, [ti 0])] hk rfl (by as_aux_lemma => kernel_rfl) .nil ?_
    clear hk; intro k hk
    refine Go.rx 20 {} [] [0, 3, 5] _ [(0, .leaf .nilIface), (3, .addr 10 0), (5, tb true)] [(10, [ti 0])] hk rfl (by as_aux_lemma => kernel_rfl) (.cons (by as_aux_lemma => kernel_rfl : (E.ti 25).k = .iface) .nil) ?_
    clear hk; intro k hk
    refine Go.cond 20 hk rfl (t := true) rfl ?_; clear hk; intro k hk
    refine Go.rx 20 {} [10] [2] _ [(2, ti 0)] [] hk rfl (by as_aux_lemma => kernel_rfl) .nil ?_
    clear hk; intro k hk
    exact Go.lvx 20 [] _ [ti 0] Tryd.func20 hk rfl (by as_aux_lemma => kernel_rfl) .nil (T.Le.of_eq rfl) rfl rfl .nil
  · rw [er_ne p]
    refine Meets.enterX (E := E) (N := 10) (enc := bursarylaw27_num_enc) (x := (e : Int)) Tryd.func20 Tryd.call20 rfl rfl ?_
    intro Γ k hk
    refine Go.rx 20 {} [] [0] _ [(0, .iface 83 (ti e))] [] hk rfl (by as_aux_lemma => kernel_rfl) .nil ?_
    clear hk; intro k hk
    refine Go.rx 20 { ws := [(0, { id := 10 })] } [] [0, 3] _ [(0, .iface 83 (ti e)), (3, .addr 10 0)] [(10, [ti 0])] hk rfl (by as_aux_lemma => kernel_rfl) .nil ?_
    clear hk; intro k hk
    refine Go.rx 20 {} [] [0, 3, 5] _ [(0, .iface 83 (ti e)), (3, .addr 10 0), (5, tb false)] [(10, [ti 0])] hk rfl (by as_aux_lemma => kernel_rfl) (.cons (by as_aux_lemma => kernel_rfl : (E.ti 25).k = .iface) .nil) ?_
    clear hk; intro k hk
    refine Go.cond 20 hk rfl (t := false) rfl ?_; clear hk; intro k hk
    refine Go.rx 20 { ws := [(2, { call := some { ids := [10], S := [10], R := tb true, H' := [(10, [ti e])] } })] } [] [3, 8] _ [(3, .addr 10 0), (8, tb true)] [(10, [ti e])] hk rfl (by as_aux_lemma => kernel_rfl) (.cons (meets_errAs 10 e 0) (.cons (rfl : subN (idsL [.iface 83 (ti e), .iface 85 (.addr 10 0)]) [10] = true) (.cons (rfl : subN (idsL [ti 0]) [10] = true) .nil))) ?_
    clear hk; intro k hk
    refine Go.cond 20 hk rfl (t := true) rfl ?_; clear hk; intro k hk
    refine Go.rx 20 {} [10] [2] _ [(2, ti e)] [] hk rfl (by as_aux_lemma => kernel_rfl) .nil ?_
    clear hk; intro k hk
    exact Go.lvx 20 [] _ [ti e] Tryd.func20 hk rfl (by as_aux_lemma => kernel_rfl) .nil (T.Le.of_eq rfl) rfl rfl .nil
noncomputable def bursarylaw27_sure  : Bool :=
  bnd (clock_Until 5 3) fun x1 =>
  bnd (clock_Until 5 18446744073709551610) fun x2 =>
  bnd (id x2.2) fun x3 =>
  bnd (clock_Over 8 8) fun x4 =>
  bnd (clock_Over 7 8) fun x5 =>
  bnd (clock_Left 5 8) fun x6 =>
  bnd (clock_Resume 4 9) fun x7 =>
  bnd (clock_Tick 18446744073709551615 1) fun x8 =>
  (decide (x1.2 = 0)) && ((x1.1 == 8) && ((x3 == 19) && (x4 && ((!x5) && ((x6 == 3) && ((x7 == 9) && (x8 == 18446744073709551615)))))))
def bursarylaw27_sure_enc (x : Bool) : T × List (Nat × List T) := (tb x, [])
theorem bursarylaw27_sure_m  : Meets Tryd.prog 11 [] [] [] (tb bursarylaw27_sure) [] := by
  refine Meets.enterX (E := E) (N := 43) (enc := bursarylaw27_sure_enc) (x := bursarylaw27_sure) Tryd.func11 Tryd.call11 rfl rfl ?_
  intro Γ k hk
  refine Go.rx 20 {} [] [] _ [] [] hk rfl (by as_aux_lemma => kernel_rfl) .nil ?_
  clear hk; intro k hk
  refine Go.rx 20 { ws := [(0, { call := some { ids := [], S := [], M := [], R := .tup [t64 ((clock_Until 5 3).1), er 83 ((clock_Until 5 3).2)], H' := [] } })] } [] [1, 2] _ [(1, t64 ((clock_Until 5 3).1)), (2, er 83 ((clock_Until 5 3).2))] [] hk rfl (by as_aux_lemma => kernel_rfl) (.cons (clock_Until_m 5 3) (.cons (by first | rfl | (simp only [T.ids, idsL, er_ids, List.append_nil, List.nil_append]; rfl) : subN (idsL [t64 5, t64 3]) [] = true) .nil)) ?_
  clear hk; intro k hk
  refine Go.bnd (Pf := (PostX Γ bursarylaw27_sure_enc)) (v := (clock_Until 5 3)) (fun x1 => [(1, t64 x1.1), (2, er 83 x1.2)]) (fun x1 => []) ?_
  intro x1 hx1
  refine Go.rx 20 { ws := [(0, { call := some { ids := [], S := [], M := [], R := .tup [t64 ((clock_Until 5 18446744073709551610).1), er 83 ((clock_Until 5 18446744073709551610).2)], H' := [] } })] } [] [1, 2, 4] _ [(1, t64 x1.1), (2, er 83 x1.2), (4, er 83 ((clock_Until 5 18446744073709551610).2))] [] hk rfl (by as_aux_lemma => kernel_rfl) (.cons (clock_Until_m 5 18446744073709551610) (.cons (by first | rfl | (simp only [T.ids, idsL, er_ids, List.append_nil, List.nil_append]; rfl) : subN (idsL [t64 5, t64 18446744073709551610]) [] = true) .nil)) ?_
  clear hk; intro k hk
  refine Go.bnd (Pf := (PostX Γ bursarylaw27_sure_enc)) (v := (clock_Until 5 18446744073709551610)) (fun x2 => [(1, t64 x1.1), (2, er 83 x1.2), (4, er 83 x2.2)]) (fun x2 => []) ?_
  intro x2 hx2
  refine Go.regJ 20 [(0, tb ((decide (x1.2 = 0)) && ((x1.1 == 8) && (((id x2.2) == 19) && ((clock_Over 8 8) && ((!(clock_Over 7 8)) && (((clock_Left 5 8) == 3) && (((clock_Resume 4 9) == 9) && ((clock_Tick 18446744073709551615 1) == 18446744073709551615)))))))))] [] hk rfl ?_ ?_
  · clear hk; intro k hk
    refine Go.bnd (Pf := (PostX Γ bursarylaw27_sure_enc)) (v := (id x2.2)) (fun x3 => [(0, tb ((decide (x1.2 = 0)) && ((x1.1 == 8) && ((x3 == 19) && ((clock_Over 8 8) && ((!(clock_Over 7 8)) && (((clock_Left 5 8) == 3) && (((clock_Resume 4 9) == 9) && ((clock_Tick 18446744073709551615 1) == 18446744073709551615)))))))))]) (fun x3 => []) ?_
    intro x3 hx3
    refine Go.bnd (Pf := (PostX Γ bursarylaw27_sure_enc)) (v := (clock_Over 8 8)) (fun x4 => [(0, tb ((decide (x1.2 = 0)) && ((x1.1 == 8) && ((x3 == 19) && (x4 && ((!(clock_Over 7 8)) && (((clock_Left 5 8) == 3) && (((clock_Resume 4 9) == 9) && ((clock_Tick 18446744073709551615 1) == 18446744073709551615)))))))))]) (fun x4 => []) ?_
    intro x4 hx4
    refine Go.bnd (Pf := (PostX Γ bursarylaw27_sure_enc)) (v := (clock_Over 7 8)) (fun x5 => [(0, tb ((decide (x1.2 = 0)) && ((x1.1 == 8) && ((x3 == 19) && (x4 && ((!x5) && (((clock_Left 5 8) == 3) && (((clock_Resume 4 9) == 9) && ((clock_Tick 18446744073709551615 1) == 18446744073709551615)))))))))]) (fun x5 => []) ?_
    intro x5 hx5
    refine Go.bnd (Pf := (PostX Γ bursarylaw27_sure_enc)) (v := (clock_Left 5 8)) (fun x6 => [(0, tb ((decide (x1.2 = 0)) && ((x1.1 == 8) && ((x3 == 19) && (x4 && ((!x5) && ((x6 == 3) && (((clock_Resume 4 9) == 9) && ((clock_Tick 18446744073709551615 1) == 18446744073709551615)))))))))]) (fun x6 => []) ?_
    intro x6 hx6
    refine Go.bnd (Pf := (PostX Γ bursarylaw27_sure_enc)) (v := (clock_Resume 4 9)) (fun x7 => [(0, tb ((decide (x1.2 = 0)) && ((x1.1 == 8) && ((x3 == 19) && (x4 && ((!x5) && ((x6 == 3) && ((x7 == 9) && ((clock_Tick 18446744073709551615 1) == 18446744073709551615)))))))))]) (fun x7 => []) ?_
    intro x7 hx7
    refine Go.bnd (Pf := (PostX Γ bursarylaw27_sure_enc)) (v := (clock_Tick 18446744073709551615 1)) (fun x8 => [(0, tb ((decide (x1.2 = 0)) && ((x1.1 == 8) && ((x3 == 19) && (x4 && ((!x5) && ((x6 == 3) && ((x7 == 9) && (x8 == 18446744073709551615)))))))))]) (fun x8 => []) ?_
    intro x8 hx8
    exact Go.lvx 20 [] _ [tb ((decide (x1.2 = 0)) && ((x1.1 == 8) && ((x3 == 19) && (x4 && ((!x5) && ((x6 == 3) && ((x7 == 9) && (x8 == 18446744073709551615))))))))] Tryd.func11 hk rfl (by as_aux_lemma => kernel_rfl) .nil (T.Le.of_eq rfl) rfl rfl .nil
  · intro hk J
    rcases Bool.eq_false_or_eq_true (decide (x1.2 = 0)) with g1 | g1
    · have g1p := of_decide_eq_true g1
      rcases Bool.eq_false_or_eq_true (x1.1 == 8) with g2 | g2
      · rcases Bool.eq_false_or_eq_true ((id x2.2) == 19) with g3 | g3
        · have g3p := eqIt g3
          rcases Bool.eq_false_or_eq_true (clock_Over 8 8) with g4 | g4
          · rcases Bool.eq_false_or_eq_true (!(clock_Over 7 8)) with g5 | g5
            · have g5' : (clock_Over 7 8) = false := by simpa using g5
              rcases Bool.eq_false_or_eq_true ((clock_Left 5 8) == 3) with g6 | g6
              · rcases Bool.eq_false_or_eq_true ((clock_Resume 4 9) == 9) with g7 | g7
                · refine Go.rx 20 { ws := [(1, { v := some (tb true), er := some (83, x1.2) }), (4, { v := some (tb true) }), (8, { call := some { ids := [], S := [], M := [], R := ti (id x2.2), H' := [] } }), (9, { v := some (tb true) }), (12, { v := some (tb true), call := some { ids := [], S := [], M := [], R := tb (clock_Over 8 8), H' := [] } }), (15, { v := some (tb false), call := some { ids := [], S := [], M := [], R := tb (clock_Over 7 8), H' := [] } }), (19, { call := some { ids := [], S := [], M := [], R := t64 (clock_Left 5 8), H' := [] } }), (20, { v := some (tb true) }), (23, { call := some { ids := [], S := [], M := [], R := t64 (clock_Resume 4 9), H' := [] } }), (24, { v := some (tb true) }), (27, { call := some { ids := [], S := [], M := [], R := t64 (clock_Tick 18446744073709551615 1), H' := [] } }), (28, { v := some (tb ((clock_Tick 18446744073709551615 1) == 18446744073709551615)) })] } [] [0] _ [(0, tb ((clock_Tick 18446744073709551615 1) == 18446744073709551615))] [] hk rfl (by as_aux_lemma => kernel_rfl) (.cons (⟨rfl, rfl⟩ : (er 83 x1.2) = er 83 x1.2 ∧ (.leaf .nilIface : T) = .leaf .nilIface) (.cons (eb g1) (.cons trivial (.cons ((eqB64 x1.1 8).trans (eb g2)) (.cons (bursarylaw27_num_m x2.2) (.cons (by first | rfl | (simp only [T.ids, idsL, er_ids, List.append_nil, List.nil_append]; rfl) : subN (idsL [er 83 x2.2]) [] = true) (.cons trivial (.cons (eb g3) (.cons (clock_Over_m 8 8) (.cons (by first | rfl | (simp only [T.ids, idsL, er_ids, List.append_nil, List.nil_append]; rfl) : subN (idsL [t64 8, t64 8]) [] = true) (.cons (eb g4) (.cons (clock_Over_m 7 8) (.cons (by first | rfl | (simp only [T.ids, idsL, er_ids, List.append_nil, List.nil_append]; rfl) : subN (idsL [t64 7, t64 8]) [] = true) (.cons (eb g5') (.cons (clock_Left_m 5 8) (.cons (by first | rfl | (simp only [T.ids, idsL, er_ids, List.append_nil, List.nil_append]; rfl) : subN (idsL [t64 5, t64 8]) [] = true) (.cons trivial (.cons ((eqB64 (clock_Left 5 8) 3).trans (eb g6)) (.cons (clock_Resume_m 4 9) (.cons (by first | rfl | (simp only [T.ids, idsL, er_ids, List.append_nil, List.nil_append]; rfl) : subN (idsL [t64 4, t64 9]) [] = true) (.cons trivial (.cons ((eqB64 (clock_Resume 4 9) 9).trans (eb g7)) (.cons (clock_Tick_m 18446744073709551615 1) (.cons (by first | rfl | (simp only [T.ids, idsL, er_ids, List.append_nil, List.nil_append]; rfl) : subN (idsL [t64 18446744073709551615, t64 1]) [] = true) (.cons trivial (.cons (eqB64 (clock_Tick 18446744073709551615 1) 18446744073709551615) .nil)))))))))))))))))))))))))) ?_
                  intro k' hk'
                  refine Go.slotEq 0 (tb ((decide (x1.2 = 0)) && ((x1.1 == 8) && (((id x2.2) == 19) && ((clock_Over 8 8) && ((!(clock_Over 7 8)) && (((clock_Left 5 8) == 3) && (((clock_Resume 4 9) == 9) && ((clock_Tick 18446744073709551615 1) == 18446744073709551615))))))))) rfl (eb (andT g1 (andT g2 (andT g3 (andT g4 (andT g5 (andT g6 (andT g7 rfl))))))).symm) ?_
                  exact J k' hk'
                · refine Go.rx 20 { ws := [(1, { v := some (tb true), er := some (83, x1.2) }), (4, { v := some (tb true) }), (8, { call := some { ids := [], S := [], M := [], R := ti (id x2.2), H' := [] } }), (9, { v := some (tb true) }), (12, { v := some (tb true), call := some { ids := [], S := [], M := [], R := tb (clock_Over 8 8), H' := [] } }), (15, { v := some (tb false), call := some { ids := [], S := [], M := [], R := tb (clock_Over 7 8), H' := [] } }), (19, { call := some { ids := [], S := [], M := [], R := t64 (clock_Left 5 8), H' := [] } }), (20, { v := some (tb true) }), (23, { call := some { ids := [], S := [], M := [], R := t64 (clock_Resume 4 9), H' := [] } }), (24, { v := some (tb false) })] } [] [0] _ [(0, tb false)] [] hk rfl (by as_aux_lemma => kernel_rfl) (.cons (⟨rfl, rfl⟩ : (er 83 x1.2) = er 83 x1.2 ∧ (.leaf .nilIface : T) = .leaf .nilIface) (.cons (eb g1) (.cons trivial (.cons ((eqB64 x1.1 8).trans (eb g2)) (.cons (bursarylaw27_num_m x2.2) (.cons (by first | rfl | (simp only [T.ids, idsL, er_ids, List.append_nil, List.nil_append]; rfl) : subN (idsL [er 83 x2.2]) [] = true) (.cons trivial (.cons (eb g3) (.cons (clock_Over_m 8 8) (.cons (by first | rfl | (simp only [T.ids, idsL, er_ids, List.append_nil, List.nil_append]; rfl) : subN (idsL [t64 8, t64 8]) [] = true) (.cons (eb g4) (.cons (clock_Over_m 7 8) (.cons (by first | rfl | (simp only [T.ids, idsL, er_ids, List.append_nil, List.nil_append]; rfl) : subN (idsL [t64 7, t64 8]) [] = true) (.cons (eb g5') (.cons (clock_Left_m 5 8) (.cons (by first | rfl | (simp only [T.ids, idsL, er_ids, List.append_nil, List.nil_append]; rfl) : subN (idsL [t64 5, t64 8]) [] = true) (.cons trivial (.cons ((eqB64 (clock_Left 5 8) 3).trans (eb g6)) (.cons (clock_Resume_m 4 9) (.cons (by first | rfl | (simp only [T.ids, idsL, er_ids, List.append_nil, List.nil_append]; rfl) : subN (idsL [t64 4, t64 9]) [] = true) (.cons trivial (.cons ((eqB64 (clock_Resume 4 9) 9).trans (eb g7)) .nil)))))))))))))))))))))) ?_
                  intro k' hk'
                  refine Go.slotEq 0 (tb ((decide (x1.2 = 0)) && ((x1.1 == 8) && (((id x2.2) == 19) && ((clock_Over 8 8) && ((!(clock_Over 7 8)) && (((clock_Left 5 8) == 3) && (((clock_Resume 4 9) == 9) && ((clock_Tick 18446744073709551615 1) == 18446744073709551615))))))))) rfl (eb (andT g1 (andT g2 (andT g3 (andT g4 (andT g5 (andT g6 (andF g7))))))).symm) ?_
                  exact J k' hk'
              · refine Go.rx 20 { ws := [(1, { v := some (tb true), er := some (83, x1.2) }), (4, { v := some (tb true) }), (8, { call := some { ids := [], S := [], M := [], R := ti (id x2.2), H' := [] } }), (9, { v := some (tb true) }), (12, { v := some (tb true), call := some { ids := [], S := [], M := [], R := tb (clock_Over 8 8), H' := [] } }), (15, { v := some (tb false), call := some { ids := [], S := [], M := [], R := tb (clock_Over 7 8), H' := [] } }), (19, { call := some { ids := [], S := [], M := [], R := t64 (clock_Left 5 8), H' := [] } }), (20, { v := some (tb false) })] } [] [0] _ [(0, tb false)] [] hk rfl (by as_aux_lemma => kernel_rfl) (.cons (⟨rfl, rfl⟩ : (er 83 x1.2) = er 83 x1.2 ∧ (.leaf .nilIface : T) = .leaf .nilIface) (.cons (eb g1) (.cons trivial (.cons ((eqB64 x1.1 8).trans (eb g2)) (.cons (bursarylaw27_num_m x2.2) (.cons (by first | rfl | (simp only [T.ids, idsL, er_ids, List.append_nil, List.nil_append]; rfl) : subN (idsL [er 83 x2.2]) [] = true) (.cons trivial (.cons (eb g3) (.cons (clock_Over_m 8 8) (.cons (by first | rfl | (simp only [T.ids, idsL, er_ids, List.append_nil, List.nil_append]; rfl) : subN (idsL [t64 8, t64 8]) [] = true) (.cons (eb g4) (.cons (clock_Over_m 7 8) (.cons (by first | rfl | (simp only [T.ids, idsL, er_ids, List.append_nil, List.nil_append]; rfl) : subN (idsL [t64 7, t64 8]) [] = true) (.cons (eb g5') (.cons (clock_Left_m 5 8) (.cons (by first | rfl | (simp only [T.ids, idsL, er_ids, List.append_nil, List.nil_append]; rfl) : subN (idsL [t64 5, t64 8]) [] = true) (.cons trivial (.cons ((eqB64 (clock_Left 5 8) 3).trans (eb g6)) .nil)))))))))))))))))) ?_
                intro k' hk'
                refine Go.slotEq 0 (tb ((decide (x1.2 = 0)) && ((x1.1 == 8) && (((id x2.2) == 19) && ((clock_Over 8 8) && ((!(clock_Over 7 8)) && (((clock_Left 5 8) == 3) && (((clock_Resume 4 9) == 9) && ((clock_Tick 18446744073709551615 1) == 18446744073709551615))))))))) rfl (eb (andT g1 (andT g2 (andT g3 (andT g4 (andT g5 (andF g6)))))).symm) ?_
                exact J k' hk'
            · have g5' : (clock_Over 7 8) = true := by simpa using g5
              refine Go.rx 20 { ws := [(1, { v := some (tb true), er := some (83, x1.2) }), (4, { v := some (tb true) }), (8, { call := some { ids := [], S := [], M := [], R := ti (id x2.2), H' := [] } }), (9, { v := some (tb true) }), (12, { v := some (tb true), call := some { ids := [], S := [], M := [], R := tb (clock_Over 8 8), H' := [] } }), (15, { v := some (tb true), call := some { ids := [], S := [], M := [], R := tb (clock_Over 7 8), H' := [] } })] } [] [0] _ [(0, tb false)] [] hk rfl (by as_aux_lemma => kernel_rfl) (.cons (⟨rfl, rfl⟩ : (er 83 x1.2) = er 83 x1.2 ∧ (.leaf .nilIface : T) = .leaf .nilIface) (.cons (eb g1) (.cons trivial (.cons ((eqB64 x1.1 8).trans (eb g2)) (.cons (bursarylaw27_num_m x2.2) (.cons (by first | rfl | (simp only [T.ids, idsL, er_ids, List.append_nil, List.nil_append]; rfl) : subN (idsL [er 83 x2.2]) [] = true) (.cons trivial (.cons (eb g3) (.cons (clock_Over_m 8 8) (.cons (by first | rfl | (simp only [T.ids, idsL, er_ids, List.append_nil, List.nil_append]; rfl) : subN (idsL [t64 8, t64 8]) [] = true) (.cons (eb g4) (.cons (clock_Over_m 7 8) (.cons (by first | rfl | (simp only [T.ids, idsL, er_ids, List.append_nil, List.nil_append]; rfl) : subN (idsL [t64 7, t64 8]) [] = true) (.cons (eb g5') .nil)))))))))))))) ?_
              intro k' hk'
              refine Go.slotEq 0 (tb ((decide (x1.2 = 0)) && ((x1.1 == 8) && (((id x2.2) == 19) && ((clock_Over 8 8) && ((!(clock_Over 7 8)) && (((clock_Left 5 8) == 3) && (((clock_Resume 4 9) == 9) && ((clock_Tick 18446744073709551615 1) == 18446744073709551615))))))))) rfl (eb (andT g1 (andT g2 (andT g3 (andT g4 (andF g5))))).symm) ?_
              exact J k' hk'
          · refine Go.rx 20 { ws := [(1, { v := some (tb true), er := some (83, x1.2) }), (4, { v := some (tb true) }), (8, { call := some { ids := [], S := [], M := [], R := ti (id x2.2), H' := [] } }), (9, { v := some (tb true) }), (12, { v := some (tb false), call := some { ids := [], S := [], M := [], R := tb (clock_Over 8 8), H' := [] } })] } [] [0] _ [(0, tb false)] [] hk rfl (by as_aux_lemma => kernel_rfl) (.cons (⟨rfl, rfl⟩ : (er 83 x1.2) = er 83 x1.2 ∧ (.leaf .nilIface : T) = .leaf .nilIface) (.cons (eb g1) (.cons trivial (.cons ((eqB64 x1.1 8).trans (eb g2)) (.cons (bursarylaw27_num_m x2.2) (.cons (by first | rfl | (simp only [T.ids, idsL, er_ids, List.append_nil, List.nil_append]; rfl) : subN (idsL [er 83 x2.2]) [] = true) (.cons trivial (.cons (eb g3) (.cons (clock_Over_m 8 8) (.cons (by first | rfl | (simp only [T.ids, idsL, er_ids, List.append_nil, List.nil_append]; rfl) : subN (idsL [t64 8, t64 8]) [] = true) (.cons (eb g4) .nil))))))))))) ?_
            intro k' hk'
            refine Go.slotEq 0 (tb ((decide (x1.2 = 0)) && ((x1.1 == 8) && (((id x2.2) == 19) && ((clock_Over 8 8) && ((!(clock_Over 7 8)) && (((clock_Left 5 8) == 3) && (((clock_Resume 4 9) == 9) && ((clock_Tick 18446744073709551615 1) == 18446744073709551615))))))))) rfl (eb (andT g1 (andT g2 (andT g3 (andF g4)))).symm) ?_
            exact J k' hk'
        · have g3p := eqIf g3
          refine Go.rx 20 { ws := [(1, { v := some (tb true), er := some (83, x1.2) }), (4, { v := some (tb true) }), (8, { call := some { ids := [], S := [], M := [], R := ti (id x2.2), H' := [] } }), (9, { v := some (tb false) })] } [] [0] _ [(0, tb false)] [] hk rfl (by as_aux_lemma => kernel_rfl) (.cons (⟨rfl, rfl⟩ : (er 83 x1.2) = er 83 x1.2 ∧ (.leaf .nilIface : T) = .leaf .nilIface) (.cons (eb g1) (.cons trivial (.cons ((eqB64 x1.1 8).trans (eb g2)) (.cons (bursarylaw27_num_m x2.2) (.cons (by first | rfl | (simp only [T.ids, idsL, er_ids, List.append_nil, List.nil_append]; rfl) : subN (idsL [er 83 x2.2]) [] = true) (.cons trivial (.cons (eb g3) .nil)))))))) ?_
          intro k' hk'
          refine Go.slotEq 0 (tb ((decide (x1.2 = 0)) && ((x1.1 == 8) && (((id x2.2) == 19) && ((clock_Over 8 8) && ((!(clock_Over 7 8)) && (((clock_Left 5 8) == 3) && (((clock_Resume 4 9) == 9) && ((clock_Tick 18446744073709551615 1) == 18446744073709551615))))))))) rfl (eb (andT g1 (andT g2 (andF g3))).symm) ?_
          exact J k' hk'
      · refine Go.rx 20 { ws := [(1, { v := some (tb true), er := some (83, x1.2) }), (4, { v := some (tb false) })] } [] [0] _ [(0, tb false)] [] hk rfl (by as_aux_lemma => kernel_rfl) (.cons (⟨rfl, rfl⟩ : (er 83 x1.2) = er 83 x1.2 ∧ (.leaf .nilIface : T) = .leaf .nilIface) (.cons (eb g1) (.cons trivial (.cons ((eqB64 x1.1 8).trans (eb g2)) .nil)))) ?_
        intro k' hk'
        refine Go.slotEq 0 (tb ((decide (x1.2 = 0)) && ((x1.1 == 8) && (((id x2.2) == 19) && ((clock_Over 8 8) && ((!(clock_Over 7 8)) && (((clock_Left 5 8) == 3) && (((clock_Resume 4 9) == 9) && ((clock_Tick 18446744073709551615 1) == 18446744073709551615))))))))) rfl (eb (andT g1 (andF g2)).symm) ?_
        exact J k' hk'
    · have g1p := of_decide_eq_false g1
      refine Go.rx 20 { ws := [(1, { v := some (tb false), er := some (83, x1.2) })] } [] [0] _ [(0, tb false)] [] hk rfl (by as_aux_lemma => kernel_rfl) (.cons (⟨rfl, rfl⟩ : (er 83 x1.2) = er 83 x1.2 ∧ (.leaf .nilIface : T) = .leaf .nilIface) (.cons (eb g1) .nil)) ?_
      intro k' hk'
      refine Go.slotEq 0 (tb ((decide (x1.2 = 0)) && ((x1.1 == 8) && (((id x2.2) == 19) && ((clock_Over 8 8) && ((!(clock_Over 7 8)) && (((clock_Left 5 8) == 3) && (((clock_Resume 4 9) == 9) && ((clock_Tick 18446744073709551615 1) == 18446744073709551615))))))))) rfl (eb (andF g1).symm) ?_
      exact J k' hk'
noncomputable def bursarylaw27_ClockExact (a0 : UInt64) (a1 : UInt64) (a2 : UInt64) : Bool :=
  bnd (clock_Until a0 a1) fun x1 =>
  bnd (bursaryref27_Until a0 a1) fun x2 =>
  bnd (clock_Renew a0 a1 a2) fun x3 =>
  bnd (bursaryref27_Renew a0 a1 a2) fun x4 =>
  bif a2 == 18446744073709551615 then
    bnd (clock_Tick a0 a1) fun x5 =>
    bnd (bursaryref27_Tick a0 a1) fun x6 =>
    bnd (id x1.2) fun x7 =>
    bnd (id x3.2) fun x8 =>
    bnd (clock_Over a0 a2) fun x9 =>
    bnd (bursaryref27_Over a0 a2) fun x10 =>
    bnd (clock_Left a0 a2) fun x11 =>
    bnd (clock_Resume a0 a2) fun x12 =>
    (x5 == x6) && ((x1.1 == x2.1) && ((x7 == x2.2) && ((x3.1 == x4.1) && ((x8 == x4.2) && ((x9 == x10) && ((x11 == a2) && ((x12 == (if a2 > a0 then a2 else a0)) && bursarylaw27_sure)))))))
  else
    bnd (bif decide (a2 > a0) then a2 - a0 else 0) fun y1 =>
    bnd (clock_Tick a0 a1) fun x13 =>
    bnd (bursaryref27_Tick a0 a1) fun x14 =>
    bnd (id x1.2) fun x15 =>
    bnd (id x3.2) fun x16 =>
    bnd (clock_Over a0 a2) fun x17 =>
    bnd (bursaryref27_Over a0 a2) fun x18 =>
    bnd (clock_Left a0 a2) fun x19 =>
    bnd (clock_Resume a0 a2) fun x20 =>
    (x13 == x14) && ((x1.1 == x2.1) && ((x15 == x2.2) && ((x3.1 == x4.1) && ((x16 == x4.2) && ((x17 == x18) && ((x19 == y1) && ((x20 == (if a2 > a0 then a2 else a0)) && bursarylaw27_sure)))))))
def bursarylaw27_ClockExact_enc (x : Bool) : T × List (Nat × List T) := (tb x, [])
theorem bursarylaw27_ClockExact_m (a0 : UInt64) (a1 : UInt64) (a2 : UInt64) : Meets Tryd.prog 4 [t64 a0, t64 a1, t64 a2] [] [] (tb (bursarylaw27_ClockExact a0 a1 a2)) [] := by
  refine Meets.enterX (E := E) (N := 108) (enc := bursarylaw27_ClockExact_enc) (x := (bursarylaw27_ClockExact a0 a1 a2)) Tryd.func4 Tryd.call4 rfl rfl ?_
  intro Γ k hk
  refine Go.rx 20 {} [] [0, 1, 2] _ [(0, t64 a0), (1, t64 a1), (2, t64 a2)] [] hk rfl (by as_aux_lemma => kernel_rfl) .nil ?_
  clear hk; intro k hk
  refine Go.rx 20 { ws := [(2, { call := some { ids := [], S := [], M := [], R := .tup [t64 ((clock_Until a0 a1).1), er 83 ((clock_Until a0 a1).2)], H' := [] } })] } [] [0, 1, 2, 7, 8] _ [(0, t64 a0), (1, t64 a1), (2, t64 a2), (7, t64 ((clock_Until a0 a1).1)), (8, er 83 ((clock_Until a0 a1).2))] [] hk rfl (by as_aux_lemma => kernel_rfl) (.cons (clock_Until_m a0 a1) (.cons (by first | rfl | (simp only [T.ids, idsL, er_ids, List.append_nil, List.nil_append]; rfl) : subN (idsL [t64 a0, t64 a1]) [] = true) .nil)) ?_
  clear hk; intro k hk
  refine Go.bnd (Pf := (PostX Γ bursarylaw27_ClockExact_enc)) (v := (clock_Until a0 a1)) (fun x1 => [(0, t64 a0), (1, t64 a1), (2, t64 a2), (7, t64 x1.1), (8, er 83 x1.2)]) (fun x1 => []) ?_
  intro x1 hx1
  refine Go.rx 20 { ws := [(2, { call := some { ids := [], S := [], M := [], R := .tup [t64 ((bursaryref27_Until a0 a1).1), ti ((bursaryref27_Until a0 a1).2)], H' := [] } })] } [] [0, 1, 2, 7, 8, 9, 10] _ [(0, t64 a0), (1, t64 a1), (2, t64 a2), (7, t64 x1.1), (8, er 83 x1.2), (9, t64 ((bursaryref27_Until a0 a1).1)), (10, ti ((bursaryref27_Until a0 a1).2))] [] hk rfl (by as_aux_lemma => kernel_rfl) (.cons (bursaryref27_Until_m a0 a1) (.cons (by first | rfl | (simp only [T.ids, idsL, er_ids, List.append_nil, List.nil_append]; rfl) : subN (idsL [t64 a0, t64 a1]) [] = true) .nil)) ?_
  clear hk; intro k hk
  refine Go.bnd (Pf := (PostX Γ bursarylaw27_ClockExact_enc)) (v := (bursaryref27_Until a0 a1)) (fun x2 => [(0, t64 a0), (1, t64 a1), (2, t64 a2), (7, t64 x1.1), (8, er 83 x1.2), (9, t64 x2.1), (10, ti x2.2)]) (fun x2 => []) ?_
  intro x2 hx2
  refine Go.rx 20 { ws := [(3, { call := some { ids := [], S := [], M := [], R := .tup [t64 ((clock_Renew a0 a1 a2).1), er 83 ((clock_Renew a0 a1 a2).2)], H' := [] } })] } [] [0, 1, 2, 7, 8, 9, 10, 11, 12] _ [(0, t64 a0), (1, t64 a1), (2, t64 a2), (7, t64 x1.1), (8, er 83 x1.2), (9, t64 x2.1), (10, ti x2.2), (11, t64 ((clock_Renew a0 a1 a2).1)), (12, er 83 ((clock_Renew a0 a1 a2).2))] [] hk rfl (by as_aux_lemma => kernel_rfl) (.cons (clock_Renew_m a0 a1 a2) (.cons (by first | rfl | (simp only [T.ids, idsL, er_ids, List.append_nil, List.nil_append]; rfl) : subN (idsL [t64 a0, t64 a1, t64 a2]) [] = true) .nil)) ?_
  clear hk; intro k hk
  refine Go.bnd (Pf := (PostX Γ bursarylaw27_ClockExact_enc)) (v := (clock_Renew a0 a1 a2)) (fun x3 => [(0, t64 a0), (1, t64 a1), (2, t64 a2), (7, t64 x1.1), (8, er 83 x1.2), (9, t64 x2.1), (10, ti x2.2), (11, t64 x3.1), (12, er 83 x3.2)]) (fun x3 => []) ?_
  intro x3 hx3
  refine Go.rx 20 { ws := [(3, { call := some { ids := [], S := [], M := [], R := .tup [t64 ((bursaryref27_Renew a0 a1 a2).1), ti ((bursaryref27_Renew a0 a1 a2).2)], H' := [] } })] } [] [0, 1, 2, 7, 8, 9, 10, 11, 12, 13, 14] _ [(0, t64 a0), (1, t64 a1), (2, t64 a2), (7, t64 x1.1), (8, er 83 x1.2), (9, t64 x2.1), (10, ti x2.2), (11, t64 x3.1), (12, er 83 x3.2), (13, t64 ((bursaryref27_Renew a0 a1 a2).1)), (14, ti ((bursaryref27_Renew a0 a1 a2).2))] [] hk rfl (by as_aux_lemma => kernel_rfl) (.cons (bursaryref27_Renew_m a0 a1 a2) (.cons (by first | rfl | (simp only [T.ids, idsL, er_ids, List.append_nil, List.nil_append]; rfl) : subN (idsL [t64 a0, t64 a1, t64 a2]) [] = true) .nil)) ?_
  clear hk; intro k hk
  refine Go.bnd (Pf := (PostX Γ bursarylaw27_ClockExact_enc)) (v := (bursaryref27_Renew a0 a1 a2)) (fun x4 => [(0, t64 a0), (1, t64 a1), (2, t64 a2), (7, t64 x1.1), (8, er 83 x1.2), (9, t64 x2.1), (10, ti x2.2), (11, t64 x3.1), (12, er 83 x3.2), (13, t64 x4.1), (14, ti x4.2)]) (fun x4 => []) ?_
  intro x4 hx4
  refine Go.rx 20 {} [] [0, 1, 2, 7, 8, 9, 10, 11, 12, 13, 14, 15] _ [(0, t64 a0), (1, t64 a1), (2, t64 a2), (7, t64 x1.1), (8, er 83 x1.2), (9, t64 x2.1), (10, ti x2.2), (11, t64 x3.1), (12, er 83 x3.2), (13, t64 x4.1), (14, ti x4.2), (15, t64 0)] [] hk rfl (by as_aux_lemma => kernel_rfl) .nil ?_
  clear hk; intro k hk
  refine Go.rx 20 { ws := [(1, { v := some (tb (a2 == 18446744073709551615)) })] } [] [0, 1, 2, 7, 8, 9, 10, 11, 12, 13, 14, 15, 43] _ [(0, t64 a0), (1, t64 a1), (2, t64 a2), (7, t64 x1.1), (8, er 83 x1.2), (9, t64 x2.1), (10, ti x2.2), (11, t64 x3.1), (12, er 83 x3.2), (13, t64 x4.1), (14, ti x4.2), (15, t64 0), (43, tb (a2 == 18446744073709551615))] [] hk rfl (by as_aux_lemma => kernel_rfl) (.cons trivial (.cons (eqB64 a2 18446744073709551615) .nil)) ?_
  clear hk; intro k hk
  refine Go.br 20 (Pf := (PostX Γ bursarylaw27_ClockExact_enc)) hk rfl rfl ?_ ?_ <;> clear hk <;> intro c2 k hk
  · refine Go.rx 20 {} [] [0, 1, 2, 7, 8, 9, 10, 11, 12, 13, 14, 15] _ [(0, t64 a0), (1, t64 a1), (2, t64 a2), (7, t64 x1.1), (8, er 83 x1.2), (9, t64 x2.1), (10, ti x2.2), (11, t64 x3.1), (12, er 83 x3.2), (13, t64 x4.1), (14, ti x4.2), (15, t64 a2)] [] hk rfl (by as_aux_lemma => kernel_rfl) .nil ?_
    clear hk; intro k hk
    refine Go.regJ 20 [(6, tb (((clock_Tick a0 a1) == (bursaryref27_Tick a0 a1)) && ((x1.1 == x2.1) && (((id x1.2) == x2.2) && ((x3.1 == x4.1) && (((id x3.2) == x4.2) && (((clock_Over a0 a2) == (bursaryref27_Over a0 a2)) && (((clock_Left a0 a2) == a2) && (((clock_Resume a0 a2) == (if a2 > a0 then a2 else a0)) && bursarylaw27_sure)))))))))] [] hk rfl ?_ ?_
    · clear hk; intro k hk
      refine Go.bnd (Pf := (PostX Γ bursarylaw27_ClockExact_enc)) (v := (clock_Tick a0 a1)) (fun x5 => [(6, tb ((x5 == (bursaryref27_Tick a0 a1)) && ((x1.1 == x2.1) && (((id x1.2) == x2.2) && ((x3.1 == x4.1) && (((id x3.2) == x4.2) && (((clock_Over a0 a2) == (bursaryref27_Over a0 a2)) && (((clock_Left a0 a2) == a2) && (((clock_Resume a0 a2) == (if a2 > a0 then a2 else a0)) && bursarylaw27_sure)))))))))]) (fun x5 => []) ?_
      intro x5 hx5
      refine Go.bnd (Pf := (PostX Γ bursarylaw27_ClockExact_enc)) (v := (bursaryref27_Tick a0 a1)) (fun x6 => [(6, tb ((x5 == x6) && ((x1.1 == x2.1) && (((id x1.2) == x2.2) && ((x3.1 == x4.1) && (((id x3.2) == x4.2) && (((clock_Over a0 a2) == (bursaryref27_Over a0 a2)) && (((clock_Left a0 a2) == a2) && (((clock_Resume a0 a2) == (if a2 > a0 then a2 else a0)) && bursarylaw27_sure)))))))))]) (fun x6 => []) ?_
      intro x6 hx6
      refine Go.bnd (Pf := (PostX Γ bursarylaw27_ClockExact_enc)) (v := (id x1.2)) (fun x7 => [(6, tb ((x5 == x6) && ((x1.1 == x2.1) && ((x7 == x2.2) && ((x3.1 == x4.1) && (((id x3.2) == x4.2) && (((clock_Over a0 a2) == (bursaryref27_Over a0 a2)) && (((clock_Left a0 a2) == a2) && (((clock_Resume a0 a2) == (if a2 > a0 then a2 else a0)) && bursarylaw27_sure)))))))))]) (fun x7 => []) ?_
      intro x7 hx7
      refine Go.bnd (Pf := (PostX Γ bursarylaw27_ClockExact_enc)) (v := (id x3.2)) (fun x8 => [(6, tb ((x5 == x6) && ((x1.1 == x2.1) && ((x7 == x2.2) && ((x3.1 == x4.1) && ((x8 == x4.2) && (((clock_Over a0 a2) == (bursaryref27_Over a0 a2)) && (((clock_Left a0 a2) == a2) && (((clock_Resume a0 a2) == (if a2 > a0 then a2 else a0)) && bursarylaw27_sure)))))))))]) (fun x8 => []) ?_
      intro x8 hx8
      refine Go.bnd (Pf := (PostX Γ bursarylaw27_ClockExact_enc)) (v := (clock_Over a0 a2)) (fun x9 => [(6, tb ((x5 == x6) && ((x1.1 == x2.1) && ((x7 == x2.2) && ((x3.1 == x4.1) && ((x8 == x4.2) && ((x9 == (bursaryref27_Over a0 a2)) && (((clock_Left a0 a2) == a2) && (((clock_Resume a0 a2) == (if a2 > a0 then a2 else a0)) && bursarylaw27_sure)))))))))]) (fun x9 => []) ?_
      intro x9 hx9
      refine Go.bnd (Pf := (PostX Γ bursarylaw27_ClockExact_enc)) (v := (bursaryref27_Over a0 a2)) (fun x10 => [(6, tb ((x5 == x6) && ((x1.1 == x2.1) && ((x7 == x2.2) && ((x3.1 == x4.1) && ((x8 == x4.2) && ((x9 == x10) && (((clock_Left a0 a2) == a2) && (((clock_Resume a0 a2) == (if a2 > a0 then a2 else a0)) && bursarylaw27_sure)))))))))]) (fun x10 => []) ?_
      intro x10 hx10
      refine Go.bnd (Pf := (PostX Γ bursarylaw27_ClockExact_enc)) (v := (clock_Left a0 a2)) (fun x11 => [(6, tb ((x5 == x6) && ((x1.1 == x2.1) && ((x7 == x2.2) && ((x3.1 == x4.1) && ((x8 == x4.2) && ((x9 == x10) && ((x11 == a2) && (((clock_Resume a0 a2) == (if a2 > a0 then a2 else a0)) && bursarylaw27_sure)))))))))]) (fun x11 => []) ?_
      intro x11 hx11
      refine Go.bnd (Pf := (PostX Γ bursarylaw27_ClockExact_enc)) (v := (clock_Resume a0 a2)) (fun x12 => [(6, tb ((x5 == x6) && ((x1.1 == x2.1) && ((x7 == x2.2) && ((x3.1 == x4.1) && ((x8 == x4.2) && ((x9 == x10) && ((x11 == a2) && ((x12 == (if a2 > a0 then a2 else a0)) && bursarylaw27_sure)))))))))]) (fun x12 => []) ?_
      intro x12 hx12
      exact Go.lvx 20 [] _ [tb ((x5 == x6) && ((x1.1 == x2.1) && ((x7 == x2.2) && ((x3.1 == x4.1) && ((x8 == x4.2) && ((x9 == x10) && ((x11 == a2) && ((x12 == (if a2 > a0 then a2 else a0)) && bursarylaw27_sure))))))))] Tryd.func4 hk rfl (by as_aux_lemma => kernel_rfl) .nil (T.Le.of_eq rfl) rfl rfl .nil
    · intro hk J
      rcases Bool.eq_false_or_eq_true ((clock_Tick a0 a1) == (bursaryref27_Tick a0 a1)) with g1 | g1
      · rcases Bool.eq_false_or_eq_true (x1.1 == x2.1) with g2 | g2
        · rcases Bool.eq_false_or_eq_true ((id x1.2) == x2.2) with g3 | g3
          · have g3p := eqIt g3
            rcases Bool.eq_false_or_eq_true (x3.1 == x4.1) with g4 | g4
            · rcases Bool.eq_false_or_eq_true ((id x3.2) == x4.2) with g5 | g5
              · have g5p := eqIt g5
                rcases Bool.eq_false_or_eq_true ((clock_Over a0 a2) == (bursaryref27_Over a0 a2)) with g6 | g6
                · rcases Bool.eq_false_or_eq_true ((clock_Left a0 a2) == a2) with g7 | g7
                  · rcases Bool.eq_false_or_eq_true ((clock_Resume a0 a2) == (if a2 > a0 then a2 else a0)) with g8 | g8
                    · refine Go.rx 20 { ws := [(2, { call := some { ids := [], S := [], M := [], R := t64 (clock_Tick a0 a1), H' := [] } }), (5, { call := some { ids := [], S := [], M := [], R := t64 (bursaryref27_Tick a0 a1), H' := [] } }), (6, { v := some (tb true) }), (10, { v := some (tb true) }), (14, { call := some { ids := [], S := [], M := [], R := ti (id x1.2), H' := [] } }), (16, { v := some (tb true) }), (21, { v := some (tb true) }), (25, { call := some { ids := [], S := [], M := [], R := ti (id x3.2), H' := [] } }), (27, { v := some (tb true) }), (32, { call := some { ids := [], S := [], M := [], R := tb (clock_Over a0 a2), H' := [] } }), (35, { call := some { ids := [], S := [], M := [], R := tb (bursaryref27_Over a0 a2), H' := [] } }), (36, { v := some (tb true) }), (41, { call := some { ids := [], S := [], M := [], R := t64 (clock_Left a0 a2), H' := [] } }), (43, { v := some (tb true) }), (48, { call := some { ids := [], S := [], M := [], R := t64 (clock_Resume a0 a2), H' := [] } }), (51, { v := some (t64 (if a2 > a0 then a2 else a0)) }), (52, { v := some (tb true) }), (55, { call := some { ids := [], S := [], M := [], R := tb bursarylaw27_sure, H' := [] } })] } [] [6] _ [(6, tb bursarylaw27_sure)] [] hk rfl (by as_aux_lemma => kernel_rfl) (.cons (clock_Tick_m a0 a1) (.cons (by first | rfl | (simp only [T.ids, idsL, er_ids, List.append_nil, List.nil_append]; rfl) : subN (idsL [t64 a0, t64 a1]) [] = true) (.cons (bursaryref27_Tick_m a0 a1) (.cons (by first | rfl | (simp only [T.ids, idsL, er_ids, List.append_nil, List.nil_append]; rfl) : subN (idsL [t64 a0, t64 a1]) [] = true) (.cons trivial (.cons ((eqB64 (clock_Tick a0 a1) (bursaryref27_Tick a0 a1)).trans (eb g1)) (.cons trivial (.cons ((eqB64 x1.1 x2.1).trans (eb g2)) (.cons (bursarylaw27_num_m x1.2) (.cons (by first | rfl | (simp only [T.ids, idsL, er_ids, List.append_nil, List.nil_append]; rfl) : subN (idsL [er 83 x1.2]) [] = true) (.cons trivial (.cons (eb g3) (.cons trivial (.cons ((eqB64 x3.1 x4.1).trans (eb g4)) (.cons (bursarylaw27_num_m x3.2) (.cons (by first | rfl | (simp only [T.ids, idsL, er_ids, List.append_nil, List.nil_append]; rfl) : subN (idsL [er 83 x3.2]) [] = true) (.cons trivial (.cons (eb g5) (.cons (clock_Over_m a0 a2) (.cons (by first | rfl | (simp only [T.ids, idsL, er_ids, List.append_nil, List.nil_append]; rfl) : subN (idsL [t64 a0, t64 a2]) [] = true) (.cons (bursaryref27_Over_m a0 a2) (.cons (by first | rfl | (simp only [T.ids, idsL, er_ids, List.append_nil, List.nil_append]; rfl) : subN (idsL [t64 a0, t64 a2]) [] = true) (.cons (eb g6) (.cons (clock_Left_m a0 a2) (.cons (by first | rfl | (simp only [T.ids, idsL, er_ids, List.append_nil, List.nil_append]; rfl) : subN (idsL [t64 a0, t64 a2]) [] = true) (.cons trivial (.cons ((eqB64 (clock_Left a0 a2) a2).trans (eb g7)) (.cons (clock_Resume_m a0 a2) (.cons (by first | rfl | (simp only [T.ids, idsL, er_ids, List.append_nil, List.nil_append]; rfl) : subN (idsL [t64 a0, t64 a2]) [] = true) (.cons (max64 a0 a2) (.cons trivial (.cons ((eqB64 (clock_Resume a0 a2) (if a2 > a0 then a2 else a0)).trans (eb g8)) (.cons (bursarylaw27_sure_m) (.cons (by first | rfl | (simp only [T.ids, idsL, er_ids, List.append_nil, List.nil_append]; rfl) : subN (idsL []) [] = true) .nil)))))))))))))))))))))))))))))))))) ?_
                      intro k' hk'
                      refine Go.slotEq 6 (tb (((clock_Tick a0 a1) == (bursaryref27_Tick a0 a1)) && ((x1.1 == x2.1) && (((id x1.2) == x2.2) && ((x3.1 == x4.1) && (((id x3.2) == x4.2) && (((clock_Over a0 a2) == (bursaryref27_Over a0 a2)) && (((clock_Left a0 a2) == a2) && (((clock_Resume a0 a2) == (if a2 > a0 then a2 else a0)) && bursarylaw27_sure))))))))) rfl (eb (andT g1 (andT g2 (andT g3 (andT g4 (andT g5 (andT g6 (andT g7 (andT g8 rfl)))))))).symm) ?_
                      exact J k' hk'
                    · refine Go.rx 20 { ws := [(2, { call := some { ids := [], S := [], M := [], R := t64 (clock_Tick a0 a1), H' := [] } }), (5, { call := some { ids := [], S := [], M := [], R := t64 (bursaryref27_Tick a0 a1), H' := [] } }), (6, { v := some (tb true) }), (10, { v := some (tb true) }), (14, { call := some { ids := [], S := [], M := [], R := ti (id x1.2), H' := [] } }), (16, { v := some (tb true) }), (21, { v := some (tb true) }), (25, { call := some { ids := [], S := [], M := [], R := ti (id x3.2), H' := [] } }), (27, { v := some (tb true) }), (32, { call := some { ids := [], S := [], M := [], R := tb (clock_Over a0 a2), H' := [] } }), (35, { call := some { ids := [], S := [], M := [], R := tb (bursaryref27_Over a0 a2), H' := [] } }), (36, { v := some (tb true) }), (41, { call := some { ids := [], S := [], M := [], R := t64 (clock_Left a0 a2), H' := [] } }), (43, { v := some (tb true) }), (48, { call := some { ids := [], S := [], M := [], R := t64 (clock_Resume a0 a2), H' := [] } }), (51, { v := some (t64 (if a2 > a0 then a2 else a0)) }), (52, { v := some (tb false) })] } [] [6] _ [(6, tb false)] [] hk rfl (by as_aux_lemma => kernel_rfl) (.cons (clock_Tick_m a0 a1) (.cons (by first | rfl | (simp only [T.ids, idsL, er_ids, List.append_nil, List.nil_append]; rfl) : subN (idsL [t64 a0, t64 a1]) [] = true) (.cons (bursaryref27_Tick_m a0 a1) (.cons (by first | rfl | (simp only [T.ids, idsL, er_ids, List.append_nil, List.nil_append]; rfl) : subN (idsL [t64 a0, t64 a1]) [] = true) (.cons trivial (.cons ((eqB64 (clock_Tick a0 a1) (bursaryref27_Tick a0 a1)).trans (eb g1)) (.cons trivial (.cons ((eqB64 x1.1 x2.1).trans (eb g2)) (.cons (bursarylaw27_num_m x1.2) (.cons (by first | rfl | (simp only [T.ids, idsL, er_ids, List.append_nil, List.nil_append]; rfl) : subN (idsL [er 83 x1.2]) [] = true) (.cons trivial (.cons (eb g3) (.cons trivial (.cons ((eqB64 x3.1 x4.1).trans (eb g4)) (.cons (bursarylaw27_num_m x3.2) (.cons (by first | rfl | (simp only [T.ids, idsL, er_ids, List.append_nil, List.nil_append]; rfl) : subN (idsL [er 83 x3.2]) [] = true) (.cons trivial (.cons (eb g5) (.cons (clock_Over_m a0 a2) (.cons (by first | rfl | (simp only [T.ids, idsL, er_ids, List.append_nil, List.nil_append]; rfl) : subN (idsL [t64 a0, t64 a2]) [] = true) (.cons (bursaryref27_Over_m a0 a2) (.cons (by first | rfl | (simp only [T.ids, idsL, er_ids, List.append_nil, List.nil_append]; rfl) : subN (idsL [t64 a0, t64 a2]) [] = true) (.cons (eb g6) (.cons (clock_Left_m a0 a2) (.cons (by first | rfl | (simp only [T.ids, idsL, er_ids, List.append_nil, List.nil_append]; rfl) : subN (idsL [t64 a0, t64 a2]) [] = true) (.cons trivial (.cons ((eqB64 (clock_Left a0 a2) a2).trans (eb g7)) (.cons (clock_Resume_m a0 a2) (.cons (by first | rfl | (simp only [T.ids, idsL, er_ids, List.append_nil, List.nil_append]; rfl) : subN (idsL [t64 a0, t64 a2]) [] = true) (.cons (max64 a0 a2) (.cons trivial (.cons ((eqB64 (clock_Resume a0 a2) (if a2 > a0 then a2 else a0)).trans (eb g8)) .nil)))))))))))))))))))))))))))))))) ?_
                      intro k' hk'
                      refine Go.slotEq 6 (tb (((clock_Tick a0 a1) == (bursaryref27_Tick a0 a1)) && ((x1.1 == x2.1) && (((id x1.2) == x2.2) && ((x3.1 == x4.1) && (((id x3.2) == x4.2) && (((clock_Over a0 a2) == (bursaryref27_Over a0 a2)) && (((clock_Left a0 a2) == a2) && (((clock_Resume a0 a2) == (if a2 > a0 then a2 else a0)) && bursarylaw27_sure))))))))) rfl (eb (andT g1 (andT g2 (andT g3 (andT g4 (andT g5 (andT g6 (andT g7 (andF g8)))))))).symm) ?_
                      exact J k' hk'
                  · refine Go.rx 20 { ws := [(2, { call := some { ids := [], S := [], M := [], R := t64 (clock_Tick a0 a1), H' := [] } }), (5, { call := some { ids := [], S := [], M := [], R := t64 (bursaryref27_Tick a0 a1), H' := [] } }), (6, { v := some (tb true) }), (10, { v := some (tb true) }), (14, { call := some { ids := [], S := [], M := [], R := ti (id x1.2), H' := [] } }), (16, { v := some (tb true) }), (21, { v := some (tb true) }), (25, { call := some { ids := [], S := [], M := [], R := ti (id x3.2), H' := [] } }), (27, { v := some (tb true) }), (32, { call := some { ids := [], S := [], M := [], R := tb (clock_Over a0 a2), H' := [] } }), (35, { call := some { ids := [], S := [], M := [], R := tb (bursaryref27_Over a0 a2), H' := [] } }), (36, { v := some (tb true) }), (41, { call := some { ids := [], S := [], M := [], R := t64 (clock_Left a0 a2), H' := [] } }), (43, { v := some (tb false) })] } [] [6] _ [(6, tb false)] [] hk rfl (by as_aux_lemma => kernel_rfl) (.cons (clock_Tick_m a0 a1) (.cons (by first | rfl | (simp only [T.ids, idsL, er_ids, List.append_nil, List.nil_append]; rfl) : subN (idsL [t64 a0, t64 a1]) [] = true) (.cons (bursaryref27_Tick_m a0 a1) (.cons (by first | rfl | (simp only [T.ids, idsL, er_ids, List.append_nil, List.nil_append]; rfl) : subN (idsL [t64 a0, t64 a1]) [] = true) (.cons trivial (.cons ((eqB64 (clock_Tick a0 a1) (bursaryref27_Tick a0 a1)).trans (eb g1)) (.cons trivial (.cons ((eqB64 x1.1 x2.1).trans (eb g2)) (.cons (bursarylaw27_num_m x1.2) (.cons (by first | rfl | (simp only [T.ids, idsL, er_ids, List.append_nil, List.nil_append]; rfl) : subN (idsL [er 83 x1.2]) [] = true) (.cons trivial (.cons (eb g3) (.cons trivial (.cons ((eqB64 x3.1 x4.1).trans (eb g4)) (.cons (bursarylaw27_num_m x3.2) (.cons (by first | rfl | (simp only [T.ids, idsL, er_ids, List.append_nil, List.nil_append]; rfl) : subN (idsL [er 83 x3.2]) [] = true) (.cons trivial (.cons (eb g5) (.cons (clock_Over_m a0 a2) (.cons (by first | rfl | (simp only [T.ids, idsL, er_ids, List.append_nil, List.nil_append]; rfl) : subN (idsL [t64 a0, t64 a2]) [] = true) (.cons (bursaryref27_Over_m a0 a2) (.cons (by first | rfl | (simp only [T.ids, idsL, er_ids, List.append_nil, List.nil_append]; rfl) : subN (idsL [t64 a0, t64 a2]) [] = true) (.cons (eb g6) (.cons (clock_Left_m a0 a2) (.cons (by first | rfl | (simp only [T.ids, idsL, er_ids, List.append_nil, List.nil_append]; rfl) : subN (idsL [t64 a0, t64 a2]) [] = true) (.cons trivial (.cons ((eqB64 (clock_Left a0 a2) a2).trans (eb g7)) .nil))))))))))))))))))))))))))) ?_
                    intro k' hk'
                    refine Go.slotEq 6 (tb (((clock_Tick a0 a1) == (bursaryref27_Tick a0 a1)) && ((x1.1 == x2.1) && (((id x1.2) == x2.2) && ((x3.1 == x4.1) && (((id x3.2) == x4.2) && (((clock_Over a0 a2) == (bursaryref27_Over a0 a2)) && (((clock_Left a0 a2) == a2) && (((clock_Resume a0 a2) == (if a2 > a0 then a2 else a0)) && bursarylaw27_sure))))))))) rfl (eb (andT g1 (andT g2 (andT g3 (andT g4 (andT g5 (andT g6 (andF g7))))))).symm) ?_
                    exact J k' hk'
                · refine Go.rx 20 { ws := [(2, { call := some { ids := [], S := [], M := [], R := t64 (clock_Tick a0 a1), H' := [] } }), (5, { call := some { ids := [], S := [], M := [], R := t64 (bursaryref27_Tick a0 a1), H' := [] } }), (6, { v := some (tb true) }), (10, { v := some (tb true) }), (14, { call := some { ids := [], S := [], M := [], R := ti (id x1.2), H' := [] } }), (16, { v := some (tb true) }), (21, { v := some (tb true) }), (25, { call := some { ids := [], S := [], M := [], R := ti (id x3.2), H' := [] } }), (27, { v := some (tb true) }), (32, { call := some { ids := [], S := [], M := [], R := tb (clock_Over a0 a2), H' := [] } }), (35, { call := some { ids := [], S := [], M := [], R := tb (bursaryref27_Over a0 a2), H' := [] } }), (36, { v := some (tb false) })] } [] [6] _ [(6, tb false)] [] hk rfl (by as_aux_lemma => kernel_rfl) (.cons (clock_Tick_m a0 a1) (.cons (by first | rfl | (simp only [T.ids, idsL, er_ids, List.append_nil, List.nil_append]; rfl) : subN (idsL [t64 a0, t64 a1]) [] = true) (.cons (bursaryref27_Tick_m a0 a1) (.cons (by first | rfl | (simp only [T.ids, idsL, er_ids, List.append_nil, List.nil_append]; rfl) : subN (idsL [t64 a0, t64 a1]) [] = true) (.cons trivial (.cons ((eqB64 (clock_Tick a0 a1) (bursaryref27_Tick a0 a1)).trans (eb g1)) (.cons trivial (.cons ((eqB64 x1.1 x2.1).trans (eb g2)) (.cons (bursarylaw27_num_m x1.2) (.cons (by first | rfl | (simp only [T.ids, idsL, er_ids, List.append_nil, List.nil_append]; rfl) : subN (idsL [er 83 x1.2]) [] = true) (.cons trivial (.cons (eb g3) (.cons trivial (.cons ((eqB64 x3.1 x4.1).trans (eb g4)) (.cons (bursarylaw27_num_m x3.2) (.cons (by first | rfl | (simp only [T.ids, idsL, er_ids, List.append_nil, List.nil_append]; rfl) : subN (idsL [er 83 x3.2]) [] = true) (.cons trivial (.cons (eb g5) (.cons (clock_Over_m a0 a2) (.cons (by first | rfl | (simp only [T.ids, idsL, er_ids, List.append_nil, List.nil_append]; rfl) : subN (idsL [t64 a0, t64 a2]) [] = true) (.cons (bursaryref27_Over_m a0 a2) (.cons (by first | rfl | (simp only [T.ids, idsL, er_ids, List.append_nil, List.nil_append]; rfl) : subN (idsL [t64 a0, t64 a2]) [] = true) (.cons (eb g6) .nil))))))))))))))))))))))) ?_
                  intro k' hk'
                  refine Go.slotEq 6 (tb (((clock_Tick a0 a1) == (bursaryref27_Tick a0 a1)) && ((x1.1 == x2.1) && (((id x1.2) == x2.2) && ((x3.1 == x4.1) && (((id x3.2) == x4.2) && (((clock_Over a0 a2) == (bursaryref27_Over a0 a2)) && (((clock_Left a0 a2) == a2) && (((clock_Resume a0 a2) == (if a2 > a0 then a2 else a0)) && bursarylaw27_sure))))))))) rfl (eb (andT g1 (andT g2 (andT g3 (andT g4 (andT g5 (andF g6)))))).symm) ?_
                  exact J k' hk'
              · have g5p := eqIf g5
                refine Go.rx 20 { ws := [(2, { call := some { ids := [], S := [], M := [], R := t64 (clock_Tick a0 a1), H' := [] } }), (5, { call := some { ids := [], S := [], M := [], R := t64 (bursaryref27_Tick a0 a1), H' := [] } }), (6, { v := some (tb true) }), (10, { v := some (tb true) }), (14, { call := some { ids := [], S := [], M := [], R := ti (id x1.2), H' := [] } }), (16, { v := some (tb true) }), (21, { v := some (tb true) }), (25, { call := some { ids := [], S := [], M := [], R := ti (id x3.2), H' := [] } }), (27, { v := some (tb false) })] } [] [6] _ [(6, tb false)] [] hk rfl (by as_aux_lemma => kernel_rfl) (.cons (clock_Tick_m a0 a1) (.cons (by first | rfl | (simp only [T.ids, idsL, er_ids, List.append_nil, List.nil_append]; rfl) : subN (idsL [t64 a0, t64 a1]) [] = true) (.cons (bursaryref27_Tick_m a0 a1) (.cons (by first | rfl | (simp only [T.ids, idsL, er_ids, List.append_nil, List.nil_append]; rfl) : subN (idsL [t64 a0, t64 a1]) [] = true) (.cons trivial (.cons ((eqB64 (clock_Tick a0 a1) (bursaryref27_Tick a0 a1)).trans (eb g1)) (.cons trivial (.cons ((eqB64 x1.1 x2.1).trans (eb g2)) (.cons (bursarylaw27_num_m x1.2) (.cons (by first | rfl | (simp only [T.ids, idsL, er_ids, List.append_nil, List.nil_append]; rfl) : subN (idsL [er 83 x1.2]) [] = true) (.cons trivial (.cons (eb g3) (.cons trivial (.cons ((eqB64 x3.1 x4.1).trans (eb g4)) (.cons (bursarylaw27_num_m x3.2) (.cons (by first | rfl | (simp only [T.ids, idsL, er_ids, List.append_nil, List.nil_append]; rfl) : subN (idsL [er 83 x3.2]) [] = true) (.cons trivial (.cons (eb g5) .nil)))))))))))))))))) ?_
                intro k' hk'
                refine Go.slotEq 6 (tb (((clock_Tick a0 a1) == (bursaryref27_Tick a0 a1)) && ((x1.1 == x2.1) && (((id x1.2) == x2.2) && ((x3.1 == x4.1) && (((id x3.2) == x4.2) && (((clock_Over a0 a2) == (bursaryref27_Over a0 a2)) && (((clock_Left a0 a2) == a2) && (((clock_Resume a0 a2) == (if a2 > a0 then a2 else a0)) && bursarylaw27_sure))))))))) rfl (eb (andT g1 (andT g2 (andT g3 (andT g4 (andF g5))))).symm) ?_
                exact J k' hk'
            · refine Go.rx 20 { ws := [(2, { call := some { ids := [], S := [], M := [], R := t64 (clock_Tick a0 a1), H' := [] } }), (5, { call := some { ids := [], S := [], M := [], R := t64 (bursaryref27_Tick a0 a1), H' := [] } }), (6, { v := some (tb true) }), (10, { v := some (tb true) }), (14, { call := some { ids := [], S := [], M := [], R := ti (id x1.2), H' := [] } }), (16, { v := some (tb true) }), (21, { v := some (tb false) })] } [] [6] _ [(6, tb false)] [] hk rfl (by as_aux_lemma => kernel_rfl) (.cons (clock_Tick_m a0 a1) (.cons (by first | rfl | (simp only [T.ids, idsL, er_ids, List.append_nil, List.nil_append]; rfl) : subN (idsL [t64 a0, t64 a1]) [] = true) (.cons (bursaryref27_Tick_m a0 a1) (.cons (by first | rfl | (simp only [T.ids, idsL, er_ids, List.append_nil, List.nil_append]; rfl) : subN (idsL [t64 a0, t64 a1]) [] = true) (.cons trivial (.cons ((eqB64 (clock_Tick a0 a1) (bursaryref27_Tick a0 a1)).trans (eb g1)) (.cons trivial (.cons ((eqB64 x1.1 x2.1).trans (eb g2)) (.cons (bursarylaw27_num_m x1.2) (.cons (by first | rfl | (simp only [T.ids, idsL, er_ids, List.append_nil, List.nil_append]; rfl) : subN (idsL [er 83 x1.2]) [] = true) (.cons trivial (.cons (eb g3) (.cons trivial (.cons ((eqB64 x3.1 x4.1).trans (eb g4)) .nil)))))))))))))) ?_
              intro k' hk'
              refine Go.slotEq 6 (tb (((clock_Tick a0 a1) == (bursaryref27_Tick a0 a1)) && ((x1.1 == x2.1) && (((id x1.2) == x2.2) && ((x3.1 == x4.1) && (((id x3.2) == x4.2) && (((clock_Over a0 a2) == (bursaryref27_Over a0 a2)) && (((clock_Left a0 a2) == a2) && (((clock_Resume a0 a2) == (if a2 > a0 then a2 else a0)) && bursarylaw27_sure))))))))) rfl (eb (andT g1 (andT g2 (andT g3 (andF g4)))).symm) ?_
              exact J k' hk'
          · have g3p := eqIf g3
            refine Go.rx 20 { ws := [(2, { call := some { ids := [], S := [], M := [], R := t64 (clock_Tick a0 a1), H' := [] } }), (5, { call := some { ids := [], S := [], M := [], R := t64 (bursaryref27_Tick a0 a1), H' := [] } }), (6, { v := some (tb true) }), (10, { v := some (tb true) }), (14, { call := some { ids := [], S := [], M := [], R := ti (id x1.2), H' := [] } }), (16, { v := some (tb false) })] } [] [6] _ [(6, tb false)] [] hk rfl (by as_aux_lemma => kernel_rfl) (.cons (clock_Tick_m a0 a1) (.cons (by first | rfl | (simp only [T.ids, idsL, er_ids, List.append_nil, List.nil_append]; rfl) : subN (idsL [t64 a0, t64 a1]) [] = true) (.cons (bursaryref27_Tick_m a0 a1) (.cons (by first | rfl | (simp only [T.ids, idsL, er_ids, List.append_nil, List.nil_append]; rfl) : subN (idsL [t64 a0, t64 a1]) [] = true) (.cons trivial (.cons ((eqB64 (clock_Tick a0 a1) (bursaryref27_Tick a0 a1)).trans (eb g1)) (.cons trivial (.cons ((eqB64 x1.1 x2.1).trans (eb g2)) (.cons (bursarylaw27_num_m x1.2) (.cons (by first | rfl | (simp only [T.ids, idsL, er_ids, List.append_nil, List.nil_append]; rfl) : subN (idsL [er 83 x1.2]) [] = true) (.cons trivial (.cons (eb g3) .nil)))))))))))) ?_
            intro k' hk'
            refine Go.slotEq 6 (tb (((clock_Tick a0 a1) == (bursaryref27_Tick a0 a1)) && ((x1.1 == x2.1) && (((id x1.2) == x2.2) && ((x3.1 == x4.1) && (((id x3.2) == x4.2) && (((clock_Over a0 a2) == (bursaryref27_Over a0 a2)) && (((clock_Left a0 a2) == a2) && (((clock_Resume a0 a2) == (if a2 > a0 then a2 else a0)) && bursarylaw27_sure))))))))) rfl (eb (andT g1 (andT g2 (andF g3))).symm) ?_
            exact J k' hk'
        · refine Go.rx 20 { ws := [(2, { call := some { ids := [], S := [], M := [], R := t64 (clock_Tick a0 a1), H' := [] } }), (5, { call := some { ids := [], S := [], M := [], R := t64 (bursaryref27_Tick a0 a1), H' := [] } }), (6, { v := some (tb true) }), (10, { v := some (tb false) })] } [] [6] _ [(6, tb false)] [] hk rfl (by as_aux_lemma => kernel_rfl) (.cons (clock_Tick_m a0 a1) (.cons (by first | rfl | (simp only [T.ids, idsL, er_ids, List.append_nil, List.nil_append]; rfl) : subN (idsL [t64 a0, t64 a1]) [] = true) (.cons (bursaryref27_Tick_m a0 a1) (.cons (by first | rfl | (simp only [T.ids, idsL, er_ids, List.append_nil, List.nil_append]; rfl) : subN (idsL [t64 a0, t64 a1]) [] = true) (.cons trivial (.cons ((eqB64 (clock_Tick a0 a1) (bursaryref27_Tick a0 a1)).trans (eb g1)) (.cons trivial (.cons ((eqB64 x1.1 x2.1).trans (eb g2)) .nil)))))))) ?_
          intro k' hk'
          refine Go.slotEq 6 (tb (((clock_Tick a0 a1) == (bursaryref27_Tick a0 a1)) && ((x1.1 == x2.1) && (((id x1.2) == x2.2) && ((x3.1 == x4.1) && (((id x3.2) == x4.2) && (((clock_Over a0 a2) == (bursaryref27_Over a0 a2)) && (((clock_Left a0 a2) == a2) && (((clock_Resume a0 a2) == (if a2 > a0 then a2 else a0)) && bursarylaw27_sure))))))))) rfl (eb (andT g1 (andF g2)).symm) ?_
          exact J k' hk'
      · refine Go.rx 20 { ws := [(2, { call := some { ids := [], S := [], M := [], R := t64 (clock_Tick a0 a1), H' := [] } }), (5, { call := some { ids := [], S := [], M := [], R := t64 (bursaryref27_Tick a0 a1), H' := [] } }), (6, { v := some (tb false) })] } [] [6] _ [(6, tb false)] [] hk rfl (by as_aux_lemma => kernel_rfl) (.cons (clock_Tick_m a0 a1) (.cons (by first | rfl | (simp only [T.ids, idsL, er_ids, List.append_nil, List.nil_append]; rfl) : subN (idsL [t64 a0, t64 a1]) [] = true) (.cons (bursaryref27_Tick_m a0 a1) (.cons (by first | rfl | (simp only [T.ids, idsL, er_ids, List.append_nil, List.nil_append]; rfl) : subN (idsL [t64 a0, t64 a1]) [] = true) (.cons trivial (.cons ((eqB64 (clock_Tick a0 a1) (bursaryref27_Tick a0 a1)).trans (eb g1)) .nil)))))) ?_
        intro k' hk'
        refine Go.slotEq 6 (tb (((clock_Tick a0 a1) == (bursaryref27_Tick a0 a1)) && ((x1.1 == x2.1) && (((id x1.2) == x2.2) && ((x3.1 == x4.1) && (((id x3.2) == x4.2) && (((clock_Over a0 a2) == (bursaryref27_Over a0 a2)) && (((clock_Left a0 a2) == a2) && (((clock_Resume a0 a2) == (if a2 > a0 then a2 else a0)) && bursarylaw27_sure))))))))) rfl (eb (andF g1).symm) ?_
        exact J k' hk'
  · refine Go.rx 20 { ws := [(2, { v := some (tb (decide (a2 > a0))) })] } [] [0, 1, 2, 7, 8, 9, 10, 11, 12, 13, 14, 15, 47] _ [(0, t64 a0), (1, t64 a1), (2, t64 a2), (7, t64 x1.1), (8, er 83 x1.2), (9, t64 x2.1), (10, ti x2.2), (11, t64 x3.1), (12, er 83 x3.2), (13, t64 x4.1), (14, ti x4.2), (15, t64 0), (47, tb (decide (a2 > a0)))] [] hk rfl (by as_aux_lemma => kernel_rfl) (.cons trivial (.cons (gtB64 a2 a0) .nil)) ?_
    clear hk; intro k hk
    refine Go.condJ 20 [(0, t64 a0), (1, t64 a1), (2, t64 a2), (7, t64 x1.1), (8, er 83 x1.2), (9, t64 x2.1), (10, ti x2.2), (11, t64 x3.1), (12, er 83 x3.2), (13, t64 x4.1), (14, ti x4.2), (15, t64 (bif decide (a2 > a0) then a2 - a0 else 0))] [] hk rfl rfl ?_ ?_ ?_
    · clear hk; intro k hk
      refine Go.bnd (Pf := (PostX Γ bursarylaw27_ClockExact_enc)) (v := (bif decide (a2 > a0) then a2 - a0 else 0)) (fun y1 => [(0, t64 a0), (1, t64 a1), (2, t64 a2), (7, t64 x1.1), (8, er 83 x1.2), (9, t64 x2.1), (10, ti x2.2), (11, t64 x3.1), (12, er 83 x3.2), (13, t64 x4.1), (14, ti x4.2), (15, t64 y1)]) (fun y1 => []) ?_
      intro y1 hy1
      refine Go.regJ 20 [(6, tb (((clock_Tick a0 a1) == (bursaryref27_Tick a0 a1)) && ((x1.1 == x2.1) && (((id x1.2) == x2.2) && ((x3.1 == x4.1) && (((id x3.2) == x4.2) && (((clock_Over a0 a2) == (bursaryref27_Over a0 a2)) && (((clock_Left a0 a2) == y1) && (((clock_Resume a0 a2) == (if a2 > a0 then a2 else a0)) && bursarylaw27_sure)))))))))] [] hk rfl ?_ ?_
      · clear hk; intro k hk
        refine Go.bnd (Pf := (PostX Γ bursarylaw27_ClockExact_enc)) (v := (clock_Tick a0 a1)) (fun x13 => [(6, tb ((x13 == (bursaryref27_Tick a0 a1)) && ((x1.1 == x2.1) && (((id x1.2) == x2.2) && ((x3.1 == x4.1) && (((id x3.2) == x4.2) && (((clock_Over a0 a2) == (bursaryref27_Over a0 a2)) && (((clock_Left a0 a2) == y1) && (((clock_Resume a0 a2) == (if a2 > a0 then a2 else a0)) && bursarylaw27_sure)))))))))]) (fun x13 => []) ?_
        intro x13 hx13
        refine Go.bnd (Pf := (PostX Γ bursarylaw27_ClockExact_enc)) (v := (bursaryref27_Tick a0 a1)) (fun x14 => [(6, tb ((x13 == x14) && ((x1.1 == x2.1) && (((id x1.2) == x2.2) && ((x3.1 == x4.1) && (((id x3.2) == x4.2) && (((clock_Over a0 a2) == (bursaryref27_Over a0 a2)) && (((clock_Left a0 a2) == y1) && (((clock_Resume a0 a2) == (if a2 > a0 then a2 else a0)) && bursarylaw27_sure)))))))))]) (fun x14 => []) ?_
        intro x14 hx14
        refine Go.bnd (Pf := (PostX Γ bursarylaw27_ClockExact_enc)) (v := (id x1.2)) (fun x15 => [(6, tb ((x13 == x14) && ((x1.1 == x2.1) && ((x15 == x2.2) && ((x3.1 == x4.1) && (((id x3.2) == x4.2) && (((clock_Over a0 a2) == (bursaryref27_Over a0 a2)) && (((clock_Left a0 a2) == y1) && (((clock_Resume a0 a2) == (if a2 > a0 then a2 else a0)) && bursarylaw27_sure)))))))))]) (fun x15 => []) ?_
        intro x15 hx15
        refine Go.bnd (Pf := (PostX Γ bursarylaw27_ClockExact_enc)) (v := (id x3.2)) (fun x16 => [(6, tb ((x13 == x14) && ((x1.1 == x2.1) && ((x15 == x2.2) && ((x3.1 == x4.1) && ((x16 == x4.2) && (((clock_Over a0 a2) == (bursaryref27_Over a0 a2)) && (((clock_Left a0 a2) == y1) && (((clock_Resume a0 a2) == (if a2 > a0 then a2 else a0)) && bursarylaw27_sure)))))))))]) (fun x16 => []) ?_
        intro x16 hx16
        refine Go.bnd (Pf := (PostX Γ bursarylaw27_ClockExact_enc)) (v := (clock_Over a0 a2)) (fun x17 => [(6, tb ((x13 == x14) && ((x1.1 == x2.1) && ((x15 == x2.2) && ((x3.1 == x4.1) && ((x16 == x4.2) && ((x17 == (bursaryref27_Over a0 a2)) && (((clock_Left a0 a2) == y1) && (((clock_Resume a0 a2) == (if a2 > a0 then a2 else a0)) && bursarylaw27_sure)))))))))]) (fun x17 => []) ?_
        intro x17 hx17
        refine Go.bnd (Pf := (PostX Γ bursarylaw27_ClockExact_enc)) (v := (bursaryref27_Over a0 a2)) (fun x18 => [(6, tb ((x13 == x14) && ((x1.1 == x2.1) && ((x15 == x2.2) && ((x3.1 == x4.1) && ((x16 == x4.2) && ((x17 == x18) && (((clock_Left a0 a2) == y1) && (((clock_Resume a0 a2) == (if a2 > a0 then a2 else a0)) && bursarylaw27_sure)))))))))]) (fun x18 => []) ?_
        intro x18 hx18
        refine Go.bnd (Pf := (PostX Γ bursarylaw27_ClockExact_enc)) (v := (clock_Left a0 a2)) (fun x19 => [(6, tb ((x13 == x14) && ((x1.1 == x2.1) && ((x15 == x2.2) && ((x3.1 == x4.1) && ((x16 == x4.2) && ((x17 == x18) && ((x19 == y1) && (((clock_Resume a0 a2) == (if a2 > a0 then a2 else a0)) && bursarylaw27_sure)))))))))]) (fun x19 => []) ?_
        intro x19 hx19
        refine Go.bnd (Pf := (PostX Γ bursarylaw27_ClockExact_enc)) (v := (clock_Resume a0 a2)) (fun x20 => [(6, tb ((x13 == x14) && ((x1.1 == x2.1) && ((x15 == x2.2) && ((x3.1 == x4.1) && ((x16 == x4.2) && ((x17 == x18) && ((x19 == y1) && ((x20 == (if a2 > a0 then a2 else a0)) && bursarylaw27_sure)))))))))]) (fun x20 => []) ?_
        intro x20 hx20
        exact Go.lvx 20 [] _ [tb ((x13 == x14) && ((x1.1 == x2.1) && ((x15 == x2.2) && ((x3.1 == x4.1) && ((x16 == x4.2) && ((x17 == x18) && ((x19 == y1) && ((x20 == (if a2 > a0 then a2 else a0)) && bursarylaw27_sure))))))))] Tryd.func4 hk rfl (by as_aux_lemma => kernel_rfl) .nil (T.Le.of_eq rfl) rfl rfl .nil
      · intro hk J
        rcases Bool.eq_false_or_eq_true ((clock_Tick a0 a1) == (bursaryref27_Tick a0 a1)) with g9 | g9
        · rcases Bool.eq_false_or_eq_true (x1.1 == x2.1) with g10 | g10
          · rcases Bool.eq_false_or_eq_true ((id x1.2) == x2.2) with g11 | g11
            · have g11p := eqIt g11
              rcases Bool.eq_false_or_eq_true (x3.1 == x4.1) with g12 | g12
              · rcases Bool.eq_false_or_eq_true ((id x3.2) == x4.2) with g13 | g13
                · have g13p := eqIt g13
                  rcases Bool.eq_false_or_eq_true ((clock_Over a0 a2) == (bursaryref27_Over a0 a2)) with g14 | g14
                  · rcases Bool.eq_false_or_eq_true ((clock_Left a0 a2) == y1) with g15 | g15
                    · rcases Bool.eq_false_or_eq_true ((clock_Resume a0 a2) == (if a2 > a0 then a2 else a0)) with g16 | g16
                      · refine Go.rx 20 { ws := [(2, { call := some { ids := [], S := [], M := [], R := t64 (clock_Tick a0 a1), H' := [] } }), (5, { call := some { ids := [], S := [], M := [], R := t64 (bursaryref27_Tick a0 a1), H' := [] } }), (6, { v := some (tb true) }), (10, { v := some (tb true) }), (14, { call := some { ids := [], S := [], M := [], R := ti (id x1.2), H' := [] } }), (16, { v := some (tb true) }), (21, { v := some (tb true) }), (25, { call := some { ids := [], S := [], M := [], R := ti (id x3.2), H' := [] } }), (27, { v := some (tb true) }), (32, { call := some { ids := [], S := [], M := [], R := tb (clock_Over a0 a2), H' := [] } }), (35, { call := some { ids := [], S := [], M := [], R := tb (bursaryref27_Over a0 a2), H' := [] } }), (36, { v := some (tb true) }), (41, { call := some { ids := [], S := [], M := [], R := t64 (clock_Left a0 a2), H' := [] } }), (43, { v := some (tb true) }), (48, { call := some { ids := [], S := [], M := [], R := t64 (clock_Resume a0 a2), H' := [] } }), (51, { v := some (t64 (if a2 > a0 then a2 else a0)) }), (52, { v := some (tb true) }), (55, { call := some { ids := [], S := [], M := [], R := tb bursarylaw27_sure, H' := [] } })] } [] [6] _ [(6, tb bursarylaw27_sure)] [] hk rfl (by as_aux_lemma => kernel_rfl) (.cons (clock_Tick_m a0 a1) (.cons (by first | rfl | (simp only [T.ids, idsL, er_ids, List.append_nil, List.nil_append]; rfl) : subN (idsL [t64 a0, t64 a1]) [] = true) (.cons (bursaryref27_Tick_m a0 a1) (.cons (by first | rfl | (simp only [T.ids, idsL, er_ids, List.append_nil, List.nil_append]; rfl) : subN (idsL [t64 a0, t64 a1]) [] = true) (.cons trivial (.cons ((eqB64 (clock_Tick a0 a1) (bursaryref27_Tick a0 a1)).trans (eb g9)) (.cons trivial (.cons ((eqB64 x1.1 x2.1).trans (eb g10)) (.cons (bursarylaw27_num_m x1.2) (.cons (by first | rfl | (simp only [T.ids, idsL, er_ids, List.append_nil, List.nil_append]; rfl) : subN (idsL [er 83 x1.2]) [] = true) (.cons trivial (.cons (eb g11) (.cons trivial (.cons ((eqB64 x3.1 x4.1).trans (eb g12)) (.cons (bursarylaw27_num_m x3.2) (.cons (by first | rfl | (simp only [T.ids, idsL, er_ids, List.append_nil, List.nil_append]; rfl) : subN (idsL [er 83 x3.2]) [] = true) (.cons trivial (.cons (eb g13) (.cons (clock_Over_m a0 a2) (.cons (by first | rfl | (simp only [T.ids, idsL, er_ids, List.append_nil, List.nil_append]; rfl) : subN (idsL [t64 a0, t64 a2]) [] = true) (.cons (bursaryref27_Over_m a0 a2) (.cons (by first | rfl | (simp only [T.ids, idsL, er_ids, List.append_nil, List.nil_append]; rfl) : subN (idsL [t64 a0, t64 a2]) [] = true) (.cons (eb g14) (.cons (clock_Left_m a0 a2) (.cons (by first | rfl | (simp only [T.ids, idsL, er_ids, List.append_nil, List.nil_append]; rfl) : subN (idsL [t64 a0, t64 a2]) [] = true) (.cons trivial (.cons ((eqB64 (clock_Left a0 a2) y1).trans (eb g15)) (.cons (clock_Resume_m a0 a2) (.cons (by first | rfl | (simp only [T.ids, idsL, er_ids, List.append_nil, List.nil_append]; rfl) : subN (idsL [t64 a0, t64 a2]) [] = true) (.cons (max64 a0 a2) (.cons trivial (.cons ((eqB64 (clock_Resume a0 a2) (if a2 > a0 then a2 else a0)).trans (eb g16)) (.cons (bursarylaw27_sure_m) (.cons (by first | rfl | (simp only [T.ids, idsL, er_ids, List.append_nil, List.nil_append]; rfl) : subN (idsL []) [] = true) .nil)))))))))))))))))))))))))))))))))) ?_
                        intro k' hk'
                        refine Go.slotEq 6 (tb (((clock_Tick a0 a1) == (bursaryref27_Tick a0 a1)) && ((x1.1 == x2.1) && (((id x1.2) == x2.2) && ((x3.1 == x4.1) && (((id x3.2) == x4.2) && (((clock_Over a0 a2) == (bursaryref27_Over a0 a2)) && (((clock_Left a0 a2) == y1) && (((clock_Resume a0 a2) == (if a2 > a0 then a2 else a0)) && bursarylaw27_sure))))))))) rfl (eb (andT g9 (andT g10 (andT g11 (andT g12 (andT g13 (andT g14 (andT g15 (andT g16 rfl)))))))).symm) ?_
                        exact J k' hk'
                      · refine Go.rx 20 { ws := [(2, { call := some { ids := [], S := [], M := [], R := t64 (clock_Tick a0 a1), H' := [] } }), (5, { call := some { ids := [], S := [], M := [], R := t64 (bursaryref27_Tick a0 a1), H' := [] } }), (6, { v := some (tb true) }), (10, { v := some (tb true) }), (14, { call := some { ids := [], S := [], M := [], R := ti (id x1.2), H' := [] } }), (16, { v := some (tb true) }), (21, { v := some (tb true) }), (25, { call := some { ids := [], S := [], M := [], R := ti (id x3.2), H' := [] } }), (27, { v := some (tb true) }), (32, { call := some { ids := [], S := [], M := [], R := tb (clock_Over a0 a2), H' := [] } }), (35, { call := some { ids := [], S := [], M := [], R := tb (bursaryref27_Over a0 a2), H' := [] } }), (36, { v := some (tb true) }), (41, { call := some { ids := [], S := [], M := [], R := t64 (clock_Left a0 a2), H' := [] } }), (43, { v := some (tb true) }), (48, { call := some { ids := [], S := [], M := [], R := t64 (clock_Resume a0 a2), H' := [] } }), (51, { v := some (t64 (if a2 > a0 then a2 else a0)) }), (52, { v := some (tb false) })] } [] [6] _ [(6, tb false)] [] hk rfl (by as_aux_lemma => kernel_rfl) (.cons (clock_Tick_m a0 a1) (.cons (by first | rfl | (simp only [T.ids, idsL, er_ids, List.append_nil, List.nil_append]; rfl) : subN (idsL [t64 a0, t64 a1]) [] = true) (.cons (bursaryref27_Tick_m a0 a1) (.cons (by first | rfl | (simp only [T.ids, idsL, er_ids, List.append_nil, List.nil_append]; rfl) : subN (idsL [t64 a0, t64 a1]) [] = true) (.cons trivial (.cons ((eqB64 (clock_Tick a0 a1) (bursaryref27_Tick a0 a1)).trans (eb g9)) (.cons trivial (.cons ((eqB64 x1.1 x2.1).trans (eb g10)) (.cons (bursarylaw27_num_m x1.2) (.cons (by first | rfl | (simp only [T.ids, idsL, er_ids, List.append_nil, List.nil_append]; rfl) : subN (idsL [er 83 x1.2]) [] = true) (.cons trivial (.cons (eb g11) (.cons trivial (.cons ((eqB64 x3.1 x4.1).trans (eb g12)) (.cons (bursarylaw27_num_m x3.2) (.cons (by first | rfl | (simp only [T.ids, idsL, er_ids, List.append_nil, List.nil_append]; rfl) : subN (idsL [er 83 x3.2]) [] = true) (.cons trivial (.cons (eb g13) (.cons (clock_Over_m a0 a2) (.cons (by first | rfl | (simp only [T.ids, idsL, er_ids, List.append_nil, List.nil_append]; rfl) : subN (idsL [t64 a0, t64 a2]) [] = true) (.cons (bursaryref27_Over_m a0 a2) (.cons (by first | rfl | (simp only [T.ids, idsL, er_ids, List.append_nil, List.nil_append]; rfl) : subN (idsL [t64 a0, t64 a2]) [] = true) (.cons (eb g14) (.cons (clock_Left_m a0 a2) (.cons (by first | rfl | (simp only [T.ids, idsL, er_ids, List.append_nil, List.nil_append]; rfl) : subN (idsL [t64 a0, t64 a2]) [] = true) (.cons trivial (.cons ((eqB64 (clock_Left a0 a2) y1).trans (eb g15)) (.cons (clock_Resume_m a0 a2) (.cons (by first | rfl | (simp only [T.ids, idsL, er_ids, List.append_nil, List.nil_append]; rfl) : subN (idsL [t64 a0, t64 a2]) [] = true) (.cons (max64 a0 a2) (.cons trivial (.cons ((eqB64 (clock_Resume a0 a2) (if a2 > a0 then a2 else a0)).trans (eb g16)) .nil)))))))))))))))))))))))))))))))) ?_
                        intro k' hk'
                        refine Go.slotEq 6 (tb (((clock_Tick a0 a1) == (bursaryref27_Tick a0 a1)) && ((x1.1 == x2.1) && (((id x1.2) == x2.2) && ((x3.1 == x4.1) && (((id x3.2) == x4.2) && (((clock_Over a0 a2) == (bursaryref27_Over a0 a2)) && (((clock_Left a0 a2) == y1) && (((clock_Resume a0 a2) == (if a2 > a0 then a2 else a0)) && bursarylaw27_sure))))))))) rfl (eb (andT g9 (andT g10 (andT g11 (andT g12 (andT g13 (andT g14 (andT g15 (andF g16)))))))).symm) ?_
                        exact J k' hk'
                    · refine Go.rx 20 { ws := [(2, { call := some { ids := [], S := [], M := [], R := t64 (clock_Tick a0 a1), H' := [] } }), (5, { call := some { ids := [], S := [], M := [], R := t64 (bursaryref27_Tick a0 a1), H' := [] } }), (6, { v := some (tb true) }), (10, { v := some (tb true) }), (14, { call := some { ids := [], S := [], M := [], R := ti (id x1.2), H' := [] } }), (16, { v := some (tb true) }), (21, { v := some (tb true) }), (25, { call := some { ids := [], S := [], M := [], R := ti (id x3.2), H' := [] } }), (27, { v := some (tb true) }), (32, { call := some { ids := [], S := [], M := [], R := tb (clock_Over a0 a2), H' := [] } }), (35, { call := some { ids := [], S := [], M := [], R := tb (bursaryref27_Over a0 a2), H' := [] } }), (36, { v := some (tb true) }), (41, { call := some { ids := [], S := [], M := [], R := t64 (clock_Left a0 a2), H' := [] } }), (43, { v := some (tb false) })] } [] [6] _ [(6, tb false)] [] hk rfl (by as_aux_lemma => kernel_rfl) (.cons (clock_Tick_m a0 a1) (.cons (by first | rfl | (simp only [T.ids, idsL, er_ids, List.append_nil, List.nil_append]; rfl) : subN (idsL [t64 a0, t64 a1]) [] = true) (.cons (bursaryref27_Tick_m a0 a1) (.cons (by first | rfl | (simp only [T.ids, idsL, er_ids, List.append_nil, List.nil_append]; rfl) : subN (idsL [t64 a0, t64 a1]) [] = true) (.cons trivial (.cons ((eqB64 (clock_Tick a0 a1) (bursaryref27_Tick a0 a1)).trans (eb g9)) (.cons trivial (.cons ((eqB64 x1.1 x2.1).trans (eb g10)) (.cons (bursarylaw27_num_m x1.2) (.cons (by first | rfl | (simp only [T.ids, idsL, er_ids, List.append_nil, List.nil_append]; rfl) : subN (idsL [er 83 x1.2]) [] = true) (.cons trivial (.cons (eb g11) (.cons trivial (.cons ((eqB64 x3.1 x4.1).trans (eb g12)) (.cons (bursarylaw27_num_m x3.2) (.cons (by first | rfl | (simp only [T.ids, idsL, er_ids, List.append_nil, List.nil_append]; rfl) : subN (idsL [er 83 x3.2]) [] = true) (.cons trivial (.cons (eb g13) (.cons (clock_Over_m a0 a2) (.cons (by first | rfl | (simp only [T.ids, idsL, er_ids, List.append_nil, List.nil_append]; rfl) : subN (idsL [t64 a0, t64 a2]) [] = true) (.cons (bursaryref27_Over_m a0 a2) (.cons (by first | rfl | (simp only [T.ids, idsL, er_ids, List.append_nil, List.nil_append]; rfl) : subN (idsL [t64 a0, t64 a2]) [] = true) (.cons (eb g14) (.cons (clock_Left_m a0 a2) (.cons (by first | rfl | (simp only [T.ids, idsL, er_ids, List.append_nil, List.nil_append]; rfl) : subN (idsL [t64 a0, t64 a2]) [] = true) (.cons trivial (.cons ((eqB64 (clock_Left a0 a2) y1).trans (eb g15)) .nil))))))))))))))))))))))))))) ?_
                      intro k' hk'
                      refine Go.slotEq 6 (tb (((clock_Tick a0 a1) == (bursaryref27_Tick a0 a1)) && ((x1.1 == x2.1) && (((id x1.2) == x2.2) && ((x3.1 == x4.1) && (((id x3.2) == x4.2) && (((clock_Over a0 a2) == (bursaryref27_Over a0 a2)) && (((clock_Left a0 a2) == y1) && (((clock_Resume a0 a2) == (if a2 > a0 then a2 else a0)) && bursarylaw27_sure))))))))) rfl (eb (andT g9 (andT g10 (andT g11 (andT g12 (andT g13 (andT g14 (andF g15))))))).symm) ?_
                      exact J k' hk'
                  · refine Go.rx 20 { ws := [(2, { call := some { ids := [], S := [], M := [], R := t64 (clock_Tick a0 a1), H' := [] } }), (5, { call := some { ids := [], S := [], M := [], R := t64 (bursaryref27_Tick a0 a1), H' := [] } }), (6, { v := some (tb true) }), (10, { v := some (tb true) }), (14, { call := some { ids := [], S := [], M := [], R := ti (id x1.2), H' := [] } }), (16, { v := some (tb true) }), (21, { v := some (tb true) }), (25, { call := some { ids := [], S := [], M := [], R := ti (id x3.2), H' := [] } }), (27, { v := some (tb true) }), (32, { call := some { ids := [], S := [], M := [], R := tb (clock_Over a0 a2), H' := [] } }), (35, { call := some { ids := [], S := [], M := [], R := tb (bursaryref27_Over a0 a2), H' := [] } }), (36, { v := some (tb false) })] } [] [6] _ [(6, tb false)] [] hk rfl (by as_aux_lemma => kernel_rfl) (.cons (clock_Tick_m a0 a1) (.cons (by first | rfl | (simp only [T.ids, idsL, er_ids, List.append_nil, List.nil_append]; rfl) : subN (idsL [t64 a0, t64 a1]) [] = true) (.cons (bursaryref27_Tick_m a0 a1) (.cons (by first | rfl | (simp only [T.ids, idsL, er_ids, List.append_nil, List.nil_append]; rfl) : subN (idsL [t64 a0, t64 a1]) [] = true) (.cons trivial (.cons ((eqB64 (clock_Tick a0 a1) (bursaryref27_Tick a0 a1)).trans (eb g9)) (.cons trivial (.cons ((eqB64 x1.1 x2.1).trans (eb g10)) (.cons (bursarylaw27_num_m x1.2) (.cons (by first | rfl | (simp only [T.ids, idsL, er_ids, List.append_nil, List.nil_append]; rfl) : subN (idsL [er 83 x1.2]) [] = true) (.cons trivial (.cons (eb g11) (.cons trivial (.cons ((eqB64 x3.1 x4.1).trans (eb g12)) (.cons (bursarylaw27_num_m x3.2) (.cons (by first | rfl | (simp only [T.ids, idsL, er_ids, List.append_nil, List.nil_append]; rfl) : subN (idsL [er 83 x3.2]) [] = true) (.cons trivial (.cons (eb g13) (.cons (clock_Over_m a0 a2) (.cons (by first | rfl | (simp only [T.ids, idsL, er_ids, List.append_nil, List.nil_append]; rfl) : subN (idsL [t64 a0, t64 a2]) [] = true) (.cons (bursaryref27_Over_m a0 a2) (.cons (by first | rfl | (simp only [T.ids, idsL, er_ids, List.append_nil, List.nil_append]; rfl) : subN (idsL [t64 a0, t64 a2]) [] = true) (.cons (eb g14) .nil))))))))))))))))))))))) ?_
                    intro k' hk'
                    refine Go.slotEq 6 (tb (((clock_Tick a0 a1) == (bursaryref27_Tick a0 a1)) && ((x1.1 == x2.1) && (((id x1.2) == x2.2) && ((x3.1 == x4.1) && (((id x3.2) == x4.2) && (((clock_Over a0 a2) == (bursaryref27_Over a0 a2)) && (((clock_Left a0 a2) == y1) && (((clock_Resume a0 a2) == (if a2 > a0 then a2 else a0)) && bursarylaw27_sure))))))))) rfl (eb (andT g9 (andT g10 (andT g11 (andT g12 (andT g13 (andF g14)))))).symm) ?_
                    exact J k' hk'
                · have g13p := eqIf g13
                  refine Go.rx 20 { ws := [(2, { call := some { ids := [], S := [], M := [], R := t64 (clock_Tick a0 a1), H' := [] } }), (5, { call := some { ids := [], S := [], M := [], R := t64 (bursaryref27_Tick a0 a1), H' := [] } }), (6, { v := some (tb true) }), (10, { v := some (tb true) }), (14, { call := some { ids := [], S := [], M := [], R := ti (id x1.2), H' := [] } }), (16, { v := some (tb true) }), (21, { v := some (tb true) }), (25, { call := some { ids := [], S := [], M := [], R := ti (id x3.2), H' := [] } }), (27, { v := some (tb false) })] } [] [6] _ [(6, tb false)] [] hk rfl (by as_aux_lemma => kernel_rfl) (.cons (clock_Tick_m a0 a1) (.cons (by first | rfl | (simp only [T.ids, idsL, er_ids, List.append_nil, List.nil_append]; rfl) : subN (idsL [t64 a0, t64 a1]) [] = true) (.cons (bursaryref27_Tick_m a0 a1) (.cons (by first | rfl | (simp only [T.ids, idsL, er_ids, List.append_nil, List.nil_append]; rfl) : subN (idsL [t64 a0, t64 a1]) [] = true) (.cons trivial (.cons ((eqB64 (clock_Tick a0 a1) (bursaryref27_Tick a0 a1)).trans (eb g9)) (.cons trivial (.cons ((eqB64 x1.1 x2.1).trans (eb g10)) (.cons (bursarylaw27_num_m x1.2) (.cons (by first | rfl | (simp only [T.ids, idsL, er_ids, List.append_nil, List.nil_append]; rfl) : subN (idsL [er 83 x1.2]) [] = true) (.cons trivial (.cons (eb g11) (.cons trivial (.cons ((eqB64 x3.1 x4.1).trans (eb g12)) (.cons (bursarylaw27_num_m x3.2) (.cons (by first | rfl | (simp only [T.ids, idsL, er_ids, List.append_nil, List.nil_append]; rfl) : subN (idsL [er 83 x3.2]) [] = true) (.cons trivial (.cons (eb g13) .nil)))))))))))))))))) ?_
                  intro k' hk'
                  refine Go.slotEq 6 (tb (((clock_Tick a0 a1) == (bursaryref27_Tick a0 a1)) && ((x1.1 == x2.1) && (((id x1.2) == x2.2) && ((x3.1 == x4.1) && (((id x3.2) == x4.2) && (((clock_Over a0 a2) == (bursaryref27_Over a0 a2)) && (((clock_Left a0 a2) == y1) && (((clock_Resume a0 a2) == (if a2 > a0 then a2 else a0)) && bursarylaw27_sure))))))))) rfl (eb (andT g9 (andT g10 (andT g11 (andT g12 (andF g13))))).symm) ?_
                  exact J k' hk'
              · refine Go.rx 20 { ws := [(2, { call := some { ids := [], S := [], M := [], R := t64 (clock_Tick a0 a1), H' := [] } }), (5, { call := some { ids := [], S := [], M := [], R := t64 (bursaryref27_Tick a0 a1), H' := [] } }), (6, { v := some (tb true) }), (10, { v := some (tb true) }), (14, { call := some { ids := [], S := [], M := [], R := ti (id x1.2), H' := [] } }), (16, { v := some (tb true) }), (21, { v := some (tb false) })] } [] [6] _ [(6, tb false)] [] hk rfl (by as_aux_lemma => kernel_rfl) (.cons (clock_Tick_m a0 a1) (.cons (by first | rfl | (simp only [T.ids, idsL, er_ids, List.append_nil, List.nil_append]; rfl) : subN (idsL [t64 a0, t64 a1]) [] = true) (.cons (bursaryref27_Tick_m a0 a1) (.cons (by first | rfl | (simp only [T.ids, idsL, er_ids, List.append_nil, List.nil_append]; rfl) : subN (idsL [t64 a0, t64 a1]) [] = true) (.cons trivial (.cons ((eqB64 (clock_Tick a0 a1) (bursaryref27_Tick a0 a1)).trans (eb g9)) (.cons trivial (.cons ((eqB64 x1.1 x2.1).trans (eb g10)) (.cons (bursarylaw27_num_m x1.2) (.cons (by first | rfl | (simp only [T.ids, idsL, er_ids, List.append_nil, List.nil_append]; rfl) : subN (idsL [er 83 x1.2]) [] = true) (.cons trivial (.cons (eb g11) (.cons trivial (.cons ((eqB64 x3.1 x4.1).trans (eb g12)) .nil)))))))))))))) ?_
                intro k' hk'
                refine Go.slotEq 6 (tb (((clock_Tick a0 a1) == (bursaryref27_Tick a0 a1)) && ((x1.1 == x2.1) && (((id x1.2) == x2.2) && ((x3.1 == x4.1) && (((id x3.2) == x4.2) && (((clock_Over a0 a2) == (bursaryref27_Over a0 a2)) && (((clock_Left a0 a2) == y1) && (((clock_Resume a0 a2) == (if a2 > a0 then a2 else a0)) && bursarylaw27_sure))))))))) rfl (eb (andT g9 (andT g10 (andT g11 (andF g12)))).symm) ?_
                exact J k' hk'
            · have g11p := eqIf g11
              refine Go.rx 20 { ws := [(2, { call := some { ids := [], S := [], M := [], R := t64 (clock_Tick a0 a1), H' := [] } }), (5, { call := some { ids := [], S := [], M := [], R := t64 (bursaryref27_Tick a0 a1), H' := [] } }), (6, { v := some (tb true) }), (10, { v := some (tb true) }), (14, { call := some { ids := [], S := [], M := [], R := ti (id x1.2), H' := [] } }), (16, { v := some (tb false) })] } [] [6] _ [(6, tb false)] [] hk rfl (by as_aux_lemma => kernel_rfl) (.cons (clock_Tick_m a0 a1) (.cons (by first | rfl | (simp only [T.ids, idsL, er_ids, List.append_nil, List.nil_append]; rfl) : subN (idsL [t64 a0, t64 a1]) [] = true) (.cons (bursaryref27_Tick_m a0 a1) (.cons (by first | rfl | (simp only [T.ids, idsL, er_ids, List.append_nil, List.nil_append]; rfl) : subN (idsL [t64 a0, t64 a1]) [] = true) (.cons trivial (.cons ((eqB64 (clock_Tick a0 a1) (bursaryref27_Tick a0 a1)).trans (eb g9)) (.cons trivial (.cons ((eqB64 x1.1 x2.1).trans (eb g10)) (.cons (bursarylaw27_num_m x1.2) (.cons (by first | rfl | (simp only [T.ids, idsL, er_ids, List.append_nil, List.nil_append]; rfl) : subN (idsL [er 83 x1.2]) [] = true) (.cons trivial (.cons (eb g11) .nil)))))))))))) ?_
              intro k' hk'
              refine Go.slotEq 6 (tb (((clock_Tick a0 a1) == (bursaryref27_Tick a0 a1)) && ((x1.1 == x2.1) && (((id x1.2) == x2.2) && ((x3.1 == x4.1) && (((id x3.2) == x4.2) && (((clock_Over a0 a2) == (bursaryref27_Over a0 a2)) && (((clock_Left a0 a2) == y1) && (((clock_Resume a0 a2) == (if a2 > a0 then a2 else a0)) && bursarylaw27_sure))))))))) rfl (eb (andT g9 (andT g10 (andF g11))).symm) ?_
              exact J k' hk'
          · refine Go.rx 20 { ws := [(2, { call := some { ids := [], S := [], M := [], R := t64 (clock_Tick a0 a1), H' := [] } }), (5, { call := some { ids := [], S := [], M := [], R := t64 (bursaryref27_Tick a0 a1), H' := [] } }), (6, { v := some (tb true) }), (10, { v := some (tb false) })] } [] [6] _ [(6, tb false)] [] hk rfl (by as_aux_lemma => kernel_rfl) (.cons (clock_Tick_m a0 a1) (.cons (by first | rfl | (simp only [T.ids, idsL, er_ids, List.append_nil, List.nil_append]; rfl) : subN (idsL [t64 a0, t64 a1]) [] = true) (.cons (bursaryref27_Tick_m a0 a1) (.cons (by first | rfl | (simp only [T.ids, idsL, er_ids, List.append_nil, List.nil_append]; rfl) : subN (idsL [t64 a0, t64 a1]) [] = true) (.cons trivial (.cons ((eqB64 (clock_Tick a0 a1) (bursaryref27_Tick a0 a1)).trans (eb g9)) (.cons trivial (.cons ((eqB64 x1.1 x2.1).trans (eb g10)) .nil)))))))) ?_
            intro k' hk'
            refine Go.slotEq 6 (tb (((clock_Tick a0 a1) == (bursaryref27_Tick a0 a1)) && ((x1.1 == x2.1) && (((id x1.2) == x2.2) && ((x3.1 == x4.1) && (((id x3.2) == x4.2) && (((clock_Over a0 a2) == (bursaryref27_Over a0 a2)) && (((clock_Left a0 a2) == y1) && (((clock_Resume a0 a2) == (if a2 > a0 then a2 else a0)) && bursarylaw27_sure))))))))) rfl (eb (andT g9 (andF g10)).symm) ?_
            exact J k' hk'
        · refine Go.rx 20 { ws := [(2, { call := some { ids := [], S := [], M := [], R := t64 (clock_Tick a0 a1), H' := [] } }), (5, { call := some { ids := [], S := [], M := [], R := t64 (bursaryref27_Tick a0 a1), H' := [] } }), (6, { v := some (tb false) })] } [] [6] _ [(6, tb false)] [] hk rfl (by as_aux_lemma => kernel_rfl) (.cons (clock_Tick_m a0 a1) (.cons (by first | rfl | (simp only [T.ids, idsL, er_ids, List.append_nil, List.nil_append]; rfl) : subN (idsL [t64 a0, t64 a1]) [] = true) (.cons (bursaryref27_Tick_m a0 a1) (.cons (by first | rfl | (simp only [T.ids, idsL, er_ids, List.append_nil, List.nil_append]; rfl) : subN (idsL [t64 a0, t64 a1]) [] = true) (.cons trivial (.cons ((eqB64 (clock_Tick a0 a1) (bursaryref27_Tick a0 a1)).trans (eb g9)) .nil)))))) ?_
          intro k' hk'
          refine Go.slotEq 6 (tb (((clock_Tick a0 a1) == (bursaryref27_Tick a0 a1)) && ((x1.1 == x2.1) && (((id x1.2) == x2.2) && ((x3.1 == x4.1) && (((id x3.2) == x4.2) && (((clock_Over a0 a2) == (bursaryref27_Over a0 a2)) && (((clock_Left a0 a2) == y1) && (((clock_Resume a0 a2) == (if a2 > a0 then a2 else a0)) && bursarylaw27_sure))))))))) rfl (eb (andF g9).symm) ?_
          exact J k' hk'
    · clear hk; intro Jc3 c3 k hk
      refine Go.rx 20 { ws := [(2, { v := some (t64 (a2 - a0)) })] } [] [0, 1, 2, 7, 8, 9, 10, 11, 12, 13, 14, 15] _ [(0, t64 a0), (1, t64 a1), (2, t64 a2), (7, t64 x1.1), (8, er 83 x1.2), (9, t64 x2.1), (10, ti x2.2), (11, t64 x3.1), (12, er 83 x3.2), (13, t64 x4.1), (14, ti x4.2), (15, t64 (a2 - a0))] [] hk rfl (by as_aux_lemma => kernel_rfl) (.cons trivial (.cons (sub64 a2 a0) .nil)) ?_
      clear hk; intro k hk
      refine Go.slotEq 15 (t64 (bif decide (a2 > a0) then a2 - a0 else 0)) rfl (congrArg (fun z => (t64 z : T)) (condT c3).symm) ?_
      exact Go.joinJ 20 hk Jc3 rfl
    · clear hk; intro Jc3 c3 k hk
      refine Go.keepN [0, 1, 2, 7, 8, 9, 10, 11, 12, 13, 14, 15] (L' := [(0, t64 a0), (1, t64 a1), (2, t64 a2), (7, t64 x1.1), (8, er 83 x1.2), (9, t64 x2.1), (10, ti x2.2), (11, t64 x3.1), (12, er 83 x3.2), (13, t64 x4.1), (14, ti x4.2), (15, t64 0)]) rfl ?_
      refine Go.slotEq 15 (t64 (bif decide (a2 > a0) then a2 - a0 else 0)) rfl (congrArg (fun z => (t64 z : T)) (condF c3).symm) ?_
      exact Go.joinJ 20 hk Jc3 rfl
noncomputable def bursarylaw27_ClockRenews (a0 : UInt64) (a1 : UInt64) (a2 : UInt64) : Bool :=
  bnd (clock_Renew a0 a1 a2) fun x1 =>
  bif a1 == 0 then
    bnd (id x1.2) fun x2 =>
    (x2 == 1) && ((x1.1 == 0) && bursarylaw27_sure)
  else
    bif decide (a1 ≥ (18446744073709551615 - a0)) then
      bnd (id x1.2) fun x3 =>
      (x3 == 19) && ((x1.1 == 0) && bursarylaw27_sure)
    else
      bif (!(decide (x1.2 = 0))) || ((decide (x1.1 > a2)) || ((decide (x1.1 > (a0 + a1))) || ((x1.1 != a2) && (x1.1 != (a0 + a1))))) then
        false
      else
        bnd (clock_Over x1.1 x1.1) fun x4 =>
        bnd (clock_Left a0 x1.1) fun x5 =>
        bnd (clock_Tick a0 a1) fun x6 =>
        (x4 == (x1.1 != 18446744073709551615)) && ((decide (x5 ≤ a1)) && ((x6 == (a0 + a1)) && bursarylaw27_sure))
def bursarylaw27_ClockRenews_enc (x : Bool) : T × List (Nat × List T) := (tb x, [])
theorem bursarylaw27_ClockRenews_m (a0 : UInt64) (a1 : UInt64) (a2 : UInt64) : Meets Tryd.prog 5 [t64 a0, t64 a1, t64 a2] [] [] (tb (bursarylaw27_ClockRenews a0 a1 a2)) [] := by
  refine Meets.enterX (E := E) (N := 93) (enc := bursarylaw27_ClockRenews_enc) (x := (bursarylaw27_ClockRenews a0 a1 a2)) Tryd.func5 Tryd.call5 rfl rfl ?_
  intro Γ k hk
  refine Go.rx 20 {} [] [0, 1, 2] _ [(0, t64 a0), (1, t64 a1), (2, t64 a2)] [] hk rfl (by as_aux_lemma => kernel_rfl) .nil ?_
  clear hk; intro k hk
  refine Go.rx 20 { ws := [(3, { call := some { ids := [], S := [], M := [], R := .tup [t64 ((clock_Renew a0 a1 a2).1), er 83 ((clock_Renew a0 a1 a2).2)], H' := [] } })] } [] [0, 1, 2, 7, 8] _ [(0, t64 a0), (1, t64 a1), (2, t64 a2), (7, t64 ((clock_Renew a0 a1 a2).1)), (8, er 83 ((clock_Renew a0 a1 a2).2))] [] hk rfl (by as_aux_lemma => kernel_rfl) (.cons (clock_Renew_m a0 a1 a2) (.cons (by first | rfl | (simp only [T.ids, idsL, er_ids, List.append_nil, List.nil_append]; rfl) : subN (idsL [t64 a0, t64 a1, t64 a2]) [] = true) .nil)) ?_
  clear hk; intro k hk
  refine Go.bnd (Pf := (PostX Γ bursarylaw27_ClockRenews_enc)) (v := (clock_Renew a0 a1 a2)) (fun x1 => [(0, t64 a0), (1, t64 a1), (2, t64 a2), (7, t64 x1.1), (8, er 83 x1.2)]) (fun x1 => []) ?_
  intro x1 hx1
  refine Go.rx 20 { ws := [(1, { v := some (tb (a1 == 0)) })] } [] [0, 1, 2, 7, 8, 17] _ [(0, t64 a0), (1, t64 a1), (2, t64 a2), (7, t64 x1.1), (8, er 83 x1.2), (17, tb (a1 == 0))] [] hk rfl (by as_aux_lemma => kernel_rfl) (.cons trivial (.cons (eqB64 a1 0) .nil)) ?_
  clear hk; intro k hk
  refine Go.br 20 (Pf := (PostX Γ bursarylaw27_ClockRenews_enc)) hk rfl rfl ?_ ?_ <;> clear hk <;> intro c1 k hk
  · refine Go.regJ 20 [(6, tb (((id x1.2) == 1) && ((x1.1 == 0) && bursarylaw27_sure)))] [] hk rfl ?_ ?_
    · clear hk; intro k hk
      refine Go.bnd (Pf := (PostX Γ bursarylaw27_ClockRenews_enc)) (v := (id x1.2)) (fun x2 => [(6, tb ((x2 == 1) && ((x1.1 == 0) && bursarylaw27_sure)))]) (fun x2 => []) ?_
      intro x2 hx2
      exact Go.lvx 20 [] _ [tb ((x2 == 1) && ((x1.1 == 0) && bursarylaw27_sure))] Tryd.func5 hk rfl (by as_aux_lemma => kernel_rfl) .nil (T.Le.of_eq rfl) rfl rfl .nil
    · intro hk J
      rcases Bool.eq_false_or_eq_true ((id x1.2) == 1) with g1 | g1
      · have g1p := eqIt g1
        rcases Bool.eq_false_or_eq_true (x1.1 == 0) with g2 | g2
        · refine Go.rx 20 { ws := [(1, { call := some { ids := [], S := [], M := [], R := ti (id x1.2), H' := [] } }), (2, { v := some (tb true) }), (5, { v := some (tb true) }), (8, { call := some { ids := [], S := [], M := [], R := tb bursarylaw27_sure, H' := [] } })] } [] [6] _ [(6, tb bursarylaw27_sure)] [] hk rfl (by as_aux_lemma => kernel_rfl) (.cons (bursarylaw27_num_m x1.2) (.cons (by first | rfl | (simp only [T.ids, idsL, er_ids, List.append_nil, List.nil_append]; rfl) : subN (idsL [er 83 x1.2]) [] = true) (.cons trivial (.cons (eb g1) (.cons trivial (.cons ((eqB64 x1.1 0).trans (eb g2)) (.cons (bursarylaw27_sure_m) (.cons (by first | rfl | (simp only [T.ids, idsL, er_ids, List.append_nil, List.nil_append]; rfl) : subN (idsL []) [] = true) .nil)))))))) ?_
          intro k' hk'
          refine Go.slotEq 6 (tb (((id x1.2) == 1) && ((x1.1 == 0) && bursarylaw27_sure))) rfl (eb (andT g1 (andT g2 rfl)).symm) ?_
          exact J k' hk'
        · refine Go.rx 20 { ws := [(1, { call := some { ids := [], S := [], M := [], R := ti (id x1.2), H' := [] } }), (2, { v := some (tb true) }), (5, { v := some (tb false) })] } [] [6] _ [(6, tb false)] [] hk rfl (by as_aux_lemma => kernel_rfl) (.cons (bursarylaw27_num_m x1.2) (.cons (by first | rfl | (simp only [T.ids, idsL, er_ids, List.append_nil, List.nil_append]; rfl) : subN (idsL [er 83 x1.2]) [] = true) (.cons trivial (.cons (eb g1) (.cons trivial (.cons ((eqB64 x1.1 0).trans (eb g2)) .nil)))))) ?_
          intro k' hk'
          refine Go.slotEq 6 (tb (((id x1.2) == 1) && ((x1.1 == 0) && bursarylaw27_sure))) rfl (eb (andT g1 (andF g2)).symm) ?_
          exact J k' hk'
      · have g1p := eqIf g1
        refine Go.rx 20 { ws := [(1, { call := some { ids := [], S := [], M := [], R := ti (id x1.2), H' := [] } }), (2, { v := some (tb false) })] } [] [6] _ [(6, tb false)] [] hk rfl (by as_aux_lemma => kernel_rfl) (.cons (bursarylaw27_num_m x1.2) (.cons (by first | rfl | (simp only [T.ids, idsL, er_ids, List.append_nil, List.nil_append]; rfl) : subN (idsL [er 83 x1.2]) [] = true) (.cons trivial (.cons (eb g1) .nil)))) ?_
        intro k' hk'
        refine Go.slotEq 6 (tb (((id x1.2) == 1) && ((x1.1 == 0) && bursarylaw27_sure))) rfl (eb (andF g1).symm) ?_
        exact J k' hk'
  · refine Go.rx 20 { ws := [(2, { v := some (t64 (18446744073709551615 - a0)) }), (3, { v := some (tb (decide (a1 ≥ (18446744073709551615 - a0)))) })] } [] [0, 1, 2, 7, 8, 31] _ [(0, t64 a0), (1, t64 a1), (2, t64 a2), (7, t64 x1.1), (8, er 83 x1.2), (31, tb (decide (a1 ≥ (18446744073709551615 - a0))))] [] hk rfl (by as_aux_lemma => kernel_rfl) (.cons trivial (.cons (sub64 18446744073709551615 a0) (.cons trivial (.cons (geB64 a1 (18446744073709551615 - a0)) .nil)))) ?_
    clear hk; intro k hk
    refine Go.br 20 (Pf := (PostX Γ bursarylaw27_ClockRenews_enc)) hk rfl rfl ?_ ?_ <;> clear hk <;> intro c2 k hk
    · refine Go.regJ 20 [(6, tb (((id x1.2) == 19) && ((x1.1 == 0) && bursarylaw27_sure)))] [] hk rfl ?_ ?_
      · clear hk; intro k hk
        refine Go.bnd (Pf := (PostX Γ bursarylaw27_ClockRenews_enc)) (v := (id x1.2)) (fun x3 => [(6, tb ((x3 == 19) && ((x1.1 == 0) && bursarylaw27_sure)))]) (fun x3 => []) ?_
        intro x3 hx3
        exact Go.lvx 20 [] _ [tb ((x3 == 19) && ((x1.1 == 0) && bursarylaw27_sure))] Tryd.func5 hk rfl (by as_aux_lemma => kernel_rfl) .nil (T.Le.of_eq rfl) rfl rfl .nil
      · intro hk J
        rcases Bool.eq_false_or_eq_true ((id x1.2) == 19) with g3 | g3
        · have g3p := eqIt g3
          rcases Bool.eq_false_or_eq_true (x1.1 == 0) with g4 | g4
          · refine Go.rx 20 { ws := [(1, { call := some { ids := [], S := [], M := [], R := ti (id x1.2), H' := [] } }), (2, { v := some (tb true) }), (5, { v := some (tb true) }), (8, { call := some { ids := [], S := [], M := [], R := tb bursarylaw27_sure, H' := [] } })] } [] [6] _ [(6, tb bursarylaw27_sure)] [] hk rfl (by as_aux_lemma => kernel_rfl) (.cons (bursarylaw27_num_m x1.2) (.cons (by first | rfl | (simp only [T.ids, idsL, er_ids, List.append_nil, List.nil_append]; rfl) : subN (idsL [er 83 x1.2]) [] = true) (.cons trivial (.cons (eb g3) (.cons trivial (.cons ((eqB64 x1.1 0).trans (eb g4)) (.cons (bursarylaw27_sure_m) (.cons (by first | rfl | (simp only [T.ids, idsL, er_ids, List.append_nil, List.nil_append]; rfl) : subN (idsL []) [] = true) .nil)))))))) ?_
            intro k' hk'
            refine Go.slotEq 6 (tb (((id x1.2) == 19) && ((x1.1 == 0) && bursarylaw27_sure))) rfl (eb (andT g3 (andT g4 rfl)).symm) ?_
            exact J k' hk'
          · refine Go.rx 20 { ws := [(1, { call := some { ids := [], S := [], M := [], R := ti (id x1.2), H' := [] } }), (2, { v := some (tb true) }), (5, { v := some (tb false) })] } [] [6] _ [(6, tb false)] [] hk rfl (by as_aux_lemma => kernel_rfl) (.cons (bursarylaw27_num_m x1.2) (.cons (by first | rfl | (simp only [T.ids, idsL, er_ids, List.append_nil, List.nil_append]; rfl) : subN (idsL [er 83 x1.2]) [] = true) (.cons trivial (.cons (eb g3) (.cons trivial (.cons ((eqB64 x1.1 0).trans (eb g4)) .nil)))))) ?_
            intro k' hk'
            refine Go.slotEq 6 (tb (((id x1.2) == 19) && ((x1.1 == 0) && bursarylaw27_sure))) rfl (eb (andT g3 (andF g4)).symm) ?_
            exact J k' hk'
        · have g3p := eqIf g3
          refine Go.rx 20 { ws := [(1, { call := some { ids := [], S := [], M := [], R := ti (id x1.2), H' := [] } }), (2, { v := some (tb false) })] } [] [6] _ [(6, tb false)] [] hk rfl (by as_aux_lemma => kernel_rfl) (.cons (bursarylaw27_num_m x1.2) (.cons (by first | rfl | (simp only [T.ids, idsL, er_ids, List.append_nil, List.nil_append]; rfl) : subN (idsL [er 83 x1.2]) [] = true) (.cons trivial (.cons (eb g3) .nil)))) ?_
          intro k' hk'
          refine Go.slotEq 6 (tb (((id x1.2) == 19) && ((x1.1 == 0) && bursarylaw27_sure))) rfl (eb (andF g3).symm) ?_
          exact J k' hk'
    · refine Go.regJ 20 [(0, t64 a0), (1, t64 a1), (7, t64 x1.1), (67, tb ((!(decide (x1.2 = 0))) || ((decide (x1.1 > a2)) || ((decide (x1.1 > (a0 + a1))) || ((x1.1 != a2) && (x1.1 != (a0 + a1)))))))] [] hk rfl ?_ ?_
      · clear hk; intro k hk
        refine Go.br 20 (Pf := (PostX Γ bursarylaw27_ClockRenews_enc)) hk rfl rfl ?_ ?_ <;> clear hk <;> intro c3 k hk
        · refine Go.rx 20 {} [] [6] _ [(6, tb false)] [] hk rfl (by as_aux_lemma => kernel_rfl) .nil ?_
          clear hk; intro k hk
          exact Go.lvx 20 [] _ [tb false] Tryd.func5 hk rfl (by as_aux_lemma => kernel_rfl) .nil (T.Le.of_eq rfl) rfl rfl .nil
        · have c31 : (!(decide (x1.2 = 0))) = false := (Bool.or_eq_false_iff.1 c3).1
          have c32 : ((decide (x1.1 > a2)) || ((decide (x1.1 > (a0 + a1))) || ((x1.1 != a2) && (x1.1 != (a0 + a1))))) = false := (Bool.or_eq_false_iff.1 c3).2
          have c31' : (decide (x1.2 = 0)) = true := by simpa using c31
          have c31'p := of_decide_eq_true c31'
          have c321 : (decide (x1.1 > a2)) = false := (Bool.or_eq_false_iff.1 c32).1
          have c322 : ((decide (x1.1 > (a0 + a1))) || ((x1.1 != a2) && (x1.1 != (a0 + a1)))) = false := (Bool.or_eq_false_iff.1 c32).2
          have c3221 : (decide (x1.1 > (a0 + a1))) = false := (Bool.or_eq_false_iff.1 c322).1
          have c3222 : ((x1.1 != a2) && (x1.1 != (a0 + a1))) = false := (Bool.or_eq_false_iff.1 c322).2
          refine Go.regJ 20 [(6, tb (((clock_Over x1.1 x1.1) == (x1.1 != 18446744073709551615)) && ((decide ((clock_Left a0 x1.1) ≤ a1)) && (((clock_Tick a0 a1) == (a0 + a1)) && bursarylaw27_sure))))] [] hk rfl ?_ ?_
          · clear hk; intro k hk
            refine Go.bnd (Pf := (PostX Γ bursarylaw27_ClockRenews_enc)) (v := (clock_Over x1.1 x1.1)) (fun x4 => [(6, tb ((x4 == (x1.1 != 18446744073709551615)) && ((decide ((clock_Left a0 x1.1) ≤ a1)) && (((clock_Tick a0 a1) == (a0 + a1)) && bursarylaw27_sure))))]) (fun x4 => []) ?_
            intro x4 hx4
            refine Go.bnd (Pf := (PostX Γ bursarylaw27_ClockRenews_enc)) (v := (clock_Left a0 x1.1)) (fun x5 => [(6, tb ((x4 == (x1.1 != 18446744073709551615)) && ((decide (x5 ≤ a1)) && (((clock_Tick a0 a1) == (a0 + a1)) && bursarylaw27_sure))))]) (fun x5 => []) ?_
            intro x5 hx5
            refine Go.bnd (Pf := (PostX Γ bursarylaw27_ClockRenews_enc)) (v := (clock_Tick a0 a1)) (fun x6 => [(6, tb ((x4 == (x1.1 != 18446744073709551615)) && ((decide (x5 ≤ a1)) && ((x6 == (a0 + a1)) && bursarylaw27_sure))))]) (fun x6 => []) ?_
            intro x6 hx6
            exact Go.lvx 20 [] _ [tb ((x4 == (x1.1 != 18446744073709551615)) && ((decide (x5 ≤ a1)) && ((x6 == (a0 + a1)) && bursarylaw27_sure)))] Tryd.func5 hk rfl (by as_aux_lemma => kernel_rfl) .nil (T.Le.of_eq rfl) rfl rfl .nil
          · intro hk J
            rcases Bool.eq_false_or_eq_true ((clock_Over x1.1 x1.1) == (x1.1 != 18446744073709551615)) with g9 | g9
            · rcases Bool.eq_false_or_eq_true (decide ((clock_Left a0 x1.1) ≤ a1)) with g10 | g10
              · rcases Bool.eq_false_or_eq_true ((clock_Tick a0 a1) == (a0 + a1)) with g11 | g11
                · refine Go.rx 20 { ws := [(2, { call := some { ids := [], S := [], M := [], R := tb (clock_Over x1.1 x1.1), H' := [] } }), (4, { v := some (tb (x1.1 != 18446744073709551615)) }), (5, { v := some (tb true) }), (9, { call := some { ids := [], S := [], M := [], R := t64 (clock_Left a0 x1.1), H' := [] } }), (11, { v := some (tb true) }), (16, { call := some { ids := [], S := [], M := [], R := t64 (clock_Tick a0 a1), H' := [] } }), (19, { v := some (t64 (a0 + a1)) }), (20, { v := some (tb true) }), (23, { call := some { ids := [], S := [], M := [], R := tb bursarylaw27_sure, H' := [] } })] } [] [6] _ [(6, tb bursarylaw27_sure)] [] hk rfl (by as_aux_lemma => kernel_rfl) (.cons (clock_Over_m x1.1 x1.1) (.cons (by first | rfl | (simp only [T.ids, idsL, er_ids, List.append_nil, List.nil_append]; rfl) : subN (idsL [t64 x1.1, t64 x1.1]) [] = true) (.cons trivial (.cons (neB64 x1.1 18446744073709551615) (.cons (eb g9) (.cons (clock_Left_m a0 x1.1) (.cons (by first | rfl | (simp only [T.ids, idsL, er_ids, List.append_nil, List.nil_append]; rfl) : subN (idsL [t64 a0, t64 x1.1]) [] = true) (.cons trivial (.cons ((leB64 (clock_Left a0 x1.1) a1).trans (eb g10)) (.cons (clock_Tick_m a0 a1) (.cons (by first | rfl | (simp only [T.ids, idsL, er_ids, List.append_nil, List.nil_append]; rfl) : subN (idsL [t64 a0, t64 a1]) [] = true) (.cons trivial (.cons (add64 a0 a1) (.cons trivial (.cons ((eqB64 (clock_Tick a0 a1) (a0 + a1)).trans (eb g11)) (.cons (bursarylaw27_sure_m) (.cons (by first | rfl | (simp only [T.ids, idsL, er_ids, List.append_nil, List.nil_append]; rfl) : subN (idsL []) [] = true) .nil))))))))))))))))) ?_
                  intro k' hk'
                  refine Go.slotEq 6 (tb (((clock_Over x1.1 x1.1) == (x1.1 != 18446744073709551615)) && ((decide ((clock_Left a0 x1.1) ≤ a1)) && (((clock_Tick a0 a1) == (a0 + a1)) && bursarylaw27_sure)))) rfl (eb (andT g9 (andT g10 (andT g11 rfl))).symm) ?_
                  exact J k' hk'
                · refine Go.rx 20 { ws := [(2, { call := some { ids := [], S := [], M := [], R := tb (clock_Over x1.1 x1.1), H' := [] } }), (4, { v := some (tb (x1.1 != 18446744073709551615)) }), (5, { v := some (tb true) }), (9, { call := some { ids := [], S := [], M := [], R := t64 (clock_Left a0 x1.1), H' := [] } }), (11, { v := some (tb true) }), (16, { call := some { ids := [], S := [], M := [], R := t64 (clock_Tick a0 a1), H' := [] } }), (19, { v := some (t64 (a0 + a1)) }), (20, { v := some (tb false) })] } [] [6] _ [(6, tb false)] [] hk rfl (by as_aux_lemma => kernel_rfl) (.cons (clock_Over_m x1.1 x1.1) (.cons (by first | rfl | (simp only [T.ids, idsL, er_ids, List.append_nil, List.nil_append]; rfl) : subN (idsL [t64 x1.1, t64 x1.1]) [] = true) (.cons trivial (.cons (neB64 x1.1 18446744073709551615) (.cons (eb g9) (.cons (clock_Left_m a0 x1.1) (.cons (by first | rfl | (simp only [T.ids, idsL, er_ids, List.append_nil, List.nil_append]; rfl) : subN (idsL [t64 a0, t64 x1.1]) [] = true) (.cons trivial (.cons ((leB64 (clock_Left a0 x1.1) a1).trans (eb g10)) (.cons (clock_Tick_m a0 a1) (.cons (by first | rfl | (simp only [T.ids, idsL, er_ids, List.append_nil, List.nil_append]; rfl) : subN (idsL [t64 a0, t64 a1]) [] = true) (.cons trivial (.cons (add64 a0 a1) (.cons trivial (.cons ((eqB64 (clock_Tick a0 a1) (a0 + a1)).trans (eb g11)) .nil))))))))))))))) ?_
                  intro k' hk'
                  refine Go.slotEq 6 (tb (((clock_Over x1.1 x1.1) == (x1.1 != 18446744073709551615)) && ((decide ((clock_Left a0 x1.1) ≤ a1)) && (((clock_Tick a0 a1) == (a0 + a1)) && bursarylaw27_sure)))) rfl (eb (andT g9 (andT g10 (andF g11))).symm) ?_
                  exact J k' hk'
              · refine Go.rx 20 { ws := [(2, { call := some { ids := [], S := [], M := [], R := tb (clock_Over x1.1 x1.1), H' := [] } }), (4, { v := some (tb (x1.1 != 18446744073709551615)) }), (5, { v := some (tb true) }), (9, { call := some { ids := [], S := [], M := [], R := t64 (clock_Left a0 x1.1), H' := [] } }), (11, { v := some (tb false) })] } [] [6] _ [(6, tb false)] [] hk rfl (by as_aux_lemma => kernel_rfl) (.cons (clock_Over_m x1.1 x1.1) (.cons (by first | rfl | (simp only [T.ids, idsL, er_ids, List.append_nil, List.nil_append]; rfl) : subN (idsL [t64 x1.1, t64 x1.1]) [] = true) (.cons trivial (.cons (neB64 x1.1 18446744073709551615) (.cons (eb g9) (.cons (clock_Left_m a0 x1.1) (.cons (by first | rfl | (simp only [T.ids, idsL, er_ids, List.append_nil, List.nil_append]; rfl) : subN (idsL [t64 a0, t64 x1.1]) [] = true) (.cons trivial (.cons ((leB64 (clock_Left a0 x1.1) a1).trans (eb g10)) .nil))))))))) ?_
                intro k' hk'
                refine Go.slotEq 6 (tb (((clock_Over x1.1 x1.1) == (x1.1 != 18446744073709551615)) && ((decide ((clock_Left a0 x1.1) ≤ a1)) && (((clock_Tick a0 a1) == (a0 + a1)) && bursarylaw27_sure)))) rfl (eb (andT g9 (andF g10)).symm) ?_
                exact J k' hk'
            · refine Go.rx 20 { ws := [(2, { call := some { ids := [], S := [], M := [], R := tb (clock_Over x1.1 x1.1), H' := [] } }), (4, { v := some (tb (x1.1 != 18446744073709551615)) }), (5, { v := some (tb false) })] } [] [6] _ [(6, tb false)] [] hk rfl (by as_aux_lemma => kernel_rfl) (.cons (clock_Over_m x1.1 x1.1) (.cons (by first | rfl | (simp only [T.ids, idsL, er_ids, List.append_nil, List.nil_append]; rfl) : subN (idsL [t64 x1.1, t64 x1.1]) [] = true) (.cons trivial (.cons (neB64 x1.1 18446744073709551615) (.cons (eb g9) .nil))))) ?_
              intro k' hk'
              refine Go.slotEq 6 (tb (((clock_Over x1.1 x1.1) == (x1.1 != 18446744073709551615)) && ((decide ((clock_Left a0 x1.1) ≤ a1)) && (((clock_Tick a0 a1) == (a0 + a1)) && bursarylaw27_sure)))) rfl (eb (andF g9).symm) ?_
              exact J k' hk'
      · intro hk J
        rcases Bool.eq_false_or_eq_true (!(decide (x1.2 = 0))) with g5 | g5
        · have g5' : (decide (x1.2 = 0)) = false := by simpa using g5
          have g5'p := of_decide_eq_false g5'
          refine Go.rx 20 { ws := [(1, { v := some (tb true), er := some (83, x1.2) })] } [] [0, 1, 7, 67] _ [(0, t64 a0), (1, t64 a1), (7, t64 x1.1), (67, tb true)] [] hk rfl (by as_aux_lemma => kernel_rfl) (.cons (⟨rfl, rfl⟩ : (er 83 x1.2) = er 83 x1.2 ∧ (.leaf .nilIface : T) = .leaf .nilIface) (.cons (eb g5) .nil)) ?_
          intro k' hk'
          refine Go.slotEq 67 (tb ((!(decide (x1.2 = 0))) || ((decide (x1.1 > a2)) || ((decide (x1.1 > (a0 + a1))) || ((x1.1 != a2) && (x1.1 != (a0 + a1))))))) rfl (eb (orT g5).symm) ?_
          exact J k' hk'
        · have g5' : (decide (x1.2 = 0)) = true := by simpa using g5
          have g5'p := of_decide_eq_true g5'
          rcases Bool.eq_false_or_eq_true (decide (x1.1 > a2)) with g6 | g6
          · refine Go.rx 20 { ws := [(1, { v := some (tb false), er := some (83, x1.2) }), (5, { v := some (tb true) })] } [] [0, 1, 7, 67] _ [(0, t64 a0), (1, t64 a1), (7, t64 x1.1), (67, tb true)] [] hk rfl (by as_aux_lemma => kernel_rfl) (.cons (⟨rfl, rfl⟩ : (er 83 x1.2) = er 83 x1.2 ∧ (.leaf .nilIface : T) = .leaf .nilIface) (.cons (eb g5) (.cons trivial (.cons ((gtB64 x1.1 a2).trans (eb g6)) .nil)))) ?_
            intro k' hk'
            refine Go.slotEq 67 (tb ((!(decide (x1.2 = 0))) || ((decide (x1.1 > a2)) || ((decide (x1.1 > (a0 + a1))) || ((x1.1 != a2) && (x1.1 != (a0 + a1))))))) rfl (eb (orF g5 (orT g6)).symm) ?_
            exact J k' hk'
          · rcases Bool.eq_false_or_eq_true (decide (x1.1 > (a0 + a1))) with g7 | g7
            · refine Go.rx 20 { ws := [(1, { v := some (tb false), er := some (83, x1.2) }), (5, { v := some (tb false) }), (11, { v := some (t64 (a0 + a1)) }), (12, { v := some (tb true) })] } [] [0, 1, 7, 67] _ [(0, t64 a0), (1, t64 a1), (7, t64 x1.1), (67, tb true)] [] hk rfl (by as_aux_lemma => kernel_rfl) (.cons (⟨rfl, rfl⟩ : (er 83 x1.2) = er 83 x1.2 ∧ (.leaf .nilIface : T) = .leaf .nilIface) (.cons (eb g5) (.cons trivial (.cons ((gtB64 x1.1 a2).trans (eb g6)) (.cons trivial (.cons (add64 a0 a1) (.cons trivial (.cons ((gtB64 x1.1 (a0 + a1)).trans (eb g7)) .nil)))))))) ?_
              intro k' hk'
              refine Go.slotEq 67 (tb ((!(decide (x1.2 = 0))) || ((decide (x1.1 > a2)) || ((decide (x1.1 > (a0 + a1))) || ((x1.1 != a2) && (x1.1 != (a0 + a1))))))) rfl (eb (orF g5 (orF g6 (orT g7))).symm) ?_
              exact J k' hk'
            · rcases Bool.eq_false_or_eq_true (x1.1 != a2) with g8 | g8
              · refine Go.rx 20 { ws := [(1, { v := some (tb false), er := some (83, x1.2) }), (5, { v := some (tb false) }), (11, { v := some (t64 (a0 + a1)) }), (12, { v := some (tb false) }), (17, { v := some (tb true) }), (22, { v := some (t64 (a0 + a1)) }), (23, { v := some (tb (x1.1 != (a0 + a1))) })] } [] [0, 1, 7, 67] _ [(0, t64 a0), (1, t64 a1), (7, t64 x1.1), (67, tb (x1.1 != (a0 + a1)))] [] hk rfl (by as_aux_lemma => kernel_rfl) (.cons (⟨rfl, rfl⟩ : (er 83 x1.2) = er 83 x1.2 ∧ (.leaf .nilIface : T) = .leaf .nilIface) (.cons (eb g5) (.cons trivial (.cons ((gtB64 x1.1 a2).trans (eb g6)) (.cons trivial (.cons (add64 a0 a1) (.cons trivial (.cons ((gtB64 x1.1 (a0 + a1)).trans (eb g7)) (.cons trivial (.cons ((neB64 x1.1 a2).trans (eb g8)) (.cons trivial (.cons (add64 a0 a1) (.cons trivial (.cons (neB64 x1.1 (a0 + a1)) .nil)))))))))))))) ?_
                intro k' hk'
                refine Go.slotEq 67 (tb ((!(decide (x1.2 = 0))) || ((decide (x1.1 > a2)) || ((decide (x1.1 > (a0 + a1))) || ((x1.1 != a2) && (x1.1 != (a0 + a1))))))) rfl (eb (orF g5 (orF g6 (orF g7 (andT g8 rfl)))).symm) ?_
                exact J k' hk'
              · refine Go.rx 20 { ws := [(1, { v := some (tb false), er := some (83, x1.2) }), (5, { v := some (tb false) }), (11, { v := some (t64 (a0 + a1)) }), (12, { v := some (tb false) }), (17, { v := some (tb false) })] } [] [0, 1, 7, 67] _ [(0, t64 a0), (1, t64 a1), (7, t64 x1.1), (67, tb false)] [] hk rfl (by as_aux_lemma => kernel_rfl) (.cons (⟨rfl, rfl⟩ : (er 83 x1.2) = er 83 x1.2 ∧ (.leaf .nilIface : T) = .leaf .nilIface) (.cons (eb g5) (.cons trivial (.cons ((gtB64 x1.1 a2).trans (eb g6)) (.cons trivial (.cons (add64 a0 a1) (.cons trivial (.cons ((gtB64 x1.1 (a0 + a1)).trans (eb g7)) (.cons trivial (.cons ((neB64 x1.1 a2).trans (eb g8)) .nil)))))))))) ?_
                intro k' hk'
                refine Go.slotEq 67 (tb ((!(decide (x1.2 = 0))) || ((decide (x1.1 > a2)) || ((decide (x1.1 > (a0 + a1))) || ((x1.1 != a2) && (x1.1 != (a0 + a1))))))) rfl (eb (orF g5 (orF g6 (orF g7 (andF g8)))).symm) ?_
                exact J k' hk'
noncomputable def bursarylaw27_ClockOnward_k1  : Bool :=
  bursarylaw27_sure
noncomputable def bursarylaw27_ClockOnward_l1 (a0 : UInt64) (a1 : UInt64) (a2 : List UInt64) (x1 : UInt64 × Int) : Nat → UInt64 → Bool → Int → Lo Unit Bool
  | 0, _, _, _ => .brk default
  | ml1 + 1, t71, t111, t121 =>
    bif (decide (t121 < (a2.length : Int))) && (decide (t121 < 60)) then
      bnd (clock_Tick t71 (a2.getD t121.toNat 0)) fun x2 =>
      bnd (bif (t121 % 3) == 2 then (clock_Resume t71 (a2.getD t121.toNat 0)) else x2) fun y1 =>
      bnd (clock_Over y1 x1.1) fun x3 =>
      bif (decide (y1 < t71)) || (t111 && (!x3)) then
        Lo.ret false
      else
        bnd (clock_Over y1 x1.1) fun x4 =>
        bnd (clock_Left y1 x1.1) fun x5 =>
        bif (x4 != (decide ((y1 - a0) ≥ a1))) || (x4 != (x5 == 0)) then
          Lo.ret false
        else
          bursarylaw27_ClockOnward_l1 a0 a1 a2 x1 ml1 y1 x4 (t121 + 1)
    else
      Lo.brk ()
noncomputable def bursarylaw27_ClockOnward (a0 : UInt64) (a1 : UInt64) (a2 : List UInt64) : Bool :=
  bnd (clock_Until a0 a1) fun x1 =>
  bif (!(decide (x1.2 = 0))) || (a1 == 0) then
    ((a1 == 0) == (decide (x1.2 = 0))) && bursarylaw27_sure
  else
    Lo.el (bursarylaw27_ClockOnward_l1 a0 a1 a2 x1 (((a2.length : Int) - (0 : Int)).toNat + 1) a0 false 0) (fun z => bursarylaw27_ClockOnward_k1)
def bursarylaw27_ClockOnward_enc (x : Bool) : T × List (Nat × List T) := (tb x, [])
theorem bursarylaw27_ClockOnward_m {g_a2 : Tag} (a0 : UInt64) (a1 : UInt64) (a2 : List UInt64) : Meets Tryd.prog 3 [t64 a0, t64 a1, .sl 1 g_a2 a2.length (u64s a2)] [] [] (tb (bursarylaw27_ClockOnward a0 a1 a2)) [] := by
  refine Meets.enterX (E := E) (N := 93) (enc := bursarylaw27_ClockOnward_enc) (x := (bursarylaw27_ClockOnward a0 a1 a2)) Tryd.func3 Tryd.call3 rfl rfl ?_
  intro Γ k hk
  refine Go.rx 20 {} [] [0, 1, 2] _ [(0, t64 a0), (1, t64 a1), (2, .sl 1 g_a2 a2.length (u64s a2))] [] hk rfl (by as_aux_lemma => kernel_rfl) .nil ?_
  clear hk; intro k hk
  refine Go.rx 20 {} [] [0, 1, 2, 7] _ [(0, t64 a0), (1, t64 a1), (2, .sl 1 g_a2 a2.length (u64s a2)), (7, t64 a0)] [] hk rfl (by as_aux_lemma => kernel_rfl) .nil ?_
  clear hk; intro k hk
  refine Go.rx 20 { ws := [(2, { call := some { ids := [], S := [], M := [], R := .tup [t64 ((clock_Until a0 a1).1), er 83 ((clock_Until a0 a1).2)], H' := [] } })] } [] [0, 1, 2, 7, 9, 10] _ [(0, t64 a0), (1, t64 a1), (2, .sl 1 g_a2 a2.length (u64s a2)), (7, t64 a0), (9, t64 ((clock_Until a0 a1).1)), (10, er 83 ((clock_Until a0 a1).2))] [] hk rfl (by as_aux_lemma => kernel_rfl) (.cons (clock_Until_m a0 a1) (.cons (by first | rfl | (simp only [T.ids, idsL, er_ids, List.append_nil, List.nil_append]; rfl) : subN (idsL [t64 a0, t64 a1]) [] = true) .nil)) ?_
  clear hk; intro k hk
  refine Go.bnd (Pf := (PostX Γ bursarylaw27_ClockOnward_enc)) (v := (clock_Until a0 a1)) (fun x1 => [(0, t64 a0), (1, t64 a1), (2, .sl 1 g_a2 a2.length (u64s a2)), (7, t64 a0), (9, t64 x1.1), (10, er 83 x1.2)]) (fun x1 => []) ?_
  intro x1 hx1
  refine Go.regJ 20 [(0, t64 a0), (1, t64 a1), (2, .sl 1 g_a2 a2.length (u64s a2)), (7, t64 a0), (9, t64 x1.1), (10, er 83 x1.2), (26, tb ((!(decide (x1.2 = 0))) || (a1 == 0)))] [] hk rfl ?_ ?_
  · clear hk; intro k hk
    refine Go.br 20 (Pf := (PostX Γ bursarylaw27_ClockOnward_enc)) hk rfl rfl ?_ ?_ <;> clear hk <;> intro c1 k hk
    · refine Go.regJ 20 [(6, tb (((a1 == 0) == (decide (x1.2 = 0))) && bursarylaw27_sure))] [] hk rfl ?_ ?_
      · clear hk; intro k hk
        exact Go.lvx 20 [] _ [tb (((a1 == 0) == (decide (x1.2 = 0))) && bursarylaw27_sure)] Tryd.func3 hk rfl (by as_aux_lemma => kernel_rfl) .nil (T.Le.of_eq rfl) rfl rfl .nil
      · intro hk J
        rcases Bool.eq_false_or_eq_true ((a1 == 0) == (decide (x1.2 = 0))) with g2 | g2
        · refine Go.rx 20 { ws := [(1, { v := some (tb (a1 == 0)) }), (3, { er := some (83, x1.2) }), (4, { v := some (tb true) }), (6, { call := some { ids := [], S := [], M := [], R := tb bursarylaw27_sure, H' := [] } })] } [] [6] _ [(6, tb bursarylaw27_sure)] [] hk rfl (by as_aux_lemma => kernel_rfl) (.cons trivial (.cons (eqB64 a1 0) (.cons (⟨rfl, rfl⟩ : (er 83 x1.2) = er 83 x1.2 ∧ (.leaf .nilIface : T) = .leaf .nilIface) (.cons (eb g2) (.cons (bursarylaw27_sure_m) (.cons (by first | rfl | (simp only [T.ids, idsL, er_ids, List.append_nil, List.nil_append]; rfl) : subN (idsL []) [] = true) .nil)))))) ?_
          intro k' hk'
          refine Go.slotEq 6 (tb (((a1 == 0) == (decide (x1.2 = 0))) && bursarylaw27_sure)) rfl (eb (andT g2 rfl).symm) ?_
          exact J k' hk'
        · refine Go.rx 20 { ws := [(1, { v := some (tb (a1 == 0)) }), (3, { er := some (83, x1.2) }), (4, { v := some (tb false) })] } [] [6] _ [(6, tb false)] [] hk rfl (by as_aux_lemma => kernel_rfl) (.cons trivial (.cons (eqB64 a1 0) (.cons (⟨rfl, rfl⟩ : (er 83 x1.2) = er 83 x1.2 ∧ (.leaf .nilIface : T) = .leaf .nilIface) (.cons (eb g2) .nil)))) ?_
          intro k' hk'
          refine Go.slotEq 6 (tb (((a1 == 0) == (decide (x1.2 = 0))) && bursarylaw27_sure)) rfl (eb (andF g2).symm) ?_
          exact J k' hk'
    · have c11 : (!(decide (x1.2 = 0))) = false := (Bool.or_eq_false_iff.1 c1).1
      have c12 : (a1 == 0) = false := (Bool.or_eq_false_iff.1 c1).2
      have c11' : (decide (x1.2 = 0)) = true := by simpa using c11
      have c11'p := of_decide_eq_true c11'
      refine Go.rx 20 {} [] [0, 1, 2, 7, 8] _ [(0, t64 a0), (1, t64 a1), (2, .sl 1 g_a2 a2.length (u64s a2)), (7, t64 a0), (8, t64 x1.1)] [] hk rfl (by as_aux_lemma => kernel_rfl) .nil ?_
      clear hk; intro k hk
      refine Go.rx 20 {} [] [0, 1, 2, 7, 8, 11] _ [(0, t64 a0), (1, t64 a1), (2, .sl 1 g_a2 a2.length (u64s a2)), (7, t64 a0), (8, t64 x1.1), (11, tb false)] [] hk rfl (by as_aux_lemma => kernel_rfl) .nil ?_
      clear hk; intro k hk
      refine Go.rx 20 {} [] [0, 1, 2, 7, 8, 11, 12] _ [(0, t64 a0), (1, t64 a1), (2, .sl 1 g_a2 a2.length (u64s a2)), (7, t64 a0), (8, t64 x1.1), (11, tb false), (12, ti 0)] [] hk rfl (by as_aux_lemma => kernel_rfl) .nil ?_
      clear hk; intro k hk
      refine Go.loopX 20 hk rfl ?_
      clear hk; intro kl1 kxl1 hl1 hxl1
      have Xl1 : ∀ (_ : True), Go E Γ 3 93 [] ((PostX Γ bursarylaw27_ClockOnward_enc) (bursarylaw27_ClockOnward_k1)) kxl1 (stL [] []) := by
        intro _
        refine Go.rx 20 { ws := [(0, { call := some { ids := [], S := [], M := [], R := tb bursarylaw27_sure, H' := [] } })] } [] [6] _ [(6, tb bursarylaw27_sure)] [] hxl1 rfl (by as_aux_lemma => kernel_rfl) (.cons (bursarylaw27_sure_m) (.cons (by first | rfl | (simp only [T.ids, idsL, er_ids, List.append_nil, List.nil_append]; rfl) : subN (idsL []) [] = true) .nil)) ?_
        clear hxl1; intro kxl1 hxl1
        exact Go.lvx 20 [] _ [tb bursarylaw27_sure] Tryd.func3 hxl1 rfl (by as_aux_lemma => kernel_rfl) .nil (T.Le.of_eq rfl) rfl rfl .nil
      have Ll1 : ∀ (ml1 : Nat) (t71 : UInt64) (t111 : Bool) (t121 : Int), (0 ≤ t121) → (((a2.length : Int) - t121).toNat < ml1) → Go E Γ 3 93 [] ((PostX Γ bursarylaw27_ClockOnward_enc) (Lo.el (bursarylaw27_ClockOnward_l1 a0 a1 a2 x1 ml1 t71 t111 t121) (fun z => bursarylaw27_ClockOnward_k1))) kl1 (stL [(0, t64 a0), (1, t64 a1), (2, .sl 1 g_a2 a2.length (u64s a2)), (7, t64 t71), (8, t64 x1.1), (11, tb t111), (12, ti t121)] []) := by
        intro ml1
        induction ml1 with
        | zero => intro t71 t111 t121 i0l1 hml1; exact absurd hml1 (Nat.not_lt_zero _)
        | succ ml1 ihl1 =>
          intro t71 t111 t121 i0l1 hml1
          refine Go.round hl1 ?_
          intro k hk
          refine Go.regJ 20 [(0, t64 a0), (1, t64 a1), (2, .sl 1 g_a2 a2.length (u64s a2)), (7, t64 t71), (8, t64 x1.1), (11, tb t111), (12, ti t121), (43, tb ((decide (t121 < (a2.length : Int))) && (decide (t121 < 60))))] [] hk rfl ?_ ?_
          · clear hk; intro k hk
            refine Go.br 20 (Pf := (fun z => (PostX Γ bursarylaw27_ClockOnward_enc) (Lo.el z (fun z => bursarylaw27_ClockOnward_k1)))) hk rfl rfl ?_ ?_ <;> clear hk <;> intro c2 k hk
            · have c21 : (decide (t121 < (a2.length : Int))) = true := (Bool.and_eq_true_iff.1 c2).1
              have c22 : (decide (t121 < 60)) = true := (Bool.and_eq_true_iff.1 c2).2
              have c21p := of_decide_eq_true c21
              have c22p := of_decide_eq_true c22
              refine Go.rx 20 { ws := [(4, { v := some (t64 (a2.getD t121.toNat 0)) }), (5, { call := some { ids := [], S := [], M := [], R := t64 (clock_Tick t71 (a2.getD t121.toNat 0)), H' := [] } })] } [] [0, 1, 2, 7, 8, 11, 12, 13] _ [(0, t64 a0), (1, t64 a1), (2, .sl 1 g_a2 a2.length (u64s a2)), (7, t64 t71), (8, t64 x1.1), (11, tb t111), (12, ti t121), (13, t64 (clock_Tick t71 (a2.getD t121.toNat 0)))] [] hk rfl (by as_aux_lemma => kernel_rfl) (.cons (by omega : 0 ≤ (t121 : Int) ∧ (t121 : Int) < ((a2.length : Nat) : Int)) (.cons (part1 (by as_aux_lemma => kernel_rfl : (E.ti 22).agg = false) (mp_get (g := (fun c : UInt64 => T.leaf (.int .u64 c.toNat))) (k := t121.toNat * 1) (n := t121.toNat) a2 (0 : UInt64) (by omega) (by omega))) (.cons (clock_Tick_m t71 (a2.getD t121.toNat 0)) (.cons (by first | rfl | (simp only [T.ids, idsL, er_ids, List.append_nil, List.nil_append]; rfl) : subN (idsL [t64 t71, t64 (a2.getD t121.toNat 0)]) [] = true) .nil)))) ?_
              clear hk; intro k hk
              refine Go.bnd (Pf := (fun z => (PostX Γ bursarylaw27_ClockOnward_enc) (Lo.el z (fun z => bursarylaw27_ClockOnward_k1)))) (v := (clock_Tick t71 (a2.getD t121.toNat 0))) (fun x2 => [(0, t64 a0), (1, t64 a1), (2, .sl 1 g_a2 a2.length (u64s a2)), (7, t64 t71), (8, t64 x1.1), (11, tb t111), (12, ti t121), (13, t64 x2)]) (fun x2 => []) ?_
              intro x2 hx2
              refine Go.rx 20 { ws := [(1, { v := some (ti (t121 % 3)) })] } [] [0, 1, 2, 7, 8, 11, 12, 13, 54] _ [(0, t64 a0), (1, t64 a1), (2, .sl 1 g_a2 a2.length (u64s a2)), (7, t64 t71), (8, t64 x1.1), (11, tb t111), (12, ti t121), (13, t64 x2), (54, tb ((t121 % 3) == 2))] [] hk rfl (by as_aux_lemma => kernel_rfl) (.cons (by decide : 3 ≠ (0 : Int)) (.cons (remI t121 3 (by omega)) (.cons trivial .nil))) ?_
              clear hk; intro k hk
              refine Go.condJ 20 [(0, t64 a0), (1, t64 a1), (2, .sl 1 g_a2 a2.length (u64s a2)), (7, t64 t71), (8, t64 x1.1), (11, tb t111), (12, ti t121), (13, t64 (bif (t121 % 3) == 2 then (clock_Resume t71 (a2.getD t121.toNat 0)) else x2))] [] hk rfl rfl ?_ ?_ ?_
              · clear hk; intro k hk
                refine Go.bnd (Pf := (fun z => (PostX Γ bursarylaw27_ClockOnward_enc) (Lo.el z (fun z => bursarylaw27_ClockOnward_k1)))) (v := (bif (t121 % 3) == 2 then (clock_Resume t71 (a2.getD t121.toNat 0)) else x2)) (fun y1 => [(0, t64 a0), (1, t64 a1), (2, .sl 1 g_a2 a2.length (u64s a2)), (7, t64 t71), (8, t64 x1.1), (11, tb t111), (12, ti t121), (13, t64 y1)]) (fun y1 => []) ?_
                intro y1 hy1
                refine Go.regJ 20 [(0, t64 a0), (1, t64 a1), (2, .sl 1 g_a2 a2.length (u64s a2)), (8, t64 x1.1), (12, ti t121), (13, t64 y1), (72, tb ((decide (y1 < t71)) || (t111 && (!(clock_Over y1 x1.1)))))] [] hk rfl ?_ ?_
                · clear hk; intro k hk
                  refine Go.bnd (Pf := (fun z => (PostX Γ bursarylaw27_ClockOnward_enc) (Lo.el z (fun z => bursarylaw27_ClockOnward_k1)))) (v := (clock_Over y1 x1.1)) (fun x3 => [(0, t64 a0), (1, t64 a1), (2, .sl 1 g_a2 a2.length (u64s a2)), (8, t64 x1.1), (12, ti t121), (13, t64 y1), (72, tb ((decide (y1 < t71)) || (t111 && (!x3))))]) (fun x3 => []) ?_
                  intro x3 hx3
                  refine Go.br 20 (Pf := (fun z => (PostX Γ bursarylaw27_ClockOnward_enc) (Lo.el z (fun z => bursarylaw27_ClockOnward_k1)))) hk rfl rfl ?_ ?_ <;> clear hk <;> intro c4 k hk
                  · refine Go.rx 20 {} [] [6] _ [(6, tb false)] [] hk rfl (by as_aux_lemma => kernel_rfl) .nil ?_
                    clear hk; intro k hk
                    exact Go.lvx 20 [] _ [tb false] Tryd.func3 hk rfl (by as_aux_lemma => kernel_rfl) .nil (T.Le.of_eq rfl) rfl rfl .nil
                  · have c41 : (decide (y1 < t71)) = false := (Bool.or_eq_false_iff.1 c4).1
                    have c42 : (t111 && (!x3)) = false := (Bool.or_eq_false_iff.1 c4).2
                    refine Go.rx 20 {} [] [0, 1, 2, 7, 8, 12] _ [(0, t64 a0), (1, t64 a1), (2, .sl 1 g_a2 a2.length (u64s a2)), (7, t64 y1), (8, t64 x1.1), (12, ti t121)] [] hk rfl (by as_aux_lemma => kernel_rfl) .nil ?_
                    clear hk; intro k hk
                    refine Go.rx 20 { ws := [(2, { call := some { ids := [], S := [], M := [], R := tb (clock_Over y1 x1.1), H' := [] } })] } [] [0, 1, 2, 7, 8, 11, 12] _ [(0, t64 a0), (1, t64 a1), (2, .sl 1 g_a2 a2.length (u64s a2)), (7, t64 y1), (8, t64 x1.1), (11, tb (clock_Over y1 x1.1)), (12, ti t121)] [] hk rfl (by as_aux_lemma => kernel_rfl) (.cons (clock_Over_m y1 x1.1) (.cons (by first | rfl | (simp only [T.ids, idsL, er_ids, List.append_nil, List.nil_append]; rfl) : subN (idsL [t64 y1, t64 x1.1]) [] = true) .nil)) ?_
                    clear hk; intro k hk
                    refine Go.bnd (Pf := (fun z => (PostX Γ bursarylaw27_ClockOnward_enc) (Lo.el z (fun z => bursarylaw27_ClockOnward_k1)))) (v := (clock_Over y1 x1.1)) (fun x4 => [(0, t64 a0), (1, t64 a1), (2, .sl 1 g_a2 a2.length (u64s a2)), (7, t64 y1), (8, t64 x1.1), (11, tb x4), (12, ti t121)]) (fun x4 => []) ?_
                    intro x4 hx4
                    refine Go.regJ 20 [(0, t64 a0), (1, t64 a1), (2, .sl 1 g_a2 a2.length (u64s a2)), (7, t64 y1), (8, t64 x1.1), (11, tb x4), (12, ti t121), (91, tb ((x4 != (decide ((y1 - a0) ≥ a1))) || (x4 != ((clock_Left y1 x1.1) == 0))))] [] hk rfl ?_ ?_
                    · clear hk; intro k hk
                      refine Go.bnd (Pf := (fun z => (PostX Γ bursarylaw27_ClockOnward_enc) (Lo.el z (fun z => bursarylaw27_ClockOnward_k1)))) (v := (clock_Left y1 x1.1)) (fun x5 => [(0, t64 a0), (1, t64 a1), (2, .sl 1 g_a2 a2.length (u64s a2)), (7, t64 y1), (8, t64 x1.1), (11, tb x4), (12, ti t121), (91, tb ((x4 != (decide ((y1 - a0) ≥ a1))) || (x4 != (x5 == 0))))]) (fun x5 => []) ?_
                      intro x5 hx5
                      refine Go.br 20 (Pf := (fun z => (PostX Γ bursarylaw27_ClockOnward_enc) (Lo.el z (fun z => bursarylaw27_ClockOnward_k1)))) hk rfl rfl ?_ ?_ <;> clear hk <;> intro c5 k hk
                      · refine Go.rx 20 {} [] [6] _ [(6, tb false)] [] hk rfl (by as_aux_lemma => kernel_rfl) .nil ?_
                        clear hk; intro k hk
                        exact Go.lvx 20 [] _ [tb false] Tryd.func3 hk rfl (by as_aux_lemma => kernel_rfl) .nil (T.Le.of_eq rfl) rfl rfl .nil
                      · have c51 : (x4 != (decide ((y1 - a0) ≥ a1))) = false := (Bool.or_eq_false_iff.1 c5).1
                        have c52 : (x4 != (x5 == 0)) = false := (Bool.or_eq_false_iff.1 c5).2
                        refine Go.rx 20 { ws := [(1, { v := some (ti (t121 + 1)) })] } [] [0, 1, 2, 7, 8, 11, 12] _ [(0, t64 a0), (1, t64 a1), (2, .sl 1 g_a2 a2.length (u64s a2)), (7, t64 y1), (8, t64 x1.1), (11, tb x4), (12, ti (t121 + 1))] [] hk rfl (by as_aux_lemma => kernel_rfl) (.cons trivial (.cons (iw (t121 + 1) (by omega)) .nil)) ?_
                        clear hk; intro k hk
                        exact Go.join 20 hk hl1 rfl (ihl1 y1 x4 (t121 + 1) (by omega) (by omega))
                    · intro hk J
                      rcases Bool.eq_false_or_eq_true (x4 != (decide ((y1 - a0) ≥ a1))) with g6 | g6
                      · refine Go.rx 20 { ws := [(3, { v := some (t64 (y1 - a0)) }), (5, { v := some (tb (decide ((y1 - a0) ≥ a1))) }), (6, { v := some (tb true) })] } [] [0, 1, 2, 7, 8, 11, 12, 91] _ [(0, t64 a0), (1, t64 a1), (2, .sl 1 g_a2 a2.length (u64s a2)), (7, t64 y1), (8, t64 x1.1), (11, tb x4), (12, ti t121), (91, tb true)] [] hk rfl (by as_aux_lemma => kernel_rfl) (.cons trivial (.cons (sub64 y1 a0) (.cons trivial (.cons (geB64 (y1 - a0) a1) (.cons (eb g6) .nil))))) ?_
                        intro k' hk'
                        refine Go.slotEq 91 (tb ((x4 != (decide ((y1 - a0) ≥ a1))) || (x4 != ((clock_Left y1 x1.1) == 0)))) rfl (eb (orT g6).symm) ?_
                        exact J k' hk'
                      · refine Go.rx 20 { ws := [(3, { v := some (t64 (y1 - a0)) }), (5, { v := some (tb (decide ((y1 - a0) ≥ a1))) }), (6, { v := some (tb false) }), (11, { call := some { ids := [], S := [], M := [], R := t64 (clock_Left y1 x1.1), H' := [] } }), (12, { v := some (tb ((clock_Left y1 x1.1) == 0)) })] } [] [0, 1, 2, 7, 8, 11, 12, 91] _ [(0, t64 a0), (1, t64 a1), (2, .sl 1 g_a2 a2.length (u64s a2)), (7, t64 y1), (8, t64 x1.1), (11, tb x4), (12, ti t121), (91, tb (x4 != ((clock_Left y1 x1.1) == 0)))] [] hk rfl (by as_aux_lemma => kernel_rfl) (.cons trivial (.cons (sub64 y1 a0) (.cons trivial (.cons (geB64 (y1 - a0) a1) (.cons (eb g6) (.cons (clock_Left_m y1 x1.1) (.cons (by first | rfl | (simp only [T.ids, idsL, er_ids, List.append_nil, List.nil_append]; rfl) : subN (idsL [t64 y1, t64 x1.1]) [] = true) (.cons trivial (.cons (eqB64 (clock_Left y1 x1.1) 0) .nil))))))))) ?_
                        intro k' hk'
                        refine Go.slotEq 91 (tb ((x4 != (decide ((y1 - a0) ≥ a1))) || (x4 != ((clock_Left y1 x1.1) == 0)))) rfl (eb (orF g6 rfl).symm) ?_
                        exact J k' hk'
                · intro hk J
                  rcases Bool.eq_false_or_eq_true (decide (y1 < t71)) with g4 | g4
                  · refine Go.rx 20 { ws := [(2, { v := some (tb true) })] } [] [0, 1, 2, 8, 12, 13, 72] _ [(0, t64 a0), (1, t64 a1), (2, .sl 1 g_a2 a2.length (u64s a2)), (8, t64 x1.1), (12, ti t121), (13, t64 y1), (72, tb true)] [] hk rfl (by as_aux_lemma => kernel_rfl) (.cons trivial (.cons ((ltB64 y1 t71).trans (eb g4)) .nil)) ?_
                    intro k' hk'
                    refine Go.slotEq 72 (tb ((decide (y1 < t71)) || (t111 && (!(clock_Over y1 x1.1))))) rfl (eb (orT g4).symm) ?_
                    exact J k' hk'
                  · rcases Bool.eq_false_or_eq_true t111 with g5 | g5
                    · refine Go.rx 20 { ws := [(2, { v := some (tb false) }), (4, { v := some (tb true) }), (8, { call := some { ids := [], S := [], M := [], R := tb (clock_Over y1 x1.1), H' := [] } })] } [] [0, 1, 2, 8, 12, 13, 72] _ [(0, t64 a0), (1, t64 a1), (2, .sl 1 g_a2 a2.length (u64s a2)), (8, t64 x1.1), (12, ti t121), (13, t64 y1), (72, tb (!(clock_Over y1 x1.1)))] [] hk rfl (by as_aux_lemma => kernel_rfl) (.cons trivial (.cons ((ltB64 y1 t71).trans (eb g4)) (.cons (eb g5) (.cons (clock_Over_m y1 x1.1) (.cons (by first | rfl | (simp only [T.ids, idsL, er_ids, List.append_nil, List.nil_append]; rfl) : subN (idsL [t64 y1, t64 x1.1]) [] = true) .nil))))) ?_
                      intro k' hk'
                      refine Go.slotEq 72 (tb ((decide (y1 < t71)) || (t111 && (!(clock_Over y1 x1.1))))) rfl (eb (orF g4 (andT g5 rfl)).symm) ?_
                      exact J k' hk'
                    · refine Go.rx 20 { ws := [(2, { v := some (tb false) }), (4, { v := some (tb false) })] } [] [0, 1, 2, 8, 12, 13, 72] _ [(0, t64 a0), (1, t64 a1), (2, .sl 1 g_a2 a2.length (u64s a2)), (8, t64 x1.1), (12, ti t121), (13, t64 y1), (72, tb false)] [] hk rfl (by as_aux_lemma => kernel_rfl) (.cons trivial (.cons ((ltB64 y1 t71).trans (eb g4)) (.cons (eb g5) .nil))) ?_
                      intro k' hk'
                      refine Go.slotEq 72 (tb ((decide (y1 < t71)) || (t111 && (!(clock_Over y1 x1.1))))) rfl (eb (orF g4 (andF g5)).symm) ?_
                      exact J k' hk'
              · clear hk; intro Jc3 c3 k hk
                have c3p := eqIt c3
                refine Go.rx 20 { ws := [(4, { v := some (t64 (a2.getD t121.toNat 0)) }), (5, { call := some { ids := [], S := [], M := [], R := t64 (clock_Resume t71 (a2.getD t121.toNat 0)), H' := [] } })] } [] [0, 1, 2, 7, 8, 11, 12, 13] _ [(0, t64 a0), (1, t64 a1), (2, .sl 1 g_a2 a2.length (u64s a2)), (7, t64 t71), (8, t64 x1.1), (11, tb t111), (12, ti t121), (13, t64 (clock_Resume t71 (a2.getD t121.toNat 0)))] [] hk rfl (by as_aux_lemma => kernel_rfl) (.cons (by omega : 0 ≤ (t121 : Int) ∧ (t121 : Int) < ((a2.length : Nat) : Int)) (.cons (part1 (by as_aux_lemma => kernel_rfl : (E.ti 22).agg = false) (mp_get (g := (fun c : UInt64 => T.leaf (.int .u64 c.toNat))) (k := t121.toNat * 1) (n := t121.toNat) a2 (0 : UInt64) (by omega) (by omega))) (.cons (clock_Resume_m t71 (a2.getD t121.toNat 0)) (.cons (by first | rfl | (simp only [T.ids, idsL, er_ids, List.append_nil, List.nil_append]; rfl) : subN (idsL [t64 t71, t64 (a2.getD t121.toNat 0)]) [] = true) .nil)))) ?_
                clear hk; intro k hk
                refine Go.slotEq 13 (t64 (bif (t121 % 3) == 2 then (clock_Resume t71 (a2.getD t121.toNat 0)) else x2)) rfl (congrArg (fun z => (t64 z : T)) (condT c3).symm) ?_
                exact Go.joinJ 20 hk Jc3 rfl
              · clear hk; intro Jc3 c3 k hk
                have c3p := eqIf c3
                refine Go.keepN [0, 1, 2, 7, 8, 11, 12, 13] (L' := [(0, t64 a0), (1, t64 a1), (2, .sl 1 g_a2 a2.length (u64s a2)), (7, t64 t71), (8, t64 x1.1), (11, tb t111), (12, ti t121), (13, t64 x2)]) rfl ?_
                refine Go.slotEq 13 (t64 (bif (t121 % 3) == 2 then (clock_Resume t71 (a2.getD t121.toNat 0)) else x2)) rfl (congrArg (fun z => (t64 z : T)) (condF c3).symm) ?_
                exact Go.joinJ 20 hk Jc3 rfl
            · refine Go.keepN [] (L' := []) rfl ?_
              exact Go.join 20 hk hxl1 rfl (Xl1 trivial)
          · intro hk J
            rcases Bool.eq_false_or_eq_true (decide (t121 < (a2.length : Int))) with g3 | g3
            · have g3p := of_decide_eq_true g3
              refine Go.rx 20 { ws := [(3, { v := some (tb true) })] } [] [0, 1, 2, 7, 8, 11, 12, 43] _ [(0, t64 a0), (1, t64 a1), (2, .sl 1 g_a2 a2.length (u64s a2)), (7, t64 t71), (8, t64 x1.1), (11, tb t111), (12, ti t121), (43, tb (decide (t121 < 60)))] [] hk rfl (by as_aux_lemma => kernel_rfl) (.cons trivial (.cons (eb g3) (.cons trivial .nil))) ?_
              intro k' hk'
              refine Go.slotEq 43 (tb ((decide (t121 < (a2.length : Int))) && (decide (t121 < 60)))) rfl (eb (andT g3 rfl).symm) ?_
              exact J k' hk'
            · have g3p := of_decide_eq_false g3
              refine Go.rx 20 { ws := [(3, { v := some (tb false) })] } [] [0, 1, 2, 7, 8, 11, 12, 43] _ [(0, t64 a0), (1, t64 a1), (2, .sl 1 g_a2 a2.length (u64s a2)), (7, t64 t71), (8, t64 x1.1), (11, tb t111), (12, ti t121), (43, tb false)] [] hk rfl (by as_aux_lemma => kernel_rfl) (.cons trivial (.cons (eb g3) .nil)) ?_
              intro k' hk'
              refine Go.slotEq 43 (tb ((decide (t121 < (a2.length : Int))) && (decide (t121 < 60)))) rfl (eb (andF g3).symm) ?_
              exact J k' hk'
      exact Ll1 _ a0 false 0 (by omega) (Nat.lt_succ_self _)
  · intro hk J
    rcases Bool.eq_false_or_eq_true (!(decide (x1.2 = 0))) with g1 | g1
    · have g1' : (decide (x1.2 = 0)) = false := by simpa using g1
      have g1'p := of_decide_eq_false g1'
      refine Go.rx 20 { ws := [(1, { v := some (tb true), er := some (83, x1.2) })] } [] [0, 1, 2, 7, 9, 10, 26] _ [(0, t64 a0), (1, t64 a1), (2, .sl 1 g_a2 a2.length (u64s a2)), (7, t64 a0), (9, t64 x1.1), (10, er 83 x1.2), (26, tb true)] [] hk rfl (by as_aux_lemma => kernel_rfl) (.cons (⟨rfl, rfl⟩ : (er 83 x1.2) = er 83 x1.2 ∧ (.leaf .nilIface : T) = .leaf .nilIface) (.cons (eb g1) .nil)) ?_
      intro k' hk'
      refine Go.slotEq 26 (tb ((!(decide (x1.2 = 0))) || (a1 == 0))) rfl (eb (orT g1).symm) ?_
      exact J k' hk'
    · have g1' : (decide (x1.2 = 0)) = true := by simpa using g1
      have g1'p := of_decide_eq_true g1'
      refine Go.rx 20 { ws := [(1, { v := some (tb false), er := some (83, x1.2) }), (4, { v := some (tb (a1 == 0)) })] } [] [0, 1, 2, 7, 9, 10, 26] _ [(0, t64 a0), (1, t64 a1), (2, .sl 1 g_a2 a2.length (u64s a2)), (7, t64 a0), (9, t64 x1.1), (10, er 83 x1.2), (26, tb (a1 == 0))] [] hk rfl (by as_aux_lemma => kernel_rfl) (.cons (⟨rfl, rfl⟩ : (er 83 x1.2) = er 83 x1.2 ∧ (.leaf .nilIface : T) = .leaf .nilIface) (.cons (eb g1) (.cons trivial (.cons (eqB64 a1 0) .nil)))) ?_
      intro k' hk'
      refine Go.slotEq 26 (tb ((!(decide (x1.2 = 0))) || (a1 == 0))) rfl (eb (orF g1 rfl).symm) ?_
      exact J k' hk'
end Go.Proofs.YtmedboagdnpkbaaDoor

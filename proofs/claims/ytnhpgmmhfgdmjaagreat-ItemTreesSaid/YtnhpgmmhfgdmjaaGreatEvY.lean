/- Functions that write: to weaken what is known behind them. -/
import Derived.Test.YtnhpgmmhfgdmjaaGreatEvP
set_option linter.unusedVariables false
set_option linter.unusedSimpArgs false
namespace Go.Ev
open Go.RowKit
theorem FnE.mono {P : Program} {f : FuncId} {args : List PV} {s : Store} {R R' : List PV → Store → Prop} (h : FnE P f args s R) (hr : ∀ rs s', R rs s' → R' rs s') : FnE P f args s R' := by
  refine ⟨h.1, fun S α w vals h1 h2 => (h.2 S α w vals h1 h2).mono ?_⟩
  rintro e w' ⟨rs, s', S', α', v, hR, rest⟩
  exact ⟨rs, s', S', α', v, hr _ _ hR, rest⟩
/-- What is kept of a store. -/
def LeR (n : Nat) (rs : List PV) (s0 s' : Store) : Prop := leS s0 s' ∧ (decide (n ≤ s0.length) && ltL s0.length rs && ltS s0.length s0) = true
theorem FnE.le {P : Program} {f : FuncId} {args : List PV} {s : Store} {R : List PV → Store → Prop} (h : FnE P f args s fun rs s' => ∃ s0, LeR s.length rs s0 s' ∧ R rs s0) : FnE P f args s R := by
  refine ⟨h.1, fun S α w vals h1 h2 => (h.2 S α w vals h1 h2).mono ?_⟩
  rintro e w' ⟨rs, s', S', α', v, ⟨s0, ⟨hle, hb⟩, hR⟩, rfl, hv, hr, hm, hlen, hpin⟩
  simp only [Bool.and_eq_true, decide_eq_true_eq] at hb
  obtain ⟨⟨h3, h4⟩, h5⟩ := hb
  have hlive : ∀ i, live (lk s0) i → live (lk s') i := fun i hi => by
    by_cases hl : i < s0.length
    · rw [live, leS_nth hle i hl] at hi; exact hi
    · simp [live, lk, nth_eq, List.getElem?_eq_none (Nat.le_of_not_lt hl), Blk.alive] at hi
  have hL : ∀ i, i < s0.length → live (lk s') i → live (lk s0) i := fun i hl hi => by rw [live, leS_nth hle i hl]; exact hi
  have hres : (resP rs).rep S' (live (lk s0)) α' w' v := by
    match rs, h4, hv with
    | [p], h4, hv =>
      simp only [ltL, Bool.and_true] at h4
      exact PV.rep_lt hL p v h4 hv
    | [], h4, hv =>
      simp only [resP, PV.rep] at hv ⊢
      obtain ⟨vs, rfl, hv2⟩ := hv
      exact ⟨vs, rfl, prepL_lt hL [] vs h4 hv2⟩
    | p :: q :: l, h4, hv =>
      simp only [resP, PV.rep] at hv ⊢
      obtain ⟨vs, rfl, hv2⟩ := hv
      exact ⟨vs, rfl, prepL_lt hL _ vs h4 hv2⟩
  refine ⟨rs, s0, S', α', v, hR, rfl, hres, ⟨fun i => ?_, fun i j hi hj => hr.inj i j ⟨hlive i hi.1, hi.2⟩ ⟨hlive j hj.1, hj.2⟩, fun i hi => hr.out i ⟨hlive i hi.1, hi.2⟩, hr.slt⟩, hm.trans ?_, h3, fun i hi ha => ?_⟩
  · by_cases hl : i < s0.length
    · have hb := hr.sto i
      rw [← leS_nth hle i hl] at hb
      have hlt := ltS_lk h5 i
      cases hB : lk s0 i with
      | dead => trivial
      | box cs =>
        rw [hB] at hb hlt
        obtain ⟨k0, us, t, fr, k1, k2, k3, k4⟩ := hb
        exact ⟨k0, us, t, fr, k1, k2, k3, prepL_lt hL cs us hlt k4⟩
      | arr e sz n f =>
        rw [hB] at hb
        exact hb
    · simp only [lk, nth_eq, List.getElem?_eq_none (Nat.le_of_not_lt hl)]
      trivial
  · exact ⟨rfl, rfl, rfl, Nat.le_refl _, fun _ _ _ => rfl, fun i hi => .inl ⟨i, ⟨hlive i hi.1, hi.2⟩, rfl⟩, fun _ h => h, fun _ h => .inl h⟩
  · obtain ⟨q1, q2⟩ := hpin i hi ha
    exact ⟨q1, by rw [leS_nth hle i (by omega)]; exact q2⟩
/-- What a contract over memory says, as one over a store that is left as it is. -/
theorem fnE_calls {P : Program} {f : FuncId} {args : List PV} {s : Store} {R : List PV → Store → Prop} (hc : callable P f)
    (h : ∀ S α w vals, RelS S α (lk s) w → prepL S (live (lk s)) α w args vals → Calls P f vals.toArray w fun e w' => Below w.heap.size w w' ∧ ∃ rs v S', R rs s ∧ e = .returned v ∧
      (∀ b, S b → S' b) ∧ (∀ b, S' b → S b ∨ (w.heap.size ≤ b ∧ b < w'.heap.size)) ∧ (resP rs).rep S' (live (lk s)) α w' v) : FnE P f args s R := by
  refine ⟨hc, fun S α w vals h1 h2 => (h S α w vals h1 h2).mono ?_⟩
  rintro e w' ⟨hb, rs, v, S', hR, rfl, k1, k2, hv⟩
  refine ⟨rs, s, S', α, v, hR, rfl, hv, h1.below hb k1 (fun b hb' => (k2 b hb').imp id And.left) (fun b hb' => ?_), Moved.below hb k1 (fun b hb' => (k2 b hb').imp id And.left), Nat.le_refl _, fun i hi ha => ⟨rfl, ha⟩⟩
  rcases k2 b hb' with hb' | hb'
  · exact Nat.lt_of_lt_of_le (h1.slt b hb') hb.size
  · exact hb'.2
/-- A contract's result, said more weakly. -/
theorem FnD.weak {P : Program} {f : FuncId} {args : List PV} {rs rs' : List DV} (h : FnD P f args rs) (hw : ∀ S α w v, (resP (rs.map .d)).rep S (live sto0) α w v → (resP (rs'.map .d)).rep S (live sto0) α w v) : FnD P f args rs' := by
  refine ⟨h.1, fun S α w vals h1 h2 => (h.2 S α w vals h1 h2).mono ?_⟩
  rintro e w' ⟨r, σ', S', α', ⟨rfl, rfl⟩, ⟨v, rfl, hv⟩, h3⟩
  exact ⟨.ret (rs'.map .d), sto0, S', α', ⟨rfl, rfl⟩, ⟨v, rfl, hw _ _ _ _ hv⟩, h3⟩
/-- A contract at arguments that say more. -/
theorem FnD.args {P : Program} {f : FuncId} {as as' : List PV} {rs : List DV} (h : FnD P f as rs) (hw : ∀ S α w vs, prepL S (live sto0) α w as' vs → prepL S (live sto0) α w as vs) : FnD P f as' rs :=
  ⟨h.1, fun S α w vals h1 h2 => h.2 S α w vals h1 (hw _ _ _ _ h2)⟩
theorem rep_list_congr {S : Nat → Prop} {w : World} {sz n : Nat} {f g : Nat → DV} {v : Value} (h : ∀ i, i < n → f i = g i) (hv : (DV.list sz n f).rep S w v) : (DV.list sz n g).rep S w v := by
  simp only [DV.rep] at hv ⊢
  obtain ⟨a, cap, rfl, h1, h2, h3⟩ := hv
  refine ⟨a, cap, rfl, h1, h2, fun h0 => ?_⟩
  obtain ⟨b, off, e1, e2, e3⟩ := h3 h0
  refine ⟨b, off, e1, e2, fun i hi => ?_⟩
  rw [← h i hi]
  exact e3 i hi
theorem rep_nil_list {S : Nat → Prop} {w : World} {sz : Nat} {g : Nat → DV} {v : Value} (hv : (DV.nil).rep S w v) : (DV.list sz 0 g).rep S w v := by
  simp only [DV.rep] at hv ⊢
  exact ⟨none, 0, hv, Nat.le_refl _, Nat.zero_le _, fun h => absurd h (Nat.lt_irrefl _)⟩
end Go.Ev

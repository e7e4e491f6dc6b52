/- Proved here: contracts of functions of this chapter: called with these values, each returns these values and changes nothing that was. Conditions: none but those that each theorem names. -/
import Derived.Test.YtnhpgmmhfgdmjaaW14za
set_option linter.unusedVariables false
set_option linter.unusedSimpArgs false
open Go Go.Proofs Go.Ev Go.Proofs.P14
namespace Go.Proofs.Ytnhpgmmhfgdmjaa.P14
set_option maxRecDepth 100000
theorem pos_ne (n : Nat) : decide (0 < (n : Int)) = !((n : Int) == 0) := by
  by_cases h : n = 0
  · subst h; rfl
  · have h1 : decide (0 < (n : Int)) = true := decide_eq_true (by omega)
    have h2 : ((n : Int) == 0) = false := by simpa using h
    rw [h1, h2]
    rfl
theorem bne_not (a b : Int) : (a != b) = !(a == b) := rfl
theorem perR_eq (t : It) : ((t.nCh : Int) == t.nOpt && riR t.nCh (sortI t.ch t.nCh) 0 ((t.nOpt : Int) - 1)) = perR t.nCh t.ch t.nOpt := by
  unfold perR
  by_cases h : t.nCh = t.nOpt
  · have h1 : ((t.nCh : Int) == t.nOpt) = true := by rw [h]; simp
    have h2 : (t.nCh == t.nOpt) = true := by simpa using h
    rw [h1, h2, ← h, perm_law]
  · have h1 : ((t.nCh : Int) == t.nOpt) = false := by simpa using fun e => h (by omega)
    have h2 : (t.nCh == t.nOpt) = false := by simpa using h
    rw [h1, h2]
    rfl
theorem fit_key (t : It) (hk : inR t.kind 1 6 = true) : fitR t = keyR t := by
  have hk' := inR_of hk
  have hp := perR_eq t
  unfold fitR fit1 fit2 keyR
  simp only [pos_ne, bne_not]
  have hc : t.kind = 1 ∨ t.kind = 2 ∨ t.kind = 3 ∨ t.kind = 4 ∨ t.kind = 5 ∨ t.kind = 6 := by omega
  rcases hc with h | h | h | h | h | h <;> rw [h]
  · cases (t.nOpt : Int) == 0 <;> cases (t.nCh : Int) == 0 <;> cases (t.nTx : Int) == 0 <;> cases t.value == 0 <;> cases t.tol == 0 <;> cases t.rubric == 0 <;> rfl
  · cases (t.nOpt : Int) == 0 <;> cases (t.nCh : Int) == 0 <;> cases (t.nTx : Int) == 0 <;> cases t.value == 0 <;> cases t.tol == 0 <;> cases t.rubric == 0 <;> rfl
  · rw [← hp]
    cases (t.nOpt : Int) == 0 <;> cases (t.nCh : Int) == 0 <;> cases (t.nTx : Int) == 0 <;> cases t.value == 0 <;> cases t.tol == 0 <;> cases t.rubric == 0 <;> cases decide (2 ≤ (t.nOpt : Int)) <;> rfl
  · cases (t.nOpt : Int) == 0 <;> cases (t.nCh : Int) == 0 <;> cases (t.nTx : Int) == 0 <;> cases t.value == 0 <;> cases t.tol == 0 <;> cases t.rubric == 0 <;> rfl
  · have h0 : txR t.nTx t.tx = (txR t.nTx t.tx && !((t.nTx : Int) == 0)) := by
      unfold txR
      rw [pos_ne]
      cases (t.nTx : Int) == 0 <;> simp
    cases (t.nOpt : Int) == 0 <;> cases (t.nCh : Int) == 0 <;> cases t.value == 0 <;> cases t.tol == 0 <;> cases t.rubric == 0 <;> rfl
  · have h0 : decide (1 ≤ t.rubric) = (decide (1 ≤ t.rubric) && !(t.rubric == 0)) := by
      by_cases hr : t.rubric = 0
      · rw [hr]; rfl
      · have : (t.rubric == 0) = false := by simpa using hr
        rw [this]; simp
    cases (t.nOpt : Int) == 0 <;> cases (t.nCh : Int) == 0 <;> cases (t.nTx : Int) == 0 <;> cases t.value == 0 <;> cases t.tol == 0 <;> rfl
theorem valid_eq (t : It) : rvalidR t = validR t := by
  unfold rvalidR validR
  cases hk : inR t.kind 1 6 with
  | false => rfl
  | true =>
    rw [fit_key t hk, ← con_eq]
    have hs : (prR t.stem 2000 true && linesR t.nOpt t.opt && linesR t.nTx t.tx && conR t.content) = strR t := by
      unfold strR
      cases prR t.stem 2000 true <;> cases linesR t.nOpt t.opt <;> cases linesR t.nTx t.tx <;> rfl
    rw [hs]
theorem rvalid_eq (t : It) : FnD Try.prog 31 [.d (iD t)] [.int .i64 (validR t)] := by
  rw [← valid_eq]
  exact rvalid_ok t
theorem rsucceed_ok (s t : It) : FnD Try.prog 13 [.d (iD s), .d (iD t)] [.int .i64 (succR s t)] := by
  refine fnD_intro (H := { nt := Go.Func.ntmps Try.f13 }) Try.func13 rfl rfl rfl rfl (Nat.le_of_ble_eq_true rfl) (okC_tri (by kernel_rfl) _ _ _ _ (by kernel_rfl) ?_)
  simp only [go_sem, Nat.reduceEqDiff, ↓reduceIte, Bool.false_eq_true, Nat.reduceAdd, Nat.reduceSub, Nat.reduceBNe, Nat.reduceBEq, Nat.reduceLT, Nat.reduceLeDiff, Nat.reduceMul, Nat.zero_lt_succ, Nat.lt_add_one, Nat.zero_lt_one, Int.reduceToNat, false_implies, true_implies, or_self, or_false, false_or, or_true, true_or, Nat.add_le_add_iff_right, true_and, and_true, forall_const, implies_true, List.contains_cons, List.contains_nil, List.all_cons, List.all_nil, bne_self_eq_false, Option.isSome_none, Option.isSome_some, Bool.or_false, Bool.false_or, Bool.true_or, Bool.or_true, ne_eq, not_false_eq_true, not_true_eq_false, beq_self_eq_true, cond_true, cond_false, Prod.mk.injEq, and_self, reduceCtorEq, BEq.rfl, Bool.and_true, Bool.true_and, Bool.and_false, Bool.false_and, Try.f13]
  refine ⟨_, fun _ => rvalid_eq t, ?_, ?_⟩
  focus (first | exact fun _ => rfl | exact fun h0 => absurd h0 (by decide))
  simp only [go_sem, Nat.reduceEqDiff, ↓reduceIte, Bool.false_eq_true, Nat.reduceAdd, Nat.reduceSub, Nat.reduceBNe, Nat.reduceBEq, Nat.reduceLT, Nat.reduceLeDiff, Nat.reduceMul, Nat.zero_lt_succ, Nat.lt_add_one, Nat.zero_lt_one, Int.reduceToNat, false_implies, true_implies, or_self, or_false, false_or, or_true, true_or, Nat.add_le_add_iff_right, true_and, and_true, forall_const, implies_true, List.contains_cons, List.contains_nil, List.all_cons, List.all_nil, bne_self_eq_false, Option.isSome_none, Option.isSome_some, Bool.or_false, Bool.false_or, Bool.true_or, Bool.or_true, ne_eq, not_false_eq_true, not_true_eq_false, beq_self_eq_true, cond_true, cond_false, Prod.mk.injEq, and_self, reduceCtorEq, BEq.rfl, Bool.and_true, Bool.true_and, Bool.and_false, Bool.false_and]
  refine ⟨fun h => by simp only [succR, h, cond_true], fun h0 => ?_⟩
  have hv : validR t = 0 := by simpa using h0
  have := valid_version hv
  refine ⟨fun h => by simp only [succR, h0, h, cond_true, cond_false], fun h1 => ⟨by constructor <;> omega, fun h => by simp only [succR, h0, h1, h, cond_true, cond_false], fun h2 => by simp only [succR, h0, h1, h2, cond_true, cond_false]⟩⟩
theorem rdiffL_ok (s t : It) : FnD Try.prog 9 [.d (iD s), .d (iD t)] [.list 1 (diffR s t).length fun i => .str (nm (diffR s t) i)] := rdiff_ok s t
theorem versions_ok (s t : It) (hs : s.nCh * 8 ≤ 140737488351232) (ht : t.nCh * 8 ≤ 140737488351232) : FnD Try.prog 3 [.d (iD s), .d (iD t)] [.bool true] := by
  refine fnD_intro (H := { nt := Go.Func.ntmps Try.f3 }) Try.func3 rfl rfl rfl rfl (Nat.le_of_ble_eq_true rfl) (okC_tri (by kernel_rfl) _ _ _ _ (by kernel_rfl) ?_)
  simp only [go_sem, Nat.reduceEqDiff, ↓reduceIte, Bool.false_eq_true, Nat.reduceAdd, Nat.reduceSub, Nat.reduceBNe, Nat.reduceBEq, Nat.reduceLT, Nat.reduceLeDiff, Nat.reduceMul, Nat.zero_lt_succ, Nat.lt_add_one, Nat.zero_lt_one, Int.reduceToNat, false_implies, true_implies, or_self, or_false, false_or, or_true, true_or, Nat.add_le_add_iff_right, true_and, and_true, forall_const, implies_true, List.contains_cons, List.contains_nil, List.all_cons, List.all_nil, bne_self_eq_false, Option.isSome_none, Option.isSome_some, Bool.or_false, Bool.false_or, Bool.true_or, Bool.or_true, ne_eq, not_false_eq_true, not_true_eq_false, beq_self_eq_true, cond_true, cond_false, Prod.mk.injEq, and_self, reduceCtorEq, BEq.rfl, Bool.and_true, Bool.true_and, Bool.and_false, Bool.false_and, Try.f3, List.append_eq]
  refine ⟨_, fun _ => diffL_ok s t, ?_, ?_⟩
  focus (first | exact fun _ => rfl | exact fun h0 => absurd h0 (by decide))
  simp only [go_sem, Nat.reduceEqDiff, ↓reduceIte, Bool.false_eq_true, Nat.reduceAdd, Nat.reduceSub, Nat.reduceBNe, Nat.reduceBEq, Nat.reduceLT, Nat.reduceLeDiff, Nat.reduceMul, Nat.zero_lt_succ, Nat.lt_add_one, Nat.zero_lt_one, Int.reduceToNat, false_implies, true_implies, or_self, or_false, false_or, or_true, true_or, Nat.add_le_add_iff_right, true_and, and_true, forall_const, implies_true, List.contains_cons, List.contains_nil, List.all_cons, List.all_nil, bne_self_eq_false, Option.isSome_none, Option.isSome_some, Bool.or_false, Bool.false_or, Bool.true_or, Bool.or_true, ne_eq, not_false_eq_true, not_true_eq_false, beq_self_eq_true, cond_true, cond_false, Prod.mk.injEq, and_self, reduceCtorEq, BEq.rfl, Bool.and_true, Bool.true_and, Bool.and_false, Bool.false_and]
  refine ⟨_, fun _ => rdiffL_ok s t, ?_, ?_⟩
  focus (first | exact fun _ => rfl | exact fun h0 => absurd h0 (by decide))
  simp only [go_sem, Nat.reduceEqDiff, ↓reduceIte, Bool.false_eq_true, Nat.reduceAdd, Nat.reduceSub, Nat.reduceBNe, Nat.reduceBEq, Nat.reduceLT, Nat.reduceLeDiff, Nat.reduceMul, Nat.zero_lt_succ, Nat.lt_add_one, Nat.zero_lt_one, Int.reduceToNat, false_implies, true_implies, or_self, or_false, false_or, or_true, true_or, Nat.add_le_add_iff_right, true_and, and_true, forall_const, implies_true, List.contains_cons, List.contains_nil, List.all_cons, List.all_nil, bne_self_eq_false, Option.isSome_none, Option.isSome_some, Bool.or_false, Bool.false_or, Bool.true_or, Bool.or_true, ne_eq, not_false_eq_true, not_true_eq_false, beq_self_eq_true, cond_true, cond_false, Prod.mk.injEq, and_self, reduceCtorEq, BEq.rfl, Bool.and_true, Bool.true_and, Bool.and_false, Bool.false_and]
  refine ⟨_, fun _ => names_ok (diffR s t).length (nm (diffR s t)) (diffR s t).length (nm (diffR s t)), ?_, ?_⟩
  focus (first | exact fun _ => rfl | exact fun h0 => absurd h0 (by decide))
  simp only [go_sem, Nat.reduceEqDiff, ↓reduceIte, Bool.false_eq_true, Nat.reduceAdd, Nat.reduceSub, Nat.reduceBNe, Nat.reduceBEq, Nat.reduceLT, Nat.reduceLeDiff, Nat.reduceMul, Nat.zero_lt_succ, Nat.lt_add_one, Nat.zero_lt_one, Int.reduceToNat, false_implies, true_implies, or_self, or_false, false_or, or_true, true_or, Nat.add_le_add_iff_right, true_and, and_true, forall_const, implies_true, List.contains_cons, List.contains_nil, List.all_cons, List.all_nil, bne_self_eq_false, Option.isSome_none, Option.isSome_some, Bool.or_false, Bool.false_or, Bool.true_or, Bool.or_true, ne_eq, not_false_eq_true, not_true_eq_false, beq_self_eq_true, cond_true, cond_false, Prod.mk.injEq, and_self, reduceCtorEq, BEq.rfl, Bool.and_true, Bool.true_and, Bool.and_false, Bool.false_and]
  rw [sameS_refl]
  refine ⟨_, fun _ => major_ok s t, ?_, ?_⟩
  focus (first | exact fun _ => rfl | exact fun h0 => absurd h0 (by decide))
  simp only [go_sem, Nat.reduceEqDiff, ↓reduceIte, Bool.false_eq_true, Nat.reduceAdd, Nat.reduceSub, Nat.reduceBNe, Nat.reduceBEq, Nat.reduceLT, Nat.reduceLeDiff, Nat.reduceMul, Nat.zero_lt_succ, Nat.lt_add_one, Nat.zero_lt_one, Int.reduceToNat, false_implies, true_implies, or_self, or_false, false_or, or_true, true_or, Nat.add_le_add_iff_right, true_and, and_true, forall_const, implies_true, List.contains_cons, List.contains_nil, List.all_cons, List.all_nil, bne_self_eq_false, Option.isSome_none, Option.isSome_some, Bool.or_false, Bool.false_or, Bool.true_or, Bool.or_true, ne_eq, not_false_eq_true, not_true_eq_false, beq_self_eq_true, cond_true, cond_false, Prod.mk.injEq, and_self, reduceCtorEq, BEq.rfl, Bool.and_true, Bool.true_and, Bool.and_false, Bool.false_and]
  refine ⟨_, fun _ => rmajor_ok s t, ?_, ?_⟩
  focus (first | exact fun _ => rfl | exact fun h0 => absurd h0 (by decide))
  simp only [go_sem, Nat.reduceEqDiff, ↓reduceIte, Bool.false_eq_true, Nat.reduceAdd, Nat.reduceSub, Nat.reduceBNe, Nat.reduceBEq, Nat.reduceLT, Nat.reduceLeDiff, Nat.reduceMul, Nat.zero_lt_succ, Nat.lt_add_one, Nat.zero_lt_one, Int.reduceToNat, false_implies, true_implies, or_self, or_false, false_or, or_true, true_or, Nat.add_le_add_iff_right, true_and, and_true, forall_const, implies_true, List.contains_cons, List.contains_nil, List.all_cons, List.all_nil, bne_self_eq_false, Option.isSome_none, Option.isSome_some, Bool.or_false, Bool.false_or, Bool.true_or, Bool.or_true, ne_eq, not_false_eq_true, not_true_eq_false, beq_self_eq_true, cond_true, cond_false, Prod.mk.injEq, and_self, reduceCtorEq, BEq.rfl, Bool.and_true, Bool.true_and, Bool.and_false, Bool.false_and]
  refine ⟨_, fun _ => succeed_ok s t ht, ?_, ?_⟩
  focus (first | exact fun _ => rfl | exact fun h0 => absurd h0 (by decide))
  simp only [go_sem, Nat.reduceEqDiff, ↓reduceIte, Bool.false_eq_true, Nat.reduceAdd, Nat.reduceSub, Nat.reduceBNe, Nat.reduceBEq, Nat.reduceLT, Nat.reduceLeDiff, Nat.reduceMul, Nat.zero_lt_succ, Nat.lt_add_one, Nat.zero_lt_one, Int.reduceToNat, false_implies, true_implies, or_self, or_false, false_or, or_true, true_or, Nat.add_le_add_iff_right, true_and, and_true, forall_const, implies_true, List.contains_cons, List.contains_nil, List.all_cons, List.all_nil, bne_self_eq_false, Option.isSome_none, Option.isSome_some, Bool.or_false, Bool.false_or, Bool.true_or, Bool.or_true, ne_eq, not_false_eq_true, not_true_eq_false, beq_self_eq_true, cond_true, cond_false, Prod.mk.injEq, and_self, reduceCtorEq, BEq.rfl, Bool.and_true, Bool.true_and, Bool.and_false, Bool.false_and]
  refine ⟨_, fun _ => rsucceed_ok s t, ?_, ?_⟩
  focus (first | exact fun _ => rfl | exact fun h0 => absurd h0 (by decide))
  simp only [go_sem, Nat.reduceEqDiff, ↓reduceIte, Bool.false_eq_true, Nat.reduceAdd, Nat.reduceSub, Nat.reduceBNe, Nat.reduceBEq, Nat.reduceLT, Nat.reduceLeDiff, Nat.reduceMul, Nat.zero_lt_succ, Nat.lt_add_one, Nat.zero_lt_one, Int.reduceToNat, false_implies, true_implies, or_self, or_false, false_or, or_true, true_or, Nat.add_le_add_iff_right, true_and, and_true, forall_const, implies_true, List.contains_cons, List.contains_nil, List.all_cons, List.all_nil, bne_self_eq_false, Option.isSome_none, Option.isSome_some, Bool.or_false, Bool.false_or, Bool.true_or, Bool.or_true, ne_eq, not_false_eq_true, not_true_eq_false, beq_self_eq_true, cond_true, cond_false, Prod.mk.injEq, and_self, reduceCtorEq, BEq.rfl, Bool.and_true, Bool.true_and, Bool.and_false, Bool.false_and]
  refine ⟨_, fun _ => awake_ok, ?_, ?_⟩
  focus (first | exact fun _ => rfl | exact fun h0 => absurd h0 (by decide))
  simp only [go_sem, Nat.reduceEqDiff, ↓reduceIte, Bool.false_eq_true, Nat.reduceAdd, Nat.reduceSub, Nat.reduceBNe, Nat.reduceBEq, Nat.reduceLT, Nat.reduceLeDiff, Nat.reduceMul, Nat.zero_lt_succ, Nat.lt_add_one, Nat.zero_lt_one, Int.reduceToNat, false_implies, true_implies, or_self, or_false, false_or, or_true, true_or, Nat.add_le_add_iff_right, true_and, and_true, forall_const, implies_true, List.contains_cons, List.contains_nil, List.all_cons, List.all_nil, bne_self_eq_false, Option.isSome_none, Option.isSome_some, Bool.or_false, Bool.false_or, Bool.true_or, Bool.or_true, ne_eq, not_false_eq_true, not_true_eq_false, beq_self_eq_true, cond_true, cond_false, Prod.mk.injEq, and_self, reduceCtorEq, BEq.rfl, Bool.and_true, Bool.true_and, Bool.and_false, Bool.false_and]
end Go.Proofs.Ytnhpgmmhfgdmjaa.P14

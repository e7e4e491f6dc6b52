/- Proved here: contracts of functions of this chapter: called with these values, each returns these values and changes nothing that was. Conditions: none but those that each theorem names. -/
import Derived.Test.YtnhpgmmhfgdmjaaGreatW14u
set_option linter.unusedVariables false
set_option linter.unusedSimpArgs false
open Go Go.Proofs Go.Ev
namespace Go.Proofs.YtnhpgmmhfgdmjaaGreat.P14
set_option maxRecDepth 100000
/-- The reference's key of an item. -/
def keyR (t : It) : Bool :=
  let options := ((t.nOpt : Int) == 0) && ((t.nCh : Int) == 0)
  let number := (t.value == 0) && (t.tol == 0)
  let words := (t.nTx : Int) == 0
  let essay := t.rubric == 0
  bif t.kind == 1 then number && words && essay && decide (2 ≤ (t.nOpt : Int)) && ((t.nCh : Int) == 1) && riR t.nCh t.ch 0 ((t.nOpt : Int) - 1)
  else bif t.kind == 2 then number && words && essay && decide (2 ≤ (t.nOpt : Int)) && decide (1 ≤ (t.nCh : Int)) && riR t.nCh t.ch 0 ((t.nOpt : Int) - 1)
  else bif t.kind == 3 then number && words && essay && decide (2 ≤ (t.nOpt : Int)) && perR t.nCh t.ch t.nOpt
  else bif t.kind == 4 then options && words && essay && inR t.value (-9999999) 9999999 && inR t.tol 0 9999999
  else bif t.kind == 5 then options && number && essay && txR t.nTx t.tx
  else options && number && words && decide (1 ≤ t.rubric)
theorem key_ok (t : It) : FnD Tryz.prog 53 [.d (iD t)] [.bool (keyR t)] := by
  refine fnD_intro (H := { nt := Go.Func.ntmps Tryz.f53 }) Tryz.func53 rfl rfl rfl rfl (Nat.le_of_ble_eq_true rfl) (okC_tri (by kernel_rfl) _ _ _ _ (by kernel_rfl) ?_)
  simp only [go_sem, Nat.reduceEqDiff, ↓reduceIte, Bool.false_eq_true, Nat.reduceAdd, Nat.reduceSub, Nat.reduceBNe, Nat.reduceBEq, Nat.reduceLT, Nat.reduceLeDiff, Nat.reduceMul, Nat.zero_lt_succ, Nat.lt_add_one, Nat.zero_lt_one, Int.reduceToNat, false_implies, true_implies, or_self, or_false, false_or, or_true, true_or, Nat.add_le_add_iff_right, true_and, and_true, forall_const, implies_true, List.contains_cons, List.contains_nil, List.all_cons, List.all_nil, bne_self_eq_false, Option.isSome_none, Option.isSome_some, Bool.or_false, Bool.false_or, Bool.true_or, Bool.or_true, ne_eq, not_false_eq_true, not_true_eq_false, beq_self_eq_true, cond_true, cond_false, Prod.mk.injEq, and_self, reduceCtorEq, BEq.rfl, Bool.and_true, Bool.true_and, Bool.and_false, Bool.false_and, Tryz.f53, List.append_eq]
  intro hf1 _ _
  unfold fits at hf1
  refine ⟨fun k1 => ?_, fun k1 => ⟨fun k2 => ?_, fun k2 => ⟨fun k3 => ?_, fun k3 => ⟨fun k4 => ?_, fun k4 => ⟨fun k5 => ?_, fun k5 => ?_⟩⟩⟩⟩⟩
  · refine ⟨fun _ => by constructor <;> omega, ?_⟩
    refine ⟨_, fun _ => rrising_ok t.nCh t.ch 0 ((t.nOpt : Int) - 1), ?_, ?_⟩
    focus (first | exact fun _ => rfl | exact fun h0 => absurd h0 (by decide))
    simp only [go_sem, Nat.reduceEqDiff, ↓reduceIte, Bool.false_eq_true, Nat.reduceAdd, Nat.reduceSub, Nat.reduceBNe, Nat.reduceBEq, Nat.reduceLT, Nat.reduceLeDiff, Nat.reduceMul, Nat.zero_lt_succ, Nat.lt_add_one, Nat.zero_lt_one, Int.reduceToNat, false_implies, true_implies, or_self, or_false, false_or, or_true, true_or, Nat.add_le_add_iff_right, true_and, and_true, forall_const, implies_true, List.contains_cons, List.contains_nil, List.all_cons, List.all_nil, bne_self_eq_false, Option.isSome_none, Option.isSome_some, Bool.or_false, Bool.false_or, Bool.true_or, Bool.or_true, ne_eq, not_false_eq_true, not_true_eq_false, beq_self_eq_true, cond_true, cond_false, Prod.mk.injEq, and_self, reduceCtorEq, BEq.rfl, Bool.and_true, Bool.true_and, Bool.and_false, Bool.false_and]
    simp only [keyR, k1, cond_true]
    cases t.value == 0 <;> cases t.tol == 0 <;> cases (t.nTx : Int) == 0 <;> cases t.rubric == 0 <;> cases decide (2 ≤ (t.nOpt : Int)) <;> cases (t.nCh : Int) == 1 <;> rfl
  · refine ⟨fun _ => by constructor <;> omega, ?_⟩
    refine ⟨_, fun _ => rrising_ok t.nCh t.ch 0 ((t.nOpt : Int) - 1), ?_, ?_⟩
    focus (first | exact fun _ => rfl | exact fun h0 => absurd h0 (by decide))
    simp only [go_sem, Nat.reduceEqDiff, ↓reduceIte, Bool.false_eq_true, Nat.reduceAdd, Nat.reduceSub, Nat.reduceBNe, Nat.reduceBEq, Nat.reduceLT, Nat.reduceLeDiff, Nat.reduceMul, Nat.zero_lt_succ, Nat.lt_add_one, Nat.zero_lt_one, Int.reduceToNat, false_implies, true_implies, or_self, or_false, false_or, or_true, true_or, Nat.add_le_add_iff_right, true_and, and_true, forall_const, implies_true, List.contains_cons, List.contains_nil, List.all_cons, List.all_nil, bne_self_eq_false, Option.isSome_none, Option.isSome_some, Bool.or_false, Bool.false_or, Bool.true_or, Bool.or_true, ne_eq, not_false_eq_true, not_true_eq_false, beq_self_eq_true, cond_true, cond_false, Prod.mk.injEq, and_self, reduceCtorEq, BEq.rfl, Bool.and_true, Bool.true_and, Bool.and_false, Bool.false_and]
    simp only [keyR, k1, k2, cond_true, cond_false]
    cases t.value == 0 <;> cases t.tol == 0 <;> cases (t.nTx : Int) == 0 <;> cases t.rubric == 0 <;> cases decide (2 ≤ (t.nOpt : Int)) <;> cases decide (1 ≤ (t.nCh : Int)) <;> rfl
  · refine ⟨_, fun _ => permutation_ok t.nCh t.ch t.nOpt, ?_, ?_⟩
    focus (first | exact fun _ => rfl | exact fun h0 => absurd h0 (by decide))
    simp only [go_sem, Nat.reduceEqDiff, ↓reduceIte, Bool.false_eq_true, Nat.reduceAdd, Nat.reduceSub, Nat.reduceBNe, Nat.reduceBEq, Nat.reduceLT, Nat.reduceLeDiff, Nat.reduceMul, Nat.zero_lt_succ, Nat.lt_add_one, Nat.zero_lt_one, Int.reduceToNat, false_implies, true_implies, or_self, or_false, false_or, or_true, true_or, Nat.add_le_add_iff_right, true_and, and_true, forall_const, implies_true, List.contains_cons, List.contains_nil, List.all_cons, List.all_nil, bne_self_eq_false, Option.isSome_none, Option.isSome_some, Bool.or_false, Bool.false_or, Bool.true_or, Bool.or_true, ne_eq, not_false_eq_true, not_true_eq_false, beq_self_eq_true, cond_true, cond_false, Prod.mk.injEq, and_self, reduceCtorEq, BEq.rfl, Bool.and_true, Bool.true_and, Bool.and_false, Bool.false_and]
    simp only [keyR, k1, k2, k3, cond_true, cond_false]
    cases t.value == 0 <;> cases t.tol == 0 <;> cases (t.nTx : Int) == 0 <;> cases t.rubric == 0 <;> cases decide (2 ≤ (t.nOpt : Int)) <;> rfl
  · refine ⟨_, fun _ => rwithin_ok t.value (-9999999) 9999999, ?_, ?_⟩
    focus (first | exact fun _ => rfl | exact fun h0 => absurd h0 (by decide))
    simp only [go_sem, Nat.reduceEqDiff, ↓reduceIte, Bool.false_eq_true, Nat.reduceAdd, Nat.reduceSub, Nat.reduceBNe, Nat.reduceBEq, Nat.reduceLT, Nat.reduceLeDiff, Nat.reduceMul, Nat.zero_lt_succ, Nat.lt_add_one, Nat.zero_lt_one, Int.reduceToNat, false_implies, true_implies, or_self, or_false, false_or, or_true, true_or, Nat.add_le_add_iff_right, true_and, and_true, forall_const, implies_true, List.contains_cons, List.contains_nil, List.all_cons, List.all_nil, bne_self_eq_false, Option.isSome_none, Option.isSome_some, Bool.or_false, Bool.false_or, Bool.true_or, Bool.or_true, ne_eq, not_false_eq_true, not_true_eq_false, beq_self_eq_true, cond_true, cond_false, Prod.mk.injEq, and_self, reduceCtorEq, BEq.rfl, Bool.and_true, Bool.true_and, Bool.and_false, Bool.false_and]
    refine ⟨_, fun _ => rwithin_ok t.tol 0 9999999, ?_, ?_⟩
    focus (first | exact fun _ => rfl | exact fun h0 => absurd h0 (by decide))
    simp only [go_sem, Nat.reduceEqDiff, ↓reduceIte, Bool.false_eq_true, Nat.reduceAdd, Nat.reduceSub, Nat.reduceBNe, Nat.reduceBEq, Nat.reduceLT, Nat.reduceLeDiff, Nat.reduceMul, Nat.zero_lt_succ, Nat.lt_add_one, Nat.zero_lt_one, Int.reduceToNat, false_implies, true_implies, or_self, or_false, false_or, or_true, true_or, Nat.add_le_add_iff_right, true_and, and_true, forall_const, implies_true, List.contains_cons, List.contains_nil, List.all_cons, List.all_nil, bne_self_eq_false, Option.isSome_none, Option.isSome_some, Bool.or_false, Bool.false_or, Bool.true_or, Bool.or_true, ne_eq, not_false_eq_true, not_true_eq_false, beq_self_eq_true, cond_true, cond_false, Prod.mk.injEq, and_self, reduceCtorEq, BEq.rfl, Bool.and_true, Bool.true_and, Bool.and_false, Bool.false_and]
    simp only [keyR, k1, k2, k3, k4, cond_true, cond_false]
    cases (t.nOpt : Int) == 0 <;> cases (t.nCh : Int) == 0 <;> cases (t.nTx : Int) == 0 <;> cases t.rubric == 0 <;> cases inR t.value (-9999999) 9999999 <;> rfl
  · intro hn
    unfold fits at hn
    refine ⟨{ i : Nat // i ≤ t.nTx ∧ ∀ j, j < i → txB t.tx j = true }, fun i => ([(135, .d (.int .i64 i)), (134, .d (.int .i64 t.nTx)), (133, .d (.list 1 t.nTx fun i => .str (t.tx i))), (6, .d (.bool (t.rubric == 0))), (4, .d (.bool (bif t.value == 0 then t.tol == 0 else false))), (3, .d (.bool (bif (t.nOpt : Int) == 0 then (t.nCh : Int) == 0 else false))), (2, .d (.bool false)), (1, .ptr 0 0)], [.box (PV.d (iD t)).cells]), fun i => t.nTx - i, ⟨0, Nat.zero_le _, fun j h => absurd h (by omega)⟩, ?_, ?_⟩
    · simp only [go_sem, Nat.reduceEqDiff, ↓reduceIte, Bool.false_eq_true, Nat.reduceAdd, Nat.reduceSub, Nat.reduceBNe, Nat.reduceBEq, Nat.reduceLT, Nat.reduceLeDiff, Nat.reduceMul, Nat.zero_lt_succ, Nat.lt_add_one, Nat.zero_lt_one, Int.reduceToNat, false_implies, true_implies, or_self, or_false, false_or, or_true, true_or, Nat.add_le_add_iff_right, true_and, and_true, forall_const, implies_true, List.contains_cons, List.contains_nil, List.all_cons, List.all_nil, bne_self_eq_false, Option.isSome_none, Option.isSome_some, Bool.or_false, Bool.false_or, Bool.true_or, Bool.or_true, ne_eq, not_false_eq_true, not_true_eq_false, beq_self_eq_true, cond_true, cond_false, Prod.mk.injEq, and_self, reduceCtorEq, BEq.rfl, Bool.and_true, Bool.true_and, Bool.and_false, Bool.false_and]
      rfl
    · rintro ⟨i, hi', hok⟩
      simp only [go_sem, Nat.reduceEqDiff, ↓reduceIte, Bool.false_eq_true, Nat.reduceAdd, Nat.reduceSub, Nat.reduceBNe, Nat.reduceBEq, Nat.reduceLT, Nat.reduceLeDiff, Nat.reduceMul, Nat.zero_lt_succ, Nat.lt_add_one, Nat.zero_lt_one, Int.reduceToNat, false_implies, true_implies, or_self, or_false, false_or, or_true, true_or, Nat.add_le_add_iff_right, true_and, and_true, forall_const, implies_true, List.contains_cons, List.contains_nil, List.all_cons, List.all_nil, bne_self_eq_false, Option.isSome_none, Option.isSome_some, Bool.or_false, Bool.false_or, Bool.true_or, Bool.or_true, ne_eq, not_false_eq_true, not_true_eq_false, beq_self_eq_true, cond_true, cond_false, Prod.mk.injEq, and_self, reduceCtorEq, BEq.rfl, Bool.and_true, Bool.true_and, Bool.and_false, Bool.false_and, decide_eq_true_eq]
      refine ⟨fun hlt => ⟨by omega, ?_⟩, fun hge => ?_⟩
      · refine ⟨_, fun _ => rnormalized_ok (t.tx i), ?_, ?_⟩
        focus (first | exact fun _ => rfl | exact fun h0 => absurd h0 (by decide))
        simp only [go_sem, Nat.reduceEqDiff, ↓reduceIte, Bool.false_eq_true, Nat.reduceAdd, Nat.reduceSub, Nat.reduceBNe, Nat.reduceBEq, Nat.reduceLT, Nat.reduceLeDiff, Nat.reduceMul, Nat.zero_lt_succ, Nat.lt_add_one, Nat.zero_lt_one, Int.reduceToNat, false_implies, true_implies, or_self, or_false, false_or, or_true, true_or, Nat.add_le_add_iff_right, true_and, and_true, forall_const, implies_true, List.contains_cons, List.contains_nil, List.all_cons, List.all_nil, bne_self_eq_false, Option.isSome_none, Option.isSome_some, Bool.or_false, Bool.false_or, Bool.true_or, Bool.or_true, ne_eq, not_false_eq_true, not_true_eq_false, beq_self_eq_true, cond_true, cond_false, Prod.mk.injEq, and_self, reduceCtorEq, BEq.rfl, Bool.and_true, Bool.true_and, Bool.and_false, Bool.false_and]
        have e1 : ((i : Int) - 1).toNat = i - 1 := by omega
        rw [e1]
        refine ⟨fun h => ?_, fun h => ?_, fun hbad => ?_, fun hgood => ⟨by constructor <;> omega, ⟨i + 1, by omega, fun j hj => ?_⟩, by simp only; omega, by simp⟩⟩
        · have := h.2; simp at this; omega
        · have := h.2; simp at this; omega
        · have hp : txB t.tx i = false := by simp only [txB, hbad]; rfl
          have hR : txR t.nTx t.tx = false := by simp only [txR, allN_no (show i < t.nTx by omega) hp, Bool.false_and]
          simp only [keyR, k1, k2, k3, k4, k5, cond_true, cond_false, hR, Bool.and_false]
        · by_cases h : j = i
          · subst h; simp only [txB, hgood]; rfl
          · exact hok j (by omega)
      · have : i = t.nTx := by simp at hge; omega
        subst this
        have hT : txR t.nTx t.tx = decide (1 ≤ (t.nTx : Int)) := by
          simp only [txR, allN_yes hok, Bool.true_and]
          exact decide_eq_decide.2 (by omega)
        simp only [keyR, k1, k2, k3, k4, k5, cond_true, cond_false, hT]
        cases (t.nOpt : Int) == 0 <;> cases (t.nCh : Int) == 0 <;> cases t.value == 0 <;> cases t.tol == 0 <;> cases t.rubric == 0 <;> rfl
  · simp only [keyR, k1, k2, k3, k4, k5, cond_true, cond_false]
    cases (t.nOpt : Int) == 0 <;> cases (t.nCh : Int) == 0 <;> cases (t.nTx : Int) == 0 <;> cases t.value == 0 <;> cases t.tol == 0 <;> rfl
theorem rtexts_ok (t : It) (c : Bool) (hc : FnD Tryz.prog 74 [.d (.str t.content)] [.bool c]) : FnD Tryz.prog 52 [.d (iD t)] [.bool (prR t.stem 2000 true && linesR t.nOpt t.opt && linesR t.nTx t.tx && c)] := by
  refine fnD_intro (H := { nt := Go.Func.ntmps Tryz.f52 }) Tryz.func52 rfl rfl rfl rfl (Nat.le_of_ble_eq_true rfl) (okC_tri (by kernel_rfl) _ _ _ _ (by kernel_rfl) ?_)
  simp only [go_sem, Nat.reduceEqDiff, ↓reduceIte, Bool.false_eq_true, Nat.reduceAdd, Nat.reduceSub, Nat.reduceBNe, Nat.reduceBEq, Nat.reduceLT, Nat.reduceLeDiff, Nat.reduceMul, Nat.zero_lt_succ, Nat.lt_add_one, Nat.zero_lt_one, Int.reduceToNat, false_implies, true_implies, or_self, or_false, false_or, or_true, true_or, Nat.add_le_add_iff_right, true_and, and_true, forall_const, implies_true, List.contains_cons, List.contains_nil, List.all_cons, List.all_nil, bne_self_eq_false, Option.isSome_none, Option.isSome_some, Bool.or_false, Bool.false_or, Bool.true_or, Bool.or_true, ne_eq, not_false_eq_true, not_true_eq_false, beq_self_eq_true, cond_true, cond_false, Prod.mk.injEq, and_self, reduceCtorEq, BEq.rfl, Bool.and_true, Bool.true_and, Bool.and_false, Bool.false_and, Tryz.f52]
  refine ⟨_, fun _ => rprintable_ok t.stem 2000 true, ?_, ?_⟩
  focus (first | exact fun _ => rfl | exact fun h0 => absurd h0 (by decide))
  simp only [go_sem, Nat.reduceEqDiff, ↓reduceIte, Bool.false_eq_true, Nat.reduceAdd, Nat.reduceSub, Nat.reduceBNe, Nat.reduceBEq, Nat.reduceLT, Nat.reduceLeDiff, Nat.reduceMul, Nat.zero_lt_succ, Nat.lt_add_one, Nat.zero_lt_one, Int.reduceToNat, false_implies, true_implies, or_self, or_false, false_or, or_true, true_or, Nat.add_le_add_iff_right, true_and, and_true, forall_const, implies_true, List.contains_cons, List.contains_nil, List.all_cons, List.all_nil, bne_self_eq_false, Option.isSome_none, Option.isSome_some, Bool.or_false, Bool.false_or, Bool.true_or, Bool.or_true, ne_eq, not_false_eq_true, not_true_eq_false, beq_self_eq_true, cond_true, cond_false, Prod.mk.injEq, and_self, reduceCtorEq, BEq.rfl, Bool.and_true, Bool.true_and, Bool.and_false, Bool.false_and]
  refine ⟨fun h => ?_, fun h0 h1 => ?_⟩
  · have hp : prR t.stem 2000 true = false := by simpa using h
    simp only [hp, Bool.false_and]
  have hs : prR t.stem 2000 true = true := by simpa using h0
  rw [hs]
  unfold fits at h1
  refine ⟨{ i : Nat // i ≤ t.nOpt ∧ ∀ j, j < i → prR (t.opt j) 200 false = true }, fun i => ([(14, .d (.int .i64 i)), (13, .d (.int .i64 t.nOpt)), (12, .d (.list 1 t.nOpt fun i => .str (t.opt i))), (1, .ptr 0 0), (2, .d (.bool false))], [.box (PV.d (iD t)).cells]), fun i => t.nOpt - i, ⟨0, Nat.zero_le _, fun j h => absurd h (by omega)⟩, ?_, ?_⟩
  · simp only [go_sem, Nat.reduceEqDiff, ↓reduceIte, Bool.false_eq_true, Nat.reduceAdd, Nat.reduceSub, Nat.reduceBNe, Nat.reduceBEq, Nat.reduceLT, Nat.reduceLeDiff, Nat.reduceMul, Nat.zero_lt_succ, Nat.lt_add_one, Nat.zero_lt_one, Int.reduceToNat, false_implies, true_implies, or_self, or_false, false_or, or_true, true_or, Nat.add_le_add_iff_right, true_and, and_true, forall_const, implies_true, List.contains_cons, List.contains_nil, List.all_cons, List.all_nil, bne_self_eq_false, Option.isSome_none, Option.isSome_some, Bool.or_false, Bool.false_or, Bool.true_or, Bool.or_true, ne_eq, not_false_eq_true, not_true_eq_false, beq_self_eq_true, cond_true, cond_false, Prod.mk.injEq, and_self, reduceCtorEq, BEq.rfl, Bool.and_true, Bool.true_and, Bool.and_false, Bool.false_and]
    rfl
  · rintro ⟨i, hi, hok⟩
    simp only [go_sem, Nat.reduceEqDiff, ↓reduceIte, Bool.false_eq_true, Nat.reduceAdd, Nat.reduceSub, Nat.reduceBNe, Nat.reduceBEq, Nat.reduceLT, Nat.reduceLeDiff, Nat.reduceMul, Nat.zero_lt_succ, Nat.lt_add_one, Nat.zero_lt_one, Int.reduceToNat, false_implies, true_implies, or_self, or_false, false_or, or_true, true_or, Nat.add_le_add_iff_right, true_and, and_true, forall_const, implies_true, List.contains_cons, List.contains_nil, List.all_cons, List.all_nil, bne_self_eq_false, Option.isSome_none, Option.isSome_some, Bool.or_false, Bool.false_or, Bool.true_or, Bool.or_true, ne_eq, not_false_eq_true, not_true_eq_false, beq_self_eq_true, cond_true, cond_false, Prod.mk.injEq, and_self, reduceCtorEq, BEq.rfl, Bool.and_true, Bool.true_and, Bool.and_false, Bool.false_and, decide_eq_true_eq]
    refine ⟨fun hlt => ⟨by omega, ?_⟩, fun hge => ?_⟩
    · refine ⟨_, fun _ => rprintable_ok (t.opt i) 200 false, ?_, ?_⟩
      focus (first | exact fun _ => rfl | exact fun h0 => absurd h0 (by decide))
      simp only [go_sem, Nat.reduceEqDiff, ↓reduceIte, Bool.false_eq_true, Nat.reduceAdd, Nat.reduceSub, Nat.reduceBNe, Nat.reduceBEq, Nat.reduceLT, Nat.reduceLeDiff, Nat.reduceMul, Nat.zero_lt_succ, Nat.lt_add_one, Nat.zero_lt_one, Int.reduceToNat, false_implies, true_implies, or_self, or_false, false_or, or_true, true_or, Nat.add_le_add_iff_right, true_and, and_true, forall_const, implies_true, List.contains_cons, List.contains_nil, List.all_cons, List.all_nil, bne_self_eq_false, Option.isSome_none, Option.isSome_some, Bool.or_false, Bool.false_or, Bool.true_or, Bool.or_true, ne_eq, not_false_eq_true, not_true_eq_false, beq_self_eq_true, cond_true, cond_false, Prod.mk.injEq, and_self, reduceCtorEq, BEq.rfl, Bool.and_true, Bool.true_and, Bool.and_false, Bool.false_and]
      refine ⟨fun hb => ?_, fun hb => ⟨by constructor <;> omega, ⟨i + 1, by omega, fun j hj => ?_⟩, by simp only; omega, by simp⟩⟩
      · have hp : prR (t.opt i) 200 false = false := by simpa using hb
        simp only [linesR, allN_no (p := fun i => prR (t.opt i) 200 false) (show i < t.nOpt by omega) hp, Bool.false_and, Bool.and_false, Bool.true_and]
      · by_cases e : j = i
        · subst e; simpa using hb
        · exact hok j (by omega)
    · have e1 : i = t.nOpt := by simp at hge; omega
      subst e1
      have hO : linesR t.nOpt t.opt = true := allN_yes (p := fun i => prR (t.opt i) 200 false) hok
      intro h2
      unfold fits at h2
      rw [hO]
      refine ⟨{ i : Nat // i ≤ t.nTx ∧ ∀ j, j < i → prR (t.tx j) 200 false = true }, fun i => ([(25, .d (.int .i64 i)), (24, .d (.int .i64 t.nTx)), (23, .d (.list 1 t.nTx fun i => .str (t.tx i))), (1, .ptr 0 0), (2, .d (.bool false))], [.box (PV.d (iD t)).cells]), fun i => t.nTx - i, ⟨0, Nat.zero_le _, fun j h => absurd h (by omega)⟩, ?_, ?_⟩
      · simp only [go_sem, Nat.reduceEqDiff, ↓reduceIte, Bool.false_eq_true, Nat.reduceAdd, Nat.reduceSub, Nat.reduceBNe, Nat.reduceBEq, Nat.reduceLT, Nat.reduceLeDiff, Nat.reduceMul, Nat.zero_lt_succ, Nat.lt_add_one, Nat.zero_lt_one, Int.reduceToNat, false_implies, true_implies, or_self, or_false, false_or, or_true, true_or, Nat.add_le_add_iff_right, true_and, and_true, forall_const, implies_true, List.contains_cons, List.contains_nil, List.all_cons, List.all_nil, bne_self_eq_false, Option.isSome_none, Option.isSome_some, Bool.or_false, Bool.false_or, Bool.true_or, Bool.or_true, ne_eq, not_false_eq_true, not_true_eq_false, beq_self_eq_true, cond_true, cond_false, Prod.mk.injEq, and_self, reduceCtorEq, BEq.rfl, Bool.and_true, Bool.true_and, Bool.and_false, Bool.false_and]
        rfl
      · rintro ⟨i, hi, hok⟩
        simp only [go_sem, Nat.reduceEqDiff, ↓reduceIte, Bool.false_eq_true, Nat.reduceAdd, Nat.reduceSub, Nat.reduceBNe, Nat.reduceBEq, Nat.reduceLT, Nat.reduceLeDiff, Nat.reduceMul, Nat.zero_lt_succ, Nat.lt_add_one, Nat.zero_lt_one, Int.reduceToNat, false_implies, true_implies, or_self, or_false, false_or, or_true, true_or, Nat.add_le_add_iff_right, true_and, and_true, forall_const, implies_true, List.contains_cons, List.contains_nil, List.all_cons, List.all_nil, bne_self_eq_false, Option.isSome_none, Option.isSome_some, Bool.or_false, Bool.false_or, Bool.true_or, Bool.or_true, ne_eq, not_false_eq_true, not_true_eq_false, beq_self_eq_true, cond_true, cond_false, Prod.mk.injEq, and_self, reduceCtorEq, BEq.rfl, Bool.and_true, Bool.true_and, Bool.and_false, Bool.false_and, decide_eq_true_eq]
        refine ⟨fun hlt => ⟨by omega, ?_⟩, fun hge => ?_⟩
        · refine ⟨_, fun _ => rprintable_ok (t.tx i) 200 false, ?_, ?_⟩
          focus (first | exact fun _ => rfl | exact fun h0 => absurd h0 (by decide))
          simp only [go_sem, Nat.reduceEqDiff, ↓reduceIte, Bool.false_eq_true, Nat.reduceAdd, Nat.reduceSub, Nat.reduceBNe, Nat.reduceBEq, Nat.reduceLT, Nat.reduceLeDiff, Nat.reduceMul, Nat.zero_lt_succ, Nat.lt_add_one, Nat.zero_lt_one, Int.reduceToNat, false_implies, true_implies, or_self, or_false, false_or, or_true, true_or, Nat.add_le_add_iff_right, true_and, and_true, forall_const, implies_true, List.contains_cons, List.contains_nil, List.all_cons, List.all_nil, bne_self_eq_false, Option.isSome_none, Option.isSome_some, Bool.or_false, Bool.false_or, Bool.true_or, Bool.or_true, ne_eq, not_false_eq_true, not_true_eq_false, beq_self_eq_true, cond_true, cond_false, Prod.mk.injEq, and_self, reduceCtorEq, BEq.rfl, Bool.and_true, Bool.true_and, Bool.and_false, Bool.false_and]
          refine ⟨fun hb => ?_, fun hb => ⟨by constructor <;> omega, ⟨i + 1, by omega, fun j hj => ?_⟩, by simp only; omega, by simp⟩⟩
          · have hp : prR (t.tx i) 200 false = false := by simpa using hb
            have hT : linesR t.nTx t.tx = false := allN_no (p := fun i => prR (t.tx i) 200 false) (show i < t.nTx by omega) hp
            simp only [hT, Bool.and_false, Bool.false_and, Bool.true_and]
          · by_cases e : j = i
            · subst e; simpa using hb
            · exact hok j (by omega)
        · have e2 : i = t.nTx := by simp at hge; omega
          subst e2
          have hT : linesR t.nTx t.tx = true := allN_yes (p := fun i => prR (t.tx i) 200 false) hok
          refine ⟨_, fun _ => hc, ?_, ?_⟩
          focus (first | exact fun _ => rfl | exact fun h0 => absurd h0 (by decide))
          simp only [go_sem, Nat.reduceEqDiff, ↓reduceIte, Bool.false_eq_true, Nat.reduceAdd, Nat.reduceSub, Nat.reduceBNe, Nat.reduceBEq, Nat.reduceLT, Nat.reduceLeDiff, Nat.reduceMul, Nat.zero_lt_succ, Nat.lt_add_one, Nat.zero_lt_one, Int.reduceToNat, false_implies, true_implies, or_self, or_false, false_or, or_true, true_or, Nat.add_le_add_iff_right, true_and, and_true, forall_const, implies_true, List.contains_cons, List.contains_nil, List.all_cons, List.all_nil, bne_self_eq_false, Option.isSome_none, Option.isSome_some, Bool.or_false, Bool.false_or, Bool.true_or, Bool.or_true, ne_eq, not_false_eq_true, not_true_eq_false, beq_self_eq_true, cond_true, cond_false, Prod.mk.injEq, and_self, reduceCtorEq, BEq.rfl, Bool.and_true, Bool.true_and, Bool.and_false, Bool.false_and]
          rw [hT]
          rfl
def upB (c : Int) : Bool := !(bif bif decide (c < 65) then true else decide (90 < c) then bif decide (c < 48) then true else decide (57 < c) else false)
def scn : List Int → Int → Int → Bool
  | [], seg, sz => bif decide (0 < sz) then decide (seg ≤ 5) else false
  | c :: r, seg, sz => bif c == 46 then (bif sz == 0 then false else scn r (seg + 1) 0) else bif !upB c then false else bif decide (8 < sz + 1) then false else scn r seg (sz + 1)
def bys (b : ByteArray) : List Int := (List.range b.size).map fun i => (bget b i : Int)
theorem bys_drop (b : ByteArray) {i : Nat} (h : i < b.size) : (bys b).drop i = (bget b i : Int) :: (bys b).drop (i + 1) := by
  have hl : i < (bys b).length := by simpa [bys] using h
  rw [List.drop_eq_getElem_cons hl]
  simp [bys]
theorem bys_end (b : ByteArray) : (bys b).drop b.size = [] := by simp [bys]
def rconR (b : ByteArray) : Bool := bif decide (24 < (b.size : Int)) then false else scn (bys b) 1 0
theorem rcon_ok (b : ByteArray) : FnD Tryz.prog 74 [.d (.str b)] [.bool (rconR b)] := by
  refine fnD_intro (H := { nt := Go.Func.ntmps Tryz.f74 }) Tryz.func74 rfl rfl rfl rfl (Nat.le_of_ble_eq_true rfl) (okC_tri (by kernel_rfl) _ _ _ _ (by kernel_rfl) ?_)
  simp only [go_sem, Nat.reduceEqDiff, ↓reduceIte, Bool.false_eq_true, Nat.reduceAdd, Nat.reduceSub, Nat.reduceBNe, Nat.reduceBEq, Nat.reduceLT, Nat.reduceLeDiff, Nat.reduceMul, Nat.zero_lt_succ, Nat.lt_add_one, Nat.zero_lt_one, Int.reduceToNat, false_implies, true_implies, or_self, or_false, false_or, or_true, true_or, Nat.add_le_add_iff_right, true_and, and_true, forall_const, implies_true, List.contains_cons, List.contains_nil, List.all_cons, List.all_nil, bne_self_eq_false, Option.isSome_none, Option.isSome_some, Bool.or_false, Bool.false_or, Bool.true_or, Bool.or_true, ne_eq, not_false_eq_true, not_true_eq_false, beq_self_eq_true, cond_true, cond_false, Prod.mk.injEq, and_self, reduceCtorEq, BEq.rfl, Bool.and_true, Bool.true_and, Bool.and_false, Bool.false_and, Tryz.f74]
  intro hf
  unfold fits at hf
  refine ⟨fun h => by simp only [rconR, h, cond_true], fun h => ?_⟩
  have hR : rconR b = scn (bys b) 1 0 := by simp only [rconR, h, cond_false]
  have h24 : ¬ 24 < (b.size : Int) := of_decide_eq_false h
  rw [hR]
  refine ⟨{ p : Nat × Nat × Nat // p.1 ≤ b.size ∧ p.2.1 ≤ p.1 + 1 ∧ p.2.2 ≤ 8 ∧ scn ((bys b).drop p.1) p.2.1 p.2.2 = scn (bys b) 1 0 }, fun p => ([(5, .d (.int .i64 p.1.1)), (3, .d (.int .i64 p.1.2.1)), (4, .d (.int .i64 p.1.2.2)), (2, .d (.bool false)), (0, .d (.str b))], []), fun p => b.size - p.1.1, ⟨(0, 1, 0), Nat.zero_le _, Nat.le_refl _, by decide, rfl⟩, ?_, ?_⟩
  · simp only [go_sem, Nat.reduceEqDiff, ↓reduceIte, Bool.false_eq_true, Nat.reduceAdd, Nat.reduceSub, Nat.reduceBNe, Nat.reduceBEq, Nat.reduceLT, Nat.reduceLeDiff, Nat.reduceMul, Nat.zero_lt_succ, Nat.lt_add_one, Nat.zero_lt_one, Int.reduceToNat, false_implies, true_implies, or_self, or_false, false_or, or_true, true_or, Nat.add_le_add_iff_right, true_and, and_true, forall_const, implies_true, List.contains_cons, List.contains_nil, List.all_cons, List.all_nil, bne_self_eq_false, Option.isSome_none, Option.isSome_some, Bool.or_false, Bool.false_or, Bool.true_or, Bool.or_true, ne_eq, not_false_eq_true, not_true_eq_false, beq_self_eq_true, cond_true, cond_false, Prod.mk.injEq, and_self, reduceCtorEq, BEq.rfl, Bool.and_true, Bool.true_and, Bool.and_false, Bool.false_and]
    exact ⟨rfl, rfl, rfl⟩
  · rintro ⟨⟨i, seg, sz⟩, hi, hseg, hsz, hscn⟩
    simp only at hi hseg hsz hscn
    simp only [go_sem, Nat.reduceEqDiff, ↓reduceIte, Bool.false_eq_true, Nat.reduceAdd, Nat.reduceSub, Nat.reduceBNe, Nat.reduceBEq, Nat.reduceLT, Nat.reduceLeDiff, Nat.reduceMul, Nat.zero_lt_succ, Nat.lt_add_one, Nat.zero_lt_one, Int.reduceToNat, false_implies, true_implies, or_self, or_false, false_or, or_true, true_or, Nat.add_le_add_iff_right, true_and, and_true, forall_const, implies_true, List.contains_cons, List.contains_nil, List.all_cons, List.all_nil, bne_self_eq_false, Option.isSome_none, Option.isSome_some, Bool.or_false, Bool.false_or, Bool.true_or, Bool.or_true, ne_eq, not_false_eq_true, not_true_eq_false, beq_self_eq_true, cond_true, cond_false, Prod.mk.injEq, and_self, reduceCtorEq, BEq.rfl, Bool.and_true, Bool.true_and, Bool.and_false, Bool.false_and, decide_eq_true_eq]
    intro _
    refine ⟨fun hlt => ?_, fun hge => ?_⟩
    · have hi' : i < b.size := by omega
      rw [bys_drop b hi'] at hscn
      simp only [scn] at hscn
      refine ⟨⟨by omega, by omega⟩, fun h1 => ⟨fun h2 => ?_, fun h2 => ?_⟩, fun h1 => ⟨fun h2 => ?_, fun h2 => ⟨⟨by omega, by omega⟩, fun h3 => ?_, fun h3 => ?_⟩⟩⟩
      · rw [h1, h2] at hscn
        rw [← hscn]
        rfl
      · rw [h1, h2] at hscn
        refine ⟨⟨by omega, by omega⟩, ⟨by omega, by omega⟩, ⟨(i + 1, seg + 1, 0), by simp only; omega, by simp only; omega, by simp only; omega, ?_⟩, by simp only; omega, by simp, by simp, rfl⟩
        rw [← hscn]
        rfl
      · have hu : upB (bget b i) = false := by simp only [upB, h2, Bool.not_true]
        rw [h1, hu] at hscn
        rw [← hscn]
        rfl
      · have hu : upB (bget b i) = true := by simp only [upB, h2, Bool.not_false]
        rw [h1, hu, show decide (8 < (sz : Int) + 1) = true from decide_eq_true h3] at hscn
        rw [← hscn]
        rfl
      · have hu : upB (bget b i) = true := by simp only [upB, h2, Bool.not_false]
        rw [h1, hu, h3] at hscn
        have h3' : ¬ 8 < (sz : Int) + 1 := of_decide_eq_false h3
        refine ⟨⟨by omega, by omega⟩, ⟨(i + 1, seg, sz + 1), by simp only; omega, by simp only; omega, by simp only; omega, ?_⟩, by simp only; omega, by simp, rfl, by simp⟩
        rw [← hscn]
        rfl
    · have e1 : i = b.size := by simp at hge; omega
      subst e1
      rw [bys_end] at hscn
      simp only [scn] at hscn
      rw [← hscn]
/-- The reference's Valid, as far as it has been walked. -/
def rvalidR (t : It) : Int := bif !numR t then 3 else bif !inR t.kind 1 6 then 1 else bif !(prR t.stem 2000 true && linesR t.nOpt t.opt && linesR t.nTx t.tx && rconR t.content) then 2 else bif longR t then 5 else bif !keyR t then 19 else bif !riR t.nAs t.ass 1 9999999 then 23 else 0
theorem rvalid_ok (t : It) : FnD Tryz.prog 20 [.d (iD t)] [.int .i64 (rvalidR t)] := by
  refine fnD_intro (H := { nt := Go.Func.ntmps Tryz.f20 }) Tryz.func20 rfl rfl rfl rfl (Nat.le_of_ble_eq_true rfl) (okC_tri (by kernel_rfl) _ _ _ _ (by kernel_rfl) ?_)
  simp only [go_sem, Nat.reduceEqDiff, ↓reduceIte, Bool.false_eq_true, Nat.reduceAdd, Nat.reduceSub, Nat.reduceBNe, Nat.reduceBEq, Nat.reduceLT, Nat.reduceLeDiff, Nat.reduceMul, Nat.zero_lt_succ, Nat.lt_add_one, Nat.zero_lt_one, Int.reduceToNat, false_implies, true_implies, or_self, or_false, false_or, or_true, true_or, Nat.add_le_add_iff_right, true_and, and_true, forall_const, implies_true, List.contains_cons, List.contains_nil, List.all_cons, List.all_nil, bne_self_eq_false, Option.isSome_none, Option.isSome_some, Bool.or_false, Bool.false_or, Bool.true_or, Bool.or_true, ne_eq, not_false_eq_true, not_true_eq_false, beq_self_eq_true, cond_true, cond_false, Prod.mk.injEq, and_self, reduceCtorEq, BEq.rfl, Bool.and_true, Bool.true_and, Bool.and_false, Bool.false_and, Tryz.f20]
  refine ⟨_, fun _ => ranges_ok t, ?_, ?_⟩
  focus (first | exact fun _ => rfl | exact fun h0 => absurd h0 (by decide))
  simp only [go_sem, Nat.reduceEqDiff, ↓reduceIte, Bool.false_eq_true, Nat.reduceAdd, Nat.reduceSub, Nat.reduceBNe, Nat.reduceBEq, Nat.reduceLT, Nat.reduceLeDiff, Nat.reduceMul, Nat.zero_lt_succ, Nat.lt_add_one, Nat.zero_lt_one, Int.reduceToNat, false_implies, true_implies, or_self, or_false, false_or, or_true, true_or, Nat.add_le_add_iff_right, true_and, and_true, forall_const, implies_true, List.contains_cons, List.contains_nil, List.all_cons, List.all_nil, bne_self_eq_false, Option.isSome_none, Option.isSome_some, Bool.or_false, Bool.false_or, Bool.true_or, Bool.or_true, ne_eq, not_false_eq_true, not_true_eq_false, beq_self_eq_true, cond_true, cond_false, Prod.mk.injEq, and_self, reduceCtorEq, BEq.rfl, Bool.and_true, Bool.true_and, Bool.and_false, Bool.false_and]
  refine ⟨fun h => by simp only [rvalidR, h, cond_true], fun h0 => ?_⟩
  refine ⟨_, fun _ => rwithin_ok t.kind 1 6, ?_, ?_⟩
  focus (first | exact fun _ => rfl | exact fun h0 => absurd h0 (by decide))
  simp only [go_sem, Nat.reduceEqDiff, ↓reduceIte, Bool.false_eq_true, Nat.reduceAdd, Nat.reduceSub, Nat.reduceBNe, Nat.reduceBEq, Nat.reduceLT, Nat.reduceLeDiff, Nat.reduceMul, Nat.zero_lt_succ, Nat.lt_add_one, Nat.zero_lt_one, Int.reduceToNat, false_implies, true_implies, or_self, or_false, false_or, or_true, true_or, Nat.add_le_add_iff_right, true_and, and_true, forall_const, implies_true, List.contains_cons, List.contains_nil, List.all_cons, List.all_nil, bne_self_eq_false, Option.isSome_none, Option.isSome_some, Bool.or_false, Bool.false_or, Bool.true_or, Bool.or_true, ne_eq, not_false_eq_true, not_true_eq_false, beq_self_eq_true, cond_true, cond_false, Prod.mk.injEq, and_self, reduceCtorEq, BEq.rfl, Bool.and_true, Bool.true_and, Bool.and_false, Bool.false_and]
  refine ⟨fun h => by simp only [rvalidR, h0, h, cond_true, cond_false], fun h1 => ?_⟩
  refine ⟨_, fun _ => rtexts_ok t _ (rcon_ok t.content), ?_, ?_⟩
  focus (first | exact fun _ => rfl | exact fun h0 => absurd h0 (by decide))
  simp only [go_sem, Nat.reduceEqDiff, ↓reduceIte, Bool.false_eq_true, Nat.reduceAdd, Nat.reduceSub, Nat.reduceBNe, Nat.reduceBEq, Nat.reduceLT, Nat.reduceLeDiff, Nat.reduceMul, Nat.zero_lt_succ, Nat.lt_add_one, Nat.zero_lt_one, Int.reduceToNat, false_implies, true_implies, or_self, or_false, false_or, or_true, true_or, Nat.add_le_add_iff_right, true_and, and_true, forall_const, implies_true, List.contains_cons, List.contains_nil, List.all_cons, List.all_nil, bne_self_eq_false, Option.isSome_none, Option.isSome_some, Bool.or_false, Bool.false_or, Bool.true_or, Bool.or_true, ne_eq, not_false_eq_true, not_true_eq_false, beq_self_eq_true, cond_true, cond_false, Prod.mk.injEq, and_self, reduceCtorEq, BEq.rfl, Bool.and_true, Bool.true_and, Bool.and_false, Bool.false_and]
  refine ⟨fun h => by simp only [rvalidR, h0, h1, h, cond_true, cond_false], fun h2 _ => ?_⟩
  refine ⟨fun h => by simp only [rvalidR, h0, h1, h2, longR, h, cond_true, cond_false], fun h3 => ?_⟩
  have e3 : longR t = false := h3
  clear h3
  refine ⟨_, fun _ => key_ok t, ?_, ?_⟩
  focus (first | exact fun _ => rfl | exact fun h0 => absurd h0 (by decide))
  simp only [go_sem, Nat.reduceEqDiff, ↓reduceIte, Bool.false_eq_true, Nat.reduceAdd, Nat.reduceSub, Nat.reduceBNe, Nat.reduceBEq, Nat.reduceLT, Nat.reduceLeDiff, Nat.reduceMul, Nat.zero_lt_succ, Nat.lt_add_one, Nat.zero_lt_one, Int.reduceToNat, false_implies, true_implies, or_self, or_false, false_or, or_true, true_or, Nat.add_le_add_iff_right, true_and, and_true, forall_const, implies_true, List.contains_cons, List.contains_nil, List.all_cons, List.all_nil, bne_self_eq_false, Option.isSome_none, Option.isSome_some, Bool.or_false, Bool.false_or, Bool.true_or, Bool.or_true, ne_eq, not_false_eq_true, not_true_eq_false, beq_self_eq_true, cond_true, cond_false, Prod.mk.injEq, and_self, reduceCtorEq, BEq.rfl, Bool.and_true, Bool.true_and, Bool.and_false, Bool.false_and]
  refine ⟨fun h => by simp only [rvalidR, h0, h1, h2, e3, h, cond_true, cond_false], fun h4 => ?_⟩
  refine ⟨_, fun _ => rrising_ok t.nAs t.ass 1 9999999, ?_, ?_⟩
  focus (first | exact fun _ => rfl | exact fun h0 => absurd h0 (by decide))
  simp only [go_sem, Nat.reduceEqDiff, ↓reduceIte, Bool.false_eq_true, Nat.reduceAdd, Nat.reduceSub, Nat.reduceBNe, Nat.reduceBEq, Nat.reduceLT, Nat.reduceLeDiff, Nat.reduceMul, Nat.zero_lt_succ, Nat.lt_add_one, Nat.zero_lt_one, Int.reduceToNat, false_implies, true_implies, or_self, or_false, false_or, or_true, true_or, Nat.add_le_add_iff_right, true_and, and_true, forall_const, implies_true, List.contains_cons, List.contains_nil, List.all_cons, List.all_nil, bne_self_eq_false, Option.isSome_none, Option.isSome_some, Bool.or_false, Bool.false_or, Bool.true_or, Bool.or_true, ne_eq, not_false_eq_true, not_true_eq_false, beq_self_eq_true, cond_true, cond_false, Prod.mk.injEq, and_self, reduceCtorEq, BEq.rfl, Bool.and_true, Bool.true_and, Bool.and_false, Bool.false_and]
  refine ⟨fun h => by simp only [rvalidR, h0, h1, h2, e3, h4, h, cond_true, cond_false], fun h5 => by simp only [rvalidR, h0, h1, h2, e3, h4, h5, cond_true, cond_false]⟩
end Go.Proofs.YtnhpgmmhfgdmjaaGreat.P14

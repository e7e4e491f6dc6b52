/- Proved here: contracts of functions of this chapter: called with these values, each returns these values and changes nothing that was. Conditions: none but those that each theorem names. -/
import Derived.Test.YtnhpgmmhfgdmjaaGreatW14e
import Derived.Test.YtnhpgmmhfgdmjaaGreatS14b
import Derived.Test.YtnhpgmmhfgdmjaaGreatEvY
set_option linter.unusedVariables false
set_option linter.unusedSimpArgs false
open Go Go.Proofs Go.Ev Go.Proofs.P14
namespace Go.Proofs.YtnhpgmmhfgdmjaaGreat.P14
set_option maxRecDepth 100000
/-- slices.Values: a closure over a box of the slice. -/
theorem values_ok (d : DV) (cs : List PV) (R : List PV → Store → Prop) (h : R [.clo (.func 86) [] [.ptr 1 0]] [.box cs, .box [.d d]]) (hc : (PV.d d).cells = [.d d]) : FnE Tryz.prog 71 [.d d] [.box cs] R := by
  refine fnE_intro (H := { nt := Go.Func.ntmps Tryz.f71, lo := 1, fx := [] }) Tryz.func71 rfl rfl rfl rfl (Nat.le_of_ble_eq_true rfl) (okC_tri (by kernel_rfl) _ _ _ _ (by kernel_rfl) ?_)
  simp only [go_sem, Nat.reduceEqDiff, ↓reduceIte, Bool.false_eq_true, Nat.reduceAdd, Nat.reduceSub, Nat.reduceBNe, Nat.reduceBEq, Nat.reduceLT, Nat.reduceLeDiff, Nat.reduceMul, Nat.zero_lt_succ, Nat.lt_add_one, Nat.zero_lt_one, Int.reduceToNat, false_implies, true_implies, or_self, or_false, false_or, or_true, true_or, Nat.add_le_add_iff_right, true_and, and_true, forall_const, implies_true, List.contains_cons, List.contains_nil, List.all_cons, List.all_nil, bne_self_eq_false, Option.isSome_none, Option.isSome_some, Bool.or_false, Bool.false_or, Bool.true_or, Bool.or_true, ne_eq, not_false_eq_true, not_true_eq_false, beq_self_eq_true, cond_true, cond_false, Prod.mk.injEq, and_self, reduceCtorEq, BEq.rfl, Bool.and_true, Bool.true_and, Bool.and_false, Bool.false_and, Tryz.f71, hc]
  exact h
def fit1 (t : It) : Bool := bif bif !bif bif t.kind == 1 then true else t.kind == 2 then true else t.kind == 3 then
              bif decide (0 < (t.nOpt : Int)) then true else decide (0 < (t.nCh : Int))
            else false then
          true
        else bif t.kind != 4 then bif t.value != 0 then true else t.tol != 0 else false
def fit2 (t : It) : Bool := bif bif t.kind != 5 then decide (0 < (t.nTx : Int)) else false then true
            else bif t.kind != 6 then t.rubric != 0 else false
def sortI (f : Nat → Int) (n : Nat) : Nat → Int := fun i => (sortL f n)[i]?.getD 0
def fitR (t : It) : Bool := bif fit1 t then false else bif fit2 t then false else
  bif t.kind == 1 then (decide (2 ≤ (t.nOpt : Int)) && ((t.nCh : Int) == 1)) && riR t.nCh t.ch 0 ((t.nOpt : Int) - 1)
  else bif t.kind == 2 then (decide (2 ≤ (t.nOpt : Int)) && decide (1 ≤ (t.nCh : Int))) && riR t.nCh t.ch 0 ((t.nOpt : Int) - 1)
  else bif t.kind == 3 then (decide (2 ≤ (t.nOpt : Int)) && ((t.nCh : Int) == t.nOpt)) && riR t.nCh (sortI t.ch t.nCh) 0 ((t.nOpt : Int) - 1)
  else bif t.kind == 4 then inR t.value (-9999999) 9999999 && inR t.tol 0 9999999
  else bif t.kind == 5 then txR t.nTx t.tx
  else decide (1 ≤ t.rubric)
set_option maxHeartbeats 1000000 in
theorem fits_ok (t : It) (hn : t.nCh * 8 ≤ 140737488351232) : FnD Tryz.prog 47 [.d (iD t)] [.bool (fitR t)] := by
  refine fnD_intro (H := { nt := Go.Func.ntmps Tryz.f47, fx := [71, 70] }) Tryz.func47 rfl rfl rfl rfl (Nat.le_of_ble_eq_true rfl) (okC_tri (by kernel_rfl) _ _ _ _ (by kernel_rfl) ?_)
  simp only [go_sem, Nat.reduceEqDiff, ↓reduceIte, Bool.false_eq_true, Nat.reduceAdd, Nat.reduceSub, Nat.reduceBNe, Nat.reduceBEq, Nat.reduceLT, Nat.reduceLeDiff, Nat.reduceMul, Nat.zero_lt_succ, Nat.lt_add_one, Nat.zero_lt_one, Int.reduceToNat, false_implies, true_implies, or_self, or_false, false_or, or_true, true_or, Nat.add_le_add_iff_right, true_and, and_true, forall_const, implies_true, List.contains_cons, List.contains_nil, List.all_cons, List.all_nil, bne_self_eq_false, Option.isSome_none, Option.isSome_some, Bool.or_false, Bool.false_or, Bool.true_or, Bool.or_true, ne_eq, not_false_eq_true, not_true_eq_false, beq_self_eq_true, cond_true, cond_false, Prod.mk.injEq, and_self, reduceCtorEq, BEq.rfl, Bool.and_true, Bool.true_and, Bool.and_false, Bool.false_and, Tryz.f47]
  refine ⟨fun h1 => by simp only [fitR, fit1, h1, cond_true], fun h1 => ⟨fun h2 => by simp only [fitR, fit1, fit2, h1, h2, cond_true, cond_false], fun h2 hf1 => ?_⟩⟩
  have e1 : fit1 t = false := h1
  have e2 : fit2 t = false := h2
  simp only [fitR, e1, e2, cond_false]
  clear e1 e2 h1 h2
  refine ⟨fun hk => ?_, fun hk => ⟨fun hk2 => ?_, fun hk2 => ⟨fun hk3 => ?_, fun hk3 => ⟨fun hk4 => ?_, fun hk4 => ⟨fun hk5 => ?_, fun hk5 => ?_⟩⟩⟩⟩⟩
  · refine ⟨fun _ => by unfold fits at hf1; constructor <;> omega, ?_⟩
    refine ⟨_, fun _ => rising_ok t.nCh t.ch 0 ((t.nOpt : Int) - 1), ?_, ?_⟩
    focus (first | exact fun _ => rfl | exact fun h0 => absurd h0 (by decide))
    simp only [go_sem, Nat.reduceEqDiff, ↓reduceIte, Bool.false_eq_true, Nat.reduceAdd, Nat.reduceSub, Nat.reduceBNe, Nat.reduceBEq, Nat.reduceLT, Nat.reduceLeDiff, Nat.reduceMul, Nat.zero_lt_succ, Nat.lt_add_one, Nat.zero_lt_one, Int.reduceToNat, false_implies, true_implies, or_self, or_false, false_or, or_true, true_or, Nat.add_le_add_iff_right, true_and, and_true, forall_const, implies_true, List.contains_cons, List.contains_nil, List.all_cons, List.all_nil, bne_self_eq_false, Option.isSome_none, Option.isSome_some, Bool.or_false, Bool.false_or, Bool.true_or, Bool.or_true, ne_eq, not_false_eq_true, not_true_eq_false, beq_self_eq_true, cond_true, cond_false, Prod.mk.injEq, and_self, reduceCtorEq, BEq.rfl, Bool.and_true, Bool.true_and, Bool.and_false, Bool.false_and]
    simp only [hk, cond_true]
    cases decide (2 ≤ (t.nOpt : Int)) <;> simp
  · refine ⟨fun _ => by unfold fits at hf1; constructor <;> omega, ?_⟩
    refine ⟨_, fun _ => rising_ok t.nCh t.ch 0 ((t.nOpt : Int) - 1), ?_, ?_⟩
    focus (first | exact fun _ => rfl | exact fun h0 => absurd h0 (by decide))
    simp only [go_sem, Nat.reduceEqDiff, ↓reduceIte, Bool.false_eq_true, Nat.reduceAdd, Nat.reduceSub, Nat.reduceBNe, Nat.reduceBEq, Nat.reduceLT, Nat.reduceLeDiff, Nat.reduceMul, Nat.zero_lt_succ, Nat.lt_add_one, Nat.zero_lt_one, Int.reduceToNat, false_implies, true_implies, or_self, or_false, false_or, or_true, true_or, Nat.add_le_add_iff_right, true_and, and_true, forall_const, implies_true, List.contains_cons, List.contains_nil, List.all_cons, List.all_nil, bne_self_eq_false, Option.isSome_none, Option.isSome_some, Bool.or_false, Bool.false_or, Bool.true_or, Bool.or_true, ne_eq, not_false_eq_true, not_true_eq_false, beq_self_eq_true, cond_true, cond_false, Prod.mk.injEq, and_self, reduceCtorEq, BEq.rfl, Bool.and_true, Bool.true_and, Bool.and_false, Bool.false_and]
    simp only [hk, hk2, cond_true, cond_false]
    cases decide (2 ≤ (t.nOpt : Int)) <;> simp
  · refine values_ok _ _ _ ?_ rfl
    simp only [go_sem, Nat.reduceEqDiff, ↓reduceIte, Bool.false_eq_true, Nat.reduceAdd, Nat.reduceSub, Nat.reduceBNe, Nat.reduceBEq, Nat.reduceLT, Nat.reduceLeDiff, Nat.reduceMul, Nat.zero_lt_succ, Nat.lt_add_one, Nat.zero_lt_one, Int.reduceToNat, false_implies, true_implies, or_self, or_false, false_or, or_true, true_or, Nat.add_le_add_iff_right, true_and, and_true, forall_const, implies_true, List.contains_cons, List.contains_nil, List.all_cons, List.all_nil, bne_self_eq_false, Option.isSome_none, Option.isSome_some, Bool.or_false, Bool.false_or, Bool.true_or, Bool.or_true, ne_eq, not_false_eq_true, not_true_eq_false, beq_self_eq_true, cond_true, cond_false, Prod.mk.injEq, and_self, reduceCtorEq, BEq.rfl, Bool.and_true, Bool.true_and, Bool.and_false, Bool.false_and]
    refine sorted_ok 1 t.nCh t.ch _ rfl hn _ ?_
    simp only [go_sem, Nat.reduceEqDiff, ↓reduceIte, Bool.false_eq_true, Nat.reduceAdd, Nat.reduceSub, Nat.reduceBNe, Nat.reduceBEq, Nat.reduceLT, Nat.reduceLeDiff, Nat.reduceMul, Nat.zero_lt_succ, Nat.lt_add_one, Nat.zero_lt_one, Int.reduceToNat, false_implies, true_implies, or_self, or_false, false_or, or_true, true_or, Nat.add_le_add_iff_right, true_and, and_true, forall_const, implies_true, List.contains_cons, List.contains_nil, List.all_cons, List.all_nil, bne_self_eq_false, Option.isSome_none, Option.isSome_some, Bool.or_false, Bool.false_or, Bool.true_or, Bool.or_true, ne_eq, not_false_eq_true, not_true_eq_false, beq_self_eq_true, cond_true, cond_false, Prod.mk.injEq, and_self, reduceCtorEq, BEq.rfl, Bool.and_true, Bool.true_and, Bool.and_false, Bool.false_and]
    refine ⟨fun _ => by unfold fits at hf1; constructor <;> omega, ?_⟩
    refine ⟨_, fun _ => rising_ok t.nCh (sortI t.ch t.nCh) 0 ((t.nOpt : Int) - 1), ?_, ?_⟩
    focus (first | exact fun _ => rfl | exact fun h0 => absurd h0 (by decide))
    simp only [go_sem, Nat.reduceEqDiff, ↓reduceIte, Bool.false_eq_true, Nat.reduceAdd, Nat.reduceSub, Nat.reduceBNe, Nat.reduceBEq, Nat.reduceLT, Nat.reduceLeDiff, Nat.reduceMul, Nat.zero_lt_succ, Nat.lt_add_one, Nat.zero_lt_one, Int.reduceToNat, false_implies, true_implies, or_self, or_false, false_or, or_true, true_or, Nat.add_le_add_iff_right, true_and, and_true, forall_const, implies_true, List.contains_cons, List.contains_nil, List.all_cons, List.all_nil, bne_self_eq_false, Option.isSome_none, Option.isSome_some, Bool.or_false, Bool.false_or, Bool.true_or, Bool.or_true, ne_eq, not_false_eq_true, not_true_eq_false, beq_self_eq_true, cond_true, cond_false, Prod.mk.injEq, and_self, reduceCtorEq, BEq.rfl, Bool.and_true, Bool.true_and, Bool.and_false, Bool.false_and]
    simp only [hk, hk2, hk3, cond_true, cond_false]
    cases decide (2 ≤ (t.nOpt : Int)) <;> simp
  · refine ⟨_, fun _ => within_ok t.value (-9999999) 9999999, ?_, ?_⟩
    focus (first | exact fun _ => rfl | exact fun h0 => absurd h0 (by decide))
    simp only [go_sem, Nat.reduceEqDiff, ↓reduceIte, Bool.false_eq_true, Nat.reduceAdd, Nat.reduceSub, Nat.reduceBNe, Nat.reduceBEq, Nat.reduceLT, Nat.reduceLeDiff, Nat.reduceMul, Nat.zero_lt_succ, Nat.lt_add_one, Nat.zero_lt_one, Int.reduceToNat, false_implies, true_implies, or_self, or_false, false_or, or_true, true_or, Nat.add_le_add_iff_right, true_and, and_true, forall_const, implies_true, List.contains_cons, List.contains_nil, List.all_cons, List.all_nil, bne_self_eq_false, Option.isSome_none, Option.isSome_some, Bool.or_false, Bool.false_or, Bool.true_or, Bool.or_true, ne_eq, not_false_eq_true, not_true_eq_false, beq_self_eq_true, cond_true, cond_false, Prod.mk.injEq, and_self, reduceCtorEq, BEq.rfl, Bool.and_true, Bool.true_and, Bool.and_false, Bool.false_and]
    refine ⟨_, fun _ => within_ok t.tol 0 9999999, ?_, ?_⟩
    focus (first | exact fun _ => rfl | exact fun h0 => absurd h0 (by decide))
    simp only [go_sem, Nat.reduceEqDiff, ↓reduceIte, Bool.false_eq_true, Nat.reduceAdd, Nat.reduceSub, Nat.reduceBNe, Nat.reduceBEq, Nat.reduceLT, Nat.reduceLeDiff, Nat.reduceMul, Nat.zero_lt_succ, Nat.lt_add_one, Nat.zero_lt_one, Int.reduceToNat, false_implies, true_implies, or_self, or_false, false_or, or_true, true_or, Nat.add_le_add_iff_right, true_and, and_true, forall_const, implies_true, List.contains_cons, List.contains_nil, List.all_cons, List.all_nil, bne_self_eq_false, Option.isSome_none, Option.isSome_some, Bool.or_false, Bool.false_or, Bool.true_or, Bool.or_true, ne_eq, not_false_eq_true, not_true_eq_false, beq_self_eq_true, cond_true, cond_false, Prod.mk.injEq, and_self, reduceCtorEq, BEq.rfl, Bool.and_true, Bool.true_and, Bool.and_false, Bool.false_and]
    simp only [hk, hk2, hk3, hk4, cond_true, cond_false]
    cases inR t.value (-9999999) 9999999 <;> simp
  · refine ⟨_, fun _ => texts_ok t.nTx t.tx, ?_, ?_⟩
    focus (first | exact fun _ => rfl | exact fun h0 => absurd h0 (by decide))
    simp only [go_sem, Nat.reduceEqDiff, ↓reduceIte, Bool.false_eq_true, Nat.reduceAdd, Nat.reduceSub, Nat.reduceBNe, Nat.reduceBEq, Nat.reduceLT, Nat.reduceLeDiff, Nat.reduceMul, Nat.zero_lt_succ, Nat.lt_add_one, Nat.zero_lt_one, Int.reduceToNat, false_implies, true_implies, or_self, or_false, false_or, or_true, true_or, Nat.add_le_add_iff_right, true_and, and_true, forall_const, implies_true, List.contains_cons, List.contains_nil, List.all_cons, List.all_nil, bne_self_eq_false, Option.isSome_none, Option.isSome_some, Bool.or_false, Bool.false_or, Bool.true_or, Bool.or_true, ne_eq, not_false_eq_true, not_true_eq_false, beq_self_eq_true, cond_true, cond_false, Prod.mk.injEq, and_self, reduceCtorEq, BEq.rfl, Bool.and_true, Bool.true_and, Bool.and_false, Bool.false_and]
    simp only [hk, hk2, hk3, hk4, hk5, cond_true, cond_false]
  · simp only [hk, hk2, hk3, hk4, hk5, cond_true, cond_false]
end Go.Proofs.YtnhpgmmhfgdmjaaGreat.P14

/- Proved here: contracts of functions of this chapter: called with these values, each returns these values and changes nothing that was. Conditions: none but those that each theorem names. -/
import Derived.Test.YtnhpgmmhfgdmjaaGreatW14
set_option linter.unusedVariables false
set_option linter.unusedSimpArgs false
open Go Go.Proofs Go.Ev
namespace Go.Proofs.YtnhpgmmhfgdmjaaGreat.P14
set_option maxRecDepth 100000
def letB (c : Int) : Bool := bif bif decide (97 ≤ c) then decide (c ≤ 122) else false then true else bif decide (48 ≤ c) then decide (c ≤ 57) else false
def gapB (b : ByteArray) (i : Nat) : Bool := ((bget b i : Int) == 32) && decide (0 < i) && decide (i + 1 < b.size) && !((bget b (i - 1) : Int) == 32)
def nB (b : ByteArray) (i : Nat) : Bool := letB (bget b i) || gapB b i
def norR (b : ByteArray) : Bool := allN (nB b) b.size && decide (0 < (b.size : Int))
theorem letB_iff {c : Int} : letB c = true ↔ (97 ≤ c ∧ c ≤ 122) ∨ (48 ≤ c ∧ c ≤ 57) := by
  unfold letB
  simp only [Bool.cond_eq_ite, Bool.if_true_left, Bool.if_false_right, Bool.or_eq_true, Bool.and_eq_true, decide_eq_true_eq, Bool.decide_eq_true]
theorem gapB_iff {b : ByteArray} {i : Nat} : gapB b i = true ↔ bget b i = 32 ∧ 0 < i ∧ i + 1 < b.size ∧ bget b (i - 1) ≠ 32 := by
  unfold gapB
  simp only [Bool.and_eq_true, beq_iff_eq, decide_eq_true_eq, Bool.not_eq_true', beq_eq_false_iff_ne, ne_eq]
  omega
theorem nB_iff {b : ByteArray} {i : Nat} : nB b i = true ↔ letB (bget b i) = true ∨ gapB b i = true := by
  unfold nB
  rw [Bool.or_eq_true]
theorem nor_bad {b : ByteArray} {i : Nat} (h : i < b.size) (hp : nB b i = false) : [DV.bool false] = [DV.bool (norR b)] := by
  simp only [norR, allN_no h hp, Bool.false_and]
theorem normalized_ok (b : ByteArray) : FnD Tryz.prog 87 [.d (.str b)] [.bool (norR b)] := by
  refine fnD_intro (H := { nt := Go.Func.ntmps Tryz.f87 }) Tryz.func87 rfl rfl rfl rfl (Nat.le_of_ble_eq_true rfl) (okC_tri (by kernel_rfl) _ _ _ _ (by kernel_rfl) ?_)
  simp only [go_sem, Nat.reduceEqDiff, ↓reduceIte, Bool.false_eq_true, Nat.reduceAdd, Nat.reduceSub, Nat.reduceBNe, Nat.reduceBEq, Nat.reduceLT, Nat.reduceLeDiff, Nat.reduceMul, Nat.zero_lt_succ, Nat.lt_add_one, Nat.zero_lt_one, Int.reduceToNat, false_implies, true_implies, or_self, or_false, false_or, or_true, true_or, Nat.add_le_add_iff_right, true_and, and_true, forall_const, implies_true, List.contains_cons, List.contains_nil, List.all_cons, List.all_nil, bne_self_eq_false, Option.isSome_none, Option.isSome_some, Bool.or_false, Bool.false_or, Bool.true_or, Bool.or_true, ne_eq, not_false_eq_true, not_true_eq_false, beq_self_eq_true, cond_true, cond_false, Prod.mk.injEq, and_self, reduceCtorEq, BEq.rfl, Bool.and_true, Bool.true_and, Bool.and_false, Bool.false_and, Tryz.f87]
  refine ⟨{ i : Nat // i ≤ b.size ∧ ∀ j, j < i → nB b j = true }, fun i => ([(3, .d (.int .i64 i)), (2, .d (.bool false)), (0, .d (.str b))], []), fun i => b.size - i, ⟨0, Nat.zero_le _, fun j h => absurd h (by omega)⟩, ?_, ?_⟩
  · simp only [go_sem, Nat.reduceEqDiff, ↓reduceIte, Bool.false_eq_true, Nat.reduceAdd, Nat.reduceSub, Nat.reduceBNe, Nat.reduceBEq, Nat.reduceLT, Nat.reduceLeDiff, Nat.reduceMul, Nat.zero_lt_succ, Nat.lt_add_one, Nat.zero_lt_one, Int.reduceToNat, false_implies, true_implies, or_self, or_false, false_or, or_true, true_or, Nat.add_le_add_iff_right, true_and, and_true, forall_const, implies_true, List.contains_cons, List.contains_nil, List.all_cons, List.all_nil, bne_self_eq_false, Option.isSome_none, Option.isSome_some, Bool.or_false, Bool.false_or, Bool.true_or, Bool.or_true, ne_eq, not_false_eq_true, not_true_eq_false, beq_self_eq_true, cond_true, cond_false, Prod.mk.injEq, and_self, reduceCtorEq, BEq.rfl, Bool.and_true, Bool.true_and, Bool.and_false, Bool.false_and]
    rfl
  · rintro ⟨i, hi, hok⟩
    simp only [go_sem, Nat.reduceEqDiff, ↓reduceIte, Bool.false_eq_true, Nat.reduceAdd, Nat.reduceSub, Nat.reduceBNe, Nat.reduceBEq, Nat.reduceLT, Nat.reduceLeDiff, Nat.reduceMul, Nat.zero_lt_succ, Nat.lt_add_one, Nat.zero_lt_one, Int.reduceToNat, false_implies, true_implies, or_self, or_false, false_or, or_true, true_or, Nat.add_le_add_iff_right, true_and, and_true, forall_const, implies_true, List.contains_cons, List.contains_nil, List.all_cons, List.all_nil, bne_self_eq_false, Option.isSome_none, Option.isSome_some, Bool.or_false, Bool.false_or, Bool.true_or, Bool.or_true, ne_eq, not_false_eq_true, not_true_eq_false, beq_self_eq_true, cond_true, cond_false, Prod.mk.injEq, and_self, reduceCtorEq, BEq.rfl, Bool.and_true, Bool.true_and, Bool.and_false, Bool.false_and, decide_eq_true_eq]
    intro hf
    unfold fits at hf
    have e1 : 0 < (i : Int) → ((i : Int) - 1).toNat = i - 1 := fun h => by omega
    have next : nB b i = true → ∀ j, j < i + 1 → nB b j = true := fun h j hj => by
      by_cases e : j = i
      · subst e; exact h
      · exact hok j (by omega)
    have hL : (bif bif decide (97 ≤ (bget b i : Int)) then decide ((bget b i : Int) ≤ 122) else false then true else bif decide (48 ≤ (bget b i : Int)) then decide ((bget b i : Int) ≤ 57) else false) = letB (bget b i) := rfl
    rw [hL]
    refine ⟨fun hlt => ⟨by omega, fun h => ⟨by constructor <;> omega, ⟨i + 1, by omega, next (nB_iff.2 (.inl h))⟩, by simp only; omega, by simp⟩, fun h => ⟨fun h2 => ?_, fun h2 => ?_, fun h2 => ?_, fun h2 => ⟨by constructor <;> omega, ⟨i + 1, by omega, next (nB_iff.2 (.inr (gapB_iff.2 ?_)))⟩, by simp only; omega, by simp⟩, fun h2 => nor_bad (i := i) (by omega) ?_⟩⟩, fun hge _ => ?_⟩
    · constructor <;> omega
    · simp only [Bool.cond_eq_ite, Bool.if_true_left, Bool.if_false_right, Bool.or_eq_true, Bool.and_eq_true, decide_eq_true_eq, Bool.decide_eq_true, beq_iff_eq] at h2
      omega
    · simp only [Bool.cond_eq_ite, Bool.if_true_left, Bool.if_false_right, Bool.or_eq_true, Bool.and_eq_true, decide_eq_true_eq, Bool.decide_eq_true, beq_iff_eq] at h2
      omega
    · simp only [Bool.cond_eq_ite, Bool.if_true_left, Bool.if_false_right, Bool.or_eq_true, Bool.and_eq_true, decide_eq_true_eq, Bool.decide_eq_true, beq_iff_eq, bne_iff_ne, ne_eq] at h2
      rw [e1 (by omega)] at h2
      omega
    · cases hn : nB b i with
      | false => rfl
      | true =>
        rcases nB_iff.1 hn with h3 | h3
        · rw [h3] at h; cases h
        · have h3 := gapB_iff.1 h3
          have : (bif bif bif (bget b i : Int) == 32 then decide (0 < (i : Int)) else false then decide ((i : Int) + 1 < (b.size : Int)) else false then (bget b ((i : Int) - 1).toNat : Int) != 32 else false) = true := by
            simp only [Bool.cond_eq_ite, Bool.if_true_left, Bool.if_false_right, Bool.or_eq_true, Bool.and_eq_true, decide_eq_true_eq, Bool.decide_eq_true, beq_iff_eq, bne_iff_ne, ne_eq]
            rw [e1 (by omega)]
            omega
          rw [this] at h2
          cases h2
    · have : i = b.size := by simp at hge; omega
      subst this
      simp only [norR, allN_yes hok, Bool.true_and]
theorem rnormalized_ok (b : ByteArray) : FnD Tryz.prog 76 [.d (.str b)] [.bool (norR b)] := by
  refine fnD_intro (H := { nt := Go.Func.ntmps Tryz.f76 }) Tryz.func76 rfl rfl rfl rfl (Nat.le_of_ble_eq_true rfl) (okC_tri (by kernel_rfl) _ _ _ _ (by kernel_rfl) ?_)
  simp only [go_sem, Nat.reduceEqDiff, ↓reduceIte, Bool.false_eq_true, Nat.reduceAdd, Nat.reduceSub, Nat.reduceBNe, Nat.reduceBEq, Nat.reduceLT, Nat.reduceLeDiff, Nat.reduceMul, Nat.zero_lt_succ, Nat.lt_add_one, Nat.zero_lt_one, Int.reduceToNat, false_implies, true_implies, or_self, or_false, false_or, or_true, true_or, Nat.add_le_add_iff_right, true_and, and_true, forall_const, implies_true, List.contains_cons, List.contains_nil, List.all_cons, List.all_nil, bne_self_eq_false, Option.isSome_none, Option.isSome_some, Bool.or_false, Bool.false_or, Bool.true_or, Bool.or_true, ne_eq, not_false_eq_true, not_true_eq_false, beq_self_eq_true, cond_true, cond_false, Prod.mk.injEq, and_self, reduceCtorEq, BEq.rfl, Bool.and_true, Bool.true_and, Bool.and_false, Bool.false_and, Tryz.f76]
  refine ⟨{ i : Nat // i ≤ b.size ∧ ∀ j, j < i → nB b j = true }, fun i => ([(3, .d (.int .i64 i)), (2, .d (.bool false)), (0, .d (.str b))], []), fun i => b.size - i, ⟨0, Nat.zero_le _, fun j h => absurd h (by omega)⟩, ?_, ?_⟩
  · simp only [go_sem, Nat.reduceEqDiff, ↓reduceIte, Bool.false_eq_true, Nat.reduceAdd, Nat.reduceSub, Nat.reduceBNe, Nat.reduceBEq, Nat.reduceLT, Nat.reduceLeDiff, Nat.reduceMul, Nat.zero_lt_succ, Nat.lt_add_one, Nat.zero_lt_one, Int.reduceToNat, false_implies, true_implies, or_self, or_false, false_or, or_true, true_or, Nat.add_le_add_iff_right, true_and, and_true, forall_const, implies_true, List.contains_cons, List.contains_nil, List.all_cons, List.all_nil, bne_self_eq_false, Option.isSome_none, Option.isSome_some, Bool.or_false, Bool.false_or, Bool.true_or, Bool.or_true, ne_eq, not_false_eq_true, not_true_eq_false, beq_self_eq_true, cond_true, cond_false, Prod.mk.injEq, and_self, reduceCtorEq, BEq.rfl, Bool.and_true, Bool.true_and, Bool.and_false, Bool.false_and]
    rfl
  · rintro ⟨i, hi, hok⟩
    simp only [go_sem, Nat.reduceEqDiff, ↓reduceIte, Bool.false_eq_true, Nat.reduceAdd, Nat.reduceSub, Nat.reduceBNe, Nat.reduceBEq, Nat.reduceLT, Nat.reduceLeDiff, Nat.reduceMul, Nat.zero_lt_succ, Nat.lt_add_one, Nat.zero_lt_one, Int.reduceToNat, false_implies, true_implies, or_self, or_false, false_or, or_true, true_or, Nat.add_le_add_iff_right, true_and, and_true, forall_const, implies_true, List.contains_cons, List.contains_nil, List.all_cons, List.all_nil, bne_self_eq_false, Option.isSome_none, Option.isSome_some, Bool.or_false, Bool.false_or, Bool.true_or, Bool.or_true, ne_eq, not_false_eq_true, not_true_eq_false, beq_self_eq_true, cond_true, cond_false, Prod.mk.injEq, and_self, reduceCtorEq, BEq.rfl, Bool.and_true, Bool.true_and, Bool.and_false, Bool.false_and, decide_eq_true_eq]
    intro hf
    unfold fits at hf
    have e1 : 0 < (i : Int) → ((i : Int) - 1).toNat = i - 1 := fun h => by omega
    have next : nB b i = true → ∀ j, j < i + 1 → nB b j = true := fun h j hj => by
      by_cases e : j = i
      · subst e; exact h
      · exact hok j (by omega)
    have hL : (bif bif decide (97 ≤ (bget b i : Int)) then decide ((bget b i : Int) ≤ 122) else false then true else bif decide (48 ≤ (bget b i : Int)) then decide ((bget b i : Int) ≤ 57) else false) = letB (bget b i) := rfl
    rw [hL]
    refine ⟨fun hlt => ⟨by omega, fun h => nor_bad (i := i) (by omega) ?_, fun h => ⟨fun h2 => ?_, fun h2 => ?_, fun h2 => ?_, fun h2 => nor_bad (i := i) (by omega) ?_, fun h2 => ⟨by constructor <;> omega, ⟨i + 1, by omega, next ?_⟩, by simp only; omega, by simp⟩⟩⟩, fun hge _ => ?_⟩
    · cases hn : nB b i with
      | false => rfl
      | true =>
        rcases nB_iff.1 hn with h3 | h3
        · rw [h3] at h; cases h
        · have h3 := gapB_iff.1 h3
          simp only [Bool.cond_eq_ite, Bool.if_false_right, Bool.and_eq_true, Bool.decide_eq_true, Bool.not_eq_true', bne_iff_ne, ne_eq] at h
          omega
    · omega
    · simp only [Bool.cond_eq_ite, Bool.if_true_left, Bool.or_eq_false_iff, Bool.decide_eq_true, beq_iff_eq, beq_eq_false_iff_ne, ne_eq, decide_eq_true_eq, decide_eq_false_iff_not] at h2
      omega
    · simp only [Bool.cond_eq_ite, Bool.if_true_left, Bool.or_eq_false_iff, Bool.decide_eq_true, beq_iff_eq, beq_eq_false_iff_ne, ne_eq, decide_eq_true_eq, decide_eq_false_iff_not] at h2
      omega
    · cases hn : nB b i with
      | false => rfl
      | true =>
        simp only [Bool.cond_eq_ite, Bool.if_true_left, Bool.if_false_right, Bool.or_eq_true, Bool.and_eq_true, Bool.decide_eq_true, beq_iff_eq, decide_eq_true_eq, decide_eq_false_iff_not] at h2
        rcases nB_iff.1 hn with h3 | h3
        · have := letB_iff.1 h3
          omega
        · have h3 := gapB_iff.1 h3
          rw [e1 (by omega)] at h2
          omega
    · refine nB_iff.2 ?_
      cases hl : letB (bget b i) with
      | true => exact .inl rfl
      | false =>
        refine .inr (gapB_iff.2 ?_)
        rw [hl] at h
        simp only [Bool.not_false, cond_true, bne_eq_false_iff_eq] at h
        have h32 : ((bget b i : Int) == 32) = true := by simpa using h
        rw [h32] at h2
        simp only [Bool.cond_eq_ite, if_true, Bool.if_true_left, Bool.or_eq_false_iff, Bool.decide_eq_true, beq_eq_false_iff_ne, ne_eq] at h2
        have h0 : 0 < (i : Int) := by omega
        rw [e1 h0] at h2
        omega
    · have : i = b.size := by simp at hge; omega
      subst this
      simp only [norR, allN_yes hok, Bool.true_and]
end Go.Proofs.YtnhpgmmhfgdmjaaGreat.P14
/- Proved here: contracts of functions of this chapter: called with these values, each returns these values and changes nothing that was. Conditions: none but those that each theorem names. -/
set_option linter.unusedVariables false
set_option linter.unusedSimpArgs false
open Go Go.Proofs Go.Ev
namespace Go.Proofs.YtnhpgmmhfgdmjaaGreat.P14
set_option maxRecDepth 100000
def txB (a : Nat → ByteArray) (i : Nat) : Bool := !(bif !norR (a i) then true else bif decide (0 < (i : Int)) then strLt (a i) (a (i - 1)) || (a i).toList == (a (i - 1)).toList else false)
def txR (n : Nat) (a : Nat → ByteArray) : Bool := allN (txB a) n && decide (0 < (n : Int))
theorem texts_ok (n : Nat) (a : Nat → ByteArray) : FnD Tryz.prog 72 [.d (sD n a)] [.bool (txR n a)] := by
  refine fnD_intro (H := { nt := Go.Func.ntmps Tryz.f72 }) Tryz.func72 rfl rfl rfl rfl (Nat.le_of_ble_eq_true rfl) (okC_tri (by kernel_rfl) _ _ _ _ (by kernel_rfl) ?_)
  simp only [go_sem, Nat.reduceEqDiff, ↓reduceIte, Bool.false_eq_true, Nat.reduceAdd, Nat.reduceSub, Nat.reduceBNe, Nat.reduceBEq, Nat.reduceLT, Nat.reduceLeDiff, Nat.reduceMul, Nat.zero_lt_succ, Nat.lt_add_one, Nat.zero_lt_one, Int.reduceToNat, false_implies, true_implies, or_self, or_false, false_or, or_true, true_or, Nat.add_le_add_iff_right, true_and, and_true, forall_const, implies_true, List.contains_cons, List.contains_nil, List.all_cons, List.all_nil, bne_self_eq_false, Option.isSome_none, Option.isSome_some, Bool.or_false, Bool.false_or, Bool.true_or, Bool.or_true, ne_eq, not_false_eq_true, not_true_eq_false, beq_self_eq_true, cond_true, cond_false, Prod.mk.injEq, and_self, reduceCtorEq, BEq.rfl, Bool.and_true, Bool.true_and, Bool.and_false, Bool.false_and, Tryz.f72, sD]
  intro hn
  unfold fits at hn
  refine ⟨{ i : Nat // i ≤ n ∧ ∀ j, j < i → txB a j = true }, fun i => ([(7, .d (.int .i64 i)), (6, .d (.int .i64 n)), (5, .d (.list 1 n fun i => .str (a i))), (2, .d (.bool false)), (0, .d (.list 1 n fun i => .str (a i)))], []), fun i => n - i, ⟨0, Nat.zero_le _, fun j h => absurd h (by omega)⟩, ?_, ?_⟩
  · simp only [go_sem, Nat.reduceEqDiff, ↓reduceIte, Bool.false_eq_true, Nat.reduceAdd, Nat.reduceSub, Nat.reduceBNe, Nat.reduceBEq, Nat.reduceLT, Nat.reduceLeDiff, Nat.reduceMul, Nat.zero_lt_succ, Nat.lt_add_one, Nat.zero_lt_one, Int.reduceToNat, false_implies, true_implies, or_self, or_false, false_or, or_true, true_or, Nat.add_le_add_iff_right, true_and, and_true, forall_const, implies_true, List.contains_cons, List.contains_nil, List.all_cons, List.all_nil, bne_self_eq_false, Option.isSome_none, Option.isSome_some, Bool.or_false, Bool.false_or, Bool.true_or, Bool.or_true, ne_eq, not_false_eq_true, not_true_eq_false, beq_self_eq_true, cond_true, cond_false, Prod.mk.injEq, and_self, reduceCtorEq, BEq.rfl, Bool.and_true, Bool.true_and, Bool.and_false, Bool.false_and]
    rfl
  · rintro ⟨i, hi', hok⟩
    simp only [go_sem, Nat.reduceEqDiff, ↓reduceIte, Bool.false_eq_true, Nat.reduceAdd, Nat.reduceSub, Nat.reduceBNe, Nat.reduceBEq, Nat.reduceLT, Nat.reduceLeDiff, Nat.reduceMul, Nat.zero_lt_succ, Nat.lt_add_one, Nat.zero_lt_one, Int.reduceToNat, false_implies, true_implies, or_self, or_false, false_or, or_true, true_or, Nat.add_le_add_iff_right, true_and, and_true, forall_const, implies_true, List.contains_cons, List.contains_nil, List.all_cons, List.all_nil, bne_self_eq_false, Option.isSome_none, Option.isSome_some, Bool.or_false, Bool.false_or, Bool.true_or, Bool.or_true, ne_eq, not_false_eq_true, not_true_eq_false, beq_self_eq_true, cond_true, cond_false, Prod.mk.injEq, and_self, reduceCtorEq, BEq.rfl, Bool.and_true, Bool.true_and, Bool.and_false, Bool.false_and, decide_eq_true_eq]
    refine ⟨fun hlt => ⟨by omega, ?_⟩, fun hge => ?_⟩
    · refine ⟨_, fun _ => normalized_ok (a i), ?_, ?_⟩
      focus (first | exact fun _ => rfl | exact fun h0 => absurd h0 (by decide))
      simp only [go_sem, Nat.reduceEqDiff, ↓reduceIte, Bool.false_eq_true, Nat.reduceAdd, Nat.reduceSub, Nat.reduceBNe, Nat.reduceBEq, Nat.reduceLT, Nat.reduceLeDiff, Nat.reduceMul, Nat.zero_lt_succ, Nat.lt_add_one, Nat.zero_lt_one, Int.reduceToNat, false_implies, true_implies, or_self, or_false, false_or, or_true, true_or, Nat.add_le_add_iff_right, true_and, and_true, forall_const, implies_true, List.contains_cons, List.contains_nil, List.all_cons, List.all_nil, bne_self_eq_false, Option.isSome_none, Option.isSome_some, Bool.or_false, Bool.false_or, Bool.true_or, Bool.or_true, ne_eq, not_false_eq_true, not_true_eq_false, beq_self_eq_true, cond_true, cond_false, Prod.mk.injEq, and_self, reduceCtorEq, BEq.rfl, Bool.and_true, Bool.true_and, Bool.and_false, Bool.false_and]
      have e1 : ((i : Int) - 1).toNat = i - 1 := by omega
      rw [e1]
      refine ⟨fun h => ?_, fun h => ?_, fun hbad => ?_, fun hgood => ⟨by constructor <;> omega, ⟨i + 1, by omega, fun j hj => ?_⟩, by simp only; omega, by simp⟩⟩
      · have := h.2; simp at this; omega
      · have := h.2; simp at this; omega
      · have hp : txB a i = false := by simp only [txB, hbad]; rfl
        simp only [txR, allN_no (show i < n by omega) hp, Bool.false_and]
      · by_cases h : j = i
        · subst h; simp only [txB, hgood]; rfl
        · exact hok j (by omega)
    · have : i = n := by simp at hge; omega
      subst this
      intro _
      simp only [txR, allN_yes hok, Bool.true_and]
/-! permutations -/
def timesR (a : Nat → Int) (k : Int) : Nat → Nat
  | 0 => 0
  | i + 1 => timesR a k i + (bif a i == k then 1 else 0)
theorem times_le (a : Nat → Int) (k : Int) : ∀ n, timesR a k n ≤ n
  | 0 => Nat.le_refl 0
  | n + 1 => by
    have := times_le a k n
    simp only [timesR]
    cases a n == k <;> simp <;> omega
def perR (n : Nat) (a : Nat → Int) (m : Nat) : Bool := (n == m) && allN (fun k => timesR a k n == 1) m
theorem permutation_ok (n : Nat) (a : Nat → Int) (m : Nat) : FnD Tryz.prog 75 [.d (nD n a), .d (.int .i64 m)] [.bool (perR n a m)] := by
  refine fnD_intro (H := { nt := Go.Func.ntmps Tryz.f75 }) Tryz.func75 rfl rfl rfl rfl (Nat.le_of_ble_eq_true rfl) (okC_tri (by kernel_rfl) _ _ _ _ (by kernel_rfl) ?_)
  simp only [go_sem, Nat.reduceEqDiff, ↓reduceIte, Bool.false_eq_true, Nat.reduceAdd, Nat.reduceSub, Nat.reduceBNe, Nat.reduceBEq, Nat.reduceLT, Nat.reduceLeDiff, Nat.reduceMul, Nat.zero_lt_succ, Nat.lt_add_one, Nat.zero_lt_one, Int.reduceToNat, false_implies, true_implies, or_self, or_false, false_or, or_true, true_or, Nat.add_le_add_iff_right, true_and, and_true, forall_const, implies_true, List.contains_cons, List.contains_nil, List.all_cons, List.all_nil, bne_self_eq_false, Option.isSome_none, Option.isSome_some, Bool.or_false, Bool.false_or, Bool.true_or, Bool.or_true, ne_eq, not_false_eq_true, not_true_eq_false, beq_self_eq_true, cond_true, cond_false, Prod.mk.injEq, and_self, reduceCtorEq, BEq.rfl, Bool.and_true, Bool.true_and, Bool.and_false, Bool.false_and, Tryz.f75, nD]
  intro hn
  unfold fits at hn
  refine ⟨fun h => ?_, fun h => ?_⟩
  · have : n ≠ m := fun e => by subst e; simp at h
    simp [perR, this]
  · have : n = m := by simp at h; omega
    subst this
    refine ⟨{ k : Nat // k ≤ n ∧ ∀ j, j < k → (timesR a j n == 1) = true }, fun k => ([(5, .d (.int .i64 k)), (4, .d (.bool false)), (0, .d (.list 1 n fun i => .int .i64 (a i))), (1, .d (.int .i64 n))], []), fun k => n - k, ⟨0, Nat.zero_le _, fun j h => absurd h (by omega)⟩, ?_, ?_⟩
    · simp only [go_sem, Nat.reduceEqDiff, ↓reduceIte, Bool.false_eq_true, Nat.reduceAdd, Nat.reduceSub, Nat.reduceBNe, Nat.reduceBEq, Nat.reduceLT, Nat.reduceLeDiff, Nat.reduceMul, Nat.zero_lt_succ, Nat.lt_add_one, Nat.zero_lt_one, Int.reduceToNat, false_implies, true_implies, or_self, or_false, false_or, or_true, true_or, Nat.add_le_add_iff_right, true_and, and_true, forall_const, implies_true, List.contains_cons, List.contains_nil, List.all_cons, List.all_nil, bne_self_eq_false, Option.isSome_none, Option.isSome_some, Bool.or_false, Bool.false_or, Bool.true_or, Bool.or_true, ne_eq, not_false_eq_true, not_true_eq_false, beq_self_eq_true, cond_true, cond_false, Prod.mk.injEq, and_self, reduceCtorEq, BEq.rfl, Bool.and_true, Bool.true_and, Bool.and_false, Bool.false_and]
      rfl
    · rintro ⟨k, hk, hok⟩
      simp only [go_sem, Nat.reduceEqDiff, ↓reduceIte, Bool.false_eq_true, Nat.reduceAdd, Nat.reduceSub, Nat.reduceBNe, Nat.reduceBEq, Nat.reduceLT, Nat.reduceLeDiff, Nat.reduceMul, Nat.zero_lt_succ, Nat.lt_add_one, Nat.zero_lt_one, Int.reduceToNat, false_implies, true_implies, or_self, or_false, false_or, or_true, true_or, Nat.add_le_add_iff_right, true_and, and_true, forall_const, implies_true, List.contains_cons, List.contains_nil, List.all_cons, List.all_nil, bne_self_eq_false, Option.isSome_none, Option.isSome_some, Bool.or_false, Bool.false_or, Bool.true_or, Bool.or_true, ne_eq, not_false_eq_true, not_true_eq_false, beq_self_eq_true, cond_true, cond_false, Prod.mk.injEq, and_self, reduceCtorEq, BEq.rfl, Bool.and_true, Bool.true_and, Bool.and_false, Bool.false_and, decide_eq_true_eq]
      refine ⟨fun hlt _ => ?_, fun hge => ?_⟩
      · refine ⟨{ i : Nat // i ≤ n }, fun i => ([(20, .d (.int .i64 i)), (19, .d (.int .i64 n)), (18, .d (.list 1 n fun i => .int .i64 (a i))), (6, .d (.int .i64 (timesR a k i))), (5, .d (.int .i64 k)), (4, .d (.bool false)), (0, .d (.list 1 n fun i => .int .i64 (a i))), (1, .d (.int .i64 n))], []), fun i => n - i, ⟨0, Nat.zero_le _⟩, ?_, ?_⟩
        · simp only [go_sem, Nat.reduceEqDiff, ↓reduceIte, Bool.false_eq_true, Nat.reduceAdd, Nat.reduceSub, Nat.reduceBNe, Nat.reduceBEq, Nat.reduceLT, Nat.reduceLeDiff, Nat.reduceMul, Nat.zero_lt_succ, Nat.lt_add_one, Nat.zero_lt_one, Int.reduceToNat, false_implies, true_implies, or_self, or_false, false_or, or_true, true_or, Nat.add_le_add_iff_right, true_and, and_true, forall_const, implies_true, List.contains_cons, List.contains_nil, List.all_cons, List.all_nil, bne_self_eq_false, Option.isSome_none, Option.isSome_some, Bool.or_false, Bool.false_or, Bool.true_or, Bool.or_true, ne_eq, not_false_eq_true, not_true_eq_false, beq_self_eq_true, cond_true, cond_false, Prod.mk.injEq, and_self, reduceCtorEq, BEq.rfl, Bool.and_true, Bool.true_and, Bool.and_false, Bool.false_and]
          exact ⟨rfl, rfl⟩
        · rintro ⟨i, hi⟩
          simp only [go_sem, Nat.reduceEqDiff, ↓reduceIte, Bool.false_eq_true, Nat.reduceAdd, Nat.reduceSub, Nat.reduceBNe, Nat.reduceBEq, Nat.reduceLT, Nat.reduceLeDiff, Nat.reduceMul, Nat.zero_lt_succ, Nat.lt_add_one, Nat.zero_lt_one, Int.reduceToNat, false_implies, true_implies, or_self, or_false, false_or, or_true, true_or, Nat.add_le_add_iff_right, true_and, and_true, forall_const, implies_true, List.contains_cons, List.contains_nil, List.all_cons, List.all_nil, bne_self_eq_false, Option.isSome_none, Option.isSome_some, Bool.or_false, Bool.false_or, Bool.true_or, Bool.or_true, ne_eq, not_false_eq_true, not_true_eq_false, beq_self_eq_true, cond_true, cond_false, Prod.mk.injEq, and_self, reduceCtorEq, BEq.rfl, Bool.and_true, Bool.true_and, Bool.and_false, Bool.false_and, decide_eq_true_eq]
          have ht := times_le a k i
          refine ⟨fun hlt2 => ⟨by omega, fun he => ⟨by omega, by constructor <;> omega, ⟨i + 1, by omega⟩, by simp only; omega, by simp, ?_⟩, fun he => ⟨by constructor <;> omega, ⟨i + 1, by omega⟩, by simp only; omega, by simp, ?_⟩⟩, fun hge => ?_⟩
          · simp only [timesR, he, cond_true]
            rfl
          · simp only [timesR, he, cond_false]
            rfl
          · have : i = n := by simp at hge; omega
            subst this
            refine ⟨fun hb => ?_, fun hb => ⟨by constructor <;> omega, ⟨k + 1, by omega, fun j hj => ?_⟩, by simp only; omega, by simp⟩⟩
            · have hp : (timesR a k i == 1) = false := by
                have : (timesR a k i : Int) ≠ 1 := by simpa using hb
                simp
                omega
              simp only [perR, allN_no (p := fun k => timesR a k i == 1) (show k < i by omega) hp, Bool.and_false]
            · by_cases e : j = k
              · subst e
                have : (timesR a j i : Int) = 1 := by simpa using hb
                simp
                omega
              · exact hok j (by omega)
      · have : k = n := by simp at hge; omega
        subst this
        simp only [perR, allN_yes (p := fun j => timesR a j k == 1) hok, beq_self_eq_true, Bool.and_self]
end Go.Proofs.YtnhpgmmhfgdmjaaGreat.P14

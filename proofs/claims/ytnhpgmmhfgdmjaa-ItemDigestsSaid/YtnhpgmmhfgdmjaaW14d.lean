/- Proved here: contracts of functions of this chapter: called with these values, each returns these values and changes nothing that was. Conditions: none but those that each theorem names. -/
import Derived.Test.YtnhpgmmhfgdmjaaW14c
set_option linter.unusedVariables false
set_option linter.unusedSimpArgs false
open Go Go.Proofs Go.Ev
namespace Go.Proofs.Ytnhpgmmhfgdmjaa.P14
set_option maxRecDepth 100000
def txB (a : Nat → ByteArray) (i : Nat) : Bool := !(bif !norR (a i) then true else bif decide (0 < (i : Int)) then strLt (a i) (a (i - 1)) || (a i).toList == (a (i - 1)).toList else false)
def txR (n : Nat) (a : Nat → ByteArray) : Bool := allN (txB a) n && decide (0 < (n : Int))
theorem texts_ok (n : Nat) (a : Nat → ByteArray) : FnD Try.prog 61 [.d (sD n a)] [.bool (txR n a)] := by
  refine fnD_intro (H := { nt := Go.Func.ntmps Try.f61 }) Try.func61 rfl rfl rfl rfl (Nat.le_of_ble_eq_true rfl) (okC_tri (by kernel_rfl) _ _ _ _ (by kernel_rfl) ?_)
  simp only [go_sem, Nat.reduceEqDiff, ↓reduceIte, Bool.false_eq_true, Nat.reduceAdd, Nat.reduceSub, Nat.reduceBNe, Nat.reduceBEq, Nat.reduceLT, Nat.reduceLeDiff, Nat.reduceMul, Nat.zero_lt_succ, Nat.lt_add_one, Nat.zero_lt_one, Int.reduceToNat, false_implies, true_implies, or_self, or_false, false_or, or_true, true_or, Nat.add_le_add_iff_right, true_and, and_true, forall_const, implies_true, List.contains_cons, List.contains_nil, List.all_cons, List.all_nil, bne_self_eq_false, Option.isSome_none, Option.isSome_some, Bool.or_false, Bool.false_or, Bool.true_or, Bool.or_true, ne_eq, not_false_eq_true, not_true_eq_false, beq_self_eq_true, cond_true, cond_false, Prod.mk.injEq, and_self, reduceCtorEq, BEq.rfl, Bool.and_true, Bool.true_and, Bool.and_false, Bool.false_and, Try.f61, sD]
  intro hn
  unfold fits at hn
  refine ⟨{ i : Nat // i ≤ n ∧ ∀ j, j < i → txB a j = true }, fun i => ([(7, .d (.int .i64 i)), (6, .d (.int .i64 n)), (5, .d (.list 1 n fun i => .str (a i))), (2, .d (.bool false)), (0, .d (.list 1 n fun i => .str (a i)))], []), fun i => n - i, ⟨0, Nat.zero_le _, fun j h => absurd h (by omega)⟩, ?_, ?_⟩
  · simp only [go_sem, Nat.reduceEqDiff, ↓reduceIte, Bool.false_eq_true, Nat.reduceAdd, Nat.reduceSub, Nat.reduceBNe, Nat.reduceBEq, Nat.reduceLT, Nat.reduceLeDiff, Nat.reduceMul, Nat.zero_lt_succ, Nat.lt_add_one, Nat.zero_lt_one, Int.reduceToNat, false_implies, true_implies, or_self, or_false, false_or, or_true, true_or, Nat.add_le_add_iff_right, true_and, and_true, forall_const, implies_true, List.contains_cons, List.contains_nil, List.all_cons, List.all_nil, bne_self_eq_false, Option.isSome_none, Option.isSome_some, Bool.or_false, Bool.false_or, Bool.true_or, Bool.or_true, ne_eq, not_false_eq_true, not_true_eq_false, beq_self_eq_true, cond_true, cond_false, Prod.mk.injEq, and_self, reduceCtorEq, BEq.rfl, Bool.and_true, Bool.true_and, Bool.and_false, Bool.false_and]
    rfl
  · rintro ⟨i, hi', hok⟩
    simp only [go_sem, Nat.reduceEqDiff, ↓reduceIte, Bool.false_eq_true, Nat.reduceAdd, Nat.reduceSub, Nat.reduceBNe, Nat.reduceBEq, Nat.reduceLT, Nat.reduceLeDiff, Nat.reduceMul, Nat.zero_lt_succ, Nat.lt_add_one, Nat.zero_lt_one, Int.reduceToNat, false_implies, true_implies, or_self, or_false, false_or, or_true, true_or, Nat.add_le_add_iff_right, true_and, and_true, forall_const, implies_true, List.contains_cons, List.contains_nil, List.all_cons, List.all_nil, bne_self_eq_false, Option.isSome_none, Option.isSome_some, Bool.or_false, Bool.false_or, Bool.true_or, Bool.or_true, ne_eq, not_false_eq_true, not_true_eq_false, beq_self_eq_true, cond_true, cond_false, Prod.mk.injEq, and_self, reduceCtorEq, BEq.rfl, Bool.and_true, Bool.true_and, Bool.and_false, Bool.false_and, decide_eq_true_eq]
    refine ⟨fun hlt => ⟨by omega, ?_⟩, fun hge => ?_⟩
    · refine ⟨_, fun _ => normalized_ok (a i), ?_, ?_⟩
      focus (first | exact fun _ => rfl | exact fun h0 => absurd h0 (by decide))
      simp only [go_sem, Nat.reduceEqDiff, ↓reduceIte, Bool.false_eq_true, Nat.reduceAdd, Nat.reduceSub, Nat.reduceBNe, Nat.reduceBEq, Nat.reduceLT, Nat.reduceLeDiff, Nat.reduceMul, Nat.zero_lt_succ, Nat.lt_add_one, Nat.zero_lt_one, Int.reduceToNat, false_implies, true_implies, or_self, or_false, false_or, or_true, true_or, Nat.add_le_add_iff_right, true_and, and_true, forall_const, implies_true, List.contains_cons, List.contains_nil, List.all_cons, List.all_nil, bne_self_eq_false, Option.isSome_none, Option.isSome_some, Bool.or_false, Bool.false_or, Bool.true_or, Bool.or_true, ne_eq, not_false_eq_true, not_true_eq_false, beq_self_eq_true, cond_true, cond_false, Prod.mk.injEq, and_self, reduceCtorEq, BEq.rfl, Bool.and_true, Bool.true_and, Bool.and_false, Bool.false_and]
      have e1 : ((i : Int) - 1).toNat = i - 1 := by omega
      rw [e1]
      refine ⟨fun h => ?_, fun h => ?_, fun hbad => ?_, fun hgood => ⟨by constructor <;> omega, ⟨i + 1, by omega, fun j hj => ?_⟩, by simp only; omega, by simp⟩⟩
      · have := h.2; simp at this; omega
      · have := h.2; simp at this; omega
      · have hp : txB a i = false := by simp only [txB, hbad]; rfl
        simp only [txR, allN_no (show i < n by omega) hp, Bool.false_and]
      · by_cases h : j = i
        · subst h; simp only [txB, hgood]; rfl
        · exact hok j (by omega)
    · have : i = n := by simp at hge; omega
      subst this
      intro _
      simp only [txR, allN_yes hok, Bool.true_and]
/-! permutations -/
def timesR (a : Nat → Int) (k : Int) : Nat → Nat
  | 0 => 0
  | i + 1 => timesR a k i + (bif a i == k then 1 else 0)
theorem times_le (a : Nat → Int) (k : Int) : ∀ n, timesR a k n ≤ n
  | 0 => Nat.le_refl 0
  | n + 1 => by
    have := times_le a k n
    simp only [timesR]
    cases a n == k <;> simp <;> omega
def perR (n : Nat) (a : Nat → Int) (m : Nat) : Bool := (n == m) && allN (fun k => timesR a k n == 1) m
theorem permutation_ok (n : Nat) (a : Nat → Int) (m : Nat) : FnD Try.prog 69 [.d (nD n a), .d (.int .i64 m)] [.bool (perR n a m)] := by
  refine fnD_intro (H := { nt := Go.Func.ntmps Try.f69 }) Try.func69 rfl rfl rfl rfl (Nat.le_of_ble_eq_true rfl) (okC_tri (by kernel_rfl) _ _ _ _ (by kernel_rfl) ?_)
  simp only [go_sem, Nat.reduceEqDiff, ↓reduceIte, Bool.false_eq_true, Nat.reduceAdd, Nat.reduceSub, Nat.reduceBNe, Nat.reduceBEq, Nat.reduceLT, Nat.reduceLeDiff, Nat.reduceMul, Nat.zero_lt_succ, Nat.lt_add_one, Nat.zero_lt_one, Int.reduceToNat, false_implies, true_implies, or_self, or_false, false_or, or_true, true_or, Nat.add_le_add_iff_right, true_and, and_true, forall_const, implies_true, List.contains_cons, List.contains_nil, List.all_cons, List.all_nil, bne_self_eq_false, Option.isSome_none, Option.isSome_some, Bool.or_false, Bool.false_or, Bool.true_or, Bool.or_true, ne_eq, not_false_eq_true, not_true_eq_false, beq_self_eq_true, cond_true, cond_false, Prod.mk.injEq, and_self, reduceCtorEq, BEq.rfl, Bool.and_true, Bool.true_and, Bool.and_false, Bool.false_and, Try.f69, nD]
  intro hn
  unfold fits at hn
  refine ⟨fun h => ?_, fun h => ?_⟩
  · have : n ≠ m := fun e => by subst e; simp at h
    simp [perR, this]
  · have : n = m := by simp at h; omega
    subst this
    refine ⟨{ k : Nat // k ≤ n ∧ ∀ j, j < k → (timesR a j n == 1) = true }, fun k => ([(5, .d (.int .i64 k)), (4, .d (.bool false)), (0, .d (.list 1 n fun i => .int .i64 (a i))), (1, .d (.int .i64 n))], []), fun k => n - k, ⟨0, Nat.zero_le _, fun j h => absurd h (by omega)⟩, ?_, ?_⟩
    · simp only [go_sem, Nat.reduceEqDiff, ↓reduceIte, Bool.false_eq_true, Nat.reduceAdd, Nat.reduceSub, Nat.reduceBNe, Nat.reduceBEq, Nat.reduceLT, Nat.reduceLeDiff, Nat.reduceMul, Nat.zero_lt_succ, Nat.lt_add_one, Nat.zero_lt_one, Int.reduceToNat, false_implies, true_implies, or_self, or_false, false_or, or_true, true_or, Nat.add_le_add_iff_right, true_and, and_true, forall_const, implies_true, List.contains_cons, List.contains_nil, List.all_cons, List.all_nil, bne_self_eq_false, Option.isSome_none, Option.isSome_some, Bool.or_false, Bool.false_or, Bool.true_or, Bool.or_true, ne_eq, not_false_eq_true, not_true_eq_false, beq_self_eq_true, cond_true, cond_false, Prod.mk.injEq, and_self, reduceCtorEq, BEq.rfl, Bool.and_true, Bool.true_and, Bool.and_false, Bool.false_and]
      rfl
    · rintro ⟨k, hk, hok⟩
      simp only [go_sem, Nat.reduceEqDiff, ↓reduceIte, Bool.false_eq_true, Nat.reduceAdd, Nat.reduceSub, Nat.reduceBNe, Nat.reduceBEq, Nat.reduceLT, Nat.reduceLeDiff, Nat.reduceMul, Nat.zero_lt_succ, Nat.lt_add_one, Nat.zero_lt_one, Int.reduceToNat, false_implies, true_implies, or_self, or_false, false_or, or_true, true_or, Nat.add_le_add_iff_right, true_and, and_true, forall_const, implies_true, List.contains_cons, List.contains_nil, List.all_cons, List.all_nil, bne_self_eq_false, Option.isSome_none, Option.isSome_some, Bool.or_false, Bool.false_or, Bool.true_or, Bool.or_true, ne_eq, not_false_eq_true, not_true_eq_false, beq_self_eq_true, cond_true, cond_false, Prod.mk.injEq, and_self, reduceCtorEq, BEq.rfl, Bool.and_true, Bool.true_and, Bool.and_false, Bool.false_and, decide_eq_true_eq]
      refine ⟨fun hlt _ => ?_, fun hge => ?_⟩
      · refine ⟨{ i : Nat // i ≤ n }, fun i => ([(20, .d (.int .i64 i)), (19, .d (.int .i64 n)), (18, .d (.list 1 n fun i => .int .i64 (a i))), (6, .d (.int .i64 (timesR a k i))), (5, .d (.int .i64 k)), (4, .d (.bool false)), (0, .d (.list 1 n fun i => .int .i64 (a i))), (1, .d (.int .i64 n))], []), fun i => n - i, ⟨0, Nat.zero_le _⟩, ?_, ?_⟩
        · simp only [go_sem, Nat.reduceEqDiff, ↓reduceIte, Bool.false_eq_true, Nat.reduceAdd, Nat.reduceSub, Nat.reduceBNe, Nat.reduceBEq, Nat.reduceLT, Nat.reduceLeDiff, Nat.reduceMul, Nat.zero_lt_succ, Nat.lt_add_one, Nat.zero_lt_one, Int.reduceToNat, false_implies, true_implies, or_self, or_false, false_or, or_true, true_or, Nat.add_le_add_iff_right, true_and, and_true, forall_const, implies_true, List.contains_cons, List.contains_nil, List.all_cons, List.all_nil, bne_self_eq_false, Option.isSome_none, Option.isSome_some, Bool.or_false, Bool.false_or, Bool.true_or, Bool.or_true, ne_eq, not_false_eq_true, not_true_eq_false, beq_self_eq_true, cond_true, cond_false, Prod.mk.injEq, and_self, reduceCtorEq, BEq.rfl, Bool.and_true, Bool.true_and, Bool.and_false, Bool.false_and]
          exact ⟨rfl, rfl⟩
        · rintro ⟨i, hi⟩
          simp only [go_sem, Nat.reduceEqDiff, ↓reduceIte, Bool.false_eq_true, Nat.reduceAdd, Nat.reduceSub, Nat.reduceBNe, Nat.reduceBEq, Nat.reduceLT, Nat.reduceLeDiff, Nat.reduceMul, Nat.zero_lt_succ, Nat.lt_add_one, Nat.zero_lt_one, Int.reduceToNat, false_implies, true_implies, or_self, or_false, false_or, or_true, true_or, Nat.add_le_add_iff_right, true_and, and_true, forall_const, implies_true, List.contains_cons, List.contains_nil, List.all_cons, List.all_nil, bne_self_eq_false, Option.isSome_none, Option.isSome_some, Bool.or_false, Bool.false_or, Bool.true_or, Bool.or_true, ne_eq, not_false_eq_true, not_true_eq_false, beq_self_eq_true, cond_true, cond_false, Prod.mk.injEq, and_self, reduceCtorEq, BEq.rfl, Bool.and_true, Bool.true_and, Bool.and_false, Bool.false_and, decide_eq_true_eq]
          have ht := times_le a k i
          refine ⟨fun hlt2 => ⟨by omega, fun he => ⟨by omega, by constructor <;> omega, ⟨i + 1, by omega⟩, by simp only; omega, by simp, ?_⟩, fun he => ⟨by constructor <;> omega, ⟨i + 1, by omega⟩, by simp only; omega, by simp, ?_⟩⟩, fun hge => ?_⟩
          · simp only [timesR, he, cond_true]
            rfl
          · simp only [timesR, he, cond_false]
            rfl
          · have : i = n := by simp at hge; omega
            subst this
            refine ⟨fun hb => ?_, fun hb => ⟨by constructor <;> omega, ⟨k + 1, by omega, fun j hj => ?_⟩, by simp only; omega, by simp⟩⟩
            · have hp : (timesR a k i == 1) = false := by
                have : (timesR a k i : Int) ≠ 1 := by simpa using hb
                simp
                omega
              simp only [perR, allN_no (p := fun k => timesR a k i == 1) (show k < i by omega) hp, Bool.and_false]
            · by_cases e : j = k
              · subst e
                have : (timesR a j i : Int) = 1 := by simpa using hb
                simp
                omega
              · exact hok j (by omega)
      · have : k = n := by simp at hge; omega
        subst this
        simp only [perR, allN_yes (p := fun j => timesR a j k == 1) hok, beq_self_eq_true, Bool.and_self]
end Go.Proofs.Ytnhpgmmhfgdmjaa.P14

/- Proved here: contracts of functions of this chapter: called with these values, each returns these values and changes nothing that was. Conditions: none but those that each theorem names. -/
import Derived.Test.YtpfahanbkhgfhaaW41e
set_option linter.unusedSimpArgs false
set_option linter.unusedVariables false
open Go Go.Proofs Go.Ev
namespace Go.Proofs.Ytpfahanbkhgfhaa.P41
set_option maxRecDepth 100000
theorem intsN_ok : FnD Try.prog 8 [.d .nil, .d .nil] [.bool true] := by
  refine fnD_intro (H := { nt := Go.Func.ntmps Try.f8 }) Try.func8 rfl rfl rfl rfl (Nat.le_of_ble_eq_true rfl) (okC_tri (by kernel_rfl) _ _ _ _ (by kernel_rfl) ?_)
  simp only [go_sem, Nat.reduceEqDiff, ↓reduceIte, Bool.false_eq_true, Nat.reduceAdd, Nat.reduceSub, Nat.reduceBNe, Nat.reduceBEq, Nat.reduceLT, Nat.reduceLeDiff, Nat.reduceMul, Nat.zero_lt_succ, Nat.lt_add_one, Nat.zero_lt_one, Int.reduceToNat, false_implies, true_implies, or_self, or_false, false_or, or_true, true_or, Nat.add_le_add_iff_right, true_and, and_true, forall_const, implies_true, List.contains_cons, List.contains_nil, List.all_cons, List.all_nil, bne_self_eq_false, Option.isSome_none, Option.isSome_some, Bool.or_false, Bool.false_or, Bool.true_or, Bool.or_true, ne_eq, not_false_eq_true, not_true_eq_false, beq_self_eq_true, cond_true, cond_false, Prod.mk.injEq, and_self, reduceCtorEq, BEq.rfl, Bool.and_true, Bool.true_and, Bool.and_false, Bool.false_and, Try.f8]
  refine ⟨Unit, fun _ => ([(5, .d (.int .i64 0)), (0, .d .nil), (1, .d .nil), (4, .d (.bool false))], []), fun _ => 0, (), ?_, ?_⟩
  · simp only [go_sem, Nat.reduceEqDiff, ↓reduceIte, Bool.false_eq_true, Nat.reduceAdd, Nat.reduceSub, Nat.reduceBNe, Nat.reduceBEq, Nat.reduceLT, Nat.reduceLeDiff, Nat.reduceMul, Nat.zero_lt_succ, Nat.lt_add_one, Nat.zero_lt_one, Int.reduceToNat, false_implies, true_implies, or_self, or_false, false_or, or_true, true_or, Nat.add_le_add_iff_right, true_and, and_true, forall_const, implies_true, List.contains_cons, List.contains_nil, List.all_cons, List.all_nil, bne_self_eq_false, Option.isSome_none, Option.isSome_some, Bool.or_false, Bool.false_or, Bool.true_or, Bool.or_true, ne_eq, not_false_eq_true, not_true_eq_false, beq_self_eq_true, cond_true, cond_false, Prod.mk.injEq, and_self, reduceCtorEq, BEq.rfl, Bool.and_true, Bool.true_and, Bool.and_false, Bool.false_and]
  · intro _
    simp only [go_sem, Nat.reduceEqDiff, ↓reduceIte, Bool.false_eq_true, Nat.reduceAdd, Nat.reduceSub, Nat.reduceBNe, Nat.reduceBEq, Nat.reduceLT, Nat.reduceLeDiff, Nat.reduceMul, Nat.zero_lt_succ, Nat.lt_add_one, Nat.zero_lt_one, Int.reduceToNat, false_implies, true_implies, or_self, or_false, false_or, or_true, true_or, Nat.add_le_add_iff_right, true_and, and_true, forall_const, implies_true, List.contains_cons, List.contains_nil, List.all_cons, List.all_nil, bne_self_eq_false, Option.isSome_none, Option.isSome_some, Bool.or_false, Bool.false_or, Bool.true_or, Bool.or_true, ne_eq, not_false_eq_true, not_true_eq_false, beq_self_eq_true, cond_true, cond_false, Prod.mk.injEq, and_self, reduceCtorEq, BEq.rfl, Bool.and_true, Bool.true_and, Bool.and_false, Bool.false_and, decide_eq_true_eq]
    simp
theorem sameM_self (n : Nat) (g : Nat → Int) : sameM n g n g = true := by
  simp [sameM, allN_yes (p := fun _ => true)]
theorem intsM_ok (id : Int) (n : Nat) (f : Nat → Tr) (m1 : Nat) (a : Nat → Int) (m2 : Nat) (b : Nat → Int) (m3 : Nat) (c : Nat → Int) : FnD Try.prog 8 [.d (medR id n f m1 a m2 b m3 c), .d (medR id n f m1 a m2 b m3 c)] [.bool true] := by
  unfold medR
  split
  · exact intsN_ok
  · have := ints_ok n (cutF n fun i => midR (a i) (b i) (c i)) n (cutF n fun i => midR (a i) (b i) (c i))
    rw [sameM_self] at this
    exact this
theorem compares_ok (id : Int) (n : Nat) (f : Nat → Tr) (m1 : Nat) (a : Nat → Int) (m2 : Nat) (b : Nat → Int) (m3 : Nat) (c : Nat → Int) : FnD Try.prog 4 [.d (rD id n f), .d (mD m1 a), .d (mD m2 b), .d (mD m3 c)] [.bool true] := by
  refine fnD_intro (H := { nt := Go.Func.ntmps Try.f4 }) Try.func4 rfl rfl rfl rfl (Nat.le_of_ble_eq_true rfl) (okC_tri (by kernel_rfl) _ _ _ _ (by kernel_rfl) ?_)
  simp only [go_sem, Nat.reduceEqDiff, ↓reduceIte, Bool.false_eq_true, Nat.reduceAdd, Nat.reduceSub, Nat.reduceBNe, Nat.reduceBEq, Nat.reduceLT, Nat.reduceLeDiff, Nat.reduceMul, Nat.zero_lt_succ, Nat.lt_add_one, Nat.zero_lt_one, Int.reduceToNat, false_implies, true_implies, or_self, or_false, false_or, or_true, true_or, Nat.add_le_add_iff_right, true_and, and_true, forall_const, implies_true, List.contains_cons, List.contains_nil, List.all_cons, List.all_nil, bne_self_eq_false, Option.isSome_none, Option.isSome_some, Bool.or_false, Bool.false_or, Bool.true_or, Bool.or_true, ne_eq, not_false_eq_true, not_true_eq_false, beq_self_eq_true, cond_true, cond_false, Prod.mk.injEq, and_self, reduceCtorEq, BEq.rfl, Bool.and_true, Bool.true_and, Bool.and_false, Bool.false_and, Try.f4, rD, mD]
  refine ⟨_, fun _ => apart_ok id n f m1 a m2 b, ?_, ?_⟩
  focus (first | exact fun _ => rfl | exact fun h0 => absurd h0 (by decide))
  simp only [go_sem, Nat.reduceEqDiff, ↓reduceIte, Bool.false_eq_true, Nat.reduceAdd, Nat.reduceSub, Nat.reduceBNe, Nat.reduceBEq, Nat.reduceLT, Nat.reduceLeDiff, Nat.reduceMul, Nat.zero_lt_succ, Nat.lt_add_one, Nat.zero_lt_one, Int.reduceToNat, false_implies, true_implies, or_self, or_false, false_or, or_true, true_or, Nat.add_le_add_iff_right, true_and, and_true, forall_const, implies_true, List.contains_cons, List.contains_nil, List.all_cons, List.all_nil, bne_self_eq_false, Option.isSome_none, Option.isSome_some, Bool.or_false, Bool.false_or, Bool.true_or, Bool.or_true, ne_eq, not_false_eq_true, not_true_eq_false, beq_self_eq_true, cond_true, cond_false, Prod.mk.injEq, and_self, reduceCtorEq, BEq.rfl, Bool.and_true, Bool.true_and, Bool.and_false, Bool.false_and]
  refine ⟨_, fun _ => rapart_ok id n f m1 a m2 b, ?_, ?_⟩
  focus (first | exact fun _ => rfl | exact fun h0 => absurd h0 (by decide))
  simp only [go_sem, Nat.reduceEqDiff, ↓reduceIte, Bool.false_eq_true, Nat.reduceAdd, Nat.reduceSub, Nat.reduceBNe, Nat.reduceBEq, Nat.reduceLT, Nat.reduceLeDiff, Nat.reduceMul, Nat.zero_lt_succ, Nat.lt_add_one, Nat.zero_lt_one, Int.reduceToNat, false_implies, true_implies, or_self, or_false, false_or, or_true, true_or, Nat.add_le_add_iff_right, true_and, and_true, forall_const, implies_true, List.contains_cons, List.contains_nil, List.all_cons, List.all_nil, bne_self_eq_false, Option.isSome_none, Option.isSome_some, Bool.or_false, Bool.false_or, Bool.true_or, Bool.or_true, ne_eq, not_false_eq_true, not_true_eq_false, beq_self_eq_true, cond_true, cond_false, Prod.mk.injEq, and_self, reduceCtorEq, BEq.rfl, Bool.and_true, Bool.true_and, Bool.and_false, Bool.false_and]
  refine ⟨_, fun _ => median_ok id n f m1 a m2 b m3 c, ?_, ?_⟩
  focus (first | exact fun _ => rfl | exact fun h0 => absurd h0 (by decide))
  simp only [go_sem, Nat.reduceEqDiff, ↓reduceIte, Bool.false_eq_true, Nat.reduceAdd, Nat.reduceSub, Nat.reduceBNe, Nat.reduceBEq, Nat.reduceLT, Nat.reduceLeDiff, Nat.reduceMul, Nat.zero_lt_succ, Nat.lt_add_one, Nat.zero_lt_one, Int.reduceToNat, false_implies, true_implies, or_self, or_false, false_or, or_true, true_or, Nat.add_le_add_iff_right, true_and, and_true, forall_const, implies_true, List.contains_cons, List.contains_nil, List.all_cons, List.all_nil, bne_self_eq_false, Option.isSome_none, Option.isSome_some, Bool.or_false, Bool.false_or, Bool.true_or, Bool.or_true, ne_eq, not_false_eq_true, not_true_eq_false, beq_self_eq_true, cond_true, cond_false, Prod.mk.injEq, and_self, reduceCtorEq, BEq.rfl, Bool.and_true, Bool.true_and, Bool.and_false, Bool.false_and]
  refine ⟨_, fun _ => rmedian_ok id n f m1 a m2 b m3 c, ?_, ?_⟩
  focus (first | exact fun _ => rfl | exact fun h0 => absurd h0 (by decide))
  simp only [go_sem, Nat.reduceEqDiff, ↓reduceIte, Bool.false_eq_true, Nat.reduceAdd, Nat.reduceSub, Nat.reduceBNe, Nat.reduceBEq, Nat.reduceLT, Nat.reduceLeDiff, Nat.reduceMul, Nat.zero_lt_succ, Nat.lt_add_one, Nat.zero_lt_one, Int.reduceToNat, false_implies, true_implies, or_self, or_false, false_or, or_true, true_or, Nat.add_le_add_iff_right, true_and, and_true, forall_const, implies_true, List.contains_cons, List.contains_nil, List.all_cons, List.all_nil, bne_self_eq_false, Option.isSome_none, Option.isSome_some, Bool.or_false, Bool.false_or, Bool.true_or, Bool.or_true, ne_eq, not_false_eq_true, not_true_eq_false, beq_self_eq_true, cond_true, cond_false, Prod.mk.injEq, and_self, reduceCtorEq, BEq.rfl, Bool.and_true, Bool.true_and, Bool.and_false, Bool.false_and]
  refine ⟨_, fun _ => intsM_ok id n f m1 a m2 b m3 c, ?_, ?_⟩
  focus (first | exact fun _ => rfl | exact fun h0 => absurd h0 (by decide))
  simp only [go_sem, Nat.reduceEqDiff, ↓reduceIte, Bool.false_eq_true, Nat.reduceAdd, Nat.reduceSub, Nat.reduceBNe, Nat.reduceBEq, Nat.reduceLT, Nat.reduceLeDiff, Nat.reduceMul, Nat.zero_lt_succ, Nat.lt_add_one, Nat.zero_lt_one, Int.reduceToNat, false_implies, true_implies, or_self, or_false, false_or, or_true, true_or, Nat.add_le_add_iff_right, true_and, and_true, forall_const, implies_true, List.contains_cons, List.contains_nil, List.all_cons, List.all_nil, bne_self_eq_false, Option.isSome_none, Option.isSome_some, Bool.or_false, Bool.false_or, Bool.true_or, Bool.or_true, ne_eq, not_false_eq_true, not_true_eq_false, beq_self_eq_true, cond_true, cond_false, Prod.mk.injEq, and_self, reduceCtorEq, BEq.rfl, Bool.and_true, Bool.true_and, Bool.and_false, Bool.false_and]
theorem medRe {id : Int} {n : Nat} {f : Nat → Tr} {m1 : Nat} {a : Nat → Int} {m2 : Nat} {b : Nat → Int} {m3 : Nat} {c : Nat → Int} (h : err3 id n f m1 a m2 b m3 c ≠ 0) : medR id n f m1 a m2 b m3 c = .nil := by simp [medR, h]
theorem sum_ge {x : Nat → Int} : ∀ {i : Nat}, (∀ j, j < i → 1 ≤ x j) → (i : Int) ≤ sumF x i
  | 0, _ => by simp [sumF]
  | i + 1, h => by
    have := sum_ge (i := i) fun j hj => h j (by omega)
    have := h i (by omega)
    simp only [sumF]
    omega
theorem sum_mono {x y : Nat → Int} : ∀ {i : Nat}, (∀ j, j < i → x j ≤ y j) → sumF x i ≤ sumF y i
  | 0, _ => by simp [sumF]
  | i + 1, h => by
    have := sum_mono (i := i) fun j hj => h j (by omega)
    have := h i (by omega)
    simp only [sumF]
    omega
theorem one_le_mul {x y : Int} (h1 : 1 ≤ x) (h2 : 1 ≤ y) : 1 ≤ x * y := by
  have := Int.mul_le_mul h1 h2 (by omega) (by omega)
  simpa using this
theorem sum_pos {x : Nat → Int} : ∀ {i : Nat}, (∀ j, j < i → 0 ≤ x j) → 0 ≤ sumF x i
  | 0, _ => by simp [sumF]
  | i + 1, h => by
    have := sum_pos (i := i) fun j hj => h j (by omega)
    have := h i (by omega)
    simp only [sumF]
    omega
theorem apF_le (a b : Nat → Int) : ∀ {i j : Nat}, j < i → a j - b j ≤ apF a b i ∧ b j - a j ≤ apF a b i
  | 0, j, h => by omega
  | i + 1, j, h => by
    by_cases e : j = i
    · subst e
      simp only [apF]
      repeat' split
      all_goals omega
    · have := apF_le a b (i := i) (j := j) (by omega)
      simp only [apF]
      repeat' split
      all_goals omega
theorem apF_lub (a b : Nat → Int) {M : Int} (h0 : 0 ≤ M) : ∀ {i : Nat}, (∀ j, j < i → a j - b j ≤ M ∧ b j - a j ≤ M) → apF a b i ≤ M
  | 0, _ => by simpa [apF] using h0
  | i + 1, h => by
    have := apF_lub a b h0 (i := i) fun j hj => h j (by omega)
    have := h i (by omega)
    simp only [apF]
    repeat' split
    all_goals omega
theorem apF_comm (a b : Nat → Int) (n : Nat) : apF a b n = apF b a n :=
  Int.le_antisymm (apF_lub a b (apF_0 b a n) fun j hj => ⟨(apF_le b a hj).2, (apF_le b a hj).1⟩) (apF_lub b a (apF_0 a b n) fun j hj => ⟨(apF_le a b hj).2, (apF_le a b hj).1⟩)
theorem apF_tri (a b c : Nat → Int) (n : Nat) : apF a c n ≤ apF a b n + apF b c n :=
  apF_lub a c (by have := apF_0 a b n; have := apF_0 b c n; omega) fun j hj => by
    have h1 := apF_le a b hj
    have h2 := apF_le b c hj
    omega
theorem apF_same (a b : Nat → Int) (n : Nat) : (apF a b n == 0) = sameM n a n b := by
  by_cases h : ∀ j, j < n → a j = b j
  · have h1 : apF a b n = 0 := Int.le_antisymm (apF_lub a b (Int.le_refl 0) fun j hj => by rw [h j hj]; omega) (apF_0 a b n)
    have h2 : allN (fun i => a i == b i) n = true := allN_yes fun i hi => by simpa using h i hi
    simp [h1, sameM, h2]
  · obtain ⟨j, hj⟩ := Classical.not_forall.1 h
    obtain ⟨hj, hne⟩ := Classical.not_imp.1 hj
    have h1 := apF_le a b hj
    have h2 : allN (fun i => a i == b i) n = false := allN_no hj (by simpa using hne)
    have h3 : apF a b n ≠ 0 := by omega
    simp [sameM, h2, h3]
def bet (a b : Nat → Int) : Nat → Bool
  | 0 => true
  | i + 1 => bif bet a b i then decide (a i ≤ b i) else false
theorem bet_le {a b : Nat → Int} : ∀ {i : Nat}, bet a b i = true → ∀ j, j < i → a j ≤ b j
  | 0, _, j, h => by omega
  | i + 1, hb, j, h => by
    simp only [bet] at hb
    cases hc : bet a b i with
    | false => rw [hc] at hb; cases hb
    | true =>
      rw [hc] at hb
      have hb : a i ≤ b i := by simpa using hb
      by_cases e : j = i
      · subst e; exact hb
      · exact bet_le hc j (by omega)
theorem monotone_ok (id : Int) (n : Nat) (f : Nat → Tr) (m1 : Nat) (a : Nat → Int) (m2 : Nat) (b : Nat → Int) (m3 : Nat) (c : Nat → Int) : FnD Try.prog 5 [.d (rD id n f), .d (mD m1 a), .d (mD m2 b), .d (mD m3 c)] [.bool true] := by
  refine fnD_intro (H := { nt := Go.Func.ntmps Try.f5 }) Try.func5 rfl rfl rfl rfl (Nat.le_of_ble_eq_true rfl) (okC_tri (by kernel_rfl) _ _ _ _ (by kernel_rfl) ?_)
  simp only [go_sem, Nat.reduceEqDiff, ↓reduceIte, Bool.false_eq_true, Nat.reduceAdd, Nat.reduceSub, Nat.reduceBNe, Nat.reduceBEq, Nat.reduceLT, Nat.reduceLeDiff, Nat.reduceMul, Nat.zero_lt_succ, Nat.lt_add_one, Nat.zero_lt_one, Int.reduceToNat, false_implies, true_implies, or_self, or_false, false_or, or_true, true_or, Nat.add_le_add_iff_right, true_and, and_true, forall_const, implies_true, List.contains_cons, List.contains_nil, List.all_cons, List.all_nil, bne_self_eq_false, Option.isSome_none, Option.isSome_some, Bool.or_false, Bool.false_or, Bool.true_or, Bool.or_true, ne_eq, not_false_eq_true, not_true_eq_false, beq_self_eq_true, cond_true, cond_false, Prod.mk.injEq, and_self, reduceCtorEq, BEq.rfl, Bool.and_true, Bool.true_and, Bool.and_false, Bool.false_and, Try.f5, rD, mD]
  refine ⟨_, fun _ => total_ok id n f m1 a, ?_, ?_⟩
  focus (first | exact fun _ => rfl | exact fun h0 => absurd h0 (by decide))
  simp only [go_sem, Nat.reduceEqDiff, ↓reduceIte, Bool.false_eq_true, Nat.reduceAdd, Nat.reduceSub, Nat.reduceBNe, Nat.reduceBEq, Nat.reduceLT, Nat.reduceLeDiff, Nat.reduceMul, Nat.zero_lt_succ, Nat.lt_add_one, Nat.zero_lt_one, Int.reduceToNat, false_implies, true_implies, or_self, or_false, false_or, or_true, true_or, Nat.add_le_add_iff_right, true_and, and_true, forall_const, implies_true, List.contains_cons, List.contains_nil, List.all_cons, List.all_nil, bne_self_eq_false, Option.isSome_none, Option.isSome_some, Bool.or_false, Bool.false_or, Bool.true_or, Bool.or_true, ne_eq, not_false_eq_true, not_true_eq_false, beq_self_eq_true, cond_true, cond_false, Prod.mk.injEq, and_self, reduceCtorEq, BEq.rfl, Bool.and_true, Bool.true_and, Bool.and_false, Bool.false_and]
  refine ⟨_, fun _ => total_ok id n f m2 b, ?_, ?_⟩
  focus (first | exact fun _ => rfl | exact fun h0 => absurd h0 (by decide))
  simp only [go_sem, Nat.reduceEqDiff, ↓reduceIte, Bool.false_eq_true, Nat.reduceAdd, Nat.reduceSub, Nat.reduceBNe, Nat.reduceBEq, Nat.reduceLT, Nat.reduceLeDiff, Nat.reduceMul, Nat.zero_lt_succ, Nat.lt_add_one, Nat.zero_lt_one, Int.reduceToNat, false_implies, true_implies, or_self, or_false, false_or, or_true, true_or, Nat.add_le_add_iff_right, true_and, and_true, forall_const, implies_true, List.contains_cons, List.contains_nil, List.all_cons, List.all_nil, bne_self_eq_false, Option.isSome_none, Option.isSome_some, Bool.or_false, Bool.false_or, Bool.true_or, Bool.or_true, ne_eq, not_false_eq_true, not_true_eq_false, beq_self_eq_true, cond_true, cond_false, Prod.mk.injEq, and_self, reduceCtorEq, BEq.rfl, Bool.and_true, Bool.true_and, Bool.and_false, Bool.false_and]
  refine ⟨_, fun _ => most_ok id n f, ?_, ?_⟩
  focus (first | exact fun _ => rfl | exact fun h0 => absurd h0 (by decide))
  simp only [go_sem, Nat.reduceEqDiff, ↓reduceIte, Bool.false_eq_true, Nat.reduceAdd, Nat.reduceSub, Nat.reduceBNe, Nat.reduceBEq, Nat.reduceLT, Nat.reduceLeDiff, Nat.reduceMul, Nat.zero_lt_succ, Nat.lt_add_one, Nat.zero_lt_one, Int.reduceToNat, false_implies, true_implies, or_self, or_false, false_or, or_true, true_or, Nat.add_le_add_iff_right, true_and, and_true, forall_const, implies_true, List.contains_cons, List.contains_nil, List.all_cons, List.all_nil, bne_self_eq_false, Option.isSome_none, Option.isSome_some, Bool.or_false, Bool.false_or, Bool.true_or, Bool.or_true, ne_eq, not_false_eq_true, not_true_eq_false, beq_self_eq_true, cond_true, cond_false, Prod.mk.injEq, and_self, reduceCtorEq, BEq.rfl, Bool.and_true, Bool.true_and, Bool.and_false, Bool.false_and]
  by_cases hv : validR id n f = 0
  · simp only [go_sem, Nat.reduceEqDiff, ↓reduceIte, Bool.false_eq_true, Nat.reduceAdd, Nat.reduceSub, Nat.reduceBNe, Nat.reduceBEq, Nat.reduceLT, Nat.reduceLeDiff, Nat.reduceMul, Nat.zero_lt_succ, Nat.lt_add_one, Nat.zero_lt_one, Int.reduceToNat, false_implies, true_implies, or_self, or_false, false_or, or_true, true_or, Nat.add_le_add_iff_right, true_and, and_true, forall_const, implies_true, List.contains_cons, List.contains_nil, List.all_cons, List.all_nil, bne_self_eq_false, Option.isSome_none, Option.isSome_some, Bool.or_false, Bool.false_or, Bool.true_or, Bool.or_true, ne_eq, not_false_eq_true, not_true_eq_false, beq_self_eq_true, cond_true, cond_false, Prod.mk.injEq, and_self, reduceCtorEq, BEq.rfl, Bool.and_true, Bool.true_and, Bool.and_false, Bool.false_and, bne0_eq hv]
    obtain ⟨n1, n6, hr⟩ := valid0 hv
    have hm : mostR id n f = sumF (fun i => (f i).most * (f i).weight) n := by simp [mostR, hv]
    have hge : (n : Int) ≤ mostR id n f := by
      rw [hm]
      exact sum_ge fun j hj => by
        obtain ⟨p5, p6, p7, p8⟩ := hr j hj
        exact one_le_mul p5 p7
    refine fun hn => ⟨fun h => ?_, fun h => ?_⟩
    · exfalso
      simp only [Bool.cond_eq_ite, Bool.if_true_left, Bool.or_eq_true, decide_eq_true_eq] at h
      omega
    · refine ⟨_, fun _ => check_ok id n f m3 c, ?_, ?_⟩
      focus (first | exact fun _ => rfl | exact fun h0 => absurd h0 (by decide))
      simp only [go_sem, Nat.reduceEqDiff, ↓reduceIte, Bool.false_eq_true, Nat.reduceAdd, Nat.reduceSub, Nat.reduceBNe, Nat.reduceBEq, Nat.reduceLT, Nat.reduceLeDiff, Nat.reduceMul, Nat.zero_lt_succ, Nat.lt_add_one, Nat.zero_lt_one, Int.reduceToNat, false_implies, true_implies, or_self, or_false, false_or, or_true, true_or, Nat.add_le_add_iff_right, true_and, and_true, forall_const, implies_true, List.contains_cons, List.contains_nil, List.all_cons, List.all_nil, bne_self_eq_false, Option.isSome_none, Option.isSome_some, Bool.or_false, Bool.false_or, Bool.true_or, Bool.or_true, ne_eq, not_false_eq_true, not_true_eq_false, beq_self_eq_true, cond_true, cond_false, Prod.mk.injEq, and_self, reduceCtorEq, BEq.rfl, Bool.and_true, Bool.true_and, Bool.and_false, Bool.false_and]
      refine fun hb => ?_
      · have hb' : checkR id n f m1 a = 0 ∧ checkR id n f m2 b = 0 ∧ checkR id n f m3 c = 0 := by
          simp only [Bool.cond_eq_ite, Bool.if_true_left, Bool.or_eq_false_iff, bne_eq_false_iff_eq, decide_eq_false_iff_not, bne_iff_ne, ne_eq, Decidable.not_not] at hb
          simpa [and_assoc] using hb
        obtain ⟨c1, c2, c3⟩ := hb'
        obtain ⟨_, q1, ha⟩ := check0 c1
        obtain ⟨_, q2, hbb⟩ := check0 c2
        obtain ⟨_, q3, hc⟩ := check0 c3
        subst q1 q2 q3
        have e1 : totR id m3 f m3 a = sumF (fun i => a i * (f i).weight) m3 := by simp [totR, c1]
        have e2 : totR id m3 f m3 b = sumF (fun i => b i * (f i).weight) m3 := by simp [totR, c2]
        refine ⟨{ i : Nat // i ≤ m3 }, fun i => ([(16, .d (.int .i64 i)), (15, .d (.bool (bet a b i))), (1, .d (.list 1 m3 fun i => .int .i64 (a i))), (2, .d (.list 1 m3 fun i => .int .i64 (b i))), (3, .d (.list 1 m3 fun i => .int .i64 (c i))), (4, .ptr 0 0), (9, .d (.int .i64 (totR id m3 f m3 a))), (11, .d (.int .i64 (totR id m3 f m3 b))), (13, .d (.int .i64 (mostR id m3 f)))], [.box [.d (.int .i64 id), .d (.list 3 m3 fun i => tD (f i))]]), fun i => m3 - i, ⟨0, Nat.zero_le _⟩, ?_, ?_⟩
        · simp only [go_sem, Nat.reduceEqDiff, ↓reduceIte, Bool.false_eq_true, Nat.reduceAdd, Nat.reduceSub, Nat.reduceBNe, Nat.reduceBEq, Nat.reduceLT, Nat.reduceLeDiff, Nat.reduceMul, Nat.zero_lt_succ, Nat.lt_add_one, Nat.zero_lt_one, Int.reduceToNat, false_implies, true_implies, or_self, or_false, false_or, or_true, true_or, Nat.add_le_add_iff_right, true_and, and_true, forall_const, implies_true, List.contains_cons, List.contains_nil, List.all_cons, List.all_nil, bne_self_eq_false, Option.isSome_none, Option.isSome_some, Bool.or_false, Bool.false_or, Bool.true_or, Bool.or_true, ne_eq, not_false_eq_true, not_true_eq_false, beq_self_eq_true, cond_true, cond_false, Prod.mk.injEq, and_self, reduceCtorEq, BEq.rfl, Bool.and_true, Bool.true_and, Bool.and_false, Bool.false_and]
          exact ⟨rfl, rfl⟩
        · rintro ⟨i, hi⟩
          simp only [go_sem, Nat.reduceEqDiff, ↓reduceIte, Bool.false_eq_true, Nat.reduceAdd, Nat.reduceSub, Nat.reduceBNe, Nat.reduceBEq, Nat.reduceLT, Nat.reduceLeDiff, Nat.reduceMul, Nat.zero_lt_succ, Nat.lt_add_one, Nat.zero_lt_one, Int.reduceToNat, false_implies, true_implies, or_self, or_false, false_or, or_true, true_or, Nat.add_le_add_iff_right, true_and, and_true, forall_const, implies_true, List.contains_cons, List.contains_nil, List.all_cons, List.all_nil, bne_self_eq_false, Option.isSome_none, Option.isSome_some, Bool.or_false, Bool.false_or, Bool.true_or, Bool.or_true, ne_eq, not_false_eq_true, not_true_eq_false, beq_self_eq_true, cond_true, cond_false, Prod.mk.injEq, and_self, reduceCtorEq, BEq.rfl, Bool.and_true, Bool.true_and, Bool.and_false, Bool.false_and, decide_eq_true_eq]
          refine fun _ => ⟨fun hlt => ?_, fun hge => ?_⟩
          · have hlt' : i < m3 := by simp at hlt; omega
            exact ⟨fun _ => by omega, fun _ => by omega, by constructor <;> omega, ⟨i + 1, by omega⟩, by simp only; omega, by simp, rfl⟩
          · have hi' : i = m3 := by
              by_cases h : i < m3
              · simp [h] at hge
              · omega
            subst hi'
            have hw : ∀ j, j < i → 0 ≤ (f j).weight := fun j hj => by have := hr j hj; omega
            have s1 : 0 ≤ totR id i f i a ∧ totR id i f i a ≤ mostR id i f := by
              rw [e1, hm]
              refine ⟨sum_pos fun j hj => Int.mul_nonneg (ha j hj).1 (hw j hj), sum_mono fun j hj => Int.mul_le_mul_of_nonneg_right (ha j hj).2 (hw j hj)⟩
            have s2 : 0 ≤ totR id i f i b ∧ totR id i f i b ≤ mostR id i f := by
              rw [e2, hm]
              refine ⟨sum_pos fun j hj => Int.mul_nonneg (hbb j hj).1 (hw j hj), sum_mono fun j hj => Int.mul_le_mul_of_nonneg_right (hbb j hj).2 (hw j hj)⟩
            have s3 : bet a b i = true → totR id i f i a ≤ totR id i f i b := fun h => by
              rw [e1, e2]
              exact sum_mono fun j hj => Int.mul_le_mul_of_nonneg_right (bet_le h j hj) (hw j hj)
            refine ⟨fun hx => ?_, fun _ => ?_⟩
            · exfalso
              cases hbt : bet a b i with
              | false =>
                rw [hbt] at hx
                simp only [Bool.cond_eq_ite, Bool.if_true_left, Bool.or_eq_true, decide_eq_true_eq, Bool.false_eq_true, if_false] at hx
                omega
              | true =>
                have := s3 hbt
                rw [hbt] at hx
                simp only [Bool.cond_eq_ite, Bool.if_true_left, Bool.or_eq_true, decide_eq_true_eq, if_true] at hx
                omega
            · refine ⟨_, fun _ => apart_ok id i f i a i b, ?_, ?_⟩
              focus (first | exact fun _ => rfl | exact fun h0 => absurd h0 (by decide))
              simp only [go_sem, Nat.reduceEqDiff, ↓reduceIte, Bool.false_eq_true, Nat.reduceAdd, Nat.reduceSub, Nat.reduceBNe, Nat.reduceBEq, Nat.reduceLT, Nat.reduceLeDiff, Nat.reduceMul, Nat.zero_lt_succ, Nat.lt_add_one, Nat.zero_lt_one, Int.reduceToNat, false_implies, true_implies, or_self, or_false, false_or, or_true, true_or, Nat.add_le_add_iff_right, true_and, and_true, forall_const, implies_true, List.contains_cons, List.contains_nil, List.all_cons, List.all_nil, bne_self_eq_false, Option.isSome_none, Option.isSome_some, Bool.or_false, Bool.false_or, Bool.true_or, Bool.or_true, ne_eq, not_false_eq_true, not_true_eq_false, beq_self_eq_true, cond_true, cond_false, Prod.mk.injEq, and_self, reduceCtorEq, BEq.rfl, Bool.and_true, Bool.true_and, Bool.and_false, Bool.false_and]
              refine ⟨_, fun _ => apart_ok id i f i b i a, ?_, ?_⟩
              focus (first | exact fun _ => rfl | exact fun h0 => absurd h0 (by decide))
              simp only [go_sem, Nat.reduceEqDiff, ↓reduceIte, Bool.false_eq_true, Nat.reduceAdd, Nat.reduceSub, Nat.reduceBNe, Nat.reduceBEq, Nat.reduceLT, Nat.reduceLeDiff, Nat.reduceMul, Nat.zero_lt_succ, Nat.lt_add_one, Nat.zero_lt_one, Int.reduceToNat, false_implies, true_implies, or_self, or_false, false_or, or_true, true_or, Nat.add_le_add_iff_right, true_and, and_true, forall_const, implies_true, List.contains_cons, List.contains_nil, List.all_cons, List.all_nil, bne_self_eq_false, Option.isSome_none, Option.isSome_some, Bool.or_false, Bool.false_or, Bool.true_or, Bool.or_true, ne_eq, not_false_eq_true, not_true_eq_false, beq_self_eq_true, cond_true, cond_false, Prod.mk.injEq, and_self, reduceCtorEq, BEq.rfl, Bool.and_true, Bool.true_and, Bool.and_false, Bool.false_and]
              refine ⟨_, fun _ => apart_ok id i f i b i c, ?_, ?_⟩
              focus (first | exact fun _ => rfl | exact fun h0 => absurd h0 (by decide))
              simp only [go_sem, Nat.reduceEqDiff, ↓reduceIte, Bool.false_eq_true, Nat.reduceAdd, Nat.reduceSub, Nat.reduceBNe, Nat.reduceBEq, Nat.reduceLT, Nat.reduceLeDiff, Nat.reduceMul, Nat.zero_lt_succ, Nat.lt_add_one, Nat.zero_lt_one, Int.reduceToNat, false_implies, true_implies, or_self, or_false, false_or, or_true, true_or, Nat.add_le_add_iff_right, true_and, and_true, forall_const, implies_true, List.contains_cons, List.contains_nil, List.all_cons, List.all_nil, bne_self_eq_false, Option.isSome_none, Option.isSome_some, Bool.or_false, Bool.false_or, Bool.true_or, Bool.or_true, ne_eq, not_false_eq_true, not_true_eq_false, beq_self_eq_true, cond_true, cond_false, Prod.mk.injEq, and_self, reduceCtorEq, BEq.rfl, Bool.and_true, Bool.true_and, Bool.and_false, Bool.false_and]
              refine ⟨_, fun _ => apart_ok id i f i a i c, ?_, ?_⟩
              focus (first | exact fun _ => rfl | exact fun h0 => absurd h0 (by decide))
              simp only [go_sem, Nat.reduceEqDiff, ↓reduceIte, Bool.false_eq_true, Nat.reduceAdd, Nat.reduceSub, Nat.reduceBNe, Nat.reduceBEq, Nat.reduceLT, Nat.reduceLeDiff, Nat.reduceMul, Nat.zero_lt_succ, Nat.lt_add_one, Nat.zero_lt_one, Int.reduceToNat, false_implies, true_implies, or_self, or_false, false_or, or_true, true_or, Nat.add_le_add_iff_right, true_and, and_true, forall_const, implies_true, List.contains_cons, List.contains_nil, List.all_cons, List.all_nil, bne_self_eq_false, Option.isSome_none, Option.isSome_some, Bool.or_false, Bool.false_or, Bool.true_or, Bool.or_true, ne_eq, not_false_eq_true, not_true_eq_false, beq_self_eq_true, cond_true, cond_false, Prod.mk.injEq, and_self, reduceCtorEq, BEq.rfl, Bool.and_true, Bool.true_and, Bool.and_false, Bool.false_and]
              have r1 : err2 id i f i a i b = 0 := by simp [err2_if, c1, c2]
              have r2 : err2 id i f i b i a = 0 := by simp [err2_if, c1, c2]
              have r3 : err2 id i f i b i c = 0 := by simp [err2_if, c3, c2]
              have r4 : err2 id i f i a i c = 0 := by simp [err2_if, c1, c3]
              simp only [go_sem, Nat.reduceEqDiff, ↓reduceIte, Bool.false_eq_true, Nat.reduceAdd, Nat.reduceSub, Nat.reduceBNe, Nat.reduceBEq, Nat.reduceLT, Nat.reduceLeDiff, Nat.reduceMul, Nat.zero_lt_succ, Nat.lt_add_one, Nat.zero_lt_one, Int.reduceToNat, false_implies, true_implies, or_self, or_false, false_or, or_true, true_or, Nat.add_le_add_iff_right, true_and, and_true, forall_const, implies_true, List.contains_cons, List.contains_nil, List.all_cons, List.all_nil, bne_self_eq_false, Option.isSome_none, Option.isSome_some, Bool.or_false, Bool.false_or, Bool.true_or, Bool.or_true, ne_eq, not_false_eq_true, not_true_eq_false, beq_self_eq_true, cond_true, cond_false, Prod.mk.injEq, and_self, reduceCtorEq, BEq.rfl, Bool.and_true, Bool.true_and, Bool.and_false, Bool.false_and, r1, r2, r3, r4, apR]
              refine ⟨_, fun _ => ints_ok i a i b, ?_, ?_⟩
              focus (first | exact fun _ => rfl | exact fun h0 => absurd h0 (by decide))
              simp only [go_sem, Nat.reduceEqDiff, ↓reduceIte, Bool.false_eq_true, Nat.reduceAdd, Nat.reduceSub, Nat.reduceBNe, Nat.reduceBEq, Nat.reduceLT, Nat.reduceLeDiff, Nat.reduceMul, Nat.zero_lt_succ, Nat.lt_add_one, Nat.zero_lt_one, Int.reduceToNat, false_implies, true_implies, or_self, or_false, false_or, or_true, true_or, Nat.add_le_add_iff_right, true_and, and_true, forall_const, implies_true, List.contains_cons, List.contains_nil, List.all_cons, List.all_nil, bne_self_eq_false, Option.isSome_none, Option.isSome_some, Bool.or_false, Bool.false_or, Bool.true_or, Bool.or_true, ne_eq, not_false_eq_true, not_true_eq_false, beq_self_eq_true, cond_true, cond_false, Prod.mk.injEq, and_self, reduceCtorEq, BEq.rfl, Bool.and_true, Bool.true_and, Bool.and_false, Bool.false_and]
              have g1 := apF_0 a b i
              have g2 := apF_0 b c i
              have b1 : apF a b i ≤ 10 := apF_lub a b (by decide) fun j hj => by have := ha j hj; have := hbb j hj; have := hr j hj; omega
              have b2 : apF b c i ≤ 10 := apF_lub b c (by decide) fun j hj => by have := hc j hj; have := hbb j hj; have := hr j hj; omega
              have tr := apF_tri a b c i
              have k1 : (apF a b i == apF b a i) = true := by simp [apF_comm a b i]
              have k2 := apF_same a b i
              have k3 : decide (0 ≤ apF a b i) = true := by simpa using g1
              have k4 : decide (apF a c i ≤ apF a b i + apF b c i) = true := by simpa using tr
              simp only [go_sem, Nat.reduceEqDiff, ↓reduceIte, Bool.false_eq_true, Nat.reduceAdd, Nat.reduceSub, Nat.reduceBNe, Nat.reduceBEq, Nat.reduceLT, Nat.reduceLeDiff, Nat.reduceMul, Nat.zero_lt_succ, Nat.lt_add_one, Nat.zero_lt_one, Int.reduceToNat, false_implies, true_implies, or_self, or_false, false_or, or_true, true_or, Nat.add_le_add_iff_right, true_and, and_true, forall_const, implies_true, List.contains_cons, List.contains_nil, List.all_cons, List.all_nil, bne_self_eq_false, Option.isSome_none, Option.isSome_some, Bool.or_false, Bool.false_or, Bool.true_or, Bool.or_true, ne_eq, not_false_eq_true, not_true_eq_false, beq_self_eq_true, cond_true, cond_false, Prod.mk.injEq, and_self, reduceCtorEq, BEq.rfl, Bool.and_true, Bool.true_and, Bool.and_false, Bool.false_and, k1, k2, k3, k4]
              constructor <;> omega
  · have t1 : checkR id n f m1 a = validR id n f := by simp [checkR, hv]
    have t2 : checkR id n f m2 b = validR id n f := by simp [checkR, hv]
    simp only [go_sem, Nat.reduceEqDiff, ↓reduceIte, Bool.false_eq_true, Nat.reduceAdd, Nat.reduceSub, Nat.reduceBNe, Nat.reduceBEq, Nat.reduceLT, Nat.reduceLeDiff, Nat.reduceMul, Nat.zero_lt_succ, Nat.lt_add_one, Nat.zero_lt_one, Int.reduceToNat, false_implies, true_implies, or_self, or_false, false_or, or_true, true_or, Nat.add_le_add_iff_right, true_and, and_true, forall_const, implies_true, List.contains_cons, List.contains_nil, List.all_cons, List.all_nil, bne_self_eq_false, Option.isSome_none, Option.isSome_some, Bool.or_false, Bool.false_or, Bool.true_or, Bool.or_true, ne_eq, not_false_eq_true, not_true_eq_false, beq_self_eq_true, cond_true, cond_false, Prod.mk.injEq, and_self, reduceCtorEq, BEq.rfl, Bool.and_true, Bool.true_and, Bool.and_false, Bool.false_and, bne0_ne hv]
    refine ⟨_, fun _ => valid_ok id n f, nofun, ?_⟩
    simp only [go_sem, Nat.reduceEqDiff, ↓reduceIte, Bool.false_eq_true, Nat.reduceAdd, Nat.reduceSub, Nat.reduceBNe, Nat.reduceBEq, Nat.reduceLT, Nat.reduceLeDiff, Nat.reduceMul, Nat.zero_lt_succ, Nat.lt_add_one, Nat.zero_lt_one, Int.reduceToNat, false_implies, true_implies, or_self, or_false, false_or, or_true, true_or, Nat.add_le_add_iff_right, true_and, and_true, forall_const, implies_true, List.contains_cons, List.contains_nil, List.all_cons, List.all_nil, bne_self_eq_false, Option.isSome_none, Option.isSome_some, Bool.or_false, Bool.false_or, Bool.true_or, Bool.or_true, ne_eq, not_false_eq_true, not_true_eq_false, beq_self_eq_true, cond_true, cond_false, Prod.mk.injEq, and_self, reduceCtorEq, BEq.rfl, Bool.and_true, Bool.true_and, Bool.and_false, Bool.false_and, t1, t2, totR, mostR, hv]
end Go.Proofs.Ytpfahanbkhgfhaa.P41

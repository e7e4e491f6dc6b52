/- Proved here: contracts of functions of this chapter: called with these values, each returns these values and changes nothing that was. Conditions: none but those that each theorem names. -/
import Derived.Test.YtnhpgmmhfgdmjaaTy14
import Derived.Test.YtnhpgmmhfgdmjaaEvY
set_option linter.unusedVariables false
set_option linter.unusedSimpArgs false
open Go Go.Proofs Go.Ev
namespace Go.Proofs.Ytnhpgmmhfgdmjaa.P14
set_option maxRecDepth 100000
def allN (p : Nat → Bool) (n : Nat) : Bool := (List.range n).all p
theorem allN_no {p : Nat → Bool} {n i : Nat} (h : i < n) (hp : p i = false) : allN p n = false := by
  rw [allN, Bool.eq_false_iff]
  intro h'
  rw [List.all_eq_true] at h'
  rw [h' i (by simpa using h)] at hp
  cases hp
theorem allN_yes {p : Nat → Bool} {n : Nat} (h : ∀ i, i < n → p i = true) : allN p n = true := by
  rw [allN, List.all_eq_true]
  intro i hi
  exact h i (by simpa using hi)
def hasN (p : Nat → Bool) (n : Nat) : Bool := (List.range n).any p
theorem hasN_yes {p : Nat → Bool} {n i : Nat} (h : i < n) (hp : p i = true) : hasN p n = true := List.any_eq_true.2 ⟨i, by simpa using h, hp⟩
theorem hasN_no {p : Nat → Bool} {n : Nat} (h : ∀ i, i < n → p i = false) : hasN p n = false := by
  rw [hasN, List.any_eq_false]
  intro i hi
  simp [h i (by simpa using hi)]
/-- A list of numbers, a list of strings. -/
def nD (n : Nat) (a : Nat → Int) : DV := .list 1 n fun i => .int .i64 (a i)
def sD (n : Nat) (a : Nat → ByteArray) : DV := .list 1 n fun i => .str (a i)
def sameI (m : Nat) (a : Nat → Int) (k : Nat) (b : Nat → Int) : Bool := (m == k) && allN (fun i => a i == b i) m
def sameS (m : Nat) (a : Nat → ByteArray) (k : Nat) (b : Nat → ByteArray) : Bool := (m == k) && allN (fun i => (a i).toList == (b i).toList) m
theorem equalS_ok (m : Nat) (a : Nat → ByteArray) (k : Nat) (b : Nat → ByteArray) : FnD Try.prog 26 [.d (sD m a), .d (sD k b)] [.bool (sameS m a k b)] := by
  refine fnD_intro (H := { nt := Go.Func.ntmps Try.f26 }) Try.func26 rfl rfl rfl rfl (Nat.le_of_ble_eq_true rfl) (okC_tri (by kernel_rfl) _ _ _ _ (by kernel_rfl) ?_)
  simp only [go_sem, Nat.reduceEqDiff, ↓reduceIte, Bool.false_eq_true, Nat.reduceAdd, Nat.reduceSub, Nat.reduceBNe, Nat.reduceBEq, Nat.reduceLT, Nat.reduceLeDiff, Nat.reduceMul, Nat.zero_lt_succ, Nat.lt_add_one, Nat.zero_lt_one, Int.reduceToNat, false_implies, true_implies, or_self, or_false, false_or, or_true, true_or, Nat.add_le_add_iff_right, true_and, and_true, forall_const, implies_true, List.contains_cons, List.contains_nil, List.all_cons, List.all_nil, bne_self_eq_false, Option.isSome_none, Option.isSome_some, Bool.or_false, Bool.false_or, Bool.true_or, Bool.or_true, ne_eq, not_false_eq_true, not_true_eq_false, beq_self_eq_true, cond_true, cond_false, Prod.mk.injEq, and_self, reduceCtorEq, BEq.rfl, Bool.and_true, Bool.true_and, Bool.and_false, Bool.false_and, Try.f26, sD]
  intro hm hk
  unfold fits at hm hk
  refine ⟨fun h => ?_, fun h => ?_⟩
  · have : m ≠ k := fun e => by subst e; simp at h
    simp [sameS, this]
  · have : m = k := by simp at h; omega
    subst this
    intro _
    refine ⟨{ i : Nat // i ≤ m ∧ ∀ j, j < i → ((a j).toList == (b j).toList) = true }, fun i => ([(13, .d (.int .i64 i)), (12, .d (.int .i64 m)), (0, .d (.list 1 m fun i => .str (a i))), (1, .d (.list 1 m fun i => .str (b i))), (4, .d (.bool false))], []), fun i => m - i, ⟨0, Nat.zero_le _, fun j h => absurd h (by omega)⟩, ?_, ?_⟩
    · simp only [go_sem, Nat.reduceEqDiff, ↓reduceIte, Bool.false_eq_true, Nat.reduceAdd, Nat.reduceSub, Nat.reduceBNe, Nat.reduceBEq, Nat.reduceLT, Nat.reduceLeDiff, Nat.reduceMul, Nat.zero_lt_succ, Nat.lt_add_one, Nat.zero_lt_one, Int.reduceToNat, false_implies, true_implies, or_self, or_false, false_or, or_true, true_or, Nat.add_le_add_iff_right, true_and, and_true, forall_const, implies_true, List.contains_cons, List.contains_nil, List.all_cons, List.all_nil, bne_self_eq_false, Option.isSome_none, Option.isSome_some, Bool.or_false, Bool.false_or, Bool.true_or, Bool.or_true, ne_eq, not_false_eq_true, not_true_eq_false, beq_self_eq_true, cond_true, cond_false, Prod.mk.injEq, and_self, reduceCtorEq, BEq.rfl, Bool.and_true, Bool.true_and, Bool.and_false, Bool.false_and]
      rfl
    · rintro ⟨i, hi, hok⟩
      simp only [go_sem, Nat.reduceEqDiff, ↓reduceIte, Bool.false_eq_true, Nat.reduceAdd, Nat.reduceSub, Nat.reduceBNe, Nat.reduceBEq, Nat.reduceLT, Nat.reduceLeDiff, Nat.reduceMul, Nat.zero_lt_succ, Nat.lt_add_one, Nat.zero_lt_one, Int.reduceToNat, false_implies, true_implies, or_self, or_false, false_or, or_true, true_or, Nat.add_le_add_iff_right, true_and, and_true, forall_const, implies_true, List.contains_cons, List.contains_nil, List.all_cons, List.all_nil, bne_self_eq_false, Option.isSome_none, Option.isSome_some, Bool.or_false, Bool.false_or, Bool.true_or, Bool.or_true, ne_eq, not_false_eq_true, not_true_eq_false, beq_self_eq_true, cond_true, cond_false, Prod.mk.injEq, and_self, reduceCtorEq, BEq.rfl, Bool.and_true, Bool.true_and, Bool.and_false, Bool.false_and, decide_eq_true_eq]
      refine ⟨fun hlt => ⟨by omega, by omega, fun hb => ?_, fun hb => ⟨by constructor <;> omega, ⟨i + 1, by omega, fun k hk => ?_⟩, by simp only; omega, by simp⟩⟩, fun hge => ?_⟩
      · have hp : ((a i).toList == (b i).toList) = false := by simpa using hb
        simp only [sameS, allN_no (p := fun i => ((a i).toList == (b i).toList)) (show i < m by omega) hp, Bool.and_false]
      · by_cases e : k = i
        · subst e; simpa using hb
        · exact hok k (by omega)
      · have : i = m := by simp at hge; omega
        subst this
        simp only [sameS, allN_yes (p := fun i => ((a i).toList == (b i).toList)) hok, Bool.and_true, beq_self_eq_true]
theorem sameS_ok (m : Nat) (a : Nat → ByteArray) (k : Nat) (b : Nat → ByteArray) : FnD Try.prog 29 [.d (sD m a), .d (sD k b)] [.bool (sameS m a k b)] := by
  refine fnD_intro (H := { nt := Go.Func.ntmps Try.f29 }) Try.func29 rfl rfl rfl rfl (Nat.le_of_ble_eq_true rfl) (okC_tri (by kernel_rfl) _ _ _ _ (by kernel_rfl) ?_)
  simp only [go_sem, Nat.reduceEqDiff, ↓reduceIte, Bool.false_eq_true, Nat.reduceAdd, Nat.reduceSub, Nat.reduceBNe, Nat.reduceBEq, Nat.reduceLT, Nat.reduceLeDiff, Nat.reduceMul, Nat.zero_lt_succ, Nat.lt_add_one, Nat.zero_lt_one, Int.reduceToNat, false_implies, true_implies, or_self, or_false, false_or, or_true, true_or, Nat.add_le_add_iff_right, true_and, and_true, forall_const, implies_true, List.contains_cons, List.contains_nil, List.all_cons, List.all_nil, bne_self_eq_false, Option.isSome_none, Option.isSome_some, Bool.or_false, Bool.false_or, Bool.true_or, Bool.or_true, ne_eq, not_false_eq_true, not_true_eq_false, beq_self_eq_true, cond_true, cond_false, Prod.mk.injEq, and_self, reduceCtorEq, BEq.rfl, Bool.and_true, Bool.true_and, Bool.and_false, Bool.false_and, Try.f29, sD]
  intro hm hk
  unfold fits at hm hk
  refine ⟨fun h => ?_, fun h => ?_⟩
  · have : m ≠ k := fun e => by subst e; simp at h
    simp [sameS, this]
  · have : m = k := by simp at h; omega
    subst this
    intro _
    refine ⟨{ i : Nat // i ≤ m ∧ ∀ j, j < i → ((a j).toList == (b j).toList) = true }, fun i => ([(13, .d (.int .i64 i)), (12, .d (.int .i64 m)), (0, .d (.list 1 m fun i => .str (a i))), (1, .d (.list 1 m fun i => .str (b i))), (4, .d (.bool false))], []), fun i => m - i, ⟨0, Nat.zero_le _, fun j h => absurd h (by omega)⟩, ?_, ?_⟩
    · simp only [go_sem, Nat.reduceEqDiff, ↓reduceIte, Bool.false_eq_true, Nat.reduceAdd, Nat.reduceSub, Nat.reduceBNe, Nat.reduceBEq, Nat.reduceLT, Nat.reduceLeDiff, Nat.reduceMul, Nat.zero_lt_succ, Nat.lt_add_one, Nat.zero_lt_one, Int.reduceToNat, false_implies, true_implies, or_self, or_false, false_or, or_true, true_or, Nat.add_le_add_iff_right, true_and, and_true, forall_const, implies_true, List.contains_cons, List.contains_nil, List.all_cons, List.all_nil, bne_self_eq_false, Option.isSome_none, Option.isSome_some, Bool.or_false, Bool.false_or, Bool.true_or, Bool.or_true, ne_eq, not_false_eq_true, not_true_eq_false, beq_self_eq_true, cond_true, cond_false, Prod.mk.injEq, and_self, reduceCtorEq, BEq.rfl, Bool.and_true, Bool.true_and, Bool.and_false, Bool.false_and]
      rfl
    · rintro ⟨i, hi, hok⟩
      simp only [go_sem, Nat.reduceEqDiff, ↓reduceIte, Bool.false_eq_true, Nat.reduceAdd, Nat.reduceSub, Nat.reduceBNe, Nat.reduceBEq, Nat.reduceLT, Nat.reduceLeDiff, Nat.reduceMul, Nat.zero_lt_succ, Nat.lt_add_one, Nat.zero_lt_one, Int.reduceToNat, false_implies, true_implies, or_self, or_false, false_or, or_true, true_or, Nat.add_le_add_iff_right, true_and, and_true, forall_const, implies_true, List.contains_cons, List.contains_nil, List.all_cons, List.all_nil, bne_self_eq_false, Option.isSome_none, Option.isSome_some, Bool.or_false, Bool.false_or, Bool.true_or, Bool.or_true, ne_eq, not_false_eq_true, not_true_eq_false, beq_self_eq_true, cond_true, cond_false, Prod.mk.injEq, and_self, reduceCtorEq, BEq.rfl, Bool.and_true, Bool.true_and, Bool.and_false, Bool.false_and, decide_eq_true_eq]
      refine ⟨fun hlt => ⟨by omega, by omega, fun hb => ?_, fun hb => ⟨by constructor <;> omega, ⟨i + 1, by omega, fun k hk => ?_⟩, by simp only; omega, by simp⟩⟩, fun hge => ?_⟩
      · have hp : ((a i).toList == (b i).toList) = false := by simpa using hb
        simp only [sameS, allN_no (p := fun i => ((a i).toList == (b i).toList)) (show i < m by omega) hp, Bool.and_false]
      · by_cases e : k = i
        · subst e; simpa using hb
        · exact hok k (by omega)
      · have : i = m := by simp at hge; omega
        subst this
        simp only [sameS, allN_yes (p := fun i => ((a i).toList == (b i).toList)) hok, Bool.and_true, beq_self_eq_true]
theorem names_ok (m : Nat) (a : Nat → ByteArray) (k : Nat) (b : Nat → ByteArray) : FnD Try.prog 7 [.d (sD m a), .d (sD k b)] [.bool (sameS m a k b)] := by
  refine fnD_intro (H := { nt := Go.Func.ntmps Try.f7 }) Try.func7 rfl rfl rfl rfl (Nat.le_of_ble_eq_true rfl) (okC_tri (by kernel_rfl) _ _ _ _ (by kernel_rfl) ?_)
  simp only [go_sem, Nat.reduceEqDiff, ↓reduceIte, Bool.false_eq_true, Nat.reduceAdd, Nat.reduceSub, Nat.reduceBNe, Nat.reduceBEq, Nat.reduceLT, Nat.reduceLeDiff, Nat.reduceMul, Nat.zero_lt_succ, Nat.lt_add_one, Nat.zero_lt_one, Int.reduceToNat, false_implies, true_implies, or_self, or_false, false_or, or_true, true_or, Nat.add_le_add_iff_right, true_and, and_true, forall_const, implies_true, List.contains_cons, List.contains_nil, List.all_cons, List.all_nil, bne_self_eq_false, Option.isSome_none, Option.isSome_some, Bool.or_false, Bool.false_or, Bool.true_or, Bool.or_true, ne_eq, not_false_eq_true, not_true_eq_false, beq_self_eq_true, cond_true, cond_false, Prod.mk.injEq, and_self, reduceCtorEq, BEq.rfl, Bool.and_true, Bool.true_and, Bool.and_false, Bool.false_and, Try.f7, sD]
  intro hm hk
  unfold fits at hm hk
  refine ⟨fun h => ?_, fun h => ?_⟩
  · have : m ≠ k := fun e => by subst e; simp at h
    simp [sameS, this]
  · have : m = k := by simp at h; omega
    subst this
    intro _
    refine ⟨{ i : Nat // i ≤ m ∧ ∀ j, j < i → ((a j).toList == (b j).toList) = true }, fun i => ([(13, .d (.int .i64 i)), (12, .d (.int .i64 m)), (0, .d (.list 1 m fun i => .str (a i))), (1, .d (.list 1 m fun i => .str (b i))), (4, .d (.bool false))], []), fun i => m - i, ⟨0, Nat.zero_le _, fun j h => absurd h (by omega)⟩, ?_, ?_⟩
    · simp only [go_sem, Nat.reduceEqDiff, ↓reduceIte, Bool.false_eq_true, Nat.reduceAdd, Nat.reduceSub, Nat.reduceBNe, Nat.reduceBEq, Nat.reduceLT, Nat.reduceLeDiff, Nat.reduceMul, Nat.zero_lt_succ, Nat.lt_add_one, Nat.zero_lt_one, Int.reduceToNat, false_implies, true_implies, or_self, or_false, false_or, or_true, true_or, Nat.add_le_add_iff_right, true_and, and_true, forall_const, implies_true, List.contains_cons, List.contains_nil, List.all_cons, List.all_nil, bne_self_eq_false, Option.isSome_none, Option.isSome_some, Bool.or_false, Bool.false_or, Bool.true_or, Bool.or_true, ne_eq, not_false_eq_true, not_true_eq_false, beq_self_eq_true, cond_true, cond_false, Prod.mk.injEq, and_self, reduceCtorEq, BEq.rfl, Bool.and_true, Bool.true_and, Bool.and_false, Bool.false_and]
      rfl
    · rintro ⟨i, hi, hok⟩
      simp only [go_sem, Nat.reduceEqDiff, ↓reduceIte, Bool.false_eq_true, Nat.reduceAdd, Nat.reduceSub, Nat.reduceBNe, Nat.reduceBEq, Nat.reduceLT, Nat.reduceLeDiff, Nat.reduceMul, Nat.zero_lt_succ, Nat.lt_add_one, Nat.zero_lt_one, Int.reduceToNat, false_implies, true_implies, or_self, or_false, false_or, or_true, true_or, Nat.add_le_add_iff_right, true_and, and_true, forall_const, implies_true, List.contains_cons, List.contains_nil, List.all_cons, List.all_nil, bne_self_eq_false, Option.isSome_none, Option.isSome_some, Bool.or_false, Bool.false_or, Bool.true_or, Bool.or_true, ne_eq, not_false_eq_true, not_true_eq_false, beq_self_eq_true, cond_true, cond_false, Prod.mk.injEq, and_self, reduceCtorEq, BEq.rfl, Bool.and_true, Bool.true_and, Bool.and_false, Bool.false_and, decide_eq_true_eq]
      refine ⟨fun hlt => ⟨by omega, by omega, fun hb => ?_, fun hb => ⟨by constructor <;> omega, ⟨i + 1, by omega, fun k hk => ?_⟩, by simp only; omega, by simp⟩⟩, fun hge => ?_⟩
      · have hp : ((a i).toList == (b i).toList) = false := by simpa using hb
        simp only [sameS, allN_no (p := fun i => ((a i).toList == (b i).toList)) (show i < m by omega) hp, Bool.and_false]
      · by_cases e : k = i
        · subst e; simpa using hb
        · exact hok k (by omega)
      · have : i = m := by simp at hge; omega
        subst this
        simp only [sameS, allN_yes (p := fun i => ((a i).toList == (b i).toList)) hok, Bool.and_true, beq_self_eq_true]
theorem equalI_ok (m : Nat) (a : Nat → Int) (k : Nat) (b : Nat → Int) : FnD Try.prog 27 [.d (nD m a), .d (nD k b)] [.bool (sameI m a k b)] := by
  refine fnD_intro (H := { nt := Go.Func.ntmps Try.f27 }) Try.func27 rfl rfl rfl rfl (Nat.le_of_ble_eq_true rfl) (okC_tri (by kernel_rfl) _ _ _ _ (by kernel_rfl) ?_)
  simp only [go_sem, Nat.reduceEqDiff, ↓reduceIte, Bool.false_eq_true, Nat.reduceAdd, Nat.reduceSub, Nat.reduceBNe, Nat.reduceBEq, Nat.reduceLT, Nat.reduceLeDiff, Nat.reduceMul, Nat.zero_lt_succ, Nat.lt_add_one, Nat.zero_lt_one, Int.reduceToNat, false_implies, true_implies, or_self, or_false, false_or, or_true, true_or, Nat.add_le_add_iff_right, true_and, and_true, forall_const, implies_true, List.contains_cons, List.contains_nil, List.all_cons, List.all_nil, bne_self_eq_false, Option.isSome_none, Option.isSome_some, Bool.or_false, Bool.false_or, Bool.true_or, Bool.or_true, ne_eq, not_false_eq_true, not_true_eq_false, beq_self_eq_true, cond_true, cond_false, Prod.mk.injEq, and_self, reduceCtorEq, BEq.rfl, Bool.and_true, Bool.true_and, Bool.and_false, Bool.false_and, Try.f27, nD]
  intro hm hk
  unfold fits at hm hk
  refine ⟨fun h => ?_, fun h => ?_⟩
  · have : m ≠ k := fun e => by subst e; simp at h
    simp [sameI, this]
  · have : m = k := by simp at h; omega
    subst this
    intro _
    refine ⟨{ i : Nat // i ≤ m ∧ ∀ j, j < i → (a j == b j) = true }, fun i => ([(13, .d (.int .i64 i)), (12, .d (.int .i64 m)), (0, .d (.list 1 m fun i => .int .i64 (a i))), (1, .d (.list 1 m fun i => .int .i64 (b i))), (4, .d (.bool false))], []), fun i => m - i, ⟨0, Nat.zero_le _, fun j h => absurd h (by omega)⟩, ?_, ?_⟩
    · simp only [go_sem, Nat.reduceEqDiff, ↓reduceIte, Bool.false_eq_true, Nat.reduceAdd, Nat.reduceSub, Nat.reduceBNe, Nat.reduceBEq, Nat.reduceLT, Nat.reduceLeDiff, Nat.reduceMul, Nat.zero_lt_succ, Nat.lt_add_one, Nat.zero_lt_one, Int.reduceToNat, false_implies, true_implies, or_self, or_false, false_or, or_true, true_or, Nat.add_le_add_iff_right, true_and, and_true, forall_const, implies_true, List.contains_cons, List.contains_nil, List.all_cons, List.all_nil, bne_self_eq_false, Option.isSome_none, Option.isSome_some, Bool.or_false, Bool.false_or, Bool.true_or, Bool.or_true, ne_eq, not_false_eq_true, not_true_eq_false, beq_self_eq_true, cond_true, cond_false, Prod.mk.injEq, and_self, reduceCtorEq, BEq.rfl, Bool.and_true, Bool.true_and, Bool.and_false, Bool.false_and]
      rfl
    · rintro ⟨i, hi, hok⟩
      simp only [go_sem, Nat.reduceEqDiff, ↓reduceIte, Bool.false_eq_true, Nat.reduceAdd, Nat.reduceSub, Nat.reduceBNe, Nat.reduceBEq, Nat.reduceLT, Nat.reduceLeDiff, Nat.reduceMul, Nat.zero_lt_succ, Nat.lt_add_one, Nat.zero_lt_one, Int.reduceToNat, false_implies, true_implies, or_self, or_false, false_or, or_true, true_or, Nat.add_le_add_iff_right, true_and, and_true, forall_const, implies_true, List.contains_cons, List.contains_nil, List.all_cons, List.all_nil, bne_self_eq_false, Option.isSome_none, Option.isSome_some, Bool.or_false, Bool.false_or, Bool.true_or, Bool.or_true, ne_eq, not_false_eq_true, not_true_eq_false, beq_self_eq_true, cond_true, cond_false, Prod.mk.injEq, and_self, reduceCtorEq, BEq.rfl, Bool.and_true, Bool.true_and, Bool.and_false, Bool.false_and, decide_eq_true_eq]
      refine ⟨fun hlt => ⟨by omega, by omega, fun hb => ?_, fun hb => ⟨by constructor <;> omega, ⟨i + 1, by omega, fun k hk => ?_⟩, by simp only; omega, by simp⟩⟩, fun hge => ?_⟩
      · have hp : (a i == b i) = false := by simpa using hb
        simp only [sameI, allN_no (p := fun i => (a i == b i)) (show i < m by omega) hp, Bool.and_false]
      · by_cases e : k = i
        · subst e; simpa using hb
        · exact hok k (by omega)
      · have : i = m := by simp at hge; omega
        subst this
        simp only [sameI, allN_yes (p := fun i => (a i == b i)) hok, Bool.and_true, beq_self_eq_true]
theorem sameI_ok (m : Nat) (a : Nat → Int) (k : Nat) (b : Nat → Int) : FnD Try.prog 30 [.d (nD m a), .d (nD k b)] [.bool (sameI m a k b)] := by
  refine fnD_intro (H := { nt := Go.Func.ntmps Try.f30 }) Try.func30 rfl rfl rfl rfl (Nat.le_of_ble_eq_true rfl) (okC_tri (by kernel_rfl) _ _ _ _ (by kernel_rfl) ?_)
  simp only [go_sem, Nat.reduceEqDiff, ↓reduceIte, Bool.false_eq_true, Nat.reduceAdd, Nat.reduceSub, Nat.reduceBNe, Nat.reduceBEq, Nat.reduceLT, Nat.reduceLeDiff, Nat.reduceMul, Nat.zero_lt_succ, Nat.lt_add_one, Nat.zero_lt_one, Int.reduceToNat, false_implies, true_implies, or_self, or_false, false_or, or_true, true_or, Nat.add_le_add_iff_right, true_and, and_true, forall_const, implies_true, List.contains_cons, List.contains_nil, List.all_cons, List.all_nil, bne_self_eq_false, Option.isSome_none, Option.isSome_some, Bool.or_false, Bool.false_or, Bool.true_or, Bool.or_true, ne_eq, not_false_eq_true, not_true_eq_false, beq_self_eq_true, cond_true, cond_false, Prod.mk.injEq, and_self, reduceCtorEq, BEq.rfl, Bool.and_true, Bool.true_and, Bool.and_false, Bool.false_and, Try.f30, nD]
  intro hm hk
  unfold fits at hm hk
  refine ⟨fun h => ?_, fun h => ?_⟩
  · have : m ≠ k := fun e => by subst e; simp at h
    simp [sameI, this]
  · have : m = k := by simp at h; omega
    subst this
    intro _
    refine ⟨{ i : Nat // i ≤ m ∧ ∀ j, j < i → (a j == b j) = true }, fun i => ([(13, .d (.int .i64 i)), (12, .d (.int .i64 m)), (0, .d (.list 1 m fun i => .int .i64 (a i))), (1, .d (.list 1 m fun i => .int .i64 (b i))), (4, .d (.bool false))], []), fun i => m - i, ⟨0, Nat.zero_le _, fun j h => absurd h (by omega)⟩, ?_, ?_⟩
    · simp only [go_sem, Nat.reduceEqDiff, ↓reduceIte, Bool.false_eq_true, Nat.reduceAdd, Nat.reduceSub, Nat.reduceBNe, Nat.reduceBEq, Nat.reduceLT, Nat.reduceLeDiff, Nat.reduceMul, Nat.zero_lt_succ, Nat.lt_add_one, Nat.zero_lt_one, Int.reduceToNat, false_implies, true_implies, or_self, or_false, false_or, or_true, true_or, Nat.add_le_add_iff_right, true_and, and_true, forall_const, implies_true, List.contains_cons, List.contains_nil, List.all_cons, List.all_nil, bne_self_eq_false, Option.isSome_none, Option.isSome_some, Bool.or_false, Bool.false_or, Bool.true_or, Bool.or_true, ne_eq, not_false_eq_true, not_true_eq_false, beq_self_eq_true, cond_true, cond_false, Prod.mk.injEq, and_self, reduceCtorEq, BEq.rfl, Bool.and_true, Bool.true_and, Bool.and_false, Bool.false_and]
      rfl
    · rintro ⟨i, hi, hok⟩
      simp only [go_sem, Nat.reduceEqDiff, ↓reduceIte, Bool.false_eq_true, Nat.reduceAdd, Nat.reduceSub, Nat.reduceBNe, Nat.reduceBEq, Nat.reduceLT, Nat.reduceLeDiff, Nat.reduceMul, Nat.zero_lt_succ, Nat.lt_add_one, Nat.zero_lt_one, Int.reduceToNat, false_implies, true_implies, or_self, or_false, false_or, or_true, true_or, Nat.add_le_add_iff_right, true_and, and_true, forall_const, implies_true, List.contains_cons, List.contains_nil, List.all_cons, List.all_nil, bne_self_eq_false, Option.isSome_none, Option.isSome_some, Bool.or_false, Bool.false_or, Bool.true_or, Bool.or_true, ne_eq, not_false_eq_true, not_true_eq_false, beq_self_eq_true, cond_true, cond_false, Prod.mk.injEq, and_self, reduceCtorEq, BEq.rfl, Bool.and_true, Bool.true_and, Bool.and_false, Bool.false_and, decide_eq_true_eq]
      refine ⟨fun hlt => ⟨by omega, by omega, fun hb => ?_, fun hb => ⟨by constructor <;> omega, ⟨i + 1, by omega, fun k hk => ?_⟩, by simp only; omega, by simp⟩⟩, fun hge => ?_⟩
      · have hp : (a i == b i) = false := by simpa using hb
        simp only [sameI, allN_no (p := fun i => (a i == b i)) (show i < m by omega) hp, Bool.and_false]
      · by_cases e : k = i
        · subst e; simpa using hb
        · exact hok k (by omega)
      · have : i = m := by simp at hge; omega
        subst this
        simp only [sameI, allN_yes (p := fun i => (a i == b i)) hok, Bool.and_true, beq_self_eq_true]
theorem contains_ok (m : Nat) (a : Nat → ByteArray) (x : ByteArray) : FnD Try.prog 15 [.d (sD m a), .d (.str x)] [.bool (hasN (fun i => (a i).toList == x.toList) m)] := by
  refine fnD_intro (H := { nt := Go.Func.ntmps Try.f15 }) Try.func15 rfl rfl rfl rfl (Nat.le_of_ble_eq_true rfl) (okC_tri (by kernel_rfl) _ _ _ _ (by kernel_rfl) ?_)
  simp only [go_sem, Nat.reduceEqDiff, ↓reduceIte, Bool.false_eq_true, Nat.reduceAdd, Nat.reduceSub, Nat.reduceBNe, Nat.reduceBEq, Nat.reduceLT, Nat.reduceLeDiff, Nat.reduceMul, Nat.zero_lt_succ, Nat.lt_add_one, Nat.zero_lt_one, Int.reduceToNat, false_implies, true_implies, or_self, or_false, false_or, or_true, true_or, Nat.add_le_add_iff_right, true_and, and_true, forall_const, implies_true, List.contains_cons, List.contains_nil, List.all_cons, List.all_nil, bne_self_eq_false, Option.isSome_none, Option.isSome_some, Bool.or_false, Bool.false_or, Bool.true_or, Bool.or_true, ne_eq, not_false_eq_true, not_true_eq_false, beq_self_eq_true, cond_true, cond_false, Prod.mk.injEq, and_self, reduceCtorEq, BEq.rfl, Bool.and_true, Bool.true_and, Bool.and_false, Bool.false_and, Try.f15, sD]
  intro hm
  unfold fits at hm
  refine ⟨{ i : Nat // i ≤ m ∧ ∀ j, j < i → ((a j).toList == x.toList) = false }, fun i => ([(9, .d (.int .i64 i)), (8, .d (.int .i64 m)), (7, .d (.list 1 m fun i => .str (a i))), (1, .d (.str x)), (4, .d (.bool false))], []), fun i => m - i, ⟨0, Nat.zero_le _, fun j h => absurd h (by omega)⟩, ?_, ?_⟩
  · simp only [go_sem, Nat.reduceEqDiff, ↓reduceIte, Bool.false_eq_true, Nat.reduceAdd, Nat.reduceSub, Nat.reduceBNe, Nat.reduceBEq, Nat.reduceLT, Nat.reduceLeDiff, Nat.reduceMul, Nat.zero_lt_succ, Nat.lt_add_one, Nat.zero_lt_one, Int.reduceToNat, false_implies, true_implies, or_self, or_false, false_or, or_true, true_or, Nat.add_le_add_iff_right, true_and, and_true, forall_const, implies_true, List.contains_cons, List.contains_nil, List.all_cons, List.all_nil, bne_self_eq_false, Option.isSome_none, Option.isSome_some, Bool.or_false, Bool.false_or, Bool.true_or, Bool.or_true, ne_eq, not_false_eq_true, not_true_eq_false, beq_self_eq_true, cond_true, cond_false, Prod.mk.injEq, and_self, reduceCtorEq, BEq.rfl, Bool.and_true, Bool.true_and, Bool.and_false, Bool.false_and]
    rfl
  · rintro ⟨i, hi, hok⟩
    simp only [go_sem, Nat.reduceEqDiff, ↓reduceIte, Bool.false_eq_true, Nat.reduceAdd, Nat.reduceSub, Nat.reduceBNe, Nat.reduceBEq, Nat.reduceLT, Nat.reduceLeDiff, Nat.reduceMul, Nat.zero_lt_succ, Nat.lt_add_one, Nat.zero_lt_one, Int.reduceToNat, false_implies, true_implies, or_self, or_false, false_or, or_true, true_or, Nat.add_le_add_iff_right, true_and, and_true, forall_const, implies_true, List.contains_cons, List.contains_nil, List.all_cons, List.all_nil, bne_self_eq_false, Option.isSome_none, Option.isSome_some, Bool.or_false, Bool.false_or, Bool.true_or, Bool.or_true, ne_eq, not_false_eq_true, not_true_eq_false, beq_self_eq_true, cond_true, cond_false, Prod.mk.injEq, and_self, reduceCtorEq, BEq.rfl, Bool.and_true, Bool.true_and, Bool.and_false, Bool.false_and, decide_eq_true_eq]
    refine ⟨fun hlt => ⟨by omega, fun hb => ?_, fun hb => ⟨by constructor <;> omega, ⟨i + 1, by omega, fun k hk => ?_⟩, by simp only; omega, by simp⟩⟩, fun hge => ?_⟩
    · rw [hasN_yes (p := fun i => (a i).toList == x.toList) (show i < m by omega) hb]
    · by_cases e : k = i
      · subst e; exact hb
      · exact hok k (by omega)
    · have : i = m := by simp at hge; omega
      subst this
      rw [hasN_no (p := fun i => (a i).toList == x.toList) hok]
def inR (n lo hi : Int) : Bool := bif decide (lo ≤ n) then decide (n ≤ hi) else false
theorem within_ok (n lo hi : Int) : FnD Try.prog 34 [.d (.int .i64 n), .d (.int .i64 lo), .d (.int .i64 hi)] [.bool (inR n lo hi)] := by
  refine fnD_intro (H := { nt := Go.Func.ntmps Try.f34 }) Try.func34 rfl rfl rfl rfl (Nat.le_of_ble_eq_true rfl) (okC_tri (by kernel_rfl) _ _ _ _ (by kernel_rfl) ?_)
  simp only [go_sem, Nat.reduceEqDiff, ↓reduceIte, Bool.false_eq_true, Nat.reduceAdd, Nat.reduceSub, Nat.reduceBNe, Nat.reduceBEq, Nat.reduceLT, Nat.reduceLeDiff, Nat.reduceMul, Nat.zero_lt_succ, Nat.lt_add_one, Nat.zero_lt_one, Int.reduceToNat, false_implies, true_implies, or_self, or_false, false_or, or_true, true_or, Nat.add_le_add_iff_right, true_and, and_true, forall_const, implies_true, List.contains_cons, List.contains_nil, List.all_cons, List.all_nil, bne_self_eq_false, Option.isSome_none, Option.isSome_some, Bool.or_false, Bool.false_or, Bool.true_or, Bool.or_true, ne_eq, not_false_eq_true, not_true_eq_false, beq_self_eq_true, cond_true, cond_false, Prod.mk.injEq, and_self, reduceCtorEq, BEq.rfl, Bool.and_true, Bool.true_and, Bool.and_false, Bool.false_and, Try.f34]
  rfl
theorem rwithin_ok (n lo hi : Int) : FnD Try.prog 53 [.d (.int .i64 n), .d (.int .i64 lo), .d (.int .i64 hi)] [.bool (inR n lo hi)] := by
  refine fnD_intro (H := { nt := Go.Func.ntmps Try.f53 }) Try.func53 rfl rfl rfl rfl (Nat.le_of_ble_eq_true rfl) (okC_tri (by kernel_rfl) _ _ _ _ (by kernel_rfl) ?_)
  simp only [go_sem, Nat.reduceEqDiff, ↓reduceIte, Bool.false_eq_true, Nat.reduceAdd, Nat.reduceSub, Nat.reduceBNe, Nat.reduceBEq, Nat.reduceLT, Nat.reduceLeDiff, Nat.reduceMul, Nat.zero_lt_succ, Nat.lt_add_one, Nat.zero_lt_one, Int.reduceToNat, false_implies, true_implies, or_self, or_false, false_or, or_true, true_or, Nat.add_le_add_iff_right, true_and, and_true, forall_const, implies_true, List.contains_cons, List.contains_nil, List.all_cons, List.all_nil, bne_self_eq_false, Option.isSome_none, Option.isSome_some, Bool.or_false, Bool.false_or, Bool.true_or, Bool.or_true, ne_eq, not_false_eq_true, not_true_eq_false, beq_self_eq_true, cond_true, cond_false, Prod.mk.injEq, and_self, reduceCtorEq, BEq.rfl, Bool.and_true, Bool.true_and, Bool.and_false, Bool.false_and, Try.f53]
  rfl
end Go.Proofs.Ytnhpgmmhfgdmjaa.P14

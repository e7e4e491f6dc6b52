/- Proved here: contracts of functions of this chapter: called with these values, each returns these values and changes nothing that was. Conditions: none but those that each theorem names. -/
import Derived.Test.YtpfahanbkhgfhaaDoorD41b
set_option linter.unusedSimpArgs false
set_option linter.unusedVariables false
open Go Go.Proofs Go.Ev
namespace Go.Proofs.YtpfahanbkhgfhaaDoor.P41
set_option maxRecDepth 100000
theorem first0 {e : Nat → Int} {n : Nat} (h : firstE e n = 0) : ∀ i, i < n → e i = 0 := by
  intro i hi
  unfold firstE at h
  split at h
  · rename_i j hj
    have := List.find?_some hj
    simp [h] at this
  · rename_i hn
    rw [List.find?_eq_none] at hn
    simpa using hn i (by simpa using hi)
theorem valid0 {id : Int} {n : Nat} {f : Nat → Tr} (h : validR id n f = 0) : 1 ≤ n ∧ n ≤ 6 ∧ ∀ i, i < n → 1 ≤ (f i).most ∧ (f i).most ≤ 10 ∧ 1 ≤ (f i).weight ∧ (f i).weight ≤ 10 := by
  unfold validR at h
  split at h
  · cases h
  · split at h
    · cases h
    · split at h
      · cases h
      · refine ⟨by omega, by omega, fun i hi => ?_⟩
        have := first0 h i hi
        unfold rowE at this
        repeat' split at this
        all_goals first | (cases this; done) | skip
        rename_i hb
        simp only [badR] at hb
        have hb : (bif bif bif decide ((f i).most < 1) then true else decide (10 < (f i).most) then true else decide ((f i).weight < 1) then true else decide (10 < (f i).weight)) = false := by simpa using hb
        simp only [Bool.cond_eq_ite, Bool.if_true_left, Bool.or_eq_false_iff, decide_eq_false_iff_not, Bool.decide_eq_true] at hb
        omega
theorem check0 {id : Int} {n : Nat} {f : Nat → Tr} {m : Nat} {a : Nat → Int} (h : checkR id n f m a = 0) : validR id n f = 0 ∧ m = n ∧ ∀ i, i < n → 0 ≤ a i ∧ a i ≤ (f i).most := by
  unfold checkR at h
  split at h
  · rename_i h0; exact absurd h h0
  · rename_i h0
    split at h
    · cases h
    · rename_i h1
      have h1 : m = n := by simpa using h1
      subst h1
      refine ⟨by simpa using h0, rfl, fun i hi => ?_⟩
      have := first0 h i hi
      unfold markE at this
      split at this
      · cases this
      · rename_i hb
        have hb : (bif decide (a i < 0) then true else decide ((f i).most < a i)) = false := by simpa using hb
        simp only [Bool.cond_eq_ite, Bool.if_true_left, Bool.or_eq_false_iff, decide_eq_false_iff_not, Bool.decide_eq_true] at hb
        omega
def cutF (n : Nat) (f : Nat → Int) (i : Nat) : Int := if i < n then f i else 0
theorem beq0_ne {x : Int} (h : x ≠ 0) : (x == 0) = false := by simpa using h
theorem beq0_eq {x : Int} (h : x = 0) : (x == 0) = true := by simpa using h
theorem bne0_ne {x : Int} (h : x ≠ 0) : (x != 0) = true := by simpa using h
theorem bne0_eq {x : Int} (h : x = 0) : (x != 0) = false := by simpa using h
theorem one_cut (g : Nat → Int) : (fun k => [DV.int .i64 (g 0)].getD k (.int .i64 0)) = fun k => DV.int .i64 (cutF 1 g k) := by
  funext k
  match k with
  | 0 => rfl
  | k + 1 => simp [cutF]
theorem join_cut (i : Nat) (g : Nat → Int) : joinF i (fun k => DV.int .i64 (cutF i g k)) (fun k => [DV.int .i64 (g i)].getD k (.int .i64 0)) = fun k => DV.int .i64 (cutF (i + 1) g k) := by
  funext k
  simp only [joinF]
  by_cases h : k < i
  · simp only [if_pos h, cutF, if_pos (show k < i + 1 by omega)]
  · rw [if_neg h]
    by_cases h2 : k = i
    · subst h2; simp [cutF]
    · obtain ⟨j, hj⟩ : ∃ j, k - i = j + 1 := ⟨k - i - 1, by omega⟩
      rw [hj]
      simp [cutF, show ¬ k < i + 1 by omega]
/-! totals -/
def sumF (x : Nat → Int) : Nat → Int
  | 0 => 0
  | i + 1 => sumF x i + x i
def totR (id : Int) (n : Nat) (f : Nat → Tr) (m : Nat) (a : Nat → Int) : Int := if checkR id n f m a ≠ 0 then 0 else sumF (fun i => a i * (f i).weight) n
def mostR (id : Int) (n : Nat) (f : Nat → Tr) : Int := if validR id n f ≠ 0 then 0 else sumF (fun i => (f i).most * (f i).weight) n
theorem mul_le {x y c d : Int} (h1 : 0 ≤ x) (h2 : x ≤ c) (h3 : 0 ≤ y) (h4 : y ≤ d) : 0 ≤ x * y ∧ x * y ≤ c * d :=
  ⟨Int.mul_nonneg h1 h3, Int.mul_le_mul h2 h4 h3 (Int.le_trans h1 h2)⟩
theorem sum_le {x : Nat → Int} : ∀ {i : Nat}, (∀ j, j < i → 0 ≤ x j ∧ x j ≤ 100) → 0 ≤ sumF x i ∧ sumF x i ≤ 100 * i
  | 0, _ => by simp [sumF]
  | i + 1, h => by
    have := sum_le (i := i) fun j hj => h j (by omega)
    have := h i (by omega)
    simp only [sumF]
    omega
theorem total_ok (id : Int) (n : Nat) (f : Nat → Tr) (m : Nat) (a : Nat → Int) : FnD Tryd.prog 13 [.d (rD id n f), .d (mD m a)] [.int .i64 (totR id n f m a), .int .i64 (checkR id n f m a)] := by
  refine fnD_intro (H := { nt := Go.Func.ntmps Tryd.f13 }) Tryd.func13 rfl rfl rfl rfl (Nat.le_of_ble_eq_true rfl) (okC_tri (by kernel_rfl) _ _ _ _ (by kernel_rfl) ?_)
  simp only [go_sem, Nat.reduceEqDiff, ↓reduceIte, Bool.false_eq_true, Nat.reduceAdd, Nat.reduceSub, Nat.reduceBNe, Nat.reduceBEq, Nat.reduceLT, Nat.reduceLeDiff, Nat.reduceMul, Nat.zero_lt_succ, Nat.lt_add_one, Nat.zero_lt_one, Int.reduceToNat, false_implies, true_implies, or_self, or_false, false_or, or_true, true_or, Nat.add_le_add_iff_right, true_and, and_true, forall_const, implies_true, List.contains_cons, List.contains_nil, List.all_cons, List.all_nil, bne_self_eq_false, Option.isSome_none, Option.isSome_some, Bool.or_false, Bool.false_or, Bool.true_or, Bool.or_true, ne_eq, not_false_eq_true, not_true_eq_false, beq_self_eq_true, cond_true, cond_false, Prod.mk.injEq, and_self, reduceCtorEq, BEq.rfl, Bool.and_true, Bool.true_and, Bool.and_false, Bool.false_and, Tryd.f13, rD, mD]
  refine ⟨_, fun _ => check_ok id n f m a, ?_, ?_⟩
  focus (first | exact fun _ => rfl | exact fun h0 => absurd h0 (by decide))
  simp only [go_sem, Nat.reduceEqDiff, ↓reduceIte, Bool.false_eq_true, Nat.reduceAdd, Nat.reduceSub, Nat.reduceBNe, Nat.reduceBEq, Nat.reduceLT, Nat.reduceLeDiff, Nat.reduceMul, Nat.zero_lt_succ, Nat.lt_add_one, Nat.zero_lt_one, Int.reduceToNat, false_implies, true_implies, or_self, or_false, false_or, or_true, true_or, Nat.add_le_add_iff_right, true_and, and_true, forall_const, implies_true, List.contains_cons, List.contains_nil, List.all_cons, List.all_nil, bne_self_eq_false, Option.isSome_none, Option.isSome_some, Bool.or_false, Bool.false_or, Bool.true_or, Bool.or_true, ne_eq, not_false_eq_true, not_true_eq_false, beq_self_eq_true, cond_true, cond_false, Prod.mk.injEq, and_self, reduceCtorEq, BEq.rfl, Bool.and_true, Bool.true_and, Bool.and_false, Bool.false_and]
  refine ⟨fun h => ?_, fun h hm => ?_⟩
  · have h' : checkR id n f m a ≠ 0 := by simpa using h
    simp only [totR, if_pos h']
  · have h' : checkR id n f m a = 0 := by simpa using h
    obtain ⟨v0, q1, ha⟩ := check0 h'
    subst q1
    obtain ⟨n1, n6, hr⟩ := valid0 v0
    have hres : totR id m f m a = sumF (fun i => a i * (f i).weight) m := by simp [totR, h']
    rw [h', hres]
    refine ⟨{ i : Nat // i ≤ m }, fun i => ([(19, .d (.int .i64 i)), (18, .d (.int .i64 m)), (17, .d (.list 3 m fun i => tD (f i))), (7, .d (.int .i64 (sumF (fun i => a i * (f i).weight) i))), (1, .d (.list 1 m fun i => .int .i64 (a i)))], []), fun i => m - i, ⟨0, Nat.zero_le _⟩, ?_, ?_⟩
    · simp only [go_sem, Nat.reduceEqDiff, ↓reduceIte, Bool.false_eq_true, Nat.reduceAdd, Nat.reduceSub, Nat.reduceBNe, Nat.reduceBEq, Nat.reduceLT, Nat.reduceLeDiff, Nat.reduceMul, Nat.zero_lt_succ, Nat.lt_add_one, Nat.zero_lt_one, Int.reduceToNat, false_implies, true_implies, or_self, or_false, false_or, or_true, true_or, Nat.add_le_add_iff_right, true_and, and_true, forall_const, implies_true, List.contains_cons, List.contains_nil, List.all_cons, List.all_nil, bne_self_eq_false, Option.isSome_none, Option.isSome_some, Bool.or_false, Bool.false_or, Bool.true_or, Bool.or_true, ne_eq, not_false_eq_true, not_true_eq_false, beq_self_eq_true, cond_true, cond_false, Prod.mk.injEq, and_self, reduceCtorEq, BEq.rfl, Bool.and_true, Bool.true_and, Bool.and_false, Bool.false_and]
      exact ⟨rfl, rfl⟩
    · rintro ⟨i, hi⟩
      simp only [go_sem, Nat.reduceEqDiff, ↓reduceIte, Bool.false_eq_true, Nat.reduceAdd, Nat.reduceSub, Nat.reduceBNe, Nat.reduceBEq, Nat.reduceLT, Nat.reduceLeDiff, Nat.reduceMul, Nat.zero_lt_succ, Nat.lt_add_one, Nat.zero_lt_one, Int.reduceToNat, false_implies, true_implies, or_self, or_false, false_or, or_true, true_or, Nat.add_le_add_iff_right, true_and, and_true, forall_const, implies_true, List.contains_cons, List.contains_nil, List.all_cons, List.all_nil, bne_self_eq_false, Option.isSome_none, Option.isSome_some, Bool.or_false, Bool.false_or, Bool.true_or, Bool.or_true, ne_eq, not_false_eq_true, not_true_eq_false, beq_self_eq_true, cond_true, cond_false, Prod.mk.injEq, and_self, reduceCtorEq, BEq.rfl, Bool.and_true, Bool.true_and, Bool.and_false, Bool.false_and, decide_eq_true_eq, ze45]
      have hs := sum_le (x := fun i => a i * (f i).weight) (i := i) fun j hj => by
        obtain ⟨p1, p2⟩ := ha j (by omega)
        obtain ⟨p5, p6, p7, p8⟩ := hr j (by omega)
        exact mul_le (c := 10) (d := 10) p1 (by omega) (by omega) p8
      refine ⟨fun hlt => ?_, fun hge => ?_⟩
      · obtain ⟨p1, p2⟩ := ha i (by omega)
        obtain ⟨p5, p6, p7, p8⟩ := hr i (by omega)
        have hx := mul_le (c := 10) (d := 10) p1 (by omega) (show 0 ≤ (f i).weight by omega) p8
        exact ⟨by omega, by omega, by omega, by omega, by omega, ⟨i + 1, by omega⟩, by simp only; omega, by simp, rfl⟩
      · have : i = m := by simp at hge; omega
        subst this
        rfl
theorem most_ok (id : Int) (n : Nat) (f : Nat → Tr) : FnD Tryd.prog 15 [.d (rD id n f)] [.int .i64 (mostR id n f), .int .i64 (validR id n f)] := by
  refine fnD_intro (H := { nt := Go.Func.ntmps Tryd.f15 }) Tryd.func15 rfl rfl rfl rfl (Nat.le_of_ble_eq_true rfl) (okC_tri (by kernel_rfl) _ _ _ _ (by kernel_rfl) ?_)
  simp only [go_sem, Nat.reduceEqDiff, ↓reduceIte, Bool.false_eq_true, Nat.reduceAdd, Nat.reduceSub, Nat.reduceBNe, Nat.reduceBEq, Nat.reduceLT, Nat.reduceLeDiff, Nat.reduceMul, Nat.zero_lt_succ, Nat.lt_add_one, Nat.zero_lt_one, Int.reduceToNat, false_implies, true_implies, or_self, or_false, false_or, or_true, true_or, Nat.add_le_add_iff_right, true_and, and_true, forall_const, implies_true, List.contains_cons, List.contains_nil, List.all_cons, List.all_nil, bne_self_eq_false, Option.isSome_none, Option.isSome_some, Bool.or_false, Bool.false_or, Bool.true_or, Bool.or_true, ne_eq, not_false_eq_true, not_true_eq_false, beq_self_eq_true, cond_true, cond_false, Prod.mk.injEq, and_self, reduceCtorEq, BEq.rfl, Bool.and_true, Bool.true_and, Bool.and_false, Bool.false_and, Tryd.f15, rD, mD]
  refine ⟨_, fun _ => valid_ok id n f, ?_, ?_⟩
  focus (first | exact fun _ => rfl | exact fun h0 => absurd h0 (by decide))
  simp only [go_sem, Nat.reduceEqDiff, ↓reduceIte, Bool.false_eq_true, Nat.reduceAdd, Nat.reduceSub, Nat.reduceBNe, Nat.reduceBEq, Nat.reduceLT, Nat.reduceLeDiff, Nat.reduceMul, Nat.zero_lt_succ, Nat.lt_add_one, Nat.zero_lt_one, Int.reduceToNat, false_implies, true_implies, or_self, or_false, false_or, or_true, true_or, Nat.add_le_add_iff_right, true_and, and_true, forall_const, implies_true, List.contains_cons, List.contains_nil, List.all_cons, List.all_nil, bne_self_eq_false, Option.isSome_none, Option.isSome_some, Bool.or_false, Bool.false_or, Bool.true_or, Bool.or_true, ne_eq, not_false_eq_true, not_true_eq_false, beq_self_eq_true, cond_true, cond_false, Prod.mk.injEq, and_self, reduceCtorEq, BEq.rfl, Bool.and_true, Bool.true_and, Bool.and_false, Bool.false_and]
  refine ⟨fun h => ?_, fun h hm => ?_⟩
  · have h' : validR id n f ≠ 0 := by simpa using h
    simp only [mostR, if_pos h']
  · have v0 : validR id n f = 0 := by simpa using h
    obtain ⟨n1, n6, hr⟩ := valid0 v0
    have hres : mostR id n f = sumF (fun i => (f i).most * (f i).weight) n := by simp [mostR, v0]
    rw [v0, hres]
    refine ⟨{ i : Nat // i ≤ n }, fun i => ([(16, .d (.int .i64 i)), (15, .d (.int .i64 n)), (14, .d (.list 3 n fun i => tD (f i))), (5, .d (.int .i64 (sumF (fun i => (f i).most * (f i).weight) i)))], []), fun i => n - i, ⟨0, Nat.zero_le _⟩, ?_, ?_⟩
    · simp only [go_sem, Nat.reduceEqDiff, ↓reduceIte, Bool.false_eq_true, Nat.reduceAdd, Nat.reduceSub, Nat.reduceBNe, Nat.reduceBEq, Nat.reduceLT, Nat.reduceLeDiff, Nat.reduceMul, Nat.zero_lt_succ, Nat.lt_add_one, Nat.zero_lt_one, Int.reduceToNat, false_implies, true_implies, or_self, or_false, false_or, or_true, true_or, Nat.add_le_add_iff_right, true_and, and_true, forall_const, implies_true, List.contains_cons, List.contains_nil, List.all_cons, List.all_nil, bne_self_eq_false, Option.isSome_none, Option.isSome_some, Bool.or_false, Bool.false_or, Bool.true_or, Bool.or_true, ne_eq, not_false_eq_true, not_true_eq_false, beq_self_eq_true, cond_true, cond_false, Prod.mk.injEq, and_self, reduceCtorEq, BEq.rfl, Bool.and_true, Bool.true_and, Bool.and_false, Bool.false_and]
      exact ⟨rfl, rfl⟩
    · rintro ⟨i, hi⟩
      simp only [go_sem, Nat.reduceEqDiff, ↓reduceIte, Bool.false_eq_true, Nat.reduceAdd, Nat.reduceSub, Nat.reduceBNe, Nat.reduceBEq, Nat.reduceLT, Nat.reduceLeDiff, Nat.reduceMul, Nat.zero_lt_succ, Nat.lt_add_one, Nat.zero_lt_one, Int.reduceToNat, false_implies, true_implies, or_self, or_false, false_or, or_true, true_or, Nat.add_le_add_iff_right, true_and, and_true, forall_const, implies_true, List.contains_cons, List.contains_nil, List.all_cons, List.all_nil, bne_self_eq_false, Option.isSome_none, Option.isSome_some, Bool.or_false, Bool.false_or, Bool.true_or, Bool.or_true, ne_eq, not_false_eq_true, not_true_eq_false, beq_self_eq_true, cond_true, cond_false, Prod.mk.injEq, and_self, reduceCtorEq, BEq.rfl, Bool.and_true, Bool.true_and, Bool.and_false, Bool.false_and, decide_eq_true_eq, ze45]
      have hs := sum_le (x := fun i => (f i).most * (f i).weight) (i := i) fun j hj => by
        obtain ⟨p5, p6, p7, p8⟩ := hr j (by omega)
        exact mul_le (c := 10) (d := 10) (by omega) (by omega) (by omega) p8
      refine ⟨fun hlt => ?_, fun hge => ?_⟩
      · obtain ⟨p5, p6, p7, p8⟩ := hr i (by omega)
        have hx := mul_le (c := 10) (d := 10) (show 0 ≤ (f i).most by omega) (by omega) (show 0 ≤ (f i).weight by omega) p8
        exact ⟨by omega, by omega, by omega, by omega, ⟨i + 1, by omega⟩, by simp only; omega, by simp, rfl⟩
      · have : i = n := by simp at hge; omega
        subst this
        rfl
end Go.Proofs.YtpfahanbkhgfhaaDoor.P41

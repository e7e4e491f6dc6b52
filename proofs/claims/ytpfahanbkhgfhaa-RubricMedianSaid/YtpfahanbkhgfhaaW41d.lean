/- Proved here: contracts of functions of this chapter: called with these values, each returns these values and changes nothing that was. Conditions: none but those that each theorem names. -/
import Derived.Test.YtpfahanbkhgfhaaW41c
set_option linter.unusedSimpArgs false
set_option linter.unusedVariables false
open Go Go.Proofs Go.Ev
namespace Go.Proofs.Ytpfahanbkhgfhaa.P41
set_option maxRecDepth 100000
theorem err3_if {id : Int} {n : Nat} {f : Nat → Tr} {m1 : Nat} {a : Nat → Int} {m2 : Nat} {b : Nat → Int} {m3 : Nat} {c : Nat → Int} : err3 id n f m1 a m2 b m3 c = if checkR id n f m1 a ≠ 0 then checkR id n f m1 a else if checkR id n f m2 b ≠ 0 then checkR id n f m2 b else checkR id n f m3 c := by
  unfold err3
  split
  · rename_i h
    exact first_hit (e := fun i => checkR id n f (three m1 m2 m3 i) (three a b c i)) (i := 0) (by decide) (fun j hj => absurd hj (by omega)) h
  · rename_i h1
    have h1' : checkR id n f m1 a = 0 := by simpa using h1
    split
    · rename_i h
      exact first_hit (e := fun i => checkR id n f (three m1 m2 m3 i) (three a b c i)) (i := 1) (by decide) (fun j hj => by
        obtain rfl : j = 0 := by omega
        exact h1') h
    · rename_i h2
      have h2' : checkR id n f m2 b = 0 := by simpa using h2
      by_cases h3 : checkR id n f m3 c = 0
      · rw [h3]
        refine first_none fun j hj => ?_
        match j, hj with
        | 0, _ => exact h1'
        | 1, _ => exact h2'
        | 2, _ => exact h3
      · exact first_hit (e := fun i => checkR id n f (three m1 m2 m3 i) (three a b c i)) (i := 2) (by decide) (fun j hj => by
          match j, hj with
          | 0, _ => exact h1'
          | 1, _ => exact h2') h3
theorem beq0_ne {x : Int} (h : x ≠ 0) : (x == 0) = false := by simpa using h
theorem beq0_eq {x : Int} (h : x = 0) : (x == 0) = true := by simpa using h
theorem bne0_ne {x : Int} (h : x ≠ 0) : (x != 0) = true := by simpa using h
theorem bne0_eq {x : Int} (h : x = 0) : (x != 0) = false := by simpa using h
theorem one_cut (g : Nat → Int) : (fun k => [DV.int .i64 (g 0)].getD k (.int .i64 0)) = fun k => DV.int .i64 (cutF 1 g k) := by
  funext k
  match k with
  | 0 => rfl
  | k + 1 => simp [cutF]
theorem join_cut (i : Nat) (g : Nat → Int) : joinF i (fun k => DV.int .i64 (cutF i g k)) (fun k => [DV.int .i64 (g i)].getD k (.int .i64 0)) = fun k => DV.int .i64 (cutF (i + 1) g k) := by
  funext k
  simp only [joinF]
  by_cases h : k < i
  · simp only [if_pos h, cutF, if_pos (show k < i + 1 by omega)]
  · rw [if_neg h]
    by_cases h2 : k = i
    · subst h2; simp [cutF]
    · obtain ⟨j, hj⟩ : ∃ j, k - i = j + 1 := ⟨k - i - 1, by omega⟩
      rw [hj]
      simp [cutF, show ¬ k < i + 1 by omega]
theorem rmedian_ok (id : Int) (n : Nat) (f : Nat → Tr) (m1 : Nat) (a : Nat → Int) (m2 : Nat) (b : Nat → Int) (m3 : Nat) (c : Nat → Int) : FnD Try.prog 11 [.d (rD id n f), .d (mD m1 a), .d (mD m2 b), .d (mD m3 c)] [medR id n f m1 a m2 b m3 c, .int .i64 (err3 id n f m1 a m2 b m3 c)] := by
  refine fnD_intro (H := { nt := Go.Func.ntmps Try.f11 }) Try.func11 rfl rfl rfl rfl (Nat.le_of_ble_eq_true rfl) (okC_tri (by kernel_rfl) _ _ _ _ (by kernel_rfl) ?_)
  simp only [go_sem, Nat.reduceEqDiff, ↓reduceIte, Bool.false_eq_true, Nat.reduceAdd, Nat.reduceSub, Nat.reduceBNe, Nat.reduceBEq, Nat.reduceLT, Nat.reduceLeDiff, Nat.reduceMul, Nat.zero_lt_succ, Nat.lt_add_one, Nat.zero_lt_one, Int.reduceToNat, false_implies, true_implies, or_self, or_false, false_or, or_true, true_or, Nat.add_le_add_iff_right, true_and, and_true, forall_const, implies_true, List.contains_cons, List.contains_nil, List.all_cons, List.all_nil, bne_self_eq_false, Option.isSome_none, Option.isSome_some, Bool.or_false, Bool.false_or, Bool.true_or, Bool.or_true, ne_eq, not_false_eq_true, not_true_eq_false, beq_self_eq_true, cond_true, cond_false, Prod.mk.injEq, and_self, reduceCtorEq, BEq.rfl, Bool.and_true, Bool.true_and, Bool.and_false, Bool.false_and, Try.f11, rD, mD]
  refine ⟨_, fun _ => rcheck_ok id n f m1 a, ?_, ?_⟩
  focus (first | exact fun _ => rfl | exact fun h0 => absurd h0 (by decide))
  simp only [go_sem, Nat.reduceEqDiff, ↓reduceIte, Bool.false_eq_true, Nat.reduceAdd, Nat.reduceSub, Nat.reduceBNe, Nat.reduceBEq, Nat.reduceLT, Nat.reduceLeDiff, Nat.reduceMul, Nat.zero_lt_succ, Nat.lt_add_one, Nat.zero_lt_one, Int.reduceToNat, false_implies, true_implies, or_self, or_false, false_or, or_true, true_or, Nat.add_le_add_iff_right, true_and, and_true, forall_const, implies_true, List.contains_cons, List.contains_nil, List.all_cons, List.all_nil, bne_self_eq_false, Option.isSome_none, Option.isSome_some, Bool.or_false, Bool.false_or, Bool.true_or, Bool.or_true, ne_eq, not_false_eq_true, not_true_eq_false, beq_self_eq_true, cond_true, cond_false, Prod.mk.injEq, and_self, reduceCtorEq, BEq.rfl, Bool.and_true, Bool.true_and, Bool.and_false, Bool.false_and]
  by_cases h1 : checkR id n f m1 a = 0
  · simp only [go_sem, Nat.reduceEqDiff, ↓reduceIte, Bool.false_eq_true, Nat.reduceAdd, Nat.reduceSub, Nat.reduceBNe, Nat.reduceBEq, Nat.reduceLT, Nat.reduceLeDiff, Nat.reduceMul, Nat.zero_lt_succ, Nat.lt_add_one, Nat.zero_lt_one, Int.reduceToNat, false_implies, true_implies, or_self, or_false, false_or, or_true, true_or, Nat.add_le_add_iff_right, true_and, and_true, forall_const, implies_true, List.contains_cons, List.contains_nil, List.all_cons, List.all_nil, bne_self_eq_false, Option.isSome_none, Option.isSome_some, Bool.or_false, Bool.false_or, Bool.true_or, Bool.or_true, ne_eq, not_false_eq_true, not_true_eq_false, beq_self_eq_true, cond_true, cond_false, Prod.mk.injEq, and_self, reduceCtorEq, BEq.rfl, Bool.and_true, Bool.true_and, Bool.and_false, Bool.false_and, beq0_eq h1]
    refine ⟨_, fun _ => rcheck_ok id n f m2 b, ?_, ?_⟩
    focus (first | exact fun _ => rfl | exact fun h0 => absurd h0 (by decide))
    simp only [go_sem, Nat.reduceEqDiff, ↓reduceIte, Bool.false_eq_true, Nat.reduceAdd, Nat.reduceSub, Nat.reduceBNe, Nat.reduceBEq, Nat.reduceLT, Nat.reduceLeDiff, Nat.reduceMul, Nat.zero_lt_succ, Nat.lt_add_one, Nat.zero_lt_one, Int.reduceToNat, false_implies, true_implies, or_self, or_false, false_or, or_true, true_or, Nat.add_le_add_iff_right, true_and, and_true, forall_const, implies_true, List.contains_cons, List.contains_nil, List.all_cons, List.all_nil, bne_self_eq_false, Option.isSome_none, Option.isSome_some, Bool.or_false, Bool.false_or, Bool.true_or, Bool.or_true, ne_eq, not_false_eq_true, not_true_eq_false, beq_self_eq_true, cond_true, cond_false, Prod.mk.injEq, and_self, reduceCtorEq, BEq.rfl, Bool.and_true, Bool.true_and, Bool.and_false, Bool.false_and]
    by_cases h2 : checkR id n f m2 b = 0
    · simp only [go_sem, Nat.reduceEqDiff, ↓reduceIte, Bool.false_eq_true, Nat.reduceAdd, Nat.reduceSub, Nat.reduceBNe, Nat.reduceBEq, Nat.reduceLT, Nat.reduceLeDiff, Nat.reduceMul, Nat.zero_lt_succ, Nat.lt_add_one, Nat.zero_lt_one, Int.reduceToNat, false_implies, true_implies, or_self, or_false, false_or, or_true, true_or, Nat.add_le_add_iff_right, true_and, and_true, forall_const, implies_true, List.contains_cons, List.contains_nil, List.all_cons, List.all_nil, bne_self_eq_false, Option.isSome_none, Option.isSome_some, Bool.or_false, Bool.false_or, Bool.true_or, Bool.or_true, ne_eq, not_false_eq_true, not_true_eq_false, beq_self_eq_true, cond_true, cond_false, Prod.mk.injEq, and_self, reduceCtorEq, BEq.rfl, Bool.and_true, Bool.true_and, Bool.and_false, Bool.false_and, beq0_eq h2]
      refine ⟨_, fun _ => rcheck_ok id n f m3 c, ?_, ?_⟩
      focus (first | exact fun _ => rfl | exact fun h0 => absurd h0 (by decide))
      simp only [go_sem, Nat.reduceEqDiff, ↓reduceIte, Bool.false_eq_true, Nat.reduceAdd, Nat.reduceSub, Nat.reduceBNe, Nat.reduceBEq, Nat.reduceLT, Nat.reduceLeDiff, Nat.reduceMul, Nat.zero_lt_succ, Nat.lt_add_one, Nat.zero_lt_one, Int.reduceToNat, false_implies, true_implies, or_self, or_false, false_or, or_true, true_or, Nat.add_le_add_iff_right, true_and, and_true, forall_const, implies_true, List.contains_cons, List.contains_nil, List.all_cons, List.all_nil, bne_self_eq_false, Option.isSome_none, Option.isSome_some, Bool.or_false, Bool.false_or, Bool.true_or, Bool.or_true, ne_eq, not_false_eq_true, not_true_eq_false, beq_self_eq_true, cond_true, cond_false, Prod.mk.injEq, and_self, reduceCtorEq, BEq.rfl, Bool.and_true, Bool.true_and, Bool.and_false, Bool.false_and]
      have he : err3 id n f m1 a m2 b m3 c = checkR id n f m3 c := by simp [err3_if, h1, h2]
      by_cases h3 : checkR id n f m3 c = 0
      · simp only [go_sem, Nat.reduceEqDiff, ↓reduceIte, Bool.false_eq_true, Nat.reduceAdd, Nat.reduceSub, Nat.reduceBNe, Nat.reduceBEq, Nat.reduceLT, Nat.reduceLeDiff, Nat.reduceMul, Nat.zero_lt_succ, Nat.lt_add_one, Nat.zero_lt_one, Int.reduceToNat, false_implies, true_implies, or_self, or_false, false_or, or_true, true_or, Nat.add_le_add_iff_right, true_and, and_true, forall_const, implies_true, List.contains_cons, List.contains_nil, List.all_cons, List.all_nil, bne_self_eq_false, Option.isSome_none, Option.isSome_some, Bool.or_false, Bool.false_or, Bool.true_or, Bool.or_true, ne_eq, not_false_eq_true, not_true_eq_false, beq_self_eq_true, cond_true, cond_false, Prod.mk.injEq, and_self, reduceCtorEq, BEq.rfl, Bool.and_true, Bool.true_and, Bool.and_false, Bool.false_and, bne0_eq h3, h3]
        obtain ⟨v0, q1, ha⟩ := check0 h1
        obtain ⟨_, q2, hb⟩ := check0 h2
        obtain ⟨_, q3, hc⟩ := check0 h3
        subst q1 q2 q3
        obtain ⟨n1, n6, hr⟩ := valid0 v0
        have hres : medR id m3 f m3 a m3 b m3 c = mD m3 (cutF m3 fun i => midR (a i) (b i) (c i)) := by simp [medR, he, h3]
        rw [he, h3, hres]
        refine ⟨Option { i : Nat // 1 ≤ i ∧ i ≤ m3 }, fun x => (match x with
          | none => ([(12, .d (.int .i64 0)), (11, .d .nil), (1, .d (.list 1 m3 fun i => .int .i64 (a i))), (2, .d (.list 1 m3 fun i => .int .i64 (b i))), (3, .d (.list 1 m3 fun i => .int .i64 (c i)))], [.box [.d (.int .i64 id), .d (.list 3 m3 fun i => tD (f i))]])
          | some i => ([(12, .d (.int .i64 i)), (11, .own 2 0 i), (1, .d (.list 1 m3 fun i => .int .i64 (a i))), (2, .d (.list 1 m3 fun i => .int .i64 (b i))), (3, .d (.list 1 m3 fun i => .int .i64 (c i)))], [.box [.d (.int .i64 id), .d (.list 3 m3 fun i => tD (f i))], .arr 3 1 1 (fun k => [DV.int .i64 (midR (a 0) (b 0) (c 0))].getD k (.int .i64 0)), .arr 3 1 i (fun k => .int .i64 (cutF i (fun i => midR (a i) (b i) (c i)) k))])), fun x => (match x with | none => m3 + 1 | some i => m3 - i), none, ?_, ?_⟩
        · simp only [go_sem, Nat.reduceEqDiff, ↓reduceIte, Bool.false_eq_true, Nat.reduceAdd, Nat.reduceSub, Nat.reduceBNe, Nat.reduceBEq, Nat.reduceLT, Nat.reduceLeDiff, Nat.reduceMul, Nat.zero_lt_succ, Nat.lt_add_one, Nat.zero_lt_one, Int.reduceToNat, false_implies, true_implies, or_self, or_false, false_or, or_true, true_or, Nat.add_le_add_iff_right, true_and, and_true, forall_const, implies_true, List.contains_cons, List.contains_nil, List.all_cons, List.all_nil, bne_self_eq_false, Option.isSome_none, Option.isSome_some, Bool.or_false, Bool.false_or, Bool.true_or, Bool.or_true, ne_eq, not_false_eq_true, not_true_eq_false, beq_self_eq_true, cond_true, cond_false, Prod.mk.injEq, and_self, reduceCtorEq, BEq.rfl, Bool.and_true, Bool.true_and, Bool.and_false, Bool.false_and]
        · rintro (_ | ⟨i, hi1, hi⟩)
          · simp only [go_sem, Nat.reduceEqDiff, ↓reduceIte, Bool.false_eq_true, Nat.reduceAdd, Nat.reduceSub, Nat.reduceBNe, Nat.reduceBEq, Nat.reduceLT, Nat.reduceLeDiff, Nat.reduceMul, Nat.zero_lt_succ, Nat.lt_add_one, Nat.zero_lt_one, Int.reduceToNat, false_implies, true_implies, or_self, or_false, false_or, or_true, true_or, Nat.add_le_add_iff_right, true_and, and_true, forall_const, implies_true, List.contains_cons, List.contains_nil, List.all_cons, List.all_nil, bne_self_eq_false, Option.isSome_none, Option.isSome_some, Bool.or_false, Bool.false_or, Bool.true_or, Bool.or_true, ne_eq, not_false_eq_true, not_true_eq_false, beq_self_eq_true, cond_true, cond_false, Prod.mk.injEq, and_self, reduceCtorEq, BEq.rfl, Bool.and_true, Bool.true_and, Bool.and_false, Bool.false_and, decide_eq_true_eq]
            refine fun _ => ⟨fun hlt => ⟨by omega, by omega, by omega, ?_⟩, fun hge => ?_⟩
            · refine ⟨_, fun _ => middle_ok (a 0) (b 0) (c 0), ?_, ?_⟩
              focus (first | exact fun _ => rfl | exact fun h0 => absurd h0 (by decide))
              simp only [go_sem, Nat.reduceEqDiff, ↓reduceIte, Bool.false_eq_true, Nat.reduceAdd, Nat.reduceSub, Nat.reduceBNe, Nat.reduceBEq, Nat.reduceLT, Nat.reduceLeDiff, Nat.reduceMul, Nat.zero_lt_succ, Nat.lt_add_one, Nat.zero_lt_one, Int.reduceToNat, false_implies, true_implies, or_self, or_false, false_or, or_true, true_or, Nat.add_le_add_iff_right, true_and, and_true, forall_const, implies_true, List.contains_cons, List.contains_nil, List.all_cons, List.all_nil, bne_self_eq_false, Option.isSome_none, Option.isSome_some, Bool.or_false, Bool.false_or, Bool.true_or, Bool.or_true, ne_eq, not_false_eq_true, not_true_eq_false, beq_self_eq_true, cond_true, cond_false, Prod.mk.injEq, and_self, reduceCtorEq, BEq.rfl, Bool.and_true, Bool.true_and, Bool.and_false, Bool.false_and]
              refine ⟨by decide, some ⟨1, by omega, n1⟩, ?_⟩
              simp only [go_sem, Nat.reduceEqDiff, ↓reduceIte, Bool.false_eq_true, Nat.reduceAdd, Nat.reduceSub, Nat.reduceBNe, Nat.reduceBEq, Nat.reduceLT, Nat.reduceLeDiff, Nat.reduceMul, Nat.zero_lt_succ, Nat.lt_add_one, Nat.zero_lt_one, Int.reduceToNat, false_implies, true_implies, or_self, or_false, false_or, or_true, true_or, Nat.add_le_add_iff_right, true_and, and_true, forall_const, implies_true, List.contains_cons, List.contains_nil, List.all_cons, List.all_nil, bne_self_eq_false, Option.isSome_none, Option.isSome_some, Bool.or_false, Bool.false_or, Bool.true_or, Bool.or_true, ne_eq, not_false_eq_true, not_true_eq_false, beq_self_eq_true, cond_true, cond_false, Prod.mk.injEq, and_self, reduceCtorEq, BEq.rfl, Bool.and_true, Bool.true_and, Bool.and_false, Bool.false_and]
              refine ⟨by omega, rfl, ?_⟩
              rw [one_cut (fun i => midR (a i) (b i) (c i))]
            · simp at hge; omega
          · simp only [go_sem, Nat.reduceEqDiff, ↓reduceIte, Bool.false_eq_true, Nat.reduceAdd, Nat.reduceSub, Nat.reduceBNe, Nat.reduceBEq, Nat.reduceLT, Nat.reduceLeDiff, Nat.reduceMul, Nat.zero_lt_succ, Nat.lt_add_one, Nat.zero_lt_one, Int.reduceToNat, false_implies, true_implies, or_self, or_false, false_or, or_true, true_or, Nat.add_le_add_iff_right, true_and, and_true, forall_const, implies_true, List.contains_cons, List.contains_nil, List.all_cons, List.all_nil, bne_self_eq_false, Option.isSome_none, Option.isSome_some, Bool.or_false, Bool.false_or, Bool.true_or, Bool.or_true, ne_eq, not_false_eq_true, not_true_eq_false, beq_self_eq_true, cond_true, cond_false, Prod.mk.injEq, and_self, reduceCtorEq, BEq.rfl, Bool.and_true, Bool.true_and, Bool.and_false, Bool.false_and, decide_eq_true_eq]
            refine fun _ => ⟨fun hlt => ⟨by omega, by omega, by omega, ?_⟩, fun hge => ?_⟩
            · refine ⟨_, fun _ => middle_ok (a i) (b i) (c i), ?_, ?_⟩
              focus (first | exact fun _ => rfl | exact fun h0 => absurd h0 (by decide))
              simp only [go_sem, Nat.reduceEqDiff, ↓reduceIte, Bool.false_eq_true, Nat.reduceAdd, Nat.reduceSub, Nat.reduceBNe, Nat.reduceBEq, Nat.reduceLT, Nat.reduceLeDiff, Nat.reduceMul, Nat.zero_lt_succ, Nat.lt_add_one, Nat.zero_lt_one, Int.reduceToNat, false_implies, true_implies, or_self, or_false, false_or, or_true, true_or, Nat.add_le_add_iff_right, true_and, and_true, forall_const, implies_true, List.contains_cons, List.contains_nil, List.all_cons, List.all_nil, bne_self_eq_false, Option.isSome_none, Option.isSome_some, Bool.or_false, Bool.false_or, Bool.true_or, Bool.or_true, ne_eq, not_false_eq_true, not_true_eq_false, beq_self_eq_true, cond_true, cond_false, Prod.mk.injEq, and_self, reduceCtorEq, BEq.rfl, Bool.and_true, Bool.true_and, Bool.and_false, Bool.false_and]
              refine ⟨by omega, by constructor <;> omega, some ⟨i + 1, by omega, by omega⟩, ?_⟩
              simp only [go_sem, Nat.reduceEqDiff, ↓reduceIte, Bool.false_eq_true, Nat.reduceAdd, Nat.reduceSub, Nat.reduceBNe, Nat.reduceBEq, Nat.reduceLT, Nat.reduceLeDiff, Nat.reduceMul, Nat.zero_lt_succ, Nat.lt_add_one, Nat.zero_lt_one, Int.reduceToNat, false_implies, true_implies, or_self, or_false, false_or, or_true, true_or, Nat.add_le_add_iff_right, true_and, and_true, forall_const, implies_true, List.contains_cons, List.contains_nil, List.all_cons, List.all_nil, bne_self_eq_false, Option.isSome_none, Option.isSome_some, Bool.or_false, Bool.false_or, Bool.true_or, Bool.or_true, ne_eq, not_false_eq_true, not_true_eq_false, beq_self_eq_true, cond_true, cond_false, Prod.mk.injEq, and_self, reduceCtorEq, BEq.rfl, Bool.and_true, Bool.true_and, Bool.and_false, Bool.false_and]
              refine ⟨by omega, by simp, ?_⟩
              rw [join_cut i (fun i => midR (a i) (b i) (c i))]
            · have : i = m3 := by simp at hge; omega
              subst this
              rfl
      · have hh : err3 id n f m1 a m2 b m3 c ≠ 0 := by rw [he]; exact h3
        simp only [go_sem, Nat.reduceEqDiff, ↓reduceIte, Bool.false_eq_true, Nat.reduceAdd, Nat.reduceSub, Nat.reduceBNe, Nat.reduceBEq, Nat.reduceLT, Nat.reduceLeDiff, Nat.reduceMul, Nat.zero_lt_succ, Nat.lt_add_one, Nat.zero_lt_one, Int.reduceToNat, false_implies, true_implies, or_self, or_false, false_or, or_true, true_or, Nat.add_le_add_iff_right, true_and, and_true, forall_const, implies_true, List.contains_cons, List.contains_nil, List.all_cons, List.all_nil, bne_self_eq_false, Option.isSome_none, Option.isSome_some, Bool.or_false, Bool.false_or, Bool.true_or, Bool.or_true, ne_eq, not_false_eq_true, not_true_eq_false, beq_self_eq_true, cond_true, cond_false, Prod.mk.injEq, and_self, reduceCtorEq, BEq.rfl, Bool.and_true, Bool.true_and, Bool.and_false, Bool.false_and, bne0_ne h3, medR, he, h3]
    · have he : err3 id n f m1 a m2 b m3 c = checkR id n f m2 b := by simp [err3_if, h1, h2]
      have hh : err3 id n f m1 a m2 b m3 c ≠ 0 := by rw [he]; exact h2
      simp only [go_sem, Nat.reduceEqDiff, ↓reduceIte, Bool.false_eq_true, Nat.reduceAdd, Nat.reduceSub, Nat.reduceBNe, Nat.reduceBEq, Nat.reduceLT, Nat.reduceLeDiff, Nat.reduceMul, Nat.zero_lt_succ, Nat.lt_add_one, Nat.zero_lt_one, Int.reduceToNat, false_implies, true_implies, or_self, or_false, false_or, or_true, true_or, Nat.add_le_add_iff_right, true_and, and_true, forall_const, implies_true, List.contains_cons, List.contains_nil, List.all_cons, List.all_nil, bne_self_eq_false, Option.isSome_none, Option.isSome_some, Bool.or_false, Bool.false_or, Bool.true_or, Bool.or_true, ne_eq, not_false_eq_true, not_true_eq_false, beq_self_eq_true, cond_true, cond_false, Prod.mk.injEq, and_self, reduceCtorEq, BEq.rfl, Bool.and_true, Bool.true_and, Bool.and_false, Bool.false_and, beq0_ne h2, bne0_ne h2, medR, he, h2]
  · have he : err3 id n f m1 a m2 b m3 c = checkR id n f m1 a := by simp [err3_if, h1]
    have hh : err3 id n f m1 a m2 b m3 c ≠ 0 := by rw [he]; exact h1
    simp only [go_sem, Nat.reduceEqDiff, ↓reduceIte, Bool.false_eq_true, Nat.reduceAdd, Nat.reduceSub, Nat.reduceBNe, Nat.reduceBEq, Nat.reduceLT, Nat.reduceLeDiff, Nat.reduceMul, Nat.zero_lt_succ, Nat.lt_add_one, Nat.zero_lt_one, Int.reduceToNat, false_implies, true_implies, or_self, or_false, false_or, or_true, true_or, Nat.add_le_add_iff_right, true_and, and_true, forall_const, implies_true, List.contains_cons, List.contains_nil, List.all_cons, List.all_nil, bne_self_eq_false, Option.isSome_none, Option.isSome_some, Bool.or_false, Bool.false_or, Bool.true_or, Bool.or_true, ne_eq, not_false_eq_true, not_true_eq_false, beq_self_eq_true, cond_true, cond_false, Prod.mk.injEq, and_self, reduceCtorEq, BEq.rfl, Bool.and_true, Bool.true_and, Bool.and_false, Bool.false_and, beq0_ne h1, bne0_ne h1, medR, he, h1]
end Go.Proofs.Ytpfahanbkhgfhaa.P41

/- Proved here: contracts of functions of this chapter: called with these values, each returns these values and changes nothing that was. Conditions: none but those that each theorem names. -/
import Derived.Test.YtpfahanbkhgfhaaW41d
set_option linter.unusedSimpArgs false
set_option linter.unusedVariables false
open Go Go.Proofs Go.Ev
namespace Go.Proofs.Ytpfahanbkhgfhaa.P41
set_option maxRecDepth 100000
def two {α : Type} (x y : α) : Nat → α
  | 0 => x
  | _ => y
def err2 (id : Int) (n : Nat) (f : Nat → Tr) (m1 : Nat) (a : Nat → Int) (m2 : Nat) (b : Nat → Int) : Int := firstE (fun i => checkR id n f (two m1 m2 i) (two a b i)) 2
theorem err2_if {id : Int} {n : Nat} {f : Nat → Tr} {m1 : Nat} {a : Nat → Int} {m2 : Nat} {b : Nat → Int} : err2 id n f m1 a m2 b = if checkR id n f m1 a ≠ 0 then checkR id n f m1 a else checkR id n f m2 b := by
  unfold err2
  split
  · rename_i h
    exact first_hit (e := fun i => checkR id n f (two m1 m2 i) (two a b i)) (i := 0) (by decide) (fun j hj => absurd hj (by omega)) h
  · rename_i h1
    have h1' : checkR id n f m1 a = 0 := by simpa using h1
    by_cases h2 : checkR id n f m2 b = 0
    · rw [h2]
      refine first_none fun j hj => ?_
      match j, hj with
      | 0, _ => exact h1'
      | 1, _ => exact h2
    · exact first_hit (e := fun i => checkR id n f (two m1 m2 i) (two a b i)) (i := 1) (by decide) (fun j hj => by
        obtain rfl : j = 0 := by omega
        exact h1') h2
theorem two_g {m1 : Nat} {a : Nat → Int} {m2 : Nat} {b : Nat → Int} : ∀ i, i < 2 → [mD m1 a, mD m2 b].getD i .nil = mD (two m1 m2 i) (two a b i)
  | 0, _ => rfl
  | 1, _ => rfl
  | _ + 2, h => absurd h (by omega)
theorem all2_ok (id : Int) (n : Nat) (f : Nat → Tr) (m1 : Nat) (a : Nat → Int) (m2 : Nat) (b : Nat → Int) : FnD Try.prog 15 [.d (rD id n f), .d (.list 1 2 fun i => [mD m1 a, mD m2 b].getD i .nil)] [.int .i64 (err2 id n f m1 a m2 b)] := all_ok id n f 2 _ _ _ two_g
def apF (a b : Nat → Int) : Nat → Int
  | 0 => 0
  | i + 1 => if b i - a i > (if a i - b i > apF a b i then a i - b i else apF a b i) then b i - a i else if a i - b i > apF a b i then a i - b i else apF a b i
def apR (id : Int) (n : Nat) (f : Nat → Tr) (m1 : Nat) (a : Nat → Int) (m2 : Nat) (b : Nat → Int) : Int := if err2 id n f m1 a m2 b ≠ 0 then 0 else apF a b n
theorem apart_ok (id : Int) (n : Nat) (f : Nat → Tr) (m1 : Nat) (a : Nat → Int) (m2 : Nat) (b : Nat → Int) : FnD Try.prog 9 [.d (rD id n f), .d (mD m1 a), .d (mD m2 b)] [.int .i64 (apR id n f m1 a m2 b), .int .i64 (err2 id n f m1 a m2 b)] := by
  refine fnD_intro (H := { nt := Go.Func.ntmps Try.f9 }) Try.func9 rfl rfl rfl rfl (Nat.le_of_ble_eq_true rfl) (okC_tri (by kernel_rfl) _ _ _ _ (by kernel_rfl) ?_)
  simp only [go_sem, Nat.reduceEqDiff, ↓reduceIte, Bool.false_eq_true, Nat.reduceAdd, Nat.reduceSub, Nat.reduceBNe, Nat.reduceBEq, Nat.reduceLT, Nat.reduceLeDiff, Nat.reduceMul, Nat.zero_lt_succ, Nat.lt_add_one, Nat.zero_lt_one, Int.reduceToNat, false_implies, true_implies, or_self, or_false, false_or, or_true, true_or, Nat.add_le_add_iff_right, true_and, and_true, forall_const, implies_true, List.contains_cons, List.contains_nil, List.all_cons, List.all_nil, bne_self_eq_false, Option.isSome_none, Option.isSome_some, Bool.or_false, Bool.false_or, Bool.true_or, Bool.or_true, ne_eq, not_false_eq_true, not_true_eq_false, beq_self_eq_true, cond_true, cond_false, Prod.mk.injEq, and_self, reduceCtorEq, BEq.rfl, Bool.and_true, Bool.true_and, Bool.and_false, Bool.false_and, Try.f9, rD, mD]
  refine ⟨_, fun _ => all2_ok id n f m1 a m2 b, ?_, ?_⟩
  focus (first | exact fun _ => rfl | exact fun h0 => absurd h0 (by decide))
  simp only [go_sem, Nat.reduceEqDiff, ↓reduceIte, Bool.false_eq_true, Nat.reduceAdd, Nat.reduceSub, Nat.reduceBNe, Nat.reduceBEq, Nat.reduceLT, Nat.reduceLeDiff, Nat.reduceMul, Nat.zero_lt_succ, Nat.lt_add_one, Nat.zero_lt_one, Int.reduceToNat, false_implies, true_implies, or_self, or_false, false_or, or_true, true_or, Nat.add_le_add_iff_right, true_and, and_true, forall_const, implies_true, List.contains_cons, List.contains_nil, List.all_cons, List.all_nil, bne_self_eq_false, Option.isSome_none, Option.isSome_some, Bool.or_false, Bool.false_or, Bool.true_or, Bool.or_true, ne_eq, not_false_eq_true, not_true_eq_false, beq_self_eq_true, cond_true, cond_false, Prod.mk.injEq, and_self, reduceCtorEq, BEq.rfl, Bool.and_true, Bool.true_and, Bool.and_false, Bool.false_and]
  refine ⟨fun h => ?_, fun h hm => ?_⟩
  · have h' : err2 id n f m1 a m2 b ≠ 0 := by simpa using h
    simp only [apR, if_pos h']
  · have h' : err2 id n f m1 a m2 b = 0 := by simpa using h
    have c1 : checkR id n f m1 a = 0 := first0 h' 0 (by decide)
    have c2 : checkR id n f m2 b = 0 := first0 h' 1 (by decide)
    obtain ⟨v0, q1, ha⟩ := check0 c1
    obtain ⟨_, q2, hb⟩ := check0 c2
    subst q1 q2
    obtain ⟨n1, n6, hr⟩ := valid0 v0
    have hres : apR id m2 f m2 a m2 b = apF a b m2 := by simp [apR, h']
    rw [h', hres]
    refine ⟨{ i : Nat // i ≤ m2 }, fun i => ([(21, .d (.int .i64 i)), (20, .d (.int .i64 m2)), (9, .d (.int .i64 (apF a b i))), (1, .d (.list 1 m2 fun i => .int .i64 (a i))), (2, .d (.list 1 m2 fun i => .int .i64 (b i)))], []), fun i => m2 - i, ⟨0, Nat.zero_le _⟩, ?_, ?_⟩
    · simp only [go_sem, Nat.reduceEqDiff, ↓reduceIte, Bool.false_eq_true, Nat.reduceAdd, Nat.reduceSub, Nat.reduceBNe, Nat.reduceBEq, Nat.reduceLT, Nat.reduceLeDiff, Nat.reduceMul, Nat.zero_lt_succ, Nat.lt_add_one, Nat.zero_lt_one, Int.reduceToNat, false_implies, true_implies, or_self, or_false, false_or, or_true, true_or, Nat.add_le_add_iff_right, true_and, and_true, forall_const, implies_true, List.contains_cons, List.contains_nil, List.all_cons, List.all_nil, bne_self_eq_false, Option.isSome_none, Option.isSome_some, Bool.or_false, Bool.false_or, Bool.true_or, Bool.or_true, ne_eq, not_false_eq_true, not_true_eq_false, beq_self_eq_true, cond_true, cond_false, Prod.mk.injEq, and_self, reduceCtorEq, BEq.rfl, Bool.and_true, Bool.true_and, Bool.and_false, Bool.false_and]
      exact ⟨rfl, rfl⟩
    · rintro ⟨i, hi⟩
      simp only [go_sem, Nat.reduceEqDiff, ↓reduceIte, Bool.false_eq_true, Nat.reduceAdd, Nat.reduceSub, Nat.reduceBNe, Nat.reduceBEq, Nat.reduceLT, Nat.reduceLeDiff, Nat.reduceMul, Nat.zero_lt_succ, Nat.lt_add_one, Nat.zero_lt_one, Int.reduceToNat, false_implies, true_implies, or_self, or_false, false_or, or_true, true_or, Nat.add_le_add_iff_right, true_and, and_true, forall_const, implies_true, List.contains_cons, List.contains_nil, List.all_cons, List.all_nil, bne_self_eq_false, Option.isSome_none, Option.isSome_some, Bool.or_false, Bool.false_or, Bool.true_or, Bool.or_true, ne_eq, not_false_eq_true, not_true_eq_false, beq_self_eq_true, cond_true, cond_false, Prod.mk.injEq, and_self, reduceCtorEq, BEq.rfl, Bool.and_true, Bool.true_and, Bool.and_false, Bool.false_and, decide_eq_true_eq]
      refine ⟨fun hlt => ?_, fun hge => ?_⟩
      · obtain ⟨p1, p2⟩ := ha i (by omega)
        obtain ⟨p3, p4⟩ := hb i (by omega)
        obtain ⟨p5, p6, _⟩ := hr i (by omega)
        exact ⟨by omega, by omega, by omega, by omega, by omega, by omega, by omega, ⟨i + 1, by omega⟩, by simp only; omega, by simp, rfl⟩
      · have : i = m2 := by simp at hge; omega
        subst this
        rfl
theorem apF_0 (a b : Nat → Int) : ∀ i, 0 ≤ apF a b i
  | 0 => by simp [apF]
  | i + 1 => by
    have := apF_0 a b i
    simp only [apF]
    repeat' split
    all_goals omega
theorem rapart_ok (id : Int) (n : Nat) (f : Nat → Tr) (m1 : Nat) (a : Nat → Int) (m2 : Nat) (b : Nat → Int) : FnD Try.prog 10 [.d (rD id n f), .d (mD m1 a), .d (mD m2 b)] [.int .i64 (apR id n f m1 a m2 b), .int .i64 (err2 id n f m1 a m2 b)] := by
  refine fnD_intro (H := { nt := Go.Func.ntmps Try.f10 }) Try.func10 rfl rfl rfl rfl (Nat.le_of_ble_eq_true rfl) (okC_tri (by kernel_rfl) _ _ _ _ (by kernel_rfl) ?_)
  simp only [go_sem, Nat.reduceEqDiff, ↓reduceIte, Bool.false_eq_true, Nat.reduceAdd, Nat.reduceSub, Nat.reduceBNe, Nat.reduceBEq, Nat.reduceLT, Nat.reduceLeDiff, Nat.reduceMul, Nat.zero_lt_succ, Nat.lt_add_one, Nat.zero_lt_one, Int.reduceToNat, false_implies, true_implies, or_self, or_false, false_or, or_true, true_or, Nat.add_le_add_iff_right, true_and, and_true, forall_const, implies_true, List.contains_cons, List.contains_nil, List.all_cons, List.all_nil, bne_self_eq_false, Option.isSome_none, Option.isSome_some, Bool.or_false, Bool.false_or, Bool.true_or, Bool.or_true, ne_eq, not_false_eq_true, not_true_eq_false, beq_self_eq_true, cond_true, cond_false, Prod.mk.injEq, and_self, reduceCtorEq, BEq.rfl, Bool.and_true, Bool.true_and, Bool.and_false, Bool.false_and, Try.f10, rD, mD]
  refine ⟨_, fun _ => rcheck_ok id n f m1 a, ?_, ?_⟩
  focus (first | exact fun _ => rfl | exact fun h0 => absurd h0 (by decide))
  simp only [go_sem, Nat.reduceEqDiff, ↓reduceIte, Bool.false_eq_true, Nat.reduceAdd, Nat.reduceSub, Nat.reduceBNe, Nat.reduceBEq, Nat.reduceLT, Nat.reduceLeDiff, Nat.reduceMul, Nat.zero_lt_succ, Nat.lt_add_one, Nat.zero_lt_one, Int.reduceToNat, false_implies, true_implies, or_self, or_false, false_or, or_true, true_or, Nat.add_le_add_iff_right, true_and, and_true, forall_const, implies_true, List.contains_cons, List.contains_nil, List.all_cons, List.all_nil, bne_self_eq_false, Option.isSome_none, Option.isSome_some, Bool.or_false, Bool.false_or, Bool.true_or, Bool.or_true, ne_eq, not_false_eq_true, not_true_eq_false, beq_self_eq_true, cond_true, cond_false, Prod.mk.injEq, and_self, reduceCtorEq, BEq.rfl, Bool.and_true, Bool.true_and, Bool.and_false, Bool.false_and]
  by_cases h1 : checkR id n f m1 a = 0
  · simp only [go_sem, Nat.reduceEqDiff, ↓reduceIte, Bool.false_eq_true, Nat.reduceAdd, Nat.reduceSub, Nat.reduceBNe, Nat.reduceBEq, Nat.reduceLT, Nat.reduceLeDiff, Nat.reduceMul, Nat.zero_lt_succ, Nat.lt_add_one, Nat.zero_lt_one, Int.reduceToNat, false_implies, true_implies, or_self, or_false, false_or, or_true, true_or, Nat.add_le_add_iff_right, true_and, and_true, forall_const, implies_true, List.contains_cons, List.contains_nil, List.all_cons, List.all_nil, bne_self_eq_false, Option.isSome_none, Option.isSome_some, Bool.or_false, Bool.false_or, Bool.true_or, Bool.or_true, ne_eq, not_false_eq_true, not_true_eq_false, beq_self_eq_true, cond_true, cond_false, Prod.mk.injEq, and_self, reduceCtorEq, BEq.rfl, Bool.and_true, Bool.true_and, Bool.and_false, Bool.false_and, beq0_eq h1]
    refine ⟨_, fun _ => rcheck_ok id n f m2 b, ?_, ?_⟩
    focus (first | exact fun _ => rfl | exact fun h0 => absurd h0 (by decide))
    simp only [go_sem, Nat.reduceEqDiff, ↓reduceIte, Bool.false_eq_true, Nat.reduceAdd, Nat.reduceSub, Nat.reduceBNe, Nat.reduceBEq, Nat.reduceLT, Nat.reduceLeDiff, Nat.reduceMul, Nat.zero_lt_succ, Nat.lt_add_one, Nat.zero_lt_one, Int.reduceToNat, false_implies, true_implies, or_self, or_false, false_or, or_true, true_or, Nat.add_le_add_iff_right, true_and, and_true, forall_const, implies_true, List.contains_cons, List.contains_nil, List.all_cons, List.all_nil, bne_self_eq_false, Option.isSome_none, Option.isSome_some, Bool.or_false, Bool.false_or, Bool.true_or, Bool.or_true, ne_eq, not_false_eq_true, not_true_eq_false, beq_self_eq_true, cond_true, cond_false, Prod.mk.injEq, and_self, reduceCtorEq, BEq.rfl, Bool.and_true, Bool.true_and, Bool.and_false, Bool.false_and]
    have he : err2 id n f m1 a m2 b = checkR id n f m2 b := by simp [err2_if, h1]
    by_cases h2 : checkR id n f m2 b = 0
    · simp only [go_sem, Nat.reduceEqDiff, ↓reduceIte, Bool.false_eq_true, Nat.reduceAdd, Nat.reduceSub, Nat.reduceBNe, Nat.reduceBEq, Nat.reduceLT, Nat.reduceLeDiff, Nat.reduceMul, Nat.zero_lt_succ, Nat.lt_add_one, Nat.zero_lt_one, Int.reduceToNat, false_implies, true_implies, or_self, or_false, false_or, or_true, true_or, Nat.add_le_add_iff_right, true_and, and_true, forall_const, implies_true, List.contains_cons, List.contains_nil, List.all_cons, List.all_nil, bne_self_eq_false, Option.isSome_none, Option.isSome_some, Bool.or_false, Bool.false_or, Bool.true_or, Bool.or_true, ne_eq, not_false_eq_true, not_true_eq_false, beq_self_eq_true, cond_true, cond_false, Prod.mk.injEq, and_self, reduceCtorEq, BEq.rfl, Bool.and_true, Bool.true_and, Bool.and_false, Bool.false_and, bne0_eq h2, h2]
      obtain ⟨v0, q1, ha⟩ := check0 h1
      obtain ⟨_, q2, hb⟩ := check0 h2
      subst q1 q2
      obtain ⟨n1, n6, hr⟩ := valid0 v0
      have hres : apR id m2 f m2 a m2 b = apF a b m2 := by simp [apR, he, h2]
      rw [he, h2, hres]
      refine ⟨{ i : Nat // i ≤ m2 }, fun i => ([(10, .d (.int .i64 i)), (9, .d (.int .i64 (apF a b i))), (1, .d (.list 1 m2 fun i => .int .i64 (a i))), (2, .d (.list 1 m2 fun i => .int .i64 (b i)))], []), fun i => m2 - i, ⟨0, Nat.zero_le _⟩, ?_, ?_⟩
      · simp only [go_sem, Nat.reduceEqDiff, ↓reduceIte, Bool.false_eq_true, Nat.reduceAdd, Nat.reduceSub, Nat.reduceBNe, Nat.reduceBEq, Nat.reduceLT, Nat.reduceLeDiff, Nat.reduceMul, Nat.zero_lt_succ, Nat.lt_add_one, Nat.zero_lt_one, Int.reduceToNat, false_implies, true_implies, or_self, or_false, false_or, or_true, true_or, Nat.add_le_add_iff_right, true_and, and_true, forall_const, implies_true, List.contains_cons, List.contains_nil, List.all_cons, List.all_nil, bne_self_eq_false, Option.isSome_none, Option.isSome_some, Bool.or_false, Bool.false_or, Bool.true_or, Bool.or_true, ne_eq, not_false_eq_true, not_true_eq_false, beq_self_eq_true, cond_true, cond_false, Prod.mk.injEq, and_self, reduceCtorEq, BEq.rfl, Bool.and_true, Bool.true_and, Bool.and_false, Bool.false_and]
        exact ⟨rfl, rfl⟩
      · rintro ⟨i, hi⟩
        simp only [go_sem, Nat.reduceEqDiff, ↓reduceIte, Bool.false_eq_true, Nat.reduceAdd, Nat.reduceSub, Nat.reduceBNe, Nat.reduceBEq, Nat.reduceLT, Nat.reduceLeDiff, Nat.reduceMul, Nat.zero_lt_succ, Nat.lt_add_one, Nat.zero_lt_one, Int.reduceToNat, false_implies, true_implies, or_self, or_false, false_or, or_true, true_or, Nat.add_le_add_iff_right, true_and, and_true, forall_const, implies_true, List.contains_cons, List.contains_nil, List.all_cons, List.all_nil, bne_self_eq_false, Option.isSome_none, Option.isSome_some, Bool.or_false, Bool.false_or, Bool.true_or, Bool.or_true, ne_eq, not_false_eq_true, not_true_eq_false, beq_self_eq_true, cond_true, cond_false, Prod.mk.injEq, and_self, reduceCtorEq, BEq.rfl, Bool.and_true, Bool.true_and, Bool.and_false, Bool.false_and, decide_eq_true_eq]
        have hp := apF_0 a b i
        refine fun _ => ⟨fun hlt => ?_, fun hge => ?_⟩
        · obtain ⟨p1, p2⟩ := ha i (by omega)
          obtain ⟨p3, p4⟩ := hb i (by omega)
          obtain ⟨p5, p6, _⟩ := hr i (by omega)
          have step : ∀ x, x = apF a b (i + 1) → ∃ y : { i : Nat // i ≤ m2 }, m2 - y.val < m2 - i ∧ PV.d (DV.int IntKind.i64 ((i : Int) + 1)) = PV.d (DV.int IntKind.i64 (y.val : Int)) ∧ PV.d (DV.int IntKind.i64 x) = PV.d (DV.int IntKind.i64 (apF a b y.val)) := fun x hx => ⟨⟨i + 1, by omega⟩, by simp only; omega, by simp, by rw [hx]⟩
          refine ⟨by omega, by omega, by omega, fun h => ⟨by omega, fun h2 => ⟨by omega, step _ ?_⟩, fun h2 => ⟨by omega, step _ ?_⟩⟩, fun h => ⟨fun h2 => ⟨by omega, step _ ?_⟩, fun h2 => ⟨by omega, step _ ?_⟩⟩⟩
          all_goals
            try simp only [decide_eq_false_iff_not] at *
            simp only [apF]
            repeat' split
            all_goals omega
        · have : i = m2 := by simp at hge; omega
          subst this
          rfl
    · simp only [go_sem, Nat.reduceEqDiff, ↓reduceIte, Bool.false_eq_true, Nat.reduceAdd, Nat.reduceSub, Nat.reduceBNe, Nat.reduceBEq, Nat.reduceLT, Nat.reduceLeDiff, Nat.reduceMul, Nat.zero_lt_succ, Nat.lt_add_one, Nat.zero_lt_one, Int.reduceToNat, false_implies, true_implies, or_self, or_false, false_or, or_true, true_or, Nat.add_le_add_iff_right, true_and, and_true, forall_const, implies_true, List.contains_cons, List.contains_nil, List.all_cons, List.all_nil, bne_self_eq_false, Option.isSome_none, Option.isSome_some, Bool.or_false, Bool.false_or, Bool.true_or, Bool.or_true, ne_eq, not_false_eq_true, not_true_eq_false, beq_self_eq_true, cond_true, cond_false, Prod.mk.injEq, and_self, reduceCtorEq, BEq.rfl, Bool.and_true, Bool.true_and, Bool.and_false, Bool.false_and, bne0_ne h2, apR, he, h2]
  · have he : err2 id n f m1 a m2 b = checkR id n f m1 a := by simp [err2_if, h1]
    simp only [go_sem, Nat.reduceEqDiff, ↓reduceIte, Bool.false_eq_true, Nat.reduceAdd, Nat.reduceSub, Nat.reduceBNe, Nat.reduceBEq, Nat.reduceLT, Nat.reduceLeDiff, Nat.reduceMul, Nat.zero_lt_succ, Nat.lt_add_one, Nat.zero_lt_one, Int.reduceToNat, false_implies, true_implies, or_self, or_false, false_or, or_true, true_or, Nat.add_le_add_iff_right, true_and, and_true, forall_const, implies_true, List.contains_cons, List.contains_nil, List.all_cons, List.all_nil, bne_self_eq_false, Option.isSome_none, Option.isSome_some, Bool.or_false, Bool.false_or, Bool.true_or, Bool.or_true, ne_eq, not_false_eq_true, not_true_eq_false, beq_self_eq_true, cond_true, cond_false, Prod.mk.injEq, and_self, reduceCtorEq, BEq.rfl, Bool.and_true, Bool.true_and, Bool.and_false, Bool.false_and, beq0_ne h1, bne0_ne h1, apR, he, h1]
/-! totals -/
def sumF (x : Nat → Int) : Nat → Int
  | 0 => 0
  | i + 1 => sumF x i + x i
def totR (id : Int) (n : Nat) (f : Nat → Tr) (m : Nat) (a : Nat → Int) : Int := if checkR id n f m a ≠ 0 then 0 else sumF (fun i => a i * (f i).weight) n
def mostR (id : Int) (n : Nat) (f : Nat → Tr) : Int := if validR id n f ≠ 0 then 0 else sumF (fun i => (f i).most * (f i).weight) n
theorem mul_le {x y c d : Int} (h1 : 0 ≤ x) (h2 : x ≤ c) (h3 : 0 ≤ y) (h4 : y ≤ d) : 0 ≤ x * y ∧ x * y ≤ c * d :=
  ⟨Int.mul_nonneg h1 h3, Int.mul_le_mul h2 h4 h3 (Int.le_trans h1 h2)⟩
theorem sum_le {x : Nat → Int} : ∀ {i : Nat}, (∀ j, j < i → 0 ≤ x j ∧ x j ≤ 100) → 0 ≤ sumF x i ∧ sumF x i ≤ 100 * i
  | 0, _ => by simp [sumF]
  | i + 1, h => by
    have := sum_le (i := i) fun j hj => h j (by omega)
    have := h i (by omega)
    simp only [sumF]
    omega
theorem total_ok (id : Int) (n : Nat) (f : Nat → Tr) (m : Nat) (a : Nat → Int) : FnD Try.prog 12 [.d (rD id n f), .d (mD m a)] [.int .i64 (totR id n f m a), .int .i64 (checkR id n f m a)] := by
  refine fnD_intro (H := { nt := Go.Func.ntmps Try.f12 }) Try.func12 rfl rfl rfl rfl (Nat.le_of_ble_eq_true rfl) (okC_tri (by kernel_rfl) _ _ _ _ (by kernel_rfl) ?_)
  simp only [go_sem, Nat.reduceEqDiff, ↓reduceIte, Bool.false_eq_true, Nat.reduceAdd, Nat.reduceSub, Nat.reduceBNe, Nat.reduceBEq, Nat.reduceLT, Nat.reduceLeDiff, Nat.reduceMul, Nat.zero_lt_succ, Nat.lt_add_one, Nat.zero_lt_one, Int.reduceToNat, false_implies, true_implies, or_self, or_false, false_or, or_true, true_or, Nat.add_le_add_iff_right, true_and, and_true, forall_const, implies_true, List.contains_cons, List.contains_nil, List.all_cons, List.all_nil, bne_self_eq_false, Option.isSome_none, Option.isSome_some, Bool.or_false, Bool.false_or, Bool.true_or, Bool.or_true, ne_eq, not_false_eq_true, not_true_eq_false, beq_self_eq_true, cond_true, cond_false, Prod.mk.injEq, and_self, reduceCtorEq, BEq.rfl, Bool.and_true, Bool.true_and, Bool.and_false, Bool.false_and, Try.f12, rD, mD]
  refine ⟨_, fun _ => check_ok id n f m a, ?_, ?_⟩
  focus (first | exact fun _ => rfl | exact fun h0 => absurd h0 (by decide))
  simp only [go_sem, Nat.reduceEqDiff, ↓reduceIte, Bool.false_eq_true, Nat.reduceAdd, Nat.reduceSub, Nat.reduceBNe, Nat.reduceBEq, Nat.reduceLT, Nat.reduceLeDiff, Nat.reduceMul, Nat.zero_lt_succ, Nat.lt_add_one, Nat.zero_lt_one, Int.reduceToNat, false_implies, true_implies, or_self, or_false, false_or, or_true, true_or, Nat.add_le_add_iff_right, true_and, and_true, forall_const, implies_true, List.contains_cons, List.contains_nil, List.all_cons, List.all_nil, bne_self_eq_false, Option.isSome_none, Option.isSome_some, Bool.or_false, Bool.false_or, Bool.true_or, Bool.or_true, ne_eq, not_false_eq_true, not_true_eq_false, beq_self_eq_true, cond_true, cond_false, Prod.mk.injEq, and_self, reduceCtorEq, BEq.rfl, Bool.and_true, Bool.true_and, Bool.and_false, Bool.false_and]
  refine ⟨fun h => ?_, fun h hm => ?_⟩
  · have h' : checkR id n f m a ≠ 0 := by simpa using h
    simp only [totR, if_pos h']
  · have h' : checkR id n f m a = 0 := by simpa using h
    obtain ⟨v0, q1, ha⟩ := check0 h'
    subst q1
    obtain ⟨n1, n6, hr⟩ := valid0 v0
    have hres : totR id m f m a = sumF (fun i => a i * (f i).weight) m := by simp [totR, h']
    rw [h', hres]
    refine ⟨{ i : Nat // i ≤ m }, fun i => ([(19, .d (.int .i64 i)), (18, .d (.int .i64 m)), (17, .d (.list 3 m fun i => tD (f i))), (7, .d (.int .i64 (sumF (fun i => a i * (f i).weight) i))), (1, .d (.list 1 m fun i => .int .i64 (a i)))], []), fun i => m - i, ⟨0, Nat.zero_le _⟩, ?_, ?_⟩
    · simp only [go_sem, Nat.reduceEqDiff, ↓reduceIte, Bool.false_eq_true, Nat.reduceAdd, Nat.reduceSub, Nat.reduceBNe, Nat.reduceBEq, Nat.reduceLT, Nat.reduceLeDiff, Nat.reduceMul, Nat.zero_lt_succ, Nat.lt_add_one, Nat.zero_lt_one, Int.reduceToNat, false_implies, true_implies, or_self, or_false, false_or, or_true, true_or, Nat.add_le_add_iff_right, true_and, and_true, forall_const, implies_true, List.contains_cons, List.contains_nil, List.all_cons, List.all_nil, bne_self_eq_false, Option.isSome_none, Option.isSome_some, Bool.or_false, Bool.false_or, Bool.true_or, Bool.or_true, ne_eq, not_false_eq_true, not_true_eq_false, beq_self_eq_true, cond_true, cond_false, Prod.mk.injEq, and_self, reduceCtorEq, BEq.rfl, Bool.and_true, Bool.true_and, Bool.and_false, Bool.false_and]
      exact ⟨rfl, rfl⟩
    · rintro ⟨i, hi⟩
      simp only [go_sem, Nat.reduceEqDiff, ↓reduceIte, Bool.false_eq_true, Nat.reduceAdd, Nat.reduceSub, Nat.reduceBNe, Nat.reduceBEq, Nat.reduceLT, Nat.reduceLeDiff, Nat.reduceMul, Nat.zero_lt_succ, Nat.lt_add_one, Nat.zero_lt_one, Int.reduceToNat, false_implies, true_implies, or_self, or_false, false_or, or_true, true_or, Nat.add_le_add_iff_right, true_and, and_true, forall_const, implies_true, List.contains_cons, List.contains_nil, List.all_cons, List.all_nil, bne_self_eq_false, Option.isSome_none, Option.isSome_some, Bool.or_false, Bool.false_or, Bool.true_or, Bool.or_true, ne_eq, not_false_eq_true, not_true_eq_false, beq_self_eq_true, cond_true, cond_false, Prod.mk.injEq, and_self, reduceCtorEq, BEq.rfl, Bool.and_true, Bool.true_and, Bool.and_false, Bool.false_and, decide_eq_true_eq, ze39]
      have hs := sum_le (x := fun i => a i * (f i).weight) (i := i) fun j hj => by
        obtain ⟨p1, p2⟩ := ha j (by omega)
        obtain ⟨p5, p6, p7, p8⟩ := hr j (by omega)
        exact mul_le (c := 10) (d := 10) p1 (by omega) (by omega) p8
      refine ⟨fun hlt => ?_, fun hge => ?_⟩
      · obtain ⟨p1, p2⟩ := ha i (by omega)
        obtain ⟨p5, p6, p7, p8⟩ := hr i (by omega)
        have hx := mul_le (c := 10) (d := 10) p1 (by omega) (show 0 ≤ (f i).weight by omega) p8
        exact ⟨by omega, by omega, by omega, by omega, by omega, ⟨i + 1, by omega⟩, by simp only; omega, by simp, rfl⟩
      · have : i = m := by simp at hge; omega
        subst this
        rfl
theorem most_ok (id : Int) (n : Nat) (f : Nat → Tr) : FnD Try.prog 13 [.d (rD id n f)] [.int .i64 (mostR id n f), .int .i64 (validR id n f)] := by
  refine fnD_intro (H := { nt := Go.Func.ntmps Try.f13 }) Try.func13 rfl rfl rfl rfl (Nat.le_of_ble_eq_true rfl) (okC_tri (by kernel_rfl) _ _ _ _ (by kernel_rfl) ?_)
  simp only [go_sem, Nat.reduceEqDiff, ↓reduceIte, Bool.false_eq_true, Nat.reduceAdd, Nat.reduceSub, Nat.reduceBNe, Nat.reduceBEq, Nat.reduceLT, Nat.reduceLeDiff, Nat.reduceMul, Nat.zero_lt_succ, Nat.lt_add_one, Nat.zero_lt_one, Int.reduceToNat, false_implies, true_implies, or_self, or_false, false_or, or_true, true_or, Nat.add_le_add_iff_right, true_and, and_true, forall_const, implies_true, List.contains_cons, List.contains_nil, List.all_cons, List.all_nil, bne_self_eq_false, Option.isSome_none, Option.isSome_some, Bool.or_false, Bool.false_or, Bool.true_or, Bool.or_true, ne_eq, not_false_eq_true, not_true_eq_false, beq_self_eq_true, cond_true, cond_false, Prod.mk.injEq, and_self, reduceCtorEq, BEq.rfl, Bool.and_true, Bool.true_and, Bool.and_false, Bool.false_and, Try.f13, rD, mD]
  refine ⟨_, fun _ => valid_ok id n f, ?_, ?_⟩
  focus (first | exact fun _ => rfl | exact fun h0 => absurd h0 (by decide))
  simp only [go_sem, Nat.reduceEqDiff, ↓reduceIte, Bool.false_eq_true, Nat.reduceAdd, Nat.reduceSub, Nat.reduceBNe, Nat.reduceBEq, Nat.reduceLT, Nat.reduceLeDiff, Nat.reduceMul, Nat.zero_lt_succ, Nat.lt_add_one, Nat.zero_lt_one, Int.reduceToNat, false_implies, true_implies, or_self, or_false, false_or, or_true, true_or, Nat.add_le_add_iff_right, true_and, and_true, forall_const, implies_true, List.contains_cons, List.contains_nil, List.all_cons, List.all_nil, bne_self_eq_false, Option.isSome_none, Option.isSome_some, Bool.or_false, Bool.false_or, Bool.true_or, Bool.or_true, ne_eq, not_false_eq_true, not_true_eq_false, beq_self_eq_true, cond_true, cond_false, Prod.mk.injEq, and_self, reduceCtorEq, BEq.rfl, Bool.and_true, Bool.true_and, Bool.and_false, Bool.false_and]
  refine ⟨fun h => ?_, fun h hm => ?_⟩
  · have h' : validR id n f ≠ 0 := by simpa using h
    simp only [mostR, if_pos h']
  · have v0 : validR id n f = 0 := by simpa using h
    obtain ⟨n1, n6, hr⟩ := valid0 v0
    have hres : mostR id n f = sumF (fun i => (f i).most * (f i).weight) n := by simp [mostR, v0]
    rw [v0, hres]
    refine ⟨{ i : Nat // i ≤ n }, fun i => ([(16, .d (.int .i64 i)), (15, .d (.int .i64 n)), (14, .d (.list 3 n fun i => tD (f i))), (5, .d (.int .i64 (sumF (fun i => (f i).most * (f i).weight) i)))], []), fun i => n - i, ⟨0, Nat.zero_le _⟩, ?_, ?_⟩
    · simp only [go_sem, Nat.reduceEqDiff, ↓reduceIte, Bool.false_eq_true, Nat.reduceAdd, Nat.reduceSub, Nat.reduceBNe, Nat.reduceBEq, Nat.reduceLT, Nat.reduceLeDiff, Nat.reduceMul, Nat.zero_lt_succ, Nat.lt_add_one, Nat.zero_lt_one, Int.reduceToNat, false_implies, true_implies, or_self, or_false, false_or, or_true, true_or, Nat.add_le_add_iff_right, true_and, and_true, forall_const, implies_true, List.contains_cons, List.contains_nil, List.all_cons, List.all_nil, bne_self_eq_false, Option.isSome_none, Option.isSome_some, Bool.or_false, Bool.false_or, Bool.true_or, Bool.or_true, ne_eq, not_false_eq_true, not_true_eq_false, beq_self_eq_true, cond_true, cond_false, Prod.mk.injEq, and_self, reduceCtorEq, BEq.rfl, Bool.and_true, Bool.true_and, Bool.and_false, Bool.false_and]
      exact ⟨rfl, rfl⟩
    · rintro ⟨i, hi⟩
      simp only [go_sem, Nat.reduceEqDiff, ↓reduceIte, Bool.false_eq_true, Nat.reduceAdd, Nat.reduceSub, Nat.reduceBNe, Nat.reduceBEq, Nat.reduceLT, Nat.reduceLeDiff, Nat.reduceMul, Nat.zero_lt_succ, Nat.lt_add_one, Nat.zero_lt_one, Int.reduceToNat, false_implies, true_implies, or_self, or_false, false_or, or_true, true_or, Nat.add_le_add_iff_right, true_and, and_true, forall_const, implies_true, List.contains_cons, List.contains_nil, List.all_cons, List.all_nil, bne_self_eq_false, Option.isSome_none, Option.isSome_some, Bool.or_false, Bool.false_or, Bool.true_or, Bool.or_true, ne_eq, not_false_eq_true, not_true_eq_false, beq_self_eq_true, cond_true, cond_false, Prod.mk.injEq, and_self, reduceCtorEq, BEq.rfl, Bool.and_true, Bool.true_and, Bool.and_false, Bool.false_and, decide_eq_true_eq, ze39]
      have hs := sum_le (x := fun i => (f i).most * (f i).weight) (i := i) fun j hj => by
        obtain ⟨p5, p6, p7, p8⟩ := hr j (by omega)
        exact mul_le (c := 10) (d := 10) (by omega) (by omega) (by omega) p8
      refine ⟨fun hlt => ?_, fun hge => ?_⟩
      · obtain ⟨p5, p6, p7, p8⟩ := hr i (by omega)
        have hx := mul_le (c := 10) (d := 10) (show 0 ≤ (f i).most by omega) (by omega) (show 0 ≤ (f i).weight by omega) p8
        exact ⟨by omega, by omega, by omega, by omega, ⟨i + 1, by omega⟩, by simp only; omega, by simp, rfl⟩
      · have : i = n := by simp at hge; omega
        subst this
        rfl
end Go.Proofs.Ytpfahanbkhgfhaa.P41

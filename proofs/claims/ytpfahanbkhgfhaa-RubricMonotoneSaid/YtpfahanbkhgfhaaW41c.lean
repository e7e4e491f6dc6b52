/- Proved here: contracts of functions of this chapter: called with these values, each returns these values and changes nothing that was. Conditions: none but those that each theorem names. -/
import Derived.Test.YtpfahanbkhgfhaaW41b
set_option linter.unusedSimpArgs false
set_option linter.unusedVariables false
open Go Go.Proofs Go.Ev
namespace Go.Proofs.Ytpfahanbkhgfhaa.P41
set_option maxRecDepth 100000
theorem first0 {e : Nat → Int} {n : Nat} (h : firstE e n = 0) : ∀ i, i < n → e i = 0 := by
  intro i hi
  unfold firstE at h
  split at h
  · rename_i j hj
    have := List.find?_some hj
    simp [h] at this
  · rename_i hn
    rw [List.find?_eq_none] at hn
    simpa using hn i (by simpa using hi)
theorem valid0 {id : Int} {n : Nat} {f : Nat → Tr} (h : validR id n f = 0) : 1 ≤ n ∧ n ≤ 6 ∧ ∀ i, i < n → 1 ≤ (f i).most ∧ (f i).most ≤ 10 ∧ 1 ≤ (f i).weight ∧ (f i).weight ≤ 10 := by
  unfold validR at h
  split at h
  · cases h
  · split at h
    · cases h
    · split at h
      · cases h
      · refine ⟨by omega, by omega, fun i hi => ?_⟩
        have := first0 h i hi
        unfold rowE at this
        repeat' split at this
        all_goals first | (cases this; done) | skip
        rename_i hb
        simp only [badR] at hb
        have hb : (bif bif bif decide ((f i).most < 1) then true else decide (10 < (f i).most) then true else decide ((f i).weight < 1) then true else decide (10 < (f i).weight)) = false := by simpa using hb
        simp only [Bool.cond_eq_ite, Bool.if_true_left, Bool.or_eq_false_iff, decide_eq_false_iff_not, Bool.decide_eq_true] at hb
        omega
theorem check0 {id : Int} {n : Nat} {f : Nat → Tr} {m : Nat} {a : Nat → Int} (h : checkR id n f m a = 0) : validR id n f = 0 ∧ m = n ∧ ∀ i, i < n → 0 ≤ a i ∧ a i ≤ (f i).most := by
  unfold checkR at h
  split at h
  · rename_i h0; exact absurd h h0
  · rename_i h0
    split at h
    · cases h
    · rename_i h1
      have h1 : m = n := by simpa using h1
      subst h1
      refine ⟨by simpa using h0, rfl, fun i hi => ?_⟩
      have := first0 h i hi
      unfold markE at this
      split at this
      · cases this
      · rename_i hb
        have hb : (bif decide (a i < 0) then true else decide ((f i).most < a i)) = false := by simpa using hb
        simp only [Bool.cond_eq_ite, Bool.if_true_left, Bool.or_eq_false_iff, decide_eq_false_iff_not, Bool.decide_eq_true] at hb
        omega
def three {α : Type} (x y z : α) : Nat → α
  | 0 => x
  | 1 => y
  | _ => z
def err3 (id : Int) (n : Nat) (f : Nat → Tr) (m1 : Nat) (a : Nat → Int) (m2 : Nat) (b : Nat → Int) (m3 : Nat) (c : Nat → Int) : Int := firstE (fun i => checkR id n f (three m1 m2 m3 i) (three a b c i)) 3
def cutF (n : Nat) (f : Nat → Int) (i : Nat) : Int := if i < n then f i else 0
def medR (id : Int) (n : Nat) (f : Nat → Tr) (m1 : Nat) (a : Nat → Int) (m2 : Nat) (b : Nat → Int) (m3 : Nat) (c : Nat → Int) : DV :=
  if err3 id n f m1 a m2 b m3 c ≠ 0 then .nil else mD n (cutF n fun i => midR (a i) (b i) (c i))
theorem three_g {m1 : Nat} {a : Nat → Int} {m2 : Nat} {b : Nat → Int} {m3 : Nat} {c : Nat → Int} : ∀ i, i < 3 → [mD m1 a, mD m2 b, mD m3 c].getD i .nil = mD (three m1 m2 m3 i) (three a b c i)
  | 0, _ => rfl
  | 1, _ => rfl
  | 2, _ => rfl
  | _ + 3, h => absurd h (by omega)
theorem err3_0 {id : Int} {n : Nat} {f : Nat → Tr} {m1 : Nat} {a : Nat → Int} {m2 : Nat} {b : Nat → Int} {m3 : Nat} {c : Nat → Int} (h : err3 id n f m1 a m2 b m3 c = 0) : checkR id n f m1 a = 0 ∧ checkR id n f m2 b = 0 ∧ checkR id n f m3 c = 0 :=
  ⟨first0 h 0 (by decide), first0 h 1 (by decide), first0 h 2 (by decide)⟩
theorem all3_ok (id : Int) (n : Nat) (f : Nat → Tr) (m1 : Nat) (a : Nat → Int) (m2 : Nat) (b : Nat → Int) (m3 : Nat) (c : Nat → Int) : FnD Try.prog 15 [.d (rD id n f), .d (.list 1 3 fun i => [mD m1 a, mD m2 b, mD m3 c].getD i .nil)] [.int .i64 (err3 id n f m1 a m2 b m3 c)] := all_ok id n f 3 _ _ _ three_g
theorem cut_step (n : Nat) (g : Nat → Int) (x : Int) (h : x = g n) : (fun k => if k = n then DV.int .i64 x else DV.int .i64 (cutF n g k)) = fun k => DV.int .i64 (cutF (n + 1) g k) := by
  funext k
  simp only [cutF]
  by_cases h1 : k = n
  · subst h1; simp [h]
  · rw [if_neg h1]
    by_cases h2 : k < n
    · rw [if_pos h2, if_pos (by omega)]
    · rw [if_neg h2, if_neg (by omega)]
theorem mid_min (a b c : Int) : (if (if c < if b > a then b else a then c else if b > a then b else a) > if b < a then b else a then if c < if b > a then b else a then c else if b > a then b else a else if b < a then b else a) = midR a b c := by
  simp only [midR, Bool.cond_eq_ite, Bool.if_true_left, Bool.if_false_right, Bool.or_eq_true, Bool.and_eq_true, decide_eq_true_eq, Bool.decide_eq_true]
  repeat' split
  all_goals omega
theorem median_ok (id : Int) (n : Nat) (f : Nat → Tr) (m1 : Nat) (a : Nat → Int) (m2 : Nat) (b : Nat → Int) (m3 : Nat) (c : Nat → Int) : FnD Try.prog 6 [.d (rD id n f), .d (mD m1 a), .d (mD m2 b), .d (mD m3 c)] [medR id n f m1 a m2 b m3 c, .int .i64 (err3 id n f m1 a m2 b m3 c)] := by
  refine fnD_intro (H := { nt := Go.Func.ntmps Try.f6 }) Try.func6 rfl rfl rfl rfl (Nat.le_of_ble_eq_true rfl) (okC_tri (by kernel_rfl) _ _ _ _ (by kernel_rfl) ?_)
  simp only [go_sem, Nat.reduceEqDiff, ↓reduceIte, Bool.false_eq_true, Nat.reduceAdd, Nat.reduceSub, Nat.reduceBNe, Nat.reduceBEq, Nat.reduceLT, Nat.reduceLeDiff, Nat.reduceMul, Nat.zero_lt_succ, Nat.lt_add_one, Nat.zero_lt_one, Int.reduceToNat, false_implies, true_implies, or_self, or_false, false_or, or_true, true_or, Nat.add_le_add_iff_right, true_and, and_true, forall_const, implies_true, List.contains_cons, List.contains_nil, List.all_cons, List.all_nil, bne_self_eq_false, Option.isSome_none, Option.isSome_some, Bool.or_false, Bool.false_or, Bool.true_or, Bool.or_true, ne_eq, not_false_eq_true, not_true_eq_false, beq_self_eq_true, cond_true, cond_false, Prod.mk.injEq, and_self, reduceCtorEq, BEq.rfl, Bool.and_true, Bool.true_and, Bool.and_false, Bool.false_and, Try.f6, rD, mD]
  refine ⟨_, fun _ => all3_ok id n f m1 a m2 b m3 c, ?_, ?_⟩
  focus (first | exact fun _ => rfl | exact fun h0 => absurd h0 (by decide))
  simp only [go_sem, Nat.reduceEqDiff, ↓reduceIte, Bool.false_eq_true, Nat.reduceAdd, Nat.reduceSub, Nat.reduceBNe, Nat.reduceBEq, Nat.reduceLT, Nat.reduceLeDiff, Nat.reduceMul, Nat.zero_lt_succ, Nat.lt_add_one, Nat.zero_lt_one, Int.reduceToNat, false_implies, true_implies, or_self, or_false, false_or, or_true, true_or, Nat.add_le_add_iff_right, true_and, and_true, forall_const, implies_true, List.contains_cons, List.contains_nil, List.all_cons, List.all_nil, bne_self_eq_false, Option.isSome_none, Option.isSome_some, Bool.or_false, Bool.false_or, Bool.true_or, Bool.or_true, ne_eq, not_false_eq_true, not_true_eq_false, beq_self_eq_true, cond_true, cond_false, Prod.mk.injEq, and_self, reduceCtorEq, BEq.rfl, Bool.and_true, Bool.true_and, Bool.and_false, Bool.false_and]
  refine ⟨fun h => ?_, fun h hm => ?_⟩
  · have h' : err3 id n f m1 a m2 b m3 c ≠ 0 := by simpa using h
    simp only [medR, if_pos h']
  · have h' : err3 id n f m1 a m2 b m3 c = 0 := by simpa using h
    obtain ⟨c1, c2, c3⟩ := err3_0 h'
    obtain ⟨v0, q1, ha⟩ := check0 c1
    obtain ⟨_, q2, hb⟩ := check0 c2
    obtain ⟨_, q3, hc⟩ := check0 c3
    subst q1 q2 q3
    obtain ⟨n1, n6, hr⟩ := valid0 v0
    have hres : medR id m3 f m3 a m3 b m3 c = mD m3 (cutF m3 fun i => midR (a i) (b i) (c i)) := by simp [medR, h']
    rw [h', hres]
    refine ⟨by omega, fun _ => ?_⟩
    refine ⟨{ i : Nat // i ≤ m3 }, fun i => ([(27, .d (.int .i64 i)), (26, .d (.int .i64 m3)), (11, .own 2 0 m3), (1, .d (.list 1 m3 fun i => .int .i64 (a i))), (2, .d (.list 1 m3 fun i => .int .i64 (b i))), (3, .d (.list 1 m3 fun i => .int .i64 (c i)))], [.box [.d (.int .i64 id), .d (.list 3 m3 fun i => tD (f i))], .arr 25 1 3 (fun i => [mD m3 a, mD m3 b, mD m3 c].getD i .nil), .arr 3 1 m3 (fun k => .int .i64 (cutF i (fun i => midR (a i) (b i) (c i)) k))]), fun i => m3 - i, ⟨0, Nat.zero_le _⟩, ?_, ?_⟩
    · simp only [go_sem, Nat.reduceEqDiff, ↓reduceIte, Bool.false_eq_true, Nat.reduceAdd, Nat.reduceSub, Nat.reduceBNe, Nat.reduceBEq, Nat.reduceLT, Nat.reduceLeDiff, Nat.reduceMul, Nat.zero_lt_succ, Nat.lt_add_one, Nat.zero_lt_one, Int.reduceToNat, false_implies, true_implies, or_self, or_false, false_or, or_true, true_or, Nat.add_le_add_iff_right, true_and, and_true, forall_const, implies_true, List.contains_cons, List.contains_nil, List.all_cons, List.all_nil, bne_self_eq_false, Option.isSome_none, Option.isSome_some, Bool.or_false, Bool.false_or, Bool.true_or, Bool.or_true, ne_eq, not_false_eq_true, not_true_eq_false, beq_self_eq_true, cond_true, cond_false, Prod.mk.injEq, and_self, reduceCtorEq, BEq.rfl, Bool.and_true, Bool.true_and, Bool.and_false, Bool.false_and]
      exact ⟨rfl, rfl, rfl⟩
    · rintro ⟨i, hi⟩
      simp only [go_sem, Nat.reduceEqDiff, ↓reduceIte, Bool.false_eq_true, Nat.reduceAdd, Nat.reduceSub, Nat.reduceBNe, Nat.reduceBEq, Nat.reduceLT, Nat.reduceLeDiff, Nat.reduceMul, Nat.zero_lt_succ, Nat.lt_add_one, Nat.zero_lt_one, Int.reduceToNat, false_implies, true_implies, or_self, or_false, false_or, or_true, true_or, Nat.add_le_add_iff_right, true_and, and_true, forall_const, implies_true, List.contains_cons, List.contains_nil, List.all_cons, List.all_nil, bne_self_eq_false, Option.isSome_none, Option.isSome_some, Bool.or_false, Bool.false_or, Bool.true_or, Bool.or_true, ne_eq, not_false_eq_true, not_true_eq_false, beq_self_eq_true, cond_true, cond_false, Prod.mk.injEq, and_self, reduceCtorEq, BEq.rfl, Bool.and_true, Bool.true_and, Bool.and_false, Bool.false_and, decide_eq_true_eq]
      refine ⟨fun hlt => ⟨by omega, by omega, by omega, by omega, by omega, by omega, by omega, by constructor <;> omega, ⟨i + 1, by omega⟩, by simp only; omega, by simp, ?_⟩, fun hge => ?_⟩
      · rw [cut_step i (fun i => midR (a i) (b i) (c i)) _ (mid_min (a i) (b i) (c i))]
      · have : i = m3 := by simp at hge; omega
        subst this
        rfl
end Go.Proofs.Ytpfahanbkhgfhaa.P41

/- Proved here: contracts of functions of this chapter: called with these values, each returns these values and changes nothing that was. Conditions: none but those that each theorem names. -/
import Derived.Test.YtpfahanbkhgfhaaDoorD41c
set_option linter.unusedSimpArgs false
set_option linter.unusedVariables false
open Go Go.Proofs Go.Ev
namespace Go.Proofs.YtpfahanbkhgfhaaDoor.P41
set_option maxRecDepth 100000
/-! the constants -/
def dig36 : ByteArray := ⟨#[48, 49, 50, 51, 52, 53, 54, 55, 56, 57, 97, 98, 99, 100, 101, 102, 103, 104, 105, 106, 107, 108, 109, 110, 111, 112, 113, 114, 115, 116, 117, 118, 119, 120, 121, 122]⟩
def dig200 : ByteArray := ⟨((List.append [48, 48, 48, 49, 48, 50, 48, 51, 48, 52, 48, 53, 48, 54, 48, 55, 48, 56, 48, 57, 49, 48, 49, 49, 49, 50, 49, 51, 49, 52, 49, 53, 49, 54, 49, 55, 49, 56, 49, 57, 50, 48, 50, 49, 50, 50, 50, 51, 50, 52] [50, 53, 50, 54, 50, 55, 50, 56, 50, 57, 51, 48, 51, 49, 51, 50, 51, 51, 51, 52, 51, 53, 51, 54, 51, 55, 51, 56, 51, 57, 52, 48, 52, 49, 52, 50, 52, 51, 52, 52, 52, 53, 52, 54, 52, 55, 52, 56, 52, 57]).append (List.append [53, 48, 53, 49, 53, 50, 53, 51, 53, 52, 53, 53, 53, 54, 53, 55, 53, 56, 53, 57, 54, 48, 54, 49, 54, 50, 54, 51, 54, 52, 54, 53, 54, 54, 54, 55, 54, 56, 54, 57, 55, 48, 55, 49, 55, 50, 55, 51, 55, 52] [55, 53, 55, 54, 55, 55, 55, 56, 55, 57, 56, 48, 56, 49, 56, 50, 56, 51, 56, 52, 56, 53, 56, 54, 56, 55, 56, 56, 56, 57, 57, 48, 57, 49, 57, 50, 57, 51, 57, 52, 57, 53, 57, 54, 57, 55, 57, 56, 57, 57])).toArray⟩
@[go_sem] theorem ks0 : konst (.string ⟨#[]⟩) = .d (.str ⟨#[]⟩) := rfl
@[go_sem] theorem ks1 : konst (.string ⟨#[47]⟩) = .d (.str ⟨#[47]⟩) := rfl
@[go_sem] theorem ks2 : konst (.string ⟨#[49, 48]⟩) = .d (.str ⟨#[49, 48]⟩) := rfl
@[go_sem] theorem ks3 : konst (.string ⟨#[48, 49, 50, 51, 52, 53, 54, 55, 56, 57, 97, 98, 99, 100, 101, 102, 103, 104, 105, 106, 107, 108, 109, 110, 111, 112, 113, 114, 115, 116, 117, 118, 119, 120, 121, 122]⟩) = .d (.str dig36) := rfl
@[go_sem] theorem ks4 : konst (.string ⟨((List.append [48, 48, 48, 49, 48, 50, 48, 51, 48, 52, 48, 53, 48, 54, 48, 55, 48, 56, 48, 57, 49, 48, 49, 49, 49, 50, 49, 51, 49, 52, 49, 53, 49, 54, 49, 55, 49, 56, 49, 57, 50, 48, 50, 49, 50, 50, 50, 51, 50, 52] [50, 53, 50, 54, 50, 55, 50, 56, 50, 57, 51, 48, 51, 49, 51, 50, 51, 51, 51, 52, 51, 53, 51, 54, 51, 55, 51, 56, 51, 57, 52, 48, 52, 49, 52, 50, 52, 51, 52, 52, 52, 53, 52, 54, 52, 55, 52, 56, 52, 57]).append (List.append [53, 48, 53, 49, 53, 50, 53, 51, 53, 52, 53, 53, 53, 54, 53, 55, 53, 56, 53, 57, 54, 48, 54, 49, 54, 50, 54, 51, 54, 52, 54, 53, 54, 54, 54, 55, 54, 56, 54, 57, 55, 48, 55, 49, 55, 50, 55, 51, 55, 52] [55, 53, 55, 54, 55, 55, 55, 56, 55, 57, 56, 48, 56, 49, 56, 50, 56, 51, 56, 52, 56, 53, 56, 54, 56, 55, 56, 56, 56, 57, 57, 48, 57, 49, 57, 50, 57, 51, 57, 52, 57, 53, 57, 54, 57, 55, 57, 56, 57, 57])).toArray⟩) = .d (.str dig200) := rfl
theorem rtotal_ok (id : Int) (n : Nat) (f : Nat → Tr) (m : Nat) (a : Nat → Int) : FnD Tryd.prog 14 [.d (rD id n f), .d (mD m a)] [.int .i64 (totR id n f m a), .int .i64 (checkR id n f m a)] := by
  refine fnD_intro (H := { nt := Go.Func.ntmps Tryd.f14 }) Tryd.func14 rfl rfl rfl rfl (Nat.le_of_ble_eq_true rfl) (okC_tri (by kernel_rfl) _ _ _ _ (by kernel_rfl) ?_)
  simp only [go_sem, Nat.reduceEqDiff, ↓reduceIte, Bool.false_eq_true, Nat.reduceAdd, Nat.reduceSub, Nat.reduceBNe, Nat.reduceBEq, Nat.reduceLT, Nat.reduceLeDiff, Nat.reduceMul, Nat.zero_lt_succ, Nat.lt_add_one, Nat.zero_lt_one, Int.reduceToNat, false_implies, true_implies, or_self, or_false, false_or, or_true, true_or, Nat.add_le_add_iff_right, true_and, and_true, forall_const, implies_true, List.contains_cons, List.contains_nil, List.all_cons, List.all_nil, bne_self_eq_false, Option.isSome_none, Option.isSome_some, Bool.or_false, Bool.false_or, Bool.true_or, Bool.or_true, ne_eq, not_false_eq_true, not_true_eq_false, beq_self_eq_true, cond_true, cond_false, Prod.mk.injEq, and_self, reduceCtorEq, BEq.rfl, Bool.and_true, Bool.true_and, Bool.and_false, Bool.false_and, Tryd.f14, rD, mD]
  refine ⟨_, fun _ => rcheck_ok id n f m a, ?_, ?_⟩
  focus (first | exact fun _ => rfl | exact fun h0 => absurd h0 (by decide))
  simp only [go_sem, Nat.reduceEqDiff, ↓reduceIte, Bool.false_eq_true, Nat.reduceAdd, Nat.reduceSub, Nat.reduceBNe, Nat.reduceBEq, Nat.reduceLT, Nat.reduceLeDiff, Nat.reduceMul, Nat.zero_lt_succ, Nat.lt_add_one, Nat.zero_lt_one, Int.reduceToNat, false_implies, true_implies, or_self, or_false, false_or, or_true, true_or, Nat.add_le_add_iff_right, true_and, and_true, forall_const, implies_true, List.contains_cons, List.contains_nil, List.all_cons, List.all_nil, bne_self_eq_false, Option.isSome_none, Option.isSome_some, Bool.or_false, Bool.false_or, Bool.true_or, Bool.or_true, ne_eq, not_false_eq_true, not_true_eq_false, beq_self_eq_true, cond_true, cond_false, Prod.mk.injEq, and_self, reduceCtorEq, BEq.rfl, Bool.and_true, Bool.true_and, Bool.and_false, Bool.false_and]
  refine ⟨fun h => ?_, fun h => ?_⟩
  · have h' : checkR id n f m a ≠ 0 := by simpa using h
    simp only [totR, if_pos h']
  · have h' : checkR id n f m a = 0 := by simpa using h
    obtain ⟨v0, q1, ha⟩ := check0 h'
    subst q1
    obtain ⟨n1, n6, hr⟩ := valid0 v0
    have hres : totR id m f m a = sumF (fun i => a i * (f i).weight) m := by simp [totR, h']
    rw [h', hres]
    refine ⟨{ i : Nat // i ≤ m }, fun i => ([(8, .d (.int .i64 i)), (7, .d (.int .i64 (sumF (fun i => a i * (f i).weight) i))), (2, .ptr 0 0), (1, .d (.list 1 m fun i => .int .i64 (a i)))], [.box [.d (.int .i64 id), .d (.list 3 m fun i => tD (f i))]]), fun i => m - i, ⟨0, Nat.zero_le _⟩, ?_, ?_⟩
    · simp only [go_sem, Nat.reduceEqDiff, ↓reduceIte, Bool.false_eq_true, Nat.reduceAdd, Nat.reduceSub, Nat.reduceBNe, Nat.reduceBEq, Nat.reduceLT, Nat.reduceLeDiff, Nat.reduceMul, Nat.zero_lt_succ, Nat.lt_add_one, Nat.zero_lt_one, Int.reduceToNat, false_implies, true_implies, or_self, or_false, false_or, or_true, true_or, Nat.add_le_add_iff_right, true_and, and_true, forall_const, implies_true, List.contains_cons, List.contains_nil, List.all_cons, List.all_nil, bne_self_eq_false, Option.isSome_none, Option.isSome_some, Bool.or_false, Bool.false_or, Bool.true_or, Bool.or_true, ne_eq, not_false_eq_true, not_true_eq_false, beq_self_eq_true, cond_true, cond_false, Prod.mk.injEq, and_self, reduceCtorEq, BEq.rfl, Bool.and_true, Bool.true_and, Bool.and_false, Bool.false_and]
      exact ⟨rfl, rfl⟩
    · rintro ⟨i, hi⟩
      simp only [go_sem, Nat.reduceEqDiff, ↓reduceIte, Bool.false_eq_true, Nat.reduceAdd, Nat.reduceSub, Nat.reduceBNe, Nat.reduceBEq, Nat.reduceLT, Nat.reduceLeDiff, Nat.reduceMul, Nat.zero_lt_succ, Nat.lt_add_one, Nat.zero_lt_one, Int.reduceToNat, false_implies, true_implies, or_self, or_false, false_or, or_true, true_or, Nat.add_le_add_iff_right, true_and, and_true, forall_const, implies_true, List.contains_cons, List.contains_nil, List.all_cons, List.all_nil, bne_self_eq_false, Option.isSome_none, Option.isSome_some, Bool.or_false, Bool.false_or, Bool.true_or, Bool.or_true, ne_eq, not_false_eq_true, not_true_eq_false, beq_self_eq_true, cond_true, cond_false, Prod.mk.injEq, and_self, reduceCtorEq, BEq.rfl, Bool.and_true, Bool.true_and, Bool.and_false, Bool.false_and, decide_eq_true_eq, ze45]
      have hs := sum_le (x := fun i => a i * (f i).weight) (i := i) fun j hj => by
        obtain ⟨p1, p2⟩ := ha j (by omega)
        obtain ⟨p5, p6, p7, p8⟩ := hr j (by omega)
        exact mul_le (c := 10) (d := 10) p1 (by omega) (by omega) p8
      refine fun _ => ⟨fun hlt => ?_, fun hge => ?_⟩
      · obtain ⟨p1, p2⟩ := ha i (by omega)
        obtain ⟨p5, p6, p7, p8⟩ := hr i (by omega)
        have hx := mul_le (c := 10) (d := 10) p1 (by omega) (show 0 ≤ (f i).weight by omega) p8
        exact ⟨by omega, by omega, by omega, by omega, by omega, ⟨i + 1, by omega⟩, by simp only; omega, by simp, rfl⟩
      · have : i = m := by simp at hge; omega
        subst this
        rfl
theorem rmost_ok (id : Int) (n : Nat) (f : Nat → Tr) : FnD Tryd.prog 16 [.d (rD id n f)] [.int .i64 (mostR id n f), .int .i64 (validR id n f)] := by
  refine fnD_intro (H := { nt := Go.Func.ntmps Tryd.f16 }) Tryd.func16 rfl rfl rfl rfl (Nat.le_of_ble_eq_true rfl) (okC_tri (by kernel_rfl) _ _ _ _ (by kernel_rfl) ?_)
  simp only [go_sem, Nat.reduceEqDiff, ↓reduceIte, Bool.false_eq_true, Nat.reduceAdd, Nat.reduceSub, Nat.reduceBNe, Nat.reduceBEq, Nat.reduceLT, Nat.reduceLeDiff, Nat.reduceMul, Nat.zero_lt_succ, Nat.lt_add_one, Nat.zero_lt_one, Int.reduceToNat, false_implies, true_implies, or_self, or_false, false_or, or_true, true_or, Nat.add_le_add_iff_right, true_and, and_true, forall_const, implies_true, List.contains_cons, List.contains_nil, List.all_cons, List.all_nil, bne_self_eq_false, Option.isSome_none, Option.isSome_some, Bool.or_false, Bool.false_or, Bool.true_or, Bool.or_true, ne_eq, not_false_eq_true, not_true_eq_false, beq_self_eq_true, cond_true, cond_false, Prod.mk.injEq, and_self, reduceCtorEq, BEq.rfl, Bool.and_true, Bool.true_and, Bool.and_false, Bool.false_and, Tryd.f16, rD, mD]
  refine ⟨_, fun _ => rvalid_ok id n f, ?_, ?_⟩
  focus (first | exact fun _ => rfl | exact fun h0 => absurd h0 (by decide))
  simp only [go_sem, Nat.reduceEqDiff, ↓reduceIte, Bool.false_eq_true, Nat.reduceAdd, Nat.reduceSub, Nat.reduceBNe, Nat.reduceBEq, Nat.reduceLT, Nat.reduceLeDiff, Nat.reduceMul, Nat.zero_lt_succ, Nat.lt_add_one, Nat.zero_lt_one, Int.reduceToNat, false_implies, true_implies, or_self, or_false, false_or, or_true, true_or, Nat.add_le_add_iff_right, true_and, and_true, forall_const, implies_true, List.contains_cons, List.contains_nil, List.all_cons, List.all_nil, bne_self_eq_false, Option.isSome_none, Option.isSome_some, Bool.or_false, Bool.false_or, Bool.true_or, Bool.or_true, ne_eq, not_false_eq_true, not_true_eq_false, beq_self_eq_true, cond_true, cond_false, Prod.mk.injEq, and_self, reduceCtorEq, BEq.rfl, Bool.and_true, Bool.true_and, Bool.and_false, Bool.false_and]
  refine ⟨fun h => ?_, fun h => ?_⟩
  · have h' : validR id n f ≠ 0 := by simpa using h
    simp only [mostR, if_pos h']
  · have v0 : validR id n f = 0 := by simpa using h
    obtain ⟨n1, n6, hr⟩ := valid0 v0
    have hres : mostR id n f = sumF (fun i => (f i).most * (f i).weight) n := by simp [mostR, v0]
    rw [v0, hres]
    refine ⟨{ i : Nat // i ≤ n }, fun i => ([(6, .d (.int .i64 i)), (5, .d (.int .i64 (sumF (fun i => (f i).most * (f i).weight) i))), (1, .ptr 0 0)], [.box [.d (.int .i64 id), .d (.list 3 n fun i => tD (f i))]]), fun i => n - i, ⟨0, Nat.zero_le _⟩, ?_, ?_⟩
    · simp only [go_sem, Nat.reduceEqDiff, ↓reduceIte, Bool.false_eq_true, Nat.reduceAdd, Nat.reduceSub, Nat.reduceBNe, Nat.reduceBEq, Nat.reduceLT, Nat.reduceLeDiff, Nat.reduceMul, Nat.zero_lt_succ, Nat.lt_add_one, Nat.zero_lt_one, Int.reduceToNat, false_implies, true_implies, or_self, or_false, false_or, or_true, true_or, Nat.add_le_add_iff_right, true_and, and_true, forall_const, implies_true, List.contains_cons, List.contains_nil, List.all_cons, List.all_nil, bne_self_eq_false, Option.isSome_none, Option.isSome_some, Bool.or_false, Bool.false_or, Bool.true_or, Bool.or_true, ne_eq, not_false_eq_true, not_true_eq_false, beq_self_eq_true, cond_true, cond_false, Prod.mk.injEq, and_self, reduceCtorEq, BEq.rfl, Bool.and_true, Bool.true_and, Bool.and_false, Bool.false_and]
      exact ⟨rfl, rfl⟩
    · rintro ⟨i, hi⟩
      simp only [go_sem, Nat.reduceEqDiff, ↓reduceIte, Bool.false_eq_true, Nat.reduceAdd, Nat.reduceSub, Nat.reduceBNe, Nat.reduceBEq, Nat.reduceLT, Nat.reduceLeDiff, Nat.reduceMul, Nat.zero_lt_succ, Nat.lt_add_one, Nat.zero_lt_one, Int.reduceToNat, false_implies, true_implies, or_self, or_false, false_or, or_true, true_or, Nat.add_le_add_iff_right, true_and, and_true, forall_const, implies_true, List.contains_cons, List.contains_nil, List.all_cons, List.all_nil, bne_self_eq_false, Option.isSome_none, Option.isSome_some, Bool.or_false, Bool.false_or, Bool.true_or, Bool.or_true, ne_eq, not_false_eq_true, not_true_eq_false, beq_self_eq_true, cond_true, cond_false, Prod.mk.injEq, and_self, reduceCtorEq, BEq.rfl, Bool.and_true, Bool.true_and, Bool.and_false, Bool.false_and, decide_eq_true_eq, ze45]
      have hs := sum_le (x := fun i => (f i).most * (f i).weight) (i := i) fun j hj => by
        obtain ⟨p5, p6, p7, p8⟩ := hr j (by omega)
        exact mul_le (c := 10) (d := 10) (by omega) (by omega) (by omega) p8
      refine fun _ => ⟨fun hlt => ?_, fun hge => ?_⟩
      · obtain ⟨p5, p6, p7, p8⟩ := hr i (by omega)
        have hx := mul_le (c := 10) (d := 10) (show 0 ≤ (f i).most by omega) (by omega) (show 0 ≤ (f i).weight by omega) p8
        exact ⟨by omega, by omega, by omega, by omega, by omega, ⟨i + 1, by omega⟩, by simp only; omega, by simp, rfl⟩
      · have : i = n := by simp at hge; omega
        subst this
        rfl
/-! one number -/
def digit (b : ByteArray) (i : Nat) : Bool := !(bif decide ((bget b i : Int) < 48) then true else decide (57 < (bget b i : Int)))
def numBad (b : ByteArray) : Bool := bif bif decide ((b.size : Int) < 1) then true else decide (2 < (b.size : Int)) then true else bif (b.size : Int) == 2 then (bget b 0 : Int) == 48 else false
def numOk (b : ByteArray) : Bool := !numBad b && allN (digit b) b.size
def numF (b : ByteArray) : Nat → Int
  | 0 => 0
  | i + 1 => 10 * numF b i + ((bget b i : Int) - 48)
theorem numBad_two {b : ByteArray} (h : numBad b = false) : 1 ≤ b.size ∧ b.size ≤ 2 := by
  unfold numBad at h
  simp only [Bool.cond_eq_ite, Bool.if_true_left, Bool.or_eq_false_iff, decide_eq_false_iff_not, Bool.decide_eq_true] at h
  omega
theorem digit_b {b : ByteArray} {i : Nat} (h : digit b i = true) : 48 ≤ bget b i ∧ bget b i ≤ 57 := by
  unfold digit at h
  simp only [Bool.cond_eq_ite, Bool.if_true_left, Bool.not_eq_true', Bool.or_eq_false_iff, decide_eq_false_iff_not, Bool.decide_eq_true] at h
  omega
theorem wrap_i64 {x : Int} (h0 : 0 ≤ x) (h1 : x ≤ 1000) : IntKind.wrap .i64 x = x := by
  simp only [IntKind.wrap, IntKind.bits, IntKind.signed]
  simp
  omega
theorem numF_0 {b : ByteArray} : ∀ {i : Nat}, (∀ j, j < i → digit b j = true) → i ≤ 2 → 0 ≤ numF b i ∧ numF b i ≤ 99
  | 0, _, _ => by simp [numF]
  | 1, h, _ => by have := digit_b (h 0 (by omega)); simp only [numF]; omega
  | 2, h, _ => by have := digit_b (h 0 (by omega)); have := digit_b (h 1 (by omega)); simp only [numF]; omega
theorem number_ok (b : ByteArray) : FnD Tryd.prog 20 [.d (.str b)] [.int .i64 (if numOk b = true then numF b b.size else 0), .bool (numOk b)] := by
  refine fnD_intro (H := { nt := Go.Func.ntmps Tryd.f20 }) Tryd.func20 rfl rfl rfl rfl (Nat.le_of_ble_eq_true rfl) (okC_tri (by kernel_rfl) _ _ _ _ (by kernel_rfl) ?_)
  simp only [go_sem, Nat.reduceEqDiff, ↓reduceIte, Bool.false_eq_true, Nat.reduceAdd, Nat.reduceSub, Nat.reduceBNe, Nat.reduceBEq, Nat.reduceLT, Nat.reduceLeDiff, Nat.reduceMul, Nat.zero_lt_succ, Nat.lt_add_one, Nat.zero_lt_one, Int.reduceToNat, false_implies, true_implies, or_self, or_false, false_or, or_true, true_or, Nat.add_le_add_iff_right, true_and, and_true, forall_const, implies_true, List.contains_cons, List.contains_nil, List.all_cons, List.all_nil, bne_self_eq_false, Option.isSome_none, Option.isSome_some, Bool.or_false, Bool.false_or, Bool.true_or, Bool.or_true, ne_eq, not_false_eq_true, not_true_eq_false, beq_self_eq_true, cond_true, cond_false, Prod.mk.injEq, and_self, reduceCtorEq, BEq.rfl, Bool.and_true, Bool.true_and, Bool.and_false, Bool.false_and, Tryd.f20, decide_eq_true_eq]
  intro hf
  unfold fits at hf
  refine ⟨fun h => by simp at h; omega, fun h => ?_, fun h _ => ?_⟩
  · have : numOk b = false := by simp only [numOk, numBad, h]; rfl
    rw [this]; rfl
  · have hb : numBad b = false := h
    obtain ⟨s1, s2⟩ := numBad_two hb
    refine ⟨{ i : Nat // i ≤ b.size ∧ ∀ j, j < i → digit b j = true }, fun i => ([(28, .d (.int .i64 i)), (27, .d (.int .i64 b.size)), (26, .own 0 0 b.size), (4, .d (.int .i64 (numF b i))), (2, .d (.int .i64 0)), (3, .d (.bool false))], [.arr 5 1 b.size (fun i => .int .u8 (bget b i))]), fun i => b.size - i, ⟨0, Nat.zero_le _, fun j h => absurd h (by omega)⟩, ?_, ?_⟩
    · simp only [go_sem, Nat.reduceEqDiff, ↓reduceIte, Bool.false_eq_true, Nat.reduceAdd, Nat.reduceSub, Nat.reduceBNe, Nat.reduceBEq, Nat.reduceLT, Nat.reduceLeDiff, Nat.reduceMul, Nat.zero_lt_succ, Nat.lt_add_one, Nat.zero_lt_one, Int.reduceToNat, false_implies, true_implies, or_self, or_false, false_or, or_true, true_or, Nat.add_le_add_iff_right, true_and, and_true, forall_const, implies_true, List.contains_cons, List.contains_nil, List.all_cons, List.all_nil, bne_self_eq_false, Option.isSome_none, Option.isSome_some, Bool.or_false, Bool.false_or, Bool.true_or, Bool.or_true, ne_eq, not_false_eq_true, not_true_eq_false, beq_self_eq_true, cond_true, cond_false, Prod.mk.injEq, and_self, reduceCtorEq, BEq.rfl, Bool.and_true, Bool.true_and, Bool.and_false, Bool.false_and]
      exact ⟨rfl, rfl⟩
    · rintro ⟨i, hi, hok⟩
      simp only [go_sem, Nat.reduceEqDiff, ↓reduceIte, Bool.false_eq_true, Nat.reduceAdd, Nat.reduceSub, Nat.reduceBNe, Nat.reduceBEq, Nat.reduceLT, Nat.reduceLeDiff, Nat.reduceMul, Nat.zero_lt_succ, Nat.lt_add_one, Nat.zero_lt_one, Int.reduceToNat, false_implies, true_implies, or_self, or_false, false_or, or_true, true_or, Nat.add_le_add_iff_right, true_and, and_true, forall_const, implies_true, List.contains_cons, List.contains_nil, List.all_cons, List.all_nil, bne_self_eq_false, Option.isSome_none, Option.isSome_some, Bool.or_false, Bool.false_or, Bool.true_or, Bool.or_true, ne_eq, not_false_eq_true, not_true_eq_false, beq_self_eq_true, cond_true, cond_false, Prod.mk.injEq, and_self, reduceCtorEq, BEq.rfl, Bool.and_true, Bool.true_and, Bool.and_false, Bool.false_and, decide_eq_true_eq]
      refine ⟨fun hlt => ⟨by omega, by omega, fun hbad => ?_, fun hgood => ?_⟩, fun hge => ?_⟩
      · have hp : digit b i = false := by simp only [digit, hbad]; rfl
        have : numOk b = false := by simp [numOk, allN_no (show i < b.size by omega) hp]
        rw [this]; rfl
      · have hp : digit b i = true := by simp only [digit, hgood]; rfl
        have h9 := digit_b hp
        have h99 := numF_0 hok (by omega)
        rw [wrap_i64 (by omega) (by omega)]
        refine ⟨by omega, by omega, by omega, by omega, ⟨i + 1, by omega, fun j hj => ?_⟩, by simp only; omega, by simp, rfl⟩
        by_cases e : j = i
        · subst e; exact hp
        · exact hok j (by omega)
      · have : i = b.size := by simp at hge; omega
        subst this
        have : numOk b = true := by simp [numOk, hb, allN_yes hok]
        rw [this]; rfl
theorem bad_alt {b : ByteArray} : (bif bif decide ((b.size : Int) < 1) then true else decide (2 < (b.size : Int)) then true else bif (bget b 0 : Int) == 48 then decide (1 < (b.size : Int)) else false) = numBad b := by
  unfold numBad
  by_cases h1 : (b.size : Int) < 1
  · simp [h1]
  · by_cases h2 : 2 < (b.size : Int)
    · simp [h2]
    · simp only [h1, h2, decide_false, cond_false]
      by_cases h3 : (b.size : Int) = 2
      · simp only [h3]
        cases ((bget b 0 : Int) == 48) <;> rfl
      · have e1 : ((b.size : Int) == 2) = false := by simpa using h3
        have e2 : decide (1 < (b.size : Int)) = false := by simp; omega
        rw [e1, e2]
        cases ((bget b 0 : Int) == 48) <;> rfl
theorem mark_ok (b : ByteArray) : FnD Tryd.prog 21 [.d (.str b)] [.int .i64 (if numOk b = true then numF b b.size else -1)] := by
  refine fnD_intro (H := { nt := Go.Func.ntmps Tryd.f21 }) Tryd.func21 rfl rfl rfl rfl (Nat.le_of_ble_eq_true rfl) (okC_tri (by kernel_rfl) _ _ _ _ (by kernel_rfl) ?_)
  simp only [go_sem, Nat.reduceEqDiff, ↓reduceIte, Bool.false_eq_true, Nat.reduceAdd, Nat.reduceSub, Nat.reduceBNe, Nat.reduceBEq, Nat.reduceLT, Nat.reduceLeDiff, Nat.reduceMul, Nat.zero_lt_succ, Nat.lt_add_one, Nat.zero_lt_one, Int.reduceToNat, false_implies, true_implies, or_self, or_false, false_or, or_true, true_or, Nat.add_le_add_iff_right, true_and, and_true, forall_const, implies_true, List.contains_cons, List.contains_nil, List.all_cons, List.all_nil, bne_self_eq_false, Option.isSome_none, Option.isSome_some, Bool.or_false, Bool.false_or, Bool.true_or, Bool.or_true, ne_eq, not_false_eq_true, not_true_eq_false, beq_self_eq_true, cond_true, cond_false, Prod.mk.injEq, and_self, reduceCtorEq, BEq.rfl, Bool.and_true, Bool.true_and, Bool.and_false, Bool.false_and, Tryd.f21, decide_eq_true_eq, bad_alt]
  intro hf
  unfold fits at hf
  refine ⟨fun h => by simp at h; omega, fun h => ?_, fun hb => ?_⟩
  · have : numOk b = false := by simp only [numOk, h]; rfl
    rw [this]; rfl
  · obtain ⟨s1, s2⟩ := numBad_two hb
    refine ⟨{ i : Nat // i ≤ b.size ∧ ∀ j, j < i → digit b j = true }, fun i => ([(4, .d (.int .i64 i)), (3, .d (.int .i64 (numF b i))), (2, .d (.int .i64 0)), (0, .d (.str b))], []), fun i => b.size - i, ⟨0, Nat.zero_le _, fun j h => absurd h (by omega)⟩, ?_, ?_⟩
    · simp only [go_sem, Nat.reduceEqDiff, ↓reduceIte, Bool.false_eq_true, Nat.reduceAdd, Nat.reduceSub, Nat.reduceBNe, Nat.reduceBEq, Nat.reduceLT, Nat.reduceLeDiff, Nat.reduceMul, Nat.zero_lt_succ, Nat.lt_add_one, Nat.zero_lt_one, Int.reduceToNat, false_implies, true_implies, or_self, or_false, false_or, or_true, true_or, Nat.add_le_add_iff_right, true_and, and_true, forall_const, implies_true, List.contains_cons, List.contains_nil, List.all_cons, List.all_nil, bne_self_eq_false, Option.isSome_none, Option.isSome_some, Bool.or_false, Bool.false_or, Bool.true_or, Bool.or_true, ne_eq, not_false_eq_true, not_true_eq_false, beq_self_eq_true, cond_true, cond_false, Prod.mk.injEq, and_self, reduceCtorEq, BEq.rfl, Bool.and_true, Bool.true_and, Bool.and_false, Bool.false_and]
      exact ⟨rfl, rfl⟩
    · rintro ⟨i, hi, hok⟩
      simp only [go_sem, Nat.reduceEqDiff, ↓reduceIte, Bool.false_eq_true, Nat.reduceAdd, Nat.reduceSub, Nat.reduceBNe, Nat.reduceBEq, Nat.reduceLT, Nat.reduceLeDiff, Nat.reduceMul, Nat.zero_lt_succ, Nat.lt_add_one, Nat.zero_lt_one, Int.reduceToNat, false_implies, true_implies, or_self, or_false, false_or, or_true, true_or, Nat.add_le_add_iff_right, true_and, and_true, forall_const, implies_true, List.contains_cons, List.contains_nil, List.all_cons, List.all_nil, bne_self_eq_false, Option.isSome_none, Option.isSome_some, Bool.or_false, Bool.false_or, Bool.true_or, Bool.or_true, ne_eq, not_false_eq_true, not_true_eq_false, beq_self_eq_true, cond_true, cond_false, Prod.mk.injEq, and_self, reduceCtorEq, BEq.rfl, Bool.and_true, Bool.true_and, Bool.and_false, Bool.false_and, decide_eq_true_eq]
      refine fun _ => ⟨fun hlt => ⟨by omega, fun _ => by omega, fun hbad => ?_, fun hgood => ?_⟩, fun hge => ?_⟩
      · have hp : digit b i = false := by simp only [digit, hbad]; rfl
        have : numOk b = false := by simp [numOk, allN_no (show i < b.size by omega) hp]
        rw [this]; rfl
      · have hp : digit b i = true := by simp only [digit, hgood]; rfl
        have h9 := digit_b hp
        have h99 := numF_0 hok (by omega)
        rw [wrap_i64 (by omega) (by omega)]
        refine ⟨by omega, by omega, by omega, by omega, by omega, ⟨i + 1, by omega, fun j hj => ?_⟩, by simp only; omega, by simp, rfl⟩
        by_cases e : j = i
        · subst e; exact hp
        · exact hok j (by omega)
      · have : i = b.size := by simp at hge; omega
        subst this
        have : numOk b = true := by simp [numOk, hb, allN_yes hok]
        rw [this]; rfl
/-! the text of a number from 0 to 10 -/
def itoa (x : Int) : ByteArray := if x = 10 then ⟨#[49, 48]⟩ else ⟨#[UInt8.ofNat (48 + x.toNat)]⟩
theorem small_ok (x : Int) (h0 : 0 ≤ x) (h1 : x ≤ 10) : FnD Tryd.prog 44 [.d (.int .i64 x)] [.str (itoa x)] := by
  refine fnD_intro (H := { nt := Go.Func.ntmps Tryd.f44 }) Tryd.func44 rfl rfl rfl rfl (Nat.le_of_ble_eq_true rfl) (okC_tri (by kernel_rfl) _ _ _ _ (by kernel_rfl) ?_)
  simp only [go_sem, Nat.reduceEqDiff, ↓reduceIte, Bool.false_eq_true, Nat.reduceAdd, Nat.reduceSub, Nat.reduceBNe, Nat.reduceBEq, Nat.reduceLT, Nat.reduceLeDiff, Nat.reduceMul, Nat.zero_lt_succ, Nat.lt_add_one, Nat.zero_lt_one, Int.reduceToNat, false_implies, true_implies, or_self, or_false, false_or, or_true, true_or, Nat.add_le_add_iff_right, true_and, and_true, forall_const, implies_true, List.contains_cons, List.contains_nil, List.all_cons, List.all_nil, bne_self_eq_false, Option.isSome_none, Option.isSome_some, Bool.or_false, Bool.false_or, Bool.true_or, Bool.or_true, ne_eq, not_false_eq_true, not_true_eq_false, beq_self_eq_true, cond_true, cond_false, Prod.mk.injEq, and_self, reduceCtorEq, BEq.rfl, Bool.and_true, Bool.true_and, Bool.and_false, Bool.false_and, Tryd.f44, decide_eq_true_eq]
  have e1 : dig36.size = 36 := rfl
  have e2 : dig200.size = 200 := rfl
  obtain ⟨k, rfl⟩ := Int.eq_ofNat_of_zero_le h0
  have hk : k ≤ 10 := by omega
  refine ⟨fun hlt => ⟨by omega, by omega, ?_⟩, fun hge => ⟨by omega, by omega, by omega, by omega, ?_⟩⟩
  · match k, hlt with
    | 0, _ | 1, _ | 2, _ | 3, _ | 4, _ | 5, _ | 6, _ | 7, _ | 8, _ | 9, _ => rfl
    | k + 10, h => exact absurd h (by omega)
  · have : k = 10 := by simp at hge; omega
    subst this
    rfl
theorem format_ok (x : Int) (h0 : 0 ≤ x) (h1 : x ≤ 10) : FnD Tryd.prog 37 [.d (.int .i64 x), .d (.int .i64 10)] [.str (itoa x)] := by
  refine fnD_intro (H := { nt := Go.Func.ntmps Tryd.f37 }) Tryd.func37 rfl rfl rfl rfl (Nat.le_of_ble_eq_true rfl) (okC_tri (by kernel_rfl) _ _ _ _ (by kernel_rfl) ?_)
  simp only [go_sem, Nat.reduceEqDiff, ↓reduceIte, Bool.false_eq_true, Nat.reduceAdd, Nat.reduceSub, Nat.reduceBNe, Nat.reduceBEq, Nat.reduceLT, Nat.reduceLeDiff, Nat.reduceMul, Nat.zero_lt_succ, Nat.lt_add_one, Nat.zero_lt_one, Int.reduceToNat, false_implies, true_implies, or_self, or_false, false_or, or_true, true_or, Nat.add_le_add_iff_right, true_and, and_true, forall_const, implies_true, List.contains_cons, List.contains_nil, List.all_cons, List.all_nil, bne_self_eq_false, Option.isSome_none, Option.isSome_some, Bool.or_false, Bool.false_or, Bool.true_or, Bool.or_true, ne_eq, not_false_eq_true, not_true_eq_false, beq_self_eq_true, cond_true, cond_false, Prod.mk.injEq, and_self, reduceCtorEq, BEq.rfl, Bool.and_true, Bool.true_and, Bool.and_false, Bool.false_and, Tryd.f37, decide_eq_true_eq]
  refine ⟨fun _ => ?_, fun h => ?_⟩
  · refine ⟨_, fun _ => small_ok x h0 h1, ?_, ?_⟩
    focus (first | exact fun _ => rfl | exact fun h0 => absurd h0 (by decide))
    simp only [go_sem, Nat.reduceEqDiff, ↓reduceIte, Bool.false_eq_true, Nat.reduceAdd, Nat.reduceSub, Nat.reduceBNe, Nat.reduceBEq, Nat.reduceLT, Nat.reduceLeDiff, Nat.reduceMul, Nat.zero_lt_succ, Nat.lt_add_one, Nat.zero_lt_one, Int.reduceToNat, false_implies, true_implies, or_self, or_false, false_or, or_true, true_or, Nat.add_le_add_iff_right, true_and, and_true, forall_const, implies_true, List.contains_cons, List.contains_nil, List.all_cons, List.all_nil, bne_self_eq_false, Option.isSome_none, Option.isSome_some, Bool.or_false, Bool.false_or, Bool.true_or, Bool.or_true, ne_eq, not_false_eq_true, not_true_eq_false, beq_self_eq_true, cond_true, cond_false, Prod.mk.injEq, and_self, reduceCtorEq, BEq.rfl, Bool.and_true, Bool.true_and, Bool.and_false, Bool.false_and]
  · have a1 : decide (0 ≤ x) = true := by simpa using h0
    have a2 : decide (x < 100) = true := by simp; omega
    rw [a1, a2] at h
    cases h
theorem iitoa_ok (x : Int) (h0 : 0 ≤ x) (h1 : x ≤ 10) : FnD Tryd.prog 30 [.d (.int .i64 x)] [.str (itoa x)] := by
  refine fnD_intro (H := { nt := Go.Func.ntmps Tryd.f30 }) Tryd.func30 rfl rfl rfl rfl (Nat.le_of_ble_eq_true rfl) (okC_tri (by kernel_rfl) _ _ _ _ (by kernel_rfl) ?_)
  simp only [go_sem, Nat.reduceEqDiff, ↓reduceIte, Bool.false_eq_true, Nat.reduceAdd, Nat.reduceSub, Nat.reduceBNe, Nat.reduceBEq, Nat.reduceLT, Nat.reduceLeDiff, Nat.reduceMul, Nat.zero_lt_succ, Nat.lt_add_one, Nat.zero_lt_one, Int.reduceToNat, false_implies, true_implies, or_self, or_false, false_or, or_true, true_or, Nat.add_le_add_iff_right, true_and, and_true, forall_const, implies_true, List.contains_cons, List.contains_nil, List.all_cons, List.all_nil, bne_self_eq_false, Option.isSome_none, Option.isSome_some, Bool.or_false, Bool.false_or, Bool.true_or, Bool.or_true, ne_eq, not_false_eq_true, not_true_eq_false, beq_self_eq_true, cond_true, cond_false, Prod.mk.injEq, and_self, reduceCtorEq, BEq.rfl, Bool.and_true, Bool.true_and, Bool.and_false, Bool.false_and, Tryd.f30]
  refine ⟨_, fun _ => format_ok x h0 h1, ?_, ?_⟩
  focus (first | exact fun _ => rfl | exact fun h0 => absurd h0 (by decide))
  simp only [go_sem, Nat.reduceEqDiff, ↓reduceIte, Bool.false_eq_true, Nat.reduceAdd, Nat.reduceSub, Nat.reduceBNe, Nat.reduceBEq, Nat.reduceLT, Nat.reduceLeDiff, Nat.reduceMul, Nat.zero_lt_succ, Nat.lt_add_one, Nat.zero_lt_one, Int.reduceToNat, false_implies, true_implies, or_self, or_false, false_or, or_true, true_or, Nat.add_le_add_iff_right, true_and, and_true, forall_const, implies_true, List.contains_cons, List.contains_nil, List.all_cons, List.all_nil, bne_self_eq_false, Option.isSome_none, Option.isSome_some, Bool.or_false, Bool.false_or, Bool.true_or, Bool.or_true, ne_eq, not_false_eq_true, not_true_eq_false, beq_self_eq_true, cond_true, cond_false, Prod.mk.injEq, and_self, reduceCtorEq, BEq.rfl, Bool.and_true, Bool.true_and, Bool.and_false, Bool.false_and]
theorem itoa_ok (x : Int) (h0 : 0 ≤ x) (h1 : x ≤ 10) : FnD Tryd.prog 26 [.d (.int .i64 x)] [.str (itoa x)] := by
  refine fnD_intro (H := { nt := Go.Func.ntmps Tryd.f26 }) Tryd.func26 rfl rfl rfl rfl (Nat.le_of_ble_eq_true rfl) (okC_tri (by kernel_rfl) _ _ _ _ (by kernel_rfl) ?_)
  simp only [go_sem, Nat.reduceEqDiff, ↓reduceIte, Bool.false_eq_true, Nat.reduceAdd, Nat.reduceSub, Nat.reduceBNe, Nat.reduceBEq, Nat.reduceLT, Nat.reduceLeDiff, Nat.reduceMul, Nat.zero_lt_succ, Nat.lt_add_one, Nat.zero_lt_one, Int.reduceToNat, false_implies, true_implies, or_self, or_false, false_or, or_true, true_or, Nat.add_le_add_iff_right, true_and, and_true, forall_const, implies_true, List.contains_cons, List.contains_nil, List.all_cons, List.all_nil, bne_self_eq_false, Option.isSome_none, Option.isSome_some, Bool.or_false, Bool.false_or, Bool.true_or, Bool.or_true, ne_eq, not_false_eq_true, not_true_eq_false, beq_self_eq_true, cond_true, cond_false, Prod.mk.injEq, and_self, reduceCtorEq, BEq.rfl, Bool.and_true, Bool.true_and, Bool.and_false, Bool.false_and, Tryd.f26]
  refine ⟨_, fun _ => iitoa_ok x h0 h1, ?_, ?_⟩
  focus (first | exact fun _ => rfl | exact fun h0 => absurd h0 (by decide))
  simp only [go_sem, Nat.reduceEqDiff, ↓reduceIte, Bool.false_eq_true, Nat.reduceAdd, Nat.reduceSub, Nat.reduceBNe, Nat.reduceBEq, Nat.reduceLT, Nat.reduceLeDiff, Nat.reduceMul, Nat.zero_lt_succ, Nat.lt_add_one, Nat.zero_lt_one, Int.reduceToNat, false_implies, true_implies, or_self, or_false, false_or, or_true, true_or, Nat.add_le_add_iff_right, true_and, and_true, forall_const, implies_true, List.contains_cons, List.contains_nil, List.all_cons, List.all_nil, bne_self_eq_false, Option.isSome_none, Option.isSome_some, Bool.or_false, Bool.false_or, Bool.true_or, Bool.or_true, ne_eq, not_false_eq_true, not_true_eq_false, beq_self_eq_true, cond_true, cond_false, Prod.mk.injEq, and_self, reduceCtorEq, BEq.rfl, Bool.and_true, Bool.true_and, Bool.and_false, Bool.false_and]
end Go.Proofs.YtpfahanbkhgfhaaDoor.P41

/- Proved here: contracts of functions of this chapter: called with these values, each returns these values and changes nothing that was. Conditions: none but those that each theorem names. -/
import Derived.Test.YtpfahanbkhgfhaaDoorD41
set_option linter.unusedSimpArgs false
set_option linter.unusedVariables false
open Go Go.Proofs Go.Ev
namespace Go.Proofs.YtpfahanbkhgfhaaDoor.P41
set_option maxRecDepth 100000
/-- The first of the errors. -/
def firstE (e : Nat → Int) (n : Nat) : Int := match (List.range n).find? (fun i => e i != 0) with
  | some i => e i
  | none => 0
theorem first_hit {e : Nat → Int} {n i : Nat} (h : i < n) (h1 : ∀ j, j < i → e j = 0) (h2 : e i ≠ 0) : firstE e n = e i := by
  have : (List.range n).find? (fun i => e i != 0) = some i := by
    rw [List.find?_range_eq_some]
    exact ⟨by simpa using h2, by simpa using h, fun j hj => by simp [h1 j hj]⟩
  simp [firstE, this]
theorem first_none {e : Nat → Int} {n : Nat} (h1 : ∀ j, j < n → e j = 0) : firstE e n = 0 := by
  have : (List.range n).find? (fun i => e i != 0) = none := by
    rw [List.find?_eq_none]
    intro j hj
    simp [h1 j (by simpa using hj)]
  simp [firstE, this]
def badR (t : Tr) : Bool := bif bif bif decide (t.most < 1) then true else decide (10 < t.most) then true else decide (t.weight < 1) then true else decide (10 < t.weight)
def rowE (f : Nat → Tr) (i : Nat) : Int := if nameR (f i).name = false then 2 else if hasR (sameR f (f i)) i = true then 7 else if badR (f i) = true then 3 else 0
def validR (id : Int) (n : Nat) (f : Nat → Tr) : Int := if (bif decide (id < 1) then true else decide (9999999 < id)) = true then 3 else if 6 < n then 5 else if n = 0 then 20 else firstE (rowE f) n
theorem win_f (l n : Nat) (f : Nat → Tr) : win 0 l n (fun i => tD (f i)) = fun i => tD (if i < l then f (0 + i) else f n) := by
  funext i
  simp only [win]
  split <;> rfl
theorem hasR_congr {p q : Nat → Bool} {n : Nat} (h : ∀ j, j < n → p j = q j) : hasR p n = hasR q n := by
  have : ∀ l : List Nat, (∀ j ∈ l, p j = q j) → l.any p = l.any q := by
    intro l
    induction l with
    | nil => intro _; rfl
    | cons x l ih => intro hl; simp only [List.any_cons]; rw [hl x (by simp), ih fun j hj => hl j (by simp [hj])]
  exact this _ fun j hj => h j (by simpa using hj)
theorem hasR_yes {p : Nat → Bool} {n i : Nat} (h : i < n) (hp : p i = true) : hasR p n = true := List.any_eq_true.2 ⟨i, by simpa using h, hp⟩
theorem hasR_no {p : Nat → Bool} {n : Nat} (h : ∀ i, i < n → p i = false) : hasR p n = false := by
  rw [hasR, List.any_eq_false]
  intro i hi
  simp [h i (by simpa using hi)]
theorem valid_ok (id : Int) (n : Nat) (f : Nat → Tr) : FnD Tryd.prog 9 [.d (rD id n f)] [.int .i64 (validR id n f)] := by
  refine fnD_intro (H := { nt := Tryd.f9.ntmps }) Tryd.func9 rfl rfl rfl rfl (Nat.le_of_ble_eq_true rfl) (okC_tri (by kernel_rfl) _ _ _ _ (by kernel_rfl) ?_)
  simp only [go_sem, Nat.reduceEqDiff, ↓reduceIte, Bool.false_eq_true, Nat.reduceAdd, Nat.reduceSub, Nat.reduceBNe, Nat.reduceBEq, Nat.reduceLT, Nat.reduceLeDiff, Nat.reduceMul, Nat.zero_lt_succ, Nat.lt_add_one, Nat.zero_lt_one, Int.reduceToNat, false_implies, true_implies, or_self, or_false, false_or, or_true, true_or, Nat.add_le_add_iff_right, true_and, and_true, forall_const, implies_true, List.contains_cons, List.contains_nil, List.all_cons, List.all_nil, bne_self_eq_false, Option.isSome_none, Option.isSome_some, Bool.or_false, Bool.false_or, Bool.true_or, Bool.or_true, ne_eq, not_false_eq_true, not_true_eq_false, beq_self_eq_true, cond_true, cond_false, Prod.mk.injEq, and_self, reduceCtorEq, BEq.rfl, Bool.and_true, Bool.true_and, Bool.and_false, Bool.false_and, Tryd.f9, rD, decide_eq_true_eq]
  refine ⟨fun h => by simp only [validR, if_pos h], fun h hf => ⟨fun h6 => ?_, fun h6 _ => ⟨fun h0 => ?_, fun h0 _ => ?_⟩⟩⟩
  · simp [validR, h, show 6 < n by omega]
  · have : n = 0 := by simpa using h0
    simp [validR, h, this]
  · have h6' : ¬ 6 < n := by simp at h6; omega
    have h0' : n ≠ 0 := by simpa using h0
    have hv : validR id n f = firstE (rowE f) n := by simp only [validR, h, if_neg h6', if_neg h0']; rfl
    rw [hv]
    refine ⟨{ i : Nat // i ≤ n ∧ ∀ j, j < i → rowE f j = 0 }, fun i => ([(27, .d (.int .i64 i)), (26, .d (.int .i64 n)), (25, .d (.list 3 n fun i => tD (f i))), (1, .ptr 0 0), (2, .d (.int .i64 0))], [.box [.d (.int .i64 id), .d (.list 3 n fun i => tD (f i))]]), fun i => n - i, ⟨0, Nat.zero_le _, fun j h => absurd h (by omega)⟩, ?_, ?_⟩
    · simp only [go_sem, Nat.reduceEqDiff, ↓reduceIte, Bool.false_eq_true, Nat.reduceAdd, Nat.reduceSub, Nat.reduceBNe, Nat.reduceBEq, Nat.reduceLT, Nat.reduceLeDiff, Nat.reduceMul, Nat.zero_lt_succ, Nat.lt_add_one, Nat.zero_lt_one, Int.reduceToNat, false_implies, true_implies, or_self, or_false, false_or, or_true, true_or, Nat.add_le_add_iff_right, true_and, and_true, forall_const, implies_true, List.contains_cons, List.contains_nil, List.all_cons, List.all_nil, bne_self_eq_false, Option.isSome_none, Option.isSome_some, Bool.or_false, Bool.false_or, Bool.true_or, Bool.or_true, ne_eq, not_false_eq_true, not_true_eq_false, beq_self_eq_true, cond_true, cond_false, Prod.mk.injEq, and_self, reduceCtorEq, BEq.rfl, Bool.and_true, Bool.true_and, Bool.and_false, Bool.false_and]
      rfl
    · rintro ⟨i, hi, hok⟩
      simp only [go_sem, Nat.reduceEqDiff, ↓reduceIte, Bool.false_eq_true, Nat.reduceAdd, Nat.reduceSub, Nat.reduceBNe, Nat.reduceBEq, Nat.reduceLT, Nat.reduceLeDiff, Nat.reduceMul, Nat.zero_lt_succ, Nat.lt_add_one, Nat.zero_lt_one, Int.reduceToNat, false_implies, true_implies, or_self, or_false, false_or, or_true, true_or, Nat.add_le_add_iff_right, true_and, and_true, forall_const, implies_true, List.contains_cons, List.contains_nil, List.all_cons, List.all_nil, bne_self_eq_false, Option.isSome_none, Option.isSome_some, Bool.or_false, Bool.false_or, Bool.true_or, Bool.or_true, ne_eq, not_false_eq_true, not_true_eq_false, beq_self_eq_true, cond_true, cond_false, Prod.mk.injEq, and_self, reduceCtorEq, BEq.rfl, Bool.and_true, Bool.true_and, Bool.and_false, Bool.false_and, decide_eq_true_eq, ze45]
      refine ⟨fun hlt => ⟨by omega, ?_⟩, fun hge => ?_⟩
      · refine ⟨_, fun _ => name_ok (f i).name, ?_, ?_⟩
        focus (first | exact fun _ => rfl | exact fun h0 => absurd h0 (by decide))
        simp only [go_sem, Nat.reduceEqDiff, ↓reduceIte, Bool.false_eq_true, Nat.reduceAdd, Nat.reduceSub, Nat.reduceBNe, Nat.reduceBEq, Nat.reduceLT, Nat.reduceLeDiff, Nat.reduceMul, Nat.zero_lt_succ, Nat.lt_add_one, Nat.zero_lt_one, Int.reduceToNat, false_implies, true_implies, or_self, or_false, false_or, or_true, true_or, Nat.add_le_add_iff_right, true_and, and_true, forall_const, implies_true, List.contains_cons, List.contains_nil, List.all_cons, List.all_nil, bne_self_eq_false, Option.isSome_none, Option.isSome_some, Bool.or_false, Bool.false_or, Bool.true_or, Bool.or_true, ne_eq, not_false_eq_true, not_true_eq_false, beq_self_eq_true, cond_true, cond_false, Prod.mk.injEq, and_self, reduceCtorEq, BEq.rfl, Bool.and_true, Bool.true_and, Bool.and_false, Bool.false_and]
        refine ⟨fun hn => ?_, fun hn => ⟨by omega, ?_⟩⟩
        · have : rowE f i = 2 := by simp only [rowE, if_pos (show nameR (f i).name = false by simpa using hn)]
          rw [first_hit (show i < n by omega) hok (by rw [this]; decide), this]
        · simp only [Nat.sub_zero, win_f, Int.toNat_zero]
          refine ⟨_, fun _ => contains_ok i _ (f i), ?_, ?_⟩
          focus (first | exact fun _ => rfl | exact fun h0 => absurd h0 (by decide))
          simp only [go_sem, Nat.reduceEqDiff, ↓reduceIte, Bool.false_eq_true, Nat.reduceAdd, Nat.reduceSub, Nat.reduceBNe, Nat.reduceBEq, Nat.reduceLT, Nat.reduceLeDiff, Nat.reduceMul, Nat.zero_lt_succ, Nat.lt_add_one, Nat.zero_lt_one, Int.reduceToNat, false_implies, true_implies, or_self, or_false, false_or, or_true, true_or, Nat.add_le_add_iff_right, true_and, and_true, forall_const, implies_true, List.contains_cons, List.contains_nil, List.all_cons, List.all_nil, bne_self_eq_false, Option.isSome_none, Option.isSome_some, Bool.or_false, Bool.false_or, Bool.true_or, Bool.or_true, ne_eq, not_false_eq_true, not_true_eq_false, beq_self_eq_true, cond_true, cond_false, Prod.mk.injEq, and_self, reduceCtorEq, BEq.rfl, Bool.and_true, Bool.true_and, Bool.and_false, Bool.false_and]
          have hh : hasR (sameR (fun k => if k < i then f k else f n) (f i)) i = hasR (sameR f (f i)) i := hasR_congr fun j hj => by simp only [sameR, if_pos hj]
          rw [hh]
          have hn' : ¬ nameR (f i).name = false := by simpa using hn
          refine ⟨fun hs => ?_, fun hs => ⟨fun hb => ?_, fun hb => ⟨by constructor <;> omega, ⟨i + 1, by omega, fun j hj => ?_⟩, by simp only; omega, by simp⟩⟩⟩
          · have : rowE f i = 7 := by simp only [rowE, if_neg hn', if_pos hs]
            rw [first_hit (show i < n by omega) hok (by rw [this]; decide), this]
          · have : rowE f i = 3 := by simp only [rowE, if_neg hn', hs, badR, hb]; rfl
            rw [first_hit (show i < n by omega) hok (by rw [this]; decide), this]
          · by_cases e : j = i
            · subst e
              simp only [rowE, if_neg hn', hs, badR, hb]
              rfl
            · exact hok j (by omega)
      · have : i = n := by simp at hge; omega
        subst this
        rw [first_none hok]
theorem rvalid_ok (id : Int) (n : Nat) (f : Nat → Tr) : FnD Tryd.prog 10 [.d (rD id n f)] [.int .i64 (validR id n f)] := by
  refine fnD_intro (H := { nt := Go.Func.ntmps Tryd.f10 }) Tryd.func10 rfl rfl rfl rfl (Nat.le_of_ble_eq_true rfl) (okC_tri (by kernel_rfl) _ _ _ _ (by kernel_rfl) ?_)
  simp only [go_sem, Nat.reduceEqDiff, ↓reduceIte, Bool.false_eq_true, Nat.reduceAdd, Nat.reduceSub, Nat.reduceBNe, Nat.reduceBEq, Nat.reduceLT, Nat.reduceLeDiff, Nat.reduceMul, Nat.zero_lt_succ, Nat.lt_add_one, Nat.zero_lt_one, Int.reduceToNat, false_implies, true_implies, or_self, or_false, false_or, or_true, true_or, Nat.add_le_add_iff_right, true_and, and_true, forall_const, implies_true, List.contains_cons, List.contains_nil, List.all_cons, List.all_nil, bne_self_eq_false, Option.isSome_none, Option.isSome_some, Bool.or_false, Bool.false_or, Bool.true_or, Bool.or_true, ne_eq, not_false_eq_true, not_true_eq_false, beq_self_eq_true, cond_true, cond_false, Prod.mk.injEq, and_self, reduceCtorEq, BEq.rfl, Bool.and_true, Bool.true_and, Bool.and_false, Bool.false_and, Tryd.f10, rD, decide_eq_true_eq]
  refine ⟨fun h => by simp only [validR, if_pos h], fun h hf => ⟨fun h6 => ?_, fun h6 _ => ⟨fun h0 => ?_, fun h0 => ?_⟩⟩⟩
  · simp [validR, h, show 6 < n by omega]
  · have : n = 0 := by simpa using h0
    simp [validR, h, this]
  · have h6' : ¬ 6 < n := by simp at h6; omega
    have h0' : n ≠ 0 := by simpa using h0
    have hv : validR id n f = firstE (rowE f) n := by simp only [validR, h, if_neg h6', if_neg h0']; rfl
    rw [hv]
    refine ⟨{ i : Nat // i ≤ n ∧ ∀ j, j < i → rowE f j = 0 }, fun i => ([(3, .d (.int .i64 i)), (1, .ptr 0 0), (2, .d (.int .i64 0))], [.box [.d (.int .i64 id), .d (.list 3 n fun i => tD (f i))]]), fun i => n - i, ⟨0, Nat.zero_le _, fun j h => absurd h (by omega)⟩, ?_, ?_⟩
    · simp only [go_sem, Nat.reduceEqDiff, ↓reduceIte, Bool.false_eq_true, Nat.reduceAdd, Nat.reduceSub, Nat.reduceBNe, Nat.reduceBEq, Nat.reduceLT, Nat.reduceLeDiff, Nat.reduceMul, Nat.zero_lt_succ, Nat.lt_add_one, Nat.zero_lt_one, Int.reduceToNat, false_implies, true_implies, or_self, or_false, false_or, or_true, true_or, Nat.add_le_add_iff_right, true_and, and_true, forall_const, implies_true, List.contains_cons, List.contains_nil, List.all_cons, List.all_nil, bne_self_eq_false, Option.isSome_none, Option.isSome_some, Bool.or_false, Bool.false_or, Bool.true_or, Bool.or_true, ne_eq, not_false_eq_true, not_true_eq_false, beq_self_eq_true, cond_true, cond_false, Prod.mk.injEq, and_self, reduceCtorEq, BEq.rfl, Bool.and_true, Bool.true_and, Bool.and_false, Bool.false_and]
      rfl
    · rintro ⟨i, hi, hok⟩
      simp only [go_sem, Nat.reduceEqDiff, ↓reduceIte, Bool.false_eq_true, Nat.reduceAdd, Nat.reduceSub, Nat.reduceBNe, Nat.reduceBEq, Nat.reduceLT, Nat.reduceLeDiff, Nat.reduceMul, Nat.zero_lt_succ, Nat.lt_add_one, Nat.zero_lt_one, Int.reduceToNat, false_implies, true_implies, or_self, or_false, false_or, or_true, true_or, Nat.add_le_add_iff_right, true_and, and_true, forall_const, implies_true, List.contains_cons, List.contains_nil, List.all_cons, List.all_nil, bne_self_eq_false, Option.isSome_none, Option.isSome_some, Bool.or_false, Bool.false_or, Bool.true_or, Bool.or_true, ne_eq, not_false_eq_true, not_true_eq_false, beq_self_eq_true, cond_true, cond_false, Prod.mk.injEq, and_self, reduceCtorEq, BEq.rfl, Bool.and_true, Bool.true_and, Bool.and_false, Bool.false_and, decide_eq_true_eq, ze45]
      refine fun _ => ⟨fun hlt => ⟨by omega, ?_⟩, fun hge => ?_⟩
      · refine ⟨_, fun _ => letters_ok (f i).name, ?_, ?_⟩
        focus (first | exact fun _ => rfl | exact fun h0 => absurd h0 (by decide))
        simp only [go_sem, Nat.reduceEqDiff, ↓reduceIte, Bool.false_eq_true, Nat.reduceAdd, Nat.reduceSub, Nat.reduceBNe, Nat.reduceBEq, Nat.reduceLT, Nat.reduceLeDiff, Nat.reduceMul, Nat.zero_lt_succ, Nat.lt_add_one, Nat.zero_lt_one, Int.reduceToNat, false_implies, true_implies, or_self, or_false, false_or, or_true, true_or, Nat.add_le_add_iff_right, true_and, and_true, forall_const, implies_true, List.contains_cons, List.contains_nil, List.all_cons, List.all_nil, bne_self_eq_false, Option.isSome_none, Option.isSome_some, Bool.or_false, Bool.false_or, Bool.true_or, Bool.or_true, ne_eq, not_false_eq_true, not_true_eq_false, beq_self_eq_true, cond_true, cond_false, Prod.mk.injEq, and_self, reduceCtorEq, BEq.rfl, Bool.and_true, Bool.true_and, Bool.and_false, Bool.false_and]
        refine ⟨fun hn => ?_, fun hn => ?_⟩
        · have : rowE f i = 2 := by simp only [rowE, if_pos (show nameR (f i).name = false by simpa using hn)]
          rw [first_hit (show i < n by omega) hok (by rw [this]; decide), this]
        · have hn' : ¬ nameR (f i).name = false := by simpa using hn
          refine ⟨{ j : Nat // j ≤ i ∧ ∀ k, k < j → sameR f (f i) k = false }, fun j => ([(5, .d (.int .i64 j)), (3, .d (.int .i64 i)), (4, .ptr 1 0), (1, .ptr 0 0), (2, .d (.int .i64 0))], [.box [.d (.int .i64 id), .d (.list 3 n fun i => tD (f i))], .box [.d (.str (f i).name), .d (.int .i64 (f i).most), .d (.int .i64 (f i).weight)]]), fun j => i - j, ⟨0, Nat.zero_le _, fun j h => absurd h (by omega)⟩, ?_, ?_⟩
          · simp only [go_sem, Nat.reduceEqDiff, ↓reduceIte, Bool.false_eq_true, Nat.reduceAdd, Nat.reduceSub, Nat.reduceBNe, Nat.reduceBEq, Nat.reduceLT, Nat.reduceLeDiff, Nat.reduceMul, Nat.zero_lt_succ, Nat.lt_add_one, Nat.zero_lt_one, Int.reduceToNat, false_implies, true_implies, or_self, or_false, false_or, or_true, true_or, Nat.add_le_add_iff_right, true_and, and_true, forall_const, implies_true, List.contains_cons, List.contains_nil, List.all_cons, List.all_nil, bne_self_eq_false, Option.isSome_none, Option.isSome_some, Bool.or_false, Bool.false_or, Bool.true_or, Bool.or_true, ne_eq, not_false_eq_true, not_true_eq_false, beq_self_eq_true, cond_true, cond_false, Prod.mk.injEq, and_self, reduceCtorEq, BEq.rfl, Bool.and_true, Bool.true_and, Bool.and_false, Bool.false_and]
            rfl
          · rintro ⟨j, hj, hjk⟩
            simp only [go_sem, Nat.reduceEqDiff, ↓reduceIte, Bool.false_eq_true, Nat.reduceAdd, Nat.reduceSub, Nat.reduceBNe, Nat.reduceBEq, Nat.reduceLT, Nat.reduceLeDiff, Nat.reduceMul, Nat.zero_lt_succ, Nat.lt_add_one, Nat.zero_lt_one, Int.reduceToNat, false_implies, true_implies, or_self, or_false, false_or, or_true, true_or, Nat.add_le_add_iff_right, true_and, and_true, forall_const, implies_true, List.contains_cons, List.contains_nil, List.all_cons, List.all_nil, bne_self_eq_false, Option.isSome_none, Option.isSome_some, Bool.or_false, Bool.false_or, Bool.true_or, Bool.or_true, ne_eq, not_false_eq_true, not_true_eq_false, beq_self_eq_true, cond_true, cond_false, Prod.mk.injEq, and_self, reduceCtorEq, BEq.rfl, Bool.and_true, Bool.true_and, Bool.and_false, Bool.false_and, decide_eq_true_eq]
            refine ⟨fun hjl => ⟨by omega, fun hs => ?_, fun hs => ⟨by constructor <;> omega, ⟨j + 1, by omega, fun k hk => ?_⟩, by simp only; omega, by simp⟩⟩, fun hjl => ?_⟩
            · have hh : hasR (sameR f (f i)) i = true := hasR_yes (show j < i by omega) hs
              have : rowE f i = 7 := by simp only [rowE, if_neg hn', if_pos hh]
              rw [first_hit (show i < n by omega) hok (by rw [this]; decide), this]
            · by_cases e : k = j
              · subst e; exact hs
              · exact hjk k (by omega)
            · have hji : j = i := by simp at hjl; omega
              subst hji
              have hh : hasR (sameR f (f j)) j = false := hasR_no hjk
              refine ⟨fun hb => ?_, fun hb => ⟨by constructor <;> omega, ⟨j + 1, by omega, fun k hk => ?_⟩, by simp only; omega, by simp⟩⟩
              · have : rowE f j = 3 := by simp only [rowE, if_neg hn', hh, badR, hb]; rfl
                rw [first_hit (show j < n by omega) hok (by rw [this]; decide), this]
              · by_cases e : k = j
                · subst e
                  simp only [rowE, if_neg hn', hh, badR, hb]
                  rfl
                · exact hok k (by omega)
      · have : i = n := by simp at hge; omega
        subst this
        rw [first_none hok]
/-! Check -/
def markE (f : Nat → Tr) (a : Nat → Int) (i : Nat) : Int := if (bif decide (a i < 0) then true else decide ((f i).most < a i)) = true then 3 else 0
def checkR (id : Int) (n : Nat) (f : Nat → Tr) (m : Nat) (a : Nat → Int) : Int := if validR id n f ≠ 0 then validR id n f else if m ≠ n then 1 else firstE (markE f a) m
theorem check_ok (id : Int) (n : Nat) (f : Nat → Tr) (m : Nat) (a : Nat → Int) : FnD Tryd.prog 11 [.d (rD id n f), .d (mD m a)] [.int .i64 (checkR id n f m a)] := by
  refine fnD_intro (H := { nt := Go.Func.ntmps Tryd.f11 }) Tryd.func11 rfl rfl rfl rfl (Nat.le_of_ble_eq_true rfl) (okC_tri (by kernel_rfl) _ _ _ _ (by kernel_rfl) ?_)
  simp only [go_sem, Nat.reduceEqDiff, ↓reduceIte, Bool.false_eq_true, Nat.reduceAdd, Nat.reduceSub, Nat.reduceBNe, Nat.reduceBEq, Nat.reduceLT, Nat.reduceLeDiff, Nat.reduceMul, Nat.zero_lt_succ, Nat.lt_add_one, Nat.zero_lt_one, Int.reduceToNat, false_implies, true_implies, or_self, or_false, false_or, or_true, true_or, Nat.add_le_add_iff_right, true_and, and_true, forall_const, implies_true, List.contains_cons, List.contains_nil, List.all_cons, List.all_nil, bne_self_eq_false, Option.isSome_none, Option.isSome_some, Bool.or_false, Bool.false_or, Bool.true_or, Bool.or_true, ne_eq, not_false_eq_true, not_true_eq_false, beq_self_eq_true, cond_true, cond_false, Prod.mk.injEq, and_self, reduceCtorEq, BEq.rfl, Bool.and_true, Bool.true_and, Bool.and_false, Bool.false_and, Tryd.f11, rD, mD]
  refine ⟨_, fun _ => valid_ok id n f, ?_, ?_⟩
  focus (first | exact fun _ => rfl | exact fun h0 => absurd h0 (by decide))
  simp only [go_sem, Nat.reduceEqDiff, ↓reduceIte, Bool.false_eq_true, Nat.reduceAdd, Nat.reduceSub, Nat.reduceBNe, Nat.reduceBEq, Nat.reduceLT, Nat.reduceLeDiff, Nat.reduceMul, Nat.zero_lt_succ, Nat.lt_add_one, Nat.zero_lt_one, Int.reduceToNat, false_implies, true_implies, or_self, or_false, false_or, or_true, true_or, Nat.add_le_add_iff_right, true_and, and_true, forall_const, implies_true, List.contains_cons, List.contains_nil, List.all_cons, List.all_nil, bne_self_eq_false, Option.isSome_none, Option.isSome_some, Bool.or_false, Bool.false_or, Bool.true_or, Bool.or_true, ne_eq, not_false_eq_true, not_true_eq_false, beq_self_eq_true, cond_true, cond_false, Prod.mk.injEq, and_self, reduceCtorEq, BEq.rfl, Bool.and_true, Bool.true_and, Bool.and_false, Bool.false_and]
  refine ⟨fun h => ?_, fun h => ?_⟩
  · have h' : validR id n f ≠ 0 := by simpa using h
    simp only [checkR, if_pos h']
  · have h' : ¬ validR id n f ≠ 0 := by simpa using h
    intro hm hn
    unfold fits at hm hn
    refine ⟨fun h1 => ?_, fun h1 => ?_⟩
    · have h2 : m ≠ n := fun e => by subst e; simp at h1
      simp only [checkR, if_neg h', if_pos h2]
    · have h2 : n = m := by simp at h1; omega
      subst h2
      have hv : checkR id n f n a = firstE (markE f a) n := by simp [checkR, h']
      rw [hv]
      intro _
      refine ⟨{ i : Nat // i ≤ n ∧ ∀ j, j < i → markE f a j = 0 }, fun i => ([(21, .d (.int .i64 i)), (20, .d (.int .i64 n)), (19, .d (.list 1 n fun i => .int .i64 (a i))), (2, .ptr 0 0), (4, .d (.int .i64 0))], [.box [.d (.int .i64 id), .d (.list 3 n fun i => tD (f i))]]), fun i => n - i, ⟨0, Nat.zero_le _, fun j h => absurd h (by omega)⟩, ?_, ?_⟩
      · simp only [go_sem, Nat.reduceEqDiff, ↓reduceIte, Bool.false_eq_true, Nat.reduceAdd, Nat.reduceSub, Nat.reduceBNe, Nat.reduceBEq, Nat.reduceLT, Nat.reduceLeDiff, Nat.reduceMul, Nat.zero_lt_succ, Nat.lt_add_one, Nat.zero_lt_one, Int.reduceToNat, false_implies, true_implies, or_self, or_false, false_or, or_true, true_or, Nat.add_le_add_iff_right, true_and, and_true, forall_const, implies_true, List.contains_cons, List.contains_nil, List.all_cons, List.all_nil, bne_self_eq_false, Option.isSome_none, Option.isSome_some, Bool.or_false, Bool.false_or, Bool.true_or, Bool.or_true, ne_eq, not_false_eq_true, not_true_eq_false, beq_self_eq_true, cond_true, cond_false, Prod.mk.injEq, and_self, reduceCtorEq, BEq.rfl, Bool.and_true, Bool.true_and, Bool.and_false, Bool.false_and]
        rfl
      · rintro ⟨i, hi, hok⟩
        simp only [go_sem, Nat.reduceEqDiff, ↓reduceIte, Bool.false_eq_true, Nat.reduceAdd, Nat.reduceSub, Nat.reduceBNe, Nat.reduceBEq, Nat.reduceLT, Nat.reduceLeDiff, Nat.reduceMul, Nat.zero_lt_succ, Nat.lt_add_one, Nat.zero_lt_one, Int.reduceToNat, false_implies, true_implies, or_self, or_false, false_or, or_true, true_or, Nat.add_le_add_iff_right, true_and, and_true, forall_const, implies_true, List.contains_cons, List.contains_nil, List.all_cons, List.all_nil, bne_self_eq_false, Option.isSome_none, Option.isSome_some, Bool.or_false, Bool.false_or, Bool.true_or, Bool.or_true, ne_eq, not_false_eq_true, not_true_eq_false, beq_self_eq_true, cond_true, cond_false, Prod.mk.injEq, and_self, reduceCtorEq, BEq.rfl, Bool.and_true, Bool.true_and, Bool.and_false, Bool.false_and, decide_eq_true_eq]
        refine ⟨fun hlt => ⟨by omega, fun _ => by omega, fun hb => ?_, fun hb => ⟨by constructor <;> omega, ⟨i + 1, by omega, fun k hk => ?_⟩, by simp only; omega, by simp⟩⟩, fun hge => ?_⟩
        · have : markE f a i = 3 := by simp only [markE, if_pos hb]
          rw [first_hit (show i < n by omega) hok (by rw [this]; decide), this]
        · by_cases e : k = i
          · subst e
            simp [markE, hb]
          · exact hok k (by omega)
        · have : i = n := by simp at hge; omega
          subst this
          rw [first_none hok]
theorem rcheck_ok (id : Int) (n : Nat) (f : Nat → Tr) (m : Nat) (a : Nat → Int) : FnD Tryd.prog 12 [.d (rD id n f), .d (mD m a)] [.int .i64 (checkR id n f m a)] := by
  refine fnD_intro (H := { nt := Go.Func.ntmps Tryd.f12 }) Tryd.func12 rfl rfl rfl rfl (Nat.le_of_ble_eq_true rfl) (okC_tri (by kernel_rfl) _ _ _ _ (by kernel_rfl) ?_)
  simp only [go_sem, Nat.reduceEqDiff, ↓reduceIte, Bool.false_eq_true, Nat.reduceAdd, Nat.reduceSub, Nat.reduceBNe, Nat.reduceBEq, Nat.reduceLT, Nat.reduceLeDiff, Nat.reduceMul, Nat.zero_lt_succ, Nat.lt_add_one, Nat.zero_lt_one, Int.reduceToNat, false_implies, true_implies, or_self, or_false, false_or, or_true, true_or, Nat.add_le_add_iff_right, true_and, and_true, forall_const, implies_true, List.contains_cons, List.contains_nil, List.all_cons, List.all_nil, bne_self_eq_false, Option.isSome_none, Option.isSome_some, Bool.or_false, Bool.false_or, Bool.true_or, Bool.or_true, ne_eq, not_false_eq_true, not_true_eq_false, beq_self_eq_true, cond_true, cond_false, Prod.mk.injEq, and_self, reduceCtorEq, BEq.rfl, Bool.and_true, Bool.true_and, Bool.and_false, Bool.false_and, Tryd.f12, rD, mD]
  refine ⟨_, fun _ => rvalid_ok id n f, ?_, ?_⟩
  focus (first | exact fun _ => rfl | exact fun h0 => absurd h0 (by decide))
  simp only [go_sem, Nat.reduceEqDiff, ↓reduceIte, Bool.false_eq_true, Nat.reduceAdd, Nat.reduceSub, Nat.reduceBNe, Nat.reduceBEq, Nat.reduceLT, Nat.reduceLeDiff, Nat.reduceMul, Nat.zero_lt_succ, Nat.lt_add_one, Nat.zero_lt_one, Int.reduceToNat, false_implies, true_implies, or_self, or_false, false_or, or_true, true_or, Nat.add_le_add_iff_right, true_and, and_true, forall_const, implies_true, List.contains_cons, List.contains_nil, List.all_cons, List.all_nil, bne_self_eq_false, Option.isSome_none, Option.isSome_some, Bool.or_false, Bool.false_or, Bool.true_or, Bool.or_true, ne_eq, not_false_eq_true, not_true_eq_false, beq_self_eq_true, cond_true, cond_false, Prod.mk.injEq, and_self, reduceCtorEq, BEq.rfl, Bool.and_true, Bool.true_and, Bool.and_false, Bool.false_and]
  refine ⟨fun h => ?_, fun h => ?_⟩
  · have h' : validR id n f ≠ 0 := by simpa using h
    simp only [checkR, if_pos h']
  · have h' : ¬ validR id n f ≠ 0 := by simpa using h
    intro hm hn
    unfold fits at hm hn
    refine ⟨fun h1 => ?_, fun h1 => ?_⟩
    · have h2 : m ≠ n := fun e => by subst e; simp at h1
      simp only [checkR, if_neg h', if_pos h2]
    · have h2 : n = m := by simp at h1; omega
      subst h2
      have hv : checkR id n f n a = firstE (markE f a) n := by simp [checkR, h']
      rw [hv]
      skip
      refine ⟨{ i : Nat // i ≤ n ∧ ∀ j, j < i → markE f a j = 0 }, fun i => ([(6, .d (.int .i64 i)), (1, .d (.list 1 n fun i => .int .i64 (a i))), (2, .ptr 0 0), (4, .d (.int .i64 0))], [.box [.d (.int .i64 id), .d (.list 3 n fun i => tD (f i))]]), fun i => n - i, ⟨0, Nat.zero_le _, fun j h => absurd h (by omega)⟩, ?_, ?_⟩
      · simp only [go_sem, Nat.reduceEqDiff, ↓reduceIte, Bool.false_eq_true, Nat.reduceAdd, Nat.reduceSub, Nat.reduceBNe, Nat.reduceBEq, Nat.reduceLT, Nat.reduceLeDiff, Nat.reduceMul, Nat.zero_lt_succ, Nat.lt_add_one, Nat.zero_lt_one, Int.reduceToNat, false_implies, true_implies, or_self, or_false, false_or, or_true, true_or, Nat.add_le_add_iff_right, true_and, and_true, forall_const, implies_true, List.contains_cons, List.contains_nil, List.all_cons, List.all_nil, bne_self_eq_false, Option.isSome_none, Option.isSome_some, Bool.or_false, Bool.false_or, Bool.true_or, Bool.or_true, ne_eq, not_false_eq_true, not_true_eq_false, beq_self_eq_true, cond_true, cond_false, Prod.mk.injEq, and_self, reduceCtorEq, BEq.rfl, Bool.and_true, Bool.true_and, Bool.and_false, Bool.false_and]
        rfl
      · rintro ⟨i, hi, hok⟩
        simp only [go_sem, Nat.reduceEqDiff, ↓reduceIte, Bool.false_eq_true, Nat.reduceAdd, Nat.reduceSub, Nat.reduceBNe, Nat.reduceBEq, Nat.reduceLT, Nat.reduceLeDiff, Nat.reduceMul, Nat.zero_lt_succ, Nat.lt_add_one, Nat.zero_lt_one, Int.reduceToNat, false_implies, true_implies, or_self, or_false, false_or, or_true, true_or, Nat.add_le_add_iff_right, true_and, and_true, forall_const, implies_true, List.contains_cons, List.contains_nil, List.all_cons, List.all_nil, bne_self_eq_false, Option.isSome_none, Option.isSome_some, Bool.or_false, Bool.false_or, Bool.true_or, Bool.or_true, ne_eq, not_false_eq_true, not_true_eq_false, beq_self_eq_true, cond_true, cond_false, Prod.mk.injEq, and_self, reduceCtorEq, BEq.rfl, Bool.and_true, Bool.true_and, Bool.and_false, Bool.false_and, decide_eq_true_eq]
        intro _
        refine ⟨fun hlt => ⟨by omega, fun _ => by omega, fun _ => by omega, fun hb => ?_, fun hb => ⟨by constructor <;> omega, ⟨i + 1, by omega, fun k hk => ?_⟩, by simp only; omega, by simp⟩⟩, fun hge => ?_⟩
        · have : markE f a i = 3 := by simp only [markE, if_pos hb]
          rw [first_hit (show i < n by omega) hok (by rw [this]; decide), this]
        · by_cases e : k = i
          · subst e
            simp [markE, hb]
          · exact hok k (by omega)
        · have : i = n := by simp at hge; omega
          subst this
          rw [first_none hok]
/-! lists of marks -/
def sameM (m : Nat) (a : Nat → Int) (k : Nat) (b : Nat → Int) : Bool := (m == k) && allN (fun i => a i == b i) m
theorem ints_ok (m : Nat) (a : Nat → Int) (k : Nat) (b : Nat → Int) : FnD Tryd.prog 8 [.d (mD m a), .d (mD k b)] [.bool (sameM m a k b)] := by
  refine fnD_intro (H := { nt := Go.Func.ntmps Tryd.f8 }) Tryd.func8 rfl rfl rfl rfl (Nat.le_of_ble_eq_true rfl) (okC_tri (by kernel_rfl) _ _ _ _ (by kernel_rfl) ?_)
  simp only [go_sem, Nat.reduceEqDiff, ↓reduceIte, Bool.false_eq_true, Nat.reduceAdd, Nat.reduceSub, Nat.reduceBNe, Nat.reduceBEq, Nat.reduceLT, Nat.reduceLeDiff, Nat.reduceMul, Nat.zero_lt_succ, Nat.lt_add_one, Nat.zero_lt_one, Int.reduceToNat, false_implies, true_implies, or_self, or_false, false_or, or_true, true_or, Nat.add_le_add_iff_right, true_and, and_true, forall_const, implies_true, List.contains_cons, List.contains_nil, List.all_cons, List.all_nil, bne_self_eq_false, Option.isSome_none, Option.isSome_some, Bool.or_false, Bool.false_or, Bool.true_or, Bool.or_true, ne_eq, not_false_eq_true, not_true_eq_false, beq_self_eq_true, cond_true, cond_false, Prod.mk.injEq, and_self, reduceCtorEq, BEq.rfl, Bool.and_true, Bool.true_and, Bool.and_false, Bool.false_and, Tryd.f8, mD]
  intro hm hk
  unfold fits at hm hk
  refine ⟨fun h => ?_, fun h => ?_⟩
  · have : m ≠ k := fun e => by subst e; simp at h
    simp [sameM, this]
  · have : m = k := by simp at h; omega
    subst this
    refine ⟨{ i : Nat // i ≤ m ∧ ∀ j, j < i → (a j == b j) = true }, fun i => ([(5, .d (.int .i64 i)), (0, .d (.list 1 m fun i => .int .i64 (a i))), (1, .d (.list 1 m fun i => .int .i64 (b i))), (4, .d (.bool false))], []), fun i => m - i, ⟨0, Nat.zero_le _, fun j h => absurd h (by omega)⟩, ?_, ?_⟩
    · simp only [go_sem, Nat.reduceEqDiff, ↓reduceIte, Bool.false_eq_true, Nat.reduceAdd, Nat.reduceSub, Nat.reduceBNe, Nat.reduceBEq, Nat.reduceLT, Nat.reduceLeDiff, Nat.reduceMul, Nat.zero_lt_succ, Nat.lt_add_one, Nat.zero_lt_one, Int.reduceToNat, false_implies, true_implies, or_self, or_false, false_or, or_true, true_or, Nat.add_le_add_iff_right, true_and, and_true, forall_const, implies_true, List.contains_cons, List.contains_nil, List.all_cons, List.all_nil, bne_self_eq_false, Option.isSome_none, Option.isSome_some, Bool.or_false, Bool.false_or, Bool.true_or, Bool.or_true, ne_eq, not_false_eq_true, not_true_eq_false, beq_self_eq_true, cond_true, cond_false, Prod.mk.injEq, and_self, reduceCtorEq, BEq.rfl, Bool.and_true, Bool.true_and, Bool.and_false, Bool.false_and]
      rfl
    · rintro ⟨i, hi, hok⟩
      simp only [go_sem, Nat.reduceEqDiff, ↓reduceIte, Bool.false_eq_true, Nat.reduceAdd, Nat.reduceSub, Nat.reduceBNe, Nat.reduceBEq, Nat.reduceLT, Nat.reduceLeDiff, Nat.reduceMul, Nat.zero_lt_succ, Nat.lt_add_one, Nat.zero_lt_one, Int.reduceToNat, false_implies, true_implies, or_self, or_false, false_or, or_true, true_or, Nat.add_le_add_iff_right, true_and, and_true, forall_const, implies_true, List.contains_cons, List.contains_nil, List.all_cons, List.all_nil, bne_self_eq_false, Option.isSome_none, Option.isSome_some, Bool.or_false, Bool.false_or, Bool.true_or, Bool.or_true, ne_eq, not_false_eq_true, not_true_eq_false, beq_self_eq_true, cond_true, cond_false, Prod.mk.injEq, and_self, reduceCtorEq, BEq.rfl, Bool.and_true, Bool.true_and, Bool.and_false, Bool.false_and, decide_eq_true_eq]
      intro _
      refine ⟨fun hlt => ⟨by omega, by omega, fun hb => ?_, fun hb => ⟨by constructor <;> omega, ⟨i + 1, by omega, fun k hk => ?_⟩, by simp only; omega, by simp⟩⟩, fun hge => ?_⟩
      · have hp : (a i == b i) = false := by simpa using hb
        simp [sameM, allN_no (p := fun i => a i == b i) (show i < m by omega) hp]
      · by_cases e : k = i
        · subst e; simpa using hb
        · exact hok k (by omega)
      · have : i = m := by simp at hge; omega
        subst this
        simp [sameM, allN_yes (p := fun i => a i == b i) hok]
end Go.Proofs.YtpfahanbkhgfhaaDoor.P41

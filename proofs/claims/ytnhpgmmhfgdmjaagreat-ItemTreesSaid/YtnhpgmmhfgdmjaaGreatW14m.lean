/- Proved here: contracts of functions of this chapter: called with these values, each returns these values and changes nothing that was. Conditions: none but those that each theorem names. -/
import Derived.Test.YtnhpgmmhfgdmjaaGreatW14k
set_option linter.unusedVariables false
set_option linter.unusedSimpArgs false
open Go Go.Proofs Go.Ev
namespace Go.Proofs.YtnhpgmmhfgdmjaaGreat.P14
set_option maxRecDepth 100000
/-- The nodes of an item's fields. -/
def encL (t : It) : List Nd := [.leaf 1 1 t.id ⟨#[]⟩, .leaf 2 1 t.version ⟨#[]⟩, .leaf 3 1 t.kind ⟨#[]⟩, .leaf 4 2 0 t.stem, .mk 5 3 0 ⟨#[]⟩ t.nOpt (fun i => .leaf 0 2 0 (t.opt i)), .mk 6 3 0 ⟨#[]⟩ t.nCh (fun i => .leaf 0 1 (t.ch i) ⟨#[]⟩), .leaf 7 1 t.value ⟨#[]⟩, .leaf 8 1 t.tol ⟨#[]⟩, .mk 9 3 0 ⟨#[]⟩ t.nTx (fun i => .leaf 0 2 0 (t.tx i)), .leaf 10 1 t.points ⟨#[]⟩, .leaf 11 2 0 t.content, .leaf 12 1 t.family ⟨#[]⟩, .leaf 13 1 t.group ⟨#[]⟩, .leaf 14 1 t.words ⟨#[]⟩, .leaf 15 1 t.seconds ⟨#[]⟩, .mk 16 3 0 ⟨#[]⟩ t.nAs (fun i => .leaf 0 1 (t.ass i) ⟨#[]⟩), .leaf 17 1 t.rubric ⟨#[]⟩]
def encN (t : It) : Nat → Nd := fun i => (encL t).getD i default
def encR (t : It) : DV := bif validR t != 0 then .agg [.int .i64 0, .int .i64 0, .int .i64 0, .str ⟨#[]⟩, .nil] else .agg [.int .i64 14, .int .i64 3, .int .i64 0, .str ⟨#[]⟩, .list 5 17 fun i => (encN t i).D]
theorem bif0 {b : Bool} {k x : Int} (hk : k ≠ 0) (h : (bif b then k else x) = 0) : b = false ∧ x = 0 := by
  cases b with
  | true => exact absurd h hk
  | false => exact ⟨rfl, h⟩
theorem allN_at {p : Nat → Bool} {n : Nat} (h : allN p n = true) {i : Nat} (hi : i < n) : p i = true := by
  rw [allN, List.all_eq_true] at h
  exact h i (by simpa using hi)
theorem riR_le {n : Nat} {a : Nat → Int} {lo hi : Int} (h : riR n a lo hi = true) : ∀ i, i < n → lo + i ≤ a i ∧ a i ≤ hi := by
  have hb : ∀ i, i < n → (lo ≤ a i ∧ a i ≤ hi) ∧ (0 < i → a (i - 1) < a i) := fun i hi' => by
    have := allN_at h hi'
    simp only [riB] at this
    cases e : inR (a i) lo hi with
    | false => simp [e] at this
    | true =>
      refine ⟨inR_of e, fun h0 => ?_⟩
      simpa [e, h0] using this
  intro i
  induction i with
  | zero => intro hi'; have := (hb 0 hi').1; exact ⟨by omega, this.2⟩
  | succ i ih =>
    intro hi'
    have h1 := ih (by omega)
    have h2 := hb (i + 1) hi'
    have h3 := h2.2 (by omega)
    simp only [Nat.add_sub_cancel] at h3
    exact ⟨by omega, h2.1.2⟩
theorem riR_len {n : Nat} {a : Nat → Int} {lo hi : Int} (h : riR n a lo hi = true) (h0 : 0 < n) : (n : Int) ≤ hi - lo + 1 := by
  have := riR_le h (n - 1) (by omega)
  omega
structure ValidP (t : It) : Prop where
  num : numR t = true
  kind : inR t.kind 1 6 = true
  str : strR t = true
  long : longR t = false
  fit : fitR t = true
  ris : riR t.nAs t.ass 1 9999999 = true
theorem valid_parts {t : It} (h : validR t = 0) : ValidP t := by
  unfold validR at h
  obtain ⟨h1, h⟩ := bif0 (by decide) h
  obtain ⟨h2, h⟩ := bif0 (by decide) h
  obtain ⟨h3, h⟩ := bif0 (by decide) h
  obtain ⟨h4, h⟩ := bif0 (by decide) h
  obtain ⟨h5, h⟩ := bif0 (by decide) h
  obtain ⟨h6, h⟩ := bif0 (by decide) h
  exact ⟨by simpa using h1, by simpa using h2, by simpa using h3, h4, by simpa using h5, by simpa using h6⟩
theorem long_le {t : It} (h : longR t = false) : t.nOpt ≤ 10 ∧ t.nTx ≤ 10 ∧ t.nAs ≤ 8 := by
  unfold longR at h
  cases h1 : decide (10 < (t.nOpt : Int)) <;> cases h2 : decide (10 < (t.nTx : Int)) <;> simp [h1, h2] at h
  simp at h1 h2
  omega
theorem fit_ch {t : It} (h : fitR t = true) (hk : inR t.kind 1 6 = true) (ho : t.nOpt ≤ 10) : t.nCh ≤ 10 := by
  unfold fitR at h
  cases f1 : fit1 t with
  | true => simp [f1] at h
  | false =>
  cases f2 : fit2 t with
  | true => simp [f1, f2] at h
  | false =>
  simp only [f1, f2, cond_false] at h
  have hk' := inR_of hk
  by_cases k1 : t.kind = 1
  · simp [k1] at h; omega
  by_cases k2 : t.kind = 2
  · simp [k2] at h
    have := riR_len h.2 (by omega)
    omega
  by_cases k3 : t.kind = 3
  · simp [k3] at h; omega
  unfold fit1 at f1
  simp [k1, k2, k3] at f1
  omega
theorem valid_len {t : It} (h : validR t = 0) : t.nOpt ≤ 1000 ∧ t.nCh ≤ 1000 ∧ t.nTx ≤ 1000 ∧ t.nAs ≤ 1000 := by
  have hp := valid_parts h
  have h1 := long_le hp.long
  have h2 := fit_ch hp.fit hp.kind h1.1
  omega
theorem encN_ok (t : It) (h : t.nOpt ≤ 1000 ∧ t.nCh ≤ 1000 ∧ t.nTx ≤ 1000 ∧ t.nAs ≤ 1000) (i : Nat) : (encN t i).ok := by
  rcases i with _|_|_|_|_|_|_|_|_|_|_|_|_|_|_|_|_|i
  case succ.succ.succ.succ.zero => exact ⟨by omega, fun _ _ => trivial⟩
  case succ.succ.succ.succ.succ.zero => exact ⟨by omega, fun _ _ => trivial⟩
  case succ.succ.succ.succ.succ.succ.succ.succ.zero => exact ⟨by omega, fun _ _ => trivial⟩
  case succ.succ.succ.succ.succ.succ.succ.succ.succ.succ.succ.succ.succ.succ.succ.zero => exact ⟨by omega, fun _ _ => trivial⟩
  all_goals trivial
set_option maxHeartbeats 2000000 in
theorem encode_ok (t : It) (hn : t.nCh * 8 ≤ 140737488351232) : FnD Tryz.prog 4 [.d (iD t)] [encR t, .int .i64 (validR t)] := by
  refine fnD_intro (H := { nt := Go.Func.ntmps Tryz.f4, qs := [(5, 63)], fx := [16] }) Tryz.func4 rfl rfl rfl rfl (Nat.le_of_ble_eq_true rfl) (okC_tri (by kernel_rfl) _ _ _ _ (by kernel_rfl) ?_)
  simp only [go_sem, Nat.reduceEqDiff, ↓reduceIte, Bool.false_eq_true, Nat.reduceAdd, Nat.reduceSub, Nat.reduceBNe, Nat.reduceBEq, Nat.reduceLT, Nat.reduceLeDiff, Nat.reduceMul, Nat.zero_lt_succ, Nat.lt_add_one, Nat.zero_lt_one, Int.reduceToNat, false_implies, true_implies, or_self, or_false, false_or, or_true, true_or, Nat.add_le_add_iff_right, true_and, and_true, forall_const, implies_true, List.contains_cons, List.contains_nil, List.all_cons, List.all_nil, bne_self_eq_false, Option.isSome_none, Option.isSome_some, Bool.or_false, Bool.false_or, Bool.true_or, Bool.or_true, ne_eq, not_false_eq_true, not_true_eq_false, beq_self_eq_true, cond_true, cond_false, Prod.mk.injEq, and_self, reduceCtorEq, BEq.rfl, Bool.and_true, Bool.true_and, Bool.and_false, Bool.false_and, Tryz.f4, List.append_eq]
  refine ⟨_, fun _ => valid_ok t hn, ?_, ?_⟩
  focus (first | exact fun _ => rfl | exact fun h0 => absurd h0 (by decide))
  simp only [go_sem, Nat.reduceEqDiff, ↓reduceIte, Bool.false_eq_true, Nat.reduceAdd, Nat.reduceSub, Nat.reduceBNe, Nat.reduceBEq, Nat.reduceLT, Nat.reduceLeDiff, Nat.reduceMul, Nat.zero_lt_succ, Nat.lt_add_one, Nat.zero_lt_one, Int.reduceToNat, false_implies, true_implies, or_self, or_false, false_or, or_true, true_or, Nat.add_le_add_iff_right, true_and, and_true, forall_const, implies_true, List.contains_cons, List.contains_nil, List.all_cons, List.all_nil, bne_self_eq_false, Option.isSome_none, Option.isSome_some, Bool.or_false, Bool.false_or, Bool.true_or, Bool.or_true, ne_eq, not_false_eq_true, not_true_eq_false, beq_self_eq_true, cond_true, cond_false, Prod.mk.injEq, and_self, reduceCtorEq, BEq.rfl, Bool.and_true, Bool.true_and, Bool.and_false, Bool.false_and]
  refine ⟨fun h => ?_, fun h => ?_⟩
  · simp only [encR, h, cond_true]
  · have hz : validR t = 0 := by simpa using h
    have hlen := valid_len hz
    refine ⟨_, fun _ => number_ok 1 t.id, ?_, ?_⟩
    focus (first | exact fun _ => rfl | exact fun h0 => absurd h0 (by decide))
    simp only [go_sem, Nat.reduceEqDiff, ↓reduceIte, Bool.false_eq_true, Nat.reduceAdd, Nat.reduceSub, Nat.reduceBNe, Nat.reduceBEq, Nat.reduceLT, Nat.reduceLeDiff, Nat.reduceMul, Nat.zero_lt_succ, Nat.lt_add_one, Nat.zero_lt_one, Int.reduceToNat, false_implies, true_implies, or_self, or_false, false_or, or_true, true_or, Nat.add_le_add_iff_right, true_and, and_true, forall_const, implies_true, List.contains_cons, List.contains_nil, List.all_cons, List.all_nil, bne_self_eq_false, Option.isSome_none, Option.isSome_some, Bool.or_false, Bool.false_or, Bool.true_or, Bool.or_true, ne_eq, not_false_eq_true, not_true_eq_false, beq_self_eq_true, cond_true, cond_false, Prod.mk.injEq, and_self, reduceCtorEq, BEq.rfl, Bool.and_true, Bool.true_and, Bool.and_false, Bool.false_and]
    refine ⟨_, fun _ => number_ok 2 t.version, ?_, ?_⟩
    focus (first | exact fun _ => rfl | exact fun h0 => absurd h0 (by decide))
    simp only [go_sem, Nat.reduceEqDiff, ↓reduceIte, Bool.false_eq_true, Nat.reduceAdd, Nat.reduceSub, Nat.reduceBNe, Nat.reduceBEq, Nat.reduceLT, Nat.reduceLeDiff, Nat.reduceMul, Nat.zero_lt_succ, Nat.lt_add_one, Nat.zero_lt_one, Int.reduceToNat, false_implies, true_implies, or_self, or_false, false_or, or_true, true_or, Nat.add_le_add_iff_right, true_and, and_true, forall_const, implies_true, List.contains_cons, List.contains_nil, List.all_cons, List.all_nil, bne_self_eq_false, Option.isSome_none, Option.isSome_some, Bool.or_false, Bool.false_or, Bool.true_or, Bool.or_true, ne_eq, not_false_eq_true, not_true_eq_false, beq_self_eq_true, cond_true, cond_false, Prod.mk.injEq, and_self, reduceCtorEq, BEq.rfl, Bool.and_true, Bool.true_and, Bool.and_false, Bool.false_and]
    refine ⟨_, fun _ => number_ok 3 t.kind, ?_, ?_⟩
    focus (first | exact fun _ => rfl | exact fun h0 => absurd h0 (by decide))
    simp only [go_sem, Nat.reduceEqDiff, ↓reduceIte, Bool.false_eq_true, Nat.reduceAdd, Nat.reduceSub, Nat.reduceBNe, Nat.reduceBEq, Nat.reduceLT, Nat.reduceLeDiff, Nat.reduceMul, Nat.zero_lt_succ, Nat.lt_add_one, Nat.zero_lt_one, Int.reduceToNat, false_implies, true_implies, or_self, or_false, false_or, or_true, true_or, Nat.add_le_add_iff_right, true_and, and_true, forall_const, implies_true, List.contains_cons, List.contains_nil, List.all_cons, List.all_nil, bne_self_eq_false, Option.isSome_none, Option.isSome_some, Bool.or_false, Bool.false_or, Bool.true_or, Bool.or_true, ne_eq, not_false_eq_true, not_true_eq_false, beq_self_eq_true, cond_true, cond_false, Prod.mk.injEq, and_self, reduceCtorEq, BEq.rfl, Bool.and_true, Bool.true_and, Bool.and_false, Bool.false_and]
    refine ⟨_, fun _ => codecString_ok 4 t.stem, ?_, ?_⟩
    focus (first | exact fun _ => rfl | exact fun h0 => absurd h0 (by decide))
    simp only [go_sem, Nat.reduceEqDiff, ↓reduceIte, Bool.false_eq_true, Nat.reduceAdd, Nat.reduceSub, Nat.reduceBNe, Nat.reduceBEq, Nat.reduceLT, Nat.reduceLeDiff, Nat.reduceMul, Nat.zero_lt_succ, Nat.lt_add_one, Nat.zero_lt_one, Int.reduceToNat, false_implies, true_implies, or_self, or_false, false_or, or_true, true_or, Nat.add_le_add_iff_right, true_and, and_true, forall_const, implies_true, List.contains_cons, List.contains_nil, List.all_cons, List.all_nil, bne_self_eq_false, Option.isSome_none, Option.isSome_some, Bool.or_false, Bool.false_or, Bool.true_or, Bool.or_true, ne_eq, not_false_eq_true, not_true_eq_false, beq_self_eq_true, cond_true, cond_false, Prod.mk.injEq, and_self, reduceCtorEq, BEq.rfl, Bool.and_true, Bool.true_and, Bool.and_false, Bool.false_and]
    refine ⟨_, fun _ => stringList_ok 5 t.nOpt t.opt hlen.1, ?_, ?_⟩
    focus (first | exact fun _ => rfl | exact fun h0 => absurd h0 (by decide))
    simp only [go_sem, Nat.reduceEqDiff, ↓reduceIte, Bool.false_eq_true, Nat.reduceAdd, Nat.reduceSub, Nat.reduceBNe, Nat.reduceBEq, Nat.reduceLT, Nat.reduceLeDiff, Nat.reduceMul, Nat.zero_lt_succ, Nat.lt_add_one, Nat.zero_lt_one, Int.reduceToNat, false_implies, true_implies, or_self, or_false, false_or, or_true, true_or, Nat.add_le_add_iff_right, true_and, and_true, forall_const, implies_true, List.contains_cons, List.contains_nil, List.all_cons, List.all_nil, bne_self_eq_false, Option.isSome_none, Option.isSome_some, Bool.or_false, Bool.false_or, Bool.true_or, Bool.or_true, ne_eq, not_false_eq_true, not_true_eq_false, beq_self_eq_true, cond_true, cond_false, Prod.mk.injEq, and_self, reduceCtorEq, BEq.rfl, Bool.and_true, Bool.true_and, Bool.and_false, Bool.false_and]
    refine ⟨_, fun _ => numberList_ok 6 t.nCh t.ch hlen.2.1, ?_, ?_⟩
    focus (first | exact fun _ => rfl | exact fun h0 => absurd h0 (by decide))
    simp only [go_sem, Nat.reduceEqDiff, ↓reduceIte, Bool.false_eq_true, Nat.reduceAdd, Nat.reduceSub, Nat.reduceBNe, Nat.reduceBEq, Nat.reduceLT, Nat.reduceLeDiff, Nat.reduceMul, Nat.zero_lt_succ, Nat.lt_add_one, Nat.zero_lt_one, Int.reduceToNat, false_implies, true_implies, or_self, or_false, false_or, or_true, true_or, Nat.add_le_add_iff_right, true_and, and_true, forall_const, implies_true, List.contains_cons, List.contains_nil, List.all_cons, List.all_nil, bne_self_eq_false, Option.isSome_none, Option.isSome_some, Bool.or_false, Bool.false_or, Bool.true_or, Bool.or_true, ne_eq, not_false_eq_true, not_true_eq_false, beq_self_eq_true, cond_true, cond_false, Prod.mk.injEq, and_self, reduceCtorEq, BEq.rfl, Bool.and_true, Bool.true_and, Bool.and_false, Bool.false_and]
    refine ⟨_, fun _ => number_ok 7 t.value, ?_, ?_⟩
    focus (first | exact fun _ => rfl | exact fun h0 => absurd h0 (by decide))
    simp only [go_sem, Nat.reduceEqDiff, ↓reduceIte, Bool.false_eq_true, Nat.reduceAdd, Nat.reduceSub, Nat.reduceBNe, Nat.reduceBEq, Nat.reduceLT, Nat.reduceLeDiff, Nat.reduceMul, Nat.zero_lt_succ, Nat.lt_add_one, Nat.zero_lt_one, Int.reduceToNat, false_implies, true_implies, or_self, or_false, false_or, or_true, true_or, Nat.add_le_add_iff_right, true_and, and_true, forall_const, implies_true, List.contains_cons, List.contains_nil, List.all_cons, List.all_nil, bne_self_eq_false, Option.isSome_none, Option.isSome_some, Bool.or_false, Bool.false_or, Bool.true_or, Bool.or_true, ne_eq, not_false_eq_true, not_true_eq_false, beq_self_eq_true, cond_true, cond_false, Prod.mk.injEq, and_self, reduceCtorEq, BEq.rfl, Bool.and_true, Bool.true_and, Bool.and_false, Bool.false_and]
    refine ⟨_, fun _ => number_ok 8 t.tol, ?_, ?_⟩
    focus (first | exact fun _ => rfl | exact fun h0 => absurd h0 (by decide))
    simp only [go_sem, Nat.reduceEqDiff, ↓reduceIte, Bool.false_eq_true, Nat.reduceAdd, Nat.reduceSub, Nat.reduceBNe, Nat.reduceBEq, Nat.reduceLT, Nat.reduceLeDiff, Nat.reduceMul, Nat.zero_lt_succ, Nat.lt_add_one, Nat.zero_lt_one, Int.reduceToNat, false_implies, true_implies, or_self, or_false, false_or, or_true, true_or, Nat.add_le_add_iff_right, true_and, and_true, forall_const, implies_true, List.contains_cons, List.contains_nil, List.all_cons, List.all_nil, bne_self_eq_false, Option.isSome_none, Option.isSome_some, Bool.or_false, Bool.false_or, Bool.true_or, Bool.or_true, ne_eq, not_false_eq_true, not_true_eq_false, beq_self_eq_true, cond_true, cond_false, Prod.mk.injEq, and_self, reduceCtorEq, BEq.rfl, Bool.and_true, Bool.true_and, Bool.and_false, Bool.false_and]
    refine ⟨_, fun _ => stringList_ok 9 t.nTx t.tx hlen.2.2.1, ?_, ?_⟩
    focus (first | exact fun _ => rfl | exact fun h0 => absurd h0 (by decide))
    simp only [go_sem, Nat.reduceEqDiff, ↓reduceIte, Bool.false_eq_true, Nat.reduceAdd, Nat.reduceSub, Nat.reduceBNe, Nat.reduceBEq, Nat.reduceLT, Nat.reduceLeDiff, Nat.reduceMul, Nat.zero_lt_succ, Nat.lt_add_one, Nat.zero_lt_one, Int.reduceToNat, false_implies, true_implies, or_self, or_false, false_or, or_true, true_or, Nat.add_le_add_iff_right, true_and, and_true, forall_const, implies_true, List.contains_cons, List.contains_nil, List.all_cons, List.all_nil, bne_self_eq_false, Option.isSome_none, Option.isSome_some, Bool.or_false, Bool.false_or, Bool.true_or, Bool.or_true, ne_eq, not_false_eq_true, not_true_eq_false, beq_self_eq_true, cond_true, cond_false, Prod.mk.injEq, and_self, reduceCtorEq, BEq.rfl, Bool.and_true, Bool.true_and, Bool.and_false, Bool.false_and]
    refine ⟨_, fun _ => number_ok 10 t.points, ?_, ?_⟩
    focus (first | exact fun _ => rfl | exact fun h0 => absurd h0 (by decide))
    simp only [go_sem, Nat.reduceEqDiff, ↓reduceIte, Bool.false_eq_true, Nat.reduceAdd, Nat.reduceSub, Nat.reduceBNe, Nat.reduceBEq, Nat.reduceLT, Nat.reduceLeDiff, Nat.reduceMul, Nat.zero_lt_succ, Nat.lt_add_one, Nat.zero_lt_one, Int.reduceToNat, false_implies, true_implies, or_self, or_false, false_or, or_true, true_or, Nat.add_le_add_iff_right, true_and, and_true, forall_const, implies_true, List.contains_cons, List.contains_nil, List.all_cons, List.all_nil, bne_self_eq_false, Option.isSome_none, Option.isSome_some, Bool.or_false, Bool.false_or, Bool.true_or, Bool.or_true, ne_eq, not_false_eq_true, not_true_eq_false, beq_self_eq_true, cond_true, cond_false, Prod.mk.injEq, and_self, reduceCtorEq, BEq.rfl, Bool.and_true, Bool.true_and, Bool.and_false, Bool.false_and]
    refine ⟨_, fun _ => codecString_ok 11 t.content, ?_, ?_⟩
    focus (first | exact fun _ => rfl | exact fun h0 => absurd h0 (by decide))
    simp only [go_sem, Nat.reduceEqDiff, ↓reduceIte, Bool.false_eq_true, Nat.reduceAdd, Nat.reduceSub, Nat.reduceBNe, Nat.reduceBEq, Nat.reduceLT, Nat.reduceLeDiff, Nat.reduceMul, Nat.zero_lt_succ, Nat.lt_add_one, Nat.zero_lt_one, Int.reduceToNat, false_implies, true_implies, or_self, or_false, false_or, or_true, true_or, Nat.add_le_add_iff_right, true_and, and_true, forall_const, implies_true, List.contains_cons, List.contains_nil, List.all_cons, List.all_nil, bne_self_eq_false, Option.isSome_none, Option.isSome_some, Bool.or_false, Bool.false_or, Bool.true_or, Bool.or_true, ne_eq, not_false_eq_true, not_true_eq_false, beq_self_eq_true, cond_true, cond_false, Prod.mk.injEq, and_self, reduceCtorEq, BEq.rfl, Bool.and_true, Bool.true_and, Bool.and_false, Bool.false_and]
    refine ⟨_, fun _ => number_ok 12 t.family, ?_, ?_⟩
    focus (first | exact fun _ => rfl | exact fun h0 => absurd h0 (by decide))
    simp only [go_sem, Nat.reduceEqDiff, ↓reduceIte, Bool.false_eq_true, Nat.reduceAdd, Nat.reduceSub, Nat.reduceBNe, Nat.reduceBEq, Nat.reduceLT, Nat.reduceLeDiff, Nat.reduceMul, Nat.zero_lt_succ, Nat.lt_add_one, Nat.zero_lt_one, Int.reduceToNat, false_implies, true_implies, or_self, or_false, false_or, or_true, true_or, Nat.add_le_add_iff_right, true_and, and_true, forall_const, implies_true, List.contains_cons, List.contains_nil, List.all_cons, List.all_nil, bne_self_eq_false, Option.isSome_none, Option.isSome_some, Bool.or_false, Bool.false_or, Bool.true_or, Bool.or_true, ne_eq, not_false_eq_true, not_true_eq_false, beq_self_eq_true, cond_true, cond_false, Prod.mk.injEq, and_self, reduceCtorEq, BEq.rfl, Bool.and_true, Bool.true_and, Bool.and_false, Bool.false_and]
    refine ⟨_, fun _ => number_ok 13 t.group, ?_, ?_⟩
    focus (first | exact fun _ => rfl | exact fun h0 => absurd h0 (by decide))
    simp only [go_sem, Nat.reduceEqDiff, ↓reduceIte, Bool.false_eq_true, Nat.reduceAdd, Nat.reduceSub, Nat.reduceBNe, Nat.reduceBEq, Nat.reduceLT, Nat.reduceLeDiff, Nat.reduceMul, Nat.zero_lt_succ, Nat.lt_add_one, Nat.zero_lt_one, Int.reduceToNat, false_implies, true_implies, or_self, or_false, false_or, or_true, true_or, Nat.add_le_add_iff_right, true_and, and_true, forall_const, implies_true, List.contains_cons, List.contains_nil, List.all_cons, List.all_nil, bne_self_eq_false, Option.isSome_none, Option.isSome_some, Bool.or_false, Bool.false_or, Bool.true_or, Bool.or_true, ne_eq, not_false_eq_true, not_true_eq_false, beq_self_eq_true, cond_true, cond_false, Prod.mk.injEq, and_self, reduceCtorEq, BEq.rfl, Bool.and_true, Bool.true_and, Bool.and_false, Bool.false_and]
    refine ⟨_, fun _ => number_ok 14 t.words, ?_, ?_⟩
    focus (first | exact fun _ => rfl | exact fun h0 => absurd h0 (by decide))
    simp only [go_sem, Nat.reduceEqDiff, ↓reduceIte, Bool.false_eq_true, Nat.reduceAdd, Nat.reduceSub, Nat.reduceBNe, Nat.reduceBEq, Nat.reduceLT, Nat.reduceLeDiff, Nat.reduceMul, Nat.zero_lt_succ, Nat.lt_add_one, Nat.zero_lt_one, Int.reduceToNat, false_implies, true_implies, or_self, or_false, false_or, or_true, true_or, Nat.add_le_add_iff_right, true_and, and_true, forall_const, implies_true, List.contains_cons, List.contains_nil, List.all_cons, List.all_nil, bne_self_eq_false, Option.isSome_none, Option.isSome_some, Bool.or_false, Bool.false_or, Bool.true_or, Bool.or_true, ne_eq, not_false_eq_true, not_true_eq_false, beq_self_eq_true, cond_true, cond_false, Prod.mk.injEq, and_self, reduceCtorEq, BEq.rfl, Bool.and_true, Bool.true_and, Bool.and_false, Bool.false_and]
    refine ⟨_, fun _ => number_ok 15 t.seconds, ?_, ?_⟩
    focus (first | exact fun _ => rfl | exact fun h0 => absurd h0 (by decide))
    simp only [go_sem, Nat.reduceEqDiff, ↓reduceIte, Bool.false_eq_true, Nat.reduceAdd, Nat.reduceSub, Nat.reduceBNe, Nat.reduceBEq, Nat.reduceLT, Nat.reduceLeDiff, Nat.reduceMul, Nat.zero_lt_succ, Nat.lt_add_one, Nat.zero_lt_one, Int.reduceToNat, false_implies, true_implies, or_self, or_false, false_or, or_true, true_or, Nat.add_le_add_iff_right, true_and, and_true, forall_const, implies_true, List.contains_cons, List.contains_nil, List.all_cons, List.all_nil, bne_self_eq_false, Option.isSome_none, Option.isSome_some, Bool.or_false, Bool.false_or, Bool.true_or, Bool.or_true, ne_eq, not_false_eq_true, not_true_eq_false, beq_self_eq_true, cond_true, cond_false, Prod.mk.injEq, and_self, reduceCtorEq, BEq.rfl, Bool.and_true, Bool.true_and, Bool.and_false, Bool.false_and]
    refine ⟨_, fun _ => numberList_ok 16 t.nAs t.ass hlen.2.2.2, ?_, ?_⟩
    focus (first | exact fun _ => rfl | exact fun h0 => absurd h0 (by decide))
    simp only [go_sem, Nat.reduceEqDiff, ↓reduceIte, Bool.false_eq_true, Nat.reduceAdd, Nat.reduceSub, Nat.reduceBNe, Nat.reduceBEq, Nat.reduceLT, Nat.reduceLeDiff, Nat.reduceMul, Nat.zero_lt_succ, Nat.lt_add_one, Nat.zero_lt_one, Int.reduceToNat, false_implies, true_implies, or_self, or_false, false_or, or_true, true_or, Nat.add_le_add_iff_right, true_and, and_true, forall_const, implies_true, List.contains_cons, List.contains_nil, List.all_cons, List.all_nil, bne_self_eq_false, Option.isSome_none, Option.isSome_some, Bool.or_false, Bool.false_or, Bool.true_or, Bool.or_true, ne_eq, not_false_eq_true, not_true_eq_false, beq_self_eq_true, cond_true, cond_false, Prod.mk.injEq, and_self, reduceCtorEq, BEq.rfl, Bool.and_true, Bool.true_and, Bool.and_false, Bool.false_and]
    refine ⟨_, fun _ => number_ok 17 t.rubric, ?_, ?_⟩
    focus (first | exact fun _ => rfl | exact fun h0 => absurd h0 (by decide))
    simp only [go_sem, Nat.reduceEqDiff, ↓reduceIte, Bool.false_eq_true, Nat.reduceAdd, Nat.reduceSub, Nat.reduceBNe, Nat.reduceBEq, Nat.reduceLT, Nat.reduceLeDiff, Nat.reduceMul, Nat.zero_lt_succ, Nat.lt_add_one, Nat.zero_lt_one, Int.reduceToNat, false_implies, true_implies, or_self, or_false, false_or, or_true, true_or, Nat.add_le_add_iff_right, true_and, and_true, forall_const, implies_true, List.contains_cons, List.contains_nil, List.all_cons, List.all_nil, bne_self_eq_false, Option.isSome_none, Option.isSome_some, Bool.or_false, Bool.false_or, Bool.true_or, Bool.or_true, ne_eq, not_false_eq_true, not_true_eq_false, beq_self_eq_true, cond_true, cond_false, Prod.mk.injEq, and_self, reduceCtorEq, BEq.rfl, Bool.and_true, Bool.true_and, Bool.and_false, Bool.false_and]
    refine fnE_give rfl (args2 (list_ok 14 17 (encN t) (by decide) fun i _ => encN_ok t hlen i) fun S w v h => rep_list_congr (fun i hi => ?_) h) ?_
    · rcases i with _|_|_|_|_|_|_|_|_|_|_|_|_|_|_|_|_|i
      rotate_right
      · omega
      all_goals rfl
    · simp only [go_sem, Nat.reduceEqDiff, ↓reduceIte, Bool.false_eq_true, Nat.reduceAdd, Nat.reduceSub, Nat.reduceBNe, Nat.reduceBEq, Nat.reduceLT, Nat.reduceLeDiff, Nat.reduceMul, Nat.zero_lt_succ, Nat.lt_add_one, Nat.zero_lt_one, Int.reduceToNat, false_implies, true_implies, or_self, or_false, false_or, or_true, true_or, Nat.add_le_add_iff_right, true_and, and_true, forall_const, implies_true, List.contains_cons, List.contains_nil, List.all_cons, List.all_nil, bne_self_eq_false, Option.isSome_none, Option.isSome_some, Bool.or_false, Bool.false_or, Bool.true_or, Bool.or_true, ne_eq, not_false_eq_true, not_true_eq_false, beq_self_eq_true, cond_true, cond_false, Prod.mk.injEq, and_self, reduceCtorEq, BEq.rfl, Bool.and_true, Bool.true_and, Bool.and_false, Bool.false_and, gone, encR, h]
      rw [hz]
end Go.Proofs.YtnhpgmmhfgdmjaaGreat.P14

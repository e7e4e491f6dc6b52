/- Proved here: contracts of functions of this chapter: called with these values, each returns these values and changes nothing that was. Conditions: none but those that each theorem names. -/
import Derived.Test.YtnhpgmmhfgdmjaaGreatW14w
set_option linter.unusedVariables false
set_option linter.unusedSimpArgs false
open Go Go.Proofs Go.Ev
namespace Go.Proofs.YtnhpgmmhfgdmjaaGreat.P14
set_option maxRecDepth 100000
/-- The orders of the two drawn regions of put. -/
def T1 : Ord := .take 0 (.take 1 (.take 5 (.alt 2 (.take 3 (.alt 4 (.alt 6 (.take 7 (.alt 8 (.alt 9 (.alt 10 .done .nil) .nil) .nil)) .nil) (.alt 6 (.take 7 (.alt 4 (.alt 8 (.alt 9 (.alt 10 .done .nil) .nil) .nil) (.alt 8 (.alt 4 (.alt 9 (.alt 10 .done .nil) .nil) .nil) .nil))) .nil))) (.alt 6 (.take 7 (.alt 2 (.take 3 (.alt 4 (.alt 8 (.alt 9 (.alt 10 .done .nil) .nil) .nil) (.alt 8 (.alt 4 (.alt 9 (.alt 10 .done .nil) .nil) .nil) .nil))) (.alt 8 (.alt 2 (.take 3 (.alt 4 (.alt 9 (.alt 10 .done .nil) .nil) .nil)) .nil) .nil))) .nil))))
def T6 : Ord := .take 0 (.take 1 (.take 6 (.alt 2 (.alt 3 (.take 4 (.alt 5 (.alt 7 (.alt 8 (.alt 9 .done .nil) .nil) .nil) (.alt 7 (.alt 5 (.alt 8 (.alt 9 .done .nil) .nil) .nil) .nil))) (.alt 7 (.alt 3 (.take 4 (.alt 5 (.alt 8 (.alt 9 .done .nil) .nil) .nil)) .nil) .nil)) (.alt 7 (.alt 2 (.alt 3 (.take 4 (.alt 5 (.alt 8 (.alt 9 .done .nil) .nil) .nil)) .nil) .nil) .nil))))
theorem put_int (l : List Int) (t : Nat) (n : Int) (z : Nat) (ht : t ≤ 9999999) (h1 : -9223372036854775808 ≤ n) (h2 : n ≤ 9223372036854775807) (hz : zz n = z) (hz2 : z < 18446744073709551616) (hl : l.length ≤ 10000000) :
    FnB Tryz.prog 60 5 1 l.length (bF l) [.agg [.int .i64 t, .int .i64 1, .int .i64 n, .str ⟨#[]⟩, .nil]] (l ++ vb t ++ [1] ++ vb z).length (bF (l ++ vb t ++ [1] ++ vb z)) := by
  unfold FnB
  refine FnE.le ?_
  refine fnE_intro (H := { nt := Go.Func.ntmps Tryz.f60, lo := 1, fb := [79], ts := [(1, T1), (6, T6)] }) Tryz.func60 rfl rfl rfl rfl (Nat.le_of_ble_eq_true rfl) (okC_tri (by kernel_rfl) _ _ _ _ (by kernel_rfl) ?_)
  simp only [go_sem, Nat.reduceEqDiff, ↓reduceIte, Bool.false_eq_true, Nat.reduceAdd, Nat.reduceSub, Nat.reduceBNe, Nat.reduceBEq, Nat.reduceLT, Nat.reduceLeDiff, Nat.reduceMul, Nat.zero_lt_succ, Nat.lt_add_one, Nat.zero_lt_one, Int.reduceToNat, false_implies, true_implies, or_self, or_false, false_or, or_true, true_or, Nat.add_le_add_iff_right, true_and, and_true, forall_const, implies_true, List.contains_cons, List.contains_nil, List.all_cons, List.all_nil, bne_self_eq_false, Option.isSome_none, Option.isSome_some, Bool.or_false, Bool.false_or, Bool.true_or, Bool.or_true, ne_eq, not_false_eq_true, not_true_eq_false, beq_self_eq_true, cond_true, cond_false, Prod.mk.injEq, and_self, reduceCtorEq, BEq.rfl, Bool.and_true, Bool.true_and, Bool.and_false, Bool.false_and, Tryz.f60, bsz, List.append_eq, T1, T6]
  rw [wrapN t (by omega)]
  have ht4 := vszl ht
  have hlen : (l ++ vb t ++ [1]).length = l.length + vsz t + 1 := by simp only [List.length_append, List.length_cons, List.length_nil, vb_length]
  have hp := putv_ok l t (by omega) (by omega)
  have hj : joinF (l ++ vb t).length (bF (l ++ vb t)) (fun i => [DV.int IntKind.u8 (IntKind.u8.wrap 1)].getD i (DV.int IntKind.u8 0)) = bF (l ++ vb t ++ [1]) := bF_snoc _ _
  have hn : (l ++ vb t).length + 1 = (l ++ vb t ++ [1]).length := by simp only [List.length_append, List.length_cons, List.length_nil]
  refine ⟨[(0, .own 0 0 (l ++ vb t ++ [1]).length), (3, .ptr 1 0)], [.arr 5 1 (l ++ vb t ++ [1]).length (bF (l ++ vb t ++ [1])), .box [.d (.int .i64 t), .d (.int .i64 1), .d (.int .i64 n), .d (.str ⟨#[]⟩), .d .nil]], ?_, ?_⟩
  · simp only [go_sem, Nat.reduceEqDiff, ↓reduceIte, Bool.false_eq_true, Nat.reduceAdd, Nat.reduceSub, Nat.reduceBNe, Nat.reduceBEq, Nat.reduceLT, Nat.reduceLeDiff, Nat.reduceMul, Nat.zero_lt_succ, Nat.lt_add_one, Nat.zero_lt_one, Int.reduceToNat, false_implies, true_implies, or_self, or_false, false_or, or_true, true_or, Nat.add_le_add_iff_right, true_and, and_true, forall_const, implies_true, List.contains_cons, List.contains_nil, List.all_cons, List.all_nil, bne_self_eq_false, Option.isSome_none, Option.isSome_some, Bool.or_false, Bool.false_or, Bool.true_or, Bool.or_true, ne_eq, not_false_eq_true, not_true_eq_false, beq_self_eq_true, cond_true, cond_false, Prod.mk.injEq, and_self, reduceCtorEq, BEq.rfl, Bool.and_true, Bool.true_and, Bool.and_false, Bool.false_and]
    refine ⟨_, _, hp, ?_⟩
    rw [hj, hn, hlen]
    exact ⟨⟨by omega, by omega⟩, rfl, rfl⟩
  · simp only [go_sem, Nat.reduceEqDiff, ↓reduceIte, Bool.false_eq_true, Nat.reduceAdd, Nat.reduceSub, Nat.reduceBNe, Nat.reduceBEq, Nat.reduceLT, Nat.reduceLeDiff, Nat.reduceMul, Nat.zero_lt_succ, Nat.lt_add_one, Nat.zero_lt_one, Int.reduceToNat, false_implies, true_implies, or_self, or_false, false_or, or_true, true_or, Nat.add_le_add_iff_right, true_and, and_true, forall_const, implies_true, List.contains_cons, List.contains_nil, List.all_cons, List.all_nil, bne_self_eq_false, Option.isSome_none, Option.isSome_some, Bool.or_false, Bool.false_or, Bool.true_or, Bool.or_true, ne_eq, not_false_eq_true, not_true_eq_false, beq_self_eq_true, cond_true, cond_false, Prod.mk.injEq, and_self, reduceCtorEq, BEq.rfl, Bool.and_true, Bool.true_and, Bool.and_false, Bool.false_and]
    refine ⟨_, fun _ => zig_ok n h1 h2, ?_, ?_⟩
    focus (first | exact fun _ => rfl | exact fun h0 => absurd h0 (by decide))
    simp only [go_sem, Nat.reduceEqDiff, ↓reduceIte, Bool.false_eq_true, Nat.reduceAdd, Nat.reduceSub, Nat.reduceBNe, Nat.reduceBEq, Nat.reduceLT, Nat.reduceLeDiff, Nat.reduceMul, Nat.zero_lt_succ, Nat.lt_add_one, Nat.zero_lt_one, Int.reduceToNat, false_implies, true_implies, or_self, or_false, false_or, or_true, true_or, Nat.add_le_add_iff_right, true_and, and_true, forall_const, implies_true, List.contains_cons, List.contains_nil, List.all_cons, List.all_nil, bne_self_eq_false, Option.isSome_none, Option.isSome_some, Bool.or_false, Bool.false_or, Bool.true_or, Bool.or_true, ne_eq, not_false_eq_true, not_true_eq_false, beq_self_eq_true, cond_true, cond_false, Prod.mk.injEq, and_self, reduceCtorEq, BEq.rfl, Bool.and_true, Bool.true_and, Bool.and_false, Bool.false_and]
    rw [hz]
    refine ⟨_, _, putv_ok (l ++ vb t ++ [1]) z hz2 (by omega), ?_⟩
    simp only [go_sem, Nat.reduceEqDiff, ↓reduceIte, Bool.false_eq_true, Nat.reduceAdd, Nat.reduceSub, Nat.reduceBNe, Nat.reduceBEq, Nat.reduceLT, Nat.reduceLeDiff, Nat.reduceMul, Nat.zero_lt_succ, Nat.lt_add_one, Nat.zero_lt_one, Int.reduceToNat, false_implies, true_implies, or_self, or_false, false_or, or_true, true_or, Nat.add_le_add_iff_right, true_and, and_true, forall_const, implies_true, List.contains_cons, List.contains_nil, List.all_cons, List.all_nil, bne_self_eq_false, Option.isSome_none, Option.isSome_some, Bool.or_false, Bool.false_or, Bool.true_or, Bool.or_true, ne_eq, not_false_eq_true, not_true_eq_false, beq_self_eq_true, cond_true, cond_false, Prod.mk.injEq, and_self, reduceCtorEq, BEq.rfl, Bool.and_true, Bool.true_and, Bool.and_false, Bool.false_and]
    exact ⟨[.arr 5 1 (l ++ vb t ++ [1] ++ vb z).length (bF (l ++ vb t ++ [1] ++ vb z))], ⟨⟨rfl, trivial⟩, rfl⟩, rfl⟩
def sb (s : ByteArray) : List Int := (List.range s.size).map fun i => (bget s i : Int)
theorem sb_length (s : ByteArray) : (sb s).length = s.size := by simp [sb]
theorem bF_str (l : List Int) (s : ByteArray) : joinF l.length (bF l) (fun i => .int .u8 (bget s i)) = bF (l ++ sb s) := by
  funext k
  simp only [joinF, bF]
  split
  · rename_i h
    rw [List.getElem?_append_left h]
  · rename_i h
    rw [List.getElem?_append_right (by omega)]
    simp only [sb, List.getElem?_map]
    by_cases hk : k - l.length < s.size
    · rw [List.getElem?_range hk]
      rfl
    · rw [List.getElem?_eq_none (by simpa using hk)]
      have : bget s (k - l.length) = 0 := by
        unfold bget
        rw [dif_neg hk]
      rw [this]
      rfl
theorem put_str (l : List Int) (t : Nat) (s : ByteArray) (ht : t ≤ 9999999) (hs : s.size ≤ 10000000) (hl : l.length ≤ 10000000) :
    FnB Tryz.prog 60 5 1 l.length (bF l) [.agg [.int .i64 t, .int .i64 2, .int .i64 0, .str s, .nil]] (l ++ vb t ++ [2] ++ vb s.size ++ sb s).length (bF (l ++ vb t ++ [2] ++ vb s.size ++ sb s)) := by
  unfold FnB
  refine FnE.le ?_
  refine fnE_intro (H := { nt := Go.Func.ntmps Tryz.f60, lo := 1, fb := [79], ts := [(1, T1), (6, T6)] }) Tryz.func60 rfl rfl rfl rfl (Nat.le_of_ble_eq_true rfl) (okC_tri (by kernel_rfl) _ _ _ _ (by kernel_rfl) ?_)
  simp only [go_sem, Nat.reduceEqDiff, ↓reduceIte, Bool.false_eq_true, Nat.reduceAdd, Nat.reduceSub, Nat.reduceBNe, Nat.reduceBEq, Nat.reduceLT, Nat.reduceLeDiff, Nat.reduceMul, Nat.zero_lt_succ, Nat.lt_add_one, Nat.zero_lt_one, Int.reduceToNat, false_implies, true_implies, or_self, or_false, false_or, or_true, true_or, Nat.add_le_add_iff_right, true_and, and_true, forall_const, implies_true, List.contains_cons, List.contains_nil, List.all_cons, List.all_nil, bne_self_eq_false, Option.isSome_none, Option.isSome_some, Bool.or_false, Bool.false_or, Bool.true_or, Bool.or_true, ne_eq, not_false_eq_true, not_true_eq_false, beq_self_eq_true, cond_true, cond_false, Prod.mk.injEq, and_self, reduceCtorEq, BEq.rfl, Bool.and_true, Bool.true_and, Bool.and_false, Bool.false_and, Tryz.f60, bsz, List.append_eq, T1, T6]
  rw [wrapN t (by omega)]
  have ht4 := vszl ht
  have hs4 : vsz s.size ≤ 10 := vsz_le 9 s.size (by omega)
  have hlen : (l ++ vb t ++ [2]).length = l.length + vsz t + 1 := by simp only [List.length_append, List.length_cons, List.length_nil, vb_length]
  have hp := putv_ok l t (by omega) (by omega)
  have hj : joinF (l ++ vb t).length (bF (l ++ vb t)) (fun i => [DV.int IntKind.u8 (IntKind.u8.wrap 2)].getD i (DV.int IntKind.u8 0)) = bF (l ++ vb t ++ [2]) := bF_snoc _ _
  have hn : (l ++ vb t).length + 1 = (l ++ vb t ++ [2]).length := by simp only [List.length_append, List.length_cons, List.length_nil]
  refine ⟨[(0, .own 0 0 (l ++ vb t ++ [2]).length), (3, .ptr 1 0)], [.arr 5 1 (l ++ vb t ++ [2]).length (bF (l ++ vb t ++ [2])), .box [.d (.int .i64 t), .d (.int .i64 2), .d (.int .i64 0), .d (.str s), .d .nil]], ?_, ?_⟩
  · simp only [go_sem, Nat.reduceEqDiff, ↓reduceIte, Bool.false_eq_true, Nat.reduceAdd, Nat.reduceSub, Nat.reduceBNe, Nat.reduceBEq, Nat.reduceLT, Nat.reduceLeDiff, Nat.reduceMul, Nat.zero_lt_succ, Nat.lt_add_one, Nat.zero_lt_one, Int.reduceToNat, false_implies, true_implies, or_self, or_false, false_or, or_true, true_or, Nat.add_le_add_iff_right, true_and, and_true, forall_const, implies_true, List.contains_cons, List.contains_nil, List.all_cons, List.all_nil, bne_self_eq_false, Option.isSome_none, Option.isSome_some, Bool.or_false, Bool.false_or, Bool.true_or, Bool.or_true, ne_eq, not_false_eq_true, not_true_eq_false, beq_self_eq_true, cond_true, cond_false, Prod.mk.injEq, and_self, reduceCtorEq, BEq.rfl, Bool.and_true, Bool.true_and, Bool.and_false, Bool.false_and]
    refine ⟨_, _, hp, ?_⟩
    rw [hj, hn, hlen]
    exact ⟨⟨by omega, by omega⟩, rfl, rfl⟩
  · simp only [go_sem, Nat.reduceEqDiff, ↓reduceIte, Bool.false_eq_true, Nat.reduceAdd, Nat.reduceSub, Nat.reduceBNe, Nat.reduceBEq, Nat.reduceLT, Nat.reduceLeDiff, Nat.reduceMul, Nat.zero_lt_succ, Nat.lt_add_one, Nat.zero_lt_one, Int.reduceToNat, false_implies, true_implies, or_self, or_false, false_or, or_true, true_or, Nat.add_le_add_iff_right, true_and, and_true, forall_const, implies_true, List.contains_cons, List.contains_nil, List.all_cons, List.all_nil, bne_self_eq_false, Option.isSome_none, Option.isSome_some, Bool.or_false, Bool.false_or, Bool.true_or, Bool.or_true, ne_eq, not_false_eq_true, not_true_eq_false, beq_self_eq_true, cond_true, cond_false, Prod.mk.injEq, and_self, reduceCtorEq, BEq.rfl, Bool.and_true, Bool.true_and, Bool.and_false, Bool.false_and]
    refine ⟨fun h => absurd h (by decide), fun _ => ?_⟩
    rw [wrapN s.size (by omega)]
    have hp2 := putv_ok (l ++ vb t ++ [2]) s.size (by omega) (by omega)
    have hj2 := bF_str (l ++ vb t ++ [2] ++ vb s.size) s
    have hlen2 : (l ++ vb t ++ [2] ++ vb s.size).length = l.length + vsz t + 1 + vsz s.size := by rw [List.length_append, hlen, vb_length]
    have hn2 : (l ++ vb t ++ [2] ++ vb s.size).length + s.size = (l ++ vb t ++ [2] ++ vb s.size ++ sb s).length := by rw [List.length_append (bs := sb s), sb_length]
    refine ⟨[(4, .own 0 0 (l ++ vb t ++ [2] ++ vb s.size ++ sb s).length)], [.arr 5 1 (l ++ vb t ++ [2] ++ vb s.size ++ sb s).length (bF (l ++ vb t ++ [2] ++ vb s.size ++ sb s))], ?_, ?_⟩
    · simp only [go_sem, Nat.reduceEqDiff, ↓reduceIte, Bool.false_eq_true, Nat.reduceAdd, Nat.reduceSub, Nat.reduceBNe, Nat.reduceBEq, Nat.reduceLT, Nat.reduceLeDiff, Nat.reduceMul, Nat.zero_lt_succ, Nat.lt_add_one, Nat.zero_lt_one, Int.reduceToNat, false_implies, true_implies, or_self, or_false, false_or, or_true, true_or, Nat.add_le_add_iff_right, true_and, and_true, forall_const, implies_true, List.contains_cons, List.contains_nil, List.all_cons, List.all_nil, bne_self_eq_false, Option.isSome_none, Option.isSome_some, Bool.or_false, Bool.false_or, Bool.true_or, Bool.or_true, ne_eq, not_false_eq_true, not_true_eq_false, beq_self_eq_true, cond_true, cond_false, Prod.mk.injEq, and_self, reduceCtorEq, BEq.rfl, Bool.and_true, Bool.true_and, Bool.and_false, Bool.false_and]
      refine fun _ => ⟨_, _, hp2, ?_⟩
      rw [hj2, hn2, ← hn2, hlen2]
      exact ⟨⟨by omega, by omega⟩, rfl, rfl⟩
    · simp only [go_sem, Nat.reduceEqDiff, ↓reduceIte, Bool.false_eq_true, Nat.reduceAdd, Nat.reduceSub, Nat.reduceBNe, Nat.reduceBEq, Nat.reduceLT, Nat.reduceLeDiff, Nat.reduceMul, Nat.zero_lt_succ, Nat.lt_add_one, Nat.zero_lt_one, Int.reduceToNat, false_implies, true_implies, or_self, or_false, false_or, or_true, true_or, Nat.add_le_add_iff_right, true_and, and_true, forall_const, implies_true, List.contains_cons, List.contains_nil, List.all_cons, List.all_nil, bne_self_eq_false, Option.isSome_none, Option.isSome_some, Bool.or_false, Bool.false_or, Bool.true_or, Bool.or_true, ne_eq, not_false_eq_true, not_true_eq_false, beq_self_eq_true, cond_true, cond_false, Prod.mk.injEq, and_self, reduceCtorEq, BEq.rfl, Bool.and_true, Bool.true_and, Bool.and_false, Bool.false_and]
      exact ⟨[.arr 5 1 (l ++ vb t ++ [2] ++ vb s.size ++ sb s).length (bF (l ++ vb t ++ [2] ++ vb s.size ++ sb s))], ⟨⟨rfl, trivial⟩, rfl⟩, rfl⟩
/-- Bytes put behind each other. -/
def catN (f : Nat → List Int) : Nat → List Int
  | 0 => []
  | n + 1 => catN f n ++ f n
theorem catN_le (f : Nat → List Int) {i m : Nat} (h : i ≤ m) : (catN f i).length ≤ (catN f m).length := by
  induction m with
  | zero => rw [Nat.le_zero.1 h]; exact Nat.le_refl _
  | succ m ih =>
    rcases Nat.lt_or_ge i (m + 1) with h1 | h1
    · refine Nat.le_trans (ih (by omega)) ?_
      simp [catN]
    · rw [show i = m + 1 by omega]
      exact Nat.le_refl _
theorem put_list (l : List Int) (t m : Nat) (f : Nat → Nd) (B : Nat → List Int) (ht : t ≤ 9999999) (hm : m ≤ 1000000) (hl : l.length + vsz t + 1 + vsz m + (catN B m).length ≤ 9000000) (hk : ∀ i, i < m → ∀ l : List Int, l.length + (B i).length ≤ 9000000 → FnB Tryz.prog 60 5 1 l.length (bF l) [(f i).D] (l ++ B i).length (bF (l ++ B i))) :
    FnB Tryz.prog 60 5 1 l.length (bF l) [.agg [.int .i64 t, .int .i64 3, .int .i64 0, .str ⟨#[]⟩, .list 5 m fun i => (f i).D]] (l ++ vb t ++ [3] ++ vb m ++ catN B m).length (bF (l ++ vb t ++ [3] ++ vb m ++ catN B m)) := by
  unfold FnB
  refine FnE.le ?_
  refine fnE_intro (H := { nt := Go.Func.ntmps Tryz.f60, lo := 1, fb := [79, 60], ts := [(1, T1), (6, T6)] }) Tryz.func60 rfl rfl rfl rfl (Nat.le_of_ble_eq_true rfl) (okC_tri (by kernel_rfl) _ _ _ _ (by kernel_rfl) ?_)
  simp only [go_sem, Nat.reduceEqDiff, ↓reduceIte, Bool.false_eq_true, Nat.reduceAdd, Nat.reduceSub, Nat.reduceBNe, Nat.reduceBEq, Nat.reduceLT, Nat.reduceLeDiff, Nat.reduceMul, Nat.zero_lt_succ, Nat.lt_add_one, Nat.zero_lt_one, Int.reduceToNat, false_implies, true_implies, or_self, or_false, false_or, or_true, true_or, Nat.add_le_add_iff_right, true_and, and_true, forall_const, implies_true, List.contains_cons, List.contains_nil, List.all_cons, List.all_nil, bne_self_eq_false, Option.isSome_none, Option.isSome_some, Bool.or_false, Bool.false_or, Bool.true_or, Bool.or_true, ne_eq, not_false_eq_true, not_true_eq_false, beq_self_eq_true, cond_true, cond_false, Prod.mk.injEq, and_self, reduceCtorEq, BEq.rfl, Bool.and_true, Bool.true_and, Bool.and_false, Bool.false_and, Tryz.f60, bsz, List.append_eq, T1, T6]
  rw [wrapN t (by omega)]
  have ht4 := vszl ht
  have hm4 : vsz m ≤ 10 := vsz_le 9 m (by omega)
  have hlen : (l ++ vb t ++ [3]).length = l.length + vsz t + 1 := by simp only [List.length_append, List.length_cons, List.length_nil, vb_length]
  have hp := putv_ok l t (by omega) (by omega)
  have hj : joinF (l ++ vb t).length (bF (l ++ vb t)) (fun i => [DV.int IntKind.u8 (IntKind.u8.wrap 3)].getD i (DV.int IntKind.u8 0)) = bF (l ++ vb t ++ [3]) := bF_snoc _ _
  have hn : (l ++ vb t).length + 1 = (l ++ vb t ++ [3]).length := by simp only [List.length_append, List.length_cons, List.length_nil]
  refine ⟨[(0, .own 0 0 (l ++ vb t ++ [3]).length), (3, .ptr 1 0)], [.arr 5 1 (l ++ vb t ++ [3]).length (bF (l ++ vb t ++ [3])), .box [.d (.int .i64 t), .d (.int .i64 3), .d (.int .i64 0), .d (.str ⟨#[]⟩), .d (.list 5 m fun i => (f i).D)]], ?_, ?_⟩
  · simp only [go_sem, Nat.reduceEqDiff, ↓reduceIte, Bool.false_eq_true, Nat.reduceAdd, Nat.reduceSub, Nat.reduceBNe, Nat.reduceBEq, Nat.reduceLT, Nat.reduceLeDiff, Nat.reduceMul, Nat.zero_lt_succ, Nat.lt_add_one, Nat.zero_lt_one, Int.reduceToNat, false_implies, true_implies, or_self, or_false, false_or, or_true, true_or, Nat.add_le_add_iff_right, true_and, and_true, forall_const, implies_true, List.contains_cons, List.contains_nil, List.all_cons, List.all_nil, bne_self_eq_false, Option.isSome_none, Option.isSome_some, Bool.or_false, Bool.false_or, Bool.true_or, Bool.or_true, ne_eq, not_false_eq_true, not_true_eq_false, beq_self_eq_true, cond_true, cond_false, Prod.mk.injEq, and_self, reduceCtorEq, BEq.rfl, Bool.and_true, Bool.true_and, Bool.and_false, Bool.false_and]
    refine ⟨_, _, hp, ?_⟩
    rw [hj, hn, hlen]
    exact ⟨⟨by omega, by omega⟩, rfl, rfl⟩
  · simp only [go_sem, Nat.reduceEqDiff, ↓reduceIte, Bool.false_eq_true, Nat.reduceAdd, Nat.reduceSub, Nat.reduceBNe, Nat.reduceBEq, Nat.reduceLT, Nat.reduceLeDiff, Nat.reduceMul, Nat.zero_lt_succ, Nat.lt_add_one, Nat.zero_lt_one, Int.reduceToNat, false_implies, true_implies, or_self, or_false, false_or, or_true, true_or, Nat.add_le_add_iff_right, true_and, and_true, forall_const, implies_true, List.contains_cons, List.contains_nil, List.all_cons, List.all_nil, bne_self_eq_false, Option.isSome_none, Option.isSome_some, Bool.or_false, Bool.false_or, Bool.true_or, Bool.or_true, ne_eq, not_false_eq_true, not_true_eq_false, beq_self_eq_true, cond_true, cond_false, Prod.mk.injEq, and_self, reduceCtorEq, BEq.rfl, Bool.and_true, Bool.true_and, Bool.and_false, Bool.false_and]
    refine ⟨fun h => absurd h (by decide), fun _ => ⟨fun h => absurd h (by decide), fun _ => ?_⟩⟩
    rw [wrapN m (by omega)]
    refine fun _ => ⟨_, _, putv_ok (l ++ vb t ++ [3]) m (by omega) (by omega), ?_⟩
    have hlenA : ∀ i, (l ++ vb t ++ [3] ++ vb m ++ catN B i).length = l.length + vsz t + 1 + vsz m + (catN B i).length := fun i => by rw [List.length_append, List.length_append, hlen, vb_length]
    refine fun _ => ⟨{ i : Nat // i ≤ m }, fun i => ([(46, .d (.int .i64 i.1)), (45, .d (.int .i64 m)), (44, .d (.list 5 m fun i => (f i).D)), (0, .own 0 0 (l ++ vb t ++ [3] ++ vb m ++ catN B i.1).length)], [.arr 5 1 (l ++ vb t ++ [3] ++ vb m ++ catN B i.1).length (bF (l ++ vb t ++ [3] ++ vb m ++ catN B i.1))]), fun i => m - i.1, ⟨0, Nat.zero_le _⟩, ?_, ?_⟩
    · simp only [go_sem, Nat.reduceEqDiff, ↓reduceIte, Bool.false_eq_true, Nat.reduceAdd, Nat.reduceSub, Nat.reduceBNe, Nat.reduceBEq, Nat.reduceLT, Nat.reduceLeDiff, Nat.reduceMul, Nat.zero_lt_succ, Nat.lt_add_one, Nat.zero_lt_one, Int.reduceToNat, false_implies, true_implies, or_self, or_false, false_or, or_true, true_or, Nat.add_le_add_iff_right, true_and, and_true, forall_const, implies_true, List.contains_cons, List.contains_nil, List.all_cons, List.all_nil, bne_self_eq_false, Option.isSome_none, Option.isSome_some, Bool.or_false, Bool.false_or, Bool.true_or, Bool.or_true, ne_eq, not_false_eq_true, not_true_eq_false, beq_self_eq_true, cond_true, cond_false, Prod.mk.injEq, and_self, reduceCtorEq, BEq.rfl, Bool.and_true, Bool.true_and, Bool.and_false, Bool.false_and, catN]
      rfl
    · rintro ⟨i, hi⟩
      simp only [go_sem, Nat.reduceEqDiff, ↓reduceIte, Bool.false_eq_true, Nat.reduceAdd, Nat.reduceSub, Nat.reduceBNe, Nat.reduceBEq, Nat.reduceLT, Nat.reduceLeDiff, Nat.reduceMul, Nat.zero_lt_succ, Nat.lt_add_one, Nat.zero_lt_one, Int.reduceToNat, false_implies, true_implies, or_self, or_false, false_or, or_true, true_or, Nat.add_le_add_iff_right, true_and, and_true, forall_const, implies_true, List.contains_cons, List.contains_nil, List.all_cons, List.all_nil, bne_self_eq_false, Option.isSome_none, Option.isSome_some, Bool.or_false, Bool.false_or, Bool.true_or, Bool.or_true, ne_eq, not_false_eq_true, not_true_eq_false, beq_self_eq_true, cond_true, cond_false, Prod.mk.injEq, and_self, reduceCtorEq, BEq.rfl, Bool.and_true, Bool.true_and, Bool.and_false, Bool.false_and, decide_eq_true_eq]
      refine ⟨fun hlt => ⟨⟨by omega, by omega⟩, ?_⟩, fun hge => ?_⟩
      · have h1 := hlenA i
        have h2 := catN_le B (show i + 1 ≤ m by omega)
        have e1 : l ++ vb t ++ [3] ++ vb m ++ catN B i ++ B i = l ++ vb t ++ [3] ++ vb m ++ catN B (i + 1) := by simp only [catN, List.append_assoc]
        have h3 : (catN B (i + 1)).length = (catN B i).length + (B i).length := by simp only [catN, List.length_append]
        have hc := hk i (by omega) (l ++ vb t ++ [3] ++ vb m ++ catN B i) (by omega)
        rw [e1] at hc
        refine ⟨_, _, hc, ?_⟩
        refine ⟨⟨by omega, by omega⟩, ?_⟩
        refine ⟨⟨i + 1, by omega⟩, ?_, ⟨?_, rfl⟩, rfl⟩
        · simp only
          omega
        · simp
      · have e1 : i = m := by simp at hge; omega
        subst e1
        exact ⟨[.arr 5 1 (l ++ vb t ++ [3] ++ vb i ++ catN B i).length (bF (l ++ vb t ++ [3] ++ vb i ++ catN B i))], ⟨⟨rfl, trivial⟩, rfl⟩, rfl, rfl⟩
/-- The bytes of a tree. -/
def ndB : Nd → List Int
  | .leaf t k n s => vb t.toNat ++ [k] ++ (if k = 1 then vb (zz n).toNat else vb s.size ++ sb s)
  | .mk t k n s m f => vb t.toNat ++ [3] ++ vb m ++ catN (fun i => ndB (f i)) m
/-- A tree that is encoded. -/
def Nd.good : Nat → Nd → Prop
  | lvl, .leaf t k n s => lvl ≤ 8 ∧ 0 ≤ t ∧ t ≤ 9999999 ∧ ((k = 1 ∧ s = ⟨#[]⟩ ∧ -9223372036854775808 ≤ n ∧ n ≤ 9223372036854775807) ∨ (k = 2 ∧ n = 0 ∧ s.size ≤ 2000))
  | lvl, .mk t k n s m f => lvl ≤ 8 ∧ 0 ≤ t ∧ t ≤ 9999999 ∧ k = 3 ∧ n = 0 ∧ s = ⟨#[]⟩ ∧ m ≤ 1024 ∧ ∀ i, i < m → (f i).good (lvl + 1)
theorem zz_range (n : Int) : ∃ z : Nat, zz n = z ∧ z < 18446744073709551616 := by
  have hw : ∀ x, 0 ≤ IntKind.u64.wrap x ∧ IntKind.u64.wrap x < 18446744073709551616 := fun x => by
    simp only [IntKind.wrap, IntKind.bits, IntKind.signed]
    constructor
    · exact Int.emod_nonneg _ (by decide)
    · exact Int.emod_lt_of_pos _ (by decide)
  have : 0 ≤ zz n ∧ zz n < 18446744073709551616 := by
    unfold zz
    cases decide (n < 0) <;> exact hw _
  exact ⟨(zz n).toNat, by omega, by omega⟩
theorem put_nd : ∀ (x : Nd) (lvl : Nat), x.good lvl → ∀ l : List Int, l.length + (ndB x).length ≤ 9000000 → FnB Tryz.prog 60 5 1 l.length (bF l) [x.D] (l ++ ndB x).length (bF (l ++ ndB x))
  | .leaf t k n s, lvl, hg, l, hl => by
    obtain ⟨_, h1, h2, h3⟩ := hg
    obtain ⟨t, rfl⟩ : ∃ u : Nat, t = u := ⟨t.toNat, by omega⟩
    rcases h3 with ⟨rfl, rfl, h3, h4⟩ | ⟨rfl, rfl, h3⟩
    · obtain ⟨z, hz, hz2⟩ := zz_range n
      have e : ndB (.leaf t 1 n ⟨#[]⟩) = vb t ++ [1] ++ vb z := by simp only [ndB, if_true, hz, Int.toNat_natCast]
      rw [e] at hl ⊢
      have := put_int l t n z (by omega) h3 h4 hz hz2 (by omega)
      simpa only [List.append_assoc, Nd.D] using this
    · have e : ndB (.leaf t 2 0 s) = vb t ++ [2] ++ (vb s.size ++ sb s) := by simp only [ndB, Int.toNat_natCast]; rfl
      rw [e] at hl ⊢
      have := put_str l t s (by omega) (by omega) (by omega)
      simpa only [List.append_assoc, Nd.D] using this
  | .mk t k n s m f, lvl, hg, l, hl => by
    obtain ⟨_, h1, h2, rfl, rfl, rfl, h3, h4⟩ := hg
    obtain ⟨t, rfl⟩ : ∃ u : Nat, t = u := ⟨t.toNat, by omega⟩
    have e : ndB (.mk t 3 0 ⟨#[]⟩ m f) = vb t ++ [3] ++ vb m ++ catN (fun i => ndB (f i)) m := by simp only [ndB, Int.toNat_natCast]
    rw [e] at hl ⊢
    have hl' := hl
    simp only [List.length_append, List.length_cons, List.length_nil, vb_length] at hl'
    have := put_list l t m f (fun i => ndB (f i)) (by omega) (by omega) (by omega) fun i hi l hl => put_nd (f i) (lvl + 1) (h4 i hi) l (by omega)
    simpa only [List.append_assoc, Nd.D] using this
theorem cat_sum (B : Nat → List Int) : ∀ m, (catN B m).length = sumN (fun i => (B i).length) m
  | 0 => rfl
  | m + 1 => by simp only [catN, List.length_append, cat_sum B m, sumN]
theorem size_nd : ∀ (x : Nd) (lvl : Nat), x.good lvl → (ndB x).length ≤ 1048576 → FnD Tryz.prog 59 [.d x.D, .d (.int .i64 lvl)] [.int .i64 (ndB x).length]
  | .leaf t k n s, lvl, hg, hl => by
    obtain ⟨h0, h1, h2, h3⟩ := hg
    obtain ⟨t, rfl⟩ : ∃ u : Nat, t = u := ⟨t.toNat, by omega⟩
    rcases h3 with ⟨rfl, rfl, h3, h4⟩ | ⟨rfl, rfl, h3⟩
    · obtain ⟨z, hz, hz2⟩ := zz_range n
      have e : ndB (.leaf t 1 n ⟨#[]⟩) = vb t ++ [1] ++ vb z := by simp only [ndB, if_true, hz, Int.toNat_natCast]
      have := size_int t n z lvl (by omega) (by omega) h3 h4 hz hz2
      rw [e]
      simp only [List.length_append, List.length_cons, List.length_nil, vb_length]
      exact this
    · have e : ndB (.leaf t 2 0 s) = vb t ++ [2] ++ (vb s.size ++ sb s) := by simp only [ndB, Int.toNat_natCast]; rfl
      have := size_str t s lvl (by omega) (by omega) h3
      rw [e]
      simp only [List.length_append, List.length_cons, List.length_nil, vb_length, sb_length]
      have e2 : ((vsz t + (0 + 1) + (vsz s.size + s.size) : Nat) : Int) = (vsz t : Int) + 1 + vsz s.size + s.size := by omega
      rw [e2]
      exact this
  | .mk t k n s m f, lvl, hg, hl => by
    obtain ⟨h0, h1, h2, rfl, rfl, rfl, h3, h4⟩ := hg
    obtain ⟨t, rfl⟩ : ∃ u : Nat, t = u := ⟨t.toNat, by omega⟩
    have e : ndB (.mk t 3 0 ⟨#[]⟩ m f) = vb t ++ [3] ++ vb m ++ catN (fun i => ndB (f i)) m := by simp only [ndB, Int.toNat_natCast]
    rw [e] at hl ⊢
    simp only [List.length_append, List.length_cons, List.length_nil, vb_length, cat_sum] at hl ⊢
    have hmono : ∀ i, i ≤ m → sumN (fun i => (ndB (f i)).length) i ≤ sumN (fun i => (ndB (f i)).length) m := fun i hi => by
      rw [← cat_sum (fun i => ndB (f i)), ← cat_sum (fun i => ndB (f i))]
      exact catN_le _ hi
    refine size_list t m f (fun i => (ndB (f i)).length) lvl (by omega) (by omega) (by omega) h3 (fun i hi => ?_) (fun i hi => ?_)
    · have h5 := hmono (i + 1) hi
      simp only [sumN] at h5
      have := size_nd (f i) (lvl + 1) (h4 i hi) (by omega)
      exact this
    · have := hmono i hi
      omega
/-- codec.Encode of such a tree. -/
theorem cenc_ok (x : Nd) (hg : x.good 1) (hl : (ndB x).length ≤ 1048576) : FnD Tryz.prog 35 [.d x.D] [.list 1 (ndB x).length (bF (ndB x)), .int .i64 0] := by
  refine fnD_intro (H := { nt := Go.Func.ntmps Tryz.f35, fb := [60], qs := [(4, 3)] }) Tryz.func35 rfl rfl rfl rfl (Nat.le_of_ble_eq_true rfl) (okC_tri (by kernel_rfl) _ _ _ _ (by kernel_rfl) ?_)
  simp only [go_sem, Nat.reduceEqDiff, ↓reduceIte, Bool.false_eq_true, Nat.reduceAdd, Nat.reduceSub, Nat.reduceBNe, Nat.reduceBEq, Nat.reduceLT, Nat.reduceLeDiff, Nat.reduceMul, Nat.zero_lt_succ, Nat.lt_add_one, Nat.zero_lt_one, Int.reduceToNat, false_implies, true_implies, or_self, or_false, false_or, or_true, true_or, Nat.add_le_add_iff_right, true_and, and_true, forall_const, implies_true, List.contains_cons, List.contains_nil, List.all_cons, List.all_nil, bne_self_eq_false, Option.isSome_none, Option.isSome_some, Bool.or_false, Bool.false_or, Bool.true_or, Bool.or_true, ne_eq, not_false_eq_true, not_true_eq_false, beq_self_eq_true, cond_true, cond_false, Prod.mk.injEq, and_self, reduceCtorEq, BEq.rfl, Bool.and_true, Bool.true_and, Bool.and_false, Bool.false_and, Tryz.f35]
  refine ⟨_, fun _ => size_nd x 1 hg hl, ?_, ?_⟩
  focus (first | exact fun _ => rfl | exact fun h0 => absurd h0 (by decide))
  simp only [go_sem, Nat.reduceEqDiff, ↓reduceIte, Bool.false_eq_true, Nat.reduceAdd, Nat.reduceSub, Nat.reduceBNe, Nat.reduceBEq, Nat.reduceLT, Nat.reduceLeDiff, Nat.reduceMul, Nat.zero_lt_succ, Nat.lt_add_one, Nat.zero_lt_one, Int.reduceToNat, false_implies, true_implies, or_self, or_false, false_or, or_true, true_or, Nat.add_le_add_iff_right, true_and, and_true, forall_const, implies_true, List.contains_cons, List.contains_nil, List.all_cons, List.all_nil, bne_self_eq_false, Option.isSome_none, Option.isSome_some, Bool.or_false, Bool.false_or, Bool.true_or, Bool.or_true, ne_eq, not_false_eq_true, not_true_eq_false, beq_self_eq_true, cond_true, cond_false, Prod.mk.injEq, and_self, reduceCtorEq, BEq.rfl, Bool.and_true, Bool.true_and, Bool.and_false, Bool.false_and]
  have hp := put_nd x 1 hg [] (by simp only [List.length_nil]; omega)
  rw [List.nil_append, show bF [] = fun _ => DV.int .u8 0 from funext fun i => by simp [bF]] at hp
  refine ⟨fun h => ?_, fun _ => ⟨⟨by omega, by omega, by omega⟩, _, _, hp, rfl⟩⟩
  have := of_decide_eq_true h
  omega
/-- The digest of an item. -/
def digN (x : Nd) : Int := addH dig0 (fun i => (ndB x)[i]?.getD 0) (ndB x).length
theorem dof_nd (x : Nd) : FnD Tryz.prog 36 [.d (.list 1 (ndB x).length (bF (ndB x)))] [.int .u64 (digN x)] := dof_ok (ndB x).length fun i => (ndB x)[i]?.getD 0
def digR (t : It) : Int := bif validR t != 0 then 0 else digN (encNd t)
theorem digest_bad (t : It) (hn : t.nCh * 8 ≤ 140737488351232) (hv : (validR t != 0) = true) : FnD Tryz.prog 10 [.d (iD t)] [.int .u64 0, .int .i64 (validR t)] := by
  refine fnD_intro (H := { nt := Go.Func.ntmps Tryz.f10 }) Tryz.func10 rfl rfl rfl rfl (Nat.le_of_ble_eq_true rfl) (okC_tri (by kernel_rfl) _ _ _ _ (by kernel_rfl) ?_)
  simp only [go_sem, Nat.reduceEqDiff, ↓reduceIte, Bool.false_eq_true, Nat.reduceAdd, Nat.reduceSub, Nat.reduceBNe, Nat.reduceBEq, Nat.reduceLT, Nat.reduceLeDiff, Nat.reduceMul, Nat.zero_lt_succ, Nat.lt_add_one, Nat.zero_lt_one, Int.reduceToNat, false_implies, true_implies, or_self, or_false, false_or, or_true, true_or, Nat.add_le_add_iff_right, true_and, and_true, forall_const, implies_true, List.contains_cons, List.contains_nil, List.all_cons, List.all_nil, bne_self_eq_false, Option.isSome_none, Option.isSome_some, Bool.or_false, Bool.false_or, Bool.true_or, Bool.or_true, ne_eq, not_false_eq_true, not_true_eq_false, beq_self_eq_true, cond_true, cond_false, Prod.mk.injEq, and_self, reduceCtorEq, BEq.rfl, Bool.and_true, Bool.true_and, Bool.and_false, Bool.false_and, Tryz.f10]
  refine ⟨_, fun _ => encodeX_ok t hn, ?_, ?_⟩
  focus (first | exact fun _ => rfl | exact fun h0 => absurd h0 (by decide))
  simp only [go_sem, Nat.reduceEqDiff, ↓reduceIte, Bool.false_eq_true, Nat.reduceAdd, Nat.reduceSub, Nat.reduceBNe, Nat.reduceBEq, Nat.reduceLT, Nat.reduceLeDiff, Nat.reduceMul, Nat.zero_lt_succ, Nat.lt_add_one, Nat.zero_lt_one, Int.reduceToNat, false_implies, true_implies, or_self, or_false, false_or, or_true, true_or, Nat.add_le_add_iff_right, true_and, and_true, forall_const, implies_true, List.contains_cons, List.contains_nil, List.all_cons, List.all_nil, bne_self_eq_false, Option.isSome_none, Option.isSome_some, Bool.or_false, Bool.false_or, Bool.true_or, Bool.or_true, ne_eq, not_false_eq_true, not_true_eq_false, beq_self_eq_true, cond_true, cond_false, Prod.mk.injEq, and_self, reduceCtorEq, BEq.rfl, Bool.and_true, Bool.true_and, Bool.and_false, Bool.false_and]
  intro h
  rw [hv] at h
  cases h
theorem encode_nd {t : It} (hv : validR t = 0) (hn : t.nCh * 8 ≤ 140737488351232) : FnD Tryz.prog 4 [.d (iD t)] [(encNd t).D, .int .i64 0] := by
  have h := encodeX_ok t hn
  rw [hv, show encX t = encNd t from if_pos hv] at h
  exact h
theorem digest_good (t : It) (hn : t.nCh * 8 ≤ 140737488351232) (hv : validR t = 0) (hg : (encNd t).good 1) (hl : (ndB (encNd t)).length ≤ 1048576) : FnD Tryz.prog 10 [.d (iD t)] [.int .u64 (digN (encNd t)), .int .i64 0] := by
  refine fnD_intro (H := { nt := Go.Func.ntmps Tryz.f10 }) Tryz.func10 rfl rfl rfl rfl (Nat.le_of_ble_eq_true rfl) (okC_tri (by kernel_rfl) _ _ _ _ (by kernel_rfl) ?_)
  simp only [go_sem, Nat.reduceEqDiff, ↓reduceIte, Bool.false_eq_true, Nat.reduceAdd, Nat.reduceSub, Nat.reduceBNe, Nat.reduceBEq, Nat.reduceLT, Nat.reduceLeDiff, Nat.reduceMul, Nat.zero_lt_succ, Nat.lt_add_one, Nat.zero_lt_one, Int.reduceToNat, false_implies, true_implies, or_self, or_false, false_or, or_true, true_or, Nat.add_le_add_iff_right, true_and, and_true, forall_const, implies_true, List.contains_cons, List.contains_nil, List.all_cons, List.all_nil, bne_self_eq_false, Option.isSome_none, Option.isSome_some, Bool.or_false, Bool.false_or, Bool.true_or, Bool.or_true, ne_eq, not_false_eq_true, not_true_eq_false, beq_self_eq_true, cond_true, cond_false, Prod.mk.injEq, and_self, reduceCtorEq, BEq.rfl, Bool.and_true, Bool.true_and, Bool.and_false, Bool.false_and, Tryz.f10]
  refine ⟨_, fun _ => encode_nd hv hn, ?_, ?_⟩
  focus (first | exact fun _ => rfl | exact fun h0 => absurd h0 (by decide))
  simp only [go_sem, Nat.reduceEqDiff, ↓reduceIte, Bool.false_eq_true, Nat.reduceAdd, Nat.reduceSub, Nat.reduceBNe, Nat.reduceBEq, Nat.reduceLT, Nat.reduceLeDiff, Nat.reduceMul, Nat.zero_lt_succ, Nat.lt_add_one, Nat.zero_lt_one, Int.reduceToNat, false_implies, true_implies, or_self, or_false, false_or, or_true, true_or, Nat.add_le_add_iff_right, true_and, and_true, forall_const, implies_true, List.contains_cons, List.contains_nil, List.all_cons, List.all_nil, bne_self_eq_false, Option.isSome_none, Option.isSome_some, Bool.or_false, Bool.false_or, Bool.true_or, Bool.or_true, ne_eq, not_false_eq_true, not_true_eq_false, beq_self_eq_true, cond_true, cond_false, Prod.mk.injEq, and_self, reduceCtorEq, BEq.rfl, Bool.and_true, Bool.true_and, Bool.and_false, Bool.false_and]
  refine ⟨_, fun _ => cenc_ok (encNd t) hg hl, ?_, ?_⟩
  focus (first | exact fun _ => rfl | exact fun h0 => absurd h0 (by decide))
  simp only [go_sem, Nat.reduceEqDiff, ↓reduceIte, Bool.false_eq_true, Nat.reduceAdd, Nat.reduceSub, Nat.reduceBNe, Nat.reduceBEq, Nat.reduceLT, Nat.reduceLeDiff, Nat.reduceMul, Nat.zero_lt_succ, Nat.lt_add_one, Nat.zero_lt_one, Int.reduceToNat, false_implies, true_implies, or_self, or_false, false_or, or_true, true_or, Nat.add_le_add_iff_right, true_and, and_true, forall_const, implies_true, List.contains_cons, List.contains_nil, List.all_cons, List.all_nil, bne_self_eq_false, Option.isSome_none, Option.isSome_some, Bool.or_false, Bool.false_or, Bool.true_or, Bool.or_true, ne_eq, not_false_eq_true, not_true_eq_false, beq_self_eq_true, cond_true, cond_false, Prod.mk.injEq, and_self, reduceCtorEq, BEq.rfl, Bool.and_true, Bool.true_and, Bool.and_false, Bool.false_and]
  refine ⟨_, fun _ => dof_nd (encNd t), ?_, ?_⟩
  focus (first | exact fun _ => rfl | exact fun h0 => absurd h0 (by decide))
  simp only [go_sem, Nat.reduceEqDiff, ↓reduceIte, Bool.false_eq_true, Nat.reduceAdd, Nat.reduceSub, Nat.reduceBNe, Nat.reduceBEq, Nat.reduceLT, Nat.reduceLeDiff, Nat.reduceMul, Nat.zero_lt_succ, Nat.lt_add_one, Nat.zero_lt_one, Int.reduceToNat, false_implies, true_implies, or_self, or_false, false_or, or_true, true_or, Nat.add_le_add_iff_right, true_and, and_true, forall_const, implies_true, List.contains_cons, List.contains_nil, List.all_cons, List.all_nil, bne_self_eq_false, Option.isSome_none, Option.isSome_some, Bool.or_false, Bool.false_or, Bool.true_or, Bool.or_true, ne_eq, not_false_eq_true, not_true_eq_false, beq_self_eq_true, cond_true, cond_false, Prod.mk.injEq, and_self, reduceCtorEq, BEq.rfl, Bool.and_true, Bool.true_and, Bool.and_false, Bool.false_and]
end Go.Proofs.YtnhpgmmhfgdmjaaGreat.P14
/- Proved here: contracts of functions of this chapter: called with these values, each returns these values and changes nothing that was. Conditions: none but those that each theorem names. -/
set_option linter.unusedVariables false
set_option linter.unusedSimpArgs false
open Go Go.Proofs Go.Ev Go.Proofs.P14
namespace Go.Proofs.YtnhpgmmhfgdmjaaGreat.P14
set_option maxRecDepth 100000
def i64 (n : Int) : Prop := -9223372036854775808 ≤ n ∧ n ≤ 9223372036854775807
theorem i64_of {n lo hi : Int} (h : inR n lo hi = true) (h1 : -9223372036854775808 ≤ lo) (h2 : hi ≤ 9223372036854775807) : i64 n := by
  have := inR_of h
  exact ⟨by omega, by omega⟩
theorem fit_vals {t : It} (h : fitR t = true) (hk : inR t.kind 1 6 = true) (ho : t.nOpt ≤ 10) : i64 t.value ∧ i64 t.tol ∧ ∀ i, i < t.nCh → i64 (t.ch i) := by
  unfold fitR at h
  cases f1 : fit1 t with
  | true => simp [f1] at h
  | false =>
  cases f2 : fit2 t with
  | true => simp [f1, f2] at h
  | false =>
  simp only [f1, f2, cond_false] at h
  have hk' := inR_of hk
  have z : i64 0 := ⟨by decide, by decide⟩
  have hri : ∀ {a : Nat → Int} {n : Nat}, riR n a 0 ((t.nOpt : Int) - 1) = true → ∀ i, i < n → i64 (a i) := fun hr i hi => by
    have := riR_le hr i hi
    exact ⟨by omega, by omega⟩
  by_cases k4 : t.kind = 4
  · simp [k4] at h
    unfold fit1 at f1
    simp [k4] at f1
    exact ⟨i64_of h.1 (by decide) (by decide), i64_of h.2 (by decide) (by decide), fun i hi => by omega⟩
  · have hv : t.value = 0 ∧ t.tol = 0 := by
      unfold fit1 at f1
      have e4 : (t.kind != 4) = true := by simpa using k4
      rw [e4] at f1
      have hA : ∀ A B : Bool, (bif A then true else B) = false → B = false := by decide
      have := hA _ _ f1
      simpa using this
    rw [hv.1, hv.2]
    refine ⟨z, z, ?_⟩
    by_cases k1 : t.kind = 1
    · simp [k1] at h
      exact hri h.2
    by_cases k2 : t.kind = 2
    · simp [k2] at h
      exact hri h.2
    by_cases k3 : t.kind = 3
    · simp [k3] at h
      intro i hi
      have hm : t.ch i ∈ sortL t.ch t.nCh := by
        rw [sortL, List.mem_mergeSort]
        simp only [upto, List.mem_map, List.mem_range]
        exact ⟨i, hi, rfl⟩
      obtain ⟨j, hj, he⟩ := List.getElem_of_mem hm
      rw [sortL_length] at hj
      have := hri h.2 j hj
      rw [sortI, List.getElem?_eq_getElem (by rw [sortL_length]; exact hj), he] at this
      exact this
    · intro i hi
      unfold fit1 at f1
      simp [k1, k2, k3] at f1
      omega
theorem pr_size {b : ByteArray} {m : Int} {f : Bool} (h : prR b m f = true) : (b.size : Int) ≤ m := by
  simp only [prR, Bool.and_eq_true] at h
  exact (inR_of h.2).2
theorem con_size {b : ByteArray} (h : conR b = true) : b.size ≤ 24 := by
  unfold conR at h
  cases hc : decide (24 < (b.size : Int)) with
  | true => rw [hc] at h; cases h
  | false => simp at hc; omega
theorem good_int {lvl : Nat} {t : Nat} {n : Int} (hl : lvl ≤ 8) (ht : t ≤ 9999999) (h : i64 n) : (Nd.leaf t 1 n ⟨#[]⟩).good lvl := ⟨hl, by omega, by omega, .inl ⟨rfl, rfl, h.1, h.2⟩⟩
theorem good_str {lvl : Nat} {t : Nat} {s : ByteArray} (hl : lvl ≤ 8) (ht : t ≤ 9999999) (h : s.size ≤ 2000) : (Nd.leaf t 2 0 s).good lvl := ⟨hl, by omega, by omega, .inr ⟨rfl, rfl, h⟩⟩
theorem len_leaf {lvl : Nat} {t k n : Int} {s : ByteArray} (h : (Nd.leaf t k n s).good lvl) : (ndB (.leaf t k n s)).length ≤ 15 + s.size := by
  obtain ⟨_, h1, h2, h3⟩ := h
  obtain ⟨t, rfl⟩ : ∃ u : Nat, t = u := ⟨t.toNat, by omega⟩
  have h4 : vsz t ≤ 4 := vszl (by omega)
  rcases h3 with ⟨rfl, rfl, h3, h5⟩ | ⟨rfl, rfl, h3⟩
  · obtain ⟨z, hz, hz2⟩ := zz_range n
    have h6 := vsz_le 9 z (Nat.lt_of_lt_of_le hz2 (by decide))
    simp only [ndB, if_true, hz, Int.toNat_natCast, List.length_append, List.length_cons, List.length_nil, vb_length]
    omega
  · have h6 := vsz_le 9 s.size (by omega)
    have e : ndB (.leaf t 2 0 s) = vb t ++ [2] ++ (vb s.size ++ sb s) := by simp only [ndB, Int.toNat_natCast]; rfl
    rw [e]
    simp only [List.length_append, List.length_cons, List.length_nil, vb_length, sb_length]
    omega
theorem cat_le (B : Nat → List Int) (c : Nat) : ∀ m, (∀ i, i < m → (B i).length ≤ c) → (catN B m).length ≤ m * c
  | 0, _ => by simp [catN]
  | m + 1, h => by
    have h1 := cat_le B c m fun i hi => h i (by omega)
    have h2 := h m (by omega)
    simp only [catN, List.length_append, Nat.succ_mul]
    omega
theorem len_list {t : Nat} {m : Nat} {f : Nat → Nd} (c : Nat) (ht : t ≤ 9999999) (hm : m ≤ 1024) (h : ∀ i, i < m → (ndB (f i)).length ≤ c) : (ndB (.mk t 3 0 ⟨#[]⟩ m f)).length ≤ 15 + m * c := by
  have h4 : vsz t ≤ 4 := vszl ht
  have h6 := vsz_le 9 m (by omega)
  have h7 := cat_le (fun i => ndB (f i)) c m h
  simp only [ndB, Int.toNat_natCast, List.length_append, List.length_cons, List.length_nil, vb_length]
  omega
theorem enc_good {t : It} (hv : validR t = 0) : (encNd t).good 1 ∧ (ndB (encNd t)).length ≤ 1048576 := by
  have hp := valid_parts hv
  have hl := long_le hp.long
  have hc := fit_ch hp.fit hp.kind hl.1
  obtain ⟨v1, v2, v3⟩ := fit_vals hp.fit hp.kind hl.1
  have hn := hp.num
  simp only [numR, Bool.and_eq_true] at hn
  obtain ⟨⟨⟨⟨⟨⟨⟨n1, n2⟩, n3⟩, n4⟩, n5⟩, n6⟩, n7⟩, n8⟩ := hn
  have hs := hp.str
  simp only [strR, Bool.and_eq_true, linesR] at hs
  obtain ⟨⟨⟨s1, s2⟩, s3⟩, s4⟩ := hs
  have t1 : ∀ i, i < t.nOpt → (t.opt i).size ≤ 200 := fun i hi => by have := pr_size (allN_at s1 hi); omega
  have t2 : ∀ i, i < t.nTx → (t.tx i).size ≤ 200 := fun i hi => by have := pr_size (allN_at s2 hi); omega
  have t3 : t.stem.size ≤ 2000 := by have := pr_size s3; omega
  have t4 := con_size s4
  have a1 : ∀ i, i < t.nAs → i64 (t.ass i) := fun i hi => by have := riR_le hp.ris i hi; exact ⟨by omega, by omega⟩
  have kid : ∀ i, i < 17 → (encN t i).good 2 ∧ (ndB (encN t i)).length ≤ 2500 := by
    have gi : ∀ (k : Nat) (n : Int), k ≤ 20 → i64 n → (Nd.leaf k 1 n ⟨#[]⟩).good 2 ∧ (ndB (.leaf k 1 n ⟨#[]⟩)).length ≤ 2500 := fun k n hk h => by
      have g := good_int (lvl := 2) (t := k) (by omega) (by omega) h
      have : (ndB (.leaf k 1 n ⟨#[]⟩)).length ≤ 15 := len_leaf g
      exact ⟨g, by omega⟩
    have gs : ∀ (k : Nat) (s : ByteArray), k ≤ 20 → s.size ≤ 2000 → (Nd.leaf k 2 0 s).good 2 ∧ (ndB (.leaf k 2 0 s)).length ≤ 2500 := fun k s hk h => by
      have g := good_str (lvl := 2) (t := k) (by omega) (by omega) h
      have := len_leaf g
      exact ⟨g, by omega⟩
    have gl : ∀ (k m : Nat) (f : Nat → Nd), k ≤ 20 → m ≤ 10 → (∀ i, i < m → (f i).good 3 ∧ (ndB (f i)).length ≤ 215) → (Nd.mk k 3 0 ⟨#[]⟩ m f).good 2 ∧ (ndB (.mk k 3 0 ⟨#[]⟩ m f)).length ≤ 2500 := fun k m f hk hm h => by
      have := len_list (t := k) (m := m) (f := f) 215 (by omega) (by omega) fun i hi => (h i hi).2
      exact ⟨⟨by omega, by omega, by omega, rfl, rfl, rfl, by omega, fun i hi => (h i hi).1⟩, by omega⟩
    have ki : ∀ n : Int, i64 n → (Nd.leaf 0 1 n ⟨#[]⟩).good 3 ∧ (ndB (.leaf 0 1 n ⟨#[]⟩)).length ≤ 215 := fun n h => by
      have g := good_int (lvl := 3) (t := 0) (by omega) (by omega) h
      have : (ndB (.leaf 0 1 n ⟨#[]⟩)).length ≤ 15 := len_leaf g
      exact ⟨g, by omega⟩
    have ks : ∀ s : ByteArray, s.size ≤ 200 → (Nd.leaf 0 2 0 s).good 3 ∧ (ndB (.leaf 0 2 0 s)).length ≤ 215 := fun s h => by
      have g := good_str (lvl := 3) (t := 0) (s := s) (by omega) (by omega) (by omega)
      have : (ndB (.leaf 0 2 0 s)).length ≤ 15 + s.size := len_leaf g
      exact ⟨g, by omega⟩
    have d : ∀ {n lo hi : Int}, inR n lo hi = true → -9223372036854775808 ≤ lo → hi ≤ 9223372036854775807 → i64 n := i64_of
    intro i hi
    rcases i with _|_|_|_|_|_|_|_|_|_|_|_|_|_|_|_|_|i
    · exact gi 1 _ (by omega) (d n1 (by decide) (by decide))
    · exact gi 2 _ (by omega) (d n2 (by decide) (by decide))
    · exact gi 3 _ (by omega) (d hp.kind (by decide) (by decide))
    · exact gs 4 _ (by omega) t3
    · exact gl 5 _ _ (by omega) hl.1 fun i hi => ks _ (t1 i hi)
    · exact gl 6 _ _ (by omega) hc fun i hi => ki _ (v3 i hi)
    · exact gi 7 _ (by omega) v1
    · exact gi 8 _ (by omega) v2
    · exact gl 9 _ _ (by omega) hl.2.1 fun i hi => ks _ (t2 i hi)
    · exact gi 10 _ (by omega) (d n3 (by decide) (by decide))
    · exact gs 11 _ (by omega) (by omega)
    · exact gi 12 _ (by omega) (d n6 (by decide) (by decide))
    · exact gi 13 _ (by omega) (d n7 (by decide) (by decide))
    · exact gi 14 _ (by omega) (d n4 (by decide) (by decide))
    · exact gi 15 _ (by omega) (d n5 (by decide) (by decide))
    · exact gl 16 _ _ (by omega) (by omega) fun i hi => ki _ (a1 i hi)
    · exact gi 17 _ (by omega) (d n8 (by decide) (by decide))
    · omega
  have := len_list (t := 14) (m := 17) (f := encN t) 2500 (by omega) (by omega) fun i hi => (kid i hi).2
  exact ⟨⟨by omega, by omega, by omega, rfl, rfl, rfl, by omega, fun i hi => (kid i hi).1⟩, Nat.le_trans this (by decide)⟩
end Go.Proofs.YtnhpgmmhfgdmjaaGreat.P14

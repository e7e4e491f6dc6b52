/- Proved here: contracts of functions of this chapter: called with these values, each returns these values and changes nothing that was. Conditions: none but those that each theorem names. -/
import Derived.Test.YtnhpgmmhfgdmjaaGreatZ3
set_option linter.unusedVariables false
set_option linter.unusedSimpArgs false
open Go Go.Proofs Go.Ev
namespace Go.Proofs.YtnhpgmmhfgdmjaaGreat.P14
set_option maxRecDepth 100000
theorem wr_int (l : List Int) (t : Nat) (n : Int) (z : Nat) (ht : t ≤ 9999999) (h1 : -9223372036854775808 ≤ n) (h2 : n ≤ 9223372036854775807) (hz : zz n = z) (hz2 : z < 18446744073709551616) (hl : l.length ≤ 1048576) :
    FnB Tryz.prog 63 5 1 l.length (bF l) [.agg [.int .i64 t, .int .i64 1, .int .i64 n, .str ⟨#[]⟩, .nil]] (l ++ vb t ++ [1] ++ vb z).length (bF (l ++ vb t ++ [1] ++ vb z)) := by
  unfold FnB
  refine FnE.le ?_
  refine fnE_intro (H := { nt := Go.Func.ntmps Tryz.f63, lo := 1, fb := [80], ts := [(3, T1), (10, T6)], wr := [27] }) Tryz.func63 rfl rfl rfl rfl (Nat.le_of_ble_eq_true rfl) (okC_tri (by kernel_rfl) _ _ _ _ (by kernel_rfl) ?_)
  simp only [go_sem, Nat.reduceEqDiff, ↓reduceIte, Bool.false_eq_true, Nat.reduceAdd, Nat.reduceSub, Nat.reduceBNe, Nat.reduceBEq, Nat.reduceLT, Nat.reduceLeDiff, Nat.reduceMul, Nat.zero_lt_succ, Nat.lt_add_one, Nat.zero_lt_one, Int.reduceToNat, false_implies, true_implies, or_self, or_false, false_or, or_true, true_or, Nat.add_le_add_iff_right, true_and, and_true, forall_const, implies_true, List.contains_cons, List.contains_nil, List.all_cons, List.all_nil, bne_self_eq_false, Option.isSome_none, Option.isSome_some, Bool.or_false, Bool.false_or, Bool.true_or, Bool.or_true, ne_eq, not_false_eq_true, not_true_eq_false, beq_self_eq_true, cond_true, cond_false, Prod.mk.injEq, and_self, reduceCtorEq, BEq.rfl, Bool.and_true, Bool.true_and, Bool.and_false, Bool.false_and, Tryz.f63, bsz, List.append_eq, T1, T6]
  have e0 : decide (1048576 < (l.length : Int)) = false := decide_eq_false (by omega)
  rw [e0, wrapN t (by omega)]
  have ht4 := vszl ht
  have hlen : (l ++ vb t ++ [1]).length = l.length + vsz t + 1 := by simp only [List.length_append, List.length_cons, List.length_nil, vb_length]
  have hp := rvarint_ok l t (by omega) (by omega)
  have hj : joinF (l ++ vb t).length (bF (l ++ vb t)) (fun i => [DV.int IntKind.u8 (IntKind.u8.wrap 1)].getD i (DV.int IntKind.u8 0)) = bF (l ++ vb t ++ [1]) := bF_snoc _ _
  have hn : (l ++ vb t).length + 1 = (l ++ vb t ++ [1]).length := by simp only [List.length_append, List.length_cons, List.length_nil]
  refine fun _ => ⟨nofun, fun _ => ⟨[(0, .own 0 0 (l ++ vb t ++ [1]).length), (3, .ptr 1 0)], [.arr 5 1 (l ++ vb t ++ [1]).length (bF (l ++ vb t ++ [1])), .box [.d (.int .i64 t), .d (.int .i64 1), .d (.int .i64 n), .d (.str ⟨#[]⟩), .d .nil]], ?_, ?_⟩⟩
  · simp only [go_sem, Nat.reduceEqDiff, ↓reduceIte, Bool.false_eq_true, Nat.reduceAdd, Nat.reduceSub, Nat.reduceBNe, Nat.reduceBEq, Nat.reduceLT, Nat.reduceLeDiff, Nat.reduceMul, Nat.zero_lt_succ, Nat.lt_add_one, Nat.zero_lt_one, Int.reduceToNat, false_implies, true_implies, or_self, or_false, false_or, or_true, true_or, Nat.add_le_add_iff_right, true_and, and_true, forall_const, implies_true, List.contains_cons, List.contains_nil, List.all_cons, List.all_nil, bne_self_eq_false, Option.isSome_none, Option.isSome_some, Bool.or_false, Bool.false_or, Bool.true_or, Bool.or_true, ne_eq, not_false_eq_true, not_true_eq_false, beq_self_eq_true, cond_true, cond_false, Prod.mk.injEq, and_self, reduceCtorEq, BEq.rfl, Bool.and_true, Bool.true_and, Bool.and_false, Bool.false_and]
    refine ⟨_, _, hp, ?_⟩
    rw [hj, hn, hlen]
    exact ⟨⟨by omega, by omega⟩, rfl, rfl⟩
  · simp only [go_sem, Nat.reduceEqDiff, ↓reduceIte, Bool.false_eq_true, Nat.reduceAdd, Nat.reduceSub, Nat.reduceBNe, Nat.reduceBEq, Nat.reduceLT, Nat.reduceLeDiff, Nat.reduceMul, Nat.zero_lt_succ, Nat.lt_add_one, Nat.zero_lt_one, Int.reduceToNat, false_implies, true_implies, or_self, or_false, false_or, or_true, true_or, Nat.add_le_add_iff_right, true_and, and_true, forall_const, implies_true, List.contains_cons, List.contains_nil, List.all_cons, List.all_nil, bne_self_eq_false, Option.isSome_none, Option.isSome_some, Bool.or_false, Bool.false_or, Bool.true_or, Bool.or_true, ne_eq, not_false_eq_true, not_true_eq_false, beq_self_eq_true, cond_true, cond_false, Prod.mk.injEq, and_self, reduceCtorEq, BEq.rfl, Bool.and_true, Bool.true_and, Bool.and_false, Bool.false_and]
    have hw : ∀ m : Int, 0 ≤ m → m < 18446744073709551616 → IntKind.u64.wrap m = m := fun m h0 h1 => by
      obtain ⟨k, rfl⟩ : ∃ k : Nat, m = k := ⟨m.toNat, by omega⟩
      exact wrapN k (by omega)
    have hlenz : (l ++ vb t ++ [1]).length ≤ 100000000 := by omega
    refine ⟨fun h => ?_, fun h => ?_⟩
    · have h := of_decide_eq_true h
      have ez := zz_neg h h1
      rw [hw (0 - (n + 1)) (by omega) (by omega), show 2 * (0 - (n + 1)) + 1 = (z : Int) by omega]
      refine ⟨⟨by omega, by omega⟩, ⟨by omega, by omega⟩, ⟨by omega, by omega⟩, ⟨by omega, by omega⟩, _, _, rvarint_ok (l ++ vb t ++ [1]) z hz2 hlenz, ?_⟩
      exact ⟨[.arr 5 1 (l ++ vb t ++ [1] ++ vb z).length (bF (l ++ vb t ++ [1] ++ vb z))], ⟨⟨rfl, trivial⟩, rfl⟩, rfl, rfl⟩
    · have h := of_decide_eq_false h
      have ez := zz_pos (by omega) h2
      rw [hw n (by omega) (by omega), hw (2 * n) (by omega) (by omega), show 2 * n = (z : Int) by omega]
      refine ⟨_, _, rvarint_ok (l ++ vb t ++ [1]) z hz2 hlenz, ?_⟩
      exact ⟨[.arr 5 1 (l ++ vb t ++ [1] ++ vb z).length (bF (l ++ vb t ++ [1] ++ vb z))], ⟨⟨rfl, trivial⟩, rfl⟩, rfl, rfl⟩
theorem wr_str (l : List Int) (t : Nat) (s : ByteArray) (ht : t ≤ 9999999) (hs : s.size ≤ 10000000) (hl : l.length ≤ 1048576) :
    FnB Tryz.prog 63 5 1 l.length (bF l) [.agg [.int .i64 t, .int .i64 2, .int .i64 0, .str s, .nil]] (l ++ vb t ++ [2] ++ vb s.size ++ sb s).length (bF (l ++ vb t ++ [2] ++ vb s.size ++ sb s)) := by
  unfold FnB
  refine FnE.le ?_
  refine fnE_intro (H := { nt := Go.Func.ntmps Tryz.f63, lo := 1, fb := [80], ts := [(3, T1), (10, T6)], wr := [27] }) Tryz.func63 rfl rfl rfl rfl (Nat.le_of_ble_eq_true rfl) (okC_tri (by kernel_rfl) _ _ _ _ (by kernel_rfl) ?_)
  simp only [go_sem, Nat.reduceEqDiff, ↓reduceIte, Bool.false_eq_true, Nat.reduceAdd, Nat.reduceSub, Nat.reduceBNe, Nat.reduceBEq, Nat.reduceLT, Nat.reduceLeDiff, Nat.reduceMul, Nat.zero_lt_succ, Nat.lt_add_one, Nat.zero_lt_one, Int.reduceToNat, false_implies, true_implies, or_self, or_false, false_or, or_true, true_or, Nat.add_le_add_iff_right, true_and, and_true, forall_const, implies_true, List.contains_cons, List.contains_nil, List.all_cons, List.all_nil, bne_self_eq_false, Option.isSome_none, Option.isSome_some, Bool.or_false, Bool.false_or, Bool.true_or, Bool.or_true, ne_eq, not_false_eq_true, not_true_eq_false, beq_self_eq_true, cond_true, cond_false, Prod.mk.injEq, and_self, reduceCtorEq, BEq.rfl, Bool.and_true, Bool.true_and, Bool.and_false, Bool.false_and, Tryz.f63, bsz, List.append_eq, T1, T6]
  have e0 : decide (1048576 < (l.length : Int)) = false := decide_eq_false (by omega)
  rw [e0, wrapN t (by omega)]
  have ht4 := vszl ht
  have hs4 : vsz s.size ≤ 10 := vsz_le 9 s.size (by omega)
  have hlen : (l ++ vb t ++ [2]).length = l.length + vsz t + 1 := by simp only [List.length_append, List.length_cons, List.length_nil, vb_length]
  have hp := rvarint_ok l t (by omega) (by omega)
  have hj : joinF (l ++ vb t).length (bF (l ++ vb t)) (fun i => [DV.int IntKind.u8 (IntKind.u8.wrap 2)].getD i (DV.int IntKind.u8 0)) = bF (l ++ vb t ++ [2]) := bF_snoc _ _
  have hn : (l ++ vb t).length + 1 = (l ++ vb t ++ [2]).length := by simp only [List.length_append, List.length_cons, List.length_nil]
  refine fun _ => ⟨nofun, fun _ => ⟨[(0, .own 0 0 (l ++ vb t ++ [2]).length), (3, .ptr 1 0)], [.arr 5 1 (l ++ vb t ++ [2]).length (bF (l ++ vb t ++ [2])), .box [.d (.int .i64 t), .d (.int .i64 2), .d (.int .i64 0), .d (.str s), .d .nil]], ?_, ?_⟩⟩
  · simp only [go_sem, Nat.reduceEqDiff, ↓reduceIte, Bool.false_eq_true, Nat.reduceAdd, Nat.reduceSub, Nat.reduceBNe, Nat.reduceBEq, Nat.reduceLT, Nat.reduceLeDiff, Nat.reduceMul, Nat.zero_lt_succ, Nat.lt_add_one, Nat.zero_lt_one, Int.reduceToNat, false_implies, true_implies, or_self, or_false, false_or, or_true, true_or, Nat.add_le_add_iff_right, true_and, and_true, forall_const, implies_true, List.contains_cons, List.contains_nil, List.all_cons, List.all_nil, bne_self_eq_false, Option.isSome_none, Option.isSome_some, Bool.or_false, Bool.false_or, Bool.true_or, Bool.or_true, ne_eq, not_false_eq_true, not_true_eq_false, beq_self_eq_true, cond_true, cond_false, Prod.mk.injEq, and_self, reduceCtorEq, BEq.rfl, Bool.and_true, Bool.true_and, Bool.and_false, Bool.false_and]
    refine ⟨_, _, hp, ?_⟩
    rw [hj, hn, hlen]
    exact ⟨⟨by omega, by omega⟩, rfl, rfl⟩
  · simp only [go_sem, Nat.reduceEqDiff, ↓reduceIte, Bool.false_eq_true, Nat.reduceAdd, Nat.reduceSub, Nat.reduceBNe, Nat.reduceBEq, Nat.reduceLT, Nat.reduceLeDiff, Nat.reduceMul, Nat.zero_lt_succ, Nat.lt_add_one, Nat.zero_lt_one, Int.reduceToNat, false_implies, true_implies, or_self, or_false, false_or, or_true, true_or, Nat.add_le_add_iff_right, true_and, and_true, forall_const, implies_true, List.contains_cons, List.contains_nil, List.all_cons, List.all_nil, bne_self_eq_false, Option.isSome_none, Option.isSome_some, Bool.or_false, Bool.false_or, Bool.true_or, Bool.or_true, ne_eq, not_false_eq_true, not_true_eq_false, beq_self_eq_true, cond_true, cond_false, Prod.mk.injEq, and_self, reduceCtorEq, BEq.rfl, Bool.and_true, Bool.true_and, Bool.and_false, Bool.false_and]
    refine ⟨fun h => absurd h (by decide), fun _ => ?_⟩
    rw [wrapN s.size (by omega)]
    have hp2 := rvarint_ok (l ++ vb t ++ [2]) s.size (by omega) (by omega)
    have hj2 := bF_str (l ++ vb t ++ [2] ++ vb s.size) s
    have hlen2 : (l ++ vb t ++ [2] ++ vb s.size).length = l.length + vsz t + 1 + vsz s.size := by rw [List.length_append, hlen, vb_length]
    have hn2 : (l ++ vb t ++ [2] ++ vb s.size).length + s.size = (l ++ vb t ++ [2] ++ vb s.size ++ sb s).length := by rw [List.length_append (bs := sb s), sb_length]
    refine ⟨[(4, .own 0 0 (l ++ vb t ++ [2] ++ vb s.size ++ sb s).length)], [.arr 5 1 (l ++ vb t ++ [2] ++ vb s.size ++ sb s).length (bF (l ++ vb t ++ [2] ++ vb s.size ++ sb s))], ?_, ?_⟩
    · simp only [go_sem, Nat.reduceEqDiff, ↓reduceIte, Bool.false_eq_true, Nat.reduceAdd, Nat.reduceSub, Nat.reduceBNe, Nat.reduceBEq, Nat.reduceLT, Nat.reduceLeDiff, Nat.reduceMul, Nat.zero_lt_succ, Nat.lt_add_one, Nat.zero_lt_one, Int.reduceToNat, false_implies, true_implies, or_self, or_false, false_or, or_true, true_or, Nat.add_le_add_iff_right, true_and, and_true, forall_const, implies_true, List.contains_cons, List.contains_nil, List.all_cons, List.all_nil, bne_self_eq_false, Option.isSome_none, Option.isSome_some, Bool.or_false, Bool.false_or, Bool.true_or, Bool.or_true, ne_eq, not_false_eq_true, not_true_eq_false, beq_self_eq_true, cond_true, cond_false, Prod.mk.injEq, and_self, reduceCtorEq, BEq.rfl, Bool.and_true, Bool.true_and, Bool.and_false, Bool.false_and]
      refine fun _ => ⟨_, _, hp2, ?_⟩
      rw [hj2, hn2, ← hn2, hlen2]
      exact ⟨⟨by omega, by omega⟩, rfl, rfl⟩
    · simp only [go_sem, Nat.reduceEqDiff, ↓reduceIte, Bool.false_eq_true, Nat.reduceAdd, Nat.reduceSub, Nat.reduceBNe, Nat.reduceBEq, Nat.reduceLT, Nat.reduceLeDiff, Nat.reduceMul, Nat.zero_lt_succ, Nat.lt_add_one, Nat.zero_lt_one, Int.reduceToNat, false_implies, true_implies, or_self, or_false, false_or, or_true, true_or, Nat.add_le_add_iff_right, true_and, and_true, forall_const, implies_true, List.contains_cons, List.contains_nil, List.all_cons, List.all_nil, bne_self_eq_false, Option.isSome_none, Option.isSome_some, Bool.or_false, Bool.false_or, Bool.true_or, Bool.or_true, ne_eq, not_false_eq_true, not_true_eq_false, beq_self_eq_true, cond_true, cond_false, Prod.mk.injEq, and_self, reduceCtorEq, BEq.rfl, Bool.and_true, Bool.true_and, Bool.and_false, Bool.false_and]
      exact ⟨[.arr 5 1 (l ++ vb t ++ [2] ++ vb s.size ++ sb s).length (bF (l ++ vb t ++ [2] ++ vb s.size ++ sb s))], ⟨⟨rfl, trivial⟩, rfl⟩, rfl⟩
theorem wr_list (l : List Int) (t m : Nat) (f : Nat → Nd) (B : Nat → List Int) (ht : t ≤ 9999999) (hm : m ≤ 1000000) (hl : l.length + vsz t + 1 + vsz m + (catN B m).length ≤ 1048576) (hk : ∀ i, i < m → ∀ l : List Int, l.length + (B i).length ≤ 1048576 → FnB Tryz.prog 63 5 1 l.length (bF l) [(f i).D] (l ++ B i).length (bF (l ++ B i))) :
    FnB Tryz.prog 63 5 1 l.length (bF l) [.agg [.int .i64 t, .int .i64 3, .int .i64 0, .str ⟨#[]⟩, .list 5 m fun i => (f i).D]] (l ++ vb t ++ [3] ++ vb m ++ catN B m).length (bF (l ++ vb t ++ [3] ++ vb m ++ catN B m)) := by
  unfold FnB
  refine FnE.le ?_
  refine fnE_intro (H := { nt := Go.Func.ntmps Tryz.f63, lo := 1, fb := [80, 63], ts := [(3, T1), (10, T6)], wr := [27] }) Tryz.func63 rfl rfl rfl rfl (Nat.le_of_ble_eq_true rfl) (okC_tri (by kernel_rfl) _ _ _ _ (by kernel_rfl) ?_)
  simp only [go_sem, Nat.reduceEqDiff, ↓reduceIte, Bool.false_eq_true, Nat.reduceAdd, Nat.reduceSub, Nat.reduceBNe, Nat.reduceBEq, Nat.reduceLT, Nat.reduceLeDiff, Nat.reduceMul, Nat.zero_lt_succ, Nat.lt_add_one, Nat.zero_lt_one, Int.reduceToNat, false_implies, true_implies, or_self, or_false, false_or, or_true, true_or, Nat.add_le_add_iff_right, true_and, and_true, forall_const, implies_true, List.contains_cons, List.contains_nil, List.all_cons, List.all_nil, bne_self_eq_false, Option.isSome_none, Option.isSome_some, Bool.or_false, Bool.false_or, Bool.true_or, Bool.or_true, ne_eq, not_false_eq_true, not_true_eq_false, beq_self_eq_true, cond_true, cond_false, Prod.mk.injEq, and_self, reduceCtorEq, BEq.rfl, Bool.and_true, Bool.true_and, Bool.and_false, Bool.false_and, Tryz.f63, bsz, List.append_eq, T1, T6]
  have e0 : decide (1048576 < (l.length : Int)) = false := decide_eq_false (by omega)
  rw [e0, wrapN t (by omega)]
  have ht4 := vszl ht
  have hm4 : vsz m ≤ 10 := vsz_le 9 m (by omega)
  have hlen : (l ++ vb t ++ [3]).length = l.length + vsz t + 1 := by simp only [List.length_append, List.length_cons, List.length_nil, vb_length]
  have hp := rvarint_ok l t (by omega) (by omega)
  have hj : joinF (l ++ vb t).length (bF (l ++ vb t)) (fun i => [DV.int IntKind.u8 (IntKind.u8.wrap 3)].getD i (DV.int IntKind.u8 0)) = bF (l ++ vb t ++ [3]) := bF_snoc _ _
  have hn : (l ++ vb t).length + 1 = (l ++ vb t ++ [3]).length := by simp only [List.length_append, List.length_cons, List.length_nil]
  refine fun _ => ⟨nofun, fun _ => ⟨[(0, .own 0 0 (l ++ vb t ++ [3]).length), (3, .ptr 1 0)], [.arr 5 1 (l ++ vb t ++ [3]).length (bF (l ++ vb t ++ [3])), .box [.d (.int .i64 t), .d (.int .i64 3), .d (.int .i64 0), .d (.str ⟨#[]⟩), .d (.list 5 m fun i => (f i).D)]], ?_, ?_⟩⟩
  · simp only [go_sem, Nat.reduceEqDiff, ↓reduceIte, Bool.false_eq_true, Nat.reduceAdd, Nat.reduceSub, Nat.reduceBNe, Nat.reduceBEq, Nat.reduceLT, Nat.reduceLeDiff, Nat.reduceMul, Nat.zero_lt_succ, Nat.lt_add_one, Nat.zero_lt_one, Int.reduceToNat, false_implies, true_implies, or_self, or_false, false_or, or_true, true_or, Nat.add_le_add_iff_right, true_and, and_true, forall_const, implies_true, List.contains_cons, List.contains_nil, List.all_cons, List.all_nil, bne_self_eq_false, Option.isSome_none, Option.isSome_some, Bool.or_false, Bool.false_or, Bool.true_or, Bool.or_true, ne_eq, not_false_eq_true, not_true_eq_false, beq_self_eq_true, cond_true, cond_false, Prod.mk.injEq, and_self, reduceCtorEq, BEq.rfl, Bool.and_true, Bool.true_and, Bool.and_false, Bool.false_and]
    refine ⟨_, _, hp, ?_⟩
    rw [hj, hn, hlen]
    exact ⟨⟨by omega, by omega⟩, rfl, rfl⟩
  · simp only [go_sem, Nat.reduceEqDiff, ↓reduceIte, Bool.false_eq_true, Nat.reduceAdd, Nat.reduceSub, Nat.reduceBNe, Nat.reduceBEq, Nat.reduceLT, Nat.reduceLeDiff, Nat.reduceMul, Nat.zero_lt_succ, Nat.lt_add_one, Nat.zero_lt_one, Int.reduceToNat, false_implies, true_implies, or_self, or_false, false_or, or_true, true_or, Nat.add_le_add_iff_right, true_and, and_true, forall_const, implies_true, List.contains_cons, List.contains_nil, List.all_cons, List.all_nil, bne_self_eq_false, Option.isSome_none, Option.isSome_some, Bool.or_false, Bool.false_or, Bool.true_or, Bool.or_true, ne_eq, not_false_eq_true, not_true_eq_false, beq_self_eq_true, cond_true, cond_false, Prod.mk.injEq, and_self, reduceCtorEq, BEq.rfl, Bool.and_true, Bool.true_and, Bool.and_false, Bool.false_and]
    refine ⟨fun h => absurd h (by decide), fun _ => ⟨fun h => absurd h (by decide), fun _ => ?_⟩⟩
    rw [wrapN m (by omega)]
    refine fun _ => ⟨_, _, rvarint_ok (l ++ vb t ++ [3]) m (by omega) (by omega), ?_⟩
    have hlenA : ∀ i, (l ++ vb t ++ [3] ++ vb m ++ catN B i).length = l.length + vsz t + 1 + vsz m + (catN B i).length := fun i => by rw [List.length_append, List.length_append, hlen, vb_length]
    refine ⟨{ i : Nat // i ≤ m }, fun i => ([(6, .d (.int .i64 i.1)), (3, .ptr 1 0), (0, .own 0 0 (l ++ vb t ++ [3] ++ vb m ++ catN B i.1).length)], [.arr 5 1 (l ++ vb t ++ [3] ++ vb m ++ catN B i.1).length (bF (l ++ vb t ++ [3] ++ vb m ++ catN B i.1)), .box [.d (.int .i64 t), .d (.int .i64 3), .d (.int .i64 0), .d (.str ⟨#[]⟩), .d (.list 5 m fun i => (f i).D)]]), fun i => m - i.1, ⟨0, Nat.zero_le _⟩, ?_, ?_⟩
    · simp only [go_sem, Nat.reduceEqDiff, ↓reduceIte, Bool.false_eq_true, Nat.reduceAdd, Nat.reduceSub, Nat.reduceBNe, Nat.reduceBEq, Nat.reduceLT, Nat.reduceLeDiff, Nat.reduceMul, Nat.zero_lt_succ, Nat.lt_add_one, Nat.zero_lt_one, Int.reduceToNat, false_implies, true_implies, or_self, or_false, false_or, or_true, true_or, Nat.add_le_add_iff_right, true_and, and_true, forall_const, implies_true, List.contains_cons, List.contains_nil, List.all_cons, List.all_nil, bne_self_eq_false, Option.isSome_none, Option.isSome_some, Bool.or_false, Bool.false_or, Bool.true_or, Bool.or_true, ne_eq, not_false_eq_true, not_true_eq_false, beq_self_eq_true, cond_true, cond_false, Prod.mk.injEq, and_self, reduceCtorEq, BEq.rfl, Bool.and_true, Bool.true_and, Bool.and_false, Bool.false_and, catN]
      rfl
    · rintro ⟨i, hi⟩
      simp only [go_sem, Nat.reduceEqDiff, ↓reduceIte, Bool.false_eq_true, Nat.reduceAdd, Nat.reduceSub, Nat.reduceBNe, Nat.reduceBEq, Nat.reduceLT, Nat.reduceLeDiff, Nat.reduceMul, Nat.zero_lt_succ, Nat.lt_add_one, Nat.zero_lt_one, Int.reduceToNat, false_implies, true_implies, or_self, or_false, false_or, or_true, true_or, Nat.add_le_add_iff_right, true_and, and_true, forall_const, implies_true, List.contains_cons, List.contains_nil, List.all_cons, List.all_nil, bne_self_eq_false, Option.isSome_none, Option.isSome_some, Bool.or_false, Bool.false_or, Bool.true_or, Bool.or_true, ne_eq, not_false_eq_true, not_true_eq_false, beq_self_eq_true, cond_true, cond_false, Prod.mk.injEq, and_self, reduceCtorEq, BEq.rfl, Bool.and_true, Bool.true_and, Bool.and_false, Bool.false_and, decide_eq_true_eq]
      refine fun _ => ⟨fun hlt => ⟨⟨by omega, by omega⟩, ?_⟩, fun hge => ?_⟩
      · have h1 := hlenA i
        have h2 := catN_le B (show i + 1 ≤ m by omega)
        have e1 : l ++ vb t ++ [3] ++ vb m ++ catN B i ++ B i = l ++ vb t ++ [3] ++ vb m ++ catN B (i + 1) := by simp only [catN, List.append_assoc]
        have h3 : (catN B (i + 1)).length = (catN B i).length + (B i).length := by simp only [catN, List.length_append]
        have hc := hk i (by omega) (l ++ vb t ++ [3] ++ vb m ++ catN B i) (by omega)
        rw [e1] at hc
        refine ⟨_, _, hc, ⟨by omega, by omega⟩, ⟨i + 1, by omega⟩, ?_, ⟨?_, rfl⟩, rfl⟩
        · simp only
          omega
        · simp
      · have e1 : i = m := by simp at hge; omega
        subst e1
        exact ⟨[.arr 5 1 (l ++ vb t ++ [3] ++ vb i ++ catN B i).length (bF (l ++ vb t ++ [3] ++ vb i ++ catN B i))], ⟨⟨rfl, trivial⟩, rfl⟩, rfl, rfl⟩
theorem wr_nd : ∀ (x : Nd) (lvl : Nat), x.good lvl → ∀ l : List Int, l.length + (ndB x).length ≤ 1048576 → FnB Tryz.prog 63 5 1 l.length (bF l) [x.D] (l ++ ndB x).length (bF (l ++ ndB x))
  | .leaf t k n s, lvl, hg, l, hl => by
    obtain ⟨_, h1, h2, h3⟩ := hg
    obtain ⟨t, rfl⟩ : ∃ u : Nat, t = u := ⟨t.toNat, by omega⟩
    rcases h3 with ⟨rfl, rfl, h3, h4⟩ | ⟨rfl, rfl, h3⟩
    · obtain ⟨z, hz, hz2⟩ := zz_range n
      have e : ndB (.leaf t 1 n ⟨#[]⟩) = vb t ++ [1] ++ vb z := by simp only [ndB, if_true, hz, Int.toNat_natCast]
      rw [e] at hl ⊢
      have := wr_int l t n z (by omega) h3 h4 hz hz2 (by omega)
      simpa only [List.append_assoc, Nd.D] using this
    · have e : ndB (.leaf t 2 0 s) = vb t ++ [2] ++ (vb s.size ++ sb s) := by simp only [ndB, Int.toNat_natCast]; rfl
      rw [e] at hl ⊢
      have := wr_str l t s (by omega) (by omega) (by omega)
      simpa only [List.append_assoc, Nd.D] using this
  | .mk t k n s m f, lvl, hg, l, hl => by
    obtain ⟨_, h1, h2, rfl, rfl, rfl, h3, h4⟩ := hg
    obtain ⟨t, rfl⟩ : ∃ u : Nat, t = u := ⟨t.toNat, by omega⟩
    have e : ndB (.mk t 3 0 ⟨#[]⟩ m f) = vb t ++ [3] ++ vb m ++ catN (fun i => ndB (f i)) m := by simp only [ndB, Int.toNat_natCast]
    rw [e] at hl ⊢
    have hl' := hl
    simp only [List.length_append, List.length_cons, List.length_nil, vb_length] at hl'
    have := wr_list l t m f (fun i => ndB (f i)) (by omega) (by omega) (by omega) fun i hi l hl => wr_nd (f i) (lvl + 1) (h4 i hi) l (by omega)
    simpa only [List.append_assoc, Nd.D] using this
/-- The reference's Encode of such a tree. -/
theorem renc_ok (x : Nd) (hg : x.good 1) (hl : (ndB x).length ≤ 1048576) : FnD Tryz.prog 37 [.d x.D] [.list 1 (ndB x).length (bF (ndB x)), .int .i64 0] := by
  have hp := wr_nd x 1 hg [] (by simp only [List.length_nil]; omega)
  rw [List.nil_append] at hp
  have hn := fnB_nil hp
  refine fnD_intro (H := { nt := Go.Func.ntmps Tryz.f37 }) Tryz.func37 rfl rfl rfl rfl (Nat.le_of_ble_eq_true rfl) (okC_tri (by kernel_rfl) _ _ _ _ (by kernel_rfl) ?_)
  simp only [go_sem, Nat.reduceEqDiff, ↓reduceIte, Bool.false_eq_true, Nat.reduceAdd, Nat.reduceSub, Nat.reduceBNe, Nat.reduceBEq, Nat.reduceLT, Nat.reduceLeDiff, Nat.reduceMul, Nat.zero_lt_succ, Nat.lt_add_one, Nat.zero_lt_one, Int.reduceToNat, false_implies, true_implies, or_self, or_false, false_or, or_true, true_or, Nat.add_le_add_iff_right, true_and, and_true, forall_const, implies_true, List.contains_cons, List.contains_nil, List.all_cons, List.all_nil, bne_self_eq_false, Option.isSome_none, Option.isSome_some, Bool.or_false, Bool.false_or, Bool.true_or, Bool.or_true, ne_eq, not_false_eq_true, not_true_eq_false, beq_self_eq_true, cond_true, cond_false, Prod.mk.injEq, and_self, reduceCtorEq, BEq.rfl, Bool.and_true, Bool.true_and, Bool.and_false, Bool.false_and, Tryz.f37]
  refine ⟨_, fun _ => fits_nd x 1 hg, ?_, ?_⟩
  focus (first | exact fun _ => rfl | exact fun h0 => absurd h0 (by decide))
  simp only [go_sem, Nat.reduceEqDiff, ↓reduceIte, Bool.false_eq_true, Nat.reduceAdd, Nat.reduceSub, Nat.reduceBNe, Nat.reduceBEq, Nat.reduceLT, Nat.reduceLeDiff, Nat.reduceMul, Nat.zero_lt_succ, Nat.lt_add_one, Nat.zero_lt_one, Int.reduceToNat, false_implies, true_implies, or_self, or_false, false_or, or_true, true_or, Nat.add_le_add_iff_right, true_and, and_true, forall_const, implies_true, List.contains_cons, List.contains_nil, List.all_cons, List.all_nil, bne_self_eq_false, Option.isSome_none, Option.isSome_some, Bool.or_false, Bool.false_or, Bool.true_or, Bool.or_true, ne_eq, not_false_eq_true, not_true_eq_false, beq_self_eq_true, cond_true, cond_false, Prod.mk.injEq, and_self, reduceCtorEq, BEq.rfl, Bool.and_true, Bool.true_and, Bool.and_false, Bool.false_and]
  refine ⟨nofun, fun _ => ?_⟩
  refine ⟨_, fun _ => hn, ?_, ?_⟩
  focus (first | exact fun _ => rfl | exact fun h0 => absurd h0 (by decide))
  simp only [go_sem, Nat.reduceEqDiff, ↓reduceIte, Bool.false_eq_true, Nat.reduceAdd, Nat.reduceSub, Nat.reduceBNe, Nat.reduceBEq, Nat.reduceLT, Nat.reduceLeDiff, Nat.reduceMul, Nat.zero_lt_succ, Nat.lt_add_one, Nat.zero_lt_one, Int.reduceToNat, false_implies, true_implies, or_self, or_false, false_or, or_true, true_or, Nat.add_le_add_iff_right, true_and, and_true, forall_const, implies_true, List.contains_cons, List.contains_nil, List.all_cons, List.all_nil, bne_self_eq_false, Option.isSome_none, Option.isSome_some, Bool.or_false, Bool.false_or, Bool.true_or, Bool.or_true, ne_eq, not_false_eq_true, not_true_eq_false, beq_self_eq_true, cond_true, cond_false, Prod.mk.injEq, and_self, reduceCtorEq, BEq.rfl, Bool.and_true, Bool.true_and, Bool.and_false, Bool.false_and]
  have e0 : decide (1048576 < ((ndB x).length : Int)) = false := decide_eq_false (by omega)
  rw [e0]
  exact fun _ => nofun
end Go.Proofs.YtnhpgmmhfgdmjaaGreat.P14

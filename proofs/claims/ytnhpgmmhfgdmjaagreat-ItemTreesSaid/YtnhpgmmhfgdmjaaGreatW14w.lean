/- Proved here: contracts of functions of this chapter: called with these values, each returns these values and changes nothing that was. Conditions: none but those that each theorem names. -/
import Derived.Test.YtnhpgmmhfgdmjaaGreatW14u
import Derived.Test.YtnhpgmmhfgdmjaaGreatEvZ
set_option linter.unusedVariables false
set_option linter.unusedSimpArgs false
open Go Go.Proofs Go.Ev
namespace Go.Proofs.YtnhpgmmhfgdmjaaGreat.P14
set_option maxRecDepth 100000
/-- One byte more into a digest. -/
def xh (h c : Int) : Int := IntKind.u64.wrap (IntKind.u64.wrap ((BitVec.ofInt 64 h ^^^ BitVec.ofInt 64 (IntKind.u64.wrap c)).toNat : Int) * 1099511628211)
def addH (h : Int) (b : Nat → Int) : Nat → Int
  | 0 => h
  | i + 1 => xh (addH h b i) (b i)
theorem dadd_ok (h : Int) (n : Nat) (b : Nat → Int) : FnD Tryz.prog 61 [.d (.int .u64 h), .d (.list 1 n fun i => .int .u8 (b i))] [.int .u64 (addH h b n)] := by
  refine fnD_intro (H := { nt := Go.Func.ntmps Tryz.f61, wr := [17] }) Tryz.func61 rfl rfl rfl rfl (Nat.le_of_ble_eq_true rfl) (okC_tri (by kernel_rfl) _ _ _ _ (by kernel_rfl) ?_)
  simp only [go_sem, Nat.reduceEqDiff, ↓reduceIte, Bool.false_eq_true, Nat.reduceAdd, Nat.reduceSub, Nat.reduceBNe, Nat.reduceBEq, Nat.reduceLT, Nat.reduceLeDiff, Nat.reduceMul, Nat.zero_lt_succ, Nat.lt_add_one, Nat.zero_lt_one, Int.reduceToNat, false_implies, true_implies, or_self, or_false, false_or, or_true, true_or, Nat.add_le_add_iff_right, true_and, and_true, forall_const, implies_true, List.contains_cons, List.contains_nil, List.all_cons, List.all_nil, bne_self_eq_false, Option.isSome_none, Option.isSome_some, Bool.or_false, Bool.false_or, Bool.true_or, Bool.or_true, ne_eq, not_false_eq_true, not_true_eq_false, beq_self_eq_true, cond_true, cond_false, Prod.mk.injEq, and_self, reduceCtorEq, BEq.rfl, Bool.and_true, Bool.true_and, Bool.and_false, Bool.false_and, Tryz.f61]
  intro hf
  unfold fits at hf
  refine ⟨{ i : Nat // i ≤ n }, fun i => ([(9, .d (.int .i64 i)), (8, .d (.int .i64 n)), (7, .d (.list 1 n fun i => .int .u8 (b i))), (0, .d (.int .u64 (addH h b i)))], []), fun i => n - i, ⟨0, Nat.zero_le _⟩, ?_, ?_⟩
  · simp only [go_sem, Nat.reduceEqDiff, ↓reduceIte, Bool.false_eq_true, Nat.reduceAdd, Nat.reduceSub, Nat.reduceBNe, Nat.reduceBEq, Nat.reduceLT, Nat.reduceLeDiff, Nat.reduceMul, Nat.zero_lt_succ, Nat.lt_add_one, Nat.zero_lt_one, Int.reduceToNat, false_implies, true_implies, or_self, or_false, false_or, or_true, true_or, Nat.add_le_add_iff_right, true_and, and_true, forall_const, implies_true, List.contains_cons, List.contains_nil, List.all_cons, List.all_nil, bne_self_eq_false, Option.isSome_none, Option.isSome_some, Bool.or_false, Bool.false_or, Bool.true_or, Bool.or_true, ne_eq, not_false_eq_true, not_true_eq_false, beq_self_eq_true, cond_true, cond_false, Prod.mk.injEq, and_self, reduceCtorEq, BEq.rfl, Bool.and_true, Bool.true_and, Bool.and_false, Bool.false_and]
    exact ⟨rfl, rfl⟩
  · rintro ⟨i, hi⟩
    simp only [go_sem, Nat.reduceEqDiff, ↓reduceIte, Bool.false_eq_true, Nat.reduceAdd, Nat.reduceSub, Nat.reduceBNe, Nat.reduceBEq, Nat.reduceLT, Nat.reduceLeDiff, Nat.reduceMul, Nat.zero_lt_succ, Nat.lt_add_one, Nat.zero_lt_one, Int.reduceToNat, false_implies, true_implies, or_self, or_false, false_or, or_true, true_or, Nat.add_le_add_iff_right, true_and, and_true, forall_const, implies_true, List.contains_cons, List.contains_nil, List.all_cons, List.all_nil, bne_self_eq_false, Option.isSome_none, Option.isSome_some, Bool.or_false, Bool.false_or, Bool.true_or, Bool.or_true, ne_eq, not_false_eq_true, not_true_eq_false, beq_self_eq_true, cond_true, cond_false, Prod.mk.injEq, and_self, reduceCtorEq, BEq.rfl, Bool.and_true, Bool.true_and, Bool.and_false, Bool.false_and, decide_eq_true_eq]
    refine ⟨fun hlt => ⟨⟨by omega, by omega⟩, ⟨by omega, by omega⟩, ⟨i + 1, by omega⟩, by simp only; omega, by simp, rfl⟩, fun hge => ?_⟩
    have e1 : i = n := by simp at hge; omega
    subst e1
    rfl
def dig0 : Int := 14695981039346656037
theorem dof_ok (n : Nat) (b : Nat → Int) : FnD Tryz.prog 36 [.d (.list 1 n fun i => .int .u8 (b i))] [.int .u64 (addH dig0 b n)] := by
  refine fnD_intro (H := { nt := Go.Func.ntmps Tryz.f36 }) Tryz.func36 rfl rfl rfl rfl (Nat.le_of_ble_eq_true rfl) (okC_tri (by kernel_rfl) _ _ _ _ (by kernel_rfl) ?_)
  simp only [go_sem, Nat.reduceEqDiff, ↓reduceIte, Bool.false_eq_true, Nat.reduceAdd, Nat.reduceSub, Nat.reduceBNe, Nat.reduceBEq, Nat.reduceLT, Nat.reduceLeDiff, Nat.reduceMul, Nat.zero_lt_succ, Nat.lt_add_one, Nat.zero_lt_one, Int.reduceToNat, false_implies, true_implies, or_self, or_false, false_or, or_true, true_or, Nat.add_le_add_iff_right, true_and, and_true, forall_const, implies_true, List.contains_cons, List.contains_nil, List.all_cons, List.all_nil, bne_self_eq_false, Option.isSome_none, Option.isSome_some, Bool.or_false, Bool.false_or, Bool.true_or, Bool.or_true, ne_eq, not_false_eq_true, not_true_eq_false, beq_self_eq_true, cond_true, cond_false, Prod.mk.injEq, and_self, reduceCtorEq, BEq.rfl, Bool.and_true, Bool.true_and, Bool.and_false, Bool.false_and, Tryz.f36]
  refine ⟨_, fun _ => dadd_ok dig0 n b, ?_, ?_⟩
  focus (first | exact fun _ => rfl | exact fun h0 => absurd h0 (by decide))
  simp only [go_sem, Nat.reduceEqDiff, ↓reduceIte, Bool.false_eq_true, Nat.reduceAdd, Nat.reduceSub, Nat.reduceBNe, Nat.reduceBEq, Nat.reduceLT, Nat.reduceLeDiff, Nat.reduceMul, Nat.zero_lt_succ, Nat.lt_add_one, Nat.zero_lt_one, Int.reduceToNat, false_implies, true_implies, or_self, or_false, false_or, or_true, true_or, Nat.add_le_add_iff_right, true_and, and_true, forall_const, implies_true, List.contains_cons, List.contains_nil, List.all_cons, List.all_nil, bne_self_eq_false, Option.isSome_none, Option.isSome_some, Bool.or_false, Bool.false_or, Bool.true_or, Bool.or_true, ne_eq, not_false_eq_true, not_true_eq_false, beq_self_eq_true, cond_true, cond_false, Prod.mk.injEq, and_self, reduceCtorEq, BEq.rfl, Bool.and_true, Bool.true_and, Bool.and_false, Bool.false_and]
/-- The length of a varint. -/
def vsz (x : Nat) : Nat := if h : x ≤ 127 then 1 else vsz (x / 128) + 1
termination_by x
decreasing_by omega
theorem vsz_le : ∀ (k x : Nat), x < 128 ^ (k + 1) → vsz x ≤ k + 1
  | 0, x, h => by
    rw [vsz, dif_pos (by omega)]
    exact Nat.le_refl _
  | k + 1, x, h => by
    rw [vsz]
    split
    · omega
    · have : x / 128 < 128 ^ (k + 1) := by
        rw [Nat.div_lt_iff_lt_mul (by decide)]
        rw [Nat.pow_succ] at h
        exact h
      have := vsz_le k (x / 128) this
      omega
theorem fdiv128 (y : Nat) : (y : Int).fdiv (2 ^ min 7 64) = ((y / 128 : Nat) : Int) := by
  rw [show ((2 : Int) ^ min 7 64) = ((128 : Nat) : Int) from rfl, Int.fdiv_eq_ediv_of_nonneg _ (by decide)]
  rfl
theorem vsize_ok (x : Nat) (hx : x < 18446744073709551616) : FnD Tryz.prog 77 [.d (.int .u64 x)] [.int .i64 (vsz x)] := by
  have hb : vsz x ≤ 10 := vsz_le 9 x (Nat.lt_of_lt_of_le hx (by decide))
  refine fnD_intro (H := { nt := Go.Func.ntmps Tryz.f77 }) Tryz.func77 rfl rfl rfl rfl (Nat.le_of_ble_eq_true rfl) (okC_tri (by kernel_rfl) _ _ _ _ (by kernel_rfl) ?_)
  simp only [go_sem, Nat.reduceEqDiff, ↓reduceIte, Bool.false_eq_true, Nat.reduceAdd, Nat.reduceSub, Nat.reduceBNe, Nat.reduceBEq, Nat.reduceLT, Nat.reduceLeDiff, Nat.reduceMul, Nat.zero_lt_succ, Nat.lt_add_one, Nat.zero_lt_one, Int.reduceToNat, false_implies, true_implies, or_self, or_false, false_or, or_true, true_or, Nat.add_le_add_iff_right, true_and, and_true, forall_const, implies_true, List.contains_cons, List.contains_nil, List.all_cons, List.all_nil, bne_self_eq_false, Option.isSome_none, Option.isSome_some, Bool.or_false, Bool.false_or, Bool.true_or, Bool.or_true, ne_eq, not_false_eq_true, not_true_eq_false, beq_self_eq_true, cond_true, cond_false, Prod.mk.injEq, and_self, reduceCtorEq, BEq.rfl, Bool.and_true, Bool.true_and, Bool.and_false, Bool.false_and, Tryz.f77]
  refine ⟨{ p : Nat × Nat // p.1 + vsz p.2 = vsz x + 1 }, fun p => ([(3, .d (.int .i64 p.1.1)), (0, .d (.int .u64 p.1.2))], []), fun p => p.1.2, ⟨(1, x), by simp only; omega⟩, ?_, ?_⟩
  · simp only [go_sem, Nat.reduceEqDiff, ↓reduceIte, Bool.false_eq_true, Nat.reduceAdd, Nat.reduceSub, Nat.reduceBNe, Nat.reduceBEq, Nat.reduceLT, Nat.reduceLeDiff, Nat.reduceMul, Nat.zero_lt_succ, Nat.lt_add_one, Nat.zero_lt_one, Int.reduceToNat, false_implies, true_implies, or_self, or_false, false_or, or_true, true_or, Nat.add_le_add_iff_right, true_and, and_true, forall_const, implies_true, List.contains_cons, List.contains_nil, List.all_cons, List.all_nil, bne_self_eq_false, Option.isSome_none, Option.isSome_some, Bool.or_false, Bool.false_or, Bool.true_or, Bool.or_true, ne_eq, not_false_eq_true, not_true_eq_false, beq_self_eq_true, cond_true, cond_false, Prod.mk.injEq, and_self, reduceCtorEq, BEq.rfl, Bool.and_true, Bool.true_and, Bool.and_false, Bool.false_and]
    rfl
  · rintro ⟨⟨k, y⟩, hk⟩
    simp only at hk
    simp only [go_sem, Nat.reduceEqDiff, ↓reduceIte, Bool.false_eq_true, Nat.reduceAdd, Nat.reduceSub, Nat.reduceBNe, Nat.reduceBEq, Nat.reduceLT, Nat.reduceLeDiff, Nat.reduceMul, Nat.zero_lt_succ, Nat.lt_add_one, Nat.zero_lt_one, Int.reduceToNat, false_implies, true_implies, or_self, or_false, false_or, or_true, true_or, Nat.add_le_add_iff_right, true_and, and_true, forall_const, implies_true, List.contains_cons, List.contains_nil, List.all_cons, List.all_nil, bne_self_eq_false, Option.isSome_none, Option.isSome_some, Bool.or_false, Bool.false_or, Bool.true_or, Bool.or_true, ne_eq, not_false_eq_true, not_true_eq_false, beq_self_eq_true, cond_true, cond_false, Prod.mk.injEq, and_self, reduceCtorEq, BEq.rfl, Bool.and_true, Bool.true_and, Bool.and_false, Bool.false_and, decide_eq_true_eq]
    refine ⟨fun hlt => ?_, fun hge => ?_⟩
    · have hy : ¬ y ≤ 127 := by omega
      rw [vsz, dif_neg hy] at hk
      refine ⟨⟨by omega, by omega⟩, by decide, ⟨(k + 1, y / 128), by simp only; omega⟩, by simp only; omega, by simp, ?_⟩
      rw [fdiv128]
    · have hy : y ≤ 127 := by simp at hge; omega
      rw [vsz, dif_pos hy] at hk
      have : k = vsz x := by omega
      rw [this]
def zz (n : Int) : Int := bif decide (n < 0) then IntKind.u64.wrap ((BitVec.ofInt 64 (IntKind.u64.wrap (IntKind.u64.wrap (0 - (n + 1)) * 2 ^ min 1 64)) ||| BitVec.ofInt 64 1).toNat : Int) else IntKind.u64.wrap (IntKind.u64.wrap n * 2 ^ min 1 64)
theorem zig_ok (n : Int) (h1 : -9223372036854775808 ≤ n) (h2 : n ≤ 9223372036854775807) : FnD Tryz.prog 78 [.d (.int .i64 n)] [.int .u64 (zz n)] := by
  refine fnD_intro (H := { nt := Go.Func.ntmps Tryz.f78 }) Tryz.func78 rfl rfl rfl rfl (Nat.le_of_ble_eq_true rfl) (okC_tri (by kernel_rfl) _ _ _ _ (by kernel_rfl) ?_)
  simp only [go_sem, Nat.reduceEqDiff, ↓reduceIte, Bool.false_eq_true, Nat.reduceAdd, Nat.reduceSub, Nat.reduceBNe, Nat.reduceBEq, Nat.reduceLT, Nat.reduceLeDiff, Nat.reduceMul, Nat.zero_lt_succ, Nat.lt_add_one, Nat.zero_lt_one, Int.reduceToNat, false_implies, true_implies, or_self, or_false, false_or, or_true, true_or, Nat.add_le_add_iff_right, true_and, and_true, forall_const, implies_true, List.contains_cons, List.contains_nil, List.all_cons, List.all_nil, bne_self_eq_false, Option.isSome_none, Option.isSome_some, Bool.or_false, Bool.false_or, Bool.true_or, Bool.or_true, ne_eq, not_false_eq_true, not_true_eq_false, beq_self_eq_true, cond_true, cond_false, Prod.mk.injEq, and_self, reduceCtorEq, BEq.rfl, Bool.and_true, Bool.true_and, Bool.and_false, Bool.false_and, Tryz.f78]
  refine ⟨fun h => ?_, fun h => ?_⟩
  · have hn : n < 0 := by simpa using h
    refine ⟨⟨by omega, by omega⟩, ⟨by omega, by omega⟩, by decide, ?_⟩
    simp only [zz, h, cond_true]
    rfl
  · refine ⟨by decide, ?_⟩
    simp only [zz, h, cond_false]
def bF (l : List Int) : Nat → DV := fun i => .int .u8 (l[i]?.getD 0)
theorem bF_snoc (l : List Int) (c : Int) : joinF l.length (bF l) (fun k => [DV.int .u8 c].getD k (.int .u8 0)) = bF (l ++ [c]) := by
  funext k
  simp only [joinF, bF]
  split
  · rename_i h
    rw [List.getElem?_append_left h]
  · rename_i h
    rw [List.getElem?_append_right (by omega)]
    cases hk : k - l.length with
    | zero => simp
    | succ j => simp
def vb (x : Nat) : List Int := if h : x ≤ 127 then [IntKind.u8.wrap x] else IntKind.u8.wrap ((BitVec.ofInt 8 (IntKind.u8.wrap x) ||| BitVec.ofInt 8 128).toNat : Int) :: vb (x / 128)
termination_by x
decreasing_by omega
theorem vb_length (x : Nat) : (vb x).length = vsz x := by
  rw [vb, vsz]
  split
  · rfl
  · rw [List.length_cons, vb_length (x / 128)]
termination_by x
decreasing_by omega
theorem putv_ok (l : List Int) (x : Nat) (hx : x < 18446744073709551616) (hl : l.length ≤ 100000000) : FnB Tryz.prog 79 5 1 l.length (bF l) [.int .u64 x] (l ++ vb x).length (bF (l ++ vb x)) := by
  have hb : vsz x ≤ 10 := vsz_le 9 x (Nat.lt_of_lt_of_le hx (by decide))
  unfold FnB
  refine FnE.le ?_
  refine fnE_intro (H := { nt := Go.Func.ntmps Tryz.f79, lo := 1, fx := [] }) Tryz.func79 rfl rfl rfl rfl (Nat.le_of_ble_eq_true rfl) (okC_tri (by kernel_rfl) _ _ _ _ (by kernel_rfl) ?_)
  simp only [go_sem, Nat.reduceEqDiff, ↓reduceIte, Bool.false_eq_true, Nat.reduceAdd, Nat.reduceSub, Nat.reduceBNe, Nat.reduceBEq, Nat.reduceLT, Nat.reduceLeDiff, Nat.reduceMul, Nat.zero_lt_succ, Nat.lt_add_one, Nat.zero_lt_one, Int.reduceToNat, false_implies, true_implies, or_self, or_false, false_or, or_true, true_or, Nat.add_le_add_iff_right, true_and, and_true, forall_const, implies_true, List.contains_cons, List.contains_nil, List.all_cons, List.all_nil, bne_self_eq_false, Option.isSome_none, Option.isSome_some, Bool.or_false, Bool.false_or, Bool.true_or, Bool.or_true, ne_eq, not_false_eq_true, not_true_eq_false, beq_self_eq_true, cond_true, cond_false, Prod.mk.injEq, and_self, reduceCtorEq, BEq.rfl, Bool.and_true, Bool.true_and, Bool.and_false, Bool.false_and, Tryz.f79]
  refine ⟨{ p : List Int × Nat // l ++ vb x = p.1 ++ vb p.2 }, fun p => ([(0, .own 0 0 p.1.1.length), (1, .d (.int .u64 p.1.2))], [.arr 5 1 p.1.1.length (bF p.1.1)]), fun p => p.1.2, ⟨(l, x), rfl⟩, ?_, ?_⟩
  · simp only [go_sem, Nat.reduceEqDiff, ↓reduceIte, Bool.false_eq_true, Nat.reduceAdd, Nat.reduceSub, Nat.reduceBNe, Nat.reduceBEq, Nat.reduceLT, Nat.reduceLeDiff, Nat.reduceMul, Nat.zero_lt_succ, Nat.lt_add_one, Nat.zero_lt_one, Int.reduceToNat, false_implies, true_implies, or_self, or_false, false_or, or_true, true_or, Nat.add_le_add_iff_right, true_and, and_true, forall_const, implies_true, List.contains_cons, List.contains_nil, List.all_cons, List.all_nil, bne_self_eq_false, Option.isSome_none, Option.isSome_some, Bool.or_false, Bool.false_or, Bool.true_or, Bool.or_true, ne_eq, not_false_eq_true, not_true_eq_false, beq_self_eq_true, cond_true, cond_false, Prod.mk.injEq, and_self, reduceCtorEq, BEq.rfl, Bool.and_true, Bool.true_and, Bool.and_false, Bool.false_and]
  · rintro ⟨⟨acc, y⟩, hk⟩
    simp only at hk
    have hlen : acc.length + vsz y = l.length + vsz x := by
      have := congrArg List.length hk
      simp only [List.length_append, vb_length] at this
      omega
    have hy1 : 1 ≤ vsz y := by rw [vsz]; split <;> omega
    simp only [go_sem, Nat.reduceEqDiff, ↓reduceIte, Bool.false_eq_true, Nat.reduceAdd, Nat.reduceSub, Nat.reduceBNe, Nat.reduceBEq, Nat.reduceLT, Nat.reduceLeDiff, Nat.reduceMul, Nat.zero_lt_succ, Nat.lt_add_one, Nat.zero_lt_one, Int.reduceToNat, false_implies, true_implies, or_self, or_false, false_or, or_true, true_or, Nat.add_le_add_iff_right, true_and, and_true, forall_const, implies_true, List.contains_cons, List.contains_nil, List.all_cons, List.all_nil, bne_self_eq_false, Option.isSome_none, Option.isSome_some, Bool.or_false, Bool.false_or, Bool.true_or, Bool.or_true, ne_eq, not_false_eq_true, not_true_eq_false, beq_self_eq_true, cond_true, cond_false, Prod.mk.injEq, and_self, reduceCtorEq, BEq.rfl, Bool.and_true, Bool.true_and, Bool.and_false, Bool.false_and, decide_eq_true_eq]
    refine ⟨fun hlt => ?_, fun hge => ?_⟩
    · have hy : ¬ y ≤ 127 := by omega
      have hk2 := hk
      rw [vb.eq_def y, dif_neg hy] at hk2
      refine ⟨⟨by omega, by omega⟩, by decide, ⟨(acc ++ [IntKind.u8.wrap ((BitVec.ofInt 8 (IntKind.u8.wrap y) ||| BitVec.ofInt 8 128).toNat : Int)], y / 128), by simpa using hk2⟩, by simp only; omega, ⟨by simp, by rw [fdiv128]⟩, ?_⟩
      simp only [List.length_append, List.length_cons, List.length_nil, Nat.zero_add]
      exact congrArg (Blk.arr 5 1 (acc.length + 1)) (bF_snoc acc _)
    · have hy : y ≤ 127 := by simp at hge; omega
      have hk2 := hk
      rw [vb.eq_def y, dif_pos hy] at hk2
      rw [hk2]
      simp only [List.length_append, List.length_cons, List.length_nil, Nat.zero_add]
      refine ⟨⟨by omega, by omega⟩, [.arr 5 1 (acc.length + 1) (bF (acc ++ [IntKind.u8.wrap y]))], ⟨⟨(congrArg (Blk.arr 5 1 (acc.length + 1)) (bF_snoc acc (IntKind.u8.wrap y))).trans rfl, trivial⟩, rfl⟩, trivial, rfl⟩
end Go.Proofs.YtnhpgmmhfgdmjaaGreat.P14
/- Proved here: contracts of functions of this chapter: called with these values, each returns these values and changes nothing that was. Conditions: none but those that each theorem names. -/
set_option linter.unusedVariables false
set_option linter.unusedSimpArgs false
open Go Go.Proofs Go.Ev
namespace Go.Proofs.YtnhpgmmhfgdmjaaGreat.P14
set_option maxRecDepth 100000
theorem wrapN (t : Nat) (h : t < 18446744073709551616) : IntKind.u64.wrap (t : Int) = (t : Int) := by
  simp [IntKind.wrap, IntKind.bits, IntKind.signed]
  omega
theorem head_ok (t : Nat) (lvl : Int) (ht : t ≤ 9999999) (hl : lvl ≤ 8) : (bif bif decide (8 < lvl) then true else decide ((t : Int) < 0) then true else decide (9999999 < (t : Int))) = false := by
  have h1 : decide (8 < lvl) = false := decide_eq_false (by omega)
  have h2 : decide ((t : Int) < 0) = false := decide_eq_false (by omega)
  have h3 : decide (9999999 < (t : Int)) = false := decide_eq_false (by omega)
  rw [h1, h2, h3]
  rfl
theorem vszl {t : Nat} (ht : t ≤ 9999999) : vsz t ≤ 4 := vsz_le 3 t (by omega)
def sumN (f : Nat → Nat) : Nat → Nat
  | 0 => 0
  | n + 1 => sumN f n + f n
theorem size_int (t : Nat) (n : Int) (z : Nat) (lvl : Int) (ht : t ≤ 9999999) (hl : lvl ≤ 8) (h1 : -9223372036854775808 ≤ n) (h2 : n ≤ 9223372036854775807) (hz : zz n = z) (hz2 : z < 18446744073709551616) : FnD Tryz.prog 59 [.d (Nd.leaf t 1 n ⟨#[]⟩).D, .d (.int .i64 lvl)] [.int .i64 ((vsz t : Int) + 1 + vsz z)] := by
  simp only [Nd.D]
  refine fnD_intro (H := { nt := Go.Func.ntmps Tryz.f59 }) Tryz.func59 rfl rfl rfl rfl (Nat.le_of_ble_eq_true rfl) (okC_tri (by kernel_rfl) _ _ _ _ (by kernel_rfl) ?_)
  simp only [go_sem, Nat.reduceEqDiff, ↓reduceIte, Bool.false_eq_true, Nat.reduceAdd, Nat.reduceSub, Nat.reduceBNe, Nat.reduceBEq, Nat.reduceLT, Nat.reduceLeDiff, Nat.reduceMul, Nat.zero_lt_succ, Nat.lt_add_one, Nat.zero_lt_one, Int.reduceToNat, false_implies, true_implies, or_self, or_false, false_or, or_true, true_or, Nat.add_le_add_iff_right, true_and, and_true, forall_const, implies_true, List.contains_cons, List.contains_nil, List.all_cons, List.all_nil, bne_self_eq_false, Option.isSome_none, Option.isSome_some, Bool.or_false, Bool.false_or, Bool.true_or, Bool.or_true, ne_eq, not_false_eq_true, not_true_eq_false, beq_self_eq_true, cond_true, cond_false, Prod.mk.injEq, and_self, reduceCtorEq, BEq.rfl, Bool.and_true, Bool.true_and, Bool.and_false, Bool.false_and, Tryz.f59, bsz, List.append_eq]
  have ht4 := vszl ht
  have hz10 : vsz z ≤ 10 := vsz_le 9 z (Nat.lt_of_lt_of_le hz2 (by decide))
  rw [head_ok t lvl ht hl]
  refine ⟨nofun, fun _ => ?_⟩
  rw [wrapN t (by omega)]
  refine ⟨_, fun _ => vsize_ok t (by omega), ?_, ?_⟩
  focus (first | exact fun _ => rfl | exact fun h0 => absurd h0 (by decide))
  simp only [go_sem, Nat.reduceEqDiff, ↓reduceIte, Bool.false_eq_true, Nat.reduceAdd, Nat.reduceSub, Nat.reduceBNe, Nat.reduceBEq, Nat.reduceLT, Nat.reduceLeDiff, Nat.reduceMul, Nat.zero_lt_succ, Nat.lt_add_one, Nat.zero_lt_one, Int.reduceToNat, false_implies, true_implies, or_self, or_false, false_or, or_true, true_or, Nat.add_le_add_iff_right, true_and, and_true, forall_const, implies_true, List.contains_cons, List.contains_nil, List.all_cons, List.all_nil, bne_self_eq_false, Option.isSome_none, Option.isSome_some, Bool.or_false, Bool.false_or, Bool.true_or, Bool.or_true, ne_eq, not_false_eq_true, not_true_eq_false, beq_self_eq_true, cond_true, cond_false, Prod.mk.injEq, and_self, reduceCtorEq, BEq.rfl, Bool.and_true, Bool.true_and, Bool.and_false, Bool.false_and]
  refine ⟨⟨by omega, by omega⟩, fun h => absurd h (by decide), fun _ => ?_⟩
  refine ⟨_, fun _ => zig_ok n h1 h2, ?_, ?_⟩
  focus (first | exact fun _ => rfl | exact fun h0 => absurd h0 (by decide))
  simp only [go_sem, Nat.reduceEqDiff, ↓reduceIte, Bool.false_eq_true, Nat.reduceAdd, Nat.reduceSub, Nat.reduceBNe, Nat.reduceBEq, Nat.reduceLT, Nat.reduceLeDiff, Nat.reduceMul, Nat.zero_lt_succ, Nat.lt_add_one, Nat.zero_lt_one, Int.reduceToNat, false_implies, true_implies, or_self, or_false, false_or, or_true, true_or, Nat.add_le_add_iff_right, true_and, and_true, forall_const, implies_true, List.contains_cons, List.contains_nil, List.all_cons, List.all_nil, bne_self_eq_false, Option.isSome_none, Option.isSome_some, Bool.or_false, Bool.false_or, Bool.true_or, Bool.or_true, ne_eq, not_false_eq_true, not_true_eq_false, beq_self_eq_true, cond_true, cond_false, Prod.mk.injEq, and_self, reduceCtorEq, BEq.rfl, Bool.and_true, Bool.true_and, Bool.and_false, Bool.false_and]
  rw [hz]
  refine ⟨_, fun _ => vsize_ok z hz2, ?_, ?_⟩
  focus (first | exact fun _ => rfl | exact fun h0 => absurd h0 (by decide))
  simp only [go_sem, Nat.reduceEqDiff, ↓reduceIte, Bool.false_eq_true, Nat.reduceAdd, Nat.reduceSub, Nat.reduceBNe, Nat.reduceBEq, Nat.reduceLT, Nat.reduceLeDiff, Nat.reduceMul, Nat.zero_lt_succ, Nat.lt_add_one, Nat.zero_lt_one, Int.reduceToNat, false_implies, true_implies, or_self, or_false, false_or, or_true, true_or, Nat.add_le_add_iff_right, true_and, and_true, forall_const, implies_true, List.contains_cons, List.contains_nil, List.all_cons, List.all_nil, bne_self_eq_false, Option.isSome_none, Option.isSome_some, Bool.or_false, Bool.false_or, Bool.true_or, Bool.or_true, ne_eq, not_false_eq_true, not_true_eq_false, beq_self_eq_true, cond_true, cond_false, Prod.mk.injEq, and_self, reduceCtorEq, BEq.rfl, Bool.and_true, Bool.true_and, Bool.and_false, Bool.false_and]
  omega
theorem size_str (t : Nat) (s : ByteArray) (lvl : Int) (ht : t ≤ 9999999) (hl : lvl ≤ 8) (hs : s.size ≤ 2000) : FnD Tryz.prog 59 [.d (Nd.leaf t 2 0 s).D, .d (.int .i64 lvl)] [.int .i64 ((vsz t : Int) + 1 + vsz s.size + s.size)] := by
  simp only [Nd.D]
  refine fnD_intro (H := { nt := Go.Func.ntmps Tryz.f59 }) Tryz.func59 rfl rfl rfl rfl (Nat.le_of_ble_eq_true rfl) (okC_tri (by kernel_rfl) _ _ _ _ (by kernel_rfl) ?_)
  simp only [go_sem, Nat.reduceEqDiff, ↓reduceIte, Bool.false_eq_true, Nat.reduceAdd, Nat.reduceSub, Nat.reduceBNe, Nat.reduceBEq, Nat.reduceLT, Nat.reduceLeDiff, Nat.reduceMul, Nat.zero_lt_succ, Nat.lt_add_one, Nat.zero_lt_one, Int.reduceToNat, false_implies, true_implies, or_self, or_false, false_or, or_true, true_or, Nat.add_le_add_iff_right, true_and, and_true, forall_const, implies_true, List.contains_cons, List.contains_nil, List.all_cons, List.all_nil, bne_self_eq_false, Option.isSome_none, Option.isSome_some, Bool.or_false, Bool.false_or, Bool.true_or, Bool.or_true, ne_eq, not_false_eq_true, not_true_eq_false, beq_self_eq_true, cond_true, cond_false, Prod.mk.injEq, and_self, reduceCtorEq, BEq.rfl, Bool.and_true, Bool.true_and, Bool.and_false, Bool.false_and, Tryz.f59, bsz, List.append_eq]
  have ht4 := vszl ht
  have hz10 : vsz s.size ≤ 10 := vsz_le 9 s.size (by omega)
  rw [head_ok t lvl ht hl]
  refine ⟨nofun, fun _ => ?_⟩
  rw [wrapN t (by omega)]
  refine ⟨_, fun _ => vsize_ok t (by omega), ?_, ?_⟩
  focus (first | exact fun _ => rfl | exact fun h0 => absurd h0 (by decide))
  simp only [go_sem, Nat.reduceEqDiff, ↓reduceIte, Bool.false_eq_true, Nat.reduceAdd, Nat.reduceSub, Nat.reduceBNe, Nat.reduceBEq, Nat.reduceLT, Nat.reduceLeDiff, Nat.reduceMul, Nat.zero_lt_succ, Nat.lt_add_one, Nat.zero_lt_one, Int.reduceToNat, false_implies, true_implies, or_self, or_false, false_or, or_true, true_or, Nat.add_le_add_iff_right, true_and, and_true, forall_const, implies_true, List.contains_cons, List.contains_nil, List.all_cons, List.all_nil, bne_self_eq_false, Option.isSome_none, Option.isSome_some, Bool.or_false, Bool.false_or, Bool.true_or, Bool.or_true, ne_eq, not_false_eq_true, not_true_eq_false, beq_self_eq_true, cond_true, cond_false, Prod.mk.injEq, and_self, reduceCtorEq, BEq.rfl, Bool.and_true, Bool.true_and, Bool.and_false, Bool.false_and]
  refine ⟨⟨by omega, by omega⟩, fun h => absurd h (by decide), fun _ => ?_⟩
  have e : decide (2000 < (s.size : Int)) = false := decide_eq_false (by omega)
  rw [e]
  refine ⟨fun h => absurd h (by decide), fun _ => ?_⟩
  rw [wrapN s.size (by omega)]
  refine ⟨_, fun _ => vsize_ok s.size (by omega), ?_, ?_⟩
  focus (first | exact fun _ => rfl | exact fun h0 => absurd h0 (by decide))
  simp only [go_sem, Nat.reduceEqDiff, ↓reduceIte, Bool.false_eq_true, Nat.reduceAdd, Nat.reduceSub, Nat.reduceBNe, Nat.reduceBEq, Nat.reduceLT, Nat.reduceLeDiff, Nat.reduceMul, Nat.zero_lt_succ, Nat.lt_add_one, Nat.zero_lt_one, Int.reduceToNat, false_implies, true_implies, or_self, or_false, false_or, or_true, true_or, Nat.add_le_add_iff_right, true_and, and_true, forall_const, implies_true, List.contains_cons, List.contains_nil, List.all_cons, List.all_nil, bne_self_eq_false, Option.isSome_none, Option.isSome_some, Bool.or_false, Bool.false_or, Bool.true_or, Bool.or_true, ne_eq, not_false_eq_true, not_true_eq_false, beq_self_eq_true, cond_true, cond_false, Prod.mk.injEq, and_self, reduceCtorEq, BEq.rfl, Bool.and_true, Bool.true_and, Bool.and_false, Bool.false_and]
  refine ⟨⟨by omega, by omega⟩, by omega, by omega⟩
theorem size_list (t : Nat) (m : Nat) (f : Nat → Nd) (sz : Nat → Nat) (lvl : Int) (ht : t ≤ 9999999) (hl : lvl ≤ 8) (h0 : 0 ≤ lvl) (hm : m ≤ 1024) (hk : ∀ i, i < m → FnD Tryz.prog 59 [.d (f i).D, .d (.int .i64 (lvl + 1))] [.int .i64 (sz i)]) (hsum : ∀ i, i ≤ m → vsz t + 1 + vsz m + sumN sz i ≤ 1048576) :
    FnD Tryz.prog 59 [.d (Nd.mk t 3 0 ⟨#[]⟩ m f).D, .d (.int .i64 lvl)] [.int .i64 ((vsz t + 1 + vsz m + sumN sz m : Nat) : Int)] := by
  simp only [Nd.D]
  refine fnD_intro (H := { nt := Go.Func.ntmps Tryz.f59 }) Tryz.func59 rfl rfl rfl rfl (Nat.le_of_ble_eq_true rfl) (okC_tri (by kernel_rfl) _ _ _ _ (by kernel_rfl) ?_)
  simp only [go_sem, Nat.reduceEqDiff, ↓reduceIte, Bool.false_eq_true, Nat.reduceAdd, Nat.reduceSub, Nat.reduceBNe, Nat.reduceBEq, Nat.reduceLT, Nat.reduceLeDiff, Nat.reduceMul, Nat.zero_lt_succ, Nat.lt_add_one, Nat.zero_lt_one, Int.reduceToNat, false_implies, true_implies, or_self, or_false, false_or, or_true, true_or, Nat.add_le_add_iff_right, true_and, and_true, forall_const, implies_true, List.contains_cons, List.contains_nil, List.all_cons, List.all_nil, bne_self_eq_false, Option.isSome_none, Option.isSome_some, Bool.or_false, Bool.false_or, Bool.true_or, Bool.or_true, ne_eq, not_false_eq_true, not_true_eq_false, beq_self_eq_true, cond_true, cond_false, Prod.mk.injEq, and_self, reduceCtorEq, BEq.rfl, Bool.and_true, Bool.true_and, Bool.and_false, Bool.false_and, Tryz.f59, bsz, List.append_eq]
  have ht4 := vszl ht
  have hz10 : vsz m ≤ 10 := vsz_le 9 m (by omega)
  rw [head_ok t lvl ht hl]
  refine ⟨nofun, fun _ => ?_⟩
  rw [wrapN t (by omega)]
  refine ⟨_, fun _ => vsize_ok t (by omega), ?_, ?_⟩
  focus (first | exact fun _ => rfl | exact fun h0 => absurd h0 (by decide))
  simp only [go_sem, Nat.reduceEqDiff, ↓reduceIte, Bool.false_eq_true, Nat.reduceAdd, Nat.reduceSub, Nat.reduceBNe, Nat.reduceBEq, Nat.reduceLT, Nat.reduceLeDiff, Nat.reduceMul, Nat.zero_lt_succ, Nat.lt_add_one, Nat.zero_lt_one, Int.reduceToNat, false_implies, true_implies, or_self, or_false, false_or, or_true, true_or, Nat.add_le_add_iff_right, true_and, and_true, forall_const, implies_true, List.contains_cons, List.contains_nil, List.all_cons, List.all_nil, bne_self_eq_false, Option.isSome_none, Option.isSome_some, Bool.or_false, Bool.false_or, Bool.true_or, Bool.or_true, ne_eq, not_false_eq_true, not_true_eq_false, beq_self_eq_true, cond_true, cond_false, Prod.mk.injEq, and_self, reduceCtorEq, BEq.rfl, Bool.and_true, Bool.true_and, Bool.and_false, Bool.false_and]
  have e : decide (1024 < (m : Int)) = false := decide_eq_false (by omega)
  rw [e]
  rw [wrapN m (by omega)]
  refine ⟨⟨by omega, by omega⟩, fun h => absurd h (by decide), fun _ => ⟨fun h => absurd h (by decide), fun _ => ⟨fun h => absurd h (by decide), fun _ _ => ?_⟩⟩⟩
  refine ⟨_, fun _ => vsize_ok m (by omega), ?_, ?_⟩
  focus (first | exact fun _ => rfl | exact fun h0 => absurd h0 (by decide))
  simp only [go_sem, Nat.reduceEqDiff, ↓reduceIte, Bool.false_eq_true, Nat.reduceAdd, Nat.reduceSub, Nat.reduceBNe, Nat.reduceBEq, Nat.reduceLT, Nat.reduceLeDiff, Nat.reduceMul, Nat.zero_lt_succ, Nat.lt_add_one, Nat.zero_lt_one, Int.reduceToNat, false_implies, true_implies, or_self, or_false, false_or, or_true, true_or, Nat.add_le_add_iff_right, true_and, and_true, forall_const, implies_true, List.contains_cons, List.contains_nil, List.all_cons, List.all_nil, bne_self_eq_false, Option.isSome_none, Option.isSome_some, Bool.or_false, Bool.false_or, Bool.true_or, Bool.or_true, ne_eq, not_false_eq_true, not_true_eq_false, beq_self_eq_true, cond_true, cond_false, Prod.mk.injEq, and_self, reduceCtorEq, BEq.rfl, Bool.and_true, Bool.true_and, Bool.and_false, Bool.false_and]
  have hs0 := hsum 0 (Nat.zero_le _)
  refine ⟨⟨by omega, by omega⟩, fun hfit => ?_⟩
  refine ⟨{ i : Nat // i ≤ m }, fun i => ([(100, .d (.int .i64 i)), (99, .d (.int .i64 m)), (98, .d (.list 5 m fun i => (f i).D)), (6, .d (.int .i64 ((vsz t + 1 + vsz m + sumN sz i : Nat) : Int))), (1, .d (.int .i64 lvl))], [.box [.d (.int .i64 t), .d (.int .i64 3), .d (.int .i64 0), .d (.str ⟨#[]⟩), .d (.list 5 m fun i => (f i).D)]]), fun i => m - i, ⟨0, Nat.zero_le _⟩, ?_, ?_⟩
  · simp only [go_sem, Nat.reduceEqDiff, ↓reduceIte, Bool.false_eq_true, Nat.reduceAdd, Nat.reduceSub, Nat.reduceBNe, Nat.reduceBEq, Nat.reduceLT, Nat.reduceLeDiff, Nat.reduceMul, Nat.zero_lt_succ, Nat.lt_add_one, Nat.zero_lt_one, Int.reduceToNat, false_implies, true_implies, or_self, or_false, false_or, or_true, true_or, Nat.add_le_add_iff_right, true_and, and_true, forall_const, implies_true, List.contains_cons, List.contains_nil, List.all_cons, List.all_nil, bne_self_eq_false, Option.isSome_none, Option.isSome_some, Bool.or_false, Bool.false_or, Bool.true_or, Bool.or_true, ne_eq, not_false_eq_true, not_true_eq_false, beq_self_eq_true, cond_true, cond_false, Prod.mk.injEq, and_self, reduceCtorEq, BEq.rfl, Bool.and_true, Bool.true_and, Bool.and_false, Bool.false_and]
    refine ⟨rfl, ?_⟩
    simp [sumN]
  · rintro ⟨i, hi⟩
    simp only [go_sem, Nat.reduceEqDiff, ↓reduceIte, Bool.false_eq_true, Nat.reduceAdd, Nat.reduceSub, Nat.reduceBNe, Nat.reduceBEq, Nat.reduceLT, Nat.reduceLeDiff, Nat.reduceMul, Nat.zero_lt_succ, Nat.lt_add_one, Nat.zero_lt_one, Int.reduceToNat, false_implies, true_implies, or_self, or_false, false_or, or_true, true_or, Nat.add_le_add_iff_right, true_and, and_true, forall_const, implies_true, List.contains_cons, List.contains_nil, List.all_cons, List.all_nil, bne_self_eq_false, Option.isSome_none, Option.isSome_some, Bool.or_false, Bool.false_or, Bool.true_or, Bool.or_true, ne_eq, not_false_eq_true, not_true_eq_false, beq_self_eq_true, cond_true, cond_false, Prod.mk.injEq, and_self, reduceCtorEq, BEq.rfl, Bool.and_true, Bool.true_and, Bool.and_false, Bool.false_and, decide_eq_true_eq]
    refine ⟨fun hlt => ⟨by omega, ⟨by omega, by omega⟩, ?_⟩, fun hge => ?_⟩
    · refine ⟨_, fun _ => hk i (by omega), ?_, ?_⟩
      focus (first | exact fun _ => rfl | exact fun h0 => absurd h0 (by decide))
      simp only [go_sem, Nat.reduceEqDiff, ↓reduceIte, Bool.false_eq_true, Nat.reduceAdd, Nat.reduceSub, Nat.reduceBNe, Nat.reduceBEq, Nat.reduceLT, Nat.reduceLeDiff, Nat.reduceMul, Nat.zero_lt_succ, Nat.lt_add_one, Nat.zero_lt_one, Int.reduceToNat, false_implies, true_implies, or_self, or_false, false_or, or_true, true_or, Nat.add_le_add_iff_right, true_and, and_true, forall_const, implies_true, List.contains_cons, List.contains_nil, List.all_cons, List.all_nil, bne_self_eq_false, Option.isSome_none, Option.isSome_some, Bool.or_false, Bool.false_or, Bool.true_or, Bool.or_true, ne_eq, not_false_eq_true, not_true_eq_false, beq_self_eq_true, cond_true, cond_false, Prod.mk.injEq, and_self, reduceCtorEq, BEq.rfl, Bool.and_true, Bool.true_and, Bool.and_false, Bool.false_and]
      have hs1 := hsum (i + 1) (by omega)
      simp only [sumN] at hs1
      have e1 : decide ((sz i : Int) < 0) = false := decide_eq_false (by omega)
      have e2 : decide (1048576 < ((vsz t + 1 + vsz m + sumN sz i : Nat) : Int) + (sz i : Int)) = false := decide_eq_false (by omega)
      rw [e1, e2]
      refine ⟨nofun, fun _ => ⟨⟨by omega, by omega⟩, nofun, fun _ => ⟨⟨by omega, by omega⟩, ⟨i + 1, by omega⟩, by simp only; omega, by simp, ?_⟩⟩⟩
      congr 3
      simp only [sumN]
      omega
    · have e1 : i = m := by simp at hge; omega
      subst e1
      rfl
end Go.Proofs.YtnhpgmmhfgdmjaaGreat.P14

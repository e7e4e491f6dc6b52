/- Proved here: contracts of functions of this chapter: called with these values, each returns these values and changes nothing that was. Conditions: none but those that each theorem names. -/
import Derived.Test.YtnhpgmmhfgdmjaaGreatW14xb
import Derived.Test.YtnhpgmmhfgdmjaaGreatEvZb
set_option linter.unusedVariables false
set_option linter.unusedSimpArgs false
open Go Go.Proofs Go.Ev
namespace Go.Proofs.YtnhpgmmhfgdmjaaGreat.P14
set_option maxRecDepth 100000
theorem extend_ok (h c : Int) : FnD Tryz.prog 81 [.d (.int .u64 h), .d (.int .u8 c)] [.int .u64 (xh h c)] := by
  refine fnD_intro (H := { nt := Go.Func.ntmps Tryz.f81, wr := [9] }) Tryz.func81 rfl rfl rfl rfl (Nat.le_of_ble_eq_true rfl) (okC_tri (by kernel_rfl) _ _ _ _ (by kernel_rfl) ?_)
  simp only [go_sem, Nat.reduceEqDiff, ↓reduceIte, Bool.false_eq_true, Nat.reduceAdd, Nat.reduceSub, Nat.reduceBNe, Nat.reduceBEq, Nat.reduceLT, Nat.reduceLeDiff, Nat.reduceMul, Nat.zero_lt_succ, Nat.lt_add_one, Nat.zero_lt_one, Int.reduceToNat, false_implies, true_implies, or_self, or_false, false_or, or_true, true_or, Nat.add_le_add_iff_right, true_and, and_true, forall_const, implies_true, List.contains_cons, List.contains_nil, List.all_cons, List.all_nil, bne_self_eq_false, Option.isSome_none, Option.isSome_some, Bool.or_false, Bool.false_or, Bool.true_or, Bool.or_true, ne_eq, not_false_eq_true, not_true_eq_false, beq_self_eq_true, cond_true, cond_false, Prod.mk.injEq, and_self, reduceCtorEq, BEq.rfl, Bool.and_true, Bool.true_and, Bool.and_false, Bool.false_and, Tryz.f81]
  rfl
theorem rdadd_ok (h : Int) (n : Nat) (b : Nat → Int) : FnD Tryz.prog 64 [.d (.int .u64 h), .d (.list 1 n fun i => .int .u8 (b i))] [.int .u64 (addH h b n)] := by
  refine fnD_intro (H := { nt := Go.Func.ntmps Tryz.f64 }) Tryz.func64 rfl rfl rfl rfl (Nat.le_of_ble_eq_true rfl) (okC_tri (by kernel_rfl) _ _ _ _ (by kernel_rfl) ?_)
  simp only [go_sem, Nat.reduceEqDiff, ↓reduceIte, Bool.false_eq_true, Nat.reduceAdd, Nat.reduceSub, Nat.reduceBNe, Nat.reduceBEq, Nat.reduceLT, Nat.reduceLeDiff, Nat.reduceMul, Nat.zero_lt_succ, Nat.lt_add_one, Nat.zero_lt_one, Int.reduceToNat, false_implies, true_implies, or_self, or_false, false_or, or_true, true_or, Nat.add_le_add_iff_right, true_and, and_true, forall_const, implies_true, List.contains_cons, List.contains_nil, List.all_cons, List.all_nil, bne_self_eq_false, Option.isSome_none, Option.isSome_some, Bool.or_false, Bool.false_or, Bool.true_or, Bool.or_true, ne_eq, not_false_eq_true, not_true_eq_false, beq_self_eq_true, cond_true, cond_false, Prod.mk.injEq, and_self, reduceCtorEq, BEq.rfl, Bool.and_true, Bool.true_and, Bool.and_false, Bool.false_and, Tryz.f64]
  refine ⟨{ i : Nat // i ≤ n }, fun i => ([(5, .d (.int .i64 i)), (1, .d (.list 1 n fun i => .int .u8 (b i))), (0, .d (.int .u64 (addH h b i)))], []), fun i => n - i, ⟨0, Nat.zero_le _⟩, ?_, ?_⟩
  · simp only [go_sem, Nat.reduceEqDiff, ↓reduceIte, Bool.false_eq_true, Nat.reduceAdd, Nat.reduceSub, Nat.reduceBNe, Nat.reduceBEq, Nat.reduceLT, Nat.reduceLeDiff, Nat.reduceMul, Nat.zero_lt_succ, Nat.lt_add_one, Nat.zero_lt_one, Int.reduceToNat, false_implies, true_implies, or_self, or_false, false_or, or_true, true_or, Nat.add_le_add_iff_right, true_and, and_true, forall_const, implies_true, List.contains_cons, List.contains_nil, List.all_cons, List.all_nil, bne_self_eq_false, Option.isSome_none, Option.isSome_some, Bool.or_false, Bool.false_or, Bool.true_or, Bool.or_true, ne_eq, not_false_eq_true, not_true_eq_false, beq_self_eq_true, cond_true, cond_false, Prod.mk.injEq, and_self, reduceCtorEq, BEq.rfl, Bool.and_true, Bool.true_and, Bool.and_false, Bool.false_and]
    exact ⟨rfl, rfl⟩
  · rintro ⟨i, hi⟩
    simp only [go_sem, Nat.reduceEqDiff, ↓reduceIte, Bool.false_eq_true, Nat.reduceAdd, Nat.reduceSub, Nat.reduceBNe, Nat.reduceBEq, Nat.reduceLT, Nat.reduceLeDiff, Nat.reduceMul, Nat.zero_lt_succ, Nat.lt_add_one, Nat.zero_lt_one, Int.reduceToNat, false_implies, true_implies, or_self, or_false, false_or, or_true, true_or, Nat.add_le_add_iff_right, true_and, and_true, forall_const, implies_true, List.contains_cons, List.contains_nil, List.all_cons, List.all_nil, bne_self_eq_false, Option.isSome_none, Option.isSome_some, Bool.or_false, Bool.false_or, Bool.true_or, Bool.or_true, ne_eq, not_false_eq_true, not_true_eq_false, beq_self_eq_true, cond_true, cond_false, Prod.mk.injEq, and_self, reduceCtorEq, BEq.rfl, Bool.and_true, Bool.true_and, Bool.and_false, Bool.false_and, decide_eq_true_eq]
    intro hfit
    refine ⟨fun hlt => ⟨⟨by omega, by omega⟩, ?_⟩, fun hge => ?_⟩
    · refine ⟨_, fun _ => extend_ok (addH h b i) (b i), ?_, ?_⟩
      focus (first | exact fun _ => rfl | exact fun h0 => absurd h0 (by decide))
      simp only [go_sem, Nat.reduceEqDiff, ↓reduceIte, Bool.false_eq_true, Nat.reduceAdd, Nat.reduceSub, Nat.reduceBNe, Nat.reduceBEq, Nat.reduceLT, Nat.reduceLeDiff, Nat.reduceMul, Nat.zero_lt_succ, Nat.lt_add_one, Nat.zero_lt_one, Int.reduceToNat, false_implies, true_implies, or_self, or_false, false_or, or_true, true_or, Nat.add_le_add_iff_right, true_and, and_true, forall_const, implies_true, List.contains_cons, List.contains_nil, List.all_cons, List.all_nil, bne_self_eq_false, Option.isSome_none, Option.isSome_some, Bool.or_false, Bool.false_or, Bool.true_or, Bool.or_true, ne_eq, not_false_eq_true, not_true_eq_false, beq_self_eq_true, cond_true, cond_false, Prod.mk.injEq, and_self, reduceCtorEq, BEq.rfl, Bool.and_true, Bool.true_and, Bool.and_false, Bool.false_and]
      unfold fits at hfit
      exact ⟨⟨by omega, by omega⟩, ⟨i + 1, by omega⟩, by simp only; omega, by simp, rfl⟩
    · have e1 : i = n := by simp at hge; omega
      subst e1
      rfl
theorem rof_ok (n : Nat) (b : Nat → Int) : FnD Tryz.prog 38 [.d (.list 1 n fun i => .int .u8 (b i))] [.int .u64 (addH dig0 b n)] := by
  refine fnD_intro (H := { nt := Go.Func.ntmps Tryz.f38 }) Tryz.func38 rfl rfl rfl rfl (Nat.le_of_ble_eq_true rfl) (okC_tri (by kernel_rfl) _ _ _ _ (by kernel_rfl) ?_)
  simp only [go_sem, Nat.reduceEqDiff, ↓reduceIte, Bool.false_eq_true, Nat.reduceAdd, Nat.reduceSub, Nat.reduceBNe, Nat.reduceBEq, Nat.reduceLT, Nat.reduceLeDiff, Nat.reduceMul, Nat.zero_lt_succ, Nat.lt_add_one, Nat.zero_lt_one, Int.reduceToNat, false_implies, true_implies, or_self, or_false, false_or, or_true, true_or, Nat.add_le_add_iff_right, true_and, and_true, forall_const, implies_true, List.contains_cons, List.contains_nil, List.all_cons, List.all_nil, bne_self_eq_false, Option.isSome_none, Option.isSome_some, Bool.or_false, Bool.false_or, Bool.true_or, Bool.or_true, ne_eq, not_false_eq_true, not_true_eq_false, beq_self_eq_true, cond_true, cond_false, Prod.mk.injEq, and_self, reduceCtorEq, BEq.rfl, Bool.and_true, Bool.true_and, Bool.and_false, Bool.false_and, Tryz.f38]
  refine ⟨_, fun _ => rdadd_ok dig0 n b, ?_, ?_⟩
  focus (first | exact fun _ => rfl | exact fun h0 => absurd h0 (by decide))
  simp only [go_sem, Nat.reduceEqDiff, ↓reduceIte, Bool.false_eq_true, Nat.reduceAdd, Nat.reduceSub, Nat.reduceBNe, Nat.reduceBEq, Nat.reduceLT, Nat.reduceLeDiff, Nat.reduceMul, Nat.zero_lt_succ, Nat.lt_add_one, Nat.zero_lt_one, Int.reduceToNat, false_implies, true_implies, or_self, or_false, false_or, or_true, true_or, Nat.add_le_add_iff_right, true_and, and_true, forall_const, implies_true, List.contains_cons, List.contains_nil, List.all_cons, List.all_nil, bne_self_eq_false, Option.isSome_none, Option.isSome_some, Bool.or_false, Bool.false_or, Bool.true_or, Bool.or_true, ne_eq, not_false_eq_true, not_true_eq_false, beq_self_eq_true, cond_true, cond_false, Prod.mk.injEq, and_self, reduceCtorEq, BEq.rfl, Bool.and_true, Bool.true_and, Bool.and_false, Bool.false_and]
theorem vb_byte (y : Nat) : IntKind.u8.wrap ((BitVec.ofInt 8 (IntKind.u8.wrap y) ||| BitVec.ofInt 8 128).toNat : Int) = IntKind.u8.wrap ((y % 128 + 128 : Nat) : Int) := by
  have h0 : ∀ r : BitVec 8, (r ||| BitVec.ofInt 8 128).toNat = r.toNat % 128 + 128 := by decide
  have h1 : BitVec.ofInt 8 (IntKind.u8.wrap y) = BitVec.ofNat 8 y := by
    apply BitVec.eq_of_toNat_eq
    simp [IntKind.wrap, IntKind.bits, IntKind.signed]
    omega
  rw [h1, h0]
  congr 2
  simp
theorem tmod_nat (y : Nat) : Int.tmod (y : Int) 128 = ((y % 128 : Nat) : Int) := by
  rw [Int.tmod_eq_emod_of_nonneg (by omega)]
  rfl
theorem tdiv_nat (y : Nat) : Int.tdiv (y : Int) 128 = ((y / 128 : Nat) : Int) := by
  rw [Int.tdiv_eq_ediv_of_nonneg (by omega)]
  rfl
theorem rvarint_ok (l : List Int) (x : Nat) (hx : x < 18446744073709551616) (hl : l.length ≤ 100000000) : FnB Tryz.prog 80 5 1 l.length (bF l) [.int .u64 x] (l ++ vb x).length (bF (l ++ vb x)) := by
  have hb : vsz x ≤ 10 := vsz_le 9 x (Nat.lt_of_lt_of_le hx (by decide))
  unfold FnB
  refine FnE.le ?_
  refine fnE_intro (H := { nt := Go.Func.ntmps Tryz.f80, lo := 1, fx := [] }) Tryz.func80 rfl rfl rfl rfl (Nat.le_of_ble_eq_true rfl) (okC_tri (by kernel_rfl) _ _ _ _ (by kernel_rfl) ?_)
  simp only [go_sem, Nat.reduceEqDiff, ↓reduceIte, Bool.false_eq_true, Nat.reduceAdd, Nat.reduceSub, Nat.reduceBNe, Nat.reduceBEq, Nat.reduceLT, Nat.reduceLeDiff, Nat.reduceMul, Nat.zero_lt_succ, Nat.lt_add_one, Nat.zero_lt_one, Int.reduceToNat, false_implies, true_implies, or_self, or_false, false_or, or_true, true_or, Nat.add_le_add_iff_right, true_and, and_true, forall_const, implies_true, List.contains_cons, List.contains_nil, List.all_cons, List.all_nil, bne_self_eq_false, Option.isSome_none, Option.isSome_some, Bool.or_false, Bool.false_or, Bool.true_or, Bool.or_true, ne_eq, not_false_eq_true, not_true_eq_false, beq_self_eq_true, cond_true, cond_false, Prod.mk.injEq, and_self, reduceCtorEq, BEq.rfl, Bool.and_true, Bool.true_and, Bool.and_false, Bool.false_and, Tryz.f80]
  refine ⟨{ p : List Int × Nat // l ++ vb x = p.1 ++ vb p.2 ∧ p.2 < 18446744073709551616 }, fun p => ([(0, .own 0 0 p.1.1.length), (1, .d (.int .u64 p.1.2))], [.arr 5 1 p.1.1.length (bF p.1.1)]), fun p => p.1.2, ⟨(l, x), rfl, hx⟩, ?_, ?_⟩
  · simp only [go_sem, Nat.reduceEqDiff, ↓reduceIte, Bool.false_eq_true, Nat.reduceAdd, Nat.reduceSub, Nat.reduceBNe, Nat.reduceBEq, Nat.reduceLT, Nat.reduceLeDiff, Nat.reduceMul, Nat.zero_lt_succ, Nat.lt_add_one, Nat.zero_lt_one, Int.reduceToNat, false_implies, true_implies, or_self, or_false, false_or, or_true, true_or, Nat.add_le_add_iff_right, true_and, and_true, forall_const, implies_true, List.contains_cons, List.contains_nil, List.all_cons, List.all_nil, bne_self_eq_false, Option.isSome_none, Option.isSome_some, Bool.or_false, Bool.false_or, Bool.true_or, Bool.or_true, ne_eq, not_false_eq_true, not_true_eq_false, beq_self_eq_true, cond_true, cond_false, Prod.mk.injEq, and_self, reduceCtorEq, BEq.rfl, Bool.and_true, Bool.true_and, Bool.and_false, Bool.false_and]
  · rintro ⟨⟨acc, y⟩, hk, hy64⟩
    simp only at hk hy64
    have hlen : acc.length + vsz y = l.length + vsz x := by
      have := congrArg List.length hk
      simp only [List.length_append, vb_length] at this
      omega
    have hy1 : 1 ≤ vsz y := by rw [vsz]; split <;> omega
    simp only [go_sem, Nat.reduceEqDiff, ↓reduceIte, Bool.false_eq_true, Nat.reduceAdd, Nat.reduceSub, Nat.reduceBNe, Nat.reduceBEq, Nat.reduceLT, Nat.reduceLeDiff, Nat.reduceMul, Nat.zero_lt_succ, Nat.lt_add_one, Nat.zero_lt_one, Int.reduceToNat, false_implies, true_implies, or_self, or_false, false_or, or_true, true_or, Nat.add_le_add_iff_right, true_and, and_true, forall_const, implies_true, List.contains_cons, List.contains_nil, List.all_cons, List.all_nil, bne_self_eq_false, Option.isSome_none, Option.isSome_some, Bool.or_false, Bool.false_or, Bool.true_or, Bool.or_true, ne_eq, not_false_eq_true, not_true_eq_false, beq_self_eq_true, cond_true, cond_false, Prod.mk.injEq, and_self, reduceCtorEq, BEq.rfl, Bool.and_true, Bool.true_and, Bool.and_false, Bool.false_and, decide_eq_true_eq]
    rw [tmod_nat, tdiv_nat]
    refine ⟨fun hlt => ?_, fun hge => ?_⟩
    · have hy : ¬ y ≤ 127 := by omega
      have hk2 := hk
      rw [vb.eq_def y, dif_neg hy, vb_byte] at hk2
      refine ⟨by decide, ⟨by omega, by omega⟩, ⟨by omega, by omega⟩, ⟨by decide, by omega, by omega⟩, ⟨(acc ++ [IntKind.u8.wrap ((y % 128 + 128 : Nat) : Int)], y / 128), by simpa using hk2, by simp only; omega⟩, by simp only; omega, ⟨by simp, rfl⟩, ?_⟩
      simp only [List.length_append, List.length_cons, List.length_nil, Nat.zero_add]
      exact congrArg (Blk.arr 5 1 (acc.length + 1)) (bF_snoc acc _)
    · have hy : y ≤ 127 := by simp at hge; omega
      have hk2 := hk
      rw [vb.eq_def y, dif_pos hy] at hk2
      rw [hk2]
      simp only [List.length_append, List.length_cons, List.length_nil, Nat.zero_add]
      refine ⟨⟨by omega, by omega⟩, [.arr 5 1 (acc.length + 1) (bF (acc ++ [IntKind.u8.wrap y]))], ⟨⟨(congrArg (Blk.arr 5 1 (acc.length + 1)) (bF_snoc acc (IntKind.u8.wrap y))).trans rfl, trivial⟩, rfl⟩, trivial, rfl⟩
theorem zz_neg {n : Int} (h : n < 0) (h1 : -9223372036854775808 ≤ n) : zz n = 2 * (-(n + 1)) + 1 := by
  obtain ⟨m, hm⟩ : ∃ m : Nat, -(n + 1) = m := ⟨(-(n + 1)).toNat, by omega⟩
  have hm2 : m < 9223372036854775808 := by omega
  have w1 : IntKind.u64.wrap (0 - (n + 1)) = m := by
    rw [show 0 - (n + 1) = (m : Int) by omega]
    simp [IntKind.wrap, IntKind.bits, IntKind.signed]
    omega
  have w2 : IntKind.u64.wrap ((m : Int) * 2 ^ min 1 64) = ((2 * m : Nat) : Int) := by
    rw [show (m : Int) * 2 ^ min 1 64 = ((2 * m : Nat) : Int) by simp; omega]
    exact wrapN _ (by omega)
  have w3 : (BitVec.ofInt 64 ((2 * m : Nat) : Int) ||| BitVec.ofInt 64 1).toNat = 2 * m + 1 := by
    have e1 : BitVec.ofInt 64 ((2 * m : Nat) : Int) = BitVec.ofNat 64 (2 * m) := by
      apply BitVec.eq_of_toNat_eq
      rw [BitVec.toNat_ofInt, BitVec.toNat_ofNat]
      omega
    rw [e1, BitVec.toNat_or]
    have e2 : (BitVec.ofNat 64 (2 * m)).toNat = 2 * m := by simp; omega
    rw [e2]
    have := Nat.two_pow_add_eq_or_of_lt (i := 1) (b := 1) (by decide) m
    simp only [Nat.pow_one] at this
    rw [this]
    rfl
  unfold zz
  rw [decide_eq_true h]
  simp only [cond_true]
  rw [w1, w2, w3, hm, wrapN _ (by omega)]
  omega
theorem zz_pos {n : Int} (h : 0 ≤ n) (h1 : n ≤ 9223372036854775807) : zz n = 2 * n := by
  obtain ⟨m, rfl⟩ : ∃ m : Nat, n = m := ⟨n.toNat, by omega⟩
  unfold zz
  rw [decide_eq_false (by omega)]
  simp only [cond_false]
  rw [wrapN m (by omega), show (m : Int) * 2 ^ min 1 64 = ((2 * m : Nat) : Int) by simp; omega, wrapN _ (by omega)]
  omega
end Go.Proofs.YtnhpgmmhfgdmjaaGreat.P14
/- Proved here: contracts of functions of this chapter: called with these values, each returns these values and changes nothing that was. Conditions: none but those that each theorem names. -/
set_option linter.unusedVariables false
set_option linter.unusedSimpArgs false
open Go Go.Proofs Go.Ev
namespace Go.Proofs.YtnhpgmmhfgdmjaaGreat.P14
set_option maxRecDepth 100000
theorem fits_mk (t : Nat) (k n : Int) (s : ByteArray) (m : Nat) (f : Nat → Nd) (lvl : Nat) (hl : lvl ≤ 8) (ht : t ≤ 9999999) (hs : s.size ≤ 2000) (hm : m ≤ 1024) (h1 : 1 ≤ k) (h3 : k ≤ 3) (c1 : k ≠ 1 → n = 0) (c2 : k ≠ 2 → s.size = 0) (c3 : k ≠ 3 → m = 0)
    (hk : ∀ i, i < m → FnD Tryz.prog 62 [.d (f i).D, .d (.int .i64 ((lvl + 1 : Nat) : Int))] [.bool true]) : FnD Tryz.prog 62 [.d (Nd.mk t k n s m f).D, .d (.int .i64 lvl)] [.bool true] := by
  simp only [Nd.D]
  refine fnD_intro (H := { nt := Go.Func.ntmps Tryz.f62 }) Tryz.func62 rfl rfl rfl rfl (Nat.le_of_ble_eq_true rfl) (okC_tri (by kernel_rfl) _ _ _ _ (by kernel_rfl) ?_)
  simp only [go_sem, Nat.reduceEqDiff, ↓reduceIte, Bool.false_eq_true, Nat.reduceAdd, Nat.reduceSub, Nat.reduceBNe, Nat.reduceBEq, Nat.reduceLT, Nat.reduceLeDiff, Nat.reduceMul, Nat.zero_lt_succ, Nat.lt_add_one, Nat.zero_lt_one, Int.reduceToNat, false_implies, true_implies, or_self, or_false, false_or, or_true, true_or, Nat.add_le_add_iff_right, true_and, and_true, forall_const, implies_true, List.contains_cons, List.contains_nil, List.all_cons, List.all_nil, bne_self_eq_false, Option.isSome_none, Option.isSome_some, Bool.or_false, Bool.false_or, Bool.true_or, Bool.or_true, ne_eq, not_false_eq_true, not_true_eq_false, beq_self_eq_true, cond_true, cond_false, Prod.mk.injEq, and_self, reduceCtorEq, BEq.rfl, Bool.and_true, Bool.true_and, Bool.and_false, Bool.false_and, Tryz.f62, List.append_eq]
  have e1 : decide (8 < (lvl : Int)) = false := decide_eq_false (by omega)
  have e2 : decide ((t : Int) < 0) = false := decide_eq_false (by omega)
  have e3 : decide (9999999 < (t : Int)) = false := decide_eq_false (by omega)
  have e4 : decide (2000 < (s.size : Int)) = false := decide_eq_false (by omega)
  have e5 : decide (1024 < (m : Int)) = false := decide_eq_false (by omega)
  have d1 : (bif k != 1 then n != 0 else false) = false := by
    by_cases h : k = 1
    · simp [h]
    · simp [c1 h]
  have d2 : (bif k != 2 then decide (0 < (s.size : Int)) else false) = false := by
    by_cases h : k = 2
    · simp [h]
    · simp [c2 h]
  have d3 : (bif k != 3 then decide (0 < (m : Int)) else false) = false := by
    by_cases h : k = 3
    · simp [h]
    · simp [c3 h]
  have d4 : decide (k < 1) = false := decide_eq_false (by omega)
  have d5 : decide (3 < k) = false := decide_eq_false (by omega)
  simp only [e1, e2, e3, e4, e5, d1, d2, d3, d4, d5, cond_false]
  refine ⟨nofun, fun _ => ⟨nofun, fun _ => ⟨nofun, fun _ => ?_⟩⟩⟩
  refine ⟨{ i : Nat // i ≤ m }, fun i => ([(5, .d (.int .i64 i.1)), (2, .ptr 0 0), (1, .d (.int .i64 lvl))], [.box [.d (.int .i64 t), .d (.int .i64 k), .d (.int .i64 n), .d (.str s), .d (.list 5 m fun i => (f i).D)]]), fun i => m - i.1, ⟨0, Nat.zero_le _⟩, ?_, ?_⟩
  · simp only [go_sem, Nat.reduceEqDiff, ↓reduceIte, Bool.false_eq_true, Nat.reduceAdd, Nat.reduceSub, Nat.reduceBNe, Nat.reduceBEq, Nat.reduceLT, Nat.reduceLeDiff, Nat.reduceMul, Nat.zero_lt_succ, Nat.lt_add_one, Nat.zero_lt_one, Int.reduceToNat, false_implies, true_implies, or_self, or_false, false_or, or_true, true_or, Nat.add_le_add_iff_right, true_and, and_true, forall_const, implies_true, List.contains_cons, List.contains_nil, List.all_cons, List.all_nil, bne_self_eq_false, Option.isSome_none, Option.isSome_some, Bool.or_false, Bool.false_or, Bool.true_or, Bool.or_true, ne_eq, not_false_eq_true, not_true_eq_false, beq_self_eq_true, cond_true, cond_false, Prod.mk.injEq, and_self, reduceCtorEq, BEq.rfl, Bool.and_true, Bool.true_and, Bool.and_false, Bool.false_and]
    rfl
  · rintro ⟨i, hi⟩
    simp only [go_sem, Nat.reduceEqDiff, ↓reduceIte, Bool.false_eq_true, Nat.reduceAdd, Nat.reduceSub, Nat.reduceBNe, Nat.reduceBEq, Nat.reduceLT, Nat.reduceLeDiff, Nat.reduceMul, Nat.zero_lt_succ, Nat.lt_add_one, Nat.zero_lt_one, Int.reduceToNat, false_implies, true_implies, or_self, or_false, false_or, or_true, true_or, Nat.add_le_add_iff_right, true_and, and_true, forall_const, implies_true, List.contains_cons, List.contains_nil, List.all_cons, List.all_nil, bne_self_eq_false, Option.isSome_none, Option.isSome_some, Bool.or_false, Bool.false_or, Bool.true_or, Bool.or_true, ne_eq, not_false_eq_true, not_true_eq_false, beq_self_eq_true, cond_true, cond_false, Prod.mk.injEq, and_self, reduceCtorEq, BEq.rfl, Bool.and_true, Bool.true_and, Bool.and_false, Bool.false_and, decide_eq_true_eq]
    intro _ hlt
    refine ⟨by omega, ⟨by omega, by omega⟩, ?_⟩
    refine ⟨_, fun _ => hk i (by omega), ?_, ?_⟩
    focus (first | exact fun _ => rfl | exact fun h0 => absurd h0 (by decide))
    simp only [go_sem, Nat.reduceEqDiff, ↓reduceIte, Bool.false_eq_true, Nat.reduceAdd, Nat.reduceSub, Nat.reduceBNe, Nat.reduceBEq, Nat.reduceLT, Nat.reduceLeDiff, Nat.reduceMul, Nat.zero_lt_succ, Nat.lt_add_one, Nat.zero_lt_one, Int.reduceToNat, false_implies, true_implies, or_self, or_false, false_or, or_true, true_or, Nat.add_le_add_iff_right, true_and, and_true, forall_const, implies_true, List.contains_cons, List.contains_nil, List.all_cons, List.all_nil, bne_self_eq_false, Option.isSome_none, Option.isSome_some, Bool.or_false, Bool.false_or, Bool.true_or, Bool.or_true, ne_eq, not_false_eq_true, not_true_eq_false, beq_self_eq_true, cond_true, cond_false, Prod.mk.injEq, and_self, reduceCtorEq, BEq.rfl, Bool.and_true, Bool.true_and, Bool.and_false, Bool.false_and]
    exact ⟨nofun, fun _ => ⟨⟨by omega, by omega⟩, ⟨i + 1, by omega⟩, by simp only; omega, by simp⟩⟩
/-- Such a tree fits. -/
theorem fits_nd : ∀ (x : Nd) (lvl : Nat), x.good lvl → FnD Tryz.prog 62 [.d x.D, .d (.int .i64 lvl)] [.bool true]
  | .leaf t k n s, lvl, hg => by
    obtain ⟨h0, h1, h2, h3⟩ := hg
    obtain ⟨t, rfl⟩ : ∃ u : Nat, t = u := ⟨t.toNat, by omega⟩
    refine args2' (fits_mk t k n s 0 (fun _ => default) lvl h0 (by omega) ?_ (by omega) ?_ ?_ ?_ ?_ (fun h => rfl) fun i hi => absurd hi (by omega)) (fun S w v h => up_rep (.leaf t k n s) h) (fun _ _ _ h => h)
    all_goals rcases h3 with ⟨rfl, rfl, h3, h4⟩ | ⟨rfl, rfl, h3⟩
    all_goals first | decide | omega | exact fun h => absurd rfl h | exact fun _ => rfl
  | .mk t k n s m f, lvl, hg => by
    obtain ⟨h0, h1, h2, rfl, rfl, rfl, h3, h4⟩ := hg
    obtain ⟨t, rfl⟩ : ∃ u : Nat, t = u := ⟨t.toNat, by omega⟩
    exact fits_mk t 3 0 ⟨#[]⟩ m f lvl h0 (by omega) (by decide) h3 (by decide) (by decide) (fun _ => rfl) (fun _ => rfl) (fun h => absurd rfl h) fun i hi => fits_nd (f i) (lvl + 1) (h4 i hi)
end Go.Proofs.YtnhpgmmhfgdmjaaGreat.P14

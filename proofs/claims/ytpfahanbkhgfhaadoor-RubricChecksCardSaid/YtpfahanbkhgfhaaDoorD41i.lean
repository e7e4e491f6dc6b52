/- Proved here: contracts of functions of this chapter: called with these values, each returns these values and changes nothing that was. Conditions: none but those that each theorem names. -/
import Derived.Test.YtpfahanbkhgfhaaDoorD41h
set_option linter.unusedSimpArgs false
set_option linter.unusedVariables false
open Go Go.Proofs Go.Ev
namespace Go.Proofs.YtpfahanbkhgfhaaDoor.P41
set_option maxRecDepth 100000
/-! printing -/
/-- The text of the first i marks. -/
def txt (a : Nat → Int) : Nat → List UInt8
  | 0 => []
  | i + 1 => txt a i ++ ((if 0 < i then [47] else []) ++ (itoa (a i)).data.toList)
def cutB (n : Nat) (g : Nat → ByteArray) (k : Nat) : ByteArray := cutS n g k
theorem one_cutS (g : Nat → ByteArray) : (fun k => [DV.str (g 0)].getD k (.str ⟨#[]⟩)) = fun k => DV.str (cutS 1 g k) := by
  funext k
  match k with
  | 0 => rfl
  | k + 1 => simp [cutS]
theorem join_cutS (i : Nat) (g : Nat → ByteArray) : joinF i (fun k => DV.str (cutS i g k)) (fun k => [DV.str (g i)].getD k (.str ⟨#[]⟩)) = fun k => DV.str (cutS (i + 1) g k) := by
  funext k
  simp only [joinF]
  by_cases h : k < i
  · simp only [if_pos h, cutS, if_pos (show k < i + 1 by omega)]
  · rw [if_neg h]
    by_cases h2 : k = i
    · subst h2; simp [cutS]
    · obtain ⟨j, hj⟩ : ∃ j, k - i = j + 1 := ⟨k - i - 1, by omega⟩
      rw [hj]
      simp [cutS, show ¬ k < i + 1 by omega]
theorem join_snoc (xs : List (List UInt8)) (y sep : List UInt8) (h : xs ≠ []) : Lib.join (xs ++ [y]) sep = Lib.join xs sep ++ (sep ++ y) := by
  cases xs with
  | nil => exact absurd rfl h
  | cons x r =>
    rw [List.cons_append, Lib.join_cons, Lib.join_cons]
    simp [Lib.joinTail]
theorem txt_join (a : Nat → Int) : ∀ n, Lib.join ((List.range n).map fun i => (itoa (a i)).data.toList) [47] = txt a n
  | 0 => rfl
  | 1 => by simp [txt, Lib.join_one, List.range_succ]
  | n + 2 => by
    rw [List.range_succ, List.map_append, List.map_cons, List.map_nil, join_snoc _ _ _ (by simp), txt_join a (n + 1)]
    simp [txt]
theorem itoa_le (x : Int) : (itoa x).size ≤ 2 := by
  unfold itoa
  split
  · exact Nat.le_refl 2
  · exact Nat.le_succ 1
theorem len_size (b : ByteArray) : b.data.toList.length = b.size := rfl
theorem txt_le (a : Nat → Int) : ∀ n, (txt a n).length ≤ 3 * n
  | 0 => by simp [txt]
  | n + 1 => by
    have h1 := txt_le a n
    have h2 := itoa_le (a n)
    simp only [txt, List.length_append, len_size]
    split <;> simp only [List.length_cons, List.length_nil] <;> omega
def prT (id : Int) (n : Nat) (f : Nat → Tr) (m : Nat) (a : Nat → Int) : ByteArray := if checkR id n f m a ≠ 0 then ⟨#[]⟩ else ⟨(txt a m).toArray⟩
theorem print_ok (id : Int) (n : Nat) (f : Nat → Tr) (m : Nat) (a : Nat → Int) : FnD Tryd.prog 17 [.d (rD id n f), .d (mD m a)] [.str (prT id n f m a), .int .i64 (checkR id n f m a)] := by
  refine fnD_intro (H := { nt := Go.Func.ntmps Tryd.f17 }) Tryd.func17 rfl rfl rfl rfl (Nat.le_of_ble_eq_true rfl) (okC_tri (by kernel_rfl) _ _ _ _ (by kernel_rfl) ?_)
  simp only [go_sem, Nat.reduceEqDiff, ↓reduceIte, Bool.false_eq_true, Nat.reduceAdd, Nat.reduceSub, Nat.reduceBNe, Nat.reduceBEq, Nat.reduceLT, Nat.reduceLeDiff, Nat.reduceMul, Nat.zero_lt_succ, Nat.lt_add_one, Nat.zero_lt_one, Int.reduceToNat, false_implies, true_implies, or_self, or_false, false_or, or_true, true_or, Nat.add_le_add_iff_right, true_and, and_true, forall_const, implies_true, List.contains_cons, List.contains_nil, List.all_cons, List.all_nil, bne_self_eq_false, Option.isSome_none, Option.isSome_some, Bool.or_false, Bool.false_or, Bool.true_or, Bool.or_true, ne_eq, not_false_eq_true, not_true_eq_false, beq_self_eq_true, cond_true, cond_false, Prod.mk.injEq, and_self, reduceCtorEq, BEq.rfl, Bool.and_true, Bool.true_and, Bool.and_false, Bool.false_and, Tryd.f17, rD, mD]
  refine ⟨_, fun _ => check_ok id n f m a, ?_, ?_⟩
  focus (first | exact fun _ => rfl | exact fun h0 => absurd h0 (by decide))
  simp only [go_sem, Nat.reduceEqDiff, ↓reduceIte, Bool.false_eq_true, Nat.reduceAdd, Nat.reduceSub, Nat.reduceBNe, Nat.reduceBEq, Nat.reduceLT, Nat.reduceLeDiff, Nat.reduceMul, Nat.zero_lt_succ, Nat.lt_add_one, Nat.zero_lt_one, Int.reduceToNat, false_implies, true_implies, or_self, or_false, false_or, or_true, true_or, Nat.add_le_add_iff_right, true_and, and_true, forall_const, implies_true, List.contains_cons, List.contains_nil, List.all_cons, List.all_nil, bne_self_eq_false, Option.isSome_none, Option.isSome_some, Bool.or_false, Bool.false_or, Bool.true_or, Bool.or_true, ne_eq, not_false_eq_true, not_true_eq_false, beq_self_eq_true, cond_true, cond_false, Prod.mk.injEq, and_self, reduceCtorEq, BEq.rfl, Bool.and_true, Bool.true_and, Bool.and_false, Bool.false_and]
  refine ⟨fun h => ?_, fun h hm => ?_⟩
  · have h' : checkR id n f m a ≠ 0 := by simpa using h
    simp only [prT, if_pos h']
  · have h' : checkR id n f m a = 0 := by simpa using h
    obtain ⟨v0, q1, ha⟩ := check0 h'
    subst q1
    obtain ⟨n1, n6, hr⟩ := valid0 v0
    have hres : prT id m f m a = ⟨(txt a m).toArray⟩ := by simp [prT, h']
    rw [h', hres]
    refine ⟨Option { i : Nat // 1 ≤ i ∧ i ≤ m }, fun x => (match x with
      | none => ([(18, .d (.int .i64 0)), (17, .d (.int .i64 m)), (16, .d (.list 1 m fun i => .int .i64 (a i))), (7, .d .nil)], [])
      | some i => ([(18, .d (.int .i64 i)), (17, .d (.int .i64 m)), (16, .d (.list 1 m fun i => .int .i64 (a i))), (7, .own 1 0 i)], [.arr 9 1 1 (fun k => [DV.str (itoa (a 0))].getD k (.str ⟨#[]⟩)), .arr 9 1 i (fun k => .str (cutS i (fun j => itoa (a j)) k))])), fun x => (match x with | none => m + 1 | some i => m - i), none, ?_, ?_⟩
    · simp only [go_sem, Nat.reduceEqDiff, ↓reduceIte, Bool.false_eq_true, Nat.reduceAdd, Nat.reduceSub, Nat.reduceBNe, Nat.reduceBEq, Nat.reduceLT, Nat.reduceLeDiff, Nat.reduceMul, Nat.zero_lt_succ, Nat.lt_add_one, Nat.zero_lt_one, Int.reduceToNat, false_implies, true_implies, or_self, or_false, false_or, or_true, true_or, Nat.add_le_add_iff_right, true_and, and_true, forall_const, implies_true, List.contains_cons, List.contains_nil, List.all_cons, List.all_nil, bne_self_eq_false, Option.isSome_none, Option.isSome_some, Bool.or_false, Bool.false_or, Bool.true_or, Bool.or_true, ne_eq, not_false_eq_true, not_true_eq_false, beq_self_eq_true, cond_true, cond_false, Prod.mk.injEq, and_self, reduceCtorEq, BEq.rfl, Bool.and_true, Bool.true_and, Bool.and_false, Bool.false_and]
    · rintro (_ | ⟨i, hi1, hi⟩)
      · simp only [go_sem, Nat.reduceEqDiff, ↓reduceIte, Bool.false_eq_true, Nat.reduceAdd, Nat.reduceSub, Nat.reduceBNe, Nat.reduceBEq, Nat.reduceLT, Nat.reduceLeDiff, Nat.reduceMul, Nat.zero_lt_succ, Nat.lt_add_one, Nat.zero_lt_one, Int.reduceToNat, false_implies, true_implies, or_self, or_false, false_or, or_true, true_or, Nat.add_le_add_iff_right, true_and, and_true, forall_const, implies_true, List.contains_cons, List.contains_nil, List.all_cons, List.all_nil, bne_self_eq_false, Option.isSome_none, Option.isSome_some, Bool.or_false, Bool.false_or, Bool.true_or, Bool.or_true, ne_eq, not_false_eq_true, not_true_eq_false, beq_self_eq_true, cond_true, cond_false, Prod.mk.injEq, and_self, reduceCtorEq, BEq.rfl, Bool.and_true, Bool.true_and, Bool.and_false, Bool.false_and, decide_eq_true_eq]
        refine ⟨fun hlt => ⟨by omega, ?_⟩, fun hge => by simp at hge; omega⟩
        obtain ⟨p1, p2⟩ := ha 0 (by omega)
        obtain ⟨p5, p6, p7, p8⟩ := hr 0 (by omega)
        refine ⟨_, fun _ => itoa_ok (a 0) p1 (by omega), ?_, ?_⟩
        focus (first | exact fun _ => rfl | exact fun h0 => absurd h0 (by decide))
        simp only [go_sem, Nat.reduceEqDiff, ↓reduceIte, Bool.false_eq_true, Nat.reduceAdd, Nat.reduceSub, Nat.reduceBNe, Nat.reduceBEq, Nat.reduceLT, Nat.reduceLeDiff, Nat.reduceMul, Nat.zero_lt_succ, Nat.lt_add_one, Nat.zero_lt_one, Int.reduceToNat, false_implies, true_implies, or_self, or_false, false_or, or_true, true_or, Nat.add_le_add_iff_right, true_and, and_true, forall_const, implies_true, List.contains_cons, List.contains_nil, List.all_cons, List.all_nil, bne_self_eq_false, Option.isSome_none, Option.isSome_some, Bool.or_false, Bool.false_or, Bool.true_or, Bool.or_true, ne_eq, not_false_eq_true, not_true_eq_false, beq_self_eq_true, cond_true, cond_false, Prod.mk.injEq, and_self, reduceCtorEq, BEq.rfl, Bool.and_true, Bool.true_and, Bool.and_false, Bool.false_and]
        refine ⟨by decide, some ⟨1, by omega, n1⟩, ?_⟩
        simp only [go_sem, Nat.reduceEqDiff, ↓reduceIte, Bool.false_eq_true, Nat.reduceAdd, Nat.reduceSub, Nat.reduceBNe, Nat.reduceBEq, Nat.reduceLT, Nat.reduceLeDiff, Nat.reduceMul, Nat.zero_lt_succ, Nat.lt_add_one, Nat.zero_lt_one, Int.reduceToNat, false_implies, true_implies, or_self, or_false, false_or, or_true, true_or, Nat.add_le_add_iff_right, true_and, and_true, forall_const, implies_true, List.contains_cons, List.contains_nil, List.all_cons, List.all_nil, bne_self_eq_false, Option.isSome_none, Option.isSome_some, Bool.or_false, Bool.false_or, Bool.true_or, Bool.or_true, ne_eq, not_false_eq_true, not_true_eq_false, beq_self_eq_true, cond_true, cond_false, Prod.mk.injEq, and_self, reduceCtorEq, BEq.rfl, Bool.and_true, Bool.true_and, Bool.and_false, Bool.false_and]
        refine ⟨by omega, rfl, ?_⟩
        rw [one_cutS (fun j => itoa (a j))]
      · simp only [go_sem, Nat.reduceEqDiff, ↓reduceIte, Bool.false_eq_true, Nat.reduceAdd, Nat.reduceSub, Nat.reduceBNe, Nat.reduceBEq, Nat.reduceLT, Nat.reduceLeDiff, Nat.reduceMul, Nat.zero_lt_succ, Nat.lt_add_one, Nat.zero_lt_one, Int.reduceToNat, false_implies, true_implies, or_self, or_false, false_or, or_true, true_or, Nat.add_le_add_iff_right, true_and, and_true, forall_const, implies_true, List.contains_cons, List.contains_nil, List.all_cons, List.all_nil, bne_self_eq_false, Option.isSome_none, Option.isSome_some, Bool.or_false, Bool.false_or, Bool.true_or, Bool.or_true, ne_eq, not_false_eq_true, not_true_eq_false, beq_self_eq_true, cond_true, cond_false, Prod.mk.injEq, and_self, reduceCtorEq, BEq.rfl, Bool.and_true, Bool.true_and, Bool.and_false, Bool.false_and, decide_eq_true_eq]
        refine ⟨fun hlt => ⟨by omega, ?_⟩, fun hge => ?_⟩
        · obtain ⟨p1, p2⟩ := ha i (by omega)
          obtain ⟨p5, p6, p7, p8⟩ := hr i (by omega)
          refine ⟨_, fun _ => itoa_ok (a i) p1 (by omega), ?_, ?_⟩
          focus (first | exact fun _ => rfl | exact fun h0 => absurd h0 (by decide))
          simp only [go_sem, Nat.reduceEqDiff, ↓reduceIte, Bool.false_eq_true, Nat.reduceAdd, Nat.reduceSub, Nat.reduceBNe, Nat.reduceBEq, Nat.reduceLT, Nat.reduceLeDiff, Nat.reduceMul, Nat.zero_lt_succ, Nat.lt_add_one, Nat.zero_lt_one, Int.reduceToNat, false_implies, true_implies, or_self, or_false, false_or, or_true, true_or, Nat.add_le_add_iff_right, true_and, and_true, forall_const, implies_true, List.contains_cons, List.contains_nil, List.all_cons, List.all_nil, bne_self_eq_false, Option.isSome_none, Option.isSome_some, Bool.or_false, Bool.false_or, Bool.true_or, Bool.or_true, ne_eq, not_false_eq_true, not_true_eq_false, beq_self_eq_true, cond_true, cond_false, Prod.mk.injEq, and_self, reduceCtorEq, BEq.rfl, Bool.and_true, Bool.true_and, Bool.and_false, Bool.false_and]
          refine ⟨by omega, by constructor <;> omega, some ⟨i + 1, by omega, by omega⟩, ?_⟩
          simp only [go_sem, Nat.reduceEqDiff, ↓reduceIte, Bool.false_eq_true, Nat.reduceAdd, Nat.reduceSub, Nat.reduceBNe, Nat.reduceBEq, Nat.reduceLT, Nat.reduceLeDiff, Nat.reduceMul, Nat.zero_lt_succ, Nat.lt_add_one, Nat.zero_lt_one, Int.reduceToNat, false_implies, true_implies, or_self, or_false, false_or, or_true, true_or, Nat.add_le_add_iff_right, true_and, and_true, forall_const, implies_true, List.contains_cons, List.contains_nil, List.all_cons, List.all_nil, bne_self_eq_false, Option.isSome_none, Option.isSome_some, Bool.or_false, Bool.false_or, Bool.true_or, Bool.or_true, ne_eq, not_false_eq_true, not_true_eq_false, beq_self_eq_true, cond_true, cond_false, Prod.mk.injEq, and_self, reduceCtorEq, BEq.rfl, Bool.and_true, Bool.true_and, Bool.and_false, Bool.false_and]
          refine ⟨by omega, by simp, ?_⟩
          rw [join_cutS i (fun j => itoa (a j))]
        · have : i = m := by simp at hge; omega
          subst this
          have hl := txt_le a i
          have hj := join_ok i (fun j => itoa (a j)) n1 (by omega) (by rw [txt_join]; omega) (fun k => DV.str (cutS i (fun j => itoa (a j)) k)) (fun k hk => by simp only [cutS, if_pos hk])
          rw [txt_join] at hj
          refine ⟨_, fun _ => hj, ?_, ?_⟩
          focus (first | exact fun _ => rfl | exact fun h0 => absurd h0 (by decide))
          simp only [go_sem, Nat.reduceEqDiff, ↓reduceIte, Bool.false_eq_true, Nat.reduceAdd, Nat.reduceSub, Nat.reduceBNe, Nat.reduceBEq, Nat.reduceLT, Nat.reduceLeDiff, Nat.reduceMul, Nat.zero_lt_succ, Nat.lt_add_one, Nat.zero_lt_one, Int.reduceToNat, false_implies, true_implies, or_self, or_false, false_or, or_true, true_or, Nat.add_le_add_iff_right, true_and, and_true, forall_const, implies_true, List.contains_cons, List.contains_nil, List.all_cons, List.all_nil, bne_self_eq_false, Option.isSome_none, Option.isSome_some, Bool.or_false, Bool.false_or, Bool.true_or, Bool.or_true, ne_eq, not_false_eq_true, not_true_eq_false, beq_self_eq_true, cond_true, cond_false, Prod.mk.injEq, and_self, reduceCtorEq, BEq.rfl, Bool.and_true, Bool.true_and, Bool.and_false, Bool.false_and]
def rsT (a : Nat → Int) (i : Nat) : ByteArray := ⟨(txt a i).toArray⟩
theorem str_one {x : Int} (h0 : 0 ≤ x) (h1 : x ≤ 10) (h : (x == 10) = false) : (strOf 1 fun k => [DV.int .u8 (IntKind.wrap .u8 (48 + x))].getD k (DV.int .u8 0)) = itoa x := by
  have hne : x ≠ 10 := by simpa using h
  have hw : IntKind.wrap .u8 (48 + x) = 48 + x := by
    simp only [IntKind.wrap, IntKind.bits, IntKind.signed]
    simp
    omega
  rw [hw, itoa, if_neg hne]
  show (⟨#[UInt8.ofNat (48 + x).toNat]⟩ : ByteArray) = _
  rw [show (48 + x).toNat = 48 + x.toNat by omega]
theorem rs_one {a : Nat → Int} {i : Nat} (h : ¬ 0 < i) : rsT a i ++ itoa (a i) = rsT a (i + 1) := by
  have : i = 0 := by omega
  subst this
  apply ba_ext
  simp [rsT, txt]
theorem rs_more {a : Nat → Int} {i : Nat} (h : 0 < i) : rsT a i ++ ⟨#[47]⟩ ++ itoa (a i) = rsT a (i + 1) := by
  apply ba_ext
  simp [rsT, txt, h]
theorem rs_size (a : Nat → Int) (i : Nat) : (rsT a i).size ≤ 3 * i := by
  have : (rsT a i).size = (txt a i).length := by rw [rsT]; exact List.size_toArray
  rw [this]
  exact txt_le a i
theorem isb_one (x : Int) : ∀ j, j < 1 → isB ([DV.int .u8 x].getD j (DV.int .u8 0)) = true
  | 0, _ => rfl
  | j + 1, h => absurd h (by omega)
theorem rprint_ok (id : Int) (n : Nat) (f : Nat → Tr) (m : Nat) (a : Nat → Int) : FnD Tryd.prog 18 [.d (rD id n f), .d (mD m a)] [.str (prT id n f m a), .int .i64 (checkR id n f m a)] := by
  refine fnD_intro (H := { nt := Go.Func.ntmps Tryd.f18 }) Tryd.func18 rfl rfl rfl rfl (Nat.le_of_ble_eq_true rfl) (okC_tri (by kernel_rfl) _ _ _ _ (by kernel_rfl) ?_)
  simp only [go_sem, Nat.reduceEqDiff, ↓reduceIte, Bool.false_eq_true, Nat.reduceAdd, Nat.reduceSub, Nat.reduceBNe, Nat.reduceBEq, Nat.reduceLT, Nat.reduceLeDiff, Nat.reduceMul, Nat.zero_lt_succ, Nat.lt_add_one, Nat.zero_lt_one, Int.reduceToNat, false_implies, true_implies, or_self, or_false, false_or, or_true, true_or, Nat.add_le_add_iff_right, true_and, and_true, forall_const, implies_true, List.contains_cons, List.contains_nil, List.all_cons, List.all_nil, bne_self_eq_false, Option.isSome_none, Option.isSome_some, Bool.or_false, Bool.false_or, Bool.true_or, Bool.or_true, ne_eq, not_false_eq_true, not_true_eq_false, beq_self_eq_true, cond_true, cond_false, Prod.mk.injEq, and_self, reduceCtorEq, BEq.rfl, Bool.and_true, Bool.true_and, Bool.and_false, Bool.false_and, Tryd.f18, rD, mD]
  refine ⟨_, fun _ => rcheck_ok id n f m a, ?_, ?_⟩
  focus (first | exact fun _ => rfl | exact fun h0 => absurd h0 (by decide))
  simp only [go_sem, Nat.reduceEqDiff, ↓reduceIte, Bool.false_eq_true, Nat.reduceAdd, Nat.reduceSub, Nat.reduceBNe, Nat.reduceBEq, Nat.reduceLT, Nat.reduceLeDiff, Nat.reduceMul, Nat.zero_lt_succ, Nat.lt_add_one, Nat.zero_lt_one, Int.reduceToNat, false_implies, true_implies, or_self, or_false, false_or, or_true, true_or, Nat.add_le_add_iff_right, true_and, and_true, forall_const, implies_true, List.contains_cons, List.contains_nil, List.all_cons, List.all_nil, bne_self_eq_false, Option.isSome_none, Option.isSome_some, Bool.or_false, Bool.false_or, Bool.true_or, Bool.or_true, ne_eq, not_false_eq_true, not_true_eq_false, beq_self_eq_true, cond_true, cond_false, Prod.mk.injEq, and_self, reduceCtorEq, BEq.rfl, Bool.and_true, Bool.true_and, Bool.and_false, Bool.false_and]
  refine ⟨fun h => ?_, fun h => ?_⟩
  · have h' : checkR id n f m a ≠ 0 := by simpa using h
    simp only [prT, if_pos h']
  · have h' : checkR id n f m a = 0 := by simpa using h
    obtain ⟨v0, q1, ha⟩ := check0 h'
    subst q1
    obtain ⟨n1, n6, hr⟩ := valid0 v0
    have hres : prT id m f m a = ⟨(txt a m).toArray⟩ := by simp [prT, h']
    rw [h', hres]
    refine ⟨{ i : Nat // i ≤ m }, fun i => ([(8, .d (.int .i64 i)), (7, .d (.str (rsT a i))), (1, .d (.list 1 m fun i => .int .i64 (a i)))], []), fun i => m - i, ⟨0, Nat.zero_le _⟩, ?_, ?_⟩
    · simp only [go_sem, Nat.reduceEqDiff, ↓reduceIte, Bool.false_eq_true, Nat.reduceAdd, Nat.reduceSub, Nat.reduceBNe, Nat.reduceBEq, Nat.reduceLT, Nat.reduceLeDiff, Nat.reduceMul, Nat.zero_lt_succ, Nat.lt_add_one, Nat.zero_lt_one, Int.reduceToNat, false_implies, true_implies, or_self, or_false, false_or, or_true, true_or, Nat.add_le_add_iff_right, true_and, and_true, forall_const, implies_true, List.contains_cons, List.contains_nil, List.all_cons, List.all_nil, bne_self_eq_false, Option.isSome_none, Option.isSome_some, Bool.or_false, Bool.false_or, Bool.true_or, Bool.or_true, ne_eq, not_false_eq_true, not_true_eq_false, beq_self_eq_true, cond_true, cond_false, Prod.mk.injEq, and_self, reduceCtorEq, BEq.rfl, Bool.and_true, Bool.true_and, Bool.and_false, Bool.false_and]
      exact ⟨rfl, rfl⟩
    · rintro ⟨i, hi⟩
      have hs := rs_size a i
      have z1 : (#[47] : Array UInt8).size = 1 := rfl
      have z2 : (#[49, 48] : Array UInt8).size = 2 := rfl
      simp only [go_sem, Nat.reduceEqDiff, ↓reduceIte, Bool.false_eq_true, Nat.reduceAdd, Nat.reduceSub, Nat.reduceBNe, Nat.reduceBEq, Nat.reduceLT, Nat.reduceLeDiff, Nat.reduceMul, Nat.zero_lt_succ, Nat.lt_add_one, Nat.zero_lt_one, Int.reduceToNat, false_implies, true_implies, or_self, or_false, false_or, or_true, true_or, Nat.add_le_add_iff_right, true_and, and_true, forall_const, implies_true, List.contains_cons, List.contains_nil, List.all_cons, List.all_nil, bne_self_eq_false, Option.isSome_none, Option.isSome_some, Bool.or_false, Bool.false_or, Bool.true_or, Bool.or_true, ne_eq, not_false_eq_true, not_true_eq_false, beq_self_eq_true, cond_true, cond_false, Prod.mk.injEq, and_self, reduceCtorEq, BEq.rfl, Bool.and_true, Bool.true_and, Bool.and_false, Bool.false_and, decide_eq_true_eq, strOf_size, z1, z2]
      refine fun _ => ⟨fun hlt => ?_, fun hge => ?_⟩
      · obtain ⟨p1, p2⟩ := ha i (by omega)
        obtain ⟨p5, p6, p7, p8⟩ := hr i (by omega)
        have hten : (a i == 10) = true → (⟨#[49, 48]⟩ : ByteArray) = itoa (a i) := fun h => by
          have : a i = 10 := by simpa using h
          rw [this]; rfl
        refine ⟨fun h0 => ⟨by omega, by omega, fun h => ⟨by omega, by omega, ⟨i + 1, by omega⟩, by simp only; omega, rfl, ?_⟩, fun h => ⟨by omega, by omega, isb_one _, by omega, by omega, ⟨i + 1, by omega⟩, by simp only; omega, rfl, ?_⟩⟩, fun h0 => ⟨by omega, fun h => ⟨by omega, by omega, ⟨i + 1, by omega⟩, by simp only; omega, rfl, ?_⟩, fun h => ⟨by omega, by omega, isb_one _, by omega, by omega, ⟨i + 1, by omega⟩, by simp only; omega, rfl, ?_⟩⟩⟩
        · rw [hten h, rs_more (by omega)]
        · rw [str_one p1 (by omega) h, rs_more (by omega)]
        · have h0' : ¬ 0 < i := by simp at h0; omega
          rw [hten h, rs_one h0']
        · have h0' : ¬ 0 < i := by simp at h0; omega
          rw [str_one p1 (by omega) h, rs_one h0']
      · have : i = m := by simp at hge; omega
        subst this
        rfl
end Go.Proofs.YtpfahanbkhgfhaaDoor.P41

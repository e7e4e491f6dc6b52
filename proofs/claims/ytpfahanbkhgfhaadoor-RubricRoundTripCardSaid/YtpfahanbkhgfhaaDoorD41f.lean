/- Proved here: contracts of functions of this chapter: called with these values, each returns these values and changes nothing that was. Conditions: none but those that each theorem names. -/
import Derived.Test.YtpfahanbkhgfhaaDoorD41e
set_option linter.unusedSimpArgs false
set_option linter.unusedVariables false
open Go Go.Proofs Go.Ev
namespace Go.Proofs.YtpfahanbkhgfhaaDoor.P41
set_option maxRecDepth 100000
def pieceB (b : ByteArray) (k : Nat) : ByteArray := ⟨((pcs b.data.toList).getD k []).toArray⟩
def nP (b : ByteArray) : Nat := Lib.countByte b.data.toList 47 + 1
def cutS (n : Nat) (g : Nat → ByteArray) (k : Nat) : ByteArray := if k < n then g k else ⟨#[]⟩
theorem cutS_step (n : Nat) (g : Nat → ByteArray) (x : ByteArray) (h : x = g n) : (fun k => if k = n then DV.str x else DV.str (cutS n g k)) = fun k => DV.str (cutS (n + 1) g k) := by
  funext k
  simp only [cutS]
  by_cases h1 : k = n
  · subst h1; simp [h]
  · rw [if_neg h1]
    by_cases h2 : k < n
    · rw [if_pos h2, if_pos (by omega)]
    · rw [if_neg h2, if_neg (by omega)]
theorem pcs_nP (b : ByteArray) : (pcs b.data.toList).length = nP b := pcs_length _
theorem ba_list (l : List UInt8) : (⟨l.toArray⟩ : ByteArray).data.toList = l := by simp
theorem extract_list (b : ByteArray) (i j : Nat) : (b.extract i j).data.toList = (b.data.toList.take j).drop i := by
  rw [ByteArray.data_extract, Array.toList_extract, List.extract_eq_take_drop, List.drop_take]
theorem ba_ext {a b : ByteArray} (h : a.data.toList = b.data.toList) : a = b := by
  cases a; cases b
  simp at h
  simp [h]
theorem gensplit_ok (b : ByteArray) (hs : b.size ≤ 1099511627776) : FnD Tryd.prog 28 [.d (.str b), .d (.str ⟨#[47]⟩), .d (.int .i64 0), .d (.int .i64 (-1))] [.list 1 (nP b) (fun k => .str (cutS (nP b) (pieceB b) k))] := by
  refine fnD_intro (H := { nt := Go.Func.ntmps Tryd.f28 }) Tryd.func28 rfl rfl rfl rfl (Nat.le_of_ble_eq_true rfl) (okC_tri (by kernel_rfl) _ _ _ _ (by kernel_rfl) ?_)
  have e1 : ((⟨#[47]⟩ : ByteArray).toList == (⟨#[]⟩ : ByteArray).toList) = false := by rw [Lib.toList_data, Lib.toList_data]; rfl
  simp only [go_sem, Nat.reduceEqDiff, ↓reduceIte, Bool.false_eq_true, Nat.reduceAdd, Nat.reduceSub, Nat.reduceBNe, Nat.reduceBEq, Nat.reduceLT, Nat.reduceLeDiff, Nat.reduceMul, Nat.zero_lt_succ, Nat.lt_add_one, Nat.zero_lt_one, Int.reduceToNat, false_implies, true_implies, or_self, or_false, false_or, or_true, true_or, Nat.add_le_add_iff_right, true_and, and_true, forall_const, implies_true, List.contains_cons, List.contains_nil, List.all_cons, List.all_nil, bne_self_eq_false, Option.isSome_none, Option.isSome_some, Bool.or_false, Bool.false_or, Bool.true_or, Bool.or_true, ne_eq, not_false_eq_true, not_true_eq_false, beq_self_eq_true, cond_true, cond_false, Prod.mk.injEq, and_self, reduceCtorEq, BEq.rfl, Bool.and_true, Bool.true_and, Bool.and_false, Bool.false_and, Tryd.f28, e1, Int.reduceBEq, Int.reduceLT, decide_true, decide_false]
  refine ⟨_, fun _ => count_ok b, ?_, ?_⟩
  focus (first | exact fun _ => rfl | exact fun h0 => absurd h0 (by decide))
  simp only [go_sem, Nat.reduceEqDiff, ↓reduceIte, Bool.false_eq_true, Nat.reduceAdd, Nat.reduceSub, Nat.reduceBNe, Nat.reduceBEq, Nat.reduceLT, Nat.reduceLeDiff, Nat.reduceMul, Nat.zero_lt_succ, Nat.lt_add_one, Nat.zero_lt_one, Int.reduceToNat, false_implies, true_implies, or_self, or_false, false_or, or_true, true_or, Nat.add_le_add_iff_right, true_and, and_true, forall_const, implies_true, List.contains_cons, List.contains_nil, List.all_cons, List.all_nil, bne_self_eq_false, Option.isSome_none, Option.isSome_some, Bool.or_false, Bool.false_or, Bool.true_or, Bool.or_true, ne_eq, not_false_eq_true, not_true_eq_false, beq_self_eq_true, cond_true, cond_false, Prod.mk.injEq, and_self, reduceCtorEq, BEq.rfl, Bool.and_true, Bool.true_and, Bool.and_false, Bool.false_and]
  have hle : Lib.countByte b.data.toList 47 ≤ b.size := by
    have := List.count_le_length (a := (47 : UInt8)) (l := b.data.toList)
    have e : b.data.toList.length = b.size := rfl
    rw [e] at this
    exact this
  have hc : ((b.size : Int) + 1 < (Lib.countByte b.data.toList 47 : Int) + 1) = False := by simp; omega
  simp only [go_sem, Nat.reduceEqDiff, ↓reduceIte, Bool.false_eq_true, Nat.reduceAdd, Nat.reduceSub, Nat.reduceBNe, Nat.reduceBEq, Nat.reduceLT, Nat.reduceLeDiff, Nat.reduceMul, Nat.zero_lt_succ, Nat.lt_add_one, Nat.zero_lt_one, Int.reduceToNat, false_implies, true_implies, or_self, or_false, false_or, or_true, true_or, Nat.add_le_add_iff_right, true_and, and_true, forall_const, implies_true, List.contains_cons, List.contains_nil, List.all_cons, List.all_nil, bne_self_eq_false, Option.isSome_none, Option.isSome_some, Bool.or_false, Bool.false_or, Bool.true_or, Bool.or_true, ne_eq, not_false_eq_true, not_true_eq_false, beq_self_eq_true, cond_true, cond_false, Prod.mk.injEq, and_self, reduceCtorEq, BEq.rfl, Bool.and_true, Bool.true_and, Bool.and_false, Bool.false_and, hc, if_false]
  have hn : nP b = Lib.countByte b.data.toList 47 + 1 := rfl
  generalize Lib.countByte b.data.toList 47 = c at hle hn hc
  have t1 : ((c : Int) + 1).toNat = nP b := by omega
  have t2 : (c : Int) + 1 - 1 = c := by omega
  simp only [t1, t2]
  refine ⟨by omega, fun _ => ⟨by omega, ⟨by omega, by omega, ?_⟩, by omega, ?_⟩⟩
  · have : ((16 : Nat) : Int) = 16 := rfl
    rw [this]
    omega
  refine ⟨{ x : Nat × ByteArray // x.1 + 1 ≤ nP b ∧ (pcs b.data.toList).drop x.1 = pcs x.2.data.toList ∧ x.2.size ≤ b.size }, fun x => ([(10, .d (.int .i64 x.1.1)), (3, .d (.int .i64 c)), (9, .own 0 0 (nP b)), (2, .d (.int .i64 0)), (1, .d (.str ⟨#[47]⟩)), (0, .d (.str x.1.2)), (8, .d .nil)], [.arr 9 1 (nP b) (fun k => .str (cutS x.1.1 (pieceB b) k))]), fun x => nP b - x.1.1, ⟨(0, b), by simp only; omega, rfl, Nat.le_refl _⟩, ?_, ?_⟩
  · simp only [go_sem, Nat.reduceEqDiff, ↓reduceIte, Bool.false_eq_true, Nat.reduceAdd, Nat.reduceSub, Nat.reduceBNe, Nat.reduceBEq, Nat.reduceLT, Nat.reduceLeDiff, Nat.reduceMul, Nat.zero_lt_succ, Nat.lt_add_one, Nat.zero_lt_one, Int.reduceToNat, false_implies, true_implies, or_self, or_false, false_or, or_true, true_or, Nat.add_le_add_iff_right, true_and, and_true, forall_const, implies_true, List.contains_cons, List.contains_nil, List.all_cons, List.all_nil, bne_self_eq_false, Option.isSome_none, Option.isSome_some, Bool.or_false, Bool.false_or, Bool.true_or, Bool.or_true, ne_eq, not_false_eq_true, not_true_eq_false, beq_self_eq_true, cond_true, cond_false, Prod.mk.injEq, and_self, reduceCtorEq, BEq.rfl, Bool.and_true, Bool.true_and, Bool.and_false, Bool.false_and]
    exact ⟨rfl, by congr 1⟩
  · rintro ⟨⟨i, x⟩, hi, hp, hx⟩
    simp only at hi hp hx
    have hlen : (pcs x.data.toList).length = nP b - i := by rw [← hp, List.length_drop, pcs_nP]
    have hpi : pieceB b i = ⟨((pcs x.data.toList).getD 0 []).toArray⟩ := by
      rw [pieceB, ← hp, List.getD_eq_getElem?_getD, List.getD_eq_getElem?_getD, List.getElem?_drop]
      rfl
    simp only [go_sem, Nat.reduceEqDiff, ↓reduceIte, Bool.false_eq_true, Nat.reduceAdd, Nat.reduceSub, Nat.reduceBNe, Nat.reduceBEq, Nat.reduceLT, Nat.reduceLeDiff, Nat.reduceMul, Nat.zero_lt_succ, Nat.lt_add_one, Nat.zero_lt_one, Int.reduceToNat, false_implies, true_implies, or_self, or_false, false_or, or_true, true_or, Nat.add_le_add_iff_right, true_and, and_true, forall_const, implies_true, List.contains_cons, List.contains_nil, List.all_cons, List.all_nil, bne_self_eq_false, Option.isSome_none, Option.isSome_some, Bool.or_false, Bool.false_or, Bool.true_or, Bool.or_true, ne_eq, not_false_eq_true, not_true_eq_false, beq_self_eq_true, cond_true, cond_false, Prod.mk.injEq, and_self, reduceCtorEq, BEq.rfl, Bool.and_true, Bool.true_and, Bool.and_false, Bool.false_and, decide_eq_true_eq]
    refine ⟨fun hlt => ?_, fun hge => ?_⟩
    · refine ⟨_, fun _ => find_ok x, ?_, ?_⟩
      focus (first | exact fun _ => rfl | exact fun h0 => absurd h0 (by decide))
      simp only [go_sem, Nat.reduceEqDiff, ↓reduceIte, Bool.false_eq_true, Nat.reduceAdd, Nat.reduceSub, Nat.reduceBNe, Nat.reduceBEq, Nat.reduceLT, Nat.reduceLeDiff, Nat.reduceMul, Nat.zero_lt_succ, Nat.lt_add_one, Nat.zero_lt_one, Int.reduceToNat, false_implies, true_implies, or_self, or_false, false_or, or_true, true_or, Nat.add_le_add_iff_right, true_and, and_true, forall_const, implies_true, List.contains_cons, List.contains_nil, List.all_cons, List.all_nil, bne_self_eq_false, Option.isSome_none, Option.isSome_some, Bool.or_false, Bool.false_or, Bool.true_or, Bool.or_true, ne_eq, not_false_eq_true, not_true_eq_false, beq_self_eq_true, cond_true, cond_false, Prod.mk.injEq, and_self, reduceCtorEq, BEq.rfl, Bool.and_true, Bool.true_and, Bool.and_false, Bool.false_and]
      have hix : ¬ Lib.indexByte x.data.toList 47 < 0 := by
        intro hneg
        have hge := Lib.indexByte_ge x.data.toList 47
        have := pcs_none (ix_none (l := x.data.toList) (by omega))
        rw [this] at hlen
        simp at hlen
        omega
      obtain ⟨u, v, hx1, hu, hun⟩ := ix_some (l := x.data.toList) rfl (by omega)
      generalize Lib.indexByte x.data.toList 47 = m at hix hu ⊢
      have hpc := pcs_cut (v := v) hun
      rw [← hx1] at hpc
      have hxs : x.size = u.length + 1 + v.length := by
        have : x.data.toList.length = x.size := rfl
        rw [← this, hx1]
        simp
        omega
      have es : ((#[47] : Array UInt8).size : Int) = 1 := rfl
      have hd : decide (m < 0) = false := by simpa using hix
      simp only [go_sem, Nat.reduceEqDiff, ↓reduceIte, Bool.false_eq_true, Nat.reduceAdd, Nat.reduceSub, Nat.reduceBNe, Nat.reduceBEq, Nat.reduceLT, Nat.reduceLeDiff, Nat.reduceMul, Nat.zero_lt_succ, Nat.lt_add_one, Nat.zero_lt_one, Int.reduceToNat, false_implies, true_implies, or_self, or_false, false_or, or_true, true_or, Nat.add_le_add_iff_right, true_and, and_true, forall_const, implies_true, List.contains_cons, List.contains_nil, List.all_cons, List.all_nil, bne_self_eq_false, Option.isSome_none, Option.isSome_some, Bool.or_false, Bool.false_or, Bool.true_or, Bool.or_true, ne_eq, not_false_eq_true, not_true_eq_false, beq_self_eq_true, cond_true, cond_false, Prod.mk.injEq, and_self, reduceCtorEq, BEq.rfl, Bool.and_true, Bool.true_and, Bool.and_false, Bool.false_and, hd, es]
      have hm1 : (m + 1).toNat = u.length + 1 := by omega
      have hm0 : (m + 0).toNat = u.length := by omega
      rw [hm1, hm0]
      have hrest : (x.extract (u.length + 1) x.size).data.toList = v := by
        rw [extract_list, hx1, List.take_of_length_le (by simp; omega)]
        have : u ++ 47 :: v = (u ++ [47]) ++ v := by simp
        rw [this, List.drop_left' (by simp)]
      have hfirst : (x.extract 0 u.length) = pieceB b i := by
        rw [hpi, hpc]
        apply ba_ext
        rw [extract_list, hx1, List.take_left' rfl]
        simp
      refine ⟨by omega, by omega, by omega, by omega, fun _ => ⟨by omega, by omega, by omega, ⟨(i + 1, x.extract (u.length + 1) x.size), by simp only; omega, ?_, ?_⟩, by simp only; omega, by simp, ?_⟩⟩
      · rw [hrest, ← List.drop_drop, hp, hpc]
        rfl
      · simp only [ByteArray.size_extract]; omega
      · rw [hfirst, cutS_step i (pieceB b) _ rfl]
    · have hci : i = c := by simp at hge; omega
      have hone : pcs x.data.toList = [x.data.toList] := by
        apply pcs_none
        apply ix_none
        have hge := Lib.indexByte_ge x.data.toList 47
        refine Classical.byContradiction fun hne => ?_
        obtain ⟨u, v, hx1, hu, hun⟩ := ix_some (l := x.data.toList) rfl (by omega)
        have hpc := pcs_cut (v := v) hun
        rw [← hx1] at hpc
        rw [hpc] at hlen
        have := pcs_length v
        simp at hlen
        omega
      have hlast : x = pieceB b i := by
        rw [hpi, hone]
        apply ba_ext
        simp
      have e5 : ((i : Int) + 1).toNat - 0 = nP b := by omega
      have e6 : (fun k => if k = i then DV.str x else DV.str (cutS i (pieceB b) k)) = fun k => DV.str (cutS (nP b) (pieceB b) k) := by
        rw [hlast, cutS_step i (pieceB b) _ rfl, show i + 1 = nP b by omega]
      rw [e5, e6]
      refine ⟨by omega, by omega, by omega, by omega, ?_⟩
      simp only [go_sem, Nat.reduceEqDiff, ↓reduceIte, Bool.false_eq_true, Nat.reduceAdd, Nat.reduceSub, Nat.reduceBNe, Nat.reduceBEq, Nat.reduceLT, Nat.reduceLeDiff, Nat.reduceMul, Nat.zero_lt_succ, Nat.lt_add_one, Nat.zero_lt_one, Int.reduceToNat, false_implies, true_implies, or_self, or_false, false_or, or_true, true_or, Nat.add_le_add_iff_right, true_and, and_true, forall_const, implies_true, List.contains_cons, List.contains_nil, List.all_cons, List.all_nil, bne_self_eq_false, Option.isSome_none, Option.isSome_some, Bool.or_false, Bool.false_or, Bool.true_or, Bool.or_true, ne_eq, not_false_eq_true, not_true_eq_false, beq_self_eq_true, cond_true, cond_false, Prod.mk.injEq, and_self, reduceCtorEq, BEq.rfl, Bool.and_true, Bool.true_and, Bool.and_false, Bool.false_and]
theorem split_ok (b : ByteArray) (hs : b.size ≤ 1099511627776) : FnD Tryd.prog 19 [.d (.str b), .d (.str ⟨#[47]⟩)] [.list 1 (nP b) (fun k => .str (cutS (nP b) (pieceB b) k))] := by
  refine fnD_intro (H := { nt := Go.Func.ntmps Tryd.f19 }) Tryd.func19 rfl rfl rfl rfl (Nat.le_of_ble_eq_true rfl) (okC_tri (by kernel_rfl) _ _ _ _ (by kernel_rfl) ?_)
  simp only [go_sem, Nat.reduceEqDiff, ↓reduceIte, Bool.false_eq_true, Nat.reduceAdd, Nat.reduceSub, Nat.reduceBNe, Nat.reduceBEq, Nat.reduceLT, Nat.reduceLeDiff, Nat.reduceMul, Nat.zero_lt_succ, Nat.lt_add_one, Nat.zero_lt_one, Int.reduceToNat, false_implies, true_implies, or_self, or_false, false_or, or_true, true_or, Nat.add_le_add_iff_right, true_and, and_true, forall_const, implies_true, List.contains_cons, List.contains_nil, List.all_cons, List.all_nil, bne_self_eq_false, Option.isSome_none, Option.isSome_some, Bool.or_false, Bool.false_or, Bool.true_or, Bool.or_true, ne_eq, not_false_eq_true, not_true_eq_false, beq_self_eq_true, cond_true, cond_false, Prod.mk.injEq, and_self, reduceCtorEq, BEq.rfl, Bool.and_true, Bool.true_and, Bool.and_false, Bool.false_and, Tryd.f19]
  refine ⟨_, fun _ => gensplit_ok b hs, ?_, ?_⟩
  focus (first | exact fun _ => rfl | exact fun h0 => absurd h0 (by decide))
  simp only [go_sem, Nat.reduceEqDiff, ↓reduceIte, Bool.false_eq_true, Nat.reduceAdd, Nat.reduceSub, Nat.reduceBNe, Nat.reduceBEq, Nat.reduceLT, Nat.reduceLeDiff, Nat.reduceMul, Nat.zero_lt_succ, Nat.lt_add_one, Nat.zero_lt_one, Int.reduceToNat, false_implies, true_implies, or_self, or_false, false_or, or_true, true_or, Nat.add_le_add_iff_right, true_and, and_true, forall_const, implies_true, List.contains_cons, List.contains_nil, List.all_cons, List.all_nil, bne_self_eq_false, Option.isSome_none, Option.isSome_some, Bool.or_false, Bool.false_or, Bool.true_or, Bool.or_true, ne_eq, not_false_eq_true, not_true_eq_false, beq_self_eq_true, cond_true, cond_false, Prod.mk.injEq, and_self, reduceCtorEq, BEq.rfl, Bool.and_true, Bool.true_and, Bool.and_false, Bool.false_and]
end Go.Proofs.YtpfahanbkhgfhaaDoor.P41

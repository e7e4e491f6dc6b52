/- Proved here: contracts of functions of this chapter: called with these values, each returns these values and changes nothing that was. Conditions: none but those that each theorem names. -/
import Derived.Test.YtpfahanbkhgfhaaDoorD41f
set_option linter.unusedSimpArgs false
set_option linter.unusedVariables false
open Go Go.Proofs Go.Ev
namespace Go.Proofs.YtpfahanbkhgfhaaDoor.P41
set_option maxRecDepth 100000
def okP (b : ByteArray) (j : Nat) : Bool := numOk (pieceB b j)
def valP (b : ByteArray) (j : Nat) : Int := numF (pieceB b j) (pieceB b j).size
def parN (id : Int) (n : Nat) (f : Nat → Tr) (b : ByteArray) : Int := checkR id n f (nP b) (cutF (nP b) (valP b))
def parE (id : Int) (n : Nat) (f : Nat → Tr) (b : ByteArray) : Int := if allN (okP b) (nP b) = true then parN id n f b else 2
def parL (id : Int) (n : Nat) (f : Nat → Tr) (b : ByteArray) : DV := if parE id n f b = 0 then mD (nP b) (cutF (nP b) (valP b)) else .nil
theorem par_bad {id : Int} {n : Nat} {f : Nat → Tr} {b : ByteArray} {i : Nat} (h : i < nP b) (hp : okP b i = false) : parE id n f b = 2 ∧ parL id n f b = .nil := by
  have h1 := allN_no h hp
  have : parE id n f b = 2 := by simp [parE, h1]
  refine ⟨this, ?_⟩
  simp [parL, this]
theorem par_good {id : Int} {n : Nat} {f : Nat → Tr} {b : ByteArray} (h : ∀ j, j < nP b → okP b j = true) : parE id n f b = parN id n f b := by
  simp [parE, allN_yes h]
theorem parse_ok (id : Int) (n : Nat) (f : Nat → Tr) (b : ByteArray) (hs : b.size ≤ 1099511627776) : FnD Tryd.prog 6 [.d (rD id n f), .d (.str b)] [parL id n f b, .int .i64 (parE id n f b)] := by
  refine fnD_intro (H := { nt := Go.Func.ntmps Tryd.f6 }) Tryd.func6 rfl rfl rfl rfl (Nat.le_of_ble_eq_true rfl) (okC_tri (by kernel_rfl) _ _ _ _ (by kernel_rfl) ?_)
  simp only [go_sem, Nat.reduceEqDiff, ↓reduceIte, Bool.false_eq_true, Nat.reduceAdd, Nat.reduceSub, Nat.reduceBNe, Nat.reduceBEq, Nat.reduceLT, Nat.reduceLeDiff, Nat.reduceMul, Nat.zero_lt_succ, Nat.lt_add_one, Nat.zero_lt_one, Int.reduceToNat, false_implies, true_implies, or_self, or_false, false_or, or_true, true_or, Nat.add_le_add_iff_right, true_and, and_true, forall_const, implies_true, List.contains_cons, List.contains_nil, List.all_cons, List.all_nil, bne_self_eq_false, Option.isSome_none, Option.isSome_some, Bool.or_false, Bool.false_or, Bool.true_or, Bool.or_true, ne_eq, not_false_eq_true, not_true_eq_false, beq_self_eq_true, cond_true, cond_false, Prod.mk.injEq, and_self, reduceCtorEq, BEq.rfl, Bool.and_true, Bool.true_and, Bool.and_false, Bool.false_and, Tryd.f6, rD]
  refine ⟨_, fun _ => split_ok b hs, ?_, ?_⟩
  focus (first | exact fun _ => rfl | exact fun h0 => absurd h0 (by decide))
  simp only [go_sem, Nat.reduceEqDiff, ↓reduceIte, Bool.false_eq_true, Nat.reduceAdd, Nat.reduceSub, Nat.reduceBNe, Nat.reduceBEq, Nat.reduceLT, Nat.reduceLeDiff, Nat.reduceMul, Nat.zero_lt_succ, Nat.lt_add_one, Nat.zero_lt_one, Int.reduceToNat, false_implies, true_implies, or_self, or_false, false_or, or_true, true_or, Nat.add_le_add_iff_right, true_and, and_true, forall_const, implies_true, List.contains_cons, List.contains_nil, List.all_cons, List.all_nil, bne_self_eq_false, Option.isSome_none, Option.isSome_some, Bool.or_false, Bool.false_or, Bool.true_or, Bool.or_true, ne_eq, not_false_eq_true, not_true_eq_false, beq_self_eq_true, cond_true, cond_false, Prod.mk.injEq, and_self, reduceCtorEq, BEq.rfl, Bool.and_true, Bool.true_and, Bool.and_false, Bool.false_and]
  have hle : nP b ≤ b.size + 1 := by
    have := List.count_le_length (a := (47 : UInt8)) (l := b.data.toList)
    have e : b.data.toList.length = b.size := rfl
    rw [e] at this
    exact Nat.succ_le_succ this
  have h1 : 1 ≤ nP b := Nat.succ_le_succ (Nat.zero_le _)
  intro hfn
  refine ⟨Option { i : Nat // 1 ≤ i ∧ i ≤ nP b ∧ ∀ j, j < i → okP b j = true }, fun x => (match x with
    | none => ([(15, .d (.int .i64 0)), (14, .d (.int .i64 (nP b))), (13, .d (.list 1 (nP b) (fun k => .str (cutS (nP b) (pieceB b) k)))), (6, .d .nil), (2, .ptr 0 0)], [.box [.d (.int .i64 id), .d (.list 3 n fun i => tD (f i))]])
    | some i => ([(15, .d (.int .i64 i)), (14, .d (.int .i64 (nP b))), (13, .d (.list 1 (nP b) (fun k => .str (cutS (nP b) (pieceB b) k)))), (6, .own 2 0 i), (2, .ptr 0 0)], [.box [.d (.int .i64 id), .d (.list 3 n fun i => tD (f i))], .arr 3 1 1 (fun k => [DV.int .i64 (valP b 0)].getD k (.int .i64 0)), .arr 3 1 i (fun k => .int .i64 (cutF i (valP b) k))])), fun x => (match x with | none => nP b + 1 | some i => nP b - i), none, ?_, ?_⟩
  · simp only [go_sem, Nat.reduceEqDiff, ↓reduceIte, Bool.false_eq_true, Nat.reduceAdd, Nat.reduceSub, Nat.reduceBNe, Nat.reduceBEq, Nat.reduceLT, Nat.reduceLeDiff, Nat.reduceMul, Nat.zero_lt_succ, Nat.lt_add_one, Nat.zero_lt_one, Int.reduceToNat, false_implies, true_implies, or_self, or_false, false_or, or_true, true_or, Nat.add_le_add_iff_right, true_and, and_true, forall_const, implies_true, List.contains_cons, List.contains_nil, List.all_cons, List.all_nil, bne_self_eq_false, Option.isSome_none, Option.isSome_some, Bool.or_false, Bool.false_or, Bool.true_or, Bool.or_true, ne_eq, not_false_eq_true, not_true_eq_false, beq_self_eq_true, cond_true, cond_false, Prod.mk.injEq, and_self, reduceCtorEq, BEq.rfl, Bool.and_true, Bool.true_and, Bool.and_false, Bool.false_and]
  · rintro (_ | ⟨i, hi1, hi, hok⟩)
    · have hc : cutS (nP b) (pieceB b) 0 = pieceB b 0 := by simp only [cutS, if_pos (show 0 < nP b by omega)]
      simp only [go_sem, Nat.reduceEqDiff, ↓reduceIte, Bool.false_eq_true, Nat.reduceAdd, Nat.reduceSub, Nat.reduceBNe, Nat.reduceBEq, Nat.reduceLT, Nat.reduceLeDiff, Nat.reduceMul, Nat.zero_lt_succ, Nat.lt_add_one, Nat.zero_lt_one, Int.reduceToNat, false_implies, true_implies, or_self, or_false, false_or, or_true, true_or, Nat.add_le_add_iff_right, true_and, and_true, forall_const, implies_true, List.contains_cons, List.contains_nil, List.all_cons, List.all_nil, bne_self_eq_false, Option.isSome_none, Option.isSome_some, Bool.or_false, Bool.false_or, Bool.true_or, Bool.or_true, ne_eq, not_false_eq_true, not_true_eq_false, beq_self_eq_true, cond_true, cond_false, Prod.mk.injEq, and_self, reduceCtorEq, BEq.rfl, Bool.and_true, Bool.true_and, Bool.and_false, Bool.false_and, decide_eq_true_eq, hc]
      refine ⟨fun hlt => ⟨by omega, ?_⟩, fun hge => by simp at hge; omega⟩
      refine ⟨_, fun _ => number_ok (pieceB b 0), ?_, ?_⟩
      focus (first | exact fun _ => rfl | exact fun h0 => absurd h0 (by decide))
      simp only [go_sem, Nat.reduceEqDiff, ↓reduceIte, Bool.false_eq_true, Nat.reduceAdd, Nat.reduceSub, Nat.reduceBNe, Nat.reduceBEq, Nat.reduceLT, Nat.reduceLeDiff, Nat.reduceMul, Nat.zero_lt_succ, Nat.lt_add_one, Nat.zero_lt_one, Int.reduceToNat, false_implies, true_implies, or_self, or_false, false_or, or_true, true_or, Nat.add_le_add_iff_right, true_and, and_true, forall_const, implies_true, List.contains_cons, List.contains_nil, List.all_cons, List.all_nil, bne_self_eq_false, Option.isSome_none, Option.isSome_some, Bool.or_false, Bool.false_or, Bool.true_or, Bool.or_true, ne_eq, not_false_eq_true, not_true_eq_false, beq_self_eq_true, cond_true, cond_false, Prod.mk.injEq, and_self, reduceCtorEq, BEq.rfl, Bool.and_true, Bool.true_and, Bool.and_false, Bool.false_and]
      refine ⟨fun hb => ?_, fun hg => ⟨by decide, some ⟨1, by omega, by omega, fun j hj => ?_⟩, ?_⟩⟩
      · have : okP b 0 = false := by simpa [okP] using hb
        obtain ⟨p1, p2⟩ := par_bad (id := id) (n := n) (f := f) (show 0 < nP b by omega) this
        rw [p1, p2]
      · have : j = 0 := by omega
        subst this
        simpa [okP] using hg
      · have hk : numOk (pieceB b 0) = true := by simpa using hg
        simp only [go_sem, Nat.reduceEqDiff, ↓reduceIte, Bool.false_eq_true, Nat.reduceAdd, Nat.reduceSub, Nat.reduceBNe, Nat.reduceBEq, Nat.reduceLT, Nat.reduceLeDiff, Nat.reduceMul, Nat.zero_lt_succ, Nat.lt_add_one, Nat.zero_lt_one, Int.reduceToNat, false_implies, true_implies, or_self, or_false, false_or, or_true, true_or, Nat.add_le_add_iff_right, true_and, and_true, forall_const, implies_true, List.contains_cons, List.contains_nil, List.all_cons, List.all_nil, bne_self_eq_false, Option.isSome_none, Option.isSome_some, Bool.or_false, Bool.false_or, Bool.true_or, Bool.or_true, ne_eq, not_false_eq_true, not_true_eq_false, beq_self_eq_true, cond_true, cond_false, Prod.mk.injEq, and_self, reduceCtorEq, BEq.rfl, Bool.and_true, Bool.true_and, Bool.and_false, Bool.false_and]
        refine ⟨by omega, rfl, ?_⟩
        rw [if_pos hk]
        exact ⟨rfl, by rw [show numF (pieceB b 0) (pieceB b 0).size = valP b 0 from rfl, one_cut (valP b)]⟩
    · simp only [go_sem, Nat.reduceEqDiff, ↓reduceIte, Bool.false_eq_true, Nat.reduceAdd, Nat.reduceSub, Nat.reduceBNe, Nat.reduceBEq, Nat.reduceLT, Nat.reduceLeDiff, Nat.reduceMul, Nat.zero_lt_succ, Nat.lt_add_one, Nat.zero_lt_one, Int.reduceToNat, false_implies, true_implies, or_self, or_false, false_or, or_true, true_or, Nat.add_le_add_iff_right, true_and, and_true, forall_const, implies_true, List.contains_cons, List.contains_nil, List.all_cons, List.all_nil, bne_self_eq_false, Option.isSome_none, Option.isSome_some, Bool.or_false, Bool.false_or, Bool.true_or, Bool.or_true, ne_eq, not_false_eq_true, not_true_eq_false, beq_self_eq_true, cond_true, cond_false, Prod.mk.injEq, and_self, reduceCtorEq, BEq.rfl, Bool.and_true, Bool.true_and, Bool.and_false, Bool.false_and, decide_eq_true_eq]
      refine ⟨fun hlt => ⟨by omega, ?_⟩, fun hge => ?_⟩
      · have hc : cutS (nP b) (pieceB b) i = pieceB b i := by simp only [cutS, if_pos (show i < nP b by omega)]
        simp only [go_sem, Nat.reduceEqDiff, ↓reduceIte, Bool.false_eq_true, Nat.reduceAdd, Nat.reduceSub, Nat.reduceBNe, Nat.reduceBEq, Nat.reduceLT, Nat.reduceLeDiff, Nat.reduceMul, Nat.zero_lt_succ, Nat.lt_add_one, Nat.zero_lt_one, Int.reduceToNat, false_implies, true_implies, or_self, or_false, false_or, or_true, true_or, Nat.add_le_add_iff_right, true_and, and_true, forall_const, implies_true, List.contains_cons, List.contains_nil, List.all_cons, List.all_nil, bne_self_eq_false, Option.isSome_none, Option.isSome_some, Bool.or_false, Bool.false_or, Bool.true_or, Bool.or_true, ne_eq, not_false_eq_true, not_true_eq_false, beq_self_eq_true, cond_true, cond_false, Prod.mk.injEq, and_self, reduceCtorEq, BEq.rfl, Bool.and_true, Bool.true_and, Bool.and_false, Bool.false_and, hc]
        refine ⟨_, fun _ => number_ok (pieceB b i), ?_, ?_⟩
        focus (first | exact fun _ => rfl | exact fun h0 => absurd h0 (by decide))
        simp only [go_sem, Nat.reduceEqDiff, ↓reduceIte, Bool.false_eq_true, Nat.reduceAdd, Nat.reduceSub, Nat.reduceBNe, Nat.reduceBEq, Nat.reduceLT, Nat.reduceLeDiff, Nat.reduceMul, Nat.zero_lt_succ, Nat.lt_add_one, Nat.zero_lt_one, Int.reduceToNat, false_implies, true_implies, or_self, or_false, false_or, or_true, true_or, Nat.add_le_add_iff_right, true_and, and_true, forall_const, implies_true, List.contains_cons, List.contains_nil, List.all_cons, List.all_nil, bne_self_eq_false, Option.isSome_none, Option.isSome_some, Bool.or_false, Bool.false_or, Bool.true_or, Bool.or_true, ne_eq, not_false_eq_true, not_true_eq_false, beq_self_eq_true, cond_true, cond_false, Prod.mk.injEq, and_self, reduceCtorEq, BEq.rfl, Bool.and_true, Bool.true_and, Bool.and_false, Bool.false_and]
        refine ⟨fun hb => ?_, fun hg => ⟨by omega, by constructor <;> omega, some ⟨i + 1, by omega, by omega, fun j hj => ?_⟩, ?_⟩⟩
        · have : okP b i = false := by simpa [okP] using hb
          obtain ⟨p1, p2⟩ := par_bad (id := id) (n := n) (f := f) (show i < nP b by omega) this
          rw [p1, p2]
        · by_cases e : j = i
          · subst e; simpa [okP] using hg
          · exact hok j (by omega)
        · have hk : numOk (pieceB b i) = true := by simpa using hg
          simp only [go_sem, Nat.reduceEqDiff, ↓reduceIte, Bool.false_eq_true, Nat.reduceAdd, Nat.reduceSub, Nat.reduceBNe, Nat.reduceBEq, Nat.reduceLT, Nat.reduceLeDiff, Nat.reduceMul, Nat.zero_lt_succ, Nat.lt_add_one, Nat.zero_lt_one, Int.reduceToNat, false_implies, true_implies, or_self, or_false, false_or, or_true, true_or, Nat.add_le_add_iff_right, true_and, and_true, forall_const, implies_true, List.contains_cons, List.contains_nil, List.all_cons, List.all_nil, bne_self_eq_false, Option.isSome_none, Option.isSome_some, Bool.or_false, Bool.false_or, Bool.true_or, Bool.or_true, ne_eq, not_false_eq_true, not_true_eq_false, beq_self_eq_true, cond_true, cond_false, Prod.mk.injEq, and_self, reduceCtorEq, BEq.rfl, Bool.and_true, Bool.true_and, Bool.and_false, Bool.false_and]
          refine ⟨by omega, by simp, ?_⟩
          rw [if_pos hk, show numF (pieceB b i) (pieceB b i).size = valP b i from rfl, join_cut i (valP b)]
      · have hi : i = nP b := by simp at hge; omega
        subst hi
        have hE := par_good (id := id) (n := n) (f := f) hok
        refine ⟨_, fun _ => check_ok id n f (nP b) (cutF (nP b) (valP b)), ?_, ?_⟩
        focus (first | exact fun _ => rfl | exact fun h0 => absurd h0 (by decide))
        simp only [go_sem, Nat.reduceEqDiff, ↓reduceIte, Bool.false_eq_true, Nat.reduceAdd, Nat.reduceSub, Nat.reduceBNe, Nat.reduceBEq, Nat.reduceLT, Nat.reduceLeDiff, Nat.reduceMul, Nat.zero_lt_succ, Nat.lt_add_one, Nat.zero_lt_one, Int.reduceToNat, false_implies, true_implies, or_self, or_false, false_or, or_true, true_or, Nat.add_le_add_iff_right, true_and, and_true, forall_const, implies_true, List.contains_cons, List.contains_nil, List.all_cons, List.all_nil, bne_self_eq_false, Option.isSome_none, Option.isSome_some, Bool.or_false, Bool.false_or, Bool.true_or, Bool.or_true, ne_eq, not_false_eq_true, not_true_eq_false, beq_self_eq_true, cond_true, cond_false, Prod.mk.injEq, and_self, reduceCtorEq, BEq.rfl, Bool.and_true, Bool.true_and, Bool.and_false, Bool.false_and]
        rw [hE]
        have hN : parN id n f b = checkR id n f (nP b) (cutF (nP b) (valP b)) := rfl
        rw [← hN]
        refine ⟨fun h => ?_, fun h => ?_⟩
        · have : parL id n f b = .nil := by
            have : parN id n f b ≠ 0 := by simpa using h
            simp [parL, hE, this]
          rw [this]
        · have h0 : parN id n f b = 0 := by simpa using h
          have : parL id n f b = mD (nP b) (cutF (nP b) (valP b)) := by simp [parL, hE, h0]
          rw [this, h0]
          rfl
end Go.Proofs.YtpfahanbkhgfhaaDoor.P41

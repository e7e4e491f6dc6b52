/- Proved here: contracts of functions of this chapter: called with these values, each returns these values and changes nothing that was. Conditions: none but those that each theorem names. -/
import Derived.Test.YtnhpgmmhfgdmjaaGreatW14h
set_option linter.unusedVariables false
set_option linter.unusedSimpArgs false
open Go Go.Proofs Go.Ev
namespace Go.Proofs.YtnhpgmmhfgdmjaaGreat.P14
set_option maxRecDepth 100000
def gx (x : ByteArray) : Nat → DV := fun i => [DV.str x].getD i (DV.str { data := #[] })
/-- The elements of a list that has grown; the last first. -/
def nmF : List ByteArray → Nat → DV
  | [] => fun _ => .nil
  | [x] => gx x
  | x :: y :: r => joinF (y :: r).length (nmF (y :: r)) (gx x)
def jk : List ByteArray → Blk
  | [] => .dead
  | [x] => .arr 9 1 1 (gx x)
  | _ :: y :: r => jk (y :: r)
def stD (A B : List PV) : List ByteArray → Store
  | [] => [.box A, .box B, .box [.d .nil]]
  | x :: r => [.box A, .box B, .box [.own 4 0 (r.length + 1)], jk (x :: r), .arr 9 1 (r.length + 1) (nmF (x :: r))]
theorem jk_kill (i : Nat) : ∀ r : List ByteArray, killB i (jk r) = jk r
  | [] => rfl
  | [x] => rfl
  | _ :: y :: r => jk_kill i (y :: r)
theorem jk_lt (n : Nat) : ∀ r : List ByteArray, (jk r).lt n = true
  | [] => rfl
  | [x] => rfl
  | _ :: y :: r => jk_lt n (y :: r)
def addN (b : Bool) (x : ByteArray) (r : List ByteArray) : List ByteArray := bif b then x :: r else r
theorem addN_le {b : Bool} {x : ByteArray} {r : List ByteArray} {n : Nat} (h : r.length ≤ n) : (addN b x r).length ≤ n + 1 := by cases b <;> simp [addN] <;> omega
def nId : ByteArray := ⟨#[73, 100]⟩
def nVersion : ByteArray := ⟨#[86, 101, 114, 115, 105, 111, 110]⟩
def nKind : ByteArray := ⟨#[75, 105, 110, 100]⟩
def nStem : ByteArray := ⟨#[83, 116, 101, 109]⟩
def nOptions : ByteArray := ⟨#[79, 112, 116, 105, 111, 110, 115]⟩
def nChoices : ByteArray := ⟨#[67, 104, 111, 105, 99, 101, 115]⟩
def nValue : ByteArray := ⟨#[86, 97, 108, 117, 101]⟩
def nTol : ByteArray := ⟨#[84, 111, 108]⟩
def nTexts : ByteArray := ⟨#[84, 101, 120, 116, 115]⟩
def nPoints : ByteArray := ⟨#[80, 111, 105, 110, 116, 115]⟩
def nContent : ByteArray := ⟨#[67, 111, 110, 116, 101, 110, 116]⟩
def nFamily : ByteArray := ⟨#[70, 97, 109, 105, 108, 121]⟩
def nSet : ByteArray := ⟨#[83, 101, 116]⟩
def nWords : ByteArray := ⟨#[87, 111, 114, 100, 115]⟩
def nSeconds : ByteArray := ⟨#[83, 101, 99, 111, 110, 100, 115]⟩
def nAssets : ByteArray := ⟨#[65, 115, 115, 101, 116, 115]⟩
def nRubric : ByteArray := ⟨#[82, 117, 98, 114, 105, 99]⟩
/-- The names of the fields that differ, the last first. -/
def diffR (s t : It) : List ByteArray :=
  addN (s.rubric != t.rubric) nRubric (addN (!(sameI s.nAs s.ass t.nAs t.ass)) nAssets (addN (s.seconds != t.seconds) nSeconds (addN (s.words != t.words) nWords (addN (s.group != t.group) nSet (addN (s.family != t.family) nFamily (addN (!(s.content.toList == t.content.toList)) nContent (addN (s.points != t.points) nPoints (addN (!(sameS s.nTx s.tx t.nTx t.tx)) nTexts (addN (s.tol != t.tol) nTol (addN (s.value != t.value) nValue (addN (!(sameI s.nCh s.ch t.nCh t.ch)) nChoices (addN (!(sameS s.nOpt s.opt t.nOpt t.opt)) nOptions (addN (!(s.stem.toList == t.stem.toList)) nStem (addN (s.kind != t.kind) nKind (addN (s.version != t.version) nVersion (addN (s.id != t.id) nId []))))))))))))))))
structure Okb (A : List PV) : Prop where
  k : killL 4 A = A
  l3 : ltL 3 A = true
  l5 : ltL 5 A = true
theorem stD_lt1 {A B : List PV} (hA : Okb A) (hB : Okb B) (y : ByteArray) (r : List ByteArray) : (decide (5 ≤ (stD A B (y :: r)).length) && ltL (stD A B (y :: r)).length [] && ltS (stD A B (y :: r)).length (stD A B (y :: r))) = true := by
  have h := jk_lt 5 (y :: r)
  have e1 : (Blk.box A).lt 5 = true := hA.l5
  have e2 : (Blk.box B).lt 5 = true := hB.l5
  simp only [stD, List.length_cons, List.length_nil, Nat.zero_add, Nat.reduceAdd, ltS, h, e1, e2, ltL]
  rfl
theorem stD_lt0 {A B : List PV} (hA : Okb A) (hB : Okb B) : (decide (3 ≤ (stD A B []).length) && ltL (stD A B []).length [] && ltS (stD A B []).length (stD A B [])) = true := by
  have e1 : (Blk.box A).lt 3 = true := hA.l3
  have e2 : (Blk.box B).lt 3 = true := hB.l3
  simp only [stD, List.length_cons, List.length_nil, Nat.zero_add, Nat.reduceAdd, ltS, e1, e2, ltL]
  rfl
theorem stD_lt3 {A B : List PV} (hA : Okb A) (hB : Okb B) (y : ByteArray) (r : List ByteArray) : (decide (3 ≤ (stD A B (y :: r)).length) && ltL (stD A B (y :: r)).length [] && ltS (stD A B (y :: r)).length (stD A B (y :: r))) = true := by
  have h := stD_lt1 hA hB y r
  simp only [Bool.and_eq_true, decide_eq_true_eq] at h ⊢
  exact ⟨⟨by omega, h.1.2⟩, h.2⟩
theorem add_ok (A B : List PV) (r : List ByteArray) (x : ByteArray) (b : Bool) (hA : Okb A) (hB : Okb B) (hn : r.length ≤ 1000) (R : List PV → Store → Prop) (h : R [] (stD A B (addN b x r))) : FnE Tryz.prog 65 [.d (.str x), .d (.bool b), .ptr 2 0] (stD A B r) R := by
  cases r with
  | nil =>
    simp only [stD]
    refine FnE.le ?_
    refine fnE_intro (H := { nt := Go.Func.ntmps Tryz.f65, lo := 3, fx := [] }) Tryz.func65 rfl rfl rfl rfl (Nat.le_of_ble_eq_true rfl) (okC_tri (by kernel_rfl) _ _ _ _ (by kernel_rfl) ?_)
    simp only [go_sem, Nat.reduceEqDiff, ↓reduceIte, Bool.false_eq_true, Nat.reduceAdd, Nat.reduceSub, Nat.reduceBNe, Nat.reduceBEq, Nat.reduceLT, Nat.reduceLeDiff, Nat.reduceMul, Nat.zero_lt_succ, Nat.lt_add_one, Nat.zero_lt_one, Int.reduceToNat, false_implies, true_implies, or_self, or_false, false_or, or_true, true_or, Nat.add_le_add_iff_right, true_and, and_true, forall_const, implies_true, List.contains_cons, List.contains_nil, List.all_cons, List.all_nil, bne_self_eq_false, Option.isSome_none, Option.isSome_some, Bool.or_false, Bool.false_or, Bool.true_or, Bool.or_true, ne_eq, not_false_eq_true, not_true_eq_false, beq_self_eq_true, cond_true, cond_false, Prod.mk.injEq, and_self, reduceCtorEq, BEq.rfl, Bool.and_true, Bool.true_and, Bool.and_false, Bool.false_and, Tryz.f65]
    refine ⟨?_, ?_⟩
    · rintro rfl
      exact ⟨stD A B [x], ⟨⟨rfl, rfl, rfl, rfl, rfl, trivial⟩, stD_lt3 hA hB _ _⟩, h⟩
    · rintro rfl
      exact ⟨stD A B [], ⟨⟨rfl, rfl, rfl, trivial⟩, stD_lt0 hA hB⟩, h⟩
  | cons y r =>
    simp only [stD]
    refine FnE.le ?_
    refine fnE_intro (H := { nt := Go.Func.ntmps Tryz.f65, lo := 5, fx := [] }) Tryz.func65 rfl rfl rfl rfl (Nat.le_of_ble_eq_true rfl) (okC_tri (by kernel_rfl) _ _ _ _ (by kernel_rfl) ?_)
    simp only [go_sem, Nat.reduceEqDiff, ↓reduceIte, Bool.false_eq_true, Nat.reduceAdd, Nat.reduceSub, Nat.reduceBNe, Nat.reduceBEq, Nat.reduceLT, Nat.reduceLeDiff, Nat.reduceMul, Nat.zero_lt_succ, Nat.lt_add_one, Nat.zero_lt_one, Int.reduceToNat, false_implies, true_implies, or_self, or_false, false_or, or_true, true_or, Nat.add_le_add_iff_right, true_and, and_true, forall_const, implies_true, List.contains_cons, List.contains_nil, List.all_cons, List.all_nil, bne_self_eq_false, Option.isSome_none, Option.isSome_some, Bool.or_false, Bool.false_or, Bool.true_or, Bool.or_true, ne_eq, not_false_eq_true, not_true_eq_false, beq_self_eq_true, cond_true, cond_false, Prod.mk.injEq, and_self, reduceCtorEq, BEq.rfl, Bool.and_true, Bool.true_and, Bool.and_false, Bool.false_and, Tryz.f65]
    refine ⟨?_, ?_⟩
    · rintro rfl
      simp only [hA.k, hB.k, jk_kill]
      exact ⟨⟨by simp only [List.length_cons] at hn; omega, by simp only [List.length_cons] at hn; omega⟩, stD A B (x :: y :: r), ⟨⟨rfl, rfl, rfl, rfl, rfl, trivial⟩, stD_lt1 hA hB _ _⟩, h⟩
    · rintro rfl
      exact ⟨stD A B (y :: r), ⟨⟨rfl, rfl, rfl, rfl, rfl, trivial⟩, stD_lt1 hA hB _ _⟩, h⟩
@[go_sem] theorem nth_stD0 (A B : List PV) (r : List ByteArray) : nth (stD A B r) 0 = some (.box A) := by cases r <;> rfl
@[go_sem] theorem nth_stD1 (A B : List PV) (r : List ByteArray) : nth (stD A B r) 1 = some (.box B) := by cases r <;> rfl
theorem len_stD (A B : List PV) (r : List ByteArray) : 3 ≤ (stD A B r).length := by cases r <;> simp [stD]
@[go_sem] theorem len_stD0 (A B : List PV) (r : List ByteArray) : (0 < (stD A B r).length) = True := eq_true (by have := len_stD A B r; omega)
@[go_sem] theorem len_stD1 (A B : List PV) (r : List ByteArray) : (1 < (stD A B r).length) = True := eq_true (by have := len_stD A B r; omega)
@[go_sem] theorem len_stD2 (A B : List PV) (r : List ByteArray) : (2 < (stD A B r).length) = True := eq_true (by have := len_stD A B r; omega)
def topD : List ByteArray → PV
  | [] => .d .nil
  | x :: r => .own 4 0 (r.length + 1)
@[go_sem] theorem nth_stD2 (A B : List PV) (r : List ByteArray) : nth (stD A B r) 2 = some (.box [topD r]) := by cases r <;> rfl
theorem bk_jk (r : List ByteArray) {b : Blk} {s s' : Store} : boxKept (jk r :: s) (b :: s') = boxKept s s' := by
  induction r with
  | nil => cases b <;> rfl
  | cons x r ih => cases r with
    | nil => cases b <;> rfl
    | cons y r => exact ih
theorem bk_stD {A B A' B' : List PV} (r : List ByteArray) (x : ByteArray) (b : Bool) : boxKept (stD A B r) (stD A' B' (addN b x r)) = true := by
  cases b <;> cases r <;> simp only [addN, stD, cond_true, cond_false, bk_nil, bk_box, bk_arr, bk_jk]
theorem stD_start (A B : List PV) : [Blk.box A, .box B, .box [.d .nil]] = stD A B [] := rfl
theorem okb_iD (t : It) : Okb (PV.d (iD t)).cells := ⟨rfl, rfl, rfl⟩
theorem add_step {A B : List PV} (hA : Okb A) (hB : Okb B) (r : List ByteArray) (x : ByteArray) (b : Bool) {n : Nat} (hn : r.length ≤ n) (hn2 : n ≤ 1000) {e : Env} {K : PV → Env → Store → Prop} (h : K (resP []) (keepE (stD A B r) e) (stD A B (addN b x r))) :
    FnE Tryz.prog 65 [.d (.str x), .d (.bool b), .ptr 2 0] (stD A B r) (kEff e (stD A B r) K) :=
  add_ok A B r x b hA hB (Nat.le_trans hn hn2) _ ⟨bk_stD r x b, h⟩
theorem add_step0 {A B : List PV} (hA : Okb A) (hB : Okb B) (x : ByteArray) (b : Bool) {e : Env} {K : PV → Env → Store → Prop} (h : K (resP []) (keepE (stD A B []) e) (stD A B (addN b x []))) :
    FnE Tryz.prog 65 [.d (.str x), .d (.bool b), .ptr 2 0] [.box A, .box B, .box [.d .nil]] (kEff e [.box A, .box B, .box [.d .nil]] K) := add_step hA hB [] x b (Nat.le_refl 0) (Nat.zero_le _) h
def namesD : List ByteArray → DV
  | [] => .nil
  | x :: r => .list 1 (r.length + 1) (nmF (x :: r))
theorem diff_ok0 (s t : It) : FnD Tryz.prog 41 [.d (iD s), .d (iD t)] [namesD (diffR s t)] := by
  refine fnD_intro (H := { nt := Go.Func.ntmps Tryz.f41, fx := [65] }) Tryz.func41 rfl rfl rfl rfl (Nat.le_of_ble_eq_true rfl) (okC_tri (by kernel_rfl) _ _ _ _ (by kernel_rfl) ?_)
  simp only [go_sem, Nat.reduceEqDiff, ↓reduceIte, Bool.false_eq_true, Nat.reduceAdd, Nat.reduceSub, Nat.reduceBNe, Nat.reduceBEq, Nat.reduceLT, Nat.reduceLeDiff, Nat.reduceMul, Nat.zero_lt_succ, Nat.lt_add_one, Nat.zero_lt_one, Int.reduceToNat, false_implies, true_implies, or_self, or_false, false_or, or_true, true_or, Nat.add_le_add_iff_right, true_and, and_true, forall_const, implies_true, List.contains_cons, List.contains_nil, List.all_cons, List.all_nil, bne_self_eq_false, Option.isSome_none, Option.isSome_some, Bool.or_false, Bool.false_or, Bool.true_or, Bool.or_true, ne_eq, not_false_eq_true, not_true_eq_false, beq_self_eq_true, cond_true, cond_false, Prod.mk.injEq, and_self, reduceCtorEq, BEq.rfl, Bool.and_true, Bool.true_and, Bool.and_false, Bool.false_and, Tryz.f41]
  refine add_step0 (okb_iD s) (okb_iD t) nId _ ?_
  simp only [go_sem, Nat.reduceEqDiff, ↓reduceIte, Bool.false_eq_true, Nat.reduceAdd, Nat.reduceSub, Nat.reduceBNe, Nat.reduceBEq, Nat.reduceLT, Nat.reduceLeDiff, Nat.reduceMul, Nat.zero_lt_succ, Nat.lt_add_one, Nat.zero_lt_one, Int.reduceToNat, false_implies, true_implies, or_self, or_false, false_or, or_true, true_or, Nat.add_le_add_iff_right, true_and, and_true, forall_const, implies_true, List.contains_cons, List.contains_nil, List.all_cons, List.all_nil, bne_self_eq_false, Option.isSome_none, Option.isSome_some, Bool.or_false, Bool.false_or, Bool.true_or, Bool.or_true, ne_eq, not_false_eq_true, not_true_eq_false, beq_self_eq_true, cond_true, cond_false, Prod.mk.injEq, and_self, reduceCtorEq, BEq.rfl, Bool.and_true, Bool.true_and, Bool.and_false, Bool.false_and]
  refine add_step (okb_iD s) (okb_iD t) _ nVersion _ (n := 1) (by (repeat (refine addN_le ?_)); exact Nat.zero_le 0) (by decide) ?_
  simp only [go_sem, Nat.reduceEqDiff, ↓reduceIte, Bool.false_eq_true, Nat.reduceAdd, Nat.reduceSub, Nat.reduceBNe, Nat.reduceBEq, Nat.reduceLT, Nat.reduceLeDiff, Nat.reduceMul, Nat.zero_lt_succ, Nat.lt_add_one, Nat.zero_lt_one, Int.reduceToNat, false_implies, true_implies, or_self, or_false, false_or, or_true, true_or, Nat.add_le_add_iff_right, true_and, and_true, forall_const, implies_true, List.contains_cons, List.contains_nil, List.all_cons, List.all_nil, bne_self_eq_false, Option.isSome_none, Option.isSome_some, Bool.or_false, Bool.false_or, Bool.true_or, Bool.or_true, ne_eq, not_false_eq_true, not_true_eq_false, beq_self_eq_true, cond_true, cond_false, Prod.mk.injEq, and_self, reduceCtorEq, BEq.rfl, Bool.and_true, Bool.true_and, Bool.and_false, Bool.false_and]
  refine add_step (okb_iD s) (okb_iD t) _ nKind _ (n := 2) (by (repeat (refine addN_le ?_)); exact Nat.zero_le 0) (by decide) ?_
  simp only [go_sem, Nat.reduceEqDiff, ↓reduceIte, Bool.false_eq_true, Nat.reduceAdd, Nat.reduceSub, Nat.reduceBNe, Nat.reduceBEq, Nat.reduceLT, Nat.reduceLeDiff, Nat.reduceMul, Nat.zero_lt_succ, Nat.lt_add_one, Nat.zero_lt_one, Int.reduceToNat, false_implies, true_implies, or_self, or_false, false_or, or_true, true_or, Nat.add_le_add_iff_right, true_and, and_true, forall_const, implies_true, List.contains_cons, List.contains_nil, List.all_cons, List.all_nil, bne_self_eq_false, Option.isSome_none, Option.isSome_some, Bool.or_false, Bool.false_or, Bool.true_or, Bool.or_true, ne_eq, not_false_eq_true, not_true_eq_false, beq_self_eq_true, cond_true, cond_false, Prod.mk.injEq, and_self, reduceCtorEq, BEq.rfl, Bool.and_true, Bool.true_and, Bool.and_false, Bool.false_and]
  refine add_step (okb_iD s) (okb_iD t) _ nStem _ (n := 3) (by (repeat (refine addN_le ?_)); exact Nat.zero_le 0) (by decide) ?_
  simp only [go_sem, Nat.reduceEqDiff, ↓reduceIte, Bool.false_eq_true, Nat.reduceAdd, Nat.reduceSub, Nat.reduceBNe, Nat.reduceBEq, Nat.reduceLT, Nat.reduceLeDiff, Nat.reduceMul, Nat.zero_lt_succ, Nat.lt_add_one, Nat.zero_lt_one, Int.reduceToNat, false_implies, true_implies, or_self, or_false, false_or, or_true, true_or, Nat.add_le_add_iff_right, true_and, and_true, forall_const, implies_true, List.contains_cons, List.contains_nil, List.all_cons, List.all_nil, bne_self_eq_false, Option.isSome_none, Option.isSome_some, Bool.or_false, Bool.false_or, Bool.true_or, Bool.or_true, ne_eq, not_false_eq_true, not_true_eq_false, beq_self_eq_true, cond_true, cond_false, Prod.mk.injEq, and_self, reduceCtorEq, BEq.rfl, Bool.and_true, Bool.true_and, Bool.and_false, Bool.false_and]
  refine ⟨_, fun _ => equalS_ok s.nOpt s.opt t.nOpt t.opt, ?_, ?_⟩
  focus (first | exact fun _ => rfl | exact fun h0 => absurd h0 (by decide))
  simp only [go_sem, Nat.reduceEqDiff, ↓reduceIte, Bool.false_eq_true, Nat.reduceAdd, Nat.reduceSub, Nat.reduceBNe, Nat.reduceBEq, Nat.reduceLT, Nat.reduceLeDiff, Nat.reduceMul, Nat.zero_lt_succ, Nat.lt_add_one, Nat.zero_lt_one, Int.reduceToNat, false_implies, true_implies, or_self, or_false, false_or, or_true, true_or, Nat.add_le_add_iff_right, true_and, and_true, forall_const, implies_true, List.contains_cons, List.contains_nil, List.all_cons, List.all_nil, bne_self_eq_false, Option.isSome_none, Option.isSome_some, Bool.or_false, Bool.false_or, Bool.true_or, Bool.or_true, ne_eq, not_false_eq_true, not_true_eq_false, beq_self_eq_true, cond_true, cond_false, Prod.mk.injEq, and_self, reduceCtorEq, BEq.rfl, Bool.and_true, Bool.true_and, Bool.and_false, Bool.false_and]
  refine add_step (okb_iD s) (okb_iD t) _ nOptions _ (n := 4) (by (repeat (refine addN_le ?_)); exact Nat.zero_le 0) (by decide) ?_
  simp only [go_sem, Nat.reduceEqDiff, ↓reduceIte, Bool.false_eq_true, Nat.reduceAdd, Nat.reduceSub, Nat.reduceBNe, Nat.reduceBEq, Nat.reduceLT, Nat.reduceLeDiff, Nat.reduceMul, Nat.zero_lt_succ, Nat.lt_add_one, Nat.zero_lt_one, Int.reduceToNat, false_implies, true_implies, or_self, or_false, false_or, or_true, true_or, Nat.add_le_add_iff_right, true_and, and_true, forall_const, implies_true, List.contains_cons, List.contains_nil, List.all_cons, List.all_nil, bne_self_eq_false, Option.isSome_none, Option.isSome_some, Bool.or_false, Bool.false_or, Bool.true_or, Bool.or_true, ne_eq, not_false_eq_true, not_true_eq_false, beq_self_eq_true, cond_true, cond_false, Prod.mk.injEq, and_self, reduceCtorEq, BEq.rfl, Bool.and_true, Bool.true_and, Bool.and_false, Bool.false_and]
  refine ⟨_, fun _ => equalI_ok s.nCh s.ch t.nCh t.ch, ?_, ?_⟩
  focus (first | exact fun _ => rfl | exact fun h0 => absurd h0 (by decide))
  simp only [go_sem, Nat.reduceEqDiff, ↓reduceIte, Bool.false_eq_true, Nat.reduceAdd, Nat.reduceSub, Nat.reduceBNe, Nat.reduceBEq, Nat.reduceLT, Nat.reduceLeDiff, Nat.reduceMul, Nat.zero_lt_succ, Nat.lt_add_one, Nat.zero_lt_one, Int.reduceToNat, false_implies, true_implies, or_self, or_false, false_or, or_true, true_or, Nat.add_le_add_iff_right, true_and, and_true, forall_const, implies_true, List.contains_cons, List.contains_nil, List.all_cons, List.all_nil, bne_self_eq_false, Option.isSome_none, Option.isSome_some, Bool.or_false, Bool.false_or, Bool.true_or, Bool.or_true, ne_eq, not_false_eq_true, not_true_eq_false, beq_self_eq_true, cond_true, cond_false, Prod.mk.injEq, and_self, reduceCtorEq, BEq.rfl, Bool.and_true, Bool.true_and, Bool.and_false, Bool.false_and]
  refine add_step (okb_iD s) (okb_iD t) _ nChoices _ (n := 5) (by (repeat (refine addN_le ?_)); exact Nat.zero_le 0) (by decide) ?_
  simp only [go_sem, Nat.reduceEqDiff, ↓reduceIte, Bool.false_eq_true, Nat.reduceAdd, Nat.reduceSub, Nat.reduceBNe, Nat.reduceBEq, Nat.reduceLT, Nat.reduceLeDiff, Nat.reduceMul, Nat.zero_lt_succ, Nat.lt_add_one, Nat.zero_lt_one, Int.reduceToNat, false_implies, true_implies, or_self, or_false, false_or, or_true, true_or, Nat.add_le_add_iff_right, true_and, and_true, forall_const, implies_true, List.contains_cons, List.contains_nil, List.all_cons, List.all_nil, bne_self_eq_false, Option.isSome_none, Option.isSome_some, Bool.or_false, Bool.false_or, Bool.true_or, Bool.or_true, ne_eq, not_false_eq_true, not_true_eq_false, beq_self_eq_true, cond_true, cond_false, Prod.mk.injEq, and_self, reduceCtorEq, BEq.rfl, Bool.and_true, Bool.true_and, Bool.and_false, Bool.false_and]
  refine add_step (okb_iD s) (okb_iD t) _ nValue _ (n := 6) (by (repeat (refine addN_le ?_)); exact Nat.zero_le 0) (by decide) ?_
  simp only [go_sem, Nat.reduceEqDiff, ↓reduceIte, Bool.false_eq_true, Nat.reduceAdd, Nat.reduceSub, Nat.reduceBNe, Nat.reduceBEq, Nat.reduceLT, Nat.reduceLeDiff, Nat.reduceMul, Nat.zero_lt_succ, Nat.lt_add_one, Nat.zero_lt_one, Int.reduceToNat, false_implies, true_implies, or_self, or_false, false_or, or_true, true_or, Nat.add_le_add_iff_right, true_and, and_true, forall_const, implies_true, List.contains_cons, List.contains_nil, List.all_cons, List.all_nil, bne_self_eq_false, Option.isSome_none, Option.isSome_some, Bool.or_false, Bool.false_or, Bool.true_or, Bool.or_true, ne_eq, not_false_eq_true, not_true_eq_false, beq_self_eq_true, cond_true, cond_false, Prod.mk.injEq, and_self, reduceCtorEq, BEq.rfl, Bool.and_true, Bool.true_and, Bool.and_false, Bool.false_and]
  refine add_step (okb_iD s) (okb_iD t) _ nTol _ (n := 7) (by (repeat (refine addN_le ?_)); exact Nat.zero_le 0) (by decide) ?_
  simp only [go_sem, Nat.reduceEqDiff, ↓reduceIte, Bool.false_eq_true, Nat.reduceAdd, Nat.reduceSub, Nat.reduceBNe, Nat.reduceBEq, Nat.reduceLT, Nat.reduceLeDiff, Nat.reduceMul, Nat.zero_lt_succ, Nat.lt_add_one, Nat.zero_lt_one, Int.reduceToNat, false_implies, true_implies, or_self, or_false, false_or, or_true, true_or, Nat.add_le_add_iff_right, true_and, and_true, forall_const, implies_true, List.contains_cons, List.contains_nil, List.all_cons, List.all_nil, bne_self_eq_false, Option.isSome_none, Option.isSome_some, Bool.or_false, Bool.false_or, Bool.true_or, Bool.or_true, ne_eq, not_false_eq_true, not_true_eq_false, beq_self_eq_true, cond_true, cond_false, Prod.mk.injEq, and_self, reduceCtorEq, BEq.rfl, Bool.and_true, Bool.true_and, Bool.and_false, Bool.false_and]
  refine ⟨_, fun _ => equalS_ok s.nTx s.tx t.nTx t.tx, ?_, ?_⟩
  focus (first | exact fun _ => rfl | exact fun h0 => absurd h0 (by decide))
  simp only [go_sem, Nat.reduceEqDiff, ↓reduceIte, Bool.false_eq_true, Nat.reduceAdd, Nat.reduceSub, Nat.reduceBNe, Nat.reduceBEq, Nat.reduceLT, Nat.reduceLeDiff, Nat.reduceMul, Nat.zero_lt_succ, Nat.lt_add_one, Nat.zero_lt_one, Int.reduceToNat, false_implies, true_implies, or_self, or_false, false_or, or_true, true_or, Nat.add_le_add_iff_right, true_and, and_true, forall_const, implies_true, List.contains_cons, List.contains_nil, List.all_cons, List.all_nil, bne_self_eq_false, Option.isSome_none, Option.isSome_some, Bool.or_false, Bool.false_or, Bool.true_or, Bool.or_true, ne_eq, not_false_eq_true, not_true_eq_false, beq_self_eq_true, cond_true, cond_false, Prod.mk.injEq, and_self, reduceCtorEq, BEq.rfl, Bool.and_true, Bool.true_and, Bool.and_false, Bool.false_and]
  refine add_step (okb_iD s) (okb_iD t) _ nTexts _ (n := 8) (by (repeat (refine addN_le ?_)); exact Nat.zero_le 0) (by decide) ?_
  simp only [go_sem, Nat.reduceEqDiff, ↓reduceIte, Bool.false_eq_true, Nat.reduceAdd, Nat.reduceSub, Nat.reduceBNe, Nat.reduceBEq, Nat.reduceLT, Nat.reduceLeDiff, Nat.reduceMul, Nat.zero_lt_succ, Nat.lt_add_one, Nat.zero_lt_one, Int.reduceToNat, false_implies, true_implies, or_self, or_false, false_or, or_true, true_or, Nat.add_le_add_iff_right, true_and, and_true, forall_const, implies_true, List.contains_cons, List.contains_nil, List.all_cons, List.all_nil, bne_self_eq_false, Option.isSome_none, Option.isSome_some, Bool.or_false, Bool.false_or, Bool.true_or, Bool.or_true, ne_eq, not_false_eq_true, not_true_eq_false, beq_self_eq_true, cond_true, cond_false, Prod.mk.injEq, and_self, reduceCtorEq, BEq.rfl, Bool.and_true, Bool.true_and, Bool.and_false, Bool.false_and]
  refine add_step (okb_iD s) (okb_iD t) _ nPoints _ (n := 9) (by (repeat (refine addN_le ?_)); exact Nat.zero_le 0) (by decide) ?_
  simp only [go_sem, Nat.reduceEqDiff, ↓reduceIte, Bool.false_eq_true, Nat.reduceAdd, Nat.reduceSub, Nat.reduceBNe, Nat.reduceBEq, Nat.reduceLT, Nat.reduceLeDiff, Nat.reduceMul, Nat.zero_lt_succ, Nat.lt_add_one, Nat.zero_lt_one, Int.reduceToNat, false_implies, true_implies, or_self, or_false, false_or, or_true, true_or, Nat.add_le_add_iff_right, true_and, and_true, forall_const, implies_true, List.contains_cons, List.contains_nil, List.all_cons, List.all_nil, bne_self_eq_false, Option.isSome_none, Option.isSome_some, Bool.or_false, Bool.false_or, Bool.true_or, Bool.or_true, ne_eq, not_false_eq_true, not_true_eq_false, beq_self_eq_true, cond_true, cond_false, Prod.mk.injEq, and_self, reduceCtorEq, BEq.rfl, Bool.and_true, Bool.true_and, Bool.and_false, Bool.false_and]
  refine add_step (okb_iD s) (okb_iD t) _ nContent _ (n := 10) (by (repeat (refine addN_le ?_)); exact Nat.zero_le 0) (by decide) ?_
  simp only [go_sem, Nat.reduceEqDiff, ↓reduceIte, Bool.false_eq_true, Nat.reduceAdd, Nat.reduceSub, Nat.reduceBNe, Nat.reduceBEq, Nat.reduceLT, Nat.reduceLeDiff, Nat.reduceMul, Nat.zero_lt_succ, Nat.lt_add_one, Nat.zero_lt_one, Int.reduceToNat, false_implies, true_implies, or_self, or_false, false_or, or_true, true_or, Nat.add_le_add_iff_right, true_and, and_true, forall_const, implies_true, List.contains_cons, List.contains_nil, List.all_cons, List.all_nil, bne_self_eq_false, Option.isSome_none, Option.isSome_some, Bool.or_false, Bool.false_or, Bool.true_or, Bool.or_true, ne_eq, not_false_eq_true, not_true_eq_false, beq_self_eq_true, cond_true, cond_false, Prod.mk.injEq, and_self, reduceCtorEq, BEq.rfl, Bool.and_true, Bool.true_and, Bool.and_false, Bool.false_and]
  refine add_step (okb_iD s) (okb_iD t) _ nFamily _ (n := 11) (by (repeat (refine addN_le ?_)); exact Nat.zero_le 0) (by decide) ?_
  simp only [go_sem, Nat.reduceEqDiff, ↓reduceIte, Bool.false_eq_true, Nat.reduceAdd, Nat.reduceSub, Nat.reduceBNe, Nat.reduceBEq, Nat.reduceLT, Nat.reduceLeDiff, Nat.reduceMul, Nat.zero_lt_succ, Nat.lt_add_one, Nat.zero_lt_one, Int.reduceToNat, false_implies, true_implies, or_self, or_false, false_or, or_true, true_or, Nat.add_le_add_iff_right, true_and, and_true, forall_const, implies_true, List.contains_cons, List.contains_nil, List.all_cons, List.all_nil, bne_self_eq_false, Option.isSome_none, Option.isSome_some, Bool.or_false, Bool.false_or, Bool.true_or, Bool.or_true, ne_eq, not_false_eq_true, not_true_eq_false, beq_self_eq_true, cond_true, cond_false, Prod.mk.injEq, and_self, reduceCtorEq, BEq.rfl, Bool.and_true, Bool.true_and, Bool.and_false, Bool.false_and]
  refine add_step (okb_iD s) (okb_iD t) _ nSet _ (n := 12) (by (repeat (refine addN_le ?_)); exact Nat.zero_le 0) (by decide) ?_
  simp only [go_sem, Nat.reduceEqDiff, ↓reduceIte, Bool.false_eq_true, Nat.reduceAdd, Nat.reduceSub, Nat.reduceBNe, Nat.reduceBEq, Nat.reduceLT, Nat.reduceLeDiff, Nat.reduceMul, Nat.zero_lt_succ, Nat.lt_add_one, Nat.zero_lt_one, Int.reduceToNat, false_implies, true_implies, or_self, or_false, false_or, or_true, true_or, Nat.add_le_add_iff_right, true_and, and_true, forall_const, implies_true, List.contains_cons, List.contains_nil, List.all_cons, List.all_nil, bne_self_eq_false, Option.isSome_none, Option.isSome_some, Bool.or_false, Bool.false_or, Bool.true_or, Bool.or_true, ne_eq, not_false_eq_true, not_true_eq_false, beq_self_eq_true, cond_true, cond_false, Prod.mk.injEq, and_self, reduceCtorEq, BEq.rfl, Bool.and_true, Bool.true_and, Bool.and_false, Bool.false_and]
  refine add_step (okb_iD s) (okb_iD t) _ nWords _ (n := 13) (by (repeat (refine addN_le ?_)); exact Nat.zero_le 0) (by decide) ?_
  simp only [go_sem, Nat.reduceEqDiff, ↓reduceIte, Bool.false_eq_true, Nat.reduceAdd, Nat.reduceSub, Nat.reduceBNe, Nat.reduceBEq, Nat.reduceLT, Nat.reduceLeDiff, Nat.reduceMul, Nat.zero_lt_succ, Nat.lt_add_one, Nat.zero_lt_one, Int.reduceToNat, false_implies, true_implies, or_self, or_false, false_or, or_true, true_or, Nat.add_le_add_iff_right, true_and, and_true, forall_const, implies_true, List.contains_cons, List.contains_nil, List.all_cons, List.all_nil, bne_self_eq_false, Option.isSome_none, Option.isSome_some, Bool.or_false, Bool.false_or, Bool.true_or, Bool.or_true, ne_eq, not_false_eq_true, not_true_eq_false, beq_self_eq_true, cond_true, cond_false, Prod.mk.injEq, and_self, reduceCtorEq, BEq.rfl, Bool.and_true, Bool.true_and, Bool.and_false, Bool.false_and]
  refine add_step (okb_iD s) (okb_iD t) _ nSeconds _ (n := 14) (by (repeat (refine addN_le ?_)); exact Nat.zero_le 0) (by decide) ?_
  simp only [go_sem, Nat.reduceEqDiff, ↓reduceIte, Bool.false_eq_true, Nat.reduceAdd, Nat.reduceSub, Nat.reduceBNe, Nat.reduceBEq, Nat.reduceLT, Nat.reduceLeDiff, Nat.reduceMul, Nat.zero_lt_succ, Nat.lt_add_one, Nat.zero_lt_one, Int.reduceToNat, false_implies, true_implies, or_self, or_false, false_or, or_true, true_or, Nat.add_le_add_iff_right, true_and, and_true, forall_const, implies_true, List.contains_cons, List.contains_nil, List.all_cons, List.all_nil, bne_self_eq_false, Option.isSome_none, Option.isSome_some, Bool.or_false, Bool.false_or, Bool.true_or, Bool.or_true, ne_eq, not_false_eq_true, not_true_eq_false, beq_self_eq_true, cond_true, cond_false, Prod.mk.injEq, and_self, reduceCtorEq, BEq.rfl, Bool.and_true, Bool.true_and, Bool.and_false, Bool.false_and]
  refine ⟨_, fun _ => equalI_ok s.nAs s.ass t.nAs t.ass, ?_, ?_⟩
  focus (first | exact fun _ => rfl | exact fun h0 => absurd h0 (by decide))
  simp only [go_sem, Nat.reduceEqDiff, ↓reduceIte, Bool.false_eq_true, Nat.reduceAdd, Nat.reduceSub, Nat.reduceBNe, Nat.reduceBEq, Nat.reduceLT, Nat.reduceLeDiff, Nat.reduceMul, Nat.zero_lt_succ, Nat.lt_add_one, Nat.zero_lt_one, Int.reduceToNat, false_implies, true_implies, or_self, or_false, false_or, or_true, true_or, Nat.add_le_add_iff_right, true_and, and_true, forall_const, implies_true, List.contains_cons, List.contains_nil, List.all_cons, List.all_nil, bne_self_eq_false, Option.isSome_none, Option.isSome_some, Bool.or_false, Bool.false_or, Bool.true_or, Bool.or_true, ne_eq, not_false_eq_true, not_true_eq_false, beq_self_eq_true, cond_true, cond_false, Prod.mk.injEq, and_self, reduceCtorEq, BEq.rfl, Bool.and_true, Bool.true_and, Bool.and_false, Bool.false_and]
  refine add_step (okb_iD s) (okb_iD t) _ nAssets _ (n := 15) (by (repeat (refine addN_le ?_)); exact Nat.zero_le 0) (by decide) ?_
  simp only [go_sem, Nat.reduceEqDiff, ↓reduceIte, Bool.false_eq_true, Nat.reduceAdd, Nat.reduceSub, Nat.reduceBNe, Nat.reduceBEq, Nat.reduceLT, Nat.reduceLeDiff, Nat.reduceMul, Nat.zero_lt_succ, Nat.lt_add_one, Nat.zero_lt_one, Int.reduceToNat, false_implies, true_implies, or_self, or_false, false_or, or_true, true_or, Nat.add_le_add_iff_right, true_and, and_true, forall_const, implies_true, List.contains_cons, List.contains_nil, List.all_cons, List.all_nil, bne_self_eq_false, Option.isSome_none, Option.isSome_some, Bool.or_false, Bool.false_or, Bool.true_or, Bool.or_true, ne_eq, not_false_eq_true, not_true_eq_false, beq_self_eq_true, cond_true, cond_false, Prod.mk.injEq, and_self, reduceCtorEq, BEq.rfl, Bool.and_true, Bool.true_and, Bool.and_false, Bool.false_and]
  refine add_step (okb_iD s) (okb_iD t) _ nRubric _ (n := 16) (by (repeat (refine addN_le ?_)); exact Nat.zero_le 0) (by decide) ?_
  simp only [go_sem, Nat.reduceEqDiff, ↓reduceIte, Bool.false_eq_true, Nat.reduceAdd, Nat.reduceSub, Nat.reduceBNe, Nat.reduceBEq, Nat.reduceLT, Nat.reduceLeDiff, Nat.reduceMul, Nat.zero_lt_succ, Nat.lt_add_one, Nat.zero_lt_one, Int.reduceToNat, false_implies, true_implies, or_self, or_false, false_or, or_true, true_or, Nat.add_le_add_iff_right, true_and, and_true, forall_const, implies_true, List.contains_cons, List.contains_nil, List.all_cons, List.all_nil, bne_self_eq_false, Option.isSome_none, Option.isSome_some, Bool.or_false, Bool.false_or, Bool.true_or, Bool.or_true, ne_eq, not_false_eq_true, not_true_eq_false, beq_self_eq_true, cond_true, cond_false, Prod.mk.injEq, and_self, reduceCtorEq, BEq.rfl, Bool.and_true, Bool.true_and, Bool.and_false, Bool.false_and]
  unfold diffR
  generalize addN (s.rubric != t.rubric) nRubric _ = r
  cases r <;> simp only [go_sem, Nat.reduceEqDiff, ↓reduceIte, Bool.false_eq_true, Nat.reduceAdd, Nat.reduceSub, Nat.reduceBNe, Nat.reduceBEq, Nat.reduceLT, Nat.reduceLeDiff, Nat.reduceMul, Nat.zero_lt_succ, Nat.lt_add_one, Nat.zero_lt_one, Int.reduceToNat, false_implies, true_implies, or_self, or_false, false_or, or_true, true_or, Nat.add_le_add_iff_right, true_and, and_true, forall_const, implies_true, List.contains_cons, List.contains_nil, List.all_cons, List.all_nil, bne_self_eq_false, Option.isSome_none, Option.isSome_some, Bool.or_false, Bool.false_or, Bool.true_or, Bool.or_true, ne_eq, not_false_eq_true, not_true_eq_false, beq_self_eq_true, cond_true, cond_false, Prod.mk.injEq, and_self, reduceCtorEq, BEq.rfl, Bool.and_true, Bool.true_and, Bool.and_false, Bool.false_and, topD, stD, namesD]
/-- The names, the first first. -/
def nm (r : List ByteArray) : Nat → ByteArray := fun i => (r.reverse[i]?).getD ⟨#[]⟩
theorem nm_last (x : ByteArray) (r : List ByteArray) : nm (x :: r) r.length = x := by simp [nm]
theorem nm_lt (x : ByteArray) (r : List ByteArray) {i : Nat} (h : i < r.length) : nm (x :: r) i = nm r i := by
  simp only [nm, List.reverse_cons]
  rw [List.getElem?_append_left (by simpa using h)]
theorem nmF_nm : ∀ (r : List ByteArray) (i : Nat), i < r.length → nmF r i = .str (nm r i)
  | [], i, h => absurd h (by simp)
  | [x], i, h => by
    have : i = 0 := by simpa using h
    subst this
    rfl
  | x :: y :: r, i, h => by
    simp only [nmF, joinF]
    split
    · rename_i h1
      rw [nmF_nm (y :: r) i h1, nm_lt _ _ h1]
    · rename_i h1
      have : i = (y :: r).length := by simp only [List.length_cons] at h h1 ⊢; omega
      subst this
      rw [nm_last, Nat.sub_self]
      rfl
theorem namesD_rep {S : Nat → Prop} {w : World} (r : List ByteArray) {v : Value} (h : (namesD r).rep S w v) : (sD r.length (nm r)).rep S w v := by
  cases r with
  | nil => exact rep_nil_list h
  | cons x r => exact rep_list_congr (fun i hi => nmF_nm (x :: r) i hi) h
theorem diff_ok (s t : It) : FnD Tryz.prog 41 [.d (iD s), .d (iD t)] [sD (diffR s t).length (nm (diffR s t))] :=
  (diff_ok0 s t).weak fun S α w v h => by
    simp only [List.map_cons, List.map_nil, resP, PV.rep] at h ⊢
    exact namesD_rep _ h
end Go.Proofs.YtnhpgmmhfgdmjaaGreat.P14
/- Proved here: contracts of functions of this chapter: called with these values, each returns these values and changes nothing that was. Conditions: none but those that each theorem names. -/
set_option linter.unusedVariables false
set_option linter.unusedSimpArgs false
open Go Go.Proofs Go.Ev
namespace Go.Proofs.YtnhpgmmhfgdmjaaGreat.P14
set_option maxRecDepth 100000
def stE (A B : List PV) : List ByteArray → Store
  | [] => [.box A, .box B]
  | x :: r => [.box A, .box B, jk (x :: r), .arr 9 1 (r.length + 1) (nmF (x :: r))]
def topE : List ByteArray → PV
  | [] => .d .nil
  | x :: r => .own 3 0 (r.length + 1)
def kE : List ByteArray → PV
  | [] => .d .nil
  | x :: r => .unk
@[go_sem] theorem kp_topE (s : Store) (r : List ByteArray) : (topE r).keep s = kE r := by cases r <;> rfl
@[go_sem] theorem kp_kE (s : Store) (r : List ByteArray) : (kE r).keep s = kE r := by cases r <;> rfl
@[go_sem] theorem strip_topE (r : List ByteArray) : strip [] (topE r) = topE r := by cases r <;> rfl
@[go_sem] theorem wrap_topE (r : List ByteArray) : wrapV [] True (topE r) = topE r := by cases r <;> rfl
@[go_sem] theorem strip_kE (r : List ByteArray) : strip [] (kE r) = kE r := by cases r <;> rfl
@[go_sem] theorem wrap_kE (r : List ByteArray) : wrapV [] True (kE r) = kE r := by cases r <;> rfl
structure Okc (A : List PV) : Prop where
  k : killL 3 A = A
  l2 : ltL 2 A = true
  l4 : ltL 4 A = true
theorem stE_lt1 {A B : List PV} (hA : Okc A) (hB : Okc B) (y : ByteArray) (r : List ByteArray) : (decide (4 ≤ (stE A B (y :: r)).length) && ltL (stE A B (y :: r)).length [topE (y :: r)] && ltS (stE A B (y :: r)).length (stE A B (y :: r))) = true := by
  have h := jk_lt 4 (y :: r)
  have e1 : (Blk.box A).lt 4 = true := hA.l4
  have e2 : (Blk.box B).lt 4 = true := hB.l4
  simp only [stE, List.length_cons, List.length_nil, Nat.zero_add, Nat.reduceAdd, ltS, h, e1, e2, ltL]
  rfl
theorem stE_lt0 {A B : List PV} (hA : Okc A) (hB : Okc B) : (decide (2 ≤ (stE A B []).length) && ltL (stE A B []).length [topE []] && ltS (stE A B []).length (stE A B [])) = true := by
  have e1 : (Blk.box A).lt 2 = true := hA.l2
  have e2 : (Blk.box B).lt 2 = true := hB.l2
  simp only [stE, List.length_cons, List.length_nil, Nat.zero_add, Nat.reduceAdd, ltS, e1, e2, ltL]
  rfl
theorem stE_lt3 {A B : List PV} (hA : Okc A) (hB : Okc B) (y : ByteArray) (r : List ByteArray) : (decide (2 ≤ (stE A B (y :: r)).length) && ltL (stE A B (y :: r)).length [topE (y :: r)] && ltS (stE A B (y :: r)).length (stE A B (y :: r))) = true := by
  have h := stE_lt1 hA hB y r
  simp only [Bool.and_eq_true, decide_eq_true_eq] at h ⊢
  exact ⟨⟨by omega, h.1.2⟩, h.2⟩
theorem radd_ok (A B : List PV) (r : List ByteArray) (x : ByteArray) (b : Bool) (hA : Okc A) (hB : Okc B) (hn : r.length ≤ 1000) (R : List PV → Store → Prop) (h : R [topE (addN b x r)] (stE A B (addN b x r))) : FnE Tryz.prog 56 [topE r, .d (.bool b), .d (.str x)] (stE A B r) R := by
  cases r with
  | nil =>
    simp only [stE, topE]
    refine FnE.le ?_
    refine fnE_intro (H := { nt := Go.Func.ntmps Tryz.f56, lo := 2, fx := [] }) Tryz.func56 rfl rfl rfl rfl (Nat.le_of_ble_eq_true rfl) (okC_tri (by kernel_rfl) _ _ _ _ (by kernel_rfl) ?_)
    simp only [go_sem, Nat.reduceEqDiff, ↓reduceIte, Bool.false_eq_true, Nat.reduceAdd, Nat.reduceSub, Nat.reduceBNe, Nat.reduceBEq, Nat.reduceLT, Nat.reduceLeDiff, Nat.reduceMul, Nat.zero_lt_succ, Nat.lt_add_one, Nat.zero_lt_one, Int.reduceToNat, false_implies, true_implies, or_self, or_false, false_or, or_true, true_or, Nat.add_le_add_iff_right, true_and, and_true, forall_const, implies_true, List.contains_cons, List.contains_nil, List.all_cons, List.all_nil, bne_self_eq_false, Option.isSome_none, Option.isSome_some, Bool.or_false, Bool.false_or, Bool.true_or, Bool.or_true, ne_eq, not_false_eq_true, not_true_eq_false, beq_self_eq_true, cond_true, cond_false, Prod.mk.injEq, and_self, reduceCtorEq, BEq.rfl, Bool.and_true, Bool.true_and, Bool.and_false, Bool.false_and, Tryz.f56]
    refine ⟨?_, ?_⟩
    · rintro rfl
      exact ⟨stE A B [x], ⟨⟨rfl, rfl, rfl, rfl, trivial⟩, stE_lt3 hA hB _ _⟩, h⟩
    · rintro rfl
      exact ⟨stE A B [], ⟨⟨rfl, rfl, trivial⟩, stE_lt0 hA hB⟩, h⟩
  | cons y r =>
    simp only [stE, topE]
    refine FnE.le ?_
    refine fnE_intro (H := { nt := Go.Func.ntmps Tryz.f56, lo := 4, fx := [] }) Tryz.func56 rfl rfl rfl rfl (Nat.le_of_ble_eq_true rfl) (okC_tri (by kernel_rfl) _ _ _ _ (by kernel_rfl) ?_)
    simp only [go_sem, Nat.reduceEqDiff, ↓reduceIte, Bool.false_eq_true, Nat.reduceAdd, Nat.reduceSub, Nat.reduceBNe, Nat.reduceBEq, Nat.reduceLT, Nat.reduceLeDiff, Nat.reduceMul, Nat.zero_lt_succ, Nat.lt_add_one, Nat.zero_lt_one, Int.reduceToNat, false_implies, true_implies, or_self, or_false, false_or, or_true, true_or, Nat.add_le_add_iff_right, true_and, and_true, forall_const, implies_true, List.contains_cons, List.contains_nil, List.all_cons, List.all_nil, bne_self_eq_false, Option.isSome_none, Option.isSome_some, Bool.or_false, Bool.false_or, Bool.true_or, Bool.or_true, ne_eq, not_false_eq_true, not_true_eq_false, beq_self_eq_true, cond_true, cond_false, Prod.mk.injEq, and_self, reduceCtorEq, BEq.rfl, Bool.and_true, Bool.true_and, Bool.and_false, Bool.false_and, Tryz.f56]
    refine ⟨?_, ?_⟩
    · rintro rfl
      simp only [hA.k, hB.k, jk_kill]
      exact ⟨⟨by simp only [List.length_cons] at hn; omega, by simp only [List.length_cons] at hn; omega⟩, stE A B (x :: y :: r), ⟨⟨rfl, rfl, rfl, rfl, trivial⟩, stE_lt1 hA hB _ _⟩, h⟩
    · rintro rfl
      exact ⟨stE A B (y :: r), ⟨⟨rfl, rfl, rfl, rfl, trivial⟩, stE_lt1 hA hB _ _⟩, h⟩
@[go_sem] theorem nth_stE0 (A B : List PV) (r : List ByteArray) : nth (stE A B r) 0 = some (.box A) := by cases r <;> rfl
@[go_sem] theorem nth_stE1 (A B : List PV) (r : List ByteArray) : nth (stE A B r) 1 = some (.box B) := by cases r <;> rfl
theorem len_stE (A B : List PV) (r : List ByteArray) : 2 ≤ (stE A B r).length := by cases r <;> simp [stE]
@[go_sem] theorem len_stE0 (A B : List PV) (r : List ByteArray) : (0 < (stE A B r).length) = True := eq_true (by have := len_stE A B r; omega)
@[go_sem] theorem len_stE1 (A B : List PV) (r : List ByteArray) : (1 < (stE A B r).length) = True := eq_true (by have := len_stE A B r; omega)
theorem bk_stE {A B A' B' : List PV} (r : List ByteArray) (x : ByteArray) (b : Bool) : boxKept (stE A B r) (stE A' B' (addN b x r)) = true := by
  cases b <;> cases r <;> simp only [addN, stE, cond_true, cond_false, bk_nil, bk_box, bk_arr, bk_jk]
theorem okc_iD (t : It) : Okc (PV.d (iD t)).cells := ⟨rfl, rfl, rfl⟩
theorem radd_step {A B : List PV} (hA : Okc A) (hB : Okc B) (r : List ByteArray) (x : ByteArray) (b : Bool) {n : Nat} (hn : r.length ≤ n) (hn2 : n ≤ 1000) {e : Env} {K : PV → Env → Store → Prop} (h : K (resP [topE (addN b x r)]) (keepE (stE A B r) e) (stE A B (addN b x r))) :
    FnE Tryz.prog 56 [topE r, .d (.bool b), .d (.str x)] (stE A B r) (kEff e (stE A B r) K) :=
  radd_ok A B r x b hA hB (Nat.le_trans hn hn2) _ ⟨bk_stE r x b, h⟩
theorem radd_step0 {A B : List PV} (hA : Okc A) (hB : Okc B) (x : ByteArray) (b : Bool) {e : Env} {K : PV → Env → Store → Prop} (h : K (resP [topE (addN b x [])]) (keepE (stE A B []) e) (stE A B (addN b x []))) :
    FnE Tryz.prog 56 [.d .nil, .d (.bool b), .d (.str x)] [.box A, .box B] (kEff e [.box A, .box B] K) := radd_step hA hB [] x b (Nat.le_refl 0) (Nat.zero_le _) h
theorem rdiff_ok0 (s t : It) : FnD Tryz.prog 34 [.d (iD s), .d (iD t)] [namesD (diffR s t)] := by
  refine fnD_intro (H := { nt := Go.Func.ntmps Tryz.f34, fx := [56] }) Tryz.func34 rfl rfl rfl rfl (Nat.le_of_ble_eq_true rfl) (okC_tri (by kernel_rfl) _ _ _ _ (by kernel_rfl) ?_)
  simp only [go_sem, Nat.reduceEqDiff, ↓reduceIte, Bool.false_eq_true, Nat.reduceAdd, Nat.reduceSub, Nat.reduceBNe, Nat.reduceBEq, Nat.reduceLT, Nat.reduceLeDiff, Nat.reduceMul, Nat.zero_lt_succ, Nat.lt_add_one, Nat.zero_lt_one, Int.reduceToNat, false_implies, true_implies, or_self, or_false, false_or, or_true, true_or, Nat.add_le_add_iff_right, true_and, and_true, forall_const, implies_true, List.contains_cons, List.contains_nil, List.all_cons, List.all_nil, bne_self_eq_false, Option.isSome_none, Option.isSome_some, Bool.or_false, Bool.false_or, Bool.true_or, Bool.or_true, ne_eq, not_false_eq_true, not_true_eq_false, beq_self_eq_true, cond_true, cond_false, Prod.mk.injEq, and_self, reduceCtorEq, BEq.rfl, Bool.and_true, Bool.true_and, Bool.and_false, Bool.false_and, Tryz.f34]
  refine radd_step0 (okc_iD s) (okc_iD t) nId _ ?_
  simp only [go_sem, Nat.reduceEqDiff, ↓reduceIte, Bool.false_eq_true, Nat.reduceAdd, Nat.reduceSub, Nat.reduceBNe, Nat.reduceBEq, Nat.reduceLT, Nat.reduceLeDiff, Nat.reduceMul, Nat.zero_lt_succ, Nat.lt_add_one, Nat.zero_lt_one, Int.reduceToNat, false_implies, true_implies, or_self, or_false, false_or, or_true, true_or, Nat.add_le_add_iff_right, true_and, and_true, forall_const, implies_true, List.contains_cons, List.contains_nil, List.all_cons, List.all_nil, bne_self_eq_false, Option.isSome_none, Option.isSome_some, Bool.or_false, Bool.false_or, Bool.true_or, Bool.or_true, ne_eq, not_false_eq_true, not_true_eq_false, beq_self_eq_true, cond_true, cond_false, Prod.mk.injEq, and_self, reduceCtorEq, BEq.rfl, Bool.and_true, Bool.true_and, Bool.and_false, Bool.false_and]
  refine radd_step (okc_iD s) (okc_iD t) _ nVersion _ (n := 1) (by (repeat (refine addN_le ?_)); exact Nat.zero_le 0) (by decide) ?_
  simp only [go_sem, Nat.reduceEqDiff, ↓reduceIte, Bool.false_eq_true, Nat.reduceAdd, Nat.reduceSub, Nat.reduceBNe, Nat.reduceBEq, Nat.reduceLT, Nat.reduceLeDiff, Nat.reduceMul, Nat.zero_lt_succ, Nat.lt_add_one, Nat.zero_lt_one, Int.reduceToNat, false_implies, true_implies, or_self, or_false, false_or, or_true, true_or, Nat.add_le_add_iff_right, true_and, and_true, forall_const, implies_true, List.contains_cons, List.contains_nil, List.all_cons, List.all_nil, bne_self_eq_false, Option.isSome_none, Option.isSome_some, Bool.or_false, Bool.false_or, Bool.true_or, Bool.or_true, ne_eq, not_false_eq_true, not_true_eq_false, beq_self_eq_true, cond_true, cond_false, Prod.mk.injEq, and_self, reduceCtorEq, BEq.rfl, Bool.and_true, Bool.true_and, Bool.and_false, Bool.false_and]
  refine radd_step (okc_iD s) (okc_iD t) _ nKind _ (n := 2) (by (repeat (refine addN_le ?_)); exact Nat.zero_le 0) (by decide) ?_
  simp only [go_sem, Nat.reduceEqDiff, ↓reduceIte, Bool.false_eq_true, Nat.reduceAdd, Nat.reduceSub, Nat.reduceBNe, Nat.reduceBEq, Nat.reduceLT, Nat.reduceLeDiff, Nat.reduceMul, Nat.zero_lt_succ, Nat.lt_add_one, Nat.zero_lt_one, Int.reduceToNat, false_implies, true_implies, or_self, or_false, false_or, or_true, true_or, Nat.add_le_add_iff_right, true_and, and_true, forall_const, implies_true, List.contains_cons, List.contains_nil, List.all_cons, List.all_nil, bne_self_eq_false, Option.isSome_none, Option.isSome_some, Bool.or_false, Bool.false_or, Bool.true_or, Bool.or_true, ne_eq, not_false_eq_true, not_true_eq_false, beq_self_eq_true, cond_true, cond_false, Prod.mk.injEq, and_self, reduceCtorEq, BEq.rfl, Bool.and_true, Bool.true_and, Bool.and_false, Bool.false_and]
  refine radd_step (okc_iD s) (okc_iD t) _ nStem _ (n := 3) (by (repeat (refine addN_le ?_)); exact Nat.zero_le 0) (by decide) ?_
  simp only [go_sem, Nat.reduceEqDiff, ↓reduceIte, Bool.false_eq_true, Nat.reduceAdd, Nat.reduceSub, Nat.reduceBNe, Nat.reduceBEq, Nat.reduceLT, Nat.reduceLeDiff, Nat.reduceMul, Nat.zero_lt_succ, Nat.lt_add_one, Nat.zero_lt_one, Int.reduceToNat, false_implies, true_implies, or_self, or_false, false_or, or_true, true_or, Nat.add_le_add_iff_right, true_and, and_true, forall_const, implies_true, List.contains_cons, List.contains_nil, List.all_cons, List.all_nil, bne_self_eq_false, Option.isSome_none, Option.isSome_some, Bool.or_false, Bool.false_or, Bool.true_or, Bool.or_true, ne_eq, not_false_eq_true, not_true_eq_false, beq_self_eq_true, cond_true, cond_false, Prod.mk.injEq, and_self, reduceCtorEq, BEq.rfl, Bool.and_true, Bool.true_and, Bool.and_false, Bool.false_and]
  refine ⟨_, fun _ => sameS_ok s.nOpt s.opt t.nOpt t.opt, ?_, ?_⟩
  focus (first | exact fun _ => rfl | exact fun h0 => absurd h0 (by decide))
  simp only [go_sem, Nat.reduceEqDiff, ↓reduceIte, Bool.false_eq_true, Nat.reduceAdd, Nat.reduceSub, Nat.reduceBNe, Nat.reduceBEq, Nat.reduceLT, Nat.reduceLeDiff, Nat.reduceMul, Nat.zero_lt_succ, Nat.lt_add_one, Nat.zero_lt_one, Int.reduceToNat, false_implies, true_implies, or_self, or_false, false_or, or_true, true_or, Nat.add_le_add_iff_right, true_and, and_true, forall_const, implies_true, List.contains_cons, List.contains_nil, List.all_cons, List.all_nil, bne_self_eq_false, Option.isSome_none, Option.isSome_some, Bool.or_false, Bool.false_or, Bool.true_or, Bool.or_true, ne_eq, not_false_eq_true, not_true_eq_false, beq_self_eq_true, cond_true, cond_false, Prod.mk.injEq, and_self, reduceCtorEq, BEq.rfl, Bool.and_true, Bool.true_and, Bool.and_false, Bool.false_and]
  refine radd_step (okc_iD s) (okc_iD t) _ nOptions _ (n := 4) (by (repeat (refine addN_le ?_)); exact Nat.zero_le 0) (by decide) ?_
  simp only [go_sem, Nat.reduceEqDiff, ↓reduceIte, Bool.false_eq_true, Nat.reduceAdd, Nat.reduceSub, Nat.reduceBNe, Nat.reduceBEq, Nat.reduceLT, Nat.reduceLeDiff, Nat.reduceMul, Nat.zero_lt_succ, Nat.lt_add_one, Nat.zero_lt_one, Int.reduceToNat, false_implies, true_implies, or_self, or_false, false_or, or_true, true_or, Nat.add_le_add_iff_right, true_and, and_true, forall_const, implies_true, List.contains_cons, List.contains_nil, List.all_cons, List.all_nil, bne_self_eq_false, Option.isSome_none, Option.isSome_some, Bool.or_false, Bool.false_or, Bool.true_or, Bool.or_true, ne_eq, not_false_eq_true, not_true_eq_false, beq_self_eq_true, cond_true, cond_false, Prod.mk.injEq, and_self, reduceCtorEq, BEq.rfl, Bool.and_true, Bool.true_and, Bool.and_false, Bool.false_and]
  refine ⟨_, fun _ => sameI_ok s.nCh s.ch t.nCh t.ch, ?_, ?_⟩
  focus (first | exact fun _ => rfl | exact fun h0 => absurd h0 (by decide))
  simp only [go_sem, Nat.reduceEqDiff, ↓reduceIte, Bool.false_eq_true, Nat.reduceAdd, Nat.reduceSub, Nat.reduceBNe, Nat.reduceBEq, Nat.reduceLT, Nat.reduceLeDiff, Nat.reduceMul, Nat.zero_lt_succ, Nat.lt_add_one, Nat.zero_lt_one, Int.reduceToNat, false_implies, true_implies, or_self, or_false, false_or, or_true, true_or, Nat.add_le_add_iff_right, true_and, and_true, forall_const, implies_true, List.contains_cons, List.contains_nil, List.all_cons, List.all_nil, bne_self_eq_false, Option.isSome_none, Option.isSome_some, Bool.or_false, Bool.false_or, Bool.true_or, Bool.or_true, ne_eq, not_false_eq_true, not_true_eq_false, beq_self_eq_true, cond_true, cond_false, Prod.mk.injEq, and_self, reduceCtorEq, BEq.rfl, Bool.and_true, Bool.true_and, Bool.and_false, Bool.false_and]
  refine radd_step (okc_iD s) (okc_iD t) _ nChoices _ (n := 5) (by (repeat (refine addN_le ?_)); exact Nat.zero_le 0) (by decide) ?_
  simp only [go_sem, Nat.reduceEqDiff, ↓reduceIte, Bool.false_eq_true, Nat.reduceAdd, Nat.reduceSub, Nat.reduceBNe, Nat.reduceBEq, Nat.reduceLT, Nat.reduceLeDiff, Nat.reduceMul, Nat.zero_lt_succ, Nat.lt_add_one, Nat.zero_lt_one, Int.reduceToNat, false_implies, true_implies, or_self, or_false, false_or, or_true, true_or, Nat.add_le_add_iff_right, true_and, and_true, forall_const, implies_true, List.contains_cons, List.contains_nil, List.all_cons, List.all_nil, bne_self_eq_false, Option.isSome_none, Option.isSome_some, Bool.or_false, Bool.false_or, Bool.true_or, Bool.or_true, ne_eq, not_false_eq_true, not_true_eq_false, beq_self_eq_true, cond_true, cond_false, Prod.mk.injEq, and_self, reduceCtorEq, BEq.rfl, Bool.and_true, Bool.true_and, Bool.and_false, Bool.false_and]
  refine radd_step (okc_iD s) (okc_iD t) _ nValue _ (n := 6) (by (repeat (refine addN_le ?_)); exact Nat.zero_le 0) (by decide) ?_
  simp only [go_sem, Nat.reduceEqDiff, ↓reduceIte, Bool.false_eq_true, Nat.reduceAdd, Nat.reduceSub, Nat.reduceBNe, Nat.reduceBEq, Nat.reduceLT, Nat.reduceLeDiff, Nat.reduceMul, Nat.zero_lt_succ, Nat.lt_add_one, Nat.zero_lt_one, Int.reduceToNat, false_implies, true_implies, or_self, or_false, false_or, or_true, true_or, Nat.add_le_add_iff_right, true_and, and_true, forall_const, implies_true, List.contains_cons, List.contains_nil, List.all_cons, List.all_nil, bne_self_eq_false, Option.isSome_none, Option.isSome_some, Bool.or_false, Bool.false_or, Bool.true_or, Bool.or_true, ne_eq, not_false_eq_true, not_true_eq_false, beq_self_eq_true, cond_true, cond_false, Prod.mk.injEq, and_self, reduceCtorEq, BEq.rfl, Bool.and_true, Bool.true_and, Bool.and_false, Bool.false_and]
  refine radd_step (okc_iD s) (okc_iD t) _ nTol _ (n := 7) (by (repeat (refine addN_le ?_)); exact Nat.zero_le 0) (by decide) ?_
  simp only [go_sem, Nat.reduceEqDiff, ↓reduceIte, Bool.false_eq_true, Nat.reduceAdd, Nat.reduceSub, Nat.reduceBNe, Nat.reduceBEq, Nat.reduceLT, Nat.reduceLeDiff, Nat.reduceMul, Nat.zero_lt_succ, Nat.lt_add_one, Nat.zero_lt_one, Int.reduceToNat, false_implies, true_implies, or_self, or_false, false_or, or_true, true_or, Nat.add_le_add_iff_right, true_and, and_true, forall_const, implies_true, List.contains_cons, List.contains_nil, List.all_cons, List.all_nil, bne_self_eq_false, Option.isSome_none, Option.isSome_some, Bool.or_false, Bool.false_or, Bool.true_or, Bool.or_true, ne_eq, not_false_eq_true, not_true_eq_false, beq_self_eq_true, cond_true, cond_false, Prod.mk.injEq, and_self, reduceCtorEq, BEq.rfl, Bool.and_true, Bool.true_and, Bool.and_false, Bool.false_and]
  refine ⟨_, fun _ => sameS_ok s.nTx s.tx t.nTx t.tx, ?_, ?_⟩
  focus (first | exact fun _ => rfl | exact fun h0 => absurd h0 (by decide))
  simp only [go_sem, Nat.reduceEqDiff, ↓reduceIte, Bool.false_eq_true, Nat.reduceAdd, Nat.reduceSub, Nat.reduceBNe, Nat.reduceBEq, Nat.reduceLT, Nat.reduceLeDiff, Nat.reduceMul, Nat.zero_lt_succ, Nat.lt_add_one, Nat.zero_lt_one, Int.reduceToNat, false_implies, true_implies, or_self, or_false, false_or, or_true, true_or, Nat.add_le_add_iff_right, true_and, and_true, forall_const, implies_true, List.contains_cons, List.contains_nil, List.all_cons, List.all_nil, bne_self_eq_false, Option.isSome_none, Option.isSome_some, Bool.or_false, Bool.false_or, Bool.true_or, Bool.or_true, ne_eq, not_false_eq_true, not_true_eq_false, beq_self_eq_true, cond_true, cond_false, Prod.mk.injEq, and_self, reduceCtorEq, BEq.rfl, Bool.and_true, Bool.true_and, Bool.and_false, Bool.false_and]
  refine radd_step (okc_iD s) (okc_iD t) _ nTexts _ (n := 8) (by (repeat (refine addN_le ?_)); exact Nat.zero_le 0) (by decide) ?_
  simp only [go_sem, Nat.reduceEqDiff, ↓reduceIte, Bool.false_eq_true, Nat.reduceAdd, Nat.reduceSub, Nat.reduceBNe, Nat.reduceBEq, Nat.reduceLT, Nat.reduceLeDiff, Nat.reduceMul, Nat.zero_lt_succ, Nat.lt_add_one, Nat.zero_lt_one, Int.reduceToNat, false_implies, true_implies, or_self, or_false, false_or, or_true, true_or, Nat.add_le_add_iff_right, true_and, and_true, forall_const, implies_true, List.contains_cons, List.contains_nil, List.all_cons, List.all_nil, bne_self_eq_false, Option.isSome_none, Option.isSome_some, Bool.or_false, Bool.false_or, Bool.true_or, Bool.or_true, ne_eq, not_false_eq_true, not_true_eq_false, beq_self_eq_true, cond_true, cond_false, Prod.mk.injEq, and_self, reduceCtorEq, BEq.rfl, Bool.and_true, Bool.true_and, Bool.and_false, Bool.false_and]
  refine radd_step (okc_iD s) (okc_iD t) _ nPoints _ (n := 9) (by (repeat (refine addN_le ?_)); exact Nat.zero_le 0) (by decide) ?_
  simp only [go_sem, Nat.reduceEqDiff, ↓reduceIte, Bool.false_eq_true, Nat.reduceAdd, Nat.reduceSub, Nat.reduceBNe, Nat.reduceBEq, Nat.reduceLT, Nat.reduceLeDiff, Nat.reduceMul, Nat.zero_lt_succ, Nat.lt_add_one, Nat.zero_lt_one, Int.reduceToNat, false_implies, true_implies, or_self, or_false, false_or, or_true, true_or, Nat.add_le_add_iff_right, true_and, and_true, forall_const, implies_true, List.contains_cons, List.contains_nil, List.all_cons, List.all_nil, bne_self_eq_false, Option.isSome_none, Option.isSome_some, Bool.or_false, Bool.false_or, Bool.true_or, Bool.or_true, ne_eq, not_false_eq_true, not_true_eq_false, beq_self_eq_true, cond_true, cond_false, Prod.mk.injEq, and_self, reduceCtorEq, BEq.rfl, Bool.and_true, Bool.true_and, Bool.and_false, Bool.false_and]
  refine radd_step (okc_iD s) (okc_iD t) _ nContent _ (n := 10) (by (repeat (refine addN_le ?_)); exact Nat.zero_le 0) (by decide) ?_
  simp only [go_sem, Nat.reduceEqDiff, ↓reduceIte, Bool.false_eq_true, Nat.reduceAdd, Nat.reduceSub, Nat.reduceBNe, Nat.reduceBEq, Nat.reduceLT, Nat.reduceLeDiff, Nat.reduceMul, Nat.zero_lt_succ, Nat.lt_add_one, Nat.zero_lt_one, Int.reduceToNat, false_implies, true_implies, or_self, or_false, false_or, or_true, true_or, Nat.add_le_add_iff_right, true_and, and_true, forall_const, implies_true, List.contains_cons, List.contains_nil, List.all_cons, List.all_nil, bne_self_eq_false, Option.isSome_none, Option.isSome_some, Bool.or_false, Bool.false_or, Bool.true_or, Bool.or_true, ne_eq, not_false_eq_true, not_true_eq_false, beq_self_eq_true, cond_true, cond_false, Prod.mk.injEq, and_self, reduceCtorEq, BEq.rfl, Bool.and_true, Bool.true_and, Bool.and_false, Bool.false_and]
  refine radd_step (okc_iD s) (okc_iD t) _ nFamily _ (n := 11) (by (repeat (refine addN_le ?_)); exact Nat.zero_le 0) (by decide) ?_
  simp only [go_sem, Nat.reduceEqDiff, ↓reduceIte, Bool.false_eq_true, Nat.reduceAdd, Nat.reduceSub, Nat.reduceBNe, Nat.reduceBEq, Nat.reduceLT, Nat.reduceLeDiff, Nat.reduceMul, Nat.zero_lt_succ, Nat.lt_add_one, Nat.zero_lt_one, Int.reduceToNat, false_implies, true_implies, or_self, or_false, false_or, or_true, true_or, Nat.add_le_add_iff_right, true_and, and_true, forall_const, implies_true, List.contains_cons, List.contains_nil, List.all_cons, List.all_nil, bne_self_eq_false, Option.isSome_none, Option.isSome_some, Bool.or_false, Bool.false_or, Bool.true_or, Bool.or_true, ne_eq, not_false_eq_true, not_true_eq_false, beq_self_eq_true, cond_true, cond_false, Prod.mk.injEq, and_self, reduceCtorEq, BEq.rfl, Bool.and_true, Bool.true_and, Bool.and_false, Bool.false_and]
  refine radd_step (okc_iD s) (okc_iD t) _ nSet _ (n := 12) (by (repeat (refine addN_le ?_)); exact Nat.zero_le 0) (by decide) ?_
  simp only [go_sem, Nat.reduceEqDiff, ↓reduceIte, Bool.false_eq_true, Nat.reduceAdd, Nat.reduceSub, Nat.reduceBNe, Nat.reduceBEq, Nat.reduceLT, Nat.reduceLeDiff, Nat.reduceMul, Nat.zero_lt_succ, Nat.lt_add_one, Nat.zero_lt_one, Int.reduceToNat, false_implies, true_implies, or_self, or_false, false_or, or_true, true_or, Nat.add_le_add_iff_right, true_and, and_true, forall_const, implies_true, List.contains_cons, List.contains_nil, List.all_cons, List.all_nil, bne_self_eq_false, Option.isSome_none, Option.isSome_some, Bool.or_false, Bool.false_or, Bool.true_or, Bool.or_true, ne_eq, not_false_eq_true, not_true_eq_false, beq_self_eq_true, cond_true, cond_false, Prod.mk.injEq, and_self, reduceCtorEq, BEq.rfl, Bool.and_true, Bool.true_and, Bool.and_false, Bool.false_and]
  refine radd_step (okc_iD s) (okc_iD t) _ nWords _ (n := 13) (by (repeat (refine addN_le ?_)); exact Nat.zero_le 0) (by decide) ?_
  simp only [go_sem, Nat.reduceEqDiff, ↓reduceIte, Bool.false_eq_true, Nat.reduceAdd, Nat.reduceSub, Nat.reduceBNe, Nat.reduceBEq, Nat.reduceLT, Nat.reduceLeDiff, Nat.reduceMul, Nat.zero_lt_succ, Nat.lt_add_one, Nat.zero_lt_one, Int.reduceToNat, false_implies, true_implies, or_self, or_false, false_or, or_true, true_or, Nat.add_le_add_iff_right, true_and, and_true, forall_const, implies_true, List.contains_cons, List.contains_nil, List.all_cons, List.all_nil, bne_self_eq_false, Option.isSome_none, Option.isSome_some, Bool.or_false, Bool.false_or, Bool.true_or, Bool.or_true, ne_eq, not_false_eq_true, not_true_eq_false, beq_self_eq_true, cond_true, cond_false, Prod.mk.injEq, and_self, reduceCtorEq, BEq.rfl, Bool.and_true, Bool.true_and, Bool.and_false, Bool.false_and]
  refine radd_step (okc_iD s) (okc_iD t) _ nSeconds _ (n := 14) (by (repeat (refine addN_le ?_)); exact Nat.zero_le 0) (by decide) ?_
  simp only [go_sem, Nat.reduceEqDiff, ↓reduceIte, Bool.false_eq_true, Nat.reduceAdd, Nat.reduceSub, Nat.reduceBNe, Nat.reduceBEq, Nat.reduceLT, Nat.reduceLeDiff, Nat.reduceMul, Nat.zero_lt_succ, Nat.lt_add_one, Nat.zero_lt_one, Int.reduceToNat, false_implies, true_implies, or_self, or_false, false_or, or_true, true_or, Nat.add_le_add_iff_right, true_and, and_true, forall_const, implies_true, List.contains_cons, List.contains_nil, List.all_cons, List.all_nil, bne_self_eq_false, Option.isSome_none, Option.isSome_some, Bool.or_false, Bool.false_or, Bool.true_or, Bool.or_true, ne_eq, not_false_eq_true, not_true_eq_false, beq_self_eq_true, cond_true, cond_false, Prod.mk.injEq, and_self, reduceCtorEq, BEq.rfl, Bool.and_true, Bool.true_and, Bool.and_false, Bool.false_and]
  refine ⟨_, fun _ => sameI_ok s.nAs s.ass t.nAs t.ass, ?_, ?_⟩
  focus (first | exact fun _ => rfl | exact fun h0 => absurd h0 (by decide))
  simp only [go_sem, Nat.reduceEqDiff, ↓reduceIte, Bool.false_eq_true, Nat.reduceAdd, Nat.reduceSub, Nat.reduceBNe, Nat.reduceBEq, Nat.reduceLT, Nat.reduceLeDiff, Nat.reduceMul, Nat.zero_lt_succ, Nat.lt_add_one, Nat.zero_lt_one, Int.reduceToNat, false_implies, true_implies, or_self, or_false, false_or, or_true, true_or, Nat.add_le_add_iff_right, true_and, and_true, forall_const, implies_true, List.contains_cons, List.contains_nil, List.all_cons, List.all_nil, bne_self_eq_false, Option.isSome_none, Option.isSome_some, Bool.or_false, Bool.false_or, Bool.true_or, Bool.or_true, ne_eq, not_false_eq_true, not_true_eq_false, beq_self_eq_true, cond_true, cond_false, Prod.mk.injEq, and_self, reduceCtorEq, BEq.rfl, Bool.and_true, Bool.true_and, Bool.and_false, Bool.false_and]
  refine radd_step (okc_iD s) (okc_iD t) _ nAssets _ (n := 15) (by (repeat (refine addN_le ?_)); exact Nat.zero_le 0) (by decide) ?_
  simp only [go_sem, Nat.reduceEqDiff, ↓reduceIte, Bool.false_eq_true, Nat.reduceAdd, Nat.reduceSub, Nat.reduceBNe, Nat.reduceBEq, Nat.reduceLT, Nat.reduceLeDiff, Nat.reduceMul, Nat.zero_lt_succ, Nat.lt_add_one, Nat.zero_lt_one, Int.reduceToNat, false_implies, true_implies, or_self, or_false, false_or, or_true, true_or, Nat.add_le_add_iff_right, true_and, and_true, forall_const, implies_true, List.contains_cons, List.contains_nil, List.all_cons, List.all_nil, bne_self_eq_false, Option.isSome_none, Option.isSome_some, Bool.or_false, Bool.false_or, Bool.true_or, Bool.or_true, ne_eq, not_false_eq_true, not_true_eq_false, beq_self_eq_true, cond_true, cond_false, Prod.mk.injEq, and_self, reduceCtorEq, BEq.rfl, Bool.and_true, Bool.true_and, Bool.and_false, Bool.false_and]
  refine radd_step (okc_iD s) (okc_iD t) _ nRubric _ (n := 16) (by (repeat (refine addN_le ?_)); exact Nat.zero_le 0) (by decide) ?_
  simp only [go_sem, Nat.reduceEqDiff, ↓reduceIte, Bool.false_eq_true, Nat.reduceAdd, Nat.reduceSub, Nat.reduceBNe, Nat.reduceBEq, Nat.reduceLT, Nat.reduceLeDiff, Nat.reduceMul, Nat.zero_lt_succ, Nat.lt_add_one, Nat.zero_lt_one, Int.reduceToNat, false_implies, true_implies, or_self, or_false, false_or, or_true, true_or, Nat.add_le_add_iff_right, true_and, and_true, forall_const, implies_true, List.contains_cons, List.contains_nil, List.all_cons, List.all_nil, bne_self_eq_false, Option.isSome_none, Option.isSome_some, Bool.or_false, Bool.false_or, Bool.true_or, Bool.or_true, ne_eq, not_false_eq_true, not_true_eq_false, beq_self_eq_true, cond_true, cond_false, Prod.mk.injEq, and_self, reduceCtorEq, BEq.rfl, Bool.and_true, Bool.true_and, Bool.and_false, Bool.false_and]
  unfold diffR
  generalize addN (s.rubric != t.rubric) nRubric _ = r
  cases r <;> simp only [go_sem, Nat.reduceEqDiff, ↓reduceIte, Bool.false_eq_true, Nat.reduceAdd, Nat.reduceSub, Nat.reduceBNe, Nat.reduceBEq, Nat.reduceLT, Nat.reduceLeDiff, Nat.reduceMul, Nat.zero_lt_succ, Nat.lt_add_one, Nat.zero_lt_one, Int.reduceToNat, false_implies, true_implies, or_self, or_false, false_or, or_true, true_or, Nat.add_le_add_iff_right, true_and, and_true, forall_const, implies_true, List.contains_cons, List.contains_nil, List.all_cons, List.all_nil, bne_self_eq_false, Option.isSome_none, Option.isSome_some, Bool.or_false, Bool.false_or, Bool.true_or, Bool.or_true, ne_eq, not_false_eq_true, not_true_eq_false, beq_self_eq_true, cond_true, cond_false, Prod.mk.injEq, and_self, reduceCtorEq, BEq.rfl, Bool.and_true, Bool.true_and, Bool.and_false, Bool.false_and, topE, stE, namesD]
theorem rdiff_ok (s t : It) : FnD Tryz.prog 34 [.d (iD s), .d (iD t)] [sD (diffR s t).length (nm (diffR s t))] :=
  (rdiff_ok0 s t).weak fun S α w v h => by
    simp only [List.map_cons, List.map_nil, resP, PV.rep] at h ⊢
    exact namesD_rep _ h
end Go.Proofs.YtnhpgmmhfgdmjaaGreat.P14

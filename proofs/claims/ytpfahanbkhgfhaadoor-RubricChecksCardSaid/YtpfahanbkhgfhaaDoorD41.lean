/- Proved here: contracts of functions of this chapter: called with these values, each returns these values and changes nothing that was. Conditions: none but those that each theorem names. -/
import Derived.Test.YtpfahanbkhgfhaaDoorTyD
set_option linter.unusedSimpArgs false
set_option linter.unusedVariables false
open Go Go.Proofs Go.Ev
namespace Go.Proofs.YtpfahanbkhgfhaaDoor.P41
set_option maxRecDepth 100000
/-! the model -/
structure Tr where
  name : ByteArray
  most : Int
  weight : Int
def tD (t : Tr) : DV := .agg [.str t.name, .int .i64 t.most, .int .i64 t.weight]
@[go_sem] theorem tD_agg (t : Tr) : DV.agg [.str t.name, .int .i64 t.most, .int .i64 t.weight] = tD t := rfl
@[go_sem] theorem tD_pc (t : Tr) : (PV.d (tD t)).cells = [.d (.str t.name), .d (.int .i64 t.most), .d (.int .i64 t.weight)] := rfl
@[go_sem] theorem tD_cells (t : Tr) : (tD t).cells = [.str t.name, .int .i64 t.most, .int .i64 t.weight] := rfl
def rD (id : Int) (n : Nat) (f : Nat → Tr) : DV := .agg [.int .i64 id, .list 3 n fun i => tD (f i)]
def mD (n : Nat) (a : Nat → Int) : DV := .list 1 n fun i => .int .i64 (a i)

def okByte (b : ByteArray) (i : Nat) : Bool := !(bif decide ((bget b i : Int) < 97) then true else decide (122 < (bget b i : Int)))
def allN (p : Nat → Bool) (n : Nat) : Bool := (List.range n).all p
theorem allN_no {p : Nat → Bool} {n i : Nat} (h : i < n) (hp : p i = false) : allN p n = false := by
  rw [allN, Bool.eq_false_iff]
  intro h'
  rw [List.all_eq_true] at h'
  rw [h' i (by simpa using h)] at hp
  cases hp
theorem allN_yes {p : Nat → Bool} {n : Nat} (h : ∀ i, i < n → p i = true) : allN p n = true := by
  rw [allN, List.all_eq_true]
  intro i hi
  exact h i (by simpa using hi)
def nameR (b : ByteArray) : Bool := allN (okByte b) b.size && (bif decide (1 ≤ (b.size : Int)) then decide ((b.size : Int) ≤ 20) else false)

theorem letters_ok (b : ByteArray) : FnD Tryd.prog 25 [.d (.str b)] [.bool (nameR b)] := by
  refine fnD_intro (H := { nt := Tryd.f25.ntmps }) Tryd.func25 rfl rfl rfl rfl (Nat.le_of_ble_eq_true rfl) (okC_tri (by kernel_rfl) _ _ _ _ (by kernel_rfl) ?_)
  simp only [go_sem, Nat.reduceEqDiff, ↓reduceIte, Bool.false_eq_true, Nat.reduceAdd, Nat.reduceSub, Nat.reduceBNe, Nat.reduceBEq, Nat.reduceLT, Nat.reduceLeDiff, Nat.reduceMul, Nat.zero_lt_succ, Nat.lt_add_one, Nat.zero_lt_one, Int.reduceToNat, false_implies, true_implies, or_self, or_false, false_or, or_true, true_or, Nat.add_le_add_iff_right, true_and, and_true, forall_const, implies_true, List.contains_cons, List.contains_nil, List.all_cons, List.all_nil, bne_self_eq_false, Option.isSome_none, Option.isSome_some, Bool.or_false, Bool.false_or, Bool.true_or, Bool.or_true, ne_eq, not_false_eq_true, not_true_eq_false, beq_self_eq_true, cond_true, cond_false, Prod.mk.injEq, and_self, reduceCtorEq, BEq.rfl, Bool.and_true, Bool.true_and, Bool.and_false, Bool.false_and, Tryd.f25]
  refine ⟨{ i : Nat // i ≤ b.size ∧ ∀ j, j < i → okByte b j = true }, fun i => ([(3, .d (.int .i64 i)), (2, .d (.bool false)), (0, .d (.str b))], []), fun i => b.size - i, ⟨0, Nat.zero_le _, fun j h => absurd h (by omega)⟩, ?_, ?_⟩
  · simp only [go_sem, Nat.reduceEqDiff, ↓reduceIte, Bool.false_eq_true, Nat.reduceAdd, Nat.reduceSub, Nat.reduceBNe, Nat.reduceBEq, Nat.reduceLT, Nat.reduceLeDiff, Nat.reduceMul, Nat.zero_lt_succ, Nat.lt_add_one, Nat.zero_lt_one, Int.reduceToNat, false_implies, true_implies, or_self, or_false, false_or, or_true, true_or, Nat.add_le_add_iff_right, true_and, and_true, forall_const, implies_true, List.contains_cons, List.contains_nil, List.all_cons, List.all_nil, bne_self_eq_false, Option.isSome_none, Option.isSome_some, Bool.or_false, Bool.false_or, Bool.true_or, Bool.or_true, ne_eq, not_false_eq_true, not_true_eq_false, beq_self_eq_true, cond_true, cond_false, Prod.mk.injEq, and_self, reduceCtorEq, BEq.rfl, Bool.and_true, Bool.true_and, Bool.and_false, Bool.false_and]
    rfl
  · rintro ⟨i, hi, hok⟩
    simp only [go_sem, Nat.reduceEqDiff, ↓reduceIte, Bool.false_eq_true, Nat.reduceAdd, Nat.reduceSub, Nat.reduceBNe, Nat.reduceBEq, Nat.reduceLT, Nat.reduceLeDiff, Nat.reduceMul, Nat.zero_lt_succ, Nat.lt_add_one, Nat.zero_lt_one, Int.reduceToNat, false_implies, true_implies, or_self, or_false, false_or, or_true, true_or, Nat.add_le_add_iff_right, true_and, and_true, forall_const, implies_true, List.contains_cons, List.contains_nil, List.all_cons, List.all_nil, bne_self_eq_false, Option.isSome_none, Option.isSome_some, Bool.or_false, Bool.false_or, Bool.true_or, Bool.or_true, ne_eq, not_false_eq_true, not_true_eq_false, beq_self_eq_true, cond_true, cond_false, Prod.mk.injEq, and_self, reduceCtorEq, BEq.rfl, Bool.and_true, Bool.true_and, Bool.and_false, Bool.false_and, decide_eq_true_eq]
    intro hf
    unfold fits at hf
    refine ⟨fun hlt => ⟨by omega, fun _ => by omega, fun hbad => ?_, fun hgood => ⟨?_, ⟨i + 1, by omega, fun j hj => ?_⟩, by simp only; omega, by simp⟩⟩, fun hge _ => ?_⟩
    · have hp : okByte b i = false := by simp only [okByte, hbad]; rfl
      simp [nameR, allN_no (show i < b.size by omega) hp]
    · constructor <;> omega
    · by_cases h : j = i
      · subst h; simp only [okByte, hgood]; rfl
      · exact hok j (by omega)
    · have : i = b.size := by simp at hge; omega
      subst this
      simp [nameR, allN_yes hok]

theorem name_ok (b : ByteArray) : FnD Tryd.prog 22 [.d (.str b)] [.bool (nameR b)] := by
  refine fnD_intro (H := { nt := Tryd.f22.ntmps }) Tryd.func22 rfl rfl rfl rfl (Nat.le_of_ble_eq_true rfl) (okC_tri (by kernel_rfl) _ _ _ _ (by kernel_rfl) ?_)
  simp only [go_sem, Nat.reduceEqDiff, ↓reduceIte, Bool.false_eq_true, Nat.reduceAdd, Nat.reduceSub, Nat.reduceBNe, Nat.reduceBEq, Nat.reduceLT, Nat.reduceLeDiff, Nat.reduceMul, Nat.zero_lt_succ, Nat.lt_add_one, Nat.zero_lt_one, Int.reduceToNat, false_implies, true_implies, or_self, or_false, false_or, or_true, true_or, Nat.add_le_add_iff_right, true_and, and_true, forall_const, implies_true, List.contains_cons, List.contains_nil, List.all_cons, List.all_nil, bne_self_eq_false, Option.isSome_none, Option.isSome_some, Bool.or_false, Bool.false_or, Bool.true_or, Bool.or_true, ne_eq, not_false_eq_true, not_true_eq_false, beq_self_eq_true, cond_true, cond_false, Prod.mk.injEq, and_self, reduceCtorEq, BEq.rfl, Bool.and_true, Bool.true_and, Bool.and_false, Bool.false_and, Tryd.f22]
  intro hf
  unfold fits at hf
  refine ⟨{ i : Nat // i ≤ b.size ∧ ∀ j, j < i → okByte b j = true }, fun i => ([(8, .d (.int .i64 i)), (7, .d (.int .i64 b.size)), (6, .own 0 0 b.size), (2, .d (.bool false)), (0, .d (.str b))], [.arr 5 1 b.size (fun i => .int .u8 (bget b i))]), fun i => b.size - i, ⟨0, Nat.zero_le _, fun j h => absurd h (by omega)⟩, ?_, ?_⟩
  · simp only [go_sem, Nat.reduceEqDiff, ↓reduceIte, Bool.false_eq_true, Nat.reduceAdd, Nat.reduceSub, Nat.reduceBNe, Nat.reduceBEq, Nat.reduceLT, Nat.reduceLeDiff, Nat.reduceMul, Nat.zero_lt_succ, Nat.lt_add_one, Nat.zero_lt_one, Int.reduceToNat, false_implies, true_implies, or_self, or_false, false_or, or_true, true_or, Nat.add_le_add_iff_right, true_and, and_true, forall_const, implies_true, List.contains_cons, List.contains_nil, List.all_cons, List.all_nil, bne_self_eq_false, Option.isSome_none, Option.isSome_some, Bool.or_false, Bool.false_or, Bool.true_or, Bool.or_true, ne_eq, not_false_eq_true, not_true_eq_false, beq_self_eq_true, cond_true, cond_false, Prod.mk.injEq, and_self, reduceCtorEq, BEq.rfl, Bool.and_true, Bool.true_and, Bool.and_false, Bool.false_and]
    rfl
  · rintro ⟨i, hi, hok⟩
    simp only [go_sem, Nat.reduceEqDiff, ↓reduceIte, Bool.false_eq_true, Nat.reduceAdd, Nat.reduceSub, Nat.reduceBNe, Nat.reduceBEq, Nat.reduceLT, Nat.reduceLeDiff, Nat.reduceMul, Nat.zero_lt_succ, Nat.lt_add_one, Nat.zero_lt_one, Int.reduceToNat, false_implies, true_implies, or_self, or_false, false_or, or_true, true_or, Nat.add_le_add_iff_right, true_and, and_true, forall_const, implies_true, List.contains_cons, List.contains_nil, List.all_cons, List.all_nil, bne_self_eq_false, Option.isSome_none, Option.isSome_some, Bool.or_false, Bool.false_or, Bool.true_or, Bool.or_true, ne_eq, not_false_eq_true, not_true_eq_false, beq_self_eq_true, cond_true, cond_false, Prod.mk.injEq, and_self, reduceCtorEq, BEq.rfl, Bool.and_true, Bool.true_and, Bool.and_false, Bool.false_and, decide_eq_true_eq]
    refine ⟨fun hlt => ⟨by omega, by omega, fun hbad => ?_, fun hgood => ⟨by constructor <;> omega, ⟨i + 1, by omega, fun j hj => ?_⟩, by simp only; omega, by simp⟩⟩, fun hge _ => ?_⟩
    · have hp : okByte b i = false := by simp only [okByte, hbad]; rfl
      simp [nameR, allN_no (show i < b.size by omega) hp]
    · by_cases h : j = i
      · subst h; simp only [okByte, hgood]; rfl
      · exact hok j (by omega)
    · have : i = b.size := by simp at hge; omega
      subst this
      simp [nameR, allN_yes hok]
theorem eq_ok (u v : Tr) : FnD Tryd.prog 24 [.d (tD u), .rptr [.str v.name, .int .i64 v.most, .int .i64 v.weight]] [.bool (u.name.toList == v.name.toList)] := by
  refine fnD_intro (H := { nt := Tryd.f24.ntmps }) Tryd.func24 rfl rfl rfl rfl (Nat.le_of_ble_eq_true rfl) (okC_tri (by kernel_rfl) _ _ _ _ (by kernel_rfl) ?_)
  simp only [go_sem, Nat.reduceEqDiff, ↓reduceIte, Bool.false_eq_true, Nat.reduceAdd, Nat.reduceSub, Nat.reduceBNe, Nat.reduceBEq, Nat.reduceLT, Nat.reduceLeDiff, Nat.reduceMul, Nat.zero_lt_succ, Nat.lt_add_one, Nat.zero_lt_one, Int.reduceToNat, false_implies, true_implies, or_self, or_false, false_or, or_true, true_or, Nat.add_le_add_iff_right, true_and, and_true, forall_const, implies_true, List.contains_cons, List.contains_nil, List.all_cons, List.all_nil, bne_self_eq_false, Option.isSome_none, Option.isSome_some, Bool.or_false, Bool.false_or, Bool.true_or, Bool.or_true, ne_eq, not_false_eq_true, not_true_eq_false, beq_self_eq_true, cond_true, cond_false, Prod.mk.injEq, and_self, reduceCtorEq, BEq.rfl, Bool.and_true, Bool.true_and, Bool.and_false, Bool.false_and, Tryd.f24]

/-- The first one. -/
def idxR (p : Nat → Bool) (n : Nat) : Int := match (List.range n).find? p with
  | some i => i
  | none => -1
theorem idx_hit {p : Nat → Bool} {n i : Nat} (h : i < n) (h1 : ∀ j, j < i → p j = false) (h2 : p i = true) : idxR p n = i := by
  have : (List.range n).find? p = some i := by
    rw [List.find?_range_eq_some]
    exact ⟨h2, by simpa using h, fun j hj => by simp [h1 j hj]⟩
  simp [idxR, this]
theorem idx_none {p : Nat → Bool} {n : Nat} (h1 : ∀ j, j < n → p j = false) : idxR p n = -1 := by
  have : (List.range n).find? p = none := by
    rw [List.find?_eq_none]
    intro j hj
    simp [h1 j (by simpa using hj)]
  simp [idxR, this]
def hasR (p : Nat → Bool) (n : Nat) : Bool := (List.range n).any p
theorem idx_has {p : Nat → Bool} {n : Nat} : decide (0 ≤ idxR p n) = hasR p n := by
  unfold idxR hasR
  cases h : (List.range n).find? p with
  | none =>
    rw [List.find?_eq_none] at h
    have : (List.range n).any p = false := by
      rw [List.any_eq_false]
      exact h
    rw [this]; rfl
  | some i =>
    have : (List.range n).any p = true := List.any_eq_true.2 ⟨i, List.mem_of_find?_eq_some h, List.find?_some h⟩
    rw [this]
    simp
def capD (v : Tr) : List DV := [.str v.name, .int .i64 v.most, .int .i64 v.weight]
def sameR (f : Nat → Tr) (v : Tr) (j : Nat) : Bool := (f j).name.toList == v.name.toList
theorem index_ok (n : Nat) (f : Nat → Tr) (v : Tr) : FnD Tryd.prog 29 [.d (.list 3 n fun i => tD (f i)), .clo (.func 24) [] [.rptr (capD v)]] [.int .i64 (idxR (sameR f v) n)] := by
  refine fnD_intro (H := { nt := Tryd.f29.ntmps }) Tryd.func29 rfl rfl rfl rfl (Nat.le_of_ble_eq_true rfl) (okC_tri (by kernel_rfl) _ _ _ _ (by kernel_rfl) ?_)
  simp only [go_sem, Nat.reduceEqDiff, ↓reduceIte, Bool.false_eq_true, Nat.reduceAdd, Nat.reduceSub, Nat.reduceBNe, Nat.reduceBEq, Nat.reduceLT, Nat.reduceLeDiff, Nat.reduceMul, Nat.zero_lt_succ, Nat.lt_add_one, Nat.zero_lt_one, Int.reduceToNat, false_implies, true_implies, or_self, or_false, false_or, or_true, true_or, Nat.add_le_add_iff_right, true_and, and_true, forall_const, implies_true, List.contains_cons, List.contains_nil, List.all_cons, List.all_nil, bne_self_eq_false, Option.isSome_none, Option.isSome_some, Bool.or_false, Bool.false_or, Bool.true_or, Bool.or_true, ne_eq, not_false_eq_true, not_true_eq_false, beq_self_eq_true, cond_true, cond_false, Prod.mk.injEq, and_self, reduceCtorEq, BEq.rfl, Bool.and_true, Bool.true_and, Bool.and_false, Bool.false_and, Tryd.f29]
  intro hf
  unfold fits at hf
  refine ⟨{ i : Nat // i ≤ n ∧ ∀ j, j < i → sameR f v j = false }, fun i => ([(8, .d (.int .i64 i)), (7, .d (.int .i64 n)), (6, .d (.list 3 n fun i => tD (f i))), (4, .d (.int .i64 0)), (0, .d (.list 3 n fun i => tD (f i))), (1, .clo (.func 24) [] [.rptr (capD v)])], []), fun i => n - i, ⟨0, Nat.zero_le _, fun j h => absurd h (by omega)⟩, ?_, ?_⟩
  · simp only [go_sem, Nat.reduceEqDiff, ↓reduceIte, Bool.false_eq_true, Nat.reduceAdd, Nat.reduceSub, Nat.reduceBNe, Nat.reduceBEq, Nat.reduceLT, Nat.reduceLeDiff, Nat.reduceMul, Nat.zero_lt_succ, Nat.lt_add_one, Nat.zero_lt_one, Int.reduceToNat, false_implies, true_implies, or_self, or_false, false_or, or_true, true_or, Nat.add_le_add_iff_right, true_and, and_true, forall_const, implies_true, List.contains_cons, List.contains_nil, List.all_cons, List.all_nil, bne_self_eq_false, Option.isSome_none, Option.isSome_some, Bool.or_false, Bool.false_or, Bool.true_or, Bool.or_true, ne_eq, not_false_eq_true, not_true_eq_false, beq_self_eq_true, cond_true, cond_false, Prod.mk.injEq, and_self, reduceCtorEq, BEq.rfl, Bool.and_true, Bool.true_and, Bool.and_false, Bool.false_and]
    rfl
  · rintro ⟨i, hi, hok⟩
    simp only [go_sem, Nat.reduceEqDiff, ↓reduceIte, Bool.false_eq_true, Nat.reduceAdd, Nat.reduceSub, Nat.reduceBNe, Nat.reduceBEq, Nat.reduceLT, Nat.reduceLeDiff, Nat.reduceMul, Nat.zero_lt_succ, Nat.lt_add_one, Nat.zero_lt_one, Int.reduceToNat, false_implies, true_implies, or_self, or_false, false_or, or_true, true_or, Nat.add_le_add_iff_right, true_and, and_true, forall_const, implies_true, List.contains_cons, List.contains_nil, List.all_cons, List.all_nil, bne_self_eq_false, Option.isSome_none, Option.isSome_some, Bool.or_false, Bool.false_or, Bool.true_or, Bool.or_true, ne_eq, not_false_eq_true, not_true_eq_false, beq_self_eq_true, cond_true, cond_false, Prod.mk.injEq, and_self, reduceCtorEq, BEq.rfl, Bool.and_true, Bool.true_and, Bool.and_false, Bool.false_and, decide_eq_true_eq]
    refine ⟨fun hlt => ⟨by omega, _, fun _ => eq_ok (f i) v, nofun, ?_⟩, fun hge => ?_⟩
    · simp only [go_sem, Nat.reduceEqDiff, ↓reduceIte, Bool.false_eq_true, Nat.reduceAdd, Nat.reduceSub, Nat.reduceBNe, Nat.reduceBEq, Nat.reduceLT, Nat.reduceLeDiff, Nat.reduceMul, Nat.zero_lt_succ, Nat.lt_add_one, Nat.zero_lt_one, Int.reduceToNat, false_implies, true_implies, or_self, or_false, false_or, or_true, true_or, Nat.add_le_add_iff_right, true_and, and_true, forall_const, implies_true, List.contains_cons, List.contains_nil, List.all_cons, List.all_nil, bne_self_eq_false, Option.isSome_none, Option.isSome_some, Bool.or_false, Bool.false_or, Bool.true_or, Bool.or_true, ne_eq, not_false_eq_true, not_true_eq_false, beq_self_eq_true, cond_true, cond_false, Prod.mk.injEq, and_self, reduceCtorEq, BEq.rfl, Bool.and_true, Bool.true_and, Bool.and_false, Bool.false_and]
      refine ⟨fun h => ?_, fun h => ⟨by omega, ⟨i + 1, by omega, fun j hj => ?_⟩, by simp only; omega, by simp⟩⟩
      · rw [idx_hit (show i < n by omega) hok h]
      · by_cases e : j = i
        · subst e; exact h
        · exact hok j (by omega)
    · have : i = n := by simp at hge; omega
      subst this
      rw [idx_none hok]
theorem contains_ok (n : Nat) (f : Nat → Tr) (v : Tr) : FnD Tryd.prog 23 [.d (.list 3 n fun i => tD (f i)), .clo (.func 24) [] [.rptr (capD v)]] [.bool (hasR (sameR f v) n)] := by
  refine fnD_intro (H := { nt := Tryd.f23.ntmps }) Tryd.func23 rfl rfl rfl rfl (Nat.le_of_ble_eq_true rfl) (okC_tri (by kernel_rfl) _ _ _ _ (by kernel_rfl) ?_)
  simp only [go_sem, Nat.reduceEqDiff, ↓reduceIte, Bool.false_eq_true, Nat.reduceAdd, Nat.reduceSub, Nat.reduceBNe, Nat.reduceBEq, Nat.reduceLT, Nat.reduceLeDiff, Nat.reduceMul, Nat.zero_lt_succ, Nat.lt_add_one, Nat.zero_lt_one, Int.reduceToNat, false_implies, true_implies, or_self, or_false, false_or, or_true, true_or, Nat.add_le_add_iff_right, true_and, and_true, forall_const, implies_true, List.contains_cons, List.contains_nil, List.all_cons, List.all_nil, bne_self_eq_false, Option.isSome_none, Option.isSome_some, Bool.or_false, Bool.false_or, Bool.true_or, Bool.or_true, ne_eq, not_false_eq_true, not_true_eq_false, beq_self_eq_true, cond_true, cond_false, Prod.mk.injEq, and_self, reduceCtorEq, BEq.rfl, Bool.and_true, Bool.true_and, Bool.and_false, Bool.false_and, Tryd.f23]
  refine ⟨_, fun _ => index_ok n f v, nofun, ?_⟩
  simp only [go_sem, Nat.reduceEqDiff, ↓reduceIte, Bool.false_eq_true, Nat.reduceAdd, Nat.reduceSub, Nat.reduceBNe, Nat.reduceBEq, Nat.reduceLT, Nat.reduceLeDiff, Nat.reduceMul, Nat.zero_lt_succ, Nat.lt_add_one, Nat.zero_lt_one, Int.reduceToNat, false_implies, true_implies, or_self, or_false, false_or, or_true, true_or, Nat.add_le_add_iff_right, true_and, and_true, forall_const, implies_true, List.contains_cons, List.contains_nil, List.all_cons, List.all_nil, bne_self_eq_false, Option.isSome_none, Option.isSome_some, Bool.or_false, Bool.false_or, Bool.true_or, Bool.or_true, ne_eq, not_false_eq_true, not_true_eq_false, beq_self_eq_true, cond_true, cond_false, Prod.mk.injEq, and_self, reduceCtorEq, BEq.rfl, Bool.and_true, Bool.true_and, Bool.and_false, Bool.false_and]
  rw [idx_has]
end Go.Proofs.YtpfahanbkhgfhaaDoor.P41

/- Proved here: contracts of functions of this chapter: called with these values, each returns these values and changes nothing that was. Conditions: none but those that each theorem names. -/
import Derived.Test.YtnhpgmmhfgdmjaaGreatW14i
import Derived.Test.YtnhpgmmhfgdmjaaGreatEvZ
set_option linter.unusedVariables false
set_option linter.unusedSimpArgs false
open Go Go.Proofs Go.Ev
namespace Go.Proofs.YtnhpgmmhfgdmjaaGreat.P14
set_option maxRecDepth 100000
/-- A list that has grown by one element at a time. -/
def cutV (z : DV) (i : Nat) (g : Nat → DV) : Nat → DV := fun k => if k < i then g k else z
theorem join_cutV (z : DV) (i : Nat) (g : Nat → DV) : joinF i (cutV z i g) (fun k => [g i].getD k z) = cutV z (i + 1) g := by
  funext k
  simp only [joinF, cutV]
  by_cases h : k < i
  · simp [h, Nat.lt_succ_of_lt h]
  · by_cases e : k = i
    · subst e; simp
    · have h1 : ¬ k < i + 1 := by omega
      obtain ⟨d, rfl⟩ : ∃ d, k = i + 1 + d := ⟨k - (i + 1), by omega⟩
      have : i + 1 + d - i = d + 1 := by omega
      simp [h, h1, this]
theorem one_cutV (z : DV) (g : Nat → DV) : (fun k => [g 0].getD k z) = cutV z 1 g := by
  have := join_cutV z 0 g
  simp only [Nat.zero_add] at this
  rw [← this]
  funext k
  simp [joinF]
/-- A tree. -/
inductive Nd where
  | leaf (tag kind n : Int) (s : ByteArray)
  | mk (tag kind n : Int) (s : ByteArray) (m : Nat) (kids : Nat → Nd)
instance : Inhabited Nd := ⟨.leaf 0 0 0 ⟨#[]⟩⟩
def Nd.tag : Nd → Int | .leaf t .. => t | .mk t .. => t
def Nd.kind : Nd → Int | .leaf _ t .. => t | .mk _ t .. => t
def Nd.n : Nd → Int | .leaf _ _ t .. => t | .mk _ _ t .. => t
def Nd.s : Nd → ByteArray | .leaf _ _ _ t => t | .mk _ _ _ t .. => t
def Nd.m : Nd → Nat | .leaf .. => 0 | .mk _ _ _ _ t _ => t
def Nd.kids : Nd → Nat → Nd | .leaf .. => fun _ => default | .mk _ _ _ _ _ f => f
def Nd.D : Nd → DV
  | .leaf t k n s => .agg [.int .i64 t, .int .i64 k, .int .i64 n, .str s, .nil]
  | .mk t k n s m f => .agg [.int .i64 t, .int .i64 k, .int .i64 n, .str s, .list 5 m fun i => (f i).D]
def Nd.kidsD : Nd → DV | .leaf .. => .nil | .mk _ _ _ _ m f => .list 5 m fun i => (f i).D
abbrev ndZ : DV := .agg [.int .i64 0, .int .i64 0, .int .i64 0, .str ⟨#[]⟩, .nil]
theorem Nd.D_eq (x : Nd) : x.D = .agg [.int .i64 x.tag, .int .i64 x.kind, .int .i64 x.n, .str x.s, x.kidsD] := by cases x <;> simp only [Nd.D, tag, kind, n, s, kidsD]
@[go_sem] theorem nd_agg (x : Nd) : DV.agg [.int .i64 x.tag, .int .i64 x.kind, .int .i64 x.n, .str x.s, x.kidsD] = x.D := x.D_eq.symm
@[go_sem] theorem nd_cells (x : Nd) : (PV.d x.D).cells = [.d (.int .i64 x.tag), .d (.int .i64 x.kind), .d (.int .i64 x.n), .d (.str x.s), .d x.kidsD] := by rw [Nd.D_eq]; rfl
@[go_sem] theorem nd_dcells (x : Nd) : x.D.cells = [.int .i64 x.tag, .int .i64 x.kind, .int .i64 x.n, .str x.s, x.kidsD] := by rw [Nd.D_eq]; rfl
/-- No node has very many children. -/
def Nd.ok : Nd → Prop
  | .leaf .. => True
  | .mk _ _ _ _ m f => m ≤ 1000000 ∧ ∀ i, i < m → (f i).ok
/-- The tree with a list in the place of no list. -/
def Nd.L : Nd → DV
  | .leaf t k n s => .agg [.int .i64 t, .int .i64 k, .int .i64 n, .str s, .list 5 0 fun _ => .nil]
  | x => x.D
theorem rep_nil5 {S : Nat → Prop} {w : World} {t k n : Int} {s : ByteArray} {g : Nat → DV} {v : Value} (h : (DV.agg [.int .i64 t, .int .i64 k, .int .i64 n, .str s, .nil]).rep S w v) : (DV.agg [.int .i64 t, .int .i64 k, .int .i64 n, .str s, .list 5 0 g]).rep S w v := by
  simp only [DV.rep.eq_1, repL] at h ⊢
  obtain ⟨vs, e, u1, _, rfl, o1, r1, u2, _, rfl, o2, r2, u3, _, rfl, o3, r3, u4, _, rfl, o4, r4, u5, _, rfl, o5, r5, rfl⟩ := h
  exact ⟨_, e, u1, _, rfl, o1, r1, u2, _, rfl, o2, r2, u3, _, rfl, o3, r3, u4, _, rfl, o4, r4, u5, _, rfl, o5, rep_nil_list r5, rfl⟩
theorem rep_list5 {S : Nat → Prop} {w : World} {t k n : Int} {s : ByteArray} {m : Nat} {f g : Nat → DV} {v : Value} (hf : ∀ i, i < m → f i = g i) (h : (DV.agg [.int .i64 t, .int .i64 k, .int .i64 n, .str s, .list 5 m f]).rep S w v) : (DV.agg [.int .i64 t, .int .i64 k, .int .i64 n, .str s, .list 5 m g]).rep S w v := by
  simp only [DV.rep.eq_1, repL] at h ⊢
  obtain ⟨vs, e, u1, _, rfl, o1, r1, u2, _, rfl, o2, r2, u3, _, rfl, o3, r3, u4, _, rfl, o4, r4, u5, _, rfl, o5, r5, rfl⟩ := h
  exact ⟨_, e, u1, _, rfl, o1, r1, u2, _, rfl, o2, r2, u3, _, rfl, o3, r3, u4, _, rfl, o4, r4, u5, _, rfl, o5, rep_list_congr hf r5, rfl⟩
theorem codecInt_ok (t n : Int) : FnD Tryz.prog 15 [.d (.int .i64 t), .d (.int .i64 n)] [.agg [.int .i64 t, .int .i64 1, .int .i64 n, .str ⟨#[]⟩, .nil]] := by
  refine fnD_intro (H := { nt := Go.Func.ntmps Tryz.f15 }) Tryz.func15 rfl rfl rfl rfl (Nat.le_of_ble_eq_true rfl) (okC_tri (by kernel_rfl) _ _ _ _ (by kernel_rfl) ?_)
  simp only [go_sem, Nat.reduceEqDiff, ↓reduceIte, Bool.false_eq_true, Nat.reduceAdd, Nat.reduceSub, Nat.reduceBNe, Nat.reduceBEq, Nat.reduceLT, Nat.reduceLeDiff, Nat.reduceMul, Nat.zero_lt_succ, Nat.lt_add_one, Nat.zero_lt_one, Int.reduceToNat, false_implies, true_implies, or_self, or_false, false_or, or_true, true_or, Nat.add_le_add_iff_right, true_and, and_true, forall_const, implies_true, List.contains_cons, List.contains_nil, List.all_cons, List.all_nil, bne_self_eq_false, Option.isSome_none, Option.isSome_some, Bool.or_false, Bool.false_or, Bool.true_or, Bool.or_true, ne_eq, not_false_eq_true, not_true_eq_false, beq_self_eq_true, cond_true, cond_false, Prod.mk.injEq, and_self, reduceCtorEq, BEq.rfl, Bool.and_true, Bool.true_and, Bool.and_false, Bool.false_and, Tryz.f15]
theorem codecString_ok (t : Int) (s : ByteArray) : FnD Tryz.prog 17 [.d (.int .i64 t), .d (.str s)] [.agg [.int .i64 t, .int .i64 2, .int .i64 0, .str s, .nil]] := by
  refine fnD_intro (H := { nt := Go.Func.ntmps Tryz.f17 }) Tryz.func17 rfl rfl rfl rfl (Nat.le_of_ble_eq_true rfl) (okC_tri (by kernel_rfl) _ _ _ _ (by kernel_rfl) ?_)
  simp only [go_sem, Nat.reduceEqDiff, ↓reduceIte, Bool.false_eq_true, Nat.reduceAdd, Nat.reduceSub, Nat.reduceBNe, Nat.reduceBEq, Nat.reduceLT, Nat.reduceLeDiff, Nat.reduceMul, Nat.zero_lt_succ, Nat.lt_add_one, Nat.zero_lt_one, Int.reduceToNat, false_implies, true_implies, or_self, or_false, false_or, or_true, true_or, Nat.add_le_add_iff_right, true_and, and_true, forall_const, implies_true, List.contains_cons, List.contains_nil, List.all_cons, List.all_nil, bne_self_eq_false, Option.isSome_none, Option.isSome_some, Bool.or_false, Bool.false_or, Bool.true_or, Bool.or_true, ne_eq, not_false_eq_true, not_true_eq_false, beq_self_eq_true, cond_true, cond_false, Prod.mk.injEq, and_self, reduceCtorEq, BEq.rfl, Bool.and_true, Bool.true_and, Bool.and_false, Bool.false_and, Tryz.f17]
def cloneD (t k n : Int) (s : ByteArray) (f : Nat → Nd) : Nat → DV
  | 0 => .agg [.int .i64 t, .int .i64 k, .int .i64 n, .str s, .nil]
  | m + 1 => .agg [.int .i64 t, .int .i64 k, .int .i64 n, .str s, .list 5 (m + 1) (cutV ndZ (m + 1) fun j => (f j).D)]
theorem clone_step (t k n : Int) (s : ByteArray) (m : Nat) (f : Nat → Nd) (hm : m ≤ 1000000) (ih : ∀ i, i < m → FnD Tryz.prog 49 [.d (f i).D] [(f i).D]) : FnD Tryz.prog 49 [.d (.agg [.int .i64 t, .int .i64 k, .int .i64 n, .str s, .list 5 m fun i => (f i).D])] [cloneD t k n s f m] := by
  refine fnD_intro (H := { nt := Go.Func.ntmps Tryz.f49 }) Tryz.func49 rfl rfl rfl rfl (Nat.le_of_ble_eq_true rfl) (okC_tri (by kernel_rfl) _ _ _ _ (by kernel_rfl) ?_)
  simp only [go_sem, Nat.reduceEqDiff, ↓reduceIte, Bool.false_eq_true, Nat.reduceAdd, Nat.reduceSub, Nat.reduceBNe, Nat.reduceBEq, Nat.reduceLT, Nat.reduceLeDiff, Nat.reduceMul, Nat.zero_lt_succ, Nat.lt_add_one, Nat.zero_lt_one, Int.reduceToNat, false_implies, true_implies, or_self, or_false, false_or, or_true, true_or, Nat.add_le_add_iff_right, true_and, and_true, forall_const, implies_true, List.contains_cons, List.contains_nil, List.all_cons, List.all_nil, bne_self_eq_false, Option.isSome_none, Option.isSome_some, Bool.or_false, Bool.false_or, Bool.true_or, Bool.or_true, ne_eq, not_false_eq_true, not_true_eq_false, beq_self_eq_true, cond_true, cond_false, Prod.mk.injEq, and_self, reduceCtorEq, BEq.rfl, Bool.and_true, Bool.true_and, Bool.and_false, Bool.false_and, Tryz.f49]
  intro _
  refine ⟨Option { i : Nat // 1 ≤ i ∧ i ≤ m }, fun o => (match o with
    | none => ([(11, .d (.int .i64 0)), (10, .d (.int .i64 m)), (9, .d (.list 5 m fun i => (f i).D)), (3, .ptr 2 0), (2, .ptr 1 0)], [.box [.d (.int .i64 t), .d (.int .i64 k), .d (.int .i64 n), .d (.str s), .d (.list 5 m fun i => (f i).D)], .box [.d (.int .i64 0), .d (.int .i64 0), .d (.int .i64 0), .d (.str ⟨#[]⟩), .d .nil], .box [.d (.int .i64 t), .d (.int .i64 k), .d (.int .i64 n), .d (.str s), .d .nil]])
    | some i => ([(11, .d (.int .i64 i)), (10, .d (.int .i64 m)), (9, .d (.list 5 m fun i => (f i).D)), (3, .ptr 2 0), (2, .ptr 1 0)], [.box [.d (.int .i64 t), .d (.int .i64 k), .d (.int .i64 n), .d (.str s), .d (.list 5 m fun i => (f i).D)], .box [.d (.int .i64 0), .d (.int .i64 0), .d (.int .i64 0), .d (.str ⟨#[]⟩), .d .nil], .box [.d (.int .i64 t), .d (.int .i64 k), .d (.int .i64 n), .d (.str s), .own 5 0 i], .box (PV.d (f 0).D).cells, .arr 28 5 1 (cutV ndZ 1 fun j => (f j).D), .arr 28 5 i (cutV ndZ i fun j => (f j).D)])), fun o => (match o with | none => m + 1 | some i => m - i), none, ?_, ?_⟩
  · simp only [go_sem, Nat.reduceEqDiff, ↓reduceIte, Bool.false_eq_true, Nat.reduceAdd, Nat.reduceSub, Nat.reduceBNe, Nat.reduceBEq, Nat.reduceLT, Nat.reduceLeDiff, Nat.reduceMul, Nat.zero_lt_succ, Nat.lt_add_one, Nat.zero_lt_one, Int.reduceToNat, false_implies, true_implies, or_self, or_false, false_or, or_true, true_or, Nat.add_le_add_iff_right, true_and, and_true, forall_const, implies_true, List.contains_cons, List.contains_nil, List.all_cons, List.all_nil, bne_self_eq_false, Option.isSome_none, Option.isSome_some, Bool.or_false, Bool.false_or, Bool.true_or, Bool.or_true, ne_eq, not_false_eq_true, not_true_eq_false, beq_self_eq_true, cond_true, cond_false, Prod.mk.injEq, and_self, reduceCtorEq, BEq.rfl, Bool.and_true, Bool.true_and, Bool.and_false, Bool.false_and]
  · rintro (_ | ⟨i, hi1, hi⟩)
    · simp only [go_sem, Nat.reduceEqDiff, ↓reduceIte, Bool.false_eq_true, Nat.reduceAdd, Nat.reduceSub, Nat.reduceBNe, Nat.reduceBEq, Nat.reduceLT, Nat.reduceLeDiff, Nat.reduceMul, Nat.zero_lt_succ, Nat.lt_add_one, Nat.zero_lt_one, Int.reduceToNat, false_implies, true_implies, or_self, or_false, false_or, or_true, true_or, Nat.add_le_add_iff_right, true_and, and_true, forall_const, implies_true, List.contains_cons, List.contains_nil, List.all_cons, List.all_nil, bne_self_eq_false, Option.isSome_none, Option.isSome_some, Bool.or_false, Bool.false_or, Bool.true_or, Bool.or_true, ne_eq, not_false_eq_true, not_true_eq_false, beq_self_eq_true, cond_true, cond_false, Prod.mk.injEq, and_self, reduceCtorEq, BEq.rfl, Bool.and_true, Bool.true_and, Bool.and_false, Bool.false_and, decide_eq_true_eq]
      refine ⟨fun hlt => ⟨by omega, ?_⟩, fun hge => ?_⟩
      · refine ⟨_, fun _ => ih 0 (by omega), ?_, ?_⟩
        focus (first | exact fun _ => rfl | exact fun h0 => absurd h0 (by decide))
        simp only [go_sem, Nat.reduceEqDiff, ↓reduceIte, Bool.false_eq_true, Nat.reduceAdd, Nat.reduceSub, Nat.reduceBNe, Nat.reduceBEq, Nat.reduceLT, Nat.reduceLeDiff, Nat.reduceMul, Nat.zero_lt_succ, Nat.lt_add_one, Nat.zero_lt_one, Int.reduceToNat, false_implies, true_implies, or_self, or_false, false_or, or_true, true_or, Nat.add_le_add_iff_right, true_and, and_true, forall_const, implies_true, List.contains_cons, List.contains_nil, List.all_cons, List.all_nil, bne_self_eq_false, Option.isSome_none, Option.isSome_some, Bool.or_false, Bool.false_or, Bool.true_or, Bool.or_true, ne_eq, not_false_eq_true, not_true_eq_false, beq_self_eq_true, cond_true, cond_false, Prod.mk.injEq, and_self, reduceCtorEq, BEq.rfl, Bool.and_true, Bool.true_and, Bool.and_false, Bool.false_and]
        refine ⟨by decide, some ⟨1, by omega, by omega⟩, ?_⟩
        simp only [go_sem, Nat.reduceEqDiff, ↓reduceIte, Bool.false_eq_true, Nat.reduceAdd, Nat.reduceSub, Nat.reduceBNe, Nat.reduceBEq, Nat.reduceLT, Nat.reduceLeDiff, Nat.reduceMul, Nat.zero_lt_succ, Nat.lt_add_one, Nat.zero_lt_one, Int.reduceToNat, false_implies, true_implies, or_self, or_false, false_or, or_true, true_or, Nat.add_le_add_iff_right, true_and, and_true, forall_const, implies_true, List.contains_cons, List.contains_nil, List.all_cons, List.all_nil, bne_self_eq_false, Option.isSome_none, Option.isSome_some, Bool.or_false, Bool.false_or, Bool.true_or, Bool.or_true, ne_eq, not_false_eq_true, not_true_eq_false, beq_self_eq_true, cond_true, cond_false, Prod.mk.injEq, and_self, reduceCtorEq, BEq.rfl, Bool.and_true, Bool.true_and, Bool.and_false, Bool.false_and]
        exact ⟨by omega, rfl, congrArg (Blk.arr 28 5 1) (one_cutV ndZ fun j => (f j).D)⟩
      · have h0 : m = 0 := by simp at hge; omega
        subst h0
        rfl
    · simp only [go_sem, Nat.reduceEqDiff, ↓reduceIte, Bool.false_eq_true, Nat.reduceAdd, Nat.reduceSub, Nat.reduceBNe, Nat.reduceBEq, Nat.reduceLT, Nat.reduceLeDiff, Nat.reduceMul, Nat.zero_lt_succ, Nat.lt_add_one, Nat.zero_lt_one, Int.reduceToNat, false_implies, true_implies, or_self, or_false, false_or, or_true, true_or, Nat.add_le_add_iff_right, true_and, and_true, forall_const, implies_true, List.contains_cons, List.contains_nil, List.all_cons, List.all_nil, bne_self_eq_false, Option.isSome_none, Option.isSome_some, Bool.or_false, Bool.false_or, Bool.true_or, Bool.or_true, ne_eq, not_false_eq_true, not_true_eq_false, beq_self_eq_true, cond_true, cond_false, Prod.mk.injEq, and_self, reduceCtorEq, BEq.rfl, Bool.and_true, Bool.true_and, Bool.and_false, Bool.false_and, decide_eq_true_eq]
      refine ⟨fun hlt => ⟨by omega, ?_⟩, fun hge => ?_⟩
      · refine ⟨_, fun _ => ih i (by omega), ?_, ?_⟩
        focus (first | exact fun _ => rfl | exact fun h0 => absurd h0 (by decide))
        simp only [go_sem, Nat.reduceEqDiff, ↓reduceIte, Bool.false_eq_true, Nat.reduceAdd, Nat.reduceSub, Nat.reduceBNe, Nat.reduceBEq, Nat.reduceLT, Nat.reduceLeDiff, Nat.reduceMul, Nat.zero_lt_succ, Nat.lt_add_one, Nat.zero_lt_one, Int.reduceToNat, false_implies, true_implies, or_self, or_false, false_or, or_true, true_or, Nat.add_le_add_iff_right, true_and, and_true, forall_const, implies_true, List.contains_cons, List.contains_nil, List.all_cons, List.all_nil, bne_self_eq_false, Option.isSome_none, Option.isSome_some, Bool.or_false, Bool.false_or, Bool.true_or, Bool.or_true, ne_eq, not_false_eq_true, not_true_eq_false, beq_self_eq_true, cond_true, cond_false, Prod.mk.injEq, and_self, reduceCtorEq, BEq.rfl, Bool.and_true, Bool.true_and, Bool.and_false, Bool.false_and]
        refine ⟨⟨by omega, by omega⟩, ⟨by omega, by omega⟩, some ⟨i + 1, by omega, by omega⟩, ?_⟩
        simp only [go_sem, Nat.reduceEqDiff, ↓reduceIte, Bool.false_eq_true, Nat.reduceAdd, Nat.reduceSub, Nat.reduceBNe, Nat.reduceBEq, Nat.reduceLT, Nat.reduceLeDiff, Nat.reduceMul, Nat.zero_lt_succ, Nat.lt_add_one, Nat.zero_lt_one, Int.reduceToNat, false_implies, true_implies, or_self, or_false, false_or, or_true, true_or, Nat.add_le_add_iff_right, true_and, and_true, forall_const, implies_true, List.contains_cons, List.contains_nil, List.all_cons, List.all_nil, bne_self_eq_false, Option.isSome_none, Option.isSome_some, Bool.or_false, Bool.false_or, Bool.true_or, Bool.or_true, ne_eq, not_false_eq_true, not_true_eq_false, beq_self_eq_true, cond_true, cond_false, Prod.mk.injEq, and_self, reduceCtorEq, BEq.rfl, Bool.and_true, Bool.true_and, Bool.and_false, Bool.false_and]
        exact ⟨by omega, by simp, congrArg _ (join_cutV ndZ i fun j => (f j).D)⟩
      · have h0 : i = m := by simp at hge; omega
        subst h0
        obtain ⟨j, rfl⟩ : ∃ j, i = j + 1 := ⟨i - 1, by omega⟩
        rfl
theorem clone_mk (t k n : Int) (s : ByteArray) (m : Nat) (f : Nat → Nd) (hm : m ≤ 1000000) (ih : ∀ i, i < m → FnD Tryz.prog 49 [.d (f i).D] [(f i).D]) : FnD Tryz.prog 49 [.d (.agg [.int .i64 t, .int .i64 k, .int .i64 n, .str s, .list 5 m fun i => (f i).D])] [.agg [.int .i64 t, .int .i64 k, .int .i64 n, .str s, .list 5 m fun i => (f i).D]] := by
  refine FnD.weak (clone_step t k n s m f hm ih) fun S α w v hv => ?_
  simp only [List.map_cons, List.map_nil, resP, PV.rep] at hv ⊢
  cases m with
  | zero => exact rep_nil5 hv
  | succ m => exact rep_list5 (fun i hi => by simp [cutV, hi]) hv
theorem args1 {P : Program} {K : FuncId} {d d' : DV} {rs : List DV} (h : FnD P K [.d d] rs) (hd : ∀ S w v, d'.rep S w v → d.rep S w v) : FnD P K [.d d'] rs :=
  h.args fun S α w vs hv => by
    simp only [prepL, PV.rep] at hv ⊢
    obtain ⟨u, us, rfl, h1, rfl⟩ := hv
    exact ⟨u, _, rfl, hd _ _ _ h1, rfl⟩
theorem clone_leaf (t k n : Int) (s : ByteArray) : FnD Tryz.prog 49 [.d (Nd.leaf t k n s).D] [(Nd.leaf t k n s).D] :=
  args1 (d := .agg [.int .i64 t, .int .i64 k, .int .i64 n, .str s, .list 5 0 fun i => ((fun _ => default : Nat → Nd) i).D]) (clone_step t k n s 0 (fun _ => default) (by omega) fun i hi => absurd hi (by omega)) fun S w v h => rep_nil5 h
theorem clone_ok : ∀ (x : Nd), x.ok → FnD Tryz.prog 49 [.d x.D] [x.D]
  | .leaf t k n s, _ => clone_leaf t k n s
  | .mk t k n s m f, h => by
    simp only [Nd.D]
    exact clone_mk t k n s m f h.1 fun i hi => clone_ok (f i) (h.2 i hi)
end Go.Proofs.YtnhpgmmhfgdmjaaGreat.P14
/- Proved here: contracts of functions of this chapter: called with these values, each returns these values and changes nothing that was. Conditions: none but those that each theorem names. -/
set_option linter.unusedVariables false
set_option linter.unusedSimpArgs false
open Go Go.Proofs Go.Ev
namespace Go.Proofs.YtnhpgmmhfgdmjaaGreat.P14
set_option maxRecDepth 100000
theorem number_ok (t n : Int) : FnD Tryz.prog 14 [.d (.int .i64 t), .d (.int .i64 n)] [.agg [.int .i64 t, .int .i64 1, .int .i64 n, .str ⟨#[]⟩, .nil]] := by
  refine fnD_intro (H := { nt := Go.Func.ntmps Tryz.f14 }) Tryz.func14 rfl rfl rfl rfl (Nat.le_of_ble_eq_true rfl) (okC_tri (by kernel_rfl) _ _ _ _ (by kernel_rfl) ?_)
  simp only [go_sem, Nat.reduceEqDiff, ↓reduceIte, Bool.false_eq_true, Nat.reduceAdd, Nat.reduceSub, Nat.reduceBNe, Nat.reduceBEq, Nat.reduceLT, Nat.reduceLeDiff, Nat.reduceMul, Nat.zero_lt_succ, Nat.lt_add_one, Nat.zero_lt_one, Int.reduceToNat, false_implies, true_implies, or_self, or_false, false_or, or_true, true_or, Nat.add_le_add_iff_right, true_and, and_true, forall_const, implies_true, List.contains_cons, List.contains_nil, List.all_cons, List.all_nil, bne_self_eq_false, Option.isSome_none, Option.isSome_some, Bool.or_false, Bool.false_or, Bool.true_or, Bool.or_true, ne_eq, not_false_eq_true, not_true_eq_false, beq_self_eq_true, cond_true, cond_false, Prod.mk.injEq, and_self, reduceCtorEq, BEq.rfl, Bool.and_true, Bool.true_and, Bool.and_false, Bool.false_and, Tryz.f14]
  refine ⟨_, fun _ => codecInt_ok t n, ?_, ?_⟩
  focus (first | exact fun _ => rfl | exact fun h0 => absurd h0 (by decide))
  simp only [go_sem, Nat.reduceEqDiff, ↓reduceIte, Bool.false_eq_true, Nat.reduceAdd, Nat.reduceSub, Nat.reduceBNe, Nat.reduceBEq, Nat.reduceLT, Nat.reduceLeDiff, Nat.reduceMul, Nat.zero_lt_succ, Nat.lt_add_one, Nat.zero_lt_one, Int.reduceToNat, false_implies, true_implies, or_self, or_false, false_or, or_true, true_or, Nat.add_le_add_iff_right, true_and, and_true, forall_const, implies_true, List.contains_cons, List.contains_nil, List.all_cons, List.all_nil, bne_self_eq_false, Option.isSome_none, Option.isSome_some, Bool.or_false, Bool.false_or, Bool.true_or, Bool.or_true, ne_eq, not_false_eq_true, not_true_eq_false, beq_self_eq_true, cond_true, cond_false, Prod.mk.injEq, and_self, reduceCtorEq, BEq.rfl, Bool.and_true, Bool.true_and, Bool.and_false, Bool.false_and]
theorem list_ok (t : Int) (m : Nat) (f : Nat → Nd) (hm : m ≤ 1000000) (hf : ∀ i, i < m → (f i).ok) : FnD Tryz.prog 16 [.d (.int .i64 t), .d (.list 5 m fun i => (f i).D)] [.agg [.int .i64 t, .int .i64 3, .int .i64 0, .str ⟨#[]⟩, .list 5 m fun i => (f i).D]] := by
  refine fnD_intro (H := { nt := Go.Func.ntmps Tryz.f16 }) Tryz.func16 rfl rfl rfl rfl (Nat.le_of_ble_eq_true rfl) (okC_tri (by kernel_rfl) _ _ _ _ (by kernel_rfl) ?_)
  simp only [go_sem, Nat.reduceEqDiff, ↓reduceIte, Bool.false_eq_true, Nat.reduceAdd, Nat.reduceSub, Nat.reduceBNe, Nat.reduceBEq, Nat.reduceLT, Nat.reduceLeDiff, Nat.reduceMul, Nat.zero_lt_succ, Nat.lt_add_one, Nat.zero_lt_one, Int.reduceToNat, false_implies, true_implies, or_self, or_false, false_or, or_true, true_or, Nat.add_le_add_iff_right, true_and, and_true, forall_const, implies_true, List.contains_cons, List.contains_nil, List.all_cons, List.all_nil, bne_self_eq_false, Option.isSome_none, Option.isSome_some, Bool.or_false, Bool.false_or, Bool.true_or, Bool.or_true, ne_eq, not_false_eq_true, not_true_eq_false, beq_self_eq_true, cond_true, cond_false, Prod.mk.injEq, and_self, reduceCtorEq, BEq.rfl, Bool.and_true, Bool.true_and, Bool.and_false, Bool.false_and, Tryz.f16]
  refine ⟨_, fun _ => clone_mk t 3 0 ⟨#[]⟩ m f hm fun i hi => clone_ok _ (hf i hi), ?_, ?_⟩
  focus (first | exact fun _ => rfl | exact fun h0 => absurd h0 (by decide))
  simp only [go_sem, Nat.reduceEqDiff, ↓reduceIte, Bool.false_eq_true, Nat.reduceAdd, Nat.reduceSub, Nat.reduceBNe, Nat.reduceBEq, Nat.reduceLT, Nat.reduceLeDiff, Nat.reduceMul, Nat.zero_lt_succ, Nat.lt_add_one, Nat.zero_lt_one, Int.reduceToNat, false_implies, true_implies, or_self, or_false, false_or, or_true, true_or, Nat.add_le_add_iff_right, true_and, and_true, forall_const, implies_true, List.contains_cons, List.contains_nil, List.all_cons, List.all_nil, bne_self_eq_false, Option.isSome_none, Option.isSome_some, Bool.or_false, Bool.false_or, Bool.true_or, Bool.or_true, ne_eq, not_false_eq_true, not_true_eq_false, beq_self_eq_true, cond_true, cond_false, Prod.mk.injEq, and_self, reduceCtorEq, BEq.rfl, Bool.and_true, Bool.true_and, Bool.and_false, Bool.false_and]
theorem args2 {P : Program} {K : FuncId} {a d d' : DV} {rs : List DV} (h : FnD P K [.d a, .d d] rs) (hd : ∀ S w v, d'.rep S w v → d.rep S w v) : FnD P K [.d a, .d d'] rs :=
  h.args fun S α w vs hv => by
    simp only [prepL, PV.rep] at hv ⊢
    obtain ⟨u, us, rfl, h1, u2, _, rfl, h2, rfl⟩ := hv
    exact ⟨u, _, rfl, h1, u2, _, rfl, hd _ _ _ h2, rfl⟩
theorem list_cut (t : Int) (m : Nat) (f : Nat → Nd) (hm : m ≤ 1000000) (hf : ∀ i, i < m → (f i).ok) : FnD Tryz.prog 16 [.d (.int .i64 t), .d (.list 5 m (cutV ndZ m fun i => (f i).D))] [.agg [.int .i64 t, .int .i64 3, .int .i64 0, .str ⟨#[]⟩, .list 5 m fun i => (f i).D]] :=
  args2 (list_ok t m f hm hf) fun S w v h => rep_list_congr (fun i hi => by simp [cutV, hi]) h
theorem cut0 (z : DV) (g : Nat → DV) : cutV z 0 g = fun _ => z := by funext k; simp [cutV]
theorem stringList_ok (t : Int) (n : Nat) (a : Nat → ByteArray) (hn : n ≤ 1000) : FnD Tryz.prog 18 [.d (.int .i64 t), .d (sD n a)] [.agg [.int .i64 t, .int .i64 3, .int .i64 0, .str ⟨#[]⟩, .list 5 n fun i => (Nd.leaf 0 2 0 (a i)).D]] := by
  refine fnD_intro (H := { nt := Go.Func.ntmps Tryz.f18, fx := [16] }) Tryz.func18 rfl rfl rfl rfl (Nat.le_of_ble_eq_true rfl) (okC_tri (by kernel_rfl) _ _ _ _ (by kernel_rfl) ?_)
  simp only [go_sem, Nat.reduceEqDiff, ↓reduceIte, Bool.false_eq_true, Nat.reduceAdd, Nat.reduceSub, Nat.reduceBNe, Nat.reduceBEq, Nat.reduceLT, Nat.reduceLeDiff, Nat.reduceMul, Nat.zero_lt_succ, Nat.lt_add_one, Nat.zero_lt_one, Int.reduceToNat, false_implies, true_implies, or_self, or_false, false_or, or_true, true_or, Nat.add_le_add_iff_right, true_and, and_true, forall_const, implies_true, List.contains_cons, List.contains_nil, List.all_cons, List.all_nil, bne_self_eq_false, Option.isSome_none, Option.isSome_some, Bool.or_false, Bool.false_or, Bool.true_or, Bool.or_true, ne_eq, not_false_eq_true, not_true_eq_false, beq_self_eq_true, cond_true, cond_false, Prod.mk.injEq, and_self, reduceCtorEq, BEq.rfl, Bool.and_true, Bool.true_and, Bool.and_false, Bool.false_and, Tryz.f18, sD]
  refine fun _ => ⟨by omega, fun _ => ?_⟩
  refine ⟨{ i : Nat // i ≤ n }, fun i => ([(13, .d (.int .i64 i)), (12, .d (.int .i64 n)), (11, .d (.list 1 n fun i => .str (a i))), (5, .own 1 0 i), (4, .ptr 0 0), (0, .d (.int .i64 t))], [.box [.d (.int .i64 0), .d (.int .i64 0), .d (.int .i64 0), .d (.str ⟨#[]⟩), .d .nil], .arr 28 5 i (cutV ndZ i fun i => (Nd.leaf 0 2 0 (a i)).D)]), fun i => n - i, ⟨0, Nat.zero_le _⟩, ?_, ?_⟩
  · simp only [go_sem, Nat.reduceEqDiff, ↓reduceIte, Bool.false_eq_true, Nat.reduceAdd, Nat.reduceSub, Nat.reduceBNe, Nat.reduceBEq, Nat.reduceLT, Nat.reduceLeDiff, Nat.reduceMul, Nat.zero_lt_succ, Nat.lt_add_one, Nat.zero_lt_one, Int.reduceToNat, false_implies, true_implies, or_self, or_false, false_or, or_true, true_or, Nat.add_le_add_iff_right, true_and, and_true, forall_const, implies_true, List.contains_cons, List.contains_nil, List.all_cons, List.all_nil, bne_self_eq_false, Option.isSome_none, Option.isSome_some, Bool.or_false, Bool.false_or, Bool.true_or, Bool.or_true, ne_eq, not_false_eq_true, not_true_eq_false, beq_self_eq_true, cond_true, cond_false, Prod.mk.injEq, and_self, reduceCtorEq, BEq.rfl, Bool.and_true, Bool.true_and, Bool.and_false, Bool.false_and, cut0]
    rfl
  · rintro ⟨i, hi⟩
    simp only [go_sem, Nat.reduceEqDiff, ↓reduceIte, Bool.false_eq_true, Nat.reduceAdd, Nat.reduceSub, Nat.reduceBNe, Nat.reduceBEq, Nat.reduceLT, Nat.reduceLeDiff, Nat.reduceMul, Nat.zero_lt_succ, Nat.lt_add_one, Nat.zero_lt_one, Int.reduceToNat, false_implies, true_implies, or_self, or_false, false_or, or_true, true_or, Nat.add_le_add_iff_right, true_and, and_true, forall_const, implies_true, List.contains_cons, List.contains_nil, List.all_cons, List.all_nil, bne_self_eq_false, Option.isSome_none, Option.isSome_some, Bool.or_false, Bool.false_or, Bool.true_or, Bool.or_true, ne_eq, not_false_eq_true, not_true_eq_false, beq_self_eq_true, cond_true, cond_false, Prod.mk.injEq, and_self, reduceCtorEq, BEq.rfl, Bool.and_true, Bool.true_and, Bool.and_false, Bool.false_and, decide_eq_true_eq]
    refine ⟨fun hlt => ⟨by omega, ?_⟩, fun hge => ?_⟩
    · refine ⟨_, fun _ => codecString_ok 0 (a i), ?_, ?_⟩
      focus (first | exact fun _ => rfl | exact fun h0 => absurd h0 (by decide))
      simp only [go_sem, Nat.reduceEqDiff, ↓reduceIte, Bool.false_eq_true, Nat.reduceAdd, Nat.reduceSub, Nat.reduceBNe, Nat.reduceBEq, Nat.reduceLT, Nat.reduceLeDiff, Nat.reduceMul, Nat.zero_lt_succ, Nat.lt_add_one, Nat.zero_lt_one, Int.reduceToNat, false_implies, true_implies, or_self, or_false, false_or, or_true, true_or, Nat.add_le_add_iff_right, true_and, and_true, forall_const, implies_true, List.contains_cons, List.contains_nil, List.all_cons, List.all_nil, bne_self_eq_false, Option.isSome_none, Option.isSome_some, Bool.or_false, Bool.false_or, Bool.true_or, Bool.or_true, ne_eq, not_false_eq_true, not_true_eq_false, beq_self_eq_true, cond_true, cond_false, Prod.mk.injEq, and_self, reduceCtorEq, BEq.rfl, Bool.and_true, Bool.true_and, Bool.and_false, Bool.false_and]
      refine ⟨⟨by omega, by omega⟩, ⟨by omega, by omega⟩, ⟨i + 1, by omega⟩, by simp only; omega, ⟨by simp, rfl⟩, ?_⟩
      exact congrArg (Blk.arr 28 5 (i + 1)) (join_cutV ndZ i fun i => (Nd.leaf 0 2 0 (a i)).D)
    · have e1 : i = n := by simp at hge; omega
      subst e1
      refine fnE_give rfl (list_cut t i (fun i => Nd.leaf 0 2 0 (a i)) (by omega) fun i hi => trivial) ?_
      simp only [go_sem, Nat.reduceEqDiff, ↓reduceIte, Bool.false_eq_true, Nat.reduceAdd, Nat.reduceSub, Nat.reduceBNe, Nat.reduceBEq, Nat.reduceLT, Nat.reduceLeDiff, Nat.reduceMul, Nat.zero_lt_succ, Nat.lt_add_one, Nat.zero_lt_one, Int.reduceToNat, false_implies, true_implies, or_self, or_false, false_or, or_true, true_or, Nat.add_le_add_iff_right, true_and, and_true, forall_const, implies_true, List.contains_cons, List.contains_nil, List.all_cons, List.all_nil, bne_self_eq_false, Option.isSome_none, Option.isSome_some, Bool.or_false, Bool.false_or, Bool.true_or, Bool.or_true, ne_eq, not_false_eq_true, not_true_eq_false, beq_self_eq_true, cond_true, cond_false, Prod.mk.injEq, and_self, reduceCtorEq, BEq.rfl, Bool.and_true, Bool.true_and, Bool.and_false, Bool.false_and, gone]
theorem numberList_ok (t : Int) (n : Nat) (a : Nat → Int) (hn : n ≤ 1000) : FnD Tryz.prog 19 [.d (.int .i64 t), .d (nD n a)] [.agg [.int .i64 t, .int .i64 3, .int .i64 0, .str ⟨#[]⟩, .list 5 n fun i => (Nd.leaf 0 1 (a i) ⟨#[]⟩).D]] := by
  refine fnD_intro (H := { nt := Go.Func.ntmps Tryz.f19, fx := [16] }) Tryz.func19 rfl rfl rfl rfl (Nat.le_of_ble_eq_true rfl) (okC_tri (by kernel_rfl) _ _ _ _ (by kernel_rfl) ?_)
  simp only [go_sem, Nat.reduceEqDiff, ↓reduceIte, Bool.false_eq_true, Nat.reduceAdd, Nat.reduceSub, Nat.reduceBNe, Nat.reduceBEq, Nat.reduceLT, Nat.reduceLeDiff, Nat.reduceMul, Nat.zero_lt_succ, Nat.lt_add_one, Nat.zero_lt_one, Int.reduceToNat, false_implies, true_implies, or_self, or_false, false_or, or_true, true_or, Nat.add_le_add_iff_right, true_and, and_true, forall_const, implies_true, List.contains_cons, List.contains_nil, List.all_cons, List.all_nil, bne_self_eq_false, Option.isSome_none, Option.isSome_some, Bool.or_false, Bool.false_or, Bool.true_or, Bool.or_true, ne_eq, not_false_eq_true, not_true_eq_false, beq_self_eq_true, cond_true, cond_false, Prod.mk.injEq, and_self, reduceCtorEq, BEq.rfl, Bool.and_true, Bool.true_and, Bool.and_false, Bool.false_and, Tryz.f19, nD]
  refine fun _ => ⟨by omega, fun _ => ?_⟩
  refine ⟨{ i : Nat // i ≤ n }, fun i => ([(13, .d (.int .i64 i)), (12, .d (.int .i64 n)), (11, .d (.list 1 n fun i => .int .i64 (a i))), (5, .own 1 0 i), (4, .ptr 0 0), (0, .d (.int .i64 t))], [.box [.d (.int .i64 0), .d (.int .i64 0), .d (.int .i64 0), .d (.str ⟨#[]⟩), .d .nil], .arr 28 5 i (cutV ndZ i fun i => (Nd.leaf 0 1 (a i) ⟨#[]⟩).D)]), fun i => n - i, ⟨0, Nat.zero_le _⟩, ?_, ?_⟩
  · simp only [go_sem, Nat.reduceEqDiff, ↓reduceIte, Bool.false_eq_true, Nat.reduceAdd, Nat.reduceSub, Nat.reduceBNe, Nat.reduceBEq, Nat.reduceLT, Nat.reduceLeDiff, Nat.reduceMul, Nat.zero_lt_succ, Nat.lt_add_one, Nat.zero_lt_one, Int.reduceToNat, false_implies, true_implies, or_self, or_false, false_or, or_true, true_or, Nat.add_le_add_iff_right, true_and, and_true, forall_const, implies_true, List.contains_cons, List.contains_nil, List.all_cons, List.all_nil, bne_self_eq_false, Option.isSome_none, Option.isSome_some, Bool.or_false, Bool.false_or, Bool.true_or, Bool.or_true, ne_eq, not_false_eq_true, not_true_eq_false, beq_self_eq_true, cond_true, cond_false, Prod.mk.injEq, and_self, reduceCtorEq, BEq.rfl, Bool.and_true, Bool.true_and, Bool.and_false, Bool.false_and, cut0]
    rfl
  · rintro ⟨i, hi⟩
    simp only [go_sem, Nat.reduceEqDiff, ↓reduceIte, Bool.false_eq_true, Nat.reduceAdd, Nat.reduceSub, Nat.reduceBNe, Nat.reduceBEq, Nat.reduceLT, Nat.reduceLeDiff, Nat.reduceMul, Nat.zero_lt_succ, Nat.lt_add_one, Nat.zero_lt_one, Int.reduceToNat, false_implies, true_implies, or_self, or_false, false_or, or_true, true_or, Nat.add_le_add_iff_right, true_and, and_true, forall_const, implies_true, List.contains_cons, List.contains_nil, List.all_cons, List.all_nil, bne_self_eq_false, Option.isSome_none, Option.isSome_some, Bool.or_false, Bool.false_or, Bool.true_or, Bool.or_true, ne_eq, not_false_eq_true, not_true_eq_false, beq_self_eq_true, cond_true, cond_false, Prod.mk.injEq, and_self, reduceCtorEq, BEq.rfl, Bool.and_true, Bool.true_and, Bool.and_false, Bool.false_and, decide_eq_true_eq]
    refine ⟨fun hlt => ⟨by omega, ?_⟩, fun hge => ?_⟩
    · refine ⟨_, fun _ => codecInt_ok 0 (a i), ?_, ?_⟩
      focus (first | exact fun _ => rfl | exact fun h0 => absurd h0 (by decide))
      simp only [go_sem, Nat.reduceEqDiff, ↓reduceIte, Bool.false_eq_true, Nat.reduceAdd, Nat.reduceSub, Nat.reduceBNe, Nat.reduceBEq, Nat.reduceLT, Nat.reduceLeDiff, Nat.reduceMul, Nat.zero_lt_succ, Nat.lt_add_one, Nat.zero_lt_one, Int.reduceToNat, false_implies, true_implies, or_self, or_false, false_or, or_true, true_or, Nat.add_le_add_iff_right, true_and, and_true, forall_const, implies_true, List.contains_cons, List.contains_nil, List.all_cons, List.all_nil, bne_self_eq_false, Option.isSome_none, Option.isSome_some, Bool.or_false, Bool.false_or, Bool.true_or, Bool.or_true, ne_eq, not_false_eq_true, not_true_eq_false, beq_self_eq_true, cond_true, cond_false, Prod.mk.injEq, and_self, reduceCtorEq, BEq.rfl, Bool.and_true, Bool.true_and, Bool.and_false, Bool.false_and]
      refine ⟨⟨by omega, by omega⟩, ⟨by omega, by omega⟩, ⟨i + 1, by omega⟩, by simp only; omega, ⟨by simp, rfl⟩, ?_⟩
      exact congrArg (Blk.arr 28 5 (i + 1)) (join_cutV ndZ i fun i => (Nd.leaf 0 1 (a i) ⟨#[]⟩).D)
    · have e1 : i = n := by simp at hge; omega
      subst e1
      refine fnE_give rfl (list_cut t i (fun i => Nd.leaf 0 1 (a i) ⟨#[]⟩) (by omega) fun i hi => trivial) ?_
      simp only [go_sem, Nat.reduceEqDiff, ↓reduceIte, Bool.false_eq_true, Nat.reduceAdd, Nat.reduceSub, Nat.reduceBNe, Nat.reduceBEq, Nat.reduceLT, Nat.reduceLeDiff, Nat.reduceMul, Nat.zero_lt_succ, Nat.lt_add_one, Nat.zero_lt_one, Int.reduceToNat, false_implies, true_implies, or_self, or_false, false_or, or_true, true_or, Nat.add_le_add_iff_right, true_and, and_true, forall_const, implies_true, List.contains_cons, List.contains_nil, List.all_cons, List.all_nil, bne_self_eq_false, Option.isSome_none, Option.isSome_some, Bool.or_false, Bool.false_or, Bool.true_or, Bool.or_true, ne_eq, not_false_eq_true, not_true_eq_false, beq_self_eq_true, cond_true, cond_false, Prod.mk.injEq, and_self, reduceCtorEq, BEq.rfl, Bool.and_true, Bool.true_and, Bool.and_false, Bool.false_and, gone]
end Go.Proofs.YtnhpgmmhfgdmjaaGreat.P14

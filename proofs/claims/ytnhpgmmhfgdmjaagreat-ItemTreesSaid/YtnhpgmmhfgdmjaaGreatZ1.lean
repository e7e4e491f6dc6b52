/- Proved here: contracts of functions of this chapter: called with these values, each returns these values and changes nothing that was. Conditions: none but those that each theorem names. -/
import Derived.Test.YtnhpgmmhfgdmjaaGreatW14z
import Derived.Test.YtnhpgmmhfgdmjaaGreatW14u
import Derived.Test.YtnhpgmmhfgdmjaaGreatEvZb
set_option linter.unusedVariables false
set_option linter.unusedSimpArgs false
open Go Go.Proofs Go.Ev
namespace Go.Proofs.YtnhpgmmhfgdmjaaGreat.P14
set_option maxRecDepth 100000
theorem requal_mk (t1 k1 n1 : Int) (s1 : ByteArray) (m1 : Nat) (f1 : Nat → Nd) (t2 k2 n2 : Int) (s2 : ByteArray) (m2 : Nat) (f2 : Nat → Nd) (ih : ∀ i, i < m1 → FnD Tryz.prog 6 [.d (f1 i).D, .d (f2 i).D] [.bool (eqN (f1 i) (f2 i))]) :
    FnD Tryz.prog 6 [.d (Nd.mk t1 k1 n1 s1 m1 f1).D, .d (Nd.mk t2 k2 n2 s2 m2 f2).D] [.bool (eqN (.mk t1 k1 n1 s1 m1 f1) (.mk t2 k2 n2 s2 m2 f2))] := by
  simp only [Nd.D, eqN, Nd.tag, Nd.kind, Nd.n, Nd.s, Nd.m, Nd.kids]
  refine fnD_intro (H := { nt := Go.Func.ntmps Tryz.f6 }) Tryz.func6 rfl rfl rfl rfl (Nat.le_of_ble_eq_true rfl) (okC_tri (by kernel_rfl) _ _ _ _ (by kernel_rfl) ?_)
  simp only [go_sem, Nat.reduceEqDiff, ↓reduceIte, Bool.false_eq_true, Nat.reduceAdd, Nat.reduceSub, Nat.reduceBNe, Nat.reduceBEq, Nat.reduceLT, Nat.reduceLeDiff, Nat.reduceMul, Nat.zero_lt_succ, Nat.lt_add_one, Nat.zero_lt_one, Int.reduceToNat, false_implies, true_implies, or_self, or_false, false_or, or_true, true_or, Nat.add_le_add_iff_right, true_and, and_true, forall_const, implies_true, List.contains_cons, List.contains_nil, List.all_cons, List.all_nil, bne_self_eq_false, Option.isSome_none, Option.isSome_some, Bool.or_false, Bool.false_or, Bool.true_or, Bool.or_true, ne_eq, not_false_eq_true, not_true_eq_false, beq_self_eq_true, cond_true, cond_false, Prod.mk.injEq, and_self, reduceCtorEq, BEq.rfl, Bool.and_true, Bool.true_and, Bool.and_false, Bool.false_and, Tryz.f6, List.append_eq]
  refine ⟨fun h => ?_, fun h => ?_⟩
  · have e : eqH t1 k1 n1 s1 m1 t2 k2 n2 s2 m2 = true := h
    rw [e]
    rfl
  have e : eqH t1 k1 n1 s1 m1 t2 k2 n2 s2 m2 = false := h
  have em : m1 = m2 := by
    unfold eqH at e
    simp at e
    exact Int.ofNat.inj e.2
  subst em
  clear h
  rw [e]
  refine ⟨{ i : Nat // i ≤ m1 ∧ ∀ j, j < i → eqN (f1 j) (f2 j) = true }, fun i => ([(5, .d (.int .i64 i)), (3, .ptr 1 0), (2, .ptr 0 0)], [.box [.d (.int .i64 t1), .d (.int .i64 k1), .d (.int .i64 n1), .d (.str s1), .d (.list 5 m1 fun i => (f1 i).D)], .box [.d (.int .i64 t2), .d (.int .i64 k2), .d (.int .i64 n2), .d (.str s2), .d (.list 5 m1 fun i => (f2 i).D)]]), fun i => m1 - i, ⟨0, Nat.zero_le _, fun j h => absurd h (by omega)⟩, ?_, ?_⟩
  · simp only [go_sem, Nat.reduceEqDiff, ↓reduceIte, Bool.false_eq_true, Nat.reduceAdd, Nat.reduceSub, Nat.reduceBNe, Nat.reduceBEq, Nat.reduceLT, Nat.reduceLeDiff, Nat.reduceMul, Nat.zero_lt_succ, Nat.lt_add_one, Nat.zero_lt_one, Int.reduceToNat, false_implies, true_implies, or_self, or_false, false_or, or_true, true_or, Nat.add_le_add_iff_right, true_and, and_true, forall_const, implies_true, List.contains_cons, List.contains_nil, List.all_cons, List.all_nil, bne_self_eq_false, Option.isSome_none, Option.isSome_some, Bool.or_false, Bool.false_or, Bool.true_or, Bool.or_true, ne_eq, not_false_eq_true, not_true_eq_false, beq_self_eq_true, cond_true, cond_false, Prod.mk.injEq, and_self, reduceCtorEq, BEq.rfl, Bool.and_true, Bool.true_and, Bool.and_false, Bool.false_and]
    rfl
  · rintro ⟨i, hi, hok⟩
    simp only [go_sem, Nat.reduceEqDiff, ↓reduceIte, Bool.false_eq_true, Nat.reduceAdd, Nat.reduceSub, Nat.reduceBNe, Nat.reduceBEq, Nat.reduceLT, Nat.reduceLeDiff, Nat.reduceMul, Nat.zero_lt_succ, Nat.lt_add_one, Nat.zero_lt_one, Int.reduceToNat, false_implies, true_implies, or_self, or_false, false_or, or_true, true_or, Nat.add_le_add_iff_right, true_and, and_true, forall_const, implies_true, List.contains_cons, List.contains_nil, List.all_cons, List.all_nil, bne_self_eq_false, Option.isSome_none, Option.isSome_some, Bool.or_false, Bool.false_or, Bool.true_or, Bool.or_true, ne_eq, not_false_eq_true, not_true_eq_false, beq_self_eq_true, cond_true, cond_false, Prod.mk.injEq, and_self, reduceCtorEq, BEq.rfl, Bool.and_true, Bool.true_and, Bool.and_false, Bool.false_and, decide_eq_true_eq]
    intro hfit
    refine ⟨fun hlt => ⟨by omega, by omega, ?_⟩, fun hge => ?_⟩
    · refine ⟨_, fun _ => ih i (by omega), ?_, ?_⟩
      focus (first | exact fun _ => rfl | exact fun h0 => absurd h0 (by decide))
      simp only [go_sem, Nat.reduceEqDiff, ↓reduceIte, Bool.false_eq_true, Nat.reduceAdd, Nat.reduceSub, Nat.reduceBNe, Nat.reduceBEq, Nat.reduceLT, Nat.reduceLeDiff, Nat.reduceMul, Nat.zero_lt_succ, Nat.lt_add_one, Nat.zero_lt_one, Int.reduceToNat, false_implies, true_implies, or_self, or_false, false_or, or_true, true_or, Nat.add_le_add_iff_right, true_and, and_true, forall_const, implies_true, List.contains_cons, List.contains_nil, List.all_cons, List.all_nil, bne_self_eq_false, Option.isSome_none, Option.isSome_some, Bool.or_false, Bool.false_or, Bool.true_or, Bool.or_true, ne_eq, not_false_eq_true, not_true_eq_false, beq_self_eq_true, cond_true, cond_false, Prod.mk.injEq, and_self, reduceCtorEq, BEq.rfl, Bool.and_true, Bool.true_and, Bool.and_false, Bool.false_and]
      refine ⟨fun hb => ?_, fun hb => ?_⟩
      · have hp : eqN (f1 i) (f2 i) = false := by simpa using hb
        rw [allN_no (p := fun i => eqN (f1 i) (f2 i)) (show i < m1 by omega) hp]
        rfl
      · have hp : eqN (f1 i) (f2 i) = true := by simpa using hb
        unfold fits at hfit
        refine ⟨⟨by omega, by omega⟩, ⟨i + 1, by omega, fun j hj => ?_⟩, by simp only; omega, by simp⟩
        by_cases e1 : j = i
        · subst e1; exact hp
        · exact hok j (by omega)
    · have e1 : i = m1 := by simp at hge; omega
      subst e1
      rw [allN_yes (p := fun i => eqN (f1 i) (f2 i)) hok]
      rfl
theorem requal_ok : ∀ (x y : Nd), FnD Tryz.prog 6 [.d x.D, .d y.D] [.bool (eqN x y)]
  | .leaf t k n s, y => by
    rw [← eqN_up]
    obtain ⟨t2, k2, n2, s2, m2, f2, hy⟩ := up_mk y
    refine args2' (a := (Nd.leaf t k n s).up.D) (d := y.up.D) ?_ (fun S w v h => up_rep _ h) (fun S w v h => up_rep _ h)
    rw [hy]
    exact requal_mk _ _ _ _ _ _ _ _ _ _ _ _ fun i hi => absurd hi (by omega)
  | .mk t k n s m f, y => by
    rw [← eqN_up]
    obtain ⟨t2, k2, n2, s2, m2, f2, hy⟩ := up_mk y
    refine args2' (a := (Nd.mk t k n s m f).up.D) (d := y.up.D) ?_ (fun S w v h => up_rep _ h) (fun S w v h => up_rep _ h)
    rw [hy]
    exact requal_mk _ _ _ _ _ _ _ _ _ _ _ _ fun i hi => requal_ok (f i) (f2 i)
end Go.Proofs.YtnhpgmmhfgdmjaaGreat.P14
/- Proved here: contracts of functions of this chapter: called with these values, each returns these values and changes nothing that was. Conditions: none but those that each theorem names. -/
set_option linter.unusedVariables false
set_option linter.unusedSimpArgs false
open Go Go.Proofs Go.Ev
namespace Go.Proofs.YtnhpgmmhfgdmjaaGreat.P14
set_option maxRecDepth 100000
theorem formed_mk (t k n : Int) (s : ByteArray) (m : Nat) (f : Nat → DV) (tag kind : Int) : FnD Tryz.prog 30 [.d (.agg [.int .i64 t, .int .i64 k, .int .i64 n, .str s, .list 5 m f]), .d (.int .i64 tag), .d (.int .i64 kind)] [.bool (hasB t k n s m tag kind)] := by
  refine fnD_intro (H := { nt := Go.Func.ntmps Tryz.f30 }) Tryz.func30 rfl rfl rfl rfl (Nat.le_of_ble_eq_true rfl) (okC_tri (by kernel_rfl) _ _ _ _ (by kernel_rfl) ?_)
  simp only [go_sem, Nat.reduceEqDiff, ↓reduceIte, Bool.false_eq_true, Nat.reduceAdd, Nat.reduceSub, Nat.reduceBNe, Nat.reduceBEq, Nat.reduceLT, Nat.reduceLeDiff, Nat.reduceMul, Nat.zero_lt_succ, Nat.lt_add_one, Nat.zero_lt_one, Int.reduceToNat, false_implies, true_implies, or_self, or_false, false_or, or_true, true_or, Nat.add_le_add_iff_right, true_and, and_true, forall_const, implies_true, List.contains_cons, List.contains_nil, List.all_cons, List.all_nil, bne_self_eq_false, Option.isSome_none, Option.isSome_some, Bool.or_false, Bool.false_or, Bool.true_or, Bool.or_true, ne_eq, not_false_eq_true, not_true_eq_false, beq_self_eq_true, cond_true, cond_false, Prod.mk.injEq, and_self, reduceCtorEq, BEq.rfl, Bool.and_true, Bool.true_and, Bool.and_false, Bool.false_and, Tryz.f30]
  refine ⟨fun h => by simp only [hasB, h, cond_true], fun h => by simp only [hasB, h, cond_false]⟩
theorem formed_ok (x : Nd) (tag kind : Int) : FnD Tryz.prog 30 [.d x.D, .d (.int .i64 tag), .d (.int .i64 kind)] [.bool (hasR x tag kind)] := by
  cases x with
  | leaf t k n s => exact args3 (formed_mk t k n s 0 (fun _ => .nil) tag kind) fun S w v h => rep_nil5 h
  | mk t k n s m f => exact formed_mk t k n s m (fun i => (f i).D) tag kind
def lsB (x : Nd) (tag kind : Int) : Bool := hasR x tag 3 && allN (fun i => hasR (x.kids i) 0 kind) x.m
theorem listed_mk (t k n : Int) (s : ByteArray) (m : Nat) (f : Nat → Nd) (tag kind : Int) : FnD Tryz.prog 31 [.d (Nd.mk t k n s m f).D, .d (.int .i64 tag), .d (.int .i64 kind)] [.bool (lsB (.mk t k n s m f) tag kind)] := by
  simp only [Nd.D, lsB, Nd.kids, Nd.m]
  refine fnD_intro (H := { nt := Go.Func.ntmps Tryz.f31 }) Tryz.func31 rfl rfl rfl rfl (Nat.le_of_ble_eq_true rfl) (okC_tri (by kernel_rfl) _ _ _ _ (by kernel_rfl) ?_)
  simp only [go_sem, Nat.reduceEqDiff, ↓reduceIte, Bool.false_eq_true, Nat.reduceAdd, Nat.reduceSub, Nat.reduceBNe, Nat.reduceBEq, Nat.reduceLT, Nat.reduceLeDiff, Nat.reduceMul, Nat.zero_lt_succ, Nat.lt_add_one, Nat.zero_lt_one, Int.reduceToNat, false_implies, true_implies, or_self, or_false, false_or, or_true, true_or, Nat.add_le_add_iff_right, true_and, and_true, forall_const, implies_true, List.contains_cons, List.contains_nil, List.all_cons, List.all_nil, bne_self_eq_false, Option.isSome_none, Option.isSome_some, Bool.or_false, Bool.false_or, Bool.true_or, Bool.or_true, ne_eq, not_false_eq_true, not_true_eq_false, beq_self_eq_true, cond_true, cond_false, Prod.mk.injEq, and_self, reduceCtorEq, BEq.rfl, Bool.and_true, Bool.true_and, Bool.and_false, Bool.false_and, Tryz.f31]
  refine ⟨_, fun _ => formed_mk t k n s m (fun i => (f i).D) tag 3, ?_, ?_⟩
  focus (first | exact fun _ => rfl | exact fun h0 => absurd h0 (by decide))
  simp only [go_sem, Nat.reduceEqDiff, ↓reduceIte, Bool.false_eq_true, Nat.reduceAdd, Nat.reduceSub, Nat.reduceBNe, Nat.reduceBEq, Nat.reduceLT, Nat.reduceLeDiff, Nat.reduceMul, Nat.zero_lt_succ, Nat.lt_add_one, Nat.zero_lt_one, Int.reduceToNat, false_implies, true_implies, or_self, or_false, false_or, or_true, true_or, Nat.add_le_add_iff_right, true_and, and_true, forall_const, implies_true, List.contains_cons, List.contains_nil, List.all_cons, List.all_nil, bne_self_eq_false, Option.isSome_none, Option.isSome_some, Bool.or_false, Bool.false_or, Bool.true_or, Bool.or_true, ne_eq, not_false_eq_true, not_true_eq_false, beq_self_eq_true, cond_true, cond_false, Prod.mk.injEq, and_self, reduceCtorEq, BEq.rfl, Bool.and_true, Bool.true_and, Bool.and_false, Bool.false_and]
  refine ⟨fun h => ?_, fun h hfit => ?_⟩
  · have e : hasR (.mk t k n s m f) tag 3 = false := by
      have h : hasB t k n s m tag 3 = false := by simpa using h
      exact h
    rw [e]
    rfl
  have e : hasR (.mk t k n s m f) tag 3 = true := by
    have h : hasB t k n s m tag 3 = true := by simpa using h
    exact h
  rw [e]
  unfold fits at hfit
  refine ⟨{ i : Nat // i ≤ m ∧ ∀ j, j < i → hasR (f j) 0 kind = true }, fun i => ([(16, .d (.int .i64 i)), (15, .d (.int .i64 m)), (14, .d (.list 5 m fun i => (f i).D)), (2, .d (.int .i64 kind))], []), fun i => m - i, ⟨0, Nat.zero_le _, fun j h => absurd h (by omega)⟩, ?_, ?_⟩
  · simp only [go_sem, Nat.reduceEqDiff, ↓reduceIte, Bool.false_eq_true, Nat.reduceAdd, Nat.reduceSub, Nat.reduceBNe, Nat.reduceBEq, Nat.reduceLT, Nat.reduceLeDiff, Nat.reduceMul, Nat.zero_lt_succ, Nat.lt_add_one, Nat.zero_lt_one, Int.reduceToNat, false_implies, true_implies, or_self, or_false, false_or, or_true, true_or, Nat.add_le_add_iff_right, true_and, and_true, forall_const, implies_true, List.contains_cons, List.contains_nil, List.all_cons, List.all_nil, bne_self_eq_false, Option.isSome_none, Option.isSome_some, Bool.or_false, Bool.false_or, Bool.true_or, Bool.or_true, ne_eq, not_false_eq_true, not_true_eq_false, beq_self_eq_true, cond_true, cond_false, Prod.mk.injEq, and_self, reduceCtorEq, BEq.rfl, Bool.and_true, Bool.true_and, Bool.and_false, Bool.false_and]
    rfl
  · rintro ⟨i, hi, hok⟩
    simp only [go_sem, Nat.reduceEqDiff, ↓reduceIte, Bool.false_eq_true, Nat.reduceAdd, Nat.reduceSub, Nat.reduceBNe, Nat.reduceBEq, Nat.reduceLT, Nat.reduceLeDiff, Nat.reduceMul, Nat.zero_lt_succ, Nat.lt_add_one, Nat.zero_lt_one, Int.reduceToNat, false_implies, true_implies, or_self, or_false, false_or, or_true, true_or, Nat.add_le_add_iff_right, true_and, and_true, forall_const, implies_true, List.contains_cons, List.contains_nil, List.all_cons, List.all_nil, bne_self_eq_false, Option.isSome_none, Option.isSome_some, Bool.or_false, Bool.false_or, Bool.true_or, Bool.or_true, ne_eq, not_false_eq_true, not_true_eq_false, beq_self_eq_true, cond_true, cond_false, Prod.mk.injEq, and_self, reduceCtorEq, BEq.rfl, Bool.and_true, Bool.true_and, Bool.and_false, Bool.false_and, decide_eq_true_eq]
    refine ⟨fun hlt => ⟨by omega, ?_⟩, fun hge => ?_⟩
    · refine ⟨_, fun _ => formed_ok (f i) 0 kind, ?_, ?_⟩
      focus (first | exact fun _ => rfl | exact fun h0 => absurd h0 (by decide))
      simp only [go_sem, Nat.reduceEqDiff, ↓reduceIte, Bool.false_eq_true, Nat.reduceAdd, Nat.reduceSub, Nat.reduceBNe, Nat.reduceBEq, Nat.reduceLT, Nat.reduceLeDiff, Nat.reduceMul, Nat.zero_lt_succ, Nat.lt_add_one, Nat.zero_lt_one, Int.reduceToNat, false_implies, true_implies, or_self, or_false, false_or, or_true, true_or, Nat.add_le_add_iff_right, true_and, and_true, forall_const, implies_true, List.contains_cons, List.contains_nil, List.all_cons, List.all_nil, bne_self_eq_false, Option.isSome_none, Option.isSome_some, Bool.or_false, Bool.false_or, Bool.true_or, Bool.or_true, ne_eq, not_false_eq_true, not_true_eq_false, beq_self_eq_true, cond_true, cond_false, Prod.mk.injEq, and_self, reduceCtorEq, BEq.rfl, Bool.and_true, Bool.true_and, Bool.and_false, Bool.false_and]
      refine ⟨fun hb => ?_, fun hb => ?_⟩
      · have hp : hasR (f i) 0 kind = false := by simpa using hb
        rw [allN_no (p := fun i => hasR (f i) 0 kind) (show i < m by omega) hp]
      · have hp : hasR (f i) 0 kind = true := by simpa using hb
        refine ⟨⟨by omega, by omega⟩, ⟨i + 1, by omega, fun j hj => ?_⟩, by simp only; omega, by simp⟩
        by_cases e1 : j = i
        · subst e1; exact hp
        · exact hok j (by omega)
    · have e1 : i = m := by simp at hge; omega
      subst e1
      rw [allN_yes (p := fun i => hasR (f i) 0 kind) hok]
theorem listed_ok (x : Nd) (tag kind : Int) : FnD Tryz.prog 31 [.d x.D, .d (.int .i64 tag), .d (.int .i64 kind)] [.bool (lsB x tag kind)] := by
  cases x with
  | leaf t k n s => exact args3 (listed_mk t k n s 0 (fun _ => default) tag kind) fun S w v h => up_rep (.leaf t k n s) h
  | mk t k n s m f => exact listed_mk t k n s m f tag kind
/-- The results as they are read. -/
theorem res1 {P : Program} {K : FuncId} {args : List PV} {r r' : DV} (h : FnD P K args [r]) (hw : ∀ S w v, r.rep S w v → r'.rep S w v) : FnD P K args [r'] :=
  h.weak fun S α w v hv => by
    simp only [List.map_cons, List.map_nil, resP, PV.rep] at hv ⊢
    exact hw _ _ _ hv
theorem lines_mk (t k n : Int) (s : ByteArray) (m : Nat) (f : Nat → Nd) (hm : m ≤ 2199023255488) : FnD Tryz.prog 32 [.d (Nd.mk t k n s m f).D] [.list 1 m fun i => .str (f i).s] := by
  refine res1 (r := .list 1 m (cutV (.str ⟨#[]⟩) m fun i => .str (f i).s)) ?_ fun S w v h => rep_list_congr (fun i hi => by simp [cutV, hi]) h
  simp only [Nd.D]
  refine fnD_intro (H := { nt := Go.Func.ntmps Tryz.f32, ad := [(1, [.tmp 3 9 1 (.str ⟨#[]⟩)])] }) Tryz.func32 rfl rfl rfl rfl (Nat.le_of_ble_eq_true rfl) (okC_tri (by kernel_rfl) _ _ _ _ (by kernel_rfl) ?_)
  simp only [go_sem, Nat.reduceEqDiff, ↓reduceIte, Bool.false_eq_true, Nat.reduceAdd, Nat.reduceSub, Nat.reduceBNe, Nat.reduceBEq, Nat.reduceLT, Nat.reduceLeDiff, Nat.reduceMul, Nat.zero_lt_succ, Nat.lt_add_one, Nat.zero_lt_one, Int.reduceToNat, false_implies, true_implies, or_self, or_false, false_or, or_true, true_or, Nat.add_le_add_iff_right, true_and, and_true, forall_const, implies_true, List.contains_cons, List.contains_nil, List.all_cons, List.all_nil, bne_self_eq_false, Option.isSome_none, Option.isSome_some, Bool.or_false, Bool.false_or, Bool.true_or, Bool.or_true, ne_eq, not_false_eq_true, not_true_eq_false, beq_self_eq_true, cond_true, cond_false, Prod.mk.injEq, and_self, reduceCtorEq, BEq.rfl, Bool.and_true, Bool.true_and, Bool.and_false, Bool.false_and, Tryz.f32]
  refine fun _ => ⟨{ i : Nat // i ≤ m }, fun i => ([(9, .d (.int .i64 i.1)), (8, .d (.int .i64 m)), (7, .d (.list 5 m fun i => (f i).D)), (3, .own 1 0 i.1)], [.box [.d (.int .i64 t), .d (.int .i64 k), .d (.int .i64 n), .d (.str s), .d (.list 5 m fun i => (f i).D)], .arr 9 1 i.1 (cutV (.str ⟨#[]⟩) i.1 fun i => .str (f i).s)]), fun i => m - i.1, ⟨0, Nat.zero_le _⟩, ?_, ?_⟩
  · simp only [go_sem, Nat.reduceEqDiff, ↓reduceIte, Bool.false_eq_true, Nat.reduceAdd, Nat.reduceSub, Nat.reduceBNe, Nat.reduceBEq, Nat.reduceLT, Nat.reduceLeDiff, Nat.reduceMul, Nat.zero_lt_succ, Nat.lt_add_one, Nat.zero_lt_one, Int.reduceToNat, false_implies, true_implies, or_self, or_false, false_or, or_true, true_or, Nat.add_le_add_iff_right, true_and, and_true, forall_const, implies_true, List.contains_cons, List.contains_nil, List.all_cons, List.all_nil, bne_self_eq_false, Option.isSome_none, Option.isSome_some, Bool.or_false, Bool.false_or, Bool.true_or, Bool.or_true, ne_eq, not_false_eq_true, not_true_eq_false, beq_self_eq_true, cond_true, cond_false, Prod.mk.injEq, and_self, reduceCtorEq, BEq.rfl, Bool.and_true, Bool.true_and, Bool.and_false, Bool.false_and, cut0]
    rfl
  · rintro ⟨i, hi⟩
    simp only [go_sem, Nat.reduceEqDiff, ↓reduceIte, Bool.false_eq_true, Nat.reduceAdd, Nat.reduceSub, Nat.reduceBNe, Nat.reduceBEq, Nat.reduceLT, Nat.reduceLeDiff, Nat.reduceMul, Nat.zero_lt_succ, Nat.lt_add_one, Nat.zero_lt_one, Int.reduceToNat, false_implies, true_implies, or_self, or_false, false_or, or_true, true_or, Nat.add_le_add_iff_right, true_and, and_true, forall_const, implies_true, List.contains_cons, List.contains_nil, List.all_cons, List.all_nil, bne_self_eq_false, Option.isSome_none, Option.isSome_some, Bool.or_false, Bool.false_or, Bool.true_or, Bool.or_true, ne_eq, not_false_eq_true, not_true_eq_false, beq_self_eq_true, cond_true, cond_false, Prod.mk.injEq, and_self, reduceCtorEq, BEq.rfl, Bool.and_true, Bool.true_and, Bool.and_false, Bool.false_and, decide_eq_true_eq]
    refine ⟨fun hlt => ⟨by omega, ⟨by omega, by omega⟩, ⟨by omega, by omega⟩, ⟨i + 1, by omega⟩, by simp only; omega, ⟨by simp, rfl⟩, ?_⟩, fun hge => ?_⟩
    · exact congrArg (Blk.arr 9 1 (i + 1)) (join_cutV (.str ⟨#[]⟩) i fun i => .str (f i).s)
    · have e1 : i = m := by simp at hge; omega
      subst e1
      rfl
theorem lines_ok (x : Nd) (hm : x.m ≤ 2199023255488) : FnD Tryz.prog 32 [.d x.D] [.list 1 x.m fun i => .str (x.kids i).s] := by
  cases x with
  | leaf t k n s => exact args1 (lines_mk t k n s 0 (fun _ => default) (by omega)) fun S w v h => up_rep (.leaf t k n s) h
  | mk t k n s m f => exact lines_mk t k n s m f hm
theorem ints_mk (t k n : Int) (s : ByteArray) (m : Nat) (f : Nat → Nd) (hm : m ≤ 2199023255488) : FnD Tryz.prog 33 [.d (Nd.mk t k n s m f).D] [.list 1 m fun i => .int .i64 (f i).n] := by
  refine res1 (r := .list 1 m (cutV (.int .i64 0) m fun i => .int .i64 (f i).n)) ?_ fun S w v h => rep_list_congr (fun i hi => by simp [cutV, hi]) h
  simp only [Nd.D]
  refine fnD_intro (H := { nt := Go.Func.ntmps Tryz.f33, ad := [(1, [.tmp 3 3 1 (.int .i64 0)])] }) Tryz.func33 rfl rfl rfl rfl (Nat.le_of_ble_eq_true rfl) (okC_tri (by kernel_rfl) _ _ _ _ (by kernel_rfl) ?_)
  simp only [go_sem, Nat.reduceEqDiff, ↓reduceIte, Bool.false_eq_true, Nat.reduceAdd, Nat.reduceSub, Nat.reduceBNe, Nat.reduceBEq, Nat.reduceLT, Nat.reduceLeDiff, Nat.reduceMul, Nat.zero_lt_succ, Nat.lt_add_one, Nat.zero_lt_one, Int.reduceToNat, false_implies, true_implies, or_self, or_false, false_or, or_true, true_or, Nat.add_le_add_iff_right, true_and, and_true, forall_const, implies_true, List.contains_cons, List.contains_nil, List.all_cons, List.all_nil, bne_self_eq_false, Option.isSome_none, Option.isSome_some, Bool.or_false, Bool.false_or, Bool.true_or, Bool.or_true, ne_eq, not_false_eq_true, not_true_eq_false, beq_self_eq_true, cond_true, cond_false, Prod.mk.injEq, and_self, reduceCtorEq, BEq.rfl, Bool.and_true, Bool.true_and, Bool.and_false, Bool.false_and, Tryz.f33]
  refine fun _ => ⟨{ i : Nat // i ≤ m }, fun i => ([(9, .d (.int .i64 i.1)), (8, .d (.int .i64 m)), (7, .d (.list 5 m fun i => (f i).D)), (3, .own 1 0 i.1)], [.box [.d (.int .i64 t), .d (.int .i64 k), .d (.int .i64 n), .d (.str s), .d (.list 5 m fun i => (f i).D)], .arr 3 1 i.1 (cutV (.int .i64 0) i.1 fun i => .int .i64 (f i).n)]), fun i => m - i.1, ⟨0, Nat.zero_le _⟩, ?_, ?_⟩
  · simp only [go_sem, Nat.reduceEqDiff, ↓reduceIte, Bool.false_eq_true, Nat.reduceAdd, Nat.reduceSub, Nat.reduceBNe, Nat.reduceBEq, Nat.reduceLT, Nat.reduceLeDiff, Nat.reduceMul, Nat.zero_lt_succ, Nat.lt_add_one, Nat.zero_lt_one, Int.reduceToNat, false_implies, true_implies, or_self, or_false, false_or, or_true, true_or, Nat.add_le_add_iff_right, true_and, and_true, forall_const, implies_true, List.contains_cons, List.contains_nil, List.all_cons, List.all_nil, bne_self_eq_false, Option.isSome_none, Option.isSome_some, Bool.or_false, Bool.false_or, Bool.true_or, Bool.or_true, ne_eq, not_false_eq_true, not_true_eq_false, beq_self_eq_true, cond_true, cond_false, Prod.mk.injEq, and_self, reduceCtorEq, BEq.rfl, Bool.and_true, Bool.true_and, Bool.and_false, Bool.false_and, cut0]
    rfl
  · rintro ⟨i, hi⟩
    simp only [go_sem, Nat.reduceEqDiff, ↓reduceIte, Bool.false_eq_true, Nat.reduceAdd, Nat.reduceSub, Nat.reduceBNe, Nat.reduceBEq, Nat.reduceLT, Nat.reduceLeDiff, Nat.reduceMul, Nat.zero_lt_succ, Nat.lt_add_one, Nat.zero_lt_one, Int.reduceToNat, false_implies, true_implies, or_self, or_false, false_or, or_true, true_or, Nat.add_le_add_iff_right, true_and, and_true, forall_const, implies_true, List.contains_cons, List.contains_nil, List.all_cons, List.all_nil, bne_self_eq_false, Option.isSome_none, Option.isSome_some, Bool.or_false, Bool.false_or, Bool.true_or, Bool.or_true, ne_eq, not_false_eq_true, not_true_eq_false, beq_self_eq_true, cond_true, cond_false, Prod.mk.injEq, and_self, reduceCtorEq, BEq.rfl, Bool.and_true, Bool.true_and, Bool.and_false, Bool.false_and, decide_eq_true_eq]
    refine ⟨fun hlt => ⟨by omega, ⟨by omega, by omega⟩, ⟨by omega, by omega⟩, ⟨i + 1, by omega⟩, by simp only; omega, ⟨by simp, rfl⟩, ?_⟩, fun hge => ?_⟩
    · exact congrArg (Blk.arr 3 1 (i + 1)) (join_cutV (.int .i64 0) i fun i => .int .i64 (f i).n)
    · have e1 : i = m := by simp at hge; omega
      subst e1
      rfl
theorem ints_ok (x : Nd) (hm : x.m ≤ 2199023255488) : FnD Tryz.prog 33 [.d x.D] [.list 1 x.m fun i => .int .i64 (x.kids i).n] := by
  cases x with
  | leaf t k n s => exact args1 (ints_mk t k n s 0 (fun _ => default) (by omega)) fun S w v h => up_rep (.leaf t k n s) h
  | mk t k n s m f => exact ints_mk t k n s m f hm
end Go.Proofs.YtnhpgmmhfgdmjaaGreat.P14

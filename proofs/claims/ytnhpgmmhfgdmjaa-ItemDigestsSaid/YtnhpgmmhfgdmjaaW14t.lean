/- Proved here: contracts of functions of this chapter: called with these values, each returns these values and changes nothing that was. Conditions: none but those that each theorem names. -/
import Derived.Test.YtnhpgmmhfgdmjaaW14s
set_option linter.unusedVariables false
set_option linter.unusedSimpArgs false
open Go Go.Proofs Go.Ev
namespace Go.Proofs.Ytnhpgmmhfgdmjaa.P14
set_option maxRecDepth 100000
/-- The heads of two nodes differ. -/
def eqH (t1 k1 n1 : Int) (s1 : ByteArray) (m1 : Nat) (t2 k2 n2 : Int) (s2 : ByteArray) (m2 : Nat) : Bool := bif (bif (bif (bif t1 != t2 then true else k1 != k2) then true else n1 != n2) then true else !(s1.toList == s2.toList)) then true else (m1 : Int) != m2
def eqN : Nd → Nd → Bool
  | .leaf t k n s, y => !(eqH t k n s 0 y.tag y.kind y.n y.s y.m)
  | .mk t k n s m f, y => !(eqH t k n s m y.tag y.kind y.n y.s y.m) && allN (fun i => eqN (f i) (y.kids i)) m
theorem equal_mk (t1 k1 n1 : Int) (s1 : ByteArray) (m1 : Nat) (f1 : Nat → Nd) (t2 k2 n2 : Int) (s2 : ByteArray) (m2 : Nat) (f2 : Nat → Nd) (ih : ∀ i, i < m1 → FnD Try.prog 21 [.d (f1 i).D, .d (f2 i).D] [.bool (eqN (f1 i) (f2 i))]) :
    FnD Try.prog 21 [.d (Nd.mk t1 k1 n1 s1 m1 f1).D, .d (Nd.mk t2 k2 n2 s2 m2 f2).D] [.bool (eqN (.mk t1 k1 n1 s1 m1 f1) (.mk t2 k2 n2 s2 m2 f2))] := by
  simp only [Nd.D, eqN, Nd.tag, Nd.kind, Nd.n, Nd.s, Nd.m, Nd.kids]
  refine fnD_intro (H := { nt := Go.Func.ntmps Try.f21 }) Try.func21 rfl rfl rfl rfl (Nat.le_of_ble_eq_true rfl) (okC_tri (by kernel_rfl) _ _ _ _ (by kernel_rfl) ?_)
  simp only [go_sem, Nat.reduceEqDiff, ↓reduceIte, Bool.false_eq_true, Nat.reduceAdd, Nat.reduceSub, Nat.reduceBNe, Nat.reduceBEq, Nat.reduceLT, Nat.reduceLeDiff, Nat.reduceMul, Nat.zero_lt_succ, Nat.lt_add_one, Nat.zero_lt_one, Int.reduceToNat, false_implies, true_implies, or_self, or_false, false_or, or_true, true_or, Nat.add_le_add_iff_right, true_and, and_true, forall_const, implies_true, List.contains_cons, List.contains_nil, List.all_cons, List.all_nil, bne_self_eq_false, Option.isSome_none, Option.isSome_some, Bool.or_false, Bool.false_or, Bool.true_or, Bool.or_true, ne_eq, not_false_eq_true, not_true_eq_false, beq_self_eq_true, cond_true, cond_false, Prod.mk.injEq, and_self, reduceCtorEq, BEq.rfl, Bool.and_true, Bool.true_and, Bool.and_false, Bool.false_and, Try.f21, List.append_eq]
  refine ⟨fun h => ?_, fun h hfit => ?_⟩
  · have e : eqH t1 k1 n1 s1 m1 t2 k2 n2 s2 m2 = true := h
    rw [e]
    rfl
  have e : eqH t1 k1 n1 s1 m1 t2 k2 n2 s2 m2 = false := h
  have em : m1 = m2 := by
    unfold eqH at e
    simp at e
    exact Int.ofNat.inj e.2
  subst em
  clear h
  rw [e]
  refine ⟨{ i : Nat // i ≤ m1 ∧ ∀ j, j < i → eqN (f1 j) (f2 j) = true }, fun i => ([(44, .d (.int .i64 i)), (43, .d (.int .i64 m1)), (4, .d (.bool false)), (3, .ptr 1 0), (2, .ptr 0 0)], [.box [.d (.int .i64 t1), .d (.int .i64 k1), .d (.int .i64 n1), .d (.str s1), .d (.list 5 m1 fun i => (f1 i).D)], .box [.d (.int .i64 t2), .d (.int .i64 k2), .d (.int .i64 n2), .d (.str s2), .d (.list 5 m1 fun i => (f2 i).D)]]), fun i => m1 - i, ⟨0, Nat.zero_le _, fun j h => absurd h (by omega)⟩, ?_, ?_⟩
  · simp only [go_sem, Nat.reduceEqDiff, ↓reduceIte, Bool.false_eq_true, Nat.reduceAdd, Nat.reduceSub, Nat.reduceBNe, Nat.reduceBEq, Nat.reduceLT, Nat.reduceLeDiff, Nat.reduceMul, Nat.zero_lt_succ, Nat.lt_add_one, Nat.zero_lt_one, Int.reduceToNat, false_implies, true_implies, or_self, or_false, false_or, or_true, true_or, Nat.add_le_add_iff_right, true_and, and_true, forall_const, implies_true, List.contains_cons, List.contains_nil, List.all_cons, List.all_nil, bne_self_eq_false, Option.isSome_none, Option.isSome_some, Bool.or_false, Bool.false_or, Bool.true_or, Bool.or_true, ne_eq, not_false_eq_true, not_true_eq_false, beq_self_eq_true, cond_true, cond_false, Prod.mk.injEq, and_self, reduceCtorEq, BEq.rfl, Bool.and_true, Bool.true_and, Bool.and_false, Bool.false_and]
    rfl
  · rintro ⟨i, hi, hok⟩
    simp only [go_sem, Nat.reduceEqDiff, ↓reduceIte, Bool.false_eq_true, Nat.reduceAdd, Nat.reduceSub, Nat.reduceBNe, Nat.reduceBEq, Nat.reduceLT, Nat.reduceLeDiff, Nat.reduceMul, Nat.zero_lt_succ, Nat.lt_add_one, Nat.zero_lt_one, Int.reduceToNat, false_implies, true_implies, or_self, or_false, false_or, or_true, true_or, Nat.add_le_add_iff_right, true_and, and_true, forall_const, implies_true, List.contains_cons, List.contains_nil, List.all_cons, List.all_nil, bne_self_eq_false, Option.isSome_none, Option.isSome_some, Bool.or_false, Bool.false_or, Bool.true_or, Bool.or_true, ne_eq, not_false_eq_true, not_true_eq_false, beq_self_eq_true, cond_true, cond_false, Prod.mk.injEq, and_self, reduceCtorEq, BEq.rfl, Bool.and_true, Bool.true_and, Bool.and_false, Bool.false_and, decide_eq_true_eq]
    refine ⟨fun hlt => ⟨by omega, by omega, ?_⟩, fun hge => ?_⟩
    · refine ⟨_, fun _ => ih i (by omega), ?_, ?_⟩
      focus (first | exact fun _ => rfl | exact fun h0 => absurd h0 (by decide))
      simp only [go_sem, Nat.reduceEqDiff, ↓reduceIte, Bool.false_eq_true, Nat.reduceAdd, Nat.reduceSub, Nat.reduceBNe, Nat.reduceBEq, Nat.reduceLT, Nat.reduceLeDiff, Nat.reduceMul, Nat.zero_lt_succ, Nat.lt_add_one, Nat.zero_lt_one, Int.reduceToNat, false_implies, true_implies, or_self, or_false, false_or, or_true, true_or, Nat.add_le_add_iff_right, true_and, and_true, forall_const, implies_true, List.contains_cons, List.contains_nil, List.all_cons, List.all_nil, bne_self_eq_false, Option.isSome_none, Option.isSome_some, Bool.or_false, Bool.false_or, Bool.true_or, Bool.or_true, ne_eq, not_false_eq_true, not_true_eq_false, beq_self_eq_true, cond_true, cond_false, Prod.mk.injEq, and_self, reduceCtorEq, BEq.rfl, Bool.and_true, Bool.true_and, Bool.and_false, Bool.false_and]
      refine ⟨fun hb => ?_, fun hb => ?_⟩
      · have hp : eqN (f1 i) (f2 i) = false := by simpa using hb
        rw [allN_no (p := fun i => eqN (f1 i) (f2 i)) (show i < m1 by omega) hp]
        rfl
      · have hp : eqN (f1 i) (f2 i) = true := by simpa using hb
        unfold fits at hfit
        refine ⟨⟨by omega, by omega⟩, ⟨i + 1, by omega, fun j hj => ?_⟩, by simp only; omega, by simp⟩
        by_cases e1 : j = i
        · subst e1; exact hp
        · exact hok j (by omega)
    · have e1 : i = m1 := by simp at hge; omega
      subst e1
      rw [allN_yes (p := fun i => eqN (f1 i) (f2 i)) hok]
      rfl
theorem eqN_up (x y : Nd) : eqN x.up y.up = eqN x y := by
  cases x <;> cases y <;> simp only [Nd.up, eqN, Nd.tag, Nd.kind, Nd.n, Nd.s, Nd.m, Nd.kids] <;> simp [allN]
theorem args2' {P : Program} {K : FuncId} {a d a' d' : DV} {rs : List DV} (h : FnD P K [.d a, .d d] rs) (ha : ∀ S w v, a'.rep S w v → a.rep S w v) (hd : ∀ S w v, d'.rep S w v → d.rep S w v) : FnD P K [.d a', .d d'] rs :=
  h.args fun S α w vs hv => by
    simp only [prepL, PV.rep] at hv ⊢
    obtain ⟨u, us, rfl, h1, u2, _, rfl, h2, rfl⟩ := hv
    exact ⟨u, _, rfl, ha _ _ _ h1, u2, _, rfl, hd _ _ _ h2, rfl⟩
theorem up_mk (y : Nd) : ∃ t k n s m f, y.up = .mk t k n s m f := by cases y <;> exact ⟨_, _, _, _, _, _, rfl⟩
theorem equal_ok : ∀ (x y : Nd), FnD Try.prog 21 [.d x.D, .d y.D] [.bool (eqN x y)]
  | .leaf t k n s, y => by
    rw [← eqN_up]
    obtain ⟨t2, k2, n2, s2, m2, f2, hy⟩ := up_mk y
    refine args2' (a := (Nd.leaf t k n s).up.D) (d := y.up.D) ?_ (fun S w v h => up_rep _ h) (fun S w v h => up_rep _ h)
    rw [hy]
    exact equal_mk _ _ _ _ _ _ _ _ _ _ _ _ fun i hi => absurd hi (by omega)
  | .mk t k n s m f, y => by
    rw [← eqN_up]
    obtain ⟨t2, k2, n2, s2, m2, f2, hy⟩ := up_mk y
    refine args2' (a := (Nd.mk t k n s m f).up.D) (d := y.up.D) ?_ (fun S w v h => up_rep _ h) (fun S w v h => up_rep _ h)
    rw [hy]
    exact equal_mk _ _ _ _ _ _ _ _ _ _ _ _ fun i hi => equal_ok (f i) (f2 i)
end Go.Proofs.Ytnhpgmmhfgdmjaa.P14

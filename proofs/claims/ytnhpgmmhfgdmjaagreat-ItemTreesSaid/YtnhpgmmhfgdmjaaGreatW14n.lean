/- Proved here: contracts of functions of this chapter: called with these values, each returns these values and changes nothing that was. Conditions: none but those that each theorem names. -/
import Derived.Test.YtnhpgmmhfgdmjaaGreatW14m
import Derived.Test.YtnhpgmmhfgdmjaaGreatEvZ
set_option linter.unusedVariables false
set_option linter.unusedSimpArgs false
open Go Go.Proofs Go.Ev
namespace Go.Proofs.YtnhpgmmhfgdmjaaGreat.P14
set_option maxRecDepth 100000
def hasB (tg kd n : Int) (s : ByteArray) (m : Nat) (tag kind : Int) : Bool := bif (bif tg != tag then true else kd != kind) then false else
  (bif (bif (bif kind == 1 then true else n == 0) then (bif kind == 2 then true else (s.toList == ByteArray.toList ⟨#[]⟩)) else false) then (bif kind == 3 then true else ((m : Int) == 0)) else false)
def hasR (x : Nd) (tag kind : Int) : Bool := hasB x.tag x.kind x.n x.s x.m tag kind
theorem has_mk (t k n : Int) (s : ByteArray) (m : Nat) (f : Nat → DV) (tag kind : Int) : FnD Tryz.prog 25 [.d (.agg [.int .i64 t, .int .i64 k, .int .i64 n, .str s, .list 5 m f]), .d (.int .i64 tag), .d (.int .i64 kind)] [.bool (hasB t k n s m tag kind)] := by
  refine fnD_intro (H := { nt := Go.Func.ntmps Tryz.f25 }) Tryz.func25 rfl rfl rfl rfl (Nat.le_of_ble_eq_true rfl) (okC_tri (by kernel_rfl) _ _ _ _ (by kernel_rfl) ?_)
  simp only [go_sem, Nat.reduceEqDiff, ↓reduceIte, Bool.false_eq_true, Nat.reduceAdd, Nat.reduceSub, Nat.reduceBNe, Nat.reduceBEq, Nat.reduceLT, Nat.reduceLeDiff, Nat.reduceMul, Nat.zero_lt_succ, Nat.lt_add_one, Nat.zero_lt_one, Int.reduceToNat, false_implies, true_implies, or_self, or_false, false_or, or_true, true_or, Nat.add_le_add_iff_right, true_and, and_true, forall_const, implies_true, List.contains_cons, List.contains_nil, List.all_cons, List.all_nil, bne_self_eq_false, Option.isSome_none, Option.isSome_some, Bool.or_false, Bool.false_or, Bool.true_or, Bool.or_true, ne_eq, not_false_eq_true, not_true_eq_false, beq_self_eq_true, cond_true, cond_false, Prod.mk.injEq, and_self, reduceCtorEq, BEq.rfl, Bool.and_true, Bool.true_and, Bool.and_false, Bool.false_and, Tryz.f25]
  refine ⟨fun h => by simp only [hasB, h, cond_true], fun h => by simp only [hasB, h, cond_false]⟩
theorem args3 {P : Program} {K : FuncId} {a b d d' : DV} {rs : List DV} (h : FnD P K [.d d, .d a, .d b] rs) (hd : ∀ S w v, d'.rep S w v → d.rep S w v) : FnD P K [.d d', .d a, .d b] rs :=
  h.args fun S α w vs hv => by
    simp only [prepL, PV.rep] at hv ⊢
    obtain ⟨u, us, rfl, h1, u2, _, rfl, h2, u3, _, rfl, h3, rfl⟩ := hv
    exact ⟨u, _, rfl, hd _ _ _ h1, u2, _, rfl, h2, u3, _, rfl, h3, rfl⟩
theorem has_ok (x : Nd) (tag kind : Int) : FnD Tryz.prog 25 [.d x.D, .d (.int .i64 tag), .d (.int .i64 kind)] [.bool (hasR x tag kind)] := by
  cases x with
  | leaf t k n s => exact args3 (has_mk t k n s 0 (fun _ => .nil) tag kind) fun S w v h => rep_nil5 h
  | mk t k n s m f => exact has_mk t k n s m (fun i => (f i).D) tag kind
def DL (A : List PV) : Prop := ∀ p ∈ A, ∃ d, p = .d d
theorem DL.lt {n : Nat} : ∀ {A : List PV}, DL A → ltL n A = true
  | [], _ => rfl
  | p :: A, h => by
    obtain ⟨d, rfl⟩ := h p (by simp)
    simp only [ltL, PV.lt, Bool.true_and]
    exact DL.lt fun q hq => h q (by simp [hq])
theorem DL.kill {i : Nat} : ∀ {A : List PV}, DL A → killL i A = A
  | [], _ => rfl
  | p :: A, h => by
    obtain ⟨d, rfl⟩ := h p (by simp)
    rw [killL, DL.kill fun q hq => h q (by simp [hq])]
    rfl
def rdS (A B C : List PV) (x : Nat → Nd) (at_ : Nat) (bad : Bool) : Store := [.box A, .box B, .box [.d (.list 5 17 fun i => (x i).D), .d (.int .i64 at_), .d (.bool bad)], .box C]
theorem rdS_lt {A B C : List PV} (hA : DL A) (hB : DL B) (hC : DL C) (x : Nat → Nd) (k : Nat) (bad : Bool) (rs : List PV) (hr : ltL 4 rs = true) : (decide (4 ≤ (rdS A B C x k bad).length) && ltL (rdS A B C x k bad).length rs && ltS (rdS A B C x k bad).length (rdS A B C x k bad)) = true := by
  have e1 : (Blk.box A).lt 4 = true := hA.lt
  have e2 : (Blk.box B).lt 4 = true := hB.lt
  have e3 : (Blk.box C).lt 4 = true := hC.lt
  simp only [rdS, List.length_cons, List.length_nil, Nat.zero_add, Nat.reduceAdd, ltS, e1, e2, e3, hr]
  rfl
theorem next_ok {A B C : List PV} (hA : DL A) (hB : DL B) (hC : DL C) (x : Nat → Nd) (k : Nat) (hk : k < 17) (bad : Bool) (kind : Int) (R : List PV → Store → Prop)
    (hR : R [.agg [.d (.int .i64 (x k).tag), .d (.int .i64 (x k).kind), .d (.int .i64 (x k).n), .d (.str (x k).s), .d (x k).kidsD]] (rdS A B C x (k + 1) (bif hasR (x k) ((k : Int) + 1) kind then bad else true))) : FnE Tryz.prog 55 [.ptr 2 0, .d (.int .i64 kind)] (rdS A B C x k bad) R := by
  unfold rdS
  refine FnE.le ?_
  refine fnE_intro (H := { nt := Go.Func.ntmps Tryz.f55, lo := 4, fx := [] }) Tryz.func55 rfl rfl rfl rfl (Nat.le_of_ble_eq_true rfl) (okC_tri (by kernel_rfl) _ _ _ _ (by kernel_rfl) ?_)
  simp only [go_sem, Nat.reduceEqDiff, ↓reduceIte, Bool.false_eq_true, Nat.reduceAdd, Nat.reduceSub, Nat.reduceBNe, Nat.reduceBEq, Nat.reduceLT, Nat.reduceLeDiff, Nat.reduceMul, Nat.zero_lt_succ, Nat.lt_add_one, Nat.zero_lt_one, Int.reduceToNat, false_implies, true_implies, or_self, or_false, false_or, or_true, true_or, Nat.add_le_add_iff_right, true_and, and_true, forall_const, implies_true, List.contains_cons, List.contains_nil, List.all_cons, List.all_nil, bne_self_eq_false, Option.isSome_none, Option.isSome_some, Bool.or_false, Bool.false_or, Bool.true_or, Bool.or_true, ne_eq, not_false_eq_true, not_true_eq_false, beq_self_eq_true, cond_true, cond_false, Prod.mk.injEq, and_self, reduceCtorEq, BEq.rfl, Bool.and_true, Bool.true_and, Bool.and_false, Bool.false_and, Tryz.f55]
  refine ⟨⟨by omega, by omega⟩, ⟨by omega, by omega⟩, ?_⟩
  refine ⟨_, fun _ => has_ok (x k) ((k : Int) + 1) kind, ?_, ?_⟩
  focus (first | exact fun _ => rfl | exact fun h0 => absurd h0 (by decide))
  simp only [go_sem, Nat.reduceEqDiff, ↓reduceIte, Bool.false_eq_true, Nat.reduceAdd, Nat.reduceSub, Nat.reduceBNe, Nat.reduceBEq, Nat.reduceLT, Nat.reduceLeDiff, Nat.reduceMul, Nat.zero_lt_succ, Nat.lt_add_one, Nat.zero_lt_one, Int.reduceToNat, false_implies, true_implies, or_self, or_false, false_or, or_true, true_or, Nat.add_le_add_iff_right, true_and, and_true, forall_const, implies_true, List.contains_cons, List.contains_nil, List.all_cons, List.all_nil, bne_self_eq_false, Option.isSome_none, Option.isSome_some, Bool.or_false, Bool.false_or, Bool.true_or, Bool.or_true, ne_eq, not_false_eq_true, not_true_eq_false, beq_self_eq_true, cond_true, cond_false, Prod.mk.injEq, and_self, reduceCtorEq, BEq.rfl, Bool.and_true, Bool.true_and, Bool.and_false, Bool.false_and]
  refine ⟨fun h => ?_, fun h => ?_⟩
  · have h' : hasR (x k) ((k : Int) + 1) kind = false := by simpa using h
    rw [h'] at hR
    exact ⟨rdS A B C x (k + 1) true, ⟨⟨rfl, rfl, rfl, rfl, trivial⟩, rdS_lt hA hB hC _ _ _ _ rfl⟩, hR⟩
  · have h' : hasR (x k) ((k : Int) + 1) kind = true := by simpa using h
    rw [h'] at hR
    exact ⟨rdS A B C x (k + 1) bad, ⟨⟨rfl, rfl, rfl, rfl, trivial⟩, rdS_lt hA hB hC _ _ _ _ rfl⟩, hR⟩
theorem bk_rdS {A B C A' B' C' : List PV} (x : Nat → Nd) (k k' : Nat) (b b' : Bool) : boxKept (rdS A B C x k b) (rdS A' B' C' x k' b') = true := rfl
theorem allN_succ (p : Nat → Bool) (n : Nat) : allN p (n + 1) = (allN p n && p n) := by simp [allN, List.range_succ]
theorem bad_step (b p q : Bool) : (bif b || !p then true else !q) = (b || !(p && q)) := by cases b <;> cases p <;> cases q <;> rfl
theorem bad_first (b q : Bool) (p : Nat → Bool) (h : p 0 = q) : (bif b then true else !q) = (b || !allN p 1) := by subst h; cases b <;> simp [allN]
theorem rdnum_ok {A B C : List PV} (hA : DL A) (hB : DL B) (hC : DL C) (x : Nat → Nd) (k : Nat) (hk : k < 17) (bad : Bool) (R : List PV → Store → Prop)
    (hR : R [.d (.int .i64 (x k).n)] (rdS A B C x (k + 1) (bif hasR (x k) ((k : Int) + 1) 1 then bad else true))) : FnE Tryz.prog 26 [.ptr 2 0] (rdS A B C x k bad) R := by
  refine FnE.le ?_
  refine fnE_intro (H := { nt := Go.Func.ntmps Tryz.f26, lo := 4, fx := [55] }) Tryz.func26 rfl rfl rfl rfl (Nat.le_of_ble_eq_true rfl) (okC_tri (by kernel_rfl) _ _ _ _ (by kernel_rfl) ?_)
  simp only [go_sem, Nat.reduceEqDiff, ↓reduceIte, Bool.false_eq_true, Nat.reduceAdd, Nat.reduceSub, Nat.reduceBNe, Nat.reduceBEq, Nat.reduceLT, Nat.reduceLeDiff, Nat.reduceMul, Nat.zero_lt_succ, Nat.lt_add_one, Nat.zero_lt_one, Int.reduceToNat, false_implies, true_implies, or_self, or_false, false_or, or_true, true_or, Nat.add_le_add_iff_right, true_and, and_true, forall_const, implies_true, List.contains_cons, List.contains_nil, List.all_cons, List.all_nil, bne_self_eq_false, Option.isSome_none, Option.isSome_some, Bool.or_false, Bool.false_or, Bool.true_or, Bool.or_true, ne_eq, not_false_eq_true, not_true_eq_false, beq_self_eq_true, cond_true, cond_false, Prod.mk.injEq, and_self, reduceCtorEq, BEq.rfl, Bool.and_true, Bool.true_and, Bool.and_false, Bool.false_and, Tryz.f26, rdS]
  refine next_ok hA hB hC x k hk bad 1 _ ?_
  rw [s_eff]
  refine ⟨rfl, ?_⟩
  simp only [go_sem, Nat.reduceEqDiff, ↓reduceIte, Bool.false_eq_true, Nat.reduceAdd, Nat.reduceSub, Nat.reduceBNe, Nat.reduceBEq, Nat.reduceLT, Nat.reduceLeDiff, Nat.reduceMul, Nat.zero_lt_succ, Nat.lt_add_one, Nat.zero_lt_one, Int.reduceToNat, false_implies, true_implies, or_self, or_false, false_or, or_true, true_or, Nat.add_le_add_iff_right, true_and, and_true, forall_const, implies_true, List.contains_cons, List.contains_nil, List.all_cons, List.all_nil, bne_self_eq_false, Option.isSome_none, Option.isSome_some, Bool.or_false, Bool.false_or, Bool.true_or, Bool.or_true, ne_eq, not_false_eq_true, not_true_eq_false, beq_self_eq_true, cond_true, cond_false, Prod.mk.injEq, and_self, reduceCtorEq, BEq.rfl, Bool.and_true, Bool.true_and, Bool.and_false, Bool.false_and, rdS]
  exact ⟨rdS A B C x (k + 1) (bif hasR (x k) ((k : Int) + 1) 1 then bad else true), ⟨⟨rfl, rfl, rfl, rfl, trivial⟩, rdS_lt hA hB hC _ _ _ _ rfl⟩, hR⟩
theorem rdstr_ok {A B C : List PV} (hA : DL A) (hB : DL B) (hC : DL C) (x : Nat → Nd) (k : Nat) (hk : k < 17) (bad : Bool) (R : List PV → Store → Prop)
    (hR : R [.d (.str (x k).s)] (rdS A B C x (k + 1) (bif hasR (x k) ((k : Int) + 1) 2 then bad else true))) : FnE Tryz.prog 27 [.ptr 2 0] (rdS A B C x k bad) R := by
  refine FnE.le ?_
  refine fnE_intro (H := { nt := Go.Func.ntmps Tryz.f27, lo := 4, fx := [55] }) Tryz.func27 rfl rfl rfl rfl (Nat.le_of_ble_eq_true rfl) (okC_tri (by kernel_rfl) _ _ _ _ (by kernel_rfl) ?_)
  simp only [go_sem, Nat.reduceEqDiff, ↓reduceIte, Bool.false_eq_true, Nat.reduceAdd, Nat.reduceSub, Nat.reduceBNe, Nat.reduceBEq, Nat.reduceLT, Nat.reduceLeDiff, Nat.reduceMul, Nat.zero_lt_succ, Nat.lt_add_one, Nat.zero_lt_one, Int.reduceToNat, false_implies, true_implies, or_self, or_false, false_or, or_true, true_or, Nat.add_le_add_iff_right, true_and, and_true, forall_const, implies_true, List.contains_cons, List.contains_nil, List.all_cons, List.all_nil, bne_self_eq_false, Option.isSome_none, Option.isSome_some, Bool.or_false, Bool.false_or, Bool.true_or, Bool.or_true, ne_eq, not_false_eq_true, not_true_eq_false, beq_self_eq_true, cond_true, cond_false, Prod.mk.injEq, and_self, reduceCtorEq, BEq.rfl, Bool.and_true, Bool.true_and, Bool.and_false, Bool.false_and, Tryz.f27, rdS]
  refine next_ok hA hB hC x k hk bad 2 _ ?_
  rw [s_eff]
  refine ⟨rfl, ?_⟩
  simp only [go_sem, Nat.reduceEqDiff, ↓reduceIte, Bool.false_eq_true, Nat.reduceAdd, Nat.reduceSub, Nat.reduceBNe, Nat.reduceBEq, Nat.reduceLT, Nat.reduceLeDiff, Nat.reduceMul, Nat.zero_lt_succ, Nat.lt_add_one, Nat.zero_lt_one, Int.reduceToNat, false_implies, true_implies, or_self, or_false, false_or, or_true, true_or, Nat.add_le_add_iff_right, true_and, and_true, forall_const, implies_true, List.contains_cons, List.contains_nil, List.all_cons, List.all_nil, bne_self_eq_false, Option.isSome_none, Option.isSome_some, Bool.or_false, Bool.false_or, Bool.true_or, Bool.or_true, ne_eq, not_false_eq_true, not_true_eq_false, beq_self_eq_true, cond_true, cond_false, Prod.mk.injEq, and_self, reduceCtorEq, BEq.rfl, Bool.and_true, Bool.true_and, Bool.and_false, Bool.false_and, rdS]
  exact ⟨rdS A B C x (k + 1) (bif hasR (x k) ((k : Int) + 1) 2 then bad else true), ⟨⟨rfl, rfl, rfl, rfl, trivial⟩, rdS_lt hA hB hC _ _ _ _ rfl⟩, hR⟩
theorem rdstrs_mk {A B C : List PV} (hA : DL A) (hB : DL B) (hC : DL C) (x : Nat → Nd) (k : Nat) (hk : k < 17) (bad : Bool) (m : Nat) (f : Nat → Nd) (hkd : (x k).kidsD = .list 5 m fun i => (f i).D) (hb : m ≤ 2199023255488) (R : List PV → Store → Prop)
    (hR : R [.d (.list 1 m fun i => .str (f i).s)] (rdS A B C x (k + 1) ((bif hasR (x k) ((k : Int) + 1) 3 then bad else true) || !allN (fun i => hasR (f i) 0 2) m))) : FnE Tryz.prog 28 [.ptr 2 0] (rdS A B C x k bad) R := by
  refine FnE.le ?_
  refine FnE.handed ?_
  refine fnE_intro (H := { nt := Go.Func.ntmps Tryz.f28, lo := 4, fx := [55] }) Tryz.func28 rfl rfl rfl rfl (Nat.le_of_ble_eq_true rfl) (okC_tri (by kernel_rfl) _ _ _ _ (by kernel_rfl) ?_)
  simp only [go_sem, Nat.reduceEqDiff, ↓reduceIte, Bool.false_eq_true, Nat.reduceAdd, Nat.reduceSub, Nat.reduceBNe, Nat.reduceBEq, Nat.reduceLT, Nat.reduceLeDiff, Nat.reduceMul, Nat.zero_lt_succ, Nat.lt_add_one, Nat.zero_lt_one, Int.reduceToNat, false_implies, true_implies, or_self, or_false, false_or, or_true, true_or, Nat.add_le_add_iff_right, true_and, and_true, forall_const, implies_true, List.contains_cons, List.contains_nil, List.all_cons, List.all_nil, bne_self_eq_false, Option.isSome_none, Option.isSome_some, Bool.or_false, Bool.false_or, Bool.true_or, Bool.or_true, ne_eq, not_false_eq_true, not_true_eq_false, beq_self_eq_true, cond_true, cond_false, Prod.mk.injEq, and_self, reduceCtorEq, BEq.rfl, Bool.and_true, Bool.true_and, Bool.and_false, Bool.false_and, Tryz.f28, rdS]
  refine next_ok hA hB hC x k hk bad 3 _ ?_
  rw [s_eff]
  refine ⟨rfl, ?_⟩
  simp only [go_sem, Nat.reduceEqDiff, ↓reduceIte, Bool.false_eq_true, Nat.reduceAdd, Nat.reduceSub, Nat.reduceBNe, Nat.reduceBEq, Nat.reduceLT, Nat.reduceLeDiff, Nat.reduceMul, Nat.zero_lt_succ, Nat.lt_add_one, Nat.zero_lt_one, Int.reduceToNat, false_implies, true_implies, or_self, or_false, false_or, or_true, true_or, Nat.add_le_add_iff_right, true_and, and_true, forall_const, implies_true, List.contains_cons, List.contains_nil, List.all_cons, List.all_nil, bne_self_eq_false, Option.isSome_none, Option.isSome_some, Bool.or_false, Bool.false_or, Bool.true_or, Bool.or_true, ne_eq, not_false_eq_true, not_true_eq_false, beq_self_eq_true, cond_true, cond_false, Prod.mk.injEq, and_self, reduceCtorEq, BEq.rfl, Bool.and_true, Bool.true_and, Bool.and_false, Bool.false_and, rdS, hkd]
  intro _
  have lA : ∀ n, ltL n A = true := fun n => hA.lt
  have lB : ∀ n, ltL n B = true := fun n => hB.lt
  have lC : ∀ n, ltL n C = true := fun n => hC.lt
  have kA : ∀ i, killL i A = A := fun i => hA.kill
  have kB : ∀ i, killL i B = B := fun i => hB.kill
  have kC : ∀ i, killL i C = C := fun i => hC.kill
  generalize hb0 : (bif hasR (x k) ((k : Int) + 1) 3 then bad else true) = b0 at hR ⊢
  refine ⟨Option { i : Nat // 1 ≤ i ∧ i ≤ m }, fun o => (match o with
    | none => ([(10, .d (.int .i64 0)), (9, .d (.int .i64 m)), (8, .d (.list 5 m fun i => (f i).D)), (3, .d .nil), (0, .ptr 2 0)], [.box A, .box B, .box [.d (.list 5 17 fun i => (x i).D), .d (.int .i64 ((k + 1 : Nat) : Int)), .d (.bool b0)], .box C])
    | some i => ([(10, .d (.int .i64 i)), (9, .d (.int .i64 m)), (8, .d (.list 5 m fun i => (f i).D)), (3, .own 6 0 i), (0, .ptr 2 0)], [.box A, .box B, .box [.d (.list 5 17 fun i => (x i).D), .d (.int .i64 ((k + 1 : Nat) : Int)), .d (.bool (b0 || !allN (fun i => hasR (f i) 0 2) i))], .box C, .box (PV.d (f 0).D).cells, .arr 9 1 1 (cutV (.str ⟨#[]⟩) 1 fun j => .str (f j).s), .arr 9 1 i (cutV (.str ⟨#[]⟩) i fun j => .str (f j).s)])), fun o => (match o with | none => m + 1 | some i => m - i), none, ?_, ?_⟩
  · simp only [go_sem, Nat.reduceEqDiff, ↓reduceIte, Bool.false_eq_true, Nat.reduceAdd, Nat.reduceSub, Nat.reduceBNe, Nat.reduceBEq, Nat.reduceLT, Nat.reduceLeDiff, Nat.reduceMul, Nat.zero_lt_succ, Nat.lt_add_one, Nat.zero_lt_one, Int.reduceToNat, false_implies, true_implies, or_self, or_false, false_or, or_true, true_or, Nat.add_le_add_iff_right, true_and, and_true, forall_const, implies_true, List.contains_cons, List.contains_nil, List.all_cons, List.all_nil, bne_self_eq_false, Option.isSome_none, Option.isSome_some, Bool.or_false, Bool.false_or, Bool.true_or, Bool.or_true, ne_eq, not_false_eq_true, not_true_eq_false, beq_self_eq_true, cond_true, cond_false, Prod.mk.injEq, and_self, reduceCtorEq, BEq.rfl, Bool.and_true, Bool.true_and, Bool.and_false, Bool.false_and, lA, lB, lC]
  · rintro (_ | ⟨i, hi1, hi⟩)
    · simp only [go_sem, Nat.reduceEqDiff, ↓reduceIte, Bool.false_eq_true, Nat.reduceAdd, Nat.reduceSub, Nat.reduceBNe, Nat.reduceBEq, Nat.reduceLT, Nat.reduceLeDiff, Nat.reduceMul, Nat.zero_lt_succ, Nat.lt_add_one, Nat.zero_lt_one, Int.reduceToNat, false_implies, true_implies, or_self, or_false, false_or, or_true, true_or, Nat.add_le_add_iff_right, true_and, and_true, forall_const, implies_true, List.contains_cons, List.contains_nil, List.all_cons, List.all_nil, bne_self_eq_false, Option.isSome_none, Option.isSome_some, Bool.or_false, Bool.false_or, Bool.true_or, Bool.or_true, ne_eq, not_false_eq_true, not_true_eq_false, beq_self_eq_true, cond_true, cond_false, Prod.mk.injEq, and_self, reduceCtorEq, BEq.rfl, Bool.and_true, Bool.true_and, Bool.and_false, Bool.false_and, decide_eq_true_eq]
      refine ⟨fun hlt => ⟨by omega, ?_⟩, fun hge => ?_⟩
      · refine ⟨_, fun _ => has_ok (f 0) 0 2, ?_, ?_⟩
        focus (first | exact fun _ => rfl | exact fun h0 => absurd h0 (by decide))
        simp only [go_sem, Nat.reduceEqDiff, ↓reduceIte, Bool.false_eq_true, Nat.reduceAdd, Nat.reduceSub, Nat.reduceBNe, Nat.reduceBEq, Nat.reduceLT, Nat.reduceLeDiff, Nat.reduceMul, Nat.zero_lt_succ, Nat.lt_add_one, Nat.zero_lt_one, Int.reduceToNat, false_implies, true_implies, or_self, or_false, false_or, or_true, true_or, Nat.add_le_add_iff_right, true_and, and_true, forall_const, implies_true, List.contains_cons, List.contains_nil, List.all_cons, List.all_nil, bne_self_eq_false, Option.isSome_none, Option.isSome_some, Bool.or_false, Bool.false_or, Bool.true_or, Bool.or_true, ne_eq, not_false_eq_true, not_true_eq_false, beq_self_eq_true, cond_true, cond_false, Prod.mk.injEq, and_self, reduceCtorEq, BEq.rfl, Bool.and_true, Bool.true_and, Bool.and_false, Bool.false_and]
        refine ⟨by decide, some ⟨1, by omega, by omega⟩, ?_⟩
        simp only [go_sem, Nat.reduceEqDiff, ↓reduceIte, Bool.false_eq_true, Nat.reduceAdd, Nat.reduceSub, Nat.reduceBNe, Nat.reduceBEq, Nat.reduceLT, Nat.reduceLeDiff, Nat.reduceMul, Nat.zero_lt_succ, Nat.lt_add_one, Nat.zero_lt_one, Int.reduceToNat, false_implies, true_implies, or_self, or_false, false_or, or_true, true_or, Nat.add_le_add_iff_right, true_and, and_true, forall_const, implies_true, List.contains_cons, List.contains_nil, List.all_cons, List.all_nil, bne_self_eq_false, Option.isSome_none, Option.isSome_some, Bool.or_false, Bool.false_or, Bool.true_or, Bool.or_true, ne_eq, not_false_eq_true, not_true_eq_false, beq_self_eq_true, cond_true, cond_false, Prod.mk.injEq, and_self, reduceCtorEq, BEq.rfl, Bool.and_true, Bool.true_and, Bool.and_false, Bool.false_and, lA, lB, lC]
        refine ⟨by omega, rfl, ?_, congrArg (Blk.arr 9 1 1) (one_cutV (.str ⟨#[]⟩) fun j => .str (f j).s)⟩
        rw [bad_first b0 _ (fun i => hasR (f i) 0 2) rfl]
      · have h0 : m = 0 := by simp at hge; omega
        subst h0
        have e : (b0 || !allN (fun i => hasR (f i) 0 2) 0) = b0 := by simp [allN]
        rw [e] at hR
        exact .inl ⟨1, _, rdS A B C x (k + 1) b0, ⟨⟨rfl, rfl, rfl, rfl, trivial⟩, rdS_lt hA hB hC x (k + 1) b0 _ rfl⟩, hR⟩
    · simp only [go_sem, Nat.reduceEqDiff, ↓reduceIte, Bool.false_eq_true, Nat.reduceAdd, Nat.reduceSub, Nat.reduceBNe, Nat.reduceBEq, Nat.reduceLT, Nat.reduceLeDiff, Nat.reduceMul, Nat.zero_lt_succ, Nat.lt_add_one, Nat.zero_lt_one, Int.reduceToNat, false_implies, true_implies, or_self, or_false, false_or, or_true, true_or, Nat.add_le_add_iff_right, true_and, and_true, forall_const, implies_true, List.contains_cons, List.contains_nil, List.all_cons, List.all_nil, bne_self_eq_false, Option.isSome_none, Option.isSome_some, Bool.or_false, Bool.false_or, Bool.true_or, Bool.or_true, ne_eq, not_false_eq_true, not_true_eq_false, beq_self_eq_true, cond_true, cond_false, Prod.mk.injEq, and_self, reduceCtorEq, BEq.rfl, Bool.and_true, Bool.true_and, Bool.and_false, Bool.false_and, decide_eq_true_eq]
      refine ⟨fun hlt => ⟨by omega, ?_⟩, fun hge => ?_⟩
      · refine ⟨_, fun _ => has_ok (f i) 0 2, ?_, ?_⟩
        focus (first | exact fun _ => rfl | exact fun h0 => absurd h0 (by decide))
        simp only [go_sem, Nat.reduceEqDiff, ↓reduceIte, Bool.false_eq_true, Nat.reduceAdd, Nat.reduceSub, Nat.reduceBNe, Nat.reduceBEq, Nat.reduceLT, Nat.reduceLeDiff, Nat.reduceMul, Nat.zero_lt_succ, Nat.lt_add_one, Nat.zero_lt_one, Int.reduceToNat, false_implies, true_implies, or_self, or_false, false_or, or_true, true_or, Nat.add_le_add_iff_right, true_and, and_true, forall_const, implies_true, List.contains_cons, List.contains_nil, List.all_cons, List.all_nil, bne_self_eq_false, Option.isSome_none, Option.isSome_some, Bool.or_false, Bool.false_or, Bool.true_or, Bool.or_true, ne_eq, not_false_eq_true, not_true_eq_false, beq_self_eq_true, cond_true, cond_false, Prod.mk.injEq, and_self, reduceCtorEq, BEq.rfl, Bool.and_true, Bool.true_and, Bool.and_false, Bool.false_and]
        refine ⟨⟨by omega, by omega⟩, ⟨by omega, by omega⟩, some ⟨i + 1, by omega, by omega⟩, ?_⟩
        simp only [go_sem, Nat.reduceEqDiff, ↓reduceIte, Bool.false_eq_true, Nat.reduceAdd, Nat.reduceSub, Nat.reduceBNe, Nat.reduceBEq, Nat.reduceLT, Nat.reduceLeDiff, Nat.reduceMul, Nat.zero_lt_succ, Nat.lt_add_one, Nat.zero_lt_one, Int.reduceToNat, false_implies, true_implies, or_self, or_false, false_or, or_true, true_or, Nat.add_le_add_iff_right, true_and, and_true, forall_const, implies_true, List.contains_cons, List.contains_nil, List.all_cons, List.all_nil, bne_self_eq_false, Option.isSome_none, Option.isSome_some, Bool.or_false, Bool.false_or, Bool.true_or, Bool.or_true, ne_eq, not_false_eq_true, not_true_eq_false, beq_self_eq_true, cond_true, cond_false, Prod.mk.injEq, and_self, reduceCtorEq, BEq.rfl, Bool.and_true, Bool.true_and, Bool.and_false, Bool.false_and, lA, lB, lC, kA, kB, kC]
        refine ⟨by omega, by simp, ?_, congrArg (Blk.arr 9 1 (i + 1)) (join_cutV (.str ⟨#[]⟩) i fun j => .str (f j).s)⟩
        rw [bad_step, allN_succ]
      · have h0 : i = m := by simp at hge; omega
        subst h0
        refine .inr ⟨6, 9, 1, i, _, _, rfl, rfl, fun j hj => by simp [cutV, hj], _, ⟨?_, rdS_lt hA hB hC x (k + 1) _ _ rfl⟩, hR⟩
        simp only [go_sem, Nat.reduceEqDiff, ↓reduceIte, Bool.false_eq_true, Nat.reduceAdd, Nat.reduceSub, Nat.reduceBNe, Nat.reduceBEq, Nat.reduceLT, Nat.reduceLeDiff, Nat.reduceMul, Nat.zero_lt_succ, Nat.lt_add_one, Nat.zero_lt_one, Int.reduceToNat, false_implies, true_implies, or_self, or_false, false_or, or_true, true_or, Nat.add_le_add_iff_right, true_and, and_true, forall_const, implies_true, List.contains_cons, List.contains_nil, List.all_cons, List.all_nil, bne_self_eq_false, Option.isSome_none, Option.isSome_some, Bool.or_false, Bool.false_or, Bool.true_or, Bool.or_true, ne_eq, not_false_eq_true, not_true_eq_false, beq_self_eq_true, cond_true, cond_false, Prod.mk.injEq, and_self, reduceCtorEq, BEq.rfl, Bool.and_true, Bool.true_and, Bool.and_false, Bool.false_and, gone, rdS, kA, kB, kC]
theorem rdnums_mk {A B C : List PV} (hA : DL A) (hB : DL B) (hC : DL C) (x : Nat → Nd) (k : Nat) (hk : k < 17) (bad : Bool) (m : Nat) (f : Nat → Nd) (hkd : (x k).kidsD = .list 5 m fun i => (f i).D) (hb : m ≤ 2199023255488) (R : List PV → Store → Prop)
    (hR : R [.d (.list 1 m fun i => .int .i64 (f i).n)] (rdS A B C x (k + 1) ((bif hasR (x k) ((k : Int) + 1) 3 then bad else true) || !allN (fun i => hasR (f i) 0 1) m))) : FnE Tryz.prog 29 [.ptr 2 0] (rdS A B C x k bad) R := by
  refine FnE.le ?_
  refine FnE.handed ?_
  refine fnE_intro (H := { nt := Go.Func.ntmps Tryz.f29, lo := 4, fx := [55] }) Tryz.func29 rfl rfl rfl rfl (Nat.le_of_ble_eq_true rfl) (okC_tri (by kernel_rfl) _ _ _ _ (by kernel_rfl) ?_)
  simp only [go_sem, Nat.reduceEqDiff, ↓reduceIte, Bool.false_eq_true, Nat.reduceAdd, Nat.reduceSub, Nat.reduceBNe, Nat.reduceBEq, Nat.reduceLT, Nat.reduceLeDiff, Nat.reduceMul, Nat.zero_lt_succ, Nat.lt_add_one, Nat.zero_lt_one, Int.reduceToNat, false_implies, true_implies, or_self, or_false, false_or, or_true, true_or, Nat.add_le_add_iff_right, true_and, and_true, forall_const, implies_true, List.contains_cons, List.contains_nil, List.all_cons, List.all_nil, bne_self_eq_false, Option.isSome_none, Option.isSome_some, Bool.or_false, Bool.false_or, Bool.true_or, Bool.or_true, ne_eq, not_false_eq_true, not_true_eq_false, beq_self_eq_true, cond_true, cond_false, Prod.mk.injEq, and_self, reduceCtorEq, BEq.rfl, Bool.and_true, Bool.true_and, Bool.and_false, Bool.false_and, Tryz.f29, rdS]
  refine next_ok hA hB hC x k hk bad 3 _ ?_
  rw [s_eff]
  refine ⟨rfl, ?_⟩
  simp only [go_sem, Nat.reduceEqDiff, ↓reduceIte, Bool.false_eq_true, Nat.reduceAdd, Nat.reduceSub, Nat.reduceBNe, Nat.reduceBEq, Nat.reduceLT, Nat.reduceLeDiff, Nat.reduceMul, Nat.zero_lt_succ, Nat.lt_add_one, Nat.zero_lt_one, Int.reduceToNat, false_implies, true_implies, or_self, or_false, false_or, or_true, true_or, Nat.add_le_add_iff_right, true_and, and_true, forall_const, implies_true, List.contains_cons, List.contains_nil, List.all_cons, List.all_nil, bne_self_eq_false, Option.isSome_none, Option.isSome_some, Bool.or_false, Bool.false_or, Bool.true_or, Bool.or_true, ne_eq, not_false_eq_true, not_true_eq_false, beq_self_eq_true, cond_true, cond_false, Prod.mk.injEq, and_self, reduceCtorEq, BEq.rfl, Bool.and_true, Bool.true_and, Bool.and_false, Bool.false_and, rdS, hkd]
  intro _
  have lA : ∀ n, ltL n A = true := fun n => hA.lt
  have lB : ∀ n, ltL n B = true := fun n => hB.lt
  have lC : ∀ n, ltL n C = true := fun n => hC.lt
  have kA : ∀ i, killL i A = A := fun i => hA.kill
  have kB : ∀ i, killL i B = B := fun i => hB.kill
  have kC : ∀ i, killL i C = C := fun i => hC.kill
  generalize hb0 : (bif hasR (x k) ((k : Int) + 1) 3 then bad else true) = b0 at hR ⊢
  refine ⟨Option { i : Nat // 1 ≤ i ∧ i ≤ m }, fun o => (match o with
    | none => ([(10, .d (.int .i64 0)), (9, .d (.int .i64 m)), (8, .d (.list 5 m fun i => (f i).D)), (3, .d .nil), (0, .ptr 2 0)], [.box A, .box B, .box [.d (.list 5 17 fun i => (x i).D), .d (.int .i64 ((k + 1 : Nat) : Int)), .d (.bool b0)], .box C])
    | some i => ([(10, .d (.int .i64 i)), (9, .d (.int .i64 m)), (8, .d (.list 5 m fun i => (f i).D)), (3, .own 6 0 i), (0, .ptr 2 0)], [.box A, .box B, .box [.d (.list 5 17 fun i => (x i).D), .d (.int .i64 ((k + 1 : Nat) : Int)), .d (.bool (b0 || !allN (fun i => hasR (f i) 0 1) i))], .box C, .box (PV.d (f 0).D).cells, .arr 3 1 1 (cutV (.int .i64 0) 1 fun j => .int .i64 (f j).n), .arr 3 1 i (cutV (.int .i64 0) i fun j => .int .i64 (f j).n)])), fun o => (match o with | none => m + 1 | some i => m - i), none, ?_, ?_⟩
  · simp only [go_sem, Nat.reduceEqDiff, ↓reduceIte, Bool.false_eq_true, Nat.reduceAdd, Nat.reduceSub, Nat.reduceBNe, Nat.reduceBEq, Nat.reduceLT, Nat.reduceLeDiff, Nat.reduceMul, Nat.zero_lt_succ, Nat.lt_add_one, Nat.zero_lt_one, Int.reduceToNat, false_implies, true_implies, or_self, or_false, false_or, or_true, true_or, Nat.add_le_add_iff_right, true_and, and_true, forall_const, implies_true, List.contains_cons, List.contains_nil, List.all_cons, List.all_nil, bne_self_eq_false, Option.isSome_none, Option.isSome_some, Bool.or_false, Bool.false_or, Bool.true_or, Bool.or_true, ne_eq, not_false_eq_true, not_true_eq_false, beq_self_eq_true, cond_true, cond_false, Prod.mk.injEq, and_self, reduceCtorEq, BEq.rfl, Bool.and_true, Bool.true_and, Bool.and_false, Bool.false_and, lA, lB, lC]
  · rintro (_ | ⟨i, hi1, hi⟩)
    · simp only [go_sem, Nat.reduceEqDiff, ↓reduceIte, Bool.false_eq_true, Nat.reduceAdd, Nat.reduceSub, Nat.reduceBNe, Nat.reduceBEq, Nat.reduceLT, Nat.reduceLeDiff, Nat.reduceMul, Nat.zero_lt_succ, Nat.lt_add_one, Nat.zero_lt_one, Int.reduceToNat, false_implies, true_implies, or_self, or_false, false_or, or_true, true_or, Nat.add_le_add_iff_right, true_and, and_true, forall_const, implies_true, List.contains_cons, List.contains_nil, List.all_cons, List.all_nil, bne_self_eq_false, Option.isSome_none, Option.isSome_some, Bool.or_false, Bool.false_or, Bool.true_or, Bool.or_true, ne_eq, not_false_eq_true, not_true_eq_false, beq_self_eq_true, cond_true, cond_false, Prod.mk.injEq, and_self, reduceCtorEq, BEq.rfl, Bool.and_true, Bool.true_and, Bool.and_false, Bool.false_and, decide_eq_true_eq]
      refine ⟨fun hlt => ⟨by omega, ?_⟩, fun hge => ?_⟩
      · refine ⟨_, fun _ => has_ok (f 0) 0 1, ?_, ?_⟩
        focus (first | exact fun _ => rfl | exact fun h0 => absurd h0 (by decide))
        simp only [go_sem, Nat.reduceEqDiff, ↓reduceIte, Bool.false_eq_true, Nat.reduceAdd, Nat.reduceSub, Nat.reduceBNe, Nat.reduceBEq, Nat.reduceLT, Nat.reduceLeDiff, Nat.reduceMul, Nat.zero_lt_succ, Nat.lt_add_one, Nat.zero_lt_one, Int.reduceToNat, false_implies, true_implies, or_self, or_false, false_or, or_true, true_or, Nat.add_le_add_iff_right, true_and, and_true, forall_const, implies_true, List.contains_cons, List.contains_nil, List.all_cons, List.all_nil, bne_self_eq_false, Option.isSome_none, Option.isSome_some, Bool.or_false, Bool.false_or, Bool.true_or, Bool.or_true, ne_eq, not_false_eq_true, not_true_eq_false, beq_self_eq_true, cond_true, cond_false, Prod.mk.injEq, and_self, reduceCtorEq, BEq.rfl, Bool.and_true, Bool.true_and, Bool.and_false, Bool.false_and]
        refine ⟨by decide, some ⟨1, by omega, by omega⟩, ?_⟩
        simp only [go_sem, Nat.reduceEqDiff, ↓reduceIte, Bool.false_eq_true, Nat.reduceAdd, Nat.reduceSub, Nat.reduceBNe, Nat.reduceBEq, Nat.reduceLT, Nat.reduceLeDiff, Nat.reduceMul, Nat.zero_lt_succ, Nat.lt_add_one, Nat.zero_lt_one, Int.reduceToNat, false_implies, true_implies, or_self, or_false, false_or, or_true, true_or, Nat.add_le_add_iff_right, true_and, and_true, forall_const, implies_true, List.contains_cons, List.contains_nil, List.all_cons, List.all_nil, bne_self_eq_false, Option.isSome_none, Option.isSome_some, Bool.or_false, Bool.false_or, Bool.true_or, Bool.or_true, ne_eq, not_false_eq_true, not_true_eq_false, beq_self_eq_true, cond_true, cond_false, Prod.mk.injEq, and_self, reduceCtorEq, BEq.rfl, Bool.and_true, Bool.true_and, Bool.and_false, Bool.false_and, lA, lB, lC]
        refine ⟨by omega, rfl, ?_, congrArg (Blk.arr 3 1 1) (one_cutV (.int .i64 0) fun j => .int .i64 (f j).n)⟩
        rw [bad_first b0 _ (fun i => hasR (f i) 0 1) rfl]
      · have h0 : m = 0 := by simp at hge; omega
        subst h0
        have e : (b0 || !allN (fun i => hasR (f i) 0 1) 0) = b0 := by simp [allN]
        rw [e] at hR
        exact .inl ⟨1, _, rdS A B C x (k + 1) b0, ⟨⟨rfl, rfl, rfl, rfl, trivial⟩, rdS_lt hA hB hC x (k + 1) b0 _ rfl⟩, hR⟩
    · simp only [go_sem, Nat.reduceEqDiff, ↓reduceIte, Bool.false_eq_true, Nat.reduceAdd, Nat.reduceSub, Nat.reduceBNe, Nat.reduceBEq, Nat.reduceLT, Nat.reduceLeDiff, Nat.reduceMul, Nat.zero_lt_succ, Nat.lt_add_one, Nat.zero_lt_one, Int.reduceToNat, false_implies, true_implies, or_self, or_false, false_or, or_true, true_or, Nat.add_le_add_iff_right, true_and, and_true, forall_const, implies_true, List.contains_cons, List.contains_nil, List.all_cons, List.all_nil, bne_self_eq_false, Option.isSome_none, Option.isSome_some, Bool.or_false, Bool.false_or, Bool.true_or, Bool.or_true, ne_eq, not_false_eq_true, not_true_eq_false, beq_self_eq_true, cond_true, cond_false, Prod.mk.injEq, and_self, reduceCtorEq, BEq.rfl, Bool.and_true, Bool.true_and, Bool.and_false, Bool.false_and, decide_eq_true_eq]
      refine ⟨fun hlt => ⟨by omega, ?_⟩, fun hge => ?_⟩
      · refine ⟨_, fun _ => has_ok (f i) 0 1, ?_, ?_⟩
        focus (first | exact fun _ => rfl | exact fun h0 => absurd h0 (by decide))
        simp only [go_sem, Nat.reduceEqDiff, ↓reduceIte, Bool.false_eq_true, Nat.reduceAdd, Nat.reduceSub, Nat.reduceBNe, Nat.reduceBEq, Nat.reduceLT, Nat.reduceLeDiff, Nat.reduceMul, Nat.zero_lt_succ, Nat.lt_add_one, Nat.zero_lt_one, Int.reduceToNat, false_implies, true_implies, or_self, or_false, false_or, or_true, true_or, Nat.add_le_add_iff_right, true_and, and_true, forall_const, implies_true, List.contains_cons, List.contains_nil, List.all_cons, List.all_nil, bne_self_eq_false, Option.isSome_none, Option.isSome_some, Bool.or_false, Bool.false_or, Bool.true_or, Bool.or_true, ne_eq, not_false_eq_true, not_true_eq_false, beq_self_eq_true, cond_true, cond_false, Prod.mk.injEq, and_self, reduceCtorEq, BEq.rfl, Bool.and_true, Bool.true_and, Bool.and_false, Bool.false_and]
        refine ⟨⟨by omega, by omega⟩, ⟨by omega, by omega⟩, some ⟨i + 1, by omega, by omega⟩, ?_⟩
        simp only [go_sem, Nat.reduceEqDiff, ↓reduceIte, Bool.false_eq_true, Nat.reduceAdd, Nat.reduceSub, Nat.reduceBNe, Nat.reduceBEq, Nat.reduceLT, Nat.reduceLeDiff, Nat.reduceMul, Nat.zero_lt_succ, Nat.lt_add_one, Nat.zero_lt_one, Int.reduceToNat, false_implies, true_implies, or_self, or_false, false_or, or_true, true_or, Nat.add_le_add_iff_right, true_and, and_true, forall_const, implies_true, List.contains_cons, List.contains_nil, List.all_cons, List.all_nil, bne_self_eq_false, Option.isSome_none, Option.isSome_some, Bool.or_false, Bool.false_or, Bool.true_or, Bool.or_true, ne_eq, not_false_eq_true, not_true_eq_false, beq_self_eq_true, cond_true, cond_false, Prod.mk.injEq, and_self, reduceCtorEq, BEq.rfl, Bool.and_true, Bool.true_and, Bool.and_false, Bool.false_and, lA, lB, lC, kA, kB, kC]
        refine ⟨by omega, by simp, ?_, congrArg (Blk.arr 3 1 (i + 1)) (join_cutV (.int .i64 0) i fun j => .int .i64 (f j).n)⟩
        rw [bad_step, allN_succ]
      · have h0 : i = m := by simp at hge; omega
        subst h0
        refine .inr ⟨6, 3, 1, i, _, _, rfl, rfl, fun j hj => by simp [cutV, hj], _, ⟨?_, rdS_lt hA hB hC x (k + 1) _ _ rfl⟩, hR⟩
        simp only [go_sem, Nat.reduceEqDiff, ↓reduceIte, Bool.false_eq_true, Nat.reduceAdd, Nat.reduceSub, Nat.reduceBNe, Nat.reduceBEq, Nat.reduceLT, Nat.reduceLeDiff, Nat.reduceMul, Nat.zero_lt_succ, Nat.lt_add_one, Nat.zero_lt_one, Int.reduceToNat, false_implies, true_implies, or_self, or_false, false_or, or_true, true_or, Nat.add_le_add_iff_right, true_and, and_true, forall_const, implies_true, List.contains_cons, List.contains_nil, List.all_cons, List.all_nil, bne_self_eq_false, Option.isSome_none, Option.isSome_some, Bool.or_false, Bool.false_or, Bool.true_or, Bool.or_true, ne_eq, not_false_eq_true, not_true_eq_false, beq_self_eq_true, cond_true, cond_false, Prod.mk.injEq, and_self, reduceCtorEq, BEq.rfl, Bool.and_true, Bool.true_and, Bool.and_false, Bool.false_and, gone, rdS, kA, kB, kC]
end Go.Proofs.YtnhpgmmhfgdmjaaGreat.P14

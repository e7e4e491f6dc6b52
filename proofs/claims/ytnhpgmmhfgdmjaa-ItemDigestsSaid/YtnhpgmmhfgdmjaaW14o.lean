/- Proved here: contracts of functions of this chapter: called with these values, each returns these values and changes nothing that was. Conditions: none but those that each theorem names. -/
import Derived.Test.YtnhpgmmhfgdmjaaW14n
set_option linter.unusedVariables false
set_option linter.unusedSimpArgs false
open Go Go.Proofs Go.Ev
namespace Go.Proofs.Ytnhpgmmhfgdmjaa.P14
set_option maxRecDepth 100000
def bd0 (f : Nat → Nd) : Bool := false
def bd1 (f : Nat → Nd) : Bool := (bif hasR (f 0) 1 1 then bd0 f else true)
def bd2 (f : Nat → Nd) : Bool := (bif hasR (f 1) 2 1 then bd1 f else true)
def bd3 (f : Nat → Nd) : Bool := (bif hasR (f 2) 3 1 then bd2 f else true)
def bd4 (f : Nat → Nd) : Bool := (bif hasR (f 3) 4 2 then bd3 f else true)
def bd5 (f : Nat → Nd) : Bool := ((bif hasR (f 4) 5 3 then bd4 f else true) || !allN (fun i => hasR ((f 4).kids i) 0 2) (f 4).m)
def bd6 (f : Nat → Nd) : Bool := ((bif hasR (f 5) 6 3 then bd5 f else true) || !allN (fun i => hasR ((f 5).kids i) 0 1) (f 5).m)
def bd7 (f : Nat → Nd) : Bool := (bif hasR (f 6) 7 1 then bd6 f else true)
def bd8 (f : Nat → Nd) : Bool := (bif hasR (f 7) 8 1 then bd7 f else true)
def bd9 (f : Nat → Nd) : Bool := ((bif hasR (f 8) 9 3 then bd8 f else true) || !allN (fun i => hasR ((f 8).kids i) 0 2) (f 8).m)
def bd10 (f : Nat → Nd) : Bool := (bif hasR (f 9) 10 1 then bd9 f else true)
def bd11 (f : Nat → Nd) : Bool := (bif hasR (f 10) 11 2 then bd10 f else true)
def bd12 (f : Nat → Nd) : Bool := (bif hasR (f 11) 12 1 then bd11 f else true)
def bd13 (f : Nat → Nd) : Bool := (bif hasR (f 12) 13 1 then bd12 f else true)
def bd14 (f : Nat → Nd) : Bool := (bif hasR (f 13) 14 1 then bd13 f else true)
def bd15 (f : Nat → Nd) : Bool := (bif hasR (f 14) 15 1 then bd14 f else true)
def bd16 (f : Nat → Nd) : Bool := ((bif hasR (f 15) 16 3 then bd15 f else true) || !allN (fun i => hasR ((f 15).kids i) 0 1) (f 15).m)
def bd17 (f : Nat → Nd) : Bool := (bif hasR (f 16) 17 1 then bd16 f else true)
/-- The item that is read. -/
def itemOf (f : Nat → Nd) : It where
  id := (f 0).n
  version := (f 1).n
  kind := (f 2).n
  stem := (f 3).s
  nOpt := (f 4).m
  opt := fun i => ((f 4).kids i).s
  nCh := (f 5).m
  ch := fun i => ((f 5).kids i).n
  value := (f 6).n
  tol := (f 7).n
  nTx := (f 8).m
  tx := fun i => ((f 8).kids i).s
  points := (f 9).n
  content := (f 10).s
  family := (f 11).n
  group := (f 12).n
  words := (f 13).n
  seconds := (f 14).n
  nAs := (f 15).m
  ass := fun i => ((f 15).kids i).n
  rubric := (f 16).n
theorem DL.nil : DL [] := fun p h => absurd h (by simp)
theorem DL.cons {d : DV} {A : List PV} (h : DL A) : DL (.d d :: A) := fun p hp => by
  rcases List.mem_cons.1 hp with rfl | hp
  · exact ⟨d, rfl⟩
  · exact h p hp
def itZ : DV := .agg [.int .i64 0, .int .i64 0, .int .i64 0, .str ⟨#[]⟩, .nil, .nil, .int .i64 0, .int .i64 0, .nil, .int .i64 0, .str ⟨#[]⟩, .int .i64 0, .int .i64 0, .int .i64 0, .int .i64 0, .nil, .int .i64 0]
def topB (t k n : Int) (s : ByteArray) (m : Nat) : Bool := bif !hasB t k n s m 14 3 then true else ((m : Int) != 17)
def decE (t k n : Int) (s : ByteArray) (m : Nat) (f : Nat → Nd) : Int := bif topB t k n s m then 2 else bif bd17 f then 2 else validR (itemOf f)
def decI (t k n : Int) (s : ByteArray) (m : Nat) (f : Nat → Nd) : DV := bif topB t k n s m then itZ else bif bd17 f then itZ else bif validR (itemOf f) != 0 then itZ else iD (itemOf f)
set_option maxHeartbeats 4000000 in
theorem decode_mk (t k n : Int) (s : ByteArray) (m : Nat) (f : Nat → Nd) (hk : ∀ i, (f i).kidsD = .list 5 (f i).m fun j => ((f i).kids j).D) (h4 : (f 4).m ≤ 1000000) (h5 : (f 5).m ≤ 1000000) (h8 : (f 8).m ≤ 1000000) (h15 : (f 15).m ≤ 1000000) :
    FnD Try.prog 18 [.d (.agg [.int .i64 t, .int .i64 k, .int .i64 n, .str s, .list 5 m fun i => (f i).D])] [decI t k n s m f, .int .i64 (decE t k n s m f)] := by
  refine fnD_intro (H := { nt := Go.Func.ntmps Try.f18, fx := [45, 46, 47, 48] }) Try.func18 rfl rfl rfl rfl (Nat.le_of_ble_eq_true rfl) (okC_tri (by kernel_rfl) _ _ _ _ (by kernel_rfl) ?_)
  simp only [go_sem, Nat.reduceEqDiff, ↓reduceIte, Bool.false_eq_true, Nat.reduceAdd, Nat.reduceSub, Nat.reduceBNe, Nat.reduceBEq, Nat.reduceLT, Nat.reduceLeDiff, Nat.reduceMul, Nat.zero_lt_succ, Nat.lt_add_one, Nat.zero_lt_one, Int.reduceToNat, false_implies, true_implies, or_self, or_false, false_or, or_true, true_or, Nat.add_le_add_iff_right, true_and, and_true, forall_const, implies_true, List.contains_cons, List.contains_nil, List.all_cons, List.all_nil, bne_self_eq_false, Option.isSome_none, Option.isSome_some, Bool.or_false, Bool.false_or, Bool.true_or, Bool.or_true, ne_eq, not_false_eq_true, not_true_eq_false, beq_self_eq_true, cond_true, cond_false, Prod.mk.injEq, and_self, reduceCtorEq, BEq.rfl, Bool.and_true, Bool.true_and, Bool.and_false, Bool.false_and, Try.f18]
  refine ⟨_, fun _ => has_mk t k n s m (fun i => (f i).D) 14 3, ?_, ?_⟩
  focus (first | exact fun _ => rfl | exact fun h0 => absurd h0 (by decide))
  simp only [go_sem, Nat.reduceEqDiff, ↓reduceIte, Bool.false_eq_true, Nat.reduceAdd, Nat.reduceSub, Nat.reduceBNe, Nat.reduceBEq, Nat.reduceLT, Nat.reduceLeDiff, Nat.reduceMul, Nat.zero_lt_succ, Nat.lt_add_one, Nat.zero_lt_one, Int.reduceToNat, false_implies, true_implies, or_self, or_false, false_or, or_true, true_or, Nat.add_le_add_iff_right, true_and, and_true, forall_const, implies_true, List.contains_cons, List.contains_nil, List.all_cons, List.all_nil, bne_self_eq_false, Option.isSome_none, Option.isSome_some, Bool.or_false, Bool.false_or, Bool.true_or, Bool.or_true, ne_eq, not_false_eq_true, not_true_eq_false, beq_self_eq_true, cond_true, cond_false, Prod.mk.injEq, and_self, reduceCtorEq, BEq.rfl, Bool.and_true, Bool.true_and, Bool.and_false, Bool.false_and]
  refine ⟨fun h => ?_, fun h => ?_⟩
  · simp only [decI, decE, topB, h, cond_true, itZ]
  have hm : m = 17 := by
    cases hh : hasB t k n s m 14 3 <;> simp [hh] at h
    omega
  subst hm
  have htop : topB t k n s 17 = false := h
  refine rdnum_ok (by repeat (first | exact DL.nil | refine DL.cons ?_)) (by repeat (first | exact DL.nil | refine DL.cons ?_)) (by repeat (first | exact DL.nil | refine DL.cons ?_)) f 0 (by decide) (bd0 f) _ ?_
  rw [s_eff]
  refine ⟨rfl, ?_⟩
  simp only [go_sem, Nat.reduceEqDiff, ↓reduceIte, Bool.false_eq_true, Nat.reduceAdd, Nat.reduceSub, Nat.reduceBNe, Nat.reduceBEq, Nat.reduceLT, Nat.reduceLeDiff, Nat.reduceMul, Nat.zero_lt_succ, Nat.lt_add_one, Nat.zero_lt_one, Int.reduceToNat, false_implies, true_implies, or_self, or_false, false_or, or_true, true_or, Nat.add_le_add_iff_right, true_and, and_true, forall_const, implies_true, List.contains_cons, List.contains_nil, List.all_cons, List.all_nil, bne_self_eq_false, Option.isSome_none, Option.isSome_some, Bool.or_false, Bool.false_or, Bool.true_or, Bool.or_true, ne_eq, not_false_eq_true, not_true_eq_false, beq_self_eq_true, cond_true, cond_false, Prod.mk.injEq, and_self, reduceCtorEq, BEq.rfl, Bool.and_true, Bool.true_and, Bool.and_false, Bool.false_and, rdS]
  refine rdnum_ok (by repeat (first | exact DL.nil | refine DL.cons ?_)) (by repeat (first | exact DL.nil | refine DL.cons ?_)) (by repeat (first | exact DL.nil | refine DL.cons ?_)) f 1 (by decide) (bd1 f) _ ?_
  rw [s_eff]
  refine ⟨rfl, ?_⟩
  simp only [go_sem, Nat.reduceEqDiff, ↓reduceIte, Bool.false_eq_true, Nat.reduceAdd, Nat.reduceSub, Nat.reduceBNe, Nat.reduceBEq, Nat.reduceLT, Nat.reduceLeDiff, Nat.reduceMul, Nat.zero_lt_succ, Nat.lt_add_one, Nat.zero_lt_one, Int.reduceToNat, false_implies, true_implies, or_self, or_false, false_or, or_true, true_or, Nat.add_le_add_iff_right, true_and, and_true, forall_const, implies_true, List.contains_cons, List.contains_nil, List.all_cons, List.all_nil, bne_self_eq_false, Option.isSome_none, Option.isSome_some, Bool.or_false, Bool.false_or, Bool.true_or, Bool.or_true, ne_eq, not_false_eq_true, not_true_eq_false, beq_self_eq_true, cond_true, cond_false, Prod.mk.injEq, and_self, reduceCtorEq, BEq.rfl, Bool.and_true, Bool.true_and, Bool.and_false, Bool.false_and, rdS]
  refine rdnum_ok (by repeat (first | exact DL.nil | refine DL.cons ?_)) (by repeat (first | exact DL.nil | refine DL.cons ?_)) (by repeat (first | exact DL.nil | refine DL.cons ?_)) f 2 (by decide) (bd2 f) _ ?_
  rw [s_eff]
  refine ⟨rfl, ?_⟩
  simp only [go_sem, Nat.reduceEqDiff, ↓reduceIte, Bool.false_eq_true, Nat.reduceAdd, Nat.reduceSub, Nat.reduceBNe, Nat.reduceBEq, Nat.reduceLT, Nat.reduceLeDiff, Nat.reduceMul, Nat.zero_lt_succ, Nat.lt_add_one, Nat.zero_lt_one, Int.reduceToNat, false_implies, true_implies, or_self, or_false, false_or, or_true, true_or, Nat.add_le_add_iff_right, true_and, and_true, forall_const, implies_true, List.contains_cons, List.contains_nil, List.all_cons, List.all_nil, bne_self_eq_false, Option.isSome_none, Option.isSome_some, Bool.or_false, Bool.false_or, Bool.true_or, Bool.or_true, ne_eq, not_false_eq_true, not_true_eq_false, beq_self_eq_true, cond_true, cond_false, Prod.mk.injEq, and_self, reduceCtorEq, BEq.rfl, Bool.and_true, Bool.true_and, Bool.and_false, Bool.false_and, rdS]
  refine rdstr_ok (by repeat (first | exact DL.nil | refine DL.cons ?_)) (by repeat (first | exact DL.nil | refine DL.cons ?_)) (by repeat (first | exact DL.nil | refine DL.cons ?_)) f 3 (by decide) (bd3 f) _ ?_
  rw [s_eff]
  refine ⟨rfl, ?_⟩
  simp only [go_sem, Nat.reduceEqDiff, ↓reduceIte, Bool.false_eq_true, Nat.reduceAdd, Nat.reduceSub, Nat.reduceBNe, Nat.reduceBEq, Nat.reduceLT, Nat.reduceLeDiff, Nat.reduceMul, Nat.zero_lt_succ, Nat.lt_add_one, Nat.zero_lt_one, Int.reduceToNat, false_implies, true_implies, or_self, or_false, false_or, or_true, true_or, Nat.add_le_add_iff_right, true_and, and_true, forall_const, implies_true, List.contains_cons, List.contains_nil, List.all_cons, List.all_nil, bne_self_eq_false, Option.isSome_none, Option.isSome_some, Bool.or_false, Bool.false_or, Bool.true_or, Bool.or_true, ne_eq, not_false_eq_true, not_true_eq_false, beq_self_eq_true, cond_true, cond_false, Prod.mk.injEq, and_self, reduceCtorEq, BEq.rfl, Bool.and_true, Bool.true_and, Bool.and_false, Bool.false_and, rdS]
  refine rdstrs_mk (by repeat (first | exact DL.nil | refine DL.cons ?_)) (by repeat (first | exact DL.nil | refine DL.cons ?_)) (by repeat (first | exact DL.nil | refine DL.cons ?_)) f 4 (by decide) (bd4 f) (f 4).m (f 4).kids (hk 4) h4 _ ?_
  rw [s_eff]
  refine ⟨rfl, ?_⟩
  simp only [go_sem, Nat.reduceEqDiff, ↓reduceIte, Bool.false_eq_true, Nat.reduceAdd, Nat.reduceSub, Nat.reduceBNe, Nat.reduceBEq, Nat.reduceLT, Nat.reduceLeDiff, Nat.reduceMul, Nat.zero_lt_succ, Nat.lt_add_one, Nat.zero_lt_one, Int.reduceToNat, false_implies, true_implies, or_self, or_false, false_or, or_true, true_or, Nat.add_le_add_iff_right, true_and, and_true, forall_const, implies_true, List.contains_cons, List.contains_nil, List.all_cons, List.all_nil, bne_self_eq_false, Option.isSome_none, Option.isSome_some, Bool.or_false, Bool.false_or, Bool.true_or, Bool.or_true, ne_eq, not_false_eq_true, not_true_eq_false, beq_self_eq_true, cond_true, cond_false, Prod.mk.injEq, and_self, reduceCtorEq, BEq.rfl, Bool.and_true, Bool.true_and, Bool.and_false, Bool.false_and, rdS]
  refine rdnums_mk (by repeat (first | exact DL.nil | refine DL.cons ?_)) (by repeat (first | exact DL.nil | refine DL.cons ?_)) (by repeat (first | exact DL.nil | refine DL.cons ?_)) f 5 (by decide) (bd5 f) (f 5).m (f 5).kids (hk 5) h5 _ ?_
  rw [s_eff]
  refine ⟨rfl, ?_⟩
  simp only [go_sem, Nat.reduceEqDiff, ↓reduceIte, Bool.false_eq_true, Nat.reduceAdd, Nat.reduceSub, Nat.reduceBNe, Nat.reduceBEq, Nat.reduceLT, Nat.reduceLeDiff, Nat.reduceMul, Nat.zero_lt_succ, Nat.lt_add_one, Nat.zero_lt_one, Int.reduceToNat, false_implies, true_implies, or_self, or_false, false_or, or_true, true_or, Nat.add_le_add_iff_right, true_and, and_true, forall_const, implies_true, List.contains_cons, List.contains_nil, List.all_cons, List.all_nil, bne_self_eq_false, Option.isSome_none, Option.isSome_some, Bool.or_false, Bool.false_or, Bool.true_or, Bool.or_true, ne_eq, not_false_eq_true, not_true_eq_false, beq_self_eq_true, cond_true, cond_false, Prod.mk.injEq, and_self, reduceCtorEq, BEq.rfl, Bool.and_true, Bool.true_and, Bool.and_false, Bool.false_and, rdS]
  refine rdnum_ok (by repeat (first | exact DL.nil | refine DL.cons ?_)) (by repeat (first | exact DL.nil | refine DL.cons ?_)) (by repeat (first | exact DL.nil | refine DL.cons ?_)) f 6 (by decide) (bd6 f) _ ?_
  rw [s_eff]
  refine ⟨rfl, ?_⟩
  simp only [go_sem, Nat.reduceEqDiff, ↓reduceIte, Bool.false_eq_true, Nat.reduceAdd, Nat.reduceSub, Nat.reduceBNe, Nat.reduceBEq, Nat.reduceLT, Nat.reduceLeDiff, Nat.reduceMul, Nat.zero_lt_succ, Nat.lt_add_one, Nat.zero_lt_one, Int.reduceToNat, false_implies, true_implies, or_self, or_false, false_or, or_true, true_or, Nat.add_le_add_iff_right, true_and, and_true, forall_const, implies_true, List.contains_cons, List.contains_nil, List.all_cons, List.all_nil, bne_self_eq_false, Option.isSome_none, Option.isSome_some, Bool.or_false, Bool.false_or, Bool.true_or, Bool.or_true, ne_eq, not_false_eq_true, not_true_eq_false, beq_self_eq_true, cond_true, cond_false, Prod.mk.injEq, and_self, reduceCtorEq, BEq.rfl, Bool.and_true, Bool.true_and, Bool.and_false, Bool.false_and, rdS]
  refine rdnum_ok (by repeat (first | exact DL.nil | refine DL.cons ?_)) (by repeat (first | exact DL.nil | refine DL.cons ?_)) (by repeat (first | exact DL.nil | refine DL.cons ?_)) f 7 (by decide) (bd7 f) _ ?_
  rw [s_eff]
  refine ⟨rfl, ?_⟩
  simp only [go_sem, Nat.reduceEqDiff, ↓reduceIte, Bool.false_eq_true, Nat.reduceAdd, Nat.reduceSub, Nat.reduceBNe, Nat.reduceBEq, Nat.reduceLT, Nat.reduceLeDiff, Nat.reduceMul, Nat.zero_lt_succ, Nat.lt_add_one, Nat.zero_lt_one, Int.reduceToNat, false_implies, true_implies, or_self, or_false, false_or, or_true, true_or, Nat.add_le_add_iff_right, true_and, and_true, forall_const, implies_true, List.contains_cons, List.contains_nil, List.all_cons, List.all_nil, bne_self_eq_false, Option.isSome_none, Option.isSome_some, Bool.or_false, Bool.false_or, Bool.true_or, Bool.or_true, ne_eq, not_false_eq_true, not_true_eq_false, beq_self_eq_true, cond_true, cond_false, Prod.mk.injEq, and_self, reduceCtorEq, BEq.rfl, Bool.and_true, Bool.true_and, Bool.and_false, Bool.false_and, rdS]
  refine rdstrs_mk (by repeat (first | exact DL.nil | refine DL.cons ?_)) (by repeat (first | exact DL.nil | refine DL.cons ?_)) (by repeat (first | exact DL.nil | refine DL.cons ?_)) f 8 (by decide) (bd8 f) (f 8).m (f 8).kids (hk 8) h8 _ ?_
  rw [s_eff]
  refine ⟨rfl, ?_⟩
  simp only [go_sem, Nat.reduceEqDiff, ↓reduceIte, Bool.false_eq_true, Nat.reduceAdd, Nat.reduceSub, Nat.reduceBNe, Nat.reduceBEq, Nat.reduceLT, Nat.reduceLeDiff, Nat.reduceMul, Nat.zero_lt_succ, Nat.lt_add_one, Nat.zero_lt_one, Int.reduceToNat, false_implies, true_implies, or_self, or_false, false_or, or_true, true_or, Nat.add_le_add_iff_right, true_and, and_true, forall_const, implies_true, List.contains_cons, List.contains_nil, List.all_cons, List.all_nil, bne_self_eq_false, Option.isSome_none, Option.isSome_some, Bool.or_false, Bool.false_or, Bool.true_or, Bool.or_true, ne_eq, not_false_eq_true, not_true_eq_false, beq_self_eq_true, cond_true, cond_false, Prod.mk.injEq, and_self, reduceCtorEq, BEq.rfl, Bool.and_true, Bool.true_and, Bool.and_false, Bool.false_and, rdS]
  refine rdnum_ok (by repeat (first | exact DL.nil | refine DL.cons ?_)) (by repeat (first | exact DL.nil | refine DL.cons ?_)) (by repeat (first | exact DL.nil | refine DL.cons ?_)) f 9 (by decide) (bd9 f) _ ?_
  rw [s_eff]
  refine ⟨rfl, ?_⟩
  simp only [go_sem, Nat.reduceEqDiff, ↓reduceIte, Bool.false_eq_true, Nat.reduceAdd, Nat.reduceSub, Nat.reduceBNe, Nat.reduceBEq, Nat.reduceLT, Nat.reduceLeDiff, Nat.reduceMul, Nat.zero_lt_succ, Nat.lt_add_one, Nat.zero_lt_one, Int.reduceToNat, false_implies, true_implies, or_self, or_false, false_or, or_true, true_or, Nat.add_le_add_iff_right, true_and, and_true, forall_const, implies_true, List.contains_cons, List.contains_nil, List.all_cons, List.all_nil, bne_self_eq_false, Option.isSome_none, Option.isSome_some, Bool.or_false, Bool.false_or, Bool.true_or, Bool.or_true, ne_eq, not_false_eq_true, not_true_eq_false, beq_self_eq_true, cond_true, cond_false, Prod.mk.injEq, and_self, reduceCtorEq, BEq.rfl, Bool.and_true, Bool.true_and, Bool.and_false, Bool.false_and, rdS]
  refine rdstr_ok (by repeat (first | exact DL.nil | refine DL.cons ?_)) (by repeat (first | exact DL.nil | refine DL.cons ?_)) (by repeat (first | exact DL.nil | refine DL.cons ?_)) f 10 (by decide) (bd10 f) _ ?_
  rw [s_eff]
  refine ⟨rfl, ?_⟩
  simp only [go_sem, Nat.reduceEqDiff, ↓reduceIte, Bool.false_eq_true, Nat.reduceAdd, Nat.reduceSub, Nat.reduceBNe, Nat.reduceBEq, Nat.reduceLT, Nat.reduceLeDiff, Nat.reduceMul, Nat.zero_lt_succ, Nat.lt_add_one, Nat.zero_lt_one, Int.reduceToNat, false_implies, true_implies, or_self, or_false, false_or, or_true, true_or, Nat.add_le_add_iff_right, true_and, and_true, forall_const, implies_true, List.contains_cons, List.contains_nil, List.all_cons, List.all_nil, bne_self_eq_false, Option.isSome_none, Option.isSome_some, Bool.or_false, Bool.false_or, Bool.true_or, Bool.or_true, ne_eq, not_false_eq_true, not_true_eq_false, beq_self_eq_true, cond_true, cond_false, Prod.mk.injEq, and_self, reduceCtorEq, BEq.rfl, Bool.and_true, Bool.true_and, Bool.and_false, Bool.false_and, rdS]
  refine rdnum_ok (by repeat (first | exact DL.nil | refine DL.cons ?_)) (by repeat (first | exact DL.nil | refine DL.cons ?_)) (by repeat (first | exact DL.nil | refine DL.cons ?_)) f 11 (by decide) (bd11 f) _ ?_
  rw [s_eff]
  refine ⟨rfl, ?_⟩
  simp only [go_sem, Nat.reduceEqDiff, ↓reduceIte, Bool.false_eq_true, Nat.reduceAdd, Nat.reduceSub, Nat.reduceBNe, Nat.reduceBEq, Nat.reduceLT, Nat.reduceLeDiff, Nat.reduceMul, Nat.zero_lt_succ, Nat.lt_add_one, Nat.zero_lt_one, Int.reduceToNat, false_implies, true_implies, or_self, or_false, false_or, or_true, true_or, Nat.add_le_add_iff_right, true_and, and_true, forall_const, implies_true, List.contains_cons, List.contains_nil, List.all_cons, List.all_nil, bne_self_eq_false, Option.isSome_none, Option.isSome_some, Bool.or_false, Bool.false_or, Bool.true_or, Bool.or_true, ne_eq, not_false_eq_true, not_true_eq_false, beq_self_eq_true, cond_true, cond_false, Prod.mk.injEq, and_self, reduceCtorEq, BEq.rfl, Bool.and_true, Bool.true_and, Bool.and_false, Bool.false_and, rdS]
  refine rdnum_ok (by repeat (first | exact DL.nil | refine DL.cons ?_)) (by repeat (first | exact DL.nil | refine DL.cons ?_)) (by repeat (first | exact DL.nil | refine DL.cons ?_)) f 12 (by decide) (bd12 f) _ ?_
  rw [s_eff]
  refine ⟨rfl, ?_⟩
  simp only [go_sem, Nat.reduceEqDiff, ↓reduceIte, Bool.false_eq_true, Nat.reduceAdd, Nat.reduceSub, Nat.reduceBNe, Nat.reduceBEq, Nat.reduceLT, Nat.reduceLeDiff, Nat.reduceMul, Nat.zero_lt_succ, Nat.lt_add_one, Nat.zero_lt_one, Int.reduceToNat, false_implies, true_implies, or_self, or_false, false_or, or_true, true_or, Nat.add_le_add_iff_right, true_and, and_true, forall_const, implies_true, List.contains_cons, List.contains_nil, List.all_cons, List.all_nil, bne_self_eq_false, Option.isSome_none, Option.isSome_some, Bool.or_false, Bool.false_or, Bool.true_or, Bool.or_true, ne_eq, not_false_eq_true, not_true_eq_false, beq_self_eq_true, cond_true, cond_false, Prod.mk.injEq, and_self, reduceCtorEq, BEq.rfl, Bool.and_true, Bool.true_and, Bool.and_false, Bool.false_and, rdS]
  refine rdnum_ok (by repeat (first | exact DL.nil | refine DL.cons ?_)) (by repeat (first | exact DL.nil | refine DL.cons ?_)) (by repeat (first | exact DL.nil | refine DL.cons ?_)) f 13 (by decide) (bd13 f) _ ?_
  rw [s_eff]
  refine ⟨rfl, ?_⟩
  simp only [go_sem, Nat.reduceEqDiff, ↓reduceIte, Bool.false_eq_true, Nat.reduceAdd, Nat.reduceSub, Nat.reduceBNe, Nat.reduceBEq, Nat.reduceLT, Nat.reduceLeDiff, Nat.reduceMul, Nat.zero_lt_succ, Nat.lt_add_one, Nat.zero_lt_one, Int.reduceToNat, false_implies, true_implies, or_self, or_false, false_or, or_true, true_or, Nat.add_le_add_iff_right, true_and, and_true, forall_const, implies_true, List.contains_cons, List.contains_nil, List.all_cons, List.all_nil, bne_self_eq_false, Option.isSome_none, Option.isSome_some, Bool.or_false, Bool.false_or, Bool.true_or, Bool.or_true, ne_eq, not_false_eq_true, not_true_eq_false, beq_self_eq_true, cond_true, cond_false, Prod.mk.injEq, and_self, reduceCtorEq, BEq.rfl, Bool.and_true, Bool.true_and, Bool.and_false, Bool.false_and, rdS]
  refine rdnum_ok (by repeat (first | exact DL.nil | refine DL.cons ?_)) (by repeat (first | exact DL.nil | refine DL.cons ?_)) (by repeat (first | exact DL.nil | refine DL.cons ?_)) f 14 (by decide) (bd14 f) _ ?_
  rw [s_eff]
  refine ⟨rfl, ?_⟩
  simp only [go_sem, Nat.reduceEqDiff, ↓reduceIte, Bool.false_eq_true, Nat.reduceAdd, Nat.reduceSub, Nat.reduceBNe, Nat.reduceBEq, Nat.reduceLT, Nat.reduceLeDiff, Nat.reduceMul, Nat.zero_lt_succ, Nat.lt_add_one, Nat.zero_lt_one, Int.reduceToNat, false_implies, true_implies, or_self, or_false, false_or, or_true, true_or, Nat.add_le_add_iff_right, true_and, and_true, forall_const, implies_true, List.contains_cons, List.contains_nil, List.all_cons, List.all_nil, bne_self_eq_false, Option.isSome_none, Option.isSome_some, Bool.or_false, Bool.false_or, Bool.true_or, Bool.or_true, ne_eq, not_false_eq_true, not_true_eq_false, beq_self_eq_true, cond_true, cond_false, Prod.mk.injEq, and_self, reduceCtorEq, BEq.rfl, Bool.and_true, Bool.true_and, Bool.and_false, Bool.false_and, rdS]
  refine rdnums_mk (by repeat (first | exact DL.nil | refine DL.cons ?_)) (by repeat (first | exact DL.nil | refine DL.cons ?_)) (by repeat (first | exact DL.nil | refine DL.cons ?_)) f 15 (by decide) (bd15 f) (f 15).m (f 15).kids (hk 15) h15 _ ?_
  rw [s_eff]
  refine ⟨rfl, ?_⟩
  simp only [go_sem, Nat.reduceEqDiff, ↓reduceIte, Bool.false_eq_true, Nat.reduceAdd, Nat.reduceSub, Nat.reduceBNe, Nat.reduceBEq, Nat.reduceLT, Nat.reduceLeDiff, Nat.reduceMul, Nat.zero_lt_succ, Nat.lt_add_one, Nat.zero_lt_one, Int.reduceToNat, false_implies, true_implies, or_self, or_false, false_or, or_true, true_or, Nat.add_le_add_iff_right, true_and, and_true, forall_const, implies_true, List.contains_cons, List.contains_nil, List.all_cons, List.all_nil, bne_self_eq_false, Option.isSome_none, Option.isSome_some, Bool.or_false, Bool.false_or, Bool.true_or, Bool.or_true, ne_eq, not_false_eq_true, not_true_eq_false, beq_self_eq_true, cond_true, cond_false, Prod.mk.injEq, and_self, reduceCtorEq, BEq.rfl, Bool.and_true, Bool.true_and, Bool.and_false, Bool.false_and, rdS]
  refine rdnum_ok (by repeat (first | exact DL.nil | refine DL.cons ?_)) (by repeat (first | exact DL.nil | refine DL.cons ?_)) (by repeat (first | exact DL.nil | refine DL.cons ?_)) f 16 (by decide) (bd16 f) _ ?_
  rw [s_eff]
  refine ⟨rfl, ?_⟩
  simp only [go_sem, Nat.reduceEqDiff, ↓reduceIte, Bool.false_eq_true, Nat.reduceAdd, Nat.reduceSub, Nat.reduceBNe, Nat.reduceBEq, Nat.reduceLT, Nat.reduceLeDiff, Nat.reduceMul, Nat.zero_lt_succ, Nat.lt_add_one, Nat.zero_lt_one, Int.reduceToNat, false_implies, true_implies, or_self, or_false, false_or, or_true, true_or, Nat.add_le_add_iff_right, true_and, and_true, forall_const, implies_true, List.contains_cons, List.contains_nil, List.all_cons, List.all_nil, bne_self_eq_false, Option.isSome_none, Option.isSome_some, Bool.or_false, Bool.false_or, Bool.true_or, Bool.or_true, ne_eq, not_false_eq_true, not_true_eq_false, beq_self_eq_true, cond_true, cond_false, Prod.mk.injEq, and_self, reduceCtorEq, BEq.rfl, Bool.and_true, Bool.true_and, Bool.and_false, Bool.false_and, rdS]
  have eb : (bif hasR (f 16) (((16 : Nat) : Int) + 1) 1 then bd16 f else true) = bd17 f := rfl
  rw [eb]
  refine ⟨fun h1 => by simp only [decI, decE, htop, h1, cond_true, cond_false, itZ], fun h1 => ?_⟩
  refine ⟨_, fun _ => valid_ok (itemOf f) (by show (f 5).m * 8 ≤ _; omega), ?_, ?_⟩
  focus (first | exact fun _ => rfl | exact fun h0 => absurd h0 (by decide))
  simp only [go_sem, Nat.reduceEqDiff, ↓reduceIte, Bool.false_eq_true, Nat.reduceAdd, Nat.reduceSub, Nat.reduceBNe, Nat.reduceBEq, Nat.reduceLT, Nat.reduceLeDiff, Nat.reduceMul, Nat.zero_lt_succ, Nat.lt_add_one, Nat.zero_lt_one, Int.reduceToNat, false_implies, true_implies, or_self, or_false, false_or, or_true, true_or, Nat.add_le_add_iff_right, true_and, and_true, forall_const, implies_true, List.contains_cons, List.contains_nil, List.all_cons, List.all_nil, bne_self_eq_false, Option.isSome_none, Option.isSome_some, Bool.or_false, Bool.false_or, Bool.true_or, Bool.or_true, ne_eq, not_false_eq_true, not_true_eq_false, beq_self_eq_true, cond_true, cond_false, Prod.mk.injEq, and_self, reduceCtorEq, BEq.rfl, Bool.and_true, Bool.true_and, Bool.and_false, Bool.false_and]
  refine ⟨fun h2 => by simp only [decI, decE, htop, h1, h2, cond_true, cond_false, itZ], fun h2 => ?_⟩
  have hz : validR (itemOf f) = 0 := by simpa using h2
  simp only [decI, decE, htop, h1, h2, hz, cond_false]
  rfl
end Go.Proofs.Ytnhpgmmhfgdmjaa.P14

/- Proved here: contracts of functions of this chapter: called with these values, each returns these values and changes nothing that was. Conditions: none but those that each theorem names. -/
import Derived.Test.YtnhpgmmhfgdmjaaGreatW14n
set_option linter.unusedVariables false
set_option linter.unusedSimpArgs false
open Go Go.Proofs Go.Ev
namespace Go.Proofs.YtnhpgmmhfgdmjaaGreat.P14
set_option maxRecDepth 100000
def bd0 (f : Nat → Nd) : Bool := false
def bd1 (f : Nat → Nd) : Bool := (bif hasR (f 0) 1 1 then bd0 f else true)
def bd2 (f : Nat → Nd) : Bool := (bif hasR (f 1) 2 1 then bd1 f else true)
def bd3 (f : Nat → Nd) : Bool := (bif hasR (f 2) 3 1 then bd2 f else true)
def bd4 (f : Nat → Nd) : Bool := (bif hasR (f 3) 4 2 then bd3 f else true)
def bd5 (f : Nat → Nd) : Bool := ((bif hasR (f 4) 5 3 then bd4 f else true) || !allN (fun i => hasR ((f 4).kids i) 0 2) (f 4).m)
def bd6 (f : Nat → Nd) : Bool := ((bif hasR (f 5) 6 3 then bd5 f else true) || !allN (fun i => hasR ((f 5).kids i) 0 1) (f 5).m)
def bd7 (f : Nat → Nd) : Bool := (bif hasR (f 6) 7 1 then bd6 f else true)
def bd8 (f : Nat → Nd) : Bool := (bif hasR (f 7) 8 1 then bd7 f else true)
def bd9 (f : Nat → Nd) : Bool := ((bif hasR (f 8) 9 3 then bd8 f else true) || !allN (fun i => hasR ((f 8).kids i) 0 2) (f 8).m)
def bd10 (f : Nat → Nd) : Bool := (bif hasR (f 9) 10 1 then bd9 f else true)
def bd11 (f : Nat → Nd) : Bool := (bif hasR (f 10) 11 2 then bd10 f else true)
def bd12 (f : Nat → Nd) : Bool := (bif hasR (f 11) 12 1 then bd11 f else true)
def bd13 (f : Nat → Nd) : Bool := (bif hasR (f 12) 13 1 then bd12 f else true)
def bd14 (f : Nat → Nd) : Bool := (bif hasR (f 13) 14 1 then bd13 f else true)
def bd15 (f : Nat → Nd) : Bool := (bif hasR (f 14) 15 1 then bd14 f else true)
def bd16 (f : Nat → Nd) : Bool := ((bif hasR (f 15) 16 3 then bd15 f else true) || !allN (fun i => hasR ((f 15).kids i) 0 1) (f 15).m)
def bd17 (f : Nat → Nd) : Bool := (bif hasR (f 16) 17 1 then bd16 f else true)
/-- The item that is read. -/
def itemOf (f : Nat → Nd) : It where
  id := (f 0).n
  version := (f 1).n
  kind := (f 2).n
  stem := (f 3).s
  nOpt := (f 4).m
  opt := fun i => ((f 4).kids i).s
  nCh := (f 5).m
  ch := fun i => ((f 5).kids i).n
  value := (f 6).n
  tol := (f 7).n
  nTx := (f 8).m
  tx := fun i => ((f 8).kids i).s
  points := (f 9).n
  content := (f 10).s
  family := (f 11).n
  group := (f 12).n
  words := (f 13).n
  seconds := (f 14).n
  nAs := (f 15).m
  ass := fun i => ((f 15).kids i).n
  rubric := (f 16).n
theorem DL.nil : DL [] := fun p h => absurd h (by simp)
theorem DL.cons {d : DV} {A : List PV} (h : DL A) : DL (.d d :: A) := fun p hp => by
  rcases List.mem_cons.1 hp with rfl | hp
  · exact ⟨d, rfl⟩
  · exact h p hp
def itZ : DV := .agg [.int .i64 0, .int .i64 0, .int .i64 0, .str ⟨#[]⟩, .nil, .nil, .int .i64 0, .int .i64 0, .nil, .int .i64 0, .str ⟨#[]⟩, .int .i64 0, .int .i64 0, .int .i64 0, .int .i64 0, .nil, .int .i64 0]
def topB (t k n : Int) (s : ByteArray) (m : Nat) : Bool := bif !hasB t k n s m 14 3 then true else ((m : Int) != 17)
def decE (t k n : Int) (s : ByteArray) (m : Nat) (f : Nat → Nd) : Int := bif topB t k n s m then 2 else bif bd17 f then 2 else validR (itemOf f)
def decI (t k n : Int) (s : ByteArray) (m : Nat) (f : Nat → Nd) : DV := bif topB t k n s m then itZ else bif bd17 f then itZ else bif validR (itemOf f) != 0 then itZ else iD (itemOf f)
set_option maxHeartbeats 4000000 in
theorem decode_mk (t k n : Int) (s : ByteArray) (m : Nat) (f : Nat → Nd) (hk : ∀ i, (f i).kidsD = .list 5 (f i).m fun j => ((f i).kids j).D) (h4 : (f 4).m ≤ 2199023255488) (h5 : (f 5).m ≤ 2199023255488) (h8 : (f 8).m ≤ 2199023255488) (h15 : (f 15).m ≤ 2199023255488) :
    FnD Tryz.prog 7 [.d (.agg [.int .i64 t, .int .i64 k, .int .i64 n, .str s, .list 5 m fun i => (f i).D])] [decI t k n s m f, .int .i64 (decE t k n s m f)] := by
  refine fnD_intro (H := { nt := Go.Func.ntmps Tryz.f7, fx := [26, 27, 28, 29] }) Tryz.func7 rfl rfl rfl rfl (Nat.le_of_ble_eq_true rfl) (okC_tri (by kernel_rfl) _ _ _ _ (by kernel_rfl) ?_)
  simp only [go_sem, Nat.reduceEqDiff, ↓reduceIte, Bool.false_eq_true, Nat.reduceAdd, Nat.reduceSub, Nat.reduceBNe, Nat.reduceBEq, Nat.reduceLT, Nat.reduceLeDiff, Nat.reduceMul, Nat.zero_lt_succ, Nat.lt_add_one, Nat.zero_lt_one, Int.reduceToNat, false_implies, true_implies, or_self, or_false, false_or, or_true, true_or, Nat.add_le_add_iff_right, true_and, and_true, forall_const, implies_true, List.contains_cons, List.contains_nil, List.all_cons, List.all_nil, bne_self_eq_false, Option.isSome_none, Option.isSome_some, Bool.or_false, Bool.false_or, Bool.true_or, Bool.or_true, ne_eq, not_false_eq_true, not_true_eq_false, beq_self_eq_true, cond_true, cond_false, Prod.mk.injEq, and_self, reduceCtorEq, BEq.rfl, Bool.and_true, Bool.true_and, Bool.and_false, Bool.false_and, Tryz.f7]
  refine ⟨_, fun _ => has_mk t k n s m (fun i => (f i).D) 14 3, ?_, ?_⟩
  focus (first | exact fun _ => rfl | exact fun h0 => absurd h0 (by decide))
  simp only [go_sem, Nat.reduceEqDiff, ↓reduceIte, Bool.false_eq_true, Nat.reduceAdd, Nat.reduceSub, Nat.reduceBNe, Nat.reduceBEq, Nat.reduceLT, Nat.reduceLeDiff, Nat.reduceMul, Nat.zero_lt_succ, Nat.lt_add_one, Nat.zero_lt_one, Int.reduceToNat, false_implies, true_implies, or_self, or_false, false_or, or_true, true_or, Nat.add_le_add_iff_right, true_and, and_true, forall_const, implies_true, List.contains_cons, List.contains_nil, List.all_cons, List.all_nil, bne_self_eq_false, Option.isSome_none, Option.isSome_some, Bool.or_false, Bool.false_or, Bool.true_or, Bool.or_true, ne_eq, not_false_eq_true, not_true_eq_false, beq_self_eq_true, cond_true, cond_false, Prod.mk.injEq, and_self, reduceCtorEq, BEq.rfl, Bool.and_true, Bool.true_and, Bool.and_false, Bool.false_and]
  refine ⟨fun h => ?_, fun h => ?_⟩
  · simp only [decI, decE, topB, h, cond_true, itZ]
  have hm : m = 17 := by
    cases hh : hasB t k n s m 14 3 <;> simp [hh] at h
    omega
  subst hm
  have htop : topB t k n s 17 = false := h
  refine rdnum_ok (by repeat (first | exact DL.nil | refine DL.cons ?_)) (by repeat (first | exact DL.nil | refine DL.cons ?_)) (by repeat (first | exact DL.nil | refine DL.cons ?_)) f 0 (by decide) (bd0 f) _ ?_
  rw [s_eff]
  refine ⟨rfl, ?_⟩
  simp only [go_sem, Nat.reduceEqDiff, ↓reduceIte, Bool.false_eq_true, Nat.reduceAdd, Nat.reduceSub, Nat.reduceBNe, Nat.reduceBEq, Nat.reduceLT, Nat.reduceLeDiff, Nat.reduceMul, Nat.zero_lt_succ, Nat.lt_add_one, Nat.zero_lt_one, Int.reduceToNat, false_implies, true_implies, or_self, or_false, false_or, or_true, true_or, Nat.add_le_add_iff_right, true_and, and_true, forall_const, implies_true, List.contains_cons, List.contains_nil, List.all_cons, List.all_nil, bne_self_eq_false, Option.isSome_none, Option.isSome_some, Bool.or_false, Bool.false_or, Bool.true_or, Bool.or_true, ne_eq, not_false_eq_true, not_true_eq_false, beq_self_eq_true, cond_true, cond_false, Prod.mk.injEq, and_self, reduceCtorEq, BEq.rfl, Bool.and_true, Bool.true_and, Bool.and_false, Bool.false_and, rdS]
  refine rdnum_ok (by repeat (first | exact DL.nil | refine DL.cons ?_)) (by repeat (first | exact DL.nil | refine DL.cons ?_)) (by repeat (first | exact DL.nil | refine DL.cons ?_)) f 1 (by decide) (bd1 f) _ ?_
  rw [s_eff]
  refine ⟨rfl, ?_⟩
  simp only [go_sem, Nat.reduceEqDiff, ↓reduceIte, Bool.false_eq_true, Nat.reduceAdd, Nat.reduceSub, Nat.reduceBNe, Nat.reduceBEq, Nat.reduceLT, Nat.reduceLeDiff, Nat.reduceMul, Nat.zero_lt_succ, Nat.lt_add_one, Nat.zero_lt_one, Int.reduceToNat, false_implies, true_implies, or_self, or_false, false_or, or_true, true_or, Nat.add_le_add_iff_right, true_and, and_true, forall_const, implies_true, List.contains_cons, List.contains_nil, List.all_cons, List.all_nil, bne_self_eq_false, Option.isSome_none, Option.isSome_some, Bool.or_false, Bool.false_or, Bool.true_or, Bool.or_true, ne_eq, not_false_eq_true, not_true_eq_false, beq_self_eq_true, cond_true, cond_false, Prod.mk.injEq, and_self, reduceCtorEq, BEq.rfl, Bool.and_true, Bool.true_and, Bool.and_false, Bool.false_and, rdS]
  refine rdnum_ok (by repeat (first | exact DL.nil | refine DL.cons ?_)) (by repeat (first | exact DL.nil | refine DL.cons ?_)) (by repeat (first | exact DL.nil | refine DL.cons ?_)) f 2 (by decide) (bd2 f) _ ?_
  rw [s_eff]
  refine ⟨rfl, ?_⟩
  simp only [go_sem, Nat.reduceEqDiff, ↓reduceIte, Bool.false_eq_true, Nat.reduceAdd, Nat.reduceSub, Nat.reduceBNe, Nat.reduceBEq, Nat.reduceLT, Nat.reduceLeDiff, Nat.reduceMul, Nat.zero_lt_succ, Nat.lt_add_one, Nat.zero_lt_one, Int.reduceToNat, false_implies, true_implies, or_self, or_false, false_or, or_true, true_or, Nat.add_le_add_iff_right, true_and, and_true, forall_const, implies_true, List.contains_cons, List.contains_nil, List.all_cons, List.all_nil, bne_self_eq_false, Option.isSome_none, Option.isSome_some, Bool.or_false, Bool.false_or, Bool.true_or, Bool.or_true, ne_eq, not_false_eq_true, not_true_eq_false, beq_self_eq_true, cond_true, cond_false, Prod.mk.injEq, and_self, reduceCtorEq, BEq.rfl, Bool.and_true, Bool.true_and, Bool.and_false, Bool.false_and, rdS]
  refine rdstr_ok (by repeat (first | exact DL.nil | refine DL.cons ?_)) (by repeat (first | exact DL.nil | refine DL.cons ?_)) (by repeat (first | exact DL.nil | refine DL.cons ?_)) f 3 (by decide) (bd3 f) _ ?_
  rw [s_eff]
  refine ⟨rfl, ?_⟩
  simp only [go_sem, Nat.reduceEqDiff, ↓reduceIte, Bool.false_eq_true, Nat.reduceAdd, Nat.reduceSub, Nat.reduceBNe, Nat.reduceBEq, Nat.reduceLT, Nat.reduceLeDiff, Nat.reduceMul, Nat.zero_lt_succ, Nat.lt_add_one, Nat.zero_lt_one, Int.reduceToNat, false_implies, true_implies, or_self, or_false, false_or, or_true, true_or, Nat.add_le_add_iff_right, true_and, and_true, forall_const, implies_true, List.contains_cons, List.contains_nil, List.all_cons, List.all_nil, bne_self_eq_false, Option.isSome_none, Option.isSome_some, Bool.or_false, Bool.false_or, Bool.true_or, Bool.or_true, ne_eq, not_false_eq_true, not_true_eq_false, beq_self_eq_true, cond_true, cond_false, Prod.mk.injEq, and_self, reduceCtorEq, BEq.rfl, Bool.and_true, Bool.true_and, Bool.and_false, Bool.false_and, rdS]
  refine rdstrs_mk (by repeat (first | exact DL.nil | refine DL.cons ?_)) (by repeat (first | exact DL.nil | refine DL.cons ?_)) (by repeat (first | exact DL.nil | refine DL.cons ?_)) f 4 (by decide) (bd4 f) (f 4).m (f 4).kids (hk 4) h4 _ ?_
  rw [s_eff]
  refine ⟨rfl, ?_⟩
  simp only [go_sem, Nat.reduceEqDiff, ↓reduceIte, Bool.false_eq_true, Nat.reduceAdd, Nat.reduceSub, Nat.reduceBNe, Nat.reduceBEq, Nat.reduceLT, Nat.reduceLeDiff, Nat.reduceMul, Nat.zero_lt_succ, Nat.lt_add_one, Nat.zero_lt_one, Int.reduceToNat, false_implies, true_implies, or_self, or_false, false_or, or_true, true_or, Nat.add_le_add_iff_right, true_and, and_true, forall_const, implies_true, List.contains_cons, List.contains_nil, List.all_cons, List.all_nil, bne_self_eq_false, Option.isSome_none, Option.isSome_some, Bool.or_false, Bool.false_or, Bool.true_or, Bool.or_true, ne_eq, not_false_eq_true, not_true_eq_false, beq_self_eq_true, cond_true, cond_false, Prod.mk.injEq, and_self, reduceCtorEq, BEq.rfl, Bool.and_true, Bool.true_and, Bool.and_false, Bool.false_and, rdS]
  refine rdnums_mk (by repeat (first | exact DL.nil | refine DL.cons ?_)) (by repeat (first | exact DL.nil | refine DL.cons ?_)) (by repeat (first | exact DL.nil | refine DL.cons ?_)) f 5 (by decide) (bd5 f) (f 5).m (f 5).kids (hk 5) h5 _ ?_
  rw [s_eff]
  refine ⟨rfl, ?_⟩
  simp only [go_sem, Nat.reduceEqDiff, ↓reduceIte, Bool.false_eq_true, Nat.reduceAdd, Nat.reduceSub, Nat.reduceBNe, Nat.reduceBEq, Nat.reduceLT, Nat.reduceLeDiff, Nat.reduceMul, Nat.zero_lt_succ, Nat.lt_add_one, Nat.zero_lt_one, Int.reduceToNat, false_implies, true_implies, or_self, or_false, false_or, or_true, true_or, Nat.add_le_add_iff_right, true_and, and_true, forall_const, implies_true, List.contains_cons, List.contains_nil, List.all_cons, List.all_nil, bne_self_eq_false, Option.isSome_none, Option.isSome_some, Bool.or_false, Bool.false_or, Bool.true_or, Bool.or_true, ne_eq, not_false_eq_true, not_true_eq_false, beq_self_eq_true, cond_true, cond_false, Prod.mk.injEq, and_self, reduceCtorEq, BEq.rfl, Bool.and_true, Bool.true_and, Bool.and_false, Bool.false_and, rdS]
  refine rdnum_ok (by repeat (first | exact DL.nil | refine DL.cons ?_)) (by repeat (first | exact DL.nil | refine DL.cons ?_)) (by repeat (first | exact DL.nil | refine DL.cons ?_)) f 6 (by decide) (bd6 f) _ ?_
  rw [s_eff]
  refine ⟨rfl, ?_⟩
  simp only [go_sem, Nat.reduceEqDiff, ↓reduceIte, Bool.false_eq_true, Nat.reduceAdd, Nat.reduceSub, Nat.reduceBNe, Nat.reduceBEq, Nat.reduceLT, Nat.reduceLeDiff, Nat.reduceMul, Nat.zero_lt_succ, Nat.lt_add_one, Nat.zero_lt_one, Int.reduceToNat, false_implies, true_implies, or_self, or_false, false_or, or_true, true_or, Nat.add_le_add_iff_right, true_and, and_true, forall_const, implies_true, List.contains_cons, List.contains_nil, List.all_cons, List.all_nil, bne_self_eq_false, Option.isSome_none, Option.isSome_some, Bool.or_false, Bool.false_or, Bool.true_or, Bool.or_true, ne_eq, not_false_eq_true, not_true_eq_false, beq_self_eq_true, cond_true, cond_false, Prod.mk.injEq, and_self, reduceCtorEq, BEq.rfl, Bool.and_true, Bool.true_and, Bool.and_false, Bool.false_and, rdS]
  refine rdnum_ok (by repeat (first | exact DL.nil | refine DL.cons ?_)) (by repeat (first | exact DL.nil | refine DL.cons ?_)) (by repeat (first | exact DL.nil | refine DL.cons ?_)) f 7 (by decide) (bd7 f) _ ?_
  rw [s_eff]
  refine ⟨rfl, ?_⟩
  simp only [go_sem, Nat.reduceEqDiff, ↓reduceIte, Bool.false_eq_true, Nat.reduceAdd, Nat.reduceSub, Nat.reduceBNe, Nat.reduceBEq, Nat.reduceLT, Nat.reduceLeDiff, Nat.reduceMul, Nat.zero_lt_succ, Nat.lt_add_one, Nat.zero_lt_one, Int.reduceToNat, false_implies, true_implies, or_self, or_false, false_or, or_true, true_or, Nat.add_le_add_iff_right, true_and, and_true, forall_const, implies_true, List.contains_cons, List.contains_nil, List.all_cons, List.all_nil, bne_self_eq_false, Option.isSome_none, Option.isSome_some, Bool.or_false, Bool.false_or, Bool.true_or, Bool.or_true, ne_eq, not_false_eq_true, not_true_eq_false, beq_self_eq_true, cond_true, cond_false, Prod.mk.injEq, and_self, reduceCtorEq, BEq.rfl, Bool.and_true, Bool.true_and, Bool.and_false, Bool.false_and, rdS]
  refine rdstrs_mk (by repeat (first | exact DL.nil | refine DL.cons ?_)) (by repeat (first | exact DL.nil | refine DL.cons ?_)) (by repeat (first | exact DL.nil | refine DL.cons ?_)) f 8 (by decide) (bd8 f) (f 8).m (f 8).kids (hk 8) h8 _ ?_
  rw [s_eff]
  refine ⟨rfl, ?_⟩
  simp only [go_sem, Nat.reduceEqDiff, ↓reduceIte, Bool.false_eq_true, Nat.reduceAdd, Nat.reduceSub, Nat.reduceBNe, Nat.reduceBEq, Nat.reduceLT, Nat.reduceLeDiff, Nat.reduceMul, Nat.zero_lt_succ, Nat.lt_add_one, Nat.zero_lt_one, Int.reduceToNat, false_implies, true_implies, or_self, or_false, false_or, or_true, true_or, Nat.add_le_add_iff_right, true_and, and_true, forall_const, implies_true, List.contains_cons, List.contains_nil, List.all_cons, List.all_nil, bne_self_eq_false, Option.isSome_none, Option.isSome_some, Bool.or_false, Bool.false_or, Bool.true_or, Bool.or_true, ne_eq, not_false_eq_true, not_true_eq_false, beq_self_eq_true, cond_true, cond_false, Prod.mk.injEq, and_self, reduceCtorEq, BEq.rfl, Bool.and_true, Bool.true_and, Bool.and_false, Bool.false_and, rdS]
  refine rdnum_ok (by repeat (first | exact DL.nil | refine DL.cons ?_)) (by repeat (first | exact DL.nil | refine DL.cons ?_)) (by repeat (first | exact DL.nil | refine DL.cons ?_)) f 9 (by decide) (bd9 f) _ ?_
  rw [s_eff]
  refine ⟨rfl, ?_⟩
  simp only [go_sem, Nat.reduceEqDiff, ↓reduceIte, Bool.false_eq_true, Nat.reduceAdd, Nat.reduceSub, Nat.reduceBNe, Nat.reduceBEq, Nat.reduceLT, Nat.reduceLeDiff, Nat.reduceMul, Nat.zero_lt_succ, Nat.lt_add_one, Nat.zero_lt_one, Int.reduceToNat, false_implies, true_implies, or_self, or_false, false_or, or_true, true_or, Nat.add_le_add_iff_right, true_and, and_true, forall_const, implies_true, List.contains_cons, List.contains_nil, List.all_cons, List.all_nil, bne_self_eq_false, Option.isSome_none, Option.isSome_some, Bool.or_false, Bool.false_or, Bool.true_or, Bool.or_true, ne_eq, not_false_eq_true, not_true_eq_false, beq_self_eq_true, cond_true, cond_false, Prod.mk.injEq, and_self, reduceCtorEq, BEq.rfl, Bool.and_true, Bool.true_and, Bool.and_false, Bool.false_and, rdS]
  refine rdstr_ok (by repeat (first | exact DL.nil | refine DL.cons ?_)) (by repeat (first | exact DL.nil | refine DL.cons ?_)) (by repeat (first | exact DL.nil | refine DL.cons ?_)) f 10 (by decide) (bd10 f) _ ?_
  rw [s_eff]
  refine ⟨rfl, ?_⟩
  simp only [go_sem, Nat.reduceEqDiff, ↓reduceIte, Bool.false_eq_true, Nat.reduceAdd, Nat.reduceSub, Nat.reduceBNe, Nat.reduceBEq, Nat.reduceLT, Nat.reduceLeDiff, Nat.reduceMul, Nat.zero_lt_succ, Nat.lt_add_one, Nat.zero_lt_one, Int.reduceToNat, false_implies, true_implies, or_self, or_false, false_or, or_true, true_or, Nat.add_le_add_iff_right, true_and, and_true, forall_const, implies_true, List.contains_cons, List.contains_nil, List.all_cons, List.all_nil, bne_self_eq_false, Option.isSome_none, Option.isSome_some, Bool.or_false, Bool.false_or, Bool.true_or, Bool.or_true, ne_eq, not_false_eq_true, not_true_eq_false, beq_self_eq_true, cond_true, cond_false, Prod.mk.injEq, and_self, reduceCtorEq, BEq.rfl, Bool.and_true, Bool.true_and, Bool.and_false, Bool.false_and, rdS]
  refine rdnum_ok (by repeat (first | exact DL.nil | refine DL.cons ?_)) (by repeat (first | exact DL.nil | refine DL.cons ?_)) (by repeat (first | exact DL.nil | refine DL.cons ?_)) f 11 (by decide) (bd11 f) _ ?_
  rw [s_eff]
  refine ⟨rfl, ?_⟩
  simp only [go_sem, Nat.reduceEqDiff, ↓reduceIte, Bool.false_eq_true, Nat.reduceAdd, Nat.reduceSub, Nat.reduceBNe, Nat.reduceBEq, Nat.reduceLT, Nat.reduceLeDiff, Nat.reduceMul, Nat.zero_lt_succ, Nat.lt_add_one, Nat.zero_lt_one, Int.reduceToNat, false_implies, true_implies, or_self, or_false, false_or, or_true, true_or, Nat.add_le_add_iff_right, true_and, and_true, forall_const, implies_true, List.contains_cons, List.contains_nil, List.all_cons, List.all_nil, bne_self_eq_false, Option.isSome_none, Option.isSome_some, Bool.or_false, Bool.false_or, Bool.true_or, Bool.or_true, ne_eq, not_false_eq_true, not_true_eq_false, beq_self_eq_true, cond_true, cond_false, Prod.mk.injEq, and_self, reduceCtorEq, BEq.rfl, Bool.and_true, Bool.true_and, Bool.and_false, Bool.false_and, rdS]
  refine rdnum_ok (by repeat (first | exact DL.nil | refine DL.cons ?_)) (by repeat (first | exact DL.nil | refine DL.cons ?_)) (by repeat (first | exact DL.nil | refine DL.cons ?_)) f 12 (by decide) (bd12 f) _ ?_
  rw [s_eff]
  refine ⟨rfl, ?_⟩
  simp only [go_sem, Nat.reduceEqDiff, ↓reduceIte, Bool.false_eq_true, Nat.reduceAdd, Nat.reduceSub, Nat.reduceBNe, Nat.reduceBEq, Nat.reduceLT, Nat.reduceLeDiff, Nat.reduceMul, Nat.zero_lt_succ, Nat.lt_add_one, Nat.zero_lt_one, Int.reduceToNat, false_implies, true_implies, or_self, or_false, false_or, or_true, true_or, Nat.add_le_add_iff_right, true_and, and_true, forall_const, implies_true, List.contains_cons, List.contains_nil, List.all_cons, List.all_nil, bne_self_eq_false, Option.isSome_none, Option.isSome_some, Bool.or_false, Bool.false_or, Bool.true_or, Bool.or_true, ne_eq, not_false_eq_true, not_true_eq_false, beq_self_eq_true, cond_true, cond_false, Prod.mk.injEq, and_self, reduceCtorEq, BEq.rfl, Bool.and_true, Bool.true_and, Bool.and_false, Bool.false_and, rdS]
  refine rdnum_ok (by repeat (first | exact DL.nil | refine DL.cons ?_)) (by repeat (first | exact DL.nil | refine DL.cons ?_)) (by repeat (first | exact DL.nil | refine DL.cons ?_)) f 13 (by decide) (bd13 f) _ ?_
  rw [s_eff]
  refine ⟨rfl, ?_⟩
  simp only [go_sem, Nat.reduceEqDiff, ↓reduceIte, Bool.false_eq_true, Nat.reduceAdd, Nat.reduceSub, Nat.reduceBNe, Nat.reduceBEq, Nat.reduceLT, Nat.reduceLeDiff, Nat.reduceMul, Nat.zero_lt_succ, Nat.lt_add_one, Nat.zero_lt_one, Int.reduceToNat, false_implies, true_implies, or_self, or_false, false_or, or_true, true_or, Nat.add_le_add_iff_right, true_and, and_true, forall_const, implies_true, List.contains_cons, List.contains_nil, List.all_cons, List.all_nil, bne_self_eq_false, Option.isSome_none, Option.isSome_some, Bool.or_false, Bool.false_or, Bool.true_or, Bool.or_true, ne_eq, not_false_eq_true, not_true_eq_false, beq_self_eq_true, cond_true, cond_false, Prod.mk.injEq, and_self, reduceCtorEq, BEq.rfl, Bool.and_true, Bool.true_and, Bool.and_false, Bool.false_and, rdS]
  refine rdnum_ok (by repeat (first | exact DL.nil | refine DL.cons ?_)) (by repeat (first | exact DL.nil | refine DL.cons ?_)) (by repeat (first | exact DL.nil | refine DL.cons ?_)) f 14 (by decide) (bd14 f) _ ?_
  rw [s_eff]
  refine ⟨rfl, ?_⟩
  simp only [go_sem, Nat.reduceEqDiff, ↓reduceIte, Bool.false_eq_true, Nat.reduceAdd, Nat.reduceSub, Nat.reduceBNe, Nat.reduceBEq, Nat.reduceLT, Nat.reduceLeDiff, Nat.reduceMul, Nat.zero_lt_succ, Nat.lt_add_one, Nat.zero_lt_one, Int.reduceToNat, false_implies, true_implies, or_self, or_false, false_or, or_true, true_or, Nat.add_le_add_iff_right, true_and, and_true, forall_const, implies_true, List.contains_cons, List.contains_nil, List.all_cons, List.all_nil, bne_self_eq_false, Option.isSome_none, Option.isSome_some, Bool.or_false, Bool.false_or, Bool.true_or, Bool.or_true, ne_eq, not_false_eq_true, not_true_eq_false, beq_self_eq_true, cond_true, cond_false, Prod.mk.injEq, and_self, reduceCtorEq, BEq.rfl, Bool.and_true, Bool.true_and, Bool.and_false, Bool.false_and, rdS]
  refine rdnums_mk (by repeat (first | exact DL.nil | refine DL.cons ?_)) (by repeat (first | exact DL.nil | refine DL.cons ?_)) (by repeat (first | exact DL.nil | refine DL.cons ?_)) f 15 (by decide) (bd15 f) (f 15).m (f 15).kids (hk 15) h15 _ ?_
  rw [s_eff]
  refine ⟨rfl, ?_⟩
  simp only [go_sem, Nat.reduceEqDiff, ↓reduceIte, Bool.false_eq_true, Nat.reduceAdd, Nat.reduceSub, Nat.reduceBNe, Nat.reduceBEq, Nat.reduceLT, Nat.reduceLeDiff, Nat.reduceMul, Nat.zero_lt_succ, Nat.lt_add_one, Nat.zero_lt_one, Int.reduceToNat, false_implies, true_implies, or_self, or_false, false_or, or_true, true_or, Nat.add_le_add_iff_right, true_and, and_true, forall_const, implies_true, List.contains_cons, List.contains_nil, List.all_cons, List.all_nil, bne_self_eq_false, Option.isSome_none, Option.isSome_some, Bool.or_false, Bool.false_or, Bool.true_or, Bool.or_true, ne_eq, not_false_eq_true, not_true_eq_false, beq_self_eq_true, cond_true, cond_false, Prod.mk.injEq, and_self, reduceCtorEq, BEq.rfl, Bool.and_true, Bool.true_and, Bool.and_false, Bool.false_and, rdS]
  refine rdnum_ok (by repeat (first | exact DL.nil | refine DL.cons ?_)) (by repeat (first | exact DL.nil | refine DL.cons ?_)) (by repeat (first | exact DL.nil | refine DL.cons ?_)) f 16 (by decide) (bd16 f) _ ?_
  rw [s_eff]
  refine ⟨rfl, ?_⟩
  simp only [go_sem, Nat.reduceEqDiff, ↓reduceIte, Bool.false_eq_true, Nat.reduceAdd, Nat.reduceSub, Nat.reduceBNe, Nat.reduceBEq, Nat.reduceLT, Nat.reduceLeDiff, Nat.reduceMul, Nat.zero_lt_succ, Nat.lt_add_one, Nat.zero_lt_one, Int.reduceToNat, false_implies, true_implies, or_self, or_false, false_or, or_true, true_or, Nat.add_le_add_iff_right, true_and, and_true, forall_const, implies_true, List.contains_cons, List.contains_nil, List.all_cons, List.all_nil, bne_self_eq_false, Option.isSome_none, Option.isSome_some, Bool.or_false, Bool.false_or, Bool.true_or, Bool.or_true, ne_eq, not_false_eq_true, not_true_eq_false, beq_self_eq_true, cond_true, cond_false, Prod.mk.injEq, and_self, reduceCtorEq, BEq.rfl, Bool.and_true, Bool.true_and, Bool.and_false, Bool.false_and, rdS]
  have eb : (bif hasR (f 16) (((16 : Nat) : Int) + 1) 1 then bd16 f else true) = bd17 f := rfl
  rw [eb]
  refine ⟨fun h1 => by simp only [decI, decE, htop, h1, cond_true, cond_false, itZ], fun h1 => ?_⟩
  refine ⟨_, fun _ => valid_ok (itemOf f) (by show (f 5).m * 8 ≤ _; omega), ?_, ?_⟩
  focus (first | exact fun _ => rfl | exact fun h0 => absurd h0 (by decide))
  simp only [go_sem, Nat.reduceEqDiff, ↓reduceIte, Bool.false_eq_true, Nat.reduceAdd, Nat.reduceSub, Nat.reduceBNe, Nat.reduceBEq, Nat.reduceLT, Nat.reduceLeDiff, Nat.reduceMul, Nat.zero_lt_succ, Nat.lt_add_one, Nat.zero_lt_one, Int.reduceToNat, false_implies, true_implies, or_self, or_false, false_or, or_true, true_or, Nat.add_le_add_iff_right, true_and, and_true, forall_const, implies_true, List.contains_cons, List.contains_nil, List.all_cons, List.all_nil, bne_self_eq_false, Option.isSome_none, Option.isSome_some, Bool.or_false, Bool.false_or, Bool.true_or, Bool.or_true, ne_eq, not_false_eq_true, not_true_eq_false, beq_self_eq_true, cond_true, cond_false, Prod.mk.injEq, and_self, reduceCtorEq, BEq.rfl, Bool.and_true, Bool.true_and, Bool.and_false, Bool.false_and]
  refine ⟨fun h2 => by simp only [decI, decE, htop, h1, h2, cond_true, cond_false, itZ], fun h2 => ?_⟩
  have hz : validR (itemOf f) = 0 := by simpa using h2
  simp only [decI, decE, htop, h1, h2, hz, cond_false]
  rfl
end Go.Proofs.YtnhpgmmhfgdmjaaGreat.P14
/- Proved here: contracts of functions of this chapter: called with these values, each returns these values and changes nothing that was. Conditions: none but those that each theorem names. -/
set_option linter.unusedVariables false
set_option linter.unusedSimpArgs false
open Go Go.Proofs Go.Ev
namespace Go.Proofs.YtnhpgmmhfgdmjaaGreat.P14
set_option maxRecDepth 100000
theorem rep_list_imp {S : Nat → Prop} {w : World} {sz n : Nat} {f g : Nat → DV} {v : Value} (h : ∀ i, i < n → ∀ v, (f i).rep S w v → (g i).rep S w v) (hv : (DV.list sz n f).rep S w v) : (DV.list sz n g).rep S w v := by
  simp only [DV.rep] at hv ⊢
  obtain ⟨a, cap, rfl, h1, h2, h3⟩ := hv
  refine ⟨a, cap, rfl, h1, h2, fun h0 => ?_⟩
  obtain ⟨b, off, e1, e2, e3⟩ := h3 h0
  refine ⟨b, off, e1, e2, fun i hi => ?_⟩
  obtain ⟨u, k1, k2, k3⟩ := e3 i hi
  exact ⟨u, k1, k2, h i hi _ k3⟩
theorem repL_cons {S : Nat → Prop} {w : World} {c c' : DV} {cs cs' : List DV} (h1 : ∀ v, c.rep S w v → c'.rep S w v) (h2 : ∀ vs, repL S w cs vs → repL S w cs' vs) : ∀ vs, repL S w (c :: cs) vs → repL S w (c' :: cs') vs := by
  intro vs h
  simp only [repL] at h ⊢
  obtain ⟨u, us, rfl, o, r, t⟩ := h
  exact ⟨u, us, rfl, o, h1 _ r, h2 _ t⟩
theorem rep_agg {S : Nat → Prop} {w : World} {cs cs' : List DV} (h : ∀ vs, repL S w cs vs → repL S w cs' vs) {v : Value} (hv : (DV.agg cs).rep S w v) : (DV.agg cs').rep S w v := by
  simp only [DV.rep] at hv ⊢
  obtain ⟨vs, e, hv⟩ := hv
  exact ⟨vs, e, h vs hv⟩
/-- One level with lists in the place of no lists. -/
def Nd.up : Nd → Nd
  | .leaf t k n s => .mk t k n s 0 fun _ => default
  | x => x
theorem up_rep {S : Nat → Prop} {w : World} (x : Nd) {v : Value} (h : x.D.rep S w v) : x.up.D.rep S w v := by
  cases x with
  | leaf t k n s => exact rep_nil5 h
  | mk t k n s m f => exact h
theorem up_kids (x : Nd) : x.up.kidsD = .list 5 x.up.m fun j => (x.up.kids j).D := by cases x <;> rfl
def encF (t : It) : Nat → Nd := fun i => (encN t i).up
theorem itemOf_enc (t : It) : itemOf (encF t) = t := rfl
theorem has_int (n : Int) : hasR (.leaf 0 1 n ⟨#[]⟩) 0 1 = true := by simp [hasR, hasB, Nd.tag, Nd.kind, Nd.n, Nd.s, Nd.m]
theorem has_up (x : Nd) (t k : Int) : hasR x.up t k = hasR x t k := by cases x <;> rfl
theorem has_i (t n : Int) : hasR (.leaf t 1 n ⟨#[]⟩) t 1 = true := by simp [hasR, hasB, Nd.tag, Nd.kind, Nd.n, Nd.s, Nd.m]
theorem has_s (t : Int) (s : ByteArray) : hasR (.leaf t 2 0 s) t 2 = true := by simp [hasR, hasB, Nd.tag, Nd.kind, Nd.n, Nd.s, Nd.m]
theorem has_l (t : Int) (m : Nat) (f : Nat → Nd) : hasR (.mk t 3 0 ⟨#[]⟩ m f) t 3 = true := by simp [hasR, hasB, Nd.tag, Nd.kind, Nd.n, Nd.s, Nd.m]
theorem has_enc (t : It) : bd17 (encF t) = false := by
  have a1 : allN (fun i => hasR (((encF t) 4).kids i) 0 2) ((encF t) 4).m = true := allN_yes fun i _ => rfl
  have a2 : allN (fun i => hasR (((encF t) 5).kids i) 0 1) ((encF t) 5).m = true := allN_yes fun i _ => has_int _
  have a3 : allN (fun i => hasR (((encF t) 8).kids i) 0 2) ((encF t) 8).m = true := allN_yes fun i _ => rfl
  have a4 : allN (fun i => hasR (((encF t) 15).kids i) 0 1) ((encF t) 15).m = true := allN_yes fun i _ => has_int _
  unfold bd17 bd16 bd15 bd14 bd13 bd12 bd11 bd10 bd9 bd8 bd7 bd6 bd5 bd4 bd3 bd2 bd1 bd0
  rw [a1, a2, a3, a4]
  simp only [encF, has_up, encN, encL, List.getD_cons_zero, List.getD_cons_succ, has_i, has_s, has_l, cond_true, Bool.not_true, Bool.or_self]
theorem decode_enc (t : It) (h : t.nOpt ≤ 1000 ∧ t.nCh ≤ 1000 ∧ t.nTx ≤ 1000 ∧ t.nAs ≤ 1000) (hv : validR t = 0) :
    FnD Tryz.prog 7 [.d (.agg [.int .i64 14, .int .i64 3, .int .i64 0, .str ⟨#[]⟩, .list 5 17 fun i => (encN t i).D])] [iD t, .int .i64 0] := by
  have h0 := decode_mk 14 3 0 ⟨#[]⟩ 17 (encF t) (fun i => up_kids _) (show t.nOpt ≤ _ by omega) (show t.nCh ≤ _ by omega) (show t.nTx ≤ _ by omega) (show t.nAs ≤ _ by omega)
  have e1 : decI 14 3 0 ⟨#[]⟩ 17 (encF t) = iD t := by
    have : topB 14 3 0 ⟨#[]⟩ 17 = false := by simp [topB, hasB]
    simp only [decI, this, has_enc, itemOf_enc, hv, cond_false, bne_self_eq_false]
  have e2 : decE 14 3 0 ⟨#[]⟩ 17 (encF t) = 0 := by
    have : topB 14 3 0 ⟨#[]⟩ 17 = false := by simp [topB, hasB]
    simp only [decE, this, has_enc, itemOf_enc, hv, cond_false]
  rw [e1, e2] at h0
  refine args1 h0 fun S w v hr => ?_
  exact rep_agg (repL_cons (fun _ h => h) (repL_cons (fun _ h => h) (repL_cons (fun _ h => h) (repL_cons (fun _ h => h) (repL_cons (fun v h => rep_list_imp (fun i _ v h => up_rep _ h) h) fun _ h => h))))) hr
end Go.Proofs.YtnhpgmmhfgdmjaaGreat.P14

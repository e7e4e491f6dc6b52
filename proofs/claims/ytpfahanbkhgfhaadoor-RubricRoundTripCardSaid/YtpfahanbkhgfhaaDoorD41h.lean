/- Proved here: contracts of functions of this chapter: called with these values, each returns these values and changes nothing that was. Conditions: none but those that each theorem names. -/
import Derived.Test.YtpfahanbkhgfhaaDoorD41g
set_option linter.unusedSimpArgs false
set_option linter.unusedVariables false
open Go Go.Proofs Go.Ev
namespace Go.Proofs.YtpfahanbkhgfhaaDoor.P41
set_option maxRecDepth 100000
theorem bget_list {b : ByteArray} {j : Nat} (h : j < b.size) : ∃ c, b.data.toList[j]? = some c ∧ c.toNat = bget b j := by
  have h' : j < b.data.toList.length := h
  refine ⟨b.data.toList[j], List.getElem?_eq_getElem h', ?_⟩
  simp only [bget, dif_pos h]
  rfl
theorem u8_47 {c : UInt8} (h : c.toNat ≠ 47) : c ≠ 47 := fun e => by subst e; exact h rfl
theorem mid_mem {b : ByteArray} {p i : Nat} (hi : i ≤ b.size) (hno : ∀ j, p ≤ j → j < i → bget b j ≠ 47) : ∀ c ∈ (b.data.toList.take i).drop p, c ≠ 47 := by
  intro c hc
  obtain ⟨j, hj, rfl⟩ := List.mem_iff_getElem.1 hc
  simp at hj
  have hs : b.data.size = b.size := rfl
  have hji : p + j < i := by omega
  obtain ⟨c', h1, h2⟩ := bget_list (b := b) (j := p + j) (by omega)
  have : ((b.data.toList.take i).drop p)[j] = c' := by
    simp only [List.getElem_drop, List.getElem_take]
    exact (List.getElem?_eq_some_iff.1 h1).2
  rw [this]
  exact u8_47 (by rw [h2]; exact hno _ (by omega) hji)
theorem split_at {b : ByteArray} {p i : Nat} (hp : p ≤ i) : b.data.toList.drop p = (b.data.toList.take i).drop p ++ b.data.toList.drop i := by
  have := List.take_append_drop i b.data.toList
  by_cases h : p ≤ (b.data.toList.take i).length
  · conv => lhs; rw [← this]
    rw [List.drop_append_of_le_length h]
  · have hl : b.data.toList.length ≤ p := by
      simp only [List.length_take] at h
      omega
    rw [List.drop_eq_nil_of_le hl, List.drop_eq_nil_of_le (by simp; simp at hl; omega), List.drop_eq_nil_of_le (by omega)]
    rfl
theorem drop_get {b : ByteArray} {k : Nat} {x : List UInt8} {r : List (List UInt8)} (h : (pcs b.data.toList).drop k = x :: r) : pieceB b k = ⟨x.toArray⟩ ∧ (pcs b.data.toList).drop (k + 1) = r ∧ nP b = k + 1 + r.length := by
  have h1 : (pcs b.data.toList)[k]? = some x := by
    have := congrArg (·[0]?) h
    simpa [List.getElem?_drop] using this
  refine ⟨?_, ?_, ?_⟩
  · rw [pieceB, List.getD_eq_getElem?_getD, h1]; rfl
  · rw [← List.drop_drop, h]; rfl
  · have := congrArg List.length h
    simp only [List.length_drop, pcs_nP, List.length_cons] at this
    omega
theorem piece_mid {b : ByteArray} {k p i : Nat} (hp : p ≤ i) (hi : i < b.size) (hb : bget b i = 47) (hno : ∀ j, p ≤ j → j < i → bget b j ≠ 47) (hd : (pcs b.data.toList).drop k = pcs (b.data.toList.drop p)) :
    pieceB b k = b.extract p i ∧ (pcs b.data.toList).drop (k + 1) = pcs (b.data.toList.drop (i + 1)) ∧ k + 1 < nP b := by
  obtain ⟨c, h1, h2⟩ := bget_list hi
  have hc : c = 47 := by
    apply UInt8.toNat_inj.1
    rw [h2, hb]; rfl
  subst hc
  have hcons : b.data.toList.drop i = 47 :: b.data.toList.drop (i + 1) := by
    have hi' : i < b.data.toList.length := hi
    rw [List.drop_eq_getElem_cons hi']
    rw [(List.getElem?_eq_some_iff.1 h1).2]
  rw [split_at hp, hcons, pcs_cut (mid_mem (by omega) hno)] at hd
  obtain ⟨q1, q2, q3⟩ := drop_get hd
  refine ⟨?_, q2, ?_⟩
  · rw [q1]; apply ba_ext; rw [extract_list]
  · have := pcs_length (b.data.toList.drop (i + 1)); omega
theorem piece_end {b : ByteArray} {k p : Nat} (hp : p ≤ b.size) (hno : ∀ j, p ≤ j → j < b.size → bget b j ≠ 47) (hd : (pcs b.data.toList).drop k = pcs (b.data.toList.drop p)) :
    pieceB b k = b.extract p b.size ∧ k + 1 = nP b := by
  have hnil : b.data.toList.drop b.size = [] := List.drop_eq_nil_of_le (by show b.data.toList.length ≤ b.data.size; simp)
  rw [split_at hp, hnil, List.append_nil, pcs_none (mid_mem (Nat.le_refl _) hno)] at hd
  obtain ⟨q1, q2, q3⟩ := drop_get hd
  refine ⟨?_, ?_⟩
  · rw [q1]; apply ba_ext; rw [extract_list]
  · simp at q3; omega
structure At (b : ByteArray) where
  k : Nat
  p : Nat
  i : Nat
  ok : ∀ j, j < k → okP b j = true
  pk : k = 0 → p = 0 ∧ i ≤ b.size
  go : (i ≤ b.size ∧ p ≤ i ∧ (∀ j, p ≤ j → j < i → bget b j ≠ 47) ∧ (pcs b.data.toList).drop k = pcs (b.data.toList.drop p)) ∨ (i = b.size + 1 ∧ p = b.size + 1 ∧ k = nP b)
def stP (id : Int) (n : Nat) (f : Nat → Tr) (b : ByteArray) (p i : Nat) : Nat → Env × Store
  | 0 => ([(8, .d (.int .i64 i)), (7, .d (.int .i64 p)), (6, .d .nil), (2, .ptr 0 0), (1, .d (.str b))], [.box [.d (.int .i64 id), .d (.list 3 n fun i => tD (f i))]])
  | k + 1 => ([(8, .d (.int .i64 i)), (7, .d (.int .i64 p)), (6, .own 2 0 (k + 1)), (2, .ptr 0 0), (1, .d (.str b))], [.box [.d (.int .i64 id), .d (.list 3 n fun i => tD (f i))], .arr 3 1 1 (fun k => [DV.int .i64 (valP b 0)].getD k (.int .i64 0)), .arr 3 1 (k + 1) (fun j => .int .i64 (cutF (k + 1) (valP b) j))])
theorem val_0 {b : ByteArray} {k : Nat} (h : okP b k = true) : 0 ≤ valP b k := by
  unfold okP numOk at h
  simp only [Bool.and_eq_true, Bool.not_eq_true'] at h
  obtain ⟨h1, h2⟩ := h
  obtain ⟨s1, s2⟩ := numBad_two h1
  rw [allN, List.all_eq_true] at h2
  exact (numF_0 (i := (pieceB b k).size) (fun j hj => h2 j (by simpa using hj)) s2).1
theorem stP0 (id : Int) (n : Nat) (f : Nat → Tr) (b : ByteArray) (p i : Nat) : stP id n f b p i 0 = ([(8, .d (.int .i64 i)), (7, .d (.int .i64 p)), (6, .d .nil), (2, .ptr 0 0), (1, .d (.str b))], [.box [.d (.int .i64 id), .d (.list 3 n fun i => tD (f i))]]) := rfl
theorem stPs (id : Int) (n : Nat) (f : Nat → Tr) (b : ByteArray) (p i k : Nat) : stP id n f b p i (k + 1) = ([(8, .d (.int .i64 i)), (7, .d (.int .i64 p)), (6, .own 2 0 (k + 1)), (2, .ptr 0 0), (1, .d (.str b))], [.box [.d (.int .i64 id), .d (.list 3 n fun i => tD (f i))], .arr 3 1 1 (fun k => [DV.int .i64 (valP b 0)].getD k (.int .i64 0)), .arr 3 1 (k + 1) (fun j => .int .i64 (cutF (k + 1) (valP b) j))]) := rfl
theorem sep_or {b : ByteArray} {i : Nat} : (bif (i : Int) == (b.size : Int) then true else (bget b i : Int) == 47) = true → i = b.size ∨ bget b i = 47 := by
  intro h
  by_cases e : (i : Int) = b.size
  · left; omega
  · right
    have : ((i : Int) == (b.size : Int)) = false := by simpa using e
    rw [this] at h
    simp at h
    omega
theorem sep_no {b : ByteArray} {i : Nat} : (bif (i : Int) == (b.size : Int) then true else (bget b i : Int) == 47) = false → i ≠ b.size ∧ bget b i ≠ 47 := by
  intro h
  by_cases e : (i : Int) = b.size
  · have : ((i : Int) == (b.size : Int)) = true := by simpa using e
    rw [this] at h
    cases h
  · have : ((i : Int) == (b.size : Int)) = false := by simpa using e
    rw [this] at h
    simp at h
    exact ⟨by omega, by omega⟩
/-- What a piece that ends here leaves. -/
theorem at_step {b : ByteArray} {k p i : Nat} (hgo : (i ≤ b.size ∧ p ≤ i ∧ (∀ j, p ≤ j → j < i → bget b j ≠ 47) ∧ (pcs b.data.toList).drop k = pcs (b.data.toList.drop p)) ∨ (i = b.size + 1 ∧ p = b.size + 1 ∧ k = nP b)) (hi : i ≤ b.size)
    (hsep : i = b.size ∨ bget b i = 47) : p ≤ i ∧ b.extract p i = pieceB b k ∧ k < nP b ∧
    ((i + 1 ≤ b.size ∧ i + 1 ≤ i + 1 ∧ (∀ j, i + 1 ≤ j → j < i + 1 → bget b j ≠ 47) ∧ (pcs b.data.toList).drop (k + 1) = pcs (b.data.toList.drop (i + 1))) ∨ (i + 1 = b.size + 1 ∧ i + 1 = b.size + 1 ∧ k + 1 = nP b)) := by
  rcases hgo with ⟨_, hp, hno, hd⟩ | ⟨h, _, _⟩
  · by_cases e : i = b.size
    · subst e
      obtain ⟨q1, q2⟩ := piece_end hp hno hd
      exact ⟨hp, q1.symm, by omega, .inr ⟨rfl, rfl, q2⟩⟩
    · have hb : bget b i = 47 := by rcases hsep with h | h; exact absurd h e; exact h
      obtain ⟨q1, q2, q3⟩ := piece_mid hp (by omega) hb hno hd
      exact ⟨hp, q1.symm, by omega, .inl ⟨by omega, Nat.le_refl _, fun j _ _ => by omega, q2⟩⟩
  · omega
theorem at_skip {b : ByteArray} {k p i : Nat} (hgo : (i ≤ b.size ∧ p ≤ i ∧ (∀ j, p ≤ j → j < i → bget b j ≠ 47) ∧ (pcs b.data.toList).drop k = pcs (b.data.toList.drop p)) ∨ (i = b.size + 1 ∧ p = b.size + 1 ∧ k = nP b)) (hi : i ≤ b.size)
    (hno : i ≠ b.size ∧ bget b i ≠ 47) : (i + 1 ≤ b.size ∧ p ≤ i + 1 ∧ (∀ j, p ≤ j → j < i + 1 → bget b j ≠ 47) ∧ (pcs b.data.toList).drop k = pcs (b.data.toList.drop p)) ∨ (i + 1 = b.size + 1 ∧ p = b.size + 1 ∧ k = nP b) := by
  rcases hgo with ⟨_, hp, hn, hd⟩ | ⟨h, _, _⟩
  · refine .inl ⟨by omega, by omega, fun j h1 h2 => ?_, hd⟩
    by_cases e : j = i
    · subst e; exact hno.2
    · exact hn j h1 (by omega)
  · omega
def markV (b : ByteArray) (k : Nat) : Int := if numOk (pieceB b k) = true then numF (pieceB b k) (pieceB b k).size else -1
theorem markV_def (b : ByteArray) (k : Nat) : (if numOk (pieceB b k) = true then numF (pieceB b k) (pieceB b k).size else -1) = markV b k := rfl
theorem markV_neg {b : ByteArray} {k : Nat} (h : decide (markV b k < 0) = true) : okP b k = false := by
  cases hk : okP b k with
  | false => rfl
  | true =>
    have h0 := val_0 hk
    have hk' : numOk (pieceB b k) = true := hk
    rw [markV, if_pos hk'] at h
    have : numF (pieceB b k) (pieceB b k).size = valP b k := rfl
    rw [this] at h
    simp at h
    omega
theorem markV_pos {b : ByteArray} {k : Nat} (h : decide (markV b k < 0) = false) : okP b k = true ∧ markV b k = valP b k := by
  cases hk : okP b k with
  | true =>
    have hk' : numOk (pieceB b k) = true := hk
    exact ⟨rfl, by rw [markV, if_pos hk']; rfl⟩
  | false =>
    have hk' : ¬ numOk (pieceB b k) = true := by
      have : numOk (pieceB b k) = false := hk
      simp [this]
    rw [markV, if_neg hk'] at h
    simp at h
theorem rparse_ok (id : Int) (n : Nat) (f : Nat → Tr) (b : ByteArray) (hs : b.size ≤ 1099511627776) : FnD Tryd.prog 7 [.d (rD id n f), .d (.str b)] [parL id n f b, .int .i64 (parE id n f b)] := by
  have hle : nP b ≤ b.size + 1 := by
    have := List.count_le_length (a := (47 : UInt8)) (l := b.data.toList)
    have e : b.data.toList.length = b.size := rfl
    rw [e] at this
    exact Nat.succ_le_succ this
  have hn1 : 1 ≤ nP b := Nat.succ_le_succ (Nat.zero_le _)
  refine fnD_intro (H := { nt := Go.Func.ntmps Tryd.f7 }) Tryd.func7 rfl rfl rfl rfl (Nat.le_of_ble_eq_true rfl) (okC_tri (by kernel_rfl) _ _ _ _ (by kernel_rfl) ?_)
  simp only [go_sem, Nat.reduceEqDiff, ↓reduceIte, Bool.false_eq_true, Nat.reduceAdd, Nat.reduceSub, Nat.reduceBNe, Nat.reduceBEq, Nat.reduceLT, Nat.reduceLeDiff, Nat.reduceMul, Nat.zero_lt_succ, Nat.lt_add_one, Nat.zero_lt_one, Int.reduceToNat, false_implies, true_implies, or_self, or_false, false_or, or_true, true_or, Nat.add_le_add_iff_right, true_and, and_true, forall_const, implies_true, List.contains_cons, List.contains_nil, List.all_cons, List.all_nil, bne_self_eq_false, Option.isSome_none, Option.isSome_some, Bool.or_false, Bool.false_or, Bool.true_or, Bool.or_true, ne_eq, not_false_eq_true, not_true_eq_false, beq_self_eq_true, cond_true, cond_false, Prod.mk.injEq, and_self, reduceCtorEq, BEq.rfl, Bool.and_true, Bool.true_and, Bool.and_false, Bool.false_and, Tryd.f7, rD]
  refine ⟨At b, fun x => stP id n f b x.p x.i x.k, fun x => b.size + 1 - x.i, ⟨0, 0, 0, fun j h => absurd h (by omega), fun _ => ⟨rfl, Nat.zero_le _⟩, .inl ⟨Nat.zero_le _, Nat.le_refl _, fun j _ h => absurd h (by omega), rfl⟩⟩, ?_, ?_⟩
  · simp only [go_sem, Nat.reduceEqDiff, ↓reduceIte, Bool.false_eq_true, Nat.reduceAdd, Nat.reduceSub, Nat.reduceBNe, Nat.reduceBEq, Nat.reduceLT, Nat.reduceLeDiff, Nat.reduceMul, Nat.zero_lt_succ, Nat.lt_add_one, Nat.zero_lt_one, Int.reduceToNat, false_implies, true_implies, or_self, or_false, false_or, or_true, true_or, Nat.add_le_add_iff_right, true_and, and_true, forall_const, implies_true, List.contains_cons, List.contains_nil, List.all_cons, List.all_nil, bne_self_eq_false, Option.isSome_none, Option.isSome_some, Bool.or_false, Bool.false_or, Bool.true_or, Bool.or_true, ne_eq, not_false_eq_true, not_true_eq_false, beq_self_eq_true, cond_true, cond_false, Prod.mk.injEq, and_self, reduceCtorEq, BEq.rfl, Bool.and_true, Bool.true_and, Bool.and_false, Bool.false_and, stP0]
    rfl
  · rintro ⟨k, p, i, hok, hpk, hgo⟩
    cases k with
    | zero =>
      simp only [go_sem, Nat.reduceEqDiff, ↓reduceIte, Bool.false_eq_true, Nat.reduceAdd, Nat.reduceSub, Nat.reduceBNe, Nat.reduceBEq, Nat.reduceLT, Nat.reduceLeDiff, Nat.reduceMul, Nat.zero_lt_succ, Nat.lt_add_one, Nat.zero_lt_one, Int.reduceToNat, false_implies, true_implies, or_self, or_false, false_or, or_true, true_or, Nat.add_le_add_iff_right, true_and, and_true, forall_const, implies_true, List.contains_cons, List.contains_nil, List.all_cons, List.all_nil, bne_self_eq_false, Option.isSome_none, Option.isSome_some, Bool.or_false, Bool.false_or, Bool.true_or, Bool.or_true, ne_eq, not_false_eq_true, not_true_eq_false, beq_self_eq_true, cond_true, cond_false, Prod.mk.injEq, and_self, reduceCtorEq, BEq.rfl, Bool.and_true, Bool.true_and, Bool.and_false, Bool.false_and, decide_eq_true_eq, stP0]
      refine fun _ => ⟨fun hle _ => ⟨fun h => ?_, fun hsep => ?_, fun hno => ⟨by omega, ⟨0, p, i + 1, hok, fun _ => ⟨(hpk rfl).1, ?_⟩, at_skip hgo (by omega) (sep_no hno)⟩, by simp only; omega, ?_⟩⟩, fun hge => ?_⟩
      · have : (i : Int) ≠ b.size := by simpa using h
        omega
      · obtain ⟨g1, g2, g3, g4⟩ := at_step hgo (by omega) (sep_or hsep)
        refine ⟨by omega, ?_⟩
        rw [g2]
        refine ⟨_, fun _ => mark_ok (pieceB b 0), ?_, ?_⟩
        focus (first | exact fun _ => rfl | exact fun h0 => absurd h0 (by decide))
        simp only [go_sem, Nat.reduceEqDiff, ↓reduceIte, Bool.false_eq_true, Nat.reduceAdd, Nat.reduceSub, Nat.reduceBNe, Nat.reduceBEq, Nat.reduceLT, Nat.reduceLeDiff, Nat.reduceMul, Nat.zero_lt_succ, Nat.lt_add_one, Nat.zero_lt_one, Int.reduceToNat, false_implies, true_implies, or_self, or_false, false_or, or_true, true_or, Nat.add_le_add_iff_right, true_and, and_true, forall_const, implies_true, List.contains_cons, List.contains_nil, List.all_cons, List.all_nil, bne_self_eq_false, Option.isSome_none, Option.isSome_some, Bool.or_false, Bool.false_or, Bool.true_or, Bool.or_true, ne_eq, not_false_eq_true, not_true_eq_false, beq_self_eq_true, cond_true, cond_false, Prod.mk.injEq, and_self, reduceCtorEq, BEq.rfl, Bool.and_true, Bool.true_and, Bool.and_false, Bool.false_and]
        simp only [markV_def]
        refine ⟨fun hm => ?_, fun hm => ⟨by omega, by omega, ⟨1, i + 1, i + 1, fun j hj => ?_, fun h => absurd h (by omega), g4⟩, by simp only; omega, ?_⟩⟩
        · obtain ⟨p1, p2⟩ := par_bad (id := id) (n := n) (f := f) g3 (markV_neg hm)
          rw [p1, p2]
        · have : j = 0 := by omega
          subst this
          exact (markV_pos hm).1
        · have e1 : stP id n f b (i + 1) (i + 1) 1 = stP id n f b (i + 1) (i + 1) (0 + 1) := rfl
          simp only [e1]
          simp only [go_sem, Nat.reduceEqDiff, ↓reduceIte, Bool.false_eq_true, Nat.reduceAdd, Nat.reduceSub, Nat.reduceBNe, Nat.reduceBEq, Nat.reduceLT, Nat.reduceLeDiff, Nat.reduceMul, Nat.zero_lt_succ, Nat.lt_add_one, Nat.zero_lt_one, Int.reduceToNat, false_implies, true_implies, or_self, or_false, false_or, or_true, true_or, Nat.add_le_add_iff_right, true_and, and_true, forall_const, implies_true, List.contains_cons, List.contains_nil, List.all_cons, List.all_nil, bne_self_eq_false, Option.isSome_none, Option.isSome_some, Bool.or_false, Bool.false_or, Bool.true_or, Bool.or_true, ne_eq, not_false_eq_true, not_true_eq_false, beq_self_eq_true, cond_true, cond_false, Prod.mk.injEq, and_self, reduceCtorEq, BEq.rfl, Bool.and_true, Bool.true_and, Bool.and_false, Bool.false_and, stPs]
          rw [(markV_pos hm).2]
          rw [one_cut (valP b)]
          exact ⟨rfl, rfl, rfl⟩
      · have := sep_no hno; omega
      · simp only [go_sem, Nat.reduceEqDiff, ↓reduceIte, Bool.false_eq_true, Nat.reduceAdd, Nat.reduceSub, Nat.reduceBNe, Nat.reduceBEq, Nat.reduceLT, Nat.reduceLeDiff, Nat.reduceMul, Nat.zero_lt_succ, Nat.lt_add_one, Nat.zero_lt_one, Int.reduceToNat, false_implies, true_implies, or_self, or_false, false_or, or_true, true_or, Nat.add_le_add_iff_right, true_and, and_true, forall_const, implies_true, List.contains_cons, List.contains_nil, List.all_cons, List.all_nil, bne_self_eq_false, Option.isSome_none, Option.isSome_some, Bool.or_false, Bool.false_or, Bool.true_or, Bool.or_true, ne_eq, not_false_eq_true, not_true_eq_false, beq_self_eq_true, cond_true, cond_false, Prod.mk.injEq, and_self, reduceCtorEq, BEq.rfl, Bool.and_true, Bool.true_and, Bool.and_false, Bool.false_and, stP0]
        rfl
      · rcases hgo with ⟨h, _⟩ | ⟨_, _, h⟩
        · simp at hge; omega
        · omega
    | succ k =>
      simp only [go_sem, Nat.reduceEqDiff, ↓reduceIte, Bool.false_eq_true, Nat.reduceAdd, Nat.reduceSub, Nat.reduceBNe, Nat.reduceBEq, Nat.reduceLT, Nat.reduceLeDiff, Nat.reduceMul, Nat.zero_lt_succ, Nat.lt_add_one, Nat.zero_lt_one, Int.reduceToNat, false_implies, true_implies, or_self, or_false, false_or, or_true, true_or, Nat.add_le_add_iff_right, true_and, and_true, forall_const, implies_true, List.contains_cons, List.contains_nil, List.all_cons, List.all_nil, bne_self_eq_false, Option.isSome_none, Option.isSome_some, Bool.or_false, Bool.false_or, Bool.true_or, Bool.or_true, ne_eq, not_false_eq_true, not_true_eq_false, beq_self_eq_true, cond_true, cond_false, Prod.mk.injEq, and_self, reduceCtorEq, BEq.rfl, Bool.and_true, Bool.true_and, Bool.and_false, Bool.false_and, decide_eq_true_eq, stPs]
      refine fun _ => ⟨fun hle _ => ⟨fun h => ?_, fun hsep => ?_, fun hno => ⟨by omega, ⟨k + 1, p, i + 1, hok, fun h => absurd h (by omega), at_skip hgo (by omega) (sep_no hno)⟩, by simp only; omega, ?_⟩⟩, fun hge => ?_⟩
      · have : (i : Int) ≠ b.size := by simpa using h
        omega
      · obtain ⟨g1, g2, g3, g4⟩ := at_step hgo (by omega) (sep_or hsep)
        refine ⟨by omega, ?_⟩
        rw [g2]
        refine ⟨_, fun _ => mark_ok (pieceB b (k + 1)), ?_, ?_⟩
        focus (first | exact fun _ => rfl | exact fun h0 => absurd h0 (by decide))
        simp only [go_sem, Nat.reduceEqDiff, ↓reduceIte, Bool.false_eq_true, Nat.reduceAdd, Nat.reduceSub, Nat.reduceBNe, Nat.reduceBEq, Nat.reduceLT, Nat.reduceLeDiff, Nat.reduceMul, Nat.zero_lt_succ, Nat.lt_add_one, Nat.zero_lt_one, Int.reduceToNat, false_implies, true_implies, or_self, or_false, false_or, or_true, true_or, Nat.add_le_add_iff_right, true_and, and_true, forall_const, implies_true, List.contains_cons, List.contains_nil, List.all_cons, List.all_nil, bne_self_eq_false, Option.isSome_none, Option.isSome_some, Bool.or_false, Bool.false_or, Bool.true_or, Bool.or_true, ne_eq, not_false_eq_true, not_true_eq_false, beq_self_eq_true, cond_true, cond_false, Prod.mk.injEq, and_self, reduceCtorEq, BEq.rfl, Bool.and_true, Bool.true_and, Bool.and_false, Bool.false_and]
        simp only [markV_def]
        refine ⟨fun hm => ?_, fun hm => ⟨by omega, by omega, by omega, ⟨k + 1 + 1, i + 1, i + 1, fun j hj => ?_, fun h => absurd h (by omega), g4⟩, by simp only; omega, ?_⟩⟩
        · obtain ⟨p1, p2⟩ := par_bad (id := id) (n := n) (f := f) g3 (markV_neg hm)
          rw [p1, p2]
        · by_cases e : j = k + 1
          · subst e; exact (markV_pos hm).1
          · exact hok j (by omega)
        · simp only [go_sem, Nat.reduceEqDiff, ↓reduceIte, Bool.false_eq_true, Nat.reduceAdd, Nat.reduceSub, Nat.reduceBNe, Nat.reduceBEq, Nat.reduceLT, Nat.reduceLeDiff, Nat.reduceMul, Nat.zero_lt_succ, Nat.lt_add_one, Nat.zero_lt_one, Int.reduceToNat, false_implies, true_implies, or_self, or_false, false_or, or_true, true_or, Nat.add_le_add_iff_right, true_and, and_true, forall_const, implies_true, List.contains_cons, List.contains_nil, List.all_cons, List.all_nil, bne_self_eq_false, Option.isSome_none, Option.isSome_some, Bool.or_false, Bool.false_or, Bool.true_or, Bool.or_true, ne_eq, not_false_eq_true, not_true_eq_false, beq_self_eq_true, cond_true, cond_false, Prod.mk.injEq, and_self, reduceCtorEq, BEq.rfl, Bool.and_true, Bool.true_and, Bool.and_false, Bool.false_and, stPs]
          rw [(markV_pos hm).2]
          rw [join_cut (k + 1) (valP b)]
          exact ⟨rfl, rfl⟩
      · simp only [go_sem, Nat.reduceEqDiff, ↓reduceIte, Bool.false_eq_true, Nat.reduceAdd, Nat.reduceSub, Nat.reduceBNe, Nat.reduceBEq, Nat.reduceLT, Nat.reduceLeDiff, Nat.reduceMul, Nat.zero_lt_succ, Nat.lt_add_one, Nat.zero_lt_one, Int.reduceToNat, false_implies, true_implies, or_self, or_false, false_or, or_true, true_or, Nat.add_le_add_iff_right, true_and, and_true, forall_const, implies_true, List.contains_cons, List.contains_nil, List.all_cons, List.all_nil, bne_self_eq_false, Option.isSome_none, Option.isSome_some, Bool.or_false, Bool.false_or, Bool.true_or, Bool.or_true, ne_eq, not_false_eq_true, not_true_eq_false, beq_self_eq_true, cond_true, cond_false, Prod.mk.injEq, and_self, reduceCtorEq, BEq.rfl, Bool.and_true, Bool.true_and, Bool.and_false, Bool.false_and, stPs]
        rfl
      · have hk : k + 1 = nP b := by
          rcases hgo with ⟨h, _⟩ | ⟨_, _, h⟩
          · simp at hge; omega
          · exact h
        have hE := par_good (id := id) (n := n) (f := f) (b := b) (by rw [← hk]; exact hok)
        rw [hk]
        refine ⟨_, fun _ => rcheck_ok id n f (nP b) (cutF (nP b) (valP b)), ?_, ?_⟩
        focus (first | exact fun _ => rfl | exact fun h0 => absurd h0 (by decide))
        simp only [go_sem, Nat.reduceEqDiff, ↓reduceIte, Bool.false_eq_true, Nat.reduceAdd, Nat.reduceSub, Nat.reduceBNe, Nat.reduceBEq, Nat.reduceLT, Nat.reduceLeDiff, Nat.reduceMul, Nat.zero_lt_succ, Nat.lt_add_one, Nat.zero_lt_one, Int.reduceToNat, false_implies, true_implies, or_self, or_false, false_or, or_true, true_or, Nat.add_le_add_iff_right, true_and, and_true, forall_const, implies_true, List.contains_cons, List.contains_nil, List.all_cons, List.all_nil, bne_self_eq_false, Option.isSome_none, Option.isSome_some, Bool.or_false, Bool.false_or, Bool.true_or, Bool.or_true, ne_eq, not_false_eq_true, not_true_eq_false, beq_self_eq_true, cond_true, cond_false, Prod.mk.injEq, and_self, reduceCtorEq, BEq.rfl, Bool.and_true, Bool.true_and, Bool.and_false, Bool.false_and]
        rw [hE]
        have hN : parN id n f b = checkR id n f (nP b) (cutF (nP b) (valP b)) := rfl
        rw [← hN]
        refine ⟨fun h => ?_, fun h => ?_⟩
        · have : parL id n f b = .nil := by
            have : parN id n f b ≠ 0 := by simpa using h
            simp [parL, hE, this]
          rw [this]
        · have h0 : parN id n f b = 0 := by simpa using h
          have : parL id n f b = mD (nP b) (cutF (nP b) (valP b)) := by simp [parL, hE, h0]
          rw [this, h0]
          rfl
end Go.Proofs.YtpfahanbkhgfhaaDoor.P41

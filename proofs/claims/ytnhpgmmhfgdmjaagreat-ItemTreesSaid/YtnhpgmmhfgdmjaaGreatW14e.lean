/- Proved here: contracts of functions of this chapter: called with these values, each returns these values and changes nothing that was. Conditions: none but those that each theorem names. -/
import Derived.Test.YtnhpgmmhfgdmjaaGreatW14c
import Derived.Test.YtnhpgmmhfgdmjaaGreatShelf14
import Derived.Lib.Join
set_option linter.unusedVariables false
set_option linter.unusedSimpArgs false
open Go Go.Proofs Go.Ev Go.RowKit
namespace Go.Proofs.YtnhpgmmhfgdmjaaGreat.P14
set_option maxRecDepth 100000
/-! pieces between points -/
def pcs : List UInt8 → List (List UInt8)
  | [] => [[]]
  | c :: r => if c = 46 then [] :: pcs r else match pcs r with
    | [] => [[c]]
    | h :: t => (c :: h) :: t
theorem pcs_length : ∀ l : List UInt8, (pcs l).length = Lib.countByte l 46 + 1
  | [] => rfl
  | c :: r => by
    have ih := pcs_length r
    simp only [pcs]
    by_cases h : c = 46
    · subst h
      simp [Lib.countByte] at ih ⊢
      omega
    · rw [if_neg h]
      have hc : Lib.countByte (c :: r) 46 = Lib.countByte r 46 := by simp [Lib.countByte, h]
      rw [hc]
      cases hp : pcs r with
      | nil => rw [hp] at ih; simp at ih
      | cons x t => rw [hp] at ih; simpa using ih
theorem pcs_none : ∀ {l : List UInt8}, (∀ c ∈ l, c ≠ 46) → pcs l = [l]
  | [], _ => rfl
  | c :: r, h => by
    have ih := pcs_none (l := r) fun x hx => h x (by simp [hx])
    simp [pcs, h c (by simp), ih]
theorem pcs_cut : ∀ {u v : List UInt8}, (∀ c ∈ u, c ≠ 46) → pcs (u ++ 46 :: v) = u :: pcs v
  | [], v, _ => by simp [pcs]
  | c :: r, v, h => by
    have ih := pcs_cut (u := r) (v := v) fun x hx => h x (by simp [hx])
    simp [pcs, h c (by simp), ih]
theorem ix_none : ∀ {l : List UInt8}, Lib.indexByte l 46 = -1 → ∀ c ∈ l, c ≠ 46
  | [], _, c, hc => by cases hc
  | b :: l, h, c, hc => by
    unfold Lib.indexByte at h
    split at h
    · cases h
    · rename_i hb
      have hge := Lib.indexByte_ge l 46
      split at h
      · rename_i h1
        rcases List.mem_cons.1 hc with rfl | hc
        · simpa using hb
        · exact ix_none (by simpa using h1) c hc
      · rename_i h1
        have : Lib.indexByte l 46 ≠ -1 := by simpa using h1
        omega
theorem ix_some : ∀ {l : List UInt8} {m : Int}, Lib.indexByte l 46 = m → 0 ≤ m → ∃ u v, l = u ++ 46 :: v ∧ (u.length : Int) = m ∧ ∀ c ∈ u, c ≠ 46
  | [], m, h, h0 => by simp [Lib.indexByte] at h; omega
  | b :: l, m, h, h0 => by
    unfold Lib.indexByte at h
    split at h
    · rename_i hb
      have : b = 46 := by simpa using hb
      subst this
      exact ⟨[], l, rfl, by simpa using h, fun c hc => by cases hc⟩
    · rename_i hb
      split at h
      · omega
      · obtain ⟨u, v, e, hl, hu⟩ := ix_some (l := l) (m := m - 1) (by omega) (by
          have := Lib.indexByte_ge l 46
          rename_i h1
          have : Lib.indexByte l 46 ≠ -1 := by simpa using h1
          omega)
        refine ⟨b :: u, v, by simp [e], by simp; omega, fun c hc => ?_⟩
        rcases List.mem_cons.1 hc with rfl | hc
        · simpa using hb
        · exact hu c hc
theorem str1 {S α w} {b : ByteArray} {vals : List Value} (h : prepL S (live sto0) α w [.d (.str b)] vals) : vals = [.string b] := by
  simp only [prepL, PV.rep, DV.rep] at h
  obtain ⟨u, us, rfl, ⟨rfl, _⟩, rfl⟩ := h
  rfl
theorem str2 {S α w} {b c : ByteArray} {vals : List Value} (h : prepL S (live sto0) α w [.d (.str b), .d (.str c)] vals) : vals = [.string b, .string c] := by
  simp only [prepL, PV.rep, DV.rep] at h
  obtain ⟨u, us, rfl, ⟨rfl, _⟩, u2, us2, rfl, ⟨rfl, _⟩, rfl⟩ := h
  rfl
def pieceB (b : ByteArray) (k : Nat) : ByteArray := ⟨((pcs b.data.toList).getD k []).toArray⟩
def nP (b : ByteArray) : Nat := Lib.countByte b.data.toList 46 + 1
def cutS (n : Nat) (g : Nat → ByteArray) (k : Nat) : ByteArray := if k < n then g k else ⟨#[]⟩
theorem cutS_step (n : Nat) (g : Nat → ByteArray) (x : ByteArray) (h : x = g n) : (fun k => if k = n then DV.str x else DV.str (cutS n g k)) = fun k => DV.str (cutS (n + 1) g k) := by
  funext k
  simp only [cutS]
  by_cases h1 : k = n
  · subst h1; simp [h]
  · rw [if_neg h1]
    by_cases h2 : k < n
    · rw [if_pos h2, if_pos (by omega)]
    · rw [if_neg h2, if_neg (by omega)]
theorem pcs_nP (b : ByteArray) : (pcs b.data.toList).length = nP b := pcs_length _
theorem ba_list (l : List UInt8) : (⟨l.toArray⟩ : ByteArray).data.toList = l := by simp
theorem extract_list (b : ByteArray) (i j : Nat) : (b.extract i j).data.toList = (b.data.toList.take j).drop i := by
  rw [ByteArray.data_extract, Array.toList_extract, List.extract_eq_take_drop, List.drop_take]
theorem ba_ext {a b : ByteArray} (h : a.data.toList = b.data.toList) : a = b := by
  cases a; cases b
  simp at h
  simp [h]
theorem find_ok (b : ByteArray) : FnD Tryz.prog 104 [.d (.str b), .d (.str ⟨#[46]⟩)] [.int .i64 (Lib.indexByte b.data.toList 46)] := by
  refine fnD_flat (callable_of Tryz.func104 rfl rfl) [.string b, .string ⟨#[46]⟩] (.int .i64 (Lib.indexByte b.data.toList 46)) (fun _ _ _ _ h => str2 h) (fun _ _ _ => by simp only [PV.rep, DV.rep]) fun w => ?_
  exact (Tryz.stringslite_Index_one b 46 w).mono fun e w' ⟨h1, h2⟩ => ⟨h1, h2 ▸ Below.refl _ _⟩
@[go_sem] theorem ks0 : konst (.string ⟨#[]⟩) = .d (.str ⟨#[]⟩) := rfl
@[go_sem] theorem ks46 : konst (.string ⟨#[46]⟩) = .d (.str ⟨#[46]⟩) := rfl
/-- What strings.Cut gives: the first piece, the rest, whether there is one. -/
def cut1 (b : ByteArray) : ByteArray := if Lib.indexByte b.data.toList 46 < 0 then b else b.extract 0 (Lib.indexByte b.data.toList 46).toNat
def cut2 (b : ByteArray) : ByteArray := if Lib.indexByte b.data.toList 46 < 0 then ⟨#[]⟩ else b.extract ((Lib.indexByte b.data.toList 46) + 1).toNat b.size
def cut3 (b : ByteArray) : Bool := decide (0 ≤ Lib.indexByte b.data.toList 46)
theorem ix_lt {l : List UInt8} {m : Int} (h : Lib.indexByte l 46 = m) (h0 : 0 ≤ m) : m < l.length := by
  obtain ⟨u, v, e, hl, _⟩ := ix_some h h0
  rw [e]
  simp
  omega
theorem icut_ok (b : ByteArray) : FnD Tryz.prog 92 [.d (.str b), .d (.str ⟨#[46]⟩)] [.str (cut1 b), .str (cut2 b), .bool (cut3 b)] := by
  refine fnD_fits (callable_of Tryz.func92 rfl rfl) fun hfit => ?_
  unfold fits at hfit
  refine fnD_intro (H := { nt := Go.Func.ntmps Tryz.f92, qs := [(3, 12)] }) Tryz.func92 rfl rfl rfl rfl (Nat.le_of_ble_eq_true rfl) (okC_tri (by kernel_rfl) _ _ _ _ (by kernel_rfl) ?_)
  simp only [go_sem, Nat.reduceEqDiff, ↓reduceIte, Bool.false_eq_true, Nat.reduceAdd, Nat.reduceSub, Nat.reduceBNe, Nat.reduceBEq, Nat.reduceLT, Nat.reduceLeDiff, Nat.reduceMul, Nat.zero_lt_succ, Nat.lt_add_one, Nat.zero_lt_one, Int.reduceToNat, false_implies, true_implies, or_self, or_false, false_or, or_true, true_or, Nat.add_le_add_iff_right, true_and, and_true, forall_const, implies_true, List.contains_cons, List.contains_nil, List.all_cons, List.all_nil, bne_self_eq_false, Option.isSome_none, Option.isSome_some, Bool.or_false, Bool.false_or, Bool.true_or, Bool.or_true, ne_eq, not_false_eq_true, not_true_eq_false, beq_self_eq_true, cond_true, cond_false, Prod.mk.injEq, and_self, reduceCtorEq, BEq.rfl, Bool.and_true, Bool.true_and, Bool.and_false, Bool.false_and, Tryz.f92]
  refine ⟨_, fun _ => find_ok b, ?_, ?_⟩
  focus (first | exact fun _ => rfl | exact fun h0 => absurd h0 (by decide))
  simp only [go_sem, Nat.reduceEqDiff, ↓reduceIte, Bool.false_eq_true, Nat.reduceAdd, Nat.reduceSub, Nat.reduceBNe, Nat.reduceBEq, Nat.reduceLT, Nat.reduceLeDiff, Nat.reduceMul, Nat.zero_lt_succ, Nat.lt_add_one, Nat.zero_lt_one, Int.reduceToNat, false_implies, true_implies, or_self, or_false, false_or, or_true, true_or, Nat.add_le_add_iff_right, true_and, and_true, forall_const, implies_true, List.contains_cons, List.contains_nil, List.all_cons, List.all_nil, bne_self_eq_false, Option.isSome_none, Option.isSome_some, Bool.or_false, Bool.false_or, Bool.true_or, Bool.or_true, ne_eq, not_false_eq_true, not_true_eq_false, beq_self_eq_true, cond_true, cond_false, Prod.mk.injEq, and_self, reduceCtorEq, BEq.rfl, Bool.and_true, Bool.true_and, Bool.and_false, Bool.false_and]
  have hlt : 0 ≤ Lib.indexByte b.data.toList 46 → Lib.indexByte b.data.toList 46 < b.size := fun h => by
    have := ix_lt rfl h
    have e : b.data.toList.length = b.size := rfl
    rw [e] at this
    exact this
  unfold cut1 cut2 cut3
  generalize Lib.indexByte b.data.toList 46 = m at hlt ⊢
  have es : ((#[46] : Array UInt8).size : Int) = 1 := rfl
  simp only [go_sem, Nat.reduceEqDiff, ↓reduceIte, Bool.false_eq_true, Nat.reduceAdd, Nat.reduceSub, Nat.reduceBNe, Nat.reduceBEq, Nat.reduceLT, Nat.reduceLeDiff, Nat.reduceMul, Nat.zero_lt_succ, Nat.lt_add_one, Nat.zero_lt_one, Int.reduceToNat, false_implies, true_implies, or_self, or_false, false_or, or_true, true_or, Nat.add_le_add_iff_right, true_and, and_true, forall_const, implies_true, List.contains_cons, List.contains_nil, List.all_cons, List.all_nil, bne_self_eq_false, Option.isSome_none, Option.isSome_some, Bool.or_false, Bool.false_or, Bool.true_or, Bool.or_true, ne_eq, not_false_eq_true, not_true_eq_false, beq_self_eq_true, cond_true, cond_false, Prod.mk.injEq, and_self, reduceCtorEq, BEq.rfl, Bool.and_true, Bool.true_and, Bool.and_false, Bool.false_and, es]
  refine ⟨fun h => ?_, fun h => ?_⟩
  · have h0 : 0 ≤ m := by simpa using h
    have := hlt h0
    have hn : ¬ m < 0 := by omega
    rw [if_neg hn, if_neg hn, h]
    exact ⟨by omega, by omega, by omega, rfl⟩
  · have hn : m < 0 := by simpa using h
    rw [if_pos hn, if_pos hn, h]
theorem cut_ok (b : ByteArray) : FnD Tryz.prog 88 [.d (.str b), .d (.str ⟨#[46]⟩)] [.str (cut1 b), .str (cut2 b), .bool (cut3 b)] := by
  refine fnD_intro (H := { nt := Go.Func.ntmps Tryz.f88 }) Tryz.func88 rfl rfl rfl rfl (Nat.le_of_ble_eq_true rfl) (okC_tri (by kernel_rfl) _ _ _ _ (by kernel_rfl) ?_)
  simp only [go_sem, Nat.reduceEqDiff, ↓reduceIte, Bool.false_eq_true, Nat.reduceAdd, Nat.reduceSub, Nat.reduceBNe, Nat.reduceBEq, Nat.reduceLT, Nat.reduceLeDiff, Nat.reduceMul, Nat.zero_lt_succ, Nat.lt_add_one, Nat.zero_lt_one, Int.reduceToNat, false_implies, true_implies, or_self, or_false, false_or, or_true, true_or, Nat.add_le_add_iff_right, true_and, and_true, forall_const, implies_true, List.contains_cons, List.contains_nil, List.all_cons, List.all_nil, bne_self_eq_false, Option.isSome_none, Option.isSome_some, Bool.or_false, Bool.false_or, Bool.true_or, Bool.or_true, ne_eq, not_false_eq_true, not_true_eq_false, beq_self_eq_true, cond_true, cond_false, Prod.mk.injEq, and_self, reduceCtorEq, BEq.rfl, Bool.and_true, Bool.true_and, Bool.and_false, Bool.false_and, Tryz.f88]
  refine ⟨_, fun _ => icut_ok b, ?_, ?_⟩
  focus (first | exact fun _ => rfl | exact fun h0 => absurd h0 (by decide))
  simp only [go_sem, Nat.reduceEqDiff, ↓reduceIte, Bool.false_eq_true, Nat.reduceAdd, Nat.reduceSub, Nat.reduceBNe, Nat.reduceBEq, Nat.reduceLT, Nat.reduceLeDiff, Nat.reduceMul, Nat.zero_lt_succ, Nat.lt_add_one, Nat.zero_lt_one, Int.reduceToNat, false_implies, true_implies, or_self, or_false, false_or, or_true, true_or, Nat.add_le_add_iff_right, true_and, and_true, forall_const, implies_true, List.contains_cons, List.contains_nil, List.all_cons, List.all_nil, bne_self_eq_false, Option.isSome_none, Option.isSome_some, Bool.or_false, Bool.false_or, Bool.true_or, Bool.or_true, ne_eq, not_false_eq_true, not_true_eq_false, beq_self_eq_true, cond_true, cond_false, Prod.mk.injEq, and_self, reduceCtorEq, BEq.rfl, Bool.and_true, Bool.true_and, Bool.and_false, Bool.false_and]
def woB (b : ByteArray) (i : Nat) : Bool := !(bif bif decide ((bget b i : Int) < 65) then true else decide (90 < (bget b i : Int)) then bif decide ((bget b i : Int) < 48) then true else decide (57 < (bget b i : Int)) else false)
def wordR (b : ByteArray) : Bool := bif bif decide ((b.size : Int) < 1) then true else decide (8 < (b.size : Int)) then false else allN (woB b) b.size
theorem word_ok (b : ByteArray) : FnD Tryz.prog 83 [.d (.str b)] [.bool (wordR b)] := by
  refine fnD_intro (H := { nt := Go.Func.ntmps Tryz.f83 }) Tryz.func83 rfl rfl rfl rfl (Nat.le_of_ble_eq_true rfl) (okC_tri (by kernel_rfl) _ _ _ _ (by kernel_rfl) ?_)
  simp only [go_sem, Nat.reduceEqDiff, ↓reduceIte, Bool.false_eq_true, Nat.reduceAdd, Nat.reduceSub, Nat.reduceBNe, Nat.reduceBEq, Nat.reduceLT, Nat.reduceLeDiff, Nat.reduceMul, Nat.zero_lt_succ, Nat.lt_add_one, Nat.zero_lt_one, Int.reduceToNat, false_implies, true_implies, or_self, or_false, false_or, or_true, true_or, Nat.add_le_add_iff_right, true_and, and_true, forall_const, implies_true, List.contains_cons, List.contains_nil, List.all_cons, List.all_nil, bne_self_eq_false, Option.isSome_none, Option.isSome_some, Bool.or_false, Bool.false_or, Bool.true_or, Bool.or_true, ne_eq, not_false_eq_true, not_true_eq_false, beq_self_eq_true, cond_true, cond_false, Prod.mk.injEq, and_self, reduceCtorEq, BEq.rfl, Bool.and_true, Bool.true_and, Bool.and_false, Bool.false_and, Tryz.f83]
  intro hf
  unfold fits at hf
  refine ⟨fun h => by simp only [wordR, h, cond_true], fun h _ => ?_⟩
  refine ⟨{ i : Nat // i ≤ b.size ∧ ∀ j, j < i → woB b j = true }, fun i => ([(14, .d (.int .i64 i)), (13, .d (.int .i64 b.size)), (2, .d (.bool false)), (0, .d (.str b))], []), fun i => b.size - i, ⟨0, Nat.zero_le _, fun j h => absurd h (by omega)⟩, ?_, ?_⟩
  · simp only [go_sem, Nat.reduceEqDiff, ↓reduceIte, Bool.false_eq_true, Nat.reduceAdd, Nat.reduceSub, Nat.reduceBNe, Nat.reduceBEq, Nat.reduceLT, Nat.reduceLeDiff, Nat.reduceMul, Nat.zero_lt_succ, Nat.lt_add_one, Nat.zero_lt_one, Int.reduceToNat, false_implies, true_implies, or_self, or_false, false_or, or_true, true_or, Nat.add_le_add_iff_right, true_and, and_true, forall_const, implies_true, List.contains_cons, List.contains_nil, List.all_cons, List.all_nil, bne_self_eq_false, Option.isSome_none, Option.isSome_some, Bool.or_false, Bool.false_or, Bool.true_or, Bool.or_true, ne_eq, not_false_eq_true, not_true_eq_false, beq_self_eq_true, cond_true, cond_false, Prod.mk.injEq, and_self, reduceCtorEq, BEq.rfl, Bool.and_true, Bool.true_and, Bool.and_false, Bool.false_and]
    rfl
  · rintro ⟨i, hi, hok⟩
    simp only [go_sem, Nat.reduceEqDiff, ↓reduceIte, Bool.false_eq_true, Nat.reduceAdd, Nat.reduceSub, Nat.reduceBNe, Nat.reduceBEq, Nat.reduceLT, Nat.reduceLeDiff, Nat.reduceMul, Nat.zero_lt_succ, Nat.lt_add_one, Nat.zero_lt_one, Int.reduceToNat, false_implies, true_implies, or_self, or_false, false_or, or_true, true_or, Nat.add_le_add_iff_right, true_and, and_true, forall_const, implies_true, List.contains_cons, List.contains_nil, List.all_cons, List.all_nil, bne_self_eq_false, Option.isSome_none, Option.isSome_some, Bool.or_false, Bool.false_or, Bool.true_or, Bool.or_true, ne_eq, not_false_eq_true, not_true_eq_false, beq_self_eq_true, cond_true, cond_false, Prod.mk.injEq, and_self, reduceCtorEq, BEq.rfl, Bool.and_true, Bool.true_and, Bool.and_false, Bool.false_and, decide_eq_true_eq]
    refine ⟨fun hlt => ⟨by omega, fun _ => by omega, fun _ => by omega, fun _ => by omega, fun hbad => ?_, fun hgood => ⟨by constructor <;> omega, ⟨i + 1, by omega, fun j hj => ?_⟩, by simp only; omega, by simp⟩⟩, fun hge => ?_⟩
    · have hp : woB b i = false := by simp only [woB, hbad]; rfl
      simp only [wordR, h, cond_false, allN_no (show i < b.size by omega) hp]
    · by_cases e : j = i
      · subst e; simp only [woB, hgood]; rfl
      · exact hok j (by omega)
    · have : i = b.size := by simp at hge; omega
      subst this
      simp only [wordR, h, cond_false, allN_yes hok]
/-! segments -/
theorem nP_pos (b : ByteArray) : 1 ≤ nP b := Nat.succ_le_succ (Nat.zero_le _)
/-- One cut more. -/
theorem cut_step {b x : ByteArray} {k : Nat} (hk : k < nP b) (hp : (pcs b.data.toList).drop k = pcs x.data.toList) :
    cut1 x = pieceB b k ∧ cut3 x = decide (k + 1 < nP b) ∧ (k + 1 < nP b → (pcs b.data.toList).drop (k + 1) = pcs (cut2 x).data.toList) := by
  have hlen : (pcs x.data.toList).length = nP b - k := by
    rw [← hp, List.length_drop]
    have := pcs_length b.data.toList
    have e : nP b = Lib.countByte b.data.toList 46 + 1 := rfl
    omega
  have hpi : pieceB b k = ⟨((pcs x.data.toList).getD 0 []).toArray⟩ := by
    rw [pieceB, ← hp, List.getD_eq_getElem?_getD, List.getD_eq_getElem?_getD, List.getElem?_drop]
    rfl
  by_cases h0 : Lib.indexByte x.data.toList 46 < 0
  · have hge := Lib.indexByte_ge x.data.toList 46
    have hone := pcs_none (ix_none (l := x.data.toList) (by omega))
    rw [hone] at hlen
    simp at hlen
    refine ⟨?_, ?_, fun h => by omega⟩
    · rw [cut1, if_pos h0, hpi, hone]
      apply ba_ext
      simp
    · have e1 : cut3 x = false := by unfold cut3; simp; omega
      have e2 : decide (k + 1 < nP b) = false := by simp; omega
      rw [e1, e2]
  · obtain ⟨u, v, hx1, hu, hun⟩ := ix_some (l := x.data.toList) rfl (by omega)
    have hpc := pcs_cut (v := v) hun
    rw [← hx1] at hpc
    have hvl := pcs_length v
    have hk1 : k + 1 < nP b := by
      rw [hpc] at hlen
      simp at hlen
      omega
    have hxs : x.size = u.length + 1 + v.length := by
      have : x.data.toList.length = x.size := rfl
      rw [← this, hx1]
      simp
      omega
    refine ⟨?_, ?_, fun _ => ?_⟩
    · rw [cut1, if_neg h0, hpi, hpc, show (Lib.indexByte x.data.toList 46).toNat = u.length by omega]
      apply ba_ext
      rw [extract_list, hx1, List.take_left' rfl]
      simp
    · have e1 : cut3 x = true := by unfold cut3; simp; omega
      have e2 : decide (k + 1 < nP b) = true := by simp; omega
      rw [e1, e2]
    · rw [cut2, if_neg h0, show (Lib.indexByte x.data.toList 46 + 1).toNat = u.length + 1 by omega, ← List.drop_drop, hp, hpc]
      have : (x.extract (u.length + 1) x.size).data.toList = v := by
        rw [extract_list, hx1, List.take_of_length_le (by simp; omega)]
        have : u ++ 46 :: v = (u ++ [46]) ++ v := by simp
        rw [this, List.drop_left' (by simp)]
      rw [this]
      rfl
def segC (b : ByteArray) (k : Nat) : List DV := [.str (cutS k (pieceB b) 0), .str (cutS k (pieceB b) 1), .str (cutS k (pieceB b) 2), .str (cutS k (pieceB b) 3), .str (cutS k (pieceB b) 4)]
structure SegAt (b : ByteArray) where
  k : Nat
  x : ByteArray
  k5 : k ≤ 5
  kn : k ≤ nP b
  go : k < nP b → (pcs b.data.toList).drop k = pcs x.data.toList
theorem segments_ok (b : ByteArray) : FnD Tryz.prog 82 [.d (.str b)] [.agg (segC b (min 5 (nP b))), .int .i64 (if nP b ≤ 5 then nP b else 0 : Nat)] := by
  have hn1 := nP_pos b
  refine fnD_intro (H := { nt := Go.Func.ntmps Tryz.f82 }) Tryz.func82 rfl rfl rfl rfl (Nat.le_of_ble_eq_true rfl) (okC_tri (by kernel_rfl) _ _ _ _ (by kernel_rfl) ?_)
  simp only [go_sem, Nat.reduceEqDiff, ↓reduceIte, Bool.false_eq_true, Nat.reduceAdd, Nat.reduceSub, Nat.reduceBNe, Nat.reduceBEq, Nat.reduceLT, Nat.reduceLeDiff, Nat.reduceMul, Nat.zero_lt_succ, Nat.lt_add_one, Nat.zero_lt_one, Int.reduceToNat, false_implies, true_implies, or_self, or_false, false_or, or_true, true_or, Nat.add_le_add_iff_right, true_and, and_true, forall_const, implies_true, List.contains_cons, List.contains_nil, List.all_cons, List.all_nil, bne_self_eq_false, Option.isSome_none, Option.isSome_some, Bool.or_false, Bool.false_or, Bool.true_or, Bool.or_true, ne_eq, not_false_eq_true, not_true_eq_false, beq_self_eq_true, cond_true, cond_false, Prod.mk.injEq, and_self, reduceCtorEq, BEq.rfl, Bool.and_true, Bool.true_and, Bool.and_false, Bool.false_and, Tryz.f82]
  refine ⟨SegAt b, fun y => ([(7, .d (.bool (decide (y.k < nP b)))), (6, .d (.str y.x)), (5, .d (.int .i64 y.k)), (4, .ptr 1 0), (2, .ptr 0 0)], [.box [.d (.str ⟨#[]⟩), .d (.str ⟨#[]⟩), .d (.str ⟨#[]⟩), .d (.str ⟨#[]⟩), .d (.str ⟨#[]⟩)], .box [.d (.str (cutS y.k (pieceB b) 0)), .d (.str (cutS y.k (pieceB b) 1)), .d (.str (cutS y.k (pieceB b) 2)), .d (.str (cutS y.k (pieceB b) 3)), .d (.str (cutS y.k (pieceB b) 4))]]), fun y => 6 - y.k, ⟨0, b, by omega, by omega, fun _ => rfl⟩, ?_, ?_⟩
  · simp only [go_sem, Nat.reduceEqDiff, ↓reduceIte, Bool.false_eq_true, Nat.reduceAdd, Nat.reduceSub, Nat.reduceBNe, Nat.reduceBEq, Nat.reduceLT, Nat.reduceLeDiff, Nat.reduceMul, Nat.zero_lt_succ, Nat.lt_add_one, Nat.zero_lt_one, Int.reduceToNat, false_implies, true_implies, or_self, or_false, false_or, or_true, true_or, Nat.add_le_add_iff_right, true_and, and_true, forall_const, implies_true, List.contains_cons, List.contains_nil, List.all_cons, List.all_nil, bne_self_eq_false, Option.isSome_none, Option.isSome_some, Bool.or_false, Bool.false_or, Bool.true_or, Bool.or_true, ne_eq, not_false_eq_true, not_true_eq_false, beq_self_eq_true, cond_true, cond_false, Prod.mk.injEq, and_self, reduceCtorEq, BEq.rfl, Bool.and_true, Bool.true_and, Bool.and_false, Bool.false_and]
    have e : decide (0 < nP b) = true := by simp; omega
    rw [e]
    simp [cutS]
  · rintro ⟨k, x, k5, kn, go⟩
    simp only [go_sem, Nat.reduceEqDiff, ↓reduceIte, Bool.false_eq_true, Nat.reduceAdd, Nat.reduceSub, Nat.reduceBNe, Nat.reduceBEq, Nat.reduceLT, Nat.reduceLeDiff, Nat.reduceMul, Nat.zero_lt_succ, Nat.lt_add_one, Nat.zero_lt_one, Int.reduceToNat, false_implies, true_implies, or_self, or_false, false_or, or_true, true_or, Nat.add_le_add_iff_right, true_and, and_true, forall_const, implies_true, List.contains_cons, List.contains_nil, List.all_cons, List.all_nil, bne_self_eq_false, Option.isSome_none, Option.isSome_some, Bool.or_false, Bool.false_or, Bool.true_or, Bool.or_true, ne_eq, not_false_eq_true, not_true_eq_false, beq_self_eq_true, cond_true, cond_false, Prod.mk.injEq, and_self, reduceCtorEq, BEq.rfl, Bool.and_true, Bool.true_and, Bool.and_false, Bool.false_and, decide_eq_true_eq]
    refine ⟨fun hlt => ⟨fun h5 => ?_, fun h5 => ?_⟩, fun hge => ?_⟩
    · have h5' : k = 5 := by
        have : (k : Int) = 5 := by simpa using h5
        omega
      subst h5'
      rw [if_neg (by omega), Nat.min_eq_left (by omega)]
      rfl
    · obtain ⟨c1, c2, c3⟩ := cut_step hlt (go hlt)
      have hk : k < 5 := by
        have : (k : Int) ≠ 5 := by simpa using h5
        omega
      refine ⟨_, fun _ => cut_ok x, ?_, ?_⟩
      focus (first | exact fun _ => rfl | exact fun h0 => absurd h0 (by decide))
      simp only [go_sem, Nat.reduceEqDiff, ↓reduceIte, Bool.false_eq_true, Nat.reduceAdd, Nat.reduceSub, Nat.reduceBNe, Nat.reduceBEq, Nat.reduceLT, Nat.reduceLeDiff, Nat.reduceMul, Nat.zero_lt_succ, Nat.lt_add_one, Nat.zero_lt_one, Int.reduceToNat, false_implies, true_implies, or_self, or_false, false_or, or_true, true_or, Nat.add_le_add_iff_right, true_and, and_true, forall_const, implies_true, List.contains_cons, List.contains_nil, List.all_cons, List.all_nil, bne_self_eq_false, Option.isSome_none, Option.isSome_some, Bool.or_false, Bool.false_or, Bool.true_or, Bool.or_true, ne_eq, not_false_eq_true, not_true_eq_false, beq_self_eq_true, cond_true, cond_false, Prod.mk.injEq, and_self, reduceCtorEq, BEq.rfl, Bool.and_true, Bool.true_and, Bool.and_false, Bool.false_and]
      match k, hk with
      | 0, _ | 1, _ | 2, _ | 3, _ | 4, _ =>
        refine ⟨by decide, ?_⟩
        simp only [go_sem, Nat.reduceEqDiff, ↓reduceIte, Bool.false_eq_true, Nat.reduceAdd, Nat.reduceSub, Nat.reduceBNe, Nat.reduceBEq, Nat.reduceLT, Nat.reduceLeDiff, Nat.reduceMul, Nat.zero_lt_succ, Nat.lt_add_one, Nat.zero_lt_one, Int.reduceToNat, false_implies, true_implies, or_self, or_false, false_or, or_true, true_or, Nat.add_le_add_iff_right, true_and, and_true, forall_const, implies_true, List.contains_cons, List.contains_nil, List.all_cons, List.all_nil, bne_self_eq_false, Option.isSome_none, Option.isSome_some, Bool.or_false, Bool.false_or, Bool.true_or, Bool.or_true, ne_eq, not_false_eq_true, not_true_eq_false, beq_self_eq_true, cond_true, cond_false, Prod.mk.injEq, and_self, reduceCtorEq, BEq.rfl, Bool.and_true, Bool.true_and, Bool.and_false, Bool.false_and, Nat.zero_mul, Nat.mul_one]
        refine ⟨by decide, ⟨_, cut2 x, ?_, ?_, c3⟩, ?_, ?_⟩
        · omega
        · omega
        · simp only; omega
        · refine ⟨⟨?_, rfl, rfl⟩, ?_⟩
          · rw [c2]
          · simp [cutS, c1]
      | k + 5, h => exact absurd h (by omega)
    · have hk : k = nP b := by simp at hge; omega
      subst hk
      rw [if_pos k5, Nat.min_eq_right k5]
      rfl
def conR (b : ByteArray) : Bool := bif decide (24 < (b.size : Int)) then false else bif decide (nP b ≤ 5) then allN (fun j => wordR (pieceB b j)) (nP b) else false
theorem word_bad {b : ByteArray} {i n : Nat} (h : i < n) (hw : (!wordR (pieceB b i)) = true) : [DV.bool false] = [DV.bool (allN (fun j => wordR (pieceB b j)) n)] := by
  have hp : wordR (pieceB b i) = false := by simpa using hw
  rw [allN_no (p := fun j => wordR (pieceB b j)) h hp]
theorem word_next {b : ByteArray} {i : Nat} (hok : ∀ j, j < i → wordR (pieceB b j) = true) (hw : (!wordR (pieceB b i)) = false) : ∀ j, j < i + 1 → wordR (pieceB b j) = true := fun j hj => by
  by_cases e : j = i
  · subst e; simpa using hw
  · exact hok j (by omega)
theorem content_ok (b : ByteArray) : FnD Tryz.prog 69 [.d (.str b)] [.bool (conR b)] := by
  have hn1 := nP_pos b
  refine fnD_intro (H := { nt := Go.Func.ntmps Tryz.f69 }) Tryz.func69 rfl rfl rfl rfl (Nat.le_of_ble_eq_true rfl) (okC_tri (by kernel_rfl) _ _ _ _ (by kernel_rfl) ?_)
  simp only [go_sem, Nat.reduceEqDiff, ↓reduceIte, Bool.false_eq_true, Nat.reduceAdd, Nat.reduceSub, Nat.reduceBNe, Nat.reduceBEq, Nat.reduceLT, Nat.reduceLeDiff, Nat.reduceMul, Nat.zero_lt_succ, Nat.lt_add_one, Nat.zero_lt_one, Int.reduceToNat, false_implies, true_implies, or_self, or_false, false_or, or_true, true_or, Nat.add_le_add_iff_right, true_and, and_true, forall_const, implies_true, List.contains_cons, List.contains_nil, List.all_cons, List.all_nil, bne_self_eq_false, Option.isSome_none, Option.isSome_some, Bool.or_false, Bool.false_or, Bool.true_or, Bool.or_true, ne_eq, not_false_eq_true, not_true_eq_false, beq_self_eq_true, cond_true, cond_false, Prod.mk.injEq, and_self, reduceCtorEq, BEq.rfl, Bool.and_true, Bool.true_and, Bool.and_false, Bool.false_and, Tryz.f69]
  intro hf
  refine ⟨fun h => by simp only [conR, h, cond_true], fun h => ?_⟩
  refine ⟨_, fun _ => segments_ok b, ?_, ?_⟩
  focus (first | exact fun _ => rfl | exact fun h0 => absurd h0 (by decide))
  simp only [go_sem, Nat.reduceEqDiff, ↓reduceIte, Bool.false_eq_true, Nat.reduceAdd, Nat.reduceSub, Nat.reduceBNe, Nat.reduceBEq, Nat.reduceLT, Nat.reduceLeDiff, Nat.reduceMul, Nat.zero_lt_succ, Nat.lt_add_one, Nat.zero_lt_one, Int.reduceToNat, false_implies, true_implies, or_self, or_false, false_or, or_true, true_or, Nat.add_le_add_iff_right, true_and, and_true, forall_const, implies_true, List.contains_cons, List.contains_nil, List.all_cons, List.all_nil, bne_self_eq_false, Option.isSome_none, Option.isSome_some, Bool.or_false, Bool.false_or, Bool.true_or, Bool.or_true, ne_eq, not_false_eq_true, not_true_eq_false, beq_self_eq_true, cond_true, cond_false, Prod.mk.injEq, and_self, reduceCtorEq, BEq.rfl, Bool.and_true, Bool.true_and, Bool.and_false, Bool.false_and]
  by_cases hn : nP b ≤ 5
  · have hd : decide (nP b ≤ 5) = true := by simpa using hn
    rw [if_pos hn, Nat.min_eq_right hn]
    simp only [go_sem, Nat.reduceEqDiff, ↓reduceIte, Bool.false_eq_true, Nat.reduceAdd, Nat.reduceSub, Nat.reduceBNe, Nat.reduceBEq, Nat.reduceLT, Nat.reduceLeDiff, Nat.reduceMul, Nat.zero_lt_succ, Nat.lt_add_one, Nat.zero_lt_one, Int.reduceToNat, false_implies, true_implies, or_self, or_false, false_or, or_true, true_or, Nat.add_le_add_iff_right, true_and, and_true, forall_const, implies_true, List.contains_cons, List.contains_nil, List.all_cons, List.all_nil, bne_self_eq_false, Option.isSome_none, Option.isSome_some, Bool.or_false, Bool.false_or, Bool.true_or, Bool.or_true, ne_eq, not_false_eq_true, not_true_eq_false, beq_self_eq_true, cond_true, cond_false, Prod.mk.injEq, and_self, reduceCtorEq, BEq.rfl, Bool.and_true, Bool.true_and, Bool.and_false, Bool.false_and, conR, h, hd, segC]
    refine ⟨{ i : Nat // i ≤ nP b ∧ ∀ j, j < i → wordR (pieceB b j) = true }, fun i => ([(15, .d (.int .i64 i)), (14, .d (.int .i64 (nP b))), (4, .d (.int .i64 (nP b))), (3, .ptr 0 0), (2, .d (.bool false))], [.box [.d (.str (cutS (nP b) (pieceB b) 0)), .d (.str (cutS (nP b) (pieceB b) 1)), .d (.str (cutS (nP b) (pieceB b) 2)), .d (.str (cutS (nP b) (pieceB b) 3)), .d (.str (cutS (nP b) (pieceB b) 4))]]), fun i => nP b - i, ⟨0, Nat.zero_le _, fun j h => absurd h (by omega)⟩, ?_, ?_⟩
    · simp only [go_sem, Nat.reduceEqDiff, ↓reduceIte, Bool.false_eq_true, Nat.reduceAdd, Nat.reduceSub, Nat.reduceBNe, Nat.reduceBEq, Nat.reduceLT, Nat.reduceLeDiff, Nat.reduceMul, Nat.zero_lt_succ, Nat.lt_add_one, Nat.zero_lt_one, Int.reduceToNat, false_implies, true_implies, or_self, or_false, false_or, or_true, true_or, Nat.add_le_add_iff_right, true_and, and_true, forall_const, implies_true, List.contains_cons, List.contains_nil, List.all_cons, List.all_nil, bne_self_eq_false, Option.isSome_none, Option.isSome_some, Bool.or_false, Bool.false_or, Bool.true_or, Bool.or_true, ne_eq, not_false_eq_true, not_true_eq_false, beq_self_eq_true, cond_true, cond_false, Prod.mk.injEq, and_self, reduceCtorEq, BEq.rfl, Bool.and_true, Bool.true_and, Bool.and_false, Bool.false_and]
      rfl
    · rintro ⟨i, hi, hok⟩
      simp only [go_sem, Nat.reduceEqDiff, ↓reduceIte, Bool.false_eq_true, Nat.reduceAdd, Nat.reduceSub, Nat.reduceBNe, Nat.reduceBEq, Nat.reduceLT, Nat.reduceLeDiff, Nat.reduceMul, Nat.zero_lt_succ, Nat.lt_add_one, Nat.zero_lt_one, Int.reduceToNat, false_implies, true_implies, or_self, or_false, false_or, or_true, true_or, Nat.add_le_add_iff_right, true_and, and_true, forall_const, implies_true, List.contains_cons, List.contains_nil, List.all_cons, List.all_nil, bne_self_eq_false, Option.isSome_none, Option.isSome_some, Bool.or_false, Bool.false_or, Bool.true_or, Bool.or_true, ne_eq, not_false_eq_true, not_true_eq_false, beq_self_eq_true, cond_true, cond_false, Prod.mk.injEq, and_self, reduceCtorEq, BEq.rfl, Bool.and_true, Bool.true_and, Bool.and_false, Bool.false_and, decide_eq_true_eq]
      refine ⟨fun hlt => ⟨by omega, ?_⟩, fun hge => ?_⟩
      · have hi5 : i < 5 := by omega
        match i, hi5 with
        | 0, _ | 1, _ | 2, _ | 3, _ | 4, _ =>
          simp only [go_sem, Nat.reduceEqDiff, ↓reduceIte, Bool.false_eq_true, Nat.reduceAdd, Nat.reduceSub, Nat.reduceBNe, Nat.reduceBEq, Nat.reduceLT, Nat.reduceLeDiff, Nat.reduceMul, Nat.zero_lt_succ, Nat.lt_add_one, Nat.zero_lt_one, Int.reduceToNat, false_implies, true_implies, or_self, or_false, false_or, or_true, true_or, Nat.add_le_add_iff_right, true_and, and_true, forall_const, implies_true, List.contains_cons, List.contains_nil, List.all_cons, List.all_nil, bne_self_eq_false, Option.isSome_none, Option.isSome_some, Bool.or_false, Bool.false_or, Bool.true_or, Bool.or_true, ne_eq, not_false_eq_true, not_true_eq_false, beq_self_eq_true, cond_true, cond_false, Prod.mk.injEq, and_self, reduceCtorEq, BEq.rfl, Bool.and_true, Bool.true_and, Bool.and_false, Bool.false_and, Nat.zero_mul, Nat.mul_one]
          rename_i hi5
          rw [show cutS (nP b) (pieceB b) _ = pieceB b _ from if_pos (by omega)]
          refine ⟨_, fun _ => word_ok _, nofun, ?_⟩
          simp only [go_sem, Nat.reduceEqDiff, ↓reduceIte, Bool.false_eq_true, Nat.reduceAdd, Nat.reduceSub, Nat.reduceBNe, Nat.reduceBEq, Nat.reduceLT, Nat.reduceLeDiff, Nat.reduceMul, Nat.zero_lt_succ, Nat.lt_add_one, Nat.zero_lt_one, Int.reduceToNat, false_implies, true_implies, or_self, or_false, false_or, or_true, true_or, Nat.add_le_add_iff_right, true_and, and_true, forall_const, implies_true, List.contains_cons, List.contains_nil, List.all_cons, List.all_nil, bne_self_eq_false, Option.isSome_none, Option.isSome_some, Bool.or_false, Bool.false_or, Bool.true_or, Bool.or_true, ne_eq, not_false_eq_true, not_true_eq_false, beq_self_eq_true, cond_true, cond_false, Prod.mk.injEq, and_self, reduceCtorEq, BEq.rfl, Bool.and_true, Bool.true_and, Bool.and_false, Bool.false_and]
          refine ⟨fun hw => word_bad (by omega) hw, fun hw => ⟨by decide, ⟨_, by omega, word_next hok hw⟩, by simp only; omega, by simp⟩⟩
        | i + 5, h => exact absurd h (by omega)
      · have : i = nP b := by simp at hge; omega
        subst this
        rw [allN_yes hok]
        have : decide (0 < (nP b : Int)) = true := by simp; omega
        rw [this]
  · have hd : decide (nP b ≤ 5) = false := by simpa using hn
    rw [if_neg hn, Nat.min_eq_left (by omega)]
    simp only [go_sem, Nat.reduceEqDiff, ↓reduceIte, Bool.false_eq_true, Nat.reduceAdd, Nat.reduceSub, Nat.reduceBNe, Nat.reduceBEq, Nat.reduceLT, Nat.reduceLeDiff, Nat.reduceMul, Nat.zero_lt_succ, Nat.lt_add_one, Nat.zero_lt_one, Int.reduceToNat, false_implies, true_implies, or_self, or_false, false_or, or_true, true_or, Nat.add_le_add_iff_right, true_and, and_true, forall_const, implies_true, List.contains_cons, List.contains_nil, List.all_cons, List.all_nil, bne_self_eq_false, Option.isSome_none, Option.isSome_some, Bool.or_false, Bool.false_or, Bool.true_or, Bool.or_true, ne_eq, not_false_eq_true, not_true_eq_false, beq_self_eq_true, cond_true, cond_false, Prod.mk.injEq, and_self, reduceCtorEq, BEq.rfl, Bool.and_true, Bool.true_and, Bool.and_false, Bool.false_and, conR, h, hd, segC]
    refine ⟨Unit, fun i => ([(15, .d (.int .i64 0)), (14, .d (.int .i64 0)), (4, .d (.int .i64 0)), (2, .d (.bool false))], []), fun i => 0, (), ?_, ?_⟩
    · simp only [go_sem, Nat.reduceEqDiff, ↓reduceIte, Bool.false_eq_true, Nat.reduceAdd, Nat.reduceSub, Nat.reduceBNe, Nat.reduceBEq, Nat.reduceLT, Nat.reduceLeDiff, Nat.reduceMul, Nat.zero_lt_succ, Nat.lt_add_one, Nat.zero_lt_one, Int.reduceToNat, false_implies, true_implies, or_self, or_false, false_or, or_true, true_or, Nat.add_le_add_iff_right, true_and, and_true, forall_const, implies_true, List.contains_cons, List.contains_nil, List.all_cons, List.all_nil, bne_self_eq_false, Option.isSome_none, Option.isSome_some, Bool.or_false, Bool.false_or, Bool.true_or, Bool.or_true, ne_eq, not_false_eq_true, not_true_eq_false, beq_self_eq_true, cond_true, cond_false, Prod.mk.injEq, and_self, reduceCtorEq, BEq.rfl, Bool.and_true, Bool.true_and, Bool.and_false, Bool.false_and]
      rfl
    · rintro ⟨⟩
      simp only [go_sem, Nat.reduceEqDiff, ↓reduceIte, Bool.false_eq_true, Nat.reduceAdd, Nat.reduceSub, Nat.reduceBNe, Nat.reduceBEq, Nat.reduceLT, Nat.reduceLeDiff, Nat.reduceMul, Nat.zero_lt_succ, Nat.lt_add_one, Nat.zero_lt_one, Int.reduceToNat, false_implies, true_implies, or_self, or_false, false_or, or_true, true_or, Nat.add_le_add_iff_right, true_and, and_true, forall_const, implies_true, List.contains_cons, List.contains_nil, List.all_cons, List.all_nil, bne_self_eq_false, Option.isSome_none, Option.isSome_some, Bool.or_false, Bool.false_or, Bool.true_or, Bool.or_true, ne_eq, not_false_eq_true, not_true_eq_false, beq_self_eq_true, cond_true, cond_false, Prod.mk.injEq, and_self, reduceCtorEq, BEq.rfl, Bool.and_true, Bool.true_and, Bool.and_false, Bool.false_and, decide_eq_true_eq]
      exact ⟨fun h => absurd h (by decide), fun _ => rfl⟩
end Go.Proofs.YtnhpgmmhfgdmjaaGreat.P14
/- Proved here: contracts of functions of this chapter: called with these values, each returns these values and changes nothing that was. Conditions: none but those that each theorem names. -/
set_option linter.unusedVariables false
set_option linter.unusedSimpArgs false
open Go Go.Proofs Go.Ev
namespace Go.Proofs.YtnhpgmmhfgdmjaaGreat.P14
set_option maxRecDepth 100000
def linesR (n : Nat) (a : Nat → ByteArray) : Bool := allN (fun i => prR (a i) 200 false) n
def strR (t : It) : Bool := linesR t.nOpt t.opt && linesR t.nTx t.tx && prR t.stem 2000 true && conR t.content
theorem strings_ok (t : It) : FnD Tryz.prog 46 [.d (iD t)] [.bool (strR t)] := by
  refine fnD_intro (H := { nt := Go.Func.ntmps Tryz.f46 }) Tryz.func46 rfl rfl rfl rfl (Nat.le_of_ble_eq_true rfl) (okC_tri (by kernel_rfl) _ _ _ _ (by kernel_rfl) ?_)
  simp only [go_sem, Nat.reduceEqDiff, ↓reduceIte, Bool.false_eq_true, Nat.reduceAdd, Nat.reduceSub, Nat.reduceBNe, Nat.reduceBEq, Nat.reduceLT, Nat.reduceLeDiff, Nat.reduceMul, Nat.zero_lt_succ, Nat.lt_add_one, Nat.zero_lt_one, Int.reduceToNat, false_implies, true_implies, or_self, or_false, false_or, or_true, true_or, Nat.add_le_add_iff_right, true_and, and_true, forall_const, implies_true, List.contains_cons, List.contains_nil, List.all_cons, List.all_nil, bne_self_eq_false, Option.isSome_none, Option.isSome_some, Bool.or_false, Bool.false_or, Bool.true_or, Bool.or_true, ne_eq, not_false_eq_true, not_true_eq_false, beq_self_eq_true, cond_true, cond_false, Prod.mk.injEq, and_self, reduceCtorEq, BEq.rfl, Bool.and_true, Bool.true_and, Bool.and_false, Bool.false_and, Tryz.f46]
  intro h1
  unfold fits at h1
  refine ⟨{ i : Nat // i ≤ t.nOpt ∧ ∀ j, j < i → prR (t.opt j) 200 false = true }, fun i => ([(10, .d (.int .i64 i)), (9, .d (.int .i64 t.nOpt)), (8, .d (.list 1 t.nOpt fun i => .str (t.opt i))), (1, .ptr 0 0), (2, .d (.bool false))], [.box (PV.d (iD t)).cells]), fun i => t.nOpt - i, ⟨0, Nat.zero_le _, fun j h => absurd h (by omega)⟩, ?_, ?_⟩
  · simp only [go_sem, Nat.reduceEqDiff, ↓reduceIte, Bool.false_eq_true, Nat.reduceAdd, Nat.reduceSub, Nat.reduceBNe, Nat.reduceBEq, Nat.reduceLT, Nat.reduceLeDiff, Nat.reduceMul, Nat.zero_lt_succ, Nat.lt_add_one, Nat.zero_lt_one, Int.reduceToNat, false_implies, true_implies, or_self, or_false, false_or, or_true, true_or, Nat.add_le_add_iff_right, true_and, and_true, forall_const, implies_true, List.contains_cons, List.contains_nil, List.all_cons, List.all_nil, bne_self_eq_false, Option.isSome_none, Option.isSome_some, Bool.or_false, Bool.false_or, Bool.true_or, Bool.or_true, ne_eq, not_false_eq_true, not_true_eq_false, beq_self_eq_true, cond_true, cond_false, Prod.mk.injEq, and_self, reduceCtorEq, BEq.rfl, Bool.and_true, Bool.true_and, Bool.and_false, Bool.false_and]
    rfl
  · rintro ⟨i, hi, hok⟩
    simp only [go_sem, Nat.reduceEqDiff, ↓reduceIte, Bool.false_eq_true, Nat.reduceAdd, Nat.reduceSub, Nat.reduceBNe, Nat.reduceBEq, Nat.reduceLT, Nat.reduceLeDiff, Nat.reduceMul, Nat.zero_lt_succ, Nat.lt_add_one, Nat.zero_lt_one, Int.reduceToNat, false_implies, true_implies, or_self, or_false, false_or, or_true, true_or, Nat.add_le_add_iff_right, true_and, and_true, forall_const, implies_true, List.contains_cons, List.contains_nil, List.all_cons, List.all_nil, bne_self_eq_false, Option.isSome_none, Option.isSome_some, Bool.or_false, Bool.false_or, Bool.true_or, Bool.or_true, ne_eq, not_false_eq_true, not_true_eq_false, beq_self_eq_true, cond_true, cond_false, Prod.mk.injEq, and_self, reduceCtorEq, BEq.rfl, Bool.and_true, Bool.true_and, Bool.and_false, Bool.false_and, decide_eq_true_eq]
    refine ⟨fun hlt => ⟨by omega, ?_⟩, fun hge => ?_⟩
    · refine ⟨_, fun _ => printable_ok (t.opt i) 200 false, ?_, ?_⟩
      focus (first | exact fun _ => rfl | exact fun h0 => absurd h0 (by decide))
      simp only [go_sem, Nat.reduceEqDiff, ↓reduceIte, Bool.false_eq_true, Nat.reduceAdd, Nat.reduceSub, Nat.reduceBNe, Nat.reduceBEq, Nat.reduceLT, Nat.reduceLeDiff, Nat.reduceMul, Nat.zero_lt_succ, Nat.lt_add_one, Nat.zero_lt_one, Int.reduceToNat, false_implies, true_implies, or_self, or_false, false_or, or_true, true_or, Nat.add_le_add_iff_right, true_and, and_true, forall_const, implies_true, List.contains_cons, List.contains_nil, List.all_cons, List.all_nil, bne_self_eq_false, Option.isSome_none, Option.isSome_some, Bool.or_false, Bool.false_or, Bool.true_or, Bool.or_true, ne_eq, not_false_eq_true, not_true_eq_false, beq_self_eq_true, cond_true, cond_false, Prod.mk.injEq, and_self, reduceCtorEq, BEq.rfl, Bool.and_true, Bool.true_and, Bool.and_false, Bool.false_and]
      refine ⟨fun hb => ?_, fun hb => ⟨by constructor <;> omega, ⟨i + 1, by omega, fun j hj => ?_⟩, by simp only; omega, by simp⟩⟩
      · have hp : prR (t.opt i) 200 false = false := by simpa using hb
        simp only [strR, linesR, allN_no (p := fun i => prR (t.opt i) 200 false) (show i < t.nOpt by omega) hp, Bool.false_and]
      · by_cases e : j = i
        · subst e; simpa using hb
        · exact hok j (by omega)
    · have e1 : i = t.nOpt := by simp at hge; omega
      subst e1
      have hO : linesR t.nOpt t.opt = true := allN_yes (p := fun i => prR (t.opt i) 200 false) hok
      intro h2
      unfold fits at h2
      refine ⟨{ i : Nat // i ≤ t.nTx ∧ ∀ j, j < i → prR (t.tx j) 200 false = true }, fun i => ([(21, .d (.int .i64 i)), (20, .d (.int .i64 t.nTx)), (19, .d (.list 1 t.nTx fun i => .str (t.tx i))), (1, .ptr 0 0), (2, .d (.bool false))], [.box (PV.d (iD t)).cells]), fun i => t.nTx - i, ⟨0, Nat.zero_le _, fun j h => absurd h (by omega)⟩, ?_, ?_⟩
      · simp only [go_sem, Nat.reduceEqDiff, ↓reduceIte, Bool.false_eq_true, Nat.reduceAdd, Nat.reduceSub, Nat.reduceBNe, Nat.reduceBEq, Nat.reduceLT, Nat.reduceLeDiff, Nat.reduceMul, Nat.zero_lt_succ, Nat.lt_add_one, Nat.zero_lt_one, Int.reduceToNat, false_implies, true_implies, or_self, or_false, false_or, or_true, true_or, Nat.add_le_add_iff_right, true_and, and_true, forall_const, implies_true, List.contains_cons, List.contains_nil, List.all_cons, List.all_nil, bne_self_eq_false, Option.isSome_none, Option.isSome_some, Bool.or_false, Bool.false_or, Bool.true_or, Bool.or_true, ne_eq, not_false_eq_true, not_true_eq_false, beq_self_eq_true, cond_true, cond_false, Prod.mk.injEq, and_self, reduceCtorEq, BEq.rfl, Bool.and_true, Bool.true_and, Bool.and_false, Bool.false_and]
        rfl
      · rintro ⟨i, hi, hok⟩
        simp only [go_sem, Nat.reduceEqDiff, ↓reduceIte, Bool.false_eq_true, Nat.reduceAdd, Nat.reduceSub, Nat.reduceBNe, Nat.reduceBEq, Nat.reduceLT, Nat.reduceLeDiff, Nat.reduceMul, Nat.zero_lt_succ, Nat.lt_add_one, Nat.zero_lt_one, Int.reduceToNat, false_implies, true_implies, or_self, or_false, false_or, or_true, true_or, Nat.add_le_add_iff_right, true_and, and_true, forall_const, implies_true, List.contains_cons, List.contains_nil, List.all_cons, List.all_nil, bne_self_eq_false, Option.isSome_none, Option.isSome_some, Bool.or_false, Bool.false_or, Bool.true_or, Bool.or_true, ne_eq, not_false_eq_true, not_true_eq_false, beq_self_eq_true, cond_true, cond_false, Prod.mk.injEq, and_self, reduceCtorEq, BEq.rfl, Bool.and_true, Bool.true_and, Bool.and_false, Bool.false_and, decide_eq_true_eq]
        refine ⟨fun hlt => ⟨by omega, ?_⟩, fun hge => ?_⟩
        · refine ⟨_, fun _ => printable_ok (t.tx i) 200 false, ?_, ?_⟩
          focus (first | exact fun _ => rfl | exact fun h0 => absurd h0 (by decide))
          simp only [go_sem, Nat.reduceEqDiff, ↓reduceIte, Bool.false_eq_true, Nat.reduceAdd, Nat.reduceSub, Nat.reduceBNe, Nat.reduceBEq, Nat.reduceLT, Nat.reduceLeDiff, Nat.reduceMul, Nat.zero_lt_succ, Nat.lt_add_one, Nat.zero_lt_one, Int.reduceToNat, false_implies, true_implies, or_self, or_false, false_or, or_true, true_or, Nat.add_le_add_iff_right, true_and, and_true, forall_const, implies_true, List.contains_cons, List.contains_nil, List.all_cons, List.all_nil, bne_self_eq_false, Option.isSome_none, Option.isSome_some, Bool.or_false, Bool.false_or, Bool.true_or, Bool.or_true, ne_eq, not_false_eq_true, not_true_eq_false, beq_self_eq_true, cond_true, cond_false, Prod.mk.injEq, and_self, reduceCtorEq, BEq.rfl, Bool.and_true, Bool.true_and, Bool.and_false, Bool.false_and]
          refine ⟨fun hb => ?_, fun hb => ⟨by constructor <;> omega, ⟨i + 1, by omega, fun j hj => ?_⟩, by simp only; omega, by simp⟩⟩
          · have hp : prR (t.tx i) 200 false = false := by simpa using hb
            have hT : linesR t.nTx t.tx = false := allN_no (p := fun i => prR (t.tx i) 200 false) (show i < t.nTx by omega) hp
            simp only [strR, hT, Bool.and_false, Bool.false_and]
          · by_cases e : j = i
            · subst e; simpa using hb
            · exact hok j (by omega)
        · have e2 : i = t.nTx := by simp at hge; omega
          subst e2
          have hT : linesR t.nTx t.tx = true := allN_yes (p := fun i => prR (t.tx i) 200 false) hok
          refine ⟨_, fun _ => printable_ok t.stem 2000 true, ?_, ?_⟩
          focus (first | exact fun _ => rfl | exact fun h0 => absurd h0 (by decide))
          simp only [go_sem, Nat.reduceEqDiff, ↓reduceIte, Bool.false_eq_true, Nat.reduceAdd, Nat.reduceSub, Nat.reduceBNe, Nat.reduceBEq, Nat.reduceLT, Nat.reduceLeDiff, Nat.reduceMul, Nat.zero_lt_succ, Nat.lt_add_one, Nat.zero_lt_one, Int.reduceToNat, false_implies, true_implies, or_self, or_false, false_or, or_true, true_or, Nat.add_le_add_iff_right, true_and, and_true, forall_const, implies_true, List.contains_cons, List.contains_nil, List.all_cons, List.all_nil, bne_self_eq_false, Option.isSome_none, Option.isSome_some, Bool.or_false, Bool.false_or, Bool.true_or, Bool.or_true, ne_eq, not_false_eq_true, not_true_eq_false, beq_self_eq_true, cond_true, cond_false, Prod.mk.injEq, and_self, reduceCtorEq, BEq.rfl, Bool.and_true, Bool.true_and, Bool.and_false, Bool.false_and]
          refine ⟨_, fun _ => content_ok t.content, ?_, ?_⟩
          focus (first | exact fun _ => rfl | exact fun h0 => absurd h0 (by decide))
          simp only [go_sem, Nat.reduceEqDiff, ↓reduceIte, Bool.false_eq_true, Nat.reduceAdd, Nat.reduceSub, Nat.reduceBNe, Nat.reduceBEq, Nat.reduceLT, Nat.reduceLeDiff, Nat.reduceMul, Nat.zero_lt_succ, Nat.lt_add_one, Nat.zero_lt_one, Int.reduceToNat, false_implies, true_implies, or_self, or_false, false_or, or_true, true_or, Nat.add_le_add_iff_right, true_and, and_true, forall_const, implies_true, List.contains_cons, List.contains_nil, List.all_cons, List.all_nil, bne_self_eq_false, Option.isSome_none, Option.isSome_some, Bool.or_false, Bool.false_or, Bool.true_or, Bool.or_true, ne_eq, not_false_eq_true, not_true_eq_false, beq_self_eq_true, cond_true, cond_false, Prod.mk.injEq, and_self, reduceCtorEq, BEq.rfl, Bool.and_true, Bool.true_and, Bool.and_false, Bool.false_and]
          simp only [strR, hO, hT, Bool.true_and]
          cases prR t.stem 2000 true <;> simp
end Go.Proofs.YtnhpgmmhfgdmjaaGreat.P14

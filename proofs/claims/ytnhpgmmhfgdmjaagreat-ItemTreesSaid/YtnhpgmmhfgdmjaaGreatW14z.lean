/- Proved here: contracts of functions of this chapter: called with these values, each returns these values and changes nothing that was. Conditions: none but those that each theorem names. -/
import Derived.Test.YtnhpgmmhfgdmjaaGreatW14y
set_option linter.unusedVariables false
set_option linter.unusedSimpArgs false
open Go Go.Proofs Go.Ev
namespace Go.Proofs.YtnhpgmmhfgdmjaaGreat.P14
set_option maxRecDepth 100000
def i8 (c : UInt8) : Int := (c.toNat : Int)
/-- A segment. -/
def wl (p : List UInt8) : Bool := decide (1 ≤ p.length) && decide (p.length ≤ 8) && p.all fun c => upB (i8 c)
def wl2 (sz : Nat) (seg : Nat) : List (List UInt8) → Bool
  | [] => false
  | h :: t => decide (1 ≤ sz + h.length) && decide (sz + h.length ≤ 8) && (h.all fun c => upB (i8 c)) && t.all wl && decide (seg + t.length ≤ 5)
theorem pcs_ne (l : List UInt8) : ∃ h t, pcs l = h :: t := by
  cases hp : pcs l with
  | nil => have := pcs_length l; rw [hp] at this; simp at this
  | cons h t => exact ⟨h, t, rfl⟩
theorem i8_46 (c : UInt8) : (i8 c == 46) = decide (c = 46) := by
  unfold i8
  by_cases h : c = 46
  · subst h; rfl
  · have h2 : (c.toNat : Int) ≠ 46 := fun e => h (UInt8.toNat_inj.1 (by simpa using Int.ofNat.inj e))
    simp [h, h2]
theorem scn_pcs : ∀ (l : List UInt8) (seg sz : Nat), sz ≤ 8 → scn (l.map i8) seg sz = wl2 sz seg (pcs l)
  | [], seg, sz, h => by
    simp only [List.map_nil, scn, pcs, wl2, List.length_nil, Nat.add_zero, List.all_nil, Bool.and_true]
    by_cases h0 : 0 < sz
    · have e1 : decide (0 < (sz : Int)) = true := decide_eq_true (by omega)
      rw [e1, decide_eq_true (show 1 ≤ sz by omega), decide_eq_true h]
      simp only [cond_true, Bool.true_and]
      exact decide_eq_decide.2 (by omega)
    · have e1 : decide (0 < (sz : Int)) = false := decide_eq_false (by omega)
      rw [e1, decide_eq_false (show ¬ 1 ≤ sz by omega)]
      rfl
  | c :: r, seg, sz, h => by
    obtain ⟨p, t, hp⟩ := pcs_ne r
    simp only [List.map_cons, scn, i8_46, pcs]
    by_cases hc : c = 46
    · simp only [hc, decide_true, cond_true, if_true, hp]
      have ih := scn_pcs r (seg + 1) 0 (by omega)
      rw [hp] at ih
      by_cases h0 : sz = 0
      · subst h0
        simp [wl2]
      · have e1 : ((sz : Int) == 0) = false := by simp; omega
        rw [e1]
        simp only [cond_false]
        have : scn (r.map i8) ((seg : Int) + 1) 0 = scn (r.map i8) ((seg + 1 : Nat) : Int) ((0 : Nat) : Int) := by simp
        rw [this, ih]
        simp only [wl2, wl, List.length_nil, Nat.add_zero, Nat.zero_add, List.all_nil, List.all_cons, List.length_cons, decide_eq_true (show 1 ≤ sz by omega), decide_eq_true h, Bool.true_and]
        rw [show seg + 1 + t.length = seg + (t.length + 1) by omega]
    · simp only [hc, decide_false, cond_false, if_false, hp]
      cases hu : upB (i8 c) with
      | false => simp [wl2, hu]
      | true =>
        simp only [Bool.not_true, cond_false]
        by_cases h8 : sz + 1 ≤ 8
        · have ih := scn_pcs r seg (sz + 1) h8
          rw [hp] at ih
          rw [decide_eq_false (show ¬ 8 < (sz : Int) + 1 by omega)]
          simp only [cond_false]
          have : scn (r.map i8) (seg : Int) ((sz : Int) + 1) = scn (r.map i8) (seg : Int) ((sz + 1 : Nat) : Int) := by simp
          rw [this, ih]
          simp only [wl2, List.length_cons, List.all_cons, hu, Bool.true_and]
          rw [show sz + 1 + p.length = sz + (p.length + 1) by omega]
        · rw [decide_eq_true (show 8 < (sz : Int) + 1 by omega)]
          simp only [cond_true, wl2, List.length_cons]
          rw [decide_eq_false (show ¬ sz + (p.length + 1) ≤ 8 by omega)]
          simp
theorem bys_map (b : ByteArray) : bys b = b.data.toList.map i8 := by
  refine List.ext_getElem (by simp [bys]) fun i h1 h2 => ?_
  have hi : i < b.size := by simpa [bys] using h1
  simp only [bys, List.getElem_map, List.getElem_range, bget, hi, dif_pos, i8]
  rfl
theorem range_all {α : Type} (d : α) (f : α → Bool) : ∀ l : List α, ((List.range l.length).all fun j => f (l.getD j d)) = l.all f
  | [] => rfl
  | x :: l => by
    rw [List.length_cons, List.range_succ_eq_map, List.all_cons, List.all_map, List.all_cons, ← range_all d f l]
    rfl
theorem wordR_wl (p : List UInt8) : wordR ⟨p.toArray⟩ = wl p := by
  have hs : (⟨p.toArray⟩ : ByteArray).size = p.length := by simp [ByteArray.size]
  have ha : allN (woB ⟨p.toArray⟩) p.length = p.all fun c => upB (i8 c) := by
    have h1 : allN (woB ⟨p.toArray⟩) p.length = (bys ⟨p.toArray⟩).all upB := by
      simp only [bys, hs, List.all_map]
      rfl
    rw [h1, bys_map, List.all_map]
    rfl
  unfold wordR wl
  rw [hs, ha]
  by_cases h1 : 1 ≤ p.length <;> by_cases h2 : p.length ≤ 8
  · have e1 : decide ((p.length : Int) < 1) = false := decide_eq_false (by omega)
    have e2 : decide (8 < (p.length : Int)) = false := decide_eq_false (by omega)
    simp [e1, e2, h1, h2]
  · have e2 : decide (8 < (p.length : Int)) = true := decide_eq_true (by omega)
    have e1 : decide ((p.length : Int) < 1) = false := decide_eq_false (by omega)
    simp [e1, e2, h2]
  · have e1 : decide ((p.length : Int) < 1) = true := decide_eq_true (by omega)
    simp [e1, h1]
  · omega
theorem con_eq (b : ByteArray) : conR b = rconR b := by
  unfold conR rconR
  cases decide (24 < (b.size : Int)) with
  | true => rfl
  | false =>
    simp only [cond_false]
    have h := scn_pcs b.data.toList 1 0 (by decide)
    rw [bys_map]
    have h' : scn (b.data.toList.map i8) 1 0 = wl2 0 1 (pcs b.data.toList) := h
    rw [h']
    have hn := pcs_nP b
    have hall : allN (fun j => wordR (pieceB b j)) (nP b) = (pcs b.data.toList).all wl := by
      rw [← range_all [] wl, hn]
      simp only [allN, pieceB, wordR_wl]
    rw [hall]
    obtain ⟨p, t, hp⟩ := pcs_ne b.data.toList
    rw [hp] at hn ⊢
    simp only [List.length_cons] at hn
    simp only [wl2, Nat.zero_add, List.all_cons]
    rw [← hn, show 1 + t.length = t.length + 1 by omega]
    cases decide (t.length + 1 ≤ 5) <;> simp [wl]
end Go.Proofs.YtnhpgmmhfgdmjaaGreat.P14
/- Proved here: contracts of functions of this chapter: called with these values, each returns these values and changes nothing that was. Conditions: none but those that each theorem names. -/
set_option linter.unusedVariables false
set_option linter.unusedSimpArgs false
open Go Go.Proofs Go.Ev Go.Proofs.P14
namespace Go.Proofs.YtnhpgmmhfgdmjaaGreat.P14
set_option maxRecDepth 100000
def rng (n : Nat) : List Int := (List.range n).map fun i : Nat => (i : Int)
theorem rng_succ (n : Nat) : rng (n + 1) = rng n ++ [(n : Int)] := by simp [rng, List.range_succ]
theorem rng_get {n i : Nat} (h : i < n) : (rng n)[i]? = some (i : Int) := by simp [rng, h]
theorem rng_mem {n : Nat} {x : Int} (h : x ∈ rng n) : 0 ≤ x ∧ x < n := by
  simp only [rng, List.mem_map, List.mem_range] at h
  obtain ⟨i, hi, rfl⟩ := h
  omega
theorem rng_count : ∀ (n k : Nat), k < n → (rng n).count (k : Int) = 1
  | 0, k, h => by omega
  | n + 1, k, h => by
    rw [rng_succ, List.count_append]
    by_cases e : k = n
    · subst e
      have h0 : (rng k).count (k : Int) = 0 := List.count_eq_zero.2 fun hm => by have := rng_mem hm; omega
      rw [h0]
      simp
    · rw [rng_count n k (by omega)]
      have h0 : ([(n : Int)]).count (k : Int) = 0 := List.count_eq_zero.2 fun hm => by simp at hm; omega
      rw [h0]
theorem perm_counts : ∀ (n : Nat) (l : List Int), l.length = n → (∀ k, k < n → l.count (k : Int) = 1) → l.Perm (rng n)
  | 0, l, hl, _ => by
    have : l = [] := List.eq_nil_of_length_eq_zero hl
    subst this
    exact List.Perm.refl _
  | n + 1, l, hl, hc => by
    have hm : (n : Int) ∈ l := List.count_pos_iff.1 (by rw [hc n (by omega)]; decide)
    have hp := List.perm_cons_erase hm
    have ih := perm_counts n (l.erase (n : Int)) (by rw [List.length_erase_of_mem hm, hl]; rfl) fun k hk => by
      rw [List.count_erase_of_ne (by omega)]
      exact hc k (by omega)
    rw [rng_succ]
    exact hp.trans ((ih.cons _).trans (List.perm_append_singleton _ _).symm)
theorem times_count (a : Nat → Int) (k : Int) : ∀ n, timesR a k n = (upto a n).count k
  | 0 => rfl
  | n + 1 => by
    rw [upto_succ, List.count_append, ← times_count a k n]
    simp only [timesR]
    by_cases h : a n = k
    · subst h; simp
    · have h1 : (a n == k) = false := by simpa using h
      rw [h1]
      simp [h]
theorem riR_up {n : Nat} {a : Nat → Int} {lo hi : Int} (h : riR n a lo hi = true) : ∀ j, j < n → a (n - 1 - j) ≤ hi - j := by
  intro j
  induction j with
  | zero => intro hj; have := (riR_le h (n - 1 - 0) (by omega)).2; omega
  | succ j ih =>
    intro hj
    have h1 := ih (by omega)
    have h2 := allN_at h (show n - 1 - j < n by omega)
    simp only [riB] at h2
    cases e : inR (a (n - 1 - j)) lo hi with
    | false => simp [e] at h2
    | true =>
      have h0 : 0 < n - 1 - j := by omega
      simp [e, h0] at h2
      rw [show n - 1 - j - 1 = n - 1 - (j + 1) by omega] at h2
      omega
theorem sort_get {a : Nat → Int} {n i : Nat} (h : i < n) : (sortL a n)[i]? = some (sortI a n i) := by
  unfold sortI
  rw [List.getElem?_eq_getElem (by rw [sortL_length]; exact h)]
  rfl
theorem perm_law (n : Nat) (a : Nat → Int) : riR n (sortI a n) 0 ((n : Int) - 1) = allN (fun k => timesR a k n == 1) n := by
  rw [Bool.eq_iff_iff]
  constructor
  · intro h
    have he : sortL a n = rng n := by
      refine List.ext_getElem? fun i => ?_
      by_cases hi : i < n
      · rw [sort_get hi, rng_get hi]
        have h1 := (riR_le h i hi).1
        have h2 := riR_up h (n - 1 - i) (by omega)
        rw [show n - 1 - (n - 1 - i) = i by omega] at h2
        congr 1
        omega
      · rw [List.getElem?_eq_none (by rw [sortL_length]; omega), List.getElem?_eq_none (by simp [rng]; omega)]
    refine allN_yes fun k hk => ?_
    rw [times_count]
    have hp : (upto a n).count (k : Int) = (sortL a n).count (k : Int) := (List.perm_iff_count.1 (List.mergeSort_perm (upto a n) _) _).symm
    rw [hp, he, rng_count n k hk]
    rfl
  · intro h
    have hp : (upto a n).Perm (rng n) := perm_counts n _ (upto_length a n) fun k hk => by
      have := allN_at h hk
      rw [← times_count]
      simpa using this
    have hs : (sortL a n).Perm (rng n) := (List.mergeSort_perm _ _).trans hp
    have h1 : List.Pairwise (fun x y : Int => x ≤ y) (sortL a n) := by
      have := List.pairwise_mergeSort (le := fun x y : Int => decide (x ≤ y)) (fun x y z h1 h2 => by simp at *; omega) (fun x y => by simp; omega) (upto a n)
      exact this.imp fun h => by simpa using h
    have h2 : List.Pairwise (fun x y : Int => x ≤ y) (rng n) := by
      unfold rng
      rw [List.pairwise_map]
      exact (List.pairwise_lt_range (n := n)).imp fun h => by omega
    have he : sortL a n = rng n := hs.eq_of_pairwise (fun x y _ _ h1 h2 => Int.le_antisymm h1 h2) h1 h2
    have hg : ∀ i, i < n → sortI a n i = i := fun i hi => by
      have := sort_get (a := a) hi
      rw [he, rng_get hi] at this
      exact (Option.some.inj this).symm
    refine allN_yes fun i hi => ?_
    simp only [riB]
    rw [hg i hi]
    have e1 : inR (i : Int) 0 ((n : Int) - 1) = true := by simp [inR]; omega
    rw [e1]
    by_cases h0 : 0 < i
    · rw [hg (i - 1) (by omega)]
      have : decide ((i : Int) ≤ ((i - 1 : Nat) : Int)) = false := decide_eq_false (by omega)
      rw [this]
      cases decide (0 < (i : Int)) <;> rfl
    · have : decide (0 < (i : Int)) = false := decide_eq_false (by omega)
      rw [this]
      rfl
end Go.Proofs.YtnhpgmmhfgdmjaaGreat.P14
/- Proved here: contracts of functions of this chapter: called with these values, each returns these values and changes nothing that was. Conditions: none but those that each theorem names. -/
set_option linter.unusedVariables false
set_option linter.unusedSimpArgs false
open Go Go.Proofs Go.Ev Go.Proofs.P14
namespace Go.Proofs.YtnhpgmmhfgdmjaaGreat.P14
set_option maxRecDepth 100000
theorem pos_ne (n : Nat) : decide (0 < (n : Int)) = !((n : Int) == 0) := by
  by_cases h : n = 0
  · subst h; rfl
  · have h1 : decide (0 < (n : Int)) = true := decide_eq_true (by omega)
    have h2 : ((n : Int) == 0) = false := by simpa using h
    rw [h1, h2]
    rfl
theorem bne_not (a b : Int) : (a != b) = !(a == b) := rfl
theorem perR_eq (t : It) : ((t.nCh : Int) == t.nOpt && riR t.nCh (sortI t.ch t.nCh) 0 ((t.nOpt : Int) - 1)) = perR t.nCh t.ch t.nOpt := by
  unfold perR
  by_cases h : t.nCh = t.nOpt
  · have h1 : ((t.nCh : Int) == t.nOpt) = true := by rw [h]; simp
    have h2 : (t.nCh == t.nOpt) = true := by simpa using h
    rw [h1, h2, ← h, perm_law]
  · have h1 : ((t.nCh : Int) == t.nOpt) = false := by simpa using fun e => h (by omega)
    have h2 : (t.nCh == t.nOpt) = false := by simpa using h
    rw [h1, h2]
    rfl
theorem fit_key (t : It) (hk : inR t.kind 1 6 = true) : fitR t = keyR t := by
  have hk' := inR_of hk
  have hp := perR_eq t
  unfold fitR fit1 fit2 keyR
  simp only [pos_ne, bne_not]
  have hc : t.kind = 1 ∨ t.kind = 2 ∨ t.kind = 3 ∨ t.kind = 4 ∨ t.kind = 5 ∨ t.kind = 6 := by omega
  rcases hc with h | h | h | h | h | h <;> rw [h]
  · cases (t.nOpt : Int) == 0 <;> cases (t.nCh : Int) == 0 <;> cases (t.nTx : Int) == 0 <;> cases t.value == 0 <;> cases t.tol == 0 <;> cases t.rubric == 0 <;> rfl
  · cases (t.nOpt : Int) == 0 <;> cases (t.nCh : Int) == 0 <;> cases (t.nTx : Int) == 0 <;> cases t.value == 0 <;> cases t.tol == 0 <;> cases t.rubric == 0 <;> rfl
  · rw [← hp]
    cases (t.nOpt : Int) == 0 <;> cases (t.nCh : Int) == 0 <;> cases (t.nTx : Int) == 0 <;> cases t.value == 0 <;> cases t.tol == 0 <;> cases t.rubric == 0 <;> cases decide (2 ≤ (t.nOpt : Int)) <;> rfl
  · cases (t.nOpt : Int) == 0 <;> cases (t.nCh : Int) == 0 <;> cases (t.nTx : Int) == 0 <;> cases t.value == 0 <;> cases t.tol == 0 <;> cases t.rubric == 0 <;> rfl
  · have h0 : txR t.nTx t.tx = (txR t.nTx t.tx && !((t.nTx : Int) == 0)) := by
      unfold txR
      rw [pos_ne]
      cases (t.nTx : Int) == 0 <;> simp
    cases (t.nOpt : Int) == 0 <;> cases (t.nCh : Int) == 0 <;> cases t.value == 0 <;> cases t.tol == 0 <;> cases t.rubric == 0 <;> rfl
  · have h0 : decide (1 ≤ t.rubric) = (decide (1 ≤ t.rubric) && !(t.rubric == 0)) := by
      by_cases hr : t.rubric = 0
      · rw [hr]; rfl
      · have : (t.rubric == 0) = false := by simpa using hr
        rw [this]; simp
    cases (t.nOpt : Int) == 0 <;> cases (t.nCh : Int) == 0 <;> cases (t.nTx : Int) == 0 <;> cases t.value == 0 <;> cases t.tol == 0 <;> rfl
theorem valid_eq (t : It) : rvalidR t = validR t := by
  unfold rvalidR validR
  cases hk : inR t.kind 1 6 with
  | false => rfl
  | true =>
    rw [fit_key t hk, ← con_eq]
    have hs : (prR t.stem 2000 true && linesR t.nOpt t.opt && linesR t.nTx t.tx && conR t.content) = strR t := by
      unfold strR
      cases prR t.stem 2000 true <;> cases linesR t.nOpt t.opt <;> cases linesR t.nTx t.tx <;> rfl
    rw [hs]
theorem rvalid_eq (t : It) : FnD Tryz.prog 20 [.d (iD t)] [.int .i64 (validR t)] := by
  rw [← valid_eq]
  exact rvalid_ok t
theorem rdiffL_ok (s t : It) : FnD Tryz.prog 34 [.d (iD s), .d (iD t)] [.list 1 (diffR s t).length fun i => .str (nm (diffR s t) i)] := rdiff_ok s t
end Go.Proofs.YtnhpgmmhfgdmjaaGreat.P14

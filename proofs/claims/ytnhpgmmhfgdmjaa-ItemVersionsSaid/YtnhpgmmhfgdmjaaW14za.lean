/- Proved here: contracts of functions of this chapter: called with these values, each returns these values and changes nothing that was. Conditions: none but those that each theorem names. -/
import Derived.Test.YtnhpgmmhfgdmjaaW14z
set_option linter.unusedVariables false
set_option linter.unusedSimpArgs false
open Go Go.Proofs Go.Ev Go.Proofs.P14
namespace Go.Proofs.Ytnhpgmmhfgdmjaa.P14
set_option maxRecDepth 100000
def rng (n : Nat) : List Int := (List.range n).map fun i : Nat => (i : Int)
theorem rng_succ (n : Nat) : rng (n + 1) = rng n ++ [(n : Int)] := by simp [rng, List.range_succ]
theorem rng_get {n i : Nat} (h : i < n) : (rng n)[i]? = some (i : Int) := by simp [rng, h]
theorem rng_mem {n : Nat} {x : Int} (h : x ∈ rng n) : 0 ≤ x ∧ x < n := by
  simp only [rng, List.mem_map, List.mem_range] at h
  obtain ⟨i, hi, rfl⟩ := h
  omega
theorem rng_count : ∀ (n k : Nat), k < n → (rng n).count (k : Int) = 1
  | 0, k, h => by omega
  | n + 1, k, h => by
    rw [rng_succ, List.count_append]
    by_cases e : k = n
    · subst e
      have h0 : (rng k).count (k : Int) = 0 := List.count_eq_zero.2 fun hm => by have := rng_mem hm; omega
      rw [h0]
      simp
    · rw [rng_count n k (by omega)]
      have h0 : ([(n : Int)]).count (k : Int) = 0 := List.count_eq_zero.2 fun hm => by simp at hm; omega
      rw [h0]
theorem perm_counts : ∀ (n : Nat) (l : List Int), l.length = n → (∀ k, k < n → l.count (k : Int) = 1) → l.Perm (rng n)
  | 0, l, hl, _ => by
    have : l = [] := List.eq_nil_of_length_eq_zero hl
    subst this
    exact List.Perm.refl _
  | n + 1, l, hl, hc => by
    have hm : (n : Int) ∈ l := List.count_pos_iff.1 (by rw [hc n (by omega)]; decide)
    have hp := List.perm_cons_erase hm
    have ih := perm_counts n (l.erase (n : Int)) (by rw [List.length_erase_of_mem hm, hl]; rfl) fun k hk => by
      rw [List.count_erase_of_ne (by omega)]
      exact hc k (by omega)
    rw [rng_succ]
    exact hp.trans ((ih.cons _).trans (List.perm_append_singleton _ _).symm)
theorem times_count (a : Nat → Int) (k : Int) : ∀ n, timesR a k n = (upto a n).count k
  | 0 => rfl
  | n + 1 => by
    rw [upto_succ, List.count_append, ← times_count a k n]
    simp only [timesR]
    by_cases h : a n = k
    · subst h; simp
    · have h1 : (a n == k) = false := by simpa using h
      rw [h1]
      simp [h]
theorem riR_up {n : Nat} {a : Nat → Int} {lo hi : Int} (h : riR n a lo hi = true) : ∀ j, j < n → a (n - 1 - j) ≤ hi - j := by
  intro j
  induction j with
  | zero => intro hj; have := (riR_le h (n - 1 - 0) (by omega)).2; omega
  | succ j ih =>
    intro hj
    have h1 := ih (by omega)
    have h2 := allN_at h (show n - 1 - j < n by omega)
    simp only [riB] at h2
    cases e : inR (a (n - 1 - j)) lo hi with
    | false => simp [e] at h2
    | true =>
      have h0 : 0 < n - 1 - j := by omega
      simp [e, h0] at h2
      rw [show n - 1 - j - 1 = n - 1 - (j + 1) by omega] at h2
      omega
theorem sort_get {a : Nat → Int} {n i : Nat} (h : i < n) : (sortL a n)[i]? = some (sortI a n i) := by
  unfold sortI
  rw [List.getElem?_eq_getElem (by rw [sortL_length]; exact h)]
  rfl
theorem perm_law (n : Nat) (a : Nat → Int) : riR n (sortI a n) 0 ((n : Int) - 1) = allN (fun k => timesR a k n == 1) n := by
  rw [Bool.eq_iff_iff]
  constructor
  · intro h
    have he : sortL a n = rng n := by
      refine List.ext_getElem? fun i => ?_
      by_cases hi : i < n
      · rw [sort_get hi, rng_get hi]
        have h1 := (riR_le h i hi).1
        have h2 := riR_up h (n - 1 - i) (by omega)
        rw [show n - 1 - (n - 1 - i) = i by omega] at h2
        congr 1
        omega
      · rw [List.getElem?_eq_none (by rw [sortL_length]; omega), List.getElem?_eq_none (by simp [rng]; omega)]
    refine allN_yes fun k hk => ?_
    rw [times_count]
    have hp : (upto a n).count (k : Int) = (sortL a n).count (k : Int) := (List.perm_iff_count.1 (List.mergeSort_perm (upto a n) _) _).symm
    rw [hp, he, rng_count n k hk]
    rfl
  · intro h
    have hp : (upto a n).Perm (rng n) := perm_counts n _ (upto_length a n) fun k hk => by
      have := allN_at h hk
      rw [← times_count]
      simpa using this
    have hs : (sortL a n).Perm (rng n) := (List.mergeSort_perm _ _).trans hp
    have h1 : List.Pairwise (fun x y : Int => x ≤ y) (sortL a n) := by
      have := List.pairwise_mergeSort (le := fun x y : Int => decide (x ≤ y)) (fun x y z h1 h2 => by simp at *; omega) (fun x y => by simp; omega) (upto a n)
      exact this.imp fun h => by simpa using h
    have h2 : List.Pairwise (fun x y : Int => x ≤ y) (rng n) := by
      unfold rng
      rw [List.pairwise_map]
      exact (List.pairwise_lt_range (n := n)).imp fun h => by omega
    have he : sortL a n = rng n := hs.eq_of_pairwise (fun x y _ _ h1 h2 => Int.le_antisymm h1 h2) h1 h2
    have hg : ∀ i, i < n → sortI a n i = i := fun i hi => by
      have := sort_get (a := a) hi
      rw [he, rng_get hi] at this
      exact (Option.some.inj this).symm
    refine allN_yes fun i hi => ?_
    simp only [riB]
    rw [hg i hi]
    have e1 : inR (i : Int) 0 ((n : Int) - 1) = true := by simp [inR]; omega
    rw [e1]
    by_cases h0 : 0 < i
    · rw [hg (i - 1) (by omega)]
      have : decide ((i : Int) ≤ ((i - 1 : Nat) : Int)) = false := decide_eq_false (by omega)
      rw [this]
      cases decide (0 < (i : Int)) <;> rfl
    · have : decide (0 < (i : Int)) = false := decide_eq_false (by omega)
      rw [this]
      rfl
end Go.Proofs.Ytnhpgmmhfgdmjaa.P14

/- Proved here: contracts of functions of this chapter: called with these values, each returns these values and changes nothing that was. Conditions: none but those that each theorem names. -/
import Derived.Test.YtnhpgmmhfgdmjaaW14y
set_option linter.unusedVariables false
set_option linter.unusedSimpArgs false
open Go Go.Proofs Go.Ev
namespace Go.Proofs.Ytnhpgmmhfgdmjaa.P14
set_option maxRecDepth 100000
def i8 (c : UInt8) : Int := (c.toNat : Int)
/-- A segment. -/
def wl (p : List UInt8) : Bool := decide (1 ≤ p.length) && decide (p.length ≤ 8) && p.all fun c => upB (i8 c)
def wl2 (sz : Nat) (seg : Nat) : List (List UInt8) → Bool
  | [] => false
  | h :: t => decide (1 ≤ sz + h.length) && decide (sz + h.length ≤ 8) && (h.all fun c => upB (i8 c)) && t.all wl && decide (seg + t.length ≤ 5)
theorem pcs_ne (l : List UInt8) : ∃ h t, pcs l = h :: t := by
  cases hp : pcs l with
  | nil => have := pcs_length l; rw [hp] at this; simp at this
  | cons h t => exact ⟨h, t, rfl⟩
theorem i8_46 (c : UInt8) : (i8 c == 46) = decide (c = 46) := by
  unfold i8
  by_cases h : c = 46
  · subst h; rfl
  · have h2 : (c.toNat : Int) ≠ 46 := fun e => h (UInt8.toNat_inj.1 (by simpa using Int.ofNat.inj e))
    simp [h, h2]
theorem scn_pcs : ∀ (l : List UInt8) (seg sz : Nat), sz ≤ 8 → scn (l.map i8) seg sz = wl2 sz seg (pcs l)
  | [], seg, sz, h => by
    simp only [List.map_nil, scn, pcs, wl2, List.length_nil, Nat.add_zero, List.all_nil, Bool.and_true]
    by_cases h0 : 0 < sz
    · have e1 : decide (0 < (sz : Int)) = true := decide_eq_true (by omega)
      rw [e1, decide_eq_true (show 1 ≤ sz by omega), decide_eq_true h]
      simp only [cond_true, Bool.true_and]
      exact decide_eq_decide.2 (by omega)
    · have e1 : decide (0 < (sz : Int)) = false := decide_eq_false (by omega)
      rw [e1, decide_eq_false (show ¬ 1 ≤ sz by omega)]
      rfl
  | c :: r, seg, sz, h => by
    obtain ⟨p, t, hp⟩ := pcs_ne r
    simp only [List.map_cons, scn, i8_46, pcs]
    by_cases hc : c = 46
    · simp only [hc, decide_true, cond_true, if_true, hp]
      have ih := scn_pcs r (seg + 1) 0 (by omega)
      rw [hp] at ih
      by_cases h0 : sz = 0
      · subst h0
        simp [wl2]
      · have e1 : ((sz : Int) == 0) = false := by simp; omega
        rw [e1]
        simp only [cond_false]
        have : scn (r.map i8) ((seg : Int) + 1) 0 = scn (r.map i8) ((seg + 1 : Nat) : Int) ((0 : Nat) : Int) := by simp
        rw [this, ih]
        simp only [wl2, wl, List.length_nil, Nat.add_zero, Nat.zero_add, List.all_nil, List.all_cons, List.length_cons, decide_eq_true (show 1 ≤ sz by omega), decide_eq_true h, Bool.true_and]
        rw [show seg + 1 + t.length = seg + (t.length + 1) by omega]
    · simp only [hc, decide_false, cond_false, if_false, hp]
      cases hu : upB (i8 c) with
      | false => simp [wl2, hu]
      | true =>
        simp only [Bool.not_true, cond_false]
        by_cases h8 : sz + 1 ≤ 8
        · have ih := scn_pcs r seg (sz + 1) h8
          rw [hp] at ih
          rw [decide_eq_false (show ¬ 8 < (sz : Int) + 1 by omega)]
          simp only [cond_false]
          have : scn (r.map i8) (seg : Int) ((sz : Int) + 1) = scn (r.map i8) (seg : Int) ((sz + 1 : Nat) : Int) := by simp
          rw [this, ih]
          simp only [wl2, List.length_cons, List.all_cons, hu, Bool.true_and]
          rw [show sz + 1 + p.length = sz + (p.length + 1) by omega]
        · rw [decide_eq_true (show 8 < (sz : Int) + 1 by omega)]
          simp only [cond_true, wl2, List.length_cons]
          rw [decide_eq_false (show ¬ sz + (p.length + 1) ≤ 8 by omega)]
          simp
theorem bys_map (b : ByteArray) : bys b = b.data.toList.map i8 := by
  refine List.ext_getElem (by simp [bys]) fun i h1 h2 => ?_
  have hi : i < b.size := by simpa [bys] using h1
  simp only [bys, List.getElem_map, List.getElem_range, bget, hi, dif_pos, i8]
  rfl
theorem range_all {α : Type} (d : α) (f : α → Bool) : ∀ l : List α, ((List.range l.length).all fun j => f (l.getD j d)) = l.all f
  | [] => rfl
  | x :: l => by
    rw [List.length_cons, List.range_succ_eq_map, List.all_cons, List.all_map, List.all_cons, ← range_all d f l]
    rfl
theorem wordR_wl (p : List UInt8) : wordR ⟨p.toArray⟩ = wl p := by
  have hs : (⟨p.toArray⟩ : ByteArray).size = p.length := by simp [ByteArray.size]
  have ha : allN (woB ⟨p.toArray⟩) p.length = p.all fun c => upB (i8 c) := by
    have h1 : allN (woB ⟨p.toArray⟩) p.length = (bys ⟨p.toArray⟩).all upB := by
      simp only [bys, hs, List.all_map]
      rfl
    rw [h1, bys_map, List.all_map]
    rfl
  unfold wordR wl
  rw [hs, ha]
  by_cases h1 : 1 ≤ p.length <;> by_cases h2 : p.length ≤ 8
  · have e1 : decide ((p.length : Int) < 1) = false := decide_eq_false (by omega)
    have e2 : decide (8 < (p.length : Int)) = false := decide_eq_false (by omega)
    simp [e1, e2, h1, h2]
  · have e2 : decide (8 < (p.length : Int)) = true := decide_eq_true (by omega)
    have e1 : decide ((p.length : Int) < 1) = false := decide_eq_false (by omega)
    simp [e1, e2, h2]
  · have e1 : decide ((p.length : Int) < 1) = true := decide_eq_true (by omega)
    simp [e1, h1]
  · omega
theorem con_eq (b : ByteArray) : conR b = rconR b := by
  unfold conR rconR
  cases decide (24 < (b.size : Int)) with
  | true => rfl
  | false =>
    simp only [cond_false]
    have h := scn_pcs b.data.toList 1 0 (by decide)
    rw [bys_map]
    have h' : scn (b.data.toList.map i8) 1 0 = wl2 0 1 (pcs b.data.toList) := h
    rw [h']
    have hn := pcs_nP b
    have hall : allN (fun j => wordR (pieceB b j)) (nP b) = (pcs b.data.toList).all wl := by
      rw [← range_all [] wl, hn]
      simp only [allN, pieceB, wordR_wl]
    rw [hall]
    obtain ⟨p, t, hp⟩ := pcs_ne b.data.toList
    rw [hp] at hn ⊢
    simp only [List.length_cons] at hn
    simp only [wl2, Nat.zero_add, List.all_cons]
    rw [← hn, show 1 + t.length = t.length + 1 by omega]
    cases decide (t.length + 1 ≤ 5) <;> simp [wl]
end Go.Proofs.Ytnhpgmmhfgdmjaa.P14

/- A block of ours is given away: from then on nobody writes it. -/
import Derived.Test.YtnhpgmmhfgdmjaaGreatEvY
import Derived.Test.YtnhpgmmhfgdmjaaGreatEvL
set_option linter.unusedVariables false
set_option linter.unusedSimpArgs false
namespace Go.Ev
open Go.RowKit
section
variable {S : Nat → Prop} {α : Nat → Loc} {s : Store} {w : World} {id e sz n : Nat} {f : Nat → DV}
/-- The store without this block. -/
def gone (id : Nat) (s : Store) : Store := setN (killS id s) id .dead
def SG (S : Nat → Prop) (α : Nat → Loc) (σ : Sto) (id : Nat) : Nat → Prop := fun k => S k ∨ (real σ α id ∧ (α id).b = k)
theorem RelS.freeze (h : RelS S α (lk s) w) (id : Nat) : RelS (SG S α (lk s) id) α (lk (gone id s)) w := by
  obtain ⟨h1, h2, h3⟩ := h.forget id
  refine ⟨fun i => ?_, h1.inj, fun i hi => ⟨?_, (h1.out i hi).2⟩, ?_⟩
  · exact Blk.rep_mono (fun _ => .inl) (fun _ _ => rfl) (fun _ hi => ⟨hi, rfl, fun _ => rfl⟩) (fun _ => rfl) (h1.sto i)
  · have hi' := (h2 i).1 hi.1
    rintro (hS | ⟨hr, hb⟩)
    · exact (h1.out i hi).1 hS
    · exact hi'.1 (h.inj i id ⟨hi'.2, hi.2⟩ hr hb.symm)
  · rintro b (hS | ⟨hr, rfl⟩)
    · exact h.slt b hS
    · exact (h.out id hr).2
theorem own_rep (h : RelS S α (lk s) w) (hid : nth s id = some (.arr e sz n f)) {v : Value} (hv : (PV.own id 0 n).rep S (live (lk s)) α w v) : (DV.list sz n f).rep (SG S α (lk s) id) w v := by
  have hb := h.sto id
  rw [lk_nth hid] at hb
  simp only [PV.rep] at hv
  obtain ⟨hl, hv⟩ := hv
  simp only [DV.rep]
  rcases hv with ⟨hn, -, rfl, rfl⟩ | ⟨hn, x, cap, rfl, hc, hf, hx, -⟩
  · exact ⟨none, 0, rfl, Nat.le_refl _, Nat.zero_le _, fun h => absurd h (Nat.lt_irrefl _)⟩
  · refine ⟨_, cap, rfl, hc, hf, fun h0 => ⟨_, _, rfl, .inr ⟨⟨hl, hn⟩, rfl⟩, fun i hi => ?_⟩⟩
    obtain ⟨hsz, hb⟩ := hb
    rcases hb with ⟨h1, -⟩ | ⟨-, us, fr, -, -, -, hr⟩
    · rw [hn] at h1; cases h1
    · obtain ⟨u, k1, k2, k3⟩ := hr i hi
      refine ⟨u, k1, ?_, DV.rep_mono (fun _ => .inl) (fun _ _ => rfl) _ _ k3⟩
      rw [hx (by omega), hsz, Nat.zero_mul, Nat.add_zero]
      exact k2
end
theorem length_setN {β : Type} : ∀ (l : List β) (n : Nat) (x : β), (setN l n x).length = l.length
  | [], _, _ => rfl
  | a :: l, n, x => by
    simp only [setN]
    split
    · rfl
    · simp [length_setN l]
theorem gone_arr {s : Store} {id i : Nat} (ha : (lk s i).isArr = false) : (lk (gone id s) i).isArr = false := by
  unfold gone
  rw [lk_killed]
  split
  · rfl
  · cases hb : lk s i <;> simp [hb, Blk.isArr, killB] at ha ⊢
/-- A function of values alone, called with a value and a slice of ours that is given to it. -/
theorem fnE_give {P : Program} {K : FuncId} {a : DV} {s : Store} {id e sz n : Nat} {f : Nat → DV} {rs : List DV} {R : List PV → Store → Prop} (hid : nth s id = some (.arr e sz n f)) (h : FnD P K [.d a, .d (.list sz n f)] rs)
    (hR : R (rs.map .d) (gone id s)) : FnE P K [.d a, .own id 0 n] s R := by
  refine ⟨h.1, fun S α w vals hr hv => ?_⟩
  simp only [prepL] at hv
  obtain ⟨u1, _, rfl, h1, u2, _, rfl, h2, rfl⟩ := hv
  have hz := hr.freeze id
  have hv' : prepL (SG S α (lk s) id) (live sto0) (fun _ => default) w [.d a, .d (.list sz n f)] [u1, u2] := by
    simp only [prepL, PV.rep] at h1 ⊢
    exact ⟨u1, _, rfl, DV.rep_mono (fun _ => .inl) (fun _ _ => rfl) _ _ h1, u2, _, rfl, own_rep hr hid h2, rfl⟩
  refine (callD h hz.slt hv').mono ?_
  rintro ed w' ⟨v, S', α', rfl, hres, hb, k1, k2, k3⟩
  have hz' := hz.below hb k1 k2 k3
  have hm : Moved S α (lk s) w S' α (lk (gone id s)) w' := by
    refine ⟨hb.os, hb.tape, hb.output, hb.size, fun b hb' _ => hb.block b hb', fun i hi => .inl ⟨i, ⟨?_, hi.2⟩, rfl⟩, fun b hS => k1 b (.inl hS), fun b hS => ?_⟩
    · exact (((hr.forget id).2.1 i).1 hi.1).2
    · rcases k2 b hS with (hS | ⟨hre, rfl⟩) | hn
      · exact .inl hS
      · exact .inr (.inr ⟨id, hre, rfl⟩)
      · exact .inr (.inl hn)
  have hflat : (resP (rs.map .d)).rep S' (live (lk (gone id s))) α w' v := by
    refine PV.rep_mono (fun _ h => h) (fun _ _ => rfl) (fun i hi => ?_) _ _ hres
    simp [live, sto0, Blk.alive] at hi
  refine ⟨_, _, S', α, v, hR, rfl, hflat, hz', hm, ?_, fun i hi ha => ⟨rfl, gone_arr ha⟩⟩
  unfold gone
  rw [length_setN, length_kill]
  exact Nat.le_refl _
@[go_sem] theorem nc_ptr {i j : Nat} : nilCheckQ (.ptr i j) = .ok True (.ptr i j) none := rfl
@[go_sem] theorem nc_eptr {i j k : Nat} : nilCheckQ (.eptr i j k) = .ok True (.eptr i j k) none := rfl
@[go_sem] theorem nc_rptr {cs : List DV} : nilCheckQ (.rptr cs) = .ok True (.rptr cs) none := rfl
@[go_sem] theorem nc_clo {f : FuncId} {a b : List PV} : nilCheckQ (.clo (.func f) a b) = .ok True (.clo (.func f) a b) none := rfl
/-- The result is a slice of ours, or none: it is given away. -/
theorem FnE.handed {P : Program} {f : FuncId} {args : List PV} {s : Store} {R : List PV → Store → Prop} (h : FnE P f args s fun rs s' => (∃ sz g, rs = [.d .nil] ∧ R [.d (.list sz 0 g)] s') ∨
    ∃ id e sz n g g', rs = [.own id 0 n] ∧ nth s' id = some (.arr e sz n g) ∧ (∀ i, i < n → g i = g' i) ∧ R [.d (.list sz n g')] (gone id s')) : FnE P f args s R := by
  refine ⟨h.1, fun S α w vals h1 h2 => (h.2 S α w vals h1 h2).mono ?_⟩
  rintro ed w' ⟨rs, s', S', α', v, (⟨sz, g, rfl, hR⟩ | ⟨id, e, sz, n, g, g', rfl, hid, hg, hR⟩), rfl, hv, hr, hm, hlen, hpin⟩
  · refine ⟨_, s', S', α', v, hR, rfl, ?_, hr, hm, hlen, hpin⟩
    simp only [resP, PV.rep] at hv ⊢
    exact rep_nil_list hv
  refine ⟨_, gone id s', SG S' α' (lk s') id, α', v, hR, rfl, ?_, hr.freeze id, ?_, ?_, fun i hi ha => ⟨(hpin i hi ha).1, gone_arr (hpin i hi ha).2⟩⟩
  · simp only [resP] at hv ⊢
    exact rep_list_congr hg (own_rep hr hid hv)
  · refine ⟨hm.os, hm.tape, hm.output, hm.size, hm.same, fun i hi => hm.lives i ⟨(((hr.forget id).2.1 i).1 hi.1).2, hi.2⟩, fun b hb => .inl (hm.sub b hb), fun b hb => ?_⟩
    rcases hb with hb | ⟨hre, rfl⟩
    · exact hm.new b hb
    · rcases hm.lives id hre with ⟨j, hj, hjb⟩ | hn
      · exact .inr (.inr ⟨j, hj, hjb⟩)
      · exact .inr (.inl hn)
  · unfold gone
    rw [length_setN, length_kill]
    exact hlen
end Go.Ev

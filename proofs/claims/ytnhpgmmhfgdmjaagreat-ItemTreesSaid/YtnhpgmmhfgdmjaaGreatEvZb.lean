/- A function over one slice of ours, called with no slice: it makes one. -/
import Derived.Test.YtnhpgmmhfgdmjaaGreatEvZ
set_option linter.unusedVariables false
set_option linter.unusedSimpArgs false
namespace Go.Ev
open Go.RowKit
theorem fnB_nil {P : Program} {f : FuncId} {e sz n' : Nat} {g g' : Nat → DV} {xs : List DV} (h : FnB P f e sz 0 g xs n' g') : FnD P f (.d .nil :: xs.map .d) [.list sz n' g'] := by
  refine ⟨h.1, fun S α w vals hr hv => ?_⟩
  let α1 : Nat → Loc := fun _ => ⟨0, 0, sz, true⟩
  have hno : ∀ i, ¬ real (lk [Blk.arr e sz 0 g]) α1 i := fun i hi => by cases hi.2
  have hno0 : ∀ (α : Nat → Loc) i, ¬ real sto0 α i := fun α i hi => by simp [real, live, sto0, Blk.alive] at hi
  have hr1 : RelS S α1 (lk [Blk.arr e sz 0 g]) w := by
    refine ⟨fun i => ?_, fun i j hi => absurd hi (hno i), fun i hi => absurd hi (hno i), hr.slt⟩
    rw [lk_one]
    split
    · exact ⟨rfl, .inl ⟨rfl, rfl⟩⟩
    · trivial
  have hv1 : prepL S (live (lk [Blk.arr e sz 0 g])) α1 w (.own 0 0 0 :: xs.map .d) vals := by
    rw [prepL] at hv ⊢
    obtain ⟨u, us, rfl, h1, h2⟩ := hv
    simp only [PV.rep, DV.rep] at h1
    subst h1
    refine ⟨_, us, rfl, ?_, ?_⟩
    · simp only [PV.rep]
      exact ⟨rfl, .inl ⟨rfl, trivial, trivial, trivial⟩⟩
    · have : ∀ {ds : List DV} {vs : List Value}, prepL S (live sto0) α w (ds.map .d) vs → prepL S (live (lk [Blk.arr e sz 0 g])) α1 w (ds.map .d) vs := by
        intro ds
        induction ds with
        | nil => intro vs h; simpa only [List.map_nil, prepL] using h
        | cons z ds ih =>
          intro vs h
          simp only [List.map_cons, prepL, PV.rep] at h ⊢
          obtain ⟨u, us, rfl, h1, h2⟩ := h
          exact ⟨u, us, rfl, h1, ih h2⟩
      exact this h2
  refine (h.2 S α1 w vals hr1 hv1).mono ?_
  rintro ed w' ⟨rs, s', S', α', v, ⟨rfl, rfl⟩, rfl, hres, hr', hm, -, -⟩
  have hz := hr'.freeze 0
  refine ⟨.ret [.d (.list sz n' g')], sto0, SG S' α' (lk [Blk.arr e sz n' g']) 0, α, ⟨rfl, rfl⟩, ⟨v, rfl, ?_⟩, ⟨fun _ => trivial, fun i j hi => absurd hi (hno0 _ i), fun i hi => absurd hi (hno0 _ i), hz.slt⟩, ⟨hm.os, hm.tape, hm.output, hm.size, fun b hb _ => hm.same b hb fun i hi => absurd hi (hno i), fun i hi => absurd hi (hno0 _ i), fun b hb => .inl (hm.sub b hb), fun b hb => ?_⟩, fun i cs hc => ?_⟩
  · simp only [resP] at hres ⊢
    have := own_rep (s := [Blk.arr e sz n' g']) hr' rfl hres
    simpa only [PV.rep] using this
  · rcases hb with hb | ⟨hre, rfl⟩
    · rcases hm.new b hb with h1 | h1 | ⟨j, hj, _⟩
      · exact .inl h1
      · exact .inr (.inl h1)
      · exact absurd hj (hno j)
    · rcases hm.lives 0 hre with ⟨j, hj, _⟩ | h1
      · exact absurd hj (hno j)
      · exact .inr (.inl h1)
  · simp [sto0] at hc
end Go.Ev

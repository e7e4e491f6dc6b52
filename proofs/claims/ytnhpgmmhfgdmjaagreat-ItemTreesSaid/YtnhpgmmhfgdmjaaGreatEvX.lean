/- A function of values alone, out of a contract over memory. -/
import Derived.Test.YtnhpgmmhfgdmjaaGreatEvP
import Derived.Below
set_option linter.unusedVariables false
set_option linter.unusedSimpArgs false
namespace Go.Ev
open Go.RowKit
theorem callable_of {P : Program} {f : FuncId} {fn : Func} (hf : P.funcs[f]? = some fn) (hn : (fn.name == "runtime.NumGoroutine") = false) (hb : fn.body.isNone = false) : callable P f := ⟨fn, hf, hn, hb⟩
/-- What a contract over memory says of a call, as a contract over values. -/
theorem fnD_calls {P : Program} {f : FuncId} {args : List PV} {rs : List DV} (hc : callable P f)
    (h : ∀ S α w vals, (∀ b, S b → b < w.heap.size) → prepL S (live sto0) α w args vals → Calls P f vals.toArray w fun e w' => Below w.heap.size w w' ∧ ∃ v S', e = .returned v ∧
      (∀ b, S' b → S b ∨ (w.heap.size ≤ b ∧ b < w'.heap.size)) ∧ (∀ b, S b → S' b) ∧ (resP (rs.map .d)).rep S' (live sto0) α w' v) : FnD P f args rs := by
  refine ⟨hc, fun S α w vals hr hv => (h S α w vals hr.slt hv).mono ?_⟩
  rintro e w' ⟨hb, v, S', rfl, h1, h2, hv'⟩
  have hno : ∀ α i, ¬ real sto0 α i := fun α i h => by simp [real, live, sto0, Blk.alive] at h
  refine ⟨.ret (rs.map .d), sto0, S', α, ⟨rfl, rfl⟩, ⟨_, rfl, hv'⟩, ⟨fun _ => trivial, fun i _ hi => absurd hi (hno _ _), fun i hi => absurd hi (hno _ _), fun b hb' => ?_⟩, ?_, fun i cs h => by cases h⟩
  · rcases h1 b hb' with h | h
    · exact Nat.lt_of_lt_of_le (hr.slt b h) hb.size
    · exact h.2
  · refine ⟨hb.os, hb.tape, hb.output, hb.size, fun b hb' _ => hb.block b hb', fun i hi => absurd hi (hno _ _), h2, fun b hb' => ?_⟩
    rcases h1 b hb' with h | h
    · exact .inl h
    · exact .inr (.inl h.1)
/-- Of strings and integers, to one string or integer. -/
theorem fnD_flat {P : Program} {f : FuncId} {args : List PV} {r : DV} (hc : callable P f) (us : List Value) (u : Value) (ha : ∀ S α w vals, prepL S (live sto0) α w args vals → vals = us)
    (hr : ∀ S α w, (PV.d r).rep S (live sto0) α w u) (h : ∀ w, Calls P f us.toArray w fun e w' => e = .returned u ∧ Below w.heap.size w w') : FnD P f args [r] := by
  refine fnD_calls hc fun S α w vals hlt hv => ?_
  rw [ha S α w vals hv]
  refine (h w).mono ?_
  rintro e w' ⟨rfl, hb⟩
  exact ⟨hb, u, S, rfl, fun b h => .inl h, fun b h => h, hr S α w'⟩
/-- A string that comes in is of a length that is an int. -/
theorem fnD_fits {P : Program} {f : FuncId} {b : ByteArray} {args : List PV} {rs : List DV} (hc : callable P f) (h : fits b.size → FnD P f (.d (.str b) :: args) rs) : FnD P f (.d (.str b) :: args) rs := by
  refine ⟨hc, fun S α w vals hr hv => ?_⟩
  have hv' := hv
  simp only [prepL, PV.rep, DV.rep] at hv'
  obtain ⟨u, us, rfl, ⟨_, hf⟩, _⟩ := hv'
  exact (h hf).2 S α w _ hr hv
/-- So of a list. -/
theorem fnD_fitsL {P : Program} {f : FuncId} {sz n : Nat} {g : Nat → DV} {args : List PV} {rs : List DV} (hc : callable P f) (h : fits n → FnD P f (.d (.list sz n g) :: args) rs) : FnD P f (.d (.list sz n g) :: args) rs := by
  refine ⟨hc, fun S α w vals hr hv => ?_⟩
  have hv' := hv
  simp only [prepL, PV.rep, DV.rep] at hv'
  obtain ⟨u, us, rfl, ⟨_, _, _, _, hf, _⟩, _⟩ := hv'
  exact (h hf).2 S α w _ hr hv
end Go.Ev

/- A part of the walk over a program with slices and structs as plain values: the step of each operation, proved against the given semantics once for all programs. Conditions: none but those that each theorem names. -/
import Derived.Test.YtnhpgmmhfgdmjaaGreatEvD
set_option linter.unusedVariables false
set_option linter.unusedSimpArgs false
namespace Go.Ev
open Go.RowKit

section
variable {P : Program} {w : World}
theorem ty_some {t : TypeId} (h : (tyOf P t).size ≠ 0 ∨ (tyOf P t).td ≠ .bad) : ∃ i u, P.info? t = some i ∧ P.underlying t = some u ∧ tyOf P t = ⟨tdOf u, i.size, i.bytes⟩ := by
  unfold tyOf at h ⊢
  split
  · rename_i i u h1 h2
    exact ⟨i, u, h1, h2, rfl⟩
  · rename_i h1
    split at h
    · rename_i i u h2 h3
      exact absurd h3 (h1 i u h2)
    · simp at h
theorem isAgg_tdOf (u : TypeDesc) : (match u with | .struct _ | .array _ _ => true | _ => false) = (tdOf u).isAgg := by
  cases u <;> rfl
theorem run_isAgg' {t : TypeId} {u : TypeDesc} (h : P.underlying t = some u) : (isAgg t).run P w = .ok (tdOf u).isAgg w := by
  simp only [isAgg, Sem.run_bind, run_underlying h, Result.andThen_ok]
  cases u <;> rfl
theorem run_sizeOf' {t : TypeId} {i : TypeInfo} (h : P.info? t = some i) : (sizeOf t).run P w = .ok i.size w := by
  simp [sizeOf, run_typeInfo w h]
theorem tyOf_eq {t : TypeId} {i : TypeInfo} {u : TypeDesc} (h : P.info? t = some i) (hu : P.underlying t = some u) : tyOf P t = ⟨tdOf u, i.size, i.bytes⟩ := by
  simp [tyOf, h, hu]
/-- 'loadVar' at cells that are there. -/
theorem run_loadVar_cells {t : TypeId} {i : TypeInfo} {u : TypeDesc} (hi : P.info? t = some i) (hu : P.underlying t = some u) (h0 : i.size ≠ 0) {b off : Nat} {us : List Value} (hl : us.length = i.size)
    (hc : cellsAt w b off us) : ∃ v, (loadVar t ⟨b, off, none⟩).run P w = .ok v w ∧ (((tdOf u).isAgg = true ∧ v = .agg us.toArray) ∨ ((tdOf u).isAgg = false ∧ ∃ us', us = v :: us')) := by
  simp only [loadVar, Sem.run_bind, run_isAgg' hu, Result.andThen_ok]
  cases hag : (tdOf u).isAgg with
  | true =>
    refine ⟨.agg us.toArray, ?_, .inl ⟨rfl, rfl⟩⟩
    have := run_loadCells_list (P := P) w ⟨b, off, none⟩ us (fun j v hj => by rw [Addr.add_lit]; exact hc j v hj)
    simp only [if_true, Sem.run_bind, run_sizeOf' hi, Result.andThen_ok, ← hl, this, Sem.run_pure]
  | false =>
    cases us with
    | nil => simp at hl; omega
    | cons v us' =>
      have := hc 0 v rfl
      simp only [Nat.add_zero] at this
      exact ⟨v, by simp [this], .inr ⟨rfl, us', rfl⟩⟩
end

section
variable {P : Program} {S : Nat → Prop} {α : Nat → Loc} {σ : Sto} {w : World} {nid : Nat} {s : Store} {lim : Nat}

theorem cells_of_block {b : Nat} {us : List Value} {t : TypeId} {fr : Nat × Nat} (h : w.heap[b]? = some (.cells us.toArray t fr)) (off n : Nat) : cellsAt w b off ((us.drop off).take n) := by
  intro j u hj
  simp only [World.cell?, h]
  have : us[off + j]? = some u := by
    rw [List.getElem?_take] at hj
    split at hj
    · simpa using hj
    · cases hj
  simpa using this

theorem box_of (hr : RelS S α σ w) {id : Nat} {cs : List PV} (h : σ id = .box cs) : (α id).none = false ∧ ∃ (us : List Value) (t : TypeId) (fr : Nat × Nat), w.heap[(α id).b]? = some (.cells us.toArray t fr) ∧ thaw fr us.length ∧ (∀ u ∈ us, u.oneCell' = true) ∧ prepL S (live σ) α w cs us := by
  have := hr.sto id
  rw [h] at this
  exact this
theorem arr_of (hr : RelS S α σ w) {id : Nat} {e : TypeId} {sz n : Nat} {f : Nat → DV} (h : σ id = .arr e sz n f) : (α id).sz = sz ∧ (((α id).none = true ∧ n = 0) ∨ ((α id).none = false ∧ ∃ (us : List Value) (fr : Nat × Nat), w.heap[(α id).b]? = some (.cells us.toArray e fr) ∧ thaw fr us.length ∧ (α id).o + n * sz ≤ us.length ∧
      ∀ i, i < n → ∃ u, u.cells.size = sz ∧ cellsAt w (α id).b ((α id).o + i * sz) u.cells.toList ∧ (f i).rep S w u)) := by
  have := hr.sto id
  rw [h] at this
  exact this

theorem cellsAt_sub {b o n m : Nat} {us : List Value} (h : cellsAt w b o us) : cellsAt w b (o + n) ((us.drop n).take m) := by
  intro j u hj
  have : us[n + j]? = some u := by
    rw [List.getElem?_take] at hj
    split at hj
    · simpa using hj
    · cases hj
  have := h (n + j) u this
  rwa [← Nat.add_assoc] at this

theorem onePV_rep {L : Nat → Prop} {ag : Bool} {ps : List PV} {us : List Value} {v : Value} (h : prepL S L α w ps us) (h0 : ∀ u ∈ us, u.oneCell' = true) (hv : (ag = true ∧ v = .agg us.toArray) ∨ (ag = false ∧ ∃ us', us = v :: us')) : (onePV ag ps).rep S L α w v := by
  rcases hv with ⟨rfl, rfl⟩ | ⟨rfl, us', rfl⟩
  · simp only [onePV, PV.rep]
    exact ⟨us, rfl, h0, h⟩
  · cases ps with
    | nil => simp [prepL] at h
    | cons p ps =>
      simp only [prepL] at h
      obtain ⟨u, us'', he, h1, _⟩ := h
      simp only [List.cons.injEq] at he
      obtain ⟨rfl, rfl⟩ := he
      exact h1
theorem oneD_rep {ag : Bool} {ps : List DV} {us : List Value} {v : Value} (h : repL S w ps us) (hv : (ag = true ∧ v = .agg us.toArray) ∨ (ag = false ∧ ∃ us', us = v :: us')) : (oneD ag ps).rep S w v := by
  rcases hv with ⟨rfl, rfl⟩ | ⟨rfl, us', rfl⟩
  · simp only [oneD, DV.rep]
    exact ⟨us, rfl, h⟩
  · cases ps with
    | nil => simp [repL] at h
    | cons p ps =>
      simp only [repL] at h
      obtain ⟨u, us'', he, _, h1, _⟩ := h
      simp only [List.cons.injEq] at he
      obtain ⟨rfl, rfl⟩ := he
      exact h1

theorem load_ok (hr : RelS S α σ w) (hlim : ∀ id B, id < lim → nth s id = some B → σ id = B) {t : TypeId} {x : PV} {u : Value} (hx : x.rep S (live σ) α w u) {C : Prop} {v : PV} {nb : Option Blk}
    (h : loadQ P t s lim x = .ok C v nb) (hC : C) : nb = none ∧ ∃ y, (Instr.loadAt t u).run P w = .ok y w ∧ v.rep S (live σ) α w y := by
  unfold loadQ at h
  split at h
  · rename_i id off
    simp only [PV.rep] at hx
    obtain ⟨_, _, rfl⟩ := hx
    split at h
    · rename_i hlt
      split at h
      · rename_i cs hn
        split at h
        · rename_i qs hs
          split at h
          · cases h
          · rename_i h0
            simp only [QR.ok.injEq] at h
            obtain ⟨_, rfl, rfl⟩ := h
            obtain ⟨i, ud, hi, hu, hty⟩ := ty_some (P := P) (t := t) (.inl h0)
            rw [hty] at hs h0 ⊢
            dsimp only at hs h0 ⊢
            obtain ⟨_, us, t', fr, hb, _, ho, hp⟩ := box_of hr (hlim id _ hlt hn)
            obtain ⟨k1, k2⟩ := prepL_sub hp hs
            obtain ⟨v, hv, hv'⟩ := run_loadVar_cells (P := P) hi hu h0 (us := (us.drop off).take i.size) (by simp; omega) (cells_of_block hb off i.size)
            exact ⟨rfl, v, by simp [Instr.loadAt, Instr.sureAddr, hv], onePV_rep k1 (fun u hu => ho u (List.mem_of_mem_drop (List.mem_of_mem_take hu))) hv'⟩
        · cases h
      · cases h
    · cases h
  · rename_i cs
    simp only [PV.rep] at hx
    obtain ⟨b, off, us, rfl, _, hc, hp⟩ := hx
    split at h
    · rename_i qs hs
      split at h
      · cases h
      · rename_i h0
        simp only [QR.ok.injEq] at h
        obtain ⟨_, rfl, rfl⟩ := h
        obtain ⟨i, ud, hi, hu, hty⟩ := ty_some (P := P) (t := t) (.inl h0)
        rw [hty] at hs h0 ⊢
        dsimp only at hs h0 ⊢
        obtain ⟨k1, k2⟩ := repL_sub hp hs
        obtain ⟨v, hv, hv'⟩ := run_loadVar_cells (P := P) (b := b) (off := off) hi hu h0 (us := (us.drop 0).take i.size) (by simp; omega) (by simpa using cellsAt_sub (n := 0) (m := i.size) hc)
        exact ⟨rfl, v, by simp [Instr.loadAt, Instr.sureAddr, hv], (by simp only [PV.rep]; exact oneD_rep k1 hv')⟩
    · cases h
  · rename_i id i j
    simp only [PV.rep] at hx
    obtain ⟨_, _, rfl⟩ := hx
    split at h
    · rename_i hlt
      split at h
      · rename_i e sz n f hn
        split at h
        · rename_i qs hs
          split at h
          · cases h
          · rename_i h0
            simp only [QR.ok.injEq] at h
            obtain ⟨rfl, rfl, rfl⟩ := h
            obtain ⟨ti, ud, hi, hu, hty⟩ := ty_some (P := P) (t := t) (.inl h0)
            rw [hty] at hs h0 ⊢
            dsimp only at hs h0 ⊢
            obtain ⟨hsz, ⟨_, hn0⟩ | ⟨_, us, fr, hb, _, _, hel⟩⟩ := arr_of hr (hlim id _ hlt hn)
            · exact absurd hC (by omega)
            obtain ⟨q, hq, hc, hrep⟩ := hel i hC
            obtain ⟨k1, k2⟩ := repL_sub (DV.cells_rep hrep) hs
            rw [hsz]
            obtain ⟨v, hv, hv'⟩ := run_loadVar_cells (P := P) hi hu h0 (us := (q.cells.toList.drop j).take ti.size) (by simp at k2 ⊢; omega) (cellsAt_sub hc)
            exact ⟨rfl, v, by simp [Instr.loadAt, Instr.sureAddr, hv], (by simp only [PV.rep]; exact oneD_rep k1 hv')⟩
        · cases h
      · cases h
    · cases h
  · cases h
end
end Go.Ev

/- All quiet operations together. -/
import Derived.Test.YtnhpgmmhfgdmjaaGreatEvI
set_option linter.unusedVariables false
set_option linter.unusedSimpArgs false
namespace Go.Ev
open Go.RowKit

section
variable {P : Program} {S : Nat → Prop} {α : Nat → Loc} {σ : Sto} {w : World} {nid : Nat} {s : Store} {lim : Nat} {C : Prop} {v : PV} {nb : Option Blk} {a : Act} {ε : Nat → PV} {g : List (Tmp × Bool)}

theorem map_toArray {β γ : Type} (f : β → γ) (x : Array β) : (x.toList.map f).toArray = x.map f := by
  rw [← List.map_toArray]

theorem opt_rep (he : ∀ t, (ε t).erep S (live σ) α w a.tmps (a.tmps.getD t undef)) (hg : hold a.tmps g) : ∀ x : Option Operand, optRep S (live σ) α w (optP ε g x) (x.map a.eval)
  | none => trivial
  | some x => opnd_rep he hg x

theorem parts_rep (he : ∀ t, (ε t).erep S (live σ) α w a.tmps (a.tmps.getD t undef)) (hg : hold a.tmps g) (ps : Array (Nat × Operand)) :
    (partsP ε g ps.toList).map (·.1) = (ps.map fun x => (x.1, a.eval x.2)).toList.map (·.1) ∧ prepL S (live σ) α w ((partsP ε g ps.toList).map (·.2)) ((ps.map fun x => (x.1, a.eval x.2)).toList.map (·.2)) := by
  simp only [partsP, Array.toList_map, List.map_map, Function.comp_def, true_and]
  have := opnds_rep he hg (ps.toList.map (·.2))
  simpa only [List.map_map, Function.comp_def] using this

/-- What is shown of an operation as a whole. -/
def QEx (P : Program) (S : Nat → Prop) (α : Nat → Loc) (σ : Sto) (w : World) (nid : Nat) (m : Sem Next) (v : PV) (nb : Option Blk) : Prop :=
  ∃ α' u w', m.run P w = .ok (.value u) w' ∧ Below w.heap.size w w' ∧ RelS S α' (put σ nid nb) w' ∧ Moved S α σ w S α' (put σ nid nb) w' ∧
    (∀ i, i ≠ nid → α' i = α i) ∧ v.rep S (live (put σ nid nb)) α' w' u

theorem QOk.ex {m : Sem Value} (h : QOk P S α σ w nid m v nb) {m' : Sem Next} (hm : m' = (do let u ← m; Pure.pure (Next.value u))) : QEx P S α σ w nid m' v nb := by
  obtain ⟨α', u, w', h1, h2⟩ := h
  exact ⟨α', u, w', by rw [hm]; simp [h1], h2⟩

theorem opQ_ok (hr : RelS S α σ w) (hd : ¬ live σ nid) (hlim : ∀ id B, id < lim → nth s id = some B → σ id = B) (he : ∀ t, (ε t).erep S (live σ) α w a.tmps (a.tmps.getD t undef)) (hg : hold a.tmps g)
    {wr : Bool} {o : Oper} (h : opQ P wr o.op ε g s lim nid = .ok C v nb) (hC : C) : QEx P S α σ w nid (execOp a.eval o) v nb := by
  have R := opnd_rep he hg
  obtain ⟨dst, op, type, pos, after, guard⟩ := o
  dsimp only at h
  cases op <;> simp only [opQ, reduceCtorEq] at h
  case move x =>
    simp only [QR.ok.injEq] at h
    obtain ⟨_, rfl, rfl⟩ := h
    exact (QOk.pure (m := pure (a.eval x)) hr rfl (R x)).ex rfl
  case assign x =>
    simp only [QR.ok.injEq] at h
    obtain ⟨_, rfl, rfl⟩ := h
    exact (QOk.pure (m := pure (a.eval x)) hr rfl (R x)).ex rfl
  case pick c x y =>
    cases c <;> simp only [opQ, reduceCtorEq] at h
    case tmp t =>
    split at h
    · rename_i p b1 b2 e1 e2 e3
      simp only [QR.ok.injEq] at h
      obtain ⟨_, rfl, rfl⟩ := h
      have h1 := R (.tmp t)
      rw [e1] at h1
      simp only [PV.rep, DV.rep] at h1
      have ht : a.tmps.getD t undef = .bool p := h1
      cases p with
      | true =>
        have h2 := opnd_rep he (g := (t, true) :: g) (fun t' b' hm => by
          rcases List.mem_cons.1 hm with hm | hm
          · simp only [Prod.mk.injEq] at hm; rw [hm.1, hm.2]; exact ht
          · exact hg _ _ hm) x
        rw [e2] at h2
        refine (QOk.pure (m := do pure (if ← asBool (a.eval (.tmp t)) then a.eval x else a.eval y)) hr (u := a.eval x) ?_ h2).ex ?_
        · rw [h1]; rfl
        · simp [execOp]
      | false =>
        have h2 := opnd_rep he (g := (t, false) :: g) (fun t' b' hm => by
          rcases List.mem_cons.1 hm with hm | hm
          · simp only [Prod.mk.injEq] at hm; rw [hm.1, hm.2]; exact ht
          · exact hg _ _ hm) y
        rw [e3] at h2
        refine (QOk.pure (m := do pure (if ← asBool (a.eval (.tmp t)) then a.eval x else a.eval y)) hr (u := a.eval y) ?_ h2).ex ?_
        · rw [h1]; rfl
        · simp [execOp]
    · cases h
  case alloc t =>
    split at h
    · rename_i z hz
      simp only [QR.ok.injEq] at h
      obtain ⟨_, rfl, rfl⟩ := h
      exact (alloc_ok hr hd hz).ex rfl
    · cases h
  case box t x =>
    split at h
    · rename_i hp
      simp only [QR.ok.injEq] at h
      obtain ⟨_, rfl, rfl⟩ := h
      exact (box_ok hr hd (R x) hp).ex rfl
    · cases h
  case build t ps =>
    obtain ⟨h1, h2⟩ := parts_rep he hg ps
    exact (buildQ_ok hr h1 h2 h).ex rfl
  case buildSlice t len ps =>
    obtain ⟨h1, h2⟩ := parts_rep he hg ps
    exact (buildSliceQ_ok hr hd h1 h2 h).ex rfl
  case load t x =>
    obtain ⟨rfl, u, h1, h2⟩ := load_ok (P := P) hr hlim (R x) h hC
    exact (QOk.pure (m := Instr.loadAt t (a.eval x)) hr h1 h2).ex rfl
  case nilCheck x =>
    obtain ⟨rfl, h1, h2⟩ := nilCheckQ_ok (P := P) (o := ⟨dst, .nilCheck x, type, pos, after, guard⟩) hr rfl rfl (R x) h
    exact ⟨α, _, w, h1, Below.refl _ _, hr, Moved.refl _ _ _ _, fun _ _ => rfl, h2⟩
  case binOp op t x y t' => exact (binQ_ok hr (R x) (R y) h hC).ex rfl
  case unOp op t x => exact (unQ_ok hr (R x) h hC).ex rfl
  case convert src dst x => exact (convQ_ok hr hlim hd (R x) h hC).ex rfl
  case makeInterface t x => exact (ifaceQ_ok hr (R x) h).ex rfl
  case makeFunc fn x y =>
    simp only [QR.ok.injEq] at h
    obtain ⟨_, rfl, rfl⟩ := h
    refine (QOk.pure (m := Instr.makeFunc fn (x.map a.eval) (y.map a.eval)) hr rfl ?_).ex rfl
    simp only [PV.rep]
    exact ⟨_, _, by rw [map_toArray, map_toArray], opnds_rep he hg x.toList, opnds_rep he hg y.toList⟩
  case makeSlice t x y => exact (makeSliceQ_ok hr hd (R x) (R y) h hC).ex rfl
  case slice t x lo hi mx =>
    cases mx <;> simp only [opQ, reduceCtorEq] at h
    exact (sliceQ_ok hr hlim (R x) (opt_rep he hg lo) (opt_rep he hg hi) h hC).ex rfl
  case fieldAddr t x i => exact (fieldAddr_ok hr (R x) h).ex rfl
  case field t x i => exact (field_ok hr (R x) h).ex rfl
  case indexAddr t x y => exact (indexAddr_ok hr hlim (R x) (R y) h hC).ex rfl
  case index t x y =>
    split at h
    · rename_i ht
      have hu := str_desc ht
      unfold indexQ at h
      split at h
      · rename_i b k n hx hy
        simp only [QR.ok.injEq] at h
        obtain ⟨rfl, rfl, rfl⟩ := h
        have h1 := R x
        have h2 := R y
        rw [hx] at h1
        rw [hy] at h2
        simp only [PV.rep, DV.rep] at h1 h2
        obtain ⟨h1, _⟩ := h1
        have hn : n.toNat < b.size := by have := hC.1; have := hC.2; omega
        refine (QOk.pure (m := Instr.index t (a.eval x) (a.eval y)) hr (u := .int .u8 (bget b n.toNat)) ?_ (by simp only [PV.rep, DV.rep])).ex rfl
        rw [h1, h2]
        simp [Instr.index, asInt_of, run_underlying hu, hC.1, hn, bget]
      · cases h
    · cases h
  case extract x i => exact (extract_ok hr (R x) h).ex rfl
  case call c =>
    obtain ⟨callee, args, ats⟩ := c
    dsimp only at h
    cases callee <;> try (cases h; done)
    rename_i b
    cases b <;> try (cases h; done)
    case len =>
      dsimp only at h
      split at h
      · rename_i x t hx ht
        have hx' : args = #[x] := by cases args; simp_all
        have ht' : ats = #[t] := by cases ats; simp_all
        subst hx'
        subst ht'
        refine (lenQ_ok (ty := type) hr (R x) h).ex ?_
        simp [execOp, resolve, invoke, builtin]
      · cases h
    case max =>
      dsimp only at h
      refine (maxQ_ok (ts := ats) (ty := type) hr (opnds_rep he hg args.toList) h).ex ?_
      rw [map_toArray]
      simp [execOp, resolve, invoke, builtin]
    case min =>
      dsimp only at h
      refine (minQ_ok (ts := ats) (ty := type) hr (opnds_rep he hg args.toList) h).ex ?_
      rw [map_toArray]
      simp [execOp, resolve, invoke, builtin]
end
end Go.Ev

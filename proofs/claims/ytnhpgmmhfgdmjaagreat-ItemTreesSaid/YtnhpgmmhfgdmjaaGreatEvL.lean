/- Operations that write. -/
import Derived.Test.YtnhpgmmhfgdmjaaGreatEvK
import Derived.Deep.Upon
import Derived.Deep.AppendSrc
import Derived.Laws.AppendOwn
set_option linter.unusedVariables false
set_option linter.unusedSimpArgs false
namespace Go.Ev
open Go.RowKit

/-! ### Stores -/
section
variable {P : Program} {w : World}
theorem heap_setCell_at {b o : Nat} {us : List Value} {t : TypeId} {fr : Nat × Nat} {v : Value} (h : w.heap[b]? = some (.cells us.toArray t fr)) : (w.setCell ⟨b, o, none⟩ v).heap[b]? = some (.cells (us.set o v).toArray t fr) := by
  simp [World.setCell, Array.getElem?_modify, h]
theorem heap_setCells_at {b : Nat} {t : TypeId} {fr : Nat × Nat} : ∀ (vs : List Value) (o : Nat) (us : List Value) (w : World), w.heap[b]? = some (.cells us.toArray t fr) → (w.setCells b o vs).heap[b]? = some (.cells (setsN us o vs).toArray t fr)
  | [], o, us, w, h => h
  | v :: vs, o, us, w, h => by
    rw [World.setCells]
    simp only [setsN, setN_eq]
    exact heap_setCells_at vs (o + 1) _ _ (heap_setCell_at h)
theorem size_setCells (b : Nat) : ∀ (vs : List Value) (o : Nat) (w : World), (w.setCells b o vs).heap.size = w.heap.size
  | [], _, _ => rfl
  | v :: vs, o, w => by rw [World.setCells, size_setCells b vs]; simp
theorem heap_setCells_ne (b : Nat) : ∀ (vs : List Value) (o : Nat) (w : World) (k : Nat), k ≠ b → (w.setCells b o vs).heap[k]? = w.heap[k]?
  | [], _, _, _, _ => rfl
  | v :: vs, o, w, k, h => by rw [World.setCells, heap_setCells_ne b vs _ _ k h, Below.heap_setCell _ _ _ _ h]
theorem tape_setCells (b : Nat) : ∀ (vs : List Value) (o : Nat) (w : World), (w.setCells b o vs).tape = w.tape
  | [], _, _ => rfl
  | v :: vs, o, w => by rw [World.setCells, tape_setCells b vs]; rfl

/-- A store of cells into a block that is there. -/
theorem run_storeCells_block {b o : Nat} {us : List Value} {t : TypeId} {fr : Nat × Nat} (h : w.heap[b]? = some (.cells us.toArray t fr)) (hf : thaw fr us.length) {vs : List Value} (hl : o + vs.length ≤ us.length) (h1 : ∀ v ∈ vs, v.oneCell' = true) :
    (storeCells ⟨b, o, none⟩ vs).run P w = .ok () (w.setCells b o vs) := by
  have := run_storeCells_cells (P := P) b o vs 0 w (fun j hj => by
    simp only [World.cell?, h, Nat.add_zero]
    simp
    omega) (fun j hj => by
    simp only [World.frozen?, h, Nat.add_zero]
    have := hf (o + j) (by omega)
    simpa using this) h1
  simpa using this
end

section
variable {P : Program} {S : Nat → Prop} {α : Nat → Loc} {σ : Sto} {w w' : World}

/-- One block of ours was written in place; the walk's state may have forgotten things. -/
theorem RelS.wrote (hr : RelS S α σ w) {id : Nat} (hre : real σ α id) (hsz : w'.heap.size = w.heap.size) (hne : ∀ k, k ≠ (α id).b → w'.heap[k]? = w.heap[k]?) (hsh : w'.shape? (α id).b = w.shape? (α id).b)
    {B : Blk} (hB : B.alive = true) (hrep : B.rep S (live (upd σ id B)) α w' (α id)) : RelS S α (upd σ id B) w' ∧ Kept (live σ) (live (upd σ id B)) α α w w' ∧ (∀ b, S b → w'.heap[b]? = w.heap[b]?) := by
  have hS : ∀ b, S b → w'.heap[b]? = w.heap[b]? := fun b hb => hne b fun e => (hr.out id hre).1 (e ▸ hb)
  have hlive : ∀ i, live (upd σ id B) i ↔ live σ i := fun i => by
    by_cases h : i = id
    · subst h; simp [live, upd_same, hB, show (σ i).alive = true from hre.1]
    · simp [live, upd_other _ _ h]
  have hk : Kept (live σ) (live (upd σ id B)) α α w w' := fun i hi => ⟨(hlive i).2 hi, rfl, fun hn => by
    by_cases h : (α i).b = (α id).b
    · rw [h]; exact hsh
    · exact shape_same (hne _ h)⟩
  refine ⟨⟨fun i => ?_, fun i j hi hj => hr.inj i j ⟨(hlive i).1 hi.1, hi.2⟩ ⟨(hlive j).1 hj.1, hj.2⟩, fun i hi => ?_, fun b hb => ?_⟩, hk, hS⟩
  · by_cases h : i = id
    · subst h
      rw [upd_same]
      exact hrep
    · rw [upd_other _ _ h]
      by_cases hv : live σ i
      · exact Blk.rep_mono (fun _ x => x) hS hk (fun hn => hne _ fun e => h (hr.inj i id ⟨hv, hn⟩ hre e)) (hr.sto i)
      · unfold live at hv
        cases hb : σ i with
        | dead => trivial
        | _ => simp [hb, Blk.alive] at hv
  · rw [hsz]
    exact hr.out i ⟨(hlive i).1 hi.1, hi.2⟩
  · rw [hsz]
    exact hr.slt b hb
end

/-! ### The list of blocks, as a function -/
theorem lk_set {s : Store} {id : Nat} {B0 B : Blk} (h : nth s id = some B0) : lk (setN s id B) = upd (lk s) id B := by
  funext i
  have hl : id < s.length := (List.getElem?_eq_some_iff.1 ((nth_eq s id).symm.trans h)).1
  simp only [lk, nth_eq, setN_eq, upd]
  by_cases e : i = id
  · subst e
    simp [hl]
  · rw [if_neg e, List.getElem?_set_ne (by omega)]
theorem lk_append (s : Store) (B : Blk) : lk (s ++ [B]) = upd (lk s) s.length B := by
  funext i
  simp only [lk, nth_eq, upd]
  by_cases e : i = s.length
  · subst e
    simp
  · rw [if_neg e]
    by_cases h : i < s.length
    · rw [List.getElem?_append_left h]
    · rw [List.getElem?_eq_none (by simp; omega), List.getElem?_eq_none (by omega)]
theorem lk_nth {s : Store} {id : Nat} {B : Blk} (h : nth s id = some B) : lk s id = B := by simp [lk, h]
theorem not_live_length (s : Store) : ¬ live (lk s) s.length := by
  simp [live, lk, nth_eq, Blk.alive]

def Blk.isArr : Blk → Bool
  | .arr .. => true
  | _ => false
theorem lk_setN_other {s : Store} {id i : Nat} {B : Blk} (h : i ≠ id) : lk (setN s id B) i = lk s i := by
  simp only [lk, nth_eq, setN_eq]
  rw [List.getElem?_set_ne (by omega)]
/-- What is shown of an operation that writes. -/
def EEx (P : Program) (S : Nat → Prop) (α : Nat → Loc) (s : Store) (a : Act) (w : World) (m : Sem Next) (v : PV) (e' : Env) (s' : Store) : Prop :=
  ∃ α' n w', m.run P w = .ok n w' ∧ (∃ u, (n = .value u ∨ n = .skip ∧ u = undef) ∧ v.rep S (live (lk s')) α' w' u) ∧ RelS S α' (lk s') w' ∧ Moved S α (lk s) w S α' (lk s') w' ∧
    (∀ t, (get e' t).erep S (live (lk s')) α' w' a.tmps (a.tmps.getD t undef)) ∧ s.length ≤ s'.length ∧ (∀ i, i < s.length → (lk s i).isArr = false → α' i = α i ∧ (lk s' i).isArr = false)

section
variable {P : Program} {S : Nat → Prop} {α : Nat → Loc} {s : Store} {w : World} {C : Prop} {v : PV} {e e' : Env} {s' : Store} {a : Act}

theorem run_storeAt {t : TypeId} {ti : TypeInfo} (hi : P.info? t = some ti) {b o : Nat} {us : List Value} {t' : TypeId} {fr : Nat × Nat} (h : w.heap[b]? = some (.cells us.toArray t' fr)) (hf : thaw fr us.length) {u : Value} (hs : u.cells.size = ti.size)
    (hl : o + ti.size ≤ us.length) (h1 : ∀ v ∈ u.cells.toList, v.oneCell' = true) : (Instr.storeAt t (.pointer (some ⟨b, o, none⟩)) u).run P w = .ok () (w.setCells b o u.cells.toList) := by
  have := run_storeCells_block (P := P) h hf (vs := u.cells.toList) (o := o) (by simpa [hs] using hl) h1
  simp [Instr.storeAt, Instr.sureAddr, storeVar, run_sizeOf' hi, hs, this]

theorem moved_wrote {σ σ' : Sto} {w' : World} {id : Nat} (hos : w'.os = w.os) (htape : w'.tape = w.tape) (hout : w'.output = w.output) (hsz : w'.heap.size = w.heap.size) (hne : ∀ k, k ≠ (α id).b → w'.heap[k]? = w.heap[k]?) (hre : real σ α id) (hl : ∀ i, live σ' i → live σ i) :
    Moved S α σ w S α σ' w' :=
  ⟨hos, htape, hout, by rw [hsz]; exact Nat.le_refl _, fun b _ hb => hne b fun e => hb id hre e.symm, fun i hi => .inl ⟨i, ⟨hl i hi.1, hi.2⟩, rfl⟩, fun _ h => h, fun _ h => .inl h⟩

theorem storeQ_ok (hr : RelS S α (lk s) w) (he : ∀ t, (get e t).erep S (live (lk s)) α w a.tmps (a.tmps.getD t undef)) {t : TypeId} {x y : PV} {ux uy : Value} (hx : x.rep S (live (lk s)) α w ux) (hy : y.rep S (live (lk s)) α w uy)
    (h : storeQ P t e s x y = .ok C v e' s') (hC : C) : EEx P S α s a w (do Instr.storeAt t ux uy; Pure.pure Next.skip) v e' s' := by
  unfold storeQ at h
  split at h
  · rename_i id off
    split at h
    · rename_i cs hn
      split at h
      · rename_i hck
        obtain ⟨hp, hlen, h0, hfit⟩ := hck
        simp only [ER.ok.injEq] at h
        obtain ⟨_, rfl, rfl, rfl⟩ := h
        simp only [PV.rep] at hx
        obtain ⟨hl, hnn, rfl⟩ := hx
        obtain ⟨ti, ud, hti, _, hty⟩ := ty_some (P := P) (t := t) (.inl h0)
        rw [hty] at hlen h0
        dsimp only at hlen h0
        obtain ⟨hb0, us, t', fr, hb, hf, ho, hcs⟩ := box_of hr (lk_nth hn)
        obtain ⟨hy1, hy2⟩ := PV.cells_rep hy hp
        have e1 := prepL_length hy1
        have e2 := prepL_length hcs
        have hus : uy.cells.size = ti.size := by simp at e1; omega
        have run := run_storeAt (P := P) hti hb hf (o := off) hus (by simp at e1; omega) hy2
        have hre : real (lk s) α id := ⟨hl, hnn⟩
        have hre' : (Blk.box (setsN cs off y.cells)).alive = true := rfl
        have hat := heap_setCells_at uy.cells.toList off us w hb
        have hne := fun k hk => heap_setCells_ne (α id).b uy.cells.toList off w k hk
        have hsh : (w.setCells (α id).b off uy.cells.toList).shape? (α id).b = w.shape? (α id).b := by
          simp only [World.shape?, hat, hb]
          simp [setsN_length]
        have hS : ∀ b, S b → (w.setCells (α id).b off uy.cells.toList).heap[b]? = w.heap[b]? := fun b hb => hne b fun e => (hr.out id hre).1 (e ▸ hb)
        have hlive : ∀ i, live (upd (lk s) id (.box (setsN cs off y.cells))) i ↔ live (lk s) i := fun i => by
          by_cases h : i = id
          · subst h; simp [live, upd_same, Blk.alive, lk_nth hn]
          · simp [live, upd_other _ _ h]
        have hk : Kept (live (lk s)) (live (upd (lk s) id (.box (setsN cs off y.cells)))) α α w (w.setCells (α id).b off uy.cells.toList) := fun i hi => ⟨(hlive i).2 hi, rfl, fun hn => by
          by_cases h : (α i).b = (α id).b
          · rw [h]; exact hsh
          · exact shape_same (hne _ h)⟩
        obtain ⟨k1, k2, k3⟩ := hr.wrote hre (size_setCells _ _ _ _) hne hsh hre' (B := .box (setsN cs off y.cells))
          ⟨hnn, setsN us off uy.cells.toList, t', fr, hat, by rw [setsN_length]; exact hf, fun u hu => (setsN_mem _ _ _ _ hu).elim (ho u) (hy2 u),
            prepL_sets (prepL_mono (fun _ x => x) hS hk _ _ hcs) (prepL_mono (fun _ x => x) hS hk _ _ hy1)⟩
        rw [← lk_set hn] at k1 k2
        refine ⟨α, .skip, _, by simp [run], ⟨undef, .inr ⟨rfl, rfl⟩, by simp only [PV.rep]⟩, k1, ?_, fun t => ?_, by simp [setN_eq], fun i _ hi => ⟨rfl, by
          by_cases e : i = id
          · subst e; rw [lk_set hn, upd_same]; rfl
          · rw [lk_setN_other e]; exact hi⟩⟩
        · exact moved_wrote (World.os_setCells _ _ _ _) (tape_setCells _ _ _ _) (World.output_setCells _ _ _ _) (size_setCells _ _ _ _) hne hre (fun i hi => by
            rw [lk_set hn] at hi
            exact (hlive i).1 hi)
        · exact PV.erep_mono (fun _ x => x) k3 k2 _ _ (fun _ _ _ _ => Iff.rfl) (he t)
      · cases h
    · cases h
  · rename_i id i j
    split at h
    · rename_i el sz n f hn
      split at h
      · rename_i d hd
        split at h
        · rename_i hck
          obtain ⟨hlen, h0, hw, rfl⟩ := hck
          simp only [ER.ok.injEq] at h
          obtain ⟨rfl, rfl, rfl, rfl⟩ := h
          simp only [PV.rep] at hx
          obtain ⟨hl, hnn, rfl⟩ := hx
          obtain ⟨ti, ud, hti, _, hty⟩ := ty_some (P := P) (t := t) (.inl h0)
          rw [hty] at hlen h0
          dsimp only at hlen h0
          obtain ⟨hsz, ⟨hno, _⟩ | ⟨_, us, fr, hb, hf, hfit, hel⟩⟩ := arr_of hr (lk_nth hn)
          · rw [hno] at hnn; cases hnn
          have hdy := deep_rep hd hy
          have hcl := cells_length hdy
          have hone := (repL_iff (L := live (lk s)) (α := α).1 (DV.cells_rep hdy)).2
          have hus : uy.cells.size = ti.size := hcl.trans hlen
          have hmul : i * sz + sz ≤ n * sz := by
            have : (i + 1) * sz ≤ n * sz := Nat.mul_le_mul_right _ hC
            rwa [Nat.add_mul, Nat.one_mul] at this
          rw [hsz, Nat.add_zero]
          have run := run_storeAt (P := P) hti hb hf (o := (α id).o + i * sz) hus (by omega) hone
          have hre : real (lk s) α id := ⟨hl, hnn⟩
          have hat := heap_setCells_at uy.cells.toList ((α id).o + i * sz) us w hb
          have hne := fun k hk => heap_setCells_ne (α id).b uy.cells.toList ((α id).o + i * sz) w k hk
          have hsh : (w.setCells (α id).b ((α id).o + i * sz) uy.cells.toList).shape? (α id).b = w.shape? (α id).b := by
            simp only [World.shape?, hat, hb]
            simp [setsN_length]
          have hS : ∀ b, S b → (w.setCells (α id).b ((α id).o + i * sz) uy.cells.toList).heap[b]? = w.heap[b]? := fun b hb => hne b fun e => (hr.out id hre).1 (e ▸ hb)
          have hlive : ∀ k, live (upd (lk s) id (.arr el sz n (fun k => if k = i then d else f k))) k ↔ live (lk s) k := fun k => by
            by_cases h : k = id
            · subst h; simp [live, upd_same, Blk.alive, lk_nth hn]
            · simp [live, upd_other _ _ h]
          obtain ⟨k1, k2, k3⟩ := hr.wrote hre (size_setCells _ _ _ _) hne hsh rfl (B := .arr el sz n (fun k => if k = i then d else f k))
            ⟨hsz, .inr ⟨hnn, setsN us ((α id).o + i * sz) uy.cells.toList, fr, hat, by rw [setsN_length]; exact hf, by rw [setsN_length]; exact hfit, fun k hk => by
              by_cases hki : k = i
              · subst hki
                refine ⟨uy, by omega, fun j u hj => ?_, by dsimp only; rw [if_pos rfl]; exact DV.rep_mono (fun _ x => x) hS _ _ hdy⟩
                have hjl := (List.getElem?_eq_some_iff.1 hj).1
                simp only [World.cell?, hat]
                simp only [Option.isSome_none, Bool.false_eq_true, if_false, List.getElem?_toArray]
                rw [setsN_get _ _ _ _ (by simp; omega), if_pos (by omega), show (α id).o + k * sz + j - ((α id).o + k * sz) = j by omega]
                exact hj
              · obtain ⟨u, q1, q2, q3⟩ := hel k hk
                refine ⟨u, q1, fun j y hj => ?_, by dsimp only; rw [if_neg hki]; exact DV.rep_mono (fun _ x => x) hS _ _ q3⟩
                have hjl := (List.getElem?_eq_some_iff.1 hj).1
                simp [q1] at hjl
                have hold := q2 j y hj
                simp only [World.cell?, hb, Option.isSome_none, Bool.false_eq_true, if_false, List.getElem?_toArray] at hold
                simp only [World.cell?, hat, Option.isSome_none, Bool.false_eq_true, if_false, List.getElem?_toArray]
                rw [setsN_get _ _ _ _ (by simp; omega), if_neg ?_]
                · exact hold
                · simp only [Array.length_toList]
                  intro hc
                  rcases Nat.lt_or_gt_of_ne hki with hlt | hgt
                  · have : (k + 1) * sz ≤ i * sz := Nat.mul_le_mul_right _ (by omega)
                    rw [Nat.add_mul, Nat.one_mul] at this
                    omega
                  · have : (i + 1) * sz ≤ k * sz := Nat.mul_le_mul_right _ (by omega)
                    rw [Nat.add_mul, Nat.one_mul] at this
                    omega⟩⟩
          rw [← lk_set hn] at k1 k2
          refine ⟨α, .skip, _, by simp [run], ⟨undef, .inr ⟨rfl, rfl⟩, by simp only [PV.rep]⟩, k1, ?_, fun t => ?_, by simp [setN_eq], fun k _ hi => ⟨rfl, by
            by_cases e : k = id
            · subst e; rw [lk_nth hn] at hi; cases hi
            · rw [lk_setN_other e]; exact hi⟩⟩
          · exact moved_wrote (World.os_setCells _ _ _ _) (tape_setCells _ _ _ _) (World.output_setCells _ _ _ _) (size_setCells _ _ _ _) hne hre (fun i hi => by
              rw [lk_set hn] at hi
              exact (hlive i).1 hi)
          · exact PV.erep_mono (fun _ x => x) k3 k2 _ _ (fun _ _ _ _ => Iff.rfl) (he t)
        · cases h
      · cases h
    · cases h
  · cases h
end

/-! ### Append -/
section
variable {S S' L L' : Nat → Prop} {α α' : Nat → Loc} {w w' : World} {id : Nat}
def KeptBut (id : Nat) (L L' : Nat → Prop) (α α' : Nat → Loc) (w w' : World) : Prop := ∀ i, i ≠ id → L i → L' i ∧ α' i = α i ∧ ((α i).none = false → w'.shape? (α i).b = w.shape? (α i).b)
mutual
theorem PV.kill_rep (hs : ∀ b, S b → S' b) (hw : ∀ b, S b → w'.heap[b]? = w.heap[b]?) (hk : KeptBut id L L' α α' w w') : ∀ (p : PV) (v : Value), p.rep S L α w v → (p.kill id).rep S' L' α' w' v
  | .unk, _, _ => by simp only [PV.kill, PV.rep]
  | .d x, v, h => by simp only [PV.kill, PV.rep] at h ⊢; exact x.rep_mono hs hw v h
  | .own i off len, v, h => by
    simp only [PV.kill]
    split
    · simp only [PV.rep]
    · rename_i hne
      simp only [PV.rep] at h ⊢
      obtain ⟨hl, h⟩ := h
      obtain ⟨k1, k2, k3⟩ := hk i hne hl
      rw [k2]
      refine ⟨k1, h.imp (fun x => x) ?_⟩
      rintro ⟨h0, h⟩
      rw [k3 h0]
      exact ⟨h0, h⟩
  | .ptr i off, v, h => by
    simp only [PV.kill]
    split
    · simp only [PV.rep]
    · rename_i hne
      simp only [PV.rep] at h ⊢
      obtain ⟨k1, k2, _⟩ := hk i hne h.1
      rw [k2]
      exact ⟨k1, h.2⟩
  | .eptr i j k, v, h => by
    simp only [PV.kill]
    split
    · simp only [PV.rep]
    · rename_i hne
      simp only [PV.rep] at h ⊢
      obtain ⟨k1, k2, _⟩ := hk i hne h.1
      rw [k2]
      exact ⟨k1, h.2⟩
  | .rptr cs, v, h => by
    simp only [PV.kill, PV.rep] at h ⊢
    obtain ⟨b, off, us, rfl, hb, hc, hr⟩ := h
    exact ⟨b, off, us, rfl, hs b hb, cellsAt_same (hw b hb) hc, repL_mono hs hw cs us hr⟩
  | .agg ps, v, h => by
    simp only [PV.kill, PV.rep] at h ⊢
    obtain ⟨vs, rfl, h0, h⟩ := h
    exact ⟨vs, rfl, h0, killL_rep hs hw hk ps vs h⟩
  | .tup ps, v, h => by
    simp only [PV.kill, PV.rep] at h ⊢
    obtain ⟨vs, rfl, h⟩ := h
    exact ⟨vs, rfl, killL_rep hs hw hk ps vs h⟩
  | .clo fn fs cs, v, h => by
    simp only [PV.kill, PV.rep] at h ⊢
    obtain ⟨us, vs, rfl, h1, h2⟩ := h
    exact ⟨us, vs, rfl, killL_rep hs hw hk fs us h1, killL_rep hs hw hk cs vs h2⟩
  | .ifc t p, v, h => by
    simp only [PV.kill, PV.rep] at h ⊢
    obtain ⟨u, rfl, h⟩ := h
    exact ⟨u, rfl, p.kill_rep hs hw hk u h⟩
  | .when .., v, h => by simp only [PV.rep] at h
theorem killL_rep (hs : ∀ b, S b → S' b) (hw : ∀ b, S b → w'.heap[b]? = w.heap[b]?) (hk : KeptBut id L L' α α' w w') : ∀ (ps : List PV) (vs : List Value), prepL S L α w ps vs → prepL S' L' α' w' (killL id ps) vs
  | [], _, h => by simpa only [killL, prepL] using h
  | p :: ps, _, h => by
    simp only [killL, prepL] at h ⊢
    obtain ⟨u, us, rfl, h1, h2⟩ := h
    exact ⟨u, us, rfl, p.kill_rep hs hw hk u h1, killL_rep hs hw hk ps us h2⟩
end
theorem PV.kill_erep {tmps : Array Value} (hs : ∀ b, S b → S' b) (hw : ∀ b, S b → w'.heap[b]? = w.heap[b]?) (hk : KeptBut id L L' α α' w w') (p : PV) (v : Value) (h : p.erep S L α w tmps v) : (p.kill id).erep S' L' α' w' tmps v := by
  cases p with
  | when g c q =>
    simp only [PV.kill, PV.erep] at h ⊢
    exact ⟨fun hh => ⟨(h.1 hh).1, q.kill_rep hs hw hk v (h.1 hh).2⟩, h.2⟩
  | own i o n =>
    have := PV.kill_rep hs hw hk _ v h
    simp only [PV.kill] at this ⊢
    split <;> simp_all [PV.erep, PV.rep]
  | ptr i o =>
    have := PV.kill_rep hs hw hk _ v h
    simp only [PV.kill] at this ⊢
    split <;> simp_all [PV.erep, PV.rep]
  | eptr i o =>
    have := PV.kill_rep hs hw hk _ v h
    simp only [PV.kill] at this ⊢
    split <;> simp_all [PV.erep, PV.rep]
  | _ => exact PV.kill_rep hs hw hk _ v h
theorem get_kill (id : Nat) : ∀ (e : Env) (t : Nat), get (killE id e) t = (get e t).kill id
  | [], t => by simp [killE, get, PV.kill]
  | (u, p) :: e, t => by
    simp only [killE, get]
    split
    · rfl
    · exact get_kill id e t
theorem nth_kill (id : Nat) : ∀ (s : Store) (i : Nat), nth (killS id s) i = (nth s i).map (killB id)
  | [], i => by simp [killS, nth]
  | b :: s, i => by
    simp only [killS, nth]
    split
    · rfl
    · exact nth_kill id s _

/-- n elements from a place on. -/
def Elems (S : Nat → Prop) (w : World) (b off sz n : Nat) (f : Nat → DV) : Prop := ∀ i, i < n → ∃ u, u.cells.size = sz ∧ cellsAt w b (off + i * sz) u.cells.toList ∧ (f i).rep S w u
/-- The same in a list of cells. -/
def Lies (S : Nat → Prop) (w : World) (sz n : Nat) (us : List Value) (f : Nat → DV) : Prop := us.length = n * sz ∧ (∀ u ∈ us, u.oneCell' = true) ∧
  ∀ i, i < n → ∃ u, u.cells.size = sz ∧ (∀ j x, u.cells.toList[j]? = some x → us[i * sz + j]? = some x) ∧ (f i).rep S w u

theorem Elems.lies {b off sz n : Nat} {f : Nat → DV} (h : Elems S w b off sz n f) : ∃ us, Lies S w sz n us f ∧ ∀ j u, us[j]? = some u → w.cell? ⟨b, off + j, none⟩ = some u := by
  have key : ∀ k, k < n * sz → ∃ u, w.cell? ⟨b, off + k, none⟩ = some u ∧ u.oneCell' = true := by
    intro k hk
    have hsz : 0 < sz := Nat.pos_of_ne_zero (by rintro rfl; simp at hk)
    have hi : k / sz < n := (Nat.div_lt_iff_lt_mul hsz).2 hk
    obtain ⟨u, h1, h2, h3⟩ := h (k / sz) hi
    have hm : k % sz < u.cells.toList.length := by simp [h1, Nat.mod_lt _ hsz]
    refine ⟨u.cells.toList[k % sz], ?_, (repL_iff (L := fun _ => False) (α := fun _ => default).1 (DV.cells_rep h3)).2 _ (List.getElem_mem _)⟩
    have := h2 (k % sz) _ (List.getElem?_eq_getElem hm)
    rwa [Nat.add_assoc, Nat.mul_comm, Nat.div_add_mod] at this
  refine ⟨(List.range (n * sz)).map fun k => (w.cell? ⟨b, off + k, none⟩).getD undef, ⟨by simp, fun u hu => ?_, fun i hi => ?_⟩, fun j u hj => ?_⟩
  · obtain ⟨k, hk, rfl⟩ := List.mem_map.1 hu
    obtain ⟨v, h1, h2⟩ := key k (by simpa using hk)
    rw [h1]
    exact h2
  · obtain ⟨u, h1, h2, h3⟩ := h i hi
    refine ⟨u, h1, fun j x hj => ?_, h3⟩
    have hjl := (List.getElem?_eq_some_iff.1 hj).1
    simp [h1] at hjl
    have hb : i * sz + j < n * sz := by
      have : (i + 1) * sz ≤ n * sz := Nat.mul_le_mul_right _ hi
      rw [Nat.add_mul, Nat.one_mul] at this
      omega
    have := h2 j x hj
    rw [Nat.add_assoc] at this
    simp [List.getElem?_range hb, this]
  · have hjl := (List.getElem?_eq_some_iff.1 hj).1
    simp at hjl
    obtain ⟨v, h1, _⟩ := key j hjl
    simp [List.getElem?_range hjl, h1] at hj
    rw [h1, hj]
end

section
variable {P : Program} {S : Nat → Prop} {α : Nat → Loc} {s : Store} {w : World}
theorem srcQ_ok (hr : RelS S α (lk s) w) {tx : TypeId} {sz m : Nat} {g : Nat → DV} {y : PV} {u : Value} (hy : y.rep S (live (lk s)) α w u) (h : srcQ P tx sz s y = some (m, g)) : ∃ news, Src P sz tx u m news w ∧ Lies S w sz m news g := by
  unfold srcQ at h
  split at h
  · rename_i el sz' n f ht
    split at h
    · rename_i hsz
      subst hsz
      simp only [Option.some.injEq, Prod.mk.injEq] at h
      obtain ⟨rfl, rfl⟩ := h
      simp only [PV.rep, DV.rep] at hy
      obtain ⟨a, cap, rfl, _, _, hel⟩ := hy
      rcases Nat.eq_zero_or_pos n with h0 | h0
      · subst h0
        refine ⟨[], ?_, by simp, by simp, fun i hi => by omega⟩
        cases a with
        | none => exact Src.ofNil w (slice_desc ht) cap
        | some a => exact Src.ofSlice w (slice_desc ht) a 0 cap [] (by simp) (by simp) (by simp)
      · obtain ⟨b, off, rfl, _, hel⟩ := hel h0
        obtain ⟨us, h1, h2⟩ := Elems.lies (b := b) (off := off) hel
        exact ⟨us, Src.ofSlice w (slice_desc ht) _ n cap us h1.1 (fun j u hj => by rw [Addr.add_lit]; exact h2 j u hj) h1.2.1, h1⟩
    · cases h
  · rename_i el ht
    simp only [Option.some.injEq, Prod.mk.injEq] at h
    obtain ⟨rfl, rfl⟩ := h
    simp only [PV.rep, DV.rep] at hy
    subst hy
    exact ⟨[], Src.ofNil w (slice_desc ht) 0, by simp, by simp, fun i hi => by omega⟩
  · rename_i b ht
    split at h
    · rename_i hsz
      subst hsz
      simp only [Option.some.injEq, Prod.mk.injEq] at h
      obtain ⟨rfl, rfl⟩ := h
      simp only [PV.rep, DV.rep] at hy
      obtain ⟨rfl, _⟩ := hy
      refine ⟨byteCells b, Src.ofString w (str_desc ht) b, by rw [byteCells_length]; omega, fun u hu => ?_, fun i hi => ⟨.int .u8 (bget b i), rfl, fun j x hj => ?_, by simp only [DV.rep]⟩⟩
      · obtain ⟨_, _, rfl⟩ := List.mem_map.1 hu
        rfl
      · have hjl := (List.getElem?_eq_some_iff.1 hj).1
        simp [Value.cells] at hjl
        subst hjl
        simp [Value.cells] at hj
        subst hj
        simp only [byteCells, Nat.mul_one, Nat.add_zero, List.getElem?_map, bget, dif_pos hi]
        have : b.data.toList[i]? = some b[i] := by
          rw [List.getElem?_eq_getElem (by simpa using hi)]
          rfl
        rw [this]
        rfl
    · cases h
  · rename_i el id off n ht
    split at h
    · rename_i e sz' mm f hn
      split at h
      · rename_i hc
        obtain ⟨rfl, hle⟩ := hc
        simp only [Option.some.injEq, Prod.mk.injEq] at h
        obtain ⟨rfl, rfl⟩ := h
        simp only [PV.rep] at hy
        obtain ⟨hl, ⟨_, _, rfl, rfl⟩ | ⟨hnn, x, cap, rfl, hcap, _, hx, _⟩⟩ := hy
        · exact ⟨[], Src.ofNil w (slice_desc ht) 0, by simp, by simp, fun i hi => by omega⟩
        · obtain ⟨hsz, ⟨hno, rfl⟩ | ⟨_, us, fr, hb, _, _, hel⟩⟩ := arr_of hr (lk_nth hn)
          · rw [hno] at hnn; cases hnn
          · rcases Nat.eq_zero_or_pos n with h0 | h0
            · subst h0
              exact ⟨[], Src.ofSlice w (slice_desc ht) _ 0 cap [] (by simp) (by simp) (by simp), by simp, by simp, fun i hi => by omega⟩
            · have hx := hx (by omega)
              have hel' : Elems S w (α id).b x sz' n (if off = 0 ∧ n = mm then f else win off n mm f) := by
                rw [hx, hsz]
                split
                · rename_i hc
                  obtain ⟨rfl, rfl⟩ := hc
                  simpa [Elems] using hel
                · exact win_rep hel hle
              obtain ⟨us', h1, h2⟩ := Elems.lies hel'
              exact ⟨us', Src.ofSlice w (slice_desc ht) _ n cap us' h1.1 (fun j u hj => by rw [Addr.add_lit]; exact h2 j u hj) h1.2.1, h1⟩
      · cases h
    · cases h
  · cases h

theorem run_append_none {ts tx ty e : TypeId} {i : TypeInfo} (ht : P.underlying ts = some (.slice e)) (hi : P.info? e = some i) {base : Option Addr} {sLen sCap : Nat} {x : Value} (hs : Src P i.size tx x 0 [] w) (hroom : sLen ≤ sCap) :
    (Builtin.append_ #[ts, tx] ty #[.slice base sLen sCap, x]).run P w = .ok (.slice base sLen sCap) w := by
  rcases hs.kind with ⟨e', hk⟩ | hk <;> cases base <;> simp [Builtin.append_, run_underlying ht, run_underlying hk, sizeOf, typeInfo, hi, hs.len, hroom, hs.cells, storeCells]
end

section
variable {P : Program} {S : Nat → Prop} {α : Nat → Loc} {σ : Sto} {w w' : World}
/-- A block under a number that was free: new, or one that nobody else names. -/
theorem RelS.adopt (h : RelS S α σ w) {id : Nat} (hd : ¬ live σ id) {l : Loc} {B : Blk} (hsz : w.heap.size ≤ w'.heap.size) (hne : ∀ k, k < w.heap.size → (l.none = false → k ≠ l.b) → w'.heap[k]? = w.heap[k]?)
    (hl : l.none = false → l.b < w'.heap.size ∧ ¬ S l.b ∧ ∀ i, real σ α i → (α i).b ≠ l.b) (hB : B.rep S (live (upd σ id B)) (upd α id l) w' l) : RelS S (upd α id l) (upd σ id B) w' := by
  have hS : ∀ b, S b → w'.heap[b]? = w.heap[b]? := fun b hb => hne b (h.slt b hb) fun hn e => (hl hn).2.1 (e ▸ hb)
  have hnei : ∀ i, live σ i → i ≠ id := fun i hi e => hd (e ▸ hi)
  have hlive : ∀ i, i ≠ id → (live (upd σ id B) i ↔ live σ i) := fun i hi => by simp [live, upd_other _ _ hi]
  have hreal : ∀ i, i ≠ id → real (upd σ id B) (upd α id l) i → real σ α i := fun i hi hr => ⟨(hlive i hi).1 hr.1, by simpa [upd_other _ _ hi] using hr.2⟩
  have hblk : ∀ i, real σ α i → w'.heap[(α i).b]? = w.heap[(α i).b]? := fun i hi => hne _ (h.out i hi).2 fun hn e => (hl hn).2.2 i hi e
  have hk : Kept (live σ) (live (upd σ id B)) α (upd α id l) w w' := fun i hi => ⟨(hlive i (hnei i hi)).2 hi, upd_other _ _ (hnei i hi), fun hn => shape_same (hblk i ⟨hi, hn⟩)⟩
  refine ⟨fun i => ?_, fun i j hi hj he => ?_, fun i hi => ?_, fun b hb => Nat.lt_of_lt_of_le (h.slt b hb) hsz⟩
  · by_cases hi : i = id
    · subst hi
      rw [upd_same, upd_same]
      exact hB
    · rw [upd_other _ _ hi, upd_other _ _ hi]
      by_cases hv : live σ i
      · exact Blk.rep_mono (fun _ x => x) hS hk (fun hn => hblk i ⟨hv, hn⟩) (h.sto i)
      · unfold live at hv
        cases hb : σ i with
        | dead => trivial
        | _ => simp [hb, Blk.alive] at hv
  · by_cases h1 : i = id <;> by_cases h2 : j = id
    · rw [h1, h2]
    · subst h1
      rw [upd_same, upd_other _ _ h2] at he
      exact absurd he.symm ((hl (by simpa [upd_same] using hi.2)).2.2 j (hreal j h2 hj))
    · subst h2
      rw [upd_same, upd_other _ _ h1] at he
      exact absurd he ((hl (by simpa [upd_same] using hj.2)).2.2 i (hreal i h1 hi))
    · rw [upd_other _ _ h1, upd_other _ _ h2] at he
      exact h.inj i j (hreal i h1 hi) (hreal j h2 hj) he
  · by_cases h1 : i = id
    · subst h1
      have hn : l.none = false := by simpa [upd_same] using hi.2
      rw [upd_same]
      exact ⟨(hl hn).2.1, (hl hn).1⟩
    · rw [upd_other _ _ h1]
      have := h.out i (hreal i h1 hi)
      exact ⟨this.1, Nat.lt_of_lt_of_le this.2 hsz⟩

theorem length_kill (id : Nat) : ∀ s : Store, (killS id s).length = s.length
  | [] => rfl
  | b :: s => by simp [killS, length_kill id s]
theorem lk_killed (s : Store) (id i : Nat) : lk (setN (killS id s) id .dead) i = if i = id then .dead else killB id (lk s i) := by
  simp only [lk, nth_eq, setN_eq]
  by_cases e : i = id
  · subst e
    rw [if_pos rfl]
    by_cases hl : i < (killS i s).length
    · simp [hl]
    · rw [List.set_eq_of_length_le (by omega), List.getElem?_eq_none (by omega)]
      rfl
  · rw [if_neg e, List.getElem?_set_ne (by omega), ← nth_eq, nth_kill, nth_eq]
    cases s[i]? <;> rfl
theorem killB_alive (id : Nat) (b : Blk) : (killB id b).alive = b.alive := by cases b <;> rfl
/-- A block of ours is forgotten, and all that names it. -/
theorem RelS.forget {s : Store} (h : RelS S α (lk s) w) (id : Nat) : RelS S α (lk (setN (killS id s) id .dead)) w ∧ (∀ i, live (lk (setN (killS id s) id .dead)) i ↔ i ≠ id ∧ live (lk s) i) ∧
    KeptBut id (live (lk s)) (live (lk (setN (killS id s) id .dead))) α α w w := by
  have hlive : ∀ i, live (lk (setN (killS id s) id .dead)) i ↔ i ≠ id ∧ live (lk s) i := fun i => by
    simp only [live, lk_killed]
    by_cases e : i = id
    · simp [e, Blk.alive]
    · simp [e, killB_alive]
  have hk : KeptBut id (live (lk s)) (live (lk (setN (killS id s) id .dead))) α α w w := fun i hi hl => ⟨(hlive i).2 ⟨hi, hl⟩, rfl, fun _ => rfl⟩
  refine ⟨⟨fun i => ?_, fun i j hi hj => h.inj i j ⟨((hlive i).1 hi.1).2, hi.2⟩ ⟨((hlive j).1 hj.1).2, hj.2⟩, fun i hi => h.out i ⟨((hlive i).1 hi.1).2, hi.2⟩, h.slt⟩, hlive, hk⟩
  rw [lk_killed]
  split
  · trivial
  · have := h.sto i
    cases hb : lk s i with
    | dead => trivial
    | box cs =>
      rw [hb] at this
      obtain ⟨h0, us, t, fr, h1, h2, h3, h4⟩ := this
      exact ⟨h0, us, t, fr, h1, h2, h3, killL_rep (fun _ x => x) (fun _ _ => rfl) hk _ _ h4⟩
    | arr e sz n f =>
      rw [hb] at this
      exact this
theorem lk_revive {s : Store} {id : Nat} {B0 B : Blk} (h : nth s id = some B0) : lk (setN (killS id s) id B) = upd (lk (setN (killS id s) id .dead)) id B := by
  have hn : nth (killS id s) id = some (killB id B0) := by rw [nth_kill, h]; rfl
  rw [lk_set hn, lk_set hn]
  funext i
  simp only [upd]
  split <;> rfl
end

section
variable {P : Program} {S : Nat → Prop} {α : Nat → Loc} {s : Store} {w : World} {C : Prop} {v : PV} {e e' : Env} {s' : Store} {a : Act}

theorem joinF_lies {sz n m : Nat} {us vs : List Value} {f g : Nat → DV} (h : Lies S w sz n us f) (k : Lies S w sz m vs g) : Lies S w sz (n + m) (us ++ vs) (joinF n f g) := by
  refine ⟨by rw [List.length_append, h.1, k.1, Nat.add_mul], fun u hu => (List.mem_append.1 hu).elim (h.2.1 u) (k.2.1 u), fun i hi => ?_⟩
  by_cases hin : i < n
  · obtain ⟨u, h1, h2, h3⟩ := h.2.2 i hin
    refine ⟨u, h1, fun j x hj => ?_, by simpa [joinF, hin] using h3⟩
    have := h2 j x hj
    rw [List.getElem?_append_left (List.getElem?_eq_some_iff.1 this).1]
    exact this
  · obtain ⟨u, h1, h2, h3⟩ := k.2.2 (i - n) (by omega)
    refine ⟨u, h1, fun j x hj => ?_, by simpa [joinF, hin] using h3⟩
    have := h2 j x hj
    rw [List.getElem?_append_right (by rw [h.1]; have : n * sz ≤ i * sz := Nat.mul_le_mul_right _ (by omega); omega), h.1]
    rw [← this]
    congr 1
    rw [Nat.sub_mul]
    have : n * sz ≤ i * sz := Nat.mul_le_mul_right _ (by omega)
    omega
theorem Lies.mono {S' : Nat → Prop} {w' : World} {sz n : Nat} {us : List Value} {f : Nat → DV} (hs : ∀ b, S b → S' b) (hw : ∀ b, S b → w'.heap[b]? = w.heap[b]?) (h : Lies S w sz n us f) : Lies S' w' sz n us f :=
  ⟨h.1, h.2.1, fun i hi => by
    obtain ⟨u, h1, h2, h3⟩ := h.2.2 i hi
    exact ⟨u, h1, h2, DV.rep_mono hs hw _ _ h3⟩⟩
/-- Cells in a block make elements. -/
theorem Lies.at_ {sz n b o : Nat} {us : List Value} {f : Nat → DV} {t : TypeId} {fr : Nat × Nat} (h : Lies S w sz n us f) (hb : ∃ cells, w.heap[b]? = some (.cells cells t fr) ∧ ∀ k x, us[k]? = some x → cells[o + k]? = some x) :
    ∀ i, i < n → ∃ u, u.cells.size = sz ∧ cellsAt w b (o + i * sz) u.cells.toList ∧ (f i).rep S w u := by
  intro i hi
  obtain ⟨cells, hb, hc⟩ := hb
  obtain ⟨u, h1, h2, h3⟩ := h.2.2 i hi
  refine ⟨u, h1, fun j x hj => ?_, h3⟩
  have := hc _ _ (h2 j x hj)
  simp only [World.cell?, hb, Option.isSome_none, Bool.false_eq_true, if_false, Nat.add_assoc]
  exact this

/-- The block of ours grows, in place or in a new block. -/
theorem append_end (hr : RelS S α (lk s) w) (he : ∀ t, (get e t).erep S (live (lk s)) α w a.tmps (a.tmps.getD t undef)) {id : Nat} {el : TypeId} {sz n : Nat} {f : Nat → DV} (hn : nth s id = some (.arr el sz n f)) {l : Loc} {B : Blk} {w' : World} {m : Sem Value} {u : Value} {p : PV}
    (hm : m.run P w = .ok u w') (hos : w'.os = w.os) (htape : w'.tape = w.tape) (hout : w'.output = w.output) (hsz : w.heap.size ≤ w'.heap.size) (hne : ∀ k, k < w.heap.size → (l.none = false → k ≠ l.b) → w'.heap[k]? = w.heap[k]?)
    (hl : l.none = false → l.b < w'.heap.size ∧ (((α id).none = false ∧ l.b = (α id).b) ∨ w.heap.size ≤ l.b)) (hB : B.rep S (live (lk (setN (killS id s) id B))) (upd α id l) w' l)
    (hp : p.rep S (live (lk (setN (killS id s) id B))) (upd α id l) w' u) : EEx P S α s a w (do let u ← m; Pure.pure (Next.value u)) p (killE id e) (setN (killS id s) id B) := by
  obtain ⟨k1, k2, k3⟩ := hr.forget id
  have hlive : live (lk s) id := by simp [live, lk_nth hn, Blk.alive]
  have hnot : ¬ live (lk (setN (killS id s) id .dead)) id := fun h => ((k2 id).1 h).1 rfl
  have hfree : l.none = false → l.b < w'.heap.size ∧ ¬ S l.b ∧ ∀ i, real (lk (setN (killS id s) id .dead)) α i → (α i).b ≠ l.b := fun hn => by
    obtain ⟨h1, h2⟩ := hl hn
    refine ⟨h1, ?_, fun i hi => ?_⟩
    · rcases h2 with ⟨hnn, h2⟩ | h2
      · rw [h2]; exact (hr.out id ⟨hlive, hnn⟩).1
      · exact fun hS => absurd (hr.slt _ hS) (by omega)
    · have hi' := (k2 i).1 hi.1
      rcases h2 with ⟨hnn, h2⟩ | h2
      · rw [h2]
        exact fun e => hi'.1 (hr.inj i id ⟨hi'.2, hi.2⟩ ⟨hlive, hnn⟩ e)
      · have := (hr.out i ⟨hi'.2, hi.2⟩).2
        omega
  unfold EEx
  rw [lk_revive hn] at hB hp ⊢
  have hrel := k1.adopt hnot hsz hne hfree hB
  have hS : ∀ b, S b → w'.heap[b]? = w.heap[b]? := fun b hb => hne b (hr.slt b hb) fun hn e => (hfree hn).2.1 (e ▸ hb)
  have hk : KeptBut id (live (lk s)) (live (upd (lk (setN (killS id s) id .dead)) id B)) α (upd α id l) w w' := fun i hi hli => by
    refine ⟨?_, upd_other _ _ hi, fun hnn => shape_same (hne _ (hr.out i ⟨hli, hnn⟩).2 fun hn e => (hfree hn).2.2 i ⟨(k2 i).2 ⟨hi, hli⟩, hnn⟩ e)⟩
    have := (k2 i).2 ⟨hi, hli⟩
    simpa [live, upd_other _ _ hi] using this
  refine ⟨upd α id l, .value u, w', by simp [hm], ⟨u, .inl rfl, hp⟩, hrel, ⟨hos, htape, hout, hsz, fun b hb hbb => hne b hb fun hn e => ?_, fun i hi => ?_, fun _ h => h, fun _ h => .inl h⟩, fun t => ?_, by rw [setN_eq, List.length_set]; exact Nat.le_of_eq (length_kill id s).symm, fun i hil hi => ?_⟩
  · rcases (hl hn).2 with ⟨hnn, h2⟩ | h2
    · exact hbb id ⟨hlive, hnn⟩ (h2.symm.trans e.symm)
    · omega
  · by_cases h1 : i = id
    · subst h1
      have hnn : l.none = false := by simpa [upd_same] using hi.2
      rw [upd_same]
      rcases (hl hnn).2 with ⟨h3, h2⟩ | h2
      · exact .inl ⟨i, ⟨hlive, h3⟩, h2.symm⟩
      · exact .inr h2
    · rw [upd_other _ _ h1]
      refine .inl ⟨i, ⟨?_, by simpa [upd_other _ _ h1] using hi.2⟩, rfl⟩
      have : live (lk (setN (killS id s) id .dead)) i := by simpa [live, upd_other _ _ h1] using hi.1
      exact ((k2 i).1 this).2
  · rw [get_kill]
    exact PV.kill_erep (fun _ x => x) hS hk _ _ (he t)
  · have hne : i ≠ id := by
      rintro rfl
      rw [lk_nth hn] at hi
      cases hi
    refine ⟨upd_other _ _ hne, ?_⟩
    rw [upd_other _ _ hne, lk_killed, if_neg hne]
    cases hb : lk s i <;> simp_all [killB, Blk.isArr]

/-- A new block at the end of the list. -/
theorem new_end (hr : RelS S α (lk s) w) (he : ∀ t, (get e t).erep S (live (lk s)) α w a.tmps (a.tmps.getD t undef)) {l : Loc} {B : Blk} {w' : World} {m : Sem Value} {u : Value} {p : PV} (hm : m.run P w = .ok u w') (hb : Below w.heap.size w w')
    (hl : l.none = false → w.heap.size ≤ l.b ∧ l.b < w'.heap.size) (hB : B.rep S (live (lk (s ++ [B]))) (upd α s.length l) w' l) (hp : p.rep S (live (lk (s ++ [B]))) (upd α s.length l) w' u) :
    EEx P S α s a w (do let u ← m; Pure.pure (Next.value u)) p e (s ++ [B]) := by
  unfold EEx
  rw [lk_append] at hB hp ⊢
  have hd := not_live_length s
  have hne : ∀ i, live (lk s) i → i ≠ s.length := fun i hi e => hd (e ▸ hi)
  refine ⟨upd α s.length l, .value u, w', by simp [hm], ⟨u, .inl rfl, hp⟩, hr.new hd hb (fun h => (hl h).1) (fun h => (hl h).2) hB, Moved.fresh hd hb (fun h => (hl h).1), fun t => ?_, by simp, fun i hil hi => ?_⟩
  · exact PV.erep_mono (fun _ x => x) (hr.keeps hb) (hr.kept hb (fun i hi => upd_other _ _ (hne i hi)) (fun i hi => by simpa [live, upd_other _ _ (hne i hi)] using hi)) _ _ (fun _ _ _ _ => Iff.rfl) (he t)
  · rw [upd_other _ _ (by omega), upd_other _ _ (by omega)]
    exact ⟨rfl, hi⟩

theorem appendQ_ok (hr : RelS S α (lk s) w) (he : ∀ t, (get e t).erep S (live (lk s)) α w a.tmps (a.tmps.getD t undef)) {ts tx ty : TypeId} {x y : PV} {ux uy : Value} (hx : x.rep S (live (lk s)) α w ux) (hy : y.rep S (live (lk s)) α w uy)
    (h : appendQ P ts tx e s x y = .ok C v e' s') (hC : C) : EEx P S α s a w (do let u ← Builtin.append_ #[ts, tx] ty #[ux, uy]; Pure.pure (Next.value u)) v e' s' := by
  unfold appendQ at h
  split at h
  case h_2 => cases h
  rename_i el ht
  split at h
  · cases h
  rename_i hck
  simp only [not_or, Decidable.not_not] at hck
  obtain ⟨h0, hzz⟩ := hck
  obtain ⟨z, hz, hzw⟩ := Option.map_eq_some_iff.1 hzz
  split at h
  case h_2 => cases h
  rename_i m g hsrc
  obtain ⟨news, hsr, hls⟩ := srcQ_ok hr hy hsrc
  have hu := slice_desc ht
  obtain ⟨i, zv, hi, hzv, hzd⟩ := zero_info hz
  obtain ⟨ti, ud, hti, _, htye⟩ := ty_some (P := P) (t := el) (.inl h0)
  obtain rfl : ti = i := by rw [hti] at hi; exact Option.some.inj hi
  rw [htye] at h h0 hls hsr hzw
  dsimp only at h h0 hls hsr hzw
  have hzl : zv.cells.size = ti.size := (cells_length (S := S) (w := w) (constD_rep hzd)).trans hzw
  split at h
  · -- a block of ours
    rename_i id len
    split at h
    · rename_i el' sz n f hn
      split at h
      · rename_i hc
        obtain ⟨rfl, rfl, rfl⟩ := hc
        simp only [ER.ok.injEq] at h
        obtain ⟨rfl, rfl, rfl, rfl⟩ := h
        obtain ⟨hC1, hC2⟩ := hC
        have hlv : ∀ B : Blk, B.alive = true → live (lk (setN (killS id s) id B)) id := fun B hB => by
          rw [lk_revive hn]
          exact live_upd hB
        simp only [PV.rep] at hx
        obtain ⟨hl, hx⟩ := hx
        rcases Nat.eq_zero_or_pos m with hm0 | hm0
        · -- nothing is appended
          subst hm0
          obtain rfl : news = [] := List.eq_nil_of_length_eq_zero (by rw [hls.1]; simp)
          have hrep : Blk.rep S (live (lk (setN (killS id s) id (.arr el' ti.size (len + 0) (joinF len f g))))) (upd α id (α id)) w (α id) (.arr el' ti.size (len + 0) (joinF len f g)) := by
            obtain ⟨q1, q2⟩ := arr_of hr (lk_nth hn)
            refine ⟨q1, q2.imp (fun ⟨x1, x2⟩ => ⟨x1, by omega⟩) ?_⟩
            rintro ⟨x1, us, fr, x2, x3, x4, x5⟩
            refine ⟨x1, us, fr, x2, x3, by omega, fun i hi => ?_⟩
            have hil : i < len := by omega
            simpa [joinF, hil] using x5 i hil
          have hal : upd α id (α id) = α := by
            funext j
            simp only [upd]
            split
            · rename_i e; rw [e]
            · rfl
          obtain ⟨base, cap, hux, hcap⟩ : ∃ base cap, ux = .slice base len cap ∧ len ≤ cap := by
            rcases hx with ⟨_, _, rfl, rfl⟩ | ⟨_, x, cap, rfl, hcap, _⟩
            · exact ⟨none, 0, rfl, Nat.le_refl _⟩
            · exact ⟨_, cap, rfl, hcap⟩
          have run : (Builtin.append_ #[ts, tx] ty #[ux, uy]).run P w = .ok ux w := by
            rw [hux]
            exact run_append_none hu hti hsr hcap
          refine append_end hr he hn (l := α id) run rfl rfl rfl (Nat.le_refl _) (fun _ _ _ => rfl) (fun hnn => ⟨(hr.out id ⟨hl, hnn⟩).2, .inl ⟨hnn, rfl⟩⟩) hrep ?_
          simp only [PV.rep]
          rw [hal]
          exact ⟨hlv _ rfl, by simpa using hx⟩
        · have hgrow : ∀ (base : Option Addr) (cap : Nat) (olds : List Value), ux = .slice base len cap → cap < len + m → Lies S w ti.size len olds f → (Builtin.firstCells ti.size len (.slice base len cap)).run P w.drew = .ok olds.toArray w.drew →
              EEx P S α s a w (do let u ← Builtin.append_ #[ts, tx] ty #[ux, uy]; Pure.pure (Next.value u)) (.own id 0 (len + m)) (killE id e) (setN (killS id s) id (.arr el' ti.size (len + m) (joinF len f g))) := by
            intro base cap olds hux hcap hol hfirst
            have run := run_append_grow_src (P := P) w ts tx ty el' ti zv hu hti hzv base len cap olds hfirst uy m news hsr hcap (by omega) (growslice_fits hcap hC1)
            rw [← hux] at run
            have hjl := joinF_lies hol hls
            have hge := grownCap_ge w (len + m) cap el'
            refine append_end hr he hn (l := ⟨w.heap.size, 0, ti.size, false⟩) run rfl rfl rfl (by simp) (fun k hk _ => Below.heap_alloc _ _ _ hk) (fun _ => ⟨by simp, .inr (Nat.le_refl _)⟩) ?_ ?_
            · refine ⟨rfl, .inr ⟨rfl, olds ++ news ++ (Builtin.zeroCells zv.cells (grownCap w (len + m) cap el' - (len + m))).toList, (0, 0), ?_, thaw0 _, ?_, ?_⟩⟩
              · refine (heap_new w.drew _).trans ?_
                simp
              · simp only [List.length_append, Nat.zero_add]
                have := hjl.1
                simp only [List.length_append] at this
                omega
              · refine Lies.at_ (Lies.mono (w := w) (fun _ x => x) (fun b hb => Below.heap_alloc w.drew _ _ (hr.slt b hb)) hjl) ⟨_, heap_new w.drew _, fun k x hk => ?_⟩
                rw [Nat.zero_add, Array.getElem?_append_left (by simpa using (List.getElem?_eq_some_iff.1 hk).1)]
                simpa using hk
            · simp only [PV.rep]
              rw [upd_same]
              refine ⟨hlv _ rfl, .inr ⟨rfl, 0, _, rfl, hge, by unfold fits; omega, fun _ => by simp, el', _, ?_, rfl⟩⟩
              simp only [World.shape?]
              rw [show (w.drew.alloc _).heap[w.heap.size]? = some _ from heap_new w.drew _]
              simp only [Option.some.injEq, Prod.mk.injEq, true_and]
              have := hjl.1
              simp only [List.length_append] at this
              simp only [Array.size_append, List.size_toArray, List.length_append, Builtin.zeroCells, Array.size_map, Array.size_range, hzl]
              rw [this, ← Nat.add_mul]
              rw [show len + m + (grownCap w (len + m) cap el' - (len + m)) = 0 + grownCap w (len + m) cap el' by omega, Nat.zero_add, Nat.zero_add]
          rcases hx with ⟨_, _, rfl, rfl⟩ | ⟨hnn, x, cap, rfl, hcap, hft, hx, ee, nn, hsh, hnn2⟩
          · exact hgrow none 0 [] rfl (by omega) ⟨by simp, by simp, fun i hi => by omega⟩ (by simp [Builtin.firstCells])
          · obtain ⟨hsz, ⟨hno, rfl⟩ | ⟨_, us, fr, hb, hf, hfit, hel⟩⟩ := arr_of hr (lk_nth hn)
            · rw [hno] at hnn; cases hnn
            rcases Nat.lt_or_ge cap (len + m) with hlt | hge
            · obtain ⟨olds, q1, q2⟩ := Elems.lies (b := (α id).b) (off := (α id).o) hel
              refine hgrow _ cap olds rfl hlt q1 (run_firstCells_some w.drew ti.size len _ len cap olds q1.1 fun j u hj => ?_)
              rw [Addr.add_lit]
              have hl0 : 0 < cap := by
                rcases Nat.eq_zero_or_pos cap with hc0 | hc0
                · have : len = 0 := by omega
                  have hlo := q1.1
                  rw [this, Nat.zero_mul] at hlo
                  have := (List.getElem?_eq_some_iff.1 hj).1
                  omega
                · exact hc0
              rw [hx hl0, Nat.zero_mul, Nat.add_zero]
              exact q2 j u hj
            · have hx := hx (by omega)
              rw [Nat.zero_mul, Nat.add_zero] at hx
              subst hx
              have husl : us.length = (α id).o + cap * ti.size := by
                simp only [World.shape?, hb, Option.some.injEq, Prod.mk.injEq] at hsh
                have := hsh.2
                rw [hsz, Nat.zero_add] at hnn2
                simp at this
                omega
              have hfit2 : (α id).o + len * ti.size + news.length ≤ us.length := by
                rw [hls.1, husl, Nat.add_assoc, ← Nat.add_mul]
                exact Nat.add_le_add_left (Nat.mul_le_mul_right _ hge) _
              have run := run_append_room_src (P := P) w ts tx ty el' ti hu hti (α id).b (α id).o len cap uy m news hsr hge (fun j hj => by
                simp only [World.cell?, hb]
                simp
                omega) (fun j hj => by
                simp only [World.frozen?, hb]
                have := hf ((α id).o + len * ti.size + j) (by omega)
                simpa using this)
              have hat := heap_setCells_at news ((α id).o + len * ti.size) us w hb
              have hS : ∀ b, S b → (w.setCells (α id).b ((α id).o + len * ti.size) news).heap[b]? = w.heap[b]? := fun b hb => heap_setCells_ne _ _ _ _ _ fun e => (hr.out id ⟨hl, hnn⟩).1 (e ▸ hb)
              refine append_end hr he hn (l := α id) run (World.os_setCells _ _ _ _) (tape_setCells _ _ _ _) (World.output_setCells _ _ _ _) (by rw [size_setCells]; exact Nat.le_refl _) (fun k hk hkk => heap_setCells_ne _ _ _ _ _ (hkk hnn)) (fun _ => ⟨by rw [size_setCells]; exact (hr.out id ⟨hl, hnn⟩).2, .inl ⟨hnn, rfl⟩⟩) ?_ ?_
              · refine ⟨hsz, .inr ⟨hnn, setsN us ((α id).o + len * ti.size) news, fr, hat, by rw [setsN_length]; exact hf, by rw [setsN_length, husl]; exact Nat.add_le_add_left (Nat.mul_le_mul_right _ hge) _, fun i hi => ?_⟩⟩
                by_cases hin : i < len
                · obtain ⟨u, h1, h2, h3⟩ := hel i hin
                  refine ⟨u, h1, fun j y hj => ?_, by simp only [joinF, if_pos hin]; exact DV.rep_mono (fun _ x => x) hS _ _ h3⟩
                  have hjl := (List.getElem?_eq_some_iff.1 hj).1
                  simp [h1] at hjl
                  have hold := h2 j y hj
                  simp only [World.cell?, hb, Option.isSome_none, Bool.false_eq_true, if_false, List.getElem?_toArray] at hold
                  simp only [World.cell?, hat, Option.isSome_none, Bool.false_eq_true, if_false, List.getElem?_toArray]
                  have : (i + 1) * ti.size ≤ len * ti.size := Nat.mul_le_mul_right _ hin
                  rw [Nat.add_mul, Nat.one_mul] at this
                  rw [setsN_get _ _ _ _ hfit2, if_neg (by omega)]
                  exact hold
                · obtain ⟨u, h1, h2, h3⟩ := hls.2.2 (i - len) (by omega)
                  refine ⟨u, h1, fun j y hj => ?_, by simp only [joinF, if_neg hin]; exact DV.rep_mono (fun _ x => x) hS _ _ h3⟩
                  have hjl := (List.getElem?_eq_some_iff.1 hj).1
                  simp [h1] at hjl
                  have hnw := h2 j y hj
                  have hnl := (List.getElem?_eq_some_iff.1 hnw).1
                  simp only [World.cell?, hat, Option.isSome_none, Bool.false_eq_true, if_false, List.getElem?_toArray]
                  have e1 : len * ti.size ≤ i * ti.size := Nat.mul_le_mul_right _ (by omega)
                  rw [Nat.sub_mul] at hnw hnl
                  rw [setsN_get _ _ _ _ hfit2, if_pos (by omega), ← hnw]
                  congr 1
                  omega
              · simp only [PV.rep]
                rw [upd_same]
                refine ⟨hlv _ rfl, .inr ⟨hnn, (α id).o, cap, rfl, hge, by unfold fits; omega, fun _ => by simp, ee, nn, ?_, hnn2⟩⟩
                rw [← hsh]
                simp only [World.shape?, hat, hb]
                simp [setsN_length]
      · cases h
    · cases h
  · -- nil
    simp only [ER.ok.injEq] at h
    obtain ⟨rfl, rfl, rfl, rfl⟩ := h
    obtain ⟨hC1, hC2⟩ := hC
    simp only [PV.rep, DV.rep] at hx
    subst hx
    have hlv : ∀ B : Blk, B.alive = true → live (lk (s ++ [B])) s.length := fun B hB => by
      rw [lk_append]
      exact live_upd hB
    rcases Nat.eq_zero_or_pos m with hm0 | hm0
    · subst hm0
      obtain rfl : news = [] := List.eq_nil_of_length_eq_zero (by rw [hls.1]; simp)
      have run : (Builtin.append_ #[ts, tx] ty #[.slice none 0 0, uy]).run P w = .ok (.slice none 0 0) w := run_append_none hu hti hsr (Nat.le_refl _)
      refine new_end hr he (l := ⟨0, 0, ti.size, true⟩) run (Below.refl _ _) (fun h => by cases h) ⟨rfl, .inl ⟨rfl, rfl⟩⟩ ?_
      simp only [PV.rep]
      rw [upd_same]
      exact ⟨hlv _ rfl, .inl ⟨rfl, by simp⟩⟩
    · have run := run_append_grow_src (P := P) w ts tx ty el ti zv hu hti hzv none 0 0 [] (by simp [Builtin.firstCells]) uy m news hsr (by omega) (by omega) (growslice_fits (by omega) (by simpa using hC1))
      have hge := grownCap_ge w (0 + m) 0 el
      rw [Nat.zero_add] at run hge
      refine new_end hr he (l := ⟨w.heap.size, 0, ti.size, false⟩) run ⟨rfl, rfl, rfl, by simp, fun k hk => Below.heap_alloc _ _ _ hk⟩ (fun _ => ⟨Nat.le_refl _, by simp⟩) ?_ ?_
      · refine ⟨rfl, .inr ⟨rfl, news ++ (Builtin.zeroCells zv.cells (grownCap w m 0 el - m)).toList, (0, 0), ?_, thaw0 _, ?_, ?_⟩⟩
        · refine (heap_new w.drew _).trans ?_
          simp
        · simp only [List.length_append, Nat.zero_add]
          have := hls.1
          omega
        · refine Lies.at_ (Lies.mono (w := w) (fun _ x => x) (fun b hb => Below.heap_alloc w.drew _ _ (hr.slt b hb)) hls) ⟨_, heap_new w.drew _, fun k x hk => ?_⟩
          rw [Nat.zero_add, Array.getElem?_append_left (by simpa using (List.getElem?_eq_some_iff.1 hk).1)]
          simpa using hk
      · simp only [PV.rep]
        rw [upd_same]
        refine ⟨hlv _ rfl, .inr ⟨rfl, 0, _, rfl, hge, by unfold fits; omega, fun _ => by simp, el, _, ?_, rfl⟩⟩
        simp only [World.shape?]
        rw [show (w.drew.alloc _).heap[w.heap.size]? = some _ from heap_new w.drew _]
        simp only [Option.some.injEq, Prod.mk.injEq, true_and]
        have := hls.1
        simp only [Array.size_append, List.size_toArray, List.nil_append, Builtin.zeroCells, Array.size_map, Array.size_range, hzl]
        rw [this, ← Nat.add_mul]
        rw [show m + (grownCap w m 0 el - m) = 0 + grownCap w m 0 el by omega, Nat.zero_add, Nat.zero_add]
  · cases h

theorem effQ_ok (hr : RelS S α (lk s) w) (he : ∀ t, (get e t).erep S (live (lk s)) α w a.tmps (a.tmps.getD t undef)) {o : Oper} (h : effQ P o.op e s = .ok C v e' s') (hC : C) : EEx P S α s a w (execOp a.eval o) v e' s' := by
  have hg : hold a.tmps [] := fun _ _ h => by cases h
  have R := opnd_rep he hg
  obtain ⟨dst, op, type, pos, after, guard⟩ := o
  dsimp only at h
  cases op <;> simp only [effQ, reduceCtorEq] at h
  case store t x y => exact storeQ_ok hr he (R x) (R y) h hC
  case call c =>
    obtain ⟨callee, args, ats⟩ := c
    dsimp only at h
    cases callee <;> try (cases h; done)
    rename_i b
    cases b <;> try (cases h; done)
    dsimp only at h
    split at h
    · rename_i x y tx ty hx ht
      have hx' : args = #[x, y] := by cases args; simp_all
      have ht' : ats = #[tx, ty] := by cases ats; simp_all
      subst hx'
      subst ht'
      have := appendQ_ok (ty := type) hr he (R x) (R y) h hC
      simpa [execOp, resolve, invoke, builtin] using this
    · cases h
end
end Go.Ev

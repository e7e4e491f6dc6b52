/- The relation between the walk's state and the machine's. -/
import Derived.Test.YtnhpgmmhfgdmjaaGreatEvB
import Derived.Below
namespace Go.Ev

def Blk.alive : Blk → Bool
  | .dead => false
  | _ => true
abbrev Sto := Nat → Blk
def lk (s : Store) : Sto := fun i => (nth s i).getD .dead
def live (σ : Sto) (i : Nat) : Prop := (σ i).alive = true
/-- It has a block. -/
def real (σ : Sto) (α : Nat → Loc) (i : Nat) : Prop := live σ i ∧ (α i).none = false
def upd {β : Type} (f : Nat → β) (i : Nat) (x : β) : Nat → β := fun j => if j = i then x else f j
theorem upd_same {β : Type} (f : Nat → β) (i : Nat) (x : β) : upd f i x i = x := by simp [upd]
theorem upd_other {β : Type} (f : Nat → β) {i j : Nat} (x : β) (h : j ≠ i) : upd f i x j = f j := by simp [upd, h]

def thaw (fr : Nat × Nat) (n : Nat) : Prop := ∀ j, j < n → ¬ (fr.1 ≤ j ∧ j < fr.2)

def Blk.rep (S L : Nat → Prop) (α : Nat → Loc) (w : World) (l : Loc) : Blk → Prop
  | .dead => True
  | .box cs => l.none = false ∧ ∃ (us : List Value) (t : TypeId) (fr : Nat × Nat), w.heap[l.b]? = some (.cells us.toArray t fr) ∧ thaw fr us.length ∧ (∀ u ∈ us, u.oneCell' = true) ∧ prepL S L α w cs us
  | .arr e sz n f => l.sz = sz ∧ ((l.none = true ∧ n = 0) ∨ (l.none = false ∧ ∃ (us : List Value) (fr : Nat × Nat), w.heap[l.b]? = some (.cells us.toArray e fr) ∧ thaw fr us.length ∧ l.o + n * sz ≤ us.length ∧
      ∀ i, i < n → ∃ u, u.cells.size = sz ∧ cellsAt w l.b (l.o + i * sz) u.cells.toList ∧ (f i).rep S w u))

/-- The store of the walk and the world. S: blocks that nobody writes. -/
structure RelS (S : Nat → Prop) (α : Nat → Loc) (σ : Sto) (w : World) : Prop where
  sto : ∀ i, (σ i).rep S (live σ) α w (α i)
  inj : ∀ i j, real σ α i → real σ α j → (α i).b = (α j).b → i = j
  out : ∀ i, real σ α i → ¬ S (α i).b ∧ (α i).b < w.heap.size
  slt : ∀ b, S b → b < w.heap.size

structure Rel (nt : Nat) (S : Nat → Prop) (α : Nat → Loc) (ε : Nat → PV) (σ : Sto) (a : Act) (w : World) : Prop extends RelS S α σ w where
  env : ∀ t, (ε t).erep S (live σ) α w a.tmps (a.tmps.getD t undef)
  size : a.tmps.size = nt
  defers : a.defers = []

/-- What a piece of a run may do: it writes to blocks of ours and makes new ones. -/
structure Moved (S : Nat → Prop) (α : Nat → Loc) (s : Sto) (w : World) (S' : Nat → Prop) (α' : Nat → Loc) (s' : Sto) (w' : World) : Prop where
  os : w'.os = w.os
  tape : w'.tape = w.tape
  output : w'.output = w.output
  size : w.heap.size ≤ w'.heap.size
  same : ∀ b, b < w.heap.size → (∀ i, real s α i → (α i).b ≠ b) → w'.heap[b]? = w.heap[b]?
  lives : ∀ i, real s' α' i → (∃ j, real s α j ∧ (α j).b = (α' i).b) ∨ w.heap.size ≤ (α' i).b
  sub : ∀ b, S b → S' b
  new : ∀ b, S' b → S b ∨ w.heap.size ≤ b ∨ ∃ j, real s α j ∧ (α j).b = b

theorem Moved.refl (S : Nat → Prop) (α : Nat → Loc) (s : Sto) (w : World) : Moved S α s w S α s w :=
  ⟨rfl, rfl, rfl, Nat.le_refl _, fun _ _ _ => rfl, fun i h => .inl ⟨i, h, rfl⟩, fun _ h => h, fun _ h => .inl h⟩

theorem Moved.trans {S S1 S2 : Nat → Prop} {α α1 α2 : Nat → Loc} {s s1 s2 : Sto} {w w1 w2 : World} (h : Moved S α s w S1 α1 s1 w1) (k : Moved S1 α1 s1 w1 S2 α2 s2 w2) :
    Moved S α s w S2 α2 s2 w2 where
  os := k.os.trans h.os
  tape := k.tape.trans h.tape
  output := k.output.trans h.output
  size := Nat.le_trans h.size k.size
  same := fun b hb hn => by
    rw [k.same b (Nat.lt_of_lt_of_le hb h.size) ?_, h.same b hb hn]
    intro i hi he
    rcases h.lives i hi with ⟨j, hj, hjb⟩ | hge
    · exact hn j hj (hjb.trans he)
    · omega
  lives := fun i hi => by
    rcases k.lives i hi with ⟨j, hj, hjb⟩ | hge
    · rcases h.lives j hj with ⟨m, hm, hmb⟩ | hge
      · exact .inl ⟨m, hm, hmb.trans hjb⟩
      · exact .inr (by omega)
    · exact .inr (Nat.le_trans h.size hge)
  sub := fun b hb => k.sub b (h.sub b hb)
  new := fun b hb => by
    rcases k.new b hb with h1 | h1 | ⟨j, hj, hjb⟩
    · exact h.new b h1
    · exact .inr (.inl (Nat.le_trans h.size h1))
    · rcases h.lives j hj with ⟨m, hm, hmb⟩ | hge
      · exact .inr (.inr ⟨m, hm, hmb.trans hjb⟩)
      · exact .inr (.inl (by omega))

/-! ### Blocks that nobody writes stay -/

section
variable {S S' : Nat → Prop} {w w' : World}

theorem cell_same {b : Nat} (h : w'.heap[b]? = w.heap[b]?) (o : Nat) : w'.cell? ⟨b, o, none⟩ = w.cell? ⟨b, o, none⟩ := by
  simp only [World.cell?, h]

theorem cellsAt_same {b off : Nat} {us : List Value} (h : w'.heap[b]? = w.heap[b]?) (k : cellsAt w b off us) : cellsAt w' b off us :=
  fun j u hj => (cell_same h _).trans (k j u hj)

mutual
theorem DV.rep_mono (hs : ∀ b, S b → S' b) (hw : ∀ b, S b → w'.heap[b]? = w.heap[b]?) : ∀ (d : DV) (v : Value), d.rep S w v → d.rep S' w' v
  | .bool _, _, h => by simpa only [DV.rep] using h
  | .int _ _, _, h => by simpa only [DV.rep] using h
  | .str _, _, h => by simpa only [DV.rep] using h
  | .nil, _, h => by simpa only [DV.rep] using h
  | .null, _, h => by simpa only [DV.rep] using h
  | .fn0, _, h => by simpa only [DV.rep] using h
  | .map0, _, h => by simpa only [DV.rep] using h
  | .if0, _, h => by simpa only [DV.rep] using h
  | .ifc _ d, _, h => by
    simp only [DV.rep] at h ⊢
    obtain ⟨u, rfl, h⟩ := h
    exact ⟨u, rfl, d.rep_mono hs hw u h⟩
  | .agg cs, _, h => by
    simp only [DV.rep] at h ⊢
    obtain ⟨vs, rfl, h⟩ := h
    exact ⟨vs, rfl, repL_mono hs hw cs vs h⟩
  | .list sz n f, _, h => by
    simp only [DV.rep] at h ⊢
    obtain ⟨a, cap, rfl, hc, hft, h⟩ := h
    refine ⟨a, cap, rfl, hc, hft, fun h0 => ?_⟩
    obtain ⟨b, off, rfl, hb, h⟩ := h h0
    refine ⟨b, off, rfl, hs b hb, fun i hi => ?_⟩
    obtain ⟨u, hu, hc, hr⟩ := h i hi
    exact ⟨u, hu, cellsAt_same (hw b hb) hc, (f i).rep_mono hs hw u hr⟩
theorem repL_mono (hs : ∀ b, S b → S' b) (hw : ∀ b, S b → w'.heap[b]? = w.heap[b]?) : ∀ (ds : List DV) (vs : List Value), repL S w ds vs → repL S' w' ds vs
  | [], _, h => by simpa only [repL] using h
  | d :: ds, _, h => by
    simp only [repL] at h ⊢
    obtain ⟨u, us, rfl, h0, h1, h2⟩ := h
    exact ⟨u, us, rfl, h0, d.rep_mono hs hw u h1, repL_mono hs hw ds us h2⟩
end

/-- What a place of ours is known by: its block's shape. -/
theorem shape_same {b : Nat} (h : w'.heap[b]? = w.heap[b]?) : w'.shape? b = w.shape? b := by
  simp only [World.shape?, h]

variable {α α' : Nat → Loc} {L L' : Nat → Prop}
/-- The blocks of ours that a value names. -/
def Kept (L L' : Nat → Prop) (α α' : Nat → Loc) (w w' : World) : Prop := ∀ i, L i → L' i ∧ α' i = α i ∧ ((α i).none = false → w'.shape? (α i).b = w.shape? (α i).b)

mutual
theorem PV.rep_mono (hs : ∀ b, S b → S' b) (hw : ∀ b, S b → w'.heap[b]? = w.heap[b]?) (hk : Kept L L' α α' w w') : ∀ (p : PV) (v : Value), p.rep S L α w v → p.rep S' L' α' w' v
  | .unk, _, _ => by simp only [PV.rep]
  | .d x, v, h => by simp only [PV.rep] at h ⊢; exact x.rep_mono hs hw v h
  | .own id off len, v, h => by
    simp only [PV.rep] at h ⊢
    obtain ⟨hl, h⟩ := h
    obtain ⟨k1, k2, k3⟩ := hk id hl
    rw [k2]
    refine ⟨k1, h.imp (fun x => x) ?_⟩
    rintro ⟨h0, h⟩
    rw [k3 h0]
    exact ⟨h0, h⟩
  | .ptr id off, v, h => by
    simp only [PV.rep] at h ⊢
    obtain ⟨k1, k2, _⟩ := hk id h.1
    rw [k2]
    exact ⟨k1, h.2⟩
  | .eptr id i j, v, h => by
    simp only [PV.rep] at h ⊢
    obtain ⟨k1, k2, _⟩ := hk id h.1
    rw [k2]
    exact ⟨k1, h.2⟩
  | .rptr cs, v, h => by
    simp only [PV.rep] at h ⊢
    obtain ⟨b, off, us, rfl, hb, hc, hr⟩ := h
    exact ⟨b, off, us, rfl, hs b hb, cellsAt_same (hw b hb) hc, repL_mono hs hw cs us hr⟩
  | .agg ps, v, h => by
    simp only [PV.rep] at h ⊢
    obtain ⟨vs, rfl, h0, h⟩ := h
    exact ⟨vs, rfl, h0, prepL_mono hs hw hk ps vs h⟩
  | .tup ps, v, h => by
    simp only [PV.rep] at h ⊢
    obtain ⟨vs, rfl, h⟩ := h
    exact ⟨vs, rfl, prepL_mono hs hw hk ps vs h⟩
  | .clo fn fs cs, v, h => by
    simp only [PV.rep] at h ⊢
    obtain ⟨us, vs, rfl, h1, h2⟩ := h
    exact ⟨us, vs, rfl, prepL_mono hs hw hk fs us h1, prepL_mono hs hw hk cs vs h2⟩
  | .ifc t p, v, h => by
    simp only [PV.rep] at h ⊢
    obtain ⟨u, rfl, h⟩ := h
    exact ⟨u, rfl, p.rep_mono hs hw hk u h⟩
  | .when .., v, h => by simp only [PV.rep] at h
theorem prepL_mono (hs : ∀ b, S b → S' b) (hw : ∀ b, S b → w'.heap[b]? = w.heap[b]?) (hk : Kept L L' α α' w w') : ∀ (ps : List PV) (vs : List Value), prepL S L α w ps vs → prepL S' L' α' w' ps vs
  | [], _, h => by simpa only [prepL] using h
  | p :: ps, _, h => by
    simp only [prepL] at h ⊢
    obtain ⟨u, us, rfl, h1, h2⟩ := h
    exact ⟨u, us, rfl, p.rep_mono hs hw hk u h1, prepL_mono hs hw hk ps us h2⟩
end
end

theorem Blk.rep_mono {S S' L L' : Nat → Prop} {α α' : Nat → Loc} {w w' : World} (hs : ∀ b, S b → S' b) (hw : ∀ b, S b → w'.heap[b]? = w.heap[b]?) (hk : Kept L L' α α' w w')
    {l : Loc} (hl : l.none = false → w'.heap[l.b]? = w.heap[l.b]?) : ∀ {B : Blk}, B.rep S L α w l → B.rep S' L' α' w' l
  | .dead, _ => trivial
  | .box cs, ⟨h0, us, t, fr, h1, h2, ho, h3⟩ => ⟨h0, us, t, fr, (hl h0).trans h1, h2, ho, prepL_mono hs hw hk cs us h3⟩
  | .arr e sz n f, ⟨h0, h⟩ => ⟨h0, h.imp id fun ⟨hn, us, fr, h1, h2, h3, h4⟩ => ⟨hn, us, fr, (hl hn).trans h1, h2, h3, fun i hi => by
      obtain ⟨u, hu, hc, hr⟩ := h4 i hi
      exact ⟨u, hu, cellsAt_same (hl hn) hc, (f i).rep_mono hs hw u hr⟩⟩⟩

theorem PV.erep_mono {S S' L L' : Nat → Prop} {α α' : Nat → Loc} {w w' : World} {tmps tmps' : Array Value} (hs : ∀ b, S b → S' b) (hw : ∀ b, S b → w'.heap[b]? = w.heap[b]?) (hk : Kept L L' α α' w w')
    (p : PV) (v : Value) (ht : ∀ g c q, p = .when g c q → (hold tmps' g ↔ hold tmps g)) (h : p.erep S L α w tmps v) : p.erep S' L' α' w' tmps' v := by
  cases p with
  | when g c q =>
    simp only [PV.erep] at h ⊢
    rw [ht g c q rfl]
    exact ⟨fun hh => ⟨(h.1 hh).1, q.rep_mono hs hw hk v (h.1 hh).2⟩, h.2⟩
  | _ => exact PV.rep_mono hs hw hk _ v h

section
variable {S S' : Nat → Prop} {α : Nat → Loc} {σ : Sto} {w w' : World}
open Go.RowKit

theorem RelS.kept (h : RelS S α σ w) (hb : Below w.heap.size w w') {α' : Nat → Loc} {σ' : Sto} (hα : ∀ i, live σ i → α' i = α i) (hl : ∀ i, live σ i → live σ' i) : Kept (live σ) (live σ') α α' w w' :=
  fun i hi => ⟨hl i hi, hα i hi, fun hn => shape_same (hb.block _ (h.out i ⟨hi, hn⟩).2)⟩
theorem RelS.keeps (h : RelS S α σ w) (hb : Below w.heap.size w w') : ∀ b, S b → w'.heap[b]? = w.heap[b]? := fun b hs => hb.block b (h.slt b hs)

/-- Nothing of ours was written: the store is as it was. -/
theorem RelS.below (h : RelS S α σ w) (hb : Below w.heap.size w w') (hs : ∀ b, S b → S' b) (hn : ∀ b, S' b → S b ∨ w.heap.size ≤ b) (hlt : ∀ b, S' b → b < w'.heap.size) : RelS S' α σ w' where
  sto := fun i => by
    by_cases hi : live σ i
    · exact Blk.rep_mono hs (h.keeps hb) (h.kept hb (fun _ _ => rfl) (fun _ x => x)) (fun hn => hb.block _ (h.out i ⟨hi, hn⟩).2) (h.sto i)
    · unfold live at hi
      cases hB : σ i with
      | dead => trivial
      | _ => simp [hB, Blk.alive] at hi
  inj := h.inj
  out := fun i hi => ⟨fun hS => by
    rcases hn _ hS with h1 | h1
    · exact (h.out i hi).1 h1
    · exact absurd (h.out i hi).2 (by omega), Nat.lt_of_lt_of_le (h.out i hi).2 hb.size⟩
  slt := hlt
theorem Moved.below (hb : Below w.heap.size w w') (hs : ∀ b, S b → S' b) (hn : ∀ b, S' b → S b ∨ w.heap.size ≤ b) : Moved S α σ w S' α σ w' :=
  ⟨hb.os, hb.tape, hb.output, hb.size, fun b h _ => hb.block b h, fun i h => .inl ⟨i, h, rfl⟩, hs, fun b h => (hn b h).imp id .inl⟩

/-- A new block under a number that was free. -/
theorem RelS.new (h : RelS S α σ w) {nid : Nat} (hd : ¬ live σ nid) {B : Blk} {l : Loc} (hb : Below w.heap.size w w') (hl : l.none = false → w.heap.size ≤ l.b) (hl' : l.none = false → l.b < w'.heap.size)
    (hB : B.rep S (live (upd σ nid B)) (upd α nid l) w' l) : RelS S (upd α nid l) (upd σ nid B) w' := by
  have hne : ∀ i, live σ i → i ≠ nid := fun i hi e => hd (e ▸ hi)
  have hlive : ∀ i, i ≠ nid → (live (upd σ nid B) i ↔ live σ i) := fun i hi => by simp [live, upd_other _ _ hi]
  have hreal : ∀ i, i ≠ nid → real (upd σ nid B) (upd α nid l) i → real σ α i := fun i hi hr => ⟨(hlive i hi).1 hr.1, by simpa [upd_other _ _ hi] using hr.2⟩
  refine ⟨fun i => ?_, fun i j hi hj he => ?_, fun i hi => ?_, fun b hS => Nat.lt_of_lt_of_le (h.slt b hS) hb.size⟩
  · by_cases hi : i = nid
    · subst hi
      rw [upd_same, upd_same]
      exact hB
    · rw [upd_other _ _ hi, upd_other _ _ hi]
      by_cases hv : live σ i
      · exact Blk.rep_mono (fun _ x => x) (h.keeps hb) (h.kept hb (fun j hj => upd_other _ _ (hne j hj)) (fun j hj => (hlive j (hne j hj)).2 hj)) (fun hn => hb.block _ (h.out i ⟨hv, hn⟩).2) (h.sto i)
      · unfold live at hv
        cases hB : σ i with
        | dead => trivial
        | _ => simp [hB, Blk.alive] at hv
  · by_cases h1 : i = nid <;> by_cases h2 : j = nid
    · rw [h1, h2]
    · subst h1
      rw [upd_same, upd_other _ _ h2] at he
      have := (h.out j (hreal j h2 hj)).2
      have := hl (by simpa [upd_same] using hi.2)
      omega
    · subst h2
      rw [upd_same, upd_other _ _ h1] at he
      have := (h.out i (hreal i h1 hi)).2
      have := hl (by simpa [upd_same] using hj.2)
      omega
    · rw [upd_other _ _ h1, upd_other _ _ h2] at he
      exact h.inj i j (hreal i h1 hi) (hreal j h2 hj) he
  · by_cases h1 : i = nid
    · subst h1
      have hn : l.none = false := by simpa [upd_same] using hi.2
      rw [upd_same]
      exact ⟨fun hS => absurd (h.slt _ hS) (by have := hl hn; omega), hl' hn⟩
    · rw [upd_other _ _ h1]
      have := h.out i (hreal i h1 hi)
      exact ⟨this.1, Nat.lt_of_lt_of_le this.2 hb.size⟩
theorem Moved.fresh {nid : Nat} (hd : ¬ live σ nid) {B : Blk} {l : Loc} (hb : Below w.heap.size w w') (hl : l.none = false → w.heap.size ≤ l.b) : Moved S α σ w S (upd α nid l) (upd σ nid B) w' := by
  refine ⟨hb.os, hb.tape, hb.output, hb.size, fun b h _ => hb.block b h, fun i hi => ?_, fun _ h => h, fun _ h => .inl h⟩
  by_cases h1 : i = nid
  · subst h1
    have hn : l.none = false := by simpa [upd_same] using hi.2
    rw [upd_same]
    exact .inr (hl hn)
  · rw [upd_other _ _ h1]
    exact .inl ⟨i, ⟨by simpa [live, upd_other _ _ h1] using hi.1, by simpa [upd_other _ _ h1] using hi.2⟩, rfl⟩
end
end Go.Ev

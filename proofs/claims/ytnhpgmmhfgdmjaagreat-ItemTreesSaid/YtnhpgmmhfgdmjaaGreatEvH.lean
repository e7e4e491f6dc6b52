/- A part of the walk over a program with slices and structs as plain values: the step of each operation, proved against the given semantics once for all programs. Conditions: none but those that each theorem names. -/
import Derived.Test.YtnhpgmmhfgdmjaaGreatEvG
set_option linter.unusedVariables false
set_option linter.unusedSimpArgs false
namespace Go.Ev
open Go.RowKit

section
variable {P : Program} {S : Nat → Prop} {α : Nat → Loc} {σ : Sto} {w : World} {nid : Nat} {s : Store} {lim : Nat} {C : Prop} {v : PV} {nb : Option Blk}

theorem thaw0 (n : Nat) : thaw (0, 0) n := fun j _ h => by simp at h

/-- A new variable: its cells are those of a value. -/
theorem newVar_ok (hr : RelS S α σ w) (hd : ¬ live σ nid) {t : TypeId} {u : Value} {cs : List PV} (hc : ∀ (B : Blk) (l : Loc) (o : Obj), B.alive = true → prepL S (live (upd σ nid B)) (upd α nid l) (w.alloc o) cs u.cells.toList) (ho : ∀ x ∈ u.cells.toList, x.oneCell' = true) {m : Sem Value}
    (hm : m.run P w = .ok (.pointer (some ⟨w.heap.size, 0, none⟩)) (w.alloc (.cells u.cells t))) : QOk P S α σ w nid m (.ptr nid 0) (some (.box cs)) := by
  refine QOk.new hr hd hm (l := ⟨w.heap.size, 0, 0, false⟩) rfl ?_ ?_
  · refine ⟨rfl, u.cells.toList, t, (0, 0), ?_, thaw0 _, ho, hc _ _ _ rfl⟩
    rw [heap_new]
  · simp only [PV.rep]
    rw [upd_same]
    exact ⟨live_upd rfl, rfl, rfl⟩

theorem alloc_ok (hr : RelS S α σ w) (hd : ¬ live σ nid) {t : TypeId} {z : DV} (hz : zeroOf P t = some z) : QOk P S α σ w nid (Instr.alloc t true (.tuple #[])) (.ptr nid 0) (some (.box (z.cells.map .d))) := by
  unfold zeroOf at hz
  split at hz
  · rename_i i hi
    obtain ⟨zv, hzv, hzd⟩ := Option.bind_eq_some_iff.1 hz
    refine newVar_ok hr hd (u := zv) (t := t) (fun B l o _ => prepL_map_d (DV.cells_rep (constD_rep hzd))) (repL_iff (L := live σ) (α := α).1 (DV.cells_rep (S := S) (w := w) (constD_rep hzd))).2 ?_
    simp [Instr.alloc, zeroValue, run_typeInfo w hi, hzv, newVar, newRow]
  · cases hz

theorem box_ok (hr : RelS S α σ w) (hd : ¬ live σ nid) {t : TypeId} {x : PV} {u : Value} (hx : x.rep S (live σ) α w u) (hp : x.plain = true) : QOk P S α σ w nid (Instr.box t u) (.ptr nid 0) (some (.box x.cells)) := by
  refine newVar_ok hr hd (u := u) (t := t) (fun B l o hB => prepL_new hr hd hB (PV.cells_rep hx hp).1) (PV.cells_rep hx hp).2 ?_
  simp [Instr.box, newVar, newRow]

/-! slices -/
theorem sliceBound_ok {k : IntKind} {n : Int} {y : Nat} {c : BoundsCode} (h0 : 0 ≤ n) (h1 : n ≤ y) : (Instr.sliceBound (.int k n) y c).run P w = .ok n.toNat w := by
  simp [Instr.sliceBound, asInt_of, h0, h1]

theorem win_rep {sz n off len : Nat} {f : Nat → DV} {b o : Nat} (hel : ∀ i, i < n → ∃ u, u.cells.size = sz ∧ cellsAt w b (o + i * sz) u.cells.toList ∧ (f i).rep S w u) (h : off + len ≤ n) :
    ∀ i, i < len → ∃ u, u.cells.size = sz ∧ cellsAt w b (o + off * sz + i * sz) u.cells.toList ∧ (win off len n f i).rep S w u := by
  intro i hi
  obtain ⟨u, h1, h2, h3⟩ := hel (off + i) (by omega)
  refine ⟨u, h1, ?_, by simpa [win, hi] using h3⟩
  rwa [Nat.add_mul, ← Nat.add_assoc] at h2

theorem extract_empty_list (b : ByteArray) : b.extract 0 b.size = b := by simp

/-- A slice of a string, of a list, of a block of ours, with both bounds known as numbers. -/
theorem sliceStr_ok (hr : RelS S α σ w) {b : ByteArray} (hfb : fits b.size) {t : TypeId} {lo hi : Option Value} {l h : Nat} (ht : (tyOf P t).td = .str)
    (hb : (Instr.sliceBounds false b.size b.size lo hi none).run P w = .ok (l, h, b.size) w) :
    QOk P S α σ w nid (Instr.sliceAt t (.string b) lo hi none) (.d (.str (b.extract l h))) none := by
  have hfx : fits (b.extract l h).size := by rw [ByteArray.size_extract]; unfold fits at *; omega
  have hu := str_desc ht
  refine QOk.pure hr (u := .string (b.extract l h)) ?_ (by simp only [PV.rep, DV.rep]; exact ⟨trivial, hfx⟩)
  simp [Instr.sliceAt, run_underlying hu, Instr.slice, hb]

theorem sliceList_ok (hr : RelS S α σ w) {t e : TypeId} {sz n : Nat} {f : Nat → DV} {u : Value} {lo hi : Option Value} {l h : Nat} (ht : (tyOf P t).td = .slice e) (hsz : sz = (tyOf P e).size) (hz : sz ≠ 0) (hx : (PV.d (.list sz n f)).rep S (live σ) α w u)
    (hb : ∀ cap, n ≤ cap → (Instr.sliceBounds true n cap lo hi none).run P w = .ok (l, h, cap) w) (h1 : l ≤ h) (h2 : h ≤ n) :
    QOk P S α σ w nid (Instr.sliceAt t u lo hi none) (.d (.list sz (h - l) (win l (h - l) n f))) none := by
  have hu := slice_desc ht
  simp only [PV.rep, DV.rep] at hx
  obtain ⟨a, cap, rfl, hcap, hft, hel⟩ := hx
  obtain ⟨ti, ud, hti, _, htye⟩ := ty_some (P := P) (t := e) (.inl (by rw [← hsz]; exact hz))
  rw [htye] at hsz
  dsimp only at hsz
  have hrun : (Instr.sliceAt t (.slice a n cap) lo hi none).run P w = .ok (.slice (if cap = l then a else a.map (·.add (l * ti.size))) (h - l) (cap - l)) w := by
    simp [Instr.sliceAt, run_underlying hu, Instr.slice, hb cap hcap, run_sizeOf' hti]
  refine QOk.pure hr hrun ?_
  simp only [PV.rep, DV.rep]
  refine ⟨_, _, rfl, by omega, by unfold fits at *; omega, fun h0 => ?_⟩
  obtain ⟨b, off, rfl, hS, hel⟩ := hel (by omega)
  rw [if_neg (by omega)]
  refine ⟨b, off + l * sz, by simp [Addr.add_lit, hsz], hS, win_rep hel (by omega)⟩

theorem sliceOwn_ok (hr : RelS S α σ w) {t e : TypeId} {id off len : Nat} {u : Value} {lo hi : Option Value} {l h : Nat} (ht : (tyOf P t).td = .slice e) (hsz : (α id).sz = (tyOf P e).size) (hz : (tyOf P e).size ≠ 0) (hx : (PV.own id off len).rep S (live σ) α w u)
    (hb : ∀ cap, len ≤ cap → (Instr.sliceBounds true len cap lo hi none).run P w = .ok (l, h, cap) w) (h1 : l ≤ h) (h2 : h ≤ len) :
    QOk P S α σ w nid (Instr.sliceAt t u lo hi none) (.own id (off + l) (h - l)) none := by
  have hu := slice_desc ht
  simp only [PV.rep] at hx
  obtain ⟨hl, ⟨hnn, rfl, rfl, rfl⟩ | ⟨hnn, x, cap, rfl, hcap, hft, hx, ee, nn, hs, hn⟩⟩ := hx
  · obtain rfl : h = 0 := by omega
    obtain rfl : l = 0 := by omega
    obtain ⟨ti, ud, hti, _, htye⟩ := ty_some (P := P) (t := e) (.inl hz)
    refine QOk.pure hr (u := .slice none 0 0) ?_ (by simp only [PV.rep]; exact ⟨hl, .inl ⟨hnn, by simp⟩⟩)
    simp [Instr.sliceAt, run_underlying hu, Instr.slice, hb 0 (Nat.le_refl _), run_sizeOf' hti]
  obtain ⟨ti, ud, hti, _, htye⟩ := ty_some (P := P) (t := e) (.inl hz)
  rw [htye] at hsz
  dsimp only at hsz
  have hrun : (Instr.sliceAt t (.slice (some ⟨(α id).b, x, none⟩) len cap) lo hi none).run P w = .ok (.slice (some (if cap = l then ⟨(α id).b, x, none⟩ else ⟨(α id).b, x + l * ti.size, none⟩)) (h - l) (cap - l)) w := by
    simp [Instr.sliceAt, run_underlying hu, Instr.slice, hb cap hcap, run_sizeOf' hti, Addr.add_lit]
    split <;> rfl
  by_cases hc : cap = l
  · rw [if_pos hc] at hrun
    refine QOk.pure hr hrun ?_
    simp only [PV.rep]
    refine ⟨hl, .inr ⟨hnn, x, _, rfl, by omega, by unfold fits at *; omega, fun h0 => by omega, ee, nn, hs, ?_⟩⟩
    rw [← hn, hc]
    simp
  · rw [if_neg hc] at hrun
    refine QOk.pure hr hrun ?_
    simp only [PV.rep]
    refine ⟨hl, .inr ⟨hnn, _, _, rfl, by omega, by unfold fits at *; omega, fun h0 => ?_, ee, nn, hs, ?_⟩⟩
    · rw [hx (by omega), ← hsz, Nat.add_mul, Nat.add_assoc]
    · rw [← hn, Nat.add_assoc off l, Nat.add_sub_of_le (by omega)]

def optRep (S : Nat → Prop) (L : Nat → Prop) (α : Nat → Loc) (w : World) : Option PV → Option Value → Prop
  | none, none => True
  | some p, some v => p.rep S L α w v
  | _, _ => False

theorem bounds_ok {len cap : Nat} (hcap : len ≤ cap) {lo hi : Option PV} {ul uh : Option Value} (hl : optRep S (live σ) α w lo ul) (hh : optRep S (live σ) α w hi uh) {l h : Int} (hq : boundsQ len lo hi = some (C, l, h)) (hC : C) (isS : Bool) :
    (Instr.sliceBounds isS len cap ul uh none).run P w = .ok (l.toNat, h.toNat, cap) w ∧ 0 ≤ l ∧ l ≤ h ∧ h ≤ len := by
  unfold boundsQ at hq
  split at hq
  · rename_i kl l' kh h'
    simp only [Option.some.injEq, Prod.mk.injEq] at hq
    obtain ⟨rfl, rfl, rfl⟩ := hq
    cases ul with
    | none => exact hl.elim
    | some ul =>
      cases uh with
      | none => exact hh.elim
      | some uh =>
        simp only [optRep, PV.rep, DV.rep] at hl hh
        subst hl
        subst hh
        have e1 : ∀ c, (Instr.sliceBound (.int kh h') cap c).run P w = .ok h'.toNat w := fun c => sliceBound_ok (by omega) (by omega)
        have e2 : (Instr.sliceBound (.int kl l') h'.toNat BoundsCode.sliceB).run P w = .ok l'.toNat w := sliceBound_ok (by omega) (by omega)
        exact ⟨by simp [Instr.sliceBounds, e1, e2], hC⟩
  · rename_i kh h'
    simp only [Option.some.injEq, Prod.mk.injEq] at hq
    obtain ⟨rfl, rfl, rfl⟩ := hq
    cases ul with
    | some _ => exact hl.elim
    | none =>
      cases uh with
      | none => exact hh.elim
      | some uh =>
        simp only [optRep, PV.rep, DV.rep] at hh
        subst hh
        have e1 : ∀ c, (Instr.sliceBound (.int kh h') cap c).run P w = .ok h'.toNat w := fun c => sliceBound_ok (by omega) (by omega)
        exact ⟨by simp [Instr.sliceBounds, e1], by omega, hC⟩
  · rename_i kl l'
    simp only [Option.some.injEq, Prod.mk.injEq] at hq
    obtain ⟨rfl, rfl, rfl⟩ := hq
    cases uh with
    | some _ => exact hh.elim
    | none =>
      cases ul with
      | none => exact hl.elim
      | some ul =>
        simp only [optRep, PV.rep, DV.rep] at hl
        subst hl
        have e2 : (Instr.sliceBound (.int kl l') len BoundsCode.sliceB).run P w = .ok l'.toNat w := sliceBound_ok (by omega) (by omega)
        exact ⟨by simp [Instr.sliceBounds, e2], hC.1, hC.2, by omega⟩
  · simp only [Option.some.injEq, Prod.mk.injEq] at hq
    obtain ⟨rfl, rfl, rfl⟩ := hq
    cases uh with
    | some _ => exact hh.elim
    | none =>
      cases ul with
      | some _ => exact hl.elim
      | none => exact ⟨by simp [Instr.sliceBounds], by omega, by omega, by omega⟩
  · cases hq

theorem sliceQ_ok (hr : RelS S α σ w) (hlim : ∀ id B, id < lim → nth s id = some B → σ id = B) {t : TypeId} {x : PV} {u : Value} {lo hi : Option PV} {ul uh : Option Value} (hx : x.rep S (live σ) α w u) (hl : optRep S (live σ) α w lo ul) (hh : optRep S (live σ) α w hi uh)
    (h : sliceQ P t s lim x lo hi = .ok C v nb) (hC : C) : QOk P S α σ w nid (Instr.sliceAt t u ul uh none) v nb := by
  unfold sliceQ at h
  split at h
  · rename_i b ht
    split at h
    · rename_i c l h' hq
      simp only [QR.ok.injEq] at h
      obtain ⟨rfl, rfl, rfl⟩ := h
      simp only [PV.rep, DV.rep] at hx
      obtain ⟨rfl, hfb⟩ := hx
      exact sliceStr_ok hr hfb ht (bounds_ok (Nat.le_refl _) hl hh hq hC false).1
    · cases h
  · rename_i e sz n f ht
    split at h
    · rename_i hsz
      split at h
      · rename_i c l h' hq
        simp only [QR.ok.injEq] at h
        obtain ⟨rfl, rfl, rfl⟩ := h
        have hb := fun cap hc => bounds_ok (P := P) (cap := cap) hc hl hh hq hC true
        have h1 := (hb n (Nat.le_refl _)).2
        exact sliceList_ok hr ht hsz.1 hsz.2 hx (fun cap hc => (hb cap hc).1) (by omega) (by omega)
      · cases h
    · cases h
  · rename_i e id off len ht
    split at h
    · rename_i hsz
      split at h
      · rename_i c l h' hq
        simp only [QR.ok.injEq] at h
        obtain ⟨rfl, rfl, rfl⟩ := h
        have hb := fun cap hc => bounds_ok (P := P) (cap := cap) hc hl hh hq hC true
        have h1 := (hb len (Nat.le_refl _)).2
        have hal := blkSize_ok hr hlim (id := id) (by rw [hsz.1]; exact hsz.2)
        exact sliceOwn_ok hr ht (hal.trans hsz.1) hsz.2 hx (fun cap hc => (hb cap hc).1) (by omega) (by omega)
      · cases h
    · cases h
  · cases h
end
end Go.Ev

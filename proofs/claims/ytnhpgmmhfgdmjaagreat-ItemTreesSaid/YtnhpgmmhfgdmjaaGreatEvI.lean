/- A part of the walk over a program with slices and structs as plain values: the step of each operation, proved against the given semantics once for all programs. Conditions: none but those that each theorem names. -/
import Derived.Test.YtnhpgmmhfgdmjaaGreatEvH
import Derived.Laws.OwnMore
import Derived.Great.BuildSlice
import Derived.Laws.MakeOwn
set_option linter.unusedVariables false
set_option linter.unusedSimpArgs false
namespace Go.Ev
open Go.RowKit

section
variable {P : Program} {S : Nat → Prop} {α : Nat → Loc} {σ : Sto} {w : World} {nid : Nat} {s : Store} {lim : Nat} {C : Prop} {v : PV} {nb : Option Blk}

theorem zero_info {e : TypeId} {z : DV} (hz : zeroOf P e = some z) : ∃ i zv, P.info? e = some i ∧ i.zero = some zv ∧ constD zv = some z := by
  unfold zeroOf at hz
  split at hz
  · rename_i i hi
    obtain ⟨zv, hzv, hzd⟩ := Option.bind_eq_some_iff.1 hz
    exact ⟨i, zv, hi, hzv, hzd⟩
  · cases hz

/-- Rows of one value. -/
theorem repeat_cells {z : Array Value} {n sz : Nat} (hsz : z.size = sz) (h0 : sz ≠ 0) (i : Nat) (hi : i < n) : ∀ j u, z.toList[j]? = some u → ((Array.range (n * sz)).map (z[· % z.size]!)).toList[i * sz + j]? = some u := by
  intro j u hj
  have hjl : j < sz := by
    have := (List.getElem?_eq_some_iff.1 hj).1
    simpa [hsz] using this
  have hb : i * sz + j < n * sz := by
    have : (i + 1) * sz ≤ n * sz := Nat.mul_le_mul_right _ (by omega)
    rw [Nat.add_mul] at this
    omega
  simp only [Array.toList_map, Array.toList_range, List.getElem?_map, List.getElem?_range hb, Option.map_some, hsz]
  rw [Nat.mul_comm, Nat.mul_add_mod, Nat.mod_eq_of_lt hjl]
  have hz : j < z.size := by omega
  rw [getElem!_pos z j hz]
  simpa [hz] using hj

theorem i64min : IntKind.i64.min = -9223372036854775808 := by decide
theorem makeSliceQ_ok (hr : RelS S α σ w) (hd : ¬ live σ nid) {t : TypeId} {x y : PV} {ux uy : Value} (hx : x.rep S (live σ) α w ux) (hy : y.rep S (live σ) α w uy) (h : makeSliceQ P t nid x y = .ok C v nb) (hC : C) : QOk P S α σ w nid (Instr.makeSlice t ux uy) v nb := by
  unfold makeSliceQ at h
  split at h
  · rename_i e _ n _ m ht
    split at h
    · rename_i z hz
      split at h
      · rename_i hck
        simp only [QR.ok.injEq] at h
        obtain ⟨rfl, rfl, rfl⟩ := h
        obtain ⟨h0, h1, h2⟩ := hC
        simp only [PV.rep, DV.rep] at hx hy
        subst hx
        subst hy
        have hu := slice_desc ht
        obtain ⟨i, zv, hi, hzv, hzd⟩ := zero_info hz
        obtain ⟨ti, ud, hti, _, htye⟩ := ty_some (P := P) (t := e) (.inl hck.1)
        obtain rfl : ti = i := by rw [hti] at hi; exact Option.some.inj hi
        rw [htye] at hck h2 ⊢
        dsimp only at hck h2 ⊢
        have hzl : zv.cells.size = ti.size := by
          have h3 := repL_length (DV.cells_rep (S := S) (w := w) (constD_rep hzd))
          have h4 := hck.2.1
          simp at h3
          omega
        obtain ⟨a, rfl⟩ := Int.eq_ofNat_of_zero_le h0
        obtain ⟨b, rfl⟩ := Int.eq_ofNat_of_zero_le (Int.le_trans h0 h1)
        have hbb : b * ti.bytes ≤ 140737488355328 := by
          omega
        have hbl : b ≤ 140737488355328 := Nat.le_trans (Nat.le_mul_of_pos_right _ hck.2.2) hbb
        have hal : a ≤ b := by omega
        have run := fun k k' => run_make (P := P) w t e ti zv hu hti hzv k k' (a : Int) (b : Int) (by omega) (by omega) (by rw [Int.mul_comm]; omega) (by omega)
        simp only [Int.toNat_natCast] at run ⊢
        refine QOk.new hr hd (l := ⟨w.heap.size, 0, ti.size, false⟩) (run _ _) rfl ?_ ?_
        · refine ⟨rfl, .inr ⟨rfl, (madeCells zv.cells (b * ti.size)).toList, (0, 0), ?_, thaw0 _, ?_, fun i hi => ⟨zv, hzl, ?_, constD_rep hzd⟩⟩⟩
          · rw [heap_new, Array.toArray_toList]
          · simp only [Array.length_toList, size_madeCells, Nat.zero_add]
            exact Nat.mul_le_mul_right _ hal
          · intro j u hj
            rw [World.cell?_alloc_new]
            have := repeat_cells hzl hck.1 i (Nat.lt_of_lt_of_le hi hal) j u hj
            rw [← Array.getElem?_toList]
            simpa only [madeCells, Nat.zero_add] using this
        · simp only [PV.rep]
          rw [upd_same]
          refine ⟨live_upd rfl, .inr ⟨rfl, 0, b, rfl, hal, by unfold fits; omega, fun _ => by simp, e, b * ti.size, ?_, by simp⟩⟩
          simp only [World.shape?, heap_new, size_madeCells]
      · cases h
    · cases h
  · cases h

/-! parts -/
theorem setN_eq {β : Type} : ∀ (l : List β) (i : Nat) (x : β), setN l i x = l.set i x
  | [], _, _ => rfl
  | y :: l, i, x => by
    simp only [setN]
    split
    · rename_i h
      subst h
      rfl
    · obtain ⟨k, rfl⟩ : ∃ k, i = k + 1 := ⟨i - 1, by omega⟩
      simp [setN_eq]
theorem prepL_set {L : Nat → Prop} : ∀ {ps : List PV} {us : List Value} {i : Nat} {p : PV} {u : Value}, prepL S L α w ps us → p.rep S L α w u → prepL S L α w (ps.set i p) (us.set i u)
  | [], us, i, p, u, h, _ => by
    simp only [prepL] at h
    subst h
    simp [prepL]
  | q :: ps, us, i, p, u, h, hp => by
    simp only [prepL] at h
    obtain ⟨y, ys, rfl, h1, h2⟩ := h
    cases i with
    | zero => simp only [List.set_cons_zero, prepL]; exact ⟨_, _, rfl, hp, h2⟩
    | succ i => simp only [List.set_cons_succ, prepL]; exact ⟨_, _, rfl, h1, prepL_set h2 hp⟩
theorem setsN_length {β : Type} : ∀ (ys : List β) (l : List β) (o : Nat), (setsN l o ys).length = l.length
  | [], l, o => rfl
  | y :: ys, l, o => by simp [setsN, setsN_length ys, setN_eq]
theorem prepL_sets {L : Nat → Prop} : ∀ {qs : List PV} {vs : List Value} {ps : List PV} {us : List Value} {o : Nat}, prepL S L α w ps us → prepL S L α w qs vs → prepL S L α w (setsN ps o qs) (setsN us o vs)
  | [], vs, ps, us, o, h, hq => by
    simp only [prepL] at hq
    subst hq
    exact h
  | q :: qs, vs, ps, us, o, h, hq => by
    simp only [prepL] at hq
    obtain ⟨y, ys, rfl, h1, h2⟩ := hq
    simp only [setsN, setN_eq]
    exact prepL_sets (prepL_set h h1) h2
theorem foldl_sets : ∀ (vs : List Value) (o k : Nat) (us : List Value), (vs.zipIdx k).foldl (fun (cs : Array Value) (x : Value × Nat) => cs.setIfInBounds (o + x.2) x.1) us.toArray = (setsN us (o + k) vs).toArray
  | [], _, _, _ => rfl
  | v :: vs, o, k, us => by
    simp only [List.zipIdx_cons, List.foldl_cons, setsN, setN_eq]
    rw [List.setIfInBounds_toArray, foldl_sets vs o (k + 1) (us.set (o + k) v), Nat.add_assoc]
theorem setsN_mem {β : Type} : ∀ (ys l : List β) (o : Nat) (x : β), x ∈ setsN l o ys → x ∈ l ∨ x ∈ ys
  | [], _, _, _, h => .inl h
  | y :: ys, l, o, x, h => by
    simp only [setsN, setN_eq] at h
    rcases setsN_mem ys _ _ _ h with h | h
    · rcases List.mem_or_eq_of_mem_set h with h | h
      · exact .inl h
      · exact .inr (by simp [h])
    · exact .inr (by simp [h])
theorem fillP_ok {L : Nat → Prop} (place : Nat → Option (Nat × Nat)) : ∀ {parts : List (Nat × PV)} {vals : List (Nat × Value)} {ps qs : List PV} {us : List Value}, prepL S L α w ps us → (∀ u ∈ us, u.oneCell' = true) → parts.map (·.1) = vals.map (·.1) → prepL S L α w (parts.map (·.2)) (vals.map (·.2)) →
    fillP place ps parts = some qs → ∃ us', Instr.fill place us.toArray vals = some us'.toArray ∧ (∀ u ∈ us', u.oneCell' = true) ∧ prepL S L α w qs us'
  | [], vals, ps, qs, us, h, ho, h1, h2, hf => by
    obtain rfl : vals = [] := by simpa using h1.symm
    obtain rfl : ps = qs := by simpa [fillP] using hf
    exact ⟨us, rfl, ho, h⟩
  | (i, p) :: parts, vals, ps, qs, us, h, ho, h1, h2, hf => by
    cases vals with
    | nil => simp at h1
    | cons v vals =>
      obtain ⟨i', v⟩ := v
      simp only [List.map_cons, List.cons.injEq] at h1
      obtain ⟨rfl, h1⟩ := h1
      simp only [List.map_cons, prepL] at h2
      obtain ⟨u, us2, he, h2a, h2b⟩ := h2
      simp only [List.cons.injEq] at he
      obtain ⟨rfl, rfl⟩ := he
      simp only [fillP] at hf
      simp only [Instr.fill]
      cases hp : place i with
      | none => simp [hp] at hf
      | some x =>
        obtain ⟨o, sz⟩ := x
        simp only [hp] at hf ⊢
        split at hf
        · rename_i hc
          obtain ⟨hcells, hone⟩ := PV.cells_rep h2a hc.2.1
          have hl1 := prepL_length hcells
          have hl2 := prepL_length h
          have e1 : v.cells.size = sz := by
            simp at hl1
            omega
          have e2 : ¬ ((decide (v.cells.size ≠ sz) || decide (o + v.cells.size > us.toArray.size)) = true) := by simp; omega
          rw [if_neg e2]
          have := foldl_sets v.cells.toList o 0 us
          simp only [Nat.add_zero] at this
          have e3 : Array.foldl (fun (cs : Array Value) (x : Value × Nat) => match x with | (c, j) => cs.setIfInBounds (o + j) c) us.toArray v.cells.zipIdx = (setsN us o v.cells.toList).toArray := by
            rw [← this, ← Array.foldl_toList]
            simp only [Array.toList_zipIdx]
          rw [e3]
          exact fillP_ok place (prepL_sets h hcells) (fun u hu => (setsN_mem _ _ _ _ hu).elim (ho u) (hone u)) h1 h2b hf
        · cases hf

theorem nth_eq {β : Type} : ∀ (l : List β) (i : Nat), nth l i = l[i]?
  | [], _ => by simp [nth]
  | y :: l, i => by
    simp only [nth]
    split
    · rename_i h
      subst h
      rfl
    · obtain ⟨k, rfl⟩ : ∃ k, i = k + 1 := ⟨i - 1, by omega⟩
      simp [nth_eq]
theorem buildQ_ok (hr : RelS S α σ w) {t : TypeId} {parts : List (Nat × PV)} {vals : Array (Nat × Value)} (h1 : parts.map (·.1) = vals.toList.map (·.1)) (h2 : prepL S (live σ) α w (parts.map (·.2)) (vals.toList.map (·.2))) (h : buildQ P t parts = .ok C v nb) :
    QOk P S α σ w nid (Instr.build t vals) v nb := by
  unfold buildQ at h
  split at h
  · cases h
  · rename_i z hz
    obtain ⟨i, zv, hi, hzv, hzd⟩ := zero_info hz
    have hz0 : prepL S (live σ) α w (z.cells.map .d) zv.cells.toList := prepL_map_d (DV.cells_rep (constD_rep hzd))
    have ho0 : ∀ u ∈ zv.cells.toList, u.oneCell' = true := (repL_iff (L := live σ) (α := α).1 (DV.cells_rep (S := S) (w := w) (constD_rep hzd))).2
    split at h
    · rename_i fs hfs
      split at h
      case isFalse => cases h
      rename_i hsz
      split at h
      · rename_i cs hf
        simp only [QR.ok.injEq] at h
        obtain ⟨_, rfl, rfl⟩ := h
        obtain ⟨fields, hu, rfl⟩ := struct_desc hfs
        obtain ⟨us, hu1, hu2⟩ := fillP_ok _ hz0 ho0 h1 h2 hf
        have hpl : fields.toList.mapM (fun f => (P.info? f.type).map fun i => (f.offset, i.size)) = some (fields.toList.map fun f => (f.offset, (tyOf P f.type).size)) := by
          have : ∀ l : List Field, (l.map fun f => (f.offset, f.type)).all (fun x => (tyOf P x.2).size != 0) = true → l.mapM (fun f => (P.info? f.type).map fun i => (f.offset, i.size)) = some (l.map fun f => (f.offset, (tyOf P f.type).size)) := by
            intro l
            induction l with
            | nil => intro _; rfl
            | cons f l ih =>
              intro hall
              simp only [List.map_cons, List.all_cons, Bool.and_eq_true] at hall
              obtain ⟨ti, ud, hti, _, hty⟩ := ty_some (P := P) (t := f.type) (.inl (by simpa using hall.1))
              simp [List.mapM_cons, hti, ih hall.2, hty]
          exact this _ hsz
        have hb : P.built t vals.toList = some us.toArray := by
          simp only [Program.built, hi, hu, hzv, hpl]
          rw [← hu1]
          congr 1
          funext i
          simp only [List.getElem?_toArray]
          rw [nth_eq]
          simp [List.getElem?_map, Function.comp_def]
        exact QOk.pure hr (run_build w t vals us.toArray hb) (by simp only [PV.rep]; exact ⟨us, rfl, hu2⟩)
      · cases h
    · rename_i e ht
      split at h
      · rename_i hsz
        split at h
        · rename_i cs hf
          simp only [QR.ok.injEq] at h
          obtain ⟨_, rfl, rfl⟩ := h
          have hu := array_desc ht
          obtain ⟨ti, ud, hti, _, htye⟩ := ty_some (P := P) (t := e) (.inl hsz)
          rw [htye] at hf
          obtain ⟨us, hu1, hu2⟩ := fillP_ok _ hz0 ho0 h1 h2 hf
          refine QOk.pure hr (u := .agg us.toArray) ?_ (by simp only [PV.rep]; exact ⟨us, rfl, hu2⟩)
          simp only [Array.toArray_toList] at hu1
          simp [Instr.build, zeroValue, run_typeInfo w hi, hzv, run_underlying hu, run_sizeOf' hti, hu1]
        · cases h
      · cases h
    · cases h

/-! slice literals -/
theorem allD_rep {L : Nat → Prop} : ∀ {ps : List PV} {ds : List DV} {us : List Value}, allD ps = some ds → prepL S L α w ps us → (∀ u ∈ us, u.oneCell' = true) → repL S w ds us
  | [], ds, us, h, hp, _ => by
    obtain rfl : [] = ds := by simpa [allD] using h
    simpa only [prepL, repL] using hp
  | p :: ps, ds, us, h, hp, ho => by
    simp only [prepL] at hp
    obtain ⟨u, us', rfl, h1, h2⟩ := hp
    cases p with
    | d x =>
      simp only [allD] at h
      obtain ⟨ds', hd, rfl⟩ := Option.map_eq_some_iff.1 h
      simp only [repL]
      exact ⟨u, us', rfl, ho u (by simp), by simpa only [PV.rep] using h1, allD_rep hd h2 (fun x hx => ho x (by simp [hx]))⟩
    | _ => simp [allD] at h
theorem deep_rep {L : Nat → Prop} {p : PV} {x : DV} {v : Value} (h : p.deep = some x) (hp : p.rep S L α w v) : x.rep S w v := by
  cases p with
  | d y =>
    obtain rfl : y = x := by simpa [PV.deep] using h
    simpa only [PV.rep] using hp
  | agg cs =>
    simp only [PV.deep] at h
    obtain ⟨ds, hd, rfl⟩ := Option.map_eq_some_iff.1 h
    simp only [PV.rep] at hp
    obtain ⟨vs, rfl, ho, hp⟩ := hp
    simp only [DV.rep]
    exact ⟨vs, rfl, allD_rep hd hp ho⟩
  | _ => simp [PV.deep] at h
theorem cells_length {d : DV} {v : Value} (h : d.rep S w v) : v.cells.size = d.cells.length := by
  have := repL_length (DV.cells_rep h)
  simpa using this
theorem setsN_get {β : Type} : ∀ (ys : List β) (l : List β) (o k : Nat), o + ys.length ≤ l.length → (setsN l o ys)[k]? = if o ≤ k ∧ k < o + ys.length then ys[k - o]? else l[k]?
  | [], l, o, k, _ => by
    simp only [setsN, List.length_nil, Nat.add_zero]
    rw [if_neg (by omega)]
  | y :: ys, l, o, k, h => by
    simp only [List.length_cons] at h ⊢
    simp only [setsN, setN_eq]
    rw [setsN_get ys _ _ _ (by simp; omega)]
    by_cases hk : k = o
    · subst hk
      rw [if_neg (by omega), if_pos (by omega), Nat.sub_self, List.getElem?_set_self (by omega)]
      rfl
    · by_cases h1 : o + 1 ≤ k ∧ k < o + 1 + ys.length
      · rw [if_pos h1, if_pos (by omega)]
        obtain ⟨m, rfl⟩ : ∃ m, k = o + 1 + m := ⟨k - o - 1, by omega⟩
        rw [show o + 1 + m - o = m + 1 by omega, show o + 1 + m - (o + 1) = m by omega]
        simp
      · rw [if_neg h1, if_neg (by omega), List.getElem?_set_ne (by omega)]
def Laid (S : Nat → Prop) (w : World) (sz : Nat) (ds : List DV) (us : List Value) : Prop :=
  us.length = ds.length * sz ∧ ∀ i x, ds[i]? = some x → ∃ u, u.cells.size = sz ∧ (∀ j y, u.cells.toList[j]? = some y → us[i * sz + j]? = some y) ∧ x.rep S w u
theorem laid_set {sz : Nat} {ds : List DV} {us : List Value} {i : Nat} {x : DV} {u : Value} (h : Laid S w sz ds us) (hi : i < ds.length) (hx : x.rep S w u) (hs : u.cells.size = sz) : Laid S w sz (ds.set i x) (setsN us (i * sz) u.cells.toList) := by
  have hb : i * sz + sz ≤ us.length := by
    rw [h.1]
    have : (i + 1) * sz ≤ ds.length * sz := Nat.mul_le_mul_right _ (by omega)
    rwa [Nat.add_mul, Nat.one_mul] at this
  refine ⟨by rw [setsN_length, h.1, List.length_set], fun k y hk => ?_⟩
  by_cases hki : k = i
  · subst hki
    obtain rfl : x = y := by simpa [List.getElem?_set_self hi] using hk
    refine ⟨u, hs, fun j z hj => ?_, hx⟩
    have hjl := (List.getElem?_eq_some_iff.1 hj).1
    rw [setsN_get _ _ _ _ (by simp [hs]; exact hb), if_pos (by omega), show k * sz + j - k * sz = j by omega]
    exact hj
  · rw [List.getElem?_set_ne (by omega)] at hk
    obtain ⟨v, h1, h2, h3⟩ := h.2 k y hk
    refine ⟨v, h1, fun j z hj => ?_, h3⟩
    have hjl := (List.getElem?_eq_some_iff.1 hj).1
    simp [h1] at hjl
    rw [setsN_get _ _ _ _ (by simp [hs]; exact hb), if_neg ?_]
    · exact h2 j z hj
    · simp only [Array.length_toList, hs]
      intro hc
      rcases Nat.lt_or_gt_of_ne hki with hlt | hgt
      · have : (k + 1) * sz ≤ i * sz := Nat.mul_le_mul_right _ (by omega)
        rw [Nat.add_mul, Nat.one_mul] at this
        omega
      · have : (i + 1) * sz ≤ k * sz := Nat.mul_le_mul_right _ (by omega)
        rw [Nat.add_mul, Nat.one_mul] at this
        omega
theorem fillD_ok {L : Nat → Prop} {sz : Nat} : ∀ {parts : List (Nat × PV)} {vals : List (Nat × Value)} {ds rs : List DV} {us : List Value}, Laid S w sz ds us → parts.map (·.1) = vals.map (·.1) → prepL S L α w (parts.map (·.2)) (vals.map (·.2)) →
    fillD sz ds parts = some rs → ∃ us', Instr.fill (fun i => some (i * sz, sz)) us.toArray vals = some us'.toArray ∧ Laid S w sz rs us' ∧ rs.length = ds.length
  | [], vals, ds, rs, us, h, h1, h2, hf => by
    obtain rfl : vals = [] := by simpa using h1.symm
    obtain rfl : ds = rs := by simpa [fillD] using hf
    exact ⟨us, rfl, h, rfl⟩
  | (i, p) :: parts, vals, ds, rs, us, h, h1, h2, hf => by
    cases vals with
    | nil => simp at h1
    | cons v vals =>
      obtain ⟨i', v⟩ := v
      simp only [List.map_cons, List.cons.injEq] at h1
      obtain ⟨rfl, h1⟩ := h1
      simp only [List.map_cons, prepL] at h2
      obtain ⟨u, us2, he, h2a, h2b⟩ := h2
      simp only [List.cons.injEq] at he
      obtain ⟨rfl, rfl⟩ := he
      simp only [fillD] at hf
      split at hf
      · rename_i x hdp
        split at hf
        · rename_i hc
          have hx := deep_rep hdp h2a
          have hs : v.cells.size = sz := (cells_length hx).trans hc.2
          have hb : i * sz + sz ≤ us.length := by
            rw [h.1]
            have : (i + 1) * sz ≤ ds.length * sz := Nat.mul_le_mul_right _ (by omega)
            rwa [Nat.add_mul, Nat.one_mul] at this
          simp only [Instr.fill]
          have e2 : ¬ ((decide (v.cells.size ≠ sz) || decide (i * sz + v.cells.size > us.toArray.size)) = true) := by simp; omega
          rw [if_neg e2]
          have := foldl_sets v.cells.toList (i * sz) 0 us
          simp only [Nat.add_zero] at this
          have e3 : Array.foldl (fun (cs : Array Value) (x : Value × Nat) => match x with | (c, j) => cs.setIfInBounds (i * sz + j) c) us.toArray v.cells.zipIdx = (setsN us (i * sz) v.cells.toList).toArray := by
            rw [← this, ← Array.foldl_toList]
            simp only [Array.toList_zipIdx]
          rw [e3]
          rw [setN_eq] at hf
          obtain ⟨us', k1, k2, k3⟩ := fillD_ok (laid_set h hc.1 hx hs) h1 h2b hf
          exact ⟨us', k1, k2, by rw [k3, List.length_set]⟩
        · cases hf
      · cases hf
theorem repN_eq {β : Type} : ∀ (n : Nat) (x : β), repN n x = List.replicate n x
  | 0, _ => rfl
  | n + 1, x => by simp [repN, repN_eq n x, List.replicate_succ]

theorem buildSliceQ_ok (hr : RelS S α σ w) (hd : ¬ live σ nid) {t : TypeId} {len : Nat} {parts : List (Nat × PV)} {vals : Array (Nat × Value)} (h1 : parts.map (·.1) = vals.toList.map (·.1)) (h2 : prepL S (live σ) α w (parts.map (·.2)) (vals.toList.map (·.2)))
    (h : buildSliceQ P t len nid parts = .ok C v nb) : QOk P S α σ w nid (Instr.buildSlice t len vals) v nb := by
  unfold buildSliceQ at h
  split at h
  · rename_i e ht
    split at h
    · rename_i z hz
      split at h
      · rename_i hck
        split at h
        · rename_i ds hf
          simp only [QR.ok.injEq] at h
          obtain ⟨_, rfl, rfl⟩ := h
          have hu := slice_desc ht
          obtain ⟨i, zv, hi, hzv, hzd⟩ := zero_info hz
          obtain ⟨ti, ud, hti, _, htye⟩ := ty_some (P := P) (t := e) (.inl (by omega))
          obtain rfl : ti = i := by rw [hti] at hi; exact Option.some.inj hi
          rw [htye] at hck hf ⊢
          dsimp only at hck hf ⊢
          have hzr : z.rep S w zv := constD_rep hzd
          have hzl : zv.cells.size = ti.size := (cells_length hzr).trans hck.1
          have hl0 : Laid S w ti.size (repN len z) ((Array.range (len * ti.size)).map (zv.cells[· % zv.cells.size]!)).toList := by
            rw [repN_eq]
            refine ⟨by simp, fun k x hk => ?_⟩
            have hkl : k < len := by simpa using (List.getElem?_eq_some_iff.1 hk).1
            obtain rfl : z = x := by simpa [hkl] using hk
            exact ⟨zv, hzl, repeat_cells hzl (by omega) k hkl, hzr⟩
          obtain ⟨us, k1, k2, k3⟩ := fillD_ok hl0 h1 h2 hf
          rw [Array.toArray_toList] at k1
          have hpos : ¬ len * ti.size = 0 := by
            intro h0
            rcases Nat.mul_eq_zero.1 h0 with h0 | h0 <;> omega
          have run := run_buildSlice (P := P) w t e len vals us.toArray ti zv hu hti hzv (by omega) hpos k1
          have hlen : ds.length = len := by rw [k3, repN_eq, List.length_replicate]
          refine QOk.new hr hd (l := ⟨w.heap.size, 0, ti.size, false⟩) run rfl ?_ ?_
          · refine ⟨rfl, .inr ⟨rfl, us, (0, 0), heap_new _ _, thaw0 _, ?_, fun i hi => ?_⟩⟩
            · rw [k2.1, hlen]; simp
            · obtain ⟨u, m1, m2, m3⟩ := k2.2 i ds[i] (List.getElem?_eq_getElem (by omega))
              refine ⟨u, m1, fun j y hj => ?_, ?_⟩
              · rw [World.cell?_alloc_new]
                simpa using m2 j y hj
              · have hb : Below w.heap.size w (w.alloc (.cells us.toArray e)) := (Below.refl _ _).alloc (Nat.le_refl _) _
                show DV.rep _ _ (ds.getD i z) u
                rw [List.getD_eq_getElem?_getD, List.getElem?_eq_getElem (by omega), Option.getD_some]
                exact DV.rep_mono (fun _ x => x) (hr.keeps hb) _ _ m3
          · simp only [PV.rep]
            rw [upd_same]
            refine ⟨live_upd rfl, .inr ⟨rfl, 0, len, rfl, Nat.le_refl _, by have := Nat.le_mul_of_pos_right len hck.2.1; unfold fits; omega, fun _ => by simp, e, len * ti.size, ?_, by simp⟩⟩
            simp only [World.shape?, heap_new]
            simp [k2.1, hlen]
        · cases h
      · cases h
    · cases h
  · cases h
end
end Go.Ev

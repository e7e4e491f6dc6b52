/- A part of the walk over a program with slices and structs as plain values: the step of each operation, proved against the given semantics once for all programs. Conditions: none but those that each theorem names. -/
import Derived.Test.YtnhpgmmhfgdmjaaGreatEvE
set_option linter.unusedVariables false
set_option linter.unusedSimpArgs false
namespace Go.Ev
open Go.RowKit

section
variable {P : Program} {S : Nat → Prop} {α : Nat → Loc} {σ : Sto} {w : World} {nid : Nat} {s : Store} {lim : Nat} {C : Prop} {v : PV} {nb : Option Blk}

theorem td_desc {t : TypeId} (h : (tyOf P t).td ≠ .bad) : ∃ i u, P.info? t = some i ∧ P.underlying t = some u ∧ tyOf P t = ⟨tdOf u, i.size, i.bytes⟩ := ty_some (.inr h)
theorem nth_get {β : Type} : ∀ {l : List β} {i : Nat} {x : β}, nth l i = some x → l[i]? = some x
  | [], _, _, h => by simp [nth] at h
  | y :: l, i, x, h => by
    simp only [nth] at h
    split at h
    · rename_i h0
      subst h0
      simpa using h
    · obtain ⟨k, rfl⟩ : ∃ k, i = k + 1 := ⟨i - 1, by omega⟩
      simpa using nth_get h
theorem struct_desc {t : TypeId} {fs : List (Nat × TypeId)} (h : (tyOf P t).td = .struct fs) : ∃ fields, P.underlying t = some (.struct fields) ∧ fs = fields.toList.map fun f => (f.offset, f.type) := by
  obtain ⟨i, u, _, hu, ht⟩ := td_desc (P := P) (t := t) (by rw [h]; simp)
  rw [ht] at h
  cases u <;> simp only [tdOf, reduceCtorEq] at h
  · rename_i fields
    exact ⟨fields, hu, (TD.struct.inj h).symm⟩
theorem slice_desc {t e : TypeId} (h : (tyOf P t).td = .slice e) : P.underlying t = some (.slice e) := by
  obtain ⟨i, u, _, hu, ht⟩ := td_desc (P := P) (t := t) (by rw [h]; simp)
  rw [ht] at h
  cases u <;> simp only [tdOf, reduceCtorEq] at h
  obtain rfl := TD.slice.inj h
  exact hu
theorem array_desc {t e : TypeId} {n : Nat} (h : (tyOf P t).td = .array n e) : P.underlying t = some (.array n e) := by
  obtain ⟨i, u, _, hu, ht⟩ := td_desc (P := P) (t := t) (by rw [h]; simp)
  rw [ht] at h
  cases u <;> simp only [tdOf, reduceCtorEq] at h
  obtain ⟨rfl, rfl⟩ := TD.array.inj h
  exact hu
theorem str_desc {t : TypeId} (h : (tyOf P t).td = .str) : P.underlying t = some .string := by
  obtain ⟨i, u, _, hu, ht⟩ := td_desc (P := P) (t := t) (by rw [h]; simp)
  rw [ht] at h
  cases u <;> simp only [tdOf, reduceCtorEq] at h
  exact hu
theorem int_desc {t : TypeId} {k : IntKind} (h : (tyOf P t).td = .int k) : P.underlying t = some (.int k) := by
  obtain ⟨i, u, _, hu, ht⟩ := td_desc (P := P) (t := t) (by rw [h]; simp)
  rw [ht] at h
  cases u <;> simp only [tdOf, reduceCtorEq] at h
  obtain rfl := TD.int.inj h
  exact hu

theorem fieldAddr_ok (hr : RelS S α σ w) {st : TypeId} {i : Nat} {x : PV} {u : Value} (hx : x.rep S (live σ) α w u) (h : fieldAddrQ P st i x = .ok C v nb) : QOk P S α σ w nid (Instr.fieldAt st u i) v nb := by
  unfold fieldAddrQ at h
  split at h
  · rename_i fs hfs
    obtain ⟨fields, hu, rfl⟩ := struct_desc hfs
    split at h
    · rename_i o ft hn
      have hf := nth_get hn
      rw [List.getElem?_map] at hf
      obtain ⟨fd, hfd, hfe⟩ := Option.map_eq_some_iff.1 hf
      simp only [Prod.mk.injEq] at hfe
      obtain ⟨rfl, rfl⟩ := hfe
      have hfd' : fields[i]? = some fd := by simpa using hfd
      split at h
      · cases h
      · rename_i h0
        obtain ⟨ti, ud, hti, _, hty⟩ := ty_some (P := P) (t := fd.type) (.inl h0)
        rw [hty] at h0
        dsimp only at h0
        have run : ∀ b off, (Instr.fieldAt st (.pointer (some ⟨b, off, none⟩)) i).run P w = .ok (.pointer (some ⟨b, off + fd.offset, none⟩)) w := by
          intro b off
          simp [Instr.fieldAt, run_underlying hu, hfd', Instr.sureAddr, fieldPlace, run_sizeOf' hti, h0, Addr.add_lit]
        split at h
        · simp only [QR.ok.injEq] at h
          obtain ⟨_, rfl, rfl⟩ := h
          simp only [PV.rep] at hx
          obtain ⟨hl, hn, rfl⟩ := hx
          exact QOk.pure hr (run _ _) (by simp only [PV.rep]; exact ⟨hl, hn, trivial⟩)
        · simp only [QR.ok.injEq] at h
          obtain ⟨_, rfl, rfl⟩ := h
          simp only [PV.rep] at hx
          obtain ⟨hl, hn, rfl⟩ := hx
          exact QOk.pure hr (run _ _) (by simp only [PV.rep]; refine ⟨hl, hn, ?_⟩; rw [Nat.add_assoc])
        · split at h
          · rename_i us hd
            simp only [QR.ok.injEq] at h
            obtain ⟨_, rfl, rfl⟩ := h
            simp only [PV.rep] at hx
            obtain ⟨b, off, vs, rfl, hb, hc, hp⟩ := hx
            obtain ⟨k1, k2⟩ := repL_drop hp hd
            refine QOk.pure hr (run _ _) ?_
            simp only [PV.rep]
            refine ⟨b, _, _, rfl, hb, ?_, k1⟩
            have := cellsAt_sub (n := fd.offset) (m := vs.length) hc
            rwa [List.take_of_length_le (by simp)] at this
          · cases h
        · cases h
    · cases h
  · cases h

theorem run_part' {t : TypeId} {ti : TypeInfo} {ud : TypeDesc} (hi : P.info? t = some ti) (hu : P.underlying t = some ud) (h0 : ti.size ≠ 0) {us : List Value} {o : Nat} (hl : o + ti.size ≤ us.length) :
    ∃ v, (part t us.toArray o).run P w = .ok v w ∧ (((tdOf ud).isAgg = true ∧ v = .agg ((us.drop o).take ti.size).toArray) ∨ ((tdOf ud).isAgg = false ∧ ∃ us', (us.drop o).take ti.size = v :: us')) := by
  simp only [part, Sem.run_bind, run_isAgg' hu, Result.andThen_ok]
  cases hag : (tdOf ud).isAgg with
  | true =>
    refine ⟨_, ?_, .inl ⟨rfl, rfl⟩⟩
    simp only [if_true, Sem.run_bind, run_sizeOf' hi, Result.andThen_ok, Sem.run_pure]
    congr 2
    simp [List.extract_eq_take_drop]
  | false =>
    have hlt : o < us.length := by omega
    refine ⟨us[o], by simp [hlt], .inr ⟨rfl, ?_⟩⟩
    obtain ⟨m, hm⟩ : ∃ m, ti.size = m + 1 := ⟨ti.size - 1, by omega⟩
    rw [hm, List.drop_eq_getElem_cons hlt]
    exact ⟨_, rfl⟩

theorem field_ok (hr : RelS S α σ w) {st : TypeId} {i : Nat} {x : PV} {u : Value} (hx : x.rep S (live σ) α w u) (h : fieldQ P st i x = .ok C v nb) : QOk P S α σ w nid (Instr.field st u i) v nb := by
  unfold fieldQ at h
  split at h
  · rename_i fs hfs
    obtain ⟨fields, hu, rfl⟩ := struct_desc hfs
    split at h
    · rename_i o ft hn
      have hf := nth_get hn
      rw [List.getElem?_map] at hf
      obtain ⟨fd, hfd, hfe⟩ := Option.map_eq_some_iff.1 hf
      simp only [Prod.mk.injEq] at hfe
      obtain ⟨rfl, rfl⟩ := hfe
      have hfd' : fields[i]? = some fd := by simpa using hfd
      split at h
      · split at h
        · rename_i us hs
          split at h
          · cases h
          · rename_i h0
            simp only [QR.ok.injEq] at h
            obtain ⟨_, rfl, rfl⟩ := h
            simp only [PV.rep] at hx
            obtain ⟨vs, rfl, ho, hp⟩ := hx
            obtain ⟨ti, ud, hti, hud, hty⟩ := ty_some (P := P) (t := fd.type) (.inl h0)
            rw [hty] at h0 hs ⊢
            dsimp only at h0 hs ⊢
            obtain ⟨k1, k2⟩ := prepL_sub hp hs
            obtain ⟨v, hv, hv'⟩ := run_part' (P := P) (w := w) hti hud h0 k2
            exact QOk.pure hr (u := v) (by simp [Instr.field, run_underlying hu, hfd', asAgg, hv]) (onePV_rep k1 (fun u hu => ho u (List.mem_of_mem_drop (List.mem_of_mem_take hu))) hv')
        · cases h
      · split at h
        · rename_i us hs
          split at h
          · cases h
          · rename_i h0
            simp only [QR.ok.injEq] at h
            obtain ⟨_, rfl, rfl⟩ := h
            simp only [PV.rep, DV.rep] at hx
            obtain ⟨vs, rfl, hp⟩ := hx
            obtain ⟨ti, ud, hti, hud, hty⟩ := ty_some (P := P) (t := fd.type) (.inl h0)
            rw [hty] at h0 hs ⊢
            dsimp only at h0 hs ⊢
            obtain ⟨k1, k2⟩ := repL_sub hp hs
            obtain ⟨v, hv, hv'⟩ := run_part' (P := P) (w := w) hti hud h0 k2
            exact QOk.pure hr (u := v) (by simp [Instr.field, run_underlying hu, hfd', asAgg, hv]) (by simp only [PV.rep]; exact oneD_rep k1 hv')
        · cases h
      · cases h
    · cases h
  · cases h

theorem wrap_in {k : IntKind} {n : Int} (h : inKind k n) : k.wrap n = n := by
  unfold inKind at h
  cases k <;> simp [IntKind.min, IntKind.max, IntKind.signed, IntKind.bits] at h <;> simp [IntKind.wrap, IntKind.signed, IntKind.bits] <;> omega
theorem blkSize_ok (hr : RelS S α σ w) (hlim : ∀ id B, id < lim → nth s id = some B → σ id = B) {id : Nat} (h : blkSize s lim id ≠ 0) : (α id).sz = blkSize s lim id := by
  unfold blkSize at h ⊢
  split at h
  · rename_i hlt
    rw [if_pos hlt]
    split at h
    · rename_i hn
      exact (arr_of hr (hlim id _ hlt hn)).1
    · exact absurd rfl h
  · exact absurd rfl h
theorem asInt_of {k : IntKind} {n : Int} : (asIntOf (.int k n)).run P w = .ok (k, n) w := rfl

theorem indexAddr_ok (hr : RelS S α σ w) (hlim : ∀ id B, id < lim → nth s id = some B → σ id = B) {t : TypeId} {x y : PV} {u r : Value} (hx : x.rep S (live σ) α w u) (hy : y.rep S (live σ) α w r) (h : indexAddrQ P t s lim x y = .ok C v nb) (hC : C) :
    QOk P S α σ w nid (Instr.indexAt t u r) v nb := by
  unfold indexAddrQ at h
  split at h
  · rename_i e sz n f k kn hty
    split at h
    · rename_i hsz
      obtain ⟨hsz, hz⟩ := hsz
      simp only [QR.ok.injEq] at h
      obtain ⟨rfl, rfl, rfl⟩ := h
      obtain ⟨h0, h1⟩ := hC
      simp only [PV.rep, DV.rep] at hx hy
      subst hy
      obtain ⟨a, cap, rfl, hcap, _, hel⟩ := hx
      have hu := slice_desc hty
      obtain ⟨b, off, rfl, hb, hel⟩ := hel (by omega)
      obtain ⟨q, hq, hc, hrep⟩ := hel kn.toNat (by omega)
      obtain ⟨ti, ud, hti, _, htye⟩ := ty_some (P := P) (t := e) (.inl (by rw [← hsz]; exact hz))
      rw [htye] at hsz
      dsimp only at hsz
      refine QOk.pure hr (u := .pointer (some ⟨b, off + kn.toNat * sz, none⟩)) ?_ ?_
      · simp [Instr.indexAt, asInt_of, run_underlying hu, h0, h1, run_sizeOf' hti, Addr.add_lit, hsz]
      · simp only [PV.rep]
        exact ⟨b, _, _, rfl, hb, hc, DV.cells_rep hrep⟩
    · cases h
  · rename_i e id off len k kn hty
    split at h
    · rename_i hsz
      obtain ⟨hsz, hz⟩ := hsz
      simp only [QR.ok.injEq] at h
      obtain ⟨rfl, rfl, rfl⟩ := h
      obtain ⟨h0, h1⟩ := hC
      have hy' := hy
      simp only [PV.rep, DV.rep] at hx hy
      subst hy
      obtain ⟨hl, ⟨_, _, h00, _⟩ | ⟨hnn, x, cap, rfl, hcap, _, hx, _⟩⟩ := hx
      · omega
      have hx := hx (by omega)
      have hu := slice_desc hty
      have hal := blkSize_ok hr hlim (by rw [hsz]; exact hz)
      obtain ⟨ti, ud, hti, _, htye⟩ := ty_some (P := P) (t := e) (.inl hz)
      rw [hsz] at hal
      rw [htye] at hal
      dsimp only at hal
      refine QOk.pure hr (u := .pointer (some ⟨(α id).b, x + kn.toNat * ti.size, none⟩)) ?_ ?_
      · simp [Instr.indexAt, asInt_of, run_underlying hu, h0, h1, run_sizeOf' hti, Addr.add_lit]
      · simp only [PV.rep]
        refine ⟨hl, hnn, ?_⟩
        rw [hx, hal, Nat.add_mul, Nat.add_zero, Nat.add_assoc]
    · cases h
  · rename_i n e id off k kn hty
    split at h
    · rename_i hz
      simp only [QR.ok.injEq] at h
      obtain ⟨rfl, rfl, rfl⟩ := h
      obtain ⟨h0, h1⟩ := hC
      simp only [PV.rep, DV.rep] at hx hy
      subst hy
      obtain ⟨hl, hnn, rfl⟩ := hx
      have hu := array_desc hty
      obtain ⟨ti, ud, hti, _, htye⟩ := ty_some (P := P) (t := e) (.inl hz)
      refine QOk.pure hr (u := .pointer (some ⟨(α id).b, off + kn.toNat * ti.size, none⟩)) ?_ ?_
      · simp [Instr.indexAt, asInt_of, run_underlying hu, h0, h1, run_sizeOf' hti, Addr.add_lit, Instr.sureAddr]
      · simp only [PV.rep]
        exact ⟨hl, hnn, by rw [htye]⟩
    · cases h
  · cases h

theorem ifaceQ_ok (hr : RelS S α σ w) {t : TypeId} {x : PV} {u : Value} (hx : x.rep S (live σ) α w u) (h : ifaceQ P t x = .ok C v nb) : QOk P S α σ w nid (Instr.makeInterface t u) v nb := by
  unfold ifaceQ at h
  have run : ((tyOf P t).td ≠ .bad) → (∀ b, (tyOf P t).td ≠ .iface b) → (Instr.makeInterface t u).run P w = .ok (.iface t u) w := by
    intro h1 h2
    obtain ⟨i, ud, _, hu, hty⟩ := td_desc h1
    simp only [Instr.makeInterface, Sem.run_bind, run_underlying hu, Result.andThen_ok]
    split
    · rename_i ms
      exact absurd (by rw [hty]; rfl) (h2 ms.isEmpty)
    · rfl
  split at h
  · cases h
  · cases h
  · rename_i h1 h2
    have run := run (fun e => h2 e) (fun b e => h1 b e)
    split at h
    · simp only [QR.ok.injEq] at h
      obtain ⟨_, rfl, rfl⟩ := h
      simp only [PV.rep] at hx
      exact QOk.pure hr run (by simp only [PV.rep, DV.rep]; exact ⟨u, rfl, hx⟩)
    · cases h
    · cases h
    · cases h
    · simp only [QR.ok.injEq] at h
      obtain ⟨_, rfl, rfl⟩ := h
      exact QOk.pure hr run (by simp only [PV.rep]; exact ⟨u, rfl, hx⟩)

theorem extract_ok (hr : RelS S α σ w) {i : Nat} {x : PV} {u : Value} (hx : x.rep S (live σ) α w u) (h : extractQ x i = .ok C v nb) : QOk P S α σ w nid (Instr.extract u i) v nb := by
  unfold extractQ at h
  split at h
  · split at h
    · rename_i vs q hq
      simp only [QR.ok.injEq] at h
      obtain ⟨_, rfl, rfl⟩ := h
      simp only [PV.rep] at hx
      obtain ⟨us, rfl, hp⟩ := hx
      obtain ⟨y, hy, hrep⟩ := prepL_nth hp hq
      exact QOk.pure hr (u := y) (by simp [Instr.extract, hy]) hrep
    · cases h
  · cases h

theorem unQ_ok (hr : RelS S α σ w) {op : UnOp} {x : PV} {u : Value} (hx : x.rep S (live σ) α w u) (h : unQ op x = .ok C v nb) (hC : C) : QOk P S α σ w nid (Op.unary op u) v nb := by
  unfold unQ at h
  split at h
  · simp only [QR.ok.injEq] at h
    obtain ⟨_, rfl, rfl⟩ := h
    simp only [PV.rep, DV.rep] at hx
    subst hx
    exact QOk.pure hr rfl (by simp only [PV.rep, DV.rep])
  · rename_i k n
    simp only [QR.ok.injEq] at h
    obtain ⟨rfl, rfl, rfl⟩ := h
    simp only [PV.rep, DV.rep] at hx
    subst hx
    exact QOk.pure hr rfl (by simp only [PV.rep, DV.rep, wrap_in hC])
  · cases h
end
end Go.Ev

/- A part of the walk over a program with slices and structs as plain values: the step of each operation, proved against the given semantics once for all programs. Conditions: none but those that each theorem names. -/
import Derived.Test.YtnhpgmmhfgdmjaaGreatEvF
import Derived.Laws.IdiomStrings
import Derived.Laws.BytesString
set_option linter.unusedVariables false
set_option linter.unusedSimpArgs false
namespace Go.Ev
open Go.RowKit

section
variable {P : Program} {S : Nat → Prop} {α : Nat → Loc} {σ : Sto} {w : World} {nid : Nat} {s : Store} {lim : Nat} {C : Prop} {v : PV} {nb : Option Blk}

theorem eqGuard_int {op : BinOp} {t : TypeId} {x y : Operand} {k : IntKind} {a : Int} {b : Value} : (eqGuard op t x y (.int k a) b).run P w = .ok () w := by
  cases op <;> rfl
theorem eqGuard_str {op : BinOp} {t : TypeId} {x y : Operand} {a : ByteArray} {b : Value} : (eqGuard op t x y (.string a) b).run P w = .ok () w := by
  cases op <;> rfl
theorem eqGuard_bool {op : BinOp} {t : TypeId} {x y : Operand} {a : Bool} {b : Value} : (eqGuard op t x y (.bool a) b).run P w = .ok () w := by
  cases op <;> rfl

theorem cmpI_ok {op : BinOp} {x y : Int} {c : Bool} (h : cmpI op x y = some c) : (Op.intCmp op x y).run P w = .ok (.bool c) w := by
  unfold cmpI at h
  split at h <;> first | (cases h; done) | (obtain rfl := Option.some.inj h; first | rfl | (simp [Op.intCmp]))

theorem binInt_ok (hr : RelS S α σ w) {wr : Bool} {op : BinOp} {t t' : TypeId} {x y : Operand} {k k' : IntKind} {a b : Int} (h : binQ P t wr op (.d (.int k a)) (.d (.int k' b)) = .ok C v nb) (hC : C) :
    QOk P S α σ w nid (do eqGuard op t x y (.int k a) (.int k' b); binOp op t (.int k a) (.int k' b)) v nb := by
  have run : ∀ u : Value, (binOp op t (.int k a) (.int k' b)).run P w = .ok u w → ((do eqGuard op t x y (.int k a) (.int k' b); binOp op t (.int k a) (.int k' b)) : Sem Value).run P w = .ok u w := by
    intro u hu
    simp only [Sem.run_bind, eqGuard_int, Result.andThen_ok, hu]
  have pure : ∀ {u : Value} {p : PV}, (binOp op t (.int k a) (.int k' b)).run P w = .ok u w → p.rep S (live σ) α w u → QOk P S α σ w nid (do eqGuard op t x y (.int k a) (.int k' b); binOp op t (.int k a) (.int k' b)) p none :=
    fun h1 h2 => QOk.pure hr (run _ h1) h2
  have int : ∀ {k : IntKind} {n : Int}, (PV.d (.int k n)).rep S (live σ) α w (.int k n) := by intro k n; simp only [PV.rep, DV.rep]
  have bool : ∀ {n : Bool}, (PV.d (.bool n)).rep S (live σ) α w (.bool n) := by intro n; simp only [PV.rep, DV.rep]
  unfold binQ at h
  by_cases hs : op = .shl ∨ op = .shr
  · have hb : C → ¬ b < 0 := by
      rcases hs with rfl | rfl <;> simp only [shiftI, QR.ok.injEq] at h <;> obtain ⟨rfl, _, _⟩ := h <;> intro hc <;> omega
    rcases hs with rfl | rfl <;> simp only [shiftI, QR.ok.injEq] at h <;> obtain ⟨rfl, rfl, rfl⟩ := h
    · exact pure (u := .int k (k.wrap (a * 2 ^ (min b.toNat k.bits)))) (by simp [binOp, Op.shift, hb hC]) int
    · exact pure (u := .int k (a.fdiv (2 ^ (min b.toNat k.bits)))) (by simp [binOp, Op.shift, hb hC]) int
  · have h2 : (if k = k' then (match cmpI op a b with
      | some c => QR.ok True (.d (.bool c)) none
      | none => arithI wr op k a b) else .bad) = .ok C v nb := by
      clear run pure int bool hC
      cases op <;> first | exact h | exact absurd (.inl rfl) hs | exact absurd (.inr rfl) hs
    split at h2
    · rename_i hk
      subst hk
      split at h2
      · rename_i c hc
        simp only [QR.ok.injEq] at h2
        obtain ⟨_, rfl, rfl⟩ := h2
        refine pure (u := .bool c) ?_ bool
        rw [← cmpI_ok (P := P) (w := w) hc]
        cases op <;> simp [cmpI] at hc <;> simp [binOp, Op.intCmp]
      · rename_i hc
        cases op <;> simp only [arithI, reduceCtorEq] at h2
        case add =>
          split at h2 <;> simp only [QR.ok.injEq] at h2 <;> obtain ⟨rfl, rfl, rfl⟩ := h2
          · exact pure (u := .int k (k.wrap (a + b))) (by simp [binOp, Op.intArith]) int
          · exact pure (u := .int k (k.wrap (a + b))) (by simp [binOp, Op.intArith]) (by simp only [PV.rep, DV.rep, wrap_in hC])
        case sub =>
          split at h2 <;> simp only [QR.ok.injEq] at h2 <;> obtain ⟨rfl, rfl, rfl⟩ := h2
          · exact pure (u := .int k (k.wrap (a - b))) (by simp [binOp, Op.intArith]) int
          · exact pure (u := .int k (k.wrap (a - b))) (by simp [binOp, Op.intArith]) (by simp only [PV.rep, DV.rep, wrap_in hC])
        case mul =>
          split at h2 <;> simp only [QR.ok.injEq] at h2 <;> obtain ⟨rfl, rfl, rfl⟩ := h2
          · exact pure (u := .int k (k.wrap (a * b))) (by simp [binOp, Op.intArith]) int
          · exact pure (u := .int k (k.wrap (a * b))) (by simp [binOp, Op.intArith]) (by simp only [PV.rep, DV.rep, wrap_in hC])
        case quo =>
          simp only [QR.ok.injEq] at h2
          obtain ⟨rfl, rfl, rfl⟩ := h2
          exact pure (u := .int k (a.tdiv b)) (by simp [binOp, Op.intDiv, hC.1, wrap_in hC.2]) int
        case rem =>
          simp only [QR.ok.injEq] at h2
          obtain ⟨rfl, rfl, rfl⟩ := h2
          have hC : b ≠ 0 := hC
          exact pure (u := .int k (a.tmod b)) (by simp [binOp, Op.intDiv, hC]) int
        case and => simp only [QR.ok.injEq] at h2; obtain ⟨rfl, rfl, rfl⟩ := h2; exact pure (by simp only [binOp, Op.intBits, ne_eq, not_true_eq_false, if_false]; rfl) int
        case or => simp only [QR.ok.injEq] at h2; obtain ⟨rfl, rfl, rfl⟩ := h2; exact pure (by simp only [binOp, Op.intBits, ne_eq, not_true_eq_false, if_false]; rfl) int
        case xor => simp only [QR.ok.injEq] at h2; obtain ⟨rfl, rfl, rfl⟩ := h2; exact pure (by simp only [binOp, Op.intBits, ne_eq, not_true_eq_false, if_false]; rfl) int
    · cases h2

theorem i64max : IntKind.i64.max = 9223372036854775807 := by decide

theorem binQ_ok (hr : RelS S α σ w) {wr : Bool} {op : BinOp} {t : TypeId} {ox oy : Operand} {x y : PV} {u r : Value} (hx : x.rep S (live σ) α w u) (hy : y.rep S (live σ) α w r) (h : binQ P t wr op x y = .ok C v nb) (hC : C) :
    QOk P S α σ w nid (do eqGuard op t ox oy u r; binOp op t u r) v nb := by
  have h' := h
  unfold binQ at h
  split at h
  · simp only [PV.rep, DV.rep] at hx hy
    subst hx
    subst hy
    exact binInt_ok (t' := t) hr h' hC
  · rename_i a b
    simp only [PV.rep, DV.rep] at hx hy
    obtain ⟨rfl, hfa⟩ := hx
    obtain ⟨rfl, hfb⟩ := hy
    have run : ∀ z : Value, (binOp op t (.string a) (.string b)).run P w = .ok z w → ((do eqGuard op t ox oy (.string a) (.string b); binOp op t (.string a) (.string b)) : Sem Value).run P w = .ok z w := by
      intro z hz
      simp only [Sem.run_bind, eqGuard_str, Result.andThen_ok, hz]
    unfold strQ at h
    cases op <;> simp only [QR.ok.injEq, reduceCtorEq] at h
    all_goals
      obtain ⟨rfl, rfl, rfl⟩ := h
    · have hn : ¬ (((a.size + b.size : Nat) : Int) > IntKind.i64.max) := by rw [i64max]; have := hC; omega
      refine QOk.pure hr (run (.string (a ++ b)) ?_) (by simp only [PV.rep, DV.rep]; exact ⟨trivial, by rw [ByteArray.size_append]; exact hC⟩)
      simp only [binOp, Op.stringOp]
      rw [if_neg hn]
      rfl
    all_goals exact QOk.pure hr (run _ (by simp only [binOp, Op.stringOp]; rfl)) (by simp only [PV.rep, DV.rep]; try rfl)
  · rename_i a b
    simp only [PV.rep, DV.rep] at hx hy
    subst hx
    subst hy
    have hb : ∀ (b' : Bool), (tyOf P t).td = .bool → (Op.equal t (.bool a) (.bool b)).run P w = .ok (a == b) w := by
      intro _ htd
      obtain ⟨i, ud, _, hu, hty⟩ := td_desc (P := P) (t := t) (by rw [htd]; simp)
      rw [hty] at htd
      cases ud <;> simp only [tdOf, reduceCtorEq] at htd
      have : ∀ d, (Op.equalIn (d + 1) t (.bool a) (.bool b)).run P w = .ok (a == b) w := fun d => by simp [Op.equalIn, run_underlying hu]
      exact this 9999
    cases op <;> simp only [reduceCtorEq] at h
    all_goals
      split at h
      · rename_i htd
        simp only [QR.ok.injEq] at h
        obtain ⟨_, rfl, rfl⟩ := h
        refine QOk.pure hr (u := .bool _) ?_ (by simp only [PV.rep, DV.rep]; rfl)
        simp only [Sem.run_bind, eqGuard_bool, Result.andThen_ok, binOp, hb true htd, Sem.run_pure]
      · cases h
  · cases h

theorem lenQ_ok (hr : RelS S α σ w) {t ty : TypeId} {x : PV} {u : Value} (hx : x.rep S (live σ) α w u) (h : lenQ P t x = .ok C v nb) : QOk P S α σ w nid (Builtin.len_ #[t] ty #[u]) v nb := by
  unfold lenQ at h
  split at h
  · rename_i h1
    simp only [QR.ok.injEq] at h
    obtain ⟨_, rfl, rfl⟩ := h
    simp only [PV.rep, DV.rep] at hx
    obtain ⟨a, cap, rfl, _⟩ := hx
    exact QOk.pure hr (by simp [Builtin.len_, run_underlying (slice_desc h1), goInt]; rfl) (by simp only [PV.rep, DV.rep])
  · rename_i h1
    simp only [QR.ok.injEq] at h
    obtain ⟨_, rfl, rfl⟩ := h
    simp only [PV.rep, DV.rep] at hx
    subst hx
    exact QOk.pure hr (by simp [Builtin.len_, run_underlying (slice_desc h1), goInt]; rfl) (by simp only [PV.rep, DV.rep])
  · rename_i h1
    simp only [QR.ok.injEq] at h
    obtain ⟨_, rfl, rfl⟩ := h
    simp only [PV.rep, DV.rep] at hx
    obtain ⟨rfl, _⟩ := hx
    exact QOk.pure hr (by simp [Builtin.len_, run_underlying (str_desc h1), goInt]; rfl) (by simp only [PV.rep, DV.rep])
  · rename_i h1
    simp only [QR.ok.injEq] at h
    obtain ⟨_, rfl, rfl⟩ := h
    simp only [PV.rep] at hx
    rcases hx.2 with ⟨_, _, rfl, rfl⟩ | ⟨_, x, cap, rfl, _⟩ <;>
    exact QOk.pure hr (by simp [Builtin.len_, run_underlying (slice_desc h1), goInt]; rfl) (by simp only [PV.rep, DV.rep]; try rfl)
  · cases h

theorem maxF_ok : ∀ {l : List PV} {us : List Value} {k : IntKind} {m r : Int}, prepL S (live σ) α w l us → maxF m l = some r → (us.foldlM Builtin.max2 (.int k m) : Sem Value).run P w = .ok (.int k r) w
  | [], us, k, m, r, h, hm => by
    simp only [prepL] at h
    subst h
    obtain rfl : m = r := by simpa [maxF] using hm
    rfl
  | p :: l, us, k, m, r, h, hm => by
    simp only [prepL] at h
    obtain ⟨u, us', rfl, h1, h2⟩ := h
    unfold maxF at hm
    split at hm
    · rename_i heq; cases heq
    · rename_i heq
      simp only [List.cons.injEq] at heq
      obtain ⟨rfl, rfl⟩ := heq
      simp only [PV.rep, DV.rep] at h1
      subst h1
      simp only [List.foldlM_cons, Builtin.max2, pure_bind]
      exact maxF_ok h2 hm
    · cases hm
theorem minF_ok : ∀ {l : List PV} {us : List Value} {k : IntKind} {m r : Int}, prepL S (live σ) α w l us → minF m l = some r → (us.foldlM Builtin.min2 (.int k m) : Sem Value).run P w = .ok (.int k r) w
  | [], us, k, m, r, h, hm => by
    simp only [prepL] at h
    subst h
    obtain rfl : m = r := by simpa [minF] using hm
    rfl
  | p :: l, us, k, m, r, h, hm => by
    simp only [prepL] at h
    obtain ⟨u, us', rfl, h1, h2⟩ := h
    unfold minF at hm
    split at hm
    · rename_i heq; cases heq
    · rename_i heq
      simp only [List.cons.injEq] at heq
      obtain ⟨rfl, rfl⟩ := heq
      simp only [PV.rep, DV.rep] at h1
      subst h1
      simp only [List.foldlM_cons, Builtin.min2, pure_bind]
      exact minF_ok h2 hm
    · cases hm
theorem maxQ_ok (hr : RelS S α σ w) {ts : Array TypeId} {ty : TypeId} {l : List PV} {us : List Value} (hx : prepL S (live σ) α w l us) (h : maxQ l = .ok C v nb) : QOk P S α σ w nid (Builtin.max_ ts ty us.toArray) v nb := by
  unfold maxQ at h
  split at h
  · split at h
    · rename_i hm
      simp only [QR.ok.injEq] at h
      obtain ⟨_, rfl, rfl⟩ := h
      simp only [prepL, PV.rep, DV.rep] at hx
      obtain ⟨u, us', rfl, rfl, h2⟩ := hx
      exact QOk.pure hr (by simp only [Builtin.max_]; exact maxF_ok h2 hm) (by simp only [PV.rep, DV.rep])
    · cases h
  · cases h
theorem minQ_ok (hr : RelS S α σ w) {ts : Array TypeId} {ty : TypeId} {l : List PV} {us : List Value} (hx : prepL S (live σ) α w l us) (h : minQ l = .ok C v nb) : QOk P S α σ w nid (Builtin.min_ ts ty us.toArray) v nb := by
  unfold minQ at h
  split at h
  · split at h
    · rename_i hm
      simp only [QR.ok.injEq] at h
      obtain ⟨_, rfl, rfl⟩ := h
      simp only [prepL, PV.rep, DV.rep] at hx
      obtain ⟨u, us', rfl, rfl, h2⟩ := hx
      exact QOk.pure hr (by simp only [Builtin.min_]; exact minF_ok h2 hm) (by simp only [PV.rep, DV.rep])
    · cases h
  · cases h

theorem bytesRow_size {b : ByteArray} {c : Nat} (h : b.size ≤ c) : (bytesRow b c).size = c := by
  simp only [bytesRow, Array.size_append, Array.size_map, Array.size_replicate]
  have : b.data.size = b.size := rfl
  omega
theorem bytesRow_get {b : ByteArray} {c i : Nat} (h : i < b.size) : (bytesRow b c).toList[i]? = some (.int .u8 (bget b i)) := by
  have h' : i < b.data.size := h
  simp only [bytesRow, Array.toList_append, Array.toList_map, bget, dif_pos h]
  rw [List.getElem?_append_left (by simpa using h'), List.getElem?_map, List.getElem?_eq_getElem (by simpa using h')]
  rfl
theorem strOf_run {x : Addr} {n cap : Nat} {f : Nat → DV} (hb : ∀ i, i < n → isB (f i) = true) (hc : ∀ i, i < n → ∃ u, w.cell? (x.add i) = some u ∧ (f i).rep S w u) :
    (Conv.bytesToString (.slice (some x) n cap)).run P w = .ok (.string (strOf n f)) w := by
  have hn : ∀ i, i < n → ∃ k : Int, f i = .int .u8 k := fun i hi => by
    have := hb i hi
    unfold isB at this
    split at this
    · exact ⟨_, by assumption⟩
    · cases this
  let g : Nat → Int := fun i => match f i with
    | .int _ k => k
    | _ => 0
  have hg : ∀ i, i < n → f i = .int .u8 (g i) := fun i hi => by
    obtain ⟨k, hk⟩ := hn i hi
    show f i = .int .u8 (match f i with | .int _ k => k | _ => 0)
    rw [hk]
  have hl := run_loadCells (P := P) w x n (fun j => .int .u8 (g j)) (fun j hj => by
    obtain ⟨u, h1, h2⟩ := hc j hj
    rw [hg j hj] at h2
    simp only [DV.rep] at h2
    rw [h1, h2])
  have hm : ((List.range n).map fun j => Value.int .u8 (g j)) = ((List.range n).map g).map (Value.int .u8) := by rw [List.map_map]; rfl
  rw [hm] at hl
  rw [run_bytesToString w x n cap _ hl]
  congr 2
  have hfold : ∀ (l : List Int) (r : ByteArray), l.foldl (fun r n => r.push (UInt8.ofNat n.toNat)) r = ⟨r.data ++ (l.map fun n => UInt8.ofNat n.toNat).toArray⟩ := by
    intro l
    induction l with
    | nil => intro r; simp
    | cons a l ih =>
      intro r
      rw [List.foldl_cons, ih]
      simp [ByteArray.push]
  rw [hfold, strOf]
  congr 1
  simp only [ByteArray.empty, List.map_map]
  have : (ByteArray.emptyWithCapacity 0).data = #[] := rfl
  rw [this, Array.empty_append]
  congr 1
  apply List.map_congr_left
  intro i hi
  rw [hg i (by simpa using hi)]
  rfl
theorem convStr_desc {src dst e : TypeId} {x : Value} (hs : P.underlying src = some (.slice e)) (he : P.underlying e = some (.int .u8)) (hd : P.underlying dst = some .string) {a : Option Addr} {l c : Nat} (hx : x = .slice a l c) :
    (convert src dst x).run P w = (Conv.bytesToString x).run P w := by
  subst hx
  exact run_convert_bytes_string w src dst e a l c hs he hd
theorem strOf_size {n : Nat} {f : Nat → DV} : (strOf n f).size = n := by
  show (strOf n f).data.size = n
  simp [strOf]
theorem toStrQ_ok (hr : RelS S α σ w) (hlim : ∀ id B, id < lim → nth s id = some B → σ id = B) {src dst : TypeId} {x : PV} {u : Value} (hd : P.underlying dst = some .string) {e : TypeId} (hs : P.underlying src = some (.slice e)) (he : P.underlying e = some (.int .u8))
    (hx : x.rep S (live σ) α w u) (h : toStrQ s lim x = .ok C v nb) (hC : C) : QOk P S α σ w nid (convert src dst u) v nb := by
  unfold toStrQ at h
  split at h
  · rename_i sz n f
    split at h
    · rename_i hsz
      subst hsz
      simp only [QR.ok.injEq] at h
      obtain ⟨rfl, rfl, rfl⟩ := h
      simp only [PV.rep, DV.rep] at hx
      obtain ⟨a, cap, rfl, hcap, hfn, hel⟩ := hx
      refine QOk.pure hr (u := .string (strOf n f)) ?_ (by simp only [PV.rep, DV.rep]; exact ⟨trivial, by rw [strOf_size]; exact hfn⟩)
      rw [convStr_desc hs he hd rfl]
      by_cases h0 : 0 < n
      · obtain ⟨b, off, rfl, _, hel⟩ := hel h0
        refine strOf_run (S := S) hC fun i hi => ?_
        obtain ⟨q, hq, hc, hrep⟩ := hel i hi
        have hb := hC i hi
        unfold isB at hb
        split at hb
        · rename_i k hk
          rw [hk] at hrep ⊢
          simp only [DV.rep] at hrep
          subst hrep
          refine ⟨.int .u8 k, ?_, by simp only [DV.rep]⟩
          have := hc 0 (.int .u8 k) (by simp [Value.cells])
          simpa [Addr.add_lit] using this
        · cases hb
      · have : n = 0 := by omega
        subst this
        cases a with
        | none => rfl
        | some x => exact strOf_run (S := S) hC fun i hi => absurd hi (by omega)
    · cases h
  · simp only [QR.ok.injEq] at h
    obtain ⟨rfl, rfl, rfl⟩ := h
    simp only [PV.rep, DV.rep] at hx
    subst hx
    refine QOk.pure hr (u := .string ByteArray.empty) ?_ (by simp only [PV.rep, DV.rep]; exact ⟨trivial, Nat.zero_le _⟩)
    rw [convStr_desc hs he hd rfl]
    rfl
  · rename_i id off len
    unfold strOwn blkOf at h
    split at h
    · rename_i hb
      split at hb
      · rename_i hlt
        split at h
        · rename_i el sz n f hsz
          subst hsz
          simp only [QR.ok.injEq] at h
          obtain ⟨rfl, rfl, rfl⟩ := h
          obtain ⟨hC1, hC2⟩ := hC
          simp only [PV.rep] at hx
          have hB := hr.sto id
          rw [hlim id _ hlt hb] at hB
          simp only [Blk.rep] at hB
          obtain ⟨hl, hx⟩ := hx
          rcases hx with ⟨_, _, rfl, rfl⟩ | ⟨hnn, x, cap, rfl, hcap, hfl, hxo, e', n', hsh, hn'⟩
          · refine QOk.pure hr (u := .string ByteArray.empty) ?_ (by simp only [PV.rep, DV.rep]; exact ⟨rfl, by rw [strOf_size]; exact Nat.zero_le _⟩)
            rw [convStr_desc hs he hd rfl]
            rfl
          · refine QOk.pure hr (u := .string (strOf len fun i => f (off + i))) ?_ (by simp only [PV.rep, DV.rep]; exact ⟨trivial, by rw [strOf_size]; exact hfl⟩)
            rw [convStr_desc hs he hd rfl]
            refine strOf_run (S := S) hC2 fun i hi => ?_
            rcases hB with ⟨hs1, ⟨hnone, _⟩ | ⟨_, us, fr, hblk, _, hle, hel⟩⟩
            · rw [hnone] at hnn; cases hnn
            · obtain ⟨q, hq, hc, hrep⟩ := hel (off + i) (by omega)
              have hb := hC2 i hi
              unfold isB at hb
              split at hb
              · rename_i k hk
                rw [hk] at hrep ⊢
                simp only [DV.rep] at hrep
                subst hrep
                refine ⟨.int .u8 k, ?_, by simp only [DV.rep]⟩
                have := hc 0 (.int .u8 k) (by simp [Value.cells])
                have hxo := hxo (by omega)
                rw [hs1] at hxo
                simp only [Nat.mul_one, Nat.add_zero] at this hxo
                rw [Addr.add_lit, hxo]
                rw [show (α id).o + off + i = (α id).o + (off + i) by omega]
                exact this
              · cases hb
        · cases h
      · cases hb
    · cases h
  · cases h
theorem convQ_ok (hr : RelS S α σ w) (hlim : ∀ id B, id < lim → nth s id = some B → σ id = B) (hd : ¬ live σ nid) {src dst : TypeId} {x : PV} {u : Value} (hx : x.rep S (live σ) α w u) (h : convQ P src dst s lim nid x = .ok C v nb) (hC : C) : QOk P S α σ w nid (convert src dst u) v nb := by
  unfold convQ at h
  split at h
  · rename_i h1
    obtain ⟨h1, h2⟩ := h1
    unfold isBytes at h2
    split at h2
    · rename_i e hs
      exact toStrQ_ok hr hlim (str_desc h1) (slice_desc hs) (int_desc (by simpa using h2)) hx h hC
    · cases h2
  split at h
  · rename_i e b h1
    split at h
    · rename_i h2
      simp only [QR.ok.injEq] at h
      obtain ⟨_, rfl, rfl⟩ := h
      simp only [PV.rep, DV.rep] at hx
      obtain ⟨rfl, hfs⟩ := hx
      have hge := grownCap_ge w b.size 0 e
      have run := run_bytes_of_string (P := P) w src dst e b (str_desc h2.1) (slice_desc h1) (int_desc h2.2)
      have hnew : (w.drew.alloc (.cells (bytesRow b (grownCap w b.size 0 e)) e ((bytesRow b (grownCap w b.size 0 e)).size, (bytesRow b (grownCap w b.size 0 e)).size + 1))).heap[w.heap.size]? = some (.cells (bytesRow b (grownCap w b.size 0 e)) e ((bytesRow b (grownCap w b.size 0 e)).size, (bytesRow b (grownCap w b.size 0 e)).size + 1)) := heap_new w.drew _
      have hth : thaw ((bytesRow b (grownCap w b.size 0 e)).size, (bytesRow b (grownCap w b.size 0 e)).size + 1) (bytesRow b (grownCap w b.size 0 e)).toList.length := fun j hj hk => by
        simp at hj
        simp at hk
        omega
      refine QOk.drew hr hd (l := ⟨w.heap.size, 0, 1, false⟩) run rfl ?_ ?_
      · refine ⟨rfl, .inr ⟨rfl, (bytesRow b (grownCap w b.size 0 e)).toList, _, by rw [Array.toArray_toList]; exact hnew, hth, ?_, fun i hi => ⟨.int .u8 (bget b i), rfl, fun j x hj => ?_, by simp only [DV.rep]⟩⟩⟩
        · simp only [Array.length_toList, bytesRow_size hge]
          omega
        · have hjl := (List.getElem?_eq_some_iff.1 hj).1
          simp [Value.cells] at hjl
          subst hjl
          simp [Value.cells] at hj
          subst hj
          have hc := cells_of_block (us := (bytesRow b (grownCap w b.size 0 e)).toList) (by rw [Array.toArray_toList]; exact hnew) 0 (bytesRow b (grownCap w b.size 0 e)).toList.length
          have := hc i (.int .u8 (bget b i)) (by
            rw [List.drop_zero, List.take_of_length_le (Nat.le_refl _)]
            exact bytesRow_get hi)
          simpa using this
      · simp only [PV.rep]
        rw [upd_same]
        refine ⟨live_upd rfl, .inr ⟨rfl, 0, _, rfl, hge, hfs, fun _ => by simp, e, _, ?_, rfl⟩⟩
        simp only [World.shape?]
        rw [hnew]
        simp only [bytesRow_size hge]
        congr 2
        omega
    · cases h
  · rename_i k ks n h1
    split at h
    · rename_i h2
      simp only [QR.ok.injEq] at h
      obtain ⟨_, rfl, rfl⟩ := h
      simp only [PV.rep, DV.rep] at hx
      subst hx
      obtain ⟨i, us, _, hs, _⟩ := td_desc h2
      exact QOk.pure hr (u := .int k (k.wrap n)) (by simp [convert, run_underlying hs, run_underlying (int_desc h1), Conv.intToInt]) (by simp only [PV.rep, DV.rep])
    · cases h
  · rename_i s h1
    split at h
    · rename_i h2
      simp only [QR.ok.injEq] at h
      obtain ⟨_, rfl, rfl⟩ := h
      simp only [PV.rep, DV.rep] at hx
      obtain ⟨rfl, hfs⟩ := hx
      exact QOk.pure hr (u := .string s) (by simp [convert, run_underlying (str_desc h2), run_underlying (str_desc h1)]) (by simp only [PV.rep, DV.rep]; exact ⟨trivial, hfs⟩)
    · cases h
  · cases h

theorem nilCheckQ_ok (hr : RelS S α σ w) {x : PV} {u : Value} {a : Act} {y : Operand} {o : Oper} (ho : o.op = .nilCheck y) (he : a.eval y = u) (hx : x.rep S (live σ) α w u) (h : nilCheckQ x = .ok C v nb) :
    nb = none ∧ (execOp a.eval o).run P w = .ok (.value u) w ∧ v.rep S (live σ) α w u := by
  unfold nilCheckQ at h
  split at h
  all_goals first | (cases h; done) | skip
  all_goals
    have hx' := hx
    simp only [QR.ok.injEq] at h
    obtain ⟨_, rfl, rfl⟩ := h
    simp only [PV.rep] at hx
  · obtain ⟨_, _, rfl⟩ := hx
    exact ⟨rfl, by simp [execOp, ho, he], hx'⟩
  · obtain ⟨_, _, rfl⟩ := hx
    exact ⟨rfl, by simp [execOp, ho, he], hx'⟩
  · obtain ⟨_, _, _, rfl, _⟩ := hx
    exact ⟨rfl, by simp [execOp, ho, he], hx'⟩
  · obtain ⟨_, _, rfl, _⟩ := hx
    exact ⟨rfl, by simp [execOp, ho, he], hx'⟩
end
end Go.Ev

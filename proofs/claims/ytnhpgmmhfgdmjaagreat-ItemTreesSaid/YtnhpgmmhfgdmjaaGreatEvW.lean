/- An argument's reading, as a value. -/
import Derived.Test.YtnhpgmmhfgdmjaaGreatEvP
import Derived.Deep.Slices
import Derived.ChangeArms
set_option linter.unusedVariables false
set_option linter.unusedSimpArgs false
namespace Go.Ev
open Go.RowKit

def HasF (R : TypeId → List DV → Prop) : List (Nat × TypeId) → List DV → Prop
  | [], ds => ds = []
  | (_, t) :: fs, ds => ∃ a b, ds = a ++ b ∧ R t a ∧ HasF R fs b
def HasT (P : Program) (R : TypeId → List DV → Prop) : TD → List DV → Prop
  | .int k, ds => ∃ i, ds = [.int k i] ∧ k.min ≤ i ∧ i ≤ k.max
  | .bool, ds => ∃ b, ds = [.bool b]
  | .str, ds => ∃ b, ds = [.str b] ∧ fits b.size
  | .slice e, ds => ∃ m f, ds = [.list (tyOf P e).size m f] ∧ fits m ∧ ∀ i, ∃ es, R e es ∧ f i = oneD (tyOf P e).td.isAgg es
  | .struct fs, ds => HasF R fs ds
  | _, _ => False
/-- The cells are those of a value of the type. -/
def HasC (P : Program) : Nat → TypeId → List DV → Prop
  | 0, _, _ => False
  | n + 1, t, ds => HasT P (HasC P n) (tyOf P t).td ds
def tiled (P : Program) : Nat → List (Nat × TypeId) → Option Nat
  | off, [] => some off
  | off, (o, t) :: fs => if o = off then tiled P (off + (tyOf P t).size) fs else none
def readT (P : Program) (R : TypeId → Bool) (sz : Nat) : TD → Bool
  | .int _ | .bool | .str => sz == 1
  | .slice e => sz == 1 && (tyOf P e).size != 0 && R e && ((tyOf P e).td.isAgg || (tyOf P e).size == 1)
  | .struct fs => (tiled P 0 fs == some sz) && fs.all fun x => R x.2
  | _ => false
def readable (P : Program) : Nat → TypeId → Bool
  | 0, _ => false
  | n + 1, t => readT P (readable P n) (tyOf P t).size (tyOf P t).td

theorem inh {P : Program} : ∀ {n : Nat} {t : TypeId}, readable P n t = true → ∃ ds, HasC P n t ds
  | 0, t, h => by cases h
  | n + 1, t, h => by
    simp only [readable] at h
    simp only [HasC]
    cases htd : (tyOf P t).td with
    | int k => exact ⟨[.int k 0], 0, rfl, by cases k <;> decide, by cases k <;> decide⟩
    | bool => exact ⟨[.bool false], false, rfl⟩
    | str => exact ⟨[.str ⟨#[]⟩], _, rfl, by unfold fits; exact Nat.zero_le _⟩
    | slice e =>
      rw [htd] at h
      simp only [readT, Bool.and_eq_true] at h
      obtain ⟨es, he⟩ := inh h.1.2
      exact ⟨_, 0, fun _ => oneD (tyOf P e).td.isAgg es, rfl, by unfold fits; exact Nat.zero_le _, fun i => ⟨es, he, rfl⟩⟩
    | struct fs =>
      rw [htd] at h
      simp only [readT, Bool.and_eq_true] at h
      have key : ∀ fs : List (Nat × TypeId), (fs.all fun x => readable P n x.2) = true → ∃ ds, HasF (HasC P n) fs ds := by
        intro fs
        induction fs with
        | nil => intro _; exact ⟨[], rfl⟩
        | cons x fs ih =>
          intro hx
          simp only [List.all_cons, Bool.and_eq_true] at hx
          obtain ⟨a, ha⟩ := inh hx.1
          obtain ⟨b, hb⟩ := ih hx.2
          exact ⟨a ++ b, a, b, rfl, ha, hb⟩
      exact key fs h.2
    | _ => rw [htd] at h; cases h

theorem repL_append {S : Nat → Prop} {w : World} : ∀ {a b : List DV} {us vs : List Value}, repL S w a us → repL S w b vs → repL S w (a ++ b) (us ++ vs)
  | [], b, us, vs, h1, h2 => by simp only [repL] at h1; subst h1; exact h2
  | x :: a, b, us, vs, h1, h2 => by
    simp only [repL] at h1
    obtain ⟨u, us', rfl, k1, k2, k3⟩ := h1
    simp only [List.cons_append, repL]
    exact ⟨u, _, rfl, k1, k2, repL_append k3 h2⟩

section
variable {H : Type} {enc : TypeId × Value → H} {P : Program} {w : World}
theorem cellsOf_ty {t : TypeId} (h : (tyOf P t).td ≠ .bad) : P.cellsOf t = (tyOf P t).size := by
  obtain ⟨i, u, hi, hu, he⟩ := td_desc h
  rw [he]
  simp [Program.cellsOf, hi]
theorem bool_desc {t : TypeId} (h : (tyOf P t).td = .bool) : P.underlying t = some .bool := by
  obtain ⟨i, u, hi, hu, he⟩ := td_desc (t := t) (by rw [h]; simp)
  rw [he] at h
  cases u <;> simp [tdOf] at h
  exact hu
theorem readable_td {n : Nat} {t : TypeId} (h : readable P n t = true) : (tyOf P t).td ≠ .bad := by
  intro hb
  cases n with
  | zero => cases h
  | succ n => simp only [readable, hb, readT] at h; cases h

/-- Every block that there is. -/
def old (w : World) (b : Nat) : Prop := b < w.heap.size

theorem read_ok : ∀ (n : Nat) (t : TypeId), readable P n t = true → ∀ (fuel : Nat) (cs : List Value) (x : DataW H × List MemPlace), DataW.trod enc P w 0 (fun _ => true) true fuel t cs = some x → ∃ ds, HasC P n t ds ∧ repL (old w) w ds cs
  | 0, t, h => by cases h
  | n + 1, t, h => by
    intro fuel cs x hx
    simp only [readable] at h
    simp only [HasC]
    cases htd : (tyOf P t).td with
    | int k =>
      obtain ⟨i, rfl, _, hw⟩ := DataW.trod_int (int_desc htd) hx
      refine ⟨[.int k i], ⟨i, rfl, ?_⟩, ?_⟩
      · simpa [Lit.wf] using hw
      · simp only [repL, DV.rep]; exact ⟨_, _, rfl, rfl, rfl, rfl⟩
    | bool =>
      obtain ⟨b, rfl, _⟩ := DataW.trod_bool (bool_desc htd) hx
      refine ⟨[.bool b], ⟨b, rfl⟩, ?_⟩
      simp only [repL, DV.rep]; exact ⟨_, _, rfl, rfl, rfl, rfl⟩
    | str =>
      obtain ⟨s, rfl, _, hs⟩ := DataW.trod_string (str_desc htd) hx
      refine ⟨[.str s], ⟨s, rfl, hs⟩, ?_⟩
      simp only [repL, DV.rep]; exact ⟨_, _, rfl, rfl, ⟨rfl, hs⟩, rfl⟩
    | slice e =>
      rw [htd] at h
      simp only [readT, Bool.and_eq_true, bne_iff_ne, ne_eq, Bool.or_eq_true, beq_iff_eq] at h
      obtain ⟨⟨⟨_, hsz⟩, hre⟩, hone⟩ := h
      obtain ⟨es0, he0⟩ := inh hre
      rcases Go.Deep.open_slice (slice_desc htd) hx with ⟨rfl, _⟩ | ⟨a, len, cap, m, fuel', D, Pl, rfl, _, hl, hm, hmm, _, hel⟩
      · refine ⟨_, ⟨0, fun _ => oneD (tyOf P e).td.isAgg es0, rfl, by unfold fits; exact Nat.zero_le _, fun i => ⟨es0, he0, rfl⟩⟩, ?_⟩
        simp only [repL, DV.rep]
        exact ⟨_, _, rfl, rfl, ⟨none, 0, rfl, Nat.le_refl _, by unfold fits; exact Nat.zero_le _, fun h => absurd h (Nat.lt_irrefl 0)⟩, rfl⟩
      · simp only [if_true] at hmm
        subst hmm
        rw [cellsOf_ty (readable_td hre)] at hel
        have key : ∀ i, ∃ es, HasC P n e es ∧ (i < m → ∃ cs', w.cells? 0 (a.add (i * (tyOf P e).size)) (tyOf P e).size = some cs' ∧ repL (old w) w es cs') := by
          intro i
          by_cases hi : i < m
          · obtain ⟨cs', h1, h2⟩ := hel i hi
            obtain ⟨es, h3, h4⟩ := read_ok n e hre _ _ _ h2
            exact ⟨es, h3, fun _ => ⟨cs', h1, h4⟩⟩
          · exact ⟨es0, he0, fun h => absurd h hi⟩
        have hch := fun i => Classical.choose_spec (key i)
        refine ⟨_, ⟨len, fun i => oneD (tyOf P e).td.isAgg (Classical.choose (key i)), rfl, by unfold fits; unfold maxLen at hm; omega, fun i => ⟨_, (hch i).1, rfl⟩⟩, ?_⟩
        simp only [repL, DV.rep]
        refine ⟨_, _, rfl, rfl, ⟨some a, m, rfl, hl, by unfold fits; unfold maxLen at hm; omega, fun h0 => ?_⟩, rfl⟩
        have hcell : ∀ i, i < len → ∃ cs', w.cells? 0 (a.add (i * (tyOf P e).size)) (tyOf P e).size = some cs' ∧ repL (old w) w (Classical.choose (key i)) cs' := fun i hi => (hch i).2 (by omega)
        obtain ⟨cs0, h1, _⟩ := hcell 0 h0
        obtain ⟨_, hlen0, hat0⟩ := World.cells?_some h1
        have hc0 : w.cell? a = cs0[0]? := by
          have := hat0 0 (by omega)
          simpa [Addr.add] using this
        have hsome : ∃ u, cs0[0]? = some u := ⟨cs0[0]'(by omega), List.getElem?_eq_getElem (by omega)⟩
        obtain ⟨u0, hu0⟩ := hsome
        rw [hu0] at hc0
        obtain ⟨ab, ao, asp⟩ := a
        have hsp : asp = none := by
          simp only [World.cell?] at hc0
          split at hc0
          · cases asp <;> simp at hc0 ⊢
          · cases hc0
        subst hsp
        have hlt : ab < w.heap.size := by
          rcases Nat.lt_or_ge ab w.heap.size with h | h
          · exact h
          · simp [World.cell?, Array.getElem?_eq_none h] at hc0
        have hadd : ∀ o k, (⟨ab, o, none⟩ : Addr).add k = ⟨ab, o + k, none⟩ := fun o k => by
          simp only [Addr.add]
          split
          · rename_i h; subst h; rfl
          · rfl
        refine ⟨ab, ao, rfl, hlt, fun i hi => ?_⟩
        obtain ⟨cs', h1, h2⟩ := hcell i hi
        obtain ⟨_, hlen, hat⟩ := World.cells?_some h1
        have hat' : cellsAt w ab (ao + i * (tyOf P e).size) cs' := fun j u hj => by
          have hjl := (List.getElem?_eq_some_iff.1 hj).1
          have := hat j (by omega)
          rw [hadd, hadd, hj] at this
          exact this
        have hvr : ∃ u : Value, u.cells.toList = cs' ∧ (oneD (tyOf P e).td.isAgg (Classical.choose (key i))).rep (old w) w u := by
          cases hag : (tyOf P e).td.isAgg with
          | true =>
            exact ⟨.agg cs'.toArray, by simp [Value.cells], oneD_rep h2 (.inl ⟨rfl, rfl⟩)⟩
          | false =>
            have h1' : (tyOf P e).size = 1 := by rcases hone with h | h; · rw [hag] at h; cases h
                                                 · exact h
            rw [h1'] at hlen
            match cs', hlen, h2 with
            | [u], _, h2 =>
              have hu1 : u.oneCell' = true := by
                cases hq : Classical.choose (key i) with
                | nil => rw [hq] at h2; simp [repL] at h2
                | cons d ds => rw [hq] at h2; simp only [repL] at h2; obtain ⟨u', us', he, h3, _⟩ := h2; simp at he; rw [he.1]; exact h3
              refine ⟨u, ?_, oneD_rep h2 (.inr ⟨rfl, [], rfl⟩)⟩
              cases u <;> first | rfl | (simp [Value.oneCell'] at hu1)
        obtain ⟨u, hu, hr⟩ := hvr
        exact ⟨u, by rw [← Array.length_toList, hu]; exact hlen, by rw [hu]; exact hat', hr⟩
    | struct fs =>
      rw [htd] at h
      simp only [readT, Bool.and_eq_true, beq_iff_eq] at h
      obtain ⟨fields, hf, rfl⟩ := struct_desc htd
      obtain ⟨xs, fuel', _, _, hlen, hxl, hfield⟩ := DataW.trod_struct hf hx
      rw [cellsOf_ty (by rw [htd]; simp)] at hlen
      have key : ∀ (l : List Field) (off : Nat), (∀ f ∈ l, ∃ x, DataW.trod enc P w 0 (fun _ => true) true fuel' f.type ((cs.drop f.offset).take (P.cellsOf f.type)) = some x) → ((l.map fun f => (f.offset, f.type)).all fun x => readable P n x.2) = true → tiled P off (l.map fun f => (f.offset, f.type)) = some cs.length → ∃ ds, HasF (HasC P n) (l.map fun f => (f.offset, f.type)) ds ∧ repL (old w) w ds (cs.drop off) := by
        intro l
        induction l with
        | nil =>
          intro off _ _ ht
          simp only [List.map_nil, tiled, Option.some.injEq] at ht
          subst ht
          exact ⟨[], rfl, by simp [repL]⟩
        | cons f l ih =>
          intro off hfs hr ht
          simp only [List.map_cons, List.all_cons, Bool.and_eq_true] at hr
          simp only [List.map_cons, tiled] at ht
          split at ht
          · rename_i ho
            obtain ⟨x, hx⟩ := hfs f (by simp)
            obtain ⟨a, ha, ra⟩ := read_ok n f.type hr.1 _ _ _ hx
            obtain ⟨b, hb, rb⟩ := ih _ (fun g hg => hfs g (by simp [hg])) hr.2 ht
            refine ⟨a ++ b, ⟨a, b, rfl, ha, hb⟩, ?_⟩
            have := repL_append ra rb
            rw [ho, cellsOf_ty (readable_td hr.1), ← List.drop_drop, List.take_append_drop] at this
            exact this
          · cases ht
      obtain ⟨ds, hd, hr⟩ := key fields.toList 0 (fun f hf => by
        obtain ⟨i, hi⟩ := List.getElem?_of_mem hf
        have hi' : fields[i]? = some f := by simpa using hi
        have hlt : i < fields.size := (Array.getElem?_eq_some_iff.1 hi').1
        exact ⟨xs[i]'(by omega), by rw [hfield i f hi']; exact List.getElem?_eq_getElem (by omega)⟩) h.2 (by rw [h.1, hlen])
      exact ⟨ds, hd, by simpa using hr⟩
    | _ => rw [htd] at h; cases h
/-- A slice of structs that are read one by one. -/
theorem list_read {sz : Nat} {a : Addr} {len cap : Nat} (hl : len ≤ cap) (hm : cap ≤ maxLen) (hsz : 0 < sz) {F : Nat → DV} (hel : ∀ i, i < len → ∃ cs', w.cells? 0 (a.add (i * sz)) sz = some cs' ∧ (F i).rep (old w) w (.agg cs'.toArray)) : (DV.list sz len F).rep (old w) w (.slice (some a) len cap) := by
  simp only [DV.rep]
  refine ⟨some a, cap, rfl, hl, by unfold fits; unfold maxLen at hm; omega, fun h0 => ?_⟩
  obtain ⟨cs0, h1, _⟩ := hel 0 h0
  obtain ⟨_, hlen0, hat0⟩ := World.cells?_some h1
  have hc0 : w.cell? a = cs0[0]? := by
    have := hat0 0 (by omega)
    simpa [Addr.add] using this
  have hsome : ∃ u, cs0[0]? = some u := ⟨cs0[0]'(by omega), List.getElem?_eq_getElem (by omega)⟩
  obtain ⟨u0, hu0⟩ := hsome
  rw [hu0] at hc0
  obtain ⟨ab, ao, asp⟩ := a
  have hsp : asp = none := by
    simp only [World.cell?] at hc0
    split at hc0
    · cases asp <;> simp at hc0 ⊢
    · cases hc0
  subst hsp
  have hlt : ab < w.heap.size := by
    rcases Nat.lt_or_ge ab w.heap.size with h | h
    · exact h
    · simp [World.cell?, Array.getElem?_eq_none h] at hc0
  have hadd : ∀ o k, (⟨ab, o, none⟩ : Addr).add k = ⟨ab, o + k, none⟩ := fun o k => by
    simp only [Addr.add]
    split
    · rename_i h; subst h; rfl
    · rfl
  refine ⟨ab, ao, rfl, hlt, fun i hi => ?_⟩
  obtain ⟨cs', h1, h2⟩ := hel i hi
  obtain ⟨_, hlen, hat⟩ := World.cells?_some h1
  have hat' : cellsAt w ab (ao + i * sz) cs' := fun j u hj => by
    have hjl := (List.getElem?_eq_some_iff.1 hj).1
    have := hat j (by omega)
    rw [hadd, hadd, hj] at this
    exact this
  exact ⟨.agg cs'.toArray, by simpa [Value.cells] using hlen, by simpa [Value.cells] using hat', h2⟩
theorem weights_all {e : TypeId} : ∀ {l : List (DataW H)} {d : DataW H}, d ∈ l → ∀ n ∈ d.weights P e, n ∈ DataW.weightsAll P e l
  | [], d, h, _, _ => by cases h
  | x :: l, d, h, n, hn => by
    simp only [DataW.weightsAll, List.mem_append]
    rcases List.mem_cons.1 h with rfl | h
    · exact .inl hn
    · exact .inr (weights_all h n hn)
end
end Go.Ev

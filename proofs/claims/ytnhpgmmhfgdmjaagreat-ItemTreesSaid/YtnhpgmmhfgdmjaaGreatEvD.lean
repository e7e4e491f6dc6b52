/- Each quiet operation does what its evaluation says. -/
import Derived.Test.YtnhpgmmhfgdmjaaGreatEvC
import Derived.Laws.Cells
import Derived.Laws.Entries
import Derived.Laws.World
import Derived.WalkKit
set_option linter.unusedVariables false
set_option linter.unusedSimpArgs false
namespace Go.Ev
open Go.RowKit

section
variable {S : Nat → Prop} {w : World}
theorem const1_rep {v : Value} {d : DV} (h : const1 v = some d) : d.rep S w v := by
  unfold const1 at h
  split at h <;> first | (obtain rfl := Option.some.inj h; simp only [DV.rep]) | (split at h; (rename_i hle; obtain rfl := Option.some.inj h; simp only [DV.rep]; exact ⟨trivial, Nat.le_trans hle (by decide)⟩); cases h) | cases h
theorem const1_one {v : Value} {d : DV} (h : const1 v = some d) : v.oneCell' = true := by
  unfold const1 at h
  split at h <;> first | rfl | cases h | (split at h <;> first | rfl | cases h)
theorem constL_rep : ∀ {vs : List Value} {ds : List DV}, constL vs = some ds → repL S w ds vs
  | [], _, h => by
    obtain rfl := Option.some.inj h
    simp only [repL]
  | v :: vs, _, h => by
    simp only [constL] at h
    split at h
    · rename_i d ds h1 h2
      obtain rfl := Option.some.inj h
      simp only [repL]
      exact ⟨v, vs, rfl, const1_one h1, const1_rep h1, constL_rep h2⟩
    · cases h
theorem constD_rep {v : Value} {d : DV} (h : constD v = some d) : d.rep S w v := by
  unfold constD at h
  split at h
  · rename_i cs
    obtain ⟨ds, h1, rfl⟩ := Option.map_eq_some_iff.1 h
    simp only [DV.rep]
    exact ⟨cs.toList, by simp, constL_rep h1⟩
  · exact const1_rep h
theorem konst_rep {L : Nat → Prop} {α : Nat → Loc} (v : Value) : (konst v).rep S L α w v := by
  unfold konst
  split
  · rename_i d h
    simp only [PV.rep]
    exact constD_rep h
  · simp only [PV.rep]
end

section
variable {S : Nat → Prop} {α : Nat → Loc} {L : Nat → Prop} {w : World} {a : Act} {ε : Nat → PV} {g : List (Tmp × Bool)}
theorem opnd_rep (he : ∀ t, (ε t).erep S L α w a.tmps (a.tmps.getD t undef)) (hg : hold a.tmps g) : ∀ x, (opnd ε g x).rep S L α w (a.eval x)
  | .tmp t => by
    have h := he t
    simp only [opnd, Act.eval]
    generalize a.tmps.getD t undef = v at h
    cases hp : ε t with
    | when k c p =>
      simp only [hp, PV.erep] at h
      simp only [strip]
      split
      · rename_i hk
        refine (h.1 fun t b hm => hg t b ?_).2
        simp only [List.all_eq_true, List.contains_iff_mem] at hk
        exact hk _ hm
      · simp only [PV.rep]
    | _ => simpa only [hp, PV.erep, strip] using h
  | .const v => by simpa only [opnd, Act.eval] using konst_rep v
  | .func f => by
    simp only [opnd, Act.eval, PV.rep, prepL]
    exact ⟨[], [], rfl, rfl, rfl⟩
  | .global _ => by simp only [opnd, PV.rep]
theorem opnds_rep (he : ∀ t, (ε t).erep S L α w a.tmps (a.tmps.getD t undef)) (hg : hold a.tmps g) : ∀ xs : List Operand, prepL S L α w (xs.map (opnd ε g)) (xs.map a.eval)
  | [] => by simp only [List.map_nil, prepL]
  | x :: xs => by
    simp only [List.map_cons, prepL]
    exact ⟨_, _, rfl, opnd_rep he hg x, opnds_rep he hg xs⟩
end

def put (σ : Sto) (nid : Nat) : Option Blk → Sto
  | none => σ
  | some B => upd σ nid B

/-- What is shown of a quiet operation. -/
def QOk (P : Program) (S : Nat → Prop) (α : Nat → Loc) (σ : Sto) (w : World) (nid : Nat) (m : Sem Value) (v : PV) (nb : Option Blk) : Prop :=
  ∃ α' u w', m.run P w = .ok u w' ∧ Below w.heap.size w w' ∧ RelS S α' (put σ nid nb) w' ∧ Moved S α σ w S α' (put σ nid nb) w' ∧
    (∀ i, i ≠ nid → α' i = α i) ∧ v.rep S (live (put σ nid nb)) α' w' u

section
variable {P : Program} {S : Nat → Prop} {α : Nat → Loc} {σ : Sto} {w : World} {nid : Nat} {m : Sem Value}

theorem QOk.pure (hr : RelS S α σ w) {u : Value} {v : PV} (h : m.run P w = .ok u w) (hv : v.rep S (live σ) α w u) : QOk P S α σ w nid m v none :=
  ⟨α, u, w, h, Below.refl _ _, hr, Moved.refl _ _ _ _, fun _ _ => rfl, hv⟩

theorem live_upd {B : Blk} (hB : B.alive = true) : live (upd σ nid B) nid := by simp [live, upd, hB]

theorem QOk.new (hr : RelS S α σ w) (hd : ¬ live σ nid) {u : Value} {v : PV} {B : Blk} {l : Loc} {o : Obj} (h : m.run P w = .ok u (w.alloc o)) (hl : l.b = w.heap.size)
    (hB : B.rep S (live (upd σ nid B)) (upd α nid l) (w.alloc o) l) (hv : v.rep S (live (upd σ nid B)) (upd α nid l) (w.alloc o) u) : QOk P S α σ w nid m v (some B) := by
  have hb : Below w.heap.size w (w.alloc o) := (Below.refl _ _).alloc (Nat.le_refl _) o
  refine ⟨upd α nid l, u, w.alloc o, h, hb, hr.new hd hb (fun _ => by omega) (fun _ => by simp [hl]) hB, Moved.fresh hd hb (fun _ => by omega), fun i hi => upd_other _ _ hi, hv⟩

theorem QOk.drew (hr : RelS S α σ w) (hd : ¬ live σ nid) {u : Value} {v : PV} {B : Blk} {l : Loc} {o : Obj} (h : m.run P w = .ok u (w.drew.alloc o)) (hl : l.b = w.heap.size)
    (hB : B.rep S (live (upd σ nid B)) (upd α nid l) (w.drew.alloc o) l) (hv : v.rep S (live (upd σ nid B)) (upd α nid l) (w.drew.alloc o) u) : QOk P S α σ w nid m v (some B) := by
  have hb : Below w.heap.size w (w.drew.alloc o) := ⟨rfl, rfl, rfl, by simp, fun k hk => Below.heap_alloc _ _ _ hk⟩
  refine ⟨upd α nid l, u, w.drew.alloc o, h, hb, hr.new hd hb (fun _ => by omega) (fun _ => by simp [hl]) hB, Moved.fresh hd hb (fun _ => by omega), fun i hi => upd_other _ _ hi, hv⟩

/-- Values move into a world with one more block. -/
theorem PV.rep_new (hr : RelS S α σ w) (hd : ¬ live σ nid) {B : Blk} (hB : B.alive = true) {l : Loc} {o : Obj} {p : PV} {v : Value} (h : p.rep S (live σ) α w v) :
    p.rep S (live (upd σ nid B)) (upd α nid l) (w.alloc o) v := by
  have hb : Below w.heap.size w (w.alloc o) := (Below.refl _ _).alloc (Nat.le_refl _) o
  have hne : ∀ i, live σ i → i ≠ nid := fun i hi e => hd (e ▸ hi)
  exact PV.rep_mono (fun _ x => x) (hr.keeps hb) (hr.kept hb (fun i hi => upd_other _ _ (hne i hi)) (fun i hi => by
    simpa [live, upd_other _ _ (hne i hi)] using hi)) p v h
theorem prepL_new (hr : RelS S α σ w) (hd : ¬ live σ nid) {B : Blk} (hB : B.alive = true) {l : Loc} {o : Obj} {p : List PV} {v : List Value} (h : prepL S (live σ) α w p v) :
    prepL S (live (upd σ nid B)) (upd α nid l) (w.alloc o) p v := by
  have hb : Below w.heap.size w (w.alloc o) := (Below.refl _ _).alloc (Nat.le_refl _) o
  have hne : ∀ i, live σ i → i ≠ nid := fun i hi e => hd (e ▸ hi)
  exact prepL_mono (fun _ x => x) (hr.keeps hb) (hr.kept hb (fun i hi => upd_other _ _ (hne i hi)) (fun i hi => by
    simpa [live, upd_other _ _ (hne i hi)] using hi)) p v h
theorem heap_new (w : World) (o : Obj) : (w.alloc o).heap[w.heap.size]? = some o := by
  show (w.heap.push o)[w.heap.size]? = some o
  simp
end

/-! ### Lists of values -/
section
variable {S L : Nat → Prop} {α : Nat → Loc} {w : World}
theorem prepL_length : ∀ {ps : List PV} {vs : List Value}, prepL S L α w ps vs → vs.length = ps.length
  | [], _, h => by simp only [prepL] at h; simp [h]
  | p :: ps, _, h => by
    simp only [prepL] at h
    obtain ⟨u, us, rfl, _, h2⟩ := h
    simp [prepL_length h2]
theorem repL_length : ∀ {ps : List DV} {vs : List Value}, repL S w ps vs → vs.length = ps.length
  | [], _, h => by simp only [repL] at h; simp [h]
  | p :: ps, _, h => by
    simp only [repL] at h
    obtain ⟨u, us, rfl, _, _, h2⟩ := h
    simp [repL_length h2]
theorem repL_iff : ∀ {ds : List DV} {vs : List Value}, repL S w ds vs ↔ prepL S L α w (ds.map .d) vs ∧ ∀ u ∈ vs, u.oneCell' = true
  | [], vs => by
    simp only [List.map_nil, prepL, repL]
    constructor
    · rintro rfl
      exact ⟨rfl, fun _ h => by cases h⟩
    · exact fun h => h.1
  | d :: ds, vs => by
    simp only [List.map_cons, prepL, repL, PV.rep]
    constructor
    · rintro ⟨u, us, rfl, h0, h1, h2⟩
      obtain ⟨k1, k2⟩ := repL_iff.1 h2
      exact ⟨⟨u, us, rfl, h1, k1⟩, fun x hx => by
        rcases List.mem_cons.1 hx with rfl | hx
        · exact h0
        · exact k2 x hx⟩
    · rintro ⟨⟨u, us, rfl, h1, h2⟩, h3⟩
      exact ⟨u, us, rfl, h3 u (by simp), h1, repL_iff.2 ⟨h2, fun x hx => h3 x (by simp [hx])⟩⟩
theorem prepL_map_d {ds : List DV} {vs : List Value} (h : repL S w ds vs) : prepL S L α w (ds.map .d) vs := (repL_iff.1 h).1
theorem prepL_nth : ∀ {ps : List PV} {vs : List Value} {i : Nat} {p : PV}, prepL S L α w ps vs → nth ps i = some p → ∃ v, vs[i]? = some v ∧ p.rep S L α w v
  | [], _, _, _, _, h => by simp [nth] at h
  | p :: ps, _, i, q, h, hi => by
    simp only [prepL] at h
    obtain ⟨u, us, rfl, h1, h2⟩ := h
    simp only [nth] at hi
    split at hi
    · rename_i h0
      obtain rfl := Option.some.inj hi
      subst h0
      exact ⟨u, rfl, h1⟩
    · rename_i h0
      obtain ⟨v, hv, hr⟩ := prepL_nth h2 hi
      refine ⟨v, ?_, hr⟩
      obtain ⟨k, rfl⟩ : ∃ k, i = k + 1 := ⟨i - 1, by omega⟩
      simpa using hv
theorem prepL_drop : ∀ {ps qs : List PV} {vs : List Value} {n : Nat}, prepL S L α w ps vs → dropN ps n = some qs → prepL S L α w qs (vs.drop n) ∧ n ≤ ps.length
  | ps, qs, vs, 0, h, hd => by
    obtain rfl : ps = qs := by cases ps <;> simpa [dropN] using hd
    exact ⟨by simpa using h, by omega⟩
  | [], qs, vs, n + 1, h, hd => by simp [dropN] at hd
  | p :: ps, qs, vs, n + 1, h, hd => by
    simp only [prepL] at h
    obtain ⟨u, us, rfl, h1, h2⟩ := h
    have hd' : dropN ps n = some qs := by simpa [dropN] using hd
    obtain ⟨k1, k2⟩ := prepL_drop h2 hd'
    exact ⟨by simpa using k1, by simp; omega⟩
theorem prepL_take : ∀ {ps qs : List PV} {vs : List Value} {n : Nat}, prepL S L α w ps vs → takeN ps n = some qs → prepL S L α w qs (vs.take n) ∧ n ≤ ps.length
  | ps, qs, vs, 0, h, hd => by
    obtain rfl : qs = [] := by cases ps <;> simpa [takeN] using hd.symm
    exact ⟨by simp [prepL], by omega⟩
  | [], qs, vs, n + 1, h, hd => by simp [takeN] at hd
  | p :: ps, qs, vs, n + 1, h, hd => by
    simp only [prepL] at h
    obtain ⟨u, us, rfl, h1, h2⟩ := h
    obtain ⟨rs, hd', rfl⟩ : ∃ rs, takeN ps n = some rs ∧ p :: rs = qs := by simpa [takeN] using hd
    obtain ⟨k1, k2⟩ := prepL_take h2 hd'
    refine ⟨?_, by simp; omega⟩
    simp only [prepL, List.take_succ_cons]
    exact ⟨u, _, rfl, h1, k1⟩
theorem prepL_sub {ps qs : List PV} {vs : List Value} {o n : Nat} (h : prepL S L α w ps vs) (hd : subN ps o n = some qs) : prepL S L α w qs ((vs.drop o).take n) ∧ o + n ≤ vs.length := by
  unfold subN at hd
  obtain ⟨rs, h1, h2⟩ := Option.bind_eq_some_iff.1 hd
  obtain ⟨k1, k2⟩ := prepL_drop h h1
  obtain ⟨m1, m2⟩ := prepL_take k1 h2
  have e1 := prepL_length h
  have e2 := prepL_length k1
  simp at e2
  exact ⟨m1, by omega⟩
theorem repL_sub {ps qs : List DV} {vs : List Value} {o n : Nat} (h : repL S w ps vs) (hd : subN ps o n = some qs) : repL S w qs ((vs.drop o).take n) ∧ o + n ≤ vs.length := by
  have hd' : ∀ (l : List DV) (k : Nat), dropN (l.map PV.d) k = (dropN l k).map (List.map PV.d) := by
    intro l
    induction l with
    | nil => intro k; simp only [dropN, List.map_nil]; split <;> rfl
    | cons x l ih => intro k; simp only [dropN, List.map_cons]; split <;> simp_all
  have ht' : ∀ (l : List DV) (k : Nat), takeN (l.map PV.d) k = (takeN l k).map (List.map PV.d) := by
    intro l
    induction l with
    | nil => intro k; simp only [takeN, List.map_nil]; split <;> rfl
    | cons x l ih => intro k; simp only [takeN, List.map_cons]; split <;> simp_all [Option.map_map, Function.comp_def]
  have hs : subN (ps.map PV.d) o n = some (qs.map PV.d) := by
    unfold subN at hd ⊢
    obtain ⟨rs, h1, h2⟩ := Option.bind_eq_some_iff.1 hd
    rw [hd', h1]
    simp only [Option.map_some, Option.bind_some]
    rw [ht', h2]
    rfl
  obtain ⟨k1, k2⟩ := prepL_sub (L := fun _ => False) (α := fun _ => default) (prepL_map_d h) hs
  exact ⟨repL_iff.2 ⟨k1, fun u hu => (repL_iff (L := fun _ => False) (α := fun _ => default).1 h).2 u (List.mem_of_mem_drop (List.mem_of_mem_take hu))⟩, k2⟩
theorem repL_drop {ps qs : List DV} {vs : List Value} {o : Nat} (h : repL S w ps vs) (hd : dropN ps o = some qs) : repL S w qs (vs.drop o) ∧ o ≤ vs.length := by
  have hd' : ∀ (l : List DV) (k : Nat), dropN (l.map PV.d) k = (dropN l k).map (List.map PV.d) := by
    intro l
    induction l with
    | nil => intro k; simp only [dropN, List.map_nil]; split <;> rfl
    | cons x l ih => intro k; simp only [dropN, List.map_cons]; split <;> simp_all
  have e := repL_length h
  obtain ⟨k1, k2⟩ := prepL_drop (L := fun _ => False) (α := fun _ => default) (prepL_map_d h) (by rw [hd', hd]; rfl)
  exact ⟨repL_iff.2 ⟨k1, fun u hu => (repL_iff (L := fun _ => False) (α := fun _ => default).1 h).2 u (List.mem_of_mem_drop hu)⟩, by simp at k2; omega⟩
theorem DV.cells_rep {d : DV} {v : Value} (h : d.rep S w v) : repL S w d.cells v.cells.toList := by
  cases d with
  | agg cs =>
    simp only [DV.rep] at h
    obtain ⟨vs, rfl, h⟩ := h
    simpa [DV.cells, Value.cells] using h
  | bool b => simp only [DV.rep] at h; subst h; simp only [DV.cells, Value.cells, repL, DV.rep]; exact ⟨_, _, rfl, rfl, rfl, rfl⟩
  | int b => simp only [DV.rep] at h; subst h; simp only [DV.cells, Value.cells, repL, DV.rep]; exact ⟨_, _, rfl, rfl, rfl, rfl⟩
  | str b => simp only [DV.rep] at h; obtain ⟨rfl, hft⟩ := h; simp only [DV.cells, Value.cells, repL, DV.rep]; exact ⟨_, _, rfl, rfl, ⟨rfl, hft⟩, rfl⟩
  | nil => simp only [DV.rep] at h; subst h; simp only [DV.cells, Value.cells, repL, DV.rep]; exact ⟨_, _, rfl, rfl, rfl, rfl⟩
  | null => simp only [DV.rep] at h; subst h; simp only [DV.cells, Value.cells, repL, DV.rep]; exact ⟨_, _, rfl, rfl, rfl, rfl⟩
  | fn0 => simp only [DV.rep] at h; subst h; simp only [DV.cells, Value.cells, repL, DV.rep]; exact ⟨_, _, rfl, rfl, rfl, rfl⟩
  | map0 => simp only [DV.rep] at h; subst h; simp only [DV.cells, Value.cells, repL, DV.rep]; exact ⟨_, _, rfl, rfl, rfl, rfl⟩
  | if0 => simp only [DV.rep] at h; subst h; simp only [DV.cells, Value.cells, repL, DV.rep]; exact ⟨_, _, rfl, rfl, rfl, rfl⟩
  | ifc t d =>
    have h' := h
    simp only [DV.rep] at h
    obtain ⟨u, rfl, _⟩ := h
    simp only [DV.cells, Value.cells, repL]
    exact ⟨_, _, rfl, rfl, h', rfl⟩
  | list sz n f =>
    have h' := h
    simp only [DV.rep] at h
    obtain ⟨b, cap, rfl, _⟩ := h
    simp only [DV.cells, Value.cells, repL]
    exact ⟨_, _, rfl, rfl, h', rfl⟩
theorem PV.cells_rep {p : PV} {v : Value} (h : p.rep S L α w v) (hp : p.plain = true) : prepL S L α w p.cells v.cells.toList ∧ ∀ u ∈ v.cells.toList, u.oneCell' = true := by
  cases p with
  | agg cs =>
    simp only [PV.rep] at h
    obtain ⟨vs, rfl, h0, h⟩ := h
    exact ⟨by simpa [PV.cells, Value.cells] using h, by simpa [Value.cells] using h0⟩
  | d x =>
    have k0 : repL S w x.cells v.cells.toList := DV.cells_rep (by simpa only [PV.rep] using h)
    have k : prepL S L α w (x.cells.map .d) v.cells.toList := prepL_map_d k0
    exact ⟨by cases x <;> simpa [PV.cells, DV.cells] using k, (repL_iff (L := L) (α := α).1 k0).2⟩
  | unk => simp [PV.plain] at hp
  | tup => simp [PV.plain] at hp
  | when => simp [PV.plain] at hp
  | own =>
    have h' := h
    simp only [PV.rep] at h
    rcases h.2 with ⟨_, _, _, rfl⟩ | ⟨_, x, cap, rfl, _⟩ <;>
    · simp only [PV.cells, Value.cells, prepL]
      exact ⟨⟨_, _, rfl, h', rfl⟩, by simp [Value.oneCell']⟩
  | ptr =>
    have h' := h
    simp only [PV.rep] at h
    obtain ⟨_, _, rfl⟩ := h
    simp only [PV.cells, Value.cells, prepL]
    exact ⟨⟨_, _, rfl, h', rfl⟩, by simp [Value.oneCell']⟩
  | eptr =>
    have h' := h
    simp only [PV.rep] at h
    obtain ⟨_, _, rfl⟩ := h
    simp only [PV.cells, Value.cells, prepL]
    exact ⟨⟨_, _, rfl, h', rfl⟩, by simp [Value.oneCell']⟩
  | rptr =>
    have h' := h
    simp only [PV.rep] at h
    obtain ⟨_, _, _, rfl, _⟩ := h
    simp only [PV.cells, Value.cells, prepL]
    exact ⟨⟨_, _, rfl, h', rfl⟩, by simp [Value.oneCell']⟩
  | clo =>
    have h' := h
    simp only [PV.rep] at h
    obtain ⟨_, _, rfl, _⟩ := h
    simp only [PV.cells, Value.cells, prepL]
    exact ⟨⟨_, _, rfl, h', rfl⟩, by simp [Value.oneCell']⟩
  | ifc =>
    have h' := h
    simp only [PV.rep] at h
    obtain ⟨_, rfl, _⟩ := h
    simp only [PV.cells, Value.cells, prepL]
    exact ⟨⟨_, _, rfl, h', rfl⟩, by simp [Value.oneCell']⟩
end
end Go.Ev

/- A drawn region, run. -/
import Derived.Test.YtnhpgmmhfgdmjaaGreatEvR
set_option linter.unusedVariables false
set_option linter.unusedSimpArgs false
namespace Go.Ev
open Go.RowKit

abbrev isIn (listed : Array Bool) (k : Nat) : Prop := listed[k]? = some true
theorem isIn_set {listed : Array Bool} {k : Nat} (h : k < listed.size) (i : Nat) : isIn (listed.setIfInBounds k true) i ↔ i = k ∨ isIn listed i := by
  simp only [isIn, Array.getElem?_setIfInBounds]
  by_cases hi : k = i
  · subst hi; simp [h]
  · rw [if_neg hi]
    exact ⟨.inr, fun hh => hh.resolve_left fun e => hi e.symm⟩

theorem opQ_nid {P : Program} {wr : Bool} {o : Op} {ε : Nat → PV} {g : List (Tmp × Bool)} {s : Store} {lim nid nid' : Nat} {C : Prop} {v : PV} (h : opQ P wr o ε g s lim nid = .ok C v none) : opQ P wr o ε g s lim nid' = .ok C v none := by
  cases o with
  | alloc t => simp only [opQ] at h; split at h <;> simp at h
  | box t x => simp only [opQ] at h; split at h <;> simp at h
  | buildSlice t n l =>
    simp only [opQ, buildSliceQ] at h
    repeat' split at h
    all_goals simp at h
  | makeSlice t x y =>
    simp only [opQ, makeSliceQ] at h
    repeat' split at h
    all_goals simp at h
  | convert a b x =>
    simp only [opQ, convQ] at h ⊢
    split at h
    · rename_i hc
      rw [if_pos hc]
      exact h
    · rename_i hc
      rw [if_neg hc]
      split at h
      · split at h <;> simp at h
      · exact h
      · exact h
      · exact h
  | pick c a b => cases c <;> exact h
  | slice t x lo hi m => cases m <;> exact h
  | _ => exact h

section
variable {P : Program} {H : Hints} {A : Nat → Option Loc} {all : List Oper} {ops : Array Oper} {S0 : Nat → Prop} {α0 : Nat → Loc} {σ0 : Sto} {w0 : World} {e0 : Env} {s0 : Store} {rows : List Row}

def InL (rows : List Row) (listed : Array Bool) (t : Nat) : Prop := ∃ (i : Nat) (r : Row), rows[i]? = some r ∧ isIn listed i ∧ r.o.dst = some t

structure Inv (A : Nat → Option Loc) (H : Hints) (S0 : Nat → Prop) (α0 : Nat → Loc) (σ0 : Sto) (w0 : World) (all : List Oper) (e0 : Env) (s0 : Store) (rows : List Row) (listed : Array Bool) (a : Act) (w : World) (S : Nat → Prop) (α : Nat → Loc) (σ : Sto) : Prop where
  rel : RelS S α σ w
  mov : Moved S0 α0 σ0 w0 S α σ w
  pin : PinOk A H.lo α s0
  old : ∀ i, i < s0.length → σ i = lk s0 i
  has : ∀ (i : Nat) (r : Row) (B : Blk), rows[i]? = some r → r.nb = some B → isIn listed i → σ r.s.length = B
  not : ∀ (i : Nat) (r : Row) (B : Blk), rows[i]? = some r → r.nb = some B → ¬ isIn listed i → σ r.s.length = .dead
  out : ∀ j, s0.length ≤ j → (∀ (i : Nat) (r : Row) (B : Blk), rows[i]? = some r → r.nb = some B → r.s.length ≠ j) → σ j = .dead
  env0 : ∀ t, ¬ InL rows listed t → (get e0 t).erep S (live σ) α w a.tmps (a.tmps.getD t undef)
  env1 : ∀ (i : Nat) (r : Row) (t : Nat), rows[i]? = some r → isIn listed i → r.o.dst = some t → r.v.erep S (live σ) α w a.tmps (a.tmps.getD t undef)
  tag : ∀ (i : Nat) (r : Row) g c p, rows[i]? = some r → isIn listed i → r.v = .when g c p → ∀ t b, (t, b) ∈ g → InL rows listed t
  nw : hasG all = false → ∀ (i : Nat) (r : Row) g c p, rows[i]? = some r → isIn listed i → r.v ≠ .when g c p
  size : a.tmps.size = H.nt
  defers : a.defers = []

theorem Inv.put {listed : Array Bool} {a : Act} {w : World} {S : Nat → Prop} {α : Nat → Loc} {σ : Sto} (h : Inv A H S0 α0 σ0 w0 all e0 s0 rows listed a w S α σ) (hnw0 : NoWhen e0) (hlo : H.lo ≤ s0.length) {k : Nat} {r : Row} (hrow : rows[k]? = some r) (hk : ¬ isIn listed k) (hksz : k < listed.size)
    (huniq : ∀ (i : Nat) (r' : Row), rows[i]? = some r' → i ≠ k → ∀ t, r.o.dst = some t → r'.o.dst ≠ some t) (hnt : ∀ t, r.o.dst = some t → t < H.nt)
    (hlenr : s0.length ≤ r.s.length) (hids : ∀ (i : Nat) (r' : Row) (B B' : Blk), rows[i]? = some r' → r'.nb = some B → r.nb = some B' → r'.s.length = r.s.length → i = k)
    {S' : Nat → Prop} {α' : Nat → Loc} {σ' : Sto} {w' : World} {u : Value} (hb : Below w.heap.size w w') (hsub : ∀ b, S b → S' b) (hα : ∀ i, live σ i → α' i = α i) (hα0 : ∀ i, i < s0.length → α' i = α i)
    (hσ : ∀ i, (∀ B, r.nb = some B → i ≠ r.s.length) → σ' i = σ i) (hσ' : ∀ B, r.nb = some B → σ' r.s.length = B) (hr' : RelS S' α' σ' w') (hm : Moved S α σ w S' α' σ' w')
    (hv : ∀ tmps', (∀ t, InL rows listed t → tmps'.getD t undef = a.tmps.getD t undef) → r.v.erep S' (live σ') α' w' tmps' u) (htag : ∀ g c p, r.v = .when g c p → ∀ t b, (t, b) ∈ g → InL rows listed t)
    (hnwv : hasG all = false → ∀ g c p, r.v ≠ .when g c p) :
    Inv A H S0 α0 σ0 w0 all e0 s0 rows (listed.setIfInBounds k true) (a.put r.o.dst u) w' S' α' σ' := by
  have hin := isIn_set (listed := listed) hksz
  have hlive : ∀ i, live σ i → live σ' i := fun i hi => by
    have hne : ∀ B, r.nb = some B → i ≠ r.s.length := fun B hB e => by
      subst e
      have := h.not k r B hrow hB hk
      simp [live, this, Blk.alive] at hi
    rw [live, hσ i hne]
    exact hi
  have hkept := h.rel.kept hb hα hlive
  have hkeeps := h.rel.keeps hb
  have hInL : ∀ t, InL rows listed t → InL rows (listed.setIfInBounds k true) t := fun t ⟨i, r', h1, h2, h3⟩ => ⟨i, r', h1, (hin i).2 (.inr h2), h3⟩
  have hnotd : ∀ t, InL rows listed t → r.o.dst ≠ some t := fun t ⟨i, r', h1, h2, h3⟩ hd => by
    by_cases hik : i = k
    · subst hik; exact hk h2
    · exact huniq i r' h1 hik t hd h3
  have hput : ∀ t, r.o.dst ≠ some t → (a.put r.o.dst u).tmps.getD t undef = a.tmps.getD t undef := fun t ht => by
    cases hd : r.o.dst with
    | none => rfl
    | some d =>
      simp only [Act.put]
      rw [getD_put (by rw [h.size]; exact hnt d hd), if_neg]
      rintro rfl
      exact ht hd
  have hsame : ∀ t, InL rows listed t → (a.put r.o.dst u).tmps.getD t undef = a.tmps.getD t undef := fun t ht => hput t (hnotd t ht)
  refine ⟨hr', h.mov.trans hm, fun i l hi => ?_, fun i hi => ?_, fun i r' B hi hB hl => ?_, fun i r' B hi hB hl => ?_, fun j hj hn => ?_, fun t ht => ?_, fun i r' t hi hl ht => ?_, fun i r' g c p hi hl hp t b hm' => ?_, fun hg i r' g c p hi hl => ?_, ?_, ?_⟩
  · obtain ⟨p1, p2, p3⟩ := h.pin i l hi
    exact ⟨p1, by rw [hα0 i (by omega)]; exact p2, p3⟩
  · rw [hσ i (fun B hB e => by omega)]
    exact h.old i hi
  · by_cases hik : i = k
    · subst hik
      obtain rfl : r = r' := by rw [hrow] at hi; exact Option.some.inj hi
      exact hσ' B hB
    · rw [hσ _ (fun B' hB' e => hik (hids i r' B B' hi hB hB' e))]
      exact h.has i r' B hi hB (((hin i).1 hl).resolve_left hik)
  · have hik : i ≠ k := fun e => hl ((hin i).2 (.inl e))
    rw [hσ _ (fun B' hB' e => hik (hids i r' B B' hi hB hB' e))]
    exact h.not i r' B hi hB fun hh => hl ((hin i).2 (.inr hh))
  · rw [hσ j (fun B hB e => hn k r B hrow hB e.symm)]
    exact h.out j hj hn
  · have h1 : ¬ InL rows listed t := fun hh => ht (hInL t hh)
    have h2 : r.o.dst ≠ some t := fun hd => ht ⟨k, r, hrow, (hin k).2 (.inl rfl), hd⟩
    rw [hput t h2]
    exact PV.erep_mono hsub hkeeps hkept _ _ (fun g c q hq => absurd hq (hnw0 t g c q)) (h.env0 t h1)
  · by_cases hik : i = k
    · subst hik
      obtain rfl : r = r' := by rw [hrow] at hi; exact Option.some.inj hi
      have : (a.put r.o.dst u).tmps.getD t undef = u := by
        rw [ht]
        simp only [Act.put]
        rw [getD_put (by rw [h.size]; exact hnt t ht), if_pos rfl]
      rw [this]
      exact hv _ hsame
    · have hl' := ((hin i).1 hl).resolve_left hik
      rw [hsame t ⟨i, r', hi, hl', ht⟩]
      refine PV.erep_mono hsub hkeeps hkept _ _ (fun g c q hq => ?_) (h.env1 i r' t hi hl' ht)
      exact hold_same fun t' b' hm' => hsame t' (h.tag i r' g c q hi hl' hq t' b' hm')
  · by_cases hik : i = k
    · subst hik
      obtain rfl : r = r' := by rw [hrow] at hi; exact Option.some.inj hi
      exact hInL t (htag g c p hp t b hm')
    · exact hInL t (h.tag i r' g c p hi (((hin i).1 hl).resolve_left hik) hp t b hm')
  · by_cases hik : i = k
    · subst hik
      obtain rfl : r = r' := by rw [hrow] at hi; exact Option.some.inj hi
      exact hnwv hg g c p
    · exact h.nw hg i r' g c p hi (((hin i).1 hl).resolve_left hik)
  · rw [← h.size]
    cases r.o.dst <;> simp [Act.put]
  · rw [← h.defers]
    cases r.o.dst <;> rfl

theorem resP_dry {S' : Nat → Prop} {L L' : Nat → Prop} {α α' : Nat → Loc} {w : World} {ds : List DV} {v : Value} (h : (resP (ds.map .d)).rep S' L α w v) : (resP (ds.map .d)).rep S' L' α' w v := by
  have key : ∀ {l : List DV} {vs : List Value}, prepL S' L α w (l.map .d) vs → prepL S' L' α' w (l.map .d) vs := by
    intro l
    induction l with
    | nil => intro vs h; simpa only [List.map_nil, prepL] using h
    | cons z l ih =>
      intro vs h
      simp only [List.map_cons, prepL, PV.rep] at h ⊢
      obtain ⟨u, us, rfl, h1, h2⟩ := h
      exact ⟨u, us, rfl, h1, ih h2⟩
  match ds with
  | [x] => simpa only [List.map_cons, List.map_nil, resP, PV.rep] using h
  | [] => simpa only [List.map_nil, resP, PV.rep, prepL] using h
  | x :: y :: l =>
    simp only [List.map_cons, resP, PV.rep] at h ⊢
    obtain ⟨vs, rfl, h⟩ := h
    exact ⟨vs, rfl, key (l := x :: y :: l) h⟩

/-- What an operation looks at. -/
def looks (all : List Oper) (o : Oper) (t : Nat) : Prop := .tmp t ∈ o.op.operands.toList ∨ ∃ j b, o.guard = some (j, b) ∧ guardT all j = some t

theorem Inv.step {listed : Array Bool} {a : Act} {w : World} {S : Nat → Prop} {α : Nat → Loc} {σ : Sto} {e' : Env} {s' : Store} {Q : Exit → Act → World → Prop} (hall : ops.toList = all) (h : Inv A H S0 α0 σ0 w0 all e0 s0 rows listed a w S α σ) (hnw0 : NoWhen e0) (hlo : H.lo ≤ s0.length) (hlink : Linked e0 s0 rows e' s') (hrows : ∀ r ∈ rows, RowOk P H all s0.length r) {k : Nat} {r : Row} (hrow : rows[k]? = some r) (hk : ¬ isIn listed k) (hksz : k < listed.size)
    (huniq : ∀ (i : Nat) (r' : Row), rows[i]? = some r' → i ≠ k → ∀ t, r.o.dst = some t → r'.o.dst ≠ some t) (hnt : ∀ t, r.o.dst = some t → t < H.nt)
    (hpre : ∀ t, looks all r.o t → ∀ (i : Nat) (r' : Row), rows[i]? = some r' → r'.o.dst = some t → i ≠ k → i < k ∧ isIn listed i) (hgd : ∀ j b, r.o.guard = some (j, b) → j < k) (hpos : ∀ (i : Nat) (r' : Row), rows[i]? = some r' → all[i]? = some r'.o)
    (K : Act → World → Prop) (hK : ∀ a' w' S' α' σ', Inv A H S0 α0 σ0 w0 all e0 s0 rows (listed.setIfInBounds k true) a' w' S' α' σ' → K a' w') : wpOp P ops Q k K a w := by
  obtain ⟨hgq, hop⟩ := hrows r (List.mem_of_getElem? hrow)
  obtain ⟨t1, t2, t3, t4, t5, t6⟩ := linked_store hlink
  obtain ⟨hlenr, hnthr⟩ := t6 k r hrow
  -- what it looks at
  have hlook : ∀ t, looks all r.o t → (get r.e t).erep S (live σ) α w a.tmps (a.tmps.getD t undef) ∧ ((∃ (i : Nat) (r' : Row), rows[i]? = some r' ∧ isIn listed i ∧ r'.o.dst = some t ∧ get r.e t = r'.v) ∨ get r.e t = get e0 t) := by
    intro t ht
    rcases linked_get (linked_take hlink hrow) t with ⟨i, r', h1, h2, h3⟩ | ⟨h1, h2⟩
    · obtain ⟨hik, h1⟩ : i < k ∧ rows[i]? = some r' := by
        rw [List.getElem?_take] at h1
        split at h1
        · exact ⟨‹_›, h1⟩
        · cases h1
      have hl := (hpre t ht i r' h1 h2 (by omega)).2
      rw [h3]
      exact ⟨h.env1 i r' t h1 hl h2, .inl ⟨i, r', h1, hl, h2, rfl⟩⟩
    · rw [h2]
      refine ⟨h.env0 t ?_, .inr rfl⟩
      rintro ⟨i, r', h3, h4, h5⟩
      by_cases hik : i = k
      · subst hik; exact hk h4
      · have hlt := (hpre t ht i r' h3 h5 hik).1
        exact h1 i r' (by rw [List.getElem?_take, if_pos hlt]; exact h3) h5
  have hgo := guard_ok (S := S) (L := live σ) (α := α) (w := w) (tmps := a.tmps) hall (o := r.o) (fun j b t hj ht => (hlook t (.inr ⟨j, b, hj, ht⟩)).1) hgq
  have htags : ∀ t b, (t, b) ∈ r.g → InL rows listed t := by
    intro t b hm
    unfold guardQ at hgq
    cases hg : r.o.guard with
    | none =>
      rw [hg] at hgq
      simp only [Option.some.injEq, Prod.mk.injEq] at hgq
      rw [← hgq.1] at hm
      cases hm
    | some x =>
      obtain ⟨j, b'⟩ := x
      rw [hg] at hgq
      dsimp only at hgq
      split at hgq
      · rename_i t0 ht0
        have hjk := hgd j b' hg
        have hL : InL rows listed t0 := by
          have hlen : k < rows.length := (List.getElem?_eq_some_iff.1 hrow).1
          have hj : rows[j]? = some rows[j] := List.getElem?_eq_getElem (by omega)
          have hd : rows[j].o.dst = some t0 := by
            unfold guardT at ht0
            rw [nth_eq, hpos j _ hj] at ht0
            exact ht0
          exact ⟨j, _, hj, (hpre t0 (.inr ⟨j, b', hg, ht0⟩) j _ hj hd (by omega)).2, hd⟩
        unfold guardV at hgq
        split at hgq
        · simp only [Option.some.injEq, Prod.mk.injEq] at hgq
          rw [← hgq.1] at hm
          simp only [List.mem_singleton, Prod.mk.injEq] at hm
          rw [hm.1]
          exact hL
        · rename_i g' c' p hp
          simp only [Option.some.injEq, Prod.mk.injEq] at hgq
          rw [← hgq.1] at hm
          rcases List.mem_cons.1 hm with hm | hm
          · simp only [Prod.mk.injEq] at hm
            rw [hm.1]
            exact hL
          · rcases (hlook t0 (.inr ⟨j, b', hg, ht0⟩)).2 with ⟨i, r', q1, q2, q3, q4⟩ | q
            · exact h.tag i r' g' c' _ q1 q2 (q4 ▸ hp) t b hm
            · rw [q] at hp
              exact absurd hp (hnw0 _ _ _ _)
        · cases hgq
      · cases hgq
  have hng : hasG all = false → r.g = [] := fun hg => by
    have := hasG_none hg (List.mem_of_getElem? (hpos k r hrow))
    rw [this] at hgq
    simp only [guardQ, Option.some.injEq, Prod.mk.injEq] at hgq
    exact hgq.1.symm
  have hids : ∀ (i : Nat) (r' : Row) (B B' : Blk), rows[i]? = some r' → r'.nb = some B → r.nb = some B' → r'.s.length = r.s.length → i = k := fun i r' B B' h1 h2 h3 h4 => t5 i k r' r B B' h1 hrow h2 h3 h4
  -- the values that it sees
  obtain ⟨l, hl⟩ : ∃ l : List Nat, ∀ t, t ∈ l ↔ Operand.tmp t ∈ r.o.op.operands.toList := ⟨r.o.op.operands.toList.filterMap fun | .tmp t => some t | _ => none, fun t => by
    rw [List.mem_filterMap]
    constructor
    · rintro ⟨x, hx, hxt⟩
      cases x <;> simp at hxt
      subst hxt
      exact hx
    · exact fun hx => ⟨_, hx, rfl⟩⟩
  let ε : Nat → PV := fun t => if t ∈ l then get r.e t else .unk
  have hε : ∀ t, .tmp t ∈ r.o.op.operands.toList → get r.e t = ε t := fun t ht => by simp only [ε]; rw [if_pos ((hl t).2 ht)]
  have he : ∀ t, (ε t).erep S (live σ) α w a.tmps (a.tmps.getD t undef) := fun t => by
    simp only [ε]
    split
    · rename_i hm; exact (hlook t (.inl ((hl t).1 hm))).1
    · simp only [PV.erep, PV.rep]
  have hholds : ∀ tmps', (∀ t, InL rows listed t → tmps'.getD t undef = a.tmps.getD t undef) → (hold tmps' r.g ↔ hold a.tmps r.g) := fun tmps' hs => hold_same fun t b hm => hs t (htags t b hm)
  have htv : ∀ (v : PV), ∀ g' c' p, wrapV r.g r.c v = .when g' c' p → ∀ t b, (t, b) ∈ g' → InL rows listed t := fun v g' c' p he => by
    rw [wrapV_when he]
    exact htags
  have hnwv : hasG all = false → ∀ (v : PV) g' c' p, wrapV r.g r.c v ≠ .when g' c' p := fun hg v g' c' p he => wrapV_nil (hng hg) he
  have hwp : ∀ K', wpOp P ops Q k K' a w = if Region.wanted r.o (yielded ops a.tmps) = true then r.o.wp P a w K' Q ∨ (r.o.asks P a w ∧ LetsOut Q) else K' (a.put r.o.dst undef) w := fun K' => by
    have : ops[k]? = some r.o := by
      rw [← Array.getElem?_toList, hall]
      exact hpos k r hrow
    simp only [wpOp, this]
  rw [hwp]
  -- passed over
  have idle : ∀ v, r.nb = none → r.v = wrapV r.g r.c v → ¬ hold a.tmps r.g → K (a.put r.o.dst undef) w := fun v hnb hv hn =>
    hK _ _ S α σ (h.put hnw0 hlo hrow hk hksz huniq hnt hlenr hids (Below.refl _ _) (fun _ x => x) (fun _ _ => rfl) (fun _ _ => rfl) (fun _ _ => rfl) (fun B hB => by rw [hnb] at hB; cases hB) h.rel (Moved.refl _ _ _ _)
      (fun tmps' hs => by rw [hv]; exact wrapV_idle (by rw [hholds tmps' hs]; exact hn)) (by rw [hv]; exact htv v) (fun hg => by rw [hv]; exact hnwv hg v))
  rcases hop with ⟨f, args, ds, rs, hc, hvw, hfn, hv, hnb⟩ | ⟨hc, C, v, hq, hC, hvv⟩
  · rcases hgo with ⟨hw, hh, hcc⟩ | ⟨hw, hn, _⟩
    · rw [if_pos hw]
      refine .inl ?_
      have hfn := hfn hcc
      rw [calleeQ_congr hε] at hc
      obtain ⟨vs, hrun, hvs⟩ := run_call he hh hc hfn.1
      unfold Oper.wp
      rw [hrun, Oper.upon_enter]
      have hv' := viewsV_rep h.rel (live sto0) (fun _ => default) args hvw (fun hb => by cases hb) hvs
      have hlt : ∀ b, (S b ∨ (false = true ∧ ∃ i, real σ α i ∧ (α i).b = b)) → b < w.heap.size := fun b hb => by
        rcases hb with hb | ⟨hb, _⟩
        · exact h.rel.slt b hb
        · cases hb
      refine (callD hfn hlt hv').mono ?_
      rintro ee w' ⟨vv, S', α', rfl, hvr, hb, hsub, hnew, hlt'⟩
      dsimp only
      have hsub' : ∀ b, S b → S' b := fun b hb => hsub b (.inl hb)
      have hnew' : ∀ b, S' b → S b ∨ w.heap.size ≤ b := fun b hb => (hnew b hb).imp (fun h => h.resolve_right fun h => by cases h.1) id
      refine hK _ _ S' α σ (h.put hnw0 hlo hrow hk hksz huniq hnt hlenr hids hb hsub' (fun _ _ => rfl) (fun _ _ => rfl) (fun _ _ => rfl) (fun B hB => by rw [hnb] at hB; cases hB) (h.rel.below hb hsub' hnew' hlt') (Moved.below hb hsub' hnew')
        (fun tmps' hs => ?_) (by rw [hv]; exact htv _) (fun hg => by rw [hv]; exact hnwv hg _))
      rw [hv, resPV_rep (S := S) (L := live sto0) (α := α) (w := w)]
      exact wrapV_erep ((hholds tmps' hs).2 hh) hcc (resP_dry hvr)
    · rw [if_neg (by rw [hw]; simp)]
      exact idle _ hnb hv hn
  · have hlim : ∀ id B, id < s0.length → nth r.s id = some B → σ id = B := fun id B hid hB => by
      rw [h.old id hid]
      rw [hnthr id hid] at hB
      exact lk_nth hB
    rw [opQ_congr hε] at hq
    rcases hvv with ⟨hnb, hv⟩ | ⟨hnb, hg0, hv⟩
    · rcases hgo with ⟨hw, hh, hcc⟩ | ⟨hw, hn, _⟩
      · rw [if_pos hw]
        refine .inl ?_
        rw [hnb] at hq
        have hfresh : ¬ live σ s'.length := by
          simp only [live]
          rw [h.out s'.length t1 (fun i r' B q1 q2 q3 => by have := (t3 i r' B q1 q2).2.1; omega)]
          simp [Blk.alive]
        obtain ⟨α', u, w', hrun, hb, hr', hmm, hα, hvr⟩ := opQ_ok h.rel hfresh hlim he hh (opQ_nid (nid' := s'.length) hq) (hC hcc)
        unfold Oper.wp
        rw [hrun, Oper.upon_value]
        simp only [Go.Ev.put] at hr' hmm hvr
        have hne : ∀ i, live σ i → i ≠ s'.length := fun i hi e => hfresh (e ▸ hi)
        refine hK _ _ S α' σ (h.put hnw0 hlo hrow hk hksz huniq hnt hlenr hids hb (fun _ x => x) (fun i hi => hα i (hne i hi)) (fun i hi => hα i (by omega)) (fun _ _ => rfl) (fun B hB => by rw [hnb] at hB; cases hB) hr' hmm
          (fun tmps' hs => ?_) (by rw [hv]; exact htv _) (fun hg => by rw [hv]; exact hnwv hg _))
        rw [hv]
        exact wrapV_erep ((hholds tmps' hs).2 hh) hcc hvr
      · rw [if_neg (by rw [hw]; simp)]
        exact idle _ hnb hv hn
    · rcases hgo with ⟨hw, hh, hcc⟩ | ⟨_, _, hne⟩
      · rw [if_pos hw]
        refine .inl ?_
        cases hB : r.nb with
        | none => exact absurd hB hnb
        | some B =>
        rw [hB] at hq
        have hfresh : ¬ live σ r.s.length := by
          simp only [live]
          rw [h.not k r B hrow hB hk]
          simp [Blk.alive]
        obtain ⟨α', u, w', hrun, hb, hr', hmm, hα, hvr⟩ := opQ_ok h.rel hfresh hlim he hh hq (hC hcc)
        unfold Oper.wp
        rw [hrun, Oper.upon_value]
        simp only [Go.Ev.put] at hr' hmm hvr
        have hne : ∀ i, live σ i → i ≠ r.s.length := fun i hi e => hfresh (e ▸ hi)
        refine hK _ _ S α' _ (h.put hnw0 hlo hrow hk hksz huniq hnt hlenr hids hb (fun _ x => x) (fun i hi => hα i (hne i hi)) (fun i hi => hα i (by omega)) (fun i hi => upd_other _ _ (hi B hB)) (fun B' hB' => ?_) hr' hmm
          (fun tmps' hs => ?_) (fun g c p hp => ?_) (fun hg g c p hp => ?_))
        · rw [hB] at hB'
          obtain rfl := Option.some.inj hB'
          exact upd_same _ _ _
        · rw [hv]
          exact erep_of_rep hvr
        · rw [hv] at hp
          exact absurd hp (rep_not_when hvr g c p)
        · rw [hv] at hp
          exact absurd hp (rep_not_when hvr g c p)
      · exact absurd hg0 hne
end
end Go.Ev

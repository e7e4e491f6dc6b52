/- The operations of a region in the order of the text. -/
import Derived.Test.YtnhpgmmhfgdmjaaGreatEvM
set_option linter.unusedVariables false
set_option linter.unusedSimpArgs false
namespace Go.Ev
open Go.RowKit

section
variable {P : Program} {H : Hints} {A : Nat → Option Loc} {all : List Oper} {ops : Array Oper}

theorem wrapV_when {g : List (Tmp × Bool)} {c : Prop} {v : PV} {g' : List (Tmp × Bool)} {c' : Prop} {p : PV} (h : wrapV g c v = .when g' c' p) : g' = g := by
  unfold wrapV at h
  split at h
  · cases h
  · rename_i hv
    split at h
    · exact absurd h (by intro e; exact hv _ _ _ e)
    · simp only [PV.when.injEq] at h
      exact h.1.symm
theorem rep_not_when {S L : Nat → Prop} {α : Nat → Loc} {w : World} {v : PV} {u : Value} (h : v.rep S L α w u) : ∀ g c p, v ≠ .when g c p := by
  rintro g c p rfl
  simp [PV.rep] at h
theorem erep_of_rep {S L : Nat → Prop} {α : Nat → Loc} {w : World} {tmps : Array Value} {v : PV} {u : Value} (h : v.rep S L α w u) : v.erep S L α w tmps u := by
  cases v <;> first | exact h | (simp [PV.rep] at h)
theorem wrapV_erep {S L : Nat → Prop} {α : Nat → Loc} {w : World} {tmps : Array Value} {g : List (Tmp × Bool)} {c : Prop} {v : PV} {u : Value} (hg : hold tmps g) (hc : c) (h : v.rep S L α w u) : (wrapV g c v).erep S L α w tmps u := by
  unfold wrapV
  split
  · simp only [PV.erep, PV.rep]
  · split
    · exact erep_of_rep h
    · simp only [PV.erep]
      exact ⟨fun _ => ⟨hc, h⟩, fun hn => absurd hg hn⟩
theorem wrapV_idle {S L : Nat → Prop} {α : Nat → Loc} {w : World} {tmps : Array Value} {g : List (Tmp × Bool)} {c : Prop} {v : PV} (hg : ¬ hold tmps g) : (wrapV g c v).erep S L α w tmps undef := by
  unfold wrapV
  split
  · simp only [PV.erep, PV.rep]
  · split
    · exact absurd (fun _ _ h => by cases h) hg
    · simp only [PV.erep]
      exact ⟨fun hh => absurd hh hg, fun _ => trivial⟩

theorem resPV_rep {S L : Nat → Prop} {α : Nat → Loc} {w : World} {rs : List DV} : resPV rs = resP (rs.map .d) := by
  cases rs with
  | nil => rfl
  | cons x xs => cases xs <;> rfl

theorem opQ_not_when {wr : Bool} {o : Op} {ε : Nat → PV} {g : List (Tmp × Bool)} {s : Store} {lim nid : Nat} : True := trivial

theorem clo_rep {S L : Nat → Prop} {α : Nat → Loc} {w : World} {fn : Go.Fn} {a b : List PV} {v : Value} : (PV.clo fn a b).rep S L α w v ↔ ∃ us vs : List Value, v = .func fn us.toArray vs.toArray ∧ prepL S L α w a us ∧ prepL S L α w b vs := by
  simp only [PV.rep]
mutual
/-- A view of a value. -/
theorem viewV_rep {S : Nat → Prop} {α : Nat → Loc} {w : World} {s : Store} {σ : Sto} (hr : RelS S α σ w) (L' : Nat → Prop) (α' : Nat → Loc) : ∀ (p : PV) {x : PV} {b : Bool} {v : Value}, viewV s p = some (x, b) → (b = true → ∀ id B, nth s id = some B → σ id = B) → p.rep S (live σ) α w v →
    x.rep (fun k => S k ∨ (b = true ∧ ∃ i, real σ α i ∧ (α i).b = k)) L' α' w v
  | .d y, x, b, v, h, hlim, hp => by
    simp only [viewV, Option.some.injEq, Prod.mk.injEq] at h
    obtain ⟨rfl, rfl⟩ := h
    simp only [PV.rep] at hp ⊢
    exact DV.rep_mono (fun _ h => .inl h) (fun _ _ => rfl) _ _ hp
  | .rptr cs, x, b, v, h, hlim, hp => by
    simp only [viewV, Option.some.injEq, Prod.mk.injEq] at h
    obtain ⟨rfl, rfl⟩ := h
    simp only [PV.rep] at hp ⊢
    obtain ⟨b, off, us, rfl, h1, h2, h3⟩ := hp
    exact ⟨b, off, us, rfl, .inl h1, h2, repL_mono (fun _ h => .inl h) (fun _ _ => rfl) _ _ h3⟩
  | .agg cs, x, b, v, h, hlim, hp => by
    simp only [viewV] at h
    cases hq : viewsV s cs with
    | none => rw [hq] at h; cases h
    | some y =>
      obtain ⟨ps, b'⟩ := y
      rw [hq] at h
      simp only [vAgg] at h
      obtain ⟨ds, hd, he⟩ := Option.map_eq_some_iff.1 h
      simp only [Prod.mk.injEq] at he
      obtain ⟨rfl, rfl⟩ := he
      simp only [PV.rep] at hp
      obtain ⟨vs, rfl, h0, hvs⟩ := hp
      simp only [PV.rep, DV.rep]
      exact ⟨vs, rfl, allD_rep hd (viewsV_rep hr L' α' cs hq hlim hvs) h0⟩
  | .clo fn fs cs, x, b, v, h, hlim, hp => by
    simp only [viewV] at h
    cases hq : viewsV s fs with
    | none => rw [hq] at h; simp [vClo] at h
    | some y =>
      cases hq' : viewsV s cs with
      | none => rw [hq, hq'] at h; simp [vClo] at h
      | some z =>
        obtain ⟨ps, b1⟩ := y
        obtain ⟨qs, b2⟩ := z
        rw [hq, hq'] at h
        simp only [vClo, Option.some.injEq, Prod.mk.injEq] at h
        obtain ⟨rfl, rfl⟩ := h
        rw [clo_rep] at hp ⊢
        obtain ⟨us, vs, rfl, h1, h2⟩ := hp
        exact ⟨us, vs, rfl, prepL_mono (fun k hk => hk.imp id fun hk => ⟨by simp [hk.1], hk.2⟩) (fun _ _ => rfl) (fun i hi => ⟨hi, rfl, fun _ => rfl⟩) _ _ (viewsV_rep hr L' α' fs hq (fun hb => hlim (by simp [hb])) h1), prepL_mono (fun k hk => hk.imp id fun hk => ⟨by simp [hk.1], hk.2⟩) (fun _ _ => rfl) (fun i hi => ⟨hi, rfl, fun _ => rfl⟩) _ _ (viewsV_rep hr L' α' cs hq' (fun hb => hlim (by simp [hb])) h2)⟩
  | .ptr id off, x, b, v, h, hlim, hp => by
    simp only [viewV] at h
    cases hn : nth s id with
    | none => rw [hn] at h; cases h
    | some B =>
      rw [hn] at h
      cases B with
      | box cs =>
        simp only [vPtr] at h
        cases hd : allD cs with
        | none => rw [hd] at h; cases h
        | some ds =>
          rw [hd] at h
          simp only [vPtr2] at h
          obtain ⟨us, hu, he⟩ := Option.map_eq_some_iff.1 h
          simp only [Prod.mk.injEq] at he
          obtain ⟨rfl, rfl⟩ := he
          simp only [PV.rep] at hp ⊢
          obtain ⟨hl, hnn, rfl⟩ := hp
          obtain ⟨_, vs, t, fr, hb, _, h1, h2⟩ := box_of hr (hlim rfl _ _ hn)
          obtain ⟨k1, k2⟩ := repL_drop (allD_rep hd h2 h1) hu
          have hc := cells_of_block hb off (vs.length - off)
          have e : (vs.drop off).take (vs.length - off) = vs.drop off := List.take_of_length_le (by simp)
          rw [e] at hc
          exact ⟨_, _, _, rfl, .inr ⟨trivial, id, ⟨hl, hnn⟩, rfl⟩, hc, repL_mono (fun _ h => .inl h) (fun _ _ => rfl) _ _ k1⟩
      | dead => cases h
      | arr e sz n f => cases h
  | .own id off len, x, b, v, h, hlim, hp => by
    simp only [viewV] at h
    cases hn : nth s id with
    | none => rw [hn] at h; cases h
    | some B =>
      rw [hn] at h
      cases B with
      | arr e sz n f =>
        simp only [vOwn] at h
        split at h
        · rename_i hc
          obtain ⟨rfl, rfl⟩ := hc
          simp only [Option.some.injEq, Prod.mk.injEq] at h
          obtain ⟨rfl, rfl⟩ := h
          simp only [PV.rep] at hp ⊢
          obtain ⟨hl, ⟨_, _, rfl, rfl⟩ | ⟨hnn, x, cap, rfl, hcap, hft, hx, ee, nn, hsh, hnn2⟩⟩ := hp
          · simp only [DV.rep]
            exact ⟨none, 0, rfl, Nat.le_refl _, by unfold fits; omega, fun h => by omega⟩
          · obtain ⟨hsz, ⟨hno, rfl⟩ | ⟨_, us, fr, hb, _, hfit, hel⟩⟩ := arr_of hr (hlim rfl _ _ hn)
            · rw [hno] at hnn; cases hnn
            · simp only [DV.rep]
              refine ⟨_, cap, rfl, hcap, hft, fun h0 => ⟨(α id).b, x, rfl, .inr ⟨trivial, id, ⟨hl, hnn⟩, rfl⟩, fun i hi => ?_⟩⟩
              obtain ⟨u, h1, h2, h3⟩ := hel i hi
              refine ⟨u, h1, ?_, DV.rep_mono (fun _ h => .inl h) (fun _ _ => rfl) _ _ h3⟩
              rw [hx (by omega), Nat.zero_mul, Nat.add_zero]
              exact h2
        · cases h
      | dead => cases h
      | box cs => cases h
  | .unk, x, b, v, h, hlim, hp => by simp [viewV] at h
  | .eptr .., x, b, v, h, hlim, hp => by simp [viewV] at h
  | .tup _, x, b, v, h, hlim, hp => by simp [viewV] at h
  | .ifc .., x, b, v, h, hlim, hp => by simp [viewV] at h
  | .when .., x, b, v, h, hlim, hp => by simp [viewV] at h
theorem viewsV_rep {S : Nat → Prop} {α : Nat → Loc} {w : World} {s : Store} {σ : Sto} (hr : RelS S α σ w) (L' : Nat → Prop) (α' : Nat → Loc) : ∀ (ps : List PV) {xs : List PV} {b : Bool} {vs : List Value}, viewsV s ps = some (xs, b) → (b = true → ∀ id B, nth s id = some B → σ id = B) → prepL S (live σ) α w ps vs →
    prepL (fun k => S k ∨ (b = true ∧ ∃ i, real σ α i ∧ (α i).b = k)) L' α' w xs vs
  | [], xs, b, vs, h, hlim, hp => by
    simp only [viewsV, Option.some.injEq, Prod.mk.injEq] at h
    obtain ⟨rfl, rfl⟩ := h
    simpa only [prepL] using hp
  | p :: ps, xs, b, vs, h, hlim, hp => by
    simp only [prepL] at hp
    obtain ⟨u, us, rfl, h1, h2⟩ := hp
    simp only [viewsV] at h
    cases hq : viewV s p with
    | none => rw [hq] at h; simp [vCons] at h
    | some y =>
      cases hq' : viewsV s ps with
      | none => rw [hq, hq'] at h; simp [vCons] at h
      | some z =>
        obtain ⟨x, b1⟩ := y
        obtain ⟨xs', b2⟩ := z
        rw [hq, hq'] at h
        simp only [vCons, Option.some.injEq, Prod.mk.injEq] at h
        obtain ⟨rfl, rfl⟩ := h
        simp only [prepL]
        exact ⟨u, us, rfl, PV.rep_mono (fun k hk => hk.imp id fun hk => ⟨by simp [hk.1], hk.2⟩) (fun _ _ => rfl) (fun i hi => ⟨hi, rfl, fun _ => rfl⟩) _ _ (viewV_rep hr L' α' p hq (fun hb => hlim (by simp [hb])) h1), prepL_mono (fun k hk => hk.imp id fun hk => ⟨by simp [hk.1], hk.2⟩) (fun _ _ => rfl) (fun i hi => ⟨hi, rfl, fun _ => rfl⟩) _ _ (viewsV_rep hr L' α' ps hq' (fun hb => hlim (by simp [hb])) h2)⟩
end

theorem flat_rep {S S' : Nat → Prop} {w w' : World} {d : DV} {v : Value} (hf : d.flat = true) (h : d.rep S w v) : d.rep S' w' v := by
  cases d <;> first | (simp [DV.flat] at hf; done) | simpa only [DV.rep] using h
theorem flats_rep {S S' : Nat → Prop} {w w' : World} {L L' : Nat → Prop} {α α' : Nat → Loc} : ∀ {ds : List DV} {vs : List Value}, ds.all DV.flat = true → prepL S L α w (ds.map .d) vs → prepL S' L' α' w' (ds.map .d) vs
  | [], vs, _, h => by simpa only [List.map_nil, prepL] using h
  | d :: ds, vs, hf, h => by
    simp only [List.all_cons, Bool.and_eq_true] at hf
    simp only [List.map_cons, prepL, PV.rep] at h ⊢
    obtain ⟨u, us, rfl, h1, h2⟩ := h
    exact ⟨u, us, rfl, flat_rep hf.1 h1, flats_rep hf.2 h2⟩
theorem resP_flat {S S' : Nat → Prop} {w w' : World} {L L' : Nat → Prop} {α α' : Nat → Loc} {ds : List DV} {v : Value} (hf : ds.all DV.flat = true) (h : (resP (ds.map .d)).rep S L α w v) : (resP (ds.map .d)).rep S' L' α' w' v := by
  have key : ∀ (ps : List PV) (v : Value), (resP ps).rep S L α w v → (∀ {vs}, prepL S L α w ps vs → prepL S' L' α' w' ps vs) → (resP ps).rep S' L' α' w' v := by
    clear h
    intro ps v h hm
    match ps with
    | [x] =>
      simp only [resP] at h ⊢
      have := hm (vs := [v]) (by simp only [prepL]; exact ⟨v, [], rfl, h, rfl⟩)
      simp only [prepL] at this
      obtain ⟨u, us, he, hx, _⟩ := this
      simp only [List.cons.injEq] at he
      rw [he.1]
      exact hx
    | [] =>
      simp only [resP, PV.rep] at h ⊢
      obtain ⟨vs, rfl, h⟩ := h
      exact ⟨vs, rfl, hm h⟩
    | x :: y :: l =>
      simp only [resP, PV.rep] at h ⊢
      obtain ⟨vs, rfl, h⟩ := h
      exact ⟨vs, rfl, hm h⟩
  exact key _ _ h (fun h => flats_rep hf h)

theorem run_callFunc {f : FuncId} {args : Array Value} {w : World} (h : callable P f) : (callFunc f args).run P w = .ok (.enter f args) w := by
  obtain ⟨fn, h1, h2, h3⟩ := h
  have h2' : fn.name ≠ "runtime.NumGoroutine" := by simpa using h2
  have h3' : fn.body ≠ none := by rintro e; rw [e] at h3; cases h3
  simp [callFunc, h1, h2', h3']

/-- The operation of a call, run. -/
theorem run_call {S L : Nat → Prop} {α : Nat → Loc} {w : World} {a : Act} {ε : Nat → PV} {g : List (Tmp × Bool)} (he : ∀ t, (ε t).erep S L α w a.tmps (a.tmps.getD t undef)) (hg : hold a.tmps g) {o : Oper} {f : FuncId} {args : List PV} (h : calleeQ ε g o.op = some (f, args)) (hf : callable P f) :
    ∃ vs : List Value, (execOp a.eval o).run P w = .ok (.enter f vs.toArray) w ∧ prepL S L α w args vs := by
  obtain ⟨dst, op, type, pos, after, guard⟩ := o
  dsimp only at h
  cases op <;> simp only [calleeQ, reduceCtorEq] at h
  rename_i c
  obtain ⟨callee, cargs, ats⟩ := c
  dsimp only at h
  cases callee <;> simp only [reduceCtorEq] at h
  rename_i x
  have hx := opnd_rep he hg x
  unfold calleeV at h
  split at h
  · rename_i f' fs cs hq
    rw [hq] at hx
    simp only [PV.rep] at hx
    obtain ⟨us, vs, hu, h1, h2⟩ := hx
    simp only [Option.some.injEq, Prod.mk.injEq] at h
    obtain ⟨rfl, rfl⟩ := h
    refine ⟨us ++ cargs.toList.map a.eval ++ vs, ?_, ?_⟩
    · simp only [execOp, resolve, hu, Deferred.ofValue, Sem.run_bind, Sem.run_pure, Result.andThen_ok, invoke]
      have := run_callFunc (P := P) (args := us.toArray ++ cargs.map a.eval ++ vs.toArray) (w := w) hf
      rw [this]
      congr 2
      rw [← map_toArray]
      simp
    · have happ : ∀ {p q : List PV} {x y : List Value}, prepL S L α w p x → prepL S L α w q y → prepL S L α w (p ++ q) (x ++ y) := by
        intro p
        induction p with
        | nil => intro q x y h1 h2; simp only [prepL] at h1; subst h1; exact h2
        | cons p ps ih =>
          intro q x y h1 h2
          simp only [prepL] at h1
          obtain ⟨u, us, rfl, h3, h4⟩ := h1
          simp only [List.cons_append, prepL]
          exact ⟨u, _, rfl, h3, ih h4 h2⟩
      exact happ (happ h1 (opnds_rep he hg cargs.toList)) h2
  · cases h

/-- What a function of values alone does, called with views. -/
theorem callD {P : Program} {f : FuncId} {args : List PV} {rs : List DV} (hf : FnD P f args rs) {S : Nat → Prop} {w : World} (hlt : ∀ b, S b → b < w.heap.size) {vals : List Value} (hv : prepL S (live sto0) (fun _ => default) w args vals) :
    Calls P f vals.toArray w fun e w' => ∃ v S' α', e = .returned v ∧ (resP (rs.map .d)).rep S' (live sto0) α' w' v ∧ Below w.heap.size w w' ∧ (∀ b, S b → S' b) ∧ (∀ b, S' b → S b ∨ w.heap.size ≤ b) ∧ (∀ b, S' b → b < w'.heap.size) := by
  have hno : ∀ α i, ¬ real sto0 α i := fun α i h => by simp [real, live, sto0, Blk.alive] at h
  have hr : RelS S (fun _ => default) sto0 w := ⟨fun _ => trivial, fun i _ hi => absurd hi (hno _ _), fun i hi => absurd hi (hno _ _), hlt⟩
  refine (hf.2 S _ w vals hr hv).mono ?_
  rintro e w' ⟨r, σ', S', α', ⟨rfl, rfl⟩, he, hr', hm, _⟩
  obtain ⟨v, rfl, hv⟩ := he
  refine ⟨v, S', α', rfl, hv, ⟨hm.os, hm.tape, hm.output, hm.size, fun k hk => hm.same k hk fun i hi => absurd hi (hno _ _)⟩, hm.sub, fun b hb => ?_, hr'.slt⟩
  rcases hm.new b hb with h | h | ⟨j, hj, _⟩
  · exact .inl h
  · exact .inr h
  · exact absurd hj (hno _ _)

theorem get_clean (e : Env) : ∀ t, get (clean e) t = get e t ∨ get (clean e) t = .unk := by
  induction e with
  | nil => intro t; exact .inl rfl
  | cons x e ih =>
    intro t
    obtain ⟨u, p⟩ := x
    cases p <;> simp only [clean, get] <;> split <;> first | exact .inl rfl | exact .inr rfl | exact ih t
theorem clean_erep {S L : Nat → Prop} {α : Nat → Loc} {w : World} {tmps : Array Value} {e : Env} (b : Bool) (he : ∀ t, (get e t).erep S L α w tmps (tmps.getD t undef)) (t : Nat) : (get (cleanIf b e) t).erep S L α w tmps (tmps.getD t undef) := by
  unfold cleanIf
  split
  · rcases get_clean e t with h | h <;> rw [h]
    · exact he t
    · simp only [PV.erep, PV.rep]
  · exact he t

/-! ### Behind a call that writes -/
theorem boxKept_lk : ∀ {s s' : Store}, boxKept s s' = true → ∀ i, Blk.isBox (nth s i) = true → ∃ cs, lk s' i = .box cs
  | [], _, _, i, h => by simp [nth, Blk.isBox] at h
  | b :: s, s', hk, 0, h => by
    simp only [nth, if_true] at h
    unfold Blk.isBox at h
    split at h
    · rename_i cs hb
      obtain rfl := Option.some.inj hb
      cases s' with
      | nil => cases hk
      | cons c s' =>
        cases c <;> simp only [boxKept] at hk <;> first | (cases hk; done) | exact ⟨_, rfl⟩
    · cases h
  | b :: s, s', hk, i + 1, h => by
    have h' : Blk.isBox (nth s i) = true := by simpa [nth] using h
    cases s' with
    | nil => cases b <;> cases hk
    | cons c s' =>
      have hk' : boxKept s s' = true := by
        cases b <;> cases c <;> simp only [boxKept] at hk <;> first | exact hk | (cases hk; done)
      obtain ⟨cs, hcs⟩ := boxKept_lk hk' i h'
      exact ⟨cs, by simpa [lk, nth] using hcs⟩
section
variable {S S' : Nat → Prop} {α α' : Nat → Loc} {w w' : World} {s s' : Store}
mutual
theorem keep_rep (hs : ∀ b, S b → S' b) (hw : ∀ b, S b → w'.heap[b]? = w.heap[b]?) (hk : ∀ i, Blk.isBox (nth s i) = true → live (lk s') i ∧ α' i = α i) : ∀ (p : PV) (v : Value), p.rep S (live (lk s)) α w v → (p.keep s).rep S' (live (lk s')) α' w' v
  | .unk, _, _ => by simp only [PV.keep, PV.rep]
  | .d x, v, h => by simp only [PV.keep, PV.rep] at h ⊢; exact x.rep_mono hs hw v h
  | .own .., _, _ => by simp only [PV.keep, PV.rep]
  | .eptr .., _, _ => by simp only [PV.keep, PV.rep]
  | .ptr id off, v, h => by
    simp only [PV.keep]
    cases hb : Blk.isBox (nth s id) with
    | false => simp only [keepPtr, PV.rep]
    | true =>
      obtain ⟨k1, k2⟩ := hk id hb
      simp only [keepPtr, PV.rep] at h ⊢
      rw [k2]
      exact ⟨k1, h.2⟩
  | .rptr cs, v, h => by
    simp only [PV.keep, PV.rep] at h ⊢
    obtain ⟨b, off, us, rfl, h1, h2, h3⟩ := h
    exact ⟨b, off, us, rfl, hs b h1, cellsAt_same (hw b h1) h2, repL_mono hs hw cs us h3⟩
  | .agg cs, v, h => by
    simp only [PV.keep, PV.rep] at h ⊢
    obtain ⟨vs, rfl, h0, h1⟩ := h
    exact ⟨vs, rfl, h0, keepL_rep hs hw hk cs vs h1⟩
  | .tup cs, v, h => by
    simp only [PV.keep, PV.rep] at h ⊢
    obtain ⟨vs, rfl, h1⟩ := h
    exact ⟨vs, rfl, keepL_rep hs hw hk cs vs h1⟩
  | .clo fn a b, v, h => by
    simp only [PV.keep, PV.rep] at h ⊢
    obtain ⟨us, vs, rfl, h1, h2⟩ := h
    exact ⟨us, vs, rfl, keepL_rep hs hw hk a us h1, keepL_rep hs hw hk b vs h2⟩
  | .ifc t p, v, h => by
    simp only [PV.keep, PV.rep] at h ⊢
    obtain ⟨u, rfl, h1⟩ := h
    exact ⟨u, rfl, keep_rep hs hw hk p u h1⟩
  | .when .., v, h => by simp only [PV.rep] at h
theorem keepL_rep (hs : ∀ b, S b → S' b) (hw : ∀ b, S b → w'.heap[b]? = w.heap[b]?) (hk : ∀ i, Blk.isBox (nth s i) = true → live (lk s') i ∧ α' i = α i) : ∀ (ps : List PV) (vs : List Value), prepL S (live (lk s)) α w ps vs → prepL S' (live (lk s')) α' w' (keepL s ps) vs
  | [], _, h => by simpa only [keepL, prepL] using h
  | p :: ps, _, h => by
    simp only [keepL, prepL] at h ⊢
    obtain ⟨u, us, rfl, h1, h2⟩ := h
    exact ⟨u, us, rfl, keep_rep hs hw hk p u h1, keepL_rep hs hw hk ps us h2⟩
end
theorem keep_erep (hs : ∀ b, S b → S' b) (hw : ∀ b, S b → w'.heap[b]? = w.heap[b]?) (hk : ∀ i, Blk.isBox (nth s i) = true → live (lk s') i ∧ α' i = α i) {tmps : Array Value} {p : PV} {v : Value} (h : p.erep S (live (lk s)) α w tmps v) : (p.keep s).erep S' (live (lk s')) α' w' tmps v := by
  cases p with
  | when g c q =>
    simp only [PV.keep, PV.erep] at h ⊢
    exact ⟨fun hh => ⟨(h.1 hh).1, keep_rep hs hw hk q v (h.1 hh).2⟩, h.2⟩
  | ptr id off =>
    have h' : (PV.ptr id off).rep S (live (lk s)) α w v := h
    exact erep_of_rep (keep_rep hs hw hk _ v h')
  | _ =>
    refine erep_of_rep (keep_rep hs hw hk _ v ?_)
    simpa only [PV.erep] using h
end
theorem get_keep (s : Store) : ∀ (e : Env) (t : Nat), get (keepE s e) t = (get e t).keep s
  | [], t => by simp [keepE, get, PV.keep]
  | (u, p) :: e, t => by
    simp only [keepE, get]
    split
    · rfl
    · exact get_keep s e t
theorem keep_when {s : Store} {p : PV} {g : List (Tmp × Bool)} {c : Prop} {q : PV} (h : p.keep s = .when g c q) : ∃ q', p = .when g c q' := by
  cases p <;> simp only [PV.keep] at h <;> first | (cases h; done) | skip
  · rename_i id off
    cases hb : Blk.isBox (nth s id) <;> rw [hb] at h <;> cases h
  · simp only [PV.when.injEq] at h
    obtain ⟨rfl, rfl, _⟩ := h
    exact ⟨_, rfl⟩
theorem keep_tags {s : Store} {e : Env} {done : List Oper} (ht : Tagged done e) : Tagged done (keepE s e) := by
  intro u g c p hp t b hm
  rw [get_keep] at hp
  obtain ⟨q, hq⟩ := keep_when hp
  exact ht u g c q hq t b hm
theorem keep_nw {s : Store} {e : Env} (hn : NoWhen e) : NoWhen (keepE s e) := by
  intro u g c p hp
  rw [get_keep] at hp
  obtain ⟨q, hq⟩ := keep_when hp
  exact hn u g c q hq

section
variable {P : Program} {H : Hints} {A : Nat → Option Loc} {all : List Oper} {ops : Array Oper} {Q : Post} {S0 : Nat → Prop} {α0 : Nat → Loc} {σ0 : Sto} {w0 : World}

/-- A quiet call that was not made, or any operation that is passed over. -/
theorem put_state {S : Nat → Prop} {α : Nat → Loc} {e e' : Env} {s s' : Store} {a : Act} {w w' : World} {S' : Nat → Prop} {α' : Nat → Loc} {done : List Oper} {o : Oper} {v : PV} {u : Value}
    (hst : State A H S α e s a w) (ht : Tagged done e') (hreg : ∀ d, o.dst = some d → d < H.nt ∧ ∀ x ∈ done, x.dst ≠ some d) (hr : RelS S' α' (lk s') w') (hpin : PinOk A H.lo α' s') (hlo : H.lo ≤ s'.length)
    (he : ∀ t, (get e' t).erep S' (live (lk s')) α' w' a.tmps (a.tmps.getD t undef)) (hv : ∀ tmps', (∀ t, (∃ x ∈ done, x.dst = some t) → tmps'.getD t undef = a.tmps.getD t undef) → v.erep S' (live (lk s')) α' w' tmps' u)
    (htv : ∀ g c p, v = .when g c p → ∀ t b, (t, b) ∈ g → ∃ x ∈ done, x.dst = some t) : State A H S' α' (setD e' o.dst v) s' (a.put o.dst u) w' ∧ Tagged (done ++ [o]) (setD e' o.dst v) := by
  obtain ⟨k1, k2⟩ := env_put he ht (fun d hd => ⟨by rw [hst.size]; exact (hreg d hd).1, (hreg d hd).2⟩) hv htv
  refine ⟨⟨⟨hr, k1, ?_, ?_⟩, hpin, hlo⟩, k2⟩
  · rw [← hst.size]
    cases o.dst <;> simp [Act.put]
  · rw [← hst.defers]
    cases o.dst <;> rfl

theorem hold_same {tmps tmps' : Array Value} {g : List (Tmp × Bool)} (h : ∀ t b, (t, b) ∈ g → tmps'.getD t undef = tmps.getD t undef) : hold tmps' g ↔ hold tmps g := by
  constructor <;> intro hh t b hm
  · rw [← h t b hm]; exact hh t b hm
  · rw [h t b hm]; exact hh t b hm

theorem pin_append {α : Nat → Loc} {s : Store} {B : Blk} {α' : Nat → Loc} {lo : Nat} (hp : PinOk A lo α s) (hlo : lo ≤ s.length) (hα : ∀ i, i < s.length → α' i = α i) : PinOk A lo α' (s ++ [B]) := by
  intro i l hi
  obtain ⟨h1, h2, h3⟩ := hp i l hi
  refine ⟨h1, by rw [hα i (by omega)]; exact h2, ?_⟩
  rw [lk_append, upd_other _ _ (by omega)]
  exact h3

theorem kill_when {id : Nat} {p : PV} {g : List (Tmp × Bool)} {c : Prop} {q : PV} (h : p.kill id = .when g c q) : ∃ q', p = .when g c q' := by
  cases p <;> simp only [PV.kill] at h <;> first | (cases h; done) | skip
  all_goals first | (split at h <;> cases h; done) | skip
  simp only [PV.when.injEq] at h
  obtain ⟨rfl, rfl, _⟩ := h
  exact ⟨_, rfl⟩
theorem eff_env {o : Op} {e e' : Env} {s s' : Store} {C : Prop} {v : PV} (h : effQ P o e s = .ok C v e' s') : e' = e ∨ ∃ id, e' = killE id e := by
  cases o <;> simp only [effQ, reduceCtorEq] at h
  · unfold storeQ at h
    repeat' split at h
    all_goals first | (cases h; done) | (simp only [ER.ok.injEq] at h; exact .inl h.2.2.1.symm)
  · split at h
    · split at h
      · unfold appendQ at h
        repeat' split at h
        all_goals first | (cases h; done) | (simp only [ER.ok.injEq] at h; first | exact .inl h.2.2.1.symm | exact .inr ⟨_, h.2.2.1.symm⟩)
      · cases h
    · cases h

theorem eff_tags {o : Op} {e e' : Env} {s s' : Store} {C : Prop} {v : PV} {done : List Oper} (h : effQ P o e s = .ok C v e' s') (ht : Tagged done e) : Tagged done e' := by
  rcases eff_env h with rfl | ⟨id, rfl⟩
  · exact ht
  · intro u g c p hp t b hm
    rw [get_kill] at hp
    obtain ⟨q, hq⟩ := kill_when hp
    exact ht u g c q hq t b hm
theorem hasG_none : ∀ {l : List Oper} {o : Oper}, hasG l = false → o ∈ l → o.guard = none
  | [], _, _, h => by cases h
  | x :: l, o, hg, h => by
    simp only [hasG, Bool.or_eq_false_iff, Option.isSome_eq_false_iff, Option.isNone_iff_eq_none] at hg
    rcases List.mem_cons.1 h with rfl | h
    · exact hg.1
    · exact hasG_none hg.2 h
theorem wrapV_nil {g : List (Tmp × Bool)} {c : Prop} {v : PV} (hg : g = []) {g' : List (Tmp × Bool)} {c' : Prop} {p : PV} : wrapV g c v ≠ .when g' c' p := by
  subst hg
  intro h
  unfold wrapV at h
  split at h
  · cases h
  · rename_i hv
    exact hv _ _ _ h
theorem nw_setD {e : Env} {d : Option Tmp} {v : PV} (h : NoWhen e) (hv : ∀ g c p, v ≠ .when g c p) : NoWhen (setD e d v) := by
  intro u g c p
  cases d with
  | none => exact h u g c p
  | some d =>
    rw [get_setD]
    split
    · exact hv g c p
    · exact h u g c p
theorem get_clean_nw : ∀ (e : Env), NoWhen (clean e)
  | [], u, g, c, p => by simp [clean, get]
  | (t, q) :: e, u, g, c, p => by
    have ih := get_clean_nw e u g c p
    cases q <;> simp only [clean, get] <;> split <;> first | exact ih | simp
theorem clean_nw {e : Env} {b : Bool} (h : b = false → NoWhen e) : NoWhen (cleanIf b e) := by
  cases b with
  | true => exact get_clean_nw e
  | false => exact h rfl
theorem eff_nw {o : Op} {e e' : Env} {s s' : Store} {C : Prop} {v : PV} (h : effQ P o e s = .ok C v e' s') (hn : NoWhen e) : NoWhen e' := by
  have ht : Tagged [] e := fun u g c p hp => absurd hp (hn u g c p)
  intro u g c p hp
  have key : e' = e ∨ ∃ id, e' = killE id e := eff_env h
  rcases key with rfl | ⟨id, rfl⟩
  · exact hn u g c p hp
  · rw [get_kill] at hp
    obtain ⟨q, hq⟩ := kill_when hp
    exact hn u g c q hq
theorem factV_ok {S L : Nat → Prop} {α : Nat → Loc} {w : World} {p : PV} {v : Value} (h : p.rep S L α w v) : factV p := by
  unfold factV
  split
  · simp only [PV.rep, DV.rep] at h; exact h.2
  · simp only [PV.rep, DV.rep] at h; obtain ⟨_, _, _, _, h, _⟩ := h; exact h
  · simp only [PV.rep] at h
    rcases h.2 with ⟨_, _, rfl, _⟩ | ⟨_, _, _, _, _, h, _⟩
    · unfold fits; omega
    · exact h
  · trivial
theorem lenFact_ok {S L : Nat → Prop} {α : Nat → Loc} {w : World} {a : Act} {ε : Nat → PV} {g : List (Tmp × Bool)} {o : Op} (he : ∀ t, (ε t).erep S L α w a.tmps (a.tmps.getD t undef)) (hg : hold a.tmps g) : lenFact ε g o := by
  unfold lenFact
  split
  · split
    · exact factV_ok (opnd_rep he hg _)
    · trivial
  · trivial
theorem lenFact_idle {tmps : Array Value} {ε : Nat → PV} {g : List (Tmp × Bool)} {o : Op} (hg : ¬ hold tmps g) : lenFact ε g o := by
  unfold lenFact
  split
  · exact absurd (fun _ _ h => by cases h) hg
  · trivial
theorem lk_one (B : Blk) (i : Nat) : lk [B] i = if i = 0 then B else .dead := by
  cases i with
  | zero => rfl
  | succ i => simp [lk, nth_eq]
/-- A function over one slice of ours, called where there is more. -/
theorem fnB_step {f : FuncId} {e sz n : Nat} {g : Nat → DV} {xs : List DV} {n' : Nat} {g' : Nat → DV} (h : FnB P f e sz n g xs n' g') {s : Store} {id : Nat} (hid : nth s id = some (.arr e sz n g)) {S : Nat → Prop} {α : Nat → Loc} {w : World} {vals : List Value}
    (hr : RelS S α (lk s) w) (hv : prepL S (live (lk s)) α w (.own id 0 n :: xs.map .d) vals) : Calls P f vals.toArray w fun ed w' => ∃ S' α' v, ed = .returned v ∧ (PV.own id 0 n').rep S' (live (lk (setN (killS id s) id (.arr e sz n' g')))) α' w' v ∧ RelS S' α' (lk (setN (killS id s) id (.arr e sz n' g'))) w' ∧
      Moved S α (lk s) w S' α' (lk (setN (killS id s) id (.arr e sz n' g'))) w' ∧ KeptBut id (live (lk s)) (live (lk (setN (killS id s) id (.arr e sz n' g')))) α α' w w' ∧ (∀ i, i ≠ id → α' i = α i) := by
  have hl : lk s id = .arr e sz n g := lk_nth hid
  have hlive : live (lk s) id := by simp [live, hl, Blk.alive]
  let α1 : Nat → Loc := fun _ => α id
  have hone : ∀ i, live (lk [Blk.arr e sz n g]) i → i = 0 := fun i hi => by
    unfold live at hi
    rw [lk_one] at hi
    split at hi
    · assumption
    · simp [Blk.alive] at hi
  have hr1 : RelS S α1 (lk [Blk.arr e sz n g]) w := by
    refine ⟨fun i => ?_, fun i j hi hj _ => (hone i hi.1).trans (hone j hj.1).symm, fun i hi => hr.out id ⟨hlive, hi.2⟩, hr.slt⟩
    rw [lk_one]
    split
    · have := hr.sto id
      rw [hl] at this
      exact this
    · trivial
  have hdd : ∀ {ds : List DV} {vs : List Value}, prepL S (live (lk s)) α w (ds.map .d) vs → prepL S (live (lk [Blk.arr e sz n g])) α1 w (ds.map .d) vs := by
    intro ds
    induction ds with
    | nil => intro vs h; simpa only [List.map_nil, prepL] using h
    | cons z ds ih =>
      intro vs h
      simp only [List.map_cons, prepL, PV.rep] at h ⊢
      obtain ⟨u, us, rfl, h1, h2⟩ := h
      exact ⟨u, us, rfl, h1, ih h2⟩
  have hv1 : prepL S (live (lk [Blk.arr e sz n g])) α1 w (.own 0 0 n :: xs.map .d) vals := by
    rw [prepL] at hv ⊢
    obtain ⟨u, us, rfl, h1, h2⟩ := hv
    simp only [PV.rep] at h1
    refine ⟨u, us, rfl, ?_, hdd h2⟩
    simp only [PV.rep]
    exact ⟨rfl, h1.2⟩
  refine (h.2 S α1 w vals hr1 hv1).mono ?_
  rintro ed w' ⟨rs, s', S', α', v, ⟨rfl, rfl⟩, rfl, hres, hr', hm, -, -⟩
  have hsz : w.heap.size ≤ w'.heap.size := hm.size
  have hreal1 : ∀ i, real (lk [Blk.arr e sz n g]) α1 i → real (lk s) α id := fun i hi => ⟨hlive, hi.2⟩
  have hS' : ∀ b, S' b → S b ∨ w.heap.size ≤ b ∨ (real (lk s) α id ∧ (α id).b = b) := fun b hb => by
    rcases hm.new b hb with h1 | h1 | ⟨j, hj, rfl⟩
    · exact .inl h1
    · exact .inr (.inl h1)
    · exact .inr (.inr ⟨hreal1 j hj, rfl⟩)
  obtain ⟨f1, f2, f3⟩ := hr.forget id
  -- what the others are, as they were
  have hkeep : ∀ i, i ≠ id → live (lk s) i → ∀ b, (α i).none = false → (α i).b = b → w'.heap[b]? = w.heap[b]? := fun i hi hli b hn hb => by
    subst hb
    refine hm.same _ (hr.out i ⟨hli, hn⟩).2 fun j hj hjb => ?_
    exact hi (hr.inj i id ⟨hli, hn⟩ (hreal1 j hj) hjb.symm)
  have hSame : ∀ b, S b → w'.heap[b]? = w.heap[b]? := fun b hb => hm.same b (hr.slt b hb) fun j hj hjb => (hr.out id (hreal1 j hj)).1 (by
    have : (α id).b = b := hjb
    rw [this]; exact hb)
  let α2 : Nat → Loc := upd α id (α' 0)
  have hlk : lk (setN (killS id s) id (.arr e sz n' g')) = upd (lk (setN (killS id s) id .dead)) id (.arr e sz n' g') := lk_revive hid
  have hliv2 : ∀ i, live (lk (setN (killS id s) id (.arr e sz n' g'))) i ↔ live (lk s) i := fun i => by
    rw [hlk]
    by_cases e1 : i = id
    · subst e1
      simp only [live, upd_same, Blk.alive, true_iff]
      exact hlive
    · simp only [live, upd_other _ _ e1]
      exact (f2 i).trans ⟨fun h => h.2, fun h => ⟨e1, h⟩⟩
  have hα2 : ∀ i, i ≠ id → α2 i = α i := fun i hi => upd_other _ _ hi
  have hk2 : Kept (live (lk (setN (killS id s) id .dead))) (live (lk (setN (killS id s) id (.arr e sz n' g')))) α α2 w w' := fun i hi => by
    obtain ⟨h1, h2⟩ := (f2 i).1 hi
    exact ⟨(hliv2 i).2 h2, hα2 i h1, fun hn => shape_same (hkeep i h1 h2 _ hn rfl)⟩
  have hnew0 : real (lk [Blk.arr e sz n' g']) α' 0 → (real (lk s) α id ∧ (α id).b = (α' 0).b) ∨ w.heap.size ≤ (α' 0).b := fun h0 => by
    rcases hm.lives 0 h0 with ⟨j, hj, hb⟩ | hb
    · exact .inl ⟨hreal1 j hj, hb⟩
    · exact .inr hb
  have hr0 : ∀ hn : (α' 0).none = false, real (lk [Blk.arr e sz n' g']) α' 0 := fun hn => ⟨rfl, hn⟩
  refine ⟨S', α2, v, rfl, ?_, ⟨fun i => ?_, fun i j hi hj hb => ?_, fun i hi => ?_, hr'.slt⟩, ⟨hm.os, hm.tape, hm.output, hm.size, fun b hb hne => ?_, fun i hi => ?_, hm.sub, fun b hb => ?_⟩, fun i hi hli => ?_, hα2⟩
  · simp only [resP, PV.rep] at hres ⊢
    refine ⟨(hliv2 id).2 hlive, ?_⟩
    rw [show α2 id = α' 0 from upd_same _ _ _]
    rcases hres.2 with ⟨h1, h2, h3, h4⟩ | ⟨h1, h2⟩
    · exact .inl ⟨h1, h2, h3, h4⟩
    · exact .inr ⟨h1, h2⟩
  · by_cases e1 : i = id
    · subst e1
      rw [hlk, upd_same, show α2 i = α' 0 from upd_same _ _ _]
      have := hr'.sto 0
      exact this
    · rw [hlk, upd_other _ _ e1, hα2 i e1]
      by_cases hli : live (lk (setN (killS id s) id .dead)) i
      · obtain ⟨h1, h2⟩ := (f2 i).1 hli
        have := Blk.rep_mono (fun b hb => hm.sub b hb) hSame hk2 (fun hn => hkeep i h1 h2 _ hn rfl) (f1.sto i)
        rw [← hlk]
        exact this
      · unfold live at hli
        cases hb : lk (setN (killS id s) id .dead) i with
        | dead => trivial
        | _ => simp [hb, Blk.alive] at hli
  · by_cases e1 : i = id <;> by_cases e2 : j = id
    · exact e1.trans e2.symm
    · subst e1
      exfalso
      rw [show α2 i = α' 0 from upd_same _ _ _, hα2 j e2] at hb
      have hli := (hliv2 j).1 hj.1
      have hn : (α j).none = false := by rw [← hα2 j e2]; exact hj.2
      have hn0 : (α' 0).none = false := by have := hi.2; rw [show α2 i = α' 0 from upd_same _ _ _] at this; exact this
      rcases hnew0 (hr0 hn0) with ⟨hre, he⟩ | hge
      · exact e2 (hr.inj j i ⟨hli, hn⟩ hre (hb.symm.trans he.symm))
      · have := (hr.out j ⟨hli, hn⟩).2
        omega
    · subst e2
      exfalso
      rw [show α2 j = α' 0 from upd_same _ _ _, hα2 i e1] at hb
      have hli := (hliv2 i).1 hi.1
      have hn : (α i).none = false := by rw [← hα2 i e1]; exact hi.2
      have hn0 : (α' 0).none = false := by have := hj.2; rw [show α2 j = α' 0 from upd_same _ _ _] at this; exact this
      rcases hnew0 (hr0 hn0) with ⟨hre, he⟩ | hge
      · exact e1 (hr.inj i j ⟨hli, hn⟩ hre (hb.trans he.symm))
      · have := (hr.out i ⟨hli, hn⟩).2
        omega
    · rw [hα2 i e1, hα2 j e2] at hb
      exact hr.inj i j ⟨(hliv2 i).1 hi.1, by rw [← hα2 i e1]; exact hi.2⟩ ⟨(hliv2 j).1 hj.1, by rw [← hα2 j e2]; exact hj.2⟩ hb
  · by_cases e1 : i = id
    · subst e1
      rw [show α2 i = α' 0 from upd_same _ _ _]
      have hn0 : (α' 0).none = false := by have := hi.2; rw [show α2 i = α' 0 from upd_same _ _ _] at this; exact this
      exact hr'.out 0 (hr0 hn0)
    · rw [hα2 i e1]
      have hli := (hliv2 i).1 hi.1
      have hn : (α i).none = false := by rw [← hα2 i e1]; exact hi.2
      have ho := hr.out i ⟨hli, hn⟩
      refine ⟨fun hb => ?_, Nat.lt_of_lt_of_le ho.2 hsz⟩
      rcases hS' _ hb with h1 | h1 | ⟨hre, he⟩
      · exact ho.1 h1
      · omega
      · exact e1 (hr.inj i id ⟨hli, hn⟩ hre he.symm)
  · refine hm.same b hb fun j hj hjb => hne id (hreal1 j hj) hjb
  · by_cases e1 : i = id
    · subst e1
      rw [show α2 i = α' 0 from upd_same _ _ _]
      have hn0 : (α' 0).none = false := by have := hi.2; rw [show α2 i = α' 0 from upd_same _ _ _] at this; exact this
      rcases hnew0 (hr0 hn0) with ⟨hre, he⟩ | hge
      · exact .inl ⟨i, hre, he⟩
      · exact .inr hge
    · rw [hα2 i e1]
      exact .inl ⟨i, ⟨(hliv2 i).1 hi.1, by rw [← hα2 i e1]; exact hi.2⟩, rfl⟩
  · rcases hS' b hb with h1 | h1 | ⟨hre, he⟩
    · exact .inl h1
    · exact .inr (.inl h1)
    · exact .inr (.inr ⟨id, hre, he⟩)
  · exact ⟨(hliv2 i).2 hli, hα2 i hi, fun hn => shape_same (hkeep i hi hli _ hn rfl)⟩
theorem kill_tags {e : Env} {id : Nat} {done : List Oper} (ht : Tagged done e) : Tagged done (killE id e) := by
  intro u g c p hp t b hm
  rw [get_kill] at hp
  obtain ⟨q, hq⟩ := kill_when hp
  exact ht u g c q hq t b hm
theorem kill_nw {e : Env} {id : Nat} (hn : NoWhen e) : NoWhen (killE id e) := by
  intro u g c p hp
  rw [get_kill] at hp
  obtain ⟨q, hq⟩ := kill_when hp
  exact hn u g c q hq
theorem allD_map : ∀ {ps : List PV} {xs : List DV}, allD ps = some xs → ps = xs.map .d
  | [], xs, h => by simp only [allD, Option.some.injEq] at h; subst h; rfl
  | p :: ps, xs, h => by
    cases p <;> simp only [allD, reduceCtorEq] at h
    obtain ⟨ys, h1, rfl⟩ := Option.map_eq_some_iff.1 h
    rw [allD_map h1]
    rfl
theorem fbQ_at {f : FuncId} {e : Env} {s : Store} {K : PV → Env → Store → Prop} {args : List PV} (h : fbQ P f e s K args) : ∃ id n el sz g ps xs n' g', args = .own id 0 n :: ps ∧ viewsV s ps = some (xs.map .d, false) ∧ nth s id = some (.arr el sz n g) ∧ FnB P f el sz n g xs n' g' ∧ K (.own id 0 n') (killE id e) (setN (killS id s) id (.arr el sz n' g')) := by
  unfold fbQ at h
  split at h
  · rename_i id n ps
    unfold fbK at h
    split at h
    · rename_i el sz m g xs hs hd
      obtain ⟨rfl, n', g', h1, h2⟩ := h
      unfold fbV at hd
      split at hd
      · rename_i qs hq
        exact ⟨id, m, el, sz, g, ps, xs, n', g', rfl, by rw [hq, allD_map hd], hs, h1, h2⟩
      · cases hd
    · exact h.elim
  · exact h.elim
theorem seqOps_ok (hall : ops.toList = all) (base : Nat) : ∀ (os done : List Oper), all = done ++ os → regOk H.nt done os = true → ∀ {e : Env} {s : Store} {a : Act} {w : World} {S : Nat → Prop} {α : Nat → Loc}, State A H S α e s a w → Tagged done e → (hasG all = false → NoWhen e) → Moved S0 α0 σ0 w0 S α (lk s) w →
    okOps P H all 0 base os e s Q → wpList P ops (After A H S0 α0 σ0 w0 Q) os a w
  | [], done, hd, hreg, e, s, a, w, S, α, hst, ht, hnw, hm, h => by
    simp only [okOps] at h
    exact ⟨.normal, _, s, S, α, h, rfl, ⟨⟨hst.toRelS, clean_erep _ hst.env, hst.size, hst.defers⟩, hst.pin, hst.lo⟩, clean_nw hnw, hm⟩
  | o :: os, done, hd, hreg, e, s, a, w, S, α, hst, ht, hnw, hm, h => by
    simp only [regOk, Bool.and_eq_true] at hreg
    obtain ⟨⟨hreg1, hreg2⟩, hreg3⟩ := hreg
    have hdst : ∀ d, o.dst = some d → d < H.nt ∧ ∀ x ∈ done, x.dst ≠ some d := by
      intro d hdd
      rw [hdd] at hreg1
      simp only [Bool.and_eq_true, decide_eq_true_eq, List.all_eq_true, bne_iff_ne] at hreg1
      exact hreg1
    have hgj : ∀ j b, o.guard = some (j, b) → j < done.length := by
      intro j b hg
      rw [hg] at hreg2
      simpa using hreg2
    have hd' : all = (done ++ [o]) ++ os := by rw [hd]; simp
    simp only [okOps, if_true, bne_self_eq_false, Nat.zero_sub] at h
    unfold okO at h
    split at h
    · exact h.elim
    · rename_i g c hgq
      have htags := guard_tags hd ht hgj hgq
      have hgo := guard_ok hall (o := o) (fun _ _ t _ _ => hst.env t) hgq
      simp only [wpList]
      -- what goes on behind
      have next : ∀ {S' : Nat → Prop} {α' : Nat → Loc} {e1 : Env} {v' : PV} {s' : Store} {a' : Act} {w' : World}, State A H S' α' (setD e1 o.dst v') s' a' w' ∧ Tagged (done ++ [o]) (setD e1 o.dst v') → (hasG all = false → NoWhen e1 ∧ ∀ g c p, v' ≠ .when g c p) → Moved S α (lk s) w S' α' (lk s') w' → okOps P H all 0 base os (setD e1 o.dst v') s' Q → wpList P ops (After A H S0 α0 σ0 w0 Q) os a' w' :=
        fun hs hnn hmm hok => seqOps_ok hall base os (done ++ [o]) hd' hreg3 hs.1 hs.2 (fun hg => nw_setD (hnn hg).1 (hnn hg).2) (hm.trans hmm) hok
      have hng : hasG all = false → g = [] := fun hg => by
        have := hasG_none hg (show o ∈ all by rw [hd]; simp)
        rw [this] at hgq
        simp only [guardQ, Option.some.injEq, Prod.mk.injEq] at hgq
        exact hgq.1.symm
      have hnwv : hasG all = false → ∀ v, NoWhen e ∧ ∀ g' c' p, wrapV g c v ≠ .when g' c' p := fun hg v => ⟨hnw hg, fun g' c' p he => wrapV_nil (hng hg) he⟩
      have htv : ∀ (v : PV), ∀ g' c' p, wrapV g c v = .when g' c' p → ∀ t b, (t, b) ∈ g' → ∃ x ∈ done, x.dst = some t := fun v g' c' p he => by
        rw [wrapV_when he]
        exact htags
      -- an operation that is passed over
      have idle : ∀ (v : PV), ¬ hold a.tmps g → State A H S α (setD e o.dst (wrapV g c v)) s (a.put o.dst undef) w ∧ Tagged (done ++ [o]) (setD e o.dst (wrapV g c v)) := fun v hn =>
        put_state hst ht hdst hst.toRelS hst.pin hst.lo hst.env (fun tmps' hsame => wrapV_idle (by
          rw [hold_same (fun t b hm => hsame t (htags t b hm))]
          exact hn)) (htv v)
      have hwrap : ∀ {S' : Nat → Prop} {L' : Nat → Prop} {α' : Nat → Loc} {w' : World} {v : PV} {u : Value}, hold a.tmps g → c → v.rep S' L' α' w' u → ∀ tmps', (∀ t, (∃ x ∈ done, x.dst = some t) → tmps'.getD t undef = a.tmps.getD t undef) → (wrapV g c v).erep S' L' α' w' tmps' u :=
        fun hh hc hv tmps' hsame => wrapV_erep ((hold_same (fun t b hm => hsame t (htags t b hm))).2 hh) hc hv
      split at h
      · -- a call
        rename_i f args hcq
        split at h
        · -- over one slice of ours
          obtain ⟨_, rfl, hfb⟩ := h
          obtain ⟨id, n, el, sz, gg, ps, xs, n', g', rfl, hvw, hid, hfn, hK⟩ := fbQ_at hfb
          rcases hgo with ⟨hw, hh, hc⟩ | ⟨_, _, hne⟩
          · rw [if_pos hw]
            refine .inl ?_
            obtain ⟨vs, hrun, hvs⟩ := run_call hst.env hh hcq hfn.1
            have hvs : prepL S (live (lk s)) α w (.own id 0 n :: xs.map .d) vs := by
              rw [prepL] at hvs ⊢
              obtain ⟨u, us, rfl, h1, h2⟩ := hvs
              refine ⟨u, us, rfl, h1, ?_⟩
              have h3 := viewsV_rep hst.toRelS (live (lk s)) α ps hvw (fun h => by cases h) h2
              exact prepL_mono (fun k hk => hk.resolve_right fun h => by cases h.1) (fun _ _ => rfl) (fun i hi => ⟨hi, rfl, fun _ => rfl⟩) _ _ h3
            unfold Oper.wp
            rw [hrun, Oper.upon_enter]
            refine (fnB_step hfn hid hst.toRelS hvs).mono ?_
            rintro ee w' ⟨S', α', v, rfl, hv, hr', hmm, hkb, hα⟩
            dsimp only
            have hsame : ∀ b, S b → w'.heap[b]? = w.heap[b]? := fun b hb => hmm.same b (hst.slt b hb) fun i hi e => (hst.out i hi).1 (e ▸ hb)
            have hnp : ∀ i l, A i = some l → i ≠ id := fun i l hi e => by
              have h3 := (hst.pin i l hi).2.2
              rw [e, lk_nth hid] at h3
              cases h3
            exact next (e1 := killE id e) (v' := .own id 0 n') (put_state (u := v) hst (kill_tags ht) hdst hr' (fun i l hi => by
              obtain ⟨p1, p2, p3⟩ := hst.pin i l hi
              refine ⟨p1, (hα i (hnp i l hi)).trans p2, ?_⟩
              rw [lk_revive hid, upd_other _ _ (hnp i l hi), lk_killed, if_neg (hnp i l hi)]
              cases hb : lk s i <;> simp_all [killB, Blk.isArr]) (by rw [setN_eq, List.length_set, length_kill]; exact hst.lo) (fun t => by
                rw [get_kill]
                exact PV.kill_erep hmm.sub hsame hkb _ _ (hst.env t)) (fun _ _ => erep_of_rep hv) (fun g c p he => absurd he (rep_not_when hv g c p))) (fun hg => ⟨kill_nw (hnw hg), rep_not_when hv⟩) hmm hK
          · exact absurd rfl hne
        split at h
        · -- over the whole store
          obtain ⟨_, rfl, hfn⟩ := h
          rcases hgo with ⟨hw, hh, hc⟩ | ⟨_, _, hne⟩
          · rw [if_pos hw]
            refine .inl ?_
            obtain ⟨vs, hrun, hvs⟩ := run_call hst.env hh hcq hfn.1
            unfold Oper.wp
            rw [hrun, Oper.upon_enter]
            refine (hfn.2 S α w vs hst.toRelS hvs).mono ?_
            rintro ee w' ⟨rs, s', S', α', v, ⟨hbk, hK⟩, rfl, hv, hr', hmm, hlen, hpins⟩
            dsimp only
            have hsame : ∀ b, S b → w'.heap[b]? = w.heap[b]? := fun b hb => hmm.same b (hst.slt b hb) fun i hi e => (hst.out i hi).1 (e ▸ hb)
            have hkept : ∀ i, Blk.isBox (nth s i) = true → live (lk s') i ∧ α' i = α i := fun i hi => by
              obtain ⟨cs, hcs⟩ := boxKept_lk hbk i hi
              have hni : ∃ cs, nth s i = some (.box cs) := by
                unfold Blk.isBox at hi
                split at hi
                · exact ⟨_, by assumption⟩
                · cases hi
              obtain ⟨cs0, hcs0⟩ := hni
              have hil : i < s.length := by
                rw [nth_eq] at hcs0
                exact (List.getElem?_eq_some_iff.1 hcs0).1
              refine ⟨by simp [live, hcs, Blk.alive], (hpins i hil ?_).1⟩
              simp [lk, hcs0, Blk.isArr]
            exact next (e1 := keepE s e) (v' := resP rs) (put_state (u := v) hst (keep_tags ht) hdst hr' (fun i l hi => by
              obtain ⟨p1, p2, p3⟩ := hst.pin i l hi
              obtain ⟨q1, q2⟩ := hpins i (by have := hst.lo; omega) p3
              exact ⟨p1, q1.trans p2, q2⟩) (Nat.le_trans hst.lo hlen) (fun t => by
                rw [get_keep]
                exact keep_erep hmm.sub hsame hkept (hst.env t)) (fun _ _ => erep_of_rep hv) (fun g c p he => absurd he (rep_not_when hv g c p))) (fun hg => ⟨keep_nw (hnw hg), rep_not_when hv⟩) hmm hK
          · exact absurd rfl hne
        split at h
        · rename_i ds vw hvw
          obtain ⟨_, rs, hfn, hflat, hK⟩ := h
          rcases hgo with ⟨hw, hh, hc⟩ | ⟨hw, hn, _⟩
          · rw [if_pos hw]
            refine .inl ?_
            have hfn := hfn hc
            obtain ⟨vs, hrun, hvs⟩ := run_call hst.env hh hcq hfn.1
            unfold Oper.wp
            rw [hrun, Oper.upon_enter]
            have hv := viewsV_rep hst.toRelS (live sto0) (fun _ => default) args hvw (fun _ _ _ h => lk_nth h) hvs
            have hlt : ∀ b, (S b ∨ (vw = true ∧ ∃ i, real (lk s) α i ∧ (α i).b = b)) → b < w.heap.size := fun b hb => by
              rcases hb with hb | ⟨_, i, hi, rfl⟩
              · exact hst.slt b hb
              · exact (hst.out i hi).2
            refine (callD hfn hlt hv).mono ?_
            rintro ee w' ⟨v, S', α', rfl, hvr, hb, hsub, hnew, hlt'⟩
            dsimp only
            -- the stable blocks that go on
            have key : ∃ S'' : Nat → Prop, (resP (rs.map .d)).rep S'' (live (lk s)) α w' v ∧ (∀ b, S b → S'' b) ∧ (∀ b, S'' b → S b ∨ w.heap.size ≤ b) ∧ (∀ b, S'' b → b < w'.heap.size) := by
              cases vw with
              | true => exact ⟨S, resP_flat (hflat rfl) hvr, fun _ h => h, fun _ h => .inl h, fun b h => Nat.lt_of_lt_of_le (hst.slt b h) hb.size⟩
              | false =>
                have hres : ∀ ds : List DV, (resP (ds.map .d)).rep S' (live sto0) α' w' v → (resP (ds.map .d)).rep S' (live (lk s)) α w' v := by
                  intro ds h
                  match ds with
                  | [x] => simpa only [List.map_cons, List.map_nil, resP, PV.rep] using h
                  | [] => simpa only [List.map_nil, resP, PV.rep, prepL] using h
                  | x :: y :: l =>
                    simp only [List.map_cons, resP, PV.rep] at h ⊢
                    obtain ⟨vs, rfl, h⟩ := h
                    refine ⟨vs, rfl, ?_⟩
                    have : ∀ {l : List DV} {vs : List Value}, prepL S' (live sto0) α' w' (l.map .d) vs → prepL S' (live (lk s)) α w' (l.map .d) vs := by
                      intro l
                      induction l with
                      | nil => intro vs h; simpa only [List.map_nil, prepL] using h
                      | cons z l ih =>
                        intro vs h
                        simp only [List.map_cons, prepL, PV.rep] at h ⊢
                        obtain ⟨u, us, rfl, h1, h2⟩ := h
                        exact ⟨u, us, rfl, h1, ih h2⟩
                    exact this (l := x :: y :: l) h
                exact ⟨S', hres rs hvr, fun b hb => hsub b (.inl hb), fun b hb => (hnew b hb).imp (fun h => h.resolve_right fun h => by cases h.1) id, hlt'⟩
            obtain ⟨S'', hv'', hsub'', hnew'', hlt''⟩ := key
            have hr' := hst.toRelS.below hb hsub'' hnew'' hlt''
            refine next (put_state hst ht hdst hr' hst.pin hst.lo (fun t => PV.erep_mono hsub'' (hst.toRelS.keeps hb) (hst.toRelS.kept hb (fun _ _ => rfl) (fun _ h => h)) _ _ (fun _ _ _ _ => Iff.rfl) (hst.env t)) (hwrap hh hc (by rw [resPV_rep (S := S) (L := live sto0) (α := α) (w := w)]; exact hv'')) (htv _)) (fun hg => hnwv hg _) (Moved.below hb hsub'' hnew'') hK
          · rw [if_neg (by rw [hw]; simp)]
            exact next (idle _ hn) (fun hg => hnwv hg _) (Moved.refl _ _ _ _) hK
        · exact h.elim
      · split at h
        · -- quiet, no block
          rename_i C v hq
          obtain ⟨hC, hK⟩ := h
          rcases hgo with ⟨hw, hh, hc⟩ | ⟨hw, hn, _⟩
          · rw [if_pos hw]
            refine .inl ?_
            obtain ⟨α', u, w', hrun, hb, hr', hmm, hα, hv⟩ := opQ_ok (nid := s.length) hst.toRelS (not_live_length s) (fun id B _ hB => lk_nth hB) hst.env hh hq (hC hc)
            unfold Oper.wp
            rw [hrun, Oper.upon_value]
            simp only [put] at hr' hmm hv
            have hne : ∀ i, live (lk s) i → i ≠ s.length := fun i hi e => not_live_length s (e ▸ hi)
            refine next (e1 := e) (v' := wrapV g c v) (put_state hst ht hdst hr' (fun i l hi => ?_) hst.lo (fun t => PV.erep_mono (fun _ x => x) (hst.toRelS.keeps hb) (hst.toRelS.kept hb (fun i hi => hα i (hne i hi)) (fun _ h => h)) _ _ (fun _ _ _ _ => Iff.rfl) (hst.env t)) (hwrap hh hc hv) (htv _)) (fun hg => hnwv hg _) hmm (hK (lenFact_ok hst.env hh))
            obtain ⟨p1, p2, p3⟩ := hst.pin i l hi
            exact ⟨p1, by rw [hα i (by have := hst.lo; omega)]; exact p2, p3⟩
          · rw [if_neg (by rw [hw]; simp)]
            exact next (idle _ hn) (fun hg => hnwv hg _) (Moved.refl _ _ _ _) (hK (lenFact_idle hn))
        · -- quiet, a block
          rename_i C v B hq
          obtain ⟨hgt, hC, hK⟩ := h
          rcases hgo with ⟨hw, hh, hc⟩ | ⟨_, hn, hne⟩
          · rw [if_pos hw]
            refine .inl ?_
            obtain ⟨α', u, w', hrun, hb, hr', hmm, hα, hv⟩ := opQ_ok (nid := s.length) hst.toRelS (not_live_length s) (fun id B _ hB => lk_nth hB) hst.env hh hq (hC hc)
            unfold Oper.wp
            rw [hrun, Oper.upon_value]
            simp only [put] at hr' hmm hv
            rw [← lk_append] at hr' hmm hv
            have hne : ∀ i, live (lk s) i → i ≠ s.length := fun i hi e => not_live_length s (e ▸ hi)
            exact next (put_state hst ht hdst hr' (pin_append hst.pin hst.lo (fun i hi => hα i (by omega))) (by simp; have := hst.lo; omega) (fun t => PV.erep_mono (fun _ x => x) (hst.toRelS.keeps hb) (hst.toRelS.kept hb (fun i hi => hα i (hne i hi)) (fun i hi => by
              rw [lk_append]
              simpa [live, upd_other _ _ (hne i hi)] using hi)) _ _ (fun _ _ _ _ => Iff.rfl) (hst.env t)) (fun _ _ => erep_of_rep hv) (fun g c p he => absurd he (rep_not_when hv g c p))) (fun hg => ⟨hnw hg, rep_not_when hv⟩) hmm hK
          · exact absurd (gOn_hold hst.env hgt) hn
        · -- it writes
          simp only [Bool.false_eq_true, if_false] at h
          split at h
          · split at h
            · rename_i C v e' s' hq
              obtain ⟨hC, hK⟩ := h
              rcases hgo with ⟨hw, hh, hc⟩ | ⟨_, hn, hne⟩
              · rw [if_pos hw]
                refine .inl ?_
                obtain ⟨α', n, w', hrun, ⟨u, hu, hv⟩, hr', hmm, he', hlen, hpins⟩ := effQ_ok hst.toRelS hst.env hq hC
                unfold Oper.wp
                rw [hrun]
                have fin := next (put_state (u := u) hst (eff_tags hq ht) hdst hr' (fun i l hi => by
                  obtain ⟨p1, p2, p3⟩ := hst.pin i l hi
                  obtain ⟨q1, q2⟩ := hpins i (by have := hst.lo; omega) p3
                  exact ⟨p1, q1.trans p2, q2⟩) (Nat.le_trans hst.lo hlen) he' (fun _ _ => erep_of_rep hv) (fun g c p he => absurd he (rep_not_when hv g c p))) (fun hg => ⟨eff_nw hq (hnw hg), rep_not_when hv⟩) hmm hK
                rcases hu with rfl | ⟨rfl, rfl⟩
                · rw [Oper.upon_value]; exact fin
                · rw [Oper.upon_skip]; exact fin
              · exact absurd rfl hne
            · exact h.elim
          · exact h.elim
end
end
end Go.Ev

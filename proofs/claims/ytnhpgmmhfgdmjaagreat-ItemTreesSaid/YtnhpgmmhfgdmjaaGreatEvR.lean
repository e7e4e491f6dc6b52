/- A drawn region: its quiet operations in any order. -/
import Derived.Test.YtnhpgmmhfgdmjaaGreatEvN
import Derived.Orders
set_option linter.unusedVariables false
set_option linter.unusedSimpArgs false
namespace Go.Ev
open Go.RowKit

/-! ### What an operation looks at -/
theorem opnd_congr {ε ε' : Nat → PV} {g : List (Tmp × Bool)} {x : Operand} (h : ∀ t, x = .tmp t → ε t = ε' t) : opnd ε g x = opnd ε' g x := by
  cases x with
  | tmp t => simp only [opnd]; rw [h t rfl]
  | _ => rfl
theorem opQ_congr {P : Program} {wr : Bool} {o : Op} {ε ε' : Nat → PV} {g : List (Tmp × Bool)} {s : Store} {lim nid : Nat} (h : ∀ t, .tmp t ∈ o.operands.toList → ε t = ε' t) : opQ P wr o ε g s lim nid = opQ P wr o ε' g s lim nid := by
  have k : ∀ g x, x ∈ o.operands.toList → opnd ε g x = opnd ε' g x := fun g x hx => opnd_congr fun t ht => h t (ht ▸ hx)
  have km : ∀ g (l : List Operand), (∀ x ∈ l, x ∈ o.operands.toList) → l.map (opnd ε g) = l.map (opnd ε' g) := fun g l hl => List.map_congr_left fun x hx => k g x (hl x hx)
  have kp : ∀ g (l : List (Nat × Operand)), (∀ x ∈ l, x.2 ∈ o.operands.toList) → partsP ε g l = partsP ε' g l := fun g l hl => List.map_congr_left fun x hx => by rw [k g x.2 (hl x hx)]
  have ko : ∀ g (x : Option Operand), (∀ y, x = some y → y ∈ o.operands.toList) → optP ε g x = optP ε' g x := fun g x hx => by
    cases x with
    | none => rfl
    | some y => simp only [optP]; rw [k g y (hx y rfl)]
  cases o with
  | pick c a b =>
    cases c with
    | tmp t => simp only [opQ]; rw [k g (.tmp t) (by simp [Op.operands]), k ((t, true) :: g) a (by simp [Op.operands]), k ((t, false) :: g) b (by simp [Op.operands])]
    | _ => rfl
  | build t ps => simp only [opQ]; rw [kp g ps.toList (fun x hx => by simp only [Op.operands]; exact List.mem_map.2 ⟨x, hx, rfl⟩)]
  | buildSlice t n ps => simp only [opQ]; rw [kp g ps.toList (fun x hx => by simp only [Op.operands]; exact List.mem_map.2 ⟨x, hx, rfl⟩)]
  | makeFunc fn a b => simp only [opQ]; rw [km g a.toList (fun x hx => by simp [Op.operands]; exact .inl (by simpa using hx)), km g b.toList (fun x hx => by simp [Op.operands]; exact .inr (by simpa using hx))]
  | slice t x lo hi m =>
    cases m with
    | none => simp only [opQ]; rw [k g x (by simp [Op.operands]), ko g lo (fun y hy => by subst hy; simp [Op.operands]), ko g hi (fun y hy => by subst hy; simp [Op.operands])]
    | some m => rfl
  | call c =>
    obtain ⟨cal, args, ats⟩ := c
    have ka : ∀ x ∈ args.toList, x ∈ (Op.call ⟨cal, args, ats⟩).operands.toList := fun x hx => by simp [Op.operands, Call.operands]; exact .inr (by simpa using hx)
    simp only [opQ]
    cases cal with
    | builtin b =>
      cases b <;> try rfl
      · dsimp only
        split
        · rename_i x t hx _
          rw [k g x (ka x (by rw [hx]; simp))]
        · rfl
      · dsimp only
        rw [km g args.toList ka]
      · dsimp only
        rw [km g args.toList ka]
    | _ => rfl
  | move x => simp only [opQ]; rw [k g x (by simp [Op.operands])]
  | assign x => simp only [opQ]; rw [k g x (by simp [Op.operands])]
  | box t x => simp only [opQ]; rw [k g x (by simp [Op.operands])]
  | load t x => simp only [opQ]; rw [k g x (by simp [Op.operands])]
  | nilCheck x => simp only [opQ]; rw [k g x (by simp [Op.operands])]
  | binOp p t x y u => simp only [opQ]; rw [k g x (by simp [Op.operands]), k g y (by simp [Op.operands])]
  | unOp p t x => simp only [opQ]; rw [k g x (by simp [Op.operands])]
  | convert a b x => simp only [opQ]; rw [k g x (by simp [Op.operands])]
  | makeInterface t x => simp only [opQ]; rw [k g x (by simp [Op.operands])]
  | makeSlice t x y => simp only [opQ]; rw [k g x (by simp [Op.operands]), k g y (by simp [Op.operands])]
  | fieldAddr t x i => simp only [opQ]; rw [k g x (by simp [Op.operands])]
  | field t x i => simp only [opQ]; rw [k g x (by simp [Op.operands])]
  | indexAddr t x y => simp only [opQ]; rw [k g x (by simp [Op.operands]), k g y (by simp [Op.operands])]
  | index t x y => simp only [opQ]; rw [k g x (by simp [Op.operands]), k g y (by simp [Op.operands])]
  | extract x i => simp only [opQ]; rw [k g x (by simp [Op.operands])]
  | _ => rfl
theorem calleeQ_congr {o : Op} {ε ε' : Nat → PV} {g : List (Tmp × Bool)} (h : ∀ t, .tmp t ∈ o.operands.toList → ε t = ε' t) : calleeQ ε g o = calleeQ ε' g o := by
  cases o with
  | call c =>
    obtain ⟨cal, args, ats⟩ := c
    simp only [calleeQ]
    cases cal with
    | value f =>
      dsimp only
      rw [opnd_congr (g := g) (x := f) (fun t ht => h t (by simp [Op.operands, Call.operands, ht])), List.map_congr_left (f := opnd ε g) (g := opnd ε' g) fun x hx => opnd_congr fun t ht => h t (by
        subst ht
        simp [Op.operands, Call.operands]
        exact .inr (by simpa using hx))]
    | _ => rfl
  | _ => rfl
mutual
theorem viewV_dry {s s' : Store} : ∀ (p : PV) {x : PV}, viewV s p = some (x, false) → viewV s' p = some (x, false)
  | .d y, x, h => by simpa only [viewV] using h
  | .rptr cs, x, h => by simpa only [viewV] using h
  | .agg cs, x, h => by
    simp only [viewV] at h ⊢
    cases hq : viewsV s cs with
    | none => rw [hq] at h; cases h
    | some y =>
      obtain ⟨ps, b⟩ := y
      rw [hq] at h
      simp only [vAgg] at h
      obtain ⟨ds, hd, he⟩ := Option.map_eq_some_iff.1 h
      simp only [Prod.mk.injEq] at he
      obtain ⟨rfl, rfl⟩ := he
      rw [viewsV_dry cs hq]
      simp only [vAgg, hd, Option.map_some]
  | .clo fn fs cs, x, h => by
    simp only [viewV] at h ⊢
    cases hq : viewsV s fs with
    | none => rw [hq] at h; simp [vClo] at h
    | some y =>
      cases hq' : viewsV s cs with
      | none => rw [hq, hq'] at h; simp [vClo] at h
      | some z =>
        obtain ⟨ps, b1⟩ := y
        obtain ⟨qs, b2⟩ := z
        rw [hq, hq'] at h
        simp only [vClo, Option.some.injEq, Prod.mk.injEq, Bool.or_eq_false_iff] at h
        obtain ⟨rfl, rfl, rfl⟩ := h
        rw [viewsV_dry fs hq, viewsV_dry cs hq']
        rfl
  | .ptr id off, x, h => by
    simp only [viewV] at h
    unfold vPtr vPtr2 at h
    repeat' split at h
    all_goals first | (cases h; done) | (obtain ⟨_, _, h⟩ := Option.map_eq_some_iff.1 h; simp at h)
  | .own id off len, x, h => by
    simp only [viewV] at h
    unfold vOwn at h
    repeat' split at h
    all_goals first | (cases h; done) | simp at h
  | .unk, x, h => by simp [viewV] at h
  | .eptr .., x, h => by simp [viewV] at h
  | .tup _, x, h => by simp [viewV] at h
  | .ifc .., x, h => by simp [viewV] at h
  | .when .., x, h => by simp [viewV] at h
theorem viewsV_dry {s s' : Store} : ∀ (ps : List PV) {ds : List PV}, viewsV s ps = some (ds, false) → viewsV s' ps = some (ds, false)
  | [], ds, h => by simpa only [viewsV] using h
  | p :: ps, ds, h => by
    simp only [viewsV] at h ⊢
    cases hq : viewV s p with
    | none => rw [hq] at h; simp [vCons] at h
    | some y =>
      cases hq' : viewsV s ps with
      | none => rw [hq, hq'] at h; simp [vCons] at h
      | some z =>
        obtain ⟨x, b1⟩ := y
        obtain ⟨xs', b2⟩ := z
        rw [hq, hq'] at h
        simp only [vCons, Option.some.injEq, Prod.mk.injEq, Bool.or_eq_false_iff] at h
        obtain ⟨rfl, rfl, rfl⟩ := h
        rw [viewV_dry p hq, viewsV_dry ps hq']
        rfl
end

/-! ### The quiet operations of the text, one by one -/
structure Row where
  o : Oper
  e : Env
  s : Store
  g : List (Tmp × Bool)
  c : Prop
  v : PV
  nb : Option Blk

def addB (s : Store) : Option Blk → Store
  | none => s
  | some B => s ++ [B]
def RowOk (P : Program) (H : Hints) (all : List Oper) (base : Nat) (r : Row) : Prop :=
  guardQ all r.e r.o.guard = some (r.g, r.c) ∧
  ((∃ f args ds rs, calleeQ (get r.e) r.g r.o.op = some (f, args) ∧ viewsV r.s args = some (ds, false) ∧ (r.c → FnD P f ds rs) ∧ r.v = wrapV r.g r.c (resPV rs) ∧ r.nb = none) ∨
   (calleeQ (get r.e) r.g r.o.op = none ∧ ∃ C v, opQ P (wraps H.wr r.o.dst) r.o.op (get r.e) r.g r.s base r.s.length = .ok C v r.nb ∧ (r.c → C) ∧ ((r.nb = none ∧ r.v = wrapV r.g r.c v) ∨ (r.nb ≠ none ∧ r.g = [] ∧ r.v = v))))
def Linked : Env → Store → List Row → Env → Store → Prop
  | e, s, [], e', s' => e' = e ∧ s' = s
  | e, s, r :: rs, e', s' => r.e = e ∧ r.s = s ∧ Linked (setD e r.o.dst r.v) (addB s r.nb) rs e' s'

section
variable {P : Program} {H : Hints} {all : List Oper} {base : Nat} {Q : Post}
theorem okOps_rows : ∀ (q : Nat) (os : List Oper) (e : Env) (s : Store), q ≤ os.length → okOps P H all q base os e s Q →
    ∃ rows e' s', rows.map Row.o = os.take q ∧ (∀ r ∈ rows, RowOk P H all base r) ∧ Linked e s rows e' s' ∧ okOps P H all 0 base (os.drop q) e' s' Q
  | 0, os, e, s, _, h => ⟨[], e, s, rfl, (fun _ h => by cases h), ⟨rfl, rfl⟩, by simpa using h⟩
  | q + 1, [], e, s, hq, h => by simp at hq
  | q + 1, o :: os, e, s, hq, h => by
    have hq' : q ≤ os.length := by simpa using hq
    simp only [okOps] at h
    rw [if_neg (by omega)] at h
    have hb : (q + 1 != 0) = true := by simp
    rw [hb] at h
    simp only [Nat.add_sub_cancel] at h
    have fin : ∀ (r : Row), r.o = o → r.e = e → r.s = s → RowOk P H all base r → okOps P H all q base os (setD e o.dst r.v) (addB s r.nb) Q → ∃ rows e' s', rows.map Row.o = (o :: os).take (q + 1) ∧ (∀ r ∈ rows, RowOk P H all base r) ∧ Linked e s rows e' s' ∧ okOps P H all 0 base ((o :: os).drop (q + 1)) e' s' Q := by
      intro r hro hre hrs hr hk
      obtain ⟨rows, e', s', h1, h2, h3, h4⟩ := okOps_rows q os _ _ hq' hk
      refine ⟨r :: rows, e', s', by simp [hro, h1], fun x hx => ?_, ⟨hre, hrs, by rw [hro]; exact h3⟩, by simpa using h4⟩
      rcases List.mem_cons.1 hx with rfl | hx
      · exact hr
      · exact h2 x hx
    unfold okO at h
    split at h
    · exact h.elim
    · rename_i g c hg
      split at h
      · rename_i f args hc
        split at h
        · exact absurd h.1 (by simp)
        split at h
        · exact absurd h.1 (by simp)
        split at h
        · rename_i ds vw hv
          obtain ⟨hvw, rs, h1, h2, h3⟩ := h
          obtain rfl : vw = false := by simpa using hvw
          exact fin ⟨o, e, s, g, c, wrapV g c (resPV rs), none⟩ rfl rfl rfl ⟨hg, .inl ⟨f, args, ds, rs, hc, hv, h1, rfl, rfl⟩⟩ h3
        · exact h.elim
      · rename_i hc
        split at h
        · rename_i C v hq
          exact fin ⟨o, e, s, g, c, wrapV g c v, none⟩ rfl rfl rfl ⟨hg, .inr ⟨hc, C, v, hq, h.1, .inl ⟨rfl, rfl⟩⟩⟩ (h.2 trivial)
        · rename_i C v B hq
          exact fin ⟨o, e, s, g, c, v, some B⟩ rfl rfl rfl ⟨hg, .inr ⟨hc, C, v, hq, h.2.1, .inr ⟨by simp, gOn_true h.1, rfl⟩⟩⟩ h.2.2
        · simp at h
end

theorem linked_take : ∀ {rows : List Row} {e : Env} {s : Store} {e' : Env} {s' : Store}, Linked e s rows e' s' → ∀ {k : Nat} {r : Row}, rows[k]? = some r → Linked e s (rows.take k) r.e r.s
  | [], _, _, _, _, _, k, r, hk => by simp at hk
  | r0 :: rs, e, s, e', s', h, 0, r, hk => by
    simp only [List.getElem?_cons_zero, Option.some.injEq] at hk
    subst hk
    exact ⟨h.1, h.2.1⟩
  | r0 :: rs, e, s, e', s', h, k + 1, r, hk => by
    simp only [List.getElem?_cons_succ] at hk
    exact ⟨h.1, h.2.1, linked_take h.2.2 hk⟩
theorem linked_get : ∀ {rows : List Row} {e : Env} {s : Store} {e' : Env} {s' : Store}, Linked e s rows e' s' → ∀ t, (∃ (i : Nat) (r : Row), rows[i]? = some r ∧ r.o.dst = some t ∧ get e' t = r.v) ∨ ((∀ (i : Nat) (r : Row), rows[i]? = some r → r.o.dst ≠ some t) ∧ get e' t = get e t)
  | [], e, s, e', s', h, t => .inr ⟨fun i r hi => by simp at hi, by rw [h.1]⟩
  | r0 :: rs, e, s, e', s', h, t => by
    rcases linked_get h.2.2 t with ⟨i, r, h1, h2, h3⟩ | ⟨h1, h2⟩
    · exact .inl ⟨i + 1, r, by simpa using h1, h2, h3⟩
    · by_cases hd : r0.o.dst = some t
      · refine .inl ⟨0, r0, rfl, hd, ?_⟩
        rw [h2, hd, get_setD, if_pos rfl]
      · refine .inr ⟨fun i r hi => ?_, ?_⟩
        · cases i with
          | zero => simp at hi; subst hi; exact hd
          | succ i => exact h1 i r (by simpa using hi)
        · rw [h2]
          cases hdd : r0.o.dst with
          | none => rfl
          | some d =>
            rw [get_setD, if_neg]
            rintro rfl
            exact hd hdd
theorem nth_append_lt {β : Type} {l m : List β} {i : Nat} (h : i < l.length) : nth (l ++ m) i = nth l i := by
  rw [nth_eq, nth_eq, List.getElem?_append_left h]
/-- The blocks of the text's order. -/
theorem linked_store : ∀ {rows : List Row} {e : Env} {s : Store} {e' : Env} {s' : Store}, Linked e s rows e' s' →
    s.length ≤ s'.length ∧ (∀ j, j < s.length → nth s' j = nth s j) ∧ (∀ (i : Nat) (r : Row) (B : Blk), rows[i]? = some r → r.nb = some B → s.length ≤ r.s.length ∧ r.s.length < s'.length ∧ nth s' r.s.length = some B) ∧
    (∀ j, s.length ≤ j → j < s'.length → ∃ (i : Nat) (r : Row) (B : Blk), rows[i]? = some r ∧ r.nb = some B ∧ r.s.length = j) ∧
    (∀ (i i' : Nat) (r r' : Row) (B B' : Blk), rows[i]? = some r → rows[i']? = some r' → r.nb = some B → r'.nb = some B' → r.s.length = r'.s.length → i = i') ∧ ∀ (i : Nat) (r : Row), rows[i]? = some r → s.length ≤ r.s.length ∧ ∀ j, j < s.length → nth r.s j = nth s j
  | [], e, s, e', s', h => by
    obtain ⟨_, rfl⟩ := h
    exact ⟨Nat.le_refl _, fun _ _ => rfl, fun i r B hi => by simp at hi, fun j h1 h2 => by omega, fun i i' r r' B B' hi => by simp at hi, fun i r hi => by simp at hi⟩
  | r0 :: rs, e, s, e', s', h => by
    obtain ⟨k1, k2, k3, k4, k5, k6⟩ := linked_store h.2.2
    have hs := h.2.1
    have hle : s.length ≤ (addB s r0.nb).length := by
      cases r0.nb <;> simp [addB]
    have hlt : ∀ B, r0.nb = some B → (addB s r0.nb).length = s.length + 1 ∧ nth (addB s r0.nb) s.length = some B := fun B hB => by
      rw [hB]
      simp [addB, nth_eq]
    have hno : r0.nb = none → addB s r0.nb = s := fun hB => by rw [hB]; rfl
    have hold' : ∀ j, j < s.length → nth (addB s r0.nb) j = nth s j := fun j hj => by
      cases r0.nb with
      | none => rfl
      | some B => exact nth_append_lt hj
    refine ⟨Nat.le_trans hle k1, fun j hj => ?_, fun i r B hi hB => ?_, fun j h1 h2 => ?_, fun i i' r r' B B' hi hi' hB hB' he => ?_, fun i r hi => ?_⟩
    · rw [k2 j (Nat.lt_of_lt_of_le hj hle)]
      exact hold' j hj
    · cases i with
      | zero =>
        simp at hi
        subst hi
        obtain ⟨q1, q2⟩ := hlt B hB
        rw [hs]
        exact ⟨Nat.le_refl _, by omega, by rw [k2 _ (by omega)]; exact q2⟩
      | succ i =>
        obtain ⟨q1, q2, q3⟩ := k3 i r B (by simpa using hi) hB
        exact ⟨Nat.le_trans hle q1, q2, q3⟩
    · by_cases hj : (addB s r0.nb).length ≤ j
      · obtain ⟨i, r, B, q1, q2, q3⟩ := k4 j hj h2
        exact ⟨i + 1, r, B, by simpa using q1, q2, q3⟩
      · cases hB : r0.nb with
        | none => rw [hno hB] at hj; omega
        | some B =>
          have := (hlt B hB).1
          exact ⟨0, r0, B, rfl, hB, by rw [hs]; omega⟩
    · cases i with
      | zero =>
        simp at hi
        subst hi
        cases i' with
        | zero => rfl
        | succ i' =>
          have q := (k3 i' r' B' (by simpa using hi') hB').1
          have := (hlt B hB).1
          rw [hs] at he
          omega
      | succ i =>
        cases i' with
        | zero =>
          simp at hi'
          subst hi'
          have q := (k3 i r B (by simpa using hi) hB).1
          have := (hlt B' hB').1
          rw [hs] at he
          omega
        | succ i' => rw [k5 i i' r r' B B' (by simpa using hi) (by simpa using hi') hB hB' he]
    · cases i with
      | zero => simp at hi; subst hi; rw [hs]; exact ⟨Nat.le_refl _, fun _ _ => rfl⟩
      | succ i =>
        obtain ⟨q1, q2⟩ := k6 i r (by simpa using hi)
        exact ⟨Nat.le_trans hle q1, fun j hj => by rw [q2 j (Nat.lt_of_lt_of_le hj hle)]; exact hold' j hj⟩
end Go.Ev

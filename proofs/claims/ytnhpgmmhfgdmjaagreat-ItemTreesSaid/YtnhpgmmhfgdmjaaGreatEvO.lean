/- The walk over code. -/
import Derived.Test.YtnhpgmmhfgdmjaaGreatEvQ
import Derived.Deep.LoopGhost
set_option linter.unusedVariables false
set_option linter.unusedSimpArgs false
namespace Go.Ev
open Go.RowKit

def qSeq (f : Env → Store → Post → Prop) (Q : Post) : Post := fun ex e s => match ex with
  | .normal => f e s Q
  | ex => Q ex e s
def qBlock (id : Nat) (Q : Post) : Post := fun ex e s => match ex with
  | .exit i => if i = id then Q .normal e s else Q (.exit i) e s
  | ex => Q ex e s

/-! ### To forget -/
mutual
def PV.lt (n : Nat) : PV → Bool
  | .own i _ _ => decide (i < n)
  | .ptr i _ => decide (i < n)
  | .eptr i _ _ => decide (i < n)
  | .agg cs => ltL n cs
  | .tup cs => ltL n cs
  | .clo _ a b => ltL n a && ltL n b
  | .ifc _ p => p.lt n
  | .when .. => false
  | _ => true
def ltL (n : Nat) : List PV → Bool
  | [] => true
  | p :: ps => p.lt n && ltL n ps
end
def ltE (n : Nat) : Env → Bool
  | [] => true
  | (_, p) :: e => p.lt n && ltE n e
def Blk.lt (n : Nat) : Blk → Bool
  | .box cs => ltL n cs
  | _ => true
def ltS (n : Nat) : Store → Bool
  | [] => true
  | b :: s => b.lt n && ltS n s
def leE : Env → Env → Prop
  | [], _ => True
  | (t, v) :: e', e => get e t = v ∧ leE e' e
def leS : Store → Store → Prop
  | [], _ => True
  | b :: s', c :: s => c = b ∧ leS s' s
  | _, _ => False
/-- The state e', s' is what is kept of e, s. -/
def Le (lo : Nat) (e' : Env) (s' : Store) (e : Env) (s : Store) : Prop := leE e' e ∧ leS s' s ∧ (decide (lo ≤ s'.length) && ltE s'.length e' && ltS s'.length s') = true

def quietOp : Op → Bool
  | .assign _ | .store .. => false
  | .call ⟨.builtin .append, _, _⟩ => false
  | _ => true
def quietN : List Oper → Nat
  | [] => 0
  | o :: os => bif quietOp o.op then quietN os + 1 else 0
def LoopOk (lo : Nat) (f : Env → Store → Post → Prop) (e : Env) (s : Store) (Q : Post) : Prop :=
  ∃ (ι : Type) (I : ι → Env × Store) (m : ι → Nat) (x0 : ι), Le lo (I x0).1 (I x0).2 e s ∧ ∀ x, f (I x).1 (I x).2 (qSeq (fun e s _ => ∃ y, m y < m x ∧ Le lo (I y).1 (I y).2 e s) Q)

def okCond : PV → Prop → Prop → Prop
  | .d (.bool b), X, Y => (b = true → X) ∧ (b = false → Y)
  | _, _, _ => False

/-- A drawn region: in any order, or along a tree of orders whose ends have this in common. -/
def okR (P : Program) (H : Hints) (ops : List Oper) (q : Nat) (e : Env) (s : Store) (Q : Post) : Option Ord → Prop
  | some t => ∃ e1 s1, okT P H ops t (Le H.lo e1 s1) e s ∧ Q .normal e1 s1
  | none => okOps P H ops q s.length ops e s Q
def drawnOk (H : Hints) (ops : Array Oper) (q : Nat) : Option Ord → Bool
  | some t => treeOk H.nt ops t
  | none => regOk H.nt [] ops.toList && drawOk ops q
/-- What must be shown of a piece of code. -/
def okC (P : Program) (H : Hints) : Code → Env → Store → Post → Prop
  | .skip, e, s, Q => Q .normal e s
  | .region id ops false, e, s, Q => okOps P H ops.toList 0 0 ops.toList e s (qA (lookA H.ad id) Q)
  | .region id ops true, e, s, Q => okR P H ops.toList ((lookN H.qs id).getD (quietN ops.toList)) e s Q (lookT H.ts id)
  | .seq a b, e, s, Q => okC P H a e s (qSeq (okC P H b) Q)
  | .cond c x y, e, s, Q => okCond (opnd (get e) [] c) (okC P H x e s Q) (okC P H y e s Q)
  | .block id c, e, s, Q => okC P H c e s (qBlock id Q)
  | .scope c, e, s, Q => okC P H c e s Q
  | .loop b, e, s, Q => LoopOk H.lo (okC P H b) e s Q
  | .exit id, e, s, Q => Q (.exit id) e s
  | .ret, e, s, Q => Q .ret e s
  | _, _, _, _ => False

def codeOk (H : Hints) : Code → Bool
  | .skip | .exit _ | .ret => true
  | .region _ ops false => regOk H.nt [] ops.toList
  | .region id ops true => drawnOk H ops ((lookN H.qs id).getD (quietN ops.toList)) (lookT H.ts id)
  | .seq a b => codeOk H a && codeOk H b
  | .cond _ x y => codeOk H x && codeOk H y
  | .block _ c => codeOk H c
  | .scope c => codeOk H c
  | .loop c => codeOk H c
  | _ => false

/-! ### Forgetting, shown -/
section
variable {S L L' : Nat → Prop} {α : Nat → Loc} {w : World} {n : Nat}
mutual
theorem PV.rep_lt (hL : ∀ i, i < n → L i → L' i) : ∀ (p : PV) (v : Value), p.lt n = true → p.rep S L α w v → p.rep S L' α w v
  | .unk, _, _, _ => by simp only [PV.rep]
  | .d x, v, _, h => by simpa only [PV.rep] using h
  | .own i off len, v, hl, h => by
    simp only [PV.lt, decide_eq_true_eq] at hl
    simp only [PV.rep] at h ⊢
    exact ⟨hL i hl h.1, h.2⟩
  | .ptr i off, v, hl, h => by
    simp only [PV.lt, decide_eq_true_eq] at hl
    simp only [PV.rep] at h ⊢
    exact ⟨hL i hl h.1, h.2⟩
  | .eptr i j k, v, hl, h => by
    simp only [PV.lt, decide_eq_true_eq] at hl
    simp only [PV.rep] at h ⊢
    exact ⟨hL i hl h.1, h.2⟩
  | .rptr cs, v, _, h => by simpa only [PV.rep] using h
  | .agg ps, v, hl, h => by
    simp only [PV.lt] at hl
    simp only [PV.rep] at h ⊢
    obtain ⟨vs, rfl, h0, h⟩ := h
    exact ⟨vs, rfl, h0, prepL_lt hL ps vs hl h⟩
  | .tup ps, v, hl, h => by
    simp only [PV.lt] at hl
    simp only [PV.rep] at h ⊢
    obtain ⟨vs, rfl, h⟩ := h
    exact ⟨vs, rfl, prepL_lt hL ps vs hl h⟩
  | .clo fn fs cs, v, hl, h => by
    simp only [PV.lt, Bool.and_eq_true] at hl
    simp only [PV.rep] at h ⊢
    obtain ⟨us, vs, rfl, h1, h2⟩ := h
    exact ⟨us, vs, rfl, prepL_lt hL fs us hl.1 h1, prepL_lt hL cs vs hl.2 h2⟩
  | .ifc t p, v, hl, h => by
    simp only [PV.lt] at hl
    simp only [PV.rep] at h ⊢
    obtain ⟨u, rfl, h⟩ := h
    exact ⟨u, rfl, p.rep_lt hL u hl h⟩
  | .when .., v, hl, h => by simp only [PV.rep] at h
theorem prepL_lt (hL : ∀ i, i < n → L i → L' i) : ∀ (ps : List PV) (vs : List Value), ltL n ps = true → prepL S L α w ps vs → prepL S L' α w ps vs
  | [], _, _, h => by simpa only [prepL] using h
  | p :: ps, _, hl, h => by
    simp only [ltL, Bool.and_eq_true] at hl
    simp only [prepL] at h ⊢
    obtain ⟨u, us, rfl, h1, h2⟩ := h
    exact ⟨u, us, rfl, p.rep_lt hL u hl.1 h1, prepL_lt hL ps us hl.2 h2⟩
end
end
theorem leE_get {n : Nat} : ∀ {e' e : Env}, leE e' e → ltE n e' = true → ∀ t, (get e' t = get e t ∨ get e' t = .unk) ∧ (get e' t).lt n = true
  | [], _, _, _, t => ⟨.inr rfl, rfl⟩
  | (u, v) :: e', e, h, hl, t => by
    simp only [leE] at h
    simp only [ltE, Bool.and_eq_true] at hl
    simp only [get]
    by_cases hu : u = t
    · subst hu
      rw [if_pos rfl]
      exact ⟨.inl h.1.symm, hl.1⟩
    · rw [if_neg hu]
      exact leE_get h.2 hl.2 t
theorem leS_nth : ∀ {s' s : Store}, leS s' s → ∀ i, i < s'.length → lk s' i = lk s i
  | [], _, _, i, hi => by simp at hi
  | b :: s', [], h, i, hi => h.elim
  | b :: s', c :: s, h, i, hi => by
    simp only [leS] at h
    obtain ⟨rfl, h⟩ := h
    cases i with
    | zero => rfl
    | succ i =>
      have := leS_nth h i (by simpa using hi)
      simpa [lk, nth] using this
theorem ltS_lk {n : Nat} : ∀ {s : Store}, ltS n s = true → ∀ i, (lk s i).lt n = true
  | [], _, i => rfl
  | b :: s, h, i => by
    simp only [ltS, Bool.and_eq_true] at h
    cases i with
    | zero => exact h.1
    | succ i =>
      have := ltS_lk h.2 i
      simpa [lk, nth] using this

theorem State.le {A : Nat → Option Loc} {H : Hints} {S : Nat → Prop} {α : Nat → Loc} {e e' : Env} {s s' : Store} {a : Act} {w : World} (h : State A H S α e s a w) (hle : Le H.lo e' s' e s) : State A H S α e' s' a w ∧ Moved S α (lk s) w S α (lk s') w := by
  obtain ⟨h1, h2, h3⟩ := hle
  simp only [Bool.and_eq_true, decide_eq_true_eq] at h3
  obtain ⟨⟨h3, h4⟩, h5⟩ := h3
  have hlive : ∀ i, live (lk s') i → live (lk s) i := fun i hi => by
    by_cases hl : i < s'.length
    · rw [live, leS_nth h2 i hl] at hi; exact hi
    · simp [live, lk, nth_eq, List.getElem?_eq_none (Nat.le_of_not_lt hl), Blk.alive] at hi
  have hL : ∀ i, i < s'.length → live (lk s) i → live (lk s') i := fun i hl hi => by rw [live, leS_nth h2 i hl]; exact hi
  refine ⟨⟨⟨⟨fun i => ?_, fun i j hi hj => h.inj i j ⟨hlive i hi.1, hi.2⟩ ⟨hlive j hj.1, hj.2⟩, fun i hi => h.out i ⟨hlive i hi.1, hi.2⟩, h.slt⟩, fun t => ?_, h.size, h.defers⟩, fun i l hi => ?_, h3⟩, ?_⟩
  · by_cases hl : i < s'.length
    · have hb := h.sto i
      rw [← leS_nth h2 i hl] at hb
      have hlt := ltS_lk h5 i
      cases hB : lk s' i with
      | dead => trivial
      | box cs =>
        rw [hB] at hb hlt
        obtain ⟨k0, us, t, fr, k1, k2, k3, k4⟩ := hb
        exact ⟨k0, us, t, fr, k1, k2, k3, prepL_lt hL cs us hlt k4⟩
      | arr e sz n f =>
        rw [hB] at hb
        exact hb
    · simp only [lk, nth_eq, List.getElem?_eq_none (Nat.le_of_not_lt hl)]
      trivial
  · obtain ⟨k1, k2⟩ := leE_get h1 h4 t
    rcases k1 with k1 | k1
    · have := h.env t
      rw [k1] at k2
      rw [k1]
      cases hp : get e t with
      | when g c p => rw [hp] at k2; cases k2
      | _ =>
        rw [hp] at this k2
        exact PV.rep_lt hL _ _ k2 this
    · rw [k1]
      simp only [PV.erep, PV.rep]
  · obtain ⟨q1, q2, q3⟩ := h.pin i l hi
    exact ⟨q1, q2, by rw [leS_nth h2 i (by omega)]; exact q3⟩
  · exact ⟨rfl, rfl, rfl, Nat.le_refl _, fun _ _ _ => rfl, fun i hi => .inl ⟨i, ⟨hlive i hi.1, hi.2⟩, rfl⟩, fun _ h => h, fun _ h => .inl h⟩

/-! ### Code -/
section
variable {P : Program} {H : Hints}
theorem tagged_nil {e : Env} (h : ∀ u g c p, get e u ≠ .when g c p) : Tagged [] e := fun u g c p hp => absurd hp (h u g c p)

theorem ltE_nw : ∀ {n : Nat} {e : Env}, ltE n e = true → NoWhen e := by
  intro n e
  induction e with
  | nil => intro _ u g c p; simp [get]
  | cons x e ih =>
    intro hl u g c p
    obtain ⟨t, q⟩ := x
    simp only [ltE, Bool.and_eq_true] at hl
    simp only [get]
    split
    · rintro rfl; cases hl.1
    · exact ih hl.2 u g c p
theorem le_nw {lo : Nat} {e' : Env} {s' : Store} {e : Env} {s : Store} (h : Le lo e' s' e s) : NoWhen e' := by
  have := h.2.2
  simp only [Bool.and_eq_true] at this
  exact ltE_nw this.1.2
theorem Ex.not_goto {S L : Nat → Prop} {α : Nat → Loc} {w : World} {ex : Ex} {l : Nat} (h : ex.is S L α w (.goto l)) : False := by
  cases ex <;> simp [Ex.is] at h

theorem okC_tri (hmix : P.follows .mixedOrders = true) : ∀ (c : Code) (e : Env) (s : Store) (Q : Post), codeOk H c = true → okC P H c e s Q → Tri P H c e s Q
  | .skip, e, s, Q, _, h => fun A S α a w hst hnw => wp_skip ⟨.normal, e, s, S, α, h, rfl, hst, hnw, Moved.refl _ _ _ _⟩
  | .exit id, e, s, Q, _, h => fun A S α a w hst hnw => wp_exit ⟨.exit id, e, s, S, α, h, rfl, hst, hnw, Moved.refl _ _ _ _⟩
  | .ret, e, s, Q, _, h => fun A S α a w hst hnw => wp_ret ⟨.ret, e, s, S, α, h, rfl, hst, hnw, Moved.refl _ _ _ _⟩
  | .region id ops false, e, s, Q, hc, h => fun A S α a w hst hnw => by
    simp only [codeOk] at hc
    simp only [okC] at h
    exact wp_mono (wp_region_list (seqOps_ok rfl 0 ops.toList [] rfl hc hst (tagged_nil hnw) (fun _ => hnw) (Moved.refl _ _ _ _) h)) fun _ _ _ h => h.ad _
  | .region id ops true, e, s, Q, hc, h => fun A S α a w hst hnw => by
    simp only [codeOk] at hc
    simp only [okC] at h
    cases ht : lookT H.ts id with
    | none =>
      rw [ht] at hc h
      simp only [drawnOk, Bool.and_eq_true] at hc
      exact draw_ok hmix hc.1 hc.2 hst hnw h
    | some t =>
      rw [ht] at hc h
      obtain ⟨e1, s1, h1, h2⟩ := h
      refine wp_mono (treeRegion_ok hmix hc hst hnw h1) ?_
      rintro x a' w' ⟨rfl, e', s', S', α', hle, hst', hnw', hm⟩
      exact ⟨.normal, e1, s1, S', α', h2, rfl, (hst'.le hle).1, le_nw hle, hm.trans (hst'.le hle).2⟩
  | .seq x y, e, s, Q, hc, h => fun A S α a w hst hnw => by
    simp only [codeOk, Bool.and_eq_true] at hc
    simp only [okC] at h
    refine wp_seq (wp_mono (okC_tri hmix x e s _ hc.1 h A S α a w hst hnw) ?_)
    rintro ex a' w' ⟨ex', e', s', S', α', hq, hx, hst', hnw', hm⟩
    cases ex' with
    | normal =>
      simp only [Ex.is] at hx
      subst hx
      exact wp_mono (okC_tri hmix y e' s' Q hc.2 hq A S' α' a' w' hst' hnw') fun _ _ _ h => h.start hm
    | exit i => simp only [Ex.is] at hx; subst hx; exact ⟨.exit i, e', s', S', α', hq, rfl, hst', hnw', hm⟩
    | ret => simp only [Ex.is] at hx; subst hx; exact ⟨.ret, e', s', S', α', hq, rfl, hst', hnw', hm⟩
    | pan d =>
      have hx' := hx
      simp only [Ex.is] at hx
      obtain ⟨u, rfl, _⟩ := hx
      exact ⟨.pan d, e', s', S', α', hq, hx', hst', hnw', hm⟩
  | .cond c x y, e, s, Q, hc, h => fun A S α a w hst hnw => by
    simp only [codeOk, Bool.and_eq_true] at hc
    simp only [okC] at h
    have hv := opnd_rep hst.env (g := []) (fun _ _ h => by cases h) c
    unfold okCond at h
    split at h
    · rename_i b hb
      rw [hb] at hv
      simp only [PV.rep, DV.rep] at hv
      exact wp_cond_split hv (fun hb => okC_tri hmix x e s Q hc.1 (h.1 hb) A S α a w hst hnw) (fun hb => okC_tri hmix y e s Q hc.2 (h.2 hb) A S α a w hst hnw)
    · exact h.elim
  | .block id c, e, s, Q, hc, h => fun A S α a w hst hnw => by
    simp only [codeOk] at hc
    simp only [okC] at h
    refine wp_block (wp_mono (okC_tri hmix c e s _ hc h A S α a w hst hnw) ?_)
    rintro ex a' w' ⟨ex', e', s', S', α', hq, hx, hst', hnw', hm⟩
    cases ex' with
    | normal => simp only [Ex.is] at hx; subst hx; exact ⟨.normal, e', s', S', α', hq, rfl, hst', hnw', hm⟩
    | exit i =>
      simp only [Ex.is] at hx
      subst hx
      simp only [Exit.inBlock]
      simp only [qBlock] at hq
      split at hq
      · rename_i hi
        rw [if_pos hi]
        exact ⟨.normal, e', s', S', α', hq, rfl, hst', hnw', hm⟩
      · rename_i hi
        rw [if_neg hi]
        exact ⟨.exit i, e', s', S', α', hq, rfl, hst', hnw', hm⟩
    | ret => simp only [Ex.is] at hx; subst hx; exact ⟨.ret, e', s', S', α', hq, rfl, hst', hnw', hm⟩
    | pan d =>
      have hx' := hx
      simp only [Ex.is] at hx
      obtain ⟨u, rfl, _⟩ := hx
      exact ⟨.pan d, e', s', S', α', hq, hx', hst', hnw', hm⟩
  | .scope c, e, s, Q, hc, h => fun A S α a w hst hnw => by
    simp only [codeOk] at hc
    simp only [okC] at h
    refine wp_scope_straight (wp_mono (okC_tri hmix c e s _ hc h A S α a w hst hnw) ?_)
    intro ex a' w' hq
    cases ex with
    | goto l =>
      obtain ⟨ex', e', s', S', α', _, hx, _⟩ := hq
      exact (Ex.not_goto hx).elim
    | _ => exact hq
  | .loop b, e, s, Q, hc, h => fun A S α a w hst hnw => by
    simp only [codeOk] at hc
    simp only [okC] at h
    obtain ⟨ι, I, m, x0, hle, hround⟩ := h
    refine wp_loop_ghost (fun n a' w' => ∃ x S' α', m x = n ∧ State A H S' α' (I x).1 (I x).2 a' w' ∧ NoWhen (I x).1 ∧ Moved S α (lk s) w S' α' (lk (I x).2) w') (m x0) ⟨x0, S, α, rfl, (hst.le hle).1, le_nw hle, (hst.le hle).2⟩ ?_
    rintro n a' w' ⟨x, S', α', rfl, hst', hnw', hm⟩
    refine wp_mono (okC_tri hmix b _ _ _ hc (hround x) A S' α' a' w' hst' hnw') ?_
    rintro ex a'' w'' ⟨ex', e'', s'', S'', α'', hq, hx, hst'', hnw'', hm'⟩
    cases ex' with
    | normal =>
      simp only [Ex.is] at hx
      subst hx
      obtain ⟨y, hlt, hle'⟩ := hq
      exact ⟨m y, hlt, y, S'', α'', rfl, (hst''.le hle').1, le_nw hle', (hm.trans hm').trans (hst''.le hle').2⟩
    | exit i => simp only [Ex.is] at hx; subst hx; exact ⟨.exit i, e'', s'', S'', α'', hq, rfl, hst'', hnw'', hm.trans hm'⟩
    | ret => simp only [Ex.is] at hx; subst hx; exact ⟨.ret, e'', s'', S'', α'', hq, rfl, hst'', hnw'', hm.trans hm'⟩
    | pan d =>
      have hx' := hx
      simp only [Ex.is] at hx
      obtain ⟨u, rfl, _⟩ := hx
      exact ⟨.pan d, e'', s'', S'', α'', hq, hx', hst'', hnw'', hm.trans hm'⟩
  | .rangeFunc .., _, _, _, hc, _ => by simp [codeOk] at hc
  | .label _, _, _, _, hc, _ => by simp [codeOk] at hc
  | .goto _, _, _, _, hc, _ => by simp [codeOk] at hc
  | .refuse _, _, _, _, hc, _ => by simp [codeOk] at hc

/-! ### Functions -/
/-- A function's results. -/
def okRes (P : Program) : List ResultVar → Env → Store → (List PV → Prop) → Prop
  | [], _, _, R => R []
  | .tmp t :: rs, e, s, R => okRes P rs e s fun ps => R (get e t :: ps)
  | .cell a t :: rs, e, s, R => match loadQ P t s s.length (get e a) with
    | .ok C v none => C ∧ okRes P rs e s fun ps => R (v :: ps)
    | _ => False
/-- What is ours becomes what nobody writes. -/
def frz1 : Option (PV × Bool) → Option DV
  | some (.d x, _) => some x
  | _ => none
def frzV (s : Store) (p : PV) : Option DV := frz1 (viewV s p)
def frzL (s : Store) : List PV → Option (List DV)
  | [] => some []
  | p :: ps => match frzV s p, frzL s ps with
    | some x, some xs => some (x :: xs)
    | _, _ => none
def isD (rs : List DV) (s : Store) (ps : List PV) : Prop := match frzL s ps with
  | some ds => ds = rs
  | none => False
/-- The end of a function of values alone. -/
def qD (P : Program) (res : List ResultVar) (rs : List DV) : Post := fun ex e s => match ex with
  | .ret | .normal => okRes P res e s (isD rs s)
  | _ => False
def argE : Nat → List PV → Env
  | _, [] => []
  | i, p :: ps => (i, p) :: argE (i + 1) ps
end
end Go.Ev

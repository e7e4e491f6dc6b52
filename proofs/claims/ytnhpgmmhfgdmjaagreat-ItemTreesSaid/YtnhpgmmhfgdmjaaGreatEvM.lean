/- The walk over a region's operations in the order of the text, and over code. -/
import Derived.Test.YtnhpgmmhfgdmjaaGreatEvL
set_option linter.unusedVariables false
set_option linter.unusedSimpArgs false
namespace Go.Ev
open Go.RowKit

abbrev Post := Ex → Env → Store → Prop

def hasG : List Oper → Bool
  | [] => false
  | o :: os => o.guard.isSome || hasG os
def clean : Env → Env
  | [] => []
  | (t, .when _ _ _) :: e => (t, .unk) :: clean e
  | (t, p) :: e => (t, p) :: clean e
def cleanIf (b : Bool) (e : Env) : Env := if b then clean e else e
def wraps (l : List Nat) : Option Tmp → Bool
  | some t => l.contains t
  | none => false
def kCall (g : List (Tmp × Bool)) (c : Prop) (e : Env) (s : Store) (K : PV → Env → Store → Prop) : List DV → Prop := fun rs => K (wrapV g c (resPV rs)) e s

/-- A length is an int. -/
def factV : PV → Prop
  | .d (.str s) => fits s.size
  | .d (.list _ n _) => fits n
  | .own _ _ n => fits n
  | _ => True
def lenFact (ε : Nat → PV) : List (Tmp × Bool) → Op → Prop
  | [], .call c => (match c.callee, c.args.toList with
    | .builtin .len, [x] => factV (opnd ε [] x)
    | _, _ => True)
  | _, _ => True
/-- In a drawn region it is not known which lengths were asked for. -/
def lenF : Bool → Prop → Prop
  | true, _ => True
  | false, p => p
/-! ### Calls that write -/
/-- The contract of a function over a store. -/
def FnE (P : Program) (f : FuncId) (args : List PV) (s : Store) (R : List PV → Store → Prop) : Prop :=
  callable P f ∧ ∀ S α w vals, RelS S α (lk s) w → prepL S (live (lk s)) α w args vals →
    Calls P f vals.toArray w fun e w' => ∃ rs s' S' α' v, R rs s' ∧ e = .returned v ∧ (resP rs).rep S' (live (lk s')) α' w' v ∧ RelS S' α' (lk s') w' ∧ Moved S α (lk s) w S' α' (lk s') w' ∧ s.length ≤ s'.length ∧
      ∀ i, i < s.length → (lk s i).isArr = false → α' i = α i ∧ (lk s' i).isArr = false
/-- It takes a slice of ours and values, and gives the slice back, grown. -/
def FnB (P : Program) (f : FuncId) (e sz n : Nat) (g : Nat → DV) (xs : List DV) (n' : Nat) (g' : Nat → DV) : Prop :=
  FnE P f (.own 0 0 n :: xs.map .d) [.arr e sz n g] fun rs s' => rs = [.own 0 0 n'] ∧ s' = [.arr e sz n' g']
def fbK (P : Program) (f : FuncId) (id n : Nat) (e : Env) (s : Store) (K : PV → Env → Store → Prop) : Option Blk → Option (List DV) → Prop
  | some (.arr el sz m g), some xs => m = n ∧ ∃ n' g', FnB P f el sz n g xs n' g' ∧ K (.own id 0 n') (killE id e) (setN (killS id s) id (.arr el sz n' g'))
  | _, _ => False
def fbV : Option (List PV × Bool) → Option (List DV)
  | some (qs, false) => allD qs
  | _ => none
def fbQ (P : Program) (f : FuncId) (e : Env) (s : Store) (K : PV → Env → Store → Prop) : List PV → Prop
  | .own id 0 n :: ps => fbK P f id n e s K (nth s id) (fbV (viewsV s ps))
  | _ => False
/-- What was a box is one. -/
def boxKept : Store → Store → Bool
  | [], _ => true
  | .box _ :: s, .box _ :: s' => boxKept s s'
  | .box _ :: _, _ => false
  | _ :: s, _ :: s' => boxKept s s'
  | _ :: _, [] => false
def Blk.isBox : Option Blk → Bool
  | some (.box _) => true
  | _ => false
def keepPtr (id off : Nat) : Bool → PV
  | true => .ptr id off
  | false => .unk
mutual
/-- What is known of a value behind a call that writes: of the blocks of ours only the boxes are where they were. -/
def PV.keep (s : Store) : PV → PV
  | .own .. => .unk
  | .eptr .. => .unk
  | .ptr id off => keepPtr id off (Blk.isBox (nth s id))
  | .agg cs => .agg (keepL s cs)
  | .tup cs => .tup (keepL s cs)
  | .clo fn a b => .clo fn (keepL s a) (keepL s b)
  | .ifc t p => .ifc t (p.keep s)
  | .when g c p => .when g c (p.keep s)
  | p => p
def keepL (s : Store) : List PV → List PV
  | [] => []
  | p :: ps => p.keep s :: keepL s ps
end
def keepE (s : Store) : Env → Env
  | [] => []
  | (t, p) :: e => (t, p.keep s) :: keepE s e
def kEff (e : Env) (s : Store) (K : PV → Env → Store → Prop) : List PV → Store → Prop := fun rs s' => boxKept s s' = true ∧ K (resP rs) (keepE s e) s'

/-- The guard's value is known. -/
def gB (b : Bool) : PV → Prop
  | .d (.bool q) => q = b
  | _ => False
/-- The guard is known to hold, or there is none. -/
def gOn (quiet : Bool) (e : Env) : List (Tmp × Bool) → Prop
  | [] => True
  | [(t, b)] => quiet = false ∧ gB b (get e t)
  | _ => False
theorem gOn_true {e : Env} {g : List (Tmp × Bool)} (h : gOn true e g) : g = [] := by
  unfold gOn at h
  split at h
  · rfl
  · cases h.1
  · exact h.elim
theorem gOn_hold {S L : Nat → Prop} {α : Nat → Loc} {w : World} {tmps : Array Value} {quiet : Bool} {e : Env} {g : List (Tmp × Bool)} (he : ∀ t, (get e t).erep S L α w tmps (tmps.getD t undef)) (h : gOn quiet e g) : hold tmps g := by
  unfold gOn at h
  split at h
  · exact fun t b hm => absurd hm (by simp)
  · rename_i t b
    intro t' b' hm
    simp only [List.mem_singleton, Prod.mk.injEq] at hm
    obtain ⟨rfl, rfl⟩ := hm
    have k := he t'
    have h2 := h.2
    unfold gB at h2
    split at h2
    · rename_i q hq
      rw [hq] at k
      subst h2
      simpa only [PV.erep, PV.rep, DV.rep] using k
    · exact h2.elim
  · exact h.elim

/-- One operation; K: what must be shown of its value and of the state behind it. -/
def okO (P : Program) (H : Hints) (all : List Oper) (quiet : Bool) (lim : Nat) (o : Oper) (e : Env) (s : Store) (Q : Post) (K : PV → Env → Store → Prop) : Prop :=
  match guardQ all e o.guard with
  | none => False
  | some (g, c) => match calleeQ (get e) g o.op with
    | some (f, args) => if H.fb.contains f = true then quiet = false ∧ g = [] ∧ fbQ P f e s K args else if H.fx.contains f = true then quiet = false ∧ g = [] ∧ FnE P f args s (kEff e s K) else (match viewsV s args with
      | some (ds, vw) => (quiet && vw) = false ∧ CallK P c f ds vw (kCall g c e s K)
      | none => False)
    | none => match opQ P (wraps H.wr o.dst) o.op (get e) g s lim s.length with
      | .ok C v none => (c → C) ∧ (lenF quiet (lenFact (get e) g o.op) → K (wrapV g c v) e s)
      | .ok C v (some B) => gOn quiet e g ∧ (c → C) ∧ K v e (s ++ [B])
      | .bad => if quiet then False else (match g with
        | [] => (match effQ P o.op e s with
          | .ok C v e' s' => C ∧ K v e' s'
          | .bad => False)
        | _ => False)

def okOps (P : Program) (H : Hints) (all : List Oper) : Nat → Nat → List Oper → Env → Store → Post → Prop
  | _, _, [], e, s, Q => Q .normal (cleanIf (hasG all) e) s
  | q, base, o :: os, e, s, Q => okO P H all (q != 0) (if q = 0 then s.length else base) o e s Q fun v e s => okOps P H all (q - 1) base os (setD e o.dst v) s Q
def kNext (P : Program) (H : Hints) (all : List Oper) (q base : Nat) (os : List Oper) (dst : Option Tmp) (Q : Post) : PV → Env → Store → Prop := fun v e s => okOps P H all q base os (setD e dst v) s Q

/-! ### States -/
def PinOk (A : Nat → Option Loc) (lo : Nat) (α : Nat → Loc) (s : Store) : Prop := ∀ i l, A i = some l → i < lo ∧ α i = l ∧ (lk s i).isArr = false
structure State (A : Nat → Option Loc) (H : Hints) (S : Nat → Prop) (α : Nat → Loc) (e : Env) (s : Store) (a : Act) (w : World) : Prop extends Rel H.nt S α (get e) (lk s) a w where
  pin : PinOk A H.lo α s
  lo : H.lo ≤ s.length

def Ex.is (S L : Nat → Prop) (α : Nat → Loc) (w : World) : Ex → Exit → Prop
  | .normal, x => x = .normal
  | .exit i, x => x = .exit i
  | .ret, x => x = .ret
  | .pan d, x => ∃ u, x = .panic [{ v := u, recovered := false }] ∧ d.rep S w u

def NoWhen (e : Env) : Prop := ∀ u g c p, get e u ≠ .when g c p
/-- Behind a piece of code, seen from a start. -/
def After (A : Nat → Option Loc) (H : Hints) (S0 : Nat → Prop) (α0 : Nat → Loc) (σ0 : Sto) (w0 : World) (Q : Post) : Exit → Act → World → Prop := fun x a w =>
  ∃ ex e s S α, Q ex e s ∧ ex.is S (live (lk s)) α w x ∧ State A H S α e s a w ∧ NoWhen e ∧ Moved S0 α0 σ0 w0 S α (lk s) w

theorem After.mono {A : Nat → Option Loc} {H : Hints} {S0 : Nat → Prop} {α0 : Nat → Loc} {σ0 : Sto} {w0 : World} {Q Q' : Post} {x : Exit} {a : Act} {w : World} (h : After A H S0 α0 σ0 w0 Q x a w) (hq : ∀ ex e s, Q ex e s → Q' ex e s) : After A H S0 α0 σ0 w0 Q' x a w := by
  obtain ⟨ex, e, s, S, α, h1, h2⟩ := h
  exact ⟨ex, e, s, S, α, hq _ _ _ h1, h2⟩
theorem After.start {A : Nat → Option Loc} {H : Hints} {S0 S1 : Nat → Prop} {α0 α1 : Nat → Loc} {σ0 σ1 : Sto} {w0 w1 : World} {Q : Post} {x : Exit} {a : Act} {w : World} (hm : Moved S0 α0 σ0 w0 S1 α1 σ1 w1) (h : After A H S1 α1 σ1 w1 Q x a w) : After A H S0 α0 σ0 w0 Q x a w := by
  obtain ⟨ex, e, s, S, α, h1, h2, h3, h5, h4⟩ := h
  exact ⟨ex, e, s, S, α, h1, h2, h3, h5, hm.trans h4⟩

/-- A piece of code, walked. -/
def Tri (P : Program) (H : Hints) (c : Code) (e : Env) (s : Store) (Q : Post) : Prop :=
  ∀ A S α a w, State A H S α e s a w → NoWhen e → c.wp P (After A H S α (lk s) w Q) a w

/-! ### Closed looks at a region -/
def regOk (nt : Nat) : List Oper → List Oper → Bool
  | _, [] => true
  | done, o :: os => (match o.dst with
      | some d => decide (d < nt) && done.all (fun x => x.dst != some d)
      | none => true) && (match o.guard with
      | some (j, _) => decide (j < done.length)
      | none => true) && regOk nt (done ++ [o]) os

def Tagged (done : List Oper) (e : Env) : Prop := ∀ u g c p, get e u = .when g c p → ∀ t b, (t, b) ∈ g → ∃ o ∈ done, o.dst = some t

/-! ### Guards -/
section
variable {S L : Nat → Prop} {α : Nat → Loc} {w : World} {tmps : Array Value} {e : Env} {all : List Oper} {ops : Array Oper}
theorem undef_ne (b : Bool) : undef ≠ .bool b := by simp [undef]

theorem guard_ok (hall : ops.toList = all) {o : Oper} (he : ∀ j b t, o.guard = some (j, b) → guardT all j = some t → (get e t).erep S L α w tmps (tmps.getD t undef)) {g : List (Tmp × Bool)} {c : Prop} (h : guardQ all e o.guard = some (g, c)) :
    (Region.wanted o (yielded ops tmps) = true ∧ hold tmps g ∧ c) ∨ (Region.wanted o (yielded ops tmps) = false ∧ ¬ hold tmps g ∧ g ≠ []) := by
  unfold guardQ at h
  cases hgd : o.guard with
  | none =>
    rw [hgd] at h
    simp only [Option.some.injEq, Prod.mk.injEq] at h
    obtain ⟨rfl, rfl⟩ := h
    exact .inl ⟨by simp [Region.wanted, hgd], fun _ _ h => (by cases h), trivial⟩
  | some x =>
    obtain ⟨j, b⟩ := x
    rw [hgd] at h
    dsimp only at h
    split at h
    · rename_i t ht
      have hy : yielded ops tmps j = match tmps[t]? with | some (.bool b) => some b | _ => none := by
        unfold guardT at ht
        split at ht
        · rename_i o' ho'
          rw [nth_eq, ← hall] at ho'
          simp only [Array.getElem?_toList] at ho'
          simp [yielded, ho', ht]
          rfl
        · cases ht
      have hw : Region.wanted o (yielded ops tmps) = (yielded ops tmps j == some b) := by simp [Region.wanted, hgd]
      have hget : ∀ q : Bool, tmps.getD t undef = .bool q → tmps[t]? = some (.bool q) := by
        intro q hq
        rw [Array.getD_eq_getD_getElem?] at hq
        cases hh : tmps[t]? with
        | none => rw [hh] at hq; exact absurd hq (undef_ne q)
        | some v => rw [hh] at hq; simpa using hq
      have hund : tmps.getD t undef = undef → yielded ops tmps j = none := by
        intro hq
        rw [hy]
        rw [Array.getD_eq_getD_getElem?] at hq
        cases hh : tmps[t]? with
        | none => rfl
        | some v =>
          rw [hh] at hq
          simp only [Option.getD_some] at hq
          subst hq
          rfl
      have ht' := he j b t hgd ht
      unfold guardV at h
      split at h
      · rename_i p hp
        simp only [Option.some.injEq, Prod.mk.injEq] at h
        obtain ⟨rfl, rfl⟩ := h
        rw [hp] at ht'
        simp only [PV.erep, PV.rep, DV.rep] at ht'
        have hyy : yielded ops tmps j = some p := by rw [hy, hget _ ht']
        rw [hw, hyy]
        by_cases hpb : p = b
        · subst hpb
          exact .inl ⟨by simp, fun t' b' hm => by
            simp only [List.mem_singleton, Prod.mk.injEq] at hm
            rw [hm.1, hm.2]
            exact ht', rfl⟩
        · exact .inr ⟨by simpa using hpb, fun hh => hpb (by
            have := hh t b (by simp)
            rw [ht'] at this
            simpa using this), by simp⟩
      · rename_i g' c' p hp
        simp only [Option.some.injEq, Prod.mk.injEq] at h
        obtain ⟨rfl, rfl⟩ := h
        rw [hp] at ht'
        simp only [PV.erep, PV.rep, DV.rep] at ht'
        by_cases hh : hold tmps g'
        · obtain ⟨hc, hv⟩ := ht'.1 hh
          have hyy : yielded ops tmps j = some p := by rw [hy, hget _ hv]
          rw [hw, hyy]
          by_cases hpb : p = b
          · subst hpb
            exact .inl ⟨by simp, fun t' b' hm => by
              rcases List.mem_cons.1 hm with hm | hm
              · simp only [Prod.mk.injEq] at hm
                rw [hm.1, hm.2]
                exact hv
              · exact hh _ _ hm, hc, rfl⟩
          · exact .inr ⟨by simpa using hpb, fun hh => hpb (by
              have := hh t b (by simp)
              rw [hv] at this
              simpa using this), by simp⟩
        · have hv := ht'.2 hh
          rw [hw, hund hv]
          exact .inr ⟨by simp, fun h2 => hh fun t' b' hm => h2 t' b' (by simp [hm]), by simp⟩
      · cases h
    · cases h

/-- The tags of a guard are temporaries of operations that went before. -/
theorem guard_tags {done rest : List Oper} (hall : all = done ++ rest) (ht : Tagged done e) {o : Oper} (hj : ∀ j b, o.guard = some (j, b) → j < done.length) {g : List (Tmp × Bool)} {c : Prop} (h : guardQ all e o.guard = some (g, c)) :
    ∀ t b, (t, b) ∈ g → ∃ x ∈ done, x.dst = some t := by
  unfold guardQ at h
  cases hgd : o.guard with
  | none =>
    rw [hgd] at h
    simp only [Option.some.injEq, Prod.mk.injEq] at h
    obtain ⟨rfl, rfl⟩ := h
    intro t b hm
    cases hm
  | some x =>
    obtain ⟨j, b⟩ := x
    rw [hgd] at h
    dsimp only at h
    split at h
    · rename_i t htt
      have hlt := hj j b hgd
      have hx : ∃ x ∈ done, x.dst = some t := by
        unfold guardT at htt
        split at htt
        · rename_i o' ho'
          rw [nth_eq, hall, List.getElem?_append_left hlt] at ho'
          exact ⟨o', List.mem_of_getElem? ho', htt⟩
        · cases htt
      unfold guardV at h
      split at h
      · simp only [Option.some.injEq, Prod.mk.injEq] at h
        obtain ⟨rfl, rfl⟩ := h
        intro t' b' hm
        simp only [List.mem_singleton, Prod.mk.injEq] at hm
        rw [hm.1]
        exact hx
      · rename_i g' c' p hp
        simp only [Option.some.injEq, Prod.mk.injEq] at h
        obtain ⟨rfl, rfl⟩ := h
        intro t' b' hm
        rcases List.mem_cons.1 hm with hm | hm
        · simp only [Prod.mk.injEq] at hm
          rw [hm.1]
          exact hx
        · exact ht t g' c' _ hp t' b' hm
      · cases h
    · cases h
end

/-! ### What is put into a temporary -/
theorem getD_put {tmps : Array Value} {d t : Nat} {u : Value} (hd : d < tmps.size) : (tmps.setIfInBounds d u).getD t undef = if t = d then u else tmps.getD t undef := by
  simp only [Array.getD_eq_getD_getElem?, Array.getElem?_setIfInBounds]
  by_cases h : d = t
  · subst h
    simp [hd]
  · rw [if_neg h, if_neg (fun e => h e.symm)]
theorem get_setD {e : Env} {d : Tmp} {v : PV} (t : Nat) : get (setD e (some d) v) t = if t = d then v else get e t := by
  simp only [setD, get]
  by_cases h : d = t
  · subst h; simp
  · rw [if_neg h, if_neg (fun e => h e.symm)]

section
variable {S L : Nat → Prop} {α : Nat → Loc} {w : World}
/-- The environment behind an operation. -/
theorem env_put {e : Env} {a : Act} {done : List Oper} {o : Oper} {v : PV} {u : Value} (he : ∀ t, (get e t).erep S L α w a.tmps (a.tmps.getD t undef)) (ht : Tagged done e) (hd : ∀ d, o.dst = some d → d < a.tmps.size ∧ ∀ x ∈ done, x.dst ≠ some d)
    (hv : ∀ tmps', (∀ t, (∃ x ∈ done, x.dst = some t) → tmps'.getD t undef = a.tmps.getD t undef) → v.erep S L α w tmps' u) (htv : ∀ g c p, v = .when g c p → ∀ t b, (t, b) ∈ g → ∃ x ∈ done, x.dst = some t) :
    (∀ t, (get (setD e o.dst v) t).erep S L α w (a.put o.dst u).tmps ((a.put o.dst u).tmps.getD t undef)) ∧ Tagged (done ++ [o]) (setD e o.dst v) := by
  cases hdst : o.dst with
  | none =>
    refine ⟨he, fun x g c p hx t b hm => ?_⟩
    obtain ⟨y, hy, hyd⟩ := ht x g c p hx t b hm
    exact ⟨y, by simp [hy], hyd⟩
  | some d =>
    obtain ⟨hlt, hdd⟩ := hd d hdst
    have hsame : ∀ t, (∃ x ∈ done, x.dst = some t) → (a.tmps.setIfInBounds d u).getD t undef = a.tmps.getD t undef := fun t ⟨x, hx, hxd⟩ => by
      rw [getD_put hlt, if_neg]
      rintro rfl
      exact hdd x hx hxd
    refine ⟨fun t => ?_, fun x g c p hx t b hm => ?_⟩
    · simp only [Act.put]
      rw [get_setD, getD_put hlt]
      split
      · exact hv _ hsame
      · refine PV.erep_mono (fun _ x => x) (fun _ _ => rfl) (fun i hi => ⟨hi, rfl, fun _ => rfl⟩) _ _ (fun g c q hq => ?_) (he t)
        constructor <;> intro hh t' b' hm
        · rw [← hsame t' (ht t g c q hq t' b' hm)]; exact hh t' b' hm
        · rw [hsame t' (ht t g c q hq t' b' hm)]; exact hh t' b' hm
    · rw [get_setD] at hx
      split at hx
      · obtain ⟨y, hy, hyd⟩ := htv g c p hx t b hm
        exact ⟨y, by simp [hy], hyd⟩
      · obtain ⟨y, hy, hyd⟩ := ht x g c p hx t b hm
        exact ⟨y, by simp [hy], hyd⟩
end
end Go.Ev

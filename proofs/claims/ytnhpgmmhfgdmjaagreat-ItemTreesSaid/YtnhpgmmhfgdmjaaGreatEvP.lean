/- From code to functions. -/
import Derived.Test.YtnhpgmmhfgdmjaaGreatEvO
set_option linter.unusedVariables false
set_option linter.unusedSimpArgs false
namespace Go.Ev
open Go.RowKit

section
variable {P : Program} {S : Nat → Prop} {α : Nat → Loc} {s : Store} {w : World}

theorem frzV_rep (hr : RelS S α (lk s) w) {p : PV} {x : DV} {v : Value} (h : frzV s p = some x) (hp : p.rep S (live (lk s)) α w v) : x.rep (fun k => S k ∨ ∃ i, real (lk s) α i ∧ (α i).b = k) w v := by
  unfold frzV frz1 at h
  split at h
  · rename_i y b hv
    simp only [Option.some.injEq] at h
    subst h
    have k := viewV_rep hr (fun _ => False) (fun _ => default) p hv (fun _ _ _ h => lk_nth h) hp
    simp only [PV.rep] at k
    exact DV.rep_mono (fun k hk => hk.imp id fun hk => hk.2) (fun _ _ => rfl) _ _ k
  · cases h
theorem frzL_rep (hr : RelS S α (lk s) w) : ∀ {ps : List PV} {xs : List DV} {vs : List Value}, frzL s ps = some xs → prepL S (live (lk s)) α w ps vs → ∀ L' α', prepL (fun k => S k ∨ ∃ i, real (lk s) α i ∧ (α i).b = k) L' α' w (xs.map .d) vs
  | [], xs, vs, h, hp, L', α' => by
    simp only [frzL, Option.some.injEq] at h
    subst h
    simpa only [prepL, List.map_nil] using hp
  | p :: ps, xs, vs, h, hp, L', α' => by
    simp only [prepL] at hp
    obtain ⟨u, us, rfl, h1, h2⟩ := hp
    simp only [frzL] at h
    split at h
    · rename_i x xs' e1 e2
      simp only [Option.some.injEq] at h
      subst h
      simp only [List.map_cons, prepL, PV.rep]
      exact ⟨u, us, rfl, frzV_rep hr e1 h1, frzL_rep hr e2 h2 L' α'⟩
    · cases h

def resSem (tmps : Array Value) : ResultVar → Sem Value
  | .tmp t => pure (tmps.getD t undef)
  | .cell x t => do loadVar t (← asAddr (tmps.getD x undef))
/-- A function's results, read at its end. -/
theorem okRes_run {e : Env} {a : Act} (hr : RelS S α (lk s) w) (he : ∀ t, (get e t).erep S (live (lk s)) α w a.tmps (a.tmps.getD t undef)) (hnw : NoWhen e) : ∀ {rs : List ResultVar} {R : List PV → Prop}, okRes P rs e s R →
    ∃ ps vs, R ps ∧ prepL S (live (lk s)) α w ps vs ∧ (rs.mapM (resSem a.tmps)).run P w = .ok vs w
  | [], R, h => ⟨[], [], h, by simp only [prepL], by simp⟩
  | .tmp t :: rs, R, h => by
    simp only [okRes] at h
    obtain ⟨ps, vs, h1, h2, h3⟩ := okRes_run hr he hnw h
    refine ⟨get e t :: ps, a.tmps.getD t undef :: vs, h1, ?_, by simp only [List.mapM_cons, resSem, Sem.run_bind, Sem.run_pure, Result.andThen_ok, h3]⟩
    simp only [prepL]
    refine ⟨_, _, rfl, ?_, h2⟩
    have := he t
    cases hp : get e t with
    | when g c p => exact absurd hp (hnw t g c p)
    | _ => rw [hp] at this; exact this
  | .cell x t :: rs, R, h => by
    simp only [okRes] at h
    split at h
    · rename_i C v hq
      obtain ⟨hC, h⟩ := h
      obtain ⟨ps, vs, h1, h2, h3⟩ := okRes_run hr he hnw h
      have hx := he x
      have hx' : (get e x).rep S (live (lk s)) α w (a.tmps.getD x undef) := by
        cases hp : get e x with
        | when g c p => exact absurd hp (hnw x g c p)
        | _ => rw [hp] at hx; exact hx
      obtain ⟨_, u, hrun, hv⟩ := load_ok (P := P) hr (fun id B _ hB => lk_nth hB) hx' hq hC
      have hrun' : (resSem a.tmps (.cell x t)).run P w = .ok u w := by
        simp only [resSem]
        unfold Instr.loadAt Instr.sureAddr at hrun
        generalize a.tmps.getD x undef = y at hrun ⊢
        cases y <;> try (simp at hrun; done)
        rename_i o
        cases o <;> try (simp at hrun; done)
        simpa [asAddr] using hrun
      refine ⟨v :: ps, u :: vs, h1, ?_, by simp only [List.mapM_cons, Sem.run_bind, Sem.run_pure, Result.andThen_ok, h3, hrun']⟩
      simp only [prepL]
      exact ⟨_, _, rfl, hv, h2⟩
    · exact h.elim

theorem results_run {fn : Func} {tmps : Array Value} {vs : List Value} (h : (fn.results.toList.mapM (resSem tmps)).run P w = .ok vs w) : (results fn tmps).run P w = .ok (if h : vs.length = 1 then vs[0] else .tuple vs.toArray) w := by
  have e : results fn tmps = (do let vs ← fn.results.mapM (resSem tmps); pure (if h : vs.size = 1 then vs[0] else .tuple vs)) := by
    unfold results
    congr 1
  have h2 : (fn.results.mapM (resSem tmps)).run P w = .ok vs.toArray w := by
    have := Array.mapM_eq_mapM_toList (m := Sem) (f := resSem tmps) (xs := fn.results)
    rw [this, Sem.run_map, h]
    rfl
  rw [e]
  simp only [Sem.run_bind, h2, Result.andThen_ok, Sem.run_pure]
  rfl

theorem resP_of {L : Nat → Prop} {ps : List PV} {vs : List Value} (h : prepL S L α w ps vs) : (resP ps).rep S L α w (if h : vs.length = 1 then vs[0] else .tuple vs.toArray) := by
  have hl := prepL_length h
  match ps, vs, h with
  | [], vs, h =>
    simp only [prepL] at h
    subst h
    simp only [resP, PV.rep, prepL]
    exact ⟨[], rfl, rfl⟩
  | [p], vs, h =>
    simp only [prepL] at h
    obtain ⟨u, us, rfl, h1, rfl⟩ := h
    simpa [resP] using h1
  | p :: q :: ps, vs, h =>
    have : ¬ vs.length = 1 := by simp at hl; omega
    rw [dif_neg this]
    simp only [resP, PV.rep]
    exact ⟨vs, rfl, h⟩

theorem prepL_get {L : Nat → Prop} : ∀ {ps : List PV} {vs : List Value} (k t : Nat), prepL S L α w ps vs → (get (argE k ps) t).rep S L α w (if k ≤ t then vs.getD (t - k) undef else undef) ∧ ∀ g c p, get (argE k ps) t ≠ .when g c p
  | [], vs, k, t, h => ⟨by simp only [argE, get, PV.rep], by simp [argE, get]⟩
  | p :: ps, vs, k, t, h => by
    simp only [prepL] at h
    obtain ⟨u, us, rfl, h1, h2⟩ := h
    simp only [argE, get]
    by_cases hk : k = t
    · subst hk
      rw [if_pos rfl, if_pos (Nat.le_refl _)]
      exact ⟨by simpa using h1, rep_not_when h1⟩
    · rw [if_neg hk]
      obtain ⟨k1, k2⟩ := prepL_get (k + 1) t h2
      refine ⟨?_, k2⟩
      by_cases hkt : k ≤ t
      · rw [if_pos hkt]
        rw [if_pos (by omega)] at k1
        obtain ⟨m, hm⟩ : ∃ m, t - k = m + 1 := ⟨t - k - 1, by omega⟩
        rw [hm]
        rw [show t - (k + 1) = m by omega] at k1
        simpa using k1
      · rw [if_neg hkt]
        rw [if_neg (by omega)] at k1
        exact k1

/-- A function of values alone, out of its code. -/
theorem fnD_intro {f : FuncId} {fn : Func} {c : Code} (hf : P.funcs[f]? = some fn) (hb : fn.body = some c) (hname : (fn.name == "runtime.NumGoroutine") = false) {H : Hints} (hlo : H.lo = 0) (hnt : H.nt = fn.ntmps) {args : List PV} {rs : List DV} (hlen : args.length ≤ fn.ntmps)
    (h : Tri P H c (argE 0 args) [] (qD P fn.results.toList rs)) : FnD P f args rs := by
  refine ⟨⟨fn, hf, hname, by rw [hb]; rfl⟩, ?_⟩
  intro S α w vals hr hv
  have hl := prepL_length hv
  refine calls_of_wp hf hb ?_
  have hr0 : RelS S α (lk []) w := hr
  have hst : State (fun _ => none) H S α (argE 0 args) [] { tmps := vals.toArray ++ Array.replicate (fn.ntmps - vals.toArray.size) undef, defers := [] } w := by
    refine ⟨⟨hr0, fun t => ?_, ?_, rfl⟩, (fun i l h => by cases h), by rw [hlo]; exact Nat.zero_le _⟩
    · obtain ⟨k1, k2⟩ := prepL_get (S := S) (L := live (lk [])) (α := α) (w := w) 0 t hv
      rw [if_pos (Nat.zero_le _), Nat.sub_zero] at k1
      refine erep_of_rep ?_
      have : (vals.toArray ++ Array.replicate (fn.ntmps - vals.toArray.size) undef).getD t undef = vals.getD t undef := by
        simp only [Array.getD_eq_getD_getElem?, List.getD_eq_getElem?_getD, Array.getElem?_append, List.size_toArray, List.getElem?_toArray]
        split
        · rfl
        · rename_i hge
          rw [List.getElem?_eq_none (by omega)]
          simp only [Array.getElem?_replicate]
          split <;> rfl
      rw [this]
      exact k1
    · simp only [Array.size_append, List.size_toArray, Array.size_replicate]
      rw [hnt]
      omega
  refine wp_mono (h _ S α _ w hst (fun u g c p => (prepL_get (S := S) (L := live (lk [])) (α := α) (w := w) 0 u hv).2 g c p)) ?_
  rintro x a' w' ⟨ex, e', s', S', α', hq, hx, hst', hnw', hm⟩
  have fin : okRes P fn.results.toList e' s' (isD rs s') → a'.defers = [] ∧ ∃ v, (results fn a'.tmps).run P w' = .ok v w' ∧ ∃ r σ' S'' α'', (r = Out.ret (rs.map .d) ∧ σ' = sto0) ∧ r.ends S'' (live σ') α'' w' (.returned v) ∧ RelS S'' α'' σ' w' ∧ Moved S α sto0 w S'' α'' σ' w' ∧ ∀ i cs, sto0 i = .box cs → α'' i = α i := by
    intro hq
    obtain ⟨ps, vs, h1, h2, h3⟩ := okRes_run hst'.toRelS hst'.env hnw' hq
    refine ⟨hst'.defers, _, results_run h3, .ret (rs.map .d), sto0, fun k => S' k ∨ ∃ i, real (lk s') α' i ∧ (α' i).b = k, α', ⟨rfl, rfl⟩, ⟨_, rfl, ?_⟩, ?_, ?_, fun i cs h => by cases h⟩
    · unfold isD at h1
      split at h1
      · rename_i ds hds
        subst h1
        exact resP_of (frzL_rep hst'.toRelS hds h2 _ _)
      · exact h1.elim
    · have hno : ∀ i, ¬ real sto0 α' i := fun i h => by simp [real, live, sto0, Blk.alive] at h
      exact ⟨fun _ => trivial, fun i _ hi => absurd hi (hno _), fun i hi => absurd hi (hno _), fun b hb => by
        rcases hb with hb | ⟨i, hi, rfl⟩
        · exact hst'.slt b hb
        · exact (hst'.out i hi).2⟩
    · have hno : ∀ α i, ¬ real sto0 α i := fun α i h => by simp [real, live, sto0, Blk.alive] at h
      refine ⟨hm.os, hm.tape, hm.output, hm.size, hm.same, fun i hi => absurd hi (hno _ _), fun b hb => .inl (hm.sub b hb), fun b hb => ?_⟩
      rcases hb with hb | ⟨i, hi, rfl⟩
      · exact hm.new b hb
      · rcases hm.lives i hi with ⟨j, hj, _⟩ | h
        · exact absurd hj (hno _ _)
        · exact .inr (.inl h)
  cases ex with
  | normal => simp only [Ex.is] at hx; subst hx; exact fin hq
  | ret => simp only [Ex.is] at hx; subst hx; exact fin hq
  | exit i => exact hq.elim
  | pan d => exact hq.elim

/-- The end of a function that is run over a store. -/
def qE (P : Program) (res : List ResultVar) (R : List PV → Store → Prop) : Post := fun ex e s => match ex with
  | .ret | .normal => okRes P res e s fun ps => R ps s
  | _ => False
/-- A function over a store, out of its code. -/
theorem fnE_intro {f : FuncId} {fn : Func} {c : Code} (hf : P.funcs[f]? = some fn) (hb : fn.body = some c) (hname : (fn.name == "runtime.NumGoroutine") = false) {H : Hints} {s : Store} (hlo : H.lo = s.length) (hnt : H.nt = fn.ntmps) {args : List PV} {R : List PV → Store → Prop} (hlen : args.length ≤ fn.ntmps)
    (h : Tri P H c (argE 0 args) s (qE P fn.results.toList R)) : FnE P f args s R := by
  refine ⟨⟨fn, hf, hname, by rw [hb]; rfl⟩, ?_⟩
  intro S α w vals hr hv
  have hl := prepL_length hv
  refine calls_of_wp hf hb ?_
  have hst : State (fun i => if i < s.length ∧ (lk s i).isArr = false then some (α i) else none) H S α (argE 0 args) s { tmps := vals.toArray ++ Array.replicate (fn.ntmps - vals.toArray.size) undef, defers := [] } w := by
    refine ⟨⟨hr, fun t => ?_, ?_, rfl⟩, fun i l h => ?_, by rw [hlo]; exact Nat.le_refl _⟩
    · obtain ⟨k1, k2⟩ := prepL_get (S := S) (L := live (lk s)) (α := α) (w := w) 0 t hv
      rw [if_pos (Nat.zero_le _), Nat.sub_zero] at k1
      refine erep_of_rep ?_
      have : (vals.toArray ++ Array.replicate (fn.ntmps - vals.toArray.size) undef).getD t undef = vals.getD t undef := by
        simp only [Array.getD_eq_getD_getElem?, List.getD_eq_getElem?_getD, Array.getElem?_append, List.size_toArray, List.getElem?_toArray]
        split
        · rfl
        · rename_i hge
          rw [List.getElem?_eq_none (by omega)]
          simp only [Array.getElem?_replicate]
          split <;> rfl
      rw [this]
      exact k1
    · simp only [Array.size_append, List.size_toArray, Array.size_replicate]
      rw [hnt]
      omega
    · split at h
      · rename_i hi
        obtain rfl := Option.some.inj h
        exact ⟨by rw [hlo]; exact hi.1, rfl, hi.2⟩
      · cases h
  refine wp_mono (h _ S α _ w hst (fun u g c p => (prepL_get (S := S) (L := live (lk s)) (α := α) (w := w) 0 u hv).2 g c p)) ?_
  rintro x a' w' ⟨ex, e', s', S', α', hq, hx, hst', hnw', hm⟩
  have fin : okRes P fn.results.toList e' s' (fun ps => R ps s') → a'.defers = [] ∧ ∃ v, (results fn a'.tmps).run P w' = .ok v w' ∧ ∃ rs s'' S'' α'' v', R rs s'' ∧ Ending.returned v = .returned v' ∧ (resP rs).rep S'' (live (lk s'')) α'' w' v' ∧ RelS S'' α'' (lk s'') w' ∧ Moved S α (lk s) w S'' α'' (lk s'') w' ∧ s.length ≤ s''.length ∧
      ∀ i, i < s.length → (lk s i).isArr = false → α'' i = α i ∧ (lk s'' i).isArr = false := by
    intro hq
    obtain ⟨ps, vs, h1, h2, h3⟩ := okRes_run hst'.toRelS hst'.env hnw' hq
    refine ⟨hst'.defers, _, results_run h3, ps, s', S', α', _, h1, rfl, resP_of h2, hst'.toRelS, hm, by have := hst'.lo; rw [hlo] at this; exact this, fun i hi ha => ?_⟩
    obtain ⟨_, q2, q3⟩ := hst'.pin i (α i) (by rw [if_pos ⟨hi, ha⟩])
    exact ⟨q2, q3⟩
  cases ex with
  | normal => simp only [Ex.is] at hx; subst hx; exact fin hq
  | ret => simp only [Ex.is] at hx; subst hx; exact fin hq
  | exit i => exact hq.elim
  | pan d => exact hq.elim
end
end Go.Ev

/- A drawn region whose orders are written out as a tree. -/
import Derived.Test.YtnhpgmmhfgdmjaaGreatEvV
set_option linter.unusedVariables false
set_option linter.unusedSimpArgs false
namespace Go.Ev
open Go.RowKit

/-- What goes on behind one operation that neither leaves nor panics. -/
def qN (K : Env → Store → Prop) : Post := fun ex e s => match ex with
  | .normal => K e s
  | _ => False
def okT1 (P : Program) (H : Hints) (K : Env → Store → Prop) (e : Env) (s : Store) : Option Oper → Prop
  | some o => okOps P H [o] 0 0 [o] e s (qN K)
  | none => False
def isIntV : PV → Prop
  | .d (.int _ _) => True
  | _ => False
def isIntT : TD → Prop
  | .int _ => True
  | _ => False
/-- It yields the same in every world. -/
def takeO (P : Program) (e : Env) : Op → Prop
  | .convert _ dst x => isIntV (opnd (get e) [] x) ∧ isIntT (tyOf P dst).td
  | _ => True
def takeT (P : Program) (e : Env) : Option Oper → Prop
  | some o => takeO P e o.op
  | none => False
/-- What must be shown of a region with this tree of orders. -/
def okT (P : Program) (H : Hints) (ops : List Oper) : Ord → (Env → Store → Prop) → Env → Store → Prop
  | .done, K, e, s => K e s
  | .nil, _, _, _ => True
  | .alt i t r, K, e, s => okT1 P H (okT P H ops t K) e s (nth ops i) ∧ okT P H ops r K e s
  | .take i t, K, e, s => takeT P e (nth ops i) ∧ okT1 P H (okT P H ops t K) e s (nth ops i)

/-! ### The closed look at the tree -/
def Ord.keys : Ord → List Nat
  | .alt i _ r => i :: r.keys
  | _ => []
def Ord.depth : Ord → Nat
  | .done => 0
  | .nil => 0
  | .alt _ t r => max (t.depth + 1) r.depth
  | .take _ t => t.depth + 1
def inertOp : Op → Bool
  | .move _ => true
  | .fieldAddr .. => true
  | .convert .. => true
  | _ => false
def inertAt : Option Oper → Bool
  | some o => inertOp o.op
  | none => false
def Ord.ok (ops : Array Oper) : Ord → Bool → Array Bool → Bool
  | .done, _, l => (Region.ready .any ops l).isEmpty
  | .nil, hd, _ => !hd
  | .alt i t r, hd, l => (!hd || i :: r.keys == Region.ready .any ops l) && t.ok ops true (l.setIfInBounds i true) && r.ok ops false l
  | .take i t, hd, l => hd && (Region.ready .any ops l).contains i && Region.free .any ops l i && inertAt ops[i]? && t.ok ops true (l.setIfInBounds i true)
def treeOk (nt : Nat) (ops : Array Oper) (t : Ord) : Bool :=
  t.ok ops true (Array.replicate ops.size false) && decide (t.depth ≤ ops.size) && Region.noSelect ops && ops.toList.all fun o => o.guard.isNone && regOk nt [] [o]

section
variable {P : Program} {H : Hints} {A : Nat → Option Loc} {ops : Array Oper} {S0 : Nat → Prop} {α0 : Nat → Loc} {σ0 : Sto} {w0 : World}
theorem After.at_normal {K : Env → Store → Prop} {a : Act} {w : World} {x : Exit} (h : After A H S0 α0 σ0 w0 (qN K) x a w) : x = .normal ∧ ∃ e s S α, K e s ∧ State A H S α e s a w ∧ NoWhen e ∧ Moved S0 α0 σ0 w0 S α (lk s) w := by
  obtain ⟨ex, e, s, S, α, hq, hx, h1, h2, h3⟩ := h
  cases ex <;> first | exact hq.elim | skip
  exact ⟨hx, e, s, S, α, hq, h1, h2, h3⟩
theorem lets_not {K : Env → Store → Prop} (h : LetsOut (After A H S0 α0 σ0 w0 (qN K))) : False := by
  obtain ⟨a, w, h⟩ := h
  cases h.at_normal.1
theorem upon_mono {o : Oper} {a : Act} {K K' : Act → World → Prop} {Q Q' : Exit → Act → World → Prop} (hp : ∀ c a w, ¬ Q (.panic c) a w) (hl : ¬ LetsOut Q) (h : ∀ a w, K a w → K' a w) {r : Result Next} (hh : o.upon P a K Q r) : o.upon P a K' Q' r := by
  cases r with
  | ok n w' =>
    cases n <;> simp only [Oper.upon] at hh ⊢
    case value u => exact h _ _ hh
    case skip => exact h _ _ hh
    case defer d => exact h _ _ hh
    case enter f args =>
      refine Calls.mono hh fun e w'' he => ?_
      cases e with
      | returned u => exact h _ _ he
      | panicked c => exact (hp _ _ _ he).elim
      | outgrown => exact (hl he).elim
    case row row args => exact Rows.mono hh fun u w'' he => h _ _ he
  | halt x w' =>
    cases x <;> simp only [Oper.upon] at hh ⊢
    case panic u => exact (hp _ _ _ hh).elim
/-- One operation of a tree. -/
theorem one_ok {i : Nat} {o : Oper} (ho : ops[i]? = some o) (hg : o.guard = none) (hr : regOk H.nt [] [o] = true) {e : Env} {s : Store} {a : Act} {w : World} {S : Nat → Prop} {α : Nat → Loc} (hst : State A H S α e s a w) (hnw : NoWhen e) (hm : Moved S0 α0 σ0 w0 S α (lk s) w) {K : Env → Store → Prop}
    (h : okT1 P H K e s (some o)) {Q : Exit → Act → World → Prop} {K' : Act → World → Prop} (next : ∀ e s S α a w, K e s → State A H S α e s a w → NoWhen e → Moved S0 α0 σ0 w0 S α (lk s) w → K' a w) : wpOp P ops Q i K' a w := by
  have h1 := seqOps_ok (ops := #[o]) (all := [o]) rfl 0 [o] [] rfl hr hst (tagged_nil' hnw) (fun _ => hnw) hm h
  have hw : ∀ y, Region.wanted o y = true := fun y => by simp [Region.wanted, hg]
  simp only [wpList, hw, if_true] at h1
  unfold wpOp
  simp only [ho, hw, if_true]
  rcases h1 with h1 | ⟨_, h1⟩
  · refine .inl ?_
    unfold Oper.wp at h1 ⊢
    refine upon_mono (fun c a w hp => ?_) lets_not (fun a w hp => ?_) h1
    · cases hp.at_normal.1
    · obtain ⟨_, e, s, S, α, h1, h2, h3, h4⟩ := hp.at_normal
      exact next e s S α a w h1 h2 h3 h4
  · exact (lets_not h1).elim
where
  tagged_nil' {e : Env} (h : ∀ u g c p, get e u ≠ .when g c p) : Tagged [] e := fun u g c p hp => absurd hp (h u g c p)

/-- An operation that yields the same in every world. -/
theorem inert_yields {o : Oper} (hi : inertOp o.op = true) (hg : o.guard = none) {K : Env → Store → Prop} {e : Env} {s : Store} {a : Act} {w : World} {S : Nat → Prop} {α : Nat → Loc} (hst : State A H S α e s a w) (hT : takeO P e o.op) (h : okT1 P H K e s (some o)) : ∃ v, ∀ w', (execOp a.eval o).run P w' = .ok (.value v) w' := by
  obtain ⟨dst', op, type, pos, after, guard⟩ := o
  dsimp only at hg hi hT
  subst hg
  cases op <;> simp only [inertOp, Bool.false_eq_true] at hi
  case move x => exact ⟨a.eval x, fun w' => by simp [execOp]⟩
  case convert src dst x =>
    simp only [okT1, okOps, okO, guardQ, calleeQ, opQ, if_true] at h
    have hx := opnd_rep hst.env (g := []) (fun _ _ h => by cases h) x
    simp only [takeO] at hT
    obtain ⟨hv, ht⟩ := hT
    have key : ∀ {C v nb}, convQ P src dst s s.length s.length (opnd (get e) [] x) = .ok C v nb → ∃ v, ∀ w', (convert src dst (a.eval x)).run P w' = .ok v w' := by
      intro C v nb h
      generalize opnd (get e) [] x = p at *
      generalize a.eval x = u at *
      obtain ⟨k0, n, rfl⟩ : ∃ k0 n, p = .d (.int k0 n) := by
        unfold isIntV at hv
        split at hv
        · exact ⟨_, _, rfl⟩
        · exact hv.elim
      cases htd : (tyOf P dst).td with
      | int k =>
        have h1 := htd
        unfold convQ at h
        rw [htd] at h
        rw [if_neg (by simp)] at h
        dsimp only at h
        split at h
        · rename_i h2
          simp only [PV.rep, DV.rep] at hx
          subst hx
          obtain ⟨i, us, _, hs, _⟩ := td_desc h2
          exact ⟨.int k (k.wrap n), fun w' => by simp [convert, run_underlying hs, run_underlying (int_desc h1), Conv.intToInt]⟩
        · cases h
      | _ => rw [htd] at ht; exact ht.elim
    have fin : (∃ v, ∀ w', (convert src dst (a.eval x)).run P w' = .ok v w') → ∃ v, ∀ w', (execOp a.eval ⟨dst', .convert src dst x, type, pos, after, none⟩).run P w' = .ok (.value v) w' := fun ⟨v, hv⟩ => ⟨v, fun w' => by simp [execOp, hv]⟩
    refine fin ?_
    cases hq : convQ P src dst s s.length s.length (opnd (get e) [] x) with
    | ok C v nb => exact key hq
    | bad => rw [hq] at h; simp [effQ] at h
  case fieldAddr st x i =>
    simp only [okT1, okOps, okO, guardQ, calleeQ, opQ] at h
    have hx := opnd_rep hst.env (g := []) (fun _ _ h => by cases h) x
    have key : ∀ {C v nb}, fieldAddrQ P st i (opnd (get e) [] x) = .ok C v nb → ∃ v, ∀ w', (Instr.fieldAt st (a.eval x) i).run P w' = .ok v w' := by
      intro C v nb h
      generalize opnd (get e) [] x = p at *
      generalize a.eval x = u at *
      unfold fieldAddrQ at h
      split at h
      · rename_i fs hfs
        obtain ⟨fields, hu, rfl⟩ := struct_desc hfs
        split at h
        · rename_i o ft hn
          have hf := nth_get hn
          rw [List.getElem?_map] at hf
          obtain ⟨fd, hfd, hfe⟩ := Option.map_eq_some_iff.1 hf
          simp only [Prod.mk.injEq] at hfe
          obtain ⟨rfl, rfl⟩ := hfe
          have hfd' : fields[i]? = some fd := by simpa using hfd
          split at h
          · cases h
          · rename_i h0
            obtain ⟨ti, ud, hti, _, hty⟩ := ty_some (P := P) (t := fd.type) (.inl h0)
            rw [hty] at h0
            dsimp only at h0
            have run : ∀ b off w', (Instr.fieldAt st (.pointer (some ⟨b, off, none⟩)) i).run P w' = .ok (.pointer (some ⟨b, off + fd.offset, none⟩)) w' := by
              intro b off w'
              simp [Instr.fieldAt, run_underlying hu, hfd', Instr.sureAddr, fieldPlace, run_sizeOf' hti, h0, Addr.add_lit]
            split at h
            · simp only [PV.rep] at hx
              obtain ⟨hl, hn, rfl⟩ := hx
              exact ⟨_, run _ _⟩
            · simp only [PV.rep] at hx
              obtain ⟨hl, hn, rfl⟩ := hx
              exact ⟨_, run _ _⟩
            · split at h
              · simp only [PV.rep] at hx
                obtain ⟨b, off, vs, rfl, hb, hc, hp⟩ := hx
                exact ⟨_, run _ _⟩
              · cases h
            · cases h
        · cases h
      · cases h
    have fin : (∃ v, ∀ w', (Instr.fieldAt st (a.eval x) i).run P w' = .ok v w') → ∃ v, ∀ w', (execOp a.eval ⟨dst', .fieldAddr st x i, type, pos, after, none⟩).run P w' = .ok (.value v) w' := fun ⟨v, hv⟩ => ⟨v, fun w' => by simp [execOp, hv]⟩
    refine fin ?_
    cases hq : fieldAddrQ P st i (opnd (get e) [] x) with
    | ok C v nb => exact key hq
    | bad => rw [hq] at h; simp [effQ] at h

theorem tree_ok {Q : Exit → Act → World → Prop} {K : Env → Store → Prop} (hall : ∀ (i : Nat) (o : Oper), ops[i]? = some o → o.guard = none ∧ regOk H.nt [] [o] = true) (hs : Region.noSelect ops = true)
    (hQ : ∀ e s S α a w, K e s → State A H S α e s a w → NoWhen e → Moved S0 α0 σ0 w0 S α (lk s) w → Q .normal a w) (hpan : ∀ c a a' w, Q (.panic c) a w → Q (.panic c) a' w) :
    ∀ (t : Ord) (hd : Bool) (l : Array Bool) (fuel : Nat), t.ok ops hd l = true → t.depth ≤ fuel → ∀ {e : Env} {s : Store} {a : Act} {w : World} {S : Nat → Prop} {α : Nat → Loc}, State A H S α e s a w → NoWhen e → Moved S0 α0 σ0 w0 S α (lk s) w → okT P H ops.toList t K e s →
      (hd = true → wpAny P .any ops Q fuel l a w) ∧ (hd = false → ∀ f, fuel = f + 1 → ∀ i ∈ t.keys, wpOp P ops Q i (wpAny P .any ops Q f (l.setIfInBounds i true)) a w)
  | .done, hd, l, fuel, hok, hdep, e, s, a, w, S, α, hst, hnw, hm, h => by
    simp only [Ord.ok] at hok
    simp only [okT] at h
    refine ⟨fun _ => wpAny_done (List.isEmpty_iff.1 hok) (hQ e s S α a w h hst hnw hm) fuel, fun _ f _ i hi => ?_⟩
    simp [Ord.keys] at hi
  | .nil, hd, l, fuel, hok, hdep, e, s, a, w, S, α, hst, hnw, hm, h => by
    simp only [Ord.ok] at hok
    refine ⟨fun hh => (by rw [hh] at hok; cases hok), fun _ f _ i hi => ?_⟩
    simp [Ord.keys] at hi
  | .take i t, hd, l, fuel, hok, hdep, e, s, a, w, S, α, hst, hnw, hm, h => by
    simp only [Ord.ok, Bool.and_eq_true] at hok
    obtain ⟨⟨⟨⟨h1, h2⟩, h3⟩, h4⟩, h5⟩ := hok
    simp only [Ord.depth] at hdep
    simp only [okT] at h
    refine ⟨fun _ => ?_, fun hh => by rw [hh] at h1; cases h1⟩
    obtain ⟨f, rfl⟩ : ∃ f, fuel = f + 1 := ⟨fuel - 1, by omega⟩
    cases ho : ops[i]? with
    | none => rw [ho] at h4; cases h4
    | some o =>
      rw [ho] at h4
      have hn : nth ops.toList i = some o := by rw [nth_eq]; simpa using ho
      rw [hn] at h
      obtain ⟨hg, hr⟩ := hall i o ho
      obtain ⟨hT, h⟩ := h
      obtain ⟨v, hv⟩ := inert_yields (by exact h4) hg hst (by exact hT) h
      have hw : ∀ y, Region.wanted o y = true := fun y => by simp [Region.wanted, hg]
      refine wpAny_take ho hs h3 h2 (fun c a w hp => hpan _ _ _ _ hp) (v := v) (.inl ⟨hw _, hv⟩) ?_
      have := one_ok (Q := fun _ _ _ => False) (K' := fun a' w' => wpAny P .any ops Q f (l.setIfInBounds i true) a' w') ho hg hr hst hnw hm h fun e s S α a w hk hst hnw hm => (tree_ok hall hs hQ hpan t true (l.setIfInBounds i true) f h5 (by omega) hst hnw hm hk).1 rfl
      unfold wpOp at this
      simp only [ho, hw, if_true] at this
      rcases this with this | ⟨_, _, _, hf⟩
      · unfold Oper.wp at this
        rw [hv, Oper.upon_value] at this
        exact this
      · exact hf.elim
  | .alt i t r, hd, l, fuel, hok, hdep, e, s, a, w, S, α, hst, hnw, hm, h => by
    simp only [Ord.ok, Bool.and_eq_true, Bool.or_eq_true, Bool.not_eq_true', beq_iff_eq] at hok
    obtain ⟨⟨h1, h2⟩, h3⟩ := hok
    simp only [Ord.depth] at hdep
    simp only [okT] at h
    obtain ⟨f, rfl⟩ : ∃ f, fuel = f + 1 := ⟨fuel - 1, by omega⟩
    have hone : wpOp P ops Q i (wpAny P .any ops Q f (l.setIfInBounds i true)) a w := by
      have h := h.1
      cases ho : nth ops.toList i with
      | none => rw [ho] at h; exact h.elim
      | some o =>
        rw [ho] at h
        have ho' : ops[i]? = some o := by rw [nth_eq] at ho; simpa using ho
        obtain ⟨hg, hr⟩ := hall i o ho'
        exact one_ok ho' hg hr hst hnw hm h fun e s S α a w hk hst hnw hm => (tree_ok hall hs hQ hpan t true (l.setIfInBounds i true) f h2 (by omega) hst hnw hm hk).1 rfl
    have hrest := (tree_ok hall hs hQ hpan r false l (f + 1) h3 (by omega) hst hnw hm h.2).2 rfl f rfl
    have hkids : ∀ j ∈ i :: r.keys, wpOp P ops Q j (wpAny P .any ops Q f (l.setIfInBounds j true)) a w := fun j hj => by
      rcases List.mem_cons.1 hj with rfl | hj
      · exact hone
      · exact hrest j hj
    refine ⟨fun hh => ?_, fun _ f' hf' => ?_⟩
    · rcases h1 with h1 | h1
      · rw [hh] at h1; cases h1
      · exact wpAny_all h1.symm (by simp) hkids
    · obtain rfl : f = f' := by omega
      exact hkids

theorem treeRegion_ok {id : Nat} {t : Ord} {e : Env} {s : Store} (hmix : P.follows .mixedOrders = true) (ht : treeOk H.nt ops t = true) {S : Nat → Prop} {α : Nat → Loc} {a : Act} {w : World} (hst : State A H S α e s a w) (hnw : NoWhen e) {K : Env → Store → Prop}
    (h : okT P H ops.toList t K e s) : (Code.region id ops true).wp P (fun x a' w' => x = .normal ∧ ∃ e' s' S' α', K e' s' ∧ State A H S' α' e' s' a' w' ∧ NoWhen e' ∧ Moved S α (lk s) w S' α' (lk s') w') a w := by
  simp only [treeOk, Bool.and_eq_true, decide_eq_true_eq, List.all_eq_true, Option.isNone_iff_eq_none] at ht
  obtain ⟨⟨⟨h1, h2⟩, h3⟩, h4⟩ := ht
  refine wp_region_any hmix ?_
  have hb : Below w.heap.size w { w with drawn := w.drawn + 1 } := ⟨rfl, rfl, rfl, Nat.le_refl _, fun _ _ => rfl⟩
  have hr := hst.toRelS.below hb (fun _ x => x) (fun _ x => .inl x) hst.slt
  have hst' : State A H S α e s a { w with drawn := w.drawn + 1 } := ⟨⟨hr, fun t => PV.erep_mono (fun _ x => x) (hst.toRelS.keeps hb) (hst.toRelS.kept hb (fun _ _ => rfl) (fun _ h => h)) _ _ (fun _ _ _ _ => Iff.rfl) (hst.env t), hst.size, hst.defers⟩, hst.pin, hst.lo⟩
  refine (tree_ok (P := P) (H := H) (A := A) (S0 := S) (α0 := α) (σ0 := lk s) (w0 := w) (K := K) (Q := fun x a' w' => x = .normal ∧ ∃ e' s' S' α', K e' s' ∧ State A H S' α' e' s' a' w' ∧ NoWhen e' ∧ Moved S α (lk s) w S' α' (lk s') w') (fun i o ho => h4 o (List.mem_of_getElem? (by simpa using ho))) h3 (fun e s S α a w hk hst hnw hm => ⟨rfl, e, s, S, α, hk, hst, hnw, hm⟩) (fun c a a' w hp => by cases hp.1) t true _ _ h1 h2 hst' hnw (Moved.below hb (fun _ x => x) (fun _ x => .inl x)) h).1 rfl
end
/-! ### A nil slice is an empty slice of ours -/
def adT (t n : Nat) (e : Env) : PV → Env
  | .d .nil => (t, .own n 0 0) :: e
  | _ => e
def adC (id k n : Nat) (s : Store) (cs : List PV) : Option PV → Store
  | some (.d .nil) => setN s id (.box (setN cs k (.own n 0 0)))
  | _ => s
def adB (id k n : Nat) (s : Store) : Option Blk → Store
  | some (.box cs) => adC id k n s cs (nth cs k)
  | _ => s
def adE (n : Nat) (e : Env) : Ad → Env
  | .tmp t _ _ _ => adT t n e (get e t)
  | .box .. => e
def adS (s : Store) : Ad → Store
  | .tmp _ el sz z => s ++ [.arr el sz 0 fun _ => z]
  | .box id k el sz z => adB id k s.length (s ++ [.arr el sz 0 fun _ => z]) (nth s id)
def qAd : List Ad → Post → Env → Store → Prop
  | [], Q, e, s => Q .normal e s
  | d :: l, Q, e, s => qAd l Q (adE s.length e d) (adS s d)
/-- Behind a region the nil slices are taken up. -/
def qA : List Ad → Post → Post
  | [], Q => Q
  | l, Q => fun ex e s => match ex with
    | .normal => qAd l Q e s
    | ex => Q ex e s
section
variable {P : Program} {H : Hints} {A : Nat → Option Loc}
theorem nth_setN_rep {S L : Nat → Prop} {α : Nat → Loc} {w : World} {p p' : PV} (h : ∀ u, p.rep S L α w u → p'.rep S L α w u) : ∀ {cs : List PV} {k : Nat} {us : List Value}, nth cs k = some p → prepL S L α w cs us → prepL S L α w (setN cs k p') us
  | [], k, us, hk, _ => by simp [nth] at hk
  | c :: cs, k, us, hk, hr => by
    simp only [prepL] at hr
    obtain ⟨u, us, rfl, h1, h2⟩ := hr
    simp only [nth] at hk
    simp only [setN]
    split at hk
    · rename_i h0
      simp only [Option.some.injEq] at hk
      subst hk
      rw [if_pos h0]
      simp only [prepL]
      exact ⟨u, us, rfl, h u h1, h2⟩
    · rename_i h0
      rw [if_neg h0]
      simp only [prepL]
      exact ⟨u, us, rfl, h1, nth_setN_rep h hk h2⟩
theorem State.empty {S : Nat → Prop} {α : Nat → Loc} {e : Env} {s : Store} {a : Act} {w : World} (h : State A H S α e s a w) (el sz : Nat) (z : DV) : State A H S (upd α s.length ⟨0, 0, sz, true⟩) e (s ++ [.arr el sz 0 fun _ => z]) a w ∧ Moved S α (lk s) w S (upd α s.length ⟨0, 0, sz, true⟩) (lk (s ++ [.arr el sz 0 fun _ => z])) w := by
  have hd := not_live_length s
  have hb := Below.refl w.heap.size w
  have hne : ∀ i, live (lk s) i → i ≠ s.length := fun i hi e => hd (e ▸ hi)
  have hr1 := h.toRelS.new (B := .arr el sz 0 fun _ => z) (l := ⟨0, 0, sz, true⟩) hd hb (fun h => by cases h) (fun h => by cases h) ⟨rfl, .inl ⟨rfl, rfl⟩⟩
  have hm := Moved.fresh (S := S) (α := α) (B := .arr el sz 0 fun _ => z) (l := ⟨0, 0, sz, true⟩) hd hb (fun h => by cases h)
  rw [← lk_append] at hr1 hm
  refine ⟨⟨⟨hr1, fun t => ?_, h.size, h.defers⟩, pin_append h.pin h.lo fun i hi => upd_other _ _ (by omega), ?_⟩, hm⟩
  · refine PV.erep_mono (fun _ x => x) (fun _ _ => rfl) (fun i hi => ?_) _ _ (fun _ _ _ _ => Iff.rfl) (h.env t)
    refine ⟨?_, upd_other _ _ (hne i hi), fun _ => rfl⟩
    rw [lk_append]
    simpa [live, upd_other _ _ (hne i hi)] using hi
  · simp
    have := h.lo
    omega
theorem own_nil {S : Nat → Prop} {α : Nat → Loc} {s : Store} {w : World} (el sz : Nat) (z : DV) {L : Nat → Prop} (hL : L s.length) (u : Value) (h : (PV.d .nil).rep S L (upd α s.length ⟨0, 0, sz, true⟩) w u) : (PV.own s.length 0 0).rep S L (upd α s.length ⟨0, 0, sz, true⟩) w u := by
  simp only [PV.rep, DV.rep] at h ⊢
  rw [upd_same]
  exact ⟨hL, .inl ⟨rfl, trivial, trivial, h⟩⟩
theorem State.ad {S : Nat → Prop} {α : Nat → Loc} {e : Env} {s : Store} {a : Act} {w : World} (h : State A H S α e s a w) (hnw : NoWhen e) (d : Ad) : ∃ α', State A H S α' (adE s.length e d) (adS s d) a w ∧ NoWhen (adE s.length e d) ∧ Moved S α (lk s) w S α' (lk (adS s d)) w := by
  have hlen : ∀ el sz z, live (lk (s ++ [Blk.arr el sz 0 fun _ => z])) s.length := fun el sz z => by
    rw [lk_append]
    simp [live, upd_same, Blk.alive]
  cases d with
  | tmp t el sz z =>
    obtain ⟨h1, h2⟩ := h.empty el sz z
    by_cases hp : get e t = .d .nil
    · have he : adE s.length e (.tmp t el sz z) = (t, .own s.length 0 0) :: e := by simp only [adE, hp, adT]
      rw [he]
      refine ⟨_, ⟨⟨h1.toRelS, fun u => ?_, h1.size, h1.defers⟩, h1.pin, h1.lo⟩, fun u g c p => ?_, h2⟩
      · by_cases hu : t = u
        · subst hu
          have := h1.env t
          rw [hp] at this
          simp only [PV.erep] at this
          have hg : get ((t, PV.own s.length 0 0) :: e) t = .own s.length 0 0 := by simp [Go.Ev.get]
          rw [hg]
          simp only [PV.erep]
          exact own_nil el sz z (hlen el sz z) _ this
        · have hg : get ((t, PV.own s.length 0 0) :: e) u = get e u := by simp [Go.Ev.get, hu]
          rw [hg]
          exact h1.env u
      · by_cases hu : t = u
        · have hg : get ((t, PV.own s.length 0 0) :: e) u = .own s.length 0 0 := by simp [Go.Ev.get, hu]
          rw [hg]
          simp
        · have hg : get ((t, PV.own s.length 0 0) :: e) u = get e u := by simp [Go.Ev.get, hu]
          rw [hg]
          exact hnw u g c p
    · have he : adE s.length e (.tmp t el sz z) = e := by
        show adT t s.length e (get e t) = e
        unfold adT
        split
        · exact absurd (by assumption) hp
        · rfl
      rw [he]
      exact ⟨_, h1, hnw, h2⟩
  | box id k el sz z =>
    obtain ⟨h1, h2⟩ := h.empty el sz z
    refine ⟨upd α s.length ⟨0, 0, sz, true⟩, ?_, hnw, ?_⟩
    rotate_left
    · show Moved S α (lk s) w S (upd α s.length ⟨0, 0, sz, true⟩) (lk (adB id k s.length (s ++ [.arr el sz 0 fun _ => z]) (nth s id))) w
      unfold adB
      split
      · rename_i cs hid
        unfold adC
        split
        · rename_i hk
          have hid' : nth (s ++ [Blk.arr el sz 0 fun _ => z]) id = some (.box cs) := by
            rw [nth_eq] at hid ⊢
            rw [List.getElem?_append_left (List.getElem?_eq_some_iff.1 hid).1]
            exact hid
          refine ⟨h2.os, h2.tape, h2.output, h2.size, h2.same, fun i hi => h2.lives i ⟨?_, hi.2⟩, h2.sub, h2.new⟩
          have := hi.1
          rw [live, lk_set hid'] at this
          by_cases hi : i = id
          · subst hi
            simp [live, lk_nth hid', Blk.alive]
          · rwa [upd_other _ _ hi] at this
        · exact h2
      · exact h2
    · show State A H S (upd α s.length ⟨0, 0, sz, true⟩) e (adB id k s.length (s ++ [.arr el sz 0 fun _ => z]) (nth s id)) a w
      unfold adB
      split
      · rename_i cs hid
        unfold adC
        split
        · rename_i hk
          have hid' : nth (s ++ [Blk.arr el sz 0 fun _ => z]) id = some (.box cs) := by
            rw [nth_eq] at hid ⊢
            rw [List.getElem?_append_left (List.getElem?_eq_some_iff.1 hid).1]
            exact hid
          have hlive : ∀ i, live (lk (setN (s ++ [Blk.arr el sz 0 fun _ => z]) id (.box (setN cs k (.own s.length 0 0))))) i ↔ live (lk (s ++ [Blk.arr el sz 0 fun _ => z])) i := fun i => by
            rw [live, live, lk_set hid']
            by_cases hi : i = id
            · subst hi
              rw [upd_same, lk_nth hid']
              simp [Blk.alive]
            · rw [upd_other _ _ hi]
          have hkept : Kept (live (lk (s ++ [Blk.arr el sz 0 fun _ => z]))) (live (lk (setN (s ++ [Blk.arr el sz 0 fun _ => z]) id (.box (setN cs k (.own s.length 0 0)))))) (upd α s.length ⟨0, 0, sz, true⟩) (upd α s.length ⟨0, 0, sz, true⟩) w w := fun i hi => ⟨(hlive i).2 hi, rfl, fun _ => rfl⟩
          have hreal : ∀ i, real (lk (setN (s ++ [Blk.arr el sz 0 fun _ => z]) id (.box (setN cs k (.own s.length 0 0))))) (upd α s.length ⟨0, 0, sz, true⟩) i → real (lk (s ++ [Blk.arr el sz 0 fun _ => z])) (upd α s.length ⟨0, 0, sz, true⟩) i := fun i hi => ⟨(hlive i).1 hi.1, hi.2⟩
          refine ⟨⟨⟨fun i => ?_, fun i j hi hj => h1.inj i j (hreal i hi) (hreal j hj), fun i hi => h1.out i (hreal i hi), h1.slt⟩, fun t => ?_, h1.size, h1.defers⟩, fun i l hi => ?_, ?_⟩
          · by_cases hi : i = id
            · subst hi
              obtain ⟨k0, us, t, fr, k1, k2, k3, k4⟩ := box_of h1.toRelS (lk_nth hid')
              rw [lk_set hid', upd_same]
              rw [← lk_set hid']
              refine ⟨k0, us, t, fr, k1, k2, k3, ?_⟩
              have k5 := prepL_mono (fun _ h => h) (fun _ _ => rfl) hkept _ _ k4
              exact nth_setN_rep (own_nil el sz z ((hlive _).2 (hlen el sz z))) hk k5
            · have := Blk.rep_mono (fun _ h => h) (fun _ _ => rfl) hkept (fun _ => rfl) (h1.sto i)
              have e2 : lk (setN (s ++ [Blk.arr el sz 0 fun _ => z]) id (.box (setN cs k (.own s.length 0 0)))) i = lk (s ++ [Blk.arr el sz 0 fun _ => z]) i := by
                rw [lk_set hid', upd_other _ _ hi]
              rw [e2]
              exact this
          · exact PV.erep_mono (fun _ h => h) (fun _ _ => rfl) hkept _ _ (fun _ _ _ _ => Iff.rfl) (h1.env t)
          · obtain ⟨p1, p2, p3⟩ := h1.pin i l hi
            refine ⟨p1, p2, ?_⟩
            rw [lk_set hid']
            by_cases hi : i = id
            · subst hi
              rw [upd_same]
              rfl
            · rw [upd_other _ _ hi]
              exact p3
          · rw [setN_eq, List.length_set]
            exact h1.lo
        · exact h1
      · exact h1
theorem After.ad {S0 : Nat → Prop} {α0 : Nat → Loc} {σ0 : Sto} {w0 : World} {Q : Post} {x : Exit} {a : Act} {w : World} (l : List Ad) (h : After A H S0 α0 σ0 w0 (qA l Q) x a w) : After A H S0 α0 σ0 w0 Q x a w := by
  obtain ⟨ex, e, s, S, α, hq, hx, hst, hnw, hm⟩ := h
  cases l with
  | nil => exact ⟨ex, e, s, S, α, hq, hx, hst, hnw, hm⟩
  | cons d l =>
    cases ex with
    | normal =>
      simp only [qA] at hq
      have key : ∀ (l : List Ad) (e : Env) (s : Store) (α : Nat → Loc), qAd l Q e s → State A H S α e s a w → NoWhen e → Moved S0 α0 σ0 w0 S α (lk s) w → After A H S0 α0 σ0 w0 Q x a w := by
        intro l
        induction l with
        | nil => intro e s α hq hst hnw hm; exact ⟨.normal, e, s, S, α, hq, hx, hst, hnw, hm⟩
        | cons d l ih =>
          intro e s α hq hst hnw hm
          obtain ⟨α', h1, h2, h3⟩ := hst.ad hnw d
          exact ih _ _ α' hq h1 h2 (hm.trans h3)
      exact key (d :: l) e s α hq hst hnw hm
    | exit i => exact ⟨.exit i, e, s, S, α, hq, hx, hst, hnw, hm⟩
    | ret => exact ⟨.ret, e, s, S, α, hq, hx, hst, hnw, hm⟩
    | pan d => exact ⟨.pan d, e, s, S, α, hq, hx, hst, hnw, hm⟩
end
end Go.Ev

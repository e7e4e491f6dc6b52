/- A drawn region: its orders. -/
import Derived.Test.YtnhpgmmhfgdmjaaGreatEvU
set_option linter.unusedVariables false
set_option linter.unusedSimpArgs false
namespace Go.Ev
open Go.RowKit

def forceN {β : Type} (n : Nat) (k : Nat → β) : β := match n with
  | 0 => k 0
  | m + 1 => k (m + 1)
theorem forceN_eq {β : Type} (n : Nat) (k : Nat → β) : forceN n k = k n := by cases n <;> rfl
/-- The operations that the order holds before an operation, as bits. -/
def ancE (acc : List Nat) : Nat → List Edge → Nat
  | s, [] => s
  | s, e :: es => forceN (if Region.binds .any e then s ||| 2 ^ e.on ||| (nth acc e.on).getD 0 else s) fun s => ancE acc s es
def ancs : List Nat → List Oper → List Nat
  | acc, [] => acc
  | acc, o :: os => forceN (ancE acc 0 o.after.toList) fun n => ancs (acc ++ [n]) os
def looksB (all : List Oper) (o : Oper) (t : Nat) : Bool := (o.op.operands.toList.any fun | .tmp u => u == t | _ => false) || (match o.guard with | some (j, _) => guardT all j == some t | none => false)
/-- q quiet operations, the others in a chain behind them; what a quiet operation looks at was put there by operations that the order holds before it. -/
def drawRow (all : List Oper) (anc : Nat) (q : Nat) (j : Nat) (o : Oper) : Bool :=
  o.after.toList.all (fun e => !Region.binds .any e || decide (e.on < j)) &&
  (if j < q then (all.take q).zipIdx.all fun x => x.2 == j || (match x.1.dst with
      | some d => !looksB all o d || (decide (x.2 < j) && anc.testBit x.2)
      | none => true)
    else (List.range j).all fun i => anc.testBit i)
def drawAll (all : List Oper) (A : List Nat) (q : Nat) : Bool := all.zipIdx.all fun x => drawRow all ((nth A x.2).getD 0) q x.2 x.1
def drawOk (ops : Array Oper) (q : Nat) : Bool := decide (q ≤ ops.size) && drawAll ops.toList (ancs [] ops.toList) q

theorem ancE_bit {acc : List Nat} {i : Nat} : ∀ {es : List Edge} {s : Nat}, (ancE acc s es).testBit i = true → s.testBit i = true ∨ ∃ e ∈ es, Region.binds .any e = true ∧ (e.on = i ∨ ((nth acc e.on).getD 0).testBit i = true)
  | [], s, h => .inl h
  | e :: es, s, h => by
    simp only [ancE, forceN_eq] at h
    rcases ancE_bit h with h | ⟨e', h1, h2⟩
    · split at h
      · rename_i hb
        simp only [Nat.testBit_or, Bool.or_eq_true, Nat.testBit_two_pow, decide_eq_true_eq] at h
        rcases h with (h | h) | h
        · exact .inl h
        · exact .inr ⟨e, by simp, hb, .inl h⟩
        · exact .inr ⟨e, by simp, hb, .inr h⟩
      · exact .inl h
    · exact .inr ⟨e', by simp [h1], h2⟩
def AncOk (acc : List Nat) (done : List Oper) : Prop := acc.length = done.length ∧ ∀ k o, done[k]? = some o → ∀ i, ((nth acc k).getD 0).testBit i = true → ∃ e ∈ o.after.toList, Region.binds .any e = true ∧ (e.on = i ∨ (e.on < k ∧ ((nth acc e.on).getD 0).testBit i = true))
theorem ancs_ok : ∀ {os : List Oper} {acc : List Nat} {done : List Oper}, AncOk acc done → AncOk (ancs acc os) (done ++ os)
  | [], acc, done, h => by simpa [ancs] using h
  | o :: os, acc, done, h => by
    simp only [ancs, forceN_eq]
    have : AncOk (acc ++ [ancE acc 0 o.after.toList]) (done ++ [o]) := by
      obtain ⟨h1, h2⟩ := h
      refine ⟨by simp [h1], fun k x hk i hi => ?_⟩
      by_cases hlt : k < done.length
      · rw [List.getElem?_append_left hlt] at hk
        rw [nth_append_lt (by omega)] at hi
        obtain ⟨e, q1, q2, q3⟩ := h2 k x hk i hi
        refine ⟨e, q1, q2, q3.imp id fun ⟨q4, q5⟩ => ⟨q4, ?_⟩⟩
        rw [nth_append_lt (by omega)]
        exact q5
      · have hk' : k = done.length := by
          have := (List.getElem?_eq_some_iff.1 hk).1
          simp at this
          omega
        subst hk'
        simp at hk
        subst hk
        have e0 : nth (acc ++ [ancE acc 0 o.after.toList]) done.length = some (ancE acc 0 o.after.toList) := by
          rw [nth_eq, ← h1]
          simp
        rw [e0] at hi
        rcases ancE_bit hi with hi | ⟨e, q1, q2, q3⟩
        · simp at hi
        · refine ⟨e, q1, q2, q3.imp id fun q4 => ?_⟩
          have hlt' : e.on < acc.length := by
            rcases Nat.lt_or_ge e.on acc.length with h | h
            · exact h
            · rw [nth_eq, List.getElem?_eq_none h] at q4
              simp at q4
          refine ⟨by omega, ?_⟩
          rw [nth_append_lt hlt']
          exact q4
    have := ancs_ok (os := os) this
    simpa using this

theorem looksB_of {all : List Oper} {o : Oper} {t : Nat} (h : looks all o t) : looksB all o t = true := by
  unfold looksB
  rcases h with h | ⟨j, b, h1, h2⟩
  · rw [Bool.or_eq_true]
    refine .inl (List.any_eq_true.2 ⟨_, h, by simp⟩)
  · rw [h1, Bool.or_eq_true]
    refine .inr ?_
    dsimp only
    rw [h2]
    simp

def unl (listed : Array Bool) : Nat → Nat
  | 0 => 0
  | q + 1 => unl listed q + (if listed.getD q true = true then 0 else 1)
theorem getD_set {listed : Array Bool} {i j : Nat} : (listed.setIfInBounds i true).getD j true = if j = i then true else listed.getD j true := by
  simp only [Array.getD_eq_getD_getElem?, Array.getElem?_setIfInBounds]
  by_cases h : i = j
  · subst h
    simp
    split <;> simp_all
  · rw [if_neg h, if_neg (fun e => h e.symm)]
theorem unl_ge {listed : Array Bool} {i : Nat} : ∀ {q : Nat}, q ≤ i → unl (listed.setIfInBounds i true) q = unl listed q
  | 0, _ => rfl
  | q + 1, h => by
    simp only [unl]
    rw [unl_ge (by omega)]
    simp only [getD_set, if_neg (show ¬ q = i by omega)]
theorem unl_set {listed : Array Bool} {i : Nat} (hi : listed.getD i true = false) : ∀ {q : Nat}, i < q → unl (listed.setIfInBounds i true) q + 1 = unl listed q
  | 0, h => by omega
  | q + 1, h => by
    simp only [unl]
    by_cases hq : q = i
    · subst hq
      rw [unl_ge (Nat.le_refl _), getD_set, hi]
      simp
    · have := unl_set hi (q := q) (by omega)
      rw [getD_set, if_neg hq]
      omega
theorem unl_zero {listed : Array Bool} : ∀ {q : Nat}, unl listed q = 0 → ∀ i, i < q → listed.getD i true = true
  | 0, _, i, h => by omega
  | q + 1, h, i, hi => by
    simp only [unl] at h
    by_cases hq : i = q
    · subst hq
      by_cases hh : listed.getD i true = true
      · exact hh
      · rw [if_neg hh] at h; omega
    · exact unl_zero (q := q) (by omega) i (by omega)
theorem unl_pos {listed : Array Bool} : ∀ {q : Nat}, unl listed q ≠ 0 → ∃ i, i < q ∧ listed.getD i true = false ∧ ∀ j, j < i → listed.getD j true = true
  | 0, h => absurd rfl h
  | q + 1, h => by
    by_cases hq : unl listed q = 0
    · simp only [unl] at h
      refine ⟨q, by omega, ?_, unl_zero hq⟩
      by_cases hh : listed.getD q true = true
      · rw [if_pos hh] at h; omega
      · simpa using hh
    · obtain ⟨i, h1, h2⟩ := unl_pos hq
      exact ⟨i, by omega, h2⟩

theorem mem_ready {ops : Array Oper} {listed : Array Bool} {i : Nat} : i ∈ Region.ready .any ops listed ↔ i < ops.size ∧ listed.getD i true = false ∧ ∀ o, ops[i]? = some o → ∀ e ∈ o.after.toList, Region.binds .any e = true → listed.getD e.on false = true := by
  simp only [Region.ready, List.mem_filter, List.mem_range, Bool.and_eq_true, Bool.not_eq_true']
  refine and_congr_right fun hi => and_congr_right fun _ => ?_
  rw [Array.getElem?_eq_getElem hi]
  simp only [Option.map_some, Option.getD_some, Array.all_eq_true_iff_forall_mem, Option.some.injEq, forall_eq', Array.mem_toList_iff]
  refine forall_congr' fun e => forall_congr' fun _ => ?_
  cases Region.binds .any e <;> simp

section
variable {P : Program} {H : Hints} {A : Nat → Option Loc} {all : List Oper} {ops : Array Oper} {S0 : Nat → Prop} {α0 : Nat → Loc} {σ0 : Sto} {w0 : World} {e0 : Env} {s0 : Store} {rows : List Row} {q : Nat}

/-- Whatever is listed came behind what the order holds before it. -/
def Closed (ops : Array Oper) (listed : Array Bool) : Prop := ∀ i o, ops[i]? = some o → isIn listed i → ∀ e ∈ o.after.toList, Region.binds .any e = true → isIn listed e.on
theorem isIn_of {listed : Array Bool} {i : Nat} (h : listed.getD i false = true) : isIn listed i := by
  rw [Array.getD_eq_getD_getElem?] at h
  cases hh : listed[i]? with
  | none => rw [hh] at h; cases h
  | some b => rw [hh] at h; simp at h; subst h; exact hh
theorem anc_listed {listed : Array Bool} (hc : Closed ops listed) : ∀ (j : Nat) (o : Oper), ops[j]? = some o → (∀ e ∈ o.after.toList, Region.binds .any e = true → isIn listed e.on) → ∀ i, ((nth (ancs [] ops.toList) j).getD 0).testBit i = true → isIn listed i := by
  have hA : AncOk (ancs [] ops.toList) ([] ++ ops.toList) := ancs_ok ⟨rfl, fun k o hk => by simp at hk⟩
  intro j
  induction j using Nat.strongRecOn with
  | ind j ih =>
    intro o ho he i hi
    obtain ⟨e, h1, h2, h3⟩ := hA.2 j o (by simpa using ho) i hi
    rcases h3 with h3 | ⟨h3, h4⟩
    · rw [← h3]
      exact he e h1 h2
    · have hl := he e h1 h2
      cases hoe : ops[e.on]? with
      | none =>
        have hlen := hA.1
        rw [nth_eq, List.getElem?_eq_none (by
          rw [hlen]
          simpa using hoe)] at h4
        simp at h4
      | some x => exact ih e.on h3 x hoe (hc e.on x hoe hl) i h4
theorem isIn_getD {listed : Array Bool} {i : Nat} (hi : i < listed.size) : listed.getD i true = true ↔ isIn listed i := by
  simp [isIn, Array.getD_eq_getD_getElem?, Array.getElem?_eq_getElem hi]
theorem isIn_getD' {listed : Array Bool} {i : Nat} : isIn listed i → listed.getD i false = true := by
  intro h
  simp only [isIn] at h
  simp [Array.getD_eq_getD_getElem?, h]

theorem drawRow_of {ops : Array Oper} {q : Nat} (h : drawOk ops q = true) {j : Nat} {o : Oper} (ho : ops[j]? = some o) : drawRow ops.toList ((nth (ancs [] ops.toList) j).getD 0) q j o = true := by
  simp only [drawOk, drawAll, Bool.and_eq_true, List.all_eq_true] at h
  refine h.2 (o, j) ?_
  rw [List.mem_zipIdx_iff_getElem?]
  simpa using ho
theorem back_of {ops : Array Oper} {q : Nat} (h : drawOk ops q = true) {j : Nat} {o : Oper} (ho : ops[j]? = some o) : ∀ e ∈ o.after.toList, Region.binds .any e = true → e.on < j := fun e he hb => by
  have := drawRow_of h ho
  simp only [drawRow, Bool.and_eq_true, List.all_eq_true] at this
  simpa [hb] using this.1 e he
theorem chain_of {ops : Array Oper} {q : Nat} (h : drawOk ops q = true) {j : Nat} {o : Oper} (ho : ops[j]? = some o) (hj : q ≤ j) : ∀ i, i < j → ((nth (ancs [] ops.toList) j).getD 0).testBit i = true := fun i hi => by
  have := drawRow_of h ho
  simp only [drawRow, Bool.and_eq_true] at this
  rw [if_neg (by omega)] at this
  exact List.all_eq_true.1 this.2 i (by simpa using hi)
theorem look_of {ops : Array Oper} {q : Nat} (h : drawOk ops q = true) {j : Nat} {o : Oper} (ho : ops[j]? = some o) (hj : j < q) {i : Nat} {x : Oper} (hx : ops[i]? = some x) (hi : i < q) {t : Nat} (hd : x.dst = some t) (hl : looks ops.toList o t) (hij : i ≠ j) : i < j ∧ ((nth (ancs [] ops.toList) j).getD 0).testBit i = true := by
  have := drawRow_of h ho
  simp only [drawRow, Bool.and_eq_true] at this
  rw [if_pos hj] at this
  have := List.all_eq_true.1 this.2 (x, i) (by
    rw [List.mem_zipIdx_iff_getElem?, List.getElem?_take, if_pos hi]
    simpa using hx)
  simpa [hd, looksB_of hl, hij] using this

theorem Closed.set {listed : Array Bool} (hc : Closed ops listed) {k : Nat} (hk : k < listed.size) (h : ∀ o, ops[k]? = some o → ∀ e ∈ o.after.toList, Region.binds .any e = true → listed.getD e.on false = true) : Closed ops (listed.setIfInBounds k true) := by
  intro i o ho hi e he hb
  rw [isIn_set hk]
  rcases (isIn_set hk i).1 hi with rfl | hi
  · exact .inr (isIn_of (h o ho e he hb))
  · exact .inr (hc i o ho hi e he hb)
theorem chain_any {Q : Exit → Act → World → Prop} (hdraw : drawOk ops q = true) : ∀ (m : Nat) (listed : Array Bool) (a : Act) (w : World) (j : Nat), j + m = ops.size → q ≤ j → listed.size = ops.size → Closed ops listed → (∀ i, i < ops.size → (isIn listed i ↔ i < j)) → wpList P ops Q (ops.toList.drop j) a w → wpAny P .any ops Q m listed a w
  | 0, listed, a, w, j, hm, hq, hsz, hc, hl, h => by
    refine ⟨?_, ?_⟩
    · rw [List.eq_nil_iff_forall_not_mem]
      intro i hi
      obtain ⟨h1, h2, _⟩ := mem_ready.1 hi
      have := (isIn_getD (by omega)).2 ((hl i h1).2 (by omega))
      rw [this] at h2
      cases h2
    · rw [List.drop_eq_nil_of_le (by simp; omega)] at h
      exact h
  | m + 1, listed, a, w, j, hm, hq, hsz, hc, hl, h => by
    have hj : j < ops.size := by omega
    have hoj : ops[j]? = some ops[j] := Array.getElem?_eq_getElem hj
    have hun : listed.getD j true = false := by
      cases hh : listed.getD j true with
      | false => rfl
      | true => have := (hl j hj).1 ((isIn_getD (by omega)).1 hh); omega
    refine ⟨fun hr => ?_, fun i hi => ?_⟩
    · exfalso
      have : j ∈ Region.ready .any ops listed := mem_ready.2 ⟨hj, hun, fun o ho e he hb => isIn_getD' ((hl _ (by have := back_of hdraw ho e he hb; omega)).2 (back_of hdraw ho e he hb))⟩
      rw [hr] at this
      cases this
    · obtain ⟨h1, h2, h3⟩ := mem_ready.1 hi
      have hij : i = j := by
        rcases Nat.lt_trichotomy i j with hlt | heq | hgt
        · have := (isIn_getD (by omega)).2 ((hl i h1).2 hlt)
          rw [this] at h2
          cases h2
        · exact heq
        · have hoi : ops[i]? = some ops[i] := Array.getElem?_eq_getElem h1
          have := (hl j hj).1 (anc_listed hc i _ hoi (fun e he hb => isIn_of (h3 _ hoi e he hb)) j (chain_of hdraw hoi (by omega) j hgt))
          omega
      subst hij
      have hd : ops.toList.drop i = ops[i] :: ops.toList.drop (i + 1) := by
        rw [List.drop_eq_getElem_cons (by simpa using hj)]
        simp
      rw [hd] at h
      have h' : wpOp P ops Q i (wpList P ops Q (ops.toList.drop (i + 1))) a w := by
        simp only [wpOp, hoj]
        exact h
      refine wpOp_mono (fun a' w' hh => chain_any hdraw m _ a' w' (i + 1) (by omega) (by omega) (by simpa using hsz) (hc.set (by omega) h3) (fun k hk => ?_) hh) h'
      rw [isIn_set (by omega), hl k hk]
      omega

theorem draw_any {Q : Exit → Act → World → Prop} (hall : ops.toList = all) (hdraw : drawOk ops q = true) (hq : q ≤ ops.size) (hnw0 : NoWhen e0) (hlo : H.lo ≤ s0.length) {e' : Env} {s' : Store} (hlink : Linked e0 s0 rows e' s') (hrows : ∀ r ∈ rows, RowOk P H all s0.length r) (hmap : rows.map Row.o = all.take q)
    (huniq : ∀ (i i' : Nat) (o o' : Oper) (t : Nat), all[i]? = some o → all[i']? = some o' → i ≠ i' → o.dst = some t → o'.dst ≠ some t) (hnt : ∀ o ∈ all, ∀ t, o.dst = some t → t < H.nt) (hgd : ∀ (i : Nat) (o : Oper) j b, all[i]? = some o → o.guard = some (j, b) → j < i)
    (hK : ∀ listed a w S α σ, (∀ i, i < q → isIn listed i) → Inv A H S0 α0 σ0 w0 all e0 s0 rows listed a w S α σ → wpList P ops Q (ops.toList.drop q) a w) :
    ∀ (n : Nat) (listed : Array Bool) (a : Act) (w : World) (S : Nat → Prop) (α : Nat → Loc) (σ : Sto), Inv A H S0 α0 σ0 w0 all e0 s0 rows listed a w S α σ → listed.size = ops.size → Closed ops listed → (∀ i, q ≤ i → ¬ isIn listed i) → unl listed q = n → wpAny P .any ops Q (n + (ops.size - q)) listed a w := by
  have hrl : rows.length = q := by
    have := congrArg List.length hmap
    simp only [List.length_map, List.length_take] at this
    rw [← hall] at this
    simp at this
    omega
  have hpos : ∀ (i : Nat) (r : Row), rows[i]? = some r → all[i]? = some r.o ∧ i < q := fun i r hi => by
    have hlt : i < q := by rw [← hrl]; exact (List.getElem?_eq_some_iff.1 hi).1
    refine ⟨?_, hlt⟩
    have : (rows.map Row.o)[i]? = some r.o := by rw [List.getElem?_map, hi]; rfl
    rw [hmap, List.getElem?_take, if_pos hlt] at this
    exact this
  have hops : ∀ i o, all[i]? = some o → ops[i]? = some o := fun i o h => by
    rw [← hall, Array.getElem?_toList] at h
    exact h
  intro n
  induction n with
  | zero =>
    intro listed a w S α σ hinv hsz hc hun hn
    have hfull : ∀ i, i < q → isIn listed i := fun i hi => (isIn_getD (by omega)).1 (unl_zero hn i hi)
    rw [Nat.zero_add]
    refine chain_any hdraw (ops.size - q) listed a w q (by omega) (Nat.le_refl _) hsz hc (fun i hi => ?_) (hK listed a w S α σ hfull hinv)
    by_cases hiq : i < q
    · exact ⟨fun _ => hiq, fun _ => hfull i hiq⟩
    · exact ⟨fun h => absurd h (hun i (by omega)), fun h => absurd h hiq⟩
  | succ n ih =>
    intro listed a w S α σ hinv hsz hc hun hn
    obtain ⟨i0, hi0, hu0, hmin⟩ := unl_pos (listed := listed) (q := q) (by omega)
    have hu0' : ¬ isIn listed i0 := fun h => by
      have := (isIn_getD (by omega)).2 h
      rw [this] at hu0
      cases hu0
    rw [show n + 1 + (ops.size - q) = (n + (ops.size - q)) + 1 by omega]
    refine ⟨fun hr => ?_, fun k hk => ?_⟩
    · exfalso
      have : i0 ∈ Region.ready .any ops listed := mem_ready.2 ⟨by omega, hu0, fun o ho e he hb => by
        have hlt := back_of hdraw ho e he hb
        exact isIn_getD' ((isIn_getD (by omega)).1 (hmin _ hlt))⟩
      rw [hr] at this
      cases this
    · obtain ⟨h1, h2, h3⟩ := mem_ready.1 hk
      have hok : ops[k]? = some ops[k] := Array.getElem?_eq_getElem h1
      have hkq : k < q := by
        rcases Nat.lt_or_ge k q with h | h
        · exact h
        · exact absurd (anc_listed hc k _ hok (fun e he hb => isIn_of (h3 _ hok e he hb)) i0 (chain_of hdraw hok h i0 (by omega))) hu0'
      have hrow : rows[k]? = some rows[k] := List.getElem?_eq_getElem (by omega)
      have hro := (hpos k _ hrow).1
      have hko : ops[k]? = some rows[k].o := hops _ _ hro
      have hkn : ¬ isIn listed k := fun h => by
        have := (isIn_getD (by omega)).2 h
        rw [this] at h2
        cases h2
      refine hinv.step hall hnw0 hlo hlink hrows hrow hkn (by omega) (fun i r' hi hik t ht => huniq k i _ _ t hro (hpos i r' hi).1 (fun e => hik e.symm) ht) (fun t ht => hnt _ (List.mem_of_getElem? hro) t ht) (fun t ht i r' hi hd hik => ?_) (fun j b hg => hgd k _ j b hro hg) (fun i r' hi => (hpos i r' hi).1) _ (fun a' w' S' α' σ' hi' => ih _ a' w' S' α' σ' hi' (by simpa using hsz) (hc.set (by omega) h3) (fun i hi hh => ?_) ?_)
      · obtain ⟨p1, p2⟩ := look_of hdraw hko hkq (hops _ _ (hpos i r' hi).1) (hpos i r' hi).2 hd (by rw [hall]; exact ht) hik
        exact ⟨p1, anc_listed hc k _ hko (fun e he hb => isIn_of (h3 _ hko e he hb)) i p2⟩
      · rcases (isIn_set (by omega) i).1 hh with rfl | hh
        · omega
        · exact hun i hi hh
      · have := unl_set h2 hkq
        omega

theorem regOk_split : ∀ {os done : List Oper}, regOk H.nt done os = true → ∀ q, regOk H.nt (done ++ os.take q) (os.drop q) = true
  | [], done, h, q => by simpa using h
  | o :: os, done, h, 0 => by simpa using h
  | o :: os, done, h, q + 1 => by
    simp only [regOk, Bool.and_eq_true] at h
    have := regOk_split h.2 q
    simpa using this
theorem regOk_at : ∀ {os done : List Oper}, regOk H.nt done os = true → ∀ {i : Nat} {o : Oper}, os[i]? = some o → (∀ t, o.dst = some t → t < H.nt ∧ (∀ x ∈ done, x.dst ≠ some t) ∧ ∀ i' o', i' < i → os[i']? = some o' → o'.dst ≠ some t) ∧ ∀ j b, o.guard = some (j, b) → j < done.length + i
  | [], done, h, i, o, hi => by simp at hi
  | x :: os, done, h, 0, o, hi => by
    simp at hi
    subst hi
    simp only [regOk, Bool.and_eq_true] at h
    obtain ⟨⟨h1, h2⟩, _⟩ := h
    refine ⟨fun t ht => ?_, fun j b hg => ?_⟩
    · rw [ht] at h1
      simp only [Bool.and_eq_true, decide_eq_true_eq, List.all_eq_true, bne_iff_ne] at h1
      exact ⟨h1.1, h1.2, fun i' _ hi' => by omega⟩
    · rw [hg] at h2
      simpa using h2
  | x :: os, done, h, i + 1, o, hi => by
    simp only [regOk, Bool.and_eq_true] at h
    obtain ⟨k1, k2⟩ := regOk_at h.2 (i := i) (o := o) (by simpa using hi)
    refine ⟨fun t ht => ?_, fun j b hg => ?_⟩
    · obtain ⟨p1, p2, p3⟩ := k1 t ht
      refine ⟨p1, fun y hy => p2 y (by simp [hy]), fun i' o' hi' ho' => ?_⟩
      cases i' with
      | zero => simp at ho'; subst ho'; exact p2 _ (by simp)
      | succ i' => exact p3 i' o' (by omega) (by simpa using ho')
    · have := k2 j b hg
      simp at this
      omega
end

theorem draw_ok {P : Program} {H : Hints} {id q : Nat} {ops : Array Oper} {e : Env} {s : Store} {Q : Post} (hmix : P.follows .mixedOrders = true) (hreg : regOk H.nt [] ops.toList = true) (hdraw : drawOk ops q = true) {A : Nat → Option Loc} {S : Nat → Prop} {α : Nat → Loc} {a : Act} {w : World} (hst : State A H S α e s a w) (hnw : NoWhen e)
    (h : okOps P H ops.toList q s.length ops.toList e s Q) : (Code.region id ops true).wp P (After A H S α (lk s) w Q) a w := by
  have hq : q ≤ ops.size := by
    simp only [drawOk, Bool.and_eq_true, decide_eq_true_eq] at hdraw
    exact hdraw.1
  obtain ⟨rows, e', s', hmap, hrows, hlink, hrest⟩ := okOps_rows q ops.toList e s (by simpa using hq) h
  obtain ⟨t1, t2, t3, t4, t5, t6⟩ := linked_store hlink
  refine wp_region_any hmix ?_
  have hb : Below w.heap.size w { w with drawn := w.drawn + 1 } := ⟨rfl, rfl, rfl, Nat.le_refl _, fun _ _ => rfl⟩
  have hr := hst.toRelS.below hb (fun _ x => x) (fun _ x => .inl x) hst.slt
  have hfalse : ∀ i, ¬ isIn (Array.replicate ops.size false) i := fun i hi => by
    simp only [isIn, Array.getElem?_replicate] at hi
    split at hi <;> simp at hi
  have hun : ∀ k, k ≤ ops.size → unl (Array.replicate ops.size false) k = k := by
    intro k
    induction k with
    | zero => exact fun _ => rfl
    | succ k ih =>
      intro hk
      simp only [unl]
      rw [ih (by omega)]
      have : (Array.replicate ops.size false).getD k true = false := by
        rw [Array.getD_eq_getD_getElem?, Array.getElem?_replicate, if_pos (by omega)]
        rfl
      rw [this]
      simp
  have hpos : ∀ (i : Nat) (r : Row), rows[i]? = some r → ops.toList[i]? = some r.o ∧ i < q := fun i r hi => by
    have : (rows.map Row.o)[i]? = some r.o := by rw [List.getElem?_map, hi]; rfl
    rw [hmap, List.getElem?_take] at this
    split at this
    · exact ⟨this, ‹_›⟩
    · cases this
  have hat := fun (i : Nat) (o : Oper) (hi : ops.toList[i]? = some o) => regOk_at (done := []) hreg hi
  have hinv : Inv A H S α (lk s) w ops.toList e s rows (Array.replicate ops.size false) a { w with drawn := w.drawn + 1 } S α (lk s) := by
    refine ⟨hr, Moved.below hb (fun _ x => x) (fun _ x => .inl x), hst.pin, fun _ _ => rfl, fun i r B _ _ hl => absurd hl (hfalse i), fun i r B hi hB _ => ?_, fun j hj _ => ?_, fun t _ => ?_, fun i r t _ hl => absurd hl (hfalse i), fun i r g c p _ hl => absurd hl (hfalse i), fun _ i r g c p _ hl => absurd hl (hfalse i), hst.size, hst.defers⟩
    · simp only [lk, nth_eq]
      rw [List.getElem?_eq_none (by exact (t3 i r B hi hB).1)]
      rfl
    · simp only [lk, nth_eq]
      rw [List.getElem?_eq_none hj]
      rfl
    · exact PV.erep_mono (fun _ x => x) (hst.toRelS.keeps hb) (hst.toRelS.kept hb (fun _ _ => rfl) (fun _ h => h)) _ _ (fun _ _ _ _ => Iff.rfl) (hst.env t)
  have fin := draw_any (P := P) (Q := After A H S α (lk s) w Q) rfl hdraw hq hnw hst.lo hlink hrows hmap
    (fun i i' o o' t hi hi' hne hd => by
      rcases Nat.lt_or_gt_of_ne hne with hlt | hgt
      · exact fun hd' => ((hat i' o' hi').1 t hd').2.2 i o hlt hi hd
      · exact ((hat i o hi).1 t hd).2.2 i' o' hgt hi')
    (fun o ho t hd => by
      obtain ⟨i, hi⟩ := List.getElem?_of_mem ho
      exact ((hat i o hi).1 t hd).1)
    (fun i o j b hi hg => by simpa using (hat i o hi).2 j b hg)
    (fun listed a' w' S' α' σ' hfull hi => ?_) q (Array.replicate ops.size false) a _ S α (lk s) hinv (by simp) (fun i o _ hi => absurd hi (hfalse i)) (fun i _ => hfalse i) (hun q hq)
  · rw [show q + (ops.size - q) = ops.size by omega] at fin
    exact fin
  · -- all quiet operations are done
    have hσ : σ' = lk s' := by
      funext j
      by_cases hj : j < s.length
      · rw [hi.old j hj]
        simp only [lk, t2 j hj]
      · by_cases hj' : j < s'.length
        · obtain ⟨i, r, B, h1, h2, rfl⟩ := t4 j (by omega) hj'
          rw [hi.has i r B h1 h2 (hfull i (hpos i r h1).2)]
          simp only [lk, (t3 i r B h1 h2).2.2]
          rfl
        · rw [hi.out j (by omega) (fun i r B h1 h2 h3 => by have := (t3 i r B h1 h2).2.1; omega)]
          simp only [lk, nth_eq]
          rw [List.getElem?_eq_none (by omega)]
          rfl
    subst hσ
    have hst' : State A H S' α' e' s' a' w' := by
      refine ⟨⟨hi.rel, fun t => ?_, hi.size, hi.defers⟩, fun i l hl => ?_, Nat.le_trans hst.lo t1⟩
      · rcases linked_get hlink t with ⟨i, r, h1, h2, h3⟩ | ⟨h1, h2⟩
        · rw [h3]
          exact hi.env1 i r t h1 (hfull i (hpos i r h1).2) h2
        · rw [h2]
          exact hi.env0 t fun ⟨i, r, q1, q2, q3⟩ => h1 i r q1 q3
      · obtain ⟨p1, p2, p3⟩ := hi.pin i l hl
        refine ⟨p1, p2, ?_⟩
        have := hst.lo
        simp only [lk, t2 i (by omega)]
        exact p3
    have hmem : ∀ t, InL rows listed t → ∃ o ∈ ops.toList.take q, o.dst = some t := fun t ⟨i, r, h1, _, h3⟩ => ⟨r.o, by rw [← hmap]; exact List.mem_map.2 ⟨r, List.mem_of_getElem? h1, rfl⟩, h3⟩
    have htag : Tagged (ops.toList.take q) e' := by
      intro u g c p hp t b hm
      rcases linked_get hlink u with ⟨i, r, h1, h2, h3⟩ | ⟨h1, h2⟩
      · rw [h3] at hp
        exact hmem t (hi.tag i r g c p h1 (hfull i (hpos i r h1).2) hp t b hm)
      · rw [h2] at hp
        exact absurd hp (hnw u g c p)
    refine seqOps_ok rfl s.length (ops.toList.drop q) (ops.toList.take q) (by simp) (by simpa using regOk_split (done := []) hreg q) hst' htag (fun hg u g c p hp => ?_) hi.mov hrest
    rcases linked_get hlink u with ⟨i, r, h1, h2, h3⟩ | ⟨h1, h2⟩
    · rw [h3] at hp
      exact hi.nw hg i r g c p h1 (hfull i (hpos i r h1).2) hp
    · rw [h2] at hp
      exact hnw u g c p hp
end Go.Ev

/- Proved here: the given statements of this seat (RubricTextsUptoCardSaid, RubricChecksCardSaid, RubricRoundTripCardSaid): called with any readable arguments the law returns true and leaves its arguments as they were. Conditions: none beyond those of the given statements. -/
import Derived.Test.YtpfahanbkhgfhaaDoorD41j
import Derived.Test.YtpfahanbkhgfhaaDoorEvW
import Derived.Test.YtpfahanbkhgfhaaDoorCards
import Derived.Test.YtpfahanbkhgfhaaDoorTie
import Derived.WalkKit
import Derived.ProofKit
import Derived.OpenShut
import Derived.Carry
import Derived.Deep.DeepHandedRow
import Derived.ChangeMaps5
set_option linter.unusedSimpArgs false
set_option linter.unusedVariables false
open Go Go.Proofs Go.Ev
open Go.Proofs.YtpfahanbkhgfhaaDoor Go.ChangeShapes Go.WideShapes Go.ChangeAt Go.RowKit
namespace Go.Proofs.YtpfahanbkhgfhaaDoor.P41
set_option maxRecDepth 100000
theorem shape25 {ds : List DV} (h : HasC Tryd.prog 2 25 ds) : ∃ (m : Nat) (a : Nat → Int), ds = [mD m a] := by
  simp only [HasC, ty25, ty3, HasT, TD.isAgg] at h
  obtain ⟨m, f, rfl, _, hf⟩ := h
  have : ∀ i, ∃ k, f i = .int .i64 k := fun i => by
    obtain ⟨es, ⟨k, rfl, _⟩, he⟩ := hf i
    exact ⟨k, he⟩
  refine ⟨m, fun i => Classical.choose (this i), ?_⟩
  simp only [mD]
  congr 2
  funext i
  exact Classical.choose_spec (this i)
theorem shape24 {ds : List DV} (h : HasC Tryd.prog 4 24 ds) : ∃ (id : Int) (n : Nat) (f : Nat → Tr), ds = [.int .i64 id, .list 3 n (fun i => tD (f i))] := by
  simp only [HasC, ty24, ty22, ty45, ty9, ty3, HasT, HasF, TD.isAgg] at h
  obtain ⟨a, b, rfl, ⟨id, rfl, _⟩, a2, b2, rfl, ⟨n, f, rfl, _, hf⟩, rfl⟩ := h
  have : ∀ i, ∃ t, f i = tD t := fun i => by
    obtain ⟨es, ⟨a, b, rfl, ⟨s, rfl, _⟩, c, d, rfl, ⟨x, rfl, _⟩, e, g, rfl, ⟨y, rfl, _⟩, rfl⟩, he⟩ := hf i
    exact ⟨⟨s, x, y⟩, he⟩
  refine ⟨id, n, fun i => Classical.choose (this i), ?_⟩
  simp only [List.append_nil, List.cons_append, List.nil_append]
  congr 3
  funext i
  exact Classical.choose_spec (this i)
theorem rd24 : readable Tryd.prog 4 24 = true := by kernel_rfl
theorem rd25 : readable Tryd.prog 2 25 = true := by kernel_rfl
theorem laidOut : laidOutB Tryd.prog = true := by kernel_rfl
section
variable {H : Type} {enc : TypeId × Value → H} {W : World}
theorem arg24 {base : Nat} {v : Value} {d : DataW H} {p : List MemPlace} (hv : Value.okWide Tryd.prog W .any base 24 v) (h : DataW.Trod enc Tryd.prog W 0 (fun _ => true) true 24 v d p) : ∃ (id : Int) (n : Nat) (f : Nat → Tr), (rD id n f).rep (old W) W v := by
  obtain ⟨fuel, hf⟩ := h
  obtain ⟨ds, h1, h2⟩ := read_ok 4 24 rd24 _ _ _ hf
  obtain ⟨id, n, f, rfl⟩ := shape24 h1
  have hu : ∃ fs, Tryd.prog.underlying 24 = some (.struct fs) := by
    obtain ⟨fs, h, _⟩ := struct_desc (P := Tryd.prog) (t := 24) (fs := [(0, 3), (1, 22)]) (by rw [ty24])
    exact ⟨fs, h⟩
  obtain ⟨fs, hu⟩ := hu
  simp only [Value.okWide, hu] at hv
  obtain ⟨cs, rfl, _⟩ := hv
  refine ⟨id, n, f, ?_⟩
  simp only [rD, DV.rep]
  exact ⟨cs.toList, by simp, by simpa [Value.cells] using h2⟩
theorem arg25 {base : Nat} {v : Value} {d : DataW H} {p : List MemPlace} (hv : Value.okWide Tryd.prog W .any base 25 v) (h : DataW.Trod enc Tryd.prog W 0 (fun _ => true) true 25 v d p) : ∃ (m : Nat) (a : Nat → Int), (mD m a).rep (old W) W v := by
  obtain ⟨fuel, hf⟩ := h
  obtain ⟨ds, h1, h2⟩ := read_ok 2 25 rd25 _ _ _ hf
  obtain ⟨m, a, rfl⟩ := shape25 h1
  obtain ⟨a0, len, cap, rfl⟩ := okWide_slice (slice_desc (P := Tryd.prog) (t := 25) (by rw [ty25])) hv
  refine ⟨m, a, ?_⟩
  simp only [Value.cells, repL] at h2
  obtain ⟨u, us, he, _, hr, _⟩ := h2
  simp at he
  rw [he.1]
  exact hr
/-- A string. -/
theorem arg9 {base : Nat} {v : Value} {d : DataW H} {p : List MemPlace} (hv : Value.okWide Tryd.prog W .any base 9 v) (h : DataW.Trod enc Tryd.prog W 0 (fun _ => true) true 9 v d p) : ∃ b : ByteArray, d = .lit (.string b.data.toList) ∧ (DV.str b).rep (old W) W v := by
  obtain ⟨b, rfl, rfl, _, hb⟩ := Go.ChangeMaps.open_string (str_desc (by rw [ty9])) hv h
  exact ⟨b, rfl, by simp only [DV.rep]; exact ⟨trivial, hb⟩⟩
/-- WHAT A WALK GIVES: called with these arguments it returns true, and nothing that was has turned. -/
theorem called2 {k : FuncId} {x y : DV} (hk : FnD Tryd.prog k [.d x, .d y] [.bool true]) {v0 v1 : Value} (r0 : x.rep (old W) W v0) (r1 : y.rep (old W) W v1) :
    Calls Tryd.prog k #[v0, v1] W fun e W' => e = .returned (.bool true) ∧ Below W.heap.size W W' := by
  refine (callD hk (S := old W) (fun _ h => h) (vals := [v0, v1]) ?_).mono ?_
  · simp only [prepL, PV.rep]
    exact ⟨_, _, rfl, r0, _, _, rfl, r1, rfl⟩
  · rintro e W' ⟨v, S', α', rfl, hv, hb, _⟩
    simp only [List.map_cons, List.map_nil, resP, PV.rep, DV.rep] at hv
    subst hv
    exact ⟨rfl, hb⟩
end

theorem post_below {H : Type} {enc : TypeId × Value → H} {P : Program} {f : Func} {s : ChangeSpec} {apart fresh handsOn again : Bool} {W W' : World} {args : Array Value} {v : Value} {ds gs : List (DataW H)} {before pa pv : List MemPlace}
    (hW : DataW.Whole enc P f.params.toList s.vars apart W args.toList ds gs before)
    (hres : ∀ (b : Nat) (sp : Nat → Bool) (hd : Bool), DataW.TrodAll enc P W' b sp hd f.resultTypes.toList (v.resultList f.resultTypes.size) (s.fn H (ds ++ gs)).results [])
    (hargs : ∀ sp : Nat → Bool, (∀ p ∈ before, sp p.block = true) → DataW.TrodAll enc P W' 0 sp true f.params.toList args.toList (s.fn H (ds ++ gs)).args pa)
    (hvars : ∀ sp : Nat → Bool, (∀ p ∈ before, sp p.block = true) → DataW.TrodVars enc P W' sp s.vars (s.fn H (ds ++ gs)).vars pv)
    (hps : before = pa ++ pv) (hb : Below W.heap.size W W')
    (hok : ∀ (j : Nat) (t : TypeId) (r : Value), f.resultTypes[j]? = some t → (v.resultList f.resultTypes.size)[j]? = some r → Value.okWide P W' .any 0 t r) :
    s.post enc P f apart fresh handsOn again W args v W' := by
  have hold : ∀ p ∈ before, (fun b => decide (b < W.heap.size)) p.block = true := fun p hp => by simpa using hW.lt p hp
  have hlt : ∀ p ∈ before, p.block < W.heap.size := hW.lt
  refine ⟨ds, gs, before, [], pa, pv, hW, hres _ _ _, hargs _ hold, hvars _ hold, World.keptBut_mono (fun p hp => ⟨hp, ?_⟩) (hb.frame (· ∈ before)), fun _ => ?_⟩
  · rw [hps, List.mem_append] at hp
    exact Or.inr hp
  · obtain ⟨_, _, _, _, _, hz, hn⟩ := hW
    refine ⟨hok, _, _, ([] ++ pa) ++ pv, ⟨[] ++ pa, pv, trodAll_append (hargs _ (fun _ _ => rfl)) (hres _ _ _), hvars _ (fun _ _ => rfl), rfl, ?_, ?_⟩, ?_⟩
    · intro b off hp
      have hp' : MemPlace.cell b off ∈ before := by rw [hps]; simpa using hp
      rw [hb.frozen (p := ⟨b, off, none⟩) (hlt _ hp')]
      exact hz b off hp'
    · intro ha
      have := hn ha
      rw [hps] at this
      simpa using this
    · intro p hp _
      rw [hps]
      simpa using hp
/-! a world that holds the listed tables -/
mutual
def flat : DataW Unit → List Value
  | .lit (.int k n) => [.int k n]
  | .agg ps => flatL ps
  | _ => []
def flatL : List (DataW Unit) → List Value
  | [] => []
  | d :: l => flat d ++ flatL l
end
def lay1 (g : Option Nat) (d : DataW Unit) (w : World) : World := match g with
  | some g => { w with heap := w.heap.modify g fun
      | .cells _ t fr => .cells (flat d).toArray t fr
      | o => o }
  | none => w
def lay (P : Program) : List (String × DataW Unit) → World → World
  | [], w => w
  | x :: l, w => lay P l (lay1 (P.globalNamed x.1) x.2 w)
theorem lay_os {P : Program} : ∀ (l : List (String × DataW Unit)) (w : World), (lay P l w).os = w.os
  | [], _ => rfl
  | x :: l, w => by
    rw [lay, lay_os l]
    unfold lay1
    split <;> rfl
noncomputable def laidWorld (l : List (String × DataW Unit)) (os : Os) : World := lay Tryd.prog l (World.holding Tryd.prog os ⟨#[], #[], []⟩)
theorem laid_os (l : List (String × DataW Unit)) (os : Os) : (laidWorld l os).os = os := lay_os l _
theorem own : ownKnob Tryd.prog.godebug = none := by kernel_rfl
namespace RubricTexts
theorem contract (H : Type) (enc : TypeId × Value → H) (W : World) (base : Nat) (args : Array Value) (ds gs : List (DataW H)) (before : List MemPlace)
    (hval : ∀ (j : Nat) t v, Tryd.f3.params[j]? = some t → args[j]? = some v → Value.okWide Tryd.prog W .any base t v)
    (hW : DataW.Whole enc Tryd.prog Tryd.f3.params.toList Rows.rubricTextsSpec.vars false W args.toList ds gs before) (hbulk : Rows.uptoSmall H (ds ++ gs) = true) :
    Calls Tryd.prog 3 args W fun e W' => ∃ v, e = .returned v ∧ Rows.rubricTextsSpec.post enc Tryd.prog Tryd.f3 false true false false W args v W' := by
  have hW' := hW
  obtain ⟨p, q, hA0, hV, rfl, hfz, hnd⟩ := hW
  have hA : DataW.TrodAll enc Tryd.prog W 0 (fun _ => true) true [24, 9] args.toList ds p := hA0
  have hval : ∀ (j : Nat) t v, (#[24, 9] : Array TypeId)[j]? = some t → args[j]? = some v → Value.okWide Tryd.prog W .any base t v := hval
  obtain ⟨v0, v1, d0, d1, p0, p1, rfl, rfl, rfl, h0, h1⟩ := trodAll_two hA
  obtain ⟨rfl, rfl⟩ := trodVars_none hV
  have hlt : ∀ x ∈ p0 ++ p1 ++ [], x.block < W.heap.size := fun x hx => by simpa using hW'.lt x hx
  obtain ⟨id, n, f, r0⟩ := arg24 (hval 0 24 v0 rfl rfl) h0
  obtain ⟨b, rfl, r1⟩ := arg9 (hval 1 9 v1 rfl rfl) h1
  have hb1 : b.size ≤ 1099511627776 := by
    have e : b.data.toList.length = b.size := rfl
    simp only [Rows.uptoSmall, decide_eq_true_eq, List.append_nil, Rows.uptoBulkAll, Rows.uptoBulk, e] at hbulk
    omega
  refine (called2 (texts_ok id n f b hb1) r0 r1).mono fun e W' ⟨he, hb⟩ => ?_
  subst he
  have r24 : Tryd.prog.readableRec 24 = true := by kernel_rfl
  have rT : Tryd.prog.readableRec 9 = true := by kernel_rfl
  have l24 : 24 < Tryd.prog.types.size := of_decide_eq_true (by kernel_rfl)
  have lT : 9 < Tryd.prog.types.size := of_decide_eq_true (by kernel_rfl)
  have ub : Tryd.prog.underlying 4 = some .bool := bool_desc (by rw [ty4])
  have stay : ∀ {t : TypeId} {v : Value} {d : DataW H} {p : List MemPlace}, Tryd.prog.readableRec t = true → t < Tryd.prog.types.size → DataW.Trod enc Tryd.prog W 0 (fun _ => true) true t v d p → (∀ x ∈ p, x ∈ p0 ++ p1 ++ []) → ∀ sp : Nat → Bool, (∀ x ∈ p0 ++ p1 ++ [], sp x.block = true) → DataW.Trod enc Tryd.prog W' 0 sp true t v d p :=
    fun r l h hs sp hsp => WideElems.Trod_stays laidOut r l h (fun x hx => hb.same (hlt x (hs x hx))) (fun x hx => hsp x (hs x hx))
  exact ⟨_, rfl, post_below (pa := p0 ++ p1) (pv := []) hW' (fun _ _ _ => trodAll_cons_mk (shut_bool ub _) trodAll_mk0)
    (fun sp hsp => trodAll_mk2 (stay r24 l24 h0 (by simp +contextual) sp hsp) (stay rT lT h1 (by simp +contextual) sp hsp)) (fun _ _ => rfl) (by simp) hb
    (ok_one (by kernel_rfl) rfl (okWide_bool_mk ub _))⟩
def args0 : Array Value := #[.agg #[.int .i64 0, .slice none 0 0], .string ByteArray.empty]
theorem laid_met (os : Os) : laidMet Tryd.prog Rows.rubricTextsUptoRow.laid ((laidWorld Rows.rubricTextsUptoRow.laid os).forCall (fun _ _ => 0) ⟨#[], args0, []⟩).memory :=
  laidMet_of_run' 8 (by kernel_rfl) (by kernel_rfl)
theorem reads (os : Os) {H : Type} (enc : TypeId × Value → H) : ∃ places, DataW.whole enc Tryd.prog ((laidWorld Rows.rubricTextsUptoRow.laid os).forCall (fun _ _ => 0) ⟨#[], args0, []⟩).memory Tryd.f3.params.toList Rows.rubricTextsSpec.vars false args0.toList 8 = some ([.agg [.lit (.int .i64 0), .nil], .lit (.string [])], [], places) :=
  ⟨[], by kernel_rfl⟩
theorem lifted (os : Os) (started : os.Started) (H : Type) (enc : TypeId × Value → H) (F : Stop.Interp) :
    ReturnsInHanded {} Tryd.checked os 3 .any ((Rows.OpenSpec.upto Rows.rubricTextsSpec).preRow enc Tryd.prog Tryd.f3 Rows.rubricTextsUptoRow.domain false Rows.rubricTextsUptoRow.laid) (((Rows.OpenSpec.upto Rows.rubricTextsSpec).at F).post enc Tryd.prog Tryd.f3 false true false false) := by
  obtain ⟨places, hx⟩ := reads os enc
  refine returnsInHanded_of_row (C := Tryd.checked) (s := Rows.OpenSpec.upto Rows.rubricTextsSpec) own started (by kernel_rfl) Tryd.func3
    (witness_row_at (enc := enc) (C := Tryd.checked) false (laidWorld Rows.rubricTextsUptoRow.laid os) args0 (laid_os _ os) (by kernel_rfl) (by kernel_rfl) (by kernel_rfl)
      (OpenSpec.preRow_of_cond 8 hx (by kernel_rfl) (fun k hk => by cases hk; kernel_rfl) (by kernel_rfl) (laid_met os))) ?_
  intro W base args ds gs before hval hW _ hc _ _ _ _
  exact contract H enc W base args ds gs before hval hW (hc _ rfl)
theorem said : Rows.RubricTextsUptoSaid :=
  OpenClaim.holds_of_cond 3 Tryd.f3 rfl rfl rfl rfl rfl rfl rfl ⟨rfl, rfl, rfl, rfl, rfl⟩ rfl rfl rfl rfl rfl (by kernel_rfl) Tryd.func3 (by kernel_rfl)
    (of_decide_eq_true (by kernel_rfl)) (by unfold Func.isWrapper; first | (rw [if_pos (by decide +kernel)]; kernel_rfl) | (rw [if_neg (by decide +kernel)]; exact ⟨rfl, rfl⟩))
    (fun os started H enc _ F => by rw [OpenClaim.pre_eq_preRow]; exact lifted os started H enc F)
theorem plain (f : FuncId) (fn : Func) (hf : Tryd.pinned.checked.prog.funcNamed "examboard/examboardlaw41.RubricTexts" = some f) (hfn : Tryd.pinned.checked.prog.funcs[f]? = some fn) :
    false = Tryd.pinned.checked.prog.looks [] ∧ ∀ (j : Nat) t, fn.params[j]? = some t → Tryd.pinned.checked.prog.wantsStandIn t = false := by
  obtain rfl : f = 3 := Option.some.inj ((show Tryd.prog.funcNamed "examboard/examboardlaw41.RubricTexts" = some 3 by kernel_rfl).symm.trans hf) |>.symm
  obtain rfl : fn = Tryd.f3 := (Option.some.inj (Tryd.func3.symm.trans hfn)).symm
  refine ⟨by kernel_rfl, fun j t ht => ?_⟩
  have ht : (#[24, 9] : Array TypeId)[j]? = some t := ht
  have h : t = 24 ∨ t = 9 := by simpa using Array.mem_of_getElem? ht
  rcases h with rfl | rfl
  · exact (show Tryd.prog.wantsStandIn 24 = false by kernel_rfl)
  · exact (show Tryd.prog.wantsStandIn 9 = false by kernel_rfl)
theorem card : Rows.RubricTextsUptoCardSaid :=
  Claim7.holds_tied_plain_at .later [] _ _ _ _ said (fun _ h => by cases h) (by kernel_rfl) (fun _ h => by cases h) rubricTextsUpto_row_tie rfl ⟨rfl, rfl⟩ (by kernel_rfl) rfl plain (by kernel_rfl)
end RubricTexts
namespace RubricChecks
theorem contract (H : Type) (enc : TypeId × Value → H) (W : World) (base : Nat) (args : Array Value) (ds gs : List (DataW H)) (before : List MemPlace)
    (hval : ∀ (j : Nat) t v, Tryd.f4.params[j]? = some t → args[j]? = some v → Value.okWide Tryd.prog W .any base t v)
    (hW : DataW.Whole enc Tryd.prog Tryd.f4.params.toList Rows.rubricChecksSpec.vars false W args.toList ds gs before) :
    Calls Tryd.prog 4 args W fun e W' => ∃ v, e = .returned v ∧ Rows.rubricChecksSpec.post enc Tryd.prog Tryd.f4 false true false false W args v W' := by
  have hW' := hW
  obtain ⟨p, q, hA0, hV, rfl, hfz, hnd⟩ := hW
  have hA : DataW.TrodAll enc Tryd.prog W 0 (fun _ => true) true [24, 25] args.toList ds p := hA0
  have hval : ∀ (j : Nat) t v, (#[24, 25] : Array TypeId)[j]? = some t → args[j]? = some v → Value.okWide Tryd.prog W .any base t v := hval
  obtain ⟨v0, v1, d0, d1, p0, p1, rfl, rfl, rfl, h0, h1⟩ := trodAll_two hA
  obtain ⟨rfl, rfl⟩ := trodVars_none hV
  have hlt : ∀ x ∈ p0 ++ p1 ++ [], x.block < W.heap.size := fun x hx => by simpa using hW'.lt x hx
  obtain ⟨id, n, f, r0⟩ := arg24 (hval 0 24 v0 rfl rfl) h0
  obtain ⟨m, a, r1⟩ := arg25 (hval 1 25 v1 rfl rfl) h1
  refine (called2 (checks_ok id n f m a) r0 r1).mono fun e W' ⟨he, hb⟩ => ?_
  subst he
  have r24 : Tryd.prog.readableRec 24 = true := by kernel_rfl
  have rT : Tryd.prog.readableRec 25 = true := by kernel_rfl
  have l24 : 24 < Tryd.prog.types.size := of_decide_eq_true (by kernel_rfl)
  have lT : 25 < Tryd.prog.types.size := of_decide_eq_true (by kernel_rfl)
  have ub : Tryd.prog.underlying 4 = some .bool := bool_desc (by rw [ty4])
  have stay : ∀ {t : TypeId} {v : Value} {d : DataW H} {p : List MemPlace}, Tryd.prog.readableRec t = true → t < Tryd.prog.types.size → DataW.Trod enc Tryd.prog W 0 (fun _ => true) true t v d p → (∀ x ∈ p, x ∈ p0 ++ p1 ++ []) → ∀ sp : Nat → Bool, (∀ x ∈ p0 ++ p1 ++ [], sp x.block = true) → DataW.Trod enc Tryd.prog W' 0 sp true t v d p :=
    fun r l h hs sp hsp => WideElems.Trod_stays laidOut r l h (fun x hx => hb.same (hlt x (hs x hx))) (fun x hx => hsp x (hs x hx))
  exact ⟨_, rfl, post_below (pa := p0 ++ p1) (pv := []) hW' (fun _ _ _ => trodAll_cons_mk (shut_bool ub _) trodAll_mk0)
    (fun sp hsp => trodAll_mk2 (stay r24 l24 h0 (by simp +contextual) sp hsp) (stay rT lT h1 (by simp +contextual) sp hsp)) (fun _ _ => rfl) (by simp) hb
    (ok_one (by kernel_rfl) rfl (okWide_bool_mk ub _))⟩
def args0 : Array Value := #[.agg #[.int .i64 0, .slice none 0 0], .slice none 0 0]
theorem laid_met (os : Os) : laidMet Tryd.prog Rows.rubricChecksRow.laid ((laidWorld Rows.rubricChecksRow.laid os).forCall (fun _ _ => 0) ⟨#[], args0, []⟩).memory :=
  laidMet_of_run' 8 (by kernel_rfl) (by kernel_rfl)
theorem reads (os : Os) {H : Type} (enc : TypeId × Value → H) : ∃ places, DataW.whole enc Tryd.prog ((laidWorld Rows.rubricChecksRow.laid os).forCall (fun _ _ => 0) ⟨#[], args0, []⟩).memory Tryd.f4.params.toList Rows.rubricChecksSpec.vars false args0.toList 8 = some ([.agg [.lit (.int .i64 0), .nil], .nil], [], places) :=
  ⟨[], by kernel_rfl⟩
theorem lifted (os : Os) (started : os.Started) (H : Type) (enc : TypeId × Value → H) (F : Stop.Interp) :
    ReturnsInHanded {} Tryd.checked os 4 .any ((OpenSpec.ofChange Rows.rubricChecksSpec).preRow enc Tryd.prog Tryd.f4 Rows.rubricChecksRow.domain false Rows.rubricChecksRow.laid) (((OpenSpec.ofChange Rows.rubricChecksSpec).at F).post enc Tryd.prog Tryd.f4 false true false false) := by
  obtain ⟨places, hx⟩ := reads os enc
  refine returnsInHanded_of_row (C := Tryd.checked) (s := OpenSpec.ofChange Rows.rubricChecksSpec) own started (by kernel_rfl) Tryd.func4
    (witness_row_at (enc := enc) (C := Tryd.checked) false (laidWorld Rows.rubricChecksRow.laid os) args0 (laid_os _ os) (by kernel_rfl) (by kernel_rfl) (by kernel_rfl)
      (OpenSpec.preRow_of_cond 8 hx (by kernel_rfl) (fun k hk => by cases hk) (by kernel_rfl) (laid_met os))) ?_
  intro W base args ds gs before hval hW _ hc _ _ _ _
  exact contract H enc W base args ds gs before hval hW
theorem said : Rows.RubricChecksSaid :=
  OpenClaim.holds_of_cond 4 Tryd.f4 rfl rfl rfl rfl rfl rfl rfl ⟨rfl, rfl, rfl, rfl, rfl⟩ rfl rfl rfl rfl rfl (by kernel_rfl) Tryd.func4 (by kernel_rfl)
    (of_decide_eq_true (by kernel_rfl)) (by unfold Func.isWrapper; first | (rw [if_pos (by decide +kernel)]; kernel_rfl) | (rw [if_neg (by decide +kernel)]; exact ⟨rfl, rfl⟩))
    (fun os started H enc _ F => by rw [OpenClaim.pre_eq_preRow]; exact lifted os started H enc F)
theorem plain (f : FuncId) (fn : Func) (hf : Tryd.pinned.checked.prog.funcNamed "examboard/examboardlaw41.RubricChecks" = some f) (hfn : Tryd.pinned.checked.prog.funcs[f]? = some fn) :
    false = Tryd.pinned.checked.prog.looks [] ∧ ∀ (j : Nat) t, fn.params[j]? = some t → Tryd.pinned.checked.prog.wantsStandIn t = false := by
  obtain rfl : f = 4 := Option.some.inj ((show Tryd.prog.funcNamed "examboard/examboardlaw41.RubricChecks" = some 4 by kernel_rfl).symm.trans hf) |>.symm
  obtain rfl : fn = Tryd.f4 := (Option.some.inj (Tryd.func4.symm.trans hfn)).symm
  refine ⟨by kernel_rfl, fun j t ht => ?_⟩
  have ht : (#[24, 25] : Array TypeId)[j]? = some t := ht
  have h : t = 24 ∨ t = 25 := by simpa using Array.mem_of_getElem? ht
  rcases h with rfl | rfl
  · exact (show Tryd.prog.wantsStandIn 24 = false by kernel_rfl)
  · exact (show Tryd.prog.wantsStandIn 25 = false by kernel_rfl)
theorem card : Rows.RubricChecksCardSaid :=
  Claim7.holds_tied_plain_at .later [] _ _ _ _ said (fun _ h => by cases h) (by kernel_rfl) (fun _ h => by cases h) rubricChecks_row_tie rfl ⟨rfl, rfl⟩ (by kernel_rfl) rfl plain (by kernel_rfl)
end RubricChecks
namespace RubricRoundTrip
theorem contract (H : Type) (enc : TypeId × Value → H) (W : World) (base : Nat) (args : Array Value) (ds gs : List (DataW H)) (before : List MemPlace)
    (hval : ∀ (j : Nat) t v, Tryd.f5.params[j]? = some t → args[j]? = some v → Value.okWide Tryd.prog W .any base t v)
    (hW : DataW.Whole enc Tryd.prog Tryd.f5.params.toList Rows.rubricRoundTripSpec.vars false W args.toList ds gs before) :
    Calls Tryd.prog 5 args W fun e W' => ∃ v, e = .returned v ∧ Rows.rubricRoundTripSpec.post enc Tryd.prog Tryd.f5 false true false false W args v W' := by
  have hW' := hW
  obtain ⟨p, q, hA0, hV, rfl, hfz, hnd⟩ := hW
  have hA : DataW.TrodAll enc Tryd.prog W 0 (fun _ => true) true [24, 25] args.toList ds p := hA0
  have hval : ∀ (j : Nat) t v, (#[24, 25] : Array TypeId)[j]? = some t → args[j]? = some v → Value.okWide Tryd.prog W .any base t v := hval
  obtain ⟨v0, v1, d0, d1, p0, p1, rfl, rfl, rfl, h0, h1⟩ := trodAll_two hA
  obtain ⟨rfl, rfl⟩ := trodVars_none hV
  have hlt : ∀ x ∈ p0 ++ p1 ++ [], x.block < W.heap.size := fun x hx => by simpa using hW'.lt x hx
  obtain ⟨id, n, f, r0⟩ := arg24 (hval 0 24 v0 rfl rfl) h0
  obtain ⟨m, a, r1⟩ := arg25 (hval 1 25 v1 rfl rfl) h1
  refine (called2 (round_ok id n f m a) r0 r1).mono fun e W' ⟨he, hb⟩ => ?_
  subst he
  have r24 : Tryd.prog.readableRec 24 = true := by kernel_rfl
  have rT : Tryd.prog.readableRec 25 = true := by kernel_rfl
  have l24 : 24 < Tryd.prog.types.size := of_decide_eq_true (by kernel_rfl)
  have lT : 25 < Tryd.prog.types.size := of_decide_eq_true (by kernel_rfl)
  have ub : Tryd.prog.underlying 4 = some .bool := bool_desc (by rw [ty4])
  have stay : ∀ {t : TypeId} {v : Value} {d : DataW H} {p : List MemPlace}, Tryd.prog.readableRec t = true → t < Tryd.prog.types.size → DataW.Trod enc Tryd.prog W 0 (fun _ => true) true t v d p → (∀ x ∈ p, x ∈ p0 ++ p1 ++ []) → ∀ sp : Nat → Bool, (∀ x ∈ p0 ++ p1 ++ [], sp x.block = true) → DataW.Trod enc Tryd.prog W' 0 sp true t v d p :=
    fun r l h hs sp hsp => WideElems.Trod_stays laidOut r l h (fun x hx => hb.same (hlt x (hs x hx))) (fun x hx => hsp x (hs x hx))
  exact ⟨_, rfl, post_below (pa := p0 ++ p1) (pv := []) hW' (fun _ _ _ => trodAll_cons_mk (shut_bool ub _) trodAll_mk0)
    (fun sp hsp => trodAll_mk2 (stay r24 l24 h0 (by simp +contextual) sp hsp) (stay rT lT h1 (by simp +contextual) sp hsp)) (fun _ _ => rfl) (by simp) hb
    (ok_one (by kernel_rfl) rfl (okWide_bool_mk ub _))⟩
def args0 : Array Value := #[.agg #[.int .i64 0, .slice none 0 0], .slice none 0 0]
theorem laid_met (os : Os) : laidMet Tryd.prog Rows.rubricRoundTripRow.laid ((laidWorld Rows.rubricRoundTripRow.laid os).forCall (fun _ _ => 0) ⟨#[], args0, []⟩).memory :=
  laidMet_of_run' 8 (by kernel_rfl) (by kernel_rfl)
theorem reads (os : Os) {H : Type} (enc : TypeId × Value → H) : ∃ places, DataW.whole enc Tryd.prog ((laidWorld Rows.rubricRoundTripRow.laid os).forCall (fun _ _ => 0) ⟨#[], args0, []⟩).memory Tryd.f5.params.toList Rows.rubricRoundTripSpec.vars false args0.toList 8 = some ([.agg [.lit (.int .i64 0), .nil], .nil], [], places) :=
  ⟨[], by kernel_rfl⟩
theorem lifted (os : Os) (started : os.Started) (H : Type) (enc : TypeId × Value → H) (F : Stop.Interp) :
    ReturnsInHanded {} Tryd.checked os 5 .any ((OpenSpec.ofChange Rows.rubricRoundTripSpec).preRow enc Tryd.prog Tryd.f5 Rows.rubricRoundTripRow.domain false Rows.rubricRoundTripRow.laid) (((OpenSpec.ofChange Rows.rubricRoundTripSpec).at F).post enc Tryd.prog Tryd.f5 false true false false) := by
  obtain ⟨places, hx⟩ := reads os enc
  refine returnsInHanded_of_row (C := Tryd.checked) (s := OpenSpec.ofChange Rows.rubricRoundTripSpec) own started (by kernel_rfl) Tryd.func5
    (witness_row_at (enc := enc) (C := Tryd.checked) false (laidWorld Rows.rubricRoundTripRow.laid os) args0 (laid_os _ os) (by kernel_rfl) (by kernel_rfl) (by kernel_rfl)
      (OpenSpec.preRow_of_cond 8 hx (by kernel_rfl) (fun k hk => by cases hk) (by kernel_rfl) (laid_met os))) ?_
  intro W base args ds gs before hval hW _ hc _ _ _ _
  exact contract H enc W base args ds gs before hval hW
theorem said : Rows.RubricRoundTripSaid :=
  OpenClaim.holds_of_cond 5 Tryd.f5 rfl rfl rfl rfl rfl rfl rfl ⟨rfl, rfl, rfl, rfl, rfl⟩ rfl rfl rfl rfl rfl (by kernel_rfl) Tryd.func5 (by kernel_rfl)
    (of_decide_eq_true (by kernel_rfl)) (by unfold Func.isWrapper; first | (rw [if_pos (by decide +kernel)]; kernel_rfl) | (rw [if_neg (by decide +kernel)]; exact ⟨rfl, rfl⟩))
    (fun os started H enc _ F => by rw [OpenClaim.pre_eq_preRow]; exact lifted os started H enc F)
theorem plain (f : FuncId) (fn : Func) (hf : Tryd.pinned.checked.prog.funcNamed "examboard/examboardlaw41.RubricRoundTrip" = some f) (hfn : Tryd.pinned.checked.prog.funcs[f]? = some fn) :
    false = Tryd.pinned.checked.prog.looks [] ∧ ∀ (j : Nat) t, fn.params[j]? = some t → Tryd.pinned.checked.prog.wantsStandIn t = false := by
  obtain rfl : f = 5 := Option.some.inj ((show Tryd.prog.funcNamed "examboard/examboardlaw41.RubricRoundTrip" = some 5 by kernel_rfl).symm.trans hf) |>.symm
  obtain rfl : fn = Tryd.f5 := (Option.some.inj (Tryd.func5.symm.trans hfn)).symm
  refine ⟨by kernel_rfl, fun j t ht => ?_⟩
  have ht : (#[24, 25] : Array TypeId)[j]? = some t := ht
  have h : t = 24 ∨ t = 25 := by simpa using Array.mem_of_getElem? ht
  rcases h with rfl | rfl
  · exact (show Tryd.prog.wantsStandIn 24 = false by kernel_rfl)
  · exact (show Tryd.prog.wantsStandIn 25 = false by kernel_rfl)
theorem card : Rows.RubricRoundTripCardSaid :=
  Claim7.holds_tied_plain_at .later [] _ _ _ _ said (fun _ h => by cases h) (by kernel_rfl) (fun _ h => by cases h) rubricRoundTrip_row_tie rfl ⟨rfl, rfl⟩ (by kernel_rfl) rfl plain (by kernel_rfl)
end RubricRoundTrip
end Go.Proofs.YtpfahanbkhgfhaaDoor.P41

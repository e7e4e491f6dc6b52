/- Proved here: the given statements of this seat (RubricMedianSaid, RubricComparesSaid, RubricMonotoneSaid): called with any readable arguments the law returns true and leaves its arguments as they were. Conditions: none beyond those of the given statements. -/
import Derived.Test.YtpfahanbkhgfhaaW41g
import Derived.Test.YtpfahanbkhgfhaaEvW
import Derived.Test.YtpfahanbkhgfhaaChecked
import Derived.Test.YtpfahanbkhgfhaaRows
import Derived.WalkKit
import Derived.ProofKit
import Derived.OpenShut
import Derived.Carry
set_option linter.unusedSimpArgs false
set_option linter.unusedVariables false
open Go Go.Proofs Go.Ev
open Go.Proofs.Ytpfahanbkhgfhaa Go.ChangeShapes Go.WideShapes Go.ChangeAt Go.RowKit
namespace Go.Proofs.Ytpfahanbkhgfhaa.P41
set_option maxRecDepth 100000
theorem shape25 {ds : List DV} (h : HasC Try.prog 2 25 ds) : ∃ (m : Nat) (a : Nat → Int), ds = [mD m a] := by
  simp only [HasC, ty25, ty3, HasT, TD.isAgg] at h
  obtain ⟨m, f, rfl, _, hf⟩ := h
  have : ∀ i, ∃ k, f i = .int .i64 k := fun i => by
    obtain ⟨es, ⟨k, rfl, _⟩, he⟩ := hf i
    exact ⟨k, he⟩
  refine ⟨m, fun i => Classical.choose (this i), ?_⟩
  simp only [mD]
  congr 2
  funext i
  exact Classical.choose_spec (this i)
theorem shape24 {ds : List DV} (h : HasC Try.prog 4 24 ds) : ∃ (id : Int) (n : Nat) (f : Nat → Tr), ds = [.int .i64 id, .list 3 n (fun i => tD (f i))] := by
  simp only [HasC, ty24, ty22, ty39, ty9, ty3, HasT, HasF, TD.isAgg] at h
  obtain ⟨a, b, rfl, ⟨id, rfl, _⟩, a2, b2, rfl, ⟨n, f, rfl, _, hf⟩, rfl⟩ := h
  have : ∀ i, ∃ t, f i = tD t := fun i => by
    obtain ⟨es, ⟨a, b, rfl, ⟨s, rfl, _⟩, c, d, rfl, ⟨x, rfl, _⟩, e, g, rfl, ⟨y, rfl, _⟩, rfl⟩, he⟩ := hf i
    exact ⟨⟨s, x, y⟩, he⟩
  refine ⟨id, n, fun i => Classical.choose (this i), ?_⟩
  simp only [List.append_nil, List.cons_append, List.nil_append]
  congr 3
  funext i
  exact Classical.choose_spec (this i)
theorem rd24 : readable Try.prog 4 24 = true := by kernel_rfl
theorem rd25 : readable Try.prog 2 25 = true := by kernel_rfl
theorem laidOut : laidOutB Try.prog = true := by kernel_rfl
theorem own : ownKnob Try.prog.godebug = none := by kernel_rfl
section
variable {H : Type} {enc : TypeId × Value → H} {W : World}
theorem arg24 {base : Nat} {v : Value} {d : DataW H} {p : List MemPlace} (hv : Value.okWide Try.prog W .any base 24 v) (h : DataW.Trod enc Try.prog W 0 (fun _ => true) true 24 v d p) : ∃ (id : Int) (n : Nat) (f : Nat → Tr), (rD id n f).rep (old W) W v := by
  obtain ⟨fuel, hf⟩ := h
  obtain ⟨ds, h1, h2⟩ := read_ok 4 24 rd24 _ _ _ hf
  obtain ⟨id, n, f, rfl⟩ := shape24 h1
  have hu : ∃ fs, Try.prog.underlying 24 = some (.struct fs) := by
    obtain ⟨fs, h, _⟩ := struct_desc (P := Try.prog) (t := 24) (fs := [(0, 3), (1, 22)]) (by rw [ty24])
    exact ⟨fs, h⟩
  obtain ⟨fs, hu⟩ := hu
  simp only [Value.okWide, hu] at hv
  obtain ⟨cs, rfl, _⟩ := hv
  refine ⟨id, n, f, ?_⟩
  simp only [rD, DV.rep]
  exact ⟨cs.toList, by simp, by simpa [Value.cells] using h2⟩
theorem arg25 {base : Nat} {v : Value} {d : DataW H} {p : List MemPlace} (hv : Value.okWide Try.prog W .any base 25 v) (h : DataW.Trod enc Try.prog W 0 (fun _ => true) true 25 v d p) : ∃ (m : Nat) (a : Nat → Int), (mD m a).rep (old W) W v := by
  obtain ⟨fuel, hf⟩ := h
  obtain ⟨ds, h1, h2⟩ := read_ok 2 25 rd25 _ _ _ hf
  obtain ⟨m, a, rfl⟩ := shape25 h1
  obtain ⟨a0, len, cap, rfl⟩ := okWide_slice (slice_desc (P := Try.prog) (t := 25) (by rw [ty25])) hv
  refine ⟨m, a, ?_⟩
  simp only [Value.cells, repL] at h2
  obtain ⟨u, us, he, _, hr, _⟩ := h2
  simp at he
  rw [he.1]
  exact hr
/-- WHAT THE WALK GIVES: called with these arguments it returns true, and nothing that was has turned. -/
theorem called {k : FuncId} (hk : ∀ id n f m1 a m2 b m3 c, FnD Try.prog k [.d (rD id n f), .d (mD m1 a), .d (mD m2 b), .d (mD m3 c)] [.bool true]) {base : Nat} {v0 v1 v2 v3 : Value} {d0 d1 d2 d3 : DataW H} {p0 p1 p2 p3 : List MemPlace}
    (k0 : Value.okWide Try.prog W .any base 24 v0) (k1 : Value.okWide Try.prog W .any base 25 v1) (k2 : Value.okWide Try.prog W .any base 25 v2) (k3 : Value.okWide Try.prog W .any base 25 v3)
    (h0 : DataW.Trod enc Try.prog W 0 (fun _ => true) true 24 v0 d0 p0) (h1 : DataW.Trod enc Try.prog W 0 (fun _ => true) true 25 v1 d1 p1) (h2 : DataW.Trod enc Try.prog W 0 (fun _ => true) true 25 v2 d2 p2) (h3 : DataW.Trod enc Try.prog W 0 (fun _ => true) true 25 v3 d3 p3) :
    Calls Try.prog k #[v0, v1, v2, v3] W fun e W' => e = .returned (.bool true) ∧ Below W.heap.size W W' := by
  obtain ⟨id, n, f, r0⟩ := arg24 k0 h0
  obtain ⟨m1, a, r1⟩ := arg25 k1 h1
  obtain ⟨m2, b, r2⟩ := arg25 k2 h2
  obtain ⟨m3, c, r3⟩ := arg25 k3 h3
  refine (callD (hk id n f m1 a m2 b m3 c) (S := old W) (fun _ h => h) (vals := [v0, v1, v2, v3]) ?_).mono ?_
  · simp only [prepL, PV.rep]
    exact ⟨_, _, rfl, r0, _, _, rfl, r1, _, _, rfl, r2, _, _, rfl, r3, rfl⟩
  · rintro e W' ⟨v, S', α', rfl, hv, hb, _⟩
    simp only [List.map_cons, List.map_nil, resP, PV.rep, DV.rep] at hv
    subst hv
    exact ⟨rfl, hb⟩
end

theorem post_below {H : Type} {enc : TypeId × Value → H} {P : Program} {f : Func} {s : ChangeSpec} {apart fresh handsOn again : Bool} {W W' : World} {args : Array Value} {v : Value} {ds gs : List (DataW H)} {before pa pv : List MemPlace}
    (hW : DataW.Whole enc P f.params.toList s.vars apart W args.toList ds gs before)
    (hres : ∀ (b : Nat) (sp : Nat → Bool) (hd : Bool), DataW.TrodAll enc P W' b sp hd f.resultTypes.toList (v.resultList f.resultTypes.size) (s.fn H (ds ++ gs)).results [])
    (hargs : ∀ sp : Nat → Bool, (∀ p ∈ before, sp p.block = true) → DataW.TrodAll enc P W' 0 sp true f.params.toList args.toList (s.fn H (ds ++ gs)).args pa)
    (hvars : ∀ sp : Nat → Bool, (∀ p ∈ before, sp p.block = true) → DataW.TrodVars enc P W' sp s.vars (s.fn H (ds ++ gs)).vars pv)
    (hps : before = pa ++ pv) (hb : Below W.heap.size W W')
    (hok : ∀ (j : Nat) (t : TypeId) (r : Value), f.resultTypes[j]? = some t → (v.resultList f.resultTypes.size)[j]? = some r → Value.okWide P W' .any 0 t r) :
    s.post enc P f apart fresh handsOn again W args v W' := by
  have hold : ∀ p ∈ before, (fun b => decide (b < W.heap.size)) p.block = true := fun p hp => by simpa using hW.lt p hp
  have hlt : ∀ p ∈ before, p.block < W.heap.size := hW.lt
  refine ⟨ds, gs, before, [], pa, pv, hW, hres _ _ _, hargs _ hold, hvars _ hold, World.keptBut_mono (fun p hp => ⟨hp, ?_⟩) (hb.frame (· ∈ before)), fun _ => ?_⟩
  · rw [hps, List.mem_append] at hp
    exact Or.inr hp
  · obtain ⟨_, _, _, _, _, hz, hn⟩ := hW
    refine ⟨hok, _, _, ([] ++ pa) ++ pv, ⟨[] ++ pa, pv, trodAll_append (hargs _ (fun _ _ => rfl)) (hres _ _ _), hvars _ (fun _ _ => rfl), rfl, ?_, ?_⟩, ?_⟩
    · intro b off hp
      have hp' : MemPlace.cell b off ∈ before := by rw [hps]; simpa using hp
      rw [hb.frozen (p := ⟨b, off, none⟩) (hlt _ hp')]
      exact hz b off hp'
    · intro ha
      have := hn ha
      rw [hps] at this
      simpa using this
    · intro p hp _
      rw [hps]
      simpa using hp
namespace Median
theorem contract (H : Type) (enc : TypeId × Value → H) (W : World) (base : Nat) (args : Array Value) (ds gs : List (DataW H)) (before : List MemPlace)
    (hval : ∀ (j : Nat) t v, Try.f3.params[j]? = some t → args[j]? = some v → Value.okWide Try.prog W .any base t v)
    (hW : DataW.Whole enc Try.prog Try.f3.params.toList Rows.rubricMedianSpec.vars false W args.toList ds gs before) :
    Calls Try.prog 3 args W fun e W' => ∃ v, e = .returned v ∧ Rows.rubricMedianSpec.post enc Try.prog Try.f3 false true false false W args v W' := by
  have hW' := hW
  obtain ⟨p, q, hA0, hV, rfl, hfz, hnd⟩ := hW
  have hA : DataW.TrodAll enc Try.prog W 0 (fun _ => true) true [24, 25, 25, 25] args.toList ds p := hA0
  have hval : ∀ (j : Nat) t v, (#[24, 25, 25, 25] : Array TypeId)[j]? = some t → args[j]? = some v → Value.okWide Try.prog W .any base t v := hval
  obtain ⟨v0, v1, v2, v3, d0, d1, d2, d3, p0, p1, p2, p3, rfl, rfl, rfl, h0, h1, h2, h3⟩ := trodAll_four hA
  obtain ⟨rfl, rfl⟩ := trodVars_none hV
  have hlt : ∀ x ∈ p0 ++ p1 ++ p2 ++ p3 ++ [], x.block < W.heap.size := fun x hx => by simpa using hW'.lt x hx
  refine (called medianlaw_ok (hval 0 24 v0 rfl rfl) (hval 1 25 v1 rfl rfl) (hval 2 25 v2 rfl rfl) (hval 3 25 v3 rfl rfl) h0 h1 h2 h3).mono fun e W' ⟨he, hb⟩ => ?_
  subst he
  have r24 : Try.prog.readableRec 24 = true := by kernel_rfl
  have r25 : Try.prog.readableRec 25 = true := by kernel_rfl
  have l24 : 24 < Try.prog.types.size := of_decide_eq_true (by kernel_rfl)
  have l25 : 25 < Try.prog.types.size := of_decide_eq_true (by kernel_rfl)
  have ub : Try.prog.underlying 4 = some .bool := bool_desc (by rw [ty4])
  have stay : ∀ {t : TypeId} {v : Value} {d : DataW H} {p : List MemPlace}, Try.prog.readableRec t = true → t < Try.prog.types.size → DataW.Trod enc Try.prog W 0 (fun _ => true) true t v d p → (∀ x ∈ p, x ∈ p0 ++ p1 ++ p2 ++ p3 ++ []) → ∀ sp : Nat → Bool, (∀ x ∈ p0 ++ p1 ++ p2 ++ p3 ++ [], sp x.block = true) → DataW.Trod enc Try.prog W' 0 sp true t v d p :=
    fun r l h hs sp hsp => WideElems.Trod_stays laidOut r l h (fun x hx => hb.same (hlt x (hs x hx))) (fun x hx => hsp x (hs x hx))
  exact ⟨_, rfl, post_below (pa := p0 ++ (p1 ++ (p2 ++ p3))) (pv := []) hW' (fun _ _ _ => trodAll_cons_mk (shut_bool ub _) trodAll_mk0)
    (fun sp hsp => trodAll_mk4 (stay r24 l24 h0 (by simp +contextual) sp hsp) (stay r25 l25 h1 (by simp +contextual) sp hsp) (stay r25 l25 h2 (by simp +contextual) sp hsp) (stay r25 l25 h3 (by simp +contextual) sp hsp)) (fun _ _ => rfl) (by simp) hb
    (ok_one (by kernel_rfl) rfl (okWide_bool_mk ub _))⟩
set_option maxRecDepth 100000 in
theorem lifted (os : Os) (started : os.Started) (H : Type) (enc : TypeId × Value → H) :
    ReturnsInHanded {} Try.checked os 3 .any (Rows.rubricMedianSpec.pre6 enc Try.prog Try.f3 Rows.rubricMedianRow.domain false) (Rows.rubricMedianSpec.post enc Try.prog Try.f3 false true false false) := by
  refine returnsInHanded_of_change (C := Try.checked) own started (by kernel_rfl) Try.func3
    (ChangeSpec.witness6 (enc := enc) (C := Try.checked) false ⟨#[], #[.agg #[.int .i64 0, .slice none 0 0], .slice none 0 0, .slice none 0 0, .slice none 0 0], []⟩ 8 (by kernel_rfl) (by kernel_rfl) (by kernel_rfl) (by kernel_rfl)) ?_
  intro W base args ds gs before hval hW _ _
  exact contract H enc W base args ds gs before hval hW
theorem over : Rows.rubricMedianRow.holds Try.pinned (OpenSpec.ofChange Rows.rubricMedianSpec) :=
  OpenClaim.holds_of_wide 3 Try.f3 rfl rfl rfl rfl rfl rfl rfl ⟨rfl, rfl, rfl, rfl, rfl⟩ rfl rfl rfl rfl rfl (by kernel_rfl) Try.func3 (by kernel_rfl)
    (of_decide_eq_true (by kernel_rfl)) (by unfold Func.isWrapper; first | (rw [if_pos (by decide +kernel)]; kernel_rfl) | (rw [if_neg (by decide +kernel)]; exact ⟨rfl, rfl⟩))
    (fun os started H enc _ => lifted os started H enc)
theorem proved : Rows.RubricMedianSaid := over
end Median
namespace Compares
theorem contract (H : Type) (enc : TypeId × Value → H) (W : World) (base : Nat) (args : Array Value) (ds gs : List (DataW H)) (before : List MemPlace)
    (hval : ∀ (j : Nat) t v, Try.f4.params[j]? = some t → args[j]? = some v → Value.okWide Try.prog W .any base t v)
    (hW : DataW.Whole enc Try.prog Try.f4.params.toList Rows.rubricComparesSpec.vars false W args.toList ds gs before) :
    Calls Try.prog 4 args W fun e W' => ∃ v, e = .returned v ∧ Rows.rubricComparesSpec.post enc Try.prog Try.f4 false true false false W args v W' := by
  have hW' := hW
  obtain ⟨p, q, hA0, hV, rfl, hfz, hnd⟩ := hW
  have hA : DataW.TrodAll enc Try.prog W 0 (fun _ => true) true [24, 25, 25, 25] args.toList ds p := hA0
  have hval : ∀ (j : Nat) t v, (#[24, 25, 25, 25] : Array TypeId)[j]? = some t → args[j]? = some v → Value.okWide Try.prog W .any base t v := hval
  obtain ⟨v0, v1, v2, v3, d0, d1, d2, d3, p0, p1, p2, p3, rfl, rfl, rfl, h0, h1, h2, h3⟩ := trodAll_four hA
  obtain ⟨rfl, rfl⟩ := trodVars_none hV
  have hlt : ∀ x ∈ p0 ++ p1 ++ p2 ++ p3 ++ [], x.block < W.heap.size := fun x hx => by simpa using hW'.lt x hx
  refine (called compares_ok (hval 0 24 v0 rfl rfl) (hval 1 25 v1 rfl rfl) (hval 2 25 v2 rfl rfl) (hval 3 25 v3 rfl rfl) h0 h1 h2 h3).mono fun e W' ⟨he, hb⟩ => ?_
  subst he
  have r24 : Try.prog.readableRec 24 = true := by kernel_rfl
  have r25 : Try.prog.readableRec 25 = true := by kernel_rfl
  have l24 : 24 < Try.prog.types.size := of_decide_eq_true (by kernel_rfl)
  have l25 : 25 < Try.prog.types.size := of_decide_eq_true (by kernel_rfl)
  have ub : Try.prog.underlying 4 = some .bool := bool_desc (by rw [ty4])
  have stay : ∀ {t : TypeId} {v : Value} {d : DataW H} {p : List MemPlace}, Try.prog.readableRec t = true → t < Try.prog.types.size → DataW.Trod enc Try.prog W 0 (fun _ => true) true t v d p → (∀ x ∈ p, x ∈ p0 ++ p1 ++ p2 ++ p3 ++ []) → ∀ sp : Nat → Bool, (∀ x ∈ p0 ++ p1 ++ p2 ++ p3 ++ [], sp x.block = true) → DataW.Trod enc Try.prog W' 0 sp true t v d p :=
    fun r l h hs sp hsp => WideElems.Trod_stays laidOut r l h (fun x hx => hb.same (hlt x (hs x hx))) (fun x hx => hsp x (hs x hx))
  exact ⟨_, rfl, post_below (pa := p0 ++ (p1 ++ (p2 ++ p3))) (pv := []) hW' (fun _ _ _ => trodAll_cons_mk (shut_bool ub _) trodAll_mk0)
    (fun sp hsp => trodAll_mk4 (stay r24 l24 h0 (by simp +contextual) sp hsp) (stay r25 l25 h1 (by simp +contextual) sp hsp) (stay r25 l25 h2 (by simp +contextual) sp hsp) (stay r25 l25 h3 (by simp +contextual) sp hsp)) (fun _ _ => rfl) (by simp) hb
    (ok_one (by kernel_rfl) rfl (okWide_bool_mk ub _))⟩
set_option maxRecDepth 100000 in
theorem lifted (os : Os) (started : os.Started) (H : Type) (enc : TypeId × Value → H) :
    ReturnsInHanded {} Try.checked os 4 .any (Rows.rubricComparesSpec.pre6 enc Try.prog Try.f4 Rows.rubricComparesRow.domain false) (Rows.rubricComparesSpec.post enc Try.prog Try.f4 false true false false) := by
  refine returnsInHanded_of_change (C := Try.checked) own started (by kernel_rfl) Try.func4
    (ChangeSpec.witness6 (enc := enc) (C := Try.checked) false ⟨#[], #[.agg #[.int .i64 0, .slice none 0 0], .slice none 0 0, .slice none 0 0, .slice none 0 0], []⟩ 8 (by kernel_rfl) (by kernel_rfl) (by kernel_rfl) (by kernel_rfl)) ?_
  intro W base args ds gs before hval hW _ _
  exact contract H enc W base args ds gs before hval hW
theorem over : Rows.rubricComparesRow.holds Try.pinned (OpenSpec.ofChange Rows.rubricComparesSpec) :=
  OpenClaim.holds_of_wide 4 Try.f4 rfl rfl rfl rfl rfl rfl rfl ⟨rfl, rfl, rfl, rfl, rfl⟩ rfl rfl rfl rfl rfl (by kernel_rfl) Try.func4 (by kernel_rfl)
    (of_decide_eq_true (by kernel_rfl)) (by unfold Func.isWrapper; first | (rw [if_pos (by decide +kernel)]; kernel_rfl) | (rw [if_neg (by decide +kernel)]; exact ⟨rfl, rfl⟩))
    (fun os started H enc _ => lifted os started H enc)
theorem proved : Rows.RubricComparesSaid := over
end Compares
namespace Monotone
theorem contract (H : Type) (enc : TypeId × Value → H) (W : World) (base : Nat) (args : Array Value) (ds gs : List (DataW H)) (before : List MemPlace)
    (hval : ∀ (j : Nat) t v, Try.f5.params[j]? = some t → args[j]? = some v → Value.okWide Try.prog W .any base t v)
    (hW : DataW.Whole enc Try.prog Try.f5.params.toList Rows.rubricMonotoneSpec.vars false W args.toList ds gs before) :
    Calls Try.prog 5 args W fun e W' => ∃ v, e = .returned v ∧ Rows.rubricMonotoneSpec.post enc Try.prog Try.f5 false true false false W args v W' := by
  have hW' := hW
  obtain ⟨p, q, hA0, hV, rfl, hfz, hnd⟩ := hW
  have hA : DataW.TrodAll enc Try.prog W 0 (fun _ => true) true [24, 25, 25, 25] args.toList ds p := hA0
  have hval : ∀ (j : Nat) t v, (#[24, 25, 25, 25] : Array TypeId)[j]? = some t → args[j]? = some v → Value.okWide Try.prog W .any base t v := hval
  obtain ⟨v0, v1, v2, v3, d0, d1, d2, d3, p0, p1, p2, p3, rfl, rfl, rfl, h0, h1, h2, h3⟩ := trodAll_four hA
  obtain ⟨rfl, rfl⟩ := trodVars_none hV
  have hlt : ∀ x ∈ p0 ++ p1 ++ p2 ++ p3 ++ [], x.block < W.heap.size := fun x hx => by simpa using hW'.lt x hx
  refine (called monotone_ok (hval 0 24 v0 rfl rfl) (hval 1 25 v1 rfl rfl) (hval 2 25 v2 rfl rfl) (hval 3 25 v3 rfl rfl) h0 h1 h2 h3).mono fun e W' ⟨he, hb⟩ => ?_
  subst he
  have r24 : Try.prog.readableRec 24 = true := by kernel_rfl
  have r25 : Try.prog.readableRec 25 = true := by kernel_rfl
  have l24 : 24 < Try.prog.types.size := of_decide_eq_true (by kernel_rfl)
  have l25 : 25 < Try.prog.types.size := of_decide_eq_true (by kernel_rfl)
  have ub : Try.prog.underlying 4 = some .bool := bool_desc (by rw [ty4])
  have stay : ∀ {t : TypeId} {v : Value} {d : DataW H} {p : List MemPlace}, Try.prog.readableRec t = true → t < Try.prog.types.size → DataW.Trod enc Try.prog W 0 (fun _ => true) true t v d p → (∀ x ∈ p, x ∈ p0 ++ p1 ++ p2 ++ p3 ++ []) → ∀ sp : Nat → Bool, (∀ x ∈ p0 ++ p1 ++ p2 ++ p3 ++ [], sp x.block = true) → DataW.Trod enc Try.prog W' 0 sp true t v d p :=
    fun r l h hs sp hsp => WideElems.Trod_stays laidOut r l h (fun x hx => hb.same (hlt x (hs x hx))) (fun x hx => hsp x (hs x hx))
  exact ⟨_, rfl, post_below (pa := p0 ++ (p1 ++ (p2 ++ p3))) (pv := []) hW' (fun _ _ _ => trodAll_cons_mk (shut_bool ub _) trodAll_mk0)
    (fun sp hsp => trodAll_mk4 (stay r24 l24 h0 (by simp +contextual) sp hsp) (stay r25 l25 h1 (by simp +contextual) sp hsp) (stay r25 l25 h2 (by simp +contextual) sp hsp) (stay r25 l25 h3 (by simp +contextual) sp hsp)) (fun _ _ => rfl) (by simp) hb
    (ok_one (by kernel_rfl) rfl (okWide_bool_mk ub _))⟩
set_option maxRecDepth 100000 in
theorem lifted (os : Os) (started : os.Started) (H : Type) (enc : TypeId × Value → H) :
    ReturnsInHanded {} Try.checked os 5 .any (Rows.rubricMonotoneSpec.pre6 enc Try.prog Try.f5 Rows.rubricMonotoneRow.domain false) (Rows.rubricMonotoneSpec.post enc Try.prog Try.f5 false true false false) := by
  refine returnsInHanded_of_change (C := Try.checked) own started (by kernel_rfl) Try.func5
    (ChangeSpec.witness6 (enc := enc) (C := Try.checked) false ⟨#[], #[.agg #[.int .i64 0, .slice none 0 0], .slice none 0 0, .slice none 0 0, .slice none 0 0], []⟩ 8 (by kernel_rfl) (by kernel_rfl) (by kernel_rfl) (by kernel_rfl)) ?_
  intro W base args ds gs before hval hW _ _
  exact contract H enc W base args ds gs before hval hW
theorem over : Rows.rubricMonotoneRow.holds Try.pinned (OpenSpec.ofChange Rows.rubricMonotoneSpec) :=
  OpenClaim.holds_of_wide 5 Try.f5 rfl rfl rfl rfl rfl rfl rfl ⟨rfl, rfl, rfl, rfl, rfl⟩ rfl rfl rfl rfl rfl (by kernel_rfl) Try.func5 (by kernel_rfl)
    (of_decide_eq_true (by kernel_rfl)) (by unfold Func.isWrapper; first | (rw [if_pos (by decide +kernel)]; kernel_rfl) | (rw [if_neg (by decide +kernel)]; exact ⟨rfl, rfl⟩))
    (fun os started H enc _ => lifted os started H enc)
theorem proved : Rows.RubricMonotoneSaid := over
end Monotone
end Go.Proofs.Ytpfahanbkhgfhaa.P41

/- Proved here: the given statements of this seat (ItemDigestsSaid): called with any readable arguments the law returns true and leaves its arguments as they were. Conditions: none beyond those of the given statements. -/
import Derived.Test.YtnhpgmmhfgdmjaaW14xb
import Derived.Test.YtnhpgmmhfgdmjaaEvW
import Derived.Test.YtnhpgmmhfgdmjaaChecked
import Derived.Test.YtnhpgmmhfgdmjaaRows
import Derived.WalkKit
import Derived.ProofKit
import Derived.OpenShut
import Derived.Carry
import Derived.SizedLaws
set_option linter.unusedVariables false
set_option linter.unusedSimpArgs false
open Go Go.Proofs Go.Ev
open Go.Proofs.Ytnhpgmmhfgdmjaa Go.ChangeShapes Go.WideShapes Go.ChangeAt Go.RowKit
namespace Go.Proofs.Ytnhpgmmhfgdmjaa.P14
set_option maxRecDepth 100000
theorem shape25 {ds : List DV} (h : HasC Try.prog 3 25 ds) : ∃ t : It, DV.agg ds = iD t := by
  simp only [HasC, ty25, ty22, ty23, ty9, ty3, HasT, HasF, TD.isAgg] at h
  obtain ⟨_, _, rfl, ⟨a0, rfl, _⟩, _, _, rfl, ⟨a1, rfl, _⟩, _, _, rfl, ⟨a2, rfl, _⟩, _, _, rfl, ⟨a3, rfl, _⟩, _, _, rfl, ⟨n4, f4, rfl, _, h4⟩, _, _, rfl, ⟨n5, f5, rfl, _, h5⟩, _, _, rfl, ⟨a6, rfl, _⟩, _, _, rfl, ⟨a7, rfl, _⟩, _, _, rfl, ⟨n8, f8, rfl, _, h8⟩, _, _, rfl, ⟨a9, rfl, _⟩, _, _, rfl, ⟨a10, rfl, _⟩, _, _, rfl, ⟨a11, rfl, _⟩, _, _, rfl, ⟨a12, rfl, _⟩, _, _, rfl, ⟨a13, rfl, _⟩, _, _, rfl, ⟨a14, rfl, _⟩, _, _, rfl, ⟨n15, f15, rfl, _, h15⟩, _, _, rfl, ⟨a16, rfl, _⟩, rfl⟩ := h
  have k4 : ∀ i, ∃ s, f4 i = .str s := fun i => by obtain ⟨es, ⟨s, rfl, _⟩, he⟩ := h4 i; exact ⟨s, he⟩
  have k8 : ∀ i, ∃ s, f8 i = .str s := fun i => by obtain ⟨es, ⟨s, rfl, _⟩, he⟩ := h8 i; exact ⟨s, he⟩
  have k5 : ∀ i, ∃ s, f5 i = .int .i64 s := fun i => by obtain ⟨es, ⟨s, rfl, _⟩, he⟩ := h5 i; exact ⟨s, he⟩
  have k15 : ∀ i, ∃ s, f15 i = .int .i64 s := fun i => by obtain ⟨es, ⟨s, rfl, _⟩, he⟩ := h15 i; exact ⟨s, he⟩
  obtain ⟨g4, rfl⟩ : ∃ g : Nat → ByteArray, f4 = fun i => .str (g i) := ⟨fun i => Classical.choose (k4 i), funext fun i => Classical.choose_spec (k4 i)⟩
  obtain ⟨g8, rfl⟩ : ∃ g : Nat → ByteArray, f8 = fun i => .str (g i) := ⟨fun i => Classical.choose (k8 i), funext fun i => Classical.choose_spec (k8 i)⟩
  obtain ⟨g5, rfl⟩ : ∃ g : Nat → Int, f5 = fun i => .int .i64 (g i) := ⟨fun i => Classical.choose (k5 i), funext fun i => Classical.choose_spec (k5 i)⟩
  obtain ⟨g15, rfl⟩ : ∃ g : Nat → Int, f15 = fun i => .int .i64 (g i) := ⟨fun i => Classical.choose (k15 i), funext fun i => Classical.choose_spec (k15 i)⟩
  exact ⟨⟨a0, a1, a2, a3, n4, g4, n5, g5, a6, a7, n8, g8, a9, a10, a11, a12, a13, a14, n15, g15, a16⟩, rfl⟩
theorem rd25 : readable Try.prog 3 25 = true := by kernel_rfl
theorem laidOut : laidOutB Try.prog = true := by kernel_rfl
theorem own : ownKnob Try.prog.godebug = none := by kernel_rfl
section
variable {H : Type} {enc : TypeId × Value → H} {W : World}
theorem arg25 {base : Nat} {v : Value} {d : DataW H} {p : List MemPlace} (hv : Value.okWide Try.prog W .any base 25 v) (h : DataW.Trod enc Try.prog W 0 (fun _ => true) true 25 v d p) (hw : ∀ n ∈ d.weights Try.prog 25, n ≤ reachBytes) :
    ∃ t : It, (iD t).rep (old W) W v ∧ t.nCh * 8 ≤ 140737488351232 := by
  obtain ⟨fuel, hf⟩ := h
  obtain ⟨ds, h1, h2⟩ := read_ok 3 25 rd25 _ _ _ hf
  obtain ⟨t, ht⟩ := shape25 h1
  obtain ⟨fs, hfs, hu⟩ : ∃ fs, (fs.toList.map fun f => (f.offset, f.type)) = [(0, 3), (1, 3), (2, 3), (3, 9), (4, 22), (5, 23), (6, 3), (7, 3), (8, 22), (9, 3), (10, 9), (11, 3), (12, 3), (13, 3), (14, 3), (15, 23), (16, 3)] ∧ Try.prog.underlying 25 = some (.struct fs) := by
    obtain ⟨fs, h, h'⟩ := struct_desc (P := Try.prog) (t := 25) (fs := [(0, 3), (1, 3), (2, 3), (3, 9), (4, 22), (5, 23), (6, 3), (7, 3), (8, 22), (9, 3), (10, 9), (11, 3), (12, 3), (13, 3), (14, 3), (15, 23), (16, 3)]) (by rw [ty25])
    exact ⟨fs, h'.symm, h⟩
  have hr : (iD t).rep (old W) W v := by
    simp only [Value.okWide, hu] at hv
    obtain ⟨cs, rfl, _⟩ := hv
    rw [← ht]
    simp only [DV.rep]
    exact ⟨cs.toList, by simp, by simpa [Value.cells] using h2⟩
  refine ⟨t, hr, ?_⟩
  obtain ⟨xs, n, _, hx, hl, hxl, hfield⟩ := DataW.trod_struct hu hf
  have hlen : fs.size = 17 := by
    have := congrArg List.length hfs
    simpa using this
  obtain ⟨f5, hf5⟩ : ∃ f, fs[5]? = some f := ⟨fs[5]'(by omega), Array.getElem?_eq_getElem (by omega)⟩
  have hft : (f5.offset, f5.type) = (5, 23) := by
    have := congrArg (fun l => l[5]?) hfs
    simp only [List.getElem?_map, Array.getElem?_toList, hf5, Option.map_some] at this
    simpa using this
  simp only [Prod.mk.injEq] at hft
  have h5 := hfield 5 f5 hf5
  rw [hft.1, hft.2] at h5
  have c1 : Try.prog.cellsOf 23 = 1 := by rw [cellsOf_ty (by rw [ty23]; simp), ty23]
  rw [c1] at h5
  obtain ⟨x5, hx5⟩ : ∃ x, xs[5]? = some x := ⟨xs[5]'(by omega), List.getElem?_eq_getElem (by omega)⟩
  rw [hx5] at h5
  -- the sixth cell, as the value says
  rw [← ht] at hr
  simp only [DV.rep] at hr
  obtain ⟨vs, rfl, hvs⟩ := hr
  rw [show ds = (iD t).cells by rw [← ht]; rfl] at hvs
  simp only [iD, DV.cells, repL, DV.rep] at hvs
  obtain ⟨_, _, rfl, _, _, _, _, rfl, _, _, _, _, rfl, _, _, _, _, rfl, _, _, _, _, rfl, _, _, u5, us5, rfl, _, ⟨a, cap, rfl, hcap, _, _⟩, _⟩ := hvs
  have h5' : DataW.trod enc Try.prog W 0 (fun _ => true) true n 23 [.slice a t.nCh cap] = some x5 := h5
  have u23 : Try.prog.underlying 23 = some (.slice 3) := slice_desc (by rw [ty23])
  rcases DataW.trod_slice u23 h5' with ⟨he, _⟩ | ⟨a', len, cap', elems, rest, _, _, he, rfl, _, _, _, hel, _⟩
  · simp only [List.cons.injEq, Value.slice.injEq, and_true] at he
    omega
  · simp only [List.cons.injEq, Value.slice.injEq, and_true] at he
    have hd : d = .agg (xs.map (·.1)) := by simpa using congrArg Prod.fst hx
    subst hd
    have hb3 : Try.prog.bytesOf 3 = 8 := by kernel_rfl
    have hmem := hw ((elems.length + rest.length) * 8) (by
      simp only [DataW.weights, hu]
      refine DataW.weights_mem_each (j := 5) (t := 23) (d := .slice (elems.map (·.1)) (rest.map (·.1))) ?_ ?_ _ ?_
      · simp only [List.getElem?_map, Array.getElem?_toList, hf5, Option.map_some, hft.2]
      · simp only [List.getElem?_map, hx5, Option.map_some]
      · simp only [DataW.weights, u23, hb3, List.length_map]
        simp)
    have : reachBytes = 140737488351232 := rfl
    omega
/-- WHAT THE WALK GIVES: called with this argument it returns true, and nothing that was has turned. -/
theorem called1 {k : FuncId} (hk : ∀ t : It, t.nCh * 8 ≤ 140737488351232 → FnD Try.prog k [.d (iD t)] [.bool true]) {base : Nat} {v0 : Value} {d0 : DataW H} {p0 : List MemPlace}
    (k0 : Value.okWide Try.prog W .any base 25 v0) (h0 : DataW.Trod enc Try.prog W 0 (fun _ => true) true 25 v0 d0 p0) (w0 : ∀ n ∈ d0.weights Try.prog 25, n ≤ reachBytes) :
    Calls Try.prog k #[v0] W fun e W' => e = .returned (.bool true) ∧ Below W.heap.size W W' := by
  obtain ⟨s, r0, b0⟩ := arg25 k0 h0 w0
  refine (callD (hk s b0) (S := old W) (fun _ h => h) (vals := [v0]) ?_).mono ?_
  · simp only [prepL, PV.rep]
    exact ⟨_, _, rfl, r0, rfl⟩
  · rintro e W' ⟨v, S', α', rfl, hv, hb, _⟩
    simp only [List.map_cons, List.map_nil, resP, PV.rep, DV.rep] at hv
    subst hv
    exact ⟨rfl, hb⟩
end
theorem post_below {H : Type} {enc : TypeId × Value → H} {P : Program} {f : Func} {s : ChangeSpec} {apart fresh handsOn again : Bool} {W W' : World} {args : Array Value} {v : Value} {ds gs : List (DataW H)} {before pa pv : List MemPlace}
    (hW : DataW.Whole enc P f.params.toList s.vars apart W args.toList ds gs before)
    (hres : ∀ (b : Nat) (sp : Nat → Bool) (hd : Bool), DataW.TrodAll enc P W' b sp hd f.resultTypes.toList (v.resultList f.resultTypes.size) (s.fn H (ds ++ gs)).results [])
    (hargs : ∀ sp : Nat → Bool, (∀ p ∈ before, sp p.block = true) → DataW.TrodAll enc P W' 0 sp true f.params.toList args.toList (s.fn H (ds ++ gs)).args pa)
    (hvars : ∀ sp : Nat → Bool, (∀ p ∈ before, sp p.block = true) → DataW.TrodVars enc P W' sp s.vars (s.fn H (ds ++ gs)).vars pv)
    (hps : before = pa ++ pv) (hb : Below W.heap.size W W')
    (hok : ∀ (j : Nat) (t : TypeId) (r : Value), f.resultTypes[j]? = some t → (v.resultList f.resultTypes.size)[j]? = some r → Value.okWide P W' .any 0 t r) :
    s.post enc P f apart fresh handsOn again W args v W' := by
  have hold : ∀ p ∈ before, (fun b => decide (b < W.heap.size)) p.block = true := fun p hp => by simpa using hW.lt p hp
  have hlt : ∀ p ∈ before, p.block < W.heap.size := hW.lt
  refine ⟨ds, gs, before, [], pa, pv, hW, hres _ _ _, hargs _ hold, hvars _ hold, World.keptBut_mono (fun p hp => ⟨hp, ?_⟩) (hb.frame (· ∈ before)), fun _ => ?_⟩
  · rw [hps, List.mem_append] at hp
    exact Or.inr hp
  · obtain ⟨_, _, _, _, _, hz, hn⟩ := hW
    refine ⟨hok, _, _, ([] ++ pa) ++ pv, ⟨[] ++ pa, pv, trodAll_append (hargs _ (fun _ _ => rfl)) (hres _ _ _), hvars _ (fun _ _ => rfl), rfl, ?_, ?_⟩, ?_⟩
    · intro b off hp
      have hp' : MemPlace.cell b off ∈ before := by rw [hps]; simpa using hp
      rw [hb.frozen (p := ⟨b, off, none⟩) (hlt _ hp')]
      exact hz b off hp'
    · intro ha
      have := hn ha
      rw [hps] at this
      simpa using this
    · intro p hp _
      rw [hps]
      simpa using hp

def itZero : Value := .agg #[.int .i64 0, .int .i64 0, .int .i64 0, .string ⟨#[]⟩, .slice none 0 0, .slice none 0 0, .int .i64 0, .int .i64 0, .slice none 0 0, .int .i64 0, .string ⟨#[]⟩, .int .i64 0, .int .i64 0, .int .i64 0, .int .i64 0, .slice none 0 0, .int .i64 0]
namespace Digests
theorem contract (H : Type) (enc : TypeId × Value → H) (W : World) (base : Nat) (args : Array Value) (ds gs : List (DataW H)) (before : List MemPlace)
    (hval : ∀ (j : Nat) t v, Try.f6.params[j]? = some t → args[j]? = some v → Value.okWide Try.prog W .any base t v)
    (hW : DataW.Whole enc Try.prog Try.f6.params.toList Rows.itemDigestsSpec.vars false W args.toList ds gs before)
    (hz : (DataW.weightsEach Try.prog (Try.f6.params.toList ++ Rows.itemDigestsSpec.plain.varTypes Try.prog) (ds ++ gs)).all (· ≤ reachBytes) = true) :
    Calls Try.prog 6 args W fun e W' => ∃ v, e = .returned v ∧ Rows.itemDigestsSpec.post enc Try.prog Try.f6 false true false false W args v W' := by
  have hW' := hW
  obtain ⟨p0, q, hA0, hV, rfl, hfz, hnd⟩ := hW
  have hA : DataW.TrodAll enc Try.prog W 0 (fun _ => true) true [25] args.toList ds p0 := hA0
  have hval : ∀ (j : Nat) t v, (#[25] : Array TypeId)[j]? = some t → args[j]? = some v → Value.okWide Try.prog W .any base t v := hval
  obtain ⟨v0, d0, rfl, rfl, h0⟩ := trodAll_one hA
  obtain ⟨rfl, rfl⟩ := trodVars_none hV
  have hlt : ∀ x ∈ p0 ++ [], x.block < W.heap.size := fun x hx => by simpa using hW'.lt x hx
  have hz' : ∀ (j : Nat) (d : DataW H), ([d0] ++ [])[j]? = some d → (Try.f6.params.toList ++ Rows.itemDigestsSpec.plain.varTypes Try.prog)[j]? = some 25 → ∀ n ∈ d.weights Try.prog 25, n ≤ reachBytes := fun j d hd ht n hn => by
    simpa using List.all_eq_true.1 hz n (DataW.weights_mem_each ht hd n hn)
  refine (called1 digests_ok (hval 0 25 v0 rfl rfl) h0 (hz' 0 d0 rfl rfl)).mono fun e W' ⟨he, hb⟩ => ?_
  subst he
  have r25 : Try.prog.readableRec 25 = true := by kernel_rfl
  have l25 : 25 < Try.prog.types.size := of_decide_eq_true (by kernel_rfl)
  have ub : Try.prog.underlying 4 = some .bool := bool_desc (by rw [ty4])
  have stay : ∀ {t : TypeId} {v : Value} {d : DataW H} {p : List MemPlace}, Try.prog.readableRec t = true → t < Try.prog.types.size → DataW.Trod enc Try.prog W 0 (fun _ => true) true t v d p → (∀ x ∈ p, x ∈ p0 ++ []) → ∀ sp : Nat → Bool, (∀ x ∈ p0 ++ [], sp x.block = true) → DataW.Trod enc Try.prog W' 0 sp true t v d p :=
    fun r l h hs sp hsp => WideElems.Trod_stays laidOut r l h (fun x hx => hb.same (hlt x (hs x hx))) (fun x hx => hsp x (hs x hx))
  exact ⟨_, rfl, post_below (pa := p0) (pv := []) hW' (fun _ _ _ => trodAll_cons_mk (shut_bool ub _) trodAll_mk0)
    (fun sp hsp => trodAll_mk1 (stay r25 l25 h0 (by simp +contextual) sp hsp)) (fun _ _ => rfl) (by simp) hb
    (ok_one (by kernel_rfl) rfl (okWide_bool_mk ub _))⟩
set_option maxRecDepth 100000 in
theorem lifted (os : Os) (started : os.Started) (H : Type) (enc : TypeId × Value → H) :
    ReturnsInHanded {} Try.checked os 6 .any (Rows.itemDigestsSpec.pre6 enc Try.prog Try.f6 Rows.itemDigestsRow.domain false) (Rows.itemDigestsSpec.post enc Try.prog Try.f6 false true false false) := by
  refine returnsInHanded_of_change_sized (C := Try.checked) own started (by kernel_rfl) Try.func6
    (ChangeSpec.witness6 (enc := enc) (C := Try.checked) false ⟨#[], #[itZero], []⟩ 8 (by kernel_rfl) (by kernel_rfl) (by kernel_rfl) (by kernel_rfl)) ?_
  intro W base args ds gs before hval hW _ hz _
  exact contract H enc W base args ds gs before hval hW hz
theorem over : Rows.itemDigestsRow.holds Try.pinned (OpenSpec.ofChange Rows.itemDigestsSpec) :=
  OpenClaim.holds_of_wide 6 Try.f6 rfl rfl rfl rfl rfl rfl rfl ⟨rfl, rfl, rfl, rfl, rfl⟩ rfl rfl rfl rfl rfl (by kernel_rfl) Try.func6 (by kernel_rfl)
    (of_decide_eq_true (by kernel_rfl)) (by unfold Func.isWrapper; first | (rw [if_pos (by decide +kernel)]; kernel_rfl) | (rw [if_neg (by decide +kernel)]; exact ⟨rfl, rfl⟩))
    (fun os started H enc _ => lifted os started H enc)
theorem proved : Rows.ItemDigestsSaid := over
end Digests
end Go.Proofs.Ytnhpgmmhfgdmjaa.P14

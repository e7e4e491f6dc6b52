/- Proved here: the given statements of this seat (ItemTreesSaid): called with any readable arguments the law returns true and leaves its arguments as they were. Conditions: none beyond those of the given statements. -/
import Derived.Test.YtnhpgmmhfgdmjaaGreatZ6b
import Derived.Test.YtnhpgmmhfgdmjaaGreatEvW
import Derived.Test.YtnhpgmmhfgdmjaaGreatChecked
import Derived.Test.YtnhpgmmhfgdmjaaGreatRows
import Derived.WalkKit
import Derived.ProofKit
import Derived.OpenShut
import Derived.Carry
import Derived.SizedLaws
set_option linter.unusedVariables false
set_option linter.unusedSimpArgs false
open Go Go.Proofs Go.Ev
open Go.Proofs.YtnhpgmmhfgdmjaaGreat Go.ChangeShapes Go.WideShapes Go.ChangeAt Go.RowKit
namespace Go.Proofs.YtnhpgmmhfgdmjaaGreat.P14
set_option maxRecDepth 100000
theorem shape25 {ds : List DV} (h : HasC Tryz.prog 3 25 ds) : ∃ t : It, DV.agg ds = iD t := by
  simp only [HasC, ty25, ty22, ty23, ty9, ty3, HasT, HasF, TD.isAgg] at h
  obtain ⟨_, _, rfl, ⟨a0, rfl, _⟩, _, _, rfl, ⟨a1, rfl, _⟩, _, _, rfl, ⟨a2, rfl, _⟩, _, _, rfl, ⟨a3, rfl, _⟩, _, _, rfl, ⟨n4, f4, rfl, _, h4⟩, _, _, rfl, ⟨n5, f5, rfl, _, h5⟩, _, _, rfl, ⟨a6, rfl, _⟩, _, _, rfl, ⟨a7, rfl, _⟩, _, _, rfl, ⟨n8, f8, rfl, _, h8⟩, _, _, rfl, ⟨a9, rfl, _⟩, _, _, rfl, ⟨a10, rfl, _⟩, _, _, rfl, ⟨a11, rfl, _⟩, _, _, rfl, ⟨a12, rfl, _⟩, _, _, rfl, ⟨a13, rfl, _⟩, _, _, rfl, ⟨a14, rfl, _⟩, _, _, rfl, ⟨n15, f15, rfl, _, h15⟩, _, _, rfl, ⟨a16, rfl, _⟩, rfl⟩ := h
  have k4 : ∀ i, ∃ s, f4 i = .str s := fun i => by obtain ⟨es, ⟨s, rfl, _⟩, he⟩ := h4 i; exact ⟨s, he⟩
  have k8 : ∀ i, ∃ s, f8 i = .str s := fun i => by obtain ⟨es, ⟨s, rfl, _⟩, he⟩ := h8 i; exact ⟨s, he⟩
  have k5 : ∀ i, ∃ s, f5 i = .int .i64 s := fun i => by obtain ⟨es, ⟨s, rfl, _⟩, he⟩ := h5 i; exact ⟨s, he⟩
  have k15 : ∀ i, ∃ s, f15 i = .int .i64 s := fun i => by obtain ⟨es, ⟨s, rfl, _⟩, he⟩ := h15 i; exact ⟨s, he⟩
  obtain ⟨g4, rfl⟩ : ∃ g : Nat → ByteArray, f4 = fun i => .str (g i) := ⟨fun i => Classical.choose (k4 i), funext fun i => Classical.choose_spec (k4 i)⟩
  obtain ⟨g8, rfl⟩ : ∃ g : Nat → ByteArray, f8 = fun i => .str (g i) := ⟨fun i => Classical.choose (k8 i), funext fun i => Classical.choose_spec (k8 i)⟩
  obtain ⟨g5, rfl⟩ : ∃ g : Nat → Int, f5 = fun i => .int .i64 (g i) := ⟨fun i => Classical.choose (k5 i), funext fun i => Classical.choose_spec (k5 i)⟩
  obtain ⟨g15, rfl⟩ : ∃ g : Nat → Int, f15 = fun i => .int .i64 (g i) := ⟨fun i => Classical.choose (k15 i), funext fun i => Classical.choose_spec (k15 i)⟩
  exact ⟨⟨a0, a1, a2, a3, n4, g4, n5, g5, a6, a7, n8, g8, a9, a10, a11, a12, a13, a14, n15, g15, a16⟩, rfl⟩
theorem rd25 : readable Tryz.prog 3 25 = true := by kernel_rfl
theorem laidOut : laidOutB Tryz.prog = true := by kernel_rfl
theorem own : ownKnob Tryz.prog.godebug = none := by kernel_rfl
section
variable {H : Type} {enc : TypeId × Value → H} {W : World}
theorem arg25 {base : Nat} {v : Value} {d : DataW H} {p : List MemPlace} (hv : Value.okWide Tryz.prog W .any base 25 v) (h : DataW.Trod enc Tryz.prog W 0 (fun _ => true) true 25 v d p) (hw : ∀ n ∈ d.weights Tryz.prog 25, n ≤ reachBytes) :
    ∃ t : It, (iD t).rep (old W) W v ∧ t.nCh * 8 ≤ 140737488351232 := by
  obtain ⟨fuel, hf⟩ := h
  obtain ⟨ds, h1, h2⟩ := read_ok 3 25 rd25 _ _ _ hf
  obtain ⟨t, ht⟩ := shape25 h1
  obtain ⟨fs, hfs, hu⟩ : ∃ fs, (fs.toList.map fun f => (f.offset, f.type)) = [(0, 3), (1, 3), (2, 3), (3, 9), (4, 22), (5, 23), (6, 3), (7, 3), (8, 22), (9, 3), (10, 9), (11, 3), (12, 3), (13, 3), (14, 3), (15, 23), (16, 3)] ∧ Tryz.prog.underlying 25 = some (.struct fs) := by
    obtain ⟨fs, h, h'⟩ := struct_desc (P := Tryz.prog) (t := 25) (fs := [(0, 3), (1, 3), (2, 3), (3, 9), (4, 22), (5, 23), (6, 3), (7, 3), (8, 22), (9, 3), (10, 9), (11, 3), (12, 3), (13, 3), (14, 3), (15, 23), (16, 3)]) (by rw [ty25])
    exact ⟨fs, h'.symm, h⟩
  have hr : (iD t).rep (old W) W v := by
    simp only [Value.okWide, hu] at hv
    obtain ⟨cs, rfl, _⟩ := hv
    rw [← ht]
    simp only [DV.rep]
    exact ⟨cs.toList, by simp, by simpa [Value.cells] using h2⟩
  refine ⟨t, hr, ?_⟩
  obtain ⟨xs, n, _, hx, hl, hxl, hfield⟩ := DataW.trod_struct hu hf
  have hlen : fs.size = 17 := by
    have := congrArg List.length hfs
    simpa using this
  obtain ⟨f5, hf5⟩ : ∃ f, fs[5]? = some f := ⟨fs[5]'(by omega), Array.getElem?_eq_getElem (by omega)⟩
  have hft : (f5.offset, f5.type) = (5, 23) := by
    have := congrArg (fun l => l[5]?) hfs
    simp only [List.getElem?_map, Array.getElem?_toList, hf5, Option.map_some] at this
    simpa using this
  simp only [Prod.mk.injEq] at hft
  have h5 := hfield 5 f5 hf5
  rw [hft.1, hft.2] at h5
  have c1 : Tryz.prog.cellsOf 23 = 1 := by rw [cellsOf_ty (by rw [ty23]; simp), ty23]
  rw [c1] at h5
  obtain ⟨x5, hx5⟩ : ∃ x, xs[5]? = some x := ⟨xs[5]'(by omega), List.getElem?_eq_getElem (by omega)⟩
  rw [hx5] at h5
  -- the sixth cell, as the value says
  rw [← ht] at hr
  simp only [DV.rep] at hr
  obtain ⟨vs, rfl, hvs⟩ := hr
  rw [show ds = (iD t).cells by rw [← ht]; rfl] at hvs
  simp only [iD, DV.cells, repL, DV.rep] at hvs
  obtain ⟨_, _, rfl, _, _, _, _, rfl, _, _, _, _, rfl, _, _, _, _, rfl, _, _, _, _, rfl, _, _, u5, us5, rfl, _, ⟨a, cap, rfl, hcap, _, _⟩, _⟩ := hvs
  have h5' : DataW.trod enc Tryz.prog W 0 (fun _ => true) true n 23 [.slice a t.nCh cap] = some x5 := h5
  have u23 : Tryz.prog.underlying 23 = some (.slice 3) := slice_desc (by rw [ty23])
  rcases DataW.trod_slice u23 h5' with ⟨he, _⟩ | ⟨a', len, cap', elems, rest, _, _, he, rfl, _, _, _, hel, _⟩
  · simp only [List.cons.injEq, Value.slice.injEq, and_true] at he
    omega
  · simp only [List.cons.injEq, Value.slice.injEq, and_true] at he
    have hd : d = .agg (xs.map (·.1)) := by simpa using congrArg Prod.fst hx
    subst hd
    have hb3 : Tryz.prog.bytesOf 3 = 8 := by kernel_rfl
    have hmem := hw ((elems.length + rest.length) * 8) (by
      simp only [DataW.weights, hu]
      refine DataW.weights_mem_each (j := 5) (t := 23) (d := .slice (elems.map (·.1)) (rest.map (·.1))) ?_ ?_ _ ?_
      · simp only [List.getElem?_map, Array.getElem?_toList, hf5, Option.map_some, hft.2]
      · simp only [List.getElem?_map, hx5, Option.map_some]
      · simp only [DataW.weights, u23, hb3, List.length_map]
        simp)
    have : reachBytes = 140737488351232 := rfl
    omega
theorem node_read : ∀ (fuel : Nat) (cs : List Value) (x : DataW H × List MemPlace), DataW.trod enc Tryz.prog W 0 (fun _ => true) true fuel 28 cs = some x → (∀ n ∈ x.1.weights Tryz.prog 28, n ≤ reachBytes) →
    ∃ nd : Nd, repL (old W) W nd.D.cells cs ∧ nd.m ≤ 2199023255488 ∧ nd.small := by
  intro fuel
  induction fuel using Nat.strongRecOn with
  | ind fuel ih =>
  intro cs x hx hw
  obtain ⟨fs, hfs, hu⟩ : ∃ fs, (fs.toList.map fun f => (f.offset, f.type)) = [(0, 3), (1, 3), (2, 2), (3, 9), (4, 26)] ∧ Tryz.prog.underlying 28 = some (.struct fs) := by
    obtain ⟨fs, h, h'⟩ := struct_desc (P := Tryz.prog) (t := 28) (fs := [(0, 3), (1, 3), (2, 2), (3, 9), (4, 26)]) (by rw [ty28])
    exact ⟨fs, h'.symm, h⟩
  obtain ⟨xs, n, rfl, hx', hl, hxl, hfield⟩ := DataW.trod_struct hu hx
  have hlen : fs.size = 5 := by
    have := congrArg List.length hfs
    simpa using this
  have c28 : Tryz.prog.cellsOf 28 = 5 := by rw [cellsOf_ty (by rw [ty28]; simp), ty28]
  rw [c28] at hl
  match cs, hl with
  | [c0, c1, c2, c3, c4], _ =>
  have at_ : ∀ (j o t : Nat), ([(0, 3), (1, 3), (2, 2), (3, 9), (4, 26)] : List (Nat × Nat))[j]? = some (o, t) → ∃ f y, fs[j]? = some f ∧ f.type = t ∧ xs[j]? = some y ∧ DataW.trod enc Tryz.prog W 0 (fun _ => true) true n t (([c0, c1, c2, c3, c4].drop o).take (Tryz.prog.cellsOf t)) = some y := fun j o t hj => by
    have hj5 : j < 5 := by
      have := (List.getElem?_eq_some_iff.1 hj).1
      simpa using this
    obtain ⟨f, hf⟩ : ∃ f, fs[j]? = some f := ⟨fs[j]'(by omega), Array.getElem?_eq_getElem (by omega)⟩
    obtain ⟨y, hy⟩ : ∃ y, xs[j]? = some y := ⟨xs[j]'(by omega), List.getElem?_eq_getElem (by omega)⟩
    have hft : (f.offset, f.type) = (o, t) := by
      have := congrArg (fun l => l[j]?) hfs
      simp only [List.getElem?_map, Array.getElem?_toList, hf, Option.map_some] at this
      rw [hj] at this
      simpa using this
    simp only [Prod.mk.injEq] at hft
    have h := hfield j f hf
    rw [hft.1, hft.2, hy] at h
    exact ⟨f, y, hf, hft.2, hy, h⟩
  have k3 : Tryz.prog.cellsOf 3 = 1 := by rw [cellsOf_ty (by rw [ty3]; simp), ty3]
  have k2 : Tryz.prog.cellsOf 2 = 1 := by rw [cellsOf_ty (by rw [ty2]; simp), ty2]
  have k9 : Tryz.prog.cellsOf 9 = 1 := by rw [cellsOf_ty (by rw [ty9]; simp), ty9]
  have k26 : Tryz.prog.cellsOf 26 = 1 := by rw [cellsOf_ty (by rw [ty26]; simp), ty26]
  obtain ⟨_, y0, _, _, _, h0⟩ := at_ 0 0 3 rfl
  obtain ⟨_, y1, _, _, _, h1⟩ := at_ 1 1 3 rfl
  obtain ⟨_, y2, _, _, _, h2⟩ := at_ 2 2 2 rfl
  obtain ⟨_, y3, _, _, _, h3⟩ := at_ 3 3 9 rfl
  obtain ⟨f4, y4, hf4, ht4, hy4, h4⟩ := at_ 4 4 26 rfl
  rw [k3] at h0 h1
  rw [k2] at h2
  rw [k9] at h3
  rw [k26] at h4
  obtain ⟨a0, e0, _⟩ := DataW.trod_int (int_desc (by rw [ty3])) h0
  obtain ⟨a1, e1, _⟩ := DataW.trod_int (int_desc (by rw [ty3])) h1
  obtain ⟨a2, e2, _⟩ := DataW.trod_int (int_desc (by rw [ty2])) h2
  obtain ⟨s, e3, _, hs⟩ := DataW.trod_string (str_desc (by rw [ty9])) h3
  obtain rfl : c0 = .int .i64 a0 := by simpa using e0
  obtain rfl : c1 = .int .i64 a1 := by simpa using e1
  obtain rfl : c2 = .int .i64 a2 := by simpa using e2
  obtain rfl : c3 = .string s := by simpa using e3
  have u26 : Tryz.prog.underlying 26 = some (.slice 28) := slice_desc (by rw [ty26])
  have hcell : ∀ (d : DV), d.rep (old W) W c4 → c4.oneCell' = true → repL (old W) W [.int .i64 a0, .int .i64 a1, .int .i64 a2, .str s, d] [.int .i64 a0, .int .i64 a1, .int .i64 a2, .string s, c4] := fun d hd ho => by
    simp only [repL, DV.rep]
    exact ⟨_, _, rfl, rfl, rfl, _, _, rfl, rfl, rfl, _, _, rfl, rfl, rfl, _, _, rfl, rfl, ⟨rfl, hs⟩, _, _, rfl, ho, hd, rfl⟩
  rcases DataW.trod_slice u26 h4 with ⟨he, _⟩ | ⟨a, len, cap, elems, rest, n', hn', he, hy, _, hle, hcap, hlen', hel, _⟩
  · obtain rfl : c4 = .slice .none 0 0 := by simpa using he
    refine ⟨.leaf a0 a1 a2 s, ?_, Nat.zero_le _, fun i => Nat.zero_le _⟩
    simp only [Nd.D, DV.cells]
    exact hcell .nil (by simp only [DV.rep]) rfl
  · obtain rfl : c4 = .slice (some a) len cap := by simpa using he
    subst hn'
    have b28 : Tryz.prog.bytesOf 28 = 64 := by kernel_rfl
    rw [c28] at hel
    have hxd : x.1 = .agg (xs.map (·.1)) := by rw [hx']
    obtain ⟨dS, hdS⟩ : ∃ d : DataW H, d = .slice (elems.map (·.1)) (rest.map (·.1)) := ⟨_, rfl⟩
    have hy1 : y4.1 = dS := by rw [hy, hdS]
    have hsub : ∀ m ∈ dS.weights Tryz.prog 26, m ≤ reachBytes := fun m hm => by
      refine hw m ?_
      rw [hxd]
      simp only [DataW.weights, hu]
      refine DataW.weights_mem_each (j := 4) (t := 26) (d := dS) ?_ ?_ m hm
      · simp only [List.getElem?_map, Array.getElem?_toList, hf4, Option.map_some, ht4]
      · simp only [List.getElem?_map, hy4, Option.map_some, hy1]
    rw [hdS] at hsub
    have hlen2 : len ≤ 2199023255488 := by
      have := hsub ((elems.length + rest.length) * 64) (by
        simp only [DataW.weights, u26, b28, List.length_map]
        simp)
      have hr : reachBytes = 140737488351232 := rfl
      omega
    have key : ∀ i, ∃ nd : Nd, (i < len → ∃ cs', W.cells? 0 (a.add (i * 5)) 5 = some cs' ∧ repL (old W) W nd.D.cells cs') ∧ nd.m ≤ 2199023255488 := fun i => by
      by_cases hi : i < len
      · have h := hel i hi
        rw [List.getElem?_eq_getElem (by omega)] at h
        obtain ⟨cs', q1, q2⟩ := Option.bind_eq_some_iff.1 h
        obtain ⟨nd, r1, r2, _⟩ := ih n' (by omega) cs' _ q2 fun m hm => by
          refine hsub m ?_
          simp only [DataW.weights, u26, List.mem_cons, List.mem_append]
          exact .inr (.inl (weights_all (List.mem_map.2 ⟨_, List.getElem_mem _, rfl⟩) m hm))
        exact ⟨nd, fun _ => ⟨cs', q1, r1⟩, r2⟩
      · exact ⟨.leaf 0 0 0 ⟨#[]⟩, fun h => absurd h hi, Nat.zero_le _⟩
    have hch := fun i => Classical.choose_spec (key i)
    refine ⟨.mk a0 a1 a2 s len fun i => Classical.choose (key i), ?_, hlen2, fun i => (hch i).2⟩
    simp only [Nd.D, DV.cells]
    refine hcell _ (list_read hle hcap (by decide) fun i hi => ?_) rfl
    obtain ⟨cs', q1, q2⟩ := (hch i).1 hi
    refine ⟨cs', q1, ?_⟩
    rw [Nd.D_eq] at q2 ⊢
    simp only [DV.rep]
    exact ⟨cs', by simp, by simpa only [DV.cells] using q2⟩
theorem arg28 {base : Nat} {v : Value} {d : DataW H} {p : List MemPlace} (hv : Value.okWide Tryz.prog W .any base 28 v) (h : DataW.Trod enc Tryz.prog W 0 (fun _ => true) true 28 v d p) (hw : ∀ n ∈ d.weights Tryz.prog 28, n ≤ reachBytes) :
    ∃ nd : Nd, nd.D.rep (old W) W v ∧ nd.small := by
  obtain ⟨fuel, hf⟩ := h
  obtain ⟨nd, h1, h2, h3⟩ := node_read fuel _ _ hf hw
  refine ⟨nd, ?_, h3⟩
  obtain ⟨fs, hfs, hu⟩ : ∃ fs, (fs.toList.map fun f => (f.offset, f.type)) = [(0, 3), (1, 3), (2, 2), (3, 9), (4, 26)] ∧ Tryz.prog.underlying 28 = some (.struct fs) := by
    obtain ⟨fs, h, h'⟩ := struct_desc (P := Tryz.prog) (t := 28) (fs := [(0, 3), (1, 3), (2, 2), (3, 9), (4, 26)]) (by rw [ty28])
    exact ⟨fs, h'.symm, h⟩
  simp only [Value.okWide, hu] at hv
  obtain ⟨cs, rfl, _⟩ := hv
  rw [Nd.D_eq] at h1 ⊢
  simp only [DV.rep]
  exact ⟨cs.toList, by simp, by simpa [Value.cells, DV.cells] using h1⟩
/-- WHAT THE WALK GIVES: called with these arguments it returns true, and nothing that was has turned. -/
theorem calledT {base : Nat} {v0 v1 : Value} {d0 d1 : DataW H} {p0 p1 : List MemPlace}
    (k0 : Value.okWide Tryz.prog W .any base 25 v0) (k1 : Value.okWide Tryz.prog W .any base 28 v1)
    (h0 : DataW.Trod enc Tryz.prog W 0 (fun _ => true) true 25 v0 d0 p0) (h1 : DataW.Trod enc Tryz.prog W 0 (fun _ => true) true 28 v1 d1 p1)
    (w0 : ∀ n ∈ d0.weights Tryz.prog 25, n ≤ reachBytes) (w1 : ∀ n ∈ d1.weights Tryz.prog 28, n ≤ reachBytes) :
    Calls Tryz.prog 3 #[v0, v1] W fun e W' => e = .returned (.bool true) ∧ Below W.heap.size W W' := by
  obtain ⟨s, r0, b0⟩ := arg25 k0 h0 w0
  obtain ⟨t, r1, b1⟩ := arg28 k1 h1 w1
  refine (callD (trees_ok s t b0 b1) (S := old W) (fun _ h => h) (vals := [v0, v1]) ?_).mono ?_
  · simp only [prepL, PV.rep]
    exact ⟨_, _, rfl, r0, _, _, rfl, r1, rfl⟩
  · rintro e W' ⟨v, S', α', rfl, hv, hb, _⟩
    simp only [List.map_cons, List.map_nil, resP, PV.rep, DV.rep] at hv
    subst hv
    exact ⟨rfl, hb⟩
end
theorem post_below {H : Type} {enc : TypeId × Value → H} {P : Program} {f : Func} {s : ChangeSpec} {apart fresh handsOn again : Bool} {W W' : World} {args : Array Value} {v : Value} {ds gs : List (DataW H)} {before pa pv : List MemPlace}
    (hW : DataW.Whole enc P f.params.toList s.vars apart W args.toList ds gs before)
    (hres : ∀ (b : Nat) (sp : Nat → Bool) (hd : Bool), DataW.TrodAll enc P W' b sp hd f.resultTypes.toList (v.resultList f.resultTypes.size) (s.fn H (ds ++ gs)).results [])
    (hargs : ∀ sp : Nat → Bool, (∀ p ∈ before, sp p.block = true) → DataW.TrodAll enc P W' 0 sp true f.params.toList args.toList (s.fn H (ds ++ gs)).args pa)
    (hvars : ∀ sp : Nat → Bool, (∀ p ∈ before, sp p.block = true) → DataW.TrodVars enc P W' sp s.vars (s.fn H (ds ++ gs)).vars pv)
    (hps : before = pa ++ pv) (hb : Below W.heap.size W W')
    (hok : ∀ (j : Nat) (t : TypeId) (r : Value), f.resultTypes[j]? = some t → (v.resultList f.resultTypes.size)[j]? = some r → Value.okWide P W' .any 0 t r) :
    s.post enc P f apart fresh handsOn again W args v W' := by
  have hold : ∀ p ∈ before, (fun b => decide (b < W.heap.size)) p.block = true := fun p hp => by simpa using hW.lt p hp
  have hlt : ∀ p ∈ before, p.block < W.heap.size := hW.lt
  refine ⟨ds, gs, before, [], pa, pv, hW, hres _ _ _, hargs _ hold, hvars _ hold, World.keptBut_mono (fun p hp => ⟨hp, ?_⟩) (hb.frame (· ∈ before)), fun _ => ?_⟩
  · rw [hps, List.mem_append] at hp
    exact Or.inr hp
  · obtain ⟨_, _, _, _, _, hz, hn⟩ := hW
    refine ⟨hok, _, _, ([] ++ pa) ++ pv, ⟨[] ++ pa, pv, trodAll_append (hargs _ (fun _ _ => rfl)) (hres _ _ _), hvars _ (fun _ _ => rfl), rfl, ?_, ?_⟩, ?_⟩
    · intro b off hp
      have hp' : MemPlace.cell b off ∈ before := by rw [hps]; simpa using hp
      rw [hb.frozen (p := ⟨b, off, none⟩) (hlt _ hp')]
      exact hz b off hp'
    · intro ha
      have := hn ha
      rw [hps] at this
      simpa using this
    · intro p hp _
      rw [hps]
      simpa using hp

def ndZero : Value := .agg #[.int .i64 0, .int .i64 0, .int .i64 0, .string ⟨#[]⟩, .slice none 0 0]
def itZero : Value := .agg #[.int .i64 0, .int .i64 0, .int .i64 0, .string ⟨#[]⟩, .slice none 0 0, .slice none 0 0, .int .i64 0, .int .i64 0, .slice none 0 0, .int .i64 0, .string ⟨#[]⟩, .int .i64 0, .int .i64 0, .int .i64 0, .int .i64 0, .slice none 0 0, .int .i64 0]
namespace Trees
theorem contract (H : Type) (enc : TypeId × Value → H) (W : World) (base : Nat) (args : Array Value) (ds gs : List (DataW H)) (before : List MemPlace)
    (hval : ∀ (j : Nat) t v, Tryz.f3.params[j]? = some t → args[j]? = some v → Value.okWide Tryz.prog W .any base t v)
    (hW : DataW.Whole enc Tryz.prog Tryz.f3.params.toList Rows.itemTreesSpec.vars false W args.toList ds gs before)
    (hz : (DataW.weightsEach Tryz.prog (Tryz.f3.params.toList ++ Rows.itemTreesSpec.plain.varTypes Tryz.prog) (ds ++ gs)).all (· ≤ reachBytes) = true) :
    Calls Tryz.prog 3 args W fun e W' => ∃ v, e = .returned v ∧ Rows.itemTreesSpec.post enc Tryz.prog Tryz.f3 false true false false W args v W' := by
  have hW' := hW
  obtain ⟨p, q, hA0, hV, rfl, hfz, hnd⟩ := hW
  have hA : DataW.TrodAll enc Tryz.prog W 0 (fun _ => true) true [25, 28] args.toList ds p := hA0
  have hval : ∀ (j : Nat) t v, (#[25, 28] : Array TypeId)[j]? = some t → args[j]? = some v → Value.okWide Tryz.prog W .any base t v := hval
  obtain ⟨v0, v1, d0, d1, p0, p1, rfl, rfl, rfl, h0, h1⟩ := trodAll_two hA
  obtain ⟨rfl, rfl⟩ := trodVars_none hV
  have hlt : ∀ x ∈ p0 ++ p1 ++ [], x.block < W.heap.size := fun x hx => by simpa using hW'.lt x hx
  have hz' : ∀ (j : Nat) (d : DataW H) (t : TypeId), ([d0, d1] ++ [])[j]? = some d → (Tryz.f3.params.toList ++ Rows.itemTreesSpec.plain.varTypes Tryz.prog)[j]? = some t → ∀ n ∈ d.weights Tryz.prog t, n ≤ reachBytes := fun j d t hd ht n hn => by
    simpa using List.all_eq_true.1 hz n (DataW.weights_mem_each ht hd n hn)
  refine (calledT (hval 0 25 v0 rfl rfl) (hval 1 28 v1 rfl rfl) h0 h1 (hz' 0 d0 25 rfl rfl) (hz' 1 d1 28 rfl rfl)).mono fun e W' ⟨he, hb⟩ => ?_
  subst he
  have r25 : Tryz.prog.readableRec 25 = true := by kernel_rfl
  have r28 : Tryz.prog.readableRec 28 = true := by kernel_rfl
  have l28 : 28 < Tryz.prog.types.size := of_decide_eq_true (by kernel_rfl)
  have l25 : 25 < Tryz.prog.types.size := of_decide_eq_true (by kernel_rfl)
  have ub : Tryz.prog.underlying 4 = some .bool := bool_desc (by rw [ty4])
  have stay : ∀ {t : TypeId} {v : Value} {d : DataW H} {p : List MemPlace}, Tryz.prog.readableRec t = true → t < Tryz.prog.types.size → DataW.Trod enc Tryz.prog W 0 (fun _ => true) true t v d p → (∀ x ∈ p, x ∈ p0 ++ p1 ++ []) → ∀ sp : Nat → Bool, (∀ x ∈ p0 ++ p1 ++ [], sp x.block = true) → DataW.Trod enc Tryz.prog W' 0 sp true t v d p :=
    fun r l h hs sp hsp => WideElems.Trod_stays laidOut r l h (fun x hx => hb.same (hlt x (hs x hx))) (fun x hx => hsp x (hs x hx))
  exact ⟨_, rfl, post_below (pa := p0 ++ p1) (pv := []) hW' (fun _ _ _ => trodAll_cons_mk (shut_bool ub _) trodAll_mk0)
    (fun sp hsp => trodAll_mk2 (stay r25 l25 h0 (by simp +contextual) sp hsp) (stay r28 l28 h1 (by simp +contextual) sp hsp)) (fun _ _ => rfl) (by simp) hb
    (ok_one (by kernel_rfl) rfl (okWide_bool_mk ub _))⟩
set_option maxRecDepth 100000 in
theorem lifted (os : Os) (started : os.Started) (H : Type) (enc : TypeId × Value → H) :
    ReturnsInHanded {} Tryz.checked os 3 .any (Rows.itemTreesSpec.pre6 enc Tryz.prog Tryz.f3 Rows.itemTreesRow.domain false) (Rows.itemTreesSpec.post enc Tryz.prog Tryz.f3 false true false false) := by
  refine returnsInHanded_of_change_sized (C := Tryz.checked) own started (by kernel_rfl) Tryz.func3
    (ChangeSpec.witness6 (enc := enc) (C := Tryz.checked) false ⟨#[], #[itZero, ndZero], []⟩ 8 (by kernel_rfl) (by kernel_rfl) (by kernel_rfl) (by kernel_rfl)) ?_
  intro W base args ds gs before hval hW _ hz _
  exact contract H enc W base args ds gs before hval hW hz
theorem over : Rows.itemTreesRow.holds Tryz.pinned (OpenSpec.ofChange Rows.itemTreesSpec) :=
  OpenClaim.holds_of_wide 3 Tryz.f3 rfl rfl rfl rfl rfl rfl rfl ⟨rfl, rfl, rfl, rfl, rfl⟩ rfl rfl rfl rfl rfl (by kernel_rfl) Tryz.func3 (by kernel_rfl)
    (of_decide_eq_true (by kernel_rfl)) (by unfold Func.isWrapper; first | (rw [if_pos (by decide +kernel)]; kernel_rfl) | (rw [if_neg (by decide +kernel)]; exact ⟨rfl, rfl⟩))
    (fun os started H enc _ => lifted os started H enc)
theorem proved : Rows.ItemTreesSaid := over
end Trees
end Go.Proofs.YtnhpgmmhfgdmjaaGreat.P14

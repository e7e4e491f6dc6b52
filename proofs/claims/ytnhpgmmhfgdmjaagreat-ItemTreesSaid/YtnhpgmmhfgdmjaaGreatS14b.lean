/- Proved here: contracts of functions of this chapter: called with these values, each returns these values and changes nothing that was. Conditions: none but those that each theorem names. -/
import Derived.Test.YtnhpgmmhfgdmjaaGreatS14
import Derived.Test.YtnhpgmmhfgdmjaaGreatEvX
import Derived.Test.YtnhpgmmhfgdmjaaGreatEvY
import Derived.Shelf.SlIterI.Sorted
import Derived.Shelf.Sort.Plain
import Derived.Shelf.Slices.In.SortNone
set_option linter.unusedVariables false
set_option linter.unusedSimpArgs false
namespace Go.Proofs
open Go.RowKit Go.Shelf Go.Sort Go.Ev
namespace P14
set_option maxHeartbeats 1000000 in
theorem collect_c (Bs ob len cap : Nat) (a : Option Addr) (f : Nat → Int) (hreach : len * 8 ≤ 140737488351232) (w : World) (hBs : Bs < w.heap.size)
    (hc : w.cell? ⟨Bs, ob, none⟩ = some (.slice a len cap)) (hI : 0 < len → ∃ b off, a = some ⟨b, off, none⟩ ∧ b < w.heap.size ∧ ∀ j, j < len → w.cell? ⟨b, off + j, none⟩ = some (.int .i64 (f j))) :
    Calls Tryz.prog 84 #[.func (.func 86) #[] #[.pointer (some ⟨Bs, ob, none⟩)]] w fun e W' => ∃ v, e = .returned v ∧ W'.ownsRow w.heap.size 3 1 v len ((upto f len).map (Value.int .i64)) ∧ Below w.heap.size w W' := by
  have cA := callsIn_wide.1 (appendSeq_in Bs ob len cap a f hreach w hBs hc hI)
  go_enter Tryz.func84, Tryz.ntmps84
  go_wp2_with (go_at_call 89; refine cA.mono ?_; rintro e w' ⟨v, rfl, hrow, hb⟩)
  go_ret
  exact ⟨v, rfl, hrow, hb⟩
def sortL (f : Nat → Int) (len : Nat) : List Int := (upto f len).mergeSort fun x y => decide (x ≤ y)
set_option maxHeartbeats 1000000 in
theorem sorted_c (Bs ob len cap : Nat) (a : Option Addr) (f : Nat → Int) (hreach : len * 8 ≤ 140737488351232) (w : World) (hBs : Bs < w.heap.size)
    (hc : w.cell? ⟨Bs, ob, none⟩ = some (.slice a len cap)) (hI : 0 < len → ∃ b off, a = some ⟨b, off, none⟩ ∧ b < w.heap.size ∧ ∀ j, j < len → w.cell? ⟨b, off + j, none⟩ = some (.int .i64 (f j))) :
    Calls Tryz.prog 70 #[.func (.func 86) #[] #[.pointer (some ⟨Bs, ob, none⟩)]] w fun e W' => ∃ v, e = .returned v ∧ W'.ownsRow w.heap.size 3 1 v len ((sortL f len).map (Value.int .i64)) ∧ Below w.heap.size w W' := by
  have cC := collect_c Bs ob len cap a f hreach w hBs hc hI
  go_enter Tryz.func70, Tryz.ntmps70
  go_wp2_with (go_at_call 84; refine cC.mono ?_; rintro e W ⟨v, rfl, hrow, hb⟩)
  have hl : (upto f len).length = len := upto_length f len
  rcases hrow.2 with ⟨rfl, hz⟩ | ⟨gb, cap', cur, rfl, hbase, hgb, r1, r2, r3, r4⟩
  · subst hz
    have cN : Calls Tryz.prog 85 #[.slice none 0 0] W fun e w' => e = .returned (.tuple #[]) ∧ w' = W := Any.slices_Sort_int_none Tryz.lays189 none 0 W
    go_wp2_with (go_at_call 85; refine cN.mono ?_; rintro e w' ⟨rfl, rfl⟩)
    go_ret
    have hs : sortL f 0 = upto f 0 := by simp [sortL, upto]
    rw [hs]
    exact ⟨_, rfl, hrow, hb⟩
  · have hH : Holds (Value.int .i64) W gb 0 (upto f len).toArray := holds_of_block_i hgb (by simpa [hl] using r4)
    have hgl : gb < W.heap.size := (Array.getElem?_eq_some_iff.1 hgb).1
    have hsz : (upto f len).length < 4611686018427387904 := by omega
    have cS : Calls Tryz.prog 85 #[.slice (some ⟨gb, 0, none⟩) len cap'] W fun e w' =>
        e = .returned (.tuple #[]) ∧ ∃ n os, w' = grow (putRow (Value.int .i64) (Sort.ahead W n) gb 0 ((upto f len).mergeSort fun x y => decide (x ≤ y)).toArray) os := by
      have h0 := Any.slices_Sort_int Tryz.lays189 gb 0 cap' (upto f len) W hH hgl hsz
      rw [hl] at h0
      exact h0
    go_wp2_with (go_at_call 85; refine cS.mono ?_; rintro e w' ⟨rfl, nn, os, rfl⟩)
    go_ret
    have key := ownsRow_sorted_i (n := nn) (os := os) (ss := upto f len) (ts := sortL f len) (by simp [sortL]) hbase hgb (by rw [hl]; exact r1) r2 r3
    rw [hl] at key
    exact ⟨_, rfl, key, hb.grown (grownBy_sorted_i _) hb.size (fun j hj => by cases hj; exact hbase)⟩
/-- The numbers in rising order, as a list of values. -/
def sortF (f : Nat → Int) (len : Nat) : Nat → DV := fun i => .int .i64 ((sortL f len)[i]?.getD 0)
theorem sortL_length (f : Nat → Int) (len : Nat) : (sortL f len).length = len := by simp [sortL, upto]
/-- slices.Sorted over slices.Values of what lies in a box of ours: a new list. -/
theorem sorted_ok (id n : Nat) (f : Nat → Int) (s : Store) (hs : lk s id = .box [.d (.list 1 n fun i => .int .i64 (f i))]) (hn : n * 8 ≤ 140737488351232) (R : List PV → Store → Prop) (hR : R [.d (.list 1 n (sortF f n))] s) :
    FnE Tryz.prog 70 [.clo (.func 86) [] [.ptr id 0]] s R := by
  refine fnE_calls (callable_of Tryz.func70 (by decide) (by decide)) fun S α w vals hr hv => ?_
  simp only [prepL, PV.rep] at hv
  obtain ⟨_, _, rfl, ⟨_, _, rfl, rfl, _, _, rfl, ⟨hl, hn0, rfl⟩, rfl⟩, rfl⟩ := hv
  have hb := hr.sto id
  rw [hs] at hb
  simp only [Blk.rep, prepL, PV.rep, DV.rep] at hb
  obtain ⟨-, us, T, fr, hus, -, -, v, _, rfl, ⟨a, cap, rfl, hcap, hfit, hI⟩, rfl⟩ := hb
  have hlt : ∀ b, S b → b < w.heap.size := hr.slt
  refine (sorted_c (α id).b 0 n cap a f hn w (Array.getElem?_eq_some_iff.1 hus).1 (by simp [World.cell?, hus]) ?_).mono ?_
  · intro h0
    obtain ⟨b', off', e1, e2, e3⟩ := hI h0
    refine ⟨b', off', e1, hlt _ e2, fun j hj => ?_⟩
    obtain ⟨u, h1, h2, rfl⟩ := e3 j hj
    simpa [Value.cells] using h2 0 (.int .i64 (f j)) (by simp [Value.cells])
  · rintro e w' ⟨v, rfl, hrow, hb⟩
    refine ⟨hb, [.d (.list 1 n (sortF f n))], v, fun k => S k ∨ (w.heap.size ≤ k ∧ k < w'.heap.size), hR, rfl, fun b h => .inl h, fun b h => h, ?_⟩
    simp only [resP, PV.rep, DV.rep]
    rcases hrow.2 with ⟨rfl, rfl⟩ | ⟨g, cap', cur, rfl, hbase, hgb, r1, r2, r3, r4⟩
    · exact ⟨none, 0, rfl, Nat.le_refl _, hfit, fun h => absurd h (Nat.lt_irrefl _)⟩
    · refine ⟨_, _, rfl, r1, hfit, fun _ => ⟨g, 0, rfl, .inr ⟨hbase, (Array.getElem?_eq_some_iff.1 hgb).1⟩, fun i hi => ⟨.int .i64 ((sortL f n)[i]?.getD 0), rfl, ?_, rfl⟩⟩⟩
      intro j u hu
      have hj : j = 0 ∧ u = .int .i64 ((sortL f n)[i]?.getD 0) := by
        cases j with
        | zero => simp [Value.cells] at hu; exact ⟨rfl, hu.symm⟩
        | succ j => simp [Value.cells] at hu
      obtain ⟨rfl, rfl⟩ := hj
      rw [show w'.cell? ⟨g, 0 + i * 1 + 0, none⟩ = cur[i]? by simp [World.cell?, hgb]]
      have h1 : (cur.toList.take (n * 1))[i]? = ((sortL f n).map (Value.int .i64))[i]? := by rw [r4]
      rw [List.getElem?_take_of_lt (by omega), List.getElem?_map, List.getElem?_eq_getElem (l := sortL f n) (by rw [sortL_length]; exact hi)] at h1
      rw [List.getElem?_eq_getElem (l := sortL f n) (by rw [sortL_length]; exact hi)]
      simpa using h1
end P14
end Go.Proofs

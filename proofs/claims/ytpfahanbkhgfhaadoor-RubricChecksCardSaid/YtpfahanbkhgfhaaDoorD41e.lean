/- Proved here: contracts of functions of this chapter: called with these values, each returns these values and changes nothing that was. Conditions: none but those that each theorem names. -/
import Derived.Test.YtpfahanbkhgfhaaDoorD41d
import Derived.Test.YtpfahanbkhgfhaaDoorShelfD
import Derived.Lib.Join
set_option linter.unusedSimpArgs false
set_option linter.unusedVariables false
open Go Go.Proofs Go.Ev Go.RowKit
namespace Go.Proofs.YtpfahanbkhgfhaaDoor.P41
set_option maxRecDepth 100000
/-! pieces between slashes -/
def pcs : List UInt8 → List (List UInt8)
  | [] => [[]]
  | c :: r => if c = 47 then [] :: pcs r else match pcs r with
    | [] => [[c]]
    | h :: t => (c :: h) :: t
theorem pcs_length : ∀ l : List UInt8, (pcs l).length = Lib.countByte l 47 + 1
  | [] => rfl
  | c :: r => by
    have ih := pcs_length r
    simp only [pcs]
    by_cases h : c = 47
    · subst h
      simp [Lib.countByte] at ih ⊢
      omega
    · rw [if_neg h]
      have hc : Lib.countByte (c :: r) 47 = Lib.countByte r 47 := by simp [Lib.countByte, h]
      rw [hc]
      cases hp : pcs r with
      | nil => rw [hp] at ih; simp at ih
      | cons x t => rw [hp] at ih; simpa using ih
theorem pcs_none : ∀ {l : List UInt8}, (∀ c ∈ l, c ≠ 47) → pcs l = [l]
  | [], _ => rfl
  | c :: r, h => by
    have ih := pcs_none (l := r) fun x hx => h x (by simp [hx])
    simp [pcs, h c (by simp), ih]
theorem pcs_cut : ∀ {u v : List UInt8}, (∀ c ∈ u, c ≠ 47) → pcs (u ++ 47 :: v) = u :: pcs v
  | [], v, _ => by simp [pcs]
  | c :: r, v, h => by
    have ih := pcs_cut (u := r) (v := v) fun x hx => h x (by simp [hx])
    simp [pcs, h c (by simp), ih]
theorem ix_none : ∀ {l : List UInt8}, Lib.indexByte l 47 = -1 → ∀ c ∈ l, c ≠ 47
  | [], _, c, hc => by cases hc
  | b :: l, h, c, hc => by
    unfold Lib.indexByte at h
    split at h
    · cases h
    · rename_i hb
      have hge := Lib.indexByte_ge l 47
      split at h
      · rename_i h1
        rcases List.mem_cons.1 hc with rfl | hc
        · simpa using hb
        · exact ix_none (by simpa using h1) c hc
      · rename_i h1
        have : Lib.indexByte l 47 ≠ -1 := by simpa using h1
        omega
theorem ix_some : ∀ {l : List UInt8} {m : Int}, Lib.indexByte l 47 = m → 0 ≤ m → ∃ u v, l = u ++ 47 :: v ∧ (u.length : Int) = m ∧ ∀ c ∈ u, c ≠ 47
  | [], m, h, h0 => by simp [Lib.indexByte] at h; omega
  | b :: l, m, h, h0 => by
    unfold Lib.indexByte at h
    split at h
    · rename_i hb
      have : b = 47 := by simpa using hb
      subst this
      exact ⟨[], l, rfl, by simpa using h, fun c hc => by cases hc⟩
    · rename_i hb
      split at h
      · omega
      · obtain ⟨u, v, e, hl, hu⟩ := ix_some (l := l) (m := m - 1) (by omega) (by
          have := Lib.indexByte_ge l 47
          rename_i h1
          have : Lib.indexByte l 47 ≠ -1 := by simpa using h1
          omega)
        refine ⟨b :: u, v, by simp [e], by simp; omega, fun c hc => ?_⟩
        rcases List.mem_cons.1 hc with rfl | hc
        · simpa using hb
        · exact hu c hc
/-! the library's functions -/
theorem str1 {S α w} {b : ByteArray} {vals : List Value} (h : prepL S (live sto0) α w [.d (.str b)] vals) : vals = [.string b] := by
  simp only [prepL, PV.rep, DV.rep] at h
  obtain ⟨u, us, rfl, ⟨rfl, _⟩, rfl⟩ := h
  rfl
theorem str2 {S α w} {b c : ByteArray} {vals : List Value} (h : prepL S (live sto0) α w [.d (.str b), .d (.str c)] vals) : vals = [.string b, .string c] := by
  simp only [prepL, PV.rep, DV.rep] at h
  obtain ⟨u, us, rfl, ⟨rfl, _⟩, u2, us2, rfl, ⟨rfl, _⟩, rfl⟩ := h
  rfl
theorem count_ok (b : ByteArray) : FnD Tryd.prog 35 [.d (.str b), .d (.str ⟨#[47]⟩)] [.int .i64 (Lib.countByte b.data.toList 47 : Nat)] := by
  refine fnD_flat (callable_of Tryd.func35 rfl rfl) [.string b, .string ⟨#[47]⟩] (.int .i64 (Lib.countByte b.data.toList 47 : Nat)) (fun _ _ _ _ h => str2 h) (fun _ _ _ => by simp only [PV.rep, DV.rep]) fun w => ?_
  exact (Tryd.strings_Count_one b 47 w).mono fun e w' ⟨h1, h2⟩ => ⟨h1, h2 ▸ Below.refl _ _⟩
theorem find_ok (b : ByteArray) : FnD Tryd.prog 36 [.d (.str b), .d (.str ⟨#[47]⟩)] [.int .i64 (Lib.indexByte b.data.toList 47)] := by
  refine fnD_flat (callable_of Tryd.func36 rfl rfl) [.string b, .string ⟨#[47]⟩] (.int .i64 (Lib.indexByte b.data.toList 47)) (fun _ _ _ _ h => str2 h) (fun _ _ _ => by simp only [PV.rep, DV.rep]) fun w => ?_
  exact (Tryd.strings_Index_one b 47 w).mono fun e w' ⟨h1, h2⟩ => ⟨h1, h2 ▸ Below.refl _ _⟩
/-- strings.Join of at least one string. -/
theorem join_ok (n : Nat) (x : Nat → ByteArray) (h1 : 1 ≤ n) (hn : n ≤ 140737488355328) (hl : (Lib.join ((List.range n).map fun i => (x i).data.toList) [47]).length ≤ 140737488355328) (f : Nat → DV) (hf : ∀ i, i < n → f i = .str (x i)) :
    FnD Tryd.prog 27 [.d (.list 1 n f), .d (.str ⟨#[47]⟩)] [.str ⟨(Lib.join ((List.range n).map fun i => (x i).data.toList) [47]).toArray⟩] := by
  refine fnD_calls (callable_of Tryd.func27 rfl rfl) fun S α w vals hlt hv => ?_
  simp only [prepL, PV.rep, DV.rep] at hv
  obtain ⟨u, us, rfl, ⟨a, cap, rfl, hcap, hfn, hel⟩, u2, us2, rfl, ⟨rfl, _⟩, rfl⟩ := hv
  obtain ⟨bk, off, rfl, hS, hel⟩ := hel (by omega)
  have hx : ((List.range n).map x).length = n := by simp
  have := Tryd.strings_Join bk off cap ((List.range n).map x) ⟨#[47]⟩ w (fun j y hj => by
      have hjn : j < n := by have := (List.getElem?_eq_some_iff.1 hj).1; simpa using this
      have hy : y = x j := by simpa [hjn] using hj.symm
      subst hy
      obtain ⟨u, hu, hc, hr⟩ := hel j hjn
      rw [hf j hjn] at hr
      simp only [DV.rep] at hr
      obtain ⟨rfl, _⟩ := hr
      have := hc 0 (.string (x j)) (by simp [Value.cells])
      simpa using this) (hlt _ hS) (by rw [hx]; exact hn) (by rw [hx]; exact hcap) (by simpa [List.map_map, Function.comp_def] using hl)
  rw [hx] at this
  refine this.mono fun e w' ⟨h1, h2⟩ => ⟨h2, _, S, h1, fun b h => .inl h, fun b h => h, ?_⟩
  simp only [List.map_map, Function.comp_def, List.map_cons, List.map_nil, resP, PV.rep, DV.rep, true_and]
  show (Lib.join ((List.range n).map fun i => (x i).data.toList) [47]).toArray.size ≤ _
  simp only [List.size_toArray]
  omega
end Go.Proofs.YtpfahanbkhgfhaaDoor.P41

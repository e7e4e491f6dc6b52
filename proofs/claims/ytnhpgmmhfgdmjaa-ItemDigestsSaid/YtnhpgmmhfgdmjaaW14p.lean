/- Proved here: contracts of functions of this chapter: called with these values, each returns these values and changes nothing that was. Conditions: none but those that each theorem names. -/
import Derived.Test.YtnhpgmmhfgdmjaaW14o
set_option linter.unusedVariables false
set_option linter.unusedSimpArgs false
open Go Go.Proofs Go.Ev
namespace Go.Proofs.Ytnhpgmmhfgdmjaa.P14
set_option maxRecDepth 100000
theorem rep_list_imp {S : Nat → Prop} {w : World} {sz n : Nat} {f g : Nat → DV} {v : Value} (h : ∀ i, i < n → ∀ v, (f i).rep S w v → (g i).rep S w v) (hv : (DV.list sz n f).rep S w v) : (DV.list sz n g).rep S w v := by
  simp only [DV.rep] at hv ⊢
  obtain ⟨a, cap, rfl, h1, h2, h3⟩ := hv
  refine ⟨a, cap, rfl, h1, h2, fun h0 => ?_⟩
  obtain ⟨b, off, e1, e2, e3⟩ := h3 h0
  refine ⟨b, off, e1, e2, fun i hi => ?_⟩
  obtain ⟨u, k1, k2, k3⟩ := e3 i hi
  exact ⟨u, k1, k2, h i hi _ k3⟩
theorem repL_cons {S : Nat → Prop} {w : World} {c c' : DV} {cs cs' : List DV} (h1 : ∀ v, c.rep S w v → c'.rep S w v) (h2 : ∀ vs, repL S w cs vs → repL S w cs' vs) : ∀ vs, repL S w (c :: cs) vs → repL S w (c' :: cs') vs := by
  intro vs h
  simp only [repL] at h ⊢
  obtain ⟨u, us, rfl, o, r, t⟩ := h
  exact ⟨u, us, rfl, o, h1 _ r, h2 _ t⟩
theorem rep_agg {S : Nat → Prop} {w : World} {cs cs' : List DV} (h : ∀ vs, repL S w cs vs → repL S w cs' vs) {v : Value} (hv : (DV.agg cs).rep S w v) : (DV.agg cs').rep S w v := by
  simp only [DV.rep] at hv ⊢
  obtain ⟨vs, e, hv⟩ := hv
  exact ⟨vs, e, h vs hv⟩
/-- One level with lists in the place of no lists. -/
def Nd.up : Nd → Nd
  | .leaf t k n s => .mk t k n s 0 fun _ => default
  | x => x
theorem up_rep {S : Nat → Prop} {w : World} (x : Nd) {v : Value} (h : x.D.rep S w v) : x.up.D.rep S w v := by
  cases x with
  | leaf t k n s => exact rep_nil5 h
  | mk t k n s m f => exact h
theorem up_kids (x : Nd) : x.up.kidsD = .list 5 x.up.m fun j => (x.up.kids j).D := by cases x <;> rfl
def encF (t : It) : Nat → Nd := fun i => (encN t i).up
theorem itemOf_enc (t : It) : itemOf (encF t) = t := rfl
theorem has_int (n : Int) : hasR (.leaf 0 1 n ⟨#[]⟩) 0 1 = true := by simp [hasR, hasB, Nd.tag, Nd.kind, Nd.n, Nd.s, Nd.m]
theorem has_up (x : Nd) (t k : Int) : hasR x.up t k = hasR x t k := by cases x <;> rfl
theorem has_i (t n : Int) : hasR (.leaf t 1 n ⟨#[]⟩) t 1 = true := by simp [hasR, hasB, Nd.tag, Nd.kind, Nd.n, Nd.s, Nd.m]
theorem has_s (t : Int) (s : ByteArray) : hasR (.leaf t 2 0 s) t 2 = true := by simp [hasR, hasB, Nd.tag, Nd.kind, Nd.n, Nd.s, Nd.m]
theorem has_l (t : Int) (m : Nat) (f : Nat → Nd) : hasR (.mk t 3 0 ⟨#[]⟩ m f) t 3 = true := by simp [hasR, hasB, Nd.tag, Nd.kind, Nd.n, Nd.s, Nd.m]
theorem has_enc (t : It) : bd17 (encF t) = false := by
  have a1 : allN (fun i => hasR (((encF t) 4).kids i) 0 2) ((encF t) 4).m = true := allN_yes fun i _ => rfl
  have a2 : allN (fun i => hasR (((encF t) 5).kids i) 0 1) ((encF t) 5).m = true := allN_yes fun i _ => has_int _
  have a3 : allN (fun i => hasR (((encF t) 8).kids i) 0 2) ((encF t) 8).m = true := allN_yes fun i _ => rfl
  have a4 : allN (fun i => hasR (((encF t) 15).kids i) 0 1) ((encF t) 15).m = true := allN_yes fun i _ => has_int _
  unfold bd17 bd16 bd15 bd14 bd13 bd12 bd11 bd10 bd9 bd8 bd7 bd6 bd5 bd4 bd3 bd2 bd1 bd0
  rw [a1, a2, a3, a4]
  simp only [encF, has_up, encN, encL, List.getD_cons_zero, List.getD_cons_succ, has_i, has_s, has_l, cond_true, Bool.not_true, Bool.or_self]
theorem decode_enc (t : It) (h : t.nOpt ≤ 1000 ∧ t.nCh ≤ 1000 ∧ t.nTx ≤ 1000 ∧ t.nAs ≤ 1000) (hv : validR t = 0) :
    FnD Try.prog 18 [.d (.agg [.int .i64 14, .int .i64 3, .int .i64 0, .str ⟨#[]⟩, .list 5 17 fun i => (encN t i).D])] [iD t, .int .i64 0] := by
  have h0 := decode_mk 14 3 0 ⟨#[]⟩ 17 (encF t) (fun i => up_kids _) (show t.nOpt ≤ _ by omega) (show t.nCh ≤ _ by omega) (show t.nTx ≤ _ by omega) (show t.nAs ≤ _ by omega)
  have e1 : decI 14 3 0 ⟨#[]⟩ 17 (encF t) = iD t := by
    have : topB 14 3 0 ⟨#[]⟩ 17 = false := by simp [topB, hasB]
    simp only [decI, this, has_enc, itemOf_enc, hv, cond_false, bne_self_eq_false]
  have e2 : decE 14 3 0 ⟨#[]⟩ 17 (encF t) = 0 := by
    have : topB 14 3 0 ⟨#[]⟩ 17 = false := by simp [topB, hasB]
    simp only [decE, this, has_enc, itemOf_enc, hv, cond_false]
  rw [e1, e2] at h0
  refine args1 h0 fun S w v hr => ?_
  exact rep_agg (repL_cons (fun _ h => h) (repL_cons (fun _ h => h) (repL_cons (fun _ h => h) (repL_cons (fun _ h => h) (repL_cons (fun v h => rep_list_imp (fun i _ v h => up_rep _ h) h) fun _ h => h))))) hr
end Go.Proofs.Ytnhpgmmhfgdmjaa.P14

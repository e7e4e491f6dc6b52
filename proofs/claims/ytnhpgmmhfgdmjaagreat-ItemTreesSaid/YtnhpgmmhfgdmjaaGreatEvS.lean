/- The rewrite rules of the walk. -/
import Derived.Test.YtnhpgmmhfgdmjaaGreatEvP
set_option linter.unusedVariables false
namespace Go.Ev
section
variable {P : Program} {H : Hints} {e : Env} {s : Store} {Q : Post} {K : PV → Env → Store → Prop}
@[go_sem] theorem s_seq {a b} : okC P H (.seq a b) e s Q = okC P H a e s (qSeq (okC P H b) Q) := rfl
@[go_sem] theorem s_skip : okC P H .skip e s Q = Q .normal e s := rfl
@[go_sem] theorem s_region {i l} : okC P H (.region i ⟨l⟩ false) e s Q = okOps P H l 0 0 l e s (qA (lookA H.ad i) Q) := rfl
@[go_sem] theorem a_look0 {j} : lookA [] j = [] := rfl
@[go_sem] theorem a_look {i q l j} : lookA ((i, q) :: l) j = if i = j then q else lookA l j := rfl
@[go_sem] theorem a_q0 : qA [] Q = Q := rfl
@[go_sem] theorem a_qn {d l} : qA (d :: l) Q .normal e s = qAd (d :: l) Q e s := rfl
@[go_sem] theorem a_qe {d l i} : qA (d :: l) Q (.exit i) e s = Q (.exit i) e s := rfl
@[go_sem] theorem a_qr {d l} : qA (d :: l) Q .ret e s = Q .ret e s := rfl
@[go_sem] theorem a_qp {d l x} : qA (d :: l) Q (.pan x) e s = Q (.pan x) e s := rfl
@[go_sem] theorem a_d0 : qAd [] Q e s = Q .normal e s := rfl
@[go_sem] theorem a_d1 {d l} : qAd (d :: l) Q e s = qAd l Q (adE s.length e d) (adS s d) := rfl
@[go_sem] theorem a_et {n t a b z} : adE n e (.tmp t a b z) = adT t n e (get e t) := rfl
@[go_sem] theorem a_eb {n i k a b z} : adE n e (.box i k a b z) = e := rfl
@[go_sem] theorem a_t {t n} : adT t n e (.d .nil) = (t, .own n 0 0) :: e := rfl
@[go_sem] theorem a_st {t a b z} : adS s (.tmp t a b z) = s ++ [.arr a b 0 fun _ => z] := rfl
@[go_sem] theorem a_sb {i k a b z} : adS s (.box i k a b z) = adB i k s.length (s ++ [.arr a b 0 fun _ => z]) (nth s i) := rfl
@[go_sem] theorem a_b {i k n cs} : adB i k n s (some (.box cs)) = adC i k n s cs (nth cs k) := rfl
@[go_sem] theorem a_c {i k n cs} : adC i k n s cs (some (.d .nil)) = setN s i (.box (setN cs k (.own n 0 0))) := rfl
@[go_sem] theorem s_draw {i l} : okC P H (.region i ⟨l⟩ true) e s Q = okR P H l ((lookN H.qs i).getD (quietN l)) e s Q (lookT H.ts i) := rfl
@[go_sem] theorem s_r0 {l q} : okR P H l q e s Q none = okOps P H l q s.length l e s Q := rfl
@[go_sem] theorem s_r1 {l q t} : okR P H l q e s Q (some t) = ∃ e1 s1, okT P H l t (Le H.lo e1 s1) e s ∧ Q .normal e1 s1 := rfl
@[go_sem] theorem t_look0 {j} : lookT [] j = none := rfl
@[go_sem] theorem t_look {i q l j} : lookT ((i, q) :: l) j = if i = j then some q else lookT l j := rfl
@[go_sem] theorem t_done {l e s} {K : Env → Store → Prop} : okT P H l .done K e s = K e s := rfl
@[go_sem] theorem t_nil {l e s} {K : Env → Store → Prop} : okT P H l .nil K e s = True := rfl
@[go_sem] theorem t_alt {l i t r e s} {K : Env → Store → Prop} : okT P H l (.alt i t r) K e s = (okT1 P H (okT P H l t K) e s (nth l i) ∧ okT P H l r K e s) := rfl
@[go_sem] theorem t_take {l i t e s} {K : Env → Store → Prop} : okT P H l (.take i t) K e s = (takeT P e (nth l i) ∧ okT1 P H (okT P H l t K) e s (nth l i)) := rfl
@[go_sem] theorem t_tk {e dst op ty pos aft gd} : takeT P e (some ⟨dst, op, ty, pos, aft, gd⟩) = takeO P e op := rfl
@[go_sem] theorem t_tkm {e x} : takeO P e (.move x) = True := rfl
@[go_sem] theorem t_tkf {e x i t} : takeO P e (.fieldAddr t x i) = True := rfl
@[go_sem] theorem t_tkc {e x d t} : takeO P e (.convert t d x) = (isIntV (opnd (get e) [] x) ∧ isIntT (tyOf P d).td) := rfl
@[go_sem] theorem t_iv {k n} : isIntV (.d (.int k n)) = True := rfl
@[go_sem] theorem t_it {k} : isIntT (.int k) = True := rfl
@[go_sem] theorem t_one {o e s} {K : Env → Store → Prop} : okT1 P H K e s (some o) = okOps P H [o] 0 0 [o] e s (qN K) := rfl
@[go_sem] theorem t_end {e s} {K : Env → Store → Prop} : qN K .normal e s = K e s := rfl
@[go_sem] theorem s_cond {c x y} : okC P H (.cond c x y) e s Q = okCond (opnd (get e) [] c) (okC P H x e s Q) (okC P H y e s Q) := rfl
@[go_sem] theorem s_block {i c} : okC P H (.block i c) e s Q = okC P H c e s (qBlock i Q) := rfl
@[go_sem] theorem s_scope {c} : okC P H (.scope c) e s Q = okC P H c e s Q := rfl
@[go_sem] theorem s_loop {b} : okC P H (.loop b) e s Q = LoopOk H.lo (okC P H b) e s Q := rfl
@[go_sem] theorem s_exit {i} : okC P H (.exit i) e s Q = Q (.exit i) e s := rfl
@[go_sem] theorem s_ret : okC P H .ret e s Q = Q .ret e s := rfl
@[go_sem] theorem s_qseq_normal {f} : qSeq f Q .normal e s = f e s Q := rfl
@[go_sem] theorem s_qseq_exit {f i} : qSeq f Q (.exit i) e s = Q (.exit i) e s := rfl
@[go_sem] theorem s_qseq_ret {f} : qSeq f Q .ret e s = Q .ret e s := rfl
@[go_sem] theorem s_qseq_pan {f d} : qSeq f Q (.pan d) e s = Q (.pan d) e s := rfl
@[go_sem] theorem s_qblock_normal {i} : qBlock i Q .normal e s = Q .normal e s := rfl
@[go_sem] theorem s_qblock_exit {i j} : qBlock i Q (.exit j) e s = if j = i then Q .normal e s else Q (.exit j) e s := rfl
@[go_sem] theorem s_qblock_ret {i} : qBlock i Q .ret e s = Q .ret e s := rfl
@[go_sem] theorem s_qblock_pan {i d} : qBlock i Q (.pan d) e s = Q (.pan d) e s := rfl
@[go_sem] theorem s_ops_nil {all q b} : okOps P H all q b [] e s Q = Q .normal (cleanIf (hasG all) e) s := rfl

@[go_sem] theorem y_look0 {j} : lookN [] j = none := rfl
@[go_sem] theorem y_look {i q l j} : lookN ((i, q) :: l) j = if i = j then some q else lookN l j := rfl
@[go_sem] theorem y_n0 {α : Type} {x : α} : (none : Option α).getD x = x := rfl
@[go_sem] theorem y_n1 {α : Type} {x y : α} : (some y).getD x = y := rfl
@[go_sem] theorem y_q0 : quietN [] = 0 := rfl
@[go_sem] theorem y_q {dst op ty pos aft gd os} : quietN (⟨dst, op, ty, pos, aft, gd⟩ :: os) = bif quietOp op then quietN os + 1 else 0 := rfl
@[go_sem] theorem y_assign {a} : quietOp (.assign a) = false := rfl
@[go_sem] theorem y_store {a b c} : quietOp (.store a b c) = false := rfl
@[go_sem] theorem y_append {a b} : quietOp (.call ⟨.builtin .append, a, b⟩) = false := rfl
@[go_sem] theorem y_len {a b} : quietOp (.call ⟨.builtin .len, a, b⟩) = true := rfl
@[go_sem] theorem y_max {a b} : quietOp (.call ⟨.builtin .max, a, b⟩) = true := rfl
@[go_sem] theorem y_min {a b} : quietOp (.call ⟨.builtin .min, a, b⟩) = true := rfl
@[go_sem] theorem y_value {f a b} : quietOp (.call ⟨.value f, a, b⟩) = true := rfl
@[go_sem] theorem y_move {a} : quietOp (.move a) = true := rfl
@[go_sem] theorem y_pick {a b c} : quietOp (.pick a b c) = true := rfl
@[go_sem] theorem y_build {a b} : quietOp (.build a b) = true := rfl
@[go_sem] theorem y_buildSlice {a b c} : quietOp (.buildSlice a b c) = true := rfl
@[go_sem] theorem y_load {a b} : quietOp (.load a b) = true := rfl
@[go_sem] theorem y_nilCheck {a} : quietOp (.nilCheck a) = true := rfl
@[go_sem] theorem y_binOp {a b c d f} : quietOp (.binOp a b c d f) = true := rfl
@[go_sem] theorem y_unOp {a b c} : quietOp (.unOp a b c) = true := rfl
@[go_sem] theorem y_convert {a b c} : quietOp (.convert a b c) = true := rfl
@[go_sem] theorem y_makeInterface {a b} : quietOp (.makeInterface a b) = true := rfl
@[go_sem] theorem y_makeFunc {a b c} : quietOp (.makeFunc a b c) = true := rfl
@[go_sem] theorem y_makeSlice {a b c} : quietOp (.makeSlice a b c) = true := rfl
@[go_sem] theorem y_slice {a b c d f} : quietOp (.slice a b c d f) = true := rfl
@[go_sem] theorem y_fieldAddr {a b c} : quietOp (.fieldAddr a b c) = true := rfl
@[go_sem] theorem y_field {a b c} : quietOp (.field a b c) = true := rfl
@[go_sem] theorem y_indexAddr {a b c} : quietOp (.indexAddr a b c) = true := rfl
@[go_sem] theorem y_index {a b c} : quietOp (.index a b c) = true := rfl
@[go_sem] theorem y_extract {a b} : quietOp (.extract a b) = true := rfl
@[go_sem] theorem y_alloc {a} : quietOp (.alloc a) = true := rfl
@[go_sem] theorem y_box {a b} : quietOp (.box a b) = true := rfl
/-! stages of one operation -/
def oQ (H : Hints) (quiet : Bool) (o : Oper) (P : Program) (e : Env) (s : Store) (K : PV → Env → Store → Prop) (g : List (Tmp × Bool)) (c : Prop) : QR → Prop
  | .ok C v none => (c → C) ∧ (lenF quiet (lenFact (get e) g o.op) → K (wrapV g c v) e s)
  | .ok C v (some B) => gOn quiet e g ∧ (c → C) ∧ K v e (s ++ [B])
  | .bad => if quiet then False else (match g with
        | [] => (match effQ P o.op e s with
          | .ok C v e' s' => C ∧ K v e' s'
          | .bad => False)
        | _ => False)
def oV (P : Program) (quiet : Bool) (e : Env) (s : Store) (K : PV → Env → Store → Prop) (g : List (Tmp × Bool)) (c : Prop) (f : FuncId) : Option (List PV × Bool) → Prop
  | some (ds, vw) => (quiet && vw) = false ∧ CallK P c f ds vw (kCall g c e s K)
  | none => False
def oF (P : Program) (quiet : Bool) (e : Env) (s : Store) (K : PV → Env → Store → Prop) (g : List (Tmp × Bool)) (c : Prop) (f : FuncId) (args : List PV) : Bool → Prop
  | true => quiet = false ∧ g = [] ∧ FnE P f args s (kEff e s K)
  | false => oV P quiet e s K g c f (viewsV s args)
def oB (P : Program) (H : Hints) (quiet : Bool) (e : Env) (s : Store) (K : PV → Env → Store → Prop) (g : List (Tmp × Bool)) (c : Prop) (f : FuncId) (args : List PV) : Bool → Prop
  | true => quiet = false ∧ g = [] ∧ fbQ P f e s K args
  | false => oF P quiet e s K g c f args (H.fx.contains f)
def oC (P : Program) (H : Hints) (quiet : Bool) (lim : Nat) (o : Oper) (e : Env) (s : Store) (K : PV → Env → Store → Prop) (g : List (Tmp × Bool)) (c : Prop) : Option (FuncId × List PV) → Prop
  | some (f, args) => oB P H quiet e s K g c f args (H.fb.contains f)
  | none => oQ H quiet o P e s K g c (opQ P (wraps H.wr o.dst) o.op (get e) g s lim s.length)
def oG (P : Program) (H : Hints) (quiet : Bool) (lim : Nat) (o : Oper) (e : Env) (s : Store) (K : PV → Env → Store → Prop) : Option (List (Tmp × Bool) × Prop) → Prop
  | none => False
  | some (g, c) => oC P H quiet lim o e s K g c (calleeQ (get e) g o.op)
def oE (K : PV → Env → Store → Prop) : ER → Prop
  | .ok C v e' s' => C ∧ K v e' s'
  | .bad => False
theorem okO_eq {all quiet lim o} : okO P H all quiet lim o e s Q K = oG P H quiet lim o e s K (guardQ all e o.guard) := by
  unfold okO oG
  cases guardQ all e o.guard with
  | none => rfl
  | some x =>
    obtain ⟨g, c⟩ := x
    dsimp only
    unfold oC
    cases calleeQ (get e) g o.op with
    | some y =>
      obtain ⟨f, args⟩ := y
      dsimp only
      cases hfb : H.fb.contains f with
      | true => rw [if_pos rfl]; rfl
      | false =>
        rw [if_neg (by simp)]
        unfold oB
        dsimp only
        cases hfx : H.fx.contains f with
        | true => rw [if_pos rfl]; rfl
        | false =>
          rw [if_neg (by simp)]
          unfold oF oV
          cases viewsV s args <;> rfl
    | none =>
      dsimp only
      unfold oQ
      cases opQ P (wraps H.wr o.dst) o.op (get e) g s lim s.length with
      | bad => rfl
      | ok C v nb => cases nb <;> rfl
@[go_sem] theorem s_ops_cons {all q b dst op ty pos aft gd os} : okOps P H all q b (⟨dst, op, ty, pos, aft, gd⟩ :: os) e s Q =
    oG P H (q != 0) (if q = 0 then s.length else b) ⟨dst, op, ty, pos, #[], gd⟩ e s (kNext P H all (q - 1) b os dst Q) (guardQ all e gd) := by
  rw [okOps, okO_eq]
  rfl
@[go_sem] theorem s_next {all q b os t v} : kNext P H all q b os (some t) Q v e s = okOps P H all q b os ((t, v) :: e) s Q := rfl
@[go_sem] theorem s_next0 {all q b os v} : kNext P H all q b os none Q v e s = okOps P H all q b os e s Q := rfl
@[go_sem] theorem s_call {g c rs} : kCall g c e s K rs = K (wrapV g c (resPV rs)) e s := rfl
@[go_sem] theorem s_oG {quiet lim o g c} : oG P H quiet lim o e s K (some (g, c)) = oC P H quiet lim o e s K g c (calleeQ (get e) g o.op) := rfl
@[go_sem] theorem s_oG0 {quiet lim o} : oG P H quiet lim o e s K none = False := rfl
@[go_sem] theorem s_oC {quiet lim o g c f args} : oC P H quiet lim o e s K g c (some (f, args)) = oB P H quiet e s K g c f args (H.fb.contains f) := rfl
@[go_sem] theorem s_oBt {quiet g c f args} : oB P H quiet e s K g c f args true = (quiet = false ∧ g = [] ∧ fbQ P f e s K args) := rfl
@[go_sem] theorem s_oBf {quiet g c f args} : oB P H quiet e s K g c f args false = oF P quiet e s K g c f args (H.fx.contains f) := rfl
@[go_sem] theorem s_fb {f id n ps} : fbQ P f e s K (.own id 0 n :: ps) = fbK P f id n e s K (nth s id) (fbV (viewsV s ps)) := rfl
@[go_sem] theorem s_fbV {qs} : fbV (some (qs, false)) = allD qs := rfl
@[go_sem] theorem s_fbK {f id n el sz m g xs} : fbK P f id n e s K (some (.arr el sz m g)) (some xs) = (m = n ∧ ∃ n' g', FnB P f el sz n g xs n' g' ∧ K (.own id 0 n') (killE id e) (setN (killS id s) id (.arr el sz n' g'))) := rfl
@[go_sem] theorem s_oFt {quiet g c f args} : oF P quiet e s K g c f args true = (quiet = false ∧ g = [] ∧ FnE P f args s (kEff e s K)) := rfl
@[go_sem] theorem s_oFf {quiet g c f args} : oF P quiet e s K g c f args false = oV P quiet e s K g c f (viewsV s args) := rfl
@[go_sem] theorem s_eff {rs s'} : kEff e s K rs s' = (boxKept s s' = true ∧ K (resP rs) (keepE s e) s') := rfl
@[go_sem] theorem bk_nil {s : Store} : boxKept [] s = true := rfl
@[go_sem] theorem bk_box {a b} {s s' : Store} : boxKept (.box a :: s) (.box b :: s') = boxKept s s' := rfl
@[go_sem] theorem bk_arr {a n m f} {b : Blk} {s s' : Store} : boxKept (.arr a n m f :: s) (b :: s') = boxKept s s' := by cases b <;> rfl
@[go_sem] theorem bk_dead {b : Blk} {s s' : Store} : boxKept (.dead :: s) (b :: s') = boxKept s s' := by cases b <;> rfl
@[go_sem] theorem kp_nil {s : Store} : keepE s [] = [] := rfl
@[go_sem] theorem kp_cons {s : Store} {t p e} : keepE s ((t, p) :: e) = (t, p.keep s) :: keepE s e := rfl
@[go_sem] theorem kp_unk {s : Store} : PV.keep s .unk = .unk := rfl
@[go_sem] theorem kp_d {s : Store} {x} : PV.keep s (.d x) = .d x := rfl
@[go_sem] theorem kp_own {s : Store} {a b c} : PV.keep s (.own a b c) = .unk := rfl
@[go_sem] theorem kp_eptr {s : Store} {a b c} : PV.keep s (.eptr a b c) = .unk := rfl
@[go_sem] theorem kp_ptr {s : Store} {a b} : PV.keep s (.ptr a b) = keepPtr a b (Blk.isBox (nth s a)) := rfl
@[go_sem] theorem kp_pt {a b} : keepPtr a b true = .ptr a b := rfl
@[go_sem] theorem kp_pf {a b} : keepPtr a b false = .unk := rfl
@[go_sem] theorem kp_bx {cs} : Blk.isBox (some (.box cs)) = true := rfl
@[go_sem] theorem kp_ba {a n m f} : Blk.isBox (some (.arr a n m f)) = false := rfl
@[go_sem] theorem kp_rptr {s : Store} {a} : PV.keep s (.rptr a) = .rptr a := rfl
@[go_sem] theorem kp_agg {s : Store} {a} : PV.keep s (.agg a) = .agg (keepL s a) := rfl
@[go_sem] theorem kp_tup {s : Store} {a} : PV.keep s (.tup a) = .tup (keepL s a) := rfl
@[go_sem] theorem kp_clo {s : Store} {fn a b} : PV.keep s (.clo fn a b) = .clo fn (keepL s a) (keepL s b) := rfl
@[go_sem] theorem kp_ifc {s : Store} {t p} : PV.keep s (.ifc t p) = .ifc t (p.keep s) := rfl
@[go_sem] theorem kp_when {s : Store} {g c p} : PV.keep s (.when g c p) = .when g c (p.keep s) := rfl
@[go_sem] theorem kpl_nil {s : Store} : keepL s [] = [] := rfl
@[go_sem] theorem kpl_cons {s : Store} {p ps} : keepL s (p :: ps) = p.keep s :: keepL s ps := rfl
@[go_sem] theorem rp_one {p : PV} : resP [p] = p := rfl
@[go_sem] theorem rp_nil : resP [] = .tup [] := rfl
@[go_sem] theorem rp_two {p q : PV} {l} : resP (p :: q :: l) = .tup (p :: q :: l) := rfl
@[go_sem] theorem s_oC0 {quiet lim dst op ty pos aft gd g c} : oC P H quiet lim ⟨dst, op, ty, pos, aft, gd⟩ e s K g c none = oQ H quiet ⟨dst, op, ty, pos, aft, gd⟩ P e s K g c (opQ P (wraps H.wr dst) op (get e) g s lim s.length) := rfl
@[go_sem] theorem s_oV {quiet g c f ds vw} : oV P quiet e s K g c f (some (ds, vw)) = ((quiet && vw) = false ∧ CallK P c f ds vw (kCall g c e s K)) := rfl
@[go_sem] theorem s_oV0 {quiet g c f} : oV P quiet e s K g c f none = False := rfl
@[go_sem] theorem s_oQ {quiet dst op ty pos aft gd g c C v} : oQ H quiet ⟨dst, op, ty, pos, aft, gd⟩ P e s K g c (.ok C v none) = ((c → C) ∧ (lenF quiet (lenFact (get e) g op) → K (wrapV g c v) e s)) := rfl
@[go_sem] theorem s_lenT {p} : lenF true p = True := rfl
@[go_sem] theorem s_lenF' {p} : lenF false p = p := rfl
@[go_sem] theorem s_oQB {quiet o g c C v B} : oQ H quiet o P e s K g c (.ok C v (some B)) = (gOn quiet e g ∧ (c → C) ∧ K v e (s ++ [B])) := rfl
@[go_sem] theorem gOn_nil {quiet} : gOn quiet e [] = True := rfl
@[go_sem] theorem gOn_one {quiet t b} : gOn quiet e [(t, b)] = (quiet = false ∧ gB b (get e t)) := rfl
@[go_sem] theorem gB_d {b q} : gB b (.d (.bool q)) = (q = b) := rfl
@[go_sem] theorem s_oQE {dst op ty pos aft gd c} : oQ H false ⟨dst, op, ty, pos, aft, gd⟩ P e s K [] c .bad = oE K (effQ P op e s) := by
  simp only [oQ, oE]
  cases effQ P op e s <;> rfl
@[go_sem] theorem s_oE {C v} {e' : Env} {s' : Store} : oE K (.ok C v e' s') = (C ∧ K v e' s') := rfl
@[go_sem] theorem s_oE0 : oE K .bad = False := rfl
@[go_sem] theorem s_okcond {b X Y} : okCond (.d (.bool b)) X Y = ((b = true → X) ∧ (b = false → Y)) := rfl

/-! guards -/
def gT (all : List Oper) (e : Env) (j : Nat) (b : Bool) : Option Tmp → Option (List (Tmp × Bool) × Prop)
  | some t => guardV t b (get e t)
  | none => none
@[go_sem] theorem s_guard0 {all} : guardQ all e none = some ([], True) := rfl
@[go_sem] theorem s_guard {all j b} : guardQ all e (some (j, b)) = gT all e j b (guardT all j) := rfl
@[go_sem] theorem s_gT {all j b t} : gT all e j b (some t) = guardV t b (get e t) := rfl
@[go_sem] theorem s_guardT0 {dst op ty pos aft gd os} : guardT (⟨dst, op, ty, pos, aft, gd⟩ :: os) 0 = dst := rfl
@[go_sem] theorem s_guardTS {o os j} : guardT (o :: os) j = if j = 0 then o.dst else guardT os (j - 1) := by
  by_cases h : j = 0
  · subst h; rfl
  · simp only [guardT, nth, if_neg h]
@[go_sem] theorem s_guardV {t b p} : guardV t b (.d (.bool p)) = some ([(t, b)], p = b) := rfl
@[go_sem] theorem s_guardVW {t b g c p} : guardV t b (.when g c (.d (.bool p))) = some ((t, b) :: g, c ∧ p = b) := rfl
@[go_sem] theorem s_wrap {c v} (h : (match v with | PV.when .. => true | _ => false) = false) : wrapV [] c v = v := by
  unfold wrapV
  cases v <;> first | rfl | cases h
@[go_sem] theorem s_wrapG {t b g c x} : wrapV ((t, b) :: g) c (.d x) = .when ((t, b) :: g) c (.d x) := rfl
@[go_sem] theorem s_wrapR {t b g c x} : wrapV ((t, b) :: g) c (.rptr x) = .when ((t, b) :: g) c (.rptr x) := rfl
@[go_sem] theorem s_wrapP {t b g c i j} : wrapV ((t, b) :: g) c (.ptr i j) = .when ((t, b) :: g) c (.ptr i j) := rfl
@[go_sem] theorem s_wrapE {t b g c i j k} : wrapV ((t, b) :: g) c (.eptr i j k) = .when ((t, b) :: g) c (.eptr i j k) := rfl
@[go_sem] theorem s_wrapO {t b g c i j k} : wrapV ((t, b) :: g) c (.own i j k) = .when ((t, b) :: g) c (.own i j k) := rfl
@[go_sem] theorem s_wrapA {t b g c x} : wrapV ((t, b) :: g) c (.agg x) = .when ((t, b) :: g) c (.agg x) := rfl
@[go_sem] theorem s_wrapT {t b g c x} : wrapV ((t, b) :: g) c (.tup x) = .when ((t, b) :: g) c (.tup x) := rfl
@[go_sem] theorem s_wrapC {t b g c x y z} : wrapV ((t, b) :: g) c (.clo x y z) = .when ((t, b) :: g) c (.clo x y z) := rfl
@[go_sem] theorem s_wrapU {t b g c} : wrapV ((t, b) :: g) c .unk = .when ((t, b) :: g) c .unk := rfl

/-! the environment -/
@[go_sem] theorem s_get {t u v} : get ((t, v) :: e) u = if t = u then v else get e u := rfl
@[go_sem] theorem s_get0 {u} : get [] u = .unk := rfl
variable {ε : Nat → PV} {g : List (Tmp × Bool)}
@[go_sem] theorem s_opT {t} : opnd ε g (.tmp t) = strip g (ε t) := rfl
@[go_sem] theorem s_opC {v} : opnd ε g (.const v) = konst v := rfl
@[go_sem] theorem s_opF {f} : opnd ε g (.func f) = .clo (.func f) [] [] := rfl
@[go_sem] theorem s_stripD {x} : strip g (.d x) = .d x := rfl
@[go_sem] theorem s_stripU : strip g .unk = .unk := rfl
@[go_sem] theorem s_stripO {i j k} : strip g (.own i j k) = .own i j k := rfl
@[go_sem] theorem s_stripP {i j} : strip g (.ptr i j) = .ptr i j := rfl
@[go_sem] theorem s_stripE {i j k} : strip g (.eptr i j k) = .eptr i j k := rfl
@[go_sem] theorem s_stripR {x} : strip g (.rptr x) = .rptr x := rfl
@[go_sem] theorem s_stripA {x} : strip g (.agg x) = .agg x := rfl
@[go_sem] theorem s_stripT {x} : strip g (.tup x) = .tup x := rfl
@[go_sem] theorem s_stripC {x y z} : strip g (.clo x y z) = .clo x y z := rfl
@[go_sem] theorem s_stripI {x y} : strip g (.ifc x y) = .ifc x y := rfl
@[go_sem] theorem s_stripW {h c p} : strip g (.when h c p) = if (h.all fun x => g.contains x) = true then p else .unk := rfl
@[go_sem] theorem s_kI {k n} : konst (.int k n) = .d (.int k n) := rfl
@[go_sem] theorem s_kB {b} : konst (.bool b) = .d (.bool b) := rfl
@[go_sem] theorem s_kS {b : ByteArray} (h : b.size ≤ 1048576) : konst (.string b) = .d (.str b) := by simp [konst, constD, const1, h]
@[go_sem] theorem s_kN : konst (.slice none 0 0) = .d .nil := rfl
@[go_sem] theorem s_kP : konst (.pointer none) = .d .null := rfl
@[go_sem] theorem s_kF : konst .nilIface = .d .if0 := rfl
@[go_sem] theorem s_kFn : konst .nilFunc = .d .fn0 := rfl
@[go_sem] theorem s_kM : konst (.map none) = .d .map0 := rfl

/-! calls -/
@[go_sem] theorem s_calleeV {args f a b} : calleeV args (.clo (.func f) a b) = some (f, a ++ args ++ b) := rfl
@[go_sem] theorem s_callee {f l ts} : calleeQ ε g (.call ⟨.value f, ⟨l⟩, ts⟩) = calleeV (l.map (opnd ε g)) (opnd ε g f) := rfl
@[go_sem] theorem s_calleeB {f l ts} : calleeQ ε g (.call ⟨.builtin f, l, ts⟩) = none := rfl
@[go_sem] theorem s_views0 : viewsV s [] = some ([], false) := rfl
@[go_sem] theorem s_views {p ps} : viewsV s (p :: ps) = vCons (viewV s p) (viewsV s ps) := rfl
@[go_sem] theorem s_vCons {x b xs c} : vCons (some (x, b)) (some (xs, c)) = some (x :: xs, b || c) := rfl
@[go_sem] theorem s_viewD {x} : viewV s (.d x) = some (.d x, false) := rfl
@[go_sem] theorem s_viewR {x} : viewV s (.rptr x) = some (.rptr x, false) := rfl
@[go_sem] theorem s_viewO {i off len} : viewV s (.own i off len) = vOwn off len (nth s i) := rfl
@[go_sem] theorem s_viewP {i off} : viewV s (.ptr i off) = vPtr off (nth s i) := rfl
@[go_sem] theorem s_viewA {cs} : viewV s (.agg cs) = vAgg (viewsV s cs) := rfl
@[go_sem] theorem s_viewC {fn a b} : viewV s (.clo fn a b) = vClo fn (viewsV s a) (viewsV s b) := rfl
@[go_sem] theorem s_vOwn {off len el sz n f} : vOwn off len (some (.arr el sz n f)) = if off = 0 ∧ len = n then some (.d (.list sz n f), true) else none := rfl
@[go_sem] theorem s_vPtr {off cs} : vPtr off (some (.box cs)) = vPtr2 off (allD cs) := rfl
@[go_sem] theorem s_vPtr2 {off ds} : vPtr2 off (some ds) = (dropN ds off).map fun us => (.rptr us, true) := rfl
@[go_sem] theorem s_vAgg {ps b} : vAgg (some (ps, b)) = (allD ps).map fun ds => (.d (.agg ds), b) := rfl
@[go_sem] theorem s_vClo {fn a x b y} : vClo fn (some (a, x)) (some (b, y)) = some (.clo fn a b, x || y) := rfl
@[go_sem] theorem s_allD0 : allD [] = some [] := rfl
@[go_sem] theorem s_allD {x l} : allD (.d x :: l) = (allD l).map (x :: ·) := rfl
@[go_sem] theorem s_mapS {α β : Type} {f : α → β} {x} : (some x).map f = some (f x) := rfl
@[go_sem] theorem s_mapN {α β : Type} {f : α → β} : (none : Option α).map f = none := rfl

/-! the operations -/
variable {wr : Bool} {lim nid : Nat}
@[go_sem] theorem q_move {x} : opQ P wr (.move x) ε g s lim nid = .ok True (opnd ε g x) none := rfl
@[go_sem] theorem q_assign {x} : opQ P wr (.assign x) ε g s lim nid = .ok True (opnd ε g x) none := rfl
def pickQ : PV → PV → PV → QR
  | .d (.bool p), .d (.bool x), .d (.bool y) => .ok True (.d (.bool (bif p then x else y))) none
  | _, _, _ => .bad
@[go_sem] theorem q_pick {t a b} : opQ P wr (.pick (.tmp t) a b) ε g s lim nid = pickQ (opnd ε g (.tmp t)) (opnd ε ((t, true) :: g) a) (opnd ε ((t, false) :: g) b) := by
  simp only [opQ, pickQ]
  split <;> simp_all
@[go_sem] theorem q_pickB {p x y} : pickQ (.d (.bool p)) (.d (.bool x)) (.d (.bool y)) = .ok True (.d (.bool (bif p then x else y))) none := rfl
def allocQ (nid : Nat) : Option DV → QR
  | some z => .ok True (.ptr nid 0) (some (.box (z.cells.map .d)))
  | none => .bad
@[go_sem] theorem q_alloc {t} : opQ P wr (.alloc t) ε g s lim nid = allocQ nid (zeroOf P t) := by
  simp only [opQ, allocQ]
  cases zeroOf P t <;> rfl
@[go_sem] theorem q_allocS {z} : allocQ nid (some z) = .ok True (.ptr nid 0) (some (.box (z.cells.map .d))) := rfl
@[go_sem] theorem q_box {t x} : opQ P wr (.box t x) ε g s lim nid = if (opnd ε g x).plain = true then .ok True (.ptr nid 0) (some (.box (opnd ε g x).cells)) else .bad := rfl
@[go_sem] theorem q_build {t l} : opQ P wr (.build t ⟨l⟩) ε g s lim nid = buildQ P t (partsP ε g l) := rfl
@[go_sem] theorem q_buildSlice {t n l} : opQ P wr (.buildSlice t n ⟨l⟩) ε g s lim nid = buildSliceQ P t n nid (partsP ε g l) := rfl
@[go_sem] theorem q_load {t x} : opQ P wr (.load t x) ε g s lim nid = loadQ P t s lim (opnd ε g x) := rfl
@[go_sem] theorem q_nil {x} : opQ P wr (.nilCheck x) ε g s lim nid = nilCheckQ (opnd ε g x) := rfl
@[go_sem] theorem q_bin {op t x y t'} : opQ P wr (.binOp op t x y t') ε g s lim nid = binQ P t wr op (opnd ε g x) (opnd ε g y) := rfl
@[go_sem] theorem q_un {op t x} : opQ P wr (.unOp op t x) ε g s lim nid = unQ op (opnd ε g x) := rfl
@[go_sem] theorem q_conv {a b x} : opQ P wr (.convert a b x) ε g s lim nid = convQ P a b s lim nid (opnd ε g x) := rfl
@[go_sem] theorem q_iface {t x} : opQ P wr (.makeInterface t x) ε g s lim nid = ifaceQ P t (opnd ε g x) := rfl
@[go_sem] theorem q_func {fn a b} : opQ P wr (.makeFunc fn ⟨a⟩ ⟨b⟩) ε g s lim nid = .ok True (.clo fn (a.map (opnd ε g)) (b.map (opnd ε g))) none := rfl
@[go_sem] theorem q_makeSlice {t x y} : opQ P wr (.makeSlice t x y) ε g s lim nid = makeSliceQ P t nid (opnd ε g x) (opnd ε g y) := rfl
@[go_sem] theorem q_slice {t x lo hi} : opQ P wr (.slice t x lo hi none) ε g s lim nid = sliceQ P t s lim (opnd ε g x) (optP ε g lo) (optP ε g hi) := rfl
@[go_sem] theorem q_fieldAddr {t x i} : opQ P wr (.fieldAddr t x i) ε g s lim nid = fieldAddrQ P t i (opnd ε g x) := rfl
@[go_sem] theorem q_field {t x i} : opQ P wr (.field t x i) ε g s lim nid = fieldQ P t i (opnd ε g x) := rfl
@[go_sem] theorem q_indexAddr {t x i} : opQ P wr (.indexAddr t x i) ε g s lim nid = indexAddrQ P t s lim (opnd ε g x) (opnd ε g i) := rfl
def indexT : TD → PV → PV → QR
  | .str, x, y => indexQ x y
  | _, _, _ => .bad
@[go_sem] theorem q_index {t x i} : opQ P wr (.index t x i) ε g s lim nid = indexT (tyOf P t).td (opnd ε g x) (opnd ε g i) := by
  simp only [opQ, indexT]
  cases (tyOf P t).td <;> rfl
@[go_sem] theorem q_indexS {x y} : indexT .str x y = indexQ x y := rfl
@[go_sem] theorem q_extract {x i} : opQ P wr (.extract x i) ε g s lim nid = extractQ (opnd ε g x) i := rfl
@[go_sem] theorem q_len {x t} : opQ P wr (.call ⟨.builtin .len, ⟨[x]⟩, ⟨[t]⟩⟩) ε g s lim nid = lenQ P t (opnd ε g x) := rfl
@[go_sem] theorem q_max {l ts} : opQ P wr (.call ⟨.builtin .max, ⟨l⟩, ts⟩) ε g s lim nid = maxQ (l.map (opnd ε g)) := rfl
@[go_sem] theorem q_min {l ts} : opQ P wr (.call ⟨.builtin .min, ⟨l⟩, ts⟩) ε g s lim nid = minQ (l.map (opnd ε g)) := rfl
@[go_sem] theorem q_store {t x y} : opQ P wr (.store t x y) ε g s lim nid = .bad := rfl
@[go_sem] theorem q_append {l ts} : opQ P wr (.call ⟨.builtin .append, l, ts⟩) ε g s lim nid = .bad := rfl
@[go_sem] theorem f_store {t x y} : effQ P (.store t x y) e s = storeQ P t e s (opnd (get e) [] x) (opnd (get e) [] y) := rfl
@[go_sem] theorem f_append {x y tx ty} : effQ P (.call ⟨.builtin .append, ⟨[x, y]⟩, ⟨[tx, ty]⟩⟩) e s = appendQ P tx ty e s (opnd (get e) [] x) (opnd (get e) [] y) := rfl
@[go_sem] theorem s_lenF {g x ts} : lenFact ε g (.call ⟨.builtin .len, ⟨[x]⟩, ts⟩) = (match g with | [] => factV (opnd ε [] x) | _ => True) := by
  cases g <;> rfl
theorem lenFact_none {g : List (Tmp × Bool)} {o : Op} (h : (match o with | .call _ => true | _ => false) = false) : lenFact ε g o = True := by
  cases g <;> cases o <;> first | rfl | cases h
@[go_sem] theorem s_lf1 {g x} : lenFact ε g (.move x) = True := lenFact_none rfl
@[go_sem] theorem s_lf2 {g x} : lenFact ε g (.assign x) = True := lenFact_none rfl
@[go_sem] theorem s_lf3 {g a b c} : lenFact ε g (.pick a b c) = True := lenFact_none rfl
@[go_sem] theorem s_lf4 {g a b} : lenFact ε g (.build a b) = True := lenFact_none rfl
@[go_sem] theorem s_lf5 {g a b} : lenFact ε g (.load a b) = True := lenFact_none rfl
@[go_sem] theorem s_lf6 {g a} : lenFact ε g (.nilCheck a) = True := lenFact_none rfl
@[go_sem] theorem s_lf7 {g a b c d f} : lenFact ε g (.binOp a b c d f) = True := lenFact_none rfl
@[go_sem] theorem s_lf8 {g a b c} : lenFact ε g (.unOp a b c) = True := lenFact_none rfl
@[go_sem] theorem s_lf9 {g a b c} : lenFact ε g (.convert a b c) = True := lenFact_none rfl
@[go_sem] theorem s_lf10 {g a b} : lenFact ε g (.makeInterface a b) = True := lenFact_none rfl
@[go_sem] theorem s_lf11 {g a b c} : lenFact ε g (.makeFunc a b c) = True := lenFact_none rfl
@[go_sem] theorem s_lf12 {g a b c d f} : lenFact ε g (.slice a b c d f) = True := lenFact_none rfl
@[go_sem] theorem s_lf13 {g a b c} : lenFact ε g (.fieldAddr a b c) = True := lenFact_none rfl
@[go_sem] theorem s_lf14 {g a b c} : lenFact ε g (.field a b c) = True := lenFact_none rfl
@[go_sem] theorem s_lf15 {g a b c} : lenFact ε g (.indexAddr a b c) = True := lenFact_none rfl
@[go_sem] theorem s_lf16 {g a b c} : lenFact ε g (.index a b c) = True := lenFact_none rfl
@[go_sem] theorem s_lf17 {g a b} : lenFact ε g (.extract a b) = True := lenFact_none rfl
@[go_sem] theorem s_lfmax {g l ts} : lenFact ε g (.call ⟨.builtin .max, l, ts⟩) = True := by cases g <;> rfl
@[go_sem] theorem s_lfmin {g l ts} : lenFact ε g (.call ⟨.builtin .min, l, ts⟩) = True := by cases g <;> rfl
@[go_sem] theorem s_factS {b} : factV (.d (.str b)) = fits b.size := rfl
@[go_sem] theorem s_factL {a n f} : factV (.d (.list a n f)) = fits n := rfl
@[go_sem] theorem s_factO {a b n} : factV (.own a b n) = fits n := rfl
@[go_sem] theorem s_factN : factV (.d .nil) = True := rfl
end
end Go.Ev

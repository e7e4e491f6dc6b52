/- A part of the walk over a program with slices and structs as plain values: the step of each operation, proved against the given semantics once for all programs. Conditions: none but those that each theorem names. -/
import Derived.Test.YtnhpgmmhfgdmjaaGreatEvS
set_option linter.unusedVariables false
namespace Go.Ev
section
variable {P : Program} {e : Env} {s : Store} {wr : Bool} {lim nid : Nat} {t : TypeId}
/-! integers -/
section
variable {k : IntKind} {x y : Int}
@[go_sem] theorem b_eql : binQ P t wr .eql (.d (.int k x)) (.d (.int k y)) = .ok True (.d (.bool (x == y))) none := by simp [binQ, cmpI]
@[go_sem] theorem b_neq : binQ P t wr .neq (.d (.int k x)) (.d (.int k y)) = .ok True (.d (.bool (x != y))) none := by simp [binQ, cmpI]
@[go_sem] theorem b_lss : binQ P t wr .lss (.d (.int k x)) (.d (.int k y)) = .ok True (.d (.bool (decide (x < y)))) none := by simp [binQ, cmpI]
@[go_sem] theorem b_leq : binQ P t wr .leq (.d (.int k x)) (.d (.int k y)) = .ok True (.d (.bool (decide (x ≤ y)))) none := by simp [binQ, cmpI]
@[go_sem] theorem b_gtr : binQ P t wr .gtr (.d (.int k x)) (.d (.int k y)) = .ok True (.d (.bool (decide (y < x)))) none := by simp [binQ, cmpI]
@[go_sem] theorem b_geq : binQ P t wr .geq (.d (.int k x)) (.d (.int k y)) = .ok True (.d (.bool (decide (y ≤ x)))) none := by simp [binQ, cmpI]
@[go_sem] theorem b_add : binQ P t false .add (.d (.int k x)) (.d (.int k y)) = .ok (inKind k (x + y)) (.d (.int k (x + y))) none := by simp [binQ, cmpI, arithI]
@[go_sem] theorem b_sub : binQ P t false .sub (.d (.int k x)) (.d (.int k y)) = .ok (inKind k (x - y)) (.d (.int k (x - y))) none := by simp [binQ, cmpI, arithI]
@[go_sem] theorem b_mul : binQ P t false .mul (.d (.int k x)) (.d (.int k y)) = .ok (inKind k (x * y)) (.d (.int k (x * y))) none := by simp [binQ, cmpI, arithI]
@[go_sem] theorem b_addW : binQ P t true .add (.d (.int k x)) (.d (.int k y)) = .ok True (.d (.int k (k.wrap (x + y)))) none := by simp [binQ, cmpI, arithI]
@[go_sem] theorem b_subW : binQ P t true .sub (.d (.int k x)) (.d (.int k y)) = .ok True (.d (.int k (k.wrap (x - y)))) none := by simp [binQ, cmpI, arithI]
@[go_sem] theorem b_mulW : binQ P t true .mul (.d (.int k x)) (.d (.int k y)) = .ok True (.d (.int k (k.wrap (x * y)))) none := by simp [binQ, cmpI, arithI]
@[go_sem] theorem b_quo : binQ P t wr .quo (.d (.int k x)) (.d (.int k y)) = .ok (y ≠ 0 ∧ inKind k (x.tdiv y)) (.d (.int k (x.tdiv y))) none := by simp [binQ, cmpI, arithI]
@[go_sem] theorem b_rem : binQ P t wr .rem (.d (.int k x)) (.d (.int k y)) = .ok (y ≠ 0) (.d (.int k (x.tmod y))) none := by simp [binQ, cmpI, arithI]
@[go_sem] theorem b_and : binQ P t wr .and (.d (.int k x)) (.d (.int k y)) = .ok True (.d (.int k (k.wrap (BitVec.ofInt k.bits x &&& BitVec.ofInt k.bits y).toNat))) none := by simp [binQ, cmpI, arithI]
@[go_sem] theorem b_or : binQ P t wr .or (.d (.int k x)) (.d (.int k y)) = .ok True (.d (.int k (k.wrap (BitVec.ofInt k.bits x ||| BitVec.ofInt k.bits y).toNat))) none := by simp [binQ, cmpI, arithI]
@[go_sem] theorem b_xor : binQ P t wr .xor (.d (.int k x)) (.d (.int k y)) = .ok True (.d (.int k (k.wrap (BitVec.ofInt k.bits x ^^^ BitVec.ofInt k.bits y).toNat))) none := by simp [binQ, cmpI, arithI]
@[go_sem] theorem b_shl {k'} : binQ P t wr .shl (.d (.int k x)) (.d (.int k' y)) = .ok (0 ≤ y) (.d (.int k (k.wrap (x * 2 ^ (min y.toNat k.bits))))) none := rfl
@[go_sem] theorem b_shr {k'} : binQ P t wr .shr (.d (.int k x)) (.d (.int k' y)) = .ok (0 ≤ y) (.d (.int k (x.fdiv (2 ^ (min y.toNat k.bits))))) none := rfl
end
/-! strings, bools -/
section
variable {x y : ByteArray} {a b : Bool}
@[go_sem] theorem b_sadd : binQ P t wr .add (.d (.str x)) (.d (.str y)) = .ok ((x.size + y.size : Nat) ≤ 9223372036854775807) (.d (.str (x ++ y))) none := rfl
@[go_sem] theorem b_seql : binQ P t wr .eql (.d (.str x)) (.d (.str y)) = .ok True (.d (.bool (x.toList == y.toList))) none := rfl
@[go_sem] theorem b_sneq : binQ P t wr .neq (.d (.str x)) (.d (.str y)) = .ok True (.d (.bool (!(x.toList == y.toList)))) none := rfl
@[go_sem] theorem b_slss : binQ P t wr .lss (.d (.str x)) (.d (.str y)) = .ok True (.d (.bool (strLt x y))) none := rfl
@[go_sem] theorem b_sleq : binQ P t wr .leq (.d (.str x)) (.d (.str y)) = .ok True (.d (.bool (strLt x y || x.toList == y.toList))) none := rfl
@[go_sem] theorem b_sgtr : binQ P t wr .gtr (.d (.str x)) (.d (.str y)) = .ok True (.d (.bool (!(strLt x y || x.toList == y.toList)))) none := rfl
@[go_sem] theorem b_sgeq : binQ P t wr .geq (.d (.str x)) (.d (.str y)) = .ok True (.d (.bool (!(strLt x y)))) none := rfl
@[go_sem] theorem b_beql : binQ P t wr .eql (.d (.bool a)) (.d (.bool b)) = if (tyOf P t).td = .bool then .ok True (.d (.bool (a == b))) none else .bad := rfl
@[go_sem] theorem b_bneq : binQ P t wr .neq (.d (.bool a)) (.d (.bool b)) = if (tyOf P t).td = .bool then .ok True (.d (.bool (!(a == b)))) none else .bad := rfl
end
/-! len, max, min, not -/
def lenT : TD → PV → QR
  | .slice _, .d (.list _ n _) => .ok True (.d (.int .i64 n)) none
  | .slice _, .d .nil => .ok True (.d (.int .i64 0)) none
  | .str, .d (.str b) => .ok True (.d (.int .i64 b.size)) none
  | .slice _, .own _ _ n => .ok True (.d (.int .i64 n)) none
  | _, _ => .bad
@[go_sem] theorem l_len {x} : lenQ P t x = lenT (tyOf P t).td x := by
  unfold lenQ lenT
  rfl
@[go_sem] theorem l_lenL {el a n f} : lenT (.slice el) (.d (.list a n f)) = .ok True (.d (.int .i64 n)) none := rfl
@[go_sem] theorem l_lenN {el} : lenT (.slice el) (.d .nil) = .ok True (.d (.int .i64 0)) none := rfl
@[go_sem] theorem l_lenS {b} : lenT .str (.d (.str b)) = .ok True (.d (.int .i64 b.size)) none := rfl
@[go_sem] theorem l_lenO {el a b n} : lenT (.slice el) (.own a b n) = .ok True (.d (.int .i64 n)) none := rfl
@[go_sem] theorem l_max2 {k k' x y} : maxQ [.d (.int k x), .d (.int k' y)] = .ok True (.d (.int k (if y > x then y else x))) none := rfl
@[go_sem] theorem l_min2 {k k' x y} : minQ [.d (.int k x), .d (.int k' y)] = .ok True (.d (.int k (if y < x then y else x))) none := rfl
@[go_sem] theorem l_max3 {k k' k'' x y z} : maxQ [.d (.int k x), .d (.int k' y), .d (.int k'' z)] = .ok True (.d (.int k (if z > (if y > x then y else x) then z else (if y > x then y else x)))) none := rfl
@[go_sem] theorem l_min3 {k k' k'' x y z} : minQ [.d (.int k x), .d (.int k' y), .d (.int k'' z)] = .ok True (.d (.int k (if z < (if y < x then y else x) then z else (if y < x then y else x)))) none := rfl
@[go_sem] theorem l_not {b} : unQ .not (.d (.bool b)) = .ok True (.d (.bool (!b))) none := rfl
@[go_sem] theorem l_neg {k n} : unQ .neg (.d (.int k n)) = .ok (inKind k (0 - n)) (.d (.int k (0 - n))) none := rfl
/-! places -/
def ldBox (ti : TI) (off : Nat) : Option Blk → QR
  | some (.box cs) => (match subN cs off ti.size with
      | some us => if ti.size = 0 then .bad else .ok True (onePV ti.td.isAgg us) none
      | none => .bad)
  | _ => .bad
def ldEl (ti : TI) (i j : Nat) : Option Blk → QR
  | some (.arr _ _ n f) => (match subN (f i).cells j ti.size with
      | some us => if ti.size = 0 then .bad else .ok (i < n) (.d (oneD ti.td.isAgg us)) none
      | none => .bad)
  | _ => .bad
def ld1 (ti : TI) : Option (List PV) → QR
  | some us => if ti.size = 0 then .bad else .ok True (onePV ti.td.isAgg us) none
  | none => .bad
def ld2 (ti : TI) (C : Prop) : Option (List DV) → QR
  | some us => if ti.size = 0 then .bad else .ok C (.d (oneD ti.td.isAgg us)) none
  | none => .bad
@[go_sem] theorem l_ptr {id off} : loadQ P t s lim (.ptr id off) = if id < lim then ldBox (tyOf P t) off (nth s id) else .bad := by
  unfold loadQ ldBox
  dsimp only
  generalize nth s id = b
  rcases b with _ | b
  · rfl
  · cases b with
    | box cs => dsimp only; generalize subN cs off (tyOf P t).size = u; cases u <;> rfl
    | _ => rfl
@[go_sem] theorem l_eptr {id i j} : loadQ P t s lim (.eptr id i j) = if id < lim then ldEl (tyOf P t) i j (nth s id) else .bad := by
  unfold loadQ ldEl
  dsimp only
  generalize nth s id = b
  rcases b with _ | b
  · rfl
  · cases b with
    | arr e sz n f => dsimp only; generalize subN (f i).cells j (tyOf P t).size = u; cases u <;> rfl
    | _ => rfl
@[go_sem] theorem l_rptr {cs} : loadQ P t s lim (.rptr cs) = ld2 (tyOf P t) True (subN cs 0 (tyOf P t).size) := by
  simp only [loadQ, ld2]
  split <;> simp_all
@[go_sem] theorem l_box {ti off cs} : ldBox ti off (some (.box cs)) = ld1 ti (subN cs off ti.size) := by
  simp only [ldBox, ld1]
  try rfl
@[go_sem] theorem l_el {ti i j el sz n f} : ldEl ti i j (some (.arr el sz n f)) = ld2 ti (i < n) (subN (f i).cells j ti.size) := by
  simp only [ldEl, ld2]
  try rfl
@[go_sem] theorem l_1 {td n b us} : ld1 ⟨td, n + 1, b⟩ (some us) = .ok True (onePV td.isAgg us) none := rfl
@[go_sem] theorem l_2 {td n b us C} : ld2 ⟨td, n + 1, b⟩ C (some us) = .ok C (.d (oneD td.isAgg us)) none := rfl
section
variable {α : Type} {l : List α} {x : α} {n o : Nat}
@[go_sem] theorem n_drop0 : dropN l 0 = some l := by cases l <;> rfl
@[go_sem] theorem n_dropS : dropN (x :: l) (n + 1) = dropN l n := by simp [dropN]
@[go_sem] theorem n_take0 : takeN l 0 = some [] := by cases l <;> rfl
@[go_sem] theorem n_takeS : takeN (x :: l) (n + 1) = (takeN l n).map (x :: ·) := by simp [takeN]
@[go_sem] theorem n_sub : subN l o n = (dropN l o).bind (takeN · n) := rfl
@[go_sem] theorem n_bind {β : Type} {f : α → Option β} : (some x).bind f = f x := rfl
@[go_sem] theorem n_nth0 : nth (x :: l) 0 = some x := rfl
@[go_sem] theorem n_nthS : nth (x :: l) (n + 1) = nth l n := by simp [nth]
@[go_sem] theorem n_set0 {y : α} : setN (x :: l) 0 y = y :: l := rfl
@[go_sem] theorem n_setS {y : α} : setN (x :: l) (n + 1) y = x :: setN l n y := by simp [setN]
@[go_sem] theorem n_sets0 : setsN l o [] = l := by cases l <;> rfl
@[go_sem] theorem n_setsS {y : α} {ys} : setsN l o (y :: ys) = setsN (setN l o y) (o + 1) ys := rfl
end
attribute [go_sem] onePV oneD TD.isAgg
@[go_sem] theorem dc_agg {cs} : (DV.agg cs).cells = cs := rfl
@[go_sem] theorem dc_int {k n} : (DV.int k n).cells = [.int k n] := rfl
@[go_sem] theorem dc_str {b} : (DV.str b).cells = [.str b] := rfl
@[go_sem] theorem dc_bool {b} : (DV.bool b).cells = [.bool b] := rfl
@[go_sem] theorem dc_list {a n f} : (DV.list a n f).cells = [.list a n f] := rfl
@[go_sem] theorem dc_nil : DV.nil.cells = [.nil] := rfl
@[go_sem] theorem dc_null : DV.null.cells = [.null] := rfl
@[go_sem] theorem dc_if0 : DV.if0.cells = [.if0] := rfl
@[go_sem] theorem dc_ifc {t d} : (DV.ifc t d).cells = [.ifc t d] := rfl
@[go_sem] theorem pc_agg {cs} : (PV.agg cs).cells = cs := rfl
@[go_sem] theorem pc_dagg {cs} : (PV.d (.agg cs)).cells = cs.map .d := rfl
@[go_sem] theorem pc_int {k n} : (PV.d (.int k n)).cells = [.d (.int k n)] := rfl
@[go_sem] theorem pc_str {b} : (PV.d (.str b)).cells = [.d (.str b)] := rfl
@[go_sem] theorem pc_bool {b} : (PV.d (.bool b)).cells = [.d (.bool b)] := rfl
@[go_sem] theorem pc_list {a n f} : (PV.d (.list a n f)).cells = [.d (.list a n f)] := rfl
@[go_sem] theorem pc_nil : (PV.d .nil).cells = [.d .nil] := rfl
@[go_sem] theorem pc_null : (PV.d .null).cells = [.d .null] := rfl
@[go_sem] theorem pc_if0 : (PV.d .if0).cells = [.d .if0] := rfl
@[go_sem] theorem pc_ifc {t d} : (PV.d (.ifc t d)).cells = [.d (.ifc t d)] := rfl
@[go_sem] theorem pc_own {i o n} : (PV.own i o n).cells = [.own i o n] := rfl
@[go_sem] theorem pc_ptr {i o} : (PV.ptr i o).cells = [.ptr i o] := rfl
@[go_sem] theorem pc_eptr {i o n} : (PV.eptr i o n).cells = [.eptr i o n] := rfl
@[go_sem] theorem pc_rptr {cs} : (PV.rptr cs).cells = [.rptr cs] := rfl
@[go_sem] theorem pc_clo {f a b} : (PV.clo f a b).cells = [.clo f a b] := rfl
@[go_sem] theorem pp_d {x} : (PV.d x).plain = true := rfl
@[go_sem] theorem pp_agg {x} : (PV.agg x).plain = true := rfl
@[go_sem] theorem pp_own {i o n} : (PV.own i o n).plain = true := rfl
@[go_sem] theorem pp_ptr {i o} : (PV.ptr i o).plain = true := rfl
@[go_sem] theorem pp_eptr {i o n} : (PV.eptr i o n).plain = true := rfl
@[go_sem] theorem pp_rptr {x} : (PV.rptr x).plain = true := rfl
@[go_sem] theorem pp_clo {f a b} : (PV.clo f a b).plain = true := rfl
@[go_sem] theorem pp_unk : PV.unk.plain = false := rfl
def fAddr (ti : TI) (o : Nat) : PV → QR
  | .ptr id off => if ti.size = 0 then .bad else .ok True (.ptr id (off + o)) none
  | .eptr id i j => if ti.size = 0 then .bad else .ok True (.eptr id i (j + o)) none
  | .rptr cs => if ti.size = 0 then .bad else (match dropN cs o with
        | some us => .ok True (.rptr us) none
        | none => .bad)
  | _ => .bad
def fAddr2 (P : Program) (x : PV) : Option (Nat × TypeId) → QR
  | some (o, ft) => fAddr (tyOf P ft) o x
  | none => .bad
def fAddr3 (P : Program) (i : Nat) (x : PV) : TD → QR
  | .struct fs => fAddr2 P x (nth fs i)
  | _ => .bad
def fRptr : Option (List DV) → QR
  | some us => .ok True (.rptr us) none
  | none => .bad
@[go_sem] theorem f_addr {st i x} : fieldAddrQ P st i x = fAddr3 P i x (tyOf P st).td := by
  unfold fieldAddrQ fAddr3
  cases (tyOf P st).td <;> try rfl
  rename_i fs
  dsimp only
  unfold fAddr2
  cases nth fs i with
  | none => rfl
  | some y =>
    obtain ⟨o, ft⟩ := y
    dsimp only
    by_cases h : (tyOf P ft).size = 0 <;> simp only [h, if_true, if_false, fAddr] <;> cases x <;> first | rfl | (simp only [h, if_true, if_false]; done) | (simp only [h, if_true, if_false]; cases dropN _ o <;> rfl)
@[go_sem] theorem f_addr3 {i x fs} : fAddr3 P i x (.struct fs) = fAddr2 P x (nth fs i) := rfl
@[go_sem] theorem f_addr2 {x o ft} : fAddr2 P x (some (o, ft)) = fAddr (tyOf P ft) o x := rfl
@[go_sem] theorem f_addrP {td n b o id off} : fAddr ⟨td, n + 1, b⟩ o (.ptr id off) = .ok True (.ptr id (off + o)) none := rfl
@[go_sem] theorem f_addrE {td n b o id i j} : fAddr ⟨td, n + 1, b⟩ o (.eptr id i j) = .ok True (.eptr id i (j + o)) none := rfl
@[go_sem] theorem f_addrR {td n b o cs} : fAddr ⟨td, n + 1, b⟩ o (.rptr cs) = fRptr (dropN cs o) := by
  simp only [fAddr, fRptr]
  rw [if_neg (by simp)]
@[go_sem] theorem f_addrR2 {us} : fRptr (some us) = .ok True (.rptr us) none := rfl
def fld (ti : TI) (o : Nat) : PV → QR
  | .agg cs => ld1 ti (subN cs o ti.size)
  | .d (.agg cs) => ld2 ti True (subN cs o ti.size)
  | _ => .bad
def fld2 (P : Program) (x : PV) : Option (Nat × TypeId) → QR
  | some (o, ft) => fld (tyOf P ft) o x
  | none => .bad
def fld3 (P : Program) (i : Nat) (x : PV) : TD → QR
  | .struct fs => fld2 P x (nth fs i)
  | _ => .bad
@[go_sem] theorem f_field {st i x} : fieldQ P st i x = fld3 P i x (tyOf P st).td := by
  unfold fieldQ fld3
  cases (tyOf P st).td <;> rfl
@[go_sem] theorem f_field3 {i x fs} : fld3 P i x (.struct fs) = fld2 P x (nth fs i) := rfl
@[go_sem] theorem f_field2 {x o ft} : fld2 P x (some (o, ft)) = fld (tyOf P ft) o x := rfl
@[go_sem] theorem f_fieldA {ti o cs} : fld ti o (.agg cs) = ld1 ti (subN cs o ti.size) := rfl
@[go_sem] theorem f_fieldD {ti o cs} : fld ti o (.d (.agg cs)) = ld2 ti True (subN cs o ti.size) := rfl
/-! elements -/
def idx (P : Program) (s : Store) (lim : Nat) : TD → PV → PV → QR
  | .slice e, .d (.list sz n f), .d (.int _ k) => if sz = (tyOf P e).size ∧ sz ≠ 0 then .ok (0 ≤ k ∧ k < n) (.rptr (f k.toNat).cells) none else .bad
  | .slice e, .own id off len, .d (.int _ k) => if blkSize s lim id = (tyOf P e).size ∧ (tyOf P e).size ≠ 0 then .ok (0 ≤ k ∧ k < len) (.eptr id (off + k.toNat) 0) none else .bad
  | .array n e, .ptr id off, .d (.int _ k) => if (tyOf P e).size ≠ 0 then .ok (0 ≤ k ∧ k < n) (.ptr id (off + k.toNat * (tyOf P e).size)) none else .bad
  | _, _, _ => .bad
@[go_sem] theorem i_addr {x i} : indexAddrQ P t s lim x i = idx P s lim (tyOf P t).td x i := by
  unfold indexAddrQ idx
  rfl
@[go_sem] theorem i_list {el sz n f k kk} : idx P s lim (.slice el) (.d (.list sz n f)) (.d (.int kk k)) = if sz = (tyOf P el).size ∧ sz ≠ 0 then .ok (0 ≤ k ∧ k < n) (.rptr (f k.toNat).cells) none else .bad := rfl
@[go_sem] theorem i_own {el id off len k kk} : idx P s lim (.slice el) (.own id off len) (.d (.int kk k)) = if blkSize s lim id = (tyOf P el).size ∧ (tyOf P el).size ≠ 0 then .ok (0 ≤ k ∧ k < len) (.eptr id (off + k.toNat) 0) none else .bad := rfl
@[go_sem] theorem i_arr {n el id off k kk} : idx P s lim (.array n el) (.ptr id off) (.d (.int kk k)) = if (tyOf P el).size ≠ 0 then .ok (0 ≤ k ∧ k < n) (.ptr id (off + k.toNat * (tyOf P el).size)) none else .bad := rfl
/-! structs and arrays that are written out -/
def bldR : Option (List PV) → QR
  | some cs => .ok True (.agg cs) none
  | none => .bad
def plS (P : Program) (fs : List (Nat × TypeId)) (i : Nat) : Option (Nat × Nat) := (nth fs i).map fun x => (x.1, (tyOf P x.2).size)
def plA (sz : Nat) (i : Nat) : Option (Nat × Nat) := some (i * sz, sz)
def bld (P : Program) (parts : List (Nat × PV)) : TD → Option DV → QR
  | .struct fs, some z => if fs.all (fun x => (tyOf P x.2).size != 0) then bldR (fillP (plS P fs) (z.cells.map .d) parts) else .bad
  | .array _ e, some z => if (tyOf P e).size ≠ 0 then bldR (fillP (plA (tyOf P e).size) (z.cells.map .d) parts) else .bad
  | _, _ => .bad
@[go_sem] theorem b_build {parts} : buildQ P t parts = bld P parts (tyOf P t).td (zeroOf P t) := by
  unfold buildQ bld
  cases zeroOf P t with
  | none => cases (tyOf P t).td <;> rfl
  | some z =>
    cases (tyOf P t).td with
    | struct fs =>
      dsimp only
      split
      · show (match fillP (plS P fs) (z.cells.map .d) parts with | some cs => QR.ok True (PV.agg cs) none | none => QR.bad) = _
        cases fillP (plS P fs) (z.cells.map .d) parts <;> rfl
      · rfl
    | array n e =>
      dsimp only
      split
      · show (match fillP (plA (tyOf P e).size) (z.cells.map .d) parts with | some cs => QR.ok True (PV.agg cs) none | none => QR.bad) = _
        cases fillP (plA (tyOf P e).size) (z.cells.map .d) parts <;> rfl
      · rfl
    | _ => rfl
@[go_sem] theorem b_struct {parts fs z} : bld P parts (.struct fs) (some z) = if fs.all (fun x => (tyOf P x.2).size != 0) then bldR (fillP (plS P fs) (z.cells.map .d) parts) else .bad := rfl
@[go_sem] theorem b_array {parts n e z} : bld P parts (.array n e) (some z) = if (tyOf P e).size ≠ 0 then bldR (fillP (plA (tyOf P e).size) (z.cells.map .d) parts) else .bad := rfl
@[go_sem] theorem b_some {cs} : bldR (some cs) = .ok True (.agg cs) none := rfl
def fill1 (place : Nat → Option (Nat × Nat)) (cs : List PV) (p : PV) (rest : List (Nat × PV)) : Option (Nat × Nat) → Option (List PV)
  | some (o, sz) => if p.cells.length = sz ∧ p.plain = true ∧ o + sz ≤ cs.length then fillP place (setsN cs o p.cells) rest else none
  | none => none
@[go_sem] theorem b_fill0 {place cs} : fillP place cs [] = some cs := rfl
@[go_sem] theorem b_fill {place cs i p rest} : fillP place cs ((i, p) :: rest) = fill1 place cs p rest (place i) := by
  rw [fillP]
  unfold fill1
  cases place i with
  | none => rfl
  | some x => rfl
@[go_sem] theorem b_fill1 {place cs p rest o sz} : fill1 place cs p rest (some (o, sz)) = if p.cells.length = sz ∧ p.plain = true ∧ o + sz ≤ cs.length then fillP place (setsN cs o p.cells) rest else none := rfl
def plS1 (P : Program) : Option (Nat × TypeId) → Option (Nat × Nat)
  | some (o, t) => some (o, (tyOf P t).size)
  | none => none
@[go_sem] theorem b_plS {fs i} : plS P fs i = plS1 P (nth fs i) := by
  unfold plS plS1
  cases nth fs i with
  | none => rfl
  | some x => rfl
@[go_sem] theorem b_plS1 {o t} : plS1 P (some (o, t)) = some (o, (tyOf P t).size) := rfl
@[go_sem] theorem b_plA {sz i} : plA sz i = some (i * sz, sz) := rfl
@[go_sem] theorem b_sets0 {β : Type} {l : List β} {o} : setsN l o [] = l := rfl
@[go_sem] theorem b_sets {β : Type} {l : List β} {o y ys} : setsN l o (y :: ys) = setsN (setN l o y) (o + 1) ys := rfl
def ifc1 (t : TypeId) (x : PV) : TD → QR
  | .iface _ | .bad => .bad
  | _ => (match x with
    | .d y => .ok True (.d (.ifc t y)) none
    | .unk | .tup _ | .when .. => .bad
    | p => .ok True (.ifc t p) none)
def bsz : Option Blk → Nat
  | some (.arr _ sz _ _) => sz
  | _ => 0
@[go_sem] theorem i_blk {id} : blkSize s lim id = if id < lim then bsz (nth s id) else 0 := by
  unfold blkSize bsz
  rfl
@[go_sem] theorem i_bsz {el sz n f} : bsz (some (.arr el sz n f)) = sz := rfl
@[go_sem] theorem i_str {b k kk} : indexQ (.d (.str b)) (.d (.int kk k)) = .ok (0 ≤ k ∧ k < b.size) (.d (.int .u8 (bget b k.toNat))) none := rfl
@[go_sem] theorem i_ext {vs i} : extractQ (.tup vs) i = (match nth vs i with | some v => QR.ok True v none | none => .bad) := rfl
@[go_sem] theorem i_ext0 {vs v} : extractQ (.tup (v :: vs)) 0 = .ok True v none := rfl
@[go_sem] theorem i_ext1 {vs u v} : extractQ (.tup (u :: v :: vs)) 1 = .ok True v none := rfl
@[go_sem] theorem i_ext2 {vs u v x} : extractQ (.tup (u :: v :: x :: vs)) 2 = .ok True x none := rfl
@[go_sem] theorem i_res {x} : resPV [x] = .d x := rfl
@[go_sem] theorem i_res2 {x y l} : resPV (x :: y :: l) = .tup (.d x :: .d y :: l.map .d) := rfl
def cnv (P : Program) (nid : Nat) (td : TD) : TD → PV → QR
  | .slice e, .d (.str s) => if td = .str ∧ (tyOf P e).td = .int .u8 then .ok True (.own nid 0 s.size) (some (.arr e 1 s.size (fun i => .int .u8 (bget s i)))) else .bad
  | .int k, .d (.int _ n) => if td ≠ .bad then .ok True (.d (.int k (k.wrap n))) none else .bad
  | .str, .d (.str s) => if td = .str then .ok True (.d (.str s)) none else .bad
  | _, _ => .bad
def cnvS (P : Program) (s : Store) (lim nid : Nat) (ta tb : TD) (x : PV) : Bool → QR
  | true => toStrQ s lim x
  | false => cnv P nid ta tb x
def isStr : TD → Bool
  | .str => true
  | _ => false
@[go_sem] theorem is_str : isStr .str = true := rfl
@[go_sem] theorem is_int {k} : isStr (.int k) = false := rfl
@[go_sem] theorem is_sl {e} : isStr (.slice e) = false := rfl
@[go_sem] theorem isb_sl {e} : isBytes P (.slice e) = ((tyOf P e).td == .int .u8) := rfl
@[go_sem] theorem isb_str : isBytes P .str = false := rfl
@[go_sem] theorem isb_int {k} : isBytes P (.int k) = false := rfl
@[go_sem] theorem td_u8 : (TD.int .u8 == .int .u8) = true := rfl
@[go_sem] theorem cnv_t {ta tb x} : cnvS P s lim nid ta tb x true = toStrQ s lim x := rfl
@[go_sem] theorem cnv_f {ta tb x} : cnvS P s lim nid ta tb x false = cnv P nid ta tb x := rfl
@[go_sem] theorem ts_nil : toStrQ s lim (.d .nil) = .ok True (.d (.str ByteArray.empty)) none := rfl
@[go_sem] theorem ts_list {n f} : toStrQ s lim (.d (.list 1 n f)) = .ok (∀ i, i < n → isB (f i) = true) (.d (.str (strOf n f))) none := rfl
@[go_sem] theorem ts_own {id off len} : toStrQ s lim (.own id off len) = strOwn off len (blkOf s lim id) := rfl
@[go_sem] theorem bl_of {id} : blkOf s lim id = if id < lim then nth s id else none := rfl
@[go_sem] theorem so_arr {off len e n f} : strOwn off len (some (.arr e 1 n f)) = .ok (off + len ≤ n ∧ ∀ i, i < len → isB (f (off + i)) = true) (.d (.str (strOf len fun i => f (off + i)))) none := rfl
@[go_sem] theorem c_conv {a b x} : convQ P a b s lim nid x = cnvS P s lim nid (tyOf P a).td (tyOf P b).td x (isStr (tyOf P b).td && isBytes P (tyOf P a).td) := by
  unfold convQ
  generalize (tyOf P b).td = tb
  generalize (tyOf P a).td = ta
  cases tb <;> first
    | (rw [if_neg (by simp)]; rfl)
    | skip
  cases h : isBytes P ta
  · rw [if_neg (by simp)]; rfl
  · rw [if_pos (by simp)]; rfl
@[go_sem] theorem c_bytes {e b} : cnv P nid .str (.slice e) (.d (.str b)) = if (tyOf P e).td = .int .u8 then .ok True (.own nid 0 b.size) (some (.arr e 1 b.size (fun i => .int .u8 (bget b i)))) else .bad := by
  simp [cnv]
@[go_sem] theorem c_int {td k kk n} (h : td ≠ .bad) : cnv P nid td (.int k) (.d (.int kk n)) = .ok True (.d (.int k (k.wrap n))) none := by simp [cnv, h]
@[go_sem] theorem c_str {b} : cnv P nid .str .str (.d (.str b)) = .ok True (.d (.str b)) none := rfl
/-! slices -/
def slc (P : Program) (s : Store) (lim : Nat) (lo hi : Option PV) : TD → PV → QR
  | .str, .d (.str b) => (match boundsQ b.size lo hi with
    | some (c, l, h) => .ok c (.d (.str (b.extract l.toNat h.toNat))) none
    | none => .bad)
  | .slice e, .d (.list sz n f) => if sz = (tyOf P e).size ∧ sz ≠ 0 then (match boundsQ n lo hi with
    | some (c, l, h) => .ok c (.d (.list sz (h.toNat - l.toNat) (win l.toNat (h.toNat - l.toNat) n f))) none
    | none => .bad) else .bad
  | .slice e, .own id off len => if blkSize s lim id = (tyOf P e).size ∧ (tyOf P e).size ≠ 0 then (match boundsQ len lo hi with
    | some (c, l, h) => .ok c (.own id (off + l.toNat) (h.toNat - l.toNat)) none
    | none => .bad) else .bad
  | _, _ => .bad
@[go_sem] theorem z_slice {x lo hi} : sliceQ P t s lim x lo hi = slc P s lim lo hi (tyOf P t).td x := by
  unfold sliceQ slc
  rfl
def slcS (b : ByteArray) : Option (Prop × Int × Int) → QR
  | some (c, l, h) => .ok c (.d (.str (b.extract l.toNat h.toNat))) none
  | none => .bad
def slcL (sz n : Nat) (f : Nat → DV) : Option (Prop × Int × Int) → QR
  | some (c, l, h) => .ok c (.d (.list sz (h.toNat - l.toNat) (win l.toNat (h.toNat - l.toNat) n f))) none
  | none => .bad
def slcO (id off : Nat) : Option (Prop × Int × Int) → QR
  | some (c, l, h) => .ok c (.own id (off + l.toNat) (h.toNat - l.toNat)) none
  | none => .bad
@[go_sem] theorem z_str {lo hi b} : slc P s lim lo hi .str (.d (.str b)) = slcS b (boundsQ b.size lo hi) := rfl
@[go_sem] theorem z_list {lo hi el sz n f} : slc P s lim lo hi (.slice el) (.d (.list sz n f)) = if sz = (tyOf P el).size ∧ sz ≠ 0 then slcL sz n f (boundsQ n lo hi) else .bad := rfl
@[go_sem] theorem z_own {lo hi el id off len} : slc P s lim lo hi (.slice el) (.own id off len) = if blkSize s lim id = (tyOf P el).size ∧ (tyOf P el).size ≠ 0 then slcO id off (boundsQ len lo hi) else .bad := rfl
@[go_sem] theorem z_strS {b c l h} : slcS b (some (c, l, h)) = .ok c (.d (.str (b.extract l.toNat h.toNat))) none := rfl
@[go_sem] theorem z_listS {sz n f c l h} : slcL sz n f (some (c, l, h)) = .ok c (.d (.list sz (h.toNat - l.toNat) (win l.toNat (h.toNat - l.toNat) n f))) none := rfl
@[go_sem] theorem z_ownS {id off c l h} : slcO id off (some (c, l, h)) = .ok c (.own id (off + l.toNat) (h.toNat - l.toNat)) none := rfl
@[go_sem] theorem z_b1 {n k l k' h} : boundsQ n (some (.d (.int k l))) (some (.d (.int k' h))) = some (0 ≤ l ∧ l ≤ h ∧ h ≤ n, l, h) := rfl
@[go_sem] theorem z_b2 {n k' h} : boundsQ n none (some (.d (.int k' h))) = some (0 ≤ h ∧ h ≤ n, 0, h) := rfl
@[go_sem] theorem z_b3 {n k l} : boundsQ n (some (.d (.int k l))) none = some (0 ≤ l ∧ l ≤ n, l, (n : Int)) := rfl
@[go_sem] theorem z_b4 {n} : boundsQ n none none = some (True, 0, (n : Int)) := rfl
@[go_sem] theorem z_o1 {ε g x} : optP ε g (some x) = some (opnd ε g x) := rfl
@[go_sem] theorem z_o0 {ε g} : optP ε g none = none := rfl
section
variable {ε : Nat → PV} {g : List (Tmp × Bool)}
@[go_sem] theorem k_move {a} : calleeQ ε g (.move a) = none := rfl
@[go_sem] theorem k_assign {a} : calleeQ ε g (.assign a) = none := rfl
@[go_sem] theorem k_pick {a b c} : calleeQ ε g (.pick a b c) = none := rfl
@[go_sem] theorem k_build {a b} : calleeQ ε g (.build a b) = none := rfl
@[go_sem] theorem k_buildSlice {a b c} : calleeQ ε g (.buildSlice a b c) = none := rfl
@[go_sem] theorem k_load {a b} : calleeQ ε g (.load a b) = none := rfl
@[go_sem] theorem k_store {a b c} : calleeQ ε g (.store a b c) = none := rfl
@[go_sem] theorem k_nilCheck {a} : calleeQ ε g (.nilCheck a) = none := rfl
@[go_sem] theorem k_binOp {a b c d f} : calleeQ ε g (.binOp a b c d f) = none := rfl
@[go_sem] theorem k_unOp {a b c} : calleeQ ε g (.unOp a b c) = none := rfl
@[go_sem] theorem k_convert {a b c} : calleeQ ε g (.convert a b c) = none := rfl
@[go_sem] theorem k_makeInterface {a b} : calleeQ ε g (.makeInterface a b) = none := rfl
@[go_sem] theorem k_makeFunc {a b c} : calleeQ ε g (.makeFunc a b c) = none := rfl
@[go_sem] theorem k_makeSlice {a b c} : calleeQ ε g (.makeSlice a b c) = none := rfl
@[go_sem] theorem k_slice {a b c d f} : calleeQ ε g (.slice a b c d f) = none := rfl
@[go_sem] theorem k_fieldAddr {a b c} : calleeQ ε g (.fieldAddr a b c) = none := rfl
@[go_sem] theorem k_field {a b c} : calleeQ ε g (.field a b c) = none := rfl
@[go_sem] theorem k_indexAddr {a b c} : calleeQ ε g (.indexAddr a b c) = none := rfl
@[go_sem] theorem k_index {a b c} : calleeQ ε g (.index a b c) = none := rfl
@[go_sem] theorem k_extract {a b} : calleeQ ε g (.extract a b) = none := rfl
@[go_sem] theorem k_alloc {a} : calleeQ ε g (.alloc a) = none := rfl
@[go_sem] theorem k_box {a b} : calleeQ ε g (.box a b) = none := rfl
end
@[go_sem] theorem g_beq {a b : Nat} {x y : Bool} : ((a, x) == (b, y)) = (a == b && x == y) := rfl
@[go_sem] theorem g_tf : (true == false) = false := rfl
@[go_sem] theorem g_ft : (false == true) = false := rfl
@[go_sem] theorem z_Le {lo e' s' e s} : Le lo e' s' e s = (leE e' e ∧ leS s' s ∧ (decide (lo ≤ s'.length) && ltE s'.length e' && ltS s'.length s') = true) := rfl
@[go_sem] theorem z_leE0 {e} : leE [] e = True := rfl
@[go_sem] theorem z_leE {t v e' e} : leE ((t, v) :: e') e = (get e t = v ∧ leE e' e) := rfl
@[go_sem] theorem z_leS0 {s} : leS [] s = True := by cases s <;> rfl
@[go_sem] theorem z_leS {b s' c s} : leS (b :: s') (c :: s) = (c = b ∧ leS s' s) := rfl
@[go_sem] theorem z_ltE0 {n} : ltE n [] = true := rfl
@[go_sem] theorem z_ltE {n t p e} : ltE n ((t, p) :: e) = (p.lt n && ltE n e) := rfl
@[go_sem] theorem z_ltS0 {n} : ltS n [] = true := rfl
@[go_sem] theorem z_ltS {n b s} : ltS n (b :: s) = (b.lt n && ltS n s) := rfl
attribute [go_sem] PV.lt ltL Blk.lt Nat.le_refl Nat.zero_le decide_true decide_false
@[go_sem] theorem g_i64 {n : Int} : inKind .i64 n = (-9223372036854775808 ≤ n ∧ n ≤ 9223372036854775807) := by
  have h1 : IntKind.i64.min = -9223372036854775808 := by decide
  have h2 : IntKind.i64.max = 9223372036854775807 := by decide
  simp only [inKind, h1, h2]
@[go_sem] theorem g_u64 {n : Int} : inKind .u64 n = (0 ≤ n ∧ n ≤ 18446744073709551615) := by
  have h1 : IntKind.u64.min = 0 := by decide
  have h2 : IntKind.u64.max = 18446744073709551615 := by decide
  simp only [inKind, h1, h2]
@[go_sem] theorem g_u8 {n : Int} : inKind .u8 n = (0 ≤ n ∧ n ≤ 255) := by
  have h1 : IntKind.u8.min = 0 := by decide
  have h2 : IntKind.u8.max = 255 := by decide
  simp only [inKind, h1, h2]
@[go_sem] theorem g_i32 {n : Int} : inKind .i32 n = (-2147483648 ≤ n ∧ n ≤ 2147483647) := by
  have h1 : IntKind.i32.min = -2147483648 := by decide
  have h2 : IntKind.i32.max = 2147483647 := by decide
  simp only [inKind, h1, h2]
@[go_sem] theorem g_u32 {n : Int} : inKind .u32 n = (0 ≤ n ∧ n ≤ 4294967295) := by
  have h1 : IntKind.u32.min = 0 := by decide
  have h2 : IntKind.u32.max = 4294967295 := by decide
  simp only [inKind, h1, h2]
/-! writes -/
def stBox (sz : Nat) (e : Env) (s : Store) (id off : Nat) (y : PV) : Option Blk → ER
  | some (.box cs) => if y.plain = true ∧ y.cells.length = sz ∧ sz ≠ 0 ∧ off + y.cells.length ≤ cs.length then .ok True .unk e (setN s id (.box (setsN cs off y.cells))) else .bad
  | _ => .bad
def stEl2 (sz : Nat) (e : Env) (s : Store) (id i j : Nat) (el sz' n : Nat) (f : Nat → DV) : Option DV → ER
  | some d => if d.cells.length = sz ∧ sz ≠ 0 ∧ d.cells.length = sz' ∧ j = 0 then .ok (i < n) .unk e (setN s id (.arr el sz' n (fun k => if k = i then d else f k))) else .bad
  | none => .bad
def stEl (sz : Nat) (e : Env) (s : Store) (id i j : Nat) (y : PV) : Option Blk → ER
  | some (.arr el sz' n f) => stEl2 sz e s id i j el sz' n f y.deep
  | _ => .bad
@[go_sem] theorem t_ptr {e id off y} : storeQ P t e s (.ptr id off) y = stBox (tyOf P t).size e s id off y (nth s id) := by
  unfold storeQ stBox
  rfl
@[go_sem] theorem t_eptr {e id i j y} : storeQ P t e s (.eptr id i j) y = stEl (tyOf P t).size e s id i j y (nth s id) := by
  unfold storeQ stEl
  dsimp only
  generalize nth s id = b
  rcases b with _ | b
  · rfl
  · cases b <;> rfl
@[go_sem] theorem t_box {sz e id off y cs} : stBox sz e s id off y (some (.box cs)) = if y.plain = true ∧ y.cells.length = sz ∧ sz ≠ 0 ∧ off + y.cells.length ≤ cs.length then .ok True .unk e (setN s id (.box (setsN cs off y.cells))) else .bad := rfl
@[go_sem] theorem t_el {sz e id i j y el sz' n f} : stEl sz e s id i j y (some (.arr el sz' n f)) = stEl2 sz e s id i j el sz' n f y.deep := rfl
@[go_sem] theorem t_el2 {sz e id i j el sz' n f d} : stEl2 sz e s id i j el sz' n f (some d) = if d.cells.length = sz ∧ sz ≠ 0 ∧ d.cells.length = sz' ∧ j = 0 then .ok (i < n) .unk e (setN s id (.arr el sz' n (fun k => if k = i then d else f k))) else .bad := rfl
@[go_sem] theorem t_deepD {x} : (PV.d x).deep = some x := rfl
@[go_sem] theorem t_deepA {x} : (PV.agg x).deep = (allD x).map .agg := rfl
def srcT (sz : Nat) (s : Store) : TD → PV → Option (Nat × (Nat → DV))
  | .slice _, .d (.list sz' n f) => if sz' = sz then some (n, f) else none
  | .slice _, .d .nil => some (0, fun _ => .nil)
  | .str, .d (.str b) => if sz = 1 then some (b.size, fun i => .int .u8 (bget b i)) else none
  | .slice _, .own id off n => (match nth s id with
    | some (.arr _ sz' m f) => if sz' = sz ∧ off + n ≤ m then some (n, if off = 0 ∧ n = m then f else win off n m f) else none
    | _ => none)
  | _, _ => none
def srcO (sz off n : Nat) : Option Blk → Option (Nat × (Nat → DV))
  | some (.arr _ sz' m f) => if sz' = sz ∧ off + n ≤ m then some (n, if off = 0 ∧ n = m then f else win off n m f) else none
  | _ => none
@[go_sem] theorem a_src {tx sz x} : srcQ P tx sz s x = srcT sz s (tyOf P tx).td x := by
  unfold srcQ srcT
  rfl
@[go_sem] theorem a_srcL {sz el sz' n f} : srcT sz s (.slice el) (.d (.list sz' n f)) = if sz' = sz then some (n, f) else none := rfl
@[go_sem] theorem a_srcN {sz el} : srcT sz s (.slice el) (.d .nil) = some (0, fun _ => .nil) := rfl
@[go_sem] theorem a_srcS {sz b} : srcT sz s .str (.d (.str b)) = if sz = 1 then some (b.size, fun i => .int .u8 (bget b i)) else none := rfl
@[go_sem] theorem a_srcO {sz el id off n} : srcT sz s (.slice el) (.own id off n) = srcO sz off n (nth s id) := rfl
@[go_sem] theorem a_srcO2 {sz off n el sz' m f} : srcO sz off n (some (.arr el sz' m f)) = if sz' = sz ∧ off + n ≤ m then some (n, if off = 0 ∧ n = m then f else win off n m f) else none := rfl
def apO (P : Program) (el : TypeId) (e : Env) (s : Store) (id len m : Nat) (g : Nat → DV) : Option Blk → ER
  | some (.arr el' sz n f) => if el' = el ∧ sz = (tyOf P el).size ∧ len = n then
            .ok ((len + m) * (tyOf P el).bytes ≤ 140737488355328 ∧ len + m ≤ 140737488355328) (.own id 0 (len + m)) (killE id e) (setN (killS id s) id (.arr el sz (len + m) (joinF len f g))) else .bad
  | _ => .bad
def apX (P : Program) (el : TypeId) (e : Env) (s : Store) (m : Nat) (g : Nat → DV) : PV → ER
  | .own id 0 len => apO P el e s id len m g (nth s id)
  | .d .nil => .ok (m * (tyOf P el).bytes ≤ 140737488355328 ∧ m ≤ 140737488355328) (.own s.length 0 m) e (s ++ [.arr el (tyOf P el).size m g])
  | _ => .bad
def apS (P : Program) (el : TypeId) (e : Env) (s : Store) (x : PV) : Option (Nat × (Nat → DV)) → ER
  | some (m, g) => apX P el e s m g x
  | none => .bad
def apT (P : Program) (tx : TypeId) (e : Env) (s : Store) (x y : PV) : TD → ER
  | .slice el => if (tyOf P el).size = 0 ∨ (zeroOf P el).map (fun z => z.cells.length) ≠ some (tyOf P el).size then .bad else apS P el e s x (srcQ P tx (tyOf P el).size s y)
  | _ => .bad
@[go_sem] theorem a_app {ts tx e x y} : appendQ P ts tx e s x y = apT P tx e s x y (tyOf P ts).td := by
  unfold appendQ apT
  cases (tyOf P ts).td <;> rfl
@[go_sem] theorem a_T {tx e x y el} : apT P tx e s x y (.slice el) = if (tyOf P el).size = 0 ∨ (zeroOf P el).map (fun z => z.cells.length) ≠ some (tyOf P el).size then .bad else apS P el e s x (srcQ P tx (tyOf P el).size s y) := rfl
@[go_sem] theorem a_S {el e x m g} : apS P el e s x (some (m, g)) = apX P el e s m g x := rfl
@[go_sem] theorem a_Xo {el e m g id len} : apX P el e s m g (.own id 0 len) = apO P el e s id len m g (nth s id) := rfl
@[go_sem] theorem a_Xn {el e m g} : apX P el e s m g (.d .nil) = .ok (m * (tyOf P el).bytes ≤ 140737488355328 ∧ m ≤ 140737488355328) (.own s.length 0 m) e (s ++ [.arr el (tyOf P el).size m g]) := rfl
@[go_sem] theorem a_O {el e id len m g el' sz n f} : apO P el e s id len m g (some (.arr el' sz n f)) = if el' = el ∧ sz = (tyOf P el).size ∧ len = n then
            .ok ((len + m) * (tyOf P el).bytes ≤ 140737488355328 ∧ len + m ≤ 140737488355328) (.own id 0 (len + m)) (killE id e) (setN (killS id s) id (.arr el sz (len + m) (joinF len f g))) else .bad := rfl
@[go_sem] theorem x_E0 {id} : killE id [] = [] := rfl
@[go_sem] theorem x_E {id t p e} : killE id ((t, p) :: e) = (t, p.kill id) :: killE id e := rfl
@[go_sem] theorem x_S0 {id} : killS id [] = [] := rfl
@[go_sem] theorem x_S {id b} : killS id (b :: s) = killB id b :: killS id s := rfl
@[go_sem] theorem x_Bb {id cs} : killB id (.box cs) = .box (killL id cs) := rfl
@[go_sem] theorem x_Ba {id a b c d} : killB id (.arr a b c d) = .arr a b c d := rfl
@[go_sem] theorem x_Bd {id} : killB id .dead = .dead := rfl
@[go_sem] theorem x_L0 {id} : killL id [] = [] := by simp only [killL]
@[go_sem] theorem x_L {id p ps} : killL id (p :: ps) = p.kill id :: killL id ps := by simp only [killL]
@[go_sem] theorem x_d {id x} : (PV.d x).kill id = .d x := by simp only [PV.kill]
@[go_sem] theorem x_u {id} : PV.unk.kill id = .unk := by simp only [PV.kill]
@[go_sem] theorem x_r {id x} : (PV.rptr x).kill id = .rptr x := by simp only [PV.kill]
@[go_sem] theorem x_o {id i o n} : (PV.own i o n).kill id = if i = id then .unk else .own i o n := by simp only [PV.kill]
@[go_sem] theorem x_p {id i o} : (PV.ptr i o).kill id = if i = id then .unk else .ptr i o := by simp only [PV.kill]
@[go_sem] theorem x_e {id i o n} : (PV.eptr i o n).kill id = if i = id then .unk else .eptr i o n := by simp only [PV.kill]
@[go_sem] theorem x_a {id x} : (PV.agg x).kill id = .agg (killL id x) := by simp only [PV.kill]
@[go_sem] theorem x_t {id x} : (PV.tup x).kill id = .tup (killL id x) := by simp only [PV.kill]
@[go_sem] theorem x_c {id f a b} : (PV.clo f a b).kill id = .clo f (killL id a) (killL id b) := by simp only [PV.kill]
@[go_sem] theorem x_i {id t p} : (PV.ifc t p).kill id = .ifc t (p.kill id) := by simp only [PV.kill]
@[go_sem] theorem x_w {id g c p} : (PV.when g c p).kill id = .when g c (p.kill id) := by simp only [PV.kill]
/-! made -/
@[go_sem] theorem m_parts0 {ε g} : partsP ε g [] = [] := rfl
@[go_sem] theorem m_parts {ε g i x l} : partsP ε g ((i, x) :: l) = (i, opnd ε g x) :: partsP ε g l := rfl
@[go_sem] theorem m_rep0 {α : Type} {x : α} : repN 0 x = [] := rfl
@[go_sem] theorem m_rep {α : Type} {n : Nat} {x : α} : repN (n + 1) x = x :: repN n x := rfl
def fd2 (sz : Nat) (ds : List DV) (i : Nat) (rest : List (Nat × PV)) : Option DV → Option (List DV)
  | some x => if i < ds.length ∧ x.cells.length = sz then fillD sz (setN ds i x) rest else none
  | none => none
@[go_sem] theorem m_fd0 {sz ds} : fillD sz ds [] = some ds := rfl
@[go_sem] theorem m_fd {sz ds i p rest} : fillD sz ds ((i, p) :: rest) = fd2 sz ds i rest p.deep := by
  simp only [fillD, fd2]
  cases p.deep <;> rfl
@[go_sem] theorem m_fd2 {sz ds i rest x} : fd2 sz ds i rest (some x) = if i < ds.length ∧ x.cells.length = sz then fillD sz (setN ds i x) rest else none := rfl
def bs3 (e : TypeId) (sz len nid : Nat) (z : DV) : Option (List DV) → QR
  | some ds => .ok True (.own nid 0 len) (some (.arr e sz len (fun i => ds.getD i z)))
  | none => .bad
def bs2 (ti : TI) (e : TypeId) (len nid : Nat) (parts : List (Nat × PV)) : Option DV → QR
  | some z => if z.cells.length = ti.size ∧ 0 < ti.size ∧ 0 < len ∧ len * ti.size ≤ 16777216 then bs3 e ti.size len nid z (fillD ti.size (repN len z) parts) else .bad
  | none => .bad
def bs1 (P : Program) (len nid : Nat) (parts : List (Nat × PV)) : TD → QR
  | .slice e => bs2 (tyOf P e) e len nid parts (zeroOf P e)
  | _ => .bad
@[go_sem] theorem m_bs {len nid parts} : buildSliceQ P t len nid parts = bs1 P len nid parts (tyOf P t).td := by
  unfold buildSliceQ bs1 bs2 bs3
  rfl
@[go_sem] theorem m_bs1 {len nid parts e} : bs1 P len nid parts (.slice e) = bs2 (tyOf P e) e len nid parts (zeroOf P e) := rfl
@[go_sem] theorem m_bs2 {ti e len nid parts z} : bs2 ti e len nid parts (some z) = if z.cells.length = ti.size ∧ 0 < ti.size ∧ 0 < len ∧ len * ti.size ≤ 16777216 then bs3 e ti.size len nid z (fillD ti.size (repN len z) parts) else .bad := rfl
@[go_sem] theorem m_bs3 {e sz len nid z ds} : bs3 e sz len nid z (some ds) = .ok True (.own nid 0 len) (some (.arr e sz len (fun i => ds.getD i z))) := rfl
def ms2 (ti : TI) (e : TypeId) (nid : Nat) : Option DV → PV → PV → QR
  | some z, .d (.int _ n), .d (.int _ m) => if ti.size ≠ 0 ∧ z.cells.length = ti.size ∧ 0 < ti.bytes then .ok (0 ≤ n ∧ n ≤ m ∧ m * ti.bytes ≤ 140737488355328) (.own nid 0 n.toNat) (some (.arr e ti.size n.toNat (fun _ => z))) else .bad
  | _, _, _ => .bad
def ms1 (P : Program) (nid : Nat) (l c : PV) : TD → QR
  | .slice e => ms2 (tyOf P e) e nid (zeroOf P e) l c
  | _ => .bad
@[go_sem] theorem m_ms1 {nid l c e} : ms1 P nid l c (.slice e) = ms2 (tyOf P e) e nid (zeroOf P e) l c := rfl
@[go_sem] theorem m_ms2 {ti e nid z k k' n m} : ms2 ti e nid (some z) (.d (.int k n)) (.d (.int k' m)) = if ti.size ≠ 0 ∧ z.cells.length = ti.size ∧ 0 < ti.bytes then .ok (0 ≤ n ∧ n ≤ m ∧ m * ti.bytes ≤ 140737488355328) (.own nid 0 n.toNat) (some (.arr e ti.size n.toNat (fun _ => z))) else .bad := rfl
@[go_sem] theorem m_ms {nid k k' n m} : makeSliceQ P t nid (.d (.int k n)) (.d (.int k' m)) = ms1 P nid (.d (.int k n)) (.d (.int k' m)) (tyOf P t).td := by
  unfold makeSliceQ ms1
  cases (tyOf P t).td <;> try rfl
  rename_i e
  dsimp only
  unfold ms2
  generalize zeroOf P e = z
  cases z <;> rfl
/-! the end -/
@[go_sem] theorem ee_ret {res R} : qE P res R .ret e s = okRes P res e s (fun ps => R ps s) := rfl
@[go_sem] theorem ee_normal {res R} : qE P res R .normal e s = okRes P res e s (fun ps => R ps s) := rfl
@[go_sem] theorem e_ret {res rs} : qD P res rs .ret e s = okRes P res e s (isD rs s) := rfl
@[go_sem] theorem e_normal {res rs} : qD P res rs .normal e s = okRes P res e s (isD rs s) := rfl
def rK (p : PV) (R : List PV → Prop) : List PV → Prop := fun ps => R (p :: ps)
@[go_sem] theorem e_r0 {R} : okRes P [] e s R = R [] := rfl
@[go_sem] theorem e_rt {t rs R} : okRes P (.tmp t :: rs) e s R = okRes P rs e s (rK (get e t) R) := rfl
def rC (P : Program) (rs : List ResultVar) (e : Env) (s : Store) (R : List PV → Prop) : QR → Prop
  | .ok C v none => C ∧ okRes P rs e s (rK v R)
  | _ => False
@[go_sem] theorem e_rc {a t rs R} : okRes P (.cell a t :: rs) e s R = rC P rs e s R (loadQ P t s s.length (get e a)) := by
  simp only [okRes]
  unfold rC
  cases loadQ P t s s.length (get e a) with
  | bad => rfl
  | ok C v nb => cases nb <;> rfl
@[go_sem] theorem e_rcok {rs R C v} : rC P rs e s R (.ok C v none) = (C ∧ okRes P rs e s (rK v R)) := rfl
@[go_sem] theorem e_rk {p ps R} : rK p R ps = R (p :: ps) := rfl
def isD2 (rs : List DV) : Option (List DV) → Prop
  | some ds => ds = rs
  | none => False
@[go_sem] theorem e_isD {rs ps} : isD rs s ps = isD2 rs (frzL s ps) := by
  unfold isD isD2
  rfl
@[go_sem] theorem e_isD2 {rs ds} : isD2 rs (some ds) = (ds = rs) := rfl
@[go_sem] theorem e_f0 : frzL s [] = some [] := rfl
def fCons : Option DV → Option (List DV) → Option (List DV)
  | some x, some xs => some (x :: xs)
  | _, _ => none
@[go_sem] theorem e_fS {p ps} : frzL s (p :: ps) = fCons (frzV s p) (frzL s ps) := by
  simp only [frzL, fCons]
  cases frzV s p <;> cases frzL s ps <;> rfl
@[go_sem] theorem e_fC {x xs} : fCons (some x) (some xs) = some (x :: xs) := rfl
@[go_sem] theorem e_fD {p} : frzV s p = frz1 (viewV s p) := rfl
@[go_sem] theorem e_f1 {x b} : frz1 (some (.d x, b)) = some x := rfl
attribute [go_sem] List.append_eq argE cleanIf hasG clean wraps Nat.add_zero Nat.zero_add List.map_cons List.map_nil List.append_nil List.nil_append List.cons_append List.length_cons List.length_nil Int.toNat_natCast
end
end Go.Ev

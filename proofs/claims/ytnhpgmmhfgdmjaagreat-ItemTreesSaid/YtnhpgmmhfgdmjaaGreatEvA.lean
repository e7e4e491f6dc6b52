/- Values without memory, and how they lie in memory: the words of an abstract walk. -/
import Derived.Orders
import Derived.KernelRfl
import Derived.Laws.Sem
namespace Go.Ev

/-- A value without any memory of ours: what it refers to is never written. 'list sz n f': a slice of n elements of sz cells. -/
inductive DV where
  | bool (b : Bool) | int (k : IntKind) (n : Int) | str (s : ByteArray)
  | list (sz n : Nat) (f : Nat → DV)
  | nil | null | fn0 | map0 | if0
  | agg (cs : List DV)
  | ifc (t : TypeId) (d : DV)
  deriving Inhabited

/-- A value in the walk. 'own': a slice of a block of ours; 'ptr': a place in a box of ours; 'eptr': a place in an element of a block of ours; 'rptr': a place before cells that are never written. -/
inductive PV where
  | unk
  | d (x : DV)
  | own (id off len : Nat)
  | ptr (id off : Nat)
  | eptr (id i j : Nat)
  | rptr (cs : List DV)
  | agg (cs : List PV)
  | tup (cs : List PV)
  | clo (fn : Fn) (fst cap : List PV)
  | ifc (t : TypeId) (p : PV)
  | when (g : List (Tmp × Bool)) (c : Prop) (p : PV)
  deriving Inhabited

inductive Blk where
  | dead
  | box (cs : List PV)
  | arr (e : TypeId) (sz n : Nat) (f : Nat → DV)
  deriving Inhabited

abbrev Env := List (Nat × PV)
abbrev Store := List Blk

def get : Env → Nat → PV
  | [], _ => .unk
  | (t, v) :: e, u => if t = u then v else get e u

def DV.cells : DV → List DV
  | .agg cs => cs
  | d => [d]

def oneD (agg : Bool) (cs : List DV) : DV := match agg, cs with
  | true, cs => .agg cs
  | false, c :: _ => c
  | false, [] => .nil

/-- A length that is an int. -/
def fits (n : Nat) : Prop := n ≤ 9223372036854775807

/-! ### How a value lies in memory -/

/-- The cells from 'off' on in block b. -/
def cellsAt (w : World) (b off : Nat) (us : List Value) : Prop := ∀ j u, us[j]? = some u → w.cell? ⟨b, off + j, none⟩ = some u

section
variable (S : Nat → Prop) (w : World)
mutual
/-- v is the value d; what d refers to lies in blocks of S. -/
def DV.rep : DV → Value → Prop
  | .agg cs, v => ∃ vs : List Value, v = .agg vs.toArray ∧ repL cs vs
  | .bool b, v => v = .bool b
  | .int k n, v => v = .int k n
  | .str s, v => v = .string s ∧ fits s.size
  | .list sz n f, v => ∃ a cap, v = .slice a n cap ∧ n ≤ cap ∧ fits n ∧
      (0 < n → ∃ b off, a = some ⟨b, off, none⟩ ∧ S b ∧ ∀ i, i < n → ∃ u, u.cells.size = sz ∧ cellsAt w b (off + i * sz) u.cells.toList ∧ (f i).rep u)
  | .nil, v => v = .slice none 0 0
  | .null, v => v = .pointer none
  | .fn0, v => v = .nilFunc
  | .map0, v => v = .map none
  | .if0, v => v = .nilIface
  | .ifc t d, v => ∃ u, v = .iface t u ∧ d.rep u
def repL : List DV → List Value → Prop
  | [], us => us = []
  | c :: cs, us => ∃ u us', us = u :: us' ∧ u.oneCell' = true ∧ c.rep u ∧ repL cs us'
end
end

/-- Where a block of ours lies: its number, the cell at which its first element stands, an element's cells. -/
structure Loc where
  b : Nat
  o : Nat
  sz : Nat
  /-- There is no block: a nil slice. -/
  none : Bool := false
  deriving Inhabited

def hold (tmps : Array Value) (g : List (Tmp × Bool)) : Prop := ∀ t b, (t, b) ∈ g → tmps.getD t undef = .bool b

section
variable (S : Nat → Prop) (L : Nat → Prop) (α : Nat → Loc) (w : World)
mutual
def PV.rep : PV → Value → Prop
  | .unk, _ => True
  | .d x, v => x.rep S w v
  | .own id off len, v => L id ∧ (((α id).none = true ∧ off = 0 ∧ len = 0 ∧ v = .slice none 0 0) ∨ ((α id).none = false ∧ ∃ x cap, v = .slice (some ⟨(α id).b, x, none⟩) len cap ∧ len ≤ cap ∧ fits len ∧ (0 < cap → x = (α id).o + off * (α id).sz) ∧
      ∃ e n, w.shape? (α id).b = some (e, n) ∧ (α id).o + (off + cap) * (α id).sz = n))
  | .ptr id off, v => L id ∧ (α id).none = false ∧ v = .pointer (some ⟨(α id).b, off, none⟩)
  | .eptr id i j, v => L id ∧ (α id).none = false ∧ v = .pointer (some ⟨(α id).b, (α id).o + i * (α id).sz + j, none⟩)
  | .rptr cs, v => ∃ b off us, v = .pointer (some ⟨b, off, none⟩) ∧ S b ∧ cellsAt w b off us ∧ repL S w cs us
  | .agg ps, v => ∃ vs : List Value, v = .agg vs.toArray ∧ (∀ u ∈ vs, u.oneCell' = true) ∧ prepL ps vs
  | .tup ps, v => ∃ vs : List Value, v = .tuple vs.toArray ∧ prepL ps vs
  | .clo fn fs cs, v => ∃ us vs : List Value, v = .func fn us.toArray vs.toArray ∧ prepL fs us ∧ prepL cs vs
  | .ifc t p, v => ∃ u, v = .iface t u ∧ p.rep u
  | .when .., _ => False
def prepL : List PV → List Value → Prop
  | [], us => us = []
  | c :: cs, us => ∃ u us', us = u :: us' ∧ c.rep u ∧ prepL cs us'
end
/-- A temporary's value, in a region in which some operations are guarded. -/
def PV.erep (tmps : Array Value) : PV → Value → Prop
  | .when g c p, v => (hold tmps g → c ∧ p.rep S L α w v) ∧ (¬ hold tmps g → v = undef)
  | p, v => p.rep S L α w v
end

/-! ### The types -/

inductive TD where
  | int (k : IntKind) | bool | str
  | slice (e : TypeId) | ptr (e : TypeId)
  | struct (fs : List (Nat × TypeId)) | array (n : Nat) (e : TypeId)
  | iface (any : Bool) | func | map (k e : TypeId) | bad
  deriving Inhabited, DecidableEq

structure TI where
  td : TD
  size : Nat
  bytes : Nat
  deriving Inhabited

def tdOf : TypeDesc → TD
  | .int k => .int k
  | .bool => .bool
  | .string => .str
  | .slice e => .slice e
  | .pointer e => .ptr e
  | .struct fs => .struct (fs.toList.map fun f => (f.offset, f.type))
  | .array n e => .array n e
  | .interface ms => .iface ms.isEmpty
  | .func _ _ _ => .func
  | .map k e => .map k e
  | _ => .bad

def const1 : Value → Option DV
  | .bool b => some (.bool b)
  | .int k n => some (.int k n)
  | .string s => if s.size ≤ 1048576 then some (.str s) else none
  | .slice none 0 0 => some .nil
  | .pointer none => some .null
  | .nilFunc => some .fn0
  | .map none => some .map0
  | .nilIface => some .if0
  | _ => none
def constL : List Value → Option (List DV)
  | [] => some []
  | v :: vs => match const1 v, constL vs with
    | some d, some ds => some (d :: ds)
    | _, _ => none
def constD : Value → Option DV
  | .agg cs => (constL cs.toList).map .agg
  | v => const1 v

/-- What the walk knows of a type; 'bad': nothing. -/
def tyOf (P : Program) (t : TypeId) : TI :=
  match P.info? t, P.underlying t with
  | some i, some u => ⟨tdOf u, i.size, i.bytes⟩
  | _, _ => ⟨.bad, 0, 0⟩
def zeroOf (P : Program) (t : TypeId) : Option DV :=
  match P.info? t with
  | some i => i.zero.bind constD
  | none => none

def TD.isAgg : TD → Bool
  | .struct _ | .array _ _ => true
  | _ => false
end Go.Ev

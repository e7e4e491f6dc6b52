/- The walk over code, as a statement. -/
import Derived.Test.YtnhpgmmhfgdmjaaGreatEvJ
import Derived.Scope
import Derived.Tactics
set_option linter.unusedVariables false
set_option linter.unusedSimpArgs false
namespace Go.Ev
open Go.RowKit

/-! ### What a function's text is given along: temporaries whose arithmetic wraps, how many of a drawn region's operations are quiet, the number of blocks that came in, the number of temporaries -/
/-- The orders of a drawn region: at each place one branch for each operation that may be next, or one that may as well be next. -/
inductive Ord where
  | done | nil
  | alt (i : Nat) (t rest : Ord)
  | take (i : Nat) (t : Ord)
/-- A nil slice in a temporary, or in a cell of a box, is from here on an empty slice of ours: its element type, its size, and what the list's function says where there is nothing. -/
inductive Ad where
  | tmp (t el sz : Nat) (z : DV)
  | box (id k el sz : Nat) (z : DV)
def lookA : List (Nat × List Ad) → Nat → List Ad
  | [], _ => []
  | (i, q) :: l, j => if i = j then q else lookA l j
structure Hints where
  wr : List Nat := []
  /-- functions that are called over the whole store: they may write to it -/
  fx : List Nat := []
  /-- functions that are called over one slice of ours, which they give back, grown -/
  fb : List Nat := []
  /-- the orders of a drawn region -/
  ts : List (Nat × Ord) := []
  /-- nil slices that become slices of ours behind a region -/
  ad : List (Nat × List Ad) := []
  qs : List (Nat × Nat) := []
  lo : Nat := 0
  nt : Nat
def lookT : List (Nat × Ord) → Nat → Option Ord
  | [], _ => none
  | (i, q) :: l, j => if i = j then some q else lookT l j
def lookN : List (Nat × Nat) → Nat → Option Nat
  | [], _ => none
  | (i, q) :: l, j => if i = j then some q else lookN l j

/-- What a call comes to: it returns these values, or panics. -/
inductive Ex where
  | normal
  | exit (id : Nat)
  | ret
  | pan (d : DV)

/-- What a call comes to: it returns these values, or panics. -/
inductive Out where
  | ret (rs : List PV)
  | pan (d : DV)
def resP : List PV → PV
  | [x] => x
  | xs => .tup xs
def Out.ends (S L : Nat → Prop) (α : Nat → Loc) (w : World) : Out → Ending → Prop
  | .ret rs, e => ∃ v, e = .returned v ∧ (resP rs).rep S L α w v
  | .pan d, e => ∃ u, e = .panicked [{ v := u, recovered := false }] ∧ d.rep S w u

def sto0 : Sto := fun _ => .dead

/-- It has a body. -/
def callable (P : Program) (f : FuncId) : Prop := ∃ fn, P.funcs[f]? = some fn ∧ (fn.name == "runtime.NumGoroutine") = false ∧ fn.body.isNone = false

/-- The contract of a function: called with these values over this store it ends in one of the ways of Q. -/
def Fn (P : Program) (f : FuncId) (args : List PV) (σ : Sto) (Q : Out → Sto → Prop) : Prop :=
  callable P f ∧ ∀ S α w vals, RelS S α σ w → prepL S (live σ) α w args vals →
    Calls P f vals.toArray w fun e w' => ∃ r σ' S' α', Q r σ' ∧ r.ends S' (live σ') α' w' e ∧ RelS S' α' σ' w' ∧ Moved S α σ w S' α' σ' w' ∧ ∀ i cs, σ i = .box cs → α' i = α i

/-- A function of values alone. -/
def FnD (P : Program) (f : FuncId) (args : List PV) (rs : List DV) : Prop :=
  Fn P f args sto0 fun r σ' => r = .ret (rs.map .d) ∧ σ' = sto0

/-! ### The evaluation -/
def setD (e : Env) (t : Option Tmp) (v : PV) : Env := match t with
  | some t => (t, v) :: e
  | none => e
def wrapV (g : List (Tmp × Bool)) (c : Prop) (v : PV) : PV := match v with
  | .when .. => .unk
  | v => match g with
    | [] => v
    | g => .when g c v
def guardV (t : Tmp) (b : Bool) : PV → Option (List (Tmp × Bool) × Prop)
  | .d (.bool p) => some ([(t, b)], p = b)
  | .when g c (.d (.bool p)) => some ((t, b) :: g, c ∧ p = b)
  | _ => none
def guardT (all : List Oper) (j : Nat) : Option Tmp := match nth all j with
  | some o => o.dst
  | none => none
def guardQ (all : List Oper) (e : Env) : Option (Nat × Bool) → Option (List (Tmp × Bool) × Prop)
  | none => some ([], True)
  | some (j, b) => match guardT all j with
    | some t => guardV t b (get e t)
    | none => none

/-- A function value's function, and its arguments. -/
def calleeV (args : List PV) : PV → Option (FuncId × List PV)
  | .clo (.func f) fs cs => some (f, fs ++ args ++ cs)
  | _ => none
def calleeQ (ε : Nat → PV) (g : List (Tmp × Bool)) : Op → Option (FuncId × List PV)
  | .call c => match c.callee with
    | .value f => calleeV (c.args.toList.map (opnd ε g)) (opnd ε g f)
    | _ => none
  | _ => none

/-- What a slice of ours holds, as a list. -/
def listOf (off len sz n : Nat) (f : Nat → DV) : DV := .list sz len (if off = 0 ∧ len = n then f else win off len n f)
def vOwn (off len : Nat) : Option Blk → Option (PV × Bool)
  | some (.arr _ sz n f) => if off = 0 ∧ len = n then some (.d (.list sz n f), true) else none
  | _ => none
def vPtr2 (off : Nat) : Option (List DV) → Option (PV × Bool)
  | some ds => (dropN ds off).map fun us => (.rptr us, true)
  | none => none
def vPtr (off : Nat) : Option Blk → Option (PV × Bool)
  | some (.box cs) => vPtr2 off (allD cs)
  | _ => none
def vAgg : Option (List PV × Bool) → Option (PV × Bool)
  | some (ps, b) => (allD ps).map fun ds => (.d (.agg ds), b)
  | none => none
def vClo (fn : Go.Fn) : Option (List PV × Bool) → Option (List PV × Bool) → Option (PV × Bool)
  | some (a, x), some (b, y) => some (.clo fn a b, x || y)
  | _, _ => none
def vCons : Option (PV × Bool) → Option (List PV × Bool) → Option (List PV × Bool)
  | some (x, b), some (xs, c) => some (x :: xs, b || c)
  | _, _ => none
mutual
/-- A value that is only read; 'true': it lies in a block of ours. -/
def viewV (s : Store) : PV → Option (PV × Bool)
  | .d x => some (.d x, false)
  | .rptr cs => some (.rptr cs, false)
  | .own id off len => vOwn off len (nth s id)
  | .ptr id off => vPtr off (nth s id)
  | .agg cs => vAgg (viewsV s cs)
  | .clo fn a b => vClo fn (viewsV s a) (viewsV s b)
  | _ => none
def viewsV (s : Store) : List PV → Option (List PV × Bool)
  | [] => some ([], false)
  | p :: ps => vCons (viewV s p) (viewsV s ps)
end
/-- It names no memory. -/
def DV.flat : DV → Bool
  | .list .. | .agg _ | .ifc .. => false
  | _ => true

def CallK (P : Program) (c : Prop) (f : FuncId) (ds : List PV) (view : Bool) (K : List DV → Prop) : Prop := ∃ rs, (c → FnD P f ds rs) ∧ (view = true → rs.all DV.flat = true) ∧ K rs

/-- One cell. -/
def PV.cell1 : PV → Bool
  | .d (.agg _) | .agg _ | .unk | .tup _ | .when .. => false
  | _ => true

/-- What an operation that writes comes to. -/
inductive ER where
  | bad
  | ok (c : Prop) (v : PV) (e : Env) (s : Store)

mutual
def PV.kill (id : Nat) : PV → PV
  | .own i o n => if i = id then .unk else .own i o n
  | .agg cs => .agg (killL id cs)
  | .tup cs => .tup (killL id cs)
  | .clo fn a b => .clo fn (killL id a) (killL id b)
  | .ifc t p => .ifc t (p.kill id)
  | .eptr i j k => if i = id then .unk else .eptr i j k
  | .ptr i o => if i = id then .unk else .ptr i o
  | .when g c p => .when g c (p.kill id)
  | p => p
def killL (id : Nat) : List PV → List PV
  | [] => []
  | p :: ps => p.kill id :: killL id ps
end
def killE (id : Nat) : Env → Env
  | [] => []
  | (t, p) :: e => (t, p.kill id) :: killE id e
def killB (id : Nat) : Blk → Blk
  | .box cs => .box (killL id cs)
  | b => b
def killS (id : Nat) : Store → Store
  | [] => []
  | b :: s => killB id b :: killS id s

def storeQ (P : Program) (t : TypeId) (e : Env) (s : Store) (x y : PV) : ER :=
  match x with
  | .ptr id off => (match nth s id with
    | some (.box cs) => if y.plain = true ∧ y.cells.length = (tyOf P t).size ∧ (tyOf P t).size ≠ 0 ∧ off + y.cells.length ≤ cs.length then .ok True .unk e (setN s id (.box (setsN cs off y.cells))) else .bad
    | _ => .bad)
  | .eptr id i j => (match nth s id with
    | some (.arr el sz n f) => (match y.deep with
      | some d => if d.cells.length = (tyOf P t).size ∧ (tyOf P t).size ≠ 0 ∧ d.cells.length = sz ∧ j = 0 then .ok (i < n) .unk e (setN s id (.arr el sz n (fun k => if k = i then d else f k))) else .bad
      | none => .bad)
    | _ => .bad)
  | _ => .bad

/-- The elements that are appended: how many, which. -/
def srcQ (P : Program) (tx : TypeId) (sz : Nat) (s : Store) (x : PV) : Option (Nat × (Nat → DV)) :=
  match (tyOf P tx).td, x with
  | .slice _, .d (.list sz' n f) => if sz' = sz then some (n, f) else none
  | .slice _, .d .nil => some (0, fun _ => .nil)
  | .str, .d (.str b) => if sz = 1 then some (b.size, fun i => .int .u8 (bget b i)) else none
  | .slice _, .own id off n => (match nth s id with
    | some (.arr _ sz' m f) => if sz' = sz ∧ off + n ≤ m then some (n, if off = 0 ∧ n = m then f else win off n m f) else none
    | _ => none)
  | _, _ => none
/-- Elements behind elements. -/
def joinF (n : Nat) (f g : Nat → DV) : Nat → DV := fun i => if i < n then f i else g (i - n)

def appendQ (P : Program) (ts tx : TypeId) (e : Env) (s : Store) (x y : PV) : ER :=
  match (tyOf P ts).td with
  | .slice el => if (tyOf P el).size = 0 ∨ (zeroOf P el).map (fun z => z.cells.length) ≠ some (tyOf P el).size then .bad else (match srcQ P tx (tyOf P el).size s y with
    | some (m, g) => (match x with
      | .own id 0 len => (match nth s id with
        | some (.arr el' sz n f) => if el' = el ∧ sz = (tyOf P el).size ∧ len = n then
            .ok ((len + m) * (tyOf P el).bytes ≤ 140737488355328 ∧ len + m ≤ 140737488355328) (.own id 0 (len + m)) (killE id e) (setN (killS id s) id (.arr el sz (len + m) (joinF len f g))) else .bad
        | _ => .bad)
      | .d .nil => .ok (m * (tyOf P el).bytes ≤ 140737488355328 ∧ m ≤ 140737488355328) (.own s.length 0 m) e (s ++ [.arr el (tyOf P el).size m g])
      | _ => .bad)
    | none => .bad)
  | _ => .bad

def effQ (P : Program) (o : Op) (e : Env) (s : Store) : ER :=
  match o with
  | .store t x y => storeQ P t e s (opnd (get e) [] x) (opnd (get e) [] y)
  | .call c => (match c.callee with
    | .builtin .append => (match c.args.toList, c.argTypes.toList with
      | [x, y], [tx, ty] => appendQ P tx ty e s (opnd (get e) [] x) (opnd (get e) [] y)
      | _, _ => .bad)
    | _ => .bad)
  | _ => .bad
end Go.Ev

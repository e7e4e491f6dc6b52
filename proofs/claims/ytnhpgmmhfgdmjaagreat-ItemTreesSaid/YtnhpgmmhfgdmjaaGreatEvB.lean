/- The evaluation of a region's operations over values without memory. -/
import Derived.Test.YtnhpgmmhfgdmjaaGreatEvA
namespace Go.Ev

def strip (g : List (Tmp × Bool)) : PV → PV
  | .when h _ p => if h.all (fun x => g.contains x) then p else .unk
  | p => p
def konst (v : Value) : PV := match constD v with
  | some d => .d d
  | none => .unk
def opnd (e : Nat → PV) (g : List (Tmp × Bool)) : Operand → PV
  | .tmp t => strip g (e t)
  | .const v => konst v
  | .func f => .clo (.func f) [] []
  | .global _ => .unk

/-- The cells of a value that is stored. -/
def PV.cells : PV → List PV
  | .agg cs => cs
  | .d (.agg cs) => cs.map .d
  | p => [p]
def PV.plain : PV → Bool
  | .unk | .tup _ | .when .. => false
  | _ => true
def onePV (agg : Bool) (cs : List PV) : PV := match agg, cs with
  | true, cs => .agg cs
  | false, c :: _ => c
  | false, [] => .unk

/-- n cells from place off on. -/
def dropN {α : Type} : List α → Nat → Option (List α)
  | l, n => if n = 0 then some l else match l with
    | [] => none
    | _ :: l => dropN l (n - 1)
def takeN {α : Type} : List α → Nat → Option (List α)
  | l, n => if n = 0 then some [] else match l with
    | [] => none
    | x :: l => (takeN l (n - 1)).map (x :: ·)
def subN {α : Type} (l : List α) (off n : Nat) : Option (List α) := (dropN l off).bind (takeN · n)
def nth {α : Type} : List α → Nat → Option α
  | [], _ => none
  | x :: l, n => if n = 0 then some x else nth l (n - 1)
def setN {α : Type} : List α → Nat → α → List α
  | [], _, _ => []
  | x :: l, n, y => if n = 0 then y :: l else x :: setN l (n - 1) y

def allD : List PV → Option (List DV)
  | [] => some []
  | .d x :: l => (allD l).map (x :: ·)
  | _ :: _ => none
def PV.deep : PV → Option DV
  | .d x => some x
  | .agg cs => (allD cs).map .agg
  | _ => none
/-- A window of an element function. -/
def win (off len n : Nat) (f : Nat → DV) : Nat → DV := fun i => if i < len then f (off + i) else f n
def bget (s : ByteArray) (n : Nat) : Nat := if h : n < s.size then (s[n]'h).toNat else 0

/-- What a quiet operation comes to: its condition, its value, the block that it makes. -/
inductive QR where
  | bad
  | ok (c : Prop) (v : PV) (nb : Option Blk)

def cmpI (op : BinOp) (x y : Int) : Option Bool := match op with
  | .eql => some (x == y) | .neq => some (x != y)
  | .lss => some (decide (x < y)) | .leq => some (decide (x ≤ y)) | .gtr => some (decide (y < x)) | .geq => some (decide (y ≤ x))
  | _ => none
def inKind (k : IntKind) (n : Int) : Prop := k.min ≤ n ∧ n ≤ k.max
/-- Arithmetic; 'wr': the result wraps, else the condition says that it needn't. -/
def arithI (wr : Bool) (op : BinOp) (k : IntKind) (x y : Int) : QR := match op with
  | .add => if wr then .ok True (.d (.int k (k.wrap (x + y)))) none else .ok (inKind k (x + y)) (.d (.int k (x + y))) none
  | .sub => if wr then .ok True (.d (.int k (k.wrap (x - y)))) none else .ok (inKind k (x - y)) (.d (.int k (x - y))) none
  | .mul => if wr then .ok True (.d (.int k (k.wrap (x * y)))) none else .ok (inKind k (x * y)) (.d (.int k (x * y))) none
  | .quo => .ok (y ≠ 0 ∧ inKind k (x.tdiv y)) (.d (.int k (x.tdiv y))) none
  | .rem => .ok (y ≠ 0) (.d (.int k (x.tmod y))) none
  | .and => .ok True (.d (.int k (k.wrap (BitVec.ofInt k.bits x &&& BitVec.ofInt k.bits y).toNat))) none
  | .or => .ok True (.d (.int k (k.wrap (BitVec.ofInt k.bits x ||| BitVec.ofInt k.bits y).toNat))) none
  | .xor => .ok True (.d (.int k (k.wrap (BitVec.ofInt k.bits x ^^^ BitVec.ofInt k.bits y).toNat))) none
  | _ => .bad
def shiftI (op : BinOp) (k : IntKind) (x y : Int) : QR := match op with
  | .shl => .ok (0 ≤ y) (.d (.int k (k.wrap (x * 2 ^ (min y.toNat k.bits))))) none
  | .shr => .ok (0 ≤ y) (.d (.int k (x.fdiv (2 ^ (min y.toNat k.bits))))) none
  | _ => .bad
def strLt (x y : ByteArray) : Bool := Op.bytesLess x.toList y.toList
def strQ (op : BinOp) (x y : ByteArray) : QR := match op with
  | .add => .ok ((x.size + y.size : Nat) ≤ 9223372036854775807) (.d (.str (x ++ y))) none
  | .eql => .ok True (.d (.bool (x.toList == y.toList))) none
  | .neq => .ok True (.d (.bool (!(x.toList == y.toList)))) none
  | .lss => .ok True (.d (.bool (strLt x y))) none
  | .leq => .ok True (.d (.bool (strLt x y || x.toList == y.toList))) none
  | .gtr => .ok True (.d (.bool (!(strLt x y || x.toList == y.toList)))) none
  | .geq => .ok True (.d (.bool (!(strLt x y)))) none
  | _ => .bad
def binQ (P : Program) (t : TypeId) (wr : Bool) (op : BinOp) (x y : PV) : QR :=
  match x, y with
  | .d (.int k a), .d (.int k' b) =>
    match op with
    | .shl | .shr => shiftI op k a b
    | _ => if k = k' then (match cmpI op a b with
      | some c => .ok True (.d (.bool c)) none
      | none => arithI wr op k a b) else .bad
  | .d (.str a), .d (.str b) => strQ op a b
  | .d (.bool a), .d (.bool b) => (match op with
    | .eql => if (tyOf P t).td = .bool then .ok True (.d (.bool (a == b))) none else .bad
    | .neq => if (tyOf P t).td = .bool then .ok True (.d (.bool (!(a == b)))) none else .bad
    | _ => .bad)
  | _, _ => .bad

def lenQ (P : Program) (t : TypeId) (x : PV) : QR :=
  match (tyOf P t).td, x with
  | .slice _, .d (.list _ n _) => .ok True (.d (.int .i64 n)) none
  | .slice _, .d .nil => .ok True (.d (.int .i64 0)) none
  | .str, .d (.str b) => .ok True (.d (.int .i64 b.size)) none
  | .slice _, .own _ _ n => .ok True (.d (.int .i64 n)) none
  | _, _ => .bad
def maxF : Int → List PV → Option Int
  | m, [] => some m
  | m, .d (.int _ y) :: l => maxF (if y > m then y else m) l
  | _, _ => none
def minF : Int → List PV → Option Int
  | m, [] => some m
  | m, .d (.int _ y) :: l => minF (if y < m then y else m) l
  | _, _ => none
def maxQ : List PV → QR
  | .d (.int k x) :: l => (match maxF x l with | some m => .ok True (.d (.int k m)) none | none => .bad)
  | _ => .bad
def minQ : List PV → QR
  | .d (.int k x) :: l => (match minF x l with | some m => .ok True (.d (.int k m)) none | none => .bad)
  | _ => .bad

def loadQ (P : Program) (t : TypeId) (s : Store) (lim : Nat) : PV → QR
  | .ptr id off => if id < lim then (match nth s id with
    | some (.box cs) => (match subN cs off (tyOf P t).size with
      | some us => if (tyOf P t).size = 0 then .bad else .ok True (onePV (tyOf P t).td.isAgg us) none
      | none => .bad)
    | _ => .bad) else .bad
  | .rptr cs => (match subN cs 0 (tyOf P t).size with
    | some us => if (tyOf P t).size = 0 then .bad else .ok True (.d (oneD (tyOf P t).td.isAgg us)) none
    | none => .bad)
  | .eptr id i j => if id < lim then (match nth s id with
    | some (.arr _ _ n f) => (match subN (f i).cells j (tyOf P t).size with
      | some us => if (tyOf P t).size = 0 then .bad else .ok (i < n) (.d (oneD (tyOf P t).td.isAgg us)) none
      | none => .bad)
    | _ => .bad) else .bad
  | _ => .bad

def fieldAddrQ (P : Program) (st : TypeId) (i : Nat) (x : PV) : QR :=
  match (tyOf P st).td with
  | .struct fs => (match nth fs i with
    | some (o, ft) => if (tyOf P ft).size = 0 then .bad else (match x with
      | .ptr id off => .ok True (.ptr id (off + o)) none
      | .eptr id i j => .ok True (.eptr id i (j + o)) none
      | .rptr cs => (match dropN cs o with
        | some us => .ok True (.rptr us) none
        | none => .bad)
      | _ => .bad)
    | none => .bad)
  | _ => .bad
def fieldQ (P : Program) (st : TypeId) (i : Nat) (x : PV) : QR :=
  match (tyOf P st).td with
  | .struct fs => (match nth fs i with
    | some (o, ft) => (match x with
      | .agg cs => (match subN cs o (tyOf P ft).size with
        | some us => if (tyOf P ft).size = 0 then .bad else .ok True (onePV (tyOf P ft).td.isAgg us) none
        | none => .bad)
      | .d (.agg cs) => (match subN cs o (tyOf P ft).size with
        | some us => if (tyOf P ft).size = 0 then .bad else .ok True (.d (oneD (tyOf P ft).td.isAgg us)) none
        | none => .bad)
      | _ => .bad)
    | none => .bad)
  | _ => .bad
/-- The cells of an element of a block of ours. -/
def blkSize (s : Store) (lim id : Nat) : Nat := if id < lim then (match nth s id with
  | some (.arr _ sz _ _) => sz
  | _ => 0) else 0
def indexAddrQ (P : Program) (t : TypeId) (s : Store) (lim : Nat) (x i : PV) : QR :=
  match (tyOf P t).td, x, i with
  | .slice e, .d (.list sz n f), .d (.int _ k) => if sz = (tyOf P e).size ∧ sz ≠ 0 then .ok (0 ≤ k ∧ k < n) (.rptr (f k.toNat).cells) none else .bad
  | .slice e, .own id off len, .d (.int _ k) => if blkSize s lim id = (tyOf P e).size ∧ (tyOf P e).size ≠ 0 then .ok (0 ≤ k ∧ k < len) (.eptr id (off + k.toNat) 0) none else .bad
  | .array n e, .ptr id off, .d (.int _ k) => if (tyOf P e).size ≠ 0 then .ok (0 ≤ k ∧ k < n) (.ptr id (off + k.toNat * (tyOf P e).size)) none else .bad
  | _, _, _ => .bad
def indexQ (x i : PV) : QR :=
  match x, i with
  | .d (.str s), .d (.int _ k) => .ok (0 ≤ k ∧ k < s.size) (.d (.int .u8 (bget s k.toNat))) none
  | _, _ => .bad
def isB : DV → Bool
  | .int .u8 _ => true
  | _ => false
def byteOf : DV → UInt8
  | .int _ k => UInt8.ofNat k.toNat
  | _ => 0
/-- n bytes as a string. -/
def strOf (n : Nat) (f : Nat → DV) : ByteArray := ⟨((List.range n).map fun i => byteOf (f i)).toArray⟩
def isBytes (P : Program) : TD → Bool
  | .slice e => (tyOf P e).td == .int .u8
  | _ => false
def blkOf (s : Store) (lim id : Nat) : Option Blk := if id < lim then nth s id else none
def strOwn (off len : Nat) : Option Blk → QR
  | some (.arr _ sz n f) => if sz = 1 then .ok (off + len ≤ n ∧ ∀ i, i < len → isB (f (off + i)) = true) (.d (.str (strOf len fun i => f (off + i)))) none else .bad
  | _ => .bad
def toStrQ (s : Store) (lim : Nat) : PV → QR
  | .d (.list sz n f) => if sz = 1 then .ok (∀ i, i < n → isB (f i) = true) (.d (.str (strOf n f))) none else .bad
  | .d .nil => .ok True (.d (.str ByteArray.empty)) none
  | .own id off len => strOwn off len (blkOf s lim id)
  | _ => .bad
def convQ (P : Program) (src dst : TypeId) (s : Store) (lim nid : Nat) (x : PV) : QR :=
  if (tyOf P dst).td = .str ∧ isBytes P (tyOf P src).td = true then toStrQ s lim x else
  match (tyOf P dst).td, x with
  | .slice e, .d (.str s) => if (tyOf P src).td = .str ∧ (tyOf P e).td = .int .u8 then .ok True (.own nid 0 s.size) (some (.arr e 1 s.size (fun i => .int .u8 (bget s i)))) else .bad
  | .int k, .d (.int _ n) => if (tyOf P src).td ≠ .bad then .ok True (.d (.int k (k.wrap n))) none else .bad
  | .str, .d (.str s) => if (tyOf P src).td = .str then .ok True (.d (.str s)) none else .bad
  | _, _ => .bad
def extractQ (x : PV) (i : Nat) : QR :=
  match x with
  | .tup vs => (match nth vs i with
    | some v => .ok True v none
    | none => .bad)
  | _ => .bad
def unQ (op : UnOp) (x : PV) : QR :=
  match op, x with
  | .not, .d (.bool b) => .ok True (.d (.bool (!b))) none
  | .neg, .d (.int k n) => .ok (inKind k (0 - n)) (.d (.int k (0 - n))) none
  | _, _ => .bad
/-- The bounds of a slice expression: the condition, low, high. -/
def boundsQ (len : Nat) (lo hi : Option PV) : Option (Prop × Int × Int) :=
  match lo, hi with
  | some (.d (.int _ l)), some (.d (.int _ h)) => some (0 ≤ l ∧ l ≤ h ∧ h ≤ len, l, h)
  | none, some (.d (.int _ h)) => some (0 ≤ h ∧ h ≤ len, 0, h)
  | some (.d (.int _ l)), none => some (0 ≤ l ∧ l ≤ len, l, len)
  | none, none => some (True, 0, len)
  | _, _ => none
def sliceQ (P : Program) (t : TypeId) (s : Store) (lim : Nat) (x : PV) (lo hi : Option PV) : QR :=
  match (tyOf P t).td, x with
  | .str, .d (.str b) => (match boundsQ b.size lo hi with
    | some (c, l, h) => .ok c (.d (.str (b.extract l.toNat h.toNat))) none
    | none => .bad)
  | .slice e, .d (.list sz n f) => if sz = (tyOf P e).size ∧ sz ≠ 0 then (match boundsQ n lo hi with
    | some (c, l, h) => .ok c (.d (.list sz (h.toNat - l.toNat) (win l.toNat (h.toNat - l.toNat) n f))) none
    | none => .bad) else .bad
  | .slice e, .own id off len => if blkSize s lim id = (tyOf P e).size ∧ (tyOf P e).size ≠ 0 then (match boundsQ len lo hi with
    | some (c, l, h) => .ok c (.own id (off + l.toNat) (h.toNat - l.toNat)) none
    | none => .bad) else .bad
  | _, _ => .bad
def ifaceQ (P : Program) (t : TypeId) (x : PV) : QR :=
  match (tyOf P t).td with
  | .iface _ | .bad => .bad
  | _ => (match x with
    | .d y => .ok True (.d (.ifc t y)) none
    | .unk | .tup _ | .when .. => .bad
    | p => .ok True (.ifc t p) none)
def nilCheckQ : PV → QR
  | .ptr id off => .ok True (.ptr id off) none
  | .eptr id i j => .ok True (.eptr id i j) none
  | .rptr cs => .ok True (.rptr cs) none
  | .clo (.func f) a b => .ok True (.clo (.func f) a b) none
  | _ => .bad
/-- The parts of a struct or an array laid into its cells. -/
def setsN {α : Type} : List α → Nat → List α → List α
  | l, _, [] => l
  | l, o, y :: ys => setsN (setN l o y) (o + 1) ys
def fillP (place : Nat → Option (Nat × Nat)) (cs : List PV) : List (Nat × PV) → Option (List PV)
  | [] => some cs
  | (i, p) :: rest => match place i with
    | none => none
    | some (o, sz) => if p.cells.length = sz ∧ p.plain = true ∧ o + sz ≤ cs.length then fillP place (setsN cs o p.cells) rest else none
def buildQ (P : Program) (t : TypeId) (parts : List (Nat × PV)) : QR :=
  match zeroOf P t with
  | none => .bad
  | some z => (match (tyOf P t).td with
    | .struct fs => if fs.all (fun x => (tyOf P x.2).size != 0) then (match fillP (fun i => (nth fs i).map fun x => (x.1, (tyOf P x.2).size)) (z.cells.map .d) parts with
      | some cs => .ok True (.agg cs) none
      | none => .bad) else .bad
    | .array _ e => if (tyOf P e).size ≠ 0 then (match fillP (fun i => some (i * (tyOf P e).size, (tyOf P e).size)) (z.cells.map .d) parts with
      | some cs => .ok True (.agg cs) none
      | none => .bad) else .bad
    | _ => .bad)
def repN {α : Type} (n : Nat) (x : α) : List α := match n with
  | 0 => []
  | n + 1 => x :: repN n x
def fillD (sz : Nat) : List DV → List (Nat × PV) → Option (List DV)
  | ds, [] => some ds
  | ds, (i, p) :: rest => match p.deep with
    | some x => if i < ds.length ∧ x.cells.length = sz then fillD sz (setN ds i x) rest else none
    | none => none
def buildSliceQ (P : Program) (t : TypeId) (len nid : Nat) (parts : List (Nat × PV)) : QR :=
  match (tyOf P t).td with
  | .slice e => (match zeroOf P e with
    | some z => if z.cells.length = (tyOf P e).size ∧ 0 < (tyOf P e).size ∧ 0 < len ∧ len * (tyOf P e).size ≤ 16777216 then (match fillD (tyOf P e).size (repN len z) parts with
      | some ds => .ok True (.own nid 0 len) (some (.arr e (tyOf P e).size len (fun i => ds.getD i z)))
      | none => .bad) else .bad
    | none => .bad)
  | _ => .bad
def makeSliceQ (P : Program) (t : TypeId) (nid : Nat) (l c : PV) : QR :=
  match (tyOf P t).td, l, c with
  | .slice e, .d (.int _ n), .d (.int _ m) => (match zeroOf P e with
    | some z => if (tyOf P e).size ≠ 0 ∧ z.cells.length = (tyOf P e).size ∧ 0 < (tyOf P e).bytes then
        .ok (0 ≤ n ∧ n ≤ m ∧ m * (tyOf P e).bytes ≤ 140737488355328) (.own nid 0 n.toNat) (some (.arr e (tyOf P e).size n.toNat (fun _ => z))) else .bad
    | none => .bad)
  | _, _, _ => .bad
def optP (e : Nat → PV) (g : List (Tmp × Bool)) : Option Operand → Option PV
  | none => none
  | some x => some (opnd e g x)

def allDeep : List PV → Option (List DV)
  | [] => some []
  | p :: l => match p.deep, allDeep l with
    | some x, some xs => some (x :: xs)
    | _, _ => none
def resPV : List DV → PV
  | [x] => .d x
  | xs => .tup (xs.map .d)
def orcGet : List (Nat × List DV) → Nat → Option (List DV)
  | [], _ => none
  | (t, r) :: l, u => if t = u then some r else orcGet l u

def partsP (e : Nat → PV) (g : List (Tmp × Bool)) (ps : List (Nat × Operand)) : List (Nat × PV) := ps.map fun x => (x.1, opnd e g x.2)
/-- A quiet operation: it reads, or makes a block; it writes nothing. -/
def opQ (P : Program) (wr : Bool) (o : Op) (e : Nat → PV) (g : List (Tmp × Bool)) (s : Store) (lim nid : Nat) : QR :=
  match o with
  | .move x => .ok True (opnd e g x) none
  | .assign x => .ok True (opnd e g x) none
  | .pick (.tmp t) a b => (match opnd e g (.tmp t), opnd e ((t, true) :: g) a, opnd e ((t, false) :: g) b with
    | .d (.bool p), .d (.bool x), .d (.bool y) => .ok True (.d (.bool (bif p then x else y))) none
    | _, _, _ => .bad)
  | .alloc t => (match zeroOf P t with
    | some z => .ok True (.ptr nid 0) (some (.box (z.cells.map .d)))
    | none => .bad)
  | .box _ x => if (opnd e g x).plain then .ok True (.ptr nid 0) (some (.box (opnd e g x).cells)) else .bad
  | .build t ps => buildQ P t (partsP e g ps.toList)
  | .buildSlice t len ps => buildSliceQ P t len nid (partsP e g ps.toList)
  | .load t a => loadQ P t s lim (opnd e g a)
  | .nilCheck x => nilCheckQ (opnd e g x)
  | .binOp op t x y _ => binQ P t wr op (opnd e g x) (opnd e g y)
  | .unOp op _ x => unQ op (opnd e g x)
  | .convert src dst x => convQ P src dst s lim nid (opnd e g x)
  | .makeInterface t x => ifaceQ P t (opnd e g x)
  | .makeFunc fn a b => .ok True (.clo fn (a.toList.map (opnd e g)) (b.toList.map (opnd e g))) none
  | .makeSlice t l c => makeSliceQ P t nid (opnd e g l) (opnd e g c)
  | .slice t x lo hi none => sliceQ P t s lim (opnd e g x) (optP e g lo) (optP e g hi)
  | .fieldAddr st x i => fieldAddrQ P st i (opnd e g x)
  | .field st x i => fieldQ P st i (opnd e g x)
  | .indexAddr t x i => indexAddrQ P t s lim (opnd e g x) (opnd e g i)
  | .index t x i => (match (tyOf P t).td with
    | .str => indexQ (opnd e g x) (opnd e g i)
    | _ => .bad)
  | .extract x i => extractQ (opnd e g x) i
  | .call c => (match c.callee with
    | .builtin .len => (match c.args.toList, c.argTypes.toList with
      | [x], [t] => lenQ P t (opnd e g x)
      | _, _ => .bad)
    | .builtin .max => maxQ (c.args.toList.map (opnd e g))
    | .builtin .min => minQ (c.args.toList.map (opnd e g))
    | _ => .bad)
  | _ => .bad
end Go.Ev

/- The evaluator's values, memory and operations. -/
import Derived.Calls
import Derived.Orders
section
namespace Go.Eng
open Go

/-- A list: nil; one of which no more is known; one that is as long as its room. -/
inductive LK where
  | nil | any | full
  deriving DecidableEq, Inhabited

def LK.isNil : LK → Bool
  | .nil => true
  | _ => false

def LK.of (full : Bool) : LK := if full then .full else .any

/-- Data without pointers. A list's elements are rows of cells. -/
inductive D where
  | bool (b : Bool)
  | int (k : IntKind) (n : Int)
  | str (s : ByteArray)
  | list (k : LK) (sz : Nat) (xs : List (List D))
  deriving Inhabited

abbrev Row := List (List D)

inductive Ref where
  | loc (i : Nat)
  | glob (g : Nat)
  deriving DecidableEq, Inhabited

inductive Mode where
  | excl | own | ro
  deriving DecidableEq, Inhabited

/-- how code is left -/
inductive Ex where
  | norm
  | exit (id : Nat)
  | goto (l : Nat)
  | ret
  deriving Inhabited

/-- how far a range over a function is -/
inductive LS where
  | ready | busy | done (x : Ex)
  deriving Inhabited

inductive AV where
  | dead
  | undef
  | dat (d : D)
  | sh (full : Bool) (i : Nat) (sz off len : Nat)          -- a slice over the local row i
  | gh (full : Bool) (g j e : Nat) (sz off len : Nat)      -- a slice over the row in cell j of the object g, as it was at time e
  | rowc (m : Mode) (sz : Nat) (xs : Row)                  -- a row in a cell of everybody's object
  | own (x : Bool) (sz : Nat) (xs : Row)
  | ptr (r : Ref) (off : Nat)
  | nilp
  | ept (i : Nat) (sz k off : Nat)                          -- the address of a cell of element k of the local row i
  | gept (g j e : Nat) (sz k off : Nat)
  | dpt (sz : Nat) (xs : Row) (i off : Nat)
  | fn (f : FuncId) (caps : List AV)
  | nilfn
  | yld (g : Nat)                                           -- a loop's body as a function: its record is everybody's entity g
  | agg (cs : List AV)
  | tup (vs : List AV)
  | nili
  | err
  deriving Inhabited

inductive Ent where
  | obj (cs : List AV)
  | row (m : Mode) (sz : Nat) (xs : Row)
  | fwd (g : Nat)
  | lrec (s : LS) (ts : List AV) (ps : List Nat) (asg body : Code)   -- the record of a range over a function
  | gone
  deriving Inhabited

structure Mem where
  L : List (Option Ent)
  G : List Ent
  ep : Nat
  deriving Inhabited

structure St where
  tmps : List AV
  mem : Mem
  deriving Inhabited

abbrev Orc := FuncId → List AV → List Ent → Option (AV × List Ent)

/-- What is known of a type. -/
inductive TK where
  | bool | int (k : IntKind) | str | ptr (e : TypeId) | slice (e : TypeId) | arr (n : Nat) (e : TypeId) | struct (fs : List (Nat × TypeId))
  | func | iface | tuple
  deriving Inhabited

structure TI where
  k : TK
  size : Nat
  bytes : Nat
  zero : List AV
  cmp : Bool
  deriving Inhabited

abbrev Tab := TypeId → Option TI

def TK.isAgg : TK → Bool
  | .arr _ _ | .struct _ => true
  | _ => false

def kindT (T : Tab) (t : TypeId) : Option TK := match T t with
  | some ti => some ti.k
  | none => none

def isStrT (T : Tab) (t : TypeId) : Bool := match kindT T t with
  | some .str => true
  | _ => false

def isSlT (T : Tab) (t : TypeId) : Bool := match kindT T t with
  | some (.slice _) => true
  | _ => false

def sizeT (T : Tab) (t : TypeId) : Option Nat := match T t with
  | some ti => some ti.size
  | none => none

/-! ### reading and writing memory -/

def Mem.res (m : Mem) : Ref → Ref
  | .loc i => match m.L[i]? with
    | some (some (.fwd g)) => .glob g
    | _ => .loc i
  | r => r

/-- of a resolved reference -/
def Mem.get (m : Mem) : Ref → Option Ent
  | .loc i => match m.L[i]? with
    | some o => o
    | none => none
  | .glob g => m.G[g]?

def Mem.set (m : Mem) (r : Ref) (e : Ent) : Mem :=
  match r with
  | .loc i => { m with L := m.L.set i (some e) }
  | .glob g => { m with G := m.G.set g e }

def Mem.ent (m : Mem) (r : Ref) : Option Ent := m.get (m.res r)

def constV : Value → AV
  | .bool b => .dat (.bool b)
  | .int k n => .dat (.int k n)
  | .string s => .dat (.str s)
  | .pointer none => .nilp
  | .slice none 0 0 => .dat (.list .nil 0 [])
  | .nilIface => .nili
  | .nilFunc => .nilfn
  | _ => .dead

/-- The program's variables: those of which all cells are told as data; those of which something is told. -/
structure Pkg where
  gl : Nat → Option (List D)
  pv : Nat → Option (Value → Prop)

variable [Inhabited Pkg]
set_option linter.unusedSectionVars false

def pkgGl (g : Nat) : Option (List D) := (default : Pkg).gl g
def pkgPv (g : Nat) : Option (Value → Prop) := (default : Pkg).pv g

/-- where a variable lies -/
def globV (g : Nat) : AV := match pkgGl g with
  | some cs => .dpt cs.length [cs] 0 0
  | none => .dead

def opval (tmps : List AV) : Operand → AV
  | .tmp t => tmps.getD t .dead
  | .const v => constV v
  | .func f => .fn f []
  | .global g => globV g

def AV.cells : AV → List AV
  | .agg cs => cs
  | a => [a]

def splice {α : Type} (cs : List α) (off : Nat) (ys : List α) : List α := cs.take off ++ ys ++ cs.drop (off + ys.length)


def mapS {α β : Type} (f : Mem → α → Option (β × Mem)) (m : Mem) : List α → Option (List β × Mem)
  | [] => some ([], m)
  | a :: r => match f m a with
    | some (b, m1) => match mapS f m1 r with
      | some (bs, m2) => some (b :: bs, m2)
      | none => none
    | none => none

/-- the row in a cell of everybody's object -/
def Mem.rowAt (m : Mem) (g j e : Nat) : Option (Mode × Nat × Row) :=
  if e = m.ep then match m.G[g]? with
    | some (.obj cs) => match cs[j]? with
      | some (.rowc md sz xs) => some (md, sz, xs)
      | _ => none
    | _ => none
  else none

def Mem.setRow (m : Mem) (g j : Nat) (a : AV) : Mem :=
  match m.G[g]? with
  | some (.obj cs) => { m with G := m.G.set g (.obj (cs.set j a)) }
  | _ => m

def Mem.tick (m : Mem) : Mem := { m with ep := m.ep + 1 }

/-- A list as it is read; nil?, the cells of an element, the elements. -/
def rd (m : Mem) : AV → Option (Bool × Nat × Row)
  | .dat (.list k sz xs) => some (k.isNil, sz, xs)
  | .sh _ i sz off len => match m.get (.loc i) with
    | some (.row _ sz' xs) => if sz' = sz then some (false, sz, (xs.drop off).take len) else none
    | _ => none
  | .gh _ g j e sz off len => match m.rowAt g j e with
    | some (_, sz', xs) => if sz' = sz then some (false, sz, (xs.drop off).take len) else none
    | _ => none
  | _ => none

/-- The elements told as data: they are written no more. -/
def snap (m : Mem) (a : AV) : Option (D × Mem) :=
  match a with
  | .dat d => some (d, m)
  | .sh f i sz off len => match m.get (.loc i) with
    | some (.row md sz' xs) => if sz' = sz then
        some (.list (.of f) sz ((xs.drop off).take len), match md with | .excl => m.set (.loc i) (.row .own sz' xs) | _ => m) else none
    | _ => none
  | .gh f g j e sz off len => match m.rowAt g j e with
    | some (md, sz', xs) => if sz' = sz then
        some (.list (.of f) sz ((xs.drop off).take len), match md with | .excl => m.setRow g j (.rowc .own sz' xs) | _ => m) else none
    | _ => none
  | _ => none

def wrapD (k : IntKind) (n : Int) : AV := .dat (.int k (k.wrap n))

def intBin (op : BinOp) (k : IntKind) (a : Int) (k' : IntKind) (b : Int) : Option AV :=
  match op with
  | .shl => if b < 0 then none else some (wrapD k (a * 2 ^ (min b.toNat k.bits)))
  | .shr => if b < 0 then none else some (.dat (.int k (a.fdiv (2 ^ (min b.toNat k.bits)))))
  | _ => if k ≠ k' then none else match op with
    | .add => some (wrapD k (a + b))
    | .sub => some (wrapD k (a - b))
    | .mul => some (wrapD k (a * b))
    | .quo => if b = 0 then none else some (wrapD k (a.tdiv b))
    | .rem => if b = 0 then none else some (.dat (.int k (a.tmod b)))
    | .and => some (wrapD k (BitVec.ofInt k.bits a &&& BitVec.ofInt k.bits b).toNat)
    | .or => some (wrapD k (BitVec.ofInt k.bits a ||| BitVec.ofInt k.bits b).toNat)
    | .xor => some (wrapD k (BitVec.ofInt k.bits a ^^^ BitVec.ofInt k.bits b).toNat)
    | .andNot => some (wrapD k (BitVec.ofInt k.bits a &&& ~~~(BitVec.ofInt k.bits b)).toNat)
    | .eql => some (.dat (.bool (a == b)))
    | .neq => some (.dat (.bool (a != b)))
    | .lss => some (.dat (.bool (decide (a < b))))
    | .leq => some (.dat (.bool (decide (a ≤ b))))
    | .gtr => some (.dat (.bool (decide (a > b))))
    | .geq => some (.dat (.bool (decide (a ≥ b))))
    | _ => none

def strBin (op : BinOp) (a b : ByteArray) : Option AV :=
  match op with
  | .add => if ((a.size + b.size : Nat) : Int) > IntKind.i64.max then none else some (.dat (.str (a ++ b)))
  | .eql => some (.dat (.bool (a.toList == b.toList)))
  | .neq => some (.dat (.bool (!(a.toList == b.toList))))
  | .lss => some (.dat (.bool (Op.bytesLess a.toList b.toList)))
  | .leq => some (.dat (.bool (Op.bytesLess a.toList b.toList || a.toList == b.toList)))
  | .gtr => some (.dat (.bool (!(Op.bytesLess a.toList b.toList || a.toList == b.toList))))
  | .geq => some (.dat (.bool (!Op.bytesLess a.toList b.toList)))
  | _ => none

def isConst : Operand → Bool
  | .const _ => true
  | _ => false


/-- is it nil? of a pointer (0), slice (1), function (2), interface (3) -/
def isNil : AV → Option (Nat × Bool)
  | .nilp => some (0, true)
  | .ptr _ _ => some (0, false)
  | .dat (.list k _ _) => some (1, k.isNil)
  | .sh _ _ _ _ _ => some (1, false)
  | .nilfn => some (2, true)
  | .fn _ _ => some (2, false)
  | .nili => some (3, true)
  | .err => some (3, false)
  | _ => none

def nilKind : TK → Nat
  | .ptr _ => 0
  | .slice _ => 1
  | .func => 2
  | .iface => 3
  | _ => 4

/-- '==' where one side is nil -/
def nilEq (k : Nat) (x y : AV) : Option Bool :=
  match isNil x with
  | some (k1, a) => match isNil y with
    | some (k2, b) => if k1 = k ∧ k2 = k ∧ (a || b) = true then some (a && b) else none
    | none => none
  | none => none

def eqLeaf (k : TK) (xs ys : List AV) : Option Bool :=
  match k with
  | .bool => match xs with
    | [.dat (.bool a)] => match ys with
      | [.dat (.bool b)] => some (a == b)
      | _ => none
    | _ => none
  | .int _ => match xs with
    | [.dat (.int k a)] => match ys with
      | [.dat (.int k' b)] => if k = k' then some (a == b) else none
      | _ => none
    | _ => none
  | .str => match xs with
    | [.dat (.str a)] => match ys with
      | [.dat (.str b)] => some (a.toList == b.toList)
      | _ => none
    | _ => none
  | _ => none

def eqFs (T : Tab) (eq : TypeId → List AV → List AV → Option Bool) (xs ys : List AV) : List (Nat × TypeId) → Option Bool
  | [] => some true
  | (off, ft) :: r => match sizeT T ft with
    | some sz => if off + sz ≤ xs.length ∧ off + sz ≤ ys.length then match eq ft ((xs.drop off).take sz) ((ys.drop off).take sz) with
        | some b => match eqFs T eq xs ys r with
          | some b' => some (b && b')
          | none => none
        | none => none
      else none
    | none => none

def eqIs (eq : List AV → List AV → Option Bool) (sz : Nat) (xs ys : List AV) : Nat → Nat → Option Bool
  | _, 0 => some true
  | i, n + 1 => if i * sz + sz ≤ xs.length ∧ i * sz + sz ≤ ys.length then match eq ((xs.drop (i * sz)).take sz) ((ys.drop (i * sz)).take sz) with
      | some b => match eqIs eq sz xs ys (i + 1) n with
        | some b' => some (b && b')
        | none => none
      | none => none
    else none

def eqv (T : Tab) : Nat → TypeId → List AV → List AV → Option Bool
  | 0, _, _, _ => none
  | n + 1, t, xs, ys => match T t with
    | some ti => if ti.cmp then match ti.k with
        | .struct fs => eqFs T (eqv T n) xs ys fs
        | .arr len e => match sizeT T e with
          | some sz => eqIs (eqv T n e) sz xs ys 0 len
          | none => none
        | k => eqLeaf k xs ys
      else none
    | none => none

def bin (T : Tab) (op : BinOp) (t : TypeId) (x y : AV) (lit : Bool) : Option AV :=
  match x with
  | .dat (.int k a) => match y with
    | .dat (.int k' b) => intBin op k a k' b
    | _ => none
  | .dat (.str a) => match y with
    | .dat (.str b) => strBin op a b
    | _ => none
  | .dat (.bool a) => match y with
    | .dat (.bool b) => match kindT T t with
      | some .bool => match op with
        | .eql => some (.dat (.bool (a == b)))
        | .neq => some (.dat (.bool (!(a == b))))
        | _ => none
      | _ => none
    | _ => none
  | .agg xs => match y with
    | .agg ys => match kindT T t with
      | some k => if k.isAgg then match eqv T 6 t xs ys with
          | some b => match op with
            | .eql => some (.dat (.bool b))
            | .neq => some (.dat (.bool (!b)))
            | _ => none
          | none => none
        else none
      | none => none
    | _ => none
  | x => match kindT T t with
    | some k => if lit then match nilEq (nilKind k) x y with
        | some b => match op with
          | .eql => some (.dat (.bool b))
          | .neq => some (.dat (.bool (!b)))
          | _ => none
        | none => none
      else none
    | none => none

def un (op : UnOp) (x : AV) : Option AV :=
  match x with
  | .dat (.int k n) => match op with
    | .neg => some (wrapD k (0 - n))
    | .xor => some (wrapD k (BitVec.ofInt k.bits (if k.signed then -1 else k.max) ^^^ BitVec.ofInt k.bits n).toNat)
    | _ => none
  | .dat (.bool b) => match op with
    | .not => some (.dat (.bool (!b)))
    | _ => none
  | _ => none

/-- the place of a field: where it begins -/
def fieldOff (T : Tab) (t : TypeId) (f : Nat) : Option (Nat × TypeId) :=
  match T t with
  | some ti => match ti.k with
    | .struct fs => fs[f]?
    | _ => none
  | none => none

/-- a part of cells, as a value of its type -/
def partOf (T : Tab) (t : TypeId) (cs : List AV) (off : Nat) : Option AV :=
  match T t with
  | some ti => if ti.k.isAgg then some (.agg ((cs.drop off).take ti.size)) else cs[off]?
  | none => none

def field (T : Tab) (t : TypeId) (x : AV) (f : Nat) : Option AV :=
  match x with
  | .agg cs => match fieldOff T t f with
    | some (off, ft) => match T ft with
      | some ti => if off + ti.size ≤ cs.length then partOf T ft cs off else none
      | none => none
    | none => none
  | _ => none

def fieldAddr (T : Tab) (t : TypeId) (x : AV) (f : Nat) : Option AV :=
  match fieldOff T t f with
  | some (off, ft) => match T ft with
    | some ti => if ti.size = 0 then none else match x with
      | .ptr r o => some (.ptr r (o + off))
      | .ept r sz i o => some (.ept r sz i (o + off))
      | .gept g j e sz i o => some (.gept g j e sz i (o + off))
      | .dpt sz xs i o => some (.dpt sz xs i (o + off))
      | _ => none
    | none => none
  | none => none

def index (T : Tab) (t : TypeId) (x i : AV) : Option AV :=
  match i with
  | .dat (.int _ n) => match x with
    | .dat (.str s) => match kindT T t with
      | some .str => if 0 ≤ n then match s[n.toNat]? with
          | some b => some (.dat (.int .u8 b.toNat))
          | none => none
        else none
      | _ => none
    | .agg cs => match kindT T t with
      | some (.arr len e) => match T e with
        | some ti => if 0 ≤ n ∧ n < len then (if n.toNat * ti.size + ti.size ≤ cs.length then partOf T e cs (n.toNat * ti.size) else none) else none
        | none => none
      | _ => none
    | _ => none
  | _ => none

def indexAddr (T : Tab) (t : TypeId) (x i : AV) : Option AV :=
  match i with
  | .dat (.int _ n) => match kindT T t with
    | some (.arr len e) => match sizeT T e with
      | some sz => match x with
        | .ptr r o => if 0 ≤ n ∧ n < len then some (.ptr r (o + n.toNat * sz)) else none
        | .ept r s j o => if 0 ≤ n ∧ n < len then some (.ept r s j (o + n.toNat * sz)) else none
        | .gept g j e s k o => if 0 ≤ n ∧ n < len then some (.gept g j e s k (o + n.toNat * sz)) else none
        | .dpt s xs j o => if 0 ≤ n ∧ n < len then some (.dpt s xs j (o + n.toNat * sz)) else none
        | _ => none
      | none => none
    | some (.slice e) => match sizeT T e with
      | some sz => match x with
        | .sh _ r s off len => if s = sz then (if 0 ≤ n ∧ n < len then some (.ept r sz (off + n.toNat) 0) else none) else none
        | .gh _ g j e s off len => if s = sz then (if 0 ≤ n ∧ n < len then some (.gept g j e sz (off + n.toNat) 0) else none) else none
        | .dat (.list _ s xs) => if s = sz then (if 0 ≤ n ∧ n < xs.length then some (.dpt sz xs n.toNat 0) else none) else none
        | _ => none
      | none => none
    | _ => none
  | _ => none

/-- the cells from an offset on -/
def cellsAt (cs : List AV) (off n : Nat) : Option (List AV) := if off + n ≤ cs.length then some ((cs.drop off).take n) else none


/-- a cell of everybody's object, as it is read as a part of a struct -/
def outCell (a : AV) : Option AV :=
  match a with
  | .rowc .excl _ _ => none
  | .rowc _ sz xs => some (.dat (.list .any sz xs))
  | a => some a

def outCells : List AV → Option (List AV)
  | [] => some []
  | a :: r => match outCell a with
    | some b => match outCells r with
      | some bs => some (b :: bs)
      | none => none
    | none => none

/-- out of the cells of an object: of whose (none: local), at which cell -/
def asVal (m : Mem) (w : Option (Nat × Nat)) (agg : Bool) (cs : List AV) : Option AV :=
  if agg then match outCells cs with
    | some l => some (.agg l)
    | none => none
  else match cs with
    | [.rowc _ sz xs] => match w with
      | some (g, j) => some (.gh false g j m.ep sz 0 xs.length)
      | none => none
    | [a] => some a
    | _ => none

def rowVal (agg : Bool) (x : List D) (off n : Nat) : Option AV :=
  if off + n ≤ x.length then
    if agg then some (.agg (((x.drop off).take n).map .dat)) else match (x.drop off).take n with
      | [d] => some (.dat d)
      | _ => none
  else none

def load (T : Tab) (m : Mem) (t : TypeId) (a : AV) : Option AV :=
  match T t with
  | some ti => match a with
    | .ptr r off => match m.ent r with
      | some (.obj cs) => match cellsAt cs off ti.size with
        | some l => asVal m (match m.res r with | .glob g => some (g, off) | .loc _ => none) ti.k.isAgg l
        | none => none
      | _ => none
    | .ept i sz k off => match m.get (.loc i) with
      | some (.row _ sz' xs) => if sz' = sz then match xs[k]? with
          | some x => rowVal ti.k.isAgg x off ti.size
          | none => none
        else none
      | _ => none
    | .gept g j e sz k off => match m.rowAt g j e with
      | some (_, sz', xs) => if sz' = sz then match xs[k]? with
          | some x => rowVal ti.k.isAgg x off ti.size
          | none => none
        else none
      | _ => none
    | .dpt _ xs k off => match xs[k]? with
      | some x => rowVal ti.k.isAgg x off ti.size
      | none => none
    | _ => none
  | none => none

def AV.leaf : AV → Bool
  | .tup _ | .agg _ | .own _ _ _ | .ept _ _ _ _ | .gept _ _ _ _ _ _ | .dpt _ _ _ _ | .undef | .gh _ _ _ _ _ _ _ | .rowc _ _ _ | .dead => false
  | _ => true

/-- what is kept in a variable of one's own: a row in everybody's object is told as data -/
def keep (m : Mem) (a : AV) : Option (AV × Mem) :=
  match a with
  | .gh f g j e sz off len => match snap m (.gh f g j e sz off len) with
    | some (d, m1) => some (.dat d, m1)
    | none => none
  | a => some (a, m)

/-- what is handed to others: nothing of this call's own is named in it any more -/
def pass1 (m : Mem) (a : AV) : Option (AV × Mem) :=
  match a with
  | .dat d => some (.dat d, m)
  | .nilp => some (.nilp, m)
  | .nilfn => some (.nilfn, m)
  | .nili => some (.nili, m)
  | .err => some (.err, m)
  | .yld g => some (.yld g, m)
  | .sh f r sz off len => match snap m (.sh f r sz off len) with
    | some (d, m1) => some (.dat d, m1)
    | none => none
  | .gh f g j e sz off len => match snap m (.gh f g j e sz off len) with
    | some (d, m1) => some (.dat d, m1)
    | none => none
  | .ptr r off => match m.res r with
    | .glob g => some (.ptr (.glob g) off, m)
    | .loc _ => none
  | _ => none


/-- what is kept in a cell of everybody's object, but for rows and objects of this call's own -/
def lpass (m : Mem) (a : AV) : Option (AV × Mem) :=
  match a with
  | .gh _ _ _ _ _ _ _ => none
  | a => pass1 m a

def giveL (f : Mem → Nat → Nat → AV → Option (AV × Mem)) (m : Mem) (g j : Nat) : List AV → Option (List AV × Mem)
  | [] => some ([], m)
  | a :: r => match f m g j a with
    | some (b, m1) => match giveL f m1 g (j + 1) r with
      | some (bs, m2) => some (b :: bs, m2)
      | none => none
    | none => none

/-- A row of one's own goes into cell j of everybody's object g. -/
def giveSh (m : Mem) (f : Bool) (i sz off len : Nat) : Option (AV × Mem) :=
  match m.get (.loc i) with
  | some (.row md s xs) => if s = sz ∧ off = 0 ∧ len = xs.length ∧ md ≠ .ro ∧ f = false then some (.rowc md sz xs, m.set (.loc i) .gone) else lpass m (.sh f i sz off len)
  | _ => none

/-- An object of this call's own becomes everybody's. -/
def givePtr (f : Mem → Nat → Nat → AV → Option (AV × Mem)) (m : Mem) (r : Ref) (off : Nat) : Option (AV × Mem) :=
  match m.res r with
  | .glob g => some (.ptr (.glob g) off, m)
  | .loc i => match m.get (.loc i) with
    | some (.obj cs) => match giveL f { m with L := m.L.set i (some (.fwd m.G.length)), G := m.G ++ [.gone] } m.G.length 0 cs with
      | some (ds, m1) => some (.ptr (.glob m.G.length) off, { m1 with G := m1.G.set m.G.length (.obj ds) })
      | none => none
    | _ => none

/-- A value that comes to lie in cell j of everybody's object g: a row goes into the cell, an object of this call's own becomes everybody's. -/
def give : Nat → Mem → Nat → Nat → AV → Option (AV × Mem)
  | 0, m, _, _, a => match a with
    | .sh f i sz off len => giveSh m f i sz off len
    | a => lpass m a
  | n + 1, m, _, _, a => match a with
    | .sh f i sz off len => giveSh m f i sz off len
    | .ptr r off => givePtr (give n) m r off
    | a => lpass m a

def store (T : Tab) (m : Mem) (t : TypeId) (a x : AV) : Option Mem :=
  match T t with
  | some ti => match mapS keep m x.cells with
    | some (xs, m0) => if xs.length = ti.size ∧ xs.all AV.leaf = true then match a with
      | .ptr r off => match m0.res r with
        | .loc i => match m0.get (.loc i) with
          | some (.obj cs) => if off + ti.size ≤ cs.length then some (m0.set (.loc i) (.obj (splice cs off xs))) else none
          | _ => none
        | .glob g => match giveL (give 2) m0 g off xs with
          | some (ys, m1) => match m1.get (.glob g) with
            | some (.obj cs) => if off + ti.size ≤ cs.length then some (m1.set (.glob g) (.obj (splice cs off ys))).tick else none
            | _ => none
          | none => none
      | .ept i sz k off => match mapS snap m0 xs with
        | some (ds, m1) => match m1.get (.loc i) with
          | some (.row .excl sz' rs) => if sz' = sz then match rs[k]? with
              | some e => if off + ti.size ≤ e.length then some (m1.set (.loc i) (.row .excl sz' (rs.set k (splice e off ds)))) else none
              | none => none
            else none
          | _ => none
        | none => none
      | .gept g j e sz k off => match mapS snap m0 xs with
        | some (ds, m1) => match m1.rowAt g j e with
          | some (.excl, sz', rs) => if sz' = sz then match rs[k]? with
              | some el => if off + ti.size ≤ el.length then some (m1.setRow g j (.rowc .excl sz' (rs.set k (splice el off ds)))) else none
              | none => none
            else none
          | _ => none
        | none => none
      | _ => none
      else none
    | none => none
  | none => none

def alloc (T : Tab) (m : Mem) (fresh : Nat) (t : TypeId) : Option (AV × Mem) :=
  match T t with
  | some ti => some (.ptr (.loc fresh) 0, m.set (.loc fresh) (.obj ti.zero))
  | none => none

def box (m : Mem) (fresh : Nat) (x : AV) : Option (AV × Mem) :=
  match mapS keep m x.cells with
  | some (xs, m1) => if xs.all AV.leaf = true then some (.ptr (.loc fresh) 0, m1.set (.loc fresh) (.obj xs)) else none
  | none => none

def fillP (place : Nat → Option (Nat × Nat)) (cs : List AV) : List (Nat × AV) → Option (List AV)
  | [] => some cs
  | (i, v) :: rest => match place i with
    | none => none
    | some (off, size) => if v.cells.length = size ∧ off + size ≤ cs.length ∧ v.cells.all AV.leaf = true then fillP place (splice cs off v.cells) rest else none

def structPlace (T : Tab) (fs : List (Nat × TypeId)) (i : Nat) : Option (Nat × Nat) :=
  match fs[i]? with
  | some (off, ft) => match T ft with
    | some ti => some (off, ti.size)
    | none => none
  | none => none

def build (T : Tab) (t : TypeId) (parts : List (Nat × AV)) : Option AV :=
  match T t with
  | some ti => match ti.k with
    | .struct fs => (fillP (structPlace T fs) ti.zero parts).map .agg
    | .arr _ e => match sizeT T e with
      | some sz => (fillP (fun i => some (i * sz, sz)) ti.zero parts).map .agg
      | none => none
    | _ => none
  | none => none

/-- n pieces of so many cells -/
def chunks {α : Type} (sz : Nat) : Nat → List α → List (List α)
  | 0, _ => []
  | n + 1, l => l.take sz :: chunks sz n (l.drop sz)

def zeroCells (z : List AV) : Nat → List AV
  | 0 => []
  | n + 1 => z ++ zeroCells z n

def buildSlice (T : Tab) (m : Mem) (fresh : Nat) (t : TypeId) (n : Nat) (parts : List (Nat × AV)) : Option (AV × Mem) :=
  match T t with
  | some ti => match ti.k with
    | .slice e => match T e with
      | some te => if n * te.size ≤ 2 ^ 24 ∧ te.zero.length = te.size ∧ 0 < te.size then
          match fillP (fun i => some (i * te.size, te.size)) (zeroCells te.zero n) parts with
          | some cs => match mapS snap m cs with
            | some (ds, m1) => some (.sh true fresh te.size 0 n, m1.set (.loc fresh) (.row .excl te.size (chunks te.size n ds)))
            | none => none
          | none => none
        else none
      | none => none
    | _ => none
  | none => none

def makeSlice (T : Tab) (m : Mem) (fresh : Nat) (t : TypeId) (l c : AV) : Option (AV × Mem) :=
  match l, c with
  | .dat (.int _ l), .dat (.int _ c) => match T t with
    | some ti => match ti.k with
      | .slice e => match T e with
        | some te => match mapS snap m te.zero with
          | some (z, m1) => if 0 ≤ l ∧ l ≤ c ∧ c * te.bytes ≤ 140737488355328 ∧ c ≤ 9223372036854775807 ∧ te.zero.length = te.size ∧ 0 < te.size then
              some (.sh false fresh te.size 0 l.toNat, m1.set (.loc fresh) (.row .excl te.size (List.replicate l.toNat z)))
            else none
          | none => none
        | none => none
      | _ => none
    | none => none
  | _, _ => none

def optInt (d : Int) : Option AV → Option Int
  | none => some d
  | some (.dat (.int _ n)) => some n
  | _ => none

def slice (T : Tab) (t : TypeId) (x : AV) (lo hi mx : Option AV) : Option AV :=
  match kindT T t with
  | some .str => match x with
    | .dat (.str s) => match mx with
      | none => match optInt 0 lo, optInt s.size hi with
        | some l, some h => if 0 ≤ l ∧ l ≤ h ∧ h ≤ s.size then some (.dat (.str (s.extract l.toNat h.toNat))) else none
        | _, _ => none
      | some _ => none
    | _ => none
  | some (.slice e) => match sizeT T e with
    | some sz => match x with
      | .dat (.list k s xs) => match optInt 0 lo, optInt xs.length hi, mx with
          | some l, some h, none => if 0 ≤ l ∧ l ≤ h ∧ h ≤ xs.length ∧ (k = .nil ∨ s = sz) then
              some (.dat (.list (if k = .full ∧ h < xs.length then .any else k) s ((xs.drop l.toNat).take (h.toNat - l.toNat)))) else none
          | some l, some h, some (.dat (.int _ m)) => if 0 ≤ l ∧ l ≤ h ∧ h ≤ xs.length ∧ k ≠ .nil ∧ s = sz ∧ m = h ∧ hi.isSome = true then
              some (.dat (.list .full s ((xs.drop l.toNat).take (h.toNat - l.toNat)))) else none
          | _, _, _ => none
      | .sh f r s off len => if s = sz then match optInt 0 lo, optInt len hi, mx with
          | some l, some h, none => if 0 ≤ l ∧ l ≤ h ∧ h ≤ len then some (.sh (f && decide (h = len)) r s (off + l.toNat) (h.toNat - l.toNat)) else none
          | some l, some h, some (.dat (.int _ m)) => if 0 ≤ l ∧ l ≤ h ∧ h ≤ len ∧ m = h ∧ hi.isSome = true then some (.sh true r s (off + l.toNat) (h.toNat - l.toNat)) else none
          | _, _, _ => none
        else none
      | .gh f g j e s off len => if s = sz then match optInt 0 lo, optInt len hi, mx with
          | some l, some h, none => if 0 ≤ l ∧ l ≤ h ∧ h ≤ len then some (.gh (f && decide (h = len)) g j e s (off + l.toNat) (h.toNat - l.toNat)) else none
          | some l, some h, some (.dat (.int _ m)) => if 0 ≤ l ∧ l ≤ h ∧ h ≤ len ∧ m = h ∧ hi.isSome = true then some (.gh true g j e s (off + l.toNat) (h.toNat - l.toNat)) else none
          | _, _, _ => none
        else none
      | _ => none
    | none => none
  | _ => none

def byteRow (b : UInt8) : List D := [.int .u8 b.toNat]

def rowBytes : Row → Option (List UInt8)
  | [] => some []
  | [.int .u8 n] :: r => (rowBytes r).map fun l => UInt8.ofNat n.toNat :: l
  | _ => none

/-- memory with what has been laid -/
def putE (m : Mem) (k : Nat) : Option Ent → Mem
  | none => m
  | some e => m.set (.loc k) e

/-- a conversion; r: the list, as it is read -/
def convertP (T : Tab) (r : Option (Bool × Nat × Row)) (fresh : Nat) (src dst : TypeId) (x : AV) : Option (AV × Option Ent) :=
  match kindT T src with
  | none => none
  | some ks => match kindT T dst with
    | some (.int k) => match x with
      | .dat (.int _ n) => some (wrapD k n, none)
      | _ => none
    | some .str => match x with
      | .dat (.str s) => some (.dat (.str s), none)
      | _ => match ks with
        | .slice e => match kindT T e with
          | some (.int .u8) => match r with
            | some (_, sz, xs) => match rowBytes xs with
              | some l => if sz = 1 ∨ xs.isEmpty then some (.dat (.str ⟨l.toArray⟩), none) else none
              | none => none
            | none => none
          | _ => none
        | _ => none
    | some (.slice e) => match x with
      | .dat (.str s) => match kindT T e with
        | some (.int .u8) => if s.size ≤ 140737488355328 then
            some (.sh false fresh 1 0 s.size, some (.row .excl 1 (s.data.toList.map byteRow))) else none
        | _ => none
      | _ => none
    | _ => none

def convert (T : Tab) (m : Mem) (fresh : Nat) (src dst : TypeId) (x : AV) : Option (AV × Mem) :=
  (convertP T (rd m x) fresh src dst x).map fun p => (p.1, putE m fresh p.2)

def lenOf (T : Tab) (t : TypeId) (x : AV) : Option AV :=
  match x with
  | .dat (.str s) => if isStrT T t then some (.dat (.int .i64 s.size)) else none
  | .dat (.list _ _ xs) => if isSlT T t then some (.dat (.int .i64 xs.length)) else none
  | .sh _ _ _ _ len => if isSlT T t then some (.dat (.int .i64 len)) else none
  | .gh _ _ _ _ _ _ len => if isSlT T t then some (.dat (.int .i64 len)) else none
  | _ => match kindT T t with
    | some (.arr n _) => some (.dat (.int .i64 n))
    | _ => none

/-- the elements that are appended -/
def newsOf (m : Mem) (sz : Nat) (x : AV) : Option Row :=
  match x with
  | .dat (.str s) => if sz = 1 then some (s.data.toList.map byteRow) else none
  | x => match rd m x with
    | some (n, s, xs) => if n = true ∨ s = sz then some xs else none
    | none => none

def append (T : Tab) (m : Mem) (fresh : Nat) (t t2 : TypeId) (x y : AV) : Option (AV × Mem) :=
  match T t with
  | some ti => match ti.k with
    | .slice e => match T e with
      | some te => if te.zero.length = te.size ∧ 0 < te.size ∧ (isSlT T t2 || isStrT T t2) = true then
          match newsOf m te.size y with
          | some ys => match x with
            | .dat (.list .nil _ []) =>
                if ys.length * te.bytes ≤ 140737488355328 ∧ ys.length ≤ 9223372036854775807 then
                  (match ys with
                  | [] => some (.dat (.list .nil 0 []), m)
                  | _ => some (.sh false fresh te.size 0 ys.length, m.set (.loc fresh) (.row .excl te.size ys)))
                else none
            | .dat (.list .full sz xs) =>
                if sz = te.size ∧ (xs.length + ys.length) * te.bytes ≤ 140737488355328 ∧ xs.length + ys.length ≤ 9223372036854775807 then
                  (match ys with
                  | [] => some (.dat (.list .full sz xs), m)
                  | _ => some (.sh false fresh sz 0 (xs.length + ys.length), m.set (.loc fresh) (.row .excl sz (xs ++ ys))))
                else none
            | .sh full i sz off len => if sz = te.size then match m.get (.loc i) with
                | some (.row md sz' xs) => if sz' = sz then
                    if off + len ≤ xs.length ∧ (len + ys.length) * te.bytes ≤ 140737488355328 ∧ len + ys.length ≤ 9223372036854775807 then
                      if full then
                        (match ys with
                        | [] => some (.sh full i sz off len, m)
                        | _ => some (.sh false fresh sz 0 (len + ys.length), m.set (.loc fresh) (.row .excl sz ((xs.drop off).take len ++ ys))))
                      else if off = 0 ∧ len = xs.length ∧ md ≠ .ro then
                        some (.sh false fresh sz 0 (len + ys.length),
                          (m.set (.loc i) (match md with | .own => .row .ro sz xs | _ => .gone)).set (.loc fresh) (.row md sz (xs ++ ys)))
                      else none
                    else none
                  else none
                | _ => none
              else none
            | .gh full g j e sz off len => if sz = te.size then match m.rowAt g j e with
                | some (md, sz', xs) => if sz' = sz then
                    if off + len ≤ xs.length ∧ (len + ys.length) * te.bytes ≤ 140737488355328 ∧ len + ys.length ≤ 9223372036854775807 then
                      if full then
                        (match ys with
                        | [] => some (.gh full g j e sz off len, m)
                        | _ => some (.sh false fresh sz 0 (len + ys.length), m.set (.loc fresh) (.row .excl sz ((xs.drop off).take len ++ ys))))
                      else if off = 0 ∧ len = xs.length ∧ md ≠ .ro then
                        some (.sh false fresh sz 0 (len + ys.length),
                          ((m.setRow g j .dead).tick).set (.loc fresh) (.row md sz (xs ++ ys)))
                      else none
                    else none
                  else none
                | _ => none
              else none
            | _ => none
          | none => none
        else none
      | none => none
    | _ => none
  | none => none


def minmaxGo (isMax : Bool) (k : IntKind) (a : Int) : List AV → Option AV
  | [] => some (.dat (.int k a))
  | .dat (.int _ b) :: r => minmaxGo isMax k (if isMax then (if b > a then b else a) else (if b < a then b else a)) r
  | _ => none

def minmax (isMax : Bool) : List AV → Option AV
  | .dat (.int k a) :: r => minmaxGo isMax k a r
  | _ => none

def pick (c a b : AV) : Option AV :=
  match c with
  | .dat (.bool true) => some a
  | .dat (.bool false) => some b
  | _ => none

def extract (t : AV) (i : Nat) : Option AV :=
  match t with
  | .tup vs => vs[i]?
  | _ => none

def nilCheck (a : AV) : Option AV :=
  match a with
  | .ptr _ _ | .ept _ _ _ _ | .dpt _ _ _ _ | .fn _ _ | .yld _ => some a
  | _ => none

/-- a part of what is handed on -/
def passC (m : Mem) (a : AV) : Option (AV × Mem) :=
  match a with
  | .ptr r off => give 3 m 0 0 (.ptr r off)
  | a => pass1 m a

def pass (m : Mem) (a : AV) : Option (AV × Mem) :=
  match a with
  | .agg cs => match mapS passC m cs with
    | some (ds, m1) => some (.agg ds, m1)
    | none => none
  | .fn f cs => match mapS passC m cs with
    | some (ds, m1) => some (.fn f ds, m1)
    | none => none
  | .ptr r off => give 3 m 0 0 (.ptr r off)
  | a => pass1 m a

/-- what is handed back -/
def back (m : Mem) (a : AV) : Option (AV × Mem) :=
  match a with
  | .sh f i sz off len => match m.get (.loc i) with
    | some (.row .excl s xs) => if s = sz ∧ off = 0 ∧ len = xs.length ∧ f = false then some (.own true sz xs, m.set (.loc i) .gone) else pass m a
    | some (.row .own s xs) => if s = sz ∧ off = 0 ∧ len = xs.length ∧ f = false then some (.own false sz xs, m.set (.loc i) .gone) else pass m a
    | _ => pass m a
  | a => pass m a

/-- a result that has come -/
def take (m : Mem) (fresh : Nat) (a : AV) : Option (AV × Mem) :=
  match a with
  | .own x sz xs => some (.sh false fresh sz 0 xs.length, m.set (.loc fresh) (.row (if x then .excl else .own) sz xs))
  | .tup _ | .agg _ | .dat _ | .nilp | .nilfn | .nili | .err | .ptr _ _ | .fn _ _ | .yld _ => some (a, m)
  | _ => none

def callF (orc : Orc) (m : Mem) (fresh : Nat) (f : FuncId) (args : List AV) : Option (AV × Mem) :=
  match mapS pass m args with
  | some (as, m1) => match orc f as m1.G with
    | some (r, G) => take { m1 with G := G, ep := m1.ep + 1 } fresh r
    | none => none
  | none => none

/-- from this number on an oracle's functions are loops' bodies -/
def yB : Nat := 1000000

def call (T : Tab) (orc : Orc) (m : Mem) (fresh : Nat) (v : Operand → AV) (c : Call) : Option (AV × Mem) :=
  match c.callee with
  | .value f => match v f with
    | .fn g caps => if g < yB then callF orc m fresh g ((c.args.toList.map v) ++ caps) else none
    | .yld g => callF orc m fresh (yB + g) (c.args.toList.map v)
    | _ => none
  | .builtin b => match b with
    | .len => match c.args.toList, c.argTypes.toList with
      | [x], [t] => (lenOf T t (v x)).map (·, m)
      | _, _ => none
    | .append => match c.args.toList, c.argTypes.toList with
      | [x, y], [t, t2] => append T m fresh t t2 (v x) (v y)
      | _, _ => none
    | .max => (minmax true (c.args.toList.map v)).map (·, m)
    | .min => (minmax false (c.args.toList.map v)).map (·, m)
    | _ => none
  | _ => none

/-- One operation: what it gives, and the memory behind it. -/
def sem (T : Tab) (orc : Orc) (o : Oper) (fresh : Nat) (v : Operand → AV) (m : Mem) : Option (AV × Mem) :=
  match o.op with
  | .move x => some (v x, m)
  | .assign x => keep m (v x)
  | .pick c a b => (pick (v c) (v a) (v b)).map (·, m)
  | .alloc t => alloc T m fresh t
  | .box _ x => box m fresh (v x)
  | .build t ps => (build T t (ps.toList.map fun p => (p.1, v p.2))).map (·, m)
  | .buildSlice t n ps => buildSlice T m fresh t n (ps.toList.map fun p => (p.1, v p.2))
  | .load t a => (load T m t (v a)).map (·, m)
  | .store t a x => (store T m t (v a) (v x)).map (.undef, ·)
  | .nilCheck x => (nilCheck (v x)).map (·, m)
  | .binOp op t x y _ => (bin T op t (v x) (v y) (isConst x || isConst y)).map (·, m)
  | .unOp op _ x => (un op (v x)).map (·, m)
  | .convert s d x => convert T m fresh s d (v x)
  | .makeFunc (.func f) first caps => if first.isEmpty ∧ ((caps.toList.map v).all AV.leaf) then some (.fn f (caps.toList.map v), m) else none
  | .makeSlice t l c => makeSlice T m fresh t (v l) (v c)
  | .slice t x lo hi mx => (slice T t (v x) (lo.map v) (hi.map v) (mx.map v)).map (·, m)
  | .fieldAddr t x f => (fieldAddr T t (v x) f).map (·, m)
  | .field t x f => (field T t (v x) f).map (·, m)
  | .indexAddr t x i => (indexAddr T t (v x) (v i)).map (·, m)
  | .index t x i => (index T t (v x) (v i)).map (·, m)
  | .extract t i => (extract (v t) i).map (·, m)
  | .call c => call T orc m fresh v c
  | _ => none

/-- in a region that draws its order: a handle is handed on as it is -/
def semD (T : Tab) (orc : Orc) (o : Oper) (fresh : Nat) (v : Operand → AV) (m : Mem) : Option (AV × Mem) :=
  match o.op with
  | .assign x => some (v x, m)
  | _ => sem T orc o fresh v m

def semX (d : Option (List Nat)) (T : Tab) (orc : Orc) (o : Oper) (fresh : Nat) (v : Operand → AV) (m : Mem) : Option (AV × Mem) :=
  match d with
  | none => sem T orc o fresh v m
  | some _ => semD T orc o fresh v m

/-- may it lay an entity? -/
def lays (o : Oper) : Bool :=
  match o.op with
  | .alloc _ | .box _ _ | .buildSlice _ _ _ | .convert _ _ _ | .makeSlice _ _ _ => true
  | .call c => match c.callee with
    | .builtin .append => true
    | .value _ => true
    | _ => false
  | _ => false

def rank (ops : List Oper) (i : Nat) : Nat := ((ops.take i).filter lays).length

/-- is it carried out? none: not known -/
def goes (ops : List Oper) (tmps : List AV) (o : Oper) : Option Bool :=
  match o.guard with
  | none => some true
  | some (j, want) => match (ops[j]?).bind (·.dst) with
    | some d => match tmps[d]? with
      | some (.dat (.bool b)) => some (b == want)
      | some .undef => some false
      | _ => none
    | none => none

def putT (tmps : List AV) (d : Option Nat) (a : AV) : List AV :=
  match d with
  | some d => tmps.set d a
  | none => tmps


/-- a value that leads nowhere -/
def plain (a : AV) : Bool :=
  match a with
  | .dat _ | .nilp | .nilfn | .nili | .err => true
  | _ => false

def notGh (a : AV) : Bool :=
  match a with
  | .gh _ _ _ _ _ _ _ => false
  | _ => true

/-- nothing that this region itself has laid -/
def old (base : Nat) (a : AV) : Bool :=
  match a with
  | .ptr (.loc i) _ => decide (i < base)
  | .ept i _ _ _ => decide (i < base)
  | .sh _ i _ _ _ => decide (i < base)
  | _ => true

def isDatA : AV → Bool
  | .dat _ => true
  | _ => false

/-- in a region that draws its order: what an operation looks at in memory is older than the region -/
def okD (base : Nat) (v : Operand → AV) (o : Oper) : Bool :=
  match o.op with
  | .load _ a => old base (v a)
  | .convert _ _ x => old base (v x)
  | .buildSlice _ _ ps => ps.toList.all fun p => (v p.2).cells.all plain
  | .box _ x => (v x).cells.all notGh
  | _ => true

/-- none of one's own objects -/
def noLoc0 (a : AV) : Bool :=
  match a with
  | .ptr (.loc _) _ => false
  | _ => true

def noLocA (a : AV) : Bool :=
  match a with
  | .agg cs => cs.all noLoc0
  | .fn _ cs => cs.all noLoc0
  | a => noLoc0 a

def isLd (o : Oper) : Bool :=
  match o.op with
  | .load _ _ => true
  | _ => false

def isSt (o : Oper) : Bool :=
  match o.op with
  | .store _ _ _ => true
  | _ => false

def isCv (o : Oper) : Bool :=
  match o.op with
  | .call c => match c.callee with
    | .value _ => true
    | _ => false
  | _ => false

/-- mx bears this sign: the calls change nothing of everybody's -/
def roM (mx : List Nat) : Bool := mx.contains 1000000

/-- an object of one's own, or one that has become everybody's -/
def isPinO : Option (Option Ent) → Bool
  | some (some (.obj _)) => true
  | some (some (.fwd _)) => true
  | _ => false

def pinOk (ro : Bool) : Option (Option Ent) → Bool
  | some (some (.obj _)) => true
  | some (some (.fwd _)) => ro
  | _ => false

/-- beside calls: a load looks at one's own objects or at data (at everybody's objects, where the calls change none); a call is handed none of one's own objects -/
def okM (ro : Bool) (base : Nat) (v : Operand → AV) (m : Mem) (o : Oper) : Bool :=
  match o.op with
  | .load _ a => match v a with
    | .dpt _ _ _ _ => true
    | .ptr (.loc i) _ => decide (i < base) && pinOk ro m.L[i]?
    | .ptr (.glob _) _ => ro
    | _ => false
  | .call c => (c.args.toList.all fun x => noLocA (v x)) && (match c.callee with
    | .value f => match v f with
      | .fn _ caps => caps.all noLocA
      | _ => true
    | .builtin .append => match c.args.toList with
      | [x, y] => isDatA (v x) && old base (v y)
      | _ => true
    | _ => true)
  | _ => true

/-- an object, in this place -/
def isObjO : Option (Option Ent) → Bool
  | some (some (.obj _)) => true
  | _ => false

/-- beside stores: a load looks at everybody's objects or at data; a store goes to an object of one's own -/
def okSt (base : Nat) (v : Operand → AV) (m : Mem) (o : Oper) : Bool :=
  match o.op with
  | .load _ a => match v a with
    | .dpt _ _ _ _ => true
    | .ptr (.glob _) _ => true
    | _ => false
  | .store _ a x => (match v a with
    | .ptr (.loc i) _ => decide (i < base) && isObjO m.L[i]?
    | _ => false) && (v x).cells.all notGh
  | _ => true

/-- a handle that is good for nothing but its length, once anything has been called -/
def weak (a : AV) : AV :=
  match a with
  | .gh f g j _ sz off len => .gh f g j 0 sz off len
  | a => a

def dW (d : Option (List Nat)) (i : Nat) (o : Oper) (a : AV) : AV :=
  match d with
  | none => a
  | some mx => if mx.contains i && (roM mx && isLd o) then weak a else a

open Classical in
noncomputable def gOk (d : Option (List Nat)) (i : Nat) (o : Oper) (m m' : Mem) : Bool :=
  match d with
  | none => true
  | some mx => !(mx.contains i && (roM mx && isCv o)) || decide (m'.G = m.G)

def isCvt (o : Oper) : Bool :=
  match o.op with
  | .convert _ _ _ => true
  | _ => false

/-- a conversion that stands in one order with all that reads or lays -/
def tied (mx : List Nat) (i : Nat) (o : Oper) : Bool := isCvt o && mx.contains (4000000 + i)

/-- in a region that draws its order (mx: the operations that go beside calls) -/
def dOk (d : Option (List Nat)) (i base : Nat) (v : Operand → AV) (m : Mem) (o : Oper) : Bool :=
  match d with
  | none => true
  | some mx => (tied mx i o || okD base v o) && ((!mx.contains i || okM (roM mx) base v m o) && (!mx.contains (2000000 + i) || okSt base v m o))

noncomputable def evOp (T : Tab) (orc : Orc) (d : Option (List Nat)) (ops : List Oper) (base : Nat) (i : Nat) (st : St) : Option St :=
  match ops[i]? with
  | none => some st
  | some o => match goes ops st.tmps o with
    | some true => if !dOk d i base (opval st.tmps) st.mem o then none else
      match semX d T orc o (base + rank ops i) (opval st.tmps) st.mem with
      | some (a, m) => if gOk d i o st.mem m then some { tmps := putT st.tmps o.dst (dW d i o a), mem := m } else none
      | none => none
    | some false => some { st with tmps := putT st.tmps o.dst .undef }
    | none => none

noncomputable def evOps (T : Tab) (orc : Orc) (d : Option (List Nat)) (ops : List Oper) (base : Nat) : List Nat → St → Option St
  | [], st => some st
  | i :: r, st => match evOp T orc d ops base i st with
    | some st1 => evOps T orc d ops base r st1
    | none => none

def St.more (st : St) (n : Nat) : St := { st with mem := { st.mem with L := st.mem.L ++ List.replicate n none } }


/-! ### regions that draw their order -/

def isIntT (T : Tab) (t : TypeId) : Bool := match kindT T t with
  | some (.int _) => true
  | _ => false

/-- an operation that neither reads nor turns memory -/
def isP (T : Tab) (o : Oper) : Bool :=
  match o.op with
  | .convert _ d _ => isIntT T d
  | .move _ | .assign _ | .pick _ _ _ | .build _ _ | .nilCheck _ | .binOp _ _ _ _ _ | .unOp _ _ _ | .slice _ _ _ _ _ | .fieldAddr _ _ _ | .field _ _ _
  | .indexAddr _ _ _ | .index _ _ _ | .extract _ _ | .makeFunc _ _ _ => true
  | .call c => match c.callee with
    | .builtin .len | .builtin .max | .builtin .min => true
    | _ => false
  | _ => false

/-- an operation that reads memory older than the region, or lays what depends on no memory -/
def isR (o : Oper) : Bool :=
  match o.op with
  | .load _ _ | .convert _ _ _ | .alloc _ | .box _ _ | .buildSlice _ _ _ | .makeSlice _ _ _ => true
  | _ => false

/-- an append -/
def isA (o : Oper) : Bool :=
  match o.op with
  | .call c => match c.callee with
    | .builtin .append => true
    | _ => false
  | _ => false

def isRA (mx : List Nat) (i : Nat) (o : Oper) : Bool := (isR o && !tied mx i o) || (isA o && mx.contains i)

/-- the slots that an operation looks at -/
def looks (ops : List Oper) (o : Oper) : List Nat :=
  (o.op.operands.toList.filterMap fun | .tmp t => some t | _ => none) ++
  (match o.guard with
   | some (g, _) => ((ops[g]?).bind (·.dst)).toList
   | none => [])

/-- may the two be carried out in either order? -/
def free (T : Tab) (ops : List Oper) (mx : List Nat) (i j : Nat) (x y : Oper) : Bool :=
  (isP T x || isP T y || (isRA mx i x && isRA mx j y) || (((isLd x && isCv y) || (isCv x && isLd y)) && (mx.contains i && mx.contains j)) || (((isLd x && isSt y) || (isSt x && isLd y)) && (mx.contains (2000000 + i) && mx.contains (2000000 + j)))) &&
  (match x.dst with
   | some d => !(looks ops y).contains d && y.dst != some d
   | none => true) &&
  (match y.dst with
   | some d => !(looks ops x).contains d
   | none => true)

/-- what must have gone before an operation: bits -/
def bitsOf (acc : List Nat) (o : Oper) : Nat :=
  o.after.toList.foldl (fun s e => if Region.binds .any e then s ||| 2 ^ e.on ||| acc.getD e.on 0 else s) 0

def before (ops : List Oper) : List Nat := ops.foldl (fun acc o => acc ++ [bitsOf acc o]) []

/-- each edge leads back -/
def backOk : Nat → List Oper → Bool
  | _, [] => true
  | j, o :: r => o.after.toList.all (fun e => decide (e.on < j)) && backOk (j + 1) r

def atB (q : Oper → Bool) : Nat → List Oper → List Nat
  | _, [] => []
  | i, o :: r => if q o then i :: atB q (i + 1) r else atB q (i + 1) r

/-- loads and calls that may go in either order -/
def mixedC (ops : List Oper) : List Nat :=
  if ops.any isLd && ops.any isCv then
    let b := before ops
    let ls := atB isLd 0 ops
    let cs := atB isCv 0 ops
    (ls.filter fun i => cs.any fun j => !(b.getD i 0).testBit j && !(b.getD j 0).testBit i) ++ (cs.filter fun i => ls.any fun j => !(b.getD i 0).testBit j && !(b.getD j 0).testBit i)
  else []

/-- appends that may go in either order with what reads or lays -/
def mixedA (ops : List Oper) : List Nat :=
  if ops.any isA then
    let b := before ops
    let rs := atB (fun o => isR o || isA o) 0 ops
    (atB isA 0 ops).filter fun i => rs.any fun j => i != j && (!(b.getD i 0).testBit j && !(b.getD j 0).testBit i)
  else []

/-- loads and stores that may go in either order -/
def mixedS (ops : List Oper) : List Nat :=
  if ops.any isLd && ops.any isSt then
    let b := before ops
    let ls := atB isLd 0 ops
    let cs := atB isSt 0 ops
    ((ls.filter fun i => cs.any fun j => !(b.getD i 0).testBit j && !(b.getD j 0).testBit i) ++ (cs.filter fun i => ls.any fun j => !(b.getD i 0).testBit j && !(b.getD j 0).testBit i)).map (2000000 + ·)
  else []

/-- conversions that stand in one order with all that reads or lays -/
def mixedT (ops : List Oper) : List Nat :=
  if ops.any isCvt then
    let b := before ops
    let rs := atB (fun o => isR o || isA o) 0 ops
    ((atB isCvt 0 ops).filter fun i => rs.all fun j => i == j || ((b.getD i 0).testBit j || (b.getD j 0).testBit i)).map (4000000 + ·)
  else []

def mixed (ops : List Oper) : List Nat := mixedC ops ++ (mixedA ops ++ (mixedS ops ++ mixedT ops))

/-- may it be next? -/
def nextM (md : Region.Mode) (ops : List Oper) (done : List Nat) (i : Nat) : Bool :=
  !done.contains i && (match ops[i]? with
    | some o => o.after.toList.all fun e => !Region.binds md e || done.contains e.on
    | none => false)

def topo (md : Region.Mode) (ops : List Oper) : Nat → List Nat → List Nat
  | 0, acc => acc
  | n + 1, acc => match (List.range ops.length).find? (nextM md ops acc) with
    | some i => topo md ops n (acc ++ [i])
    | none => acc

def edgesOk (md : Region.Mode) (ops : List Oper) (ord : List Nat) : Bool :=
  (List.range ops.length).all fun j => match ops[j]? with
    | some o => o.after.toList.all fun e => !Region.binds md e || (decide (e.on < ops.length) && decide (ord.idxOf e.on < ord.idxOf j))
    | none => true

/-- there is an order that heeds the edges -/
def modeOk (ops : List Oper) (md : Region.Mode) : Bool := backOk 0 ops || edgesOk md ops (topo md ops ops.length [])

def drawOk (T : Tab) (ops : List Oper) : Bool :=
  let b := before ops
  let mx := mixed ops
  (modeOk ops .any && (modeOk ops .text && modeOk ops .gc)) && (List.range ops.length).all fun j => (List.range j).all fun i =>
    (match ops[i]?, ops[j]? with
      | some x, some y => free T ops mx i j x y
      | _, _ => false) || (b.getD j 0).testBit i

/-! ### the head of a loop: what is wanted no more is let go; what is left is numbered anew -/

def ren0 (f : Nat → Option Ref) (a : AV) : AV :=
  match a with
  | .dat d => .dat d
  | .undef => .undef
  | .nilp => .nilp
  | .nilfn => .nilfn
  | .nili => .nili
  | .err => .err
  | .fn g [] => .fn g []
  | .yld g => .yld g
  | .sh fl i sz off len => match f i with
    | some (.loc j) => .sh fl j sz off len
    | _ => .dead
  | .ptr (.loc i) off => match f i with
    | some r => .ptr r off
    | none => .dead
  | .ptr (.glob g) off => .ptr (.glob g) off
  | _ => .dead

def ren1 (f : Nat → Option Ref) (a : AV) : AV :=
  match a with
  | .agg cs => .agg (cs.map (ren0 f))
  | .fn g cs => .fn g (cs.map (ren0 f))
  | a => ren0 f a

def renE (f : Nat → Option Ref) : Ent → Ent
  | .obj cs => .obj (cs.map (ren0 f))
  | e => e

/-- the numbers of one's own entities in a value -/
def locs0 : AV → List Nat
  | .sh _ i _ _ _ => [i]
  | .ptr (.loc i) _ => [i]
  | _ => []

def locs1 : AV → List Nat
  | .agg cs => cs.flatMap locs0
  | .fn _ cs => cs.flatMap locs0
  | a => locs0 a

def addAll (acc : List Nat) : List Nat → List Nat
  | [] => acc
  | i :: r => addAll (if acc.contains i then acc else acc ++ [i]) r

def objLocs : Option (Option Ent) → List Nat
  | some (some (.obj cs)) => cs.flatMap locs0
  | _ => []

/-- what can be come to -/
def reach (L : List (Option Ent)) : Nat → List Nat → List Nat
  | 0, acc => acc
  | n + 1, acc => reach L n (addAll acc (acc.flatMap fun i => objLocs L[i]?))

def killBut (keep : List Nat) : Nat → List AV → List AV
  | _, [] => []
  | i, a :: r => (if keep.contains i then a else .dead) :: killBut keep (i + 1) r

def isFwd : Option (Option Ent) → Bool
  | some (some (.fwd _)) => true
  | _ => false

def renOf (L : List (Option Ent)) (ks : List Nat) (i : Nat) : Option Ref :=
  match L[i]? with
  | some (some (.fwd g)) => some (.glob g)
  | _ => match ks.idxOf? i with
    | some j => some (.loc j)
    | none => none

def tidy (keep : List Nat) (st : St) : St :=
  let ts := killBut keep 0 st.tmps
  let ks := (reach st.mem.L 3 (addAll [] (ts.flatMap locs1))).filter fun i => !isFwd st.mem.L[i]?
  { tmps := ts.map (ren1 (renOf st.mem.L ks)),
    mem := { L := ks.map fun i => match st.mem.L[i]? with
              | some (some e) => some (renE (renOf st.mem.L ks) e)
              | _ => none,
             G := st.mem.G, ep := 0 } }

/-! ### code -/

/-- at a label that the head's list names only what is wanted is kept -/
def tidyJ (H : Nat → List Nat) (l : Nat) (st : St) : St := if (H 3000000).contains (6000000 + l) then tidy (H (6000000 + l)) st else st

/-- jumps, one behind the other -/
def jumpsN : Nat → (Nat → St → Option (Ex × St)) → Nat → St → Option (Ex × St)
  | 0, _, _, _ => none
  | n + 1, f, l, st => match f l st with
    | some (.goto l', st1) => jumpsN n f l' st1
    | r => r

def loopN : Nat → (St → Option (Ex × St)) → St → Option (Ex × St)
  | 0, _, _ => none
  | n + 1, f, st => match f st with
    | some (.norm, st1) => loopN n f st1
    | r => r

/-- the number of the first region: a loop's name -/
def firstRegion : Code → Nat
  | .region id _ _ => id
  | .seq a b => match a with
    | .skip => firstRegion b
    | _ => firstRegion a
  | .cond _ a _ => firstRegion a
  | .block _ b => firstRegion b
  | .loop b => firstRegion b
  | .scope b => firstRegion b
  | _ => 0

/-- loads and calls beside each other in this region -/
def mxOf (ro : Bool) (ops : List Oper) : List Nat := if ro then 1000000 :: mixed ops else mixed ops

/-- a list, told out before it is used -/
def forceL {α : Type 1} : List Nat → (List Nat → α) → α
  | [], k => k []
  | x :: r, k => forceL r fun l => k (x :: l)

theorem forceL_eq {α : Type 1} : ∀ (l : List Nat) (k : List Nat → α), forceL l k = k l
  | [], _ => rfl
  | x :: r, k => by rw [forceL, forceL_eq r]

def forceO {α : Type} : List Nat → (List Nat → α) → α
  | [], k => k []
  | x :: r, k => forceO r fun l => k (x :: l)

theorem forceO_eq {α : Type} : ∀ (l : List Nat) (k : List Nat → α), forceO l k = k l
  | [], _ => rfl
  | x :: r, k => by rw [forceO, forceO_eq r]

noncomputable def regionK (T : Tab) (orc : Orc) (ro : Bool) (ops : List Oper) (draw : Bool) (st : St) : Option (Ex × St) :=
  if draw && !drawOk T ops then none else
  forceO (if draw then mxOf ro ops else []) fun mx =>
  match evOps T orc (if draw then some mx else none) ops st.mem.L.length (List.range ops.length) (st.more (rank ops ops.length)) with
  | some st1 => some (.norm, st1)
  | none => none

/-- behind a loop only what is wanted there is kept -/
def tidyX (H : Nat → List Nat) (b : Code) (p : Ex × St) : Ex × St := (p.1, tidy (H (firstRegion b + 1000000)) p.2)

/-- what may stand in a round: no scope, no range over a function -/
def plainC : Code → Bool
  | .skip | .region _ _ _ | .exit _ | .ret | .label _ | .goto _ => true
  | .seq a b => plainC a && plainC b
  | .cond _ a b => plainC a && plainC b
  | .block _ b => plainC b
  | .loop b => plainC b
  | _ => false

/-- behind a range over a function: what it was given as it gave it, the rest as it was -/
def afterT (keep : List Nat) : Nat → List AV → List AV → List AV
  | i, a :: r, b :: s => (if keep.contains i then b else a) :: afterT keep (i + 1) r s
  | _, _, _ => []

/-- the slots that the body with this first region wants -/
def keepOf (ro : List Nat) (n : Nat) : List Nat := ro.filterMap fun x => if 10000000 + n * 10000 ≤ x ∧ x < 10000000 + (n + 1) * 10000 then some (x - (10000000 + n * 10000)) else none

/-- what a loop's body finds: what can be handed on is, all else is let go -/
def passT (m : Mem) (a : AV) : Option (AV × Mem) :=
  match pass m a with
  | some p => some p
  | none => some (.dead, m)

def setP (ts : List AV) (ps : List Nat) (as : List AV) : List AV := (ps.zip as).foldl (fun t p => t.set p.1 p.2) ts

def Ex.isNorm : Ex → Bool
  | .norm => true
  | _ => false

def Ex.ls : Ex → LS
  | .norm => .ready
  | x => .done x

mutual
noncomputable def exec (T : Tab) (orc : Orc) (K : Nat) (H : Nat → List Nat) : Code → St → Option (Ex × St)
  | .skip, st => some (.norm, st)
  | .region id ops draw, st => regionK T orc ((H 3000000).contains id) ops.toList draw st
  | .seq a b, st => match exec T orc K H a st with
    | some (.norm, st1) => exec T orc K H b st1
    | r => r
  | .cond c a b, st => match opval st.tmps c with
    | .dat (.bool true) => exec T orc K H a st
    | .dat (.bool false) => exec T orc K H b st
    | _ => none
  | .block id b, st => match exec T orc K H b st with
    | some (.exit j, st1) => if j = id then some (.norm, st1) else some (.exit j, st1)
    | r => r
  | .loop b, st => (loopN K (fun st => exec T orc K H b (tidy (H (firstRegion b)) st)) st).map (tidyX H b)
  | .exit id, st => some (.exit id, st)
  | .ret, st => some (.ret, st)
  | .label _, st => some (.norm, st)
  | .goto l, st => some (.goto l, st)
  | .scope c, st => match exec T orc K H c st with
    | some (.goto l, st1) => jumpsN K (fun l st => jumpK T orc K H l c (tidyJ H l st)) l st1
    | r => r
  | .rangeFunc f ps asg body, st => match mapS passT st.mem (killBut (keepOf (H 3000000) (firstRegion body)) 0 st.tmps) with
    | some (ts, m1) => match opval ts f with
      | .fn g caps => if g < yB then (match orc g (.yld m1.G.length :: caps) (m1.G ++ [.lrec .ready ts ps.toList asg body]) with
        | some (_, G2) => match G2[m1.G.length]? with
          | some (.lrec s _ _ _ _) => match s with
            | .busy => none
            | .ready => some (.norm, ⟨afterT (keepOf (H 3000000) (firstRegion body)) 0 st.tmps ts, { m1 with G := G2.set m1.G.length .gone, ep := m1.ep + 1 }⟩)
            | .done x => some (x, ⟨afterT (keepOf (H 3000000) (firstRegion body)) 0 st.tmps ts, { m1 with G := G2.set m1.G.length .gone, ep := m1.ep + 1 }⟩)
          | _ => none
        | none => none) else none
      | _ => none
    | none => none
  | _, _ => none

/-- from a label on -/
noncomputable def jumpK (T : Tab) (orc : Orc) (K : Nat) (H : Nat → List Nat) (l : Nat) : Code → St → Option (Ex × St)
  | .seq a b, st => if (findLabel a l).isSome then match jumpK T orc K H l a st with
      | some (.norm, st1) => exec T orc K H b st1
      | r => r
    else jumpK T orc K H l b st
  | .label l', st => if l' == l then some (.norm, st) else none
  | _, _ => none
end

def resultV (T : Tab) (st : St) : ResultVar → Option AV
  | .tmp t => some (st.tmps.getD t .dead)
  | .cell a t => load T st.mem t (st.tmps.getD a .dead)

def resultsV (T : Tab) (st : St) : List ResultVar → Option (List AV)
  | [] => some []
  | r :: rs => match resultV T st r with
    | some a => match resultsV T st rs with
      | some as => some (a :: as)
      | none => none
    | none => none

def finishK (T : Tab) (fn : Func) (st : St) : Option (AV × List Ent) :=
  match resultsV T st fn.results.toList with
  | some [a] => match back st.mem a with
    | some (r, m) => some (r, m.G)
    | none => none
  | some as => match mapS pass st.mem as with
    | some (rs, m) => some (.tup rs, m.G)
    | none => none
  | none => none

noncomputable def execFn (T : Tab) (orc : Orc) (K : Nat) (H : Nat → List Nat) (fn : Func) (args : List AV) (G : List Ent) : Option (AV × List Ent) :=
  match fn.body with
  | some c => match exec T orc K H c { tmps := args ++ List.replicate (fn.ntmps - args.length) .undef, mem := { L := [], G := G, ep := 0 } } with
    | some (.norm, st) => finishK T fn st
    | some (.ret, st) => finishK T fn st
    | _ => none
  | none => none

/-- a round of a range over a function: its record is everybody's entity gi -/
noncomputable def roundK (T : Tab) (orc : Orc) (K : Nat) (H : Nat → List Nat) (gi : Nat) (args : List AV) (G : List Ent) : Option (AV × List Ent) :=
  match G[gi]? with
  | some (.lrec .ready ts ps asg body) => if args.length = ps.length ∧ plainC asg = true ∧ plainC body = true then
      match exec T orc K H asg ⟨setP ts ps args, { L := [], G := G, ep := 0 }⟩ with
      | some (.norm, st1) => match st1.mem.G[gi]? with
        | some (.lrec .ready ts1 ps1 asg1 body1) => match exec T orc K H body ⟨st1.tmps, { st1.mem with G := st1.mem.G.set gi (.lrec .busy ts1 ps1 asg1 body1) }⟩ with
          | some (x, st2) => match st2.mem.G[gi]? with
            | some (.lrec .busy ts2 ps2 asg2 body2) => some (.dat (.bool x.isNorm), st2.mem.G.set gi (.lrec x.ls ts2 ps2 asg2 body2))
            | _ => none
          | none => none
        | _ => none
      | _ => none
    else none
  | _ => none

end Go.Eng
end

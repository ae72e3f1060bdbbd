/- More of the tree: what hangs on numbers in places, lengths, conversions, equality of structs, what goes into everybody's objects. -/
import Derived.Test.YtkbbgehnooncoaaGreatDoorWp3
section
namespace Go.Eng
open Go
variable [Inhabited Pkg]
set_option linter.unusedSectionVars false

/-! ### a tree as an option, in words of its own -/
def rAsk {α : Type} (b : Bool) (t e : Option α) : Option α := match b with
  | true => t
  | false => e

def rGet {α β : Type} (o : Option β) (k : β → Option α) : Option α := match o with
  | some x => k x
  | none => none

def Tr.ev {α : Type} : Tr α → Option α
  | .ret a => some a
  | .fail => none
  | .ask b t e => rAsk b t.ev e.ev
  | .get o k => rGet o fun x => (k x).ev
  | .frc s k => (k s).ev

theorem Tr.ev_run {α : Type} (t : Tr α) : t.ev = t.run := by
  induction t with
  | ret a => rfl
  | fail => rfl
  | ask b t e iht ihe => cases b <;> simp only [Tr.ev, Tr.run, rAsk, iht, ihe]
  | get o k ih => cases o with
    | none => rfl
    | some x => simp only [Tr.ev, Tr.run, rGet, ih]
  | frc s k ih => simp only [Tr.ev, Tr.run, ih]

theorem rAsk_true {α : Type} (t e : Option α) : rAsk true t e = t := rfl
theorem rAsk_false {α : Type} (t e : Option α) : rAsk false t e = e := rfl
theorem rGet_some {α β : Type} (x : β) (k : β → Option α) : rGet (some x) k = k x := rfl

/-- a number below n, told -/
def pickN {α : Type} : Nat → Int → Nat → (Nat → Tr α) → Tr α
  | 0, _, _, _ => .fail
  | m + 1, i, j, k => .ask (i == Int.ofNat j) (k j) (pickN m i (j + 1) k)

def tindexAddr2 (T : Tab) (t : TypeId) (x i : AV) : Tr AV :=
  match i with
  | .dat d => match kindT T t with
    | some (.arr len e) => match sizeT T e with
      | some sz => match x with
        | .ptr r o => .get (D.anyInt? d) fun n => .req (decide (0 ≤ n) && decide (n < len)) (.ret (.ptr r (n.toNat * sz + o)))
        | x => tindexAddr T t x i
      | none => .fail
    | _ => tindexAddr T t x i
  | _ => .fail

/-- a cell of data -/
def cellD (cs : List AV) (off : Nat) : Option D :=
  match cs[off]? with
  | some (.dat d) => some d
  | _ => none

def TK.isNum : TK → Bool
  | .int _ | .bool | .str => true
  | _ => false

def tload2 (T : Tab) (m : Mem) (t : TypeId) (a : AV) : Tr AV :=
  match T t with
  | some ti => match a with
    | .ptr r off => if ti.k.isNum && decide (ti.size = 1) then match m.ent r with
        | some (.obj cs) => .get (cellD cs off) fun d => .ret (.dat d)
        | _ => .fail
      else .of (load T m t a)
    | a => tload T m t a
  | none => .fail

/-- cells put into cells -/
def putCells (cs : List AV) (off : Nat) (xs : List AV) : List AV :=
  match xs with
  | [y] => cs.set off y
  | xs => splice cs off xs

def tindex2 (T : Tab) (t : TypeId) (x i : AV) : Tr AV :=
  match x with
  | .agg cs => match i with
    | .dat d => match kindT T t with
      | some (.arr len _) => .get (D.anyInt? d) fun n => pickN len n 0 fun j => .of (index T t (.agg cs) (.dat (.int .i64 (Int.ofNat j))))
      | _ => .fail
    | _ => .fail
  | x => tindex T t x i

def tlen (T : Tab) (t : TypeId) (x : AV) : Tr AV :=
  match x with
  | .dat d => if isStrT T t then .get (D.str? d) fun s => .ret (.dat (.int .i64 s.size))
    else if isSlT T t then .get (D.list? d) fun p => .ret (.dat (.int .i64 p.2.2.length)) else .fail
  | x => .of (lenOf T t x)

def tminmaxGo (isMax : Bool) (k : IntKind) (a : Int) : List AV → Tr AV
  | [] => .ret (.dat (.int k a))
  | .dat d :: r => .get (D.anyInt? d) fun b => tminmaxGo isMax k (if isMax then (if b > a then b else a) else (if b < a then b else a)) r
  | _ => .fail

def D.intK? : D → Option (IntKind × Int)
  | .int k n => some (k, n)
  | _ => none

def tminmax (isMax : Bool) : List AV → Tr AV
  | .dat d :: r => .get (D.intK? d) fun p => tminmaxGo isMax p.1 p.2 r
  | _ => .fail

def isU8 (T : Tab) (e : TypeId) : Bool := match kindT T e with
  | some (.int .u8) => true
  | _ => false

def tconvert (T : Tab) (m : Mem) (fresh : Nat) (src dst : TypeId) (x : AV) : Tr (AV × Mem) :=
  match kindT T src with
  | none => .fail
  | some ks => match kindT T dst with
    | some (.int k) => match x with
      | .dat d => .get (D.anyInt? d) fun n => .ret (wrapD k n, m)
      | _ => .fail
    | some .str => match ks with
      | .str => match x with
        | .dat d => .get (D.str? d) fun s => .ret (.dat (.str s), m)
        | _ => .fail
      | .slice e => if isU8 T e then match x with
          | .dat d => .get (D.list? d) fun p => .get (rowBytes p.2.2) fun l => .req (decide (p.2.1 = 1) || p.2.2.isEmpty) (.ret (.dat (.str ⟨l.toArray⟩), m))
          | x => match rd m x with
            | some (_, sz, xs) => .get (rowBytes xs) fun l => .req (decide (sz = 1) || xs.isEmpty) (.ret (.dat (.str ⟨l.toArray⟩), m))
            | none => .fail
        else .fail
      | _ => .fail
    | some (.slice e) => match x with
      | .dat d => if isU8 T e then .get (D.str? d) fun s => .req (decide (s.size ≤ 140737488355328))
          (.ret (.sh false fresh 1 0 s.size, m.set (.loc fresh) (.row .excl 1 (s.data.toList.map byteRow)))) else .fail
      | _ => .fail
    | _ => .fail

def teqLeaf (k : TK) (xs ys : List AV) : Tr Bool :=
  match xs with
  | [.dat d] => match ys with
    | [.dat e] => match k with
      | .bool => .get (D.bool? d) fun a => .get (D.bool? e) fun b => .ret (a == b)
      | .int k => .get (D.int? k d) fun a => .get (D.int? k e) fun b => .ret (a == b)
      | .str => .get (D.str? d) fun a => .get (D.str? e) fun b => .ret (a.toList == b.toList)
      | _ => .fail
    | _ => .fail
  | _ => .fail

def teqFs (T : Tab) (eq : TypeId → List AV → List AV → Tr Bool) (xs ys : List AV) : List (Nat × TypeId) → Tr Bool
  | [] => .ret true
  | (off, ft) :: r => match sizeT T ft with
    | some sz => if off + sz ≤ xs.length ∧ off + sz ≤ ys.length then
        (eq ft ((xs.drop off).take sz) ((ys.drop off).take sz)).bind fun b => (teqFs T eq xs ys r).bind fun b' => .ret (b && b')
      else .fail
    | none => .fail

def teqIs (eq : List AV → List AV → Tr Bool) (sz : Nat) (xs ys : List AV) : Nat → Nat → Tr Bool
  | _, 0 => .ret true
  | i, n + 1 => if i * sz + sz ≤ xs.length ∧ i * sz + sz ≤ ys.length then
      (eq ((xs.drop (i * sz)).take sz) ((ys.drop (i * sz)).take sz)).bind fun b => (teqIs eq sz xs ys (i + 1) n).bind fun b' => .ret (b && b')
    else .fail

def teqv (T : Tab) : Nat → TypeId → List AV → List AV → Tr Bool
  | 0, _, _, _ => .fail
  | n + 1, t, xs, ys => match T t with
    | some ti => if ti.cmp then match ti.k with
        | .struct fs => teqFs T (teqv T n) xs ys fs
        | .arr len e => match sizeT T e with
          | some sz => teqIs (teqv T n e) sz xs ys 0 len
          | none => .fail
        | k => teqLeaf k xs ys
      else .fail
    | none => .fail

def tbin2 (T : Tab) (op : BinOp) (t : TypeId) (x y : AV) (lit : Bool) : Tr AV :=
  match x with
  | .agg xs => match y with
    | .agg ys => match kindT T t with
      | some k => if k.isAgg then (teqv T 6 t xs ys).bind fun b => match op with
            | .eql => .ret (.dat (.bool b))
            | .neq => .ret (.dat (.bool (!b)))
            | _ => .fail
          else .fail
      | none => .fail
    | _ => .fail
  | x => tbin T op t x y lit

def tmakeSlice (T : Tab) (m : Mem) (fresh : Nat) (t : TypeId) (l c : AV) : Tr (AV × Mem) :=
  match l, c with
  | .dat d, .dat e => .get (D.anyInt? d) fun l => .get (D.anyInt? e) fun c => match T t with
    | some ti => match ti.k with
      | .slice e => match T e with
        | some te => match mapS snap m te.zero with
          | some (z, m1) => if te.zero.length = te.size ∧ 0 < te.size then
              .req (decide (0 ≤ l) && (decide (l ≤ c) && (decide (c * te.bytes ≤ 140737488355328) && decide (c ≤ 9223372036854775807))))
                (.ret (.sh false fresh te.size 0 l.toNat, m1.set (.loc fresh) (.row .excl te.size (List.replicate l.toNat z))))
            else .fail
          | none => .fail
        | none => .fail
      | _ => .fail
    | none => .fail
  | _, _ => .fail

/-- the whole of a row, that may grow -/
def wholeB (f : Bool) (off len n : Nat) : Bool := !f && (decide (off = 0) && decide (len = n))

def tback (m : Mem) (a : AV) : Tr (AV × Mem) :=
  match a with
  | .sh f i sz off len => match m.get (.loc i) with
    | some (.row .excl s xs) => if s = sz then .ask (wholeB f off len xs.length) (.ret (.own true sz xs, m.set (.loc i) .gone)) (.of (pass m a)) else .of (pass m a)
    | some (.row .own s xs) => if s = sz then .ask (wholeB f off len xs.length) (.ret (.own false sz xs, m.set (.loc i) .gone)) (.of (pass m a)) else .of (pass m a)
    | _ => .of (pass m a)
  | a => .of (pass m a)

def tgiveSh (m : Mem) (f : Bool) (i sz off len : Nat) : Tr (AV × Mem) :=
  match m.get (.loc i) with
  | some (.row md s xs) => if s = sz ∧ md ≠ .ro then .ask (wholeB f off len xs.length) (.ret (.rowc md sz xs, m.set (.loc i) .gone)) (.of (lpass m (.sh f i sz off len))) else .of (lpass m (.sh f i sz off len))
  | _ => .fail

def tgiveL (f : Mem → Nat → Nat → AV → Tr (AV × Mem)) (m : Mem) (g j : Nat) : List AV → Tr (List AV × Mem)
  | [] => .ret ([], m)
  | a :: r => (f m g j a).bind fun p => (tgiveL f p.2 g (j + 1) r).bind fun q => .ret (p.1 :: q.1, q.2)

def tgivePtr (f : Mem → Nat → Nat → AV → Tr (AV × Mem)) (m : Mem) (r : Ref) (off : Nat) : Tr (AV × Mem) :=
  match m.res r with
  | .glob g => .ret (.ptr (.glob g) off, m)
  | .loc i => match m.get (.loc i) with
    | some (.obj cs) => (tgiveL f { m with L := m.L.set i (some (.fwd m.G.length)), G := m.G ++ [.gone] } m.G.length 0 cs).bind fun p =>
        .ret (.ptr (.glob m.G.length) off, { p.2 with G := p.2.G.set m.G.length (.obj p.1) })
    | _ => .fail

def tgive : Nat → Mem → Nat → Nat → AV → Tr (AV × Mem)
  | 0, m, _, _, a => match a with
    | .sh f i sz off len => tgiveSh m f i sz off len
    | a => .of (lpass m a)
  | n + 1, m, _, _, a => match a with
    | .sh f i sz off len => tgiveSh m f i sz off len
    | .ptr r off => tgivePtr (tgive n) m r off
    | a => .of (lpass m a)

def tstore (T : Tab) (m : Mem) (t : TypeId) (a x : AV) : Tr Mem :=
  match T t with
  | some ti => match mapS keep m x.cells with
    | some (xs, m0) => if xs.length = ti.size ∧ xs.all AV.leaf = true then match a with
      | .ptr r off => match m0.res r with
        | .loc i => match m0.get (.loc i) with
          | some (.obj cs) => .req (decide (off + ti.size ≤ cs.length)) (.ret (m0.set (.loc i) (.obj (putCells cs off xs))))
          | _ => .fail
        | .glob g => (tgiveL (tgive 2) m0 g off xs).bind fun p => match p.2.get (.glob g) with
            | some (.obj cs) => .req (decide (off + ti.size ≤ cs.length) && decide (p.1.length = ti.size)) (.ret (p.2.set (.glob g) (.obj (putCells cs off p.1))).tick)
            | _ => .fail
      | .ept i sz k off => match mapS snap m0 xs with
        | some (ds, m1) => match m1.get (.loc i) with
          | some (.row .excl sz' rs) => if sz' = sz then .get (rs[k]?) fun e => .req (decide (off + ti.size ≤ e.length)) (.ret (m1.set (.loc i) (.row .excl sz' (rs.set k (splice e off ds))))) else .fail
          | _ => .fail
        | none => .fail
      | .gept g j e sz k off => match mapS snap m0 xs with
        | some (ds, m1) => match m1.rowAt g j e with
          | some (.excl, sz', rs) => if sz' = sz then .get (rs[k]?) fun el => .req (decide (off + ti.size ≤ el.length)) (.ret (m1.setRow g j (.rowc .excl sz' (rs.set k (splice el off ds))))) else .fail
          | _ => .fail
        | none => .fail
      | _ => .fail
      else .fail
    | none => .fail
  | none => .fail

/-- a part of what is handed on -/
def tpassC (m : Mem) (a : AV) : Tr (AV × Mem) :=
  match a with
  | .ptr r off => tgive 3 m 0 0 (.ptr r off)
  | a => .of (passC m a)

def tpassCL (m : Mem) : List AV → Tr (List AV × Mem)
  | [] => .ret ([], m)
  | a :: r => (tpassC m a).bind fun p => (tpassCL p.2 r).bind fun q => .ret (p.1 :: q.1, q.2)

/-- an argument: an object of this call's own becomes everybody's, its rows go with it -/
def tpass (m : Mem) (a : AV) : Tr (AV × Mem) :=
  match a with
  | .ptr r off => tgive 3 m 0 0 (.ptr r off)
  | .agg cs => (tpassCL m cs).bind fun p => .ret (.agg p.1, p.2)
  | .fn f cs => (tpassCL m cs).bind fun p => .ret (.fn f p.1, p.2)
  | a => .of (pass m a)

/-- a result: a pointer to an object of this call's own takes its rows along -/
def tbackP (m : Mem) (a : AV) : Tr (AV × Mem) :=
  match a with
  | .ptr r off => tpass m (.ptr r off)
  | .agg cs => tpass m (.agg cs)
  | .fn f cs => tpass m (.fn f cs)
  | a => tback m a

/-- what a loop's body finds -/
def tpassT (m : Mem) (a : AV) : Tr (AV × Mem) :=
  match a with
  | .ptr r off => tpass m (.ptr r off)
  | .fn f cs => tpass m (.fn f cs)
  | a => .of (passT m a)

def tpassTL (m : Mem) : List AV → Tr (List AV × Mem)
  | [] => .ret ([], m)
  | a :: r => (tpassT m a).bind fun p => (tpassTL p.2 r).bind fun q => .ret (p.1 :: q.1, q.2)

def tpassL (m : Mem) : List AV → Tr (List AV × Mem)
  | [] => .ret ([], m)
  | a :: r => (tpass m a).bind fun p => (tpassL p.2 r).bind fun q => .ret (p.1 :: q.1, q.2)

def tcallF2 (orc : TOrc) (m : Mem) (fresh : Nat) (f : FuncId) (args : List AV) : Tr (AV × Mem) :=
  (tpassL m args).bind fun q => (orc f q.1 q.2.G).bind fun p => .of (take { q.2 with G := p.2, ep := q.2.ep + 1 } fresh p.1)

def tcall2 (T : Tab) (orc : TOrc) (m : Mem) (fresh : Nat) (v : Operand → AV) (c : Call) : Tr (AV × Mem) :=
  match c.callee with
  | .value f => match v f with
    | .fn g caps => if g < yB then tcallF2 orc m fresh g ((c.args.toList.map v) ++ caps) else .fail
    | .yld g => tcallF2 orc m fresh (yB + g) (c.args.toList.map v)
    | _ => .fail
  | .builtin .append => match c.args.toList, c.argTypes.toList with
    | [x, y], [t, t2] => tappend T m fresh t t2 (v x) (v y)
    | _, _ => .fail
  | .builtin .len => match c.args.toList, c.argTypes.toList with
    | [x], [t] => (tlen T t (v x)).keepM m
    | _, _ => .fail
  | .builtin .max => (tminmax true (c.args.toList.map v)).keepM m
  | .builtin .min => (tminmax false (c.args.toList.map v)).keepM m
  | _ => .fail

def tsem2 (T : Tab) (orc : TOrc) (o : Oper) (fresh : Nat) (v : Operand → AV) (m : Mem) : Tr (AV × Mem) :=
  match o.op with
  | .pick c a b => (tpick (v c) (v a) (v b)).keepM m
  | .load t a => (tload2 T m t (v a)).keepM m
  | .store t a x => (tstore T m t (v a) (v x)).bind fun m1 => .ret (.undef, m1)
  | .binOp op t x y _ => (tbin2 T op t (v x) (v y) (isConst x || isConst y)).keepM m
  | .unOp op t x => (tun op T t (v x)).keepM m
  | .convert s d x => tconvert T m fresh s d (v x)
  | .makeSlice t l c => tmakeSlice T m fresh t (v l) (v c)
  | .slice t x lo hi mx => (tslice T t (v x) (lo.map v) (hi.map v) (mx.map v)).keepM m
  | .indexAddr t x i => (tindexAddr2 T t (v x) (v i)).keepM m
  | .index t x i => (tindex2 T t (v x) (v i)).keepM m
  | .call c => tcall2 T orc m fresh v c
  | _ => .of (sem T (fun _ _ _ => none) o fresh v m)

/-- is it carried out? what is learned of the guard's truth is noted in its slot -/
def tgoes2 (ops : List Oper) (tmps : List AV) (o : Oper) : Tr (Bool × List AV) :=
  match o.guard with
  | none => .ret (true, tmps)
  | some (j, want) => match (ops[j]?).bind (·.dst) with
    | some d => match tmps[d]? with
      | some (.dat v) => .get (D.bool? v) fun b => .ask b (.ret (want, tmps.set d (.dat (.bool true)))) (.ret (!want, tmps.set d (.dat (.bool false))))
      | some .undef => .ret (false, tmps)
      | _ => .fail
    | none => .fail

def tsemX (d : Option (List Nat)) (T : Tab) (orc : TOrc) (o : Oper) (fresh : Nat) (v : Operand → AV) (m : Mem) : Tr (AV × Mem) :=
  match d with
  | none => tsem2 T orc o fresh v m
  | some _ => match o.op with
    | .assign x => .ret (v x, m)
    | _ => tsem2 T orc o fresh v m

noncomputable def tevOp2 (T : Tab) (orc : TOrc) (d : Option (List Nat)) (ops : List Oper) (base : Nat) (i : Nat) (st : St) : Tr St :=
  match ops[i]? with
  | none => .ret st
  | some o => (tgoes2 ops st.tmps o).bind fun q => match q.1 with
    | true => if !dOk d i base (opval q.2) st.mem o then .fail else
      (tsemX d T orc o (base + rank ops i) (opval q.2) st.mem).bind fun p => .req (gOk d i o st.mem p.2) (.frc { tmps := putT q.2 o.dst (dW d i o p.1), mem := p.2 } .ret)
    | false => .ret { st with tmps := putT q.2 o.dst .undef }

noncomputable def tevOps2 (T : Tab) (orc : TOrc) (d : Option (List Nat)) (ops : List Oper) (base : Nat) : List Nat → St → Tr St
  | [], st => .ret st
  | i :: r, st => (tevOp2 T orc d ops base i st).bind fun st1 => tevOps2 T orc d ops base r st1

/-- a truth that is known from now on -/
def St.learn (st : St) (c : Operand) (b : Bool) : St :=
  match c with
  | .tmp t => { st with tmps := st.tmps.set t (.dat (.bool b)) }
  | _ => st

/-- a code's loops -/
def loops : Code → List Code
  | .seq a b => loops a ++ loops b
  | .cond _ a b => loops a ++ loops b
  | .block _ b => loops b
  | .scope b => loops b
  | .loop b => [b]
  | _ => []

mutual
/-- Code into a tree; lo: what loops come to. -/
noncomputable def texec2 (T : Tab) (orc : TOrc) (lo : Nat → St → Tr (Ex × St)) (ro : List Nat) : Code → St → Tr (Ex × St)
  | .skip, st => .ret (.norm, st)
  | .region id ops draw, st => if draw && !drawOk T ops.toList then .fail else
      forceL (if draw then mxOf (ro.contains id) ops.toList else []) fun mx => (tevOps2 T orc (if draw then some mx else none) ops.toList st.mem.L.length (List.range ops.toList.length) (st.more (rank ops.toList ops.toList.length))).bind fun st1 => .ret (.norm, st1)
  | .seq a b, st => (texec2 T orc lo ro a st).bind fun p => match p with
    | (.norm, st1) => texec2 T orc lo ro b st1
    | r => .ret r
  | .cond c a b, st => match opval st.tmps c with
    | .dat d => .get (D.bool? d) fun t => .ask t (texec2 T orc lo ro a (st.learn c true)) (texec2 T orc lo ro b (st.learn c false))
    | _ => .fail
  | .block id b, st => (texec2 T orc lo ro b st).bind fun p => match p with
    | (.exit j, st1) => if j = id then .ret (.norm, st1) else .ret (.exit j, st1)
    | r => .ret r
  | .loop b, st => lo (firstRegion b) st
  | .exit id, st => .ret (.exit id, st)
  | .ret, st => .ret (.ret, st)
  | .label _, st => .ret (.norm, st)
  | .goto l, st => .ret (.goto l, st)
  | .scope c, st => (texec2 T orc lo ro c st).bind fun p => match p with
    | (.goto l, st1) => if ro.contains (6000000 + l) then .fail else (tjump T orc lo ro l c st1).bind fun q => match q with
      | (.goto _, _) => .fail
      | r => .ret r
    | r => .ret r
  | .rangeFunc f ps asg body, st => (tpassTL st.mem (killBut (keepOf ro (firstRegion body)) 0 st.tmps)).bind fun q => match opval q.1 f with
    | .fn g caps => if g < yB then (orc g (.yld q.2.G.length :: caps) (q.2.G ++ [.lrec .ready q.1 ps.toList asg body])).bind fun p => match p.2[q.2.G.length]? with
        | some (.lrec s _ _ _ _) => match s with
          | .busy => .fail
          | .ready => .ret (.norm, ⟨afterT (keepOf ro (firstRegion body)) 0 st.tmps q.1, { q.2 with G := p.2.set q.2.G.length .gone, ep := q.2.ep + 1 }⟩)
          | .done x => .ret (x, ⟨afterT (keepOf ro (firstRegion body)) 0 st.tmps q.1, { q.2 with G := p.2.set q.2.G.length .gone, ep := q.2.ep + 1 }⟩)
        | _ => .fail
      else .fail
    | _ => .fail
  | _, _ => .fail

/-- from a label on -/
noncomputable def tjump (T : Tab) (orc : TOrc) (lo : Nat → St → Tr (Ex × St)) (ro : List Nat) (l : Nat) : Code → St → Tr (Ex × St)
  | .seq a b, st => if (findLabel a l).isSome then (tjump T orc lo ro l a st).bind fun p => match p with
      | (.norm, st1) => texec2 T orc lo ro b st1
      | r => .ret r
    else tjump T orc lo ro l b st
  | .label l', st => if l' == l then .ret (.norm, st) else .fail
  | _, _ => .fail
end

/-- a round of a range over a function -/
noncomputable def tyld (T : Tab) (orc : TOrc) (lo : List Code → Nat → St → Tr (Ex × St)) (ro : List Nat) (gi : Nat) (args : List AV) (G : List Ent) : Tr (AV × List Ent) :=
  match G[gi]? with
  | some (.lrec .ready ts ps asg body) => if args.length = ps.length ∧ plainC asg = true ∧ plainC body = true then
      (texec2 T orc (lo (loops asg)) ro asg ⟨setP ts ps args, { L := [], G := G, ep := 0 }⟩).bind fun p => match p with
        | (.norm, st1) => match st1.mem.G[gi]? with
          | some (.lrec .ready ts1 ps1 asg1 body1) => (texec2 T orc (lo (loops body)) ro body ⟨st1.tmps, { st1.mem with G := st1.mem.G.set gi (.lrec .busy ts1 ps1 asg1 body1) }⟩).bind fun q => match q.2.mem.G[gi]? with
            | some (.lrec .busy ts2 ps2 asg2 body2) => .ret (.dat (.bool q.1.isNorm), q.2.mem.G.set gi (.lrec q.1.ls ts2 ps2 asg2 body2))
            | _ => .fail
          | _ => .fail
        | _ => .fail
    else .fail
  | _ => .fail

/-- a round of a loop, from a tidy head to the next -/
noncomputable def tround (T : Tab) (orc : TOrc) (lo : Nat → St → Tr (Ex × St)) (H : Nat → List Nat) (b : Code) (s : St) : Tr (Ex × St) :=
  (texec2 T orc lo (H 3000000) b s).bind fun p => match p with
    | (.norm, s1) => .ret (.norm, tidy (H (firstRegion b)) s1)
    | r => .ret (tidyX H b r)

def tresultV (T : Tab) (st : St) : ResultVar → Tr AV
  | .tmp t => .ret (st.tmps.getD t .dead)
  | .cell a t => tload2 T st.mem t (st.tmps.getD a .dead)

def tresultsV (T : Tab) (st : St) : List ResultVar → Tr (List AV)
  | [] => .ret []
  | r :: rs => (tresultV T st r).bind fun a => (tresultsV T st rs).bind fun as => .ret (a :: as)

def tfinish (T : Tab) (fn : Func) (st : St) : Tr (AV × List Ent) :=
  (tresultsV T st fn.results.toList).bind fun as => match as with
    | [a] => (tbackP st.mem a).bind fun p => .ret (p.1, p.2.G)
    | as => (tpassL st.mem as).bind fun p => .ret (.tup p.1, p.2.G)

noncomputable def tfnR (T : Tab) (orc : TOrc) (lo : Nat → St → Tr (Ex × St)) (ro : List Nat) (fn : Func) (args : List AV) (G : List Ent) : Tr (AV × List Ent) :=
  if args.length ≤ fn.ntmps then match fn.body with
    | some c => (texec2 T orc lo ro c { tmps := args ++ List.replicate (fn.ntmps - args.length) .undef, mem := { L := [], G := G, ep := 0 } }).bind fun p => match p with
      | (.norm, st) => tfinish T fn st
      | (.ret, st) => tfinish T fn st
      | _ => .fail
    | none => .fail
  else .fail

/-- no region of it has calls that only read beside loads of everybody's objects -/
noncomputable def tfn (T : Tab) (orc : TOrc) (lo : Nat → St → Tr (Ex × St)) (fn : Func) (args : List AV) (G : List Ent) : Tr (AV × List Ent) := tfnR T orc lo [] fn args G

def noLo : Nat → St → Tr (Ex × St) := fun _ _ => .fail

/-! ### states of one form -/

/-- at the numbered places the values, all else let go -/
def mkT : Nat → Nat → List (Nat × AV) → List AV
  | _, 0, _ => []
  | i, c + 1, [] => .dead :: mkT (i + 1) c []
  | i, c + 1, (j, v) :: r => if i = j then v :: mkT (i + 1) c r else .dead :: mkT (i + 1) c ((j, v) :: r)

def isDead : AV → Bool
  | .dead => true
  | _ => false

/-- the values at the numbered places, if all else is let go -/
def unT : Nat → List Nat → List AV → Option (List AV)
  | _, [], [] => some []
  | _, _ :: _, [] => none
  | i, [], a :: r => if isDead a then unT (i + 1) [] r else none
  | i, j :: js, a :: r => if i = j then match unT (i + 1) js r with
      | some vs => some (a :: vs)
      | none => none
    else if isDead a then unT (i + 1) (j :: js) r else none

theorem isDead_eq {a : AV} (h : isDead a = true) : a = .dead := by
  cases a <;> first | rfl | cases h

theorem unT_ok : ∀ (ts : List AV) (i : Nat) (js : List Nat) (vs : List AV), unT i js ts = some vs → vs.length = js.length ∧ ts = mkT i ts.length (js.zip vs)
  | [], i, [], vs, h => by
    simp only [unT, Option.some.injEq] at h
    subst h
    exact ⟨rfl, rfl⟩
  | [], i, _ :: _, vs, h => by simp [unT] at h
  | a :: r, i, [], vs, h => by
    simp only [unT] at h
    split at h
    · rename_i hd
      obtain ⟨h1, h2⟩ := unT_ok r _ _ _ h
      refine ⟨h1, ?_⟩
      simp only [List.length_cons, List.zip_nil_left, mkT, isDead_eq hd]
      simp only [List.zip_nil_left] at h2
      rw [← h2]
    · cases h
  | a :: r, i, j :: js, vs, h => by
    simp only [unT] at h
    split at h
    · rename_i hij
      split at h
      · rename_i vs' hv
        simp only [Option.some.injEq] at h
        subst h
        obtain ⟨h1, h2⟩ := unT_ok r _ _ _ hv
        refine ⟨by simp [h1], ?_⟩
        simp only [List.length_cons, List.zip_cons_cons, mkT, if_pos hij]
        rw [← h2]
      · cases h
    · rename_i hij
      split at h
      · rename_i hd
        obtain ⟨h1, h2⟩ := unT_ok r _ _ _ h
        refine ⟨h1, ?_⟩
        match vs, h1 with
        | v :: vs', _ =>
          simp only [List.length_cons, List.zip_cons_cons, mkT, if_neg hij, isDead_eq hd]
          simp only [List.zip_cons_cons] at h2
          rw [← h2]
      · cases h

end Go.Eng
end

/- Trace: the parts of the law as trees: what is looked at. -/
import Derived.Test.YtkconbpjimjbnaaEngTu
import Derived.Test.YtkconbpjimjbnaaEngT
import Derived.Test.YtkconbpjimjbnaaEngFT
import Derived.Test.YtkconbpjimjbnaaEngFn
import Derived.Test.YtkconbpjimjbnaaEngLv
namespace Go.Eng
open Go

def i64 (n : Int) : AV := .dat (.int .i64 n)

/-- the program's object -/
def tobj (kc : AV) (last : Int) (c : List D) : Ent := .obj (kc :: i64 last :: c.map .dat)
/-- the document's -/
def robj (rc : AV) : Ent := .obj [rc]

def nilA : AV := .dat (.list .nil 0 [])
def rowA (md : Mode) (xs : Row) : AV := .rowc md 4 xs
def fulA (xs : Row) : AV := .dat (.list .full 4 xs)

noncomputable def tinF : Nat → TOrc
  | 0 => fun _ _ _ => .fail
  | n + 1 => fun f a G => match FT f with
    | some fn => tfn TT (tinF n) noLo fn a G
    | none => .fail

noncomputable def tI (f : Nat) (a : List AV) (G : List Ent) : Tr (AV × List Ent) := tinF 3 f a G

def pT : AV := .ptr (.glob 0) 0
def pR : AV := .ptr (.glob 1) 0

noncomputable def add0 (last : Int) (c : List D) (k n w : Int) (o2 : List Ent) := tI 10 [pT, i64 k, i64 n, i64 w] (tobj nilA last c :: o2)
noncomputable def add1 (xs : Row) (last : Int) (c : List D) (k n w : Int) (o2 : List Ent) := tI 10 [pT, i64 k, i64 n, i64 w] (tobj (rowA .excl xs) last c :: o2)
noncomputable def add2 (xs : Row) (last : Int) (c : List D) (k n w : Int) (o2 : List Ent) := tI 10 [pT, i64 k, i64 n, i64 w] (tobj (fulA xs) last c :: o2)
noncomputable def radd0 (k n w : Int) (o1 : Ent) := tI 11 [pR, i64 k, i64 n, i64 w] [o1, robj nilA]
noncomputable def radd1 (xs : Row) (k n w : Int) (o1 : Ent) := tI 11 [pR, i64 k, i64 n, i64 w] [o1, robj (rowA .excl xs)]
noncomputable def radd2 (xs : Row) (k n w : Int) (o1 : Ent) := tI 11 [pR, i64 k, i64 n, i64 w] [o1, robj (rowA .own xs)]
noncomputable def since0 (last : Int) (c : List D) (n : Int) (o2 : List Ent) := tI 12 [pT, i64 n] (tobj nilA last c :: o2)
noncomputable def since1 (xs : Row) (last : Int) (c : List D) (n : Int) (o2 : List Ent) := tI 12 [pT, i64 n] (tobj (rowA .excl xs) last c :: o2)
noncomputable def since2 (xs : Row) (last : Int) (c : List D) (n : Int) (o2 : List Ent) := tI 12 [pT, i64 n] (tobj (fulA xs) last c :: o2)
noncomputable def rsince0 (n : Int) (o1 : Ent) := tI 13 [pR, i64 n] [o1, robj nilA]
noncomputable def rsince1 (xs : Row) (n : Int) (o1 : Ent) := tI 13 [pR, i64 n] [o1, robj (rowA .excl xs)]
noncomputable def rsince2 (xs : Row) (n : Int) (o1 : Ent) := tI 13 [pR, i64 n] [o1, robj (rowA .own xs)]
noncomputable def last0 (kc : AV) (last : Int) (c : List D) (o2 : List Ent) := tI 15 [pT] (tobj kc last c :: o2)
noncomputable def of0 (kc : AV) (last : Int) (c : List D) (k : Int) (o2 : List Ent) := tI 16 [pT, i64 k] (tobj kc last c :: o2)
noncomputable def new0 (o2 : List Ent) := tI 9 [] o2

/-! ### loops -/
def hOf (l : List (Nat × List Nat)) (n : Nat) : List Nat := (l.lookup n).getD []
def H14 : Nat → List Nat := hOf [(4, [0, 1, 5]), (1000004, [4])]
noncomputable def lp14 : Code := lpOf (codeOf Go.Proofs.Try.f14) 0
def inv14 (k1 k2 : LK) (s1 s2 : Nat) (xs ys : Row) (G : List Ent) (i : Int) : St := ⟨mkT 0 26 [(0, .dat (.list k1 s1 xs)), (1, .dat (.list k2 s2 ys)), (5, i64 i)], ⟨[], G, 0⟩⟩
noncomputable def ev14 (k1 k2 : LK) (s1 s2 : Nat) (xs ys : Row) (G : List Ent) (i : Int) : Tr (Ex × St) := tround TT (tinF 0) noLo H14 lp14 (inv14 k1 k2 s1 s2 xs ys G i)

def H17 : Nat → List Nat := hOf [(3, [0, 1, 5, 6]), (1000003, [5])]
noncomputable def lp17 : Code := lpOf (codeOf Go.Proofs.Try.f17) 0
def inv17 (rc : AV) (k : Int) (o1 : Ent) (i n : Int) : St := ⟨mkT 0 37 [(0, pR), (1, i64 k), (5, i64 n), (6, i64 i)], ⟨[], [o1, robj rc], 0⟩⟩
noncomputable def rof0 (k : Int) (o1 : Ent) (i n : Int) : Tr (Ex × St) := tround TT (tinF 0) noLo H17 lp17 (inv17 nilA k o1 i n)
noncomputable def rof1 (md : Mode) (xs : Row) (k : Int) (o1 : Ent) (i n : Int) : Tr (Ex × St) := tround TT (tinF 0) noLo H17 lp17 (inv17 (rowA md xs) k o1 i n)

/-! ### the law, its callees by their shapes -/
noncomputable def R (f : Nat) (a : List AV) (G : List Ent) : Option (AV × List Ent) := (tI f a G).run
noncomputable def R8 (a : List AV) (G : List Ent) : Option (AV × List Ent) := orcN FT TT 60 (fun f n => match FT f with
  | some fn => ((liveF fn).lookup n).getD []
  | none => []) 6 8 a G
def out14 (G : List Ent) (_ : Unit) : Ex × St := (.exit 0, ⟨mkT 0 26 [], ⟨[], G, 0⟩⟩)
noncomputable def lo14 (n : Nat) (st : St) : Tr (Ex × St) := match n with
  | 4 => tlo TT (tinF 0).runs H14 lp14 (out14 st.mem.G) st
  | _ => .fail
noncomputable def R14 (a : List AV) (G : List Ent) : Option (AV × List Ent) := (tfn TT (tinF 0) lo14 Go.Proofs.Try.f14 a G).run
def out17 (G : List Ent) (n : Int) : Ex × St := (.exit 0, ⟨mkT 0 37 [(5, i64 n)], ⟨[], G, 0⟩⟩)
noncomputable def lo17 (n : Nat) (st : St) : Tr (Ex × St) := match n with
  | 3 => tlo TT (tinF 0).runs H17 lp17 (out17 st.mem.G) st
  | _ => .fail
noncomputable def R17 (a : List AV) (G : List Ent) : Option (AV × List Ent) := (tfn TT (tinF 0) lo17 Go.Proofs.Try.f17 a G).run

noncomputable def tL : TOrc := fun f a G => match f with
  | 8 => tspec (fun G' : List Ent => (.dat (.bool true), G')) (R8 a G)
  | 9 => tI 9 a G
  | 10 => match G with
    | _ :: o2 => tspec (fun b : Int × AV × Int × List D => (i64 b.1, tobj b.2.1 b.2.2.1 b.2.2.2 :: o2)) (R 10 a G)
    | _ => .fail
  | 11 => match G with
    | [o1, _] => tspec (fun b : Int × Mode × Row => (i64 b.1, [o1, robj (rowA b.2.1 b.2.2)])) (R 11 a G)
    | _ => .fail
  | 12 => tspec (fun b : D × Int => (.tup [.dat b.1, i64 b.2], G)) (R 12 a G)
  | 13 => match G with
    | [o1, .obj [.rowc _ _ xs]] => tspec (fun b : D × Int × Mode => (.tup [.dat b.1, i64 b.2.1], [o1, robj (rowA b.2.2 xs)])) (R 13 a G)
    | _ => tspec (fun b : D × Int => (.tup [.dat b.1, i64 b.2], G)) (R 13 a G)
  | 14 => tspec (fun b : Bool => (.dat (.bool b), G)) (R14 a G)
  | 15 => tI 15 a G
  | 16 => tspec (fun n : Int => (i64 n, G)) (R 16 a G)
  | 17 => tspec (fun n : Int => (i64 n, G)) (R17 a G)
  | _ => .fail

def H3 : Nat → List Nat := hOf [(6, [0, 3, 4, 5]), (1000006, [2]), (21, [0, 3, 4, 5, 7, 11]), (1000021, [0, 2, 3, 4, 5]), (3000000, [25])]
noncomputable def lp3 : Code := lpOf (codeOf Go.Proofs.Try.f3) 0
noncomputable def lp21 : Code := lpOf lp3 0

def inv0 (k : LK) (l : Row) (last : Int) (c : List D) : St := ⟨mkT 0 114 [(0, .dat (.list k 5 l)), (3, pT), (4, .ptr (.loc 0) 0), (5, i64 0)], ⟨[some (.obj [nilA])], [tobj nilA last c], 0⟩⟩
def inv1 (k : LK) (l : Row) (i : Int) (kc : AV) (last : Int) (c : List D) (rc : AV) : St := ⟨mkT 0 114 [(0, .dat (.list k 5 l)), (3, pT), (4, pR), (5, i64 i)], ⟨[], [tobj kc last c, robj rc], 0⟩⟩
/-- the inner loop: numbers that rise by one -/
def inv21 (k : LK) (l : Row) (i : Int) (kx : LK) (sx : Nat) (ys : Row) (kk : Int) (kc : AV) (last : Int) (c : List D) (o2 : Ent) : St :=
  ⟨mkT 0 114 [(0, .dat (.list k 5 l)), (3, pT), (4, pR), (5, i64 i), (7, .dat (.list kx sx ys)), (11, i64 kk)], ⟨[], [tobj kc last c, o2], 0⟩⟩
noncomputable def rd21 (k : LK) (l : Row) (i : Int) (kx : LK) (sx : Nat) (ys : Row) (kk : Int) (kc : AV) (last : Int) (c : List D) (o2 : Ent) : Tr (Ex × St) := tround TT tL noLo H3 lp21 (inv21 k l i kx sx ys kk kc last c o2)

noncomputable def f14t (k1 k2 : LK) (s1 s2 : Nat) (xs ys : Row) (G : List Ent) : Tr (AV × List Ent) := tfn TT (tinF 0) lo14 Go.Proofs.Try.f14 [.dat (.list k1 s1 xs), .dat (.list k2 s2 ys)] G
noncomputable def f17t0 (k : Int) (o1 : Ent) : Tr (AV × List Ent) := tfn TT (tinF 0) lo17 Go.Proofs.Try.f17 [pR, i64 k] [o1, robj nilA]
noncomputable def f17t1 (md : Mode) (xs : Row) (k : Int) (o1 : Ent) : Tr (AV × List Ent) := tfn TT (tinF 0) lo17 Go.Proofs.Try.f17 [pR, i64 k] [o1, robj (rowA md xs)]

def out21 (a0 a3 a4 a5 : AV) (G : List Ent) (_ : Unit) : Ex × St := (.exit 3, ⟨mkT 0 114 [(0, a0), (3, a3), (4, a4), (5, a5)], ⟨[], G, 0⟩⟩)
noncomputable def lo21 (n : Nat) (st : St) : Tr (Ex × St) := match n with
  | 21 => tlo TT tL.runs H3 lp21 (out21 ((tidy (H3 21) st).tmps.getD 0 .dead) ((tidy (H3 21) st).tmps.getD 3 .dead) ((tidy (H3 21) st).tmps.getD 4 .dead) ((tidy (H3 21) st).tmps.getD 5 .dead) st.mem.G) st
  | _ => .fail
noncomputable def rd0 (k : LK) (l : Row) (last : Int) (c : List D) : Tr (Ex × St) := tround TT tL lo21 H3 lp3 (inv0 k l last c)
noncomputable def rdA (k : LK) (l : Row) (i : Int) (kc : AV) (last : Int) (c : List D) : Tr (Ex × St) := tround TT tL lo21 H3 lp3 (inv1 k l i kc last c nilA)
noncomputable def rdB (k : LK) (l : Row) (i : Int) (kc : AV) (last : Int) (c : List D) (md : Mode) (xs : Row) : Tr (Ex × St) := tround TT tL lo21 H3 lp3 (inv1 k l i kc last c (rowA md xs))
def out6 (G : List Ent) : Ex × St := (.exit 0, ⟨mkT 0 114 [], ⟨[], G, 0⟩⟩)
noncomputable def lo6 (n : Nat) (st : St) : Tr (Ex × St) := match n with
  | 6 => tlo TT tL.runs H3 lp3 out6 st
  | _ => .fail
noncomputable def lawT (k : LK) (l : Row) : Tr (AV × List Ent) := tfnR TT tL lo6 [25] Go.Proofs.Try.f3 [.dat (.list k 5 l)] []

end Go.Eng

/- Steps as bytes: the functions as trees. -/
import Derived.Test.YtkconbpjimjbnaaSh17
import Derived.Test.YtkconbpjimjbnaaSh9
import Derived.Test.YtkconbpjimjbnaaSh6
import Derived.Test.YtkconbpjimjbnaaSh16
import Derived.Test.YtkconbpjimjbnaaSh5
section
namespace Go.Eng
open Go

def hOfS (l : List (Nat × List Nat)) (n : Nat) : List Nat := (l.lookup n).getD []

def HSa (f : Nat) : Nat → List Nat := match f with
  | 19 => hOfS [(5, [1, 4, 27, 28]), (1000005, [1, 2, 3, 4]), (16, [4, 67, 68, 69]), (1000016, [4])]
  | 20 => hOfS [(5, [1, 4, 5]), (1000005, [4])]
  | 22 => hOfS [(4, [2, 3, 5]), (1000004, [4])]
  | 23 => hOfS [(6, [0, 2, 5, 6, 7]), (1000006, [0, 2, 5, 6])]
  | 35 => hOfS [(6, [2, 7, 8]), (1000006, [7])]
  | 41 => hOfS [(4, [0, 1, 12, 13]), (1000004, [4])]
  | 54 => hOfS [(6, [2, 7, 8]), (1000006, [7])]
  | 57 => hOfS [(7, [0, 1, 2, 8, 9]), (1000007, [8])]
  | 59 => hOfS [(7, [8, 37, 38, 39]), (1000007, [8])]
  | _ => fun _ => []

noncomputable def tU (f : Nat) (a : List AV) (G : List Ent) : Tr (AV × List Ent) := tinU FT TT HSa 6 [] tNone 4 f a G

def jnt (k : IntKind) (n : Int) : AV := .dat (.int k n)

noncomputable def put1 (xs : Row) (n : Int) (G : List Ent) := tU 35 [.dat (.list .any 1 xs), jnt .i64 1, jnt .u64 n] G
noncomputable def put2 (xs : Row) (n : Int) (G : List Ent) := tU 35 [.dat (.list .any 1 xs), jnt .i64 2, jnt .u64 n] G
noncomputable def put0 (n : Int) (G : List Ent) := tU 35 [.dat (.list .nil 0 []), jnt .i64 1, jnt .u64 n] G
noncomputable def txt1 (n : Int) (G : List Ent) := tU 39 [jnt .i64 1, jnt .u64 n] G
noncomputable def txt2 (n : Int) (G : List Ent) := tU 39 [jnt .i64 2, jnt .u64 n] G

/-- word.Put and ref01.Text by their results -/
noncomputable def U (f : Nat) (a : List AV) (G : List Ent) : Option (AV × List Ent) := (tU f a G).run
def outR (G : List Ent) (xs : Row) : AV × List Ent := (.own true 1 xs, G)
def outS (G : List Ent) (s : ByteArray) : AV × List Ent := (.dat (.str s), G)
noncomputable def tW : TOrc := tCons 35 (fun a G => tspec (outR G) (U 35 a G)) (tCons 39 (fun a G => tspec (outS G) (U 39 a G)) (tCons 40 (fun a G => tspec (outS G) (U 40 a G)) tNone))

noncomputable def tV (f : Nat) (a : List AV) (G : List Ent) : Tr (AV × List Ent) := tinU FT TT HSa 6 [35, 39, 40] tW 3 f a G
noncomputable def tVo : TOrc := tinU FT TT HSa 6 [35, 39, 40] tW 3

/-- a step -/
def stp (k nd at' n : Int) (s : ByteArray) (p : Int) (kk : LK) (ks : Row) : AV := .agg [jnt .i64 k, jnt .i64 nd, jnt .i64 at', jnt .i64 n, .dat (.str s), jnt .i64 p, .dat (.list kk 1 ks)]

noncomputable def lp19a : Code := lpOf (codeOf Go.Proofs.Try.f19) 0
noncomputable def lp19b : Code := lpOf (codeOf Go.Proofs.Try.f19) 1
noncomputable def lp20 : Code := lpOf (codeOf Go.Proofs.Try.f20) 0

/-- Put, up to its last loop -/
noncomputable def p19 (op : St → Option (Ex × St)) (k nd at' n : Int) (s : ByteArray) (p : Int) (kk : LK) (ks : Row) (G : List Ent) : Tr (AV × List Ent) :=
  tfn TT tVo (fun r st => if r = 5 then tloU TT tVo noLo (HSa 19) lp19a 8 st else .get (op (tidy (HSa 19 16) st)) fun x => .ret x) Go.Proofs.Try.f19 [stp k nd at' n s p kk ks] G
noncomputable def p20 (op : St → Option (Ex × St)) (k nd at' n : Int) (s : ByteArray) (p : Int) (kk : LK) (ks : Row) (G : List Ent) : Tr (AV × List Ent) :=
  tfn TT tVo (fun _ st => .get (op (tidy (HSa 20 5) st)) fun x => .ret x) Go.Proofs.Try.f20 [stp k nd at' n s p kk ks] G
noncomputable def s21 (k nd at' n : Int) (s : ByteArray) (p : Int) (kk : LK) (ks : Row) (k' nd' at'' n' : Int) (s' : ByteArray) (p' : Int) (kk' : LK) (ks' : Row) (G : List Ent) : Tr (AV × List Ent) :=
  tfn TT (tCons 34 (fun a G => tU 34 a G) (tCons 41 (fun a G => tspec (fun b : Bool => (.dat (.bool b), G)) (U 41 a G)) tNone)) noLo Go.Proofs.Try.f21 [stp k nd at' n s p kk ks, stp k' nd' at'' n' s' p' kk' ks'] G


def inv19 (xs : Row) (kk : LK) (ks : Row) (G : List Ent) (i : Int) : St := ⟨mkT 0 79 [(4, .sh false 0 1 0 xs.length), (67, .dat (.list kk 1 ks)), (68, jnt .i64 ks.length), (69, jnt .i64 i)], ⟨[some (.row .excl 1 xs)], G, 0⟩⟩
noncomputable def rk19 (xs : Row) (kk : LK) (ks : Row) (G : List Ent) (i : Int) : Tr (Ex × St) := tround TT tVo noLo (HSa 19) lp19b (inv19 xs kk ks G i)
def inv20 (b : ByteArray) (k nd at' n : Int) (s : ByteArray) (p : Int) (kk : LK) (ks : Row) (G : List Ent) (i : Int) : St := ⟨mkT 0 105 [(1, .ptr (.loc 0) 0), (4, .dat (.str b)), (5, jnt .i64 i)], ⟨[some (.obj [jnt .i64 k, jnt .i64 nd, jnt .i64 at', jnt .i64 n, .dat (.str s), jnt .i64 p, .dat (.list kk 1 ks)])], G, 0⟩⟩
noncomputable def rk20 (b : ByteArray) (k nd at' n : Int) (s : ByteArray) (p : Int) (kk : LK) (ks : Row) (G : List Ent) (i : Int) : Tr (Ex × St) := tround TT tVo noLo (HSa 20) lp20 (inv20 b k nd at' n s p kk ks G i)
noncomputable def h22 (op : St → Option (Ex × St)) (k nd at' n : Int) (s : ByteArray) (p : Int) (kk : LK) (ks : Row) (k' nd' at'' n' : Int) (s' : ByteArray) (p' : Int) (kk' : LK) (ks' : Row) (G : List Ent) : Tr (AV × List Ent) :=
  tfn TT tNone (fun _ st => .get (op (tidy (HSa 22 4) st)) fun x => .ret x) Go.Proofs.Try.f22 [stp k nd at' n s p kk ks, stp k' nd' at'' n' s' p' kk' ks'] G

/-- the reader, the taker -/
def rdr (a : AV) (e : Int) : Ent := .obj [a, jnt .i64 e]
def takr (w : Bool) : Ent := .obj [.ptr (.glob 0) 0, .dat (.bool w)]
noncomputable def n43 (a : AV) (e : Int) (wr : Bool) (w : Int) : Tr (AV × List Ent) := tU 43 [.ptr (.glob 1) 0, jnt .i64 w] [rdr a e, takr wr]
noncomputable def n43r1 (xs : Row) (e : Int) (wr : Bool) := n43 (.rowc .excl 1 xs) e wr 1
noncomputable def n43r2 (xs : Row) (e : Int) (wr : Bool) := n43 (.rowc .excl 1 xs) e wr 2
noncomputable def n43d1 (k : LK) (xs : Row) (e : Int) (wr : Bool) := n43 (.dat (.list k 1 xs)) e wr 1
noncomputable def n43d2 (k : LK) (xs : Row) (e : Int) (wr : Bool) := n43 (.dat (.list k 1 xs)) e wr 2
noncomputable def n45d (k : LK) (xs : Row) (e : Int) (wr : Bool) : Tr (AV × List Ent) := tU 45 [.ptr (.glob 0) 0, jnt .i64 64] [rdr (.dat (.list k 1 xs)) e, takr wr]
noncomputable def n45r (xs : Row) (e : Int) (wr : Bool) : Tr (AV × List Ent) := tU 45 [.ptr (.glob 0) 0, jnt .i64 64] [rdr (.rowc .excl 1 xs) e, takr wr]
noncomputable def n47d (k : LK) (xs : Row) (e : Int) (wr : Bool) : Tr (AV × List Ent) := tU 47 [.ptr (.glob 0) 0] [rdr (.dat (.list k 1 xs)) e, takr wr]
noncomputable def n47r (xs : Row) (e : Int) (wr : Bool) : Tr (AV × List Ent) := tU 47 [.ptr (.glob 0) 0] [rdr (.rowc .excl 1 xs) e, takr wr]
noncomputable def n42 (kb : LK) (x0 : List D) (xs : Row) : Tr (AV × List Ent) := tU 42 [.dat (.list kb 1 (x0 :: xs))] []

noncomputable def h41 (op : St → Option (Ex × St)) (k1 : LK) (xs : Row) (k2 : LK) (ys : Row) (G : List Ent) : Tr (AV × List Ent) :=
  tfn TT tNone (fun _ st => .get (op (tidy (HSa 41 4) st)) fun x => .ret x) Go.Proofs.Try.f41 [.dat (.list k1 1 xs), .dat (.list k2 1 ys)] G

end Go.Eng
end

/- Two answers, alike: the loops and the functions as trees. -/
section
namespace Go.Eng
open Go

def hOf (l : List (Nat × List Nat)) (n : Nat) : List Nat := (l.lookup n).getD []

noncomputable def tinF : Nat → TOrc
  | 0 => fun _ _ _ => .fail
  | n + 1 => fun f a G => match FT f with
    | some fn => tfn TT (tinF n) noLo fn a G
    | none => .fail

/-- what the lists' loops come to -/
def outB (N : Nat) (G : List Ent) (b : Bool) : Ex × St :=
  match b with
  | true => (.exit 0, ⟨mkT 0 N [], ⟨[], G, 0⟩⟩)
  | false => (.ret, ⟨mkT 0 N [(4, .dat (.bool false))], ⟨[], G, 0⟩⟩)




def H48 : Nat → List Nat := hOf [(4, [0, 1, 12, 13]), (1000004, [4])]
noncomputable def lp48 : Code := lpOf (codeOf Go.Proofs.Try.f48) 0
def inv48 (k1 k2 : LK) (xs ys : Row) (G : List Ent) (n i : Int) : St := ⟨mkT 0 26 [(0, .dat (.list k1 1 xs)), (1, .dat (.list k2 1 ys)), (12, .dat (.int .i64 n)), (13, .dat (.int .i64 i))], ⟨[], G, 0⟩⟩
noncomputable def rd48 (k1 k2 : LK) (xs ys : Row) (G : List Ent) (n i : Int) : Tr (Ex × St) := tround TT (tinF 0) noLo H48 lp48 (inv48 k1 k2 xs ys G n i)

def H49 : Nat → List Nat := hOf [(4, [0, 1, 5]), (1000004, [4])]
noncomputable def lp49 : Code := lpOf (codeOf Go.Proofs.Try.f49) 0
def inv49 (k1 k2 : LK) (xs ys : Row) (G : List Ent) (i : Int) : St := ⟨mkT 0 26 [(0, .dat (.list k1 1 xs)), (1, .dat (.list k2 1 ys)), (5, .dat (.int .i64 i))], ⟨[], G, 0⟩⟩
noncomputable def rd49 (k1 k2 : LK) (xs ys : Row) (G : List Ent) (i : Int) : Tr (Ex × St) := tround TT (tinF 0) noLo H49 lp49 (inv49 k1 k2 xs ys G i)

end Go.Eng
end

/- Two answers, alike: the loops and the functions as trees. -/
import Derived.Test.YtkconbpjimjbnaaEngTu
import Derived.Test.YtkconbpjimjbnaaEngT
import Derived.Test.YtkconbpjimjbnaaEngFT
import Derived.Test.YtkconbpjimjbnaaEngFn
import Derived.Test.YtkconbpjimjbnaaEngLv
namespace Go.Eng
open Go

def hOf (l : List (Nat × List Nat)) (n : Nat) : List Nat := (l.lookup n).getD []

noncomputable def tinF : Nat → TOrc
  | 0 => fun _ _ _ => .fail
  | n + 1 => fun f a G => match FT f with
    | some fn => tfn TT (tinF n) noLo fn a G
    | none => .fail

/-- what the lists' loops come to -/
def outB (N : Nat) (G : List Ent) (b : Bool) : Ex × St :=
  match b with
  | true => (.exit 0, ⟨mkT 0 N [], ⟨[], G, 0⟩⟩)
  | false => (.ret, ⟨mkT 0 N [(4, .dat (.bool false))], ⟨[], G, 0⟩⟩)




def H48 : Nat → List Nat := hOf [(4, [0, 1, 12, 13]), (1000004, [4])]
noncomputable def lp48 : Code := lpOf (codeOf Go.Proofs.Try.f48) 0
def inv48 (k1 k2 : LK) (xs ys : Row) (G : List Ent) (n i : Int) : St := ⟨mkT 0 26 [(0, .dat (.list k1 1 xs)), (1, .dat (.list k2 1 ys)), (12, .dat (.int .i64 n)), (13, .dat (.int .i64 i))], ⟨[], G, 0⟩⟩
noncomputable def rd48 (k1 k2 : LK) (xs ys : Row) (G : List Ent) (n i : Int) : Tr (Ex × St) := tround TT (tinF 0) noLo H48 lp48 (inv48 k1 k2 xs ys G n i)

def H49 : Nat → List Nat := hOf [(4, [0, 1, 5]), (1000004, [4])]
noncomputable def lp49 : Code := lpOf (codeOf Go.Proofs.Try.f49) 0
def inv49 (k1 k2 : LK) (xs ys : Row) (G : List Ent) (i : Int) : St := ⟨mkT 0 26 [(0, .dat (.list k1 1 xs)), (1, .dat (.list k2 1 ys)), (5, .dat (.int .i64 i))], ⟨[], G, 0⟩⟩
noncomputable def rd49 (k1 k2 : LK) (xs ys : Row) (G : List Ent) (i : Int) : Tr (Ex × St) := tround TT (tinF 0) noLo H49 lp49 (inv49 k1 k2 xs ys G i)

end Go.Eng

/- Sets of runs: the program's variables; the library's functions that are called; known. -/
import Derived.Test.YtablkigmdginoaaDoorRo18
import Derived.Test.YtablkigmdginoaaDoorRo19
import Derived.Test.YtablkigmdginoaaDoorRo25
import Derived.Test.YtablkigmdginoaaDoorRo27
import Derived.Test.YtablkigmdginoaaDoorRo9
import Derived.Test.YtablkigmdginoaaDoorRo6
import Derived.Test.YtablkigmdginoaaDoorRo11
import Derived.Test.YtablkigmdginoaaDoorRo21
import Derived.Lib.TrailingZeros
section
namespace Go.Eng
open Go
set_option maxRecDepth 100000

instance : Inhabited Pkg := ⟨⟨fun g => if g = 0 then some (Go.Lib.deBruijn64tab.map fun n => .int .u8 (n : Nat)) else if g = 4 then some (Go.Lib.pow10Tab.map fun z => .int .u64 z) else none, fun g => if g = 1 then some (fun v => ∃ m, v = .int .i64 m) else if g = 2 ∨ g = 3 then some IsI else none⟩⟩

/-- what is kept at each loop's head, by liveness; the ranges over functions by hand -/
noncomputable def HH (f n : Nat) : List Nat := if n = 3000000 then (if f = 12 then [10040003, 10040007] else if f = 13 then [10040003, 10040006] else []) else match FT f with
  | some fn => ((liveF fn).lookup n).getD []
  | none => []

noncomputable abbrev PP : Program := Go.Proofs.Tryd.prog
theorem gl4 : pkgGl 4 = some (Go.Lib.pow10Tab.map fun z => .int .u64 z) := by
  simp only [pkgGl, default]
  rfl
theorem c27 : COk PP 27 sItoaA := sItoaA_ok (g := 4) ⟨_, Go.Proofs.Tryd.func27, by kernel_rfl, by kernel_rfl⟩ gl4 (by kernel_rfl) fun n h0 h1 w ht => Go.Proofs.Tryd.strconv_Itoa n h0 h1 w ht
theorem c28 : COk PP 28 sJoin := sJoin_ok ⟨_, Go.Proofs.Tryd.func28, by kernel_rfl, by kernel_rfl⟩ fun bk o c xs sep w h1 h2 h3 h4 h5 => Go.Proofs.Tryd.strings_Join bk o c xs sep w h1 h2 h3 h4 h5
theorem c23 : COk PP 23 sSplit1 := sSplit1_ok (g := 1) ⟨_, Go.Proofs.Tryd.func23, by kernel_rfl, by kernel_rfl⟩ rfl fun s sep m w h1 h2 h3 => Go.Proofs.Tryd.strings_Split s sep m w h1 h2 h3
theorem c35 : COk PP 35 sCut1 := sCut1_ok (g := 1) ⟨_, Go.Proofs.Tryd.func35, by kernel_rfl, by kernel_rfl⟩ rfl fun s sep m w h1 h2 => Go.Proofs.Tryd.strings_Cut s sep m w h1 h2
theorem c36 : COk PP 36 sAtoiA := sAtoiA_ok (g1 := 2) (g2 := 3) ⟨_, Go.Proofs.Tryd.func36, by kernel_rfl, by kernel_rfl⟩ rfl rfl (fun s h v hv w => Go.Proofs.Tryd.strconv_Atoi_ok s h v hv w)
  (fun s h hv hr ev w h1 h2 => (Go.Proofs.Any.strconv_Atoi_syntax Go.Proofs.Tryd.laysC172 s h (by
    cases hq : Go.Lib.atoiAll s.data.toList with
    | ok v => exact absurd hq (hv v)
    | range => exact absurd hq hr
    | _ => rfl) ev w h1 h2).mono fun e w' q => by obtain ⟨N, q1, _, _, q2⟩ := q; exact ⟨N, q1, q2⟩)
  (fun s h hv ev w h1 h2 => (Go.Proofs.Tryd.strconv_Atoi_range s h hv ev w h1 h2).mono fun e w' q => by obtain ⟨N, q1, _, _, q2⟩ := q; exact ⟨N, q1, q2⟩)

noncomputable def oL : Orc := fun f => match f with
  | 27 => sItoaA
  | 28 => sJoin
  | 23 => sSplit1
  | 35 => sCut1
  | 36 => sAtoiA
  | _ => fun _ _ => none
theorem oL_ok : ∀ f, COk PP f (oL f) := fun f => by
  unfold oL
  split
  · exact c27
  · exact c28
  · exact c23
  · exact c35
  · exact c36
  · exact COk.nothing fun _ _ => rfl
abbrev libs : List Nat := [23, 27, 28, 35, 36]

noncomputable def E (f : Nat) (a : List AV) (G : List Ent) : Option (AV × List Ent) := orcY FT TT 300 HH libs oL 8 f a G
theorem E_ok (f : Nat) : COk PP f (E f) := orcY_ok (K := 300) (H := HH) TT_ok (FT := FT) (fun _ _ h => FT_ok h) oL_ok 8 f
noncomputable abbrev bs (l : List UInt8) : AV := .dat (.str ⟨l.toArray⟩)
theorem known_ev : (E 6 [] []).map (·.1) = some (.dat (.bool true)) := by kernel_rfl
end Go.Eng
end

/- Sets of runs: the small functions, as trees. -/
section
namespace Go.Eng
open Go
set_option maxRecDepth 100000

theorem FT_fine {f : Nat} {fn : Func} (h : FT f = some fn) : PP.funcs[f]? = some fn ∧ (fn.name == "runtime.NumGoroutine") = false ∧ nodupN ((loops (codeOf fn)).map firstRegion) = true := by
  have h2 := BT.get_all (BT.all_ok (q := fun _ fn => !(fn.name == "runtime.NumGoroutine") && nodupN ((loops (codeOf fn)).map firstRegion)) (show FTree.all (fun _ fn => !(fn.name == "runtime.NumGoroutine") && nodupN ((loops (codeOf fn)).map firstRegion)) = true by kernel_rfl)) h
  simp only [Bool.and_eq_true, Bool.not_eq_true'] at h2
  exact ⟨FT_ok h, h2.1, h2.2⟩
def hOfS (l : List (Nat × List Nat)) (n : Nat) : List Nat := (l.lookup n).getD []
def jn (n : Int) : AV := .dat (.int .i64 n)
def st2 (a b : Int) : AV := .agg [.dat (.int .u64 a), .dat (.int .u64 b)]
noncomputable def t1 : TOrc := tinU FT TT (fun _ _ => []) 6 [] tNone 2
theorem t1_ok : TOk PP t1 := tinU_ok TT_ok (FT := FT) (fun _ _ h => FT_fine h) (HS := fun _ _ => []) (fuel := 6) (base := []) TOk.nil 2
noncomputable def f20t (m n : Int) : Tr (AV × List Ent) := t1 20 [.agg [jn m, jn n]] []
noncomputable def f21t (a b i : Int) : Tr (AV × List Ent) := t1 21 [st2 a b, jn i] []
noncomputable def f29t (a b i : Int) : Tr (AV × List Ent) := t1 29 [st2 a b, jn i] []
def HSb (f : Nat) : Nat → List Nat := match f with
  | 8 => hOfS [(3, [0, 3, 4]), (1000003, [3])]
  | 32 => hOfS [(3, [1, 3, 4]), (1000003, [3])]
  | 33 => hOfS [(3, [0, 2, 3, 4]), (1000003, [2, 3])]
  | 7 => hOfS [(3, [2, 4, 11, 12, 13]), (1000003, [2, 3, 4]), (9, [2, 4, 6, 11, 12, 13, 24, 25]), (1000009, [2, 3, 4, 11, 12, 13])]
  | 9 => hOfS [(3, [0, 2, 4, 5]), (1000003, [2, 3, 4]), (10, [0, 2, 4, 5, 6]), (1000010, [0, 2, 4, 5])]
  | _ => fun _ => []
noncomputable def f8p (op : St → Option (Ex × St)) (k : LK) (l : Row) : Tr (AV × List Ent) := tfn TT tNone (fun n st => .get (op (tidy (HSb 8 n) st)) fun x => .ret x) Go.Proofs.Tryd.f8 [.dat (.list k 2 l)] []
noncomputable def f32p (op : St → Option (Ex × St)) (a b : Int) : Tr (AV × List Ent) := tfn TT tNone (fun n st => .get (op (tidy (HSb 32 n) st)) fun x => .ret x) Go.Proofs.Tryd.f32 [st2 a b] []
noncomputable def f33p (op : St → Option (Ex × St)) (k : LK) (l : Row) : Tr (AV × List Ent) := tfn TT tNone (fun n st => .get (op (tidy (HSb 33 n) st)) fun x => .ret x) Go.Proofs.Tryd.f33 [.dat (.list k 1 l)] []
noncomputable def f7p (op : St → Option (Ex × St)) (k : LK) (l : Row) : Tr (AV × List Ent) := tfn TT tNone (fun n st => .get (op (tidy (HSb 7 n) st)) fun x => .ret x) Go.Proofs.Tryd.f7 [.dat (.list k 2 l)] []
noncomputable def f9p (op : St → Option (Ex × St)) (k : LK) (l : Row) : Tr (AV × List Ent) := tfn TT tNone (fun n st => .get (op (tidy (HSb 9 n) st)) fun x => .ret x) Go.Proofs.Tryd.f9 [.dat (.list k 2 l)] []
end Go.Eng
end

/- Sets of runs: With, Has and told, at every number, by closed evaluation. -/
section
namespace Go.Eng
open Go
set_option maxRecDepth 100000
def orI (a : Int) (k : Nat) : Int := IntKind.wrap IntKind.u64 (((BitVec.toNat ((BitVec.ofInt 64 a) ||| (BitVec.ofInt 64 ((2 ^ k : Nat) : Int)))) : Nat) : Int)
def hasI (a : Int) (k : Nat) : Bool := ((IntKind.wrap IntKind.u64 (((BitVec.toNat ((BitVec.ofInt 64 (Int.fdiv a ((2 ^ k : Nat) : Int))) &&& (BitVec.ofInt 64 (1 : Int)))) : Nat) : Int)) == (1 : Int))
def withI (a b : Int) (i : Nat) : Int × Int := if i < 64 then (orI a i, b) else (a, orI b (i - 64))
def toldI (a b : Int) : Row := (List.range 128).map fun i => [.bool (if i < 64 then hasI a i else hasI b (i - 64))]

theorem e21_all (a b : Int) : (List.range 128).map (fun i => (E 21 [st2 a b, jn (i : Nat)] []).map (·.1)) = (List.range 128).map (fun i => some (AV.tup [st2 (withI a b i).1 (withI a b i).2, jn 0])) := by kernel_rfl
theorem e32 (a b : Int) : E 32 [st2 a b] [] = some (.own true 1 (toldI a b), []) := by kernel_rfl
end Go.Eng
end

/- Sets of runs: trees of the sets' functions. -/
section
namespace Go.Eng
open Go
set_option maxRecDepth 100000
def oErr (G : List Ent) (n : Int) : AV × List Ent := (jn n, G)
def oW (G : List Ent) (p : (Int × Int) × Int) : AV × List Ent := (.tup [st2 p.1.1 p.1.2, jn p.2], G)
def oTd (G : List Ent) (zr : Row) : AV × List Ent := (.own true 1 zr, G)
def oS2 (G : List Ent) (p : Int × Int) : AV × List Ent := (st2 p.1 p.2, G)
noncomputable def R20 (a : List AV) (G : List Ent) : Option (AV × List Ent) := (t1 20 a G).run
noncomputable def P20 := pureS R20
noncomputable def P21 := pureS (E 21)
noncomputable def R32 (a : List AV) (G : List Ent) : Option (AV × List Ent) := E 32 a G

/-! made -/
noncomputable def lp33 : Code := lpOf (codeOf Go.Proofs.Tryd.f33) 0
def ob2 (a b : Int) : Option Ent := some (.obj [.dat (.int .u64 a), .dat (.int .u64 b)])
def inv33 (k : LK) (l : Row) (a b i : Int) : St := ⟨mkT 0 33 [(0, .dat (.list k 1 l)), (2, .ptr (.loc 0) 0), (3, .ptr (.loc 1) 0), (4, jn i)], ⟨[ob2 0 0, ob2 a b], [], 0⟩⟩
noncomputable def rk33 (k : LK) (l : Row) (a b i : Int) : Tr (Ex × St) := tround TT tNone noLo (HSb 33) lp33 (inv33 k l a b i)
def out33 (p : Int × Int) : Ex × St := (.exit 0, ⟨mkT 0 33 [(2, .ptr (.loc 0) 0), (3, .ptr (.loc 1) 0)], ⟨[ob2 0 0, ob2 p.1 p.2], [], 0⟩⟩)
noncomputable def lo33 (n : Nat) (st : St) : Tr (Ex × St) := match n with
  | 3 => tlo TT tNone.runs (HSb 33) lp33 out33 st
  | _ => .fail
noncomputable def f33t (k : LK) (l : Row) : Tr (AV × List Ent) := tfn TT tNone lo33 Go.Proofs.Tryd.f33 [.dat (.list k 1 l)] []
noncomputable def R33 (a : List AV) (G : List Ent) : Option (AV × List Ent) := (tfn TT tNone lo33 Go.Proofs.Tryd.f33 a G).run
noncomputable def P33 := pureS R33
/-! With, the document's -/
noncomputable def t22 : TOrc := tCons 32 (fun a G => tspec (oTd G) (R32 a G)) (tCons 33 (fun a G => tspec (oS2 G) (P33 a G)) tNone)
noncomputable def f22t (a b i : Int) : Tr (AV × List Ent) := tfn TT t22 noLo Go.Proofs.Tryd.f22 [st2 a b, jn i] []
noncomputable def R22 (a : List AV) (G : List Ent) : Option (AV × List Ent) := (tfn TT t22 noLo Go.Proofs.Tryd.f22 a G).run
noncomputable def P22 := pureS R22
/-! given -/
noncomputable def lp8 : Code := lpOf (codeOf Go.Proofs.Tryd.f8) 0
def inv8n (k : LK) (l : Row) (i : Int) : St := ⟨mkT 0 26 [(0, .dat (.list k 2 l)), (3, .dat (.list .nil 0 [])), (4, jn i)], ⟨[], [], 0⟩⟩
def inv8r (k : LK) (l r : Row) (i : Int) : St := ⟨mkT 0 26 [(0, .dat (.list k 2 l)), (3, .sh false 0 2 0 r.length), (4, jn i)], ⟨[some (.row .excl 2 r)], [], 0⟩⟩
noncomputable def rk8n (k : LK) (l : Row) (i : Int) : Tr (Ex × St) := tround TT tNone noLo (HSb 8) lp8 (inv8n k l i)
noncomputable def rk8r (k : LK) (l r : Row) (i : Int) : Tr (Ex × St) := tround TT tNone noLo (HSb 8) lp8 (inv8r k l r i)
def out8n (_ : Unit) : Ex × St := (.exit 0, ⟨mkT 0 26 [(3, .dat (.list .nil 0 []))], ⟨[], [], 0⟩⟩)
def out8r (r : Row) : Ex × St := (.exit 0, ⟨mkT 0 26 [(3, .sh false 0 2 0 r.length)], ⟨[some (.row .excl 2 r)], [], 0⟩⟩)
noncomputable def lo8 (n : Nat) (st : St) : Tr (Ex × St) := match n with
  | 3 => tlo2 TT tNone.runs (HSb 8) lp8 out8n out8r st
  | _ => .fail
noncomputable def f8t (k : LK) (l : Row) : Tr (AV × List Ent) := tfn TT tNone lo8 Go.Proofs.Tryd.f8 [.dat (.list k 2 l)] []
noncomputable def R8 (a : List AV) (G : List Ent) : Option (AV × List Ent) := (tfn TT tNone lo8 Go.Proofs.Tryd.f8 a G).run
/-! Set, the program's -/
noncomputable def t7 : TOrc := tCons 20 (fun a G => tspec (oErr G) (P20 a G)) (tCons 21 (fun a G => tspec (oW G) (P21 a G)) tNone)
noncomputable def lp7 : Code := lpOf (codeOf Go.Proofs.Tryd.f7) 0
noncomputable def lp7b : Code := lpOf lp7 0
def inv7b (k : LK) (l : Row) (n i a b m c z j : Int) : St := ⟨mkT 0 45 [(2, .ptr (.loc 0) 0), (4, .ptr (.loc 1) 0), (6, .ptr (.loc 2) 0), (11, .dat (.list k 2 l)), (12, jn n), (13, jn i), (24, jn z), (25, jn j)], ⟨[ob2 0 0, ob2 a b, some (.obj [jn m, jn c])], [], 0⟩⟩
noncomputable def rk7b (k : LK) (l : Row) (n i a b m c z j : Int) : Tr (Ex × St) := tround TT t7 noLo (HSb 7) lp7b (inv7b k l n i a b m c z j)
def out7b (a11 a12 a13 : AV) (p : Int × Int) : Ex × St := (.exit 2, ⟨mkT 0 45 [(2, .ptr (.loc 0) 0), (4, .ptr (.loc 1) 0), (11, a11), (12, a12), (13, a13)], ⟨[ob2 0 0, ob2 p.1 p.2], [], 0⟩⟩)
noncomputable def lo7b (n : Nat) (st : St) : Tr (Ex × St) := match n with
  | 9 => tlo TT t7.runs (HSb 7) lp7b (out7b (st.tmps.getD 11 .dead) (st.tmps.getD 12 .dead) (st.tmps.getD 13 .dead)) st
  | _ => .fail
def inv7 (k : LK) (l : Row) (n i a b : Int) : St := ⟨mkT 0 45 [(2, .ptr (.loc 0) 0), (4, .ptr (.loc 1) 0), (11, .dat (.list k 2 l)), (12, jn n), (13, jn i)], ⟨[ob2 0 0, ob2 a b], [], 0⟩⟩
noncomputable def rk7 (k : LK) (l : Row) (n i a b : Int) : Tr (Ex × St) := tround TT t7 lo7b (HSb 7) lp7 (inv7 k l n i a b)
def out7a (p : Int × Int) : Ex × St := (.exit 0, ⟨mkT 0 45 [(2, .ptr (.loc 0) 0), (4, .ptr (.loc 1) 0)], ⟨[ob2 0 0, ob2 p.1 p.2], [], 0⟩⟩)
def out7r (p : (Int × Int) × Int) : Ex × St := (.ret, ⟨mkT 0 45 [(2, .ptr (.loc 0) 0), (3, jn p.2), (4, .ptr (.loc 1) 0)], ⟨[ob2 0 0, ob2 p.1.1 p.1.2], [], 0⟩⟩)
noncomputable def lo7 (n : Nat) (st : St) : Tr (Ex × St) := match n with
  | 3 => tlo2 TT t7.runs (HSb 7) lp7 out7a out7r st
  | _ => .fail
noncomputable def f7t (k : LK) (l : Row) : Tr (AV × List Ent) := tfn TT t7 lo7 Go.Proofs.Tryd.f7 [.dat (.list k 2 l)] []
noncomputable def R7 (a : List AV) (G : List Ent) : Option (AV × List Ent) := (tfn TT t7 lo7 Go.Proofs.Tryd.f7 a G).run
/-! Set, the document's -/
noncomputable def t9 : TOrc := tCons 22 (fun a G => tspec (oW G) (P22 a G)) tNone
noncomputable def lp9 : Code := lpOf (codeOf Go.Proofs.Tryd.f9) 0
noncomputable def lp9b : Code := lpOf lp9 0
def inv9b (k : LK) (l : Row) (i a b j : Int) : St := ⟨mkT 0 72 [(0, .dat (.list k 2 l)), (2, .ptr (.loc 0) 0), (4, .ptr (.loc 1) 0), (5, jn i), (6, jn j)], ⟨[ob2 0 0, ob2 a b], [], 0⟩⟩
noncomputable def rk9b (k : LK) (l : Row) (i a b j : Int) : Tr (Ex × St) := tround TT t9 noLo (HSb 9) lp9b (inv9b k l i a b j)
def out9b (a0 a5 : AV) (p : Int × Int) : Ex × St := (.exit 2, ⟨mkT 0 72 [(0, a0), (2, .ptr (.loc 0) 0), (4, .ptr (.loc 1) 0), (5, a5)], ⟨[ob2 0 0, ob2 p.1 p.2], [], 0⟩⟩)
noncomputable def lo9b (n : Nat) (st : St) : Tr (Ex × St) := match n with
  | 10 => tlo TT t9.runs (HSb 9) lp9b (out9b (st.tmps.getD 0 .dead) (st.tmps.getD 5 .dead)) st
  | _ => .fail
def inv9 (k : LK) (l : Row) (i a b : Int) : St := ⟨mkT 0 72 [(0, .dat (.list k 2 l)), (2, .ptr (.loc 0) 0), (4, .ptr (.loc 1) 0), (5, jn i)], ⟨[ob2 0 0, ob2 a b], [], 0⟩⟩
noncomputable def rk9 (k : LK) (l : Row) (i a b : Int) : Tr (Ex × St) := tround TT t9 lo9b (HSb 9) lp9 (inv9 k l i a b)
def out9a (p : Int × Int) : Ex × St := (.exit 0, ⟨mkT 0 72 [(2, .ptr (.loc 0) 0), (4, .ptr (.loc 1) 0)], ⟨[ob2 0 0, ob2 p.1 p.2], [], 0⟩⟩)
def out9r (p : (Int × Int) × Int) : Ex × St := (.ret, ⟨mkT 0 72 [(2, .ptr (.loc 0) 0), (3, jn p.2), (4, .ptr (.loc 1) 0)], ⟨[ob2 0 0, ob2 p.1.1 p.1.2], [], 0⟩⟩)
noncomputable def lo9 (n : Nat) (st : St) : Tr (Ex × St) := match n with
  | 3 => tlo2 TT t9.runs (HSb 9) lp9 out9a out9r st
  | _ => .fail
noncomputable def f9t (k : LK) (l : Row) : Tr (AV × List Ent) := tfn TT t9 lo9 Go.Proofs.Tryd.f9 [.dat (.list k 2 l)] []
noncomputable def R9 (a : List AV) (G : List Ent) : Option (AV × List Ent) := (tfn TT t9 lo9 Go.Proofs.Tryd.f9 a G).run
end Go.Eng
end

/- Sets of runs: With of both sides is one more bit. -/
section
namespace Go.Eng
open Go
set_option maxRecDepth 100000
set_option linter.unusedSimpArgs false

def tree33 (k : LK) (l : Row) (a b : Int) (i : Nat) : Option (Ex × St) :=
  (rAsk (decide (((i : Nat) : Int) < (((List.length l) : Nat) : Int)))
   (rAsk (true && (true && (decide (((i : Nat) : Int) < (((List.length l) : Nat) : Int)))))
    (rGet l[i]? fun x1 =>
     (rGet (List.head? (List.drop 0 x1)) fun x2 =>
      (rGet (D.bool? x2) fun x3 =>
       (rAsk x3
        (some (Ex.norm, inv33 k l (withI a b i).1 (withI a b i).2 ((i + 1 : Nat) : Int)))
        (some (Ex.norm, inv33 k l a b ((i + 1 : Nat) : Int))))))) none)
   (some (out33 (a, b))))
theorem rk33_all (k : LK) (l : Row) (a b : Int) : (List.range 128).map (fun i => (rk33 k l a b ((i : Nat) : Int)).ev) = (List.range 128).map (fun i => tree33 k l a b i) := by kernel_rfl
theorem rk33_end (k : LK) (l : Row) (a b : Int) : (rk33 k l a b 128).ev = rAsk (decide ((128 : Int) < (((List.length l) : Nat) : Int))) (some (out33 (a, b))) (some (out33 (a, b))) := by kernel_rfl
theorem map_at {α β : Type} {f g : α → β} {l : List α} (h : l.map f = l.map g) {x : α} (hx : x ∈ l) : f x = g x := List.map_inj_left.1 h x hx
theorem rk33_at {k : LK} {l : Row} {a b : Int} {i : Nat} (hi : i < 128) : (rk33 k l a b ((i : Nat) : Int)).ev = tree33 k l a b i := map_at (rk33_all k l a b) (List.mem_range.2 hi)

/-! ### bits -/
theorem wrapU {n : Nat} (h : n < 2 ^ 64) : IntKind.wrap .u64 ((n : Nat) : Int) = n := by
  simp [IntKind.wrap, IntKind.bits, IntKind.signed]
  omega
theorem ofI {n : Nat} (h : n < 2 ^ 64) : (BitVec.ofInt 64 ((n : Nat) : Int)).toNat = n := by
  rw [BitVec.toNat_ofInt]
  omega
theorem orI_nat {a k : Nat} (ha : a < 2 ^ 64) (hk : k < 64) : orI a k = ((a ||| 2 ^ k : Nat) : Int) := by
  have h2 : 2 ^ k < 2 ^ 64 := Nat.pow_lt_pow_right (by omega) hk
  unfold orI
  rw [BitVec.toNat_or, ofI ha, ofI h2, wrapU (Nat.or_lt_two_pow ha h2)]
theorem hasI_nat {a k : Nat} (ha : a < 2 ^ 64) : hasI a k = a.testBit k := by
  have h2 : a / 2 ^ k < 2 ^ 64 := Nat.lt_of_le_of_lt (Nat.div_le_self _ _) ha
  have e : Int.fdiv ((a : Nat) : Int) ((2 ^ k : Nat) : Int) = ((a / 2 ^ k : Nat) : Int) := by
    rw [Int.fdiv_eq_ediv_of_nonneg _ (Int.natCast_nonneg _), Int.natCast_ediv]
  unfold hasI
  rw [e, BitVec.toNat_and, ofI h2, show (BitVec.ofInt 64 (1 : Int)).toNat = 1 from rfl, Nat.and_one_is_mod, wrapU (by omega), Nat.testBit_eq_decide_div_mod_eq]
  have : a / 2 ^ k % 2 < 2 := Nat.mod_lt _ (by omega)
  rw [Bool.eq_iff_iff, beq_iff_eq, decide_eq_true_eq]
  omega
def c2 (s : Nat × Nat) : Int × Int := ((s.1 : Int), (s.2 : Int))
theorem withI_nat {s : Nat × Nat} (h : fitB s) {i : Nat} (hi : i < 128) : withI s.1 s.2 i = c2 (setB s i) := by
  unfold withI setB c2
  split
  · rw [orI_nat h.1 (by omega)]
  · rw [orI_nat h.2 (by omega)]
def boolRow (l : List Bool) : Row := l.map fun x => [.bool x]
theorem toldI_nat {s : Nat × Nat} (h : fitB s) : toldI s.1 s.2 = boolRow (toldB s 128) := by
  unfold toldI boolRow toldB
  rw [List.map_map]
  refine List.map_congr_left fun i _ => ?_
  simp only [Function.comp, hasB]
  split
  · rw [hasI_nat h.1]
  · rw [hasI_nat h.2]

/-! ### With, the program's -/
theorem p21 {s : Nat × Nat} (h : fitB s) {i : Nat} (hi : i < 128) (G : List Ent) : P21 [st2 s.1 s.2, jn i] G = some (oW G (c2 (setB s i), 0)) := by
  have := map_at (e21_all s.1 s.2) (List.mem_range.2 hi)
  rw [withI_nat h hi] at this
  cases he : E 21 [st2 s.1 s.2, jn (i : Nat)] [] with
  | none => rw [he] at this; cases this
  | some r =>
    rw [he] at this
    simp only [Option.map_some, Option.some.injEq] at this
    refine pureS_eq (G0 := r.2) rfl ?_ rfl
    rw [he, ← this]

/-! ### made -/
theorem out33_inj : ∀ x y, out33 x = out33 y → x = y := by
  rintro ⟨a, b⟩ ⟨c, d⟩ h
  simp [out33, ob2] at h
  obtain ⟨rfl, rfl⟩ := h
  rfl
theorem loop33 {k : LK} {bs : List Bool} (hb : bs.length = 128) : ∀ (d i : Nat) (s : Nat × Nat), i + d = 128 → fitB s →
    LoopTo TT tNone.runs (HSb 33) lp33 (inv33 k (boolRow bs) s.1 s.2 i) (out33 (c2 (madeF (bs.drop i) i s)))
  | 0, i, s, h, _ => by
    obtain rfl : i = 128 := by omega
    rw [List.drop_eq_nil_of_le (by omega)]
    refine LoopTo.last (orc := tNone) (lo := noLo) (fun _ _ _ _ h => h) (LoOk2.no _) ?_ (by simp [out33])
    show (rk33 k (boolRow bs) s.1 s.2 128).run = _
    rw [← Tr.ev_run, rk33_end]
    exact aF (by rw [decide_eq_false_iff_not]; simp [boolRow, hb]) rfl
  | d + 1, i, s, h, hs => by
    have hi : i < bs.length := by omega
    have hlen : (boolRow bs).length = 128 := by simp [boolRow, hb]
    have hat : (boolRow bs)[i]? = some [.bool bs[i]] := by
      rw [boolRow, List.getElem?_map, List.getElem?_eq_getElem hi]
      rfl
    rw [List.drop_eq_getElem_cons hi, madeF]
    have step : (rk33 k (boolRow bs) s.1 s.2 ((i : Nat) : Int)).run = some (.norm, inv33 k (boolRow bs) (if bs[i] then setB s i else s).1 (if bs[i] then setB s i else s).2 ((i + 1 : Nat) : Int)) := by
      rw [← Tr.ev_run, rk33_at (by omega), tree33, withI_nat hs (by omega)]
      refine aT (by rw [decide_eq_true_eq]; omega) (aT ?_ (gStep hat (gStep rfl (gStep rfl ?_))))
      · rw [Bool.true_and, Bool.true_and, decide_eq_true_eq]
        omega
      · cases bs[i] with
        | true => exact aT rfl rfl
        | false => exact aF rfl rfl
    refine LoopTo.more (orc := tNone) (lo := noLo) (fun _ _ _ _ h => h) (LoOk2.no _) step (loop33 hb d (i + 1) _ (by omega) ?_)
    split
    · exact setB_fit hs (by omega)
    · exact hs
theorem f33t_eq (k : LK) (l : Row) : (f33t k l).ev =
  (rGet (loS TT (TOrc.runs tNone) (HSb 33) lp33 out33 (St.mk (mkT 0 33 [(0, (AV.dat (D.list k 1 l))), (2, (AV.ptr (Ref.loc 0) 0)), (3, (AV.ptr (Ref.loc 1) 0)), (4, (AV.dat (D.int IntKind.i64 (0 : Int))))]) (Mem.mk [(Option.some (Ent.obj [(AV.dat (D.int IntKind.u64 (0 : Int))), (AV.dat (D.int IntKind.u64 (0 : Int)))])), (Option.some (Ent.obj [(AV.dat (D.int IntKind.u64 (0 : Int))), (AV.dat (D.int IntKind.u64 (0 : Int)))]))] [] 0))) fun x1 =>
   (some ((AV.agg [(AV.dat (D.int IntKind.u64 x1.1)), (AV.dat (D.int IntKind.u64 x1.2))]), []))
  )
  := by kernel_rfl
theorem f22t_eq (a b i : Int) : (f22t a b i).ev =
  (rAsk (decide (i < (0 : Int)))
   (some ((AV.tup [(AV.agg [(AV.dat (D.int IntKind.u64 (0 : Int))), (AV.dat (D.int IntKind.u64 (0 : Int)))]), (AV.dat (D.int IntKind.i64 (3 : Int)))]), []))
   (rAsk (decide (i > (127 : Int)))
    (some ((AV.tup [(AV.agg [(AV.dat (D.int IntKind.u64 (0 : Int))), (AV.dat (D.int IntKind.u64 (0 : Int)))]), (AV.dat (D.int IntKind.i64 (3 : Int)))]), []))
    (rGet (fnS (fun (zr : Row) => ((AV.own true 1 zr), [])) (R32 [(AV.agg [(AV.dat (D.int IntKind.u64 a)), (AV.dat (D.int IntKind.u64 b))])] [])) fun x1 =>
     (rAsk ((decide ((0 : Int) ≤ i)) && (decide (i < (((List.length x1) : Nat) : Int))))
      (rGet x1[(0 + (Int.toNat i))]? fun x2 =>
       (rAsk (decide (1 ≤ (List.length x2)))
        (rGet (fnS (fun (p : Int × Int) => ((AV.agg [(AV.dat (D.int IntKind.u64 p.1)), (AV.dat (D.int IntKind.u64 p.2))]), [])) (P33 [(AV.dat (D.list LK.any 1 (List.take (List.length x1) (List.drop 0 (List.set x1 (0 + (Int.toNat i)) ((D.bool true) :: (List.drop 1 x2)))))))] [])) fun x3 =>
         (some ((AV.tup [(AV.agg [(AV.dat (D.int IntKind.u64 x3.1)), (AV.dat (D.int IntKind.u64 x3.2))]), (AV.dat (D.int IntKind.i64 (0 : Int)))]), []))
        )
        none
       )
      )
      none
     )
    )
   )
  )
  := by kernel_rfl
theorem f33_run {k : LK} {bs : List Bool} (hb : bs.length = 128) : R33 [.dat (.list k 1 (boolRow bs))] [] = some (oS2 [] (c2 (madeF bs 0 (0, 0)))) := by
  have key : ∀ o, (f33t k (boolRow bs)).ev = o → R33 [.dat (.list k 1 (boolRow bs))] [] = o := fun o h => by
    rw [Tr.ev_run] at h
    exact h
  refine key _ ?_
  rw [f33t_eq]
  have hl := loop33 (k := k) hb 128 0 (0, 0) (by omega) ⟨by decide, by decide⟩
  exact gStep (loS_eq out33_inj hl) rfl
theorem oTd_inj {G : List Ent} : ∀ x y, oTd G x = oTd G y → x = y := by intro x y h; simpa [oTd] using h
theorem oS2_inj {G : List Ent} : ∀ x y, oS2 G x = oS2 G y → x = y := by
  rintro ⟨a, b⟩ ⟨c, d⟩ h
  simp [oS2, st2] at h
  obtain ⟨rfl, rfl⟩ := h
  rfl
theorem oW_inj {G : List Ent} : ∀ x y, oW G x = oW G y → x = y := by
  rintro ⟨⟨a, b⟩, e⟩ ⟨⟨c, d⟩, f⟩ h
  simp [oW, st2, jn] at h
  obtain ⟨⟨rfl, rfl⟩, rfl⟩ := h
  rfl
attribute [local irreducible] R32 fnS loS P33
theorem r32 {s : Nat × Nat} (h : fitB s) : fnS (oTd []) (R32 [st2 s.1 s.2] []) = some (boolRow (toldB s 128)) := by
  refine fnS_eq (out := oTd []) oTd_inj ?_
  unfold R32
  rw [e32, toldI_nat h]
  rfl
theorem f22_run {s : Nat × Nat} (h : fitB s) {i : Nat} (hi : i < 128) : R22 [st2 s.1 s.2, jn i] [] = some (oW [] (c2 (setB s i), 0)) := by
  have key : ∀ o, (f22t s.1 s.2 i).ev = o → R22 [st2 s.1 s.2, jn i] [] = o := fun o h => by
    rw [Tr.ev_run] at h
    exact h
  refine key _ ?_
  rw [f22t_eq]
  have hl : (boolRow (toldB s 128)).length = 128 := by simp [boolRow, toldB]
  have hl2 : (toldB s 128).length = 128 := by simp [toldB]
  have hat : (boolRow (toldB s 128))[0 + Int.toNat ((i : Nat) : Int)]? = some [.bool (hasB s i)] := by
    rw [Int.toNat_natCast, Nat.zero_add, boolRow, List.getElem?_map, toldB, List.getElem?_map, List.getElem?_range hi]
    rfl
  have hset : List.take (List.length (boolRow (toldB s 128))) (List.drop 0 (List.set (boolRow (toldB s 128)) (0 + Int.toNat ((i : Nat) : Int)) ((D.bool true) :: (List.drop 1 [D.bool (hasB s i)])))) = boolRow ((toldB s 128).set i true) := by
    rw [List.drop_zero, List.take_of_length_le (by rw [List.length_set]; exact Nat.le_refl _), Int.toNat_natCast, Nat.zero_add]
    simp [boolRow, List.map_set]
  have e33 : fnS (oS2 []) (P33 [.dat (.list .any 1 (boolRow ((toldB s 128).set i true)))] []) = some (c2 (setB s i)) := by
    refine fnS_eq (out := oS2 []) oS2_inj ?_
    rw [← made_told h hi]
    unfold P33
    exact pureS_eq rfl (f33_run (by rw [List.length_set]; exact hl2)) rfl
  refine aF (by rw [decide_eq_false_iff_not]; omega) (aF (by rw [decide_eq_false_iff_not]; omega) (gStep (r32 h) (aT ?_ (gStep hat (aT rfl ?_)))))
  · rw [Bool.and_eq_true, decide_eq_true_eq, decide_eq_true_eq]
    omega
  · rw [hset]
    exact gStep e33 rfl
theorem p22 {s : Nat × Nat} (h : fitB s) {i : Nat} (hi : i < 128) (G : List Ent) : P22 [st2 s.1 s.2, jn i] G = some (oW G (c2 (setB s i), 0)) := pureS_eq rfl (f22_run h hi) rfl
end Go.Eng
end

/- Sets of runs: Set of both sides is the plain one. -/
section
namespace Go.Eng
open Go
set_option maxRecDepth 100000
set_option linter.unusedSimpArgs false

theorem f20t_eq (m n : Int) : (f20t m n).ev =
  (rAsk (decide (n < (1 : Int)))
   (some ((AV.dat (D.int IntKind.i64 (2 : Int))), []))
   (rAsk (decide (m < (0 : Int)))
    (some ((AV.dat (D.int IntKind.i64 (3 : Int))), []))
    (rAsk (decide (m ≥ (128 : Int)))
     (some ((AV.dat (D.int IntKind.i64 (3 : Int))), []))
     (rAsk (decide (n > (IntKind.wrap IntKind.i64 ((128 : Int) - m))))
      (some ((AV.dat (D.int IntKind.i64 (3 : Int))), []))
      (some ((AV.dat (D.int IntKind.i64 (0 : Int))), []))
     )
    )
   )
  )
  := by kernel_rfl
theorem rk8n_eq (k : LK) (l : Row) (i : Int) : (rk8n k l i).ev =
  (rAsk (decide (i < (((List.length l) : Nat) : Int)))
   (rAsk (true && ((decide ((0 : Int) ≤ i)) && (decide (i < (((List.length l) : Nat) : Int)))))
    (rGet l[(Int.toNat i)]? fun x1 =>
     (rGet (List.head? (List.drop 0 x1)) fun x2 =>
      (rAsk (true && ((decide ((0 : Int) ≤ i)) && (decide (i < (((List.length l) : Nat) : Int)))))
       (rGet l[(Int.toNat i)]? fun x3 =>
        (rGet (List.head? (List.drop 1 x3)) fun x4 =>
         (some (Ex.norm, (St.mk (mkT 0 26 [(0, (AV.dat (D.list k 2 l))), (3, (AV.sh false 0 2 0 1)), (4, (AV.dat (D.int IntKind.i64 (IntKind.wrap IntKind.i64 (i + (1 : Int))))))]) (Mem.mk [(Option.some (Ent.row Mode.excl 2 [[x2, x4]]))] [] 0))))
        )
       )
       none
      )
     )
    )
    none
   )
   (some ((Ex.exit 0), (St.mk (mkT 0 26 [(3, (AV.dat (D.list LK.nil 0 ([] : Row))))]) (Mem.mk [] [] 0))))
  )
  := by kernel_rfl
theorem rk8r_eq (k : LK) (l r : Row) (i : Int) : (rk8r k l r i).ev =
  (rAsk (decide (i < (((List.length l) : Nat) : Int)))
   (rAsk (true && ((decide ((0 : Int) ≤ i)) && (decide (i < (((List.length l) : Nat) : Int)))))
    (rGet l[(Int.toNat i)]? fun x1 =>
     (rGet (List.head? (List.drop 0 x1)) fun x2 =>
      (rAsk (true && ((decide ((0 : Int) ≤ i)) && (decide (i < (((List.length l) : Nat) : Int)))))
       (rGet l[(Int.toNat i)]? fun x3 =>
        (rGet (List.head? (List.drop 1 x3)) fun x4 =>
         (rAsk ((decide ((0 + (List.length r)) ≤ (List.length r))) && (fits (TI.mk (TK.struct [(0, 3), (1, 3)]) 2 16 [(AV.dat (D.int IntKind.i64 (0 : Int))), (AV.dat (D.int IntKind.i64 (0 : Int)))] true) ((List.length r) + 1)))
          (rAsk (true && (decide ((List.length r) = (List.length r))))
           (some (Ex.norm, (St.mk (mkT 0 26 [(0, (AV.dat (D.list k 2 l))), (3, (AV.sh false 0 2 0 ((List.length r) + 1))), (4, (AV.dat (D.int IntKind.i64 (IntKind.wrap IntKind.i64 (i + (1 : Int))))))]) (Mem.mk [(Option.some (Ent.row Mode.excl 2 (r ++ [[x2, x4]])))] [] 0))))
           none
          )
          none
         )
        )
       )
       none
      )
     )
    )
    none
   )
   (some ((Ex.exit 0), (St.mk (mkT 0 26 [(3, (AV.sh false 0 2 0 (List.length r)))]) (Mem.mk [(Option.some (Ent.row Mode.excl 2 r))] [] 0))))
  )
  := by kernel_rfl
theorem f8t_eq (k : LK) (l : Row) : (f8t k l).ev =
  (rAsk (Option.isSome (loS TT (TOrc.runs tNone) (HSb 8) lp8 out8n (St.mk (mkT 0 26 [(0, (AV.dat (D.list k 2 l))), (3, (AV.dat (D.list LK.nil 0 ([] : Row)))), (4, (AV.dat (D.int IntKind.i64 (0 : Int))))]) (Mem.mk [] [] 0))))
   (rGet (loS TT (TOrc.runs tNone) (HSb 8) lp8 out8n (St.mk (mkT 0 26 [(0, (AV.dat (D.list k 2 l))), (3, (AV.dat (D.list LK.nil 0 ([] : Row)))), (4, (AV.dat (D.int IntKind.i64 (0 : Int))))]) (Mem.mk [] [] 0))) fun _ =>
    (some ((AV.dat (D.list LK.nil 0 ([] : Row))), []))
   )
   (rGet (loS TT (TOrc.runs tNone) (HSb 8) lp8 out8r (St.mk (mkT 0 26 [(0, (AV.dat (D.list k 2 l))), (3, (AV.dat (D.list LK.nil 0 ([] : Row)))), (4, (AV.dat (D.int IntKind.i64 (0 : Int))))]) (Mem.mk [] [] 0))) fun x2 =>
    (rAsk (wholeB false 0 (List.length x2) (List.length x2))
     (some ((AV.own true 2 x2), []))
     (some ((AV.dat (D.list LK.any 2 (List.take (List.length x2) (List.drop 0 x2)))), []))
    )
   )
  )
  := by kernel_rfl
theorem rk7b_eq (k : LK) (l : Row) (n i a b m c z j : Int) : (rk7b k l n i a b m c z j).ev =
  (rAsk (decide (j < z))
   (rGet (fnS (fun (p : (Int × Int) × Int) => ((AV.tup [(AV.agg [(AV.dat (D.int IntKind.u64 p.1.1)), (AV.dat (D.int IntKind.u64 p.1.2))]), (AV.dat (D.int IntKind.i64 p.2))]), [])) (P21 [(AV.agg [(AV.dat (D.int IntKind.u64 a)), (AV.dat (D.int IntKind.u64 b))]), (AV.dat (D.int IntKind.i64 (IntKind.wrap IntKind.i64 (m + j))))] [])) fun x1 =>
    (rAsk (x1.2 != (0 : Int))
     (some (Ex.ret, (St.mk (mkT 0 45 [(2, (AV.ptr (Ref.loc 0) 0)), (3, (AV.dat (D.int IntKind.i64 x1.2))), (4, (AV.ptr (Ref.loc 1) 0)), (11, (AV.dat (D.list k 2 l))), (12, (AV.dat (D.int IntKind.i64 n))), (13, (AV.dat (D.int IntKind.i64 i)))]) (Mem.mk [(Option.some (Ent.obj [(AV.dat (D.int IntKind.u64 (0 : Int))), (AV.dat (D.int IntKind.u64 (0 : Int)))])), (Option.some (Ent.obj [(AV.dat (D.int IntKind.u64 a)), (AV.dat (D.int IntKind.u64 b))]))] [] 0))))
     (some (Ex.norm, (St.mk (mkT 0 45 [(2, (AV.ptr (Ref.loc 0) 0)), (4, (AV.ptr (Ref.loc 1) 0)), (6, (AV.ptr (Ref.loc 2) 0)), (11, (AV.dat (D.list k 2 l))), (12, (AV.dat (D.int IntKind.i64 n))), (13, (AV.dat (D.int IntKind.i64 i))), (24, (AV.dat (D.int IntKind.i64 z))), (25, (AV.dat (D.int IntKind.i64 (IntKind.wrap IntKind.i64 (j + (1 : Int))))))]) (Mem.mk [(Option.some (Ent.obj [(AV.dat (D.int IntKind.u64 (0 : Int))), (AV.dat (D.int IntKind.u64 (0 : Int)))])), (Option.some (Ent.obj [(AV.dat (D.int IntKind.u64 x1.1.1)), (AV.dat (D.int IntKind.u64 x1.1.2))])), (Option.some (Ent.obj [(AV.dat (D.int IntKind.i64 m)), (AV.dat (D.int IntKind.i64 c))]))] [] 0))))
    )
   )
   (some ((Ex.exit 2), (St.mk (mkT 0 45 [(2, (AV.ptr (Ref.loc 0) 0)), (4, (AV.ptr (Ref.loc 1) 0)), (11, (AV.dat (D.list k 2 l))), (12, (AV.dat (D.int IntKind.i64 n))), (13, (AV.dat (D.int IntKind.i64 i)))]) (Mem.mk [(Option.some (Ent.obj [(AV.dat (D.int IntKind.u64 (0 : Int))), (AV.dat (D.int IntKind.u64 (0 : Int)))])), (Option.some (Ent.obj [(AV.dat (D.int IntKind.u64 a)), (AV.dat (D.int IntKind.u64 b))]))] [] 0))))
  )
  := by kernel_rfl
theorem rk7_eq (k : LK) (l : Row) (n i a b : Int) : (rk7 k l n i a b).ev =
  (rAsk (decide (i < n))
   (rAsk (true && ((decide ((0 : Int) ≤ i)) && (decide (i < (((List.length l) : Nat) : Int)))))
    (rGet l[(Int.toNat i)]? fun x1 =>
     (rGet (List.head? (List.drop 0 x1)) fun x2 =>
      (rGet (List.head? (List.tail (List.drop 0 x1))) fun x3 =>
       (rGet (fnS (fun (n : Int) => ((AV.dat (D.int IntKind.i64 n)), [])) (P20 [(AV.agg [(AV.dat x2), (AV.dat x3)])] [])) fun x4 =>
        (rAsk (x4 != (0 : Int))
         (some (Ex.ret, (St.mk (mkT 0 45 [(2, (AV.ptr (Ref.loc 0) 0)), (3, (AV.dat (D.int IntKind.i64 x4))), (4, (AV.ptr (Ref.loc 1) 0))]) (Mem.mk [(Option.some (Ent.obj [(AV.dat (D.int IntKind.u64 (0 : Int))), (AV.dat (D.int IntKind.u64 (0 : Int)))])), (Option.some (Ent.obj [(AV.dat (D.int IntKind.u64 a)), (AV.dat (D.int IntKind.u64 b))]))] [] 0))))
         (rGet (loS TT (TOrc.runs t7) (HSb 7) lp7b (out7b (AV.dat (D.list k 2 l)) (AV.dat (D.int IntKind.i64 n)) (AV.dat (D.int IntKind.i64 i))) (St.mk (mkT 0 45 [(2, (AV.ptr (Ref.loc 0) 0)), (4, (AV.ptr (Ref.loc 1) 0)), (6, (AV.ptr (Ref.loc 2) 0)), (11, (AV.dat (D.list k 2 l))), (12, (AV.dat (D.int IntKind.i64 n))), (13, (AV.dat (D.int IntKind.i64 i))), (24, (AV.dat x3)), (25, (AV.dat (D.int IntKind.i64 (0 : Int))))]) (Mem.mk [(Option.some (Ent.obj [(AV.dat (D.int IntKind.u64 (0 : Int))), (AV.dat (D.int IntKind.u64 (0 : Int)))])), (Option.some (Ent.obj [(AV.dat (D.int IntKind.u64 a)), (AV.dat (D.int IntKind.u64 b))])), (Option.some (Ent.obj [(AV.dat x2), (AV.dat x3)]))] [] 0))) fun x5 =>
          (some (Ex.norm, (St.mk (mkT 0 45 [(2, (AV.ptr (Ref.loc 0) 0)), (4, (AV.ptr (Ref.loc 1) 0)), (11, (AV.dat (D.list k 2 l))), (12, (AV.dat (D.int IntKind.i64 n))), (13, (AV.dat (D.int IntKind.i64 (IntKind.wrap IntKind.i64 (i + (1 : Int))))))]) (Mem.mk [(Option.some (Ent.obj [(AV.dat (D.int IntKind.u64 (0 : Int))), (AV.dat (D.int IntKind.u64 (0 : Int)))])), (Option.some (Ent.obj [(AV.dat (D.int IntKind.u64 x5.1)), (AV.dat (D.int IntKind.u64 x5.2))]))] [] 0))))
         )
        )
       )
      )
     )
    )
    none
   )
   (some ((Ex.exit 0), (St.mk (mkT 0 45 [(2, (AV.ptr (Ref.loc 0) 0)), (4, (AV.ptr (Ref.loc 1) 0))]) (Mem.mk [(Option.some (Ent.obj [(AV.dat (D.int IntKind.u64 (0 : Int))), (AV.dat (D.int IntKind.u64 (0 : Int)))])), (Option.some (Ent.obj [(AV.dat (D.int IntKind.u64 a)), (AV.dat (D.int IntKind.u64 b))]))] [] 0))))
  )
  := by kernel_rfl
theorem f7t_eq (k : LK) (l : Row) : (f7t k l).ev =
  (rAsk (Option.isSome (loS TT (TOrc.runs t7) (HSb 7) lp7 out7a (St.mk (mkT 0 45 [(2, (AV.ptr (Ref.loc 0) 0)), (4, (AV.ptr (Ref.loc 1) 0)), (11, (AV.dat (D.list k 2 l))), (12, (AV.dat (D.int IntKind.i64 (((List.length l) : Nat) : Int)))), (13, (AV.dat (D.int IntKind.i64 (0 : Int))))]) (Mem.mk [(Option.some (Ent.obj [(AV.dat (D.int IntKind.u64 (0 : Int))), (AV.dat (D.int IntKind.u64 (0 : Int)))])), (Option.some (Ent.obj [(AV.dat (D.int IntKind.u64 (0 : Int))), (AV.dat (D.int IntKind.u64 (0 : Int)))]))] [] 0))))
   (rGet (loS TT (TOrc.runs t7) (HSb 7) lp7 out7a (St.mk (mkT 0 45 [(2, (AV.ptr (Ref.loc 0) 0)), (4, (AV.ptr (Ref.loc 1) 0)), (11, (AV.dat (D.list k 2 l))), (12, (AV.dat (D.int IntKind.i64 (((List.length l) : Nat) : Int)))), (13, (AV.dat (D.int IntKind.i64 (0 : Int))))]) (Mem.mk [(Option.some (Ent.obj [(AV.dat (D.int IntKind.u64 (0 : Int))), (AV.dat (D.int IntKind.u64 (0 : Int)))])), (Option.some (Ent.obj [(AV.dat (D.int IntKind.u64 (0 : Int))), (AV.dat (D.int IntKind.u64 (0 : Int)))]))] [] 0))) fun x1 =>
    (some ((AV.tup [(AV.agg [(AV.dat (D.int IntKind.u64 x1.1)), (AV.dat (D.int IntKind.u64 x1.2))]), (AV.dat (D.int IntKind.i64 (0 : Int)))]), []))
   )
   (rGet (loS TT (TOrc.runs t7) (HSb 7) lp7 out7r (St.mk (mkT 0 45 [(2, (AV.ptr (Ref.loc 0) 0)), (4, (AV.ptr (Ref.loc 1) 0)), (11, (AV.dat (D.list k 2 l))), (12, (AV.dat (D.int IntKind.i64 (((List.length l) : Nat) : Int)))), (13, (AV.dat (D.int IntKind.i64 (0 : Int))))]) (Mem.mk [(Option.some (Ent.obj [(AV.dat (D.int IntKind.u64 (0 : Int))), (AV.dat (D.int IntKind.u64 (0 : Int)))])), (Option.some (Ent.obj [(AV.dat (D.int IntKind.u64 (0 : Int))), (AV.dat (D.int IntKind.u64 (0 : Int)))]))] [] 0))) fun x2 =>
    (some ((AV.tup [(AV.agg [(AV.dat (D.int IntKind.u64 (0 : Int))), (AV.dat (D.int IntKind.u64 (0 : Int)))]), (AV.dat (D.int IntKind.i64 x2.2))]), []))
   )
  )
  := by kernel_rfl
theorem rk9b_eq (k : LK) (l : Row) (i a b j : Int) : (rk9b k l i a b j).ev =
  (rAsk (true && ((decide ((0 : Int) ≤ i)) && (decide (i < (((List.length l) : Nat) : Int)))))
   (rGet l[(Int.toNat i)]? fun x1 =>
    (rGet (List.head? (List.drop 1 x1)) fun x2 =>
     (rGet (D.int? IntKind.i64 x2) fun x3 =>
      (rAsk (decide (j < x3))
       (rAsk (true && ((decide ((0 : Int) ≤ i)) && (decide (i < (((List.length l) : Nat) : Int)))))
        (rGet l[(Int.toNat i)]? fun x4 =>
         (rGet (List.head? (List.drop 0 x4)) fun x5 =>
          (rGet (D.int? IntKind.i64 x5) fun x6 =>
           (rGet (fnS (fun (p : (Int × Int) × Int) => ((AV.tup [(AV.agg [(AV.dat (D.int IntKind.u64 p.1.1)), (AV.dat (D.int IntKind.u64 p.1.2))]), (AV.dat (D.int IntKind.i64 p.2))]), [])) (P22 [(AV.agg [(AV.dat (D.int IntKind.u64 a)), (AV.dat (D.int IntKind.u64 b))]), (AV.dat (D.int IntKind.i64 (IntKind.wrap IntKind.i64 (x6 + j))))] [])) fun x7 =>
            (some (Ex.norm, (St.mk (mkT 0 72 [(0, (AV.dat (D.list k 2 l))), (2, (AV.ptr (Ref.loc 0) 0)), (4, (AV.ptr (Ref.loc 1) 0)), (5, (AV.dat (D.int IntKind.i64 i))), (6, (AV.dat (D.int IntKind.i64 (IntKind.wrap IntKind.i64 (j + (1 : Int))))))]) (Mem.mk [(Option.some (Ent.obj [(AV.dat (D.int IntKind.u64 (0 : Int))), (AV.dat (D.int IntKind.u64 (0 : Int)))])), (Option.some (Ent.obj [(AV.dat (D.int IntKind.u64 x7.1.1)), (AV.dat (D.int IntKind.u64 x7.1.2))]))] [] 0))))
           )
          )
         )
        )
        none
       )
       (some ((Ex.exit 2), (St.mk (mkT 0 72 [(0, (AV.dat (D.list k 2 l))), (2, (AV.ptr (Ref.loc 0) 0)), (4, (AV.ptr (Ref.loc 1) 0)), (5, (AV.dat (D.int IntKind.i64 i)))]) (Mem.mk [(Option.some (Ent.obj [(AV.dat (D.int IntKind.u64 (0 : Int))), (AV.dat (D.int IntKind.u64 (0 : Int)))])), (Option.some (Ent.obj [(AV.dat (D.int IntKind.u64 a)), (AV.dat (D.int IntKind.u64 b))]))] [] 0))))
      )
     )
    )
   )
   none
  )
  := by kernel_rfl
theorem rk9_eq (k : LK) (l : Row) (i a b : Int) : (rk9 k l i a b).ev =
  (rAsk (decide (i < (((List.length l) : Nat) : Int)))
   (rAsk (true && ((decide ((0 : Int) ≤ i)) && (decide (i < (((List.length l) : Nat) : Int)))))
    (rGet l[(Int.toNat i)]? fun x1 =>
     (rGet (List.head? (List.drop 1 x1)) fun x2 =>
      (rGet (D.int? IntKind.i64 x2) fun x3 =>
       (rAsk (decide (x3 < (1 : Int)))
        (some (Ex.ret, (St.mk (mkT 0 72 [(2, (AV.ptr (Ref.loc 0) 0)), (3, (AV.dat (D.int IntKind.i64 (2 : Int)))), (4, (AV.ptr (Ref.loc 1) 0))]) (Mem.mk [(Option.some (Ent.obj [(AV.dat (D.int IntKind.u64 (0 : Int))), (AV.dat (D.int IntKind.u64 (0 : Int)))])), (Option.some (Ent.obj [(AV.dat (D.int IntKind.u64 a)), (AV.dat (D.int IntKind.u64 b))]))] [] 0))))
        (rAsk (true && ((decide ((0 : Int) ≤ i)) && (decide (i < (((List.length l) : Nat) : Int)))))
         (rGet l[(Int.toNat i)]? fun x4 =>
          (rGet (List.head? (List.drop 0 x4)) fun x5 =>
           (rGet (D.int? IntKind.i64 x5) fun x6 =>
            (rAsk (decide (x6 < (0 : Int)))
             (some (Ex.ret, (St.mk (mkT 0 72 [(2, (AV.ptr (Ref.loc 0) 0)), (3, (AV.dat (D.int IntKind.i64 (3 : Int)))), (4, (AV.ptr (Ref.loc 1) 0))]) (Mem.mk [(Option.some (Ent.obj [(AV.dat (D.int IntKind.u64 (0 : Int))), (AV.dat (D.int IntKind.u64 (0 : Int)))])), (Option.some (Ent.obj [(AV.dat (D.int IntKind.u64 a)), (AV.dat (D.int IntKind.u64 b))]))] [] 0))))
             (rAsk (true && ((decide ((0 : Int) ≤ i)) && (decide (i < (((List.length l) : Nat) : Int)))))
              (rGet l[(Int.toNat i)]? fun x7 =>
               (rGet (List.head? (List.drop 0 x7)) fun x8 =>
                (rGet (D.int? IntKind.i64 x8) fun x9 =>
                 (rAsk (decide (x9 > (127 : Int)))
                  (some (Ex.ret, (St.mk (mkT 0 72 [(2, (AV.ptr (Ref.loc 0) 0)), (3, (AV.dat (D.int IntKind.i64 (3 : Int)))), (4, (AV.ptr (Ref.loc 1) 0))]) (Mem.mk [(Option.some (Ent.obj [(AV.dat (D.int IntKind.u64 (0 : Int))), (AV.dat (D.int IntKind.u64 (0 : Int)))])), (Option.some (Ent.obj [(AV.dat (D.int IntKind.u64 a)), (AV.dat (D.int IntKind.u64 b))]))] [] 0))))
                  (rAsk (true && ((decide ((0 : Int) ≤ i)) && (decide (i < (((List.length l) : Nat) : Int)))))
                   (rGet l[(Int.toNat i)]? fun x10 =>
                    (rGet (List.head? (List.drop 1 x10)) fun x11 =>
                     (rAsk (true && ((decide ((0 : Int) ≤ i)) && (decide (i < (((List.length l) : Nat) : Int)))))
                      (rGet l[(Int.toNat i)]? fun x12 =>
                       (rGet (List.head? (List.drop 0 x12)) fun x13 =>
                        (rGet (D.int? IntKind.i64 x13) fun x14 =>
                         (rGet (D.int? IntKind.i64 x11) fun x15 =>
                          (rAsk (decide (x15 > (IntKind.wrap IntKind.i64 ((128 : Int) - x14))))
                           (some (Ex.ret, (St.mk (mkT 0 72 [(2, (AV.ptr (Ref.loc 0) 0)), (3, (AV.dat (D.int IntKind.i64 (3 : Int)))), (4, (AV.ptr (Ref.loc 1) 0))]) (Mem.mk [(Option.some (Ent.obj [(AV.dat (D.int IntKind.u64 (0 : Int))), (AV.dat (D.int IntKind.u64 (0 : Int)))])), (Option.some (Ent.obj [(AV.dat (D.int IntKind.u64 a)), (AV.dat (D.int IntKind.u64 b))]))] [] 0))))
                           (rGet (loS TT (TOrc.runs t9) (HSb 9) lp9b (out9b (AV.dat (D.list k 2 l)) (AV.dat (D.int IntKind.i64 i))) (St.mk (mkT 0 72 [(0, (AV.dat (D.list k 2 l))), (2, (AV.ptr (Ref.loc 0) 0)), (4, (AV.ptr (Ref.loc 1) 0)), (5, (AV.dat (D.int IntKind.i64 i))), (6, (AV.dat (D.int IntKind.i64 (0 : Int))))]) (Mem.mk [(Option.some (Ent.obj [(AV.dat (D.int IntKind.u64 (0 : Int))), (AV.dat (D.int IntKind.u64 (0 : Int)))])), (Option.some (Ent.obj [(AV.dat (D.int IntKind.u64 a)), (AV.dat (D.int IntKind.u64 b))]))] [] 0))) fun x16 =>
                            (some (Ex.norm, (St.mk (mkT 0 72 [(0, (AV.dat (D.list k 2 l))), (2, (AV.ptr (Ref.loc 0) 0)), (4, (AV.ptr (Ref.loc 1) 0)), (5, (AV.dat (D.int IntKind.i64 (IntKind.wrap IntKind.i64 (i + (1 : Int))))))]) (Mem.mk [(Option.some (Ent.obj [(AV.dat (D.int IntKind.u64 (0 : Int))), (AV.dat (D.int IntKind.u64 (0 : Int)))])), (Option.some (Ent.obj [(AV.dat (D.int IntKind.u64 x16.1)), (AV.dat (D.int IntKind.u64 x16.2))]))] [] 0))))
                           )
                          )
                         )
                        )
                       )
                      )
                      none
                     )
                    )
                   )
                   none
                  )
                 )
                )
               )
              )
              none
             )
            )
           )
          )
         )
         none
        )
       )
      )
     )
    )
    none
   )
   (some ((Ex.exit 0), (St.mk (mkT 0 72 [(2, (AV.ptr (Ref.loc 0) 0)), (4, (AV.ptr (Ref.loc 1) 0))]) (Mem.mk [(Option.some (Ent.obj [(AV.dat (D.int IntKind.u64 (0 : Int))), (AV.dat (D.int IntKind.u64 (0 : Int)))])), (Option.some (Ent.obj [(AV.dat (D.int IntKind.u64 a)), (AV.dat (D.int IntKind.u64 b))]))] [] 0))))
  )
  := by kernel_rfl
theorem f9t_eq (k : LK) (l : Row) : (f9t k l).ev =
  (rAsk (Option.isSome (loS TT (TOrc.runs t9) (HSb 9) lp9 out9a (St.mk (mkT 0 72 [(0, (AV.dat (D.list k 2 l))), (2, (AV.ptr (Ref.loc 0) 0)), (4, (AV.ptr (Ref.loc 1) 0)), (5, (AV.dat (D.int IntKind.i64 (0 : Int))))]) (Mem.mk [(Option.some (Ent.obj [(AV.dat (D.int IntKind.u64 (0 : Int))), (AV.dat (D.int IntKind.u64 (0 : Int)))])), (Option.some (Ent.obj [(AV.dat (D.int IntKind.u64 (0 : Int))), (AV.dat (D.int IntKind.u64 (0 : Int)))]))] [] 0))))
   (rGet (loS TT (TOrc.runs t9) (HSb 9) lp9 out9a (St.mk (mkT 0 72 [(0, (AV.dat (D.list k 2 l))), (2, (AV.ptr (Ref.loc 0) 0)), (4, (AV.ptr (Ref.loc 1) 0)), (5, (AV.dat (D.int IntKind.i64 (0 : Int))))]) (Mem.mk [(Option.some (Ent.obj [(AV.dat (D.int IntKind.u64 (0 : Int))), (AV.dat (D.int IntKind.u64 (0 : Int)))])), (Option.some (Ent.obj [(AV.dat (D.int IntKind.u64 (0 : Int))), (AV.dat (D.int IntKind.u64 (0 : Int)))]))] [] 0))) fun x1 =>
    (some ((AV.tup [(AV.agg [(AV.dat (D.int IntKind.u64 x1.1)), (AV.dat (D.int IntKind.u64 x1.2))]), (AV.dat (D.int IntKind.i64 (0 : Int)))]), []))
   )
   (rGet (loS TT (TOrc.runs t9) (HSb 9) lp9 out9r (St.mk (mkT 0 72 [(0, (AV.dat (D.list k 2 l))), (2, (AV.ptr (Ref.loc 0) 0)), (4, (AV.ptr (Ref.loc 1) 0)), (5, (AV.dat (D.int IntKind.i64 (0 : Int))))]) (Mem.mk [(Option.some (Ent.obj [(AV.dat (D.int IntKind.u64 (0 : Int))), (AV.dat (D.int IntKind.u64 (0 : Int)))])), (Option.some (Ent.obj [(AV.dat (D.int IntKind.u64 (0 : Int))), (AV.dat (D.int IntKind.u64 (0 : Int)))]))] [] 0))) fun x2 =>
    (some ((AV.tup [(AV.agg [(AV.dat (D.int IntKind.u64 (0 : Int))), (AV.dat (D.int IntKind.u64 (0 : Int)))]), (AV.dat (D.int IntKind.i64 x2.2))]), []))
   )
  )
  := by kernel_rfl
end Go.Eng
end

/- Sets of runs: RunsSet as a tree. -/
section
namespace Go.Eng
open Go
set_option maxRecDepth 100000
def oT (G : List Ent) (_ : Unit) : AV × List Ent := (.dat (.bool true), G)
def oNl (G : List Ent) (_ : Unit) : AV × List Ent := (.dat (.list .nil 0 []), G)
def oOw (G : List Ent) (zr : Row) : AV × List Ent := (.own true 2 zr, G)
noncomputable def P6 := pureS (E 6)
noncomputable def P7 := pureS R7
noncomputable def P9 := pureS R9
noncomputable def f7z : Tr (AV × List Ent) := tfn TT t7 lo7 Go.Proofs.Tryd.f7 [.dat (.list .nil 0 [])] []
noncomputable def rk7z : Tr (Ex × St) := tround TT t7 lo7b (HSb 7) lp7 ⟨mkT 0 45 [(2, .ptr (.loc 0) 0), (4, .ptr (.loc 1) 0), (11, .dat (.list .nil 0 [])), (12, jn 0), (13, jn 0)], ⟨[ob2 0 0, ob2 0 0], [], 0⟩⟩
noncomputable def t3 : TOrc := tCons 6 (fun a G => tspec (oT G) (P6 a G)) (tCons 7 (fun a G => tspec (oW G) (P7 a G)) (tCons 8 (fun a G => tspec2 (oNl G) (oOw G) (R8 a G)) (tCons 9 (fun a G => tspec (oW G) (P9 a G)) tNone)))
noncomputable def f3t (k : LK) (l : Row) : Tr (AV × List Ent) := tfn TT t3 noLo Go.Proofs.Tryd.f3 [.dat (.list k 2 l)] []
noncomputable def R3 (a : List AV) (G : List Ent) : Option (AV × List Ent) := (tfn TT t3 noLo Go.Proofs.Tryd.f3 a G).run
end Go.Eng
end

/- Sets of runs: Set of both sides; RunsSet's law answers true. -/
section
namespace Go.Eng
open Go
set_option maxRecDepth 100000
set_option linter.unusedSimpArgs false

/-! ### plain -/
/-- so many numbers more -/
def fillF (m : Nat) : Nat → Nat → Nat × Nat → Nat × Nat
  | _, 0, s => s
  | j, d + 1, s => fillF m (j + 1) d (setB s (m + j))
/-- what is wrong with a run -/
def rightI (m c : Int) : Int := if c < 1 then 2 else if m < 0 then 3 else if 127 < m then 3 else if 128 - m < c then 3 else 0
def setF : List (Int × Int) → Nat × Nat → (Nat × Nat) × Int
  | [], s => (s, 0)
  | (m, c) :: ps, s => if rightI m c = 0 then setF ps (fillF m.toNat 0 c.toNat s) else ((0, 0), rightI m c)
def rowR (ps : List (Int × Int)) : Row := ps.map fun p => [.int .i64 p.1, .int .i64 p.2]
theorem fillF_fit {m : Nat} : ∀ (d j : Nat) (s : Nat × Nat), m + j + d ≤ 128 → fitB s → fitB (fillF m j d s)
  | 0, _, _, _, h => h
  | d + 1, j, s, hl, h => fillF_fit d (j + 1) _ (by omega) (setB_fit h (by omega))
theorem rightI_ok {m c : Int} (h : rightI m c = 0) : 1 ≤ c ∧ 0 ≤ m ∧ m ≤ 127 ∧ c ≤ 128 - m := by
  unfold rightI at h
  split at h
  · omega
  split at h
  · omega
  split at h
  · omega
  split at h
  · omega
  omega
theorem w64 {n : Nat} (h : n < 9223372036854775808) {x : Int} (e : x = n) : IntKind.wrap .i64 x = (n : Int) := by
  subst e
  rw [IntKind.wrap_i64]
  omega
theorem w128 {m : Int} (h0 : 0 ≤ m) (h1 : m ≤ 127) : IntKind.wrap .i64 ((128 : Int) - m) = 128 - m := by
  rw [w64 (n := (128 - m).toNat) (by omega) (by omega)]
  omega

/-! ### right -/
theorem oErr_inj {G : List Ent} : ∀ x y, oErr G x = oErr G y → x = y := by intro x y h; simpa [oErr, jn] using h
theorem f20_run (m c : Int) : R20 [.agg [jn m, jn c]] [] = some (oErr [] (rightI m c)) := by
  have key : ∀ o, (f20t m c).ev = o → R20 [.agg [jn m, jn c]] [] = o := fun o h => by
    rw [Tr.ev_run] at h
    exact h
  refine key _ ?_
  rw [f20t_eq]
  unfold rightI
  by_cases h1 : c < 1
  · rw [if_pos h1]; exact aT (decide_eq_true h1) rfl
  rw [if_neg h1]
  refine aF (decide_eq_false h1) ?_
  by_cases h2 : m < 0
  · rw [if_pos h2]; exact aT (decide_eq_true h2) rfl
  rw [if_neg h2]
  refine aF (decide_eq_false h2) ?_
  by_cases h3 : 127 < m
  · rw [if_pos h3]; exact aT (by rw [decide_eq_true_eq]; omega) rfl
  rw [if_neg h3]
  refine aF (by rw [decide_eq_false_iff_not]; omega) ?_
  rw [w128 (by omega) (by omega)]
  by_cases h4 : 128 - m < c
  · rw [if_pos h4]; exact aT (by rw [decide_eq_true_eq]; omega) rfl
  · rw [if_neg h4]; exact aF (by rw [decide_eq_false_iff_not]; omega) rfl
theorem p20 (m c : Int) (G : List Ent) : P20 [.agg [jn m, jn c]] G = some (oErr G (rightI m c)) := pureS_eq rfl (f20_run m c) rfl

theorem rowR_len (ps : List (Int × Int)) : (rowR ps).length = ps.length := by simp [rowR]
theorem rowR_at (pre : List (Int × Int)) (m c : Int) (ps : List (Int × Int)) : (rowR (pre ++ (m, c) :: ps))[Int.toNat ((pre.length : Nat) : Int)]? = some [.int .i64 m, .int .i64 c] := by
  rw [Int.toNat_natCast, rowR, List.getElem?_map]
  simp

/-! ### given -/
theorem out8n_inj : ∀ x y, out8n x = out8n y → x = y := fun _ _ _ => rfl
theorem out8r_inj : ∀ x y, out8r x = out8r y → x = y := by
  intro x y h
  simp [out8r] at h
  exact h.2
theorem out8_no {y : Row} : ∀ x, out8n x ≠ out8r y := fun x h => by simp [out8n, out8r, mkT] at h
theorem oNl_inj {G : List Ent} : ∀ x y, oNl G x = oNl G y → x = y := fun _ _ _ => rfl
theorem oOw_inj {G : List Ent} : ∀ x y, oOw G x = oOw G y → x = y := by intro x y h; simpa [oOw] using h
theorem oNl_no {G : List Ent} {y : Row} : ∀ x, oNl G x ≠ oOw G y := fun x h => by simp [oNl, oOw] at h
attribute [local irreducible] fnS loS tround P20 P21 P22
theorem go8n {k : LK} {l : Row} {i : Int} {o} (h : (rk8n k l i).ev = o) : (tround TT tNone noLo (HSb 8) lp8 (inv8n k l i)).run = o := by
  rw [Tr.ev_run] at h
  exact h
theorem go8r {k : LK} {l r : Row} {i : Int} {o} (h : (rk8r k l r i).ev = o) : (tround TT tNone noLo (HSb 8) lp8 (inv8r k l r i)).run = o := by
  rw [Tr.ev_run] at h
  exact h
theorem loop8r {k : LK} : ∀ (ps pre : List (Int × Int)), (pre ++ ps).length ≤ 1000 →
    LoopTo TT tNone.runs (HSb 8) lp8 (inv8r k (rowR (pre ++ ps)) (rowR pre) pre.length) (out8r (rowR (pre ++ ps)))
  | [], pre, _ => by
    rw [List.append_nil]
    refine LoopTo.last (orc := tNone) (lo := noLo) (fun _ _ _ _ h => h) (LoOk2.no _) (go8r ?_) (by simp [out8r])
    rw [rk8r_eq]
    exact aF (by rw [decide_eq_false_iff_not, rowR_len]; omega) rfl
  | (m, c) :: ps, pre, h => by
    have hlen : (rowR (pre ++ (m, c) :: ps)).length = pre.length + ps.length + 1 := by
      rw [rowR_len, List.length_append, List.length_cons]; omega
    rw [List.length_append, List.length_cons] at h
    have hb : (true && ((decide ((0 : Int) ≤ ((pre.length : Nat) : Int))) && (decide (((pre.length : Nat) : Int) < (((rowR (pre ++ (m, c) :: ps)).length : Nat) : Int))))) = true := by
      rw [Bool.true_and, Bool.and_eq_true, decide_eq_true_eq, decide_eq_true_eq]
      omega
    have step : (tround TT tNone noLo (HSb 8) lp8 (inv8r k (rowR (pre ++ (m, c) :: ps)) (rowR pre) pre.length)).run = some (.norm, inv8r k (rowR (pre ++ (m, c) :: ps)) (rowR (pre ++ [(m, c)])) ((pre.length + 1 : Nat) : Int)) := by
      refine go8r ?_
      rw [rk8r_eq, w64 (n := pre.length + 1) (by omega) (x := ((pre.length : Nat) : Int) + 1) (by omega)]
      refine aT (by rw [decide_eq_true_eq]; omega) (aT hb (gStep (rowR_at pre m c ps) (gStep rfl (aT hb (gStep (rowR_at pre m c ps) (gStep rfl (aT ?_ (aT (by simp) ?_))))))))
      · rw [Bool.and_eq_true, decide_eq_true_eq, fits_iff, rowR_len]
        omega
      · have e : rowR (pre ++ [(m, c)]) = rowR pre ++ [[.int .i64 m, .int .i64 c]] := by simp [rowR]
        rw [inv8r, e, List.length_append]
        rfl
    have ih := loop8r (k := k) ps (pre ++ [(m, c)]) (by simp only [List.length_append, List.length_cons, List.length_nil]; omega)
    rw [show pre ++ [(m, c)] ++ ps = pre ++ (m, c) :: ps by simp, show List.length (pre ++ [(m, c)]) = pre.length + 1 by simp] at ih
    exact LoopTo.more (orc := tNone) (lo := noLo) (fun _ _ _ _ h => h) (LoOk2.no _) step ih
theorem key8 {k : LK} {l : Row} {o} (h : (f8t k l).ev = o) : R8 [.dat (.list k 2 l)] [] = o := by
  rw [Tr.ev_run] at h
  exact h
theorem f8_nil {k : LK} : R8 [.dat (.list k 2 (rowR []))] [] = some (oNl [] ()) := by
  refine key8 ?_
  rw [f8t_eq]
  have hl : LoopTo TT tNone.runs (HSb 8) lp8 (inv8n k (rowR []) 0) (out8n ()) := by
    refine LoopTo.last (orc := tNone) (lo := noLo) (fun _ _ _ _ h => h) (LoOk2.no _) (go8n ?_) (by simp [out8n])
    rw [rk8n_eq]
    exact aF rfl rfl
  exact aT (loS_yes (o1 := out8n) out8n_inj hl) (gStep (loS_eq (out := out8n) out8n_inj hl) rfl)
theorem f8_run {k : LK} {p : Int × Int} {ps : List (Int × Int)} (h : ps.length + 1 ≤ 1000) : R8 [.dat (.list k 2 (rowR (p :: ps)))] [] = some (oOw [] (rowR (p :: ps))) := by
  obtain ⟨m, c⟩ := p
  refine key8 ?_
  rw [f8t_eq]
  have hl : LoopTo TT tNone.runs (HSb 8) lp8 (inv8n k (rowR ((m, c) :: ps)) 0) (out8r (rowR ((m, c) :: ps))) := by
    have hb : (true && ((decide ((0 : Int) ≤ 0)) && (decide ((0 : Int) < (((rowR ((m, c) :: ps)).length : Nat) : Int))))) = true := by
      rw [Bool.true_and, Bool.and_eq_true, decide_eq_true_eq, decide_eq_true_eq, rowR_len, List.length_cons]
      omega
    have step : (tround TT tNone noLo (HSb 8) lp8 (inv8n k (rowR ((m, c) :: ps)) 0)).run = some (.norm, inv8r k (rowR ((m, c) :: ps)) (rowR [(m, c)]) 1) := by
      refine go8n ?_
      rw [rk8n_eq]
      have hat := rowR_at [] m c ps
      simp only [List.nil_append, List.length_nil] at hat
      refine aT (by rw [decide_eq_true_eq, rowR_len, List.length_cons]; omega) (aT hb (gStep hat (gStep rfl (aT hb (gStep hat (gStep rfl rfl))))))
    have ih := loop8r (k := k) ps [(m, c)] (by simp only [List.length_append, List.length_cons, List.length_nil]; omega)
    exact LoopTo.more (orc := tNone) (lo := noLo) (fun _ _ _ _ h => h) (LoOk2.no _) step ih
  refine aF (loS_no (o1 := out8n) hl out8_no) (gStep (loS_eq (out := out8r) out8r_inj hl) (aT ?_ rfl))
  rw [whole_iff]
  exact ⟨rfl, rfl⟩

/-! ### Set, the program's -/
theorem out7b_inj {a b c : AV} : ∀ x y, out7b a b c x = out7b a b c y → x = y := by
  rintro ⟨x, y⟩ ⟨z, w⟩ h
  simp [out7b, ob2] at h
  obtain ⟨rfl, rfl⟩ := h
  rfl
theorem out7a_inj : ∀ x y, out7a x = out7a y → x = y := by
  rintro ⟨x, y⟩ ⟨z, w⟩ h
  simp [out7a, ob2] at h
  obtain ⟨rfl, rfl⟩ := h
  rfl
theorem out7r_inj : ∀ x y, out7r x = out7r y → x = y := by
  rintro ⟨⟨x, y⟩, e⟩ ⟨⟨z, w⟩, f⟩ h
  simp [out7r, ob2, jn, mkT] at h
  obtain ⟨rfl, rfl, rfl⟩ := h
  rfl
theorem out7_no {y : (Int × Int) × Int} : ∀ x, out7a x ≠ out7r y := fun x h => by simp [out7a, out7r] at h
theorem go7b {k : LK} {l : Row} {n i a b m c z j : Int} {o} (h : (rk7b k l n i a b m c z j).ev = o) : (tround TT t7 noLo (HSb 7) lp7b (inv7b k l n i a b m c z j)).run = o := by
  rw [Tr.ev_run] at h
  exact h
theorem loop7b {k : LK} {l : Row} {n i : Int} {m : Nat} {c : Nat} (hm : m + c ≤ 128) : ∀ (d j : Nat) (s : Nat × Nat), j + d = c → fitB s →
    LoopTo TT t7.runs (HSb 7) lp7b (inv7b k l n i s.1 s.2 m c c j) (out7b (.dat (.list k 2 l)) (jn n) (jn i) (c2 (fillF m j d s)))
  | 0, j, s, h, _ => by
    refine LoopTo.last (orc := t7) (lo := noLo) (fun _ _ _ _ h => h) (LoOk2.no _) (go7b ?_) (by simp [out7b])
    rw [rk7b_eq]
    exact aF (by rw [decide_eq_false_iff_not]; omega) rfl
  | d + 1, j, s, h, hs => by
    have e21 := fnS_eq (out := oW []) oW_inj (p21 hs (i := m + j) (by omega) [])
    have step : (tround TT t7 noLo (HSb 7) lp7b (inv7b k l n i s.1 s.2 m c c j)).run = some (.norm, inv7b k l n i (setB s (m + j)).1 (setB s (m + j)).2 m c c ((j + 1 : Nat) : Int)) := by
      refine go7b ?_
      rw [rk7b_eq, w64 (n := m + j) (by omega) (x := ((m : Nat) : Int) + ((j : Nat) : Int)) (by omega), w64 (n := j + 1) (by omega) (x := ((j : Nat) : Int) + 1) (by omega)]
      exact aT (by rw [decide_eq_true_eq]; omega) (gStep e21 (aF rfl rfl))
    exact LoopTo.more (orc := t7) (lo := noLo) (fun _ _ _ _ h => h) (LoOk2.no _) step (loop7b hm d (j + 1) _ (by omega) (setB_fit hs (by omega)))
theorem lo7b_ok : LoOk2 TT t7.runs (HSb 7) lo7b lp7 := by
  refine LoOk2.of lp7 fun b hb st r h => ?_
  have hl : loops lp7 = [lp7b] := by kernel_rfl
  rw [hl] at hb
  obtain rfl := List.mem_singleton.1 hb
  rw [show firstRegion lp7b = 9 from by kernel_rfl] at h
  exact tlo_ok h
def res7 (st : St) (r : (Nat × Nat) × Int) : Prop := if r.2 = 0 then LoopTo TT t7.runs (HSb 7) lp7 st (out7a (c2 r.1)) else ∃ a b, LoopTo TT t7.runs (HSb 7) lp7 st (out7r ((a, b), r.2))
theorem go7 {k : LK} {l : Row} {n i a b : Int} {o} (h : (rk7 k l n i a b).ev = o) : (tround TT t7 lo7b (HSb 7) lp7 (inv7 k l n i a b)).run = o := by
  rw [Tr.ev_run] at h
  exact h
theorem loop7 {k : LK} : ∀ (ps pre : List (Int × Int)) (s : Nat × Nat), (pre ++ ps).length ≤ 3000 → fitB s →
    res7 (inv7 k (rowR (pre ++ ps)) ((rowR (pre ++ ps)).length : Nat) pre.length s.1 s.2) (setF ps s)
  | [], pre, s, h, _ => by
    rw [setF, res7, if_pos rfl]
    refine LoopTo.last (orc := t7) (lo := lo7b) (fun _ _ _ _ h => h) lo7b_ok (go7 ?_) (by simp [out7a])
    rw [rk7_eq]
    exact aF (by rw [decide_eq_false_iff_not, rowR_len, List.append_nil]; omega) rfl
  | (m, c) :: ps, pre, s, h, hs => by
    have hlen : (rowR (pre ++ (m, c) :: ps)).length = pre.length + ps.length + 1 := by
      rw [rowR_len, List.length_append, List.length_cons]; omega
    rw [List.length_append, List.length_cons] at h
    have hb : (true && ((decide ((0 : Int) ≤ ((pre.length : Nat) : Int))) && (decide (((pre.length : Nat) : Int) < (((rowR (pre ++ (m, c) :: ps)).length : Nat) : Int))))) = true := by
      rw [Bool.true_and, Bool.and_eq_true, decide_eq_true_eq, decide_eq_true_eq]
      omega
    have a0 : decide (((pre.length : Nat) : Int) < (((rowR (pre ++ (m, c) :: ps)).length : Nat) : Int)) = true := by rw [decide_eq_true_eq]; omega
    have e20 := fnS_eq (out := oErr []) oErr_inj (p20 m c [])
    by_cases hr : rightI m c = 0
    · obtain ⟨h1, h2, h3, h4⟩ := rightI_ok hr
      have hm : ((m.toNat : Nat) : Int) = m := by omega
      have hc : ((c.toNat : Nat) : Int) = c := by omega
      have hlo := loop7b (k := k) (l := rowR (pre ++ (m, c) :: ps)) (n := ((rowR (pre ++ (m, c) :: ps)).length : Nat)) (i := pre.length) (m := m.toNat) (c := c.toNat) (by omega) c.toNat 0 s (by omega) hs
      rw [hm, hc] at hlo
      have hfit := fillF_fit (m := m.toNat) c.toNat 0 s (by omega) hs
      rw [setF, if_pos hr]
      have step : (tround TT t7 lo7b (HSb 7) lp7 (inv7 k (rowR (pre ++ (m, c) :: ps)) ((rowR (pre ++ (m, c) :: ps)).length : Nat) pre.length s.1 s.2)).run = some (.norm, inv7 k (rowR (pre ++ (m, c) :: ps)) ((rowR (pre ++ (m, c) :: ps)).length : Nat) ((pre.length + 1 : Nat) : Int) (fillF m.toNat 0 c.toNat s).1 (fillF m.toNat 0 c.toNat s).2) := by
        refine go7 ?_
        rw [rk7_eq, w64 (n := pre.length + 1) (by omega) (x := ((pre.length : Nat) : Int) + 1) (by omega)]
        refine aT a0 (aT hb (gStep (rowR_at pre m c ps) (gStep rfl (gStep rfl (gStep e20 (aF ?_ (gStep (loS_eq out7b_inj hlo) rfl)))))))
        rw [hr]
        rfl
      have ih := loop7 (k := k) ps (pre ++ [(m, c)]) _ (by simp only [List.length_append, List.length_cons, List.length_nil]; omega) hfit
      rw [show pre ++ [(m, c)] ++ ps = pre ++ (m, c) :: ps by simp, show List.length (pre ++ [(m, c)]) = pre.length + 1 by simp] at ih
      unfold res7 at ih ⊢
      split at ih
      · rename_i h0
        rw [if_pos h0]
        exact LoopTo.more (orc := t7) (lo := lo7b) (fun _ _ _ _ h => h) lo7b_ok step ih
      · rename_i h0
        rw [if_neg h0]
        obtain ⟨a, b, ih⟩ := ih
        exact ⟨a, b, LoopTo.more (orc := t7) (lo := lo7b) (fun _ _ _ _ h => h) lo7b_ok step ih⟩
    · rw [setF, if_neg hr, res7, if_neg hr]
      refine ⟨s.1, s.2, LoopTo.last (orc := t7) (lo := lo7b) (fun _ _ _ _ h => h) lo7b_ok (go7 ?_) (by simp [out7r])⟩
      rw [rk7_eq]
      exact aT a0 (aT hb (gStep (rowR_at pre m c ps) (gStep rfl (gStep rfl (gStep e20 (aT (by simpa using hr) rfl))))))
theorem setF_bad : ∀ (ps : List (Int × Int)) (s : Nat × Nat), (setF ps s).2 ≠ 0 → (setF ps s).1 = (0, 0)
  | [], _, h => absurd rfl h
  | (m, c) :: ps, s, h => by
    unfold setF at h ⊢
    split
    · rename_i h0
      rw [if_pos h0] at h
      exact setF_bad ps _ h
    · rfl
theorem f7_run {k : LK} {ps : List (Int × Int)} (h : ps.length ≤ 3000) : R7 [.dat (.list k 2 (rowR ps))] [] = some (oW [] (c2 (setF ps (0, 0)).1, (setF ps (0, 0)).2)) := by
  have key : ∀ o, (f7t k (rowR ps)).ev = o → R7 [.dat (.list k 2 (rowR ps))] [] = o := fun o h => by
    rw [Tr.ev_run] at h
    exact h
  refine key _ ?_
  rw [f7t_eq]
  have hl := loop7 (k := k) ps [] (0, 0) h ⟨by decide, by decide⟩
  have hbad := setF_bad ps (0, 0)
  unfold res7 at hl
  split at hl
  · rename_i h0
    rw [h0]
    exact aT (loS_yes (o1 := out7a) out7a_inj hl) (gStep (loS_eq (out := out7a) out7a_inj hl) rfl)
  · rename_i h0
    obtain ⟨a, b, hl⟩ := hl
    rw [hbad h0]
    exact aF (loS_no (o1 := out7a) hl out7_no) (gStep (loS_eq (out := out7r) out7r_inj hl) rfl)
end Go.Eng
end

/- Sets of runs: the document's Set; RunsSet's law answers true. -/
section
namespace Go.Eng
open Go
set_option maxRecDepth 100000
set_option linter.unusedSimpArgs false

theorem f7z_eq : f7z.ev =
  (rAsk (Option.isSome (loS TT (TOrc.runs t7) (HSb 7) lp7 out7a (St.mk (mkT 0 45 [(2, (AV.ptr (Ref.loc 0) 0)), (4, (AV.ptr (Ref.loc 1) 0)), (11, (AV.dat (D.list LK.nil 0 ([] : Row)))), (12, (AV.dat (D.int IntKind.i64 (0 : Int)))), (13, (AV.dat (D.int IntKind.i64 (0 : Int))))]) (Mem.mk [(Option.some (Ent.obj [(AV.dat (D.int IntKind.u64 (0 : Int))), (AV.dat (D.int IntKind.u64 (0 : Int)))])), (Option.some (Ent.obj [(AV.dat (D.int IntKind.u64 (0 : Int))), (AV.dat (D.int IntKind.u64 (0 : Int)))]))] [] 0))))
   (rGet (loS TT (TOrc.runs t7) (HSb 7) lp7 out7a (St.mk (mkT 0 45 [(2, (AV.ptr (Ref.loc 0) 0)), (4, (AV.ptr (Ref.loc 1) 0)), (11, (AV.dat (D.list LK.nil 0 ([] : Row)))), (12, (AV.dat (D.int IntKind.i64 (0 : Int)))), (13, (AV.dat (D.int IntKind.i64 (0 : Int))))]) (Mem.mk [(Option.some (Ent.obj [(AV.dat (D.int IntKind.u64 (0 : Int))), (AV.dat (D.int IntKind.u64 (0 : Int)))])), (Option.some (Ent.obj [(AV.dat (D.int IntKind.u64 (0 : Int))), (AV.dat (D.int IntKind.u64 (0 : Int)))]))] [] 0))) fun x1 =>
    (some ((AV.tup [(AV.agg [(AV.dat (D.int IntKind.u64 x1.1)), (AV.dat (D.int IntKind.u64 x1.2))]), (AV.dat (D.int IntKind.i64 (0 : Int)))]), []))
   )
   (rGet (loS TT (TOrc.runs t7) (HSb 7) lp7 out7r (St.mk (mkT 0 45 [(2, (AV.ptr (Ref.loc 0) 0)), (4, (AV.ptr (Ref.loc 1) 0)), (11, (AV.dat (D.list LK.nil 0 ([] : Row)))), (12, (AV.dat (D.int IntKind.i64 (0 : Int)))), (13, (AV.dat (D.int IntKind.i64 (0 : Int))))]) (Mem.mk [(Option.some (Ent.obj [(AV.dat (D.int IntKind.u64 (0 : Int))), (AV.dat (D.int IntKind.u64 (0 : Int)))])), (Option.some (Ent.obj [(AV.dat (D.int IntKind.u64 (0 : Int))), (AV.dat (D.int IntKind.u64 (0 : Int)))]))] [] 0))) fun x2 =>
    (some ((AV.tup [(AV.agg [(AV.dat (D.int IntKind.u64 (0 : Int))), (AV.dat (D.int IntKind.u64 (0 : Int)))]), (AV.dat (D.int IntKind.i64 x2.2))]), []))
   )
  )
  := by kernel_rfl
theorem rk7z_eq : rk7z.ev =
  (some ((Ex.exit 0), (St.mk (mkT 0 45 [(2, (AV.ptr (Ref.loc 0) 0)), (4, (AV.ptr (Ref.loc 1) 0))]) (Mem.mk [(Option.some (Ent.obj [(AV.dat (D.int IntKind.u64 (0 : Int))), (AV.dat (D.int IntKind.u64 (0 : Int)))])), (Option.some (Ent.obj [(AV.dat (D.int IntKind.u64 (0 : Int))), (AV.dat (D.int IntKind.u64 (0 : Int)))]))] [] 0))))
  := by kernel_rfl
theorem f3t_eq (k : LK) (l : Row) : (f3t k l).ev =
  (rAsk (decide ((((List.length l) : Nat) : Int) > (100 : Int)))
   (rGet (fnS (fun (x : Unit) => ((AV.dat (D.bool true)), [])) (P6 [] [])) fun _ =>
    (some ((AV.dat (D.bool true)), []))
   )
   (rAsk (Option.isSome (fnS (fun (x : Unit) => ((AV.dat (D.list LK.nil 0 ([] : Row))), [])) (R8 [(AV.dat (D.list k 2 l))] [])))
    (rGet (fnS (fun (x : Unit) => ((AV.dat (D.list LK.nil 0 ([] : Row))), [])) (R8 [(AV.dat (D.list k 2 l))] [])) fun _ =>
     (rGet (fnS (fun (p : (Int × Int) × Int) => ((AV.tup [(AV.agg [(AV.dat (D.int IntKind.u64 p.1.1)), (AV.dat (D.int IntKind.u64 p.1.2))]), (AV.dat (D.int IntKind.i64 p.2))]), [])) (P7 [(AV.dat (D.list LK.nil 0 ([] : Row)))] [])) fun x3 =>
      (rGet (fnS (fun (p : (Int × Int) × Int) => ((AV.tup [(AV.agg [(AV.dat (D.int IntKind.u64 p.1.1)), (AV.dat (D.int IntKind.u64 p.1.2))]), (AV.dat (D.int IntKind.i64 p.2))]), [])) (P9 [(AV.dat (D.list k 2 l))] [])) fun x4 =>
       (rAsk ((x3.1.1 == x4.1.1) && ((x3.1.2 == x4.1.2) && true))
        (rAsk (x3.2 == x4.2)
         (rGet (fnS (fun (x : Unit) => ((AV.dat (D.bool true)), [])) (P6 [] [])) fun _ =>
          (some ((AV.dat (D.bool true)), []))
         )
         (some ((AV.dat (D.bool false)), []))
        )
        (some ((AV.dat (D.bool false)), []))
       )
      )
     )
    )
    (rGet (fnS (fun (zr : Row) => ((AV.own true 2 zr), [])) (R8 [(AV.dat (D.list k 2 l))] [])) fun x6 =>
     (rGet (fnS (fun (p : (Int × Int) × Int) => ((AV.tup [(AV.agg [(AV.dat (D.int IntKind.u64 p.1.1)), (AV.dat (D.int IntKind.u64 p.1.2))]), (AV.dat (D.int IntKind.i64 p.2))]), [])) (P7 [(AV.dat (D.list LK.any 2 (List.take (List.length x6) (List.drop 0 x6))))] [])) fun x7 =>
      (rGet (fnS (fun (p : (Int × Int) × Int) => ((AV.tup [(AV.agg [(AV.dat (D.int IntKind.u64 p.1.1)), (AV.dat (D.int IntKind.u64 p.1.2))]), (AV.dat (D.int IntKind.i64 p.2))]), [])) (P9 [(AV.dat (D.list k 2 l))] [])) fun x8 =>
       (rAsk ((x7.1.1 == x8.1.1) && ((x7.1.2 == x8.1.2) && true))
        (rAsk (x7.2 == x8.2)
         (rGet (fnS (fun (x : Unit) => ((AV.dat (D.bool true)), [])) (P6 [] [])) fun _ =>
          (some ((AV.dat (D.bool true)), []))
         )
         (some ((AV.dat (D.bool false)), []))
        )
        (some ((AV.dat (D.bool false)), []))
       )
      )
     )
    )
   )
  )
  := by kernel_rfl
attribute [local irreducible] fnS loS tround P20 P21 P22

theorem f7_nil : R7 [.dat (.list .nil 0 [])] [] = some (oW [] (c2 (setF [] (0, 0)).1, 0)) := by
  have key : ∀ o, f7z.ev = o → R7 [.dat (.list .nil 0 [])] [] = o := fun o h => by
    rw [Tr.ev_run] at h
    exact h
  refine key _ ?_
  rw [f7z_eq]
  have hl : LoopTo TT t7.runs (HSb 7) lp7 ⟨mkT 0 45 [(2, .ptr (.loc 0) 0), (4, .ptr (.loc 1) 0), (11, .dat (.list .nil 0 [])), (12, jn 0), (13, jn 0)], ⟨[ob2 0 0, ob2 0 0], [], 0⟩⟩ (out7a (0, 0)) := by
    refine LoopTo.last (orc := t7) (lo := lo7b) (fun _ _ _ _ h => h) lo7b_ok ?_ (by simp [out7a])
    show rk7z.run = _
    rw [← Tr.ev_run, rk7z_eq]
    rfl
  exact aT (loS_yes (o1 := out7a) out7a_inj hl) (gStep (loS_eq (out := out7a) out7a_inj hl) rfl)

/-! ### Set, the document's -/
theorem out9b_inj {a b : AV} : ∀ x y, out9b a b x = out9b a b y → x = y := by
  rintro ⟨x, y⟩ ⟨z, w⟩ h
  simp [out9b, ob2] at h
  obtain ⟨rfl, rfl⟩ := h
  rfl
theorem out9a_inj : ∀ x y, out9a x = out9a y → x = y := by
  rintro ⟨x, y⟩ ⟨z, w⟩ h
  simp [out9a, ob2] at h
  obtain ⟨rfl, rfl⟩ := h
  rfl
theorem out9r_inj : ∀ x y, out9r x = out9r y → x = y := by
  rintro ⟨⟨x, y⟩, e⟩ ⟨⟨z, w⟩, f⟩ h
  simp [out9r, ob2, jn, mkT] at h
  obtain ⟨rfl, rfl, rfl⟩ := h
  rfl
theorem out9_no {y : (Int × Int) × Int} : ∀ x, out9a x ≠ out9r y := fun x h => by simp [out9a, out9r] at h
theorem go9b {k : LK} {l : Row} {i a b j : Int} {o} (h : (rk9b k l i a b j).ev = o) : (tround TT t9 noLo (HSb 9) lp9b (inv9b k l i a b j)).run = o := by
  rw [Tr.ev_run] at h
  exact h
theorem loop9b {k : LK} {l : Row} {i : Nat} {m : Nat} {c : Nat} (hm : m + c ≤ 128) (hil : i < l.length) (hat : l[Int.toNat ((i : Nat) : Int)]? = some [.int .i64 m, .int .i64 c]) : ∀ (d j : Nat) (s : Nat × Nat), j + d = c → fitB s →
    LoopTo TT t9.runs (HSb 9) lp9b (inv9b k l i s.1 s.2 j) (out9b (.dat (.list k 2 l)) (jn i) (c2 (fillF m j d s)))
  | 0, j, s, h, _ => by
    have hb : (true && ((decide ((0 : Int) ≤ ((i : Nat) : Int))) && (decide (((i : Nat) : Int) < (((List.length l) : Nat) : Int))))) = true := by
      rw [Bool.true_and, Bool.and_eq_true, decide_eq_true_eq, decide_eq_true_eq]
      omega
    refine LoopTo.last (orc := t9) (lo := noLo) (fun _ _ _ _ h => h) (LoOk2.no _) (go9b ?_) (by simp [out9b])
    rw [rk9b_eq]
    exact aT hb (gStep hat (gStep rfl (gStep (x := ((c : Nat) : Int)) rfl (aF (by rw [decide_eq_false_iff_not]; omega) rfl))))
  | d + 1, j, s, h, hs => by
    have hb : (true && ((decide ((0 : Int) ≤ ((i : Nat) : Int))) && (decide (((i : Nat) : Int) < (((List.length l) : Nat) : Int))))) = true := by
      rw [Bool.true_and, Bool.and_eq_true, decide_eq_true_eq, decide_eq_true_eq]
      omega
    have e22 : fnS (oW []) (P22 [st2 s.1 s.2, jn (IntKind.wrap .i64 (((m : Nat) : Int) + ((j : Nat) : Int)))] []) = some (c2 (setB s (m + j)), 0) := by
      rw [w64 (n := m + j) (by omega) (x := ((m : Nat) : Int) + ((j : Nat) : Int)) (by omega)]
      exact fnS_eq (out := oW []) oW_inj (p22 hs (i := m + j) (by omega) [])
    have step : (tround TT t9 noLo (HSb 9) lp9b (inv9b k l i s.1 s.2 j)).run = some (.norm, inv9b k l i (setB s (m + j)).1 (setB s (m + j)).2 ((j + 1 : Nat) : Int)) := by
      refine go9b ?_
      rw [rk9b_eq, w64 (n := j + 1) (by omega) (x := ((j : Nat) : Int) + 1) (by omega)]
      exact aT hb (gStep hat (gStep rfl (gStep (x := ((c : Nat) : Int)) rfl (aT (by rw [decide_eq_true_eq]; omega) (aT hb (gStep hat (gStep rfl (gStep (x := ((m : Nat) : Int)) rfl (gStep e22 rfl)))))))))
    exact LoopTo.more (orc := t9) (lo := noLo) (fun _ _ _ _ h => h) (LoOk2.no _) step (loop9b hm hil hat d (j + 1) _ (by omega) (setB_fit hs (by omega)))
theorem lo9b_ok : LoOk2 TT t9.runs (HSb 9) lo9b lp9 := by
  refine LoOk2.of lp9 fun b hb st r h => ?_
  have hl : loops lp9 = [lp9b] := by kernel_rfl
  rw [hl] at hb
  obtain rfl := List.mem_singleton.1 hb
  rw [show firstRegion lp9b = 10 from by kernel_rfl] at h
  exact tlo_ok h
def res9 (st : St) (r : (Nat × Nat) × Int) : Prop := if r.2 = 0 then LoopTo TT t9.runs (HSb 9) lp9 st (out9a (c2 r.1)) else ∃ a b, LoopTo TT t9.runs (HSb 9) lp9 st (out9r ((a, b), r.2))
theorem go9 {k : LK} {l : Row} {i a b : Int} {o} (h : (rk9 k l i a b).ev = o) : (tround TT t9 lo9b (HSb 9) lp9 (inv9 k l i a b)).run = o := by
  rw [Tr.ev_run] at h
  exact h
theorem loop9 {k : LK} : ∀ (ps pre : List (Int × Int)) (s : Nat × Nat), (pre ++ ps).length ≤ 1000 → fitB s →
    res9 (inv9 k (rowR (pre ++ ps)) pre.length s.1 s.2) (setF ps s)
  | [], pre, s, h, _ => by
    rw [setF, res9, if_pos rfl]
    refine LoopTo.last (orc := t9) (lo := lo9b) (fun _ _ _ _ h => h) lo9b_ok (go9 ?_) (by simp [out9a])
    rw [rk9_eq]
    exact aF (by rw [decide_eq_false_iff_not, rowR_len, List.append_nil]; omega) rfl
  | (m, c) :: ps, pre, s, h, hs => by
    have hlen : (rowR (pre ++ (m, c) :: ps)).length = pre.length + ps.length + 1 := by
      rw [rowR_len, List.length_append, List.length_cons]; omega
    rw [List.length_append, List.length_cons] at h
    have hb : (true && ((decide ((0 : Int) ≤ ((pre.length : Nat) : Int))) && (decide (((pre.length : Nat) : Int) < (((rowR (pre ++ (m, c) :: ps)).length : Nat) : Int))))) = true := by
      rw [Bool.true_and, Bool.and_eq_true, decide_eq_true_eq, decide_eq_true_eq]
      omega
    have a0 : decide (((pre.length : Nat) : Int) < (((rowR (pre ++ (m, c) :: ps)).length : Nat) : Int)) = true := by rw [decide_eq_true_eq]; omega
    have hat := rowR_at pre m c ps
    have bad : ∀ e : Int, rightI m c = e → e ≠ 0 → (rk9 k (rowR (pre ++ (m, c) :: ps)) pre.length s.1 s.2).ev = some (out9r ((s.1, s.2), e)) → res9 (inv9 k (rowR (pre ++ (m, c) :: ps)) pre.length s.1 s.2) (setF ((m, c) :: ps) s) := fun e he hne hev => by
      rw [setF, if_neg (by rw [he]; exact hne), res9, if_neg (by rw [he]; exact hne), he]
      exact ⟨s.1, s.2, LoopTo.last (orc := t9) (lo := lo9b) (fun _ _ _ _ h => h) lo9b_ok (go9 hev) (by simp [out9r])⟩
    by_cases h1 : c < 1
    · refine bad 2 (by rw [rightI, if_pos h1]) (by decide) ?_
      rw [rk9_eq]
      exact aT a0 (aT hb (gStep hat (gStep rfl (gStep (x := c) rfl (aT (decide_eq_true h1) rfl)))))
    by_cases h2 : m < 0
    · refine bad 3 (by rw [rightI, if_neg h1, if_pos h2]) (by decide) ?_
      rw [rk9_eq]
      exact aT a0 (aT hb (gStep hat (gStep rfl (gStep (x := c) rfl (aF (decide_eq_false h1) (aT hb (gStep hat (gStep rfl (gStep (x := m) rfl (aT (decide_eq_true h2) rfl))))))))))
    by_cases h3 : 127 < m
    · refine bad 3 (by rw [rightI, if_neg h1, if_neg h2, if_pos h3]) (by decide) ?_
      rw [rk9_eq]
      exact aT a0 (aT hb (gStep hat (gStep rfl (gStep (x := c) rfl (aF (decide_eq_false h1) (aT hb (gStep hat (gStep rfl (gStep (x := m) rfl (aF (decide_eq_false h2) (aT hb (gStep hat (gStep rfl (gStep (x := m) rfl (aT (decide_eq_true h3) rfl)))))))))))))))
    have hw := w128 (m := m) (by omega) (by omega)
    by_cases h4 : 128 - m < c
    · refine bad 3 (by rw [rightI, if_neg h1, if_neg h2, if_neg h3, if_pos h4]) (by decide) ?_
      rw [rk9_eq]
      refine aT a0 (aT hb (gStep hat (gStep rfl (gStep (x := c) rfl (aF (decide_eq_false h1) ?_)))))
      refine aT hb (gStep hat (gStep rfl (gStep (x := m) rfl (aF (decide_eq_false h2) ?_))))
      refine aT hb (gStep hat (gStep rfl (gStep (x := m) rfl (aF (decide_eq_false h3) ?_))))
      refine aT hb (gStep hat (gStep rfl (aT hb (gStep hat (gStep rfl (gStep (x := m) rfl (gStep (x := c) rfl ?_)))))))
      exact aT (by rw [hw, decide_eq_true_eq]; omega) rfl
    have hr : rightI m c = 0 := by rw [rightI, if_neg h1, if_neg h2, if_neg h3, if_neg h4]
    have hm : ((m.toNat : Nat) : Int) = m := by omega
    have hc : ((c.toNat : Nat) : Int) = c := by omega
    have hlo := loop9b (k := k) (l := rowR (pre ++ (m, c) :: ps)) (i := pre.length) (m := m.toNat) (c := c.toNat) (by omega) (by omega) (by rw [hm, hc]; exact hat) c.toNat 0 s (by omega) hs
    have hfit := fillF_fit (m := m.toNat) c.toNat 0 s (by omega) hs
    rw [setF, if_pos hr]
    have step : (tround TT t9 lo9b (HSb 9) lp9 (inv9 k (rowR (pre ++ (m, c) :: ps)) pre.length s.1 s.2)).run = some (.norm, inv9 k (rowR (pre ++ (m, c) :: ps)) ((pre.length + 1 : Nat) : Int) (fillF m.toNat 0 c.toNat s).1 (fillF m.toNat 0 c.toNat s).2) := by
      refine go9 ?_
      rw [rk9_eq, w64 (n := pre.length + 1) (by omega) (x := ((pre.length : Nat) : Int) + 1) (by omega)]
      refine aT a0 (aT hb (gStep hat (gStep rfl (gStep (x := c) rfl (aF (decide_eq_false h1) ?_)))))
      refine aT hb (gStep hat (gStep rfl (gStep (x := m) rfl (aF (decide_eq_false h2) ?_))))
      refine aT hb (gStep hat (gStep rfl (gStep (x := m) rfl (aF (decide_eq_false h3) ?_))))
      refine aT hb (gStep hat (gStep rfl (aT hb (gStep hat (gStep rfl (gStep (x := m) rfl (gStep (x := c) rfl ?_)))))))
      exact aF (by rw [hw, decide_eq_false_iff_not]; omega) (gStep (loS_eq out9b_inj hlo) rfl)
    have ih := loop9 (k := k) ps (pre ++ [(m, c)]) _ (by simp only [List.length_append, List.length_cons, List.length_nil]; omega) hfit
    rw [show pre ++ [(m, c)] ++ ps = pre ++ (m, c) :: ps by simp, show List.length (pre ++ [(m, c)]) = pre.length + 1 by simp] at ih
    unfold res9 at ih ⊢
    split at ih
    · rename_i h0
      rw [if_pos h0]
      exact LoopTo.more (orc := t9) (lo := lo9b) (fun _ _ _ _ h => h) lo9b_ok step ih
    · rename_i h0
      rw [if_neg h0]
      obtain ⟨a, b, ih⟩ := ih
      exact ⟨a, b, LoopTo.more (orc := t9) (lo := lo9b) (fun _ _ _ _ h => h) lo9b_ok step ih⟩
theorem f9_run {k : LK} {ps : List (Int × Int)} (h : ps.length ≤ 1000) : R9 [.dat (.list k 2 (rowR ps))] [] = some (oW [] (c2 (setF ps (0, 0)).1, (setF ps (0, 0)).2)) := by
  have key : ∀ o, (f9t k (rowR ps)).ev = o → R9 [.dat (.list k 2 (rowR ps))] [] = o := fun o h => by
    rw [Tr.ev_run] at h
    exact h
  refine key _ ?_
  rw [f9t_eq]
  have hl := loop9 (k := k) ps [] (0, 0) h ⟨by decide, by decide⟩
  have hbad := setF_bad ps (0, 0)
  unfold res9 at hl
  split at hl
  · rename_i h0
    rw [h0]
    exact aT (loS_yes (o1 := out9a) out9a_inj hl) (gStep (loS_eq (out := out9a) out9a_inj hl) rfl)
  · rename_i h0
    obtain ⟨a, b, hl⟩ := hl
    rw [hbad h0]
    exact aF (loS_no (o1 := out9a) hl out9_no) (gStep (loS_eq (out := out9r) out9r_inj hl) rfl)

/-! ### the law -/
theorem oT_inj {G : List Ent} : ∀ x y, oT G x = oT G y → x = y := fun _ _ _ => rfl
theorem p6 {G : List Ent} : P6 [] G = some (oT G ()) := by
  have := known_ev
  have h : ∃ G', E 6 [] [] = some (.dat (.bool true), G') := by
    cases ho : E 6 [] [] with
    | none => rw [ho] at this; cases this
    | some r =>
      rw [ho] at this
      simp only [Option.map_some, Option.some.injEq] at this
      exact ⟨r.2, by rw [← this]⟩
  obtain ⟨G', h⟩ := h
  exact pureS_eq rfl h rfl
attribute [local irreducible] P6 P7 P9 R7 R8 R9
theorem f3_run {k : LK} (ps : List (Int × Int)) : R3 [.dat (.list k 2 (rowR ps))] [] = some (.dat (.bool true), []) := by
  have key : ∀ o, (f3t k (rowR ps)).ev = o → R3 [.dat (.list k 2 (rowR ps))] [] = o := fun o h => by
    rw [Tr.ev_run] at h
    exact h
  refine key _ ?_
  rw [f3t_eq, rowR_len]
  have e6 := fnS_eq (out := oT []) oT_inj (p6 (G := []))
  by_cases h : ps.length > 100
  · exact aT (by rw [decide_eq_true_eq]; omega) (gStep e6 rfl)
  refine aF (by rw [decide_eq_false_iff_not]; omega) ?_
  have e9 : fnS (oW []) (P9 [.dat (.list k 2 (rowR ps))] []) = some (c2 (setF ps (0, 0)).1, (setF ps (0, 0)).2) := by
    refine fnS_eq (out := oW []) oW_inj ?_
    unfold P9
    exact pureS_eq rfl (f9_run (by omega)) rfl
  cases ps with
  | nil =>
    have e7 : fnS (oW []) (P7 [.dat (.list .nil 0 [])] []) = some (c2 (setF [] (0, 0)).1, 0) := by
      refine fnS_eq (out := oW []) oW_inj ?_
      unfold P7
      exact pureS_eq rfl f7_nil rfl
    exact aT (fnS_yes (o1 := oNl []) oNl_inj f8_nil) (gStep (fnS_eq (out := oNl []) oNl_inj f8_nil) (gStep e7 (gStep e9 (aT rfl (aT rfl (gStep e6 rfl))))))
  | cons p ps =>
    rw [List.length_cons] at h
    have e8 := f8_run (k := k) (p := p) (ps := ps) (by omega)
    have e7 : fnS (oW []) (P7 [.dat (.list .any 2 (List.take (List.length (rowR (p :: ps))) (List.drop 0 (rowR (p :: ps)))))] []) = some (c2 (setF (p :: ps) (0, 0)).1, (setF (p :: ps) (0, 0)).2) := by
      refine fnS_eq (out := oW []) oW_inj ?_
      rw [List.drop_zero, List.take_length]
      unfold P7
      exact pureS_eq rfl (f7_run (by rw [List.length_cons]; omega)) rfl
    exact aF (fnS_no e8 oNl_no) (gStep (fnS_eq (out := oOw []) oOw_inj e8) (gStep e7 (gStep e9 (aT (by simp) (aT (by simp) (gStep e6 rfl))))))
end Go.Eng
end

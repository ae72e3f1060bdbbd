/- Steps as lines: the program's variables; the library's functions that are called; known. -/
import Derived.Test.YtkbbgehnooncoaaGreatDoorWp20
import Derived.Test.YtkbbgehnooncoaaGreatDoorWp21
import Derived.Test.YtkbbgehnooncoaaGreatDoorWp25
import Derived.Test.YtkbbgehnooncoaaGreatDoorWp29
import Derived.Test.YtkbbgehnooncoaaGreatDoorWp30
import Derived.Test.YtkbbgehnooncoaaGreatDoorWp10
import Derived.Test.YtkbbgehnooncoaaGreatDoorWp7
import Derived.Test.YtkbbgehnooncoaaGreatDoorWp14
import Derived.Test.YtkbbgehnooncoaaGreatDoorWp26
section
namespace Go.Eng
open Go
set_option maxRecDepth 100000

instance : Inhabited Pkg := ⟨⟨fun g => if g = 0 then some (Go.Lib.pow10Tab.map fun z => .int .u64 z) else none, fun g => if g = 1 then some (fun v => ∃ m, v = .int .i64 m) else if g = 4 ∨ g = 5 then some IsI else none⟩⟩

/-- what is kept at each loop's head, by liveness; the ranges over functions by hand -/
noncomputable def HH (f n : Nat) : List Nat := if n = 3000000 then (if f = 33 then [10070003, 10070011] else []) else match FT f with
  | some fn => ((liveF fn).lookup n).getD []
  | none => []

noncomputable abbrev PP : Program := Go.Proofs.Tryz.prog
theorem gl0 : pkgGl 0 = some (Go.Lib.pow10Tab.map fun z => .int .u64 z) := by
  simp only [pkgGl, default]
  rfl
theorem c69 : COk PP 85 sRepeat := sRepeat_ok ⟨_, Go.Proofs.Tryz.func85, by kernel_rfl, by kernel_rfl⟩ fun s c w hc hl => Go.Proofs.Tryz.strings_Repeat s c w hc hl
theorem c13 : COk PP 21 sItoaA := sItoaA_ok (g := 0) ⟨_, Go.Proofs.Tryz.func21, by kernel_rfl, by kernel_rfl⟩ gl0 (by kernel_rfl) fun n h0 h1 w ht => Go.Proofs.Tryz.strconv_Itoa n h0 h1 w ht
theorem c16 : COk PP 22 sJoin := sJoin_ok ⟨_, Go.Proofs.Tryz.func22, by kernel_rfl, by kernel_rfl⟩ fun bk o c xs sep w h1 h2 h3 h4 h5 => Go.Proofs.Tryz.strings_Join bk o c xs sep w h1 h2 h3 h4 h5
theorem c21 : COk PP 63 sSplit1 := sSplit1_ok (g := 1) ⟨_, Go.Proofs.Tryz.func63, by kernel_rfl, by kernel_rfl⟩ rfl fun s sep m w h1 h2 h3 => Go.Proofs.Tryz.strings_Split s sep m w h1 h2 h3
theorem c66 : COk PP 61 sCut1 := sCut1_ok (g := 1) ⟨_, Go.Proofs.Tryz.func61, by kernel_rfl, by kernel_rfl⟩ rfl fun s sep m w h1 h2 => Go.Proofs.Tryz.strings_Cut s sep m w h1 h2
theorem c67 : COk PP 84 sIndexByte := sIndexByte_ok ⟨_, Go.Proofs.Tryz.func84, by kernel_rfl, by kernel_rfl⟩ fun s b w => Go.Proofs.Tryz.strings_IndexByte s b w
theorem c68 : COk PP 62 sAtoiA := sAtoiA_ok (g1 := 4) (g2 := 5) ⟨_, Go.Proofs.Tryz.func62, by kernel_rfl, by kernel_rfl⟩ rfl rfl (fun s h v hv w => Go.Proofs.Tryz.strconv_Atoi_ok s h v hv w)
  (fun s h hv hr ev w h1 h2 => (Go.Proofs.Any.strconv_Atoi_syntax Go.Proofs.Tryz.laysC172 s h (by
    cases hq : Go.Lib.atoiAll s.data.toList with
    | ok v => exact absurd hq (hv v)
    | range => exact absurd hq hr
    | _ => rfl) ev w h1 h2).mono fun e w' q => by obtain ⟨N, q1, _, _, q2⟩ := q; exact ⟨N, q1, q2⟩)
  (fun s h hv ev w h1 h2 => (Go.Proofs.Tryz.strconv_Atoi_range s h hv ev w h1 h2).mono fun e w' q => by obtain ⟨N, q1, _, _, q2⟩ := q; exact ⟨N, q1, q2⟩)
theorem cKeep : COk PP 12 sKeep := sKeep_ok
theorem cTrim : COk PP 32 sTrim := sTrim_ok
theorem FT_fine {f : Nat} {fn : Func} (h : FT f = some fn) : PP.funcs[f]? = some fn ∧ (fn.name == "runtime.NumGoroutine") = false ∧ nodupN ((loops (codeOf fn)).map firstRegion) = true := by
  have h2 := BT.get_all (BT.all_ok (q := fun _ fn => !(fn.name == "runtime.NumGoroutine") && nodupN ((loops (codeOf fn)).map firstRegion)) (show FTree.all (fun _ fn => !(fn.name == "runtime.NumGoroutine") && nodupN ((loops (codeOf fn)).map firstRegion)) = true by kernel_rfl)) h
  simp only [Bool.and_eq_true, Bool.not_eq_true'] at h2
  exact ⟨FT_ok h, h2.1, h2.2⟩
noncomputable def t1 : TOrc := tinU FT TT (fun _ _ => []) 6 [] tNone 2
theorem t1_ok : TOk PP t1 := tinU_ok TT_ok (FT := FT) (fun _ _ h => FT_fine h) (HS := fun _ _ => []) (fuel := 6) (base := []) TOk.nil 2
theorem COk.either {P : Program} {f : FuncId} {S T : Spec} (hS : COk P f S) (hT : COk P f T) : COk P f (fun a G => match S a G with
    | some r => some r
    | none => T a G) := by
  intro c xs G vs r G' hs he hv
  cases h : S xs G with
  | some q =>
    simp only [h] at hs
    exact hS c xs G vs r G' (by rw [h, hs]) he hv
  | none =>
    simp only [h] at hs
    exact hT c xs G vs r G' hs he hv
noncomputable def P16n := pureS fun a G => (t1 22 a G).run
/-- strings.Join, of no words too -/
noncomputable def sJoinN : Spec := fun a G => match sJoin a G with
  | some r => some r
  | none => P16n a G
noncomputable def S16n : Spec := sJoinN
theorem c16n : COk PP 22 S16n := COk.either c16 (t1_ok 22).pure
theorem join_nil : ((t1 22 [.dat (.list .nil 0 []), .dat (.str ⟨#[32]⟩)] []).run).map (·.1) = some (.dat (.str ⟨#[]⟩)) := by kernel_rfl

noncomputable def oL : Orc := fun f => match f with
  | 12 => sKeep
  | 21 => sItoaA
  | 22 => S16n
  | 32 => sTrim
  | 61 => sCut1
  | 62 => sAtoiA
  | 63 => sSplit1
  | 84 => sIndexByte
  | 85 => sRepeat
  | _ => fun _ _ => none
theorem oL_ok : ∀ f, COk PP f (oL f) := fun f => by
  unfold oL
  split
  · exact cKeep
  · exact c13
  · exact c16n
  · exact cTrim
  · exact c66
  · exact c68
  · exact c21
  · exact c67
  · exact c69
  · exact COk.nothing fun _ _ => rfl
abbrev libs : List Nat := [12, 21, 22, 32, 61, 62, 63, 84, 85]

noncomputable def E (f : Nat) (a : List AV) (G : List Ent) : Option (AV × List Ent) := orcY FT TT 300 HH libs oL 8 f a G
theorem E_ok (f : Nat) : COk PP f (E f) := orcY_ok (K := 300) (H := HH) TT_ok (FT := FT) (fun _ _ h => FT_ok h) oL_ok 8 f
noncomputable abbrev bs (l : List UInt8) : AV := .dat (.str ⟨l.toArray⟩)
theorem known_ev : (E 6 [] []).map (·.1) = some (.dat (.bool true)) := by kernel_rfl
end Go.Eng
end

/- Steps as lines: small things. -/
section
namespace Go.Eng
open Go
set_option maxRecDepth 100000

def hOfS (l : List (Nat × List Nat)) (n : Nat) : List Nat := (l.lookup n).getD []
def jn (n : Int) : AV := .dat (.int .i64 n)
def oT (G : List Ent) (_ : Unit) : AV × List Ent := (.dat (.bool true), G)
theorem oT_inj {G : List Ent} : ∀ x y, oT G x = oT G y → x = y := fun _ _ _ => rfl
def oS (G : List Ent) (zs : ByteArray) : AV × List Ent := (.dat (.str zs), G)
theorem oS_inj {G : List Ent} : ∀ x y, oS G x = oS G y → x = y := by intro x y h; simpa [oS] using h
def oB (G : List Ent) (b : Bool) : AV × List Ent := (.dat (.bool b), G)
theorem oB_inj {G : List Ent} : ∀ x y, oB G x = oB G y → x = y := by intro x y h; simpa [oB] using h
/-- out of a closed evaluation -/
theorem pure_of {f : Nat} {a : List AV} {v : AV} {G : List Ent} (hp : (E f a []).map (·.1) = some v) (h1 : a.all nor1 = true := by rfl) (h2 : nor2 v = true := by rfl) : pureS (E f) a G = some (v, G) := by
  have h : ∃ G', E f a [] = some (v, G') := by
    cases ho : E f a [] with
    | none => rw [ho] at hp; cases hp
    | some r =>
      rw [ho] at hp
      simp only [Option.map_some, Option.some.injEq] at hp
      exact ⟨r.2, by rw [← hp]⟩
  obtain ⟨G', h⟩ := h
  exact pureS_eq h1 h h2
noncomputable def P105 := pureS (E 6)
theorem p105 {G : List Ent} : P105 [] G = some (oT G ()) := pure_of known_ev
end Go.Eng
end

/- Sectors as short texts: the program's, as trees. -/
section
namespace Go.Eng
open Go
set_option maxRecDepth 100000

def HSs (f : Nat) : Nat → List Nat := match f with
  | 7 => hOfS [(3000000, [10070003, 10070011])]
  | 36 => hOfS [(0, [0, 1])]
  | 37 => hOfS [(2, [0, 3]), (1000002, [3])]
  | _ => fun _ => []
noncomputable def t8 : TOrc := tinU FT TT HSs 6 [] tNone 3
theorem t8_ok : TOk PP t8 := tinU_ok TT_ok (FT := FT) (fun _ _ h => FT_fine h) (HS := HSs) (fuel := 6) (base := []) TOk.nil 3
def oI (G : List Ent) (n : Int) : AV × List Ent := (jn n, G)
theorem oI_inj {G : List Ent} : ∀ x y, oI G x = oI G y → x = y := by intro x y h; simpa [oI, jn] using h

/-! how many bytes are alike -/
noncomputable def lp37 : Code := lpOf (codeOf Go.Proofs.Tryz.f74) 0
def inv37 (s : ByteArray) (n : Int) : St := ⟨mkT 0 19 [(0, .dat (.str s)), (3, jn n)], ⟨[], [], 0⟩⟩
noncomputable def rk37 (s : ByteArray) (n : Int) : Tr (Ex × St) := tround TT tNone noLo (HSs 37) lp37 (inv37 s n)
def out37 (n : Int) : Ex × St := (.exit 0, ⟨mkT 0 19 [(3, jn n)], ⟨[], [], 0⟩⟩)
noncomputable def lo37 (n : Nat) (st : St) : Tr (Ex × St) := match n with
  | 2 => tlo TT tNone.runs (HSs 37) lp37 out37 st
  | _ => .fail
noncomputable def f37t (s : ByteArray) : Tr (AV × List Ent) := tfn TT tNone lo37 Go.Proofs.Tryz.f74 [.dat (.str s)] []
noncomputable def R37 (a : List AV) (G : List Ent) : Option (AV × List Ent) := (tfn TT tNone lo37 Go.Proofs.Tryz.f74 a G).run
noncomputable def P37 := pureS R37

/-! the range -/
def rfOf : Code → Option (Code × Code)
  | .seq a b => (rfOf a).orElse fun _ => rfOf b
  | .block _ b => rfOf b
  | .rangeFunc _ _ asg body => some (asg, body)
  | _ => none
noncomputable def asg7 : Code := ((rfOf (codeOf Go.Proofs.Tryz.f33)).getD (.skip, .skip)).1
noncomputable def bd7 : Code := ((rfOf (codeOf Go.Proofs.Tryz.f33)).getD (.skip, .skip)).2
noncomputable def lr7 (s : LS) : Ent := .lrec s (mkT 0 35 [(3, .ptr (.glob 1) 0), (11, .fn 73 [.ptr (.glob 0) 0])]) [12, 13] asg7 bd7
noncomputable def G7 (s : ByteArray) (c1 : AV) : List Ent := [.obj [.dat (.str s)], .obj [c1], lr7 .ready]
noncomputable def S24 : Spec := sItoaA
noncomputable def S25 : Spec := sJoin
noncomputable def tI : TOrc := tCons 21 (fun a G => tspec (oS G) (S24 a G)) tNone
noncomputable def y7 (a : List AV) (G : List Ent) : Tr (AV × List Ent) := tyld TT tI (fun _ => noLo) [] 2 a G
noncomputable def Y7 (a : List AV) (G : List Ent) : Option (AV × List Ent) := (y7 a G).run
noncomputable def yn7 (s : ByteArray) (c n : Int) : Tr (AV × List Ent) := y7 [.dat (.int .u8 c), jn n] (G7 s (.dat (.list .nil 0 [])))
noncomputable def yr7 (s : ByteArray) (l : Row) (c n : Int) : Tr (AV × List Ent) := y7 [.dat (.int .u8 c), jn n] (G7 s (.rowc .excl 1 l))
def oYl (G : List Ent) (l : Row) : AV × List Ent := (.dat (.bool true), G.set 1 (.obj [.rowc .excl 1 l]))
noncomputable def t36 : TOrc := tCons 74 (fun a G => tspec (oI G) (P37 a G)) (tCons (yB + 2) (fun a G => tspec (oYl G) (Y7 a G)) tNone)
noncomputable def lp36 : Code := lpOf (codeOf Go.Proofs.Tryz.f73) 0
noncomputable def inv36 (s : ByteArray) (c1 : AV) : St := ⟨mkT 0 17 [(0, .yld 2), (1, .ptr (.glob 0) 0)], ⟨[], G7 s c1, 0⟩⟩
noncomputable def rk36n (s : ByteArray) : Tr (Ex × St) := tround TT t36 noLo (HSs 36) lp36 (inv36 s (.dat (.list .nil 0 [])))
noncomputable def rk36r (s : ByteArray) (l : Row) : Tr (Ex × St) := tround TT t36 noLo (HSs 36) lp36 (inv36 s (.rowc .excl 1 l))
def out36 (G : List Ent) : Ex × St := (.exit 0, ⟨mkT 0 17 [], ⟨[], G, 0⟩⟩)
noncomputable def lo36 (n : Nat) (st : St) : Tr (Ex × St) := match n with
  | 0 => tlo TT t36.runs (HSs 36) lp36 out36 st
  | _ => .fail
noncomputable def f36t (s : ByteArray) (c1 : AV) : Tr (AV × List Ent) := tfn TT t36 lo36 Go.Proofs.Tryz.f73 [.yld 2, .ptr (.glob 0) 0] (G7 s c1)
noncomputable def R36 (a : List AV) (G : List Ent) : Option (AV × List Ent) := (tfn TT t36 lo36 Go.Proofs.Tryz.f73 a G).run
noncomputable def o36 (_ : List Ent) (p : ByteArray × Row) : AV × List Ent := (.tup [], G7 p.1 (.rowc .excl 1 p.2))
noncomputable def t7 : TOrc := tCons 73 (fun a G => tspec (o36 G) (R36 a G)) (tCons 19 (fun a G => t8 19 a G) (tCons 58 (fun a G => t8 58 a G) (tCons 22 (fun a G => tspec (oS G) (S25 a G)) tNone)))
noncomputable def f7t (s : ByteArray) : Tr (AV × List Ent) := tfnR TT t7 noLo (HSs 7 3000000) Go.Proofs.Tryz.f33 [.dat (.str s)] []
noncomputable def R7 (a : List AV) (G : List Ent) : Option (AV × List Ent) := (tfnR TT t7 noLo (HSs 7 3000000) Go.Proofs.Tryz.f33 a G).run
end Go.Eng
end

/- Sectors as short texts: what the program's Short comes to. -/
section
namespace Go.Eng
open Go
set_option maxRecDepth 100000
set_option linter.unusedSimpArgs false

theorem rk37_eq (s : ByteArray) (n : Int) : (rk37 s n).ev =
 (rAsk (decide (n < (((ByteArray.size s) : Nat) : Int)))
 (rAsk (decide ((0 : Int) ≤ n))
 (rGet s[(Int.toNat n)]? fun x1 =>
 (rGet s[0]? fun x2 =>
 (rAsk ((((UInt8.toNat x1) : Nat) : Int) == (((UInt8.toNat x2) : Nat) : Int))
 (some (Ex.norm, (St.mk (mkT 0 19 [(0, (AV.dat (D.str s))), (3, (AV.dat (D.int IntKind.i64 (IntKind.wrap IntKind.i64 (n + (1 : Int))))))]) (Mem.mk [] [] 0))))
 (some ((Ex.exit 0), (St.mk (mkT 0 19 [(3, (AV.dat (D.int IntKind.i64 n)))]) (Mem.mk [] [] 0)))))))
 none)
 (some ((Ex.exit 0), (St.mk (mkT 0 19 [(3, (AV.dat (D.int IntKind.i64 n)))]) (Mem.mk [] [] 0)))))
  := by kernel_rfl
theorem f37t_eq (s : ByteArray) : (f37t s).ev =
 (rGet (loS TT (TOrc.runs tNone) (HSs 37) lp37 out37 (St.mk (mkT 0 19 [(0, (AV.dat (D.str s))), (3, (AV.dat (D.int IntKind.i64 (1 : Int))))]) (Mem.mk [] [] 0))) fun x1 =>
 (some ((AV.dat (D.int IntKind.i64 x1)), [])))
  := by kernel_rfl
theorem yn7_eq (s : ByteArray) (c n : Int) : (yn7 s c n).ev =
 (rAsk (decide ((0 : Int) ≤ (Int.fdiv c (16 : Int))))
 (rGet (ByteArray.mk (List.toArray [48, 49, 50, 51, 52, 53, 54, 55, 56, 57, 97, 98, 99, 100, 101, 102]))[(Int.toNat (Int.fdiv c (16 : Int)))]? fun x1 =>
 (rGet (ByteArray.mk (List.toArray [48, 49, 50, 51, 52, 53, 54, 55, 56, 57, 97, 98, 99, 100, 101, 102]))[(Int.toNat (IntKind.wrap IntKind.u8 (((BitVec.toNat ((BitVec.ofInt 8 c) &&& (BitVec.ofInt 8 (15 : Int)))) : Nat) : Int)))]? fun x2 =>
 (rAsk (decide (n > (1 : Int)))
 (rGet (fnS (fun (zs : ByteArray) => ((AV.dat (D.str zs)), [(Ent.obj [(AV.dat (D.str s))]), (Ent.obj [(AV.dat (D.list LK.nil 0 ([] : Row)))]), (Ent.lrec LS.busy (mkT 0 35 [(3, (AV.ptr (Ref.glob 1) 0)), (11, (AV.fn 73 [(AV.ptr (Ref.glob 0) 0)]))]) [12, 13] asg7 bd7)])) (S24 [(AV.dat (D.int IntKind.i64 n))] [(Ent.obj [(AV.dat (D.str s))]), (Ent.obj [(AV.dat (D.list LK.nil 0 ([] : Row)))]), (Ent.lrec LS.busy (mkT 0 35 [(3, (AV.ptr (Ref.glob 1) 0)), (11, (AV.fn 73 [(AV.ptr (Ref.glob 0) 0)]))]) [12, 13] asg7 bd7)])) fun x3 =>
 (rAsk (Nat.ble (1 + (ByteArray.size x3)) 9223372036854775807)
 (rAsk (Nat.ble (2 + (ByteArray.size ((ByteArray.mk (List.toArray [42])) ++ x3))) 9223372036854775807)
 (some ((AV.dat (D.bool true)), [(Ent.obj [(AV.dat (D.str s))]), (Ent.obj [(AV.rowc Mode.excl 1 [[(D.str ((ByteArray.mk (List.toArray [(UInt8.ofNat (Int.toNat (((UInt8.toNat x1) : Nat) : Int))), (UInt8.ofNat (Int.toNat (((UInt8.toNat x2) : Nat) : Int)))])) ++ ((ByteArray.mk (List.toArray [42])) ++ x3)))]])]), (Ent.lrec LS.ready (mkT 0 35 [(3, (AV.ptr (Ref.glob 1) 0)), (11, (AV.fn 73 [(AV.ptr (Ref.glob 0) 0)]))]) [12, 13] asg7 bd7)]))
 none)
 none))
 (some ((AV.dat (D.bool true)), [(Ent.obj [(AV.dat (D.str s))]), (Ent.obj [(AV.rowc Mode.excl 1 [[(D.str (ByteArray.mk (List.toArray [(UInt8.ofNat (Int.toNat (((UInt8.toNat x1) : Nat) : Int))), (UInt8.ofNat (Int.toNat (((UInt8.toNat x2) : Nat) : Int)))])))]])]), (Ent.lrec LS.ready (mkT 0 35 [(3, (AV.ptr (Ref.glob 1) 0)), (11, (AV.fn 73 [(AV.ptr (Ref.glob 0) 0)]))]) [12, 13] asg7 bd7)])))))
 none)
  := by kernel_rfl
theorem yr7_eq (s : ByteArray) (l : Row) (c n : Int) : (yr7 s l c n).ev =
 (rAsk (decide ((0 : Int) ≤ (Int.fdiv c (16 : Int))))
 (rGet (ByteArray.mk (List.toArray [48, 49, 50, 51, 52, 53, 54, 55, 56, 57, 97, 98, 99, 100, 101, 102]))[(Int.toNat (Int.fdiv c (16 : Int)))]? fun x1 =>
 (rGet (ByteArray.mk (List.toArray [48, 49, 50, 51, 52, 53, 54, 55, 56, 57, 97, 98, 99, 100, 101, 102]))[(Int.toNat (IntKind.wrap IntKind.u8 (((BitVec.toNat ((BitVec.ofInt 8 c) &&& (BitVec.ofInt 8 (15 : Int)))) : Nat) : Int)))]? fun x2 =>
 (rAsk (decide (n > (1 : Int)))
 (rGet (fnS (fun (zs : ByteArray) => ((AV.dat (D.str zs)), [(Ent.obj [(AV.dat (D.str s))]), (Ent.obj [(AV.rowc Mode.excl 1 l)]), (Ent.lrec LS.busy (mkT 0 35 [(3, (AV.ptr (Ref.glob 1) 0)), (11, (AV.fn 73 [(AV.ptr (Ref.glob 0) 0)]))]) [12, 13] asg7 bd7)])) (S24 [(AV.dat (D.int IntKind.i64 n))] [(Ent.obj [(AV.dat (D.str s))]), (Ent.obj [(AV.rowc Mode.excl 1 l)]), (Ent.lrec LS.busy (mkT 0 35 [(3, (AV.ptr (Ref.glob 1) 0)), (11, (AV.fn 73 [(AV.ptr (Ref.glob 0) 0)]))]) [12, 13] asg7 bd7)])) fun x3 =>
 (rAsk (Nat.ble (1 + (ByteArray.size x3)) 9223372036854775807)
 (rAsk (Nat.ble (2 + (ByteArray.size ((ByteArray.mk (List.toArray [42])) ++ x3))) 9223372036854775807)
 (rAsk ((decide ((0 + (List.length l)) ≤ (List.length l))) && (fits (TI.mk TK.str 1 16 [(AV.dat (D.str (ByteArray.mk (List.toArray []))))] true) ((List.length l) + 1)))
 (rAsk (true && (decide ((List.length l) = (List.length l))))
 (rAsk (wholeB false 0 ((List.length l) + 1) (List.length (l ++ [[(D.str ((ByteArray.mk (List.toArray [(UInt8.ofNat (Int.toNat (((UInt8.toNat x1) : Nat) : Int))), (UInt8.ofNat (Int.toNat (((UInt8.toNat x2) : Nat) : Int)))])) ++ ((ByteArray.mk (List.toArray [42])) ++ x3)))]])))
 (some ((AV.dat (D.bool true)), [(Ent.obj [(AV.dat (D.str s))]), (Ent.obj [(AV.rowc Mode.excl 1 (l ++ [[(D.str ((ByteArray.mk (List.toArray [(UInt8.ofNat (Int.toNat (((UInt8.toNat x1) : Nat) : Int))), (UInt8.ofNat (Int.toNat (((UInt8.toNat x2) : Nat) : Int)))])) ++ ((ByteArray.mk (List.toArray [42])) ++ x3)))]]))]), (Ent.lrec LS.ready (mkT 0 35 [(3, (AV.ptr (Ref.glob 1) 0)), (11, (AV.fn 73 [(AV.ptr (Ref.glob 0) 0)]))]) [12, 13] asg7 bd7)]))
 (some ((AV.dat (D.bool true)), [(Ent.obj [(AV.dat (D.str s))]), (Ent.obj [(AV.dat (D.list LK.any 1 (List.take ((List.length l) + 1) (List.drop 0 (l ++ [[(D.str ((ByteArray.mk (List.toArray [(UInt8.ofNat (Int.toNat (((UInt8.toNat x1) : Nat) : Int))), (UInt8.ofNat (Int.toNat (((UInt8.toNat x2) : Nat) : Int)))])) ++ ((ByteArray.mk (List.toArray [42])) ++ x3)))]])))))]), (Ent.lrec LS.ready (mkT 0 35 [(3, (AV.ptr (Ref.glob 1) 0)), (11, (AV.fn 73 [(AV.ptr (Ref.glob 0) 0)]))]) [12, 13] asg7 bd7)])))
 none)
 none)
 none)
 none))
 (rAsk ((decide ((0 + (List.length l)) ≤ (List.length l))) && (fits (TI.mk TK.str 1 16 [(AV.dat (D.str (ByteArray.mk (List.toArray []))))] true) ((List.length l) + 1)))
 (rAsk (true && (decide ((List.length l) = (List.length l))))
 (rAsk (wholeB false 0 ((List.length l) + 1) (List.length (l ++ [[(D.str (ByteArray.mk (List.toArray [(UInt8.ofNat (Int.toNat (((UInt8.toNat x1) : Nat) : Int))), (UInt8.ofNat (Int.toNat (((UInt8.toNat x2) : Nat) : Int)))])))]])))
 (some ((AV.dat (D.bool true)), [(Ent.obj [(AV.dat (D.str s))]), (Ent.obj [(AV.rowc Mode.excl 1 (l ++ [[(D.str (ByteArray.mk (List.toArray [(UInt8.ofNat (Int.toNat (((UInt8.toNat x1) : Nat) : Int))), (UInt8.ofNat (Int.toNat (((UInt8.toNat x2) : Nat) : Int)))])))]]))]), (Ent.lrec LS.ready (mkT 0 35 [(3, (AV.ptr (Ref.glob 1) 0)), (11, (AV.fn 73 [(AV.ptr (Ref.glob 0) 0)]))]) [12, 13] asg7 bd7)]))
 (some ((AV.dat (D.bool true)), [(Ent.obj [(AV.dat (D.str s))]), (Ent.obj [(AV.dat (D.list LK.any 1 (List.take ((List.length l) + 1) (List.drop 0 (l ++ [[(D.str (ByteArray.mk (List.toArray [(UInt8.ofNat (Int.toNat (((UInt8.toNat x1) : Nat) : Int))), (UInt8.ofNat (Int.toNat (((UInt8.toNat x2) : Nat) : Int)))])))]])))))]), (Ent.lrec LS.ready (mkT 0 35 [(3, (AV.ptr (Ref.glob 1) 0)), (11, (AV.fn 73 [(AV.ptr (Ref.glob 0) 0)]))]) [12, 13] asg7 bd7)])))
 none)
 none))))
 none)
  := by kernel_rfl
theorem rk36n_eq (s : ByteArray) : (rk36n s).ev =
 (rAsk (!((ByteArray.toList s) == []))
 (rGet (fnS (fun (n : Int) => ((AV.dat (D.int IntKind.i64 n)), [(Ent.obj [(AV.dat (D.str s))]), (Ent.obj [(AV.dat (D.list LK.nil 0 ([] : Row)))]), (Ent.lrec LS.ready (mkT 0 35 [(3, (AV.ptr (Ref.glob 1) 0)), (11, (AV.fn 73 [(AV.ptr (Ref.glob 0) 0)]))]) [12, 13] asg7 bd7)])) (P37 [(AV.dat (D.str s))] [(Ent.obj [(AV.dat (D.str s))]), (Ent.obj [(AV.dat (D.list LK.nil 0 ([] : Row)))]), (Ent.lrec LS.ready (mkT 0 35 [(3, (AV.ptr (Ref.glob 1) 0)), (11, (AV.fn 73 [(AV.ptr (Ref.glob 0) 0)]))]) [12, 13] asg7 bd7)])) fun x1 =>
 (rGet s[0]? fun x2 =>
 (rGet (fnS (fun (l : Row) => ((AV.dat (D.bool true)), [(Ent.obj [(AV.dat (D.str s))]), (Ent.obj [(AV.rowc Mode.excl 1 l)]), (Ent.lrec LS.ready (mkT 0 35 [(3, (AV.ptr (Ref.glob 1) 0)), (11, (AV.fn 73 [(AV.ptr (Ref.glob 0) 0)]))]) [12, 13] asg7 bd7)])) (Y7 [(AV.dat (D.int IntKind.u8 (((UInt8.toNat x2) : Nat) : Int))), (AV.dat (D.int IntKind.i64 x1))] [(Ent.obj [(AV.dat (D.str s))]), (Ent.obj [(AV.dat (D.list LK.nil 0 ([] : Row)))]), (Ent.lrec LS.ready (mkT 0 35 [(3, (AV.ptr (Ref.glob 1) 0)), (11, (AV.fn 73 [(AV.ptr (Ref.glob 0) 0)]))]) [12, 13] asg7 bd7)])) fun x3 =>
 (rAsk ((decide ((0 : Int) ≤ x1)) && ((decide (x1 ≤ (((ByteArray.size s) : Nat) : Int))) && (decide ((((ByteArray.size s) : Nat) : Int) ≤ (((ByteArray.size s) : Nat) : Int)))))
 (some (Ex.norm, (St.mk (mkT 0 17 [(0, (AV.yld 2)), (1, (AV.ptr (Ref.glob 0) 0))]) (Mem.mk [] [(Ent.obj [(AV.dat (D.str (ByteArray.extract s (Int.toNat x1) (Int.toNat (((ByteArray.size s) : Nat) : Int)))))]), (Ent.obj [(AV.rowc Mode.excl 1 x3)]), (Ent.lrec LS.ready (mkT 0 35 [(3, (AV.ptr (Ref.glob 1) 0)), (11, (AV.fn 73 [(AV.ptr (Ref.glob 0) 0)]))]) [12, 13] asg7 bd7)] 0))))
 none))))
 (some ((Ex.exit 0), (St.mk (mkT 0 17 []) (Mem.mk [] [(Ent.obj [(AV.dat (D.str s))]), (Ent.obj [(AV.dat (D.list LK.nil 0 ([] : Row)))]), (Ent.lrec LS.ready (mkT 0 35 [(3, (AV.ptr (Ref.glob 1) 0)), (11, (AV.fn 73 [(AV.ptr (Ref.glob 0) 0)]))]) [12, 13] asg7 bd7)] 0)))))
  := by kernel_rfl
theorem rk36r_eq (s : ByteArray) (l : Row) : (rk36r s l).ev =
 (rAsk (!((ByteArray.toList s) == []))
 (rGet (fnS (fun (n : Int) => ((AV.dat (D.int IntKind.i64 n)), [(Ent.obj [(AV.dat (D.str s))]), (Ent.obj [(AV.rowc Mode.excl 1 l)]), (Ent.lrec LS.ready (mkT 0 35 [(3, (AV.ptr (Ref.glob 1) 0)), (11, (AV.fn 73 [(AV.ptr (Ref.glob 0) 0)]))]) [12, 13] asg7 bd7)])) (P37 [(AV.dat (D.str s))] [(Ent.obj [(AV.dat (D.str s))]), (Ent.obj [(AV.rowc Mode.excl 1 l)]), (Ent.lrec LS.ready (mkT 0 35 [(3, (AV.ptr (Ref.glob 1) 0)), (11, (AV.fn 73 [(AV.ptr (Ref.glob 0) 0)]))]) [12, 13] asg7 bd7)])) fun x1 =>
 (rGet s[0]? fun x2 =>
 (rGet (fnS (fun (l : Row) => ((AV.dat (D.bool true)), [(Ent.obj [(AV.dat (D.str s))]), (Ent.obj [(AV.rowc Mode.excl 1 l)]), (Ent.lrec LS.ready (mkT 0 35 [(3, (AV.ptr (Ref.glob 1) 0)), (11, (AV.fn 73 [(AV.ptr (Ref.glob 0) 0)]))]) [12, 13] asg7 bd7)])) (Y7 [(AV.dat (D.int IntKind.u8 (((UInt8.toNat x2) : Nat) : Int))), (AV.dat (D.int IntKind.i64 x1))] [(Ent.obj [(AV.dat (D.str s))]), (Ent.obj [(AV.rowc Mode.excl 1 l)]), (Ent.lrec LS.ready (mkT 0 35 [(3, (AV.ptr (Ref.glob 1) 0)), (11, (AV.fn 73 [(AV.ptr (Ref.glob 0) 0)]))]) [12, 13] asg7 bd7)])) fun x3 =>
 (rAsk ((decide ((0 : Int) ≤ x1)) && ((decide (x1 ≤ (((ByteArray.size s) : Nat) : Int))) && (decide ((((ByteArray.size s) : Nat) : Int) ≤ (((ByteArray.size s) : Nat) : Int)))))
 (some (Ex.norm, (St.mk (mkT 0 17 [(0, (AV.yld 2)), (1, (AV.ptr (Ref.glob 0) 0))]) (Mem.mk [] [(Ent.obj [(AV.dat (D.str (ByteArray.extract s (Int.toNat x1) (Int.toNat (((ByteArray.size s) : Nat) : Int)))))]), (Ent.obj [(AV.rowc Mode.excl 1 x3)]), (Ent.lrec LS.ready (mkT 0 35 [(3, (AV.ptr (Ref.glob 1) 0)), (11, (AV.fn 73 [(AV.ptr (Ref.glob 0) 0)]))]) [12, 13] asg7 bd7)] 0))))
 none))))
 (some ((Ex.exit 0), (St.mk (mkT 0 17 []) (Mem.mk [] [(Ent.obj [(AV.dat (D.str s))]), (Ent.obj [(AV.rowc Mode.excl 1 l)]), (Ent.lrec LS.ready (mkT 0 35 [(3, (AV.ptr (Ref.glob 1) 0)), (11, (AV.fn 73 [(AV.ptr (Ref.glob 0) 0)]))]) [12, 13] asg7 bd7)] 0)))))
  := by kernel_rfl
theorem f36t_eq (s : ByteArray) (c1 : AV) : (f36t s c1).ev =
 (rGet (loS TT (TOrc.runs t36) (HSs 36) lp36 out36 (St.mk (mkT 0 17 [(0, (AV.yld 2)), (1, (AV.ptr (Ref.glob 0) 0))]) (Mem.mk [] [(Ent.obj [(AV.dat (D.str s))]), (Ent.obj [c1]), (Ent.lrec LS.ready (mkT 0 35 [(3, (AV.ptr (Ref.glob 1) 0)), (11, (AV.fn 73 [(AV.ptr (Ref.glob 0) 0)]))]) [12, 13] asg7 bd7)] 0))) fun x1 =>
 (some ((AV.tup []), x1)))
  := by kernel_rfl
theorem f7t_eq (s : ByteArray) : (f7t s).ev =
 (rAsk (!((((ByteArray.size s) : Nat) : Int) == (64 : Int)))
 (some ((AV.dat (D.str (ByteArray.mk (List.toArray [])))), []))
 (rGet (fnS (fun (p : ByteArray × Row) => ((AV.tup []), [(Ent.obj [(AV.dat (D.str p.1))]), (Ent.obj [(AV.rowc Mode.excl 1 p.2)]), (Ent.lrec LS.ready (mkT 0 35 [(3, (AV.ptr (Ref.glob 1) 0)), (11, (AV.fn 73 [(AV.ptr (Ref.glob 0) 0)]))]) [12, 13] asg7 bd7)])) (R36 [(AV.yld 2), (AV.ptr (Ref.glob 0) 0)] [(Ent.obj [(AV.dat (D.str s))]), (Ent.obj [(AV.dat (D.list LK.nil 0 ([] : Row)))]), (Ent.lrec LS.ready (mkT 0 35 [(3, (AV.ptr (Ref.glob 1) 0)), (11, (AV.fn 73 [(AV.ptr (Ref.glob 0) 0)]))]) [12, 13] asg7 bd7)])) fun x1 =>
 (rGet (fnS (fun (zs : ByteArray) => ((AV.dat (D.str zs)), [(Ent.obj [(AV.dat (D.str x1.1))]), (Ent.obj [(AV.rowc Mode.own 1 x1.2)]), Ent.gone])) (S25 [(AV.dat (D.list LK.any 1 (List.take (List.length x1.2) (List.drop 0 x1.2)))), (AV.dat (D.str (ByteArray.mk (List.toArray [32]))))] [(Ent.obj [(AV.dat (D.str x1.1))]), (Ent.obj [(AV.rowc Mode.own 1 x1.2)]), Ent.gone])) fun x2 =>
 (some ((AV.dat (D.str x2)), [(Ent.obj [(AV.dat (D.str x1.1))]), (Ent.obj [(AV.rowc Mode.own 1 x1.2)]), Ent.gone])))))
  := by kernel_rfl

theorem out37_inj : ∀ x y, out37 x = out37 y → x = y := by
  intro x y h
  simp [out37, jn, mkT] at h
  exact h
theorem out36_inj : ∀ x y, out36 x = out36 y → x = y := by
  intro x y h
  simp [out36] at h
  exact h

theorem loop37 {c : UInt8} {l : List UInt8} (hl : l.length < 9223372036854775807) : LoopTo TT tNone.runs (HSs 37) lp37 (inv37 (ba (c :: l)) 1) (out37 (longN (c :: l) : Nat)) := by
  have key := LoopTo.count (T := TT) (orc := tNone) (H := HSs 37) (lo := noLo) (b := lp37) (LoOk2.no _) (N := (l.takeWhile (· == c)).length) (inv := fun i => inv37 (ba (c :: l)) ((1 + i : Nat) : Int)) (ex := .exit 0) (s := (out37 (longN (c :: l) : Nat)).2)
    (fun i hi => ?_) ?_ (by simp [out37]) (l.takeWhile (· == c)).length 0 (by omega)
  · exact key
  · show (rk37 (ba (c :: l)) ((1 + i : Nat) : Int)).run = _
    rw [← Tr.ev_run, rk37_eq]
    obtain ⟨x, h1, h2⟩ := tw_eq _ l i hi
    have hlt : i < l.length := (List.getElem?_eq_some_iff.1 h1).1
    obtain rfl : x = c := by simpa using h2
    have e1 : (ba (x :: l))[1 + i]? = some x := by
      rw [ba_at (by simp; omega)]
      have : (x :: l)[1 + i]? = some x := by rw [Nat.add_comm]; simpa using h1
      rw [List.getElem?_eq_getElem (by simp; omega)] at this
      exact this
    have hw : IntKind.wrap .i64 (((1 + i : Nat) : Int) + 1) = ((1 + (i + 1) : Nat) : Int) := by rw [IntKind.wrap_i64]; omega
    rw [ba_sz]
    refine aT (by rw [decide_eq_true_eq, List.length_cons]; omega) (aT (by rw [decide_eq_true_eq]; omega) (gStep (x := x) (by rw [Int.toNat_natCast]; exact e1) (gStep (x := x) (ba_at (i := 0) (by simp)) (aT (beq_self_eq_true _) ?_))))
    rw [hw]
    rfl
  · show (rk37 (ba (c :: l)) ((1 + (l.takeWhile (· == c)).length : Nat) : Int)).run = _
    rw [← Tr.ev_run, rk37_eq, ba_sz]
    by_cases hlt : (l.takeWhile (· == c)).length < l.length
    · have h1 : l[(l.takeWhile (· == c)).length]? = some l[(l.takeWhile (· == c)).length] := List.getElem?_eq_getElem hlt
      have h2 := tw_end _ l _ h1
      generalize l[(l.takeWhile (· == c)).length] = x at h1 h2
      have e1 : (ba (c :: l))[1 + (l.takeWhile (· == c)).length]? = some x := by
        rw [ba_at (by simp; omega)]
        have : (c :: l)[1 + (l.takeWhile (· == c)).length]? = some x := by rw [Nat.add_comm]; simpa using h1
        rw [List.getElem?_eq_getElem (by simp; omega)] at this
        exact this
      refine aT (by rw [decide_eq_true_eq, List.length_cons]; omega) (aT (by rw [decide_eq_true_eq]; omega) (gStep (x := x) (by rw [Int.toNat_natCast]; exact e1) (gStep (x := c) (ba_at (i := 0) (by simp)) (aF ?_ rfl))))
      rw [Bool.eq_false_iff]
      exact fun h => by
        rw [(u8_eq x c).1 h] at h2
        simp at h2
    · exact aF (by rw [decide_eq_false_iff_not, List.length_cons]; omega) rfl

attribute [local irreducible] loS
theorem q37 {c : UInt8} {l : List UInt8} (hl : l.length < 9223372036854775807) : R37 [.dat (.str (ba (c :: l)))] [] = some (oI [] (longN (c :: l) : Nat)) := by
  show (f37t (ba (c :: l))).run = _
  rw [← Tr.ev_run, f37t_eq]
  exact gStep (loS_eq out37_inj (loop37 hl)) rfl

theorem p37 {c : UInt8} {l : List UInt8} {G : List Ent} (hl : l.length < 9223372036854775807) : P37 [.dat (.str (ba (c :: l)))] G = some (oI G (longN (c :: l) : Nat)) := pureS_eq rfl (q37 hl) rfl

/-! ### the body of the range -/
theorem low_all : (List.range 256).all (fun k => decide (Int.toNat (IntKind.wrap IntKind.u8 (((BitVec.toNat ((BitVec.ofInt 8 ((k : Nat) : Int)) &&& (BitVec.ofInt 8 (15 : Int)))) : Nat) : Int)) = k % 16)) = true := by kernel_rfl
theorem tab_all : (List.range 16).all (fun k => (ByteArray.mk (List.toArray [48, 49, 50, 51, 52, 53, 54, 55, 56, 57, 97, 98, 99, 100, 101, 102]))[k]? == some (hx k)) = true := by kernel_rfl
theorem tab_at {k : Nat} (h : k < 16) : (ByteArray.mk (List.toArray [48, 49, 50, 51, 52, 53, 54, 55, 56, 57, 97, 98, 99, 100, 101, 102]))[k]? = some (hx k) :=
  eq_of_beq (List.all_eq_true.1 tab_all k (List.mem_range.2 h))
theorem low_at (x : UInt8) : Int.toNat (IntKind.wrap IntKind.u8 (((BitVec.toNat ((BitVec.ofInt 8 ((x.toNat : Nat) : Int)) &&& (BitVec.ofInt 8 (15 : Int)))) : Nat) : Int)) = x.toNat % 16 :=
  of_decide_eq_true (List.all_eq_true.1 low_all x.toNat (List.mem_range.2 x.toNat_lt))
theorem high_at (x : UInt8) : Int.toNat (Int.fdiv ((x.toNat : Nat) : Int) 16) = x.toNat / 16 := by
  rw [Int.fdiv_eq_ediv_of_nonneg _ (by decide)]
  omega
theorem dec_all : (List.range 100).all (fun n => decide ((Go.Lib.decDigits n).length ≤ 2)) = true := by kernel_rfl
theorem dec_len {n : Nat} (h : n < 100) : (Go.Lib.decDigits n).length ≤ 2 := of_decide_eq_true (List.all_eq_true.1 dec_all n (List.mem_range.2 h))
theorem ba_app (a b : List UInt8) : ba a ++ ba b = ba (a ++ b) := by
  apply ByteArray.ext
  simp [ba]
theorem u8_back (x : UInt8) : UInt8.ofNat (Int.toNat ((x.toNat : Nat) : Int)) = x := by simp
theorem S24_at {n : Nat} (h : n < 100) (G : List Ent) : S24 [.dat (.int .i64 n)] G = some (oS G (ba (Go.Lib.decDigits n))) := by
  simp only [S24, sItoaA]
  rw [if_pos (by omega), Go.Lib.itoa, if_neg (by omega), Int.toNat_natCast]
  rfl
theorem word_end (x : UInt8) (n : Nat) (b1 b2 : UInt8) (h1 : hx (x.toNat / 16) = b1) (h2 : hx (x.toNat % 16) = b2) :
    (if n > 1 then ByteArray.mk (List.toArray [UInt8.ofNat (Int.toNat ((b1.toNat : Nat) : Int)), UInt8.ofNat (Int.toNat ((b2.toNat : Nat) : Int))]) ++ (ByteArray.mk (List.toArray [42]) ++ ba (Go.Lib.decDigits n))
      else ByteArray.mk (List.toArray [UInt8.ofNat (Int.toNat ((b1.toNat : Nat) : Int)), UInt8.ofNat (Int.toNat ((b2.toNat : Nat) : Int))])) = ba (wordB x n) := by
  subst h1 h2
  simp only [u8_back, wordB, hexB]
  split
  · show ba _ ++ (ba _ ++ ba _) = _
    rw [ba_app, ba_app]
    rfl
  · simp only [List.append_nil]
    rfl
attribute [local irreducible] S24 fnS
theorem y7r {s : ByteArray} {l : Row} {x : UInt8} {n : Nat} (hn : n ≤ 64) (hl : l.length ≤ 64) :
    Y7 [.dat (.int .u8 (x.toNat : Nat)), jn n] (G7 s (.rowc .excl 1 l)) = some (oYl (G7 s (.rowc .excl 1 l)) (l ++ [[.str (ba (wordB x n))]])) := by
  show (yr7 s l (x.toNat : Nat) n).run = _
  rw [← Tr.ev_run, yr7_eq]
  have hx1 := x.toNat_lt
  refine aT (by rw [decide_eq_true_eq, Int.fdiv_eq_ediv_of_nonneg _ (by decide)]; omega) (gStep (x := hx (x.toNat / 16)) (by rw [high_at]; exact tab_at (by omega)) (gStep (x := hx (x.toNat % 16)) (by rw [low_at]; exact tab_at (by omega)) ?_))
  have hf : ∀ (a : Bool), a = true → ((decide ((0 + l.length) ≤ l.length)) && (fits (TI.mk TK.str 1 16 [(AV.dat (D.str (ByteArray.mk (List.toArray []))))] true) (l.length + 1))) = a := by
    rintro _ rfl
    rw [Nat.zero_add, Bool.and_eq_true, fits_iff]
    exact ⟨decide_eq_true (Nat.le_refl _), by omega, by omega⟩
  have hd := dec_len (n := n) (by omega)
  have hw := word_end x n _ _ rfl rfl
  by_cases h : n > 1
  · rw [if_pos h] at hw
    have hs := ba_sz (Go.Lib.decDigits n)
    refine aT (by rw [decide_eq_true_eq]; omega) (gStep (fnS_eq oS_inj (S24_at (by omega) _)) (aT (Nat.ble_eq_true_of_le (by omega)) (aT (Nat.ble_eq_true_of_le ?_) (aT (hf _ rfl) (aT (by simp) (aT ?_ ?_))))))
    · rw [show ByteArray.mk (List.toArray [42]) = ba [42] from rfl, ba_app, ba_sz, List.length_append]
      simp only [List.length_singleton]
      omega
    · rw [whole_iff]
      simp
    · rw [hw]
      rfl
  · rw [if_neg h] at hw
    refine aF (by rw [decide_eq_false_iff_not]; omega) (aT (hf _ rfl) (aT (by simp) (aT ?_ ?_)))
    · rw [whole_iff]
      simp
    · rw [hw]
      rfl
theorem y7n {s : ByteArray} {x : UInt8} {n : Nat} (hn : n ≤ 64) :
    Y7 [.dat (.int .u8 (x.toNat : Nat)), jn n] (G7 s (.dat (.list .nil 0 []))) = some (oYl (G7 s (.dat (.list .nil 0 []))) [[.str (ba (wordB x n))]]) := by
  show (yn7 s (x.toNat : Nat) n).run = _
  rw [← Tr.ev_run, yn7_eq]
  have hx1 := x.toNat_lt
  refine aT (by rw [decide_eq_true_eq, Int.fdiv_eq_ediv_of_nonneg _ (by decide)]; omega) (gStep (x := hx (x.toNat / 16)) (by rw [high_at]; exact tab_at (by omega)) (gStep (x := hx (x.toNat % 16)) (by rw [low_at]; exact tab_at (by omega)) ?_))
  have hd := dec_len (n := n) (by omega)
  have hw := word_end x n _ _ rfl rfl
  by_cases h : n > 1
  · rw [if_pos h] at hw
    have hs := ba_sz (Go.Lib.decDigits n)
    refine aT (by rw [decide_eq_true_eq]; omega) (gStep (fnS_eq oS_inj (S24_at (by omega) _)) (aT (Nat.ble_eq_true_of_le (by omega)) (aT (Nat.ble_eq_true_of_le ?_) ?_)))
    · rw [show ByteArray.mk (List.toArray [42]) = ba [42] from rfl, ba_app, ba_sz, List.length_append]
      simp only [List.length_singleton]
      omega
    · rw [hw]
      rfl
  · rw [if_neg h] at hw
    refine aF (by rw [decide_eq_false_iff_not]; omega) ?_
    rw [hw]
    rfl

/-! ### the range -/
theorem oYl_injS {s : ByteArray} {c1 : AV} : ∀ x y, oYl (G7 s c1) x = oYl (G7 s c1) y → x = y := by
  intro x y h
  simp [oYl, G7] at h
  exact h
theorem ne_nil (c : UInt8) (l : List UInt8) : (!((ba (c :: l)).toList == [])) = true := by rw [ba_list]; rfl
theorem ba_cut {l : List UInt8} {n : Nat} (_h : n ≤ l.length) : (ba l).extract (Int.toNat ((n : Nat) : Int)) (Int.toNat (((ba l).size : Nat) : Int)) = ba (l.drop n) := by
  rw [Int.toNat_natCast, Int.toNat_natCast, ba_sz, ba_drop]
attribute [local irreducible] P37 Y7
theorem loop36r : ∀ (k : Nat) (l : List UInt8) (r : Row), l.length ≤ k → r.length + l.length ≤ 64 →
    LoopTo TT t36.runs (HSs 36) lp36 (inv36 (ba l) (.rowc .excl 1 r)) (out36 (G7 (ba []) (.rowc .excl 1 (r ++ sRow (wordsB k l)))))
  | k, [], r, _, _ => by
    refine LoopTo.last (orc := t36) (lo := noLo) (fun _ _ _ _ h => h) (LoOk2.no _) ?_ (by simp [out36])
    show (rk36r (ba []) r).run = _
    rw [← Tr.ev_run, rk36r_eq]
    refine aF (by rw [ba_list]; rfl) ?_
    have : wordsB k [] = [] := by cases k <;> rfl
    rw [this, sRow, List.map_nil, List.append_nil]
    rfl
  | 0, c :: l, r, h, _ => by simp at h
  | k + 1, c :: l, r, h, hr => by
    have h1 := longN_le c l
    have h2 : 1 ≤ longN (c :: l) := by simp [longN]
    simp only [List.length_cons] at h hr
    have step : (rk36r (ba (c :: l)) r).run = some (.norm, inv36 (ba ((c :: l).drop (longN (c :: l)))) (.rowc .excl 1 (r ++ [[.str (ba (wordB c (longN (c :: l))))]]))) := by
      rw [← Tr.ev_run, rk36r_eq]
      refine aT (ne_nil c l) (gStep (fnS_eq oI_inj (p37 (by omega))) (gStep (x := c) (ba_at (i := 0) (by simp)) (gStep (fnS_eq (out := oYl (G7 (ba (c :: l)) (.rowc .excl 1 r))) oYl_injS (y7r (by omega) (by omega))) (aT ?_ ?_))))
      · rw [ba_sz]
        simp only [List.length_cons, Bool.and_eq_true, decide_eq_true_eq]
        omega
      · rw [ba_cut (by simp only [List.length_cons]; omega)]
        rfl
    have ih := loop36r k ((c :: l).drop (longN (c :: l))) (r ++ [[.str (ba (wordB c (longN (c :: l))))]]) (by simp only [List.length_drop, List.length_cons]; omega) (by simp only [List.length_drop, List.length_cons, List.length_append, List.length_nil]; omega)
    have e : r ++ sRow (wordsB (k + 1) (c :: l)) = (r ++ [[.str (ba (wordB c (longN (c :: l))))]]) ++ sRow (wordsB k ((c :: l).drop (longN (c :: l)))) := by
      simp [wordsB, runsF, sRow]
    rw [e]
    exact LoopTo.more (orc := t36) (lo := noLo) (fun _ _ _ _ h => h) (LoOk2.no _) step ih
theorem loop36 {c : UInt8} {l : List UInt8} (h : l.length + 1 ≤ 64) :
    LoopTo TT t36.runs (HSs 36) lp36 (inv36 (ba (c :: l)) (.dat (.list .nil 0 []))) (out36 (G7 (ba []) (.rowc .excl 1 (sRow (wordsB 64 (c :: l)))))) := by
  have h1 := longN_le c l
  have h2 : 1 ≤ longN (c :: l) := by simp [longN]
  have step : (rk36n (ba (c :: l))).run = some (.norm, inv36 (ba ((c :: l).drop (longN (c :: l)))) (.rowc .excl 1 [[.str (ba (wordB c (longN (c :: l))))]])) := by
    rw [← Tr.ev_run, rk36n_eq]
    refine aT (ne_nil c l) (gStep (fnS_eq oI_inj (p37 (by omega))) (gStep (x := c) (ba_at (i := 0) (by simp)) (gStep (fnS_eq (out := oYl (G7 (ba (c :: l)) (.dat (.list .nil 0 [])))) oYl_injS (y7n (by omega))) (aT ?_ ?_))))
    · rw [ba_sz]
      simp only [List.length_cons, Bool.and_eq_true, decide_eq_true_eq]
      omega
    · rw [ba_cut (by simp only [List.length_cons]; omega)]
      rfl
  have ih := loop36r 63 ((c :: l).drop (longN (c :: l))) [[.str (ba (wordB c (longN (c :: l))))]] (by simp only [List.length_drop, List.length_cons]; omega) (by simp only [List.length_drop, List.length_cons, List.length_nil]; omega)
  have e : sRow (wordsB 64 (c :: l)) = [[.str (ba (wordB c (longN (c :: l))))]] ++ sRow (wordsB 63 ((c :: l).drop (longN (c :: l)))) := by
    simp [wordsB, runsF, sRow]
  rw [e]
  exact LoopTo.more (orc := t36) (lo := noLo) (fun _ _ _ _ h => h) (LoOk2.no _) step ih
theorem r36 {c : UInt8} {l : List UInt8} (h : l.length + 1 ≤ 64) :
    R36 [.yld 2, .ptr (.glob 0) 0] (G7 (ba (c :: l)) (.dat (.list .nil 0 []))) = some (o36 [] (ba [], sRow (wordsB 64 (c :: l)))) := by
  show (f36t (ba (c :: l)) (.dat (.list .nil 0 []))).run = _
  rw [← Tr.ev_run, f36t_eq]
  exact gStep (loS_eq out36_inj (loop36 h)) rfl

theorem o36_inj : ∀ x y, o36 [] x = o36 [] y → x = y := by
  rintro ⟨a, b⟩ ⟨c, d⟩ h
  simp [o36, G7] at h
  obtain ⟨rfl, rfl⟩ := h
  rfl
/-! ### Short -/
theorem rowStrs_sRow : ∀ ws : List (List UInt8), rowStrs (sRow ws) = some (ws.map ba)
  | [] => rfl
  | w :: ws => by
    simp only [sRow, List.map_cons, rowStrs]
    rw [show rowStrs (ws.map fun w => [D.str (ba w)]) = some (ws.map ba) from rowStrs_sRow ws]
    rfl
theorem S25_at {w : List UInt8} {ws : List (List UInt8)} (h : ws.length + 1 ≤ 64) (hl : (Go.Lib.join (w :: ws) [32]).length ≤ 140737488355328) (G : List Ent) :
    S25 [.dat (.list .any 1 (List.take (List.length (sRow (w :: ws))) (List.drop 0 (sRow (w :: ws))))), .dat (.str (ByteArray.mk (List.toArray [32])))] G = some (oS G (ba (Go.Lib.join (w :: ws) [32]))) := by
  rw [List.drop_zero, List.take_length]
  have e1 : ((w :: ws).map ba).map (·.data.toList) = w :: ws := by
    rw [List.map_map]
    exact (List.map_congr_left fun x _ => rfl).trans (List.map_id _)
  simp only [S25, sJoin]
  rw [rowStrs_sRow]
  simp only [List.map_cons] at e1 ⊢
  rw [if_pos]
  · simp only [List.map_cons, e1]
    rfl
  · refine ⟨by simp, by simp only [List.length_cons, List.length_map]; omega, ?_⟩
    simp only [List.map_cons, e1]
    exact hl
attribute [local irreducible] S25 R36
theorem q7 (l : List UInt8) : ∃ G', R7 [.dat (.str (ba l))] [] = some (.dat (.str (ba (shortB l))), G') := by
  have key : ∀ o, (f7t (ba l)).ev = o → R7 [.dat (.str (ba l))] [] = o := fun o h => by
    rw [Tr.ev_run] at h
    exact h
  by_cases h : l.length = 64
  · obtain ⟨c, l, rfl⟩ : ∃ c l', l = c :: l' := by cases l with
      | nil => simp at h
      | cons c l => exact ⟨c, l, rfl⟩
    simp only [List.length_cons] at h
    obtain ⟨w, ws, e⟩ := words_ne (l := c :: l) (by simp [h])
    have hl := (short_len (l := c :: l) (by simp [h])).1
    rw [shortB, if_pos (by simp [h]), e] at hl
    have hws : ws.length + 1 ≤ 64 := by
      rw [Go.Lib.join_length] at hl
      have h3 := runs_le 64 (c :: l)
      have h1 := lens_words (runsF 64 (c :: l)) (fun p hp => by have := runs_le 64 _ p hp; simp only [List.length_cons] at this; omega)
      have e2 : (runsF 64 (c :: l)).map (fun p => wordB p.1 p.2) = w :: ws := e
      have e3 : (runsF 64 (c :: l)).length = ws.length + 1 := by rw [← List.length_map (f := fun p => wordB p.1 p.2), e2, List.length_cons]
      have h4 : ∀ (ps : List (UInt8 × Nat)), (∀ p ∈ ps, 1 ≤ p.2) → ps.length ≤ ((ps.map fun p => List.replicate p.2 p.1).flatten).length := by
        intro ps
        induction ps with
        | nil => intro _; simp
        | cons p ps ih =>
          intro hp
          have := ih fun q hq => hp q (by simp [hq])
          have h5 := hp p (by simp)
          simp only [List.map_cons, List.flatten_cons, List.length_append, List.length_replicate, List.length_cons]
          omega
      have h6 := h4 (runsF 64 (c :: l)) fun p hp => (h3 p hp).1
      rw [runs_flat 64 (c :: l) (by simp only [List.length_cons]; omega), e3] at h6
      simp only [List.length_cons] at h6
      omega
    have h36 := r36 (c := c) (l := l) (by omega)
    rw [e] at h36
    refine ⟨[.obj [.dat (.str (ba []))], .obj [.rowc .own 1 (sRow (w :: ws))], .gone], key _ ?_⟩
    rw [f7t_eq]
    refine aF (by rw [ba_sz]; simp [h]) (gStep (fnS_eq (out := o36 []) (b := (ba [], sRow (w :: ws))) o36_inj h36) (gStep (fnS_eq oS_inj (S25_at hws (by omega) _)) ?_))
    rw [shortB, if_pos (by simp [h]), e]
  · refine ⟨[], key _ ?_⟩
    rw [f7t_eq]
    refine aT ?_ ?_
    · rw [ba_sz]
      simp only [Bool.not_eq_true', beq_eq_false_iff_ne, ne_eq]
      omega
    · rw [shortB, if_neg h]
      rfl
theorem p7 {l : List UInt8} {G : List Ent} : pureS R7 [.dat (.str (ba l))] G = some (oS G (ba (shortB l))) := by
  obtain ⟨G', h⟩ := q7 l
  exact pureS_eq rfl h rfl

end Go.Eng
end

/- Sectors as short texts: the document's, as trees. -/
section
namespace Go.Eng
open Go
set_option maxRecDepth 100000

/-! numbers and bytes as texts: by closed evaluation -/
def strOf (o : Option AV) : Option (List UInt8) := match o with
  | some (.dat (.str s)) => some s.data.toList
  | _ => none
noncomputable def P31 := pureS (E 39)
noncomputable def P32 := pureS (E 40)

def HSr (f : Nat) : Nat → List Nat := match f with
  | 10 => hOfS [(5, [0, 3, 4]), (1000005, [3]), (7, [0, 3, 4, 5]), (1000007, [0, 3, 4, 5])]
  | _ => fun _ => []
noncomputable def t10 : TOrc := tCons 23 (fun a G => t8 23 a G) (tCons 39 (fun a G => tspec (oS G) (P31 a G)) (tCons 40 (fun a G => tspec (oS G) (P32 a G)) tNone))
noncomputable def lp10 : Code := lpOf (codeOf Go.Proofs.Tryz.f27) 0
noncomputable def lp10b : Code := lpOf lp10 0
def inv10b (s acc : ByteArray) (i n : Int) : St := ⟨mkT 0 55 [(0, .dat (.str s)), (3, .dat (.str acc)), (4, jn i), (5, jn n)], ⟨[], [], 0⟩⟩
def out10b (a0 a3 a4 : AV) (n : Int) : Ex × St := (.exit 2, ⟨mkT 0 55 [(0, a0), (3, a3), (4, a4), (5, jn n)], ⟨[], [], 0⟩⟩)
noncomputable def rk10b (s acc : ByteArray) (i n : Int) : Tr (Ex × St) := tround TT t10 noLo (HSr 10) lp10b (inv10b s acc i n)
noncomputable def lo10b (n : Nat) (st : St) : Tr (Ex × St) := match n with
  | 7 => tlo TT t10.runs (HSr 10) lp10b (out10b (st.tmps.getD 0 .dead) (st.tmps.getD 3 .dead) (st.tmps.getD 4 .dead)) st
  | _ => .fail
def inv10 (s acc : ByteArray) (i : Int) : St := ⟨mkT 0 55 [(0, .dat (.str s)), (3, .dat (.str acc)), (4, jn i)], ⟨[], [], 0⟩⟩
def out10 (acc : ByteArray) : Ex × St := (.exit 0, ⟨mkT 0 55 [(3, .dat (.str acc))], ⟨[], [], 0⟩⟩)
noncomputable def rk10 (s acc : ByteArray) (i : Int) : Tr (Ex × St) := tround TT t10 lo10b (HSr 10) lp10 (inv10 s acc i)
noncomputable def lo10 (n : Nat) (st : St) : Tr (Ex × St) := match n with
  | 5 => tlo TT t10.runs (HSr 10) lp10 out10 st
  | _ => .fail
noncomputable def f10t (s : ByteArray) : Tr (AV × List Ent) := tfn TT t10 lo10 Go.Proofs.Tryz.f27 [.dat (.str s)] []
noncomputable def R10 (a : List AV) (G : List Ent) : Option (AV × List Ent) := (tfn TT t10 lo10 Go.Proofs.Tryz.f27 a G).run
end Go.Eng
end

/- Sectors out of short texts: the program's, as trees. -/
section
namespace Go.Eng
open Go
set_option maxRecDepth 100000

noncomputable def S26 : Spec := sSplit1
noncomputable def S33 : Spec := sRepeat
noncomputable def S43 : Spec := sCut1
noncomputable def S44 : Spec := sIndexByte
noncomputable def S45 : Spec := sAtoiA
noncomputable def P7 := pureS R7
def oC (G : List Ent) (p : ByteArray × ByteArray × Bool) : AV × List Ent := (.tup [.dat (.str p.1), .dat (.str p.2.1), .dat (.bool p.2.2)], G)
def oAo (G : List Ent) (n : Int) : AV × List Ent := (.tup [jn n, .nili], G)
def oAe (G : List Ent) (n : Int) : AV × List Ent := (.tup [jn n, .err], G)
def oPt (G : List Ent) (p : ByteArray × Bool) : AV × List Ent := (.tup [.dat (.str p.1), .dat (.bool p.2)], G)
def oRw (G : List Ent) (zr : Row) : AV × List Ent := (.dat (.list .full 1 zr), G)
noncomputable def t27 : TOrc := tCons 85 (fun a G => tspec (oS G) (S33 a G)) (tCons 61 (fun a G => tspec (oC G) (S43 a G)) (tCons 84 (fun a G => tspec (oI G) (S44 a G)) (tCons 62 (fun a G => tspec2 (oAo G) (oAe G) (S45 a G)) tNone)))
noncomputable def f27t (s : ByteArray) : Tr (AV × List Ent) := tfn TT t27 noLo Go.Proofs.Tryz.f64 [.dat (.str s)] []
noncomputable def R27 (a : List AV) (G : List Ent) : Option (AV × List Ent) := (tfn TT t27 noLo Go.Proofs.Tryz.f64 a G).run
noncomputable def P27 := pureS R27

def HSl (f : Nat) : Nat → List Nat := match f with
  | 8 => hOfS [(3, [0, 4, 10, 11, 12]), (1000003, [0, 2, 3, 4])]
  | _ => fun _ => []
noncomputable def t8l : TOrc := tCons 63 (fun a G => tspec (oRw G) (S26 a G)) (tCons 64 (fun a G => tspec (oPt G) (P27 a G)) (tCons 33 (fun a G => tspec (oS G) (P7 a G)) tNone))
noncomputable def lp8 : Code := lpOf (codeOf Go.Proofs.Tryz.f45) 0
def inv8 (s acc : ByteArray) (l : Row) (m i : Int) : St := ⟨mkT 0 44 [(0, .dat (.str s)), (4, .dat (.str acc)), (10, .dat (.list .full 1 l)), (11, jn m), (12, jn i)], ⟨[], [], 0⟩⟩
noncomputable def rk8 (s acc : ByteArray) (l : Row) (m i : Int) : Tr (Ex × St) := tround TT t8l noLo (HSl 8) lp8 (inv8 s acc l m i)
def out8a (a0 : AV) (acc : ByteArray) : Ex × St := (.exit 0, ⟨mkT 0 44 [(0, a0), (4, .dat (.str acc))], ⟨[], [], 0⟩⟩)
def out8b (a0 : AV) (acc : ByteArray) : Ex × St := (.ret, ⟨mkT 0 44 [(0, a0), (2, .dat (.str ⟨#[]⟩)), (3, .dat (.int .i64 6)), (4, .dat (.str acc))], ⟨[], [], 0⟩⟩)
noncomputable def lo8 (n : Nat) (st : St) : Tr (Ex × St) := match n with
  | 3 => tlo2 TT t8l.runs (HSl 8) lp8 (out8a (st.tmps.getD 0 .dead)) (out8b (st.tmps.getD 0 .dead)) st
  | _ => .fail
noncomputable def f8t (s : ByteArray) : Tr (AV × List Ent) := tfn TT t8l lo8 Go.Proofs.Tryz.f45 [.dat (.str s)] []
noncomputable def R8 (a : List AV) (G : List Ent) : Option (AV × List Ent) := (tfn TT t8l lo8 Go.Proofs.Tryz.f45 a G).run
end Go.Eng
end

/- Sectors out of short texts: the document's, as trees. -/
section
namespace Go.Eng
open Go
set_option maxRecDepth 100000

def HSm (f : Nat) : Nat → List Nat := match f with
  | 28 => hOfS [(3, [0, 3, 4]), (1000003, [3])]
  | 29 => hOfS [(3, [0, 4, 5]), (1000003, [0, 2, 3, 4])]
  | 30 => hOfS [(7, [0, 3, 4]), (1000007, [2, 3])]
  | 9 => hOfS [(6, [0, 4, 5, 6]), (1000006, [0, 2, 3, 4]), (14, [0, 4, 5, 6, 7, 9]), (1000014, [0, 4, 5, 6])]
  | _ => fun _ => []
noncomputable def P46 := pureS (E 86)
noncomputable def t29 : TOrc := tCons 86 (fun a G => tspec (oI G) (P46 a G)) tNone
noncomputable def lp29 : Code := lpOf (codeOf Go.Proofs.Tryz.f66) 0
def inv29n (s : ByteArray) (i : Int) : St := ⟨mkT 0 44 [(0, .dat (.str s)), (4, .dat (.list .nil 0 [])), (5, jn i)], ⟨[], [], 0⟩⟩
noncomputable def rk29n (s : ByteArray) (i : Int) : Tr (Ex × St) := tround TT t29 noLo (HSm 29) lp29 (inv29n s i)

noncomputable def lp30 : Code := lpOf (codeOf Go.Proofs.Tryz.f67) 0
def inv30 (s : ByteArray) (n i : Int) : St := ⟨mkT 0 46 [(0, .dat (.str s)), (3, jn n), (4, jn i)], ⟨[], [], 0⟩⟩
noncomputable def rk30 (s : ByteArray) (n i : Int) : Tr (Ex × St) := tround TT tNone noLo (HSm 30) lp30 (inv30 s n i)
def out30a (n : Int) : Ex × St := (.exit 0, ⟨mkT 0 46 [(3, jn n)], ⟨[], [], 0⟩⟩)
def out30b (n : Int) : Ex × St := (.ret, ⟨mkT 0 46 [(2, jn 0), (3, jn n)], ⟨[], [], 0⟩⟩)
noncomputable def lo30 (n : Nat) (st : St) : Tr (Ex × St) := match n with
  | 7 => tlo2 TT tNone.runs (HSm 30) lp30 out30a out30b st
  | _ => .fail
noncomputable def f30t (s : ByteArray) : Tr (AV × List Ent) := tfn TT tNone lo30 Go.Proofs.Tryz.f67 [.dat (.str s)] []
noncomputable def R30 (a : List AV) (G : List Ent) : Option (AV × List Ent) := (tfn TT tNone lo30 Go.Proofs.Tryz.f67 a G).run
noncomputable def P30 := pureS R30

noncomputable def lp28 : Code := lpOf (codeOf Go.Proofs.Tryz.f65) 0
def inv28 (b : Bool) (s : ByteArray) (l : Row) (n : Nat) (i : Int) : St := ⟨mkT 0 37 [(0, .dat (.str s)), (3, .sh b 0 1 0 n), (4, jn i)], ⟨[some (.row .excl 1 l)], [], 0⟩⟩
noncomputable def rk28t (s : ByteArray) (l : Row) (n : Nat) (i : Int) : Tr (Ex × St) := tround TT tNone noLo (HSm 28) lp28 (inv28 true s l n i)
noncomputable def rk28f (s : ByteArray) (l : Row) (n : Nat) (i : Int) : Tr (Ex × St) := tround TT tNone noLo (HSm 28) lp28 (inv28 false s l n i)
def out28 (b : Bool) (p : Row × Nat) : Ex × St := (.exit 0, ⟨mkT 0 37 [(3, .sh b 0 1 0 p.2)], ⟨[some (.row .excl 1 p.1)], [], 0⟩⟩)
noncomputable def lo28 (n : Nat) (st : St) : Tr (Ex × St) := match n with
  | 3 => tlo2 TT tNone.runs (HSm 28) lp28 (out28 true) (out28 false) st
  | _ => .fail
noncomputable def f28t (s : ByteArray) : Tr (AV × List Ent) := tfn TT tNone lo28 Go.Proofs.Tryz.f65 [.dat (.str s)] []
noncomputable def R28 (a : List AV) (G : List Ent) : Option (AV × List Ent) := (tfn TT tNone lo28 Go.Proofs.Tryz.f65 a G).run
noncomputable def P28 := pureS R28

def inv29y (s : ByteArray) (v i : Int) : St := ⟨mkT 0 44 [(0, .dat (.str s)), (4, .sh false 0 1 0 1), (5, jn i)], ⟨[some (.row .excl 1 [[.int .u8 v]])], [], 0⟩⟩
noncomputable def rk29y (s : ByteArray) (v i : Int) : Tr (Ex × St) := tround TT t29 noLo (HSm 29) lp29 (inv29y s v i)
def out29a (a0 : AV) (v : Int) : Ex × St := (.exit 0, ⟨mkT 0 44 [(0, a0), (4, .sh false 0 1 0 1)], ⟨[some (.row .excl 1 [[.int .u8 v]])], [], 0⟩⟩)
def out29b (a0 : AV) (_ : Unit) : Ex × St := (.ret, ⟨mkT 0 44 [(0, a0), (2, .dat (.str ⟨#[]⟩)), (3, .dat (.bool false)), (4, .dat (.list .nil 0 []))], ⟨[], [], 0⟩⟩)
noncomputable def lo29 (n : Nat) (st : St) : Tr (Ex × St) := match n with
  | 3 => tlo2 TT t29.runs (HSm 29) lp29 (out29a (st.tmps.getD 0 .dead)) (out29b (st.tmps.getD 0 .dead)) st
  | _ => .fail
noncomputable def f29t (s : ByteArray) : Tr (AV × List Ent) := tfn TT t29 lo29 Go.Proofs.Tryz.f66 [.dat (.str s)] []
noncomputable def R29 (a : List AV) (G : List Ent) : Option (AV × List Ent) := (tfn TT t29 lo29 Go.Proofs.Tryz.f66 a G).run
noncomputable def P29 := pureS R29
end Go.Eng
end

/- Sectors out of short texts: the document's Long, as trees. -/
section
namespace Go.Eng
open Go
set_option maxRecDepth 100000

def oRwO (G : List Ent) (zr : Row) : AV × List Ent := (.own true 1 zr, G)
noncomputable def P10 := pureS R10
noncomputable def t9 : TOrc := tCons 65 (fun a G => tspec2 (oRw G) (oRwO G) (R28 a G)) (tCons 66 (fun a G => tspec (oPt G) (P29 a G)) (tCons 67 (fun a G => tspec (oI G) (P30 a G)) (tCons 27 (fun a G => tspec (oS G) (P10 a G)) tNone)))
noncomputable def lp9 : Code := lpOf (codeOf Go.Proofs.Tryz.f49) 0
noncomputable def lp9b : Code := lpOf lp9 0
/-- the words: as data, or as a row of our own -/
def w5 (b : Bool) (l : Row) : AV := match b with
  | true => .dat (.list .full 1 l)
  | false => .sh false 0 1 0 l.length
def wL (b : Bool) (l : Row) : List (Option Ent) := match b with
  | true => []
  | false => [some (.row .excl 1 l)]
def inv9b (b : Bool) (s acc : ByteArray) (l : Row) (i : Int) (c : ByteArray) (k : Int) : St := ⟨mkT 0 59 [(0, .dat (.str s)), (4, .dat (.str acc)), (5, w5 b l), (6, jn i), (7, .dat (.str c)), (9, jn k)], ⟨wL b l, [], 0⟩⟩
noncomputable def rk9bt (s acc : ByteArray) (l : Row) (i : Int) (c : ByteArray) (k : Int) : Tr (Ex × St) := tround TT t9 noLo (HSm 9) lp9b (inv9b true s acc l i c k)
noncomputable def rk9bf (s acc : ByteArray) (l : Row) (i : Int) (c : ByteArray) (k : Int) : Tr (Ex × St) := tround TT t9 noLo (HSm 9) lp9b (inv9b false s acc l i c k)
def out9b (a0 a5 a6 : AV) (L : List (Option Ent)) (acc : ByteArray) : Ex × St := (.exit 2, ⟨mkT 0 59 [(0, a0), (4, .dat (.str acc)), (5, a5), (6, a6)], ⟨L, [], 0⟩⟩)
noncomputable def lo9b (n : Nat) (st : St) : Tr (Ex × St) := match n with
  | 14 => tlo TT t9.runs (HSm 9) lp9b (out9b (st.tmps.getD 0 .dead) (st.tmps.getD 5 .dead) (st.tmps.getD 6 .dead) (tidy (HSm 9 14) st).mem.L) st
  | _ => .fail
def inv9 (b : Bool) (s acc : ByteArray) (l : Row) (i : Int) : St := ⟨mkT 0 59 [(0, .dat (.str s)), (4, .dat (.str acc)), (5, w5 b l), (6, jn i)], ⟨wL b l, [], 0⟩⟩
noncomputable def rk9t (s acc : ByteArray) (l : Row) (i : Int) : Tr (Ex × St) := tround TT t9 lo9b (HSm 9) lp9 (inv9 true s acc l i)
noncomputable def rk9f (s acc : ByteArray) (l : Row) (i : Int) : Tr (Ex × St) := tround TT t9 lo9b (HSm 9) lp9 (inv9 false s acc l i)
def out9x (a0 : AV) (acc : ByteArray) : Ex × St := (.exit 0, ⟨mkT 0 59 [(0, a0), (4, .dat (.str acc))], ⟨[], [], 0⟩⟩)
def out9y (a0 : AV) (acc : ByteArray) : Ex × St := (.ret, ⟨mkT 0 59 [(0, a0), (2, .dat (.str ⟨#[]⟩)), (3, jn 6), (4, .dat (.str acc))], ⟨[], [], 0⟩⟩)
noncomputable def lo9 (n : Nat) (st : St) : Tr (Ex × St) := match n with
  | 6 => tlo2 TT t9.runs (HSm 9) lp9 (out9x (st.tmps.getD 0 .dead)) (out9y (st.tmps.getD 0 .dead)) st
  | _ => .fail
noncomputable def f9t (s : ByteArray) : Tr (AV × List Ent) := tfn TT t9 lo9 Go.Proofs.Tryz.f49 [.dat (.str s)] []
noncomputable def R9 (a : List AV) (G : List Ent) : Option (AV × List Ent) := (tfn TT t9 lo9 Go.Proofs.Tryz.f49 a G).run
end Go.Eng
end

/- Sectors as short texts: the contracts. -/
section
namespace Go.Eng
open Go
set_option maxRecDepth 100000

/-! ### contracts -/
theorem lo_one {T : Tab} {oo : Orc} {H : Nat → List Nat} {lo : Nat → St → Tr (Ex × St)} {fn : Func} {lp : Code} (hl : loops (codeOf fn) = [lp])
    (h : ∀ st r, (lo (firstRegion lp) st).run = some r → ∃ K, exec T oo K H (.loop lp) st = some r) : ∀ c, fn.body = some c → LoOk2 T oo H lo c := by
  intro c hc
  refine LoOk2.of c fun b hb st r hr => ?_
  have hcc : c = codeOf fn := by unfold codeOf; rw [hc]; rfl
  rw [hcc, hl] at hb
  obtain rfl := List.mem_singleton.1 hb
  exact h st r hr
theorem lo37_ok : ∀ c, Go.Proofs.Tryz.f74.body = some c → LoOk2 TT tNone.runs (HSs 37) lo37 c := lo_one (lp := lp37) (by kernel_rfl) fun st r h => by
  rw [show firstRegion lp37 = 2 from by kernel_rfl] at h
  exact tlo_ok h
theorem c37 : COk PP 74 R37 := tok_fn (H := HSs 37) TT_ok TOk.nil Go.Proofs.Tryz.func74 (by kernel_rfl) lo37_ok
theorem tI_ok : TOk PP tI := TOk.cons (COk.spec (out := fun _ G => oS G) c13) TOk.nil
theorem cY7 : COk PP (yB + 2) Y7 := tok_yld (H := fun _ => []) TT_ok tI_ok rfl (fun _ => LoOk2.no _) 2
theorem t36_ok : TOk PP t36 := TOk.cons (COk.spec (out := fun _ G => oI G) c37.pure) (TOk.cons (COk.spec (out := fun _ G => oYl G) cY7) TOk.nil)
theorem lo36_ok : ∀ c, Go.Proofs.Tryz.f73.body = some c → LoOk2 TT t36.runs (HSs 36) lo36 c := lo_one (lp := lp36) (by kernel_rfl) fun st r h => by
  rw [show firstRegion lp36 = 0 from by kernel_rfl] at h
  exact tlo_ok h
theorem c36 : COk PP 73 R36 := tok_fn (H := HSs 36) TT_ok t36_ok Go.Proofs.Tryz.func73 (by kernel_rfl) lo36_ok
theorem t7_ok : TOk PP t7 := TOk.cons (COk.spec (out := fun _ G => o36 G) c36) (TOk.cons (t8_ok 19) (TOk.cons (t8_ok 58) (TOk.cons (COk.spec (out := fun _ G => oS G) c16) TOk.nil)))
theorem c7 : COk PP 33 R7 := tok_fnR (H := HSs 7) TT_ok t7_ok Go.Proofs.Tryz.func33 (by kernel_rfl) rfl fun _ _ => LoOk2.no _
end Go.Eng
end

/- Sectors as short texts: what the document's Short comes to. -/
section
namespace Go.Eng
open Go
set_option maxRecDepth 100000
set_option linter.unusedSimpArgs false

theorem rk10b_eq (s acc : ByteArray) (i n : Int) : (rk10b s acc i n).ev =
 (rAsk (decide ((IntKind.wrap IntKind.i64 (i + n)) < (((ByteArray.size s) : Nat) : Int)))
 (rAsk (decide ((0 : Int) ≤ (IntKind.wrap IntKind.i64 (i + n))))
 (rGet s[(Int.toNat (IntKind.wrap IntKind.i64 (i + n)))]? fun x1 =>
 (rAsk (decide ((0 : Int) ≤ i))
 (rGet s[(Int.toNat i)]? fun x2 =>
 (rAsk ((((UInt8.toNat x1) : Nat) : Int) == (((UInt8.toNat x2) : Nat) : Int))
 (some (Ex.norm, (St.mk (mkT 0 55 [(0, (AV.dat (D.str s))), (3, (AV.dat (D.str acc))), (4, (AV.dat (D.int IntKind.i64 i))), (5, (AV.dat (D.int IntKind.i64 (IntKind.wrap IntKind.i64 (n + (1 : Int))))))]) (Mem.mk [] [] 0))))
 (some ((Ex.exit 2), (St.mk (mkT 0 55 [(0, (AV.dat (D.str s))), (3, (AV.dat (D.str acc))), (4, (AV.dat (D.int IntKind.i64 i))), (5, (AV.dat (D.int IntKind.i64 n)))]) (Mem.mk [] [] 0))))))
 none))
 none)
 (some ((Ex.exit 2), (St.mk (mkT 0 55 [(0, (AV.dat (D.str s))), (3, (AV.dat (D.str acc))), (4, (AV.dat (D.int IntKind.i64 i))), (5, (AV.dat (D.int IntKind.i64 n)))]) (Mem.mk [] [] 0)))))
  := by kernel_rfl
theorem rk10_eq (s acc : ByteArray) (i : Int) : (rk10 s acc i).ev =
 (rAsk (decide (i < (((ByteArray.size s) : Nat) : Int)))
 (rGet (loS TT (TOrc.runs t10) (HSr 10) lp10b (out10b (AV.dat (D.str s)) (AV.dat (D.str acc)) (AV.dat (D.int IntKind.i64 i))) (St.mk (mkT 0 55 [(0, (AV.dat (D.str s))), (3, (AV.dat (D.str acc))), (4, (AV.dat (D.int IntKind.i64 i))), (5, (AV.dat (D.int IntKind.i64 (1 : Int))))]) (Mem.mk [] [] 0))) fun x1 =>
 (rAsk (decide (i > (0 : Int)))
 (rAsk (Nat.ble ((ByteArray.size acc) + 1) 9223372036854775807)
 (rAsk ((decide ((0 : Int) ≤ i)) && ((decide (i ≤ (IntKind.wrap IntKind.i64 (i + (1 : Int))))) && (decide ((IntKind.wrap IntKind.i64 (i + (1 : Int))) ≤ (((ByteArray.size s) : Nat) : Int)))))
 (rGet (fnS (fun (zs : ByteArray) => ((AV.dat (D.str zs)), [])) (P31 [(AV.dat (D.str (ByteArray.extract s (Int.toNat i) (Int.toNat (IntKind.wrap IntKind.i64 (i + (1 : Int)))))))] [])) fun x2 =>
 (rAsk (Nat.ble ((ByteArray.size (acc ++ (ByteArray.mk (List.toArray [32])))) + (ByteArray.size x2)) 9223372036854775807)
 (rAsk (decide (x1 > (1 : Int)))
 (rAsk (Nat.ble ((ByteArray.size ((acc ++ (ByteArray.mk (List.toArray [32]))) ++ x2)) + 1) 9223372036854775807)
 (rGet (fnS (fun (zs : ByteArray) => ((AV.dat (D.str zs)), [])) (P32 [(AV.dat (D.int IntKind.i64 x1))] [])) fun x3 =>
 (rAsk (Nat.ble ((ByteArray.size (((acc ++ (ByteArray.mk (List.toArray [32]))) ++ x2) ++ (ByteArray.mk (List.toArray [42])))) + (ByteArray.size x3)) 9223372036854775807)
 (some (Ex.norm, (St.mk (mkT 0 55 [(0, (AV.dat (D.str s))), (3, (AV.dat (D.str ((((acc ++ (ByteArray.mk (List.toArray [32]))) ++ x2) ++ (ByteArray.mk (List.toArray [42]))) ++ x3)))), (4, (AV.dat (D.int IntKind.i64 (IntKind.wrap IntKind.i64 (i + x1)))))]) (Mem.mk [] [] 0))))
 none))
 none)
 (some (Ex.norm, (St.mk (mkT 0 55 [(0, (AV.dat (D.str s))), (3, (AV.dat (D.str ((acc ++ (ByteArray.mk (List.toArray [32]))) ++ x2)))), (4, (AV.dat (D.int IntKind.i64 (IntKind.wrap IntKind.i64 (i + x1)))))]) (Mem.mk [] [] 0)))))
 none))
 none)
 none)
 (rAsk ((decide ((0 : Int) ≤ i)) && ((decide (i ≤ (IntKind.wrap IntKind.i64 (i + (1 : Int))))) && (decide ((IntKind.wrap IntKind.i64 (i + (1 : Int))) ≤ (((ByteArray.size s) : Nat) : Int)))))
 (rGet (fnS (fun (zs : ByteArray) => ((AV.dat (D.str zs)), [])) (P31 [(AV.dat (D.str (ByteArray.extract s (Int.toNat i) (Int.toNat (IntKind.wrap IntKind.i64 (i + (1 : Int)))))))] [])) fun x4 =>
 (rAsk (Nat.ble ((ByteArray.size acc) + (ByteArray.size x4)) 9223372036854775807)
 (rAsk (decide (x1 > (1 : Int)))
 (rAsk (Nat.ble ((ByteArray.size (acc ++ x4)) + 1) 9223372036854775807)
 (rGet (fnS (fun (zs : ByteArray) => ((AV.dat (D.str zs)), [])) (P32 [(AV.dat (D.int IntKind.i64 x1))] [])) fun x5 =>
 (rAsk (Nat.ble ((ByteArray.size ((acc ++ x4) ++ (ByteArray.mk (List.toArray [42])))) + (ByteArray.size x5)) 9223372036854775807)
 (some (Ex.norm, (St.mk (mkT 0 55 [(0, (AV.dat (D.str s))), (3, (AV.dat (D.str (((acc ++ x4) ++ (ByteArray.mk (List.toArray [42]))) ++ x5)))), (4, (AV.dat (D.int IntKind.i64 (IntKind.wrap IntKind.i64 (i + x1)))))]) (Mem.mk [] [] 0))))
 none))
 none)
 (some (Ex.norm, (St.mk (mkT 0 55 [(0, (AV.dat (D.str s))), (3, (AV.dat (D.str (acc ++ x4)))), (4, (AV.dat (D.int IntKind.i64 (IntKind.wrap IntKind.i64 (i + x1)))))]) (Mem.mk [] [] 0)))))
 none))
 none)))
 (some ((Ex.exit 0), (St.mk (mkT 0 55 [(3, (AV.dat (D.str acc)))]) (Mem.mk [] [] 0)))))
  := by kernel_rfl
theorem f10t_eq (s : ByteArray) : (f10t s).ev =
 (rAsk (!((((ByteArray.size s) : Nat) : Int) == (64 : Int)))
 (some ((AV.dat (D.str (ByteArray.mk (List.toArray [])))), []))
 (rGet (loS TT (TOrc.runs t10) (HSr 10) lp10 out10 (St.mk (mkT 0 55 [(0, (AV.dat (D.str s))), (3, (AV.dat (D.str (ByteArray.mk (List.toArray []))))), (4, (AV.dat (D.int IntKind.i64 (0 : Int))))]) (Mem.mk [] [] 0))) fun x1 =>
 (some ((AV.dat (D.str x1)), []))))
  := by kernel_rfl

/-! ### by trying all -/
theorem strOf_some {o : Option AV} {l : List UInt8} (h : strOf o = some l) : o = some (.dat (.str (ba l))) := by
  unfold strOf at h
  split at h
  · rename_i s
    simp only [Option.some.injEq] at h
    subst h
    rw [← ba_of]
  · cases h
theorem map_fst {o : Option (AV × List Ent)} {a : AV} (h : o.map (·.1) = some a) : ∃ G, o = some (a, G) := by
  cases o with
  | none => cases h
  | some r =>
    simp only [Option.map_some, Option.some.injEq] at h
    exact ⟨r.2, by rw [← h]⟩
theorem e31_all : (List.range 256).all (fun k => strOf ((E 39 [bs [UInt8.ofNat k]] []).map (·.1)) == some (hexB (UInt8.ofNat k))) = true := by kernel_rfl
theorem e32_all : (List.range 65).all (fun n => strOf ((E 40 [.dat (.int .i64 n)] []).map (·.1)) == some (Go.Lib.decDigits n)) = true := by kernel_rfl
theorem p31 (c : UInt8) (G : List Ent) : P31 [.dat (.str (ba [c]))] G = some (oS G (ba (hexB c))) := by
  have h := eq_of_beq (List.all_eq_true.1 e31_all c.toNat (List.mem_range.2 c.toNat_lt))
  rw [show UInt8.ofNat c.toNat = c by simp] at h
  obtain ⟨G', h⟩ := map_fst (strOf_some h)
  exact pureS_eq rfl h rfl
theorem p32 {n : Nat} (hn : n ≤ 64) (G : List Ent) : P32 [.dat (.int .i64 n)] G = some (oS G (ba (Go.Lib.decDigits n))) := by
  have h := eq_of_beq (List.all_eq_true.1 e32_all n (List.mem_range.2 (by omega)))
  obtain ⟨G', h⟩ := map_fst (strOf_some h)
  exact pureS_eq rfl h rfl
theorem mk_ba (l : List UInt8) : ByteArray.mk (List.toArray l) = ba l := rfl
theorem ba_one (p r : List UInt8) (c : UInt8) : (ba (p ++ c :: r)).extract p.length (p.length + 1) = ba [c] := by
  apply ByteArray.ext
  apply Array.ext'
  rw [Go.Lib.extract_data]
  simp [ba, List.take_append, List.drop_append]

/-! ### the loops -/
theorem out10b_inj {a b c : AV} : ∀ x y, out10b a b c x = out10b a b c y → x = y := by
  intro x y h
  simp [out10b, jn, mkT] at h
  exact h
theorem out10_inj : ∀ x y, out10 x = out10 y → x = y := by
  intro x y h
  simp [out10, mkT] at h
  exact h
theorem w64 {n : Nat} (h : n < 9223372036854775808) {x : Int} (e : x = n) : IntKind.wrap .i64 x = (n : Int) := by
  subst e
  rw [IntKind.wrap_i64]
  omega
theorem loop10b {acc : ByteArray} {p r : List UInt8} {c : UInt8} (hl : (p ++ c :: r).length ≤ 1000) :
    LoopTo TT t10.runs (HSr 10) lp10b (inv10b (ba (p ++ c :: r)) acc p.length 1) (out10b (.dat (.str (ba (p ++ c :: r)))) (.dat (.str acc)) (jn p.length) (longN (c :: r) : Nat)) := by
  have hlen : (p ++ c :: r).length = p.length + r.length + 1 := by simp only [List.length_append, List.length_cons]; omega
  have hat : ∀ j, j < r.length + 1 → ∀ x, (c :: r)[j]? = some x → (ba (p ++ c :: r))[p.length + j]? = some x := by
    intro j hj x hx
    rw [ba_at (by omega)]
    have : (p ++ c :: r)[p.length + j]? = some x := by
      rw [List.getElem?_append_right (by omega)]
      simpa using hx
    rw [List.getElem?_eq_getElem (by omega)] at this
    exact this
  have key := LoopTo.count (T := TT) (orc := t10) (H := HSr 10) (lo := noLo) (b := lp10b) (LoOk2.no _) (N := (r.takeWhile (· == c)).length) (inv := fun j => inv10b (ba (p ++ c :: r)) acc p.length ((1 + j : Nat) : Int)) (ex := .exit 2) (s := (out10b (.dat (.str (ba (p ++ c :: r)))) (.dat (.str acc)) (jn p.length) (longN (c :: r) : Nat)).2)
    (fun i hi => ?_) ?_ (by simp [out10b]) (r.takeWhile (· == c)).length 0 (by omega)
  · exact key
  · show (rk10b (ba (p ++ c :: r)) acc p.length ((1 + i : Nat) : Int)).run = _
    rw [← Tr.ev_run, rk10b_eq]
    obtain ⟨x, h1, h2⟩ := tw_eq _ r i hi
    have hlt : i < r.length := (List.getElem?_eq_some_iff.1 h1).1
    obtain rfl : x = c := by simpa using h2
    rw [w64 (n := p.length + (1 + i)) (by omega) (by omega), w64 (n := 1 + (i + 1)) (by omega) (by omega), ba_sz]
    refine aT (by rw [decide_eq_true_eq]; omega) (aT (by rw [decide_eq_true_eq]; omega) (gStep (x := x) (by rw [Int.toNat_natCast]; exact hat (1 + i) (by omega) _ (by rw [Nat.add_comm]; simpa using h1)) (aT (by rw [decide_eq_true_eq]; omega) (gStep (x := x) (by rw [Int.toNat_natCast]; exact hat 0 (by omega) _ rfl) (aT (beq_self_eq_true _) rfl)))))
  · show (rk10b (ba (p ++ c :: r)) acc p.length ((1 + (r.takeWhile (· == c)).length : Nat) : Int)).run = _
    have htw : (r.takeWhile (· == c)).length ≤ r.length := (List.takeWhile_sublist _).length_le
    rw [← Tr.ev_run, rk10b_eq, w64 (n := p.length + (1 + (r.takeWhile (· == c)).length)) (by omega) (by omega), w64 (n := 1 + ((r.takeWhile (· == c)).length + 1)) (by omega) (by omega), ba_sz]
    by_cases hlt : (r.takeWhile (· == c)).length < r.length
    · have h1 : r[(r.takeWhile (· == c)).length]? = some r[(r.takeWhile (· == c)).length] := List.getElem?_eq_getElem hlt
      have h2 := tw_end _ r _ h1
      generalize r[(r.takeWhile (· == c)).length] = x at h1 h2
      refine aT (by rw [decide_eq_true_eq]; omega) (aT (by rw [decide_eq_true_eq]; omega) (gStep (x := x) (by rw [Int.toNat_natCast]; exact hat _ (by omega) _ (by rw [Nat.add_comm]; simpa using h1)) (aT (by rw [decide_eq_true_eq]; omega) (gStep (x := c) (by rw [Int.toNat_natCast]; exact hat 0 (by omega) _ rfl) (aF ?_ rfl)))))
      rw [Bool.eq_false_iff]
      exact fun h => by
        rw [(u8_eq x c).1 h] at h2
        simp at h2
    · exact aF (by rw [decide_eq_false_iff_not]; omega) rfl

attribute [local irreducible] P31 P32 fnS
theorem step10 {p r a : List UInt8} {c : UInt8} (hl : (p ++ c :: r).length ≤ 64) (ha : a.length ≤ 1000) :
    (rk10 (ba (p ++ c :: r)) (ba a) p.length).run = some (.norm, inv10 (ba (p ++ c :: r)) (ba ((if p = [] then a else a ++ [32]) ++ wordB c (longN (c :: r)))) ((p.length + longN (c :: r) : Nat) : Int)) := by
  have h1 := longN_le c r
  have h2 := longN_pos c r
  have hlen : (p ++ c :: r).length = p.length + r.length + 1 := by simp only [List.length_append, List.length_cons]; omega
  obtain ⟨_, _, n3, _⟩ := num_at (n := longN (c :: r)) (by omega)
  have n4 : (Go.Lib.decDigits (longN (c :: r))).length ≤ 2 := by rw [n3]; split <;> omega
  have hlo := loop10b (acc := ba a) (p := p) (r := r) (c := c) (by omega)
  have e31 := fun G => fnS_eq (out := oS G) oS_inj (p31 c G)
  have e32 := fun G => fnS_eq (out := oS G) oS_inj (p32 (n := longN (c :: r)) (by omega) G)
  have key : ∀ (G : List Ent) (n : Nat) (hn : n = longN (c :: r)), fnS (oS G) (P32 [.dat (.int .i64 n)] G) = some (ba (Go.Lib.decDigits n)) := by
    rintro G n rfl
    exact e32 G
  rw [← Tr.ev_run, rk10_eq, w64 (n := p.length + 1) (by omega) (by omega), ba_sz, Int.toNat_natCast, Int.toNat_natCast, ba_one]
  refine aT (by rw [decide_eq_true_eq]; omega) (gStep (loS_eq out10b_inj hlo) ?_)
  simp only [mk_ba, ba_app, ba_sz, List.length_append, List.length_singleton]
  have hs : ((decide ((0 : Int) ≤ (p.length : Nat))) && ((decide (((p.length : Nat) : Int) ≤ ((p.length + 1 : Nat) : Int))) && (decide (((p.length + 1 : Nat) : Int) ≤ (((p ++ c :: r).length : Nat) : Int))))) = true := by
    simp only [Bool.and_eq_true, decide_eq_true_eq]
    omega
  rw [List.length_append] at hs
  rw [w64 (n := p.length + longN (c :: r)) (by omega) (by omega)]
  have hx : (hexB c).length = 2 := rfl
  by_cases hp : p = []
  · rw [if_pos hp]
    have hp0 : p.length = 0 := by rw [hp]; rfl
    refine aF (by rw [decide_eq_false_iff_not]; omega) (aT hs (gStep (e31 _) ?_))
    simp only [mk_ba, ba_app, ba_sz, List.length_append, List.length_singleton, hx]
    refine aT (Nat.ble_eq_true_of_le (by omega)) ?_
    by_cases hn : longN (c :: r) > 1
    · refine aT (by rw [decide_eq_true_eq]; omega) (aT (Nat.ble_eq_true_of_le (by omega)) (gStep (e32 _) ?_))
      simp only [mk_ba, ba_app, ba_sz, List.length_append, List.length_singleton, hx]
      refine aT (Nat.ble_eq_true_of_le (by omega)) ?_
      rw [wordB, if_pos hn]
      simp only [List.append_assoc, List.singleton_append]
      rfl
    · refine aF (by rw [decide_eq_false_iff_not]; omega) ?_
      rw [wordB, if_neg hn, List.append_nil]
      rfl
  · rw [if_neg hp]
    have hp0 : 0 < p.length := List.length_pos_iff.2 hp
    refine aT (by rw [decide_eq_true_eq]; omega) (aT (Nat.ble_eq_true_of_le (by omega)) (aT hs (gStep (e31 _) ?_)))
    simp only [mk_ba, ba_app, ba_sz, List.length_append, List.length_singleton, hx]
    refine aT (Nat.ble_eq_true_of_le (by omega)) ?_
    by_cases hn : longN (c :: r) > 1
    · refine aT (by rw [decide_eq_true_eq]; omega) (aT (Nat.ble_eq_true_of_le (by omega)) (gStep (e32 _) ?_))
      simp only [mk_ba, ba_app, ba_sz, List.length_append, List.length_singleton, hx]
      refine aT (Nat.ble_eq_true_of_le (by omega)) ?_
      rw [wordB, if_pos hn]
      simp only [List.append_assoc, List.singleton_append]
      rfl
    · refine aF (by rw [decide_eq_false_iff_not]; omega) ?_
      rw [wordB, if_neg hn, List.append_nil]
      rfl
end Go.Eng
end

/- Sectors as short texts: the document's Short is the plain one. -/
section
namespace Go.Eng
open Go
set_option maxRecDepth 100000
set_option linter.unusedSimpArgs false

theorem lo10b_ok : LoOk2 TT t10.runs (HSr 10) lo10b lp10 := by
  refine LoOk2.of lp10 fun b hb st r h => ?_
  have hl : loops lp10 = [lp10b] := by kernel_rfl
  rw [hl] at hb
  obtain rfl := List.mem_singleton.1 hb
  rw [show firstRegion lp10b = 7 from by kernel_rfl] at h
  exact tlo_ok h
theorem lo10_ok : ∀ c, Go.Proofs.Tryz.f27.body = some c → LoOk2 TT t10.runs (HSr 10) lo10 c := lo_one (lp := lp10) (by kernel_rfl) fun st r h => by
  rw [show firstRegion lp10 = 5 from by kernel_rfl] at h
  exact tlo_ok h
theorem t10_ok : TOk PP t10 := TOk.cons (t8_ok 23) (TOk.cons (COk.spec (out := fun _ G => oS G) (E_ok 39).pure) (TOk.cons (COk.spec (out := fun _ G => oS G) (E_ok 40).pure) TOk.nil))
theorem c10 : COk PP 27 R10 := tok_fn (H := HSr 10) TT_ok t10_ok Go.Proofs.Tryz.func27 (by kernel_rfl) lo10_ok

theorem last10 (s : List UInt8) (a : ByteArray) : LoopTo TT t10.runs (HSr 10) lp10 (inv10 (ba s) a s.length) (out10 a) := by
  refine LoopTo.last (orc := t10) (lo := lo10b) (fun _ _ _ _ h => h) lo10b_ok ?_ (by simp [out10])
  show (rk10 (ba s) a s.length).run = _
  rw [← Tr.ev_run, rk10_eq, ba_sz]
  exact aF (by rw [decide_eq_false_iff_not]; omega) rfl
theorem words_nil (k : Nat) : wordsB k [] = [] := by cases k <;> rfl
theorem words_cons (k : Nat) (c : UInt8) (r : List UInt8) : wordsB (k + 1) (c :: r) = wordB c (longN (c :: r)) :: wordsB k ((c :: r).drop (longN (c :: r))) := rfl
theorem word_le {c : UInt8} {n : Nat} (h1 : 1 ≤ n) (h2 : n ≤ 64) : (wordB c n).length + 1 ≤ 3 * n := word_len h1 h2
theorem loop10t : ∀ (k : Nat) (p r a : List UInt8), p ≠ [] → r.length ≤ k → (p ++ r).length ≤ 64 → a.length + 3 * r.length ≤ 1000 →
    LoopTo TT t10.runs (HSr 10) lp10 (inv10 (ba (p ++ r)) (ba a) p.length) (out10 (ba (a ++ Go.Lib.joinTail [32] (wordsB k r))))
  | k, p, [], a, _, _, _, _ => by
    rw [words_nil, List.append_nil]
    rw [show a ++ Go.Lib.joinTail [32] [] = a from List.append_nil a]
    exact last10 p (ba a)
  | 0, p, c :: r, a, _, h, _, _ => by simp at h
  | k + 1, p, c :: r, a, hp, h, hl, ha => by
    have h1 := longN_le c r
    have h2 := longN_pos c r
    have hlen : (p ++ c :: r).length = p.length + r.length + 1 := by simp only [List.length_append, List.length_cons]; omega
    simp only [List.length_cons] at h ha
    have step := step10 (p := p) (r := r) (a := a) (c := c) hl (by omega)
    rw [if_neg hp] at step
    have hw := word_len (c := c) h2 (by omega)
    have e : p ++ c :: r = (p ++ List.replicate (longN (c :: r)) c) ++ (c :: r).drop (longN (c :: r)) := by rw [List.append_assoc, long_rep]
    have ih := loop10t k (p ++ List.replicate (longN (c :: r)) c) ((c :: r).drop (longN (c :: r))) (a ++ [32] ++ wordB c (longN (c :: r))) (by simp [hp])
      (by simp only [List.length_drop, List.length_cons]; omega) (by rw [← e]; exact hl) (by simp only [List.length_append, List.length_drop, List.length_cons, List.length_nil]; omega)
    rw [← e, List.length_append, List.length_replicate] at ih
    have e2 : a ++ Go.Lib.joinTail [32] (wordsB (k + 1) (c :: r)) = a ++ [32] ++ wordB c (longN (c :: r)) ++ Go.Lib.joinTail [32] (wordsB k ((c :: r).drop (longN (c :: r)))) := by
      rw [words_cons]
      simp [Go.Lib.joinTail]
    rw [e2]
    exact LoopTo.more (orc := t10) (lo := lo10b) (fun _ _ _ _ h => h) lo10b_ok step ih
theorem loop10 {l : List UInt8} (hl : l.length = 64) : LoopTo TT t10.runs (HSr 10) lp10 (inv10 (ba l) (ba []) 0) (out10 (ba (shortB l))) := by
  obtain ⟨c, r, rfl⟩ : ∃ c r, l = c :: r := by cases l with
    | nil => simp at hl
    | cons c l => exact ⟨c, l, rfl⟩
  have h1 := longN_le c r
  have h2 := longN_pos c r
  have hl2 := hl
  simp only [List.length_cons] at hl2
  have step := step10 (p := []) (r := r) (a := []) (c := c) (by simp only [List.nil_append]; omega) (by simp)
  rw [if_pos rfl] at step
  have hw := word_len (c := c) h2 (by omega)
  have ih := loop10t 63 (List.replicate (longN (c :: r)) c) ((c :: r).drop (longN (c :: r))) (wordB c (longN (c :: r))) (by simp; omega)
    (by simp only [List.length_drop, List.length_cons]; omega) (by rw [long_rep]; omega) (by simp only [List.length_drop, List.length_cons]; omega)
  rw [long_rep, List.length_replicate] at ih
  rw [shortB, if_pos hl, words_cons, Go.Lib.join_cons]
  simp only [List.nil_append, List.length_nil, Nat.zero_add] at step
  exact LoopTo.more (orc := t10) (lo := lo10b) (fun _ _ _ _ h => h) lo10b_ok step ih
theorem q10 (l : List UInt8) : R10 [.dat (.str (ba l))] [] = some (.dat (.str (ba (shortB l))), []) := by
  have key : ∀ o, (f10t (ba l)).ev = o → R10 [.dat (.str (ba l))] [] = o := fun o h => by
    rw [Tr.ev_run] at h
    exact h
  refine key _ ?_
  rw [f10t_eq, ba_sz]
  by_cases h : l.length = 64
  · exact aF (by simp [h]) (gStep (loS_eq out10_inj (loop10 h)) rfl)
  · refine aT ?_ ?_
    · simp only [Bool.not_eq_true', beq_eq_false_iff_ne, ne_eq]
      omega
    · rw [shortB, if_neg h]
      rfl
theorem p10 {l : List UInt8} {G : List Ent} : P10 [.dat (.str (ba l))] G = some (oS G (ba (shortB l))) := pureS_eq rfl (q10 l) rfl
end Go.Eng
end

/- Sectors out of short texts: what a word tells, by the program. -/
section
namespace Go.Eng
open Go
set_option maxRecDepth 100000
set_option linter.unusedSimpArgs false

theorem f27t_eq (s : ByteArray) : (f27t s).ev =
 (rGet (fnS (fun (p : ByteArray × ByteArray × Bool) => ((AV.tup [(AV.dat (D.str p.1)), (AV.dat (D.str p.2.1)), (AV.dat (D.bool p.2.2))]), [])) (S43 [(AV.dat (D.str s)), (AV.dat (D.str (ByteArray.mk (List.toArray [42]))))] [])) fun x1 =>
 (rAsk ((((ByteArray.size x1.1) : Nat) : Int) != (2 : Int))
 (some ((AV.tup [(AV.dat (D.str (ByteArray.mk (List.toArray [])))), (AV.dat (D.bool false))]), []))
 (rGet x1.1[0]? fun x2 =>
 (rGet (fnS (fun (n : Int) => ((AV.dat (D.int IntKind.i64 n)), [])) (S44 [(AV.dat (D.str (ByteArray.mk (List.toArray [48, 49, 50, 51, 52, 53, 54, 55, 56, 57, 97, 98, 99, 100, 101, 102])))), (AV.dat (D.int IntKind.u8 (((UInt8.toNat x2) : Nat) : Int)))] [])) fun x3 =>
 (rGet x1.1[1]? fun x4 =>
 (rGet (fnS (fun (n : Int) => ((AV.dat (D.int IntKind.i64 n)), [])) (S44 [(AV.dat (D.str (ByteArray.mk (List.toArray [48, 49, 50, 51, 52, 53, 54, 55, 56, 57, 97, 98, 99, 100, 101, 102])))), (AV.dat (D.int IntKind.u8 (((UInt8.toNat x4) : Nat) : Int)))] [])) fun x5 =>
 (rAsk x1.2.2
 (rAsk (Option.isSome (fnS (fun (n : Int) => ((AV.tup [(AV.dat (D.int IntKind.i64 n)), AV.nili]), [])) (S45 [(AV.dat (D.str x1.2.1))] [])))
 (rGet (fnS (fun (n : Int) => ((AV.tup [(AV.dat (D.int IntKind.i64 n)), AV.nili]), [])) (S45 [(AV.dat (D.str x1.2.1))] [])) fun x6 =>
 (rAsk (decide (x3 < (0 : Int)))
 (some ((AV.tup [(AV.dat (D.str (ByteArray.mk (List.toArray [])))), (AV.dat (D.bool false))]), []))
 (rAsk (decide (x5 < (0 : Int)))
 (some ((AV.tup [(AV.dat (D.str (ByteArray.mk (List.toArray [])))), (AV.dat (D.bool false))]), []))
 (rAsk (decide (x6 < (1 : Int)))
 (some ((AV.tup [(AV.dat (D.str (ByteArray.mk (List.toArray [])))), (AV.dat (D.bool false))]), []))
 (rAsk (decide (x6 > (64 : Int)))
 (some ((AV.tup [(AV.dat (D.str (ByteArray.mk (List.toArray [])))), (AV.dat (D.bool false))]), []))
 (rGet (fnS (fun (zs : ByteArray) => ((AV.dat (D.str zs)), [])) (S33 [(AV.dat (D.str (ByteArray.mk (List.toArray [(UInt8.ofNat (Int.toNat (IntKind.wrap IntKind.u8 (IntKind.wrap IntKind.i64 (((BitVec.toNat ((BitVec.ofInt 64 (IntKind.wrap IntKind.i64 (x3 * (16 : Int)))) ||| (BitVec.ofInt 64 x5))) : Nat) : Int)))))])))), (AV.dat (D.int IntKind.i64 x6))] [])) fun x7 =>
 (some ((AV.tup [(AV.dat (D.str x7)), (AV.dat (D.bool true))]), []))))))))
 (rGet (fnS (fun (n : Int) => ((AV.tup [(AV.dat (D.int IntKind.i64 n)), AV.err]), [])) (S45 [(AV.dat (D.str x1.2.1))] [])) fun _ =>
 (rAsk (decide (x3 < (0 : Int)))
 (some ((AV.tup [(AV.dat (D.str (ByteArray.mk (List.toArray [])))), (AV.dat (D.bool false))]), []))
 (rAsk (decide (x5 < (0 : Int)))
 (some ((AV.tup [(AV.dat (D.str (ByteArray.mk (List.toArray [])))), (AV.dat (D.bool false))]), []))
 (some ((AV.tup [(AV.dat (D.str (ByteArray.mk (List.toArray [])))), (AV.dat (D.bool false))]), []))))))
 (rAsk (decide (x3 < (0 : Int)))
 (some ((AV.tup [(AV.dat (D.str (ByteArray.mk (List.toArray [])))), (AV.dat (D.bool false))]), []))
 (rAsk (decide (x5 < (0 : Int)))
 (some ((AV.tup [(AV.dat (D.str (ByteArray.mk (List.toArray [])))), (AV.dat (D.bool false))]), []))
 (rGet (fnS (fun (zs : ByteArray) => ((AV.dat (D.str zs)), [])) (S33 [(AV.dat (D.str (ByteArray.mk (List.toArray [(UInt8.ofNat (Int.toNat (IntKind.wrap IntKind.u8 (IntKind.wrap IntKind.i64 (((BitVec.toNat ((BitVec.ofInt 64 (IntKind.wrap IntKind.i64 (x3 * (16 : Int)))) ||| (BitVec.ofInt 64 x5))) : Nat) : Int)))))])))), (AV.dat (D.int IntKind.i64 (1 : Int)))] [])) fun x9 =>
 (some ((AV.tup [(AV.dat (D.str x9)), (AV.dat (D.bool true))]), []))))))))))))
  := by kernel_rfl
theorem rk8_eq (s acc : ByteArray) (l : Row) (m i : Int) : (rk8 s acc l m i).ev =
 (rAsk (decide (i < m))
 (rAsk (true && ((decide ((0 : Int) ≤ i)) && (decide (i < (((List.length l) : Nat) : Int)))))
 (rGet l[(Int.toNat i)]? fun x1 =>
 (rGet (List.head? (List.drop 0 x1)) fun x2 =>
 (rGet (fnS (fun (p : ByteArray × Bool) => ((AV.tup [(AV.dat (D.str p.1)), (AV.dat (D.bool p.2))]), [])) (P27 [(AV.dat x2)] [])) fun x3 =>
 (rAsk (!x3.2)
 (some (Ex.ret, (St.mk (mkT 0 44 [(0, (AV.dat (D.str s))), (2, (AV.dat (D.str (ByteArray.mk (List.toArray []))))), (3, (AV.dat (D.int IntKind.i64 (6 : Int)))), (4, (AV.dat (D.str acc)))]) (Mem.mk [] [] 0))))
 (rAsk (decide ((IntKind.wrap IntKind.i64 ((((ByteArray.size acc) : Nat) : Int) + (((ByteArray.size x3.1) : Nat) : Int))) > (64 : Int)))
 (some (Ex.ret, (St.mk (mkT 0 44 [(0, (AV.dat (D.str s))), (2, (AV.dat (D.str (ByteArray.mk (List.toArray []))))), (3, (AV.dat (D.int IntKind.i64 (6 : Int)))), (4, (AV.dat (D.str acc)))]) (Mem.mk [] [] 0))))
 (rAsk (Nat.ble ((ByteArray.size acc) + (ByteArray.size x3.1)) 9223372036854775807)
 (some (Ex.norm, (St.mk (mkT 0 44 [(0, (AV.dat (D.str s))), (4, (AV.dat (D.str (acc ++ x3.1)))), (10, (AV.dat (D.list LK.full 1 l))), (11, (AV.dat (D.int IntKind.i64 m))), (12, (AV.dat (D.int IntKind.i64 (IntKind.wrap IntKind.i64 (i + (1 : Int))))))]) (Mem.mk [] [] 0))))
 none))))))
 none)
 (some ((Ex.exit 0), (St.mk (mkT 0 44 [(0, (AV.dat (D.str s))), (4, (AV.dat (D.str acc)))]) (Mem.mk [] [] 0)))))
  := by kernel_rfl
theorem f8t_eq (s : ByteArray) : (f8t s).ev =
 (rGet (fnS (fun (zr : Row) => ((AV.dat (D.list LK.full 1 zr)), [])) (S26 [(AV.dat (D.str s)), (AV.dat (D.str (ByteArray.mk (List.toArray [32]))))] [])) fun x1 =>
 (rAsk (Option.isSome (loS TT (TOrc.runs t8l) (HSl 8) lp8 (out8a (AV.dat (D.str s))) (St.mk (mkT 0 44 [(0, (AV.dat (D.str s))), (4, (AV.dat (D.str (ByteArray.mk (List.toArray []))))), (10, (AV.dat (D.list LK.full 1 x1))), (11, (AV.dat (D.int IntKind.i64 (((List.length x1) : Nat) : Int)))), (12, (AV.dat (D.int IntKind.i64 (0 : Int))))]) (Mem.mk [] [] 0))))
 (rGet (loS TT (TOrc.runs t8l) (HSl 8) lp8 (out8a (AV.dat (D.str s))) (St.mk (mkT 0 44 [(0, (AV.dat (D.str s))), (4, (AV.dat (D.str (ByteArray.mk (List.toArray []))))), (10, (AV.dat (D.list LK.full 1 x1))), (11, (AV.dat (D.int IntKind.i64 (((List.length x1) : Nat) : Int)))), (12, (AV.dat (D.int IntKind.i64 (0 : Int))))]) (Mem.mk [] [] 0))) fun x2 =>
 (rAsk ((ByteArray.toList s) == [])
 (some ((AV.tup [(AV.dat (D.str (ByteArray.mk (List.toArray [])))), (AV.dat (D.int IntKind.i64 (6 : Int)))]), []))
 (rGet (fnS (fun (zs : ByteArray) => ((AV.dat (D.str zs)), [])) (P7 [(AV.dat (D.str x2))] [])) fun x3 =>
 (rAsk (!((ByteArray.toList x3) == (ByteArray.toList s)))
 (some ((AV.tup [(AV.dat (D.str (ByteArray.mk (List.toArray [])))), (AV.dat (D.int IntKind.i64 (6 : Int)))]), []))
 (some ((AV.tup [(AV.dat (D.str x2)), (AV.dat (D.int IntKind.i64 (0 : Int)))]), []))))))
 (rGet (loS TT (TOrc.runs t8l) (HSl 8) lp8 (out8b (AV.dat (D.str s))) (St.mk (mkT 0 44 [(0, (AV.dat (D.str s))), (4, (AV.dat (D.str (ByteArray.mk (List.toArray []))))), (10, (AV.dat (D.list LK.full 1 x1))), (11, (AV.dat (D.int IntKind.i64 (((List.length x1) : Nat) : Int)))), (12, (AV.dat (D.int IntKind.i64 (0 : Int))))]) (Mem.mk [] [] 0))) fun _ =>
 (some ((AV.tup [(AV.dat (D.str (ByteArray.mk (List.toArray [])))), (AV.dat (D.int IntKind.i64 (6 : Int)))]), [])))))
  := by kernel_rfl

theorem cut1_len (b : UInt8) : ∀ l : List UInt8, (cut1 b l).1.length ≤ l.length ∧ (cut1 b l).2.1.length ≤ l.length
  | [] => by simp [cut1]
  | c :: l => by
    have := cut1_len b l
    unfold cut1
    split <;> simp only [List.length_cons, List.length_nil] <;> omega
theorem S43_at {w : List UInt8} (h : w.length ≤ 3000) (G : List Ent) : S43 [.dat (.str (ba w)), .dat (.str (ByteArray.mk (List.toArray [42])))] G = some (oC G (ba (cut1 42 w).1, ba (cut1 42 w).2.1, (cut1 42 w).2.2)) := by
  simp only [S43, sCut1]
  rw [if_pos (by rw [ba_sz]; omega)]
  rfl
theorem S44_at (a : UInt8) (G : List Ent) : S44 [.dat (.str (ByteArray.mk (List.toArray [48, 49, 50, 51, 52, 53, 54, 55, 56, 57, 97, 98, 99, 100, 101, 102]))), .dat (.int .u8 ((a.toNat : Nat) : Int))] G = some (oI G (Go.Lib.indexByte base16 a)) := by
  simp only [S44, sIndexByte]
  rw [show (((a.toNat : Nat) : Int).toNat).toUInt8 = a by simp]
  rfl
theorem rep_one (b : UInt8) : ∀ n : Nat, Go.Lib.repeatL [b] n = List.replicate n b
  | 0 => rfl
  | n + 1 => by rw [Go.Lib.repeatL, rep_one b n]; rfl
theorem S33_at {b : UInt8} {n : Int} (h0 : 0 ≤ n) (h1 : n ≤ 64) (G : List Ent) : S33 [.dat (.str (ByteArray.mk (List.toArray [b]))), .dat (.int .i64 n)] G = some (oS G (ba (List.replicate n.toNat b))) := by
  simp only [S33, sRepeat]
  rw [if_pos]
  · rw [rep_one]
    rfl
  · refine ⟨h0, by omega, ?_⟩
    rw [show (ByteArray.mk (List.toArray [b])).size = 1 from rfl]
    omega
theorem S45_ok {d : List UInt8} {n : Int} (h : d.length ≤ 3000) (e : Go.Lib.atoiAll d = .ok n) (G : List Ent) : S45 [.dat (.str (ba d))] G = some (oAo G n) := by
  simp only [S45, sAtoiA]
  rw [if_pos (by rw [ba_sz]; omega)]
  rw [show (ba d).data.toList = d from rfl, e]
  rfl
theorem S45_no {d : List UInt8} (h : d.length ≤ 3000) (e : ∀ n, Go.Lib.atoiAll d ≠ .ok n) (G : List Ent) : ∃ n, S45 [.dat (.str (ba d))] G = some (oAe G n) := by
  simp only [S45, sAtoiA]
  rw [if_pos (by rw [ba_sz]; omega)]
  rw [show (ba d).data.toList = d from rfl]
  cases ha : Go.Lib.atoiAll d with
  | ok n => exact absurd ha (e n)
  | range => exact ⟨_, rfl⟩
  | _ => exact ⟨_, rfl⟩
theorem oC_inj {G : List Ent} : ∀ x y, oC G x = oC G y → x = y := by
  rintro ⟨a, b, c⟩ ⟨d, e, f⟩ h
  simp [oC] at h
  obtain ⟨rfl, rfl, rfl⟩ := h
  rfl
theorem oAo_inj {G : List Ent} : ∀ x y, oAo G x = oAo G y → x = y := by intro x y h; simpa [oAo, jn] using h
theorem oAe_inj {G : List Ent} : ∀ x y, oAe G x = oAe G y → x = y := by intro x y h; simpa [oAe, jn] using h
theorem oAo_no {G : List Ent} {n : Int} : ∀ x, oAo G x ≠ oAe G n := by intro x h; simp [oAo, oAe] at h
theorem oPt_inj {G : List Ent} : ∀ x y, oPt G x = oPt G y → x = y := by
  rintro ⟨a, b⟩ ⟨c, d⟩ h
  simp [oPt] at h
  obtain ⟨rfl, rfl⟩ := h
  rfl

/-- what a word tells, as the program hands it back -/
def ptOf (o : Option (List UInt8)) : ByteArray × Bool := match o with
  | some p => (ba p, true)
  | none => (ba [], false)
attribute [local irreducible] S33 S43 S44 S45 fnS
theorem f27_run {w : List UInt8} (h : w.length ≤ 3000) : (f27t (ba w)).run = some (oPt [] (ptOf (partL w))) := by
  rw [← Tr.ev_run, f27t_eq]
  have hl := cut1_len 42 w
  refine gStep (fnS_eq (out := oC []) oC_inj (S43_at h [])) ?_
  unfold partL
  generalize cut1 42 w = p at hl
  obtain ⟨y, d, star⟩ := p
  simp only at hl ⊢
  by_cases hy : y.length = 2
  · obtain ⟨a, b, rfl⟩ : ∃ a b, y = [a, b] := by
      match y, hy with
      | [a, b], _ => exact ⟨a, b, rfl⟩
    have ea := fnS_eq (out := oI []) oI_inj (S44_at a [])
    have eb := fnS_eq (out := oI []) oI_inj (S44_at b [])
    have hb : ∀ x z : Int, UInt8.ofNat (Int.toNat (IntKind.wrap IntKind.u8 (IntKind.wrap IntKind.i64 (((BitVec.toNat ((BitVec.ofInt 64 (IntKind.wrap IntKind.i64 (x * (16 : Int)))) ||| (BitVec.ofInt 64 z))) : Nat) : Int)))) = byteP x z := fun _ _ => rfl
    refine aF (by rw [ba_sz]; rfl) (gStep (x := a) (ba_at (i := 0) (by simp)) (gStep ea (gStep (x := b) (ba_at (i := 1) (by simp)) (gStep eb ?_))))
    simp only [hb]
    cases star with
    | true =>
      refine aT rfl ?_
      simp only [if_true]
      cases ha : Go.Lib.atoiAll d with
      | ok n =>
        have e45 := S45_ok (by omega) ha []
        refine aT (fnS_yes (o1 := oAo []) oAo_inj e45) (gStep (fnS_eq (out := oAo []) oAo_inj e45) ?_)
        simp only
        by_cases c1 : Go.Lib.indexByte base16 a < 0
        · rw [if_pos (.inl c1)]; exact aT (decide_eq_true c1) rfl
        refine aF (decide_eq_false c1) ?_
        by_cases c2 : Go.Lib.indexByte base16 b < 0
        · rw [if_pos (.inr (.inl c2))]; exact aT (decide_eq_true c2) rfl
        refine aF (decide_eq_false c2) ?_
        by_cases c3 : n < 1
        · rw [if_pos (.inr (.inr (.inl c3)))]; exact aT (decide_eq_true c3) rfl
        refine aF (decide_eq_false c3) ?_
        by_cases c4 : 64 < n
        · rw [if_pos (.inr (.inr (.inr c4)))]; exact aT (decide_eq_true c4) rfl
        rw [if_neg (by omega)]
        exact aF (decide_eq_false c4) (gStep (fnS_eq (out := oS []) oS_inj (S33_at (by omega) (by omega) [])) rfl)
      | range =>
        obtain ⟨m, e45⟩ := S45_no (d := d) (by omega) (by rw [ha]; simp) []
        refine aF (fnS_no e45 oAo_no) (gStep (fnS_eq (out := oAe []) oAe_inj e45) ?_)
        by_cases c1 : Go.Lib.indexByte base16 a < 0
        · exact aT (decide_eq_true c1) rfl
        refine aF (decide_eq_false c1) ?_
        by_cases c2 : Go.Lib.indexByte base16 b < 0
        · exact aT (decide_eq_true c2) rfl
        · exact aF (decide_eq_false c2) rfl
      | _ =>
        obtain ⟨m, e45⟩ := S45_no (d := d) (by omega) (by rw [ha]; simp) []
        refine aF (fnS_no e45 oAo_no) (gStep (fnS_eq (out := oAe []) oAe_inj e45) ?_)
        by_cases c1 : Go.Lib.indexByte base16 a < 0
        · exact aT (decide_eq_true c1) rfl
        refine aF (decide_eq_false c1) ?_
        by_cases c2 : Go.Lib.indexByte base16 b < 0
        · exact aT (decide_eq_true c2) rfl
        · exact aF (decide_eq_false c2) rfl
    | false =>
      refine aF rfl ?_
      simp only [Bool.false_eq_true, if_false]
      by_cases c1 : Go.Lib.indexByte base16 a < 0
      · rw [if_pos (.inl c1)]; exact aT (decide_eq_true c1) rfl
      refine aF (decide_eq_false c1) ?_
      by_cases c2 : Go.Lib.indexByte base16 b < 0
      · rw [if_pos (.inr (.inl c2))]; exact aT (decide_eq_true c2) rfl
      rw [if_neg (by omega)]
      exact aF (decide_eq_false c2) (gStep (fnS_eq (out := oS []) oS_inj (S33_at (by omega) (by omega) [])) rfl)
  · have e : ptOf (match (y, d, star) with
      | ([a, b], d, star) => match (if star then (match Go.Lib.atoiAll d with
          | .ok n => some n
          | _ => none) else some 1) with
        | some n => if Go.Lib.indexByte base16 a < 0 ∨ Go.Lib.indexByte base16 b < 0 ∨ n < 1 ∨ 64 < n then none else some (List.replicate n.toNat (byteP (Go.Lib.indexByte base16 a) (Go.Lib.indexByte base16 b)))
        | none => none
      | _ => none) = (ba [], false) := by
      match y, hy with
      | [], _ => rfl
      | [_], _ => rfl
      | _ :: _ :: _ :: _, _ => rfl
      | [_, _], h => exact absurd rfl h
    refine aT ?_ ?_
    · rw [ba_sz]
      simp only [bne_iff_ne, ne_eq]
      omega
    · exact congrArg (fun o => some (oPt [] o)) e.symm
theorem p27 {w : List UInt8} {G : List Ent} (h : w.length ≤ 3000) : P27 [.dat (.str (ba w))] G = some (oPt G (ptOf (partL w))) := pureS_eq rfl (f27_run h) rfl
end Go.Eng
end

/- Sectors out of short texts: the program's Long is the plain one. -/
section
namespace Go.Eng
open Go
set_option maxRecDepth 100000
set_option linter.unusedSimpArgs false

theorem partL_len {w p : List UInt8} (h : partL w = some p) : p.length ≤ 64 := by
  unfold partL at h
  split at h
  · split at h
    · split at h
      · cases h
      · injection h with h
        subst h
        rw [List.length_replicate]
        omega
    · cases h
  · cases h
theorem cuts_len (b : UInt8) : ∀ (l : List UInt8), ∀ w ∈ cutsL b l, w.length ≤ l.length
  | [], w, h => by
    simp only [cutsL, List.mem_singleton] at h
    subst h
    exact Nat.le_refl _
  | c :: l, w, h => by
    have ih := cuts_len b l
    unfold cutsL at h
    split at h
    · rcases List.mem_cons.1 h with rfl | h
      · exact Nat.zero_le _
      · have := ih w h
        simp only [List.length_cons]; omega
    · split at h
      · simp only [List.mem_singleton] at h
        subst h
        simp
      · rename_i a t e
        rw [e] at ih
        rcases List.mem_cons.1 h with rfl | h
        · have := ih a (by simp)
          simp only [List.length_cons]; omega
        · have := ih w (by simp [h])
          simp only [List.length_cons]; omega
theorem lo8_ok : ∀ c, Go.Proofs.Tryz.f45.body = some c → LoOk2 TT t8l.runs (HSl 8) lo8 c := lo_one (lp := lp8) (by kernel_rfl) fun st r h => by
  rw [show firstRegion lp8 = 3 from by kernel_rfl] at h
  exact tlo2_ok h
theorem c27 : COk PP 64 R27 := tok_fn (H := fun _ => []) TT_ok (TOk.cons (COk.spec (out := fun _ G => oS G) c69) (TOk.cons (COk.spec (out := fun _ G => oC G) c66) (TOk.cons (COk.spec (out := fun _ G => oI G) c67) (TOk.cons (COk.spec2 (o1 := fun _ G => oAo G) (o2 := fun _ G => oAe G) c68) TOk.nil)))) Go.Proofs.Tryz.func64 (by kernel_rfl) fun _ _ => LoOk2.no _
theorem t8l_ok : TOk PP t8l := TOk.cons (COk.spec (out := fun _ G => oRw G) c21) (TOk.cons (COk.spec (out := fun _ G => oPt G) c27.pure) (TOk.cons (COk.spec (out := fun _ G => oS G) c7.pure) TOk.nil))
theorem c8 : COk PP 45 R8 := tok_fn (H := HSl 8) TT_ok t8l_ok Go.Proofs.Tryz.func45 (by kernel_rfl) lo8_ok

theorem out8a_inj {a0 : AV} : ∀ x y, out8a a0 x = out8a a0 y → x = y := by
  intro x y h
  simp [out8a, mkT] at h
  exact h
theorem out8b_inj {a0 : AV} : ∀ x y, out8b a0 x = out8b a0 y → x = y := by
  intro x y h
  simp [out8b, mkT] at h
  exact h
theorem out8_no {a0 : AV} {y : ByteArray} : ∀ x, out8a a0 x ≠ out8b a0 y := fun x h => by simp [out8a, out8b] at h
theorem oRw_inj {G : List Ent} : ∀ x y, oRw G x = oRw G y → x = y := by intro x y h; simpa [oRw] using h
def res8 (s : ByteArray) (st : St) : Option (List UInt8) → Prop
  | some o => LoopTo TT t8l.runs (HSl 8) lp8 st (out8a (.dat (.str s)) (ba o))
  | none => ∃ a, LoopTo TT t8l.runs (HSl 8) lp8 st (out8b (.dat (.str s)) a)
theorem sRow_at {ws : List (List UInt8)} {i : Nat} {w : List UInt8} (h : ws[i]? = some w) : (sRow ws)[i]? = some [.str (ba w)] := by
  rw [sRow, List.getElem?_map, h]
  rfl
attribute [local irreducible] P27 fnS
theorem loop8 (s : ByteArray) : ∀ (rest pre : List (List UInt8)) (acc : List UInt8), (pre ++ rest).length ≤ 3000 → (∀ w ∈ rest, w.length ≤ 3000) → acc.length ≤ 64 →
    res8 s (inv8 s (ba acc) (sRow (pre ++ rest)) ((sRow (pre ++ rest)).length : Nat) pre.length) (progF rest acc)
  | [], pre, acc, hn, _, _ => by
    refine LoopTo.last (orc := t8l) (lo := noLo) (fun _ _ _ _ h => h) (LoOk2.no _) ?_ (by simp [out8a])
    show (rk8 s (ba acc) (sRow (pre ++ [])) ((sRow (pre ++ [])).length : Nat) pre.length).run = _
    rw [← Tr.ev_run, rk8_eq]
    refine aF ?_ rfl
    rw [decide_eq_false_iff_not, sRow, List.length_map, List.append_nil]
    omega
  | w :: rest, pre, acc, hn, hw, ha => by
    have hw1 := hw w (by simp)
    have hlen : (sRow (pre ++ w :: rest)).length = pre.length + rest.length + 1 := by
      rw [sRow, List.length_map, List.length_append, List.length_cons]; omega
    rw [List.length_append, List.length_cons] at hn
    have e27 := fnS_eq (out := oPt []) oPt_inj (p27 (G := []) hw1)
    have hat : (sRow (pre ++ w :: rest))[Int.toNat ((pre.length : Nat) : Int)]? = some [.str (ba w)] := by
      rw [Int.toNat_natCast]
      exact sRow_at (by simp)
    have hb : (true && ((decide ((0 : Int) ≤ ((pre.length : Nat) : Int))) && (decide (((pre.length : Nat) : Int) < (((sRow (pre ++ w :: rest)).length : Nat) : Int))))) = true := by
      rw [Bool.true_and, Bool.and_eq_true, decide_eq_true_eq, decide_eq_true_eq]
      omega
    have go : ∀ o, (rk8 s (ba acc) (sRow (pre ++ w :: rest)) ((sRow (pre ++ w :: rest)).length : Nat) pre.length).ev = o → (tround TT t8l noLo (HSl 8) lp8 (inv8 s (ba acc) (sRow (pre ++ w :: rest)) ((sRow (pre ++ w :: rest)).length : Nat) pre.length)).run = o := fun o h => by
      rw [Tr.ev_run] at h
      exact h
    unfold progF
    cases hp : partL w with
    | none =>
      rw [hp] at e27
      refine ⟨ba acc, LoopTo.last (orc := t8l) (lo := noLo) (fun _ _ _ _ h => h) (LoOk2.no _) (go _ ?_) (by simp [out8b])⟩
      rw [rk8_eq]
      exact aT (by rw [decide_eq_true_eq]; omega) (aT hb (gStep hat (gStep rfl (gStep e27 (aT rfl rfl)))))
    | some p =>
      rw [hp] at e27
      have hpl := partL_len hp
      by_cases hc : 64 < acc.length + p.length
      · simp only [if_pos hc]
        refine ⟨ba acc, LoopTo.last (orc := t8l) (lo := noLo) (fun _ _ _ _ h => h) (LoOk2.no _) (go _ ?_) (by simp [out8b])⟩
        rw [rk8_eq]
        refine aT (by rw [decide_eq_true_eq]; omega) (aT hb (gStep hat (gStep rfl (gStep e27 (aF rfl (aT ?_ rfl))))))
        show decide (IntKind.wrap IntKind.i64 ((((ba acc).size : Nat) : Int) + (((ba p).size : Nat) : Int)) > 64) = true
        rw [ba_sz, ba_sz, w64 (n := acc.length + p.length) (by omega) (by omega), decide_eq_true_eq]
        omega
      · simp only [if_neg hc]
        have step : (tround TT t8l noLo (HSl 8) lp8 (inv8 s (ba acc) (sRow (pre ++ w :: rest)) ((sRow (pre ++ w :: rest)).length : Nat) pre.length)).run = some (.norm, inv8 s (ba (acc ++ p)) (sRow (pre ++ w :: rest)) ((sRow (pre ++ w :: rest)).length : Nat) ((pre.length + 1 : Nat) : Int)) := by
          refine go _ ?_
          rw [rk8_eq]
          refine aT (by rw [decide_eq_true_eq]; omega) (aT hb (gStep hat (gStep rfl (gStep e27 (aF rfl (aF ?_ (aT ?_ ?_)))))))
          · show decide (IntKind.wrap IntKind.i64 ((((ba acc).size : Nat) : Int) + (((ba p).size : Nat) : Int)) > 64) = false
            rw [ba_sz, ba_sz, w64 (n := acc.length + p.length) (by omega) (by omega), decide_eq_false_iff_not]
            omega
          · show Nat.ble ((ba acc).size + (ba p).size) 9223372036854775807 = true
            rw [ba_sz, ba_sz]
            exact Nat.ble_eq_true_of_le (by omega)
          · rw [w64 (n := pre.length + 1) (by omega) (by omega), ← ba_app]
            rfl
        have ih := loop8 s rest (pre ++ [w]) (acc ++ p) (by simp only [List.length_append, List.length_cons, List.length_nil]; omega) (fun v hv => hw v (by simp [hv])) (by rw [List.length_append]; omega)
        rw [List.append_assoc, List.singleton_append, List.length_append, List.length_singleton] at ih
        cases hr : progF rest (acc ++ p) with
        | some o =>
          rw [hr] at ih
          exact LoopTo.more (orc := t8l) (lo := noLo) (fun _ _ _ _ h => h) (LoOk2.no _) step ih
        | none =>
          rw [hr] at ih
          obtain ⟨a, ih⟩ := ih
          exact ⟨a, LoopTo.more (orc := t8l) (lo := noLo) (fun _ _ _ _ h => h) (LoOk2.no _) step ih⟩

def oLg (G : List Ent) (p : ByteArray × Int) : AV × List Ent := (.tup [.dat (.str p.1), jn p.2], G)
def lgOf (o : Option (List UInt8)) : ByteArray × Int := match o with
  | some p => (ba p, 0)
  | none => (ba [], 6)
theorem oLg_inj {G : List Ent} : ∀ x y, oLg G x = oLg G y → x = y := by
  rintro ⟨a, b⟩ ⟨c, d⟩ h
  simp [oLg, jn] at h
  obtain ⟨rfl, rfl⟩ := h
  rfl
theorem S26_at {t : List UInt8} (h : t.length ≤ 3000) (G : List Ent) : S26 [.dat (.str (ba t)), .dat (.str (ByteArray.mk (List.toArray [32])))] G = some (oRw G (sRow (cutsL 32 t))) := by
  simp only [S26, sSplit1]
  rw [if_pos (by rw [ba_sz]; omega)]
  rfl
theorem cuts_num (b : UInt8) : ∀ l : List UInt8, (cutsL b l).length ≤ l.length + 1
  | [] => by simp [cutsL]
  | c :: l => by
    have ih := cuts_num b l
    unfold cutsL
    split
    · simp only [List.length_cons]; omega
    · split
      · simp
      · rename_i e
        rw [e] at ih
        simp only [List.length_cons] at ih ⊢; omega
attribute [local irreducible] S26 P7
theorem p7' {l : List UInt8} {G : List Ent} : P7 [.dat (.str (ba l))] G = some (oS G (ba (shortB l))) := by
  unfold P7
  exact p7
theorem f8_run {t : List UInt8} (h : t.length ≤ 2000) : R8 [.dat (.str (ba t))] [] = some (oLg [] (lgOf (progL t))) := by
  have key : ∀ o, (f8t (ba t)).ev = o → R8 [.dat (.str (ba t))] [] = o := fun o h => by
    rw [Tr.ev_run] at h
    exact h
  refine key _ ?_
  rw [f8t_eq]
  have hn := cuts_num 32 t
  have hl := loop8 (ba t) (cutsL 32 t) [] [] (by simp only [List.nil_append]; omega) (fun w hw => by have := cuts_len 32 t w hw; omega) (by simp)
  simp only [List.nil_append, List.length_nil] at hl
  refine gStep (fnS_eq (out := oRw []) oRw_inj (S26_at (by omega) [])) ?_
  unfold progL
  cases hp : progF (cutsL 32 t) [] with
  | none =>
    rw [hp] at hl
    obtain ⟨a, hl⟩ := hl
    exact aF (loS_no (o1 := out8a (.dat (.str (ba t)))) hl out8_no) (gStep (loS_eq (out := out8b (.dat (.str (ba t)))) out8b_inj hl) rfl)
  | some o =>
    rw [hp] at hl
    refine aT (loS_yes (o1 := out8a (.dat (.str (ba t)))) out8a_inj hl) (gStep (loS_eq (out := out8a (.dat (.str (ba t)))) out8a_inj hl) ?_)
    simp only
    by_cases h0 : t = []
    · rw [if_pos (.inl h0)]
      exact aT (by rw [ba_list, h0]; rfl) rfl
    refine aF (by rw [ba_list]; simpa using h0) (gStep (fnS_eq (out := oS []) oS_inj p7') ?_)
    by_cases h1 : shortB o = t
    · rw [if_neg (by simp [h0, h1])]
      exact aF (by rw [ba_list, ba_list, h1]; simp) rfl
    · rw [if_pos (.inr h1)]
      exact aT (by rw [ba_list, ba_list]; simpa using h1) rfl
end Go.Eng
end

/- Sectors out of short texts: the document's words, digits and counts. -/
section
namespace Go.Eng
open Go
set_option maxRecDepth 100000
set_option linter.unusedSimpArgs false

theorem f30t_eq (s : ByteArray) : (f30t s).ev =
 (rAsk ((((ByteArray.size s) : Nat) : Int) == (2 : Int))
 (some ((AV.dat (D.int IntKind.i64 (1 : Int))), []))
 (rAsk (decide ((((ByteArray.size s) : Nat) : Int) < (4 : Int)))
 (some ((AV.dat (D.int IntKind.i64 (0 : Int))), []))
 (rAsk (decide ((((ByteArray.size s) : Nat) : Int) > (5 : Int)))
 (some ((AV.dat (D.int IntKind.i64 (0 : Int))), []))
 (rGet s[2]? fun x1 =>
 (rAsk ((((UInt8.toNat x1) : Nat) : Int) != (42 : Int))
 (some ((AV.dat (D.int IntKind.i64 (0 : Int))), []))
 (rAsk (Option.isSome (loS TT (TOrc.runs tNone) (HSm 30) lp30 out30a (St.mk (mkT 0 46 [(0, (AV.dat (D.str s))), (3, (AV.dat (D.int IntKind.i64 (0 : Int)))), (4, (AV.dat (D.int IntKind.i64 (3 : Int))))]) (Mem.mk [] [] 0))))
 (rGet (loS TT (TOrc.runs tNone) (HSm 30) lp30 out30a (St.mk (mkT 0 46 [(0, (AV.dat (D.str s))), (3, (AV.dat (D.int IntKind.i64 (0 : Int)))), (4, (AV.dat (D.int IntKind.i64 (3 : Int))))]) (Mem.mk [] [] 0))) fun x2 =>
 (some ((AV.dat (D.int IntKind.i64 x2)), [])))
 (rGet (loS TT (TOrc.runs tNone) (HSm 30) lp30 out30b (St.mk (mkT 0 46 [(0, (AV.dat (D.str s))), (3, (AV.dat (D.int IntKind.i64 (0 : Int)))), (4, (AV.dat (D.int IntKind.i64 (3 : Int))))]) (Mem.mk [] [] 0))) fun _ =>
 (some ((AV.dat (D.int IntKind.i64 (0 : Int))), [])))))))))
  := by kernel_rfl
theorem rk30_eq (s : ByteArray) (n i : Int) : (rk30 s n i).ev =
 (rAsk (decide (i < (((ByteArray.size s) : Nat) : Int)))
 (rAsk (decide ((0 : Int) ≤ i))
 (rGet s[(Int.toNat i)]? fun x1 =>
 (rAsk (decide ((((UInt8.toNat x1) : Nat) : Int) < (48 : Int)))
 (some (Ex.ret, (St.mk (mkT 0 46 [(2, (AV.dat (D.int IntKind.i64 (0 : Int)))), (3, (AV.dat (D.int IntKind.i64 n)))]) (Mem.mk [] [] 0))))
 (rAsk (decide ((0 : Int) ≤ i))
 (rGet s[(Int.toNat i)]? fun x2 =>
 (rAsk (decide ((((UInt8.toNat x2) : Nat) : Int) > (57 : Int)))
 (some (Ex.ret, (St.mk (mkT 0 46 [(2, (AV.dat (D.int IntKind.i64 (0 : Int)))), (3, (AV.dat (D.int IntKind.i64 n)))]) (Mem.mk [] [] 0))))
 (rAsk (decide ((0 : Int) ≤ i))
 (rGet s[(Int.toNat i)]? fun x3 =>
 (some (Ex.norm, (St.mk (mkT 0 46 [(0, (AV.dat (D.str s))), (3, (AV.dat (D.int IntKind.i64 (IntKind.wrap IntKind.i64 ((IntKind.wrap IntKind.i64 ((10 : Int) * n)) + (IntKind.wrap IntKind.i64 (IntKind.wrap IntKind.u8 ((((UInt8.toNat x3) : Nat) : Int) - (48 : Int))))))))), (4, (AV.dat (D.int IntKind.i64 (IntKind.wrap IntKind.i64 (i + (1 : Int))))))]) (Mem.mk [] [] 0)))))
 none)))
 none)))
 none)
 (some ((Ex.exit 0), (St.mk (mkT 0 46 [(3, (AV.dat (D.int IntKind.i64 n)))]) (Mem.mk [] [] 0)))))
  := by kernel_rfl
theorem f29t_eq (s : ByteArray) : (f29t s).ev =
 (rAsk (Option.isSome (loS TT (TOrc.runs t29) (HSm 29) lp29 (out29a (AV.dat (D.str s))) (St.mk (mkT 0 44 [(0, (AV.dat (D.str s))), (4, (AV.dat (D.list LK.nil 0 ([] : Row)))), (5, (AV.dat (D.int IntKind.i64 (0 : Int))))]) (Mem.mk [] [] 0))))
 (rGet (loS TT (TOrc.runs t29) (HSm 29) lp29 (out29a (AV.dat (D.str s))) (St.mk (mkT 0 44 [(0, (AV.dat (D.str s))), (4, (AV.dat (D.list LK.nil 0 ([] : Row)))), (5, (AV.dat (D.int IntKind.i64 (0 : Int))))]) (Mem.mk [] [] 0))) fun x1 =>
 (some ((AV.tup [(AV.dat (D.str (ByteArray.mk (List.toArray [(UInt8.ofNat (Int.toNat x1))])))), (AV.dat (D.bool ((Int.tmod (((ByteArray.size s) : Nat) : Int) (2 : Int)) == (0 : Int))))]), [])))
 (rGet (loS TT (TOrc.runs t29) (HSm 29) lp29 (out29b (AV.dat (D.str s))) (St.mk (mkT 0 44 [(0, (AV.dat (D.str s))), (4, (AV.dat (D.list LK.nil 0 ([] : Row)))), (5, (AV.dat (D.int IntKind.i64 (0 : Int))))]) (Mem.mk [] [] 0))) fun _ =>
 (some ((AV.tup [(AV.dat (D.str (ByteArray.mk (List.toArray [])))), (AV.dat (D.bool false))]), []))))
  := by kernel_rfl
theorem rk29n_eq (s : ByteArray) (i : Int) : (rk29n s i).ev =
 (rAsk (decide ((IntKind.wrap IntKind.i64 (i + (1 : Int))) < (((ByteArray.size s) : Nat) : Int)))
 (rAsk (decide ((0 : Int) ≤ i))
 (rGet s[(Int.toNat i)]? fun x1 =>
 (rGet (fnS (fun (n : Int) => ((AV.dat (D.int IntKind.i64 n)), [])) (P46 [(AV.dat (D.int IntKind.u8 (((UInt8.toNat x1) : Nat) : Int)))] [])) fun x2 =>
 (rAsk (decide ((0 : Int) ≤ (IntKind.wrap IntKind.i64 (i + (1 : Int)))))
 (rGet s[(Int.toNat (IntKind.wrap IntKind.i64 (i + (1 : Int))))]? fun x3 =>
 (rGet (fnS (fun (n : Int) => ((AV.dat (D.int IntKind.i64 n)), [])) (P46 [(AV.dat (D.int IntKind.u8 (((UInt8.toNat x3) : Nat) : Int)))] [])) fun x4 =>
 (rAsk (decide (x2 < (0 : Int)))
 (some (Ex.ret, (St.mk (mkT 0 44 [(0, (AV.dat (D.str s))), (2, (AV.dat (D.str (ByteArray.mk (List.toArray []))))), (3, (AV.dat (D.bool false))), (4, (AV.dat (D.list LK.nil 0 ([] : Row))))]) (Mem.mk [] [] 0))))
 (rAsk (decide (x4 < (0 : Int)))
 (some (Ex.ret, (St.mk (mkT 0 44 [(0, (AV.dat (D.str s))), (2, (AV.dat (D.str (ByteArray.mk (List.toArray []))))), (3, (AV.dat (D.bool false))), (4, (AV.dat (D.list LK.nil 0 ([] : Row))))]) (Mem.mk [] [] 0))))
 (some (Ex.norm, (St.mk (mkT 0 44 [(0, (AV.dat (D.str s))), (4, (AV.sh false 0 1 0 1)), (5, (AV.dat (D.int IntKind.i64 (IntKind.wrap IntKind.i64 (i + (2 : Int))))))]) (Mem.mk [(Option.some (Ent.row Mode.excl 1 [[(D.int IntKind.u8 (IntKind.wrap IntKind.u8 (IntKind.wrap IntKind.i64 ((IntKind.wrap IntKind.i64 ((16 : Int) * x2)) + x4))))]]))] [] 0))))))))
 none)))
 none)
 (some ((Ex.exit 0), (St.mk (mkT 0 44 [(0, (AV.dat (D.str s))), (4, (AV.dat (D.list LK.nil 0 ([] : Row))))]) (Mem.mk [] [] 0)))))
  := by kernel_rfl
theorem rk29y_eq (s : ByteArray) (v i : Int) : (rk29y s v i).ev =
 (rAsk (decide ((IntKind.wrap IntKind.i64 (i + (1 : Int))) < (((ByteArray.size s) : Nat) : Int)))
 (rAsk (decide ((0 : Int) ≤ i))
 (rGet s[(Int.toNat i)]? fun x1 =>
 (rGet (fnS (fun (n : Int) => ((AV.dat (D.int IntKind.i64 n)), [])) (P46 [(AV.dat (D.int IntKind.u8 (((UInt8.toNat x1) : Nat) : Int)))] [])) fun x2 =>
 (rAsk (decide ((0 : Int) ≤ (IntKind.wrap IntKind.i64 (i + (1 : Int)))))
 (rGet s[(Int.toNat (IntKind.wrap IntKind.i64 (i + (1 : Int))))]? fun x3 =>
 (rGet (fnS (fun (n : Int) => ((AV.dat (D.int IntKind.i64 n)), [])) (P46 [(AV.dat (D.int IntKind.u8 (((UInt8.toNat x3) : Nat) : Int)))] [])) fun x4 =>
 (rAsk (decide (x2 < (0 : Int)))
 (some (Ex.ret, (St.mk (mkT 0 44 [(0, (AV.dat (D.str s))), (2, (AV.dat (D.str (ByteArray.mk (List.toArray []))))), (3, (AV.dat (D.bool false))), (4, (AV.sh false 0 1 0 1))]) (Mem.mk [(Option.some (Ent.row Mode.excl 1 [[(D.int IntKind.u8 v)]]))] [] 0))))
 (rAsk (decide (x4 < (0 : Int)))
 (some (Ex.ret, (St.mk (mkT 0 44 [(0, (AV.dat (D.str s))), (2, (AV.dat (D.str (ByteArray.mk (List.toArray []))))), (3, (AV.dat (D.bool false))), (4, (AV.sh false 0 1 0 1))]) (Mem.mk [(Option.some (Ent.row Mode.excl 1 [[(D.int IntKind.u8 v)]]))] [] 0))))
 (some (Ex.norm, (St.mk (mkT 0 44 [(0, (AV.dat (D.str s))), (4, (AV.sh false 0 1 0 2)), (5, (AV.dat (D.int IntKind.i64 (IntKind.wrap IntKind.i64 (i + (2 : Int))))))]) (Mem.mk [(Option.some (Ent.row Mode.excl 1 [[(D.int IntKind.u8 v)], [(D.int IntKind.u8 (IntKind.wrap IntKind.u8 (IntKind.wrap IntKind.i64 ((IntKind.wrap IntKind.i64 ((16 : Int) * x2)) + x4))))]]))] [] 0))))))))
 none)))
 none)
 (some ((Ex.exit 0), (St.mk (mkT 0 44 [(0, (AV.dat (D.str s))), (4, (AV.sh false 0 1 0 1))]) (Mem.mk [(Option.some (Ent.row Mode.excl 1 [[(D.int IntKind.u8 v)]]))] [] 0)))))
  := by kernel_rfl
theorem f28t_eq (s : ByteArray) : (f28t s).ev =
 (rAsk (Option.isSome (loS TT (TOrc.runs tNone) (HSm 28) lp28 (out28 true) (St.mk (mkT 0 37 [(0, (AV.dat (D.str s))), (3, (AV.sh true 0 1 0 1)), (4, (AV.dat (D.int IntKind.i64 (0 : Int))))]) (Mem.mk [(Option.some (Ent.row Mode.excl 1 [[(D.str (ByteArray.mk (List.toArray [])))]]))] [] 0))))
 (rGet (loS TT (TOrc.runs tNone) (HSm 28) lp28 (out28 true) (St.mk (mkT 0 37 [(0, (AV.dat (D.str s))), (3, (AV.sh true 0 1 0 1)), (4, (AV.dat (D.int IntKind.i64 (0 : Int))))]) (Mem.mk [(Option.some (Ent.row Mode.excl 1 [[(D.str (ByteArray.mk (List.toArray [])))]]))] [] 0))) fun x1 =>
 (some ((AV.dat (D.list LK.full 1 (List.take x1.2 (List.drop 0 x1.1)))), [])))
 (rGet (loS TT (TOrc.runs tNone) (HSm 28) lp28 (out28 false) (St.mk (mkT 0 37 [(0, (AV.dat (D.str s))), (3, (AV.sh true 0 1 0 1)), (4, (AV.dat (D.int IntKind.i64 (0 : Int))))]) (Mem.mk [(Option.some (Ent.row Mode.excl 1 [[(D.str (ByteArray.mk (List.toArray [])))]]))] [] 0))) fun x2 =>
 (rAsk (wholeB false 0 x2.2 (List.length x2.1))
 (some ((AV.own true 1 x2.1), []))
 (some ((AV.dat (D.list LK.any 1 (List.take x2.2 (List.drop 0 x2.1)))), [])))))
  := by kernel_rfl
theorem rk28t_eq (s : ByteArray) (l : Row) (n : Nat) (i : Int) : (rk28t s l n i).ev =
 (rAsk (decide (i < (((ByteArray.size s) : Nat) : Int)))
 (rAsk (decide ((0 : Int) ≤ i))
 (rGet s[(Int.toNat i)]? fun x1 =>
 (rAsk ((((UInt8.toNat x1) : Nat) : Int) == (32 : Int))
 (rAsk ((decide ((0 + n) ≤ (List.length l))) && (fits (TI.mk TK.str 1 16 [(AV.dat (D.str (ByteArray.mk (List.toArray []))))] true) (n + 1)))
 (some (Ex.norm, (St.mk (mkT 0 37 [(0, (AV.dat (D.str s))), (3, (AV.sh false 0 1 0 (n + 1))), (4, (AV.dat (D.int IntKind.i64 (IntKind.wrap IntKind.i64 (i + (1 : Int))))))]) (Mem.mk [(Option.some (Ent.row Mode.excl 1 ((List.take n (List.drop 0 l)) ++ [[(D.str (ByteArray.mk (List.toArray [])))]])))] [] 0))))
 none)
 (rAsk ((decide ((0 : Int) ≤ (IntKind.wrap IntKind.i64 (((n : Nat) : Int) - (1 : Int))))) && (decide ((IntKind.wrap IntKind.i64 (((n : Nat) : Int) - (1 : Int))) < ((n : Nat) : Int))))
 (rGet l[(0 + (Int.toNat (IntKind.wrap IntKind.i64 (((n : Nat) : Int) - (1 : Int)))))]? fun x2 =>
 (rGet (List.head? (List.drop 0 x2)) fun x3 =>
 (rAsk ((decide ((0 : Int) ≤ i)) && ((decide (i ≤ (IntKind.wrap IntKind.i64 (i + (1 : Int))))) && (decide ((IntKind.wrap IntKind.i64 (i + (1 : Int))) ≤ (((ByteArray.size s) : Nat) : Int)))))
 (rGet (D.str? x3) fun x4 =>
 (rAsk (Nat.ble ((ByteArray.size x4) + (ByteArray.size (ByteArray.extract s (Int.toNat i) (Int.toNat (IntKind.wrap IntKind.i64 (i + (1 : Int))))))) 9223372036854775807)
 (rAsk ((decide ((0 : Int) ≤ (IntKind.wrap IntKind.i64 (((n : Nat) : Int) - (1 : Int))))) && (decide ((IntKind.wrap IntKind.i64 (((n : Nat) : Int) - (1 : Int))) < ((n : Nat) : Int))))
 (rGet l[(0 + (Int.toNat (IntKind.wrap IntKind.i64 (((n : Nat) : Int) - (1 : Int)))))]? fun x5 =>
 (rAsk (decide (1 ≤ (List.length x5)))
 (some (Ex.norm, (St.mk (mkT 0 37 [(0, (AV.dat (D.str s))), (3, (AV.sh true 0 1 0 n)), (4, (AV.dat (D.int IntKind.i64 (IntKind.wrap IntKind.i64 (i + (1 : Int))))))]) (Mem.mk [(Option.some (Ent.row Mode.excl 1 (List.set l (0 + (Int.toNat (IntKind.wrap IntKind.i64 (((n : Nat) : Int) - (1 : Int))))) ((D.str (x4 ++ (ByteArray.extract s (Int.toNat i) (Int.toNat (IntKind.wrap IntKind.i64 (i + (1 : Int))))))) :: (List.drop 1 x5)))))] [] 0))))
 none))
 none)
 none))
 none)))
 none)))
 none)
 (some ((Ex.exit 0), (St.mk (mkT 0 37 [(3, (AV.sh true 0 1 0 n))]) (Mem.mk [(Option.some (Ent.row Mode.excl 1 l))] [] 0)))))
  := by kernel_rfl
theorem rk28f_eq (s : ByteArray) (l : Row) (n : Nat) (i : Int) : (rk28f s l n i).ev =
 (rAsk (decide (i < (((ByteArray.size s) : Nat) : Int)))
 (rAsk (decide ((0 : Int) ≤ i))
 (rGet s[(Int.toNat i)]? fun x1 =>
 (rAsk ((((UInt8.toNat x1) : Nat) : Int) == (32 : Int))
 (rAsk ((decide ((0 + n) ≤ (List.length l))) && (fits (TI.mk TK.str 1 16 [(AV.dat (D.str (ByteArray.mk (List.toArray []))))] true) (n + 1)))
 (rAsk (true && (decide (n = (List.length l))))
 (some (Ex.norm, (St.mk (mkT 0 37 [(0, (AV.dat (D.str s))), (3, (AV.sh false 0 1 0 (n + 1))), (4, (AV.dat (D.int IntKind.i64 (IntKind.wrap IntKind.i64 (i + (1 : Int))))))]) (Mem.mk [(Option.some (Ent.row Mode.excl 1 (l ++ [[(D.str (ByteArray.mk (List.toArray [])))]])))] [] 0))))
 none)
 none)
 (rAsk ((decide ((0 : Int) ≤ (IntKind.wrap IntKind.i64 (((n : Nat) : Int) - (1 : Int))))) && (decide ((IntKind.wrap IntKind.i64 (((n : Nat) : Int) - (1 : Int))) < ((n : Nat) : Int))))
 (rGet l[(0 + (Int.toNat (IntKind.wrap IntKind.i64 (((n : Nat) : Int) - (1 : Int)))))]? fun x2 =>
 (rGet (List.head? (List.drop 0 x2)) fun x3 =>
 (rAsk ((decide ((0 : Int) ≤ i)) && ((decide (i ≤ (IntKind.wrap IntKind.i64 (i + (1 : Int))))) && (decide ((IntKind.wrap IntKind.i64 (i + (1 : Int))) ≤ (((ByteArray.size s) : Nat) : Int)))))
 (rGet (D.str? x3) fun x4 =>
 (rAsk (Nat.ble ((ByteArray.size x4) + (ByteArray.size (ByteArray.extract s (Int.toNat i) (Int.toNat (IntKind.wrap IntKind.i64 (i + (1 : Int))))))) 9223372036854775807)
 (rAsk ((decide ((0 : Int) ≤ (IntKind.wrap IntKind.i64 (((n : Nat) : Int) - (1 : Int))))) && (decide ((IntKind.wrap IntKind.i64 (((n : Nat) : Int) - (1 : Int))) < ((n : Nat) : Int))))
 (rGet l[(0 + (Int.toNat (IntKind.wrap IntKind.i64 (((n : Nat) : Int) - (1 : Int)))))]? fun x5 =>
 (rAsk (decide (1 ≤ (List.length x5)))
 (some (Ex.norm, (St.mk (mkT 0 37 [(0, (AV.dat (D.str s))), (3, (AV.sh false 0 1 0 n)), (4, (AV.dat (D.int IntKind.i64 (IntKind.wrap IntKind.i64 (i + (1 : Int))))))]) (Mem.mk [(Option.some (Ent.row Mode.excl 1 (List.set l (0 + (Int.toNat (IntKind.wrap IntKind.i64 (((n : Nat) : Int) - (1 : Int))))) ((D.str (x4 ++ (ByteArray.extract s (Int.toNat i) (Int.toNat (IntKind.wrap IntKind.i64 (i + (1 : Int))))))) :: (List.drop 1 x5)))))] [] 0))))
 none))
 none)
 none))
 none)))
 none)))
 none)
 (some ((Ex.exit 0), (St.mk (mkT 0 37 [(3, (AV.sh false 0 1 0 n))]) (Mem.mk [(Option.some (Ent.row Mode.excl 1 l))] [] 0)))))
  := by kernel_rfl

theorem pos10 (n : Nat) : 0 < 10 ^ n := Nat.pos_of_ne_zero (by simp)
theorem four {w : List UInt8} (h : ¬ w.length < 4) : ∃ a b x ds, w = a :: b :: x :: ds := by
  match w, h with
  | a :: b :: x :: ds, _ => exact ⟨a, b, x, ds, rfl⟩
  | [], h => simp at h
  | [_], h => simp at h
  | [_, _], h => simp at h
/-! ### how many -/
theorem out30a_inj : ∀ x y, out30a x = out30a y → x = y := by
  intro x y h
  simp [out30a, jn, mkT] at h
  exact h
theorem out30b_inj : ∀ x y, out30b x = out30b y → x = y := by
  intro x y h
  simp [out30b, jn, mkT] at h
  exact h
theorem out30_no {y : Int} : ∀ x, out30a x ≠ out30b y := fun x h => by simp [out30a, out30b] at h
theorem u8_num (d : UInt8) (h : ¬ d.toNat < 48) : IntKind.wrap .i64 (IntKind.wrap .u8 (((d.toNat : Nat) : Int) - 48)) = ((d.toNat - 48 : Nat) : Int) := by
  have := d.toNat_lt
  have e : IntKind.wrap .u8 (((d.toNat : Nat) : Int) - 48) = ((d.toNat - 48 : Nat) : Int) := by
    unfold IntKind.wrap
    simp [IntKind.bits, IntKind.signed]
    omega
  rw [e]
  exact w64 (by omega) rfl
theorem ba_mid {p r : List UInt8} {d : UInt8} : (ba (p ++ d :: r))[Int.toNat ((p.length : Nat) : Int)]? = some d := by
  rw [Int.toNat_natCast, ba_at (by simp)]
  simp
def res30 (n : Int) (ds : List UInt8) (st : St) : Prop :=
  LoopTo TT tNone.runs (HSm 30) lp30 st (out30a (runD n ds)) ∨ (runD n ds = 0 ∧ ∃ m, LoopTo TT tNone.runs (HSm 30) lp30 st (out30b m))
attribute [local irreducible] fnS loS tround
theorem loop30 : ∀ (ds p : List UInt8) (n : Nat), (p ++ ds).length ≤ 100 → (n + 1) * 10 ^ ds.length ≤ 1000000 → res30 n ds (inv30 (ba (p ++ ds)) n p.length)
  | [], p, n, _, _ => by
    refine .inl (LoopTo.last (orc := tNone) (lo := noLo) (fun _ _ _ _ h => h) (LoOk2.no _) ?_ (by simp [out30a]))
    show (rk30 (ba (p ++ [])) n p.length).run = _
    rw [← Tr.ev_run, rk30_eq, ba_sz]
    exact aF (by rw [decide_eq_false_iff_not, List.append_nil]; omega) rfl
  | d :: r, p, n, hl, hn => by
    have hd := d.toNat_lt
    have hlen : (p ++ d :: r).length = p.length + r.length + 1 := by rw [List.length_append, List.length_cons]; omega
    have h10 : 0 < 10 ^ r.length := pos10 _
    have hn1 : n + 1 ≤ 1000000 := Nat.le_trans (Nat.le_mul_of_pos_right _ (pos10 _)) hn
    have go : ∀ o, (rk30 (ba (p ++ d :: r)) n p.length).ev = o → (tround TT tNone noLo (HSm 30) lp30 (inv30 (ba (p ++ d :: r)) n p.length)).run = o := fun o h => by
      rw [Tr.ev_run] at h
      exact h
    have a0 : decide ((0 : Int) ≤ ((p.length : Nat) : Int)) = true := by rw [decide_eq_true_eq]; omega
    have a1 : decide (((p.length : Nat) : Int) < (((ba (p ++ d :: r)).size : Nat) : Int)) = true := by rw [ba_sz, decide_eq_true_eq]; omega
    by_cases h1 : d.toNat < 48
    · refine .inr ⟨by rw [runD, if_pos (.inl h1)], n, LoopTo.last (orc := tNone) (lo := noLo) (fun _ _ _ _ h => h) (LoOk2.no _) (go _ ?_) (by simp [out30b])⟩
      rw [rk30_eq]
      exact aT a1 (aT a0 (gStep ba_mid (aT (by rw [decide_eq_true_eq]; omega) rfl)))
    by_cases h2 : 57 < d.toNat
    · refine .inr ⟨by rw [runD, if_pos (.inr h2)], n, LoopTo.last (orc := tNone) (lo := noLo) (fun _ _ _ _ h => h) (LoOk2.no _) (go _ ?_) (by simp [out30b])⟩
      rw [rk30_eq]
      exact aT a1 (aT a0 (gStep ba_mid (aF (by rw [decide_eq_false_iff_not]; omega) (aT a0 (gStep ba_mid (aT (by rw [decide_eq_true_eq]; omega) rfl))))))
    · have step : (tround TT tNone noLo (HSm 30) lp30 (inv30 (ba (p ++ d :: r)) n p.length)).run = some (.norm, inv30 (ba (p ++ d :: r)) ((10 * n + (d.toNat - 48) : Nat) : Int) ((p.length + 1 : Nat) : Int)) := by
        refine go _ ?_
        rw [rk30_eq]
        refine aT a1 (aT a0 (gStep ba_mid (aF (by rw [decide_eq_false_iff_not]; omega) (aT a0 (gStep ba_mid (aF (by rw [decide_eq_false_iff_not]; omega) (aT a0 (gStep ba_mid ?_))))))))
        rw [u8_num d h1, w64 (n := 10 * n) (by omega) (x := 10 * (n : Int)) (by omega), w64 (n := 10 * n + (d.toNat - 48)) (by omega) (x := ((10 * n : Nat) : Int) + ((d.toNat - 48 : Nat) : Int)) (by omega), w64 (n := p.length + 1) (by omega) (x := ((p.length : Nat) : Int) + 1) (by omega)]
        rfl
      have hb : (10 * n + (d.toNat - 48) + 1) * 10 ^ r.length ≤ 1000000 := by
        refine Nat.le_trans (Nat.mul_le_mul_right _ (show 10 * n + (d.toNat - 48) + 1 ≤ (n + 1) * 10 by omega)) ?_
        rw [List.length_cons, Nat.pow_succ, Nat.mul_comm (10 ^ r.length) 10, ← Nat.mul_assoc] at hn
        exact hn
      have ih := loop30 r (p ++ [d]) (10 * n + (d.toNat - 48)) (by rw [List.append_assoc, List.singleton_append]; exact hl) hb
      rw [List.append_assoc, List.singleton_append, List.length_append, List.length_singleton] at ih
      have er : runD n (d :: r) = runD ((10 * n + (d.toNat - 48) : Nat) : Int) r := by
        rw [runD, if_neg (by omega)]
        exact congrArg (fun z => runD z r) (by omega)
      rcases ih with ih | ⟨e, m, ih⟩
      · exact .inl (by rw [er]; exact LoopTo.more (orc := tNone) (lo := noLo) (fun _ _ _ _ h => h) (LoOk2.no _) step ih)
      · exact .inr ⟨by rw [er, e], m, LoopTo.more (orc := tNone) (lo := noLo) (fun _ _ _ _ h => h) (LoOk2.no _) step ih⟩
theorem f30_run (w : List UInt8) : R30 [.dat (.str (ba w))] [] = some (oI [] (runL w)) := by
  have key : ∀ o, (f30t (ba w)).ev = o → R30 [.dat (.str (ba w))] [] = o := fun o h => by
    rw [Tr.ev_run] at h
    exact h
  refine key _ ?_
  rw [f30t_eq, ba_sz]
  by_cases h2 : w.length = 2
  · rw [runL, if_pos h2]
    exact aT (by rw [beq_iff_eq]; omega) rfl
  refine aF (by rw [beq_eq_false_iff_ne]; omega) ?_
  rw [runL, if_neg h2]
  by_cases h4 : w.length < 4
  · rw [if_pos (.inl h4)]
    exact aT (by rw [decide_eq_true_eq]; omega) rfl
  refine aF (by rw [decide_eq_false_iff_not]; omega) ?_
  by_cases h5 : 5 < w.length
  · rw [if_pos (.inr (.inl h5))]
    exact aT (by rw [decide_eq_true_eq]; omega) rfl
  refine aF (by rw [decide_eq_false_iff_not]; omega) ?_
  obtain ⟨a, b, x, ds, rfl⟩ := four h4
  refine gStep (x := x) (ba_at (i := 2) (by simp)) ?_
  by_cases hx : x = 42
  · subst hx
    rw [if_neg (by simp; simp only [List.length_cons] at h4 h5; omega)]
    have hl := loop30 ds [a, b, 42] 0 (by simp only [List.length_append, List.length_cons, List.length_nil] at h5 ⊢; omega) (by
      simp only [List.length_cons] at h4 h5
      have : ds.length = 1 ∨ ds.length = 2 := by omega
      rcases this with e | e <;> rw [e] <;> decide)
    refine aF (by rfl) ?_
    rcases hl with hl | ⟨e, m, hl⟩
    · exact aT (loS_yes (o1 := out30a) out30a_inj hl) (gStep (loS_eq (out := out30a) out30a_inj hl) rfl)
    · refine aF (loS_no (o1 := out30a) hl out30_no) (gStep (loS_eq (out := out30b) out30b_inj hl) ?_)
      show _ = some (oI [] (runD 0 ds))
      rw [show runD 0 ds = 0 from e]
      rfl
  · rw [if_pos (.inr (.inr (by simpa using hx)))]
    refine aT ?_ rfl
    rw [bne_iff_ne]
    intro h
    have : x.toNat = 42 := by omega
    exact hx (UInt8.toNat_inj.1 this)
theorem p30 (w : List UInt8) (G : List Ent) : P30 [.dat (.str (ba w))] G = some (oI G (runL w)) := pureS_eq rfl (f30_run w) rfl
end Go.Eng
end

/- Sectors out of short texts: the document's words and digits. -/
section
namespace Go.Eng
open Go
set_option maxRecDepth 100000
set_option linter.unusedSimpArgs false

/-! ### digits -/
def intOf (o : Option AV) : Option Int := match o with
  | some (.dat (.int .i64 n)) => some n
  | _ => none
theorem e46_all : (List.range 256).all (fun k => intOf ((E 86 [.dat (.int .u8 k)] []).map (·.1)) == some (digL (UInt8.ofNat k))) = true := by kernel_rfl
theorem intOf_some {o : Option AV} {n : Int} (h : intOf o = some n) : o = some (.dat (.int .i64 n)) := by
  unfold intOf at h
  split at h
  · simp only [Option.some.injEq] at h
    subst h
    rfl
  · cases h
theorem p46 (c : UInt8) (G : List Ent) : P46 [.dat (.int .u8 ((c.toNat : Nat) : Int))] G = some (oI G (digL c)) := by
  have h := eq_of_beq (List.all_eq_true.1 e46_all c.toNat (List.mem_range.2 c.toNat_lt))
  rw [show UInt8.ofNat c.toNat = c by simp] at h
  obtain ⟨G', h⟩ := map_fst (intOf_some h)
  exact pureS_eq rfl h rfl
theorem out29a_inj {a0 : AV} : ∀ x y, out29a a0 x = out29a a0 y → x = y := by
  intro x y h
  simp [out29a] at h
  exact h
theorem out29b_inj {a0 : AV} : ∀ x y, out29b a0 x = out29b a0 y → x = y := fun _ _ _ => rfl
theorem out29_no {a0 : AV} {y : Unit} : ∀ x, out29a a0 x ≠ out29b a0 y := fun x h => by simp [out29a, out29b] at h
def valR (a b : Int) : Int := IntKind.wrap IntKind.u8 (IntKind.wrap IntKind.i64 ((IntKind.wrap IntKind.i64 ((16 : Int) * a)) + b))
attribute [local irreducible] fnS loS tround P46
theorem go29n (s : ByteArray) (i : Int) {o} (h : (rk29n s i).ev = o) : (tround TT t29 noLo (HSm 29) lp29 (inv29n s i)).run = o := by
  rw [Tr.ev_run] at h
  exact h
theorem go29y (s : ByteArray) (v i : Int) {o} (h : (rk29y s v i).ev = o) : (tround TT t29 noLo (HSm 29) lp29 (inv29y s v i)).run = o := by
  rw [Tr.ev_run] at h
  exact h
theorem loop29 (a b : UInt8) : if digL a < 0 ∨ digL b < 0 then LoopTo TT t29.runs (HSm 29) lp29 (inv29n (ba [a, b]) 0) (out29b (.dat (.str (ba [a, b]))) ())
    else LoopTo TT t29.runs (HSm 29) lp29 (inv29n (ba [a, b]) 0) (out29a (.dat (.str (ba [a, b]))) (valR (digL a) (digL b))) := by
  have ea := fnS_eq (out := oI []) oI_inj (p46 a [])
  have eb := fnS_eq (out := oI []) oI_inj (p46 b [])
  have w1 : IntKind.wrap .i64 ((0 : Int) + 1) = 1 := by decide
  by_cases h1 : digL a < 0
  · rw [if_pos (.inl h1)]
    refine LoopTo.last (orc := t29) (lo := noLo) (fun _ _ _ _ h => h) (LoOk2.no _) (go29n _ _ ?_) (by simp [out29b])
    rw [rk29n_eq, w1]
    exact aT rfl (aT rfl (gStep (x := a) rfl (gStep ea (aT rfl (gStep (x := b) rfl (gStep eb (aT (decide_eq_true h1) rfl)))))))
  by_cases h2 : digL b < 0
  · rw [if_pos (.inr h2)]
    refine LoopTo.last (orc := t29) (lo := noLo) (fun _ _ _ _ h => h) (LoOk2.no _) (go29n _ _ ?_) (by simp [out29b])
    rw [rk29n_eq, w1]
    exact aT rfl (aT rfl (gStep (x := a) rfl (gStep ea (aT rfl (gStep (x := b) rfl (gStep eb (aF (decide_eq_false h1) (aT (decide_eq_true h2) rfl))))))))
  · rw [if_neg (by omega)]
    refine LoopTo.more (orc := t29) (lo := noLo) (s1 := inv29y (ba [a, b]) (valR (digL a) (digL b)) 2) (fun _ _ _ _ h => h) (LoOk2.no _) (go29n _ _ ?_) (LoopTo.last (orc := t29) (lo := noLo) (fun _ _ _ _ h => h) (LoOk2.no _) (go29y _ _ _ ?_) (by simp [out29a]))
    · rw [rk29n_eq, w1]
      exact aT rfl (aT rfl (gStep (x := a) rfl (gStep ea (aT rfl (gStep (x := b) rfl (gStep eb (aF (decide_eq_false h1) (aF (decide_eq_false h2) rfl))))))))
    · rw [rk29y_eq]
      exact aF rfl rfl
theorem f29_run (a b : UInt8) : R29 [.dat (.str (ba [a, b]))] [] = some (oPt [] (if digL a < 0 ∨ digL b < 0 then (ba [], false) else (ba [byteR (digL a) (digL b)], true))) := by
  have key : ∀ o, (f29t (ba [a, b])).ev = o → R29 [.dat (.str (ba [a, b]))] [] = o := fun o h => by
    rw [Tr.ev_run] at h
    exact h
  refine key _ ?_
  rw [f29t_eq]
  have hl := loop29 a b
  split at hl
  · rename_i h
    rw [if_pos h]
    exact aF (loS_no (o1 := out29a (.dat (.str (ba [a, b])))) hl out29_no) (gStep (loS_eq (out := out29b (.dat (.str (ba [a, b])))) out29b_inj hl) rfl)
  · rename_i h
    rw [if_neg h]
    exact aT (loS_yes (o1 := out29a (.dat (.str (ba [a, b])))) out29a_inj hl) (gStep (loS_eq (out := out29a (.dat (.str (ba [a, b])))) out29a_inj hl) (by
      rw [show ((Int.tmod (((ByteArray.size (ba [a, b])) : Nat) : Int) (2 : Int)) == (0 : Int)) = true by rw [ba_sz]; show (Int.tmod 2 2 == 0) = true; decide]
      rfl))
theorem p29 (a b : UInt8) (G : List Ent) : P29 [.dat (.str (ba [a, b]))] G = some (oPt G (if digL a < 0 ∨ digL b < 0 then (ba [], false) else (ba [byteR (digL a) (digL b)], true))) := pureS_eq rfl (f29_run a b) rfl

/-! ### words -/
/-- bytes put behind what is there -/
def glue (w : List UInt8) : List (List UInt8) → List (List UInt8)
  | [] => [w]
  | h :: t => (w ++ h) :: t
theorem glue_nil (t : List UInt8) : glue [] (cutsL 32 t) = cutsL 32 t := by
  cases h : cutsL 32 t with
  | nil =>
    cases t with
    | nil => simp [cutsL] at h
    | cons c l =>
      unfold cutsL at h
      split at h
      · cases h
      · split at h <;> cases h
  | cons a l => rfl
theorem glue_gap (w : List UInt8) (t : List UInt8) : glue w (cutsL 32 (32 :: t)) = w :: cutsL 32 t := by
  simp [cutsL, glue]
theorem glue_byte (w : List UInt8) {c : UInt8} (h : c ≠ 32) (t : List UInt8) : glue w (cutsL 32 (c :: t)) = glue (w ++ [c]) (cutsL 32 t) := by
  rw [cutsL, if_neg h]
  cases cutsL 32 t with
  | nil => rfl
  | cons a l => simp [glue]
theorem out28_inj {b : Bool} : ∀ x y, out28 b x = out28 b y → x = y := by
  rintro ⟨x, n⟩ ⟨y, m⟩ h
  simp [out28, mkT] at h
  obtain ⟨rfl, rfl⟩ := h
  rfl
theorem out28_no {y : Row × Nat} : ∀ x, out28 true x ≠ out28 false y := fun x h => by simp [out28, mkT] at h
theorem go28t (s : ByteArray) (l : Row) (n : Nat) (i : Int) {o} (h : (rk28t s l n i).ev = o) : (tround TT tNone noLo (HSm 28) lp28 (inv28 true s l n i)).run = o := by
  rw [Tr.ev_run] at h
  exact h
theorem go28f (s : ByteArray) (l : Row) (n : Nat) (i : Int) {o} (h : (rk28f s l n i).ev = o) : (tround TT tNone noLo (HSm 28) lp28 (inv28 false s l n i)).run = o := by
  rw [Tr.ev_run] at h
  exact h
theorem sRow_app (ws : List (List UInt8)) (w : List UInt8) : sRow (ws ++ [w]) = sRow ws ++ [[.str (ba w)]] := by simp [sRow]
theorem sRow_len (ws : List (List UInt8)) : (sRow ws).length = ws.length := by simp [sRow]
theorem fits_str {n : Nat} (h : n ≤ 1000) : fits (TI.mk TK.str 1 16 [(AV.dat (D.str (ByteArray.mk (List.toArray []))))] true) n = true := by
  rw [fits_iff]
  omega
theorem step28 (b : Bool) (p t : List UInt8) (c : UInt8) (ws : List (List UInt8)) (w : List UInt8) (hl : (p ++ c :: t).length ≤ 500) (hw : w.length ≤ 500) (hn : ws.length ≤ 500) :
    (tround TT tNone noLo (HSm 28) lp28 (inv28 b (ba (p ++ c :: t)) (sRow (ws ++ [w])) (ws.length + 1) p.length)).run =
      some (.norm, if c = 32 then inv28 false (ba (p ++ c :: t)) (sRow (ws ++ [w] ++ [[]])) (ws.length + 1 + 1) ((p.length + 1 : Nat) : Int) else inv28 b (ba (p ++ c :: t)) (sRow (ws ++ [w ++ [c]])) (ws.length + 1) ((p.length + 1 : Nat) : Int)) := by
  have hlen : (p ++ c :: t).length = p.length + t.length + 1 := by rw [List.length_append, List.length_cons]; omega
  have a0 : decide ((0 : Int) ≤ ((p.length : Nat) : Int)) = true := by rw [decide_eq_true_eq]; omega
  have a1 : decide (((p.length : Nat) : Int) < (((ba (p ++ c :: t)).size : Nat) : Int)) = true := by rw [ba_sz, decide_eq_true_eq]; omega
  have wi : IntKind.wrap .i64 (((p.length : Nat) : Int) + 1) = ((p.length + 1 : Nat) : Int) := w64 (by omega) (by omega)
  have wn : IntKind.wrap .i64 (((ws.length + 1 : Nat) : Int) - 1) = ((ws.length : Nat) : Int) := w64 (by omega) (by omega)
  have hrow : (sRow (ws ++ [w])).length = ws.length + 1 := by rw [sRow_len]; simp
  have hat : (sRow (ws ++ [w]))[0 + Int.toNat ((ws.length : Nat) : Int)]? = some [.str (ba w)] := by
    rw [Int.toNat_natCast, Nat.zero_add]
    exact sRow_at (by simp)
  have b1 : ((decide ((0 : Int) ≤ ((ws.length : Nat) : Int))) && (decide (((ws.length : Nat) : Int) < ((ws.length + 1 : Nat) : Int)))) = true := by
    rw [Bool.and_eq_true, decide_eq_true_eq, decide_eq_true_eq]; omega
  have b2 : ((decide ((0 : Int) ≤ ((p.length : Nat) : Int))) && ((decide (((p.length : Nat) : Int) ≤ ((p.length + 1 : Nat) : Int))) && (decide (((p.length + 1 : Nat) : Int) ≤ (((ba (p ++ c :: t)).size : Nat) : Int))))) = true := by
    rw [ba_sz, Bool.and_eq_true, Bool.and_eq_true, decide_eq_true_eq, decide_eq_true_eq, decide_eq_true_eq]; omega
  have b3 : ((decide ((0 + (ws.length + 1)) ≤ (List.length (sRow (ws ++ [w]))))) && (fits (TI.mk TK.str 1 16 [(AV.dat (D.str (ByteArray.mk (List.toArray []))))] true) (ws.length + 1 + 1))) = true := by
    rw [Bool.and_eq_true, decide_eq_true_eq]
    exact ⟨by omega, fits_str (by omega)⟩
  have hx : (ba (p ++ c :: t)).extract (Int.toNat ((p.length : Nat) : Int)) (Int.toNat ((p.length + 1 : Nat) : Int)) = ba [c] := by
    rw [Int.toNat_natCast, Int.toNat_natCast, ba_one]
  have hset : List.set (sRow (ws ++ [w])) (0 + Int.toNat ((ws.length : Nat) : Int)) ((D.str (ba (w ++ [c]))) :: []) = sRow (ws ++ [w ++ [c]]) := by
    rw [Int.toNat_natCast, Nat.zero_add, sRow_app, sRow_app, List.set_append_right _ _ (by rw [sRow_len]; exact Nat.le_refl _), sRow_len, Nat.sub_self]
    rfl
  have hsz : Nat.ble ((ba w).size + (ba [c]).size) 9223372036854775807 = true := by
    rw [ba_sz, ba_sz]
    exact Nat.ble_eq_true_of_le (by simp only [List.length_singleton]; omega)
  by_cases hc : c = 32
  · subst hc
    rw [if_pos rfl]
    have htake : List.take (ws.length + 1) (List.drop 0 (sRow (ws ++ [w]))) = sRow (ws ++ [w]) := by
      rw [List.drop_zero, ← hrow, List.take_length]
    cases b with
    | true =>
      refine go28t _ _ _ _ ?_
      rw [rk28t_eq, wi, htake]
      refine aT a1 (aT a0 (gStep ba_mid (aT rfl (aT b3 ?_))))
      rw [sRow_app (ws ++ [w])]
      rfl
    | false =>
      refine go28f _ _ _ _ ?_
      rw [rk28f_eq, wi]
      refine aT a1 (aT a0 (gStep ba_mid (aT rfl (aT b3 (aT (by rw [hrow]; simp) ?_)))))
      rw [sRow_app (ws ++ [w])]
      rfl
  · rw [if_neg hc]
    have hne : ((((UInt8.toNat c) : Nat) : Int) == (32 : Int)) = false := by
      rw [beq_eq_false_iff_ne]
      intro h
      exact hc (UInt8.toNat_inj.1 (by show c.toNat = 32; omega))
    cases b with
    | true =>
      refine go28t _ _ _ _ ?_
      rw [rk28t_eq, wi, wn, hx]
      refine aT a1 (aT a0 (gStep ba_mid (aF hne (aT b1 (gStep hat (gStep rfl (aT b2 (gStep (x := ba w) rfl (aT hsz (aT b1 (gStep hat (aT rfl ?_))))))))))))
      rw [ba_app]
      simp only [List.drop_succ_cons, List.drop_zero, hset]
      rfl
    | false =>
      refine go28f _ _ _ _ ?_
      rw [rk28f_eq, wi, wn, hx]
      refine aT a1 (aT a0 (gStep ba_mid (aF hne (aT b1 (gStep hat (gStep rfl (aT b2 (gStep (x := ba w) rfl (aT hsz (aT b1 (gStep hat (aT rfl ?_))))))))))))
      rw [ba_app]
      simp only [List.drop_succ_cons, List.drop_zero, hset]
      rfl
theorem loop28 : ∀ (t p : List UInt8) (b : Bool) (ws : List (List UInt8)) (w : List UInt8), (p ++ t).length ≤ 500 → w.length + t.length ≤ 500 → ws.length + t.length ≤ 500 →
    ∃ b', LoopTo TT tNone.runs (HSm 28) lp28 (inv28 b (ba (p ++ t)) (sRow (ws ++ [w])) (ws.length + 1) p.length) (out28 b' (sRow (ws ++ glue w (cutsL 32 t)), (ws ++ glue w (cutsL 32 t)).length))
  | [], p, b, ws, w, _, _, _ => by
    have e : glue w (cutsL 32 []) = [w] := by simp [cutsL, glue]
    rw [e]
    refine ⟨b, LoopTo.last (orc := tNone) (lo := noLo) (fun _ _ _ _ h => h) (LoOk2.no _) ?_ (by simp [out28])⟩
    have a1 : decide (((p.length : Nat) : Int) < (((ba (p ++ [])).size : Nat) : Int)) = false := by rw [ba_sz, decide_eq_false_iff_not, List.append_nil]; omega
    have e2 : (ws ++ [w]).length = ws.length + 1 := by simp
    rw [e2]
    cases b with
    | true =>
      refine go28t _ _ _ _ ?_
      rw [rk28t_eq]
      exact aF a1 rfl
    | false =>
      refine go28f _ _ _ _ ?_
      rw [rk28f_eq]
      exact aF a1 rfl
  | c :: t, p, b, ws, w, hl, hw, hn => by
    simp only [List.length_cons] at hw hn
    have step := step28 b p t c ws w hl (by omega) (by omega)
    by_cases hc : c = 32
    · subst hc
      rw [if_pos rfl] at step
      obtain ⟨b', ih⟩ := loop28 t (p ++ [32]) false (ws ++ [w]) [] (by rw [List.append_assoc, List.singleton_append]; exact hl) (by simp only [List.length_nil]; omega) (by simp only [List.length_append, List.length_singleton]; omega)
      rw [show p ++ [32] ++ t = p ++ 32 :: t by simp, show List.length (p ++ [32]) = p.length + 1 by simp, show List.length (ws ++ [w]) = ws.length + 1 by simp, glue_nil] at ih
      rw [glue_gap]
      have e : ws ++ w :: cutsL 32 t = ws ++ [w] ++ cutsL 32 t := by simp
      rw [e]
      exact ⟨b', LoopTo.more (orc := tNone) (lo := noLo) (fun _ _ _ _ h => h) (LoOk2.no _) step ih⟩
    · rw [if_neg hc] at step
      obtain ⟨b', ih⟩ := loop28 t (p ++ [c]) b ws (w ++ [c]) (by rw [List.append_assoc, List.singleton_append]; exact hl) (by simp only [List.length_append, List.length_singleton]; omega) (by omega)
      rw [show p ++ [c] ++ t = p ++ c :: t by simp, show List.length (p ++ [c]) = p.length + 1 by simp, ← glue_byte w hc t] at ih
      exact ⟨b', LoopTo.more (orc := tNone) (lo := noLo) (fun _ _ _ _ h => h) (LoOk2.no _) step ih⟩
theorem f28_run {t : List UInt8} (h : t.length ≤ 499) : R28 [.dat (.str (ba t))] [] = some (oRw [] (sRow (cutsL 32 t))) ∨ R28 [.dat (.str (ba t))] [] = some (.own true 1 (sRow (cutsL 32 t)), []) := by
  have key : ∀ o, (f28t (ba t)).ev = o → R28 [.dat (.str (ba t))] [] = o := fun o h => by
    rw [Tr.ev_run] at h
    exact h
  obtain ⟨b', hl⟩ := loop28 t [] true [] [] (by simp only [List.nil_append]; omega) (by simp only [List.length_nil]; omega) (by simp only [List.length_nil]; omega)
  simp only [List.nil_append, List.length_nil, glue_nil, Nat.zero_add] at hl
  cases b' with
  | true =>
    refine .inl (key _ ?_)
    rw [f28t_eq]
    refine aT (loS_yes (o1 := out28 true) out28_inj hl) (gStep (loS_eq (out := out28 true) out28_inj hl) ?_)
    simp only [List.drop_zero]
    rw [← sRow_len, List.take_length]
    rfl
  | false =>
    refine .inr (key _ ?_)
    rw [f28t_eq]
    refine aF (loS_no (o1 := out28 true) hl out28_no) (gStep (loS_eq (out := out28 false) out28_inj hl) (aT ?_ rfl))
    rw [whole_iff]
    exact ⟨rfl, (sRow_len _).symm⟩
end Go.Eng
end

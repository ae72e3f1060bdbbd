/- Sectors: the program's variables; the library's functions that are called; known. -/
import Derived.Test.YtnbdibeainhnhaaDoorSm18
import Derived.Test.YtnbdibeainhnhaaDoorSm19
import Derived.Test.YtnbdibeainhnhaaDoorSm22
import Derived.Test.YtnbdibeainhnhaaDoorSm9
import Derived.Test.YtnbdibeainhnhaaDoorSm6
import Derived.Test.YtnbdibeainhnhaaDoorSm12
section
namespace Go.Eng
open Go
set_option maxRecDepth 100000

instance : Inhabited Pkg := ⟨⟨fun _ => none, fun g => if g = 1 then some (fun v => ∃ m, v = .int .i64 m) else if g = 2 ∨ g = 3 then some IsI else none⟩⟩

/-- what is kept at each loop's head, by liveness; the ranges over functions by hand -/
noncomputable def HH (f n : Nat) : List Nat := if n = 3000000 then (if f = 7 then [10070003, 10070011] else []) else match FT f with
  | some fn => ((liveF fn).lookup n).getD []
  | none => []

noncomputable abbrev PP : Program := Go.Proofs.Tryd.prog
theorem c33 : COk PP 33 sRepeat := sRepeat_ok ⟨_, Go.Proofs.Tryd.func33, by kernel_rfl, by kernel_rfl⟩ fun s c w hc hl => Go.Proofs.Tryd.strings_Repeat s c w hc hl
theorem c24 : COk PP 24 sItoa := sItoa_ok ⟨_, Go.Proofs.Tryd.func24, by kernel_rfl, by kernel_rfl⟩ fun i hi w => Go.Proofs.Tryd.strconv_Itoa_small i hi w
theorem c25 : COk PP 25 sJoin := sJoin_ok ⟨_, Go.Proofs.Tryd.func25, by kernel_rfl, by kernel_rfl⟩ fun bk o c xs sep w h1 h2 h3 h4 h5 => Go.Proofs.Tryd.strings_Join bk o c xs sep w h1 h2 h3 h4 h5
theorem c26 : COk PP 26 sSplit1 := sSplit1_ok (g := 1) ⟨_, Go.Proofs.Tryd.func26, by kernel_rfl, by kernel_rfl⟩ rfl fun s sep m w h1 h2 h3 => Go.Proofs.Tryd.strings_Split s sep m w h1 h2 h3
theorem c43 : COk PP 43 sCut1 := sCut1_ok (g := 1) ⟨_, Go.Proofs.Tryd.func43, by kernel_rfl, by kernel_rfl⟩ rfl fun s sep m w h1 h2 => Go.Proofs.Tryd.strings_Cut s sep m w h1 h2
theorem c44 : COk PP 44 sIndexByte := sIndexByte_ok ⟨_, Go.Proofs.Tryd.func44, by kernel_rfl, by kernel_rfl⟩ fun s b w => Go.Proofs.Tryd.strings_IndexByte s b w
theorem c45 : COk PP 45 sAtoiA := sAtoiA_ok (g1 := 2) (g2 := 3) ⟨_, Go.Proofs.Tryd.func45, by kernel_rfl, by kernel_rfl⟩ rfl rfl (fun s h v hv w => Go.Proofs.Tryd.strconv_Atoi_ok s h v hv w)
  (fun s h hv hr ev w h1 h2 => (Go.Proofs.Any.strconv_Atoi_syntax Go.Proofs.Tryd.laysC172 s h (by
    cases hq : Go.Lib.atoiAll s.data.toList with
    | ok v => exact absurd hq (hv v)
    | range => exact absurd hq hr
    | _ => rfl) ev w h1 h2).mono fun e w' q => by obtain ⟨N, q1, _, _, q2⟩ := q; exact ⟨N, q1, q2⟩)
  (fun s h hv ev w h1 h2 => (Go.Proofs.Tryd.strconv_Atoi_range s h hv ev w h1 h2).mono fun e w' q => by obtain ⟨N, q1, _, _, q2⟩ := q; exact ⟨N, q1, q2⟩)

noncomputable def oL : Orc := fun f => match f with
  | 24 => sItoa
  | 25 => sJoin
  | 26 => sSplit1
  | 33 => sRepeat
  | 43 => sCut1
  | 44 => sIndexByte
  | 45 => sAtoiA
  | _ => fun _ _ => none
theorem oL_ok : ∀ f, COk PP f (oL f) := fun f => by
  unfold oL
  split
  · exact c24
  · exact c25
  · exact c26
  · exact c33
  · exact c43
  · exact c44
  · exact c45
  · exact COk.nothing fun _ _ => rfl
abbrev libs : List Nat := [24, 25, 26, 33, 43, 44, 45]

noncomputable def E (f : Nat) (a : List AV) (G : List Ent) : Option (AV × List Ent) := orcY FT TT 300 HH libs oL 8 f a G
theorem E_ok (f : Nat) : COk PP f (E f) := orcY_ok (K := 300) (H := HH) TT_ok (FT := FT) (fun _ _ h => FT_ok h) oL_ok 8 f
noncomputable abbrev bs (l : List UInt8) : AV := .dat (.str ⟨l.toArray⟩)
theorem fill5 : (E 16 [.dat (.int .u8 5)] []).map (·.1) = some (bs (List.replicate 64 5)) := by kernel_rfl
theorem short5 : (E 7 [bs (List.replicate 64 5)] []).map (·.1) = some (bs [48, 53, 42, 54, 52]) := by kernel_rfl
theorem pada : (E 12 [bs [97]] []).map (·.1) = some (.tup [bs (97 :: List.replicate 63 0), .dat (.int .i64 0)]) := by kernel_rfl
theorem longa : (E 8 [bs [54, 49, 32, 48, 48, 42, 54, 51]] []).map (·.1) = some (.tup [bs (97 :: List.replicate 63 0), .dat (.int .i64 0)]) := by kernel_rfl
theorem known_ev : (E 6 [] []).map (·.1) = some (.dat (.bool true)) := by kernel_rfl
end Go.Eng
end

/- Sectors: two texts side by side, as trees. -/
section
namespace Go.Eng
open Go
set_option maxRecDepth 100000

theorem FT_fine {f : Nat} {fn : Func} (h : FT f = some fn) : PP.funcs[f]? = some fn ∧ (fn.name == "runtime.NumGoroutine") = false ∧ nodupN ((loops (codeOf fn)).map firstRegion) = true := by
  have h2 := BT.get_all (BT.all_ok (q := fun _ fn => !(fn.name == "runtime.NumGoroutine") && nodupN ((loops (codeOf fn)).map firstRegion)) (show FTree.all (fun _ fn => !(fn.name == "runtime.NumGoroutine") && nodupN ((loops (codeOf fn)).map firstRegion)) = true by kernel_rfl)) h
  simp only [Bool.and_eq_true, Bool.not_eq_true'] at h2
  exact ⟨FT_ok h, h2.1, h2.2⟩

def hOfS (l : List (Nat × List Nat)) (n : Nat) : List Nat := (l.lookup n).getD []
def HSe (f : Nat) : Nat → List Nat := match f with
  | 21 => hOfS [(3, [0, 1, 6, 7, 13, 14]), (1000003, [6, 7])]
  | 22 => hOfS [(4, [0, 1, 6, 7, 8]), (1000004, [6, 7])]
  | _ => fun _ => []

def jn (n : Int) : AV := .dat (.int .i64 n)
def oT (G : List Ent) (_ : Unit) : AV × List Ent := (.dat (.bool true), G)
theorem oT_inj {G : List Ent} : ∀ x y, oT G x = oT G y → x = y := fun _ _ _ => rfl
noncomputable def P6 := pureS (E 6)
theorem p6 {G : List Ent} : P6 [] G = some (oT G ()) := by
  have := known_ev
  have h : ∃ G', E 6 [] [] = some (.dat (.bool true), G') := by
    cases ho : E 6 [] [] with
    | none => rw [ho] at this; cases this
    | some r =>
      rw [ho] at this
      simp only [Option.map_some, Option.some.injEq] at this
      exact ⟨r.2, by rw [← this]⟩
  obtain ⟨G', h⟩ := h
  exact pureS_eq rfl h rfl

noncomputable def lp21 : Code := lpOf (codeOf Go.Proofs.Tryd.f21) 0
noncomputable def lp22 : Code := lpOf (codeOf Go.Proofs.Tryd.f22) 0
def inv21 (a b : ByteArray) (m n at' i : Int) : St := ⟨mkT 0 44 [(0, .dat (.str a)), (1, .dat (.str b)), (6, jn n), (7, jn at'), (13, jn m), (14, jn i)], ⟨[], [], 0⟩⟩
noncomputable def rk21 (a b : ByteArray) (m n at' i : Int) : Tr (Ex × St) := tround TT tNone noLo (HSe 21) lp21 (inv21 a b m n at' i)
def inv22 (a b : ByteArray) (n at' i : Int) : St := ⟨mkT 0 47 [(0, .dat (.str a)), (1, .dat (.str b)), (6, jn n), (7, jn at'), (8, jn i)], ⟨[], [], 0⟩⟩
noncomputable def rk22 (a b : ByteArray) (n at' i : Int) : Tr (Ex × St) := tround TT tNone noLo (HSe 22) lp22 (inv22 a b n at' i)
def out21 (p : Int × Int) : Ex × St := (.exit 0, ⟨mkT 0 44 [(6, jn p.1), (7, jn p.2)], ⟨[], [], 0⟩⟩)
def out22 (p : Int × Int) : Ex × St := (.exit 0, ⟨mkT 0 47 [(6, jn p.1), (7, jn p.2)], ⟨[], [], 0⟩⟩)
noncomputable def lo21 (n : Nat) (st : St) : Tr (Ex × St) := match n with
  | 3 => tlo TT tNone.runs (HSe 21) lp21 out21 st
  | _ => .fail
noncomputable def lo22 (n : Nat) (st : St) : Tr (Ex × St) := match n with
  | 4 => tlo TT tNone.runs (HSe 22) lp22 out22 st
  | _ => .fail
noncomputable def f21t (a b : ByteArray) : Tr (AV × List Ent) := tfn TT tNone lo21 Go.Proofs.Tryd.f21 [.dat (.str a), .dat (.str b)] []
noncomputable def f22t (a b : ByteArray) : Tr (AV × List Ent) := tfn TT tNone lo22 Go.Proofs.Tryd.f22 [.dat (.str a), .dat (.str b)] []
def oP (G : List Ent) (p : Int × Int) : AV × List Ent := (.tup [jn p.1, jn p.2], G)
theorem oP_inj {G : List Ent} : ∀ x y, oP G x = oP G y → x = y := by
  rintro ⟨a, b⟩ ⟨c, d⟩ h
  simp [oP, jn] at h
  obtain ⟨rfl, rfl⟩ := h
  rfl
noncomputable def R21 (a : List AV) (G : List Ent) : Option (AV × List Ent) := (tfn TT tNone lo21 Go.Proofs.Tryd.f21 a G).run
noncomputable def R22 (a : List AV) (G : List Ent) : Option (AV × List Ent) := (tfn TT tNone lo22 Go.Proofs.Tryd.f22 a G).run
noncomputable def P21 := pureS R21
noncomputable def P22 := pureS R22
noncomputable def t5 : TOrc := tCons 6 (fun a G => tspec (oT G) (P6 a G)) (tCons 21 (fun a G => tspec (oP G) (P21 a G)) (tCons 22 (fun a G => tspec (oP G) (P22 a G)) tNone))
noncomputable def f5t (a b : ByteArray) : Tr (AV × List Ent) := tfn TT t5 noLo Go.Proofs.Tryd.f5 [.dat (.str a), .dat (.str b)] []
end Go.Eng
end

/- Sectors: bytes alike, numbers, texts that are filled up: by closed evaluation; the law as a tree. -/
section
namespace Go.Eng
open Go
set_option maxRecDepth 100000

def fillS (c : Int) : ByteArray := ⟨(List.replicate 64 (UInt8.ofNat c.toNat)).toArray⟩
def mixB (n : Int) : List UInt8 := [56, 48, 40, 32, 24, 16, 8, 0].map fun k : Nat => UInt8.ofNat (IntKind.wrap .u8 (Int.fdiv n (2 ^ k))).toNat
def mixS (n : Int) : ByteArray := ⟨(List.replicate 8 (mixB n)).flatten.toArray⟩
theorem ev16 (c : Int) : (E 16 [.dat (.int .u8 c)] []).map (·.1) = some (.dat (.str (fillS c))) := by kernel_rfl
theorem ev17 (c : Int) : (E 17 [.dat (.int .u8 c)] []).map (·.1) = some (.dat (.str (fillS c))) := by kernel_rfl
theorem ev14 : (E 14 [] []).map (·.1) = some (.dat (.str (fillS 0))) := by kernel_rfl
theorem ev15 : (E 15 [] []).map (·.1) = some (.dat (.str (fillS 0))) := by kernel_rfl
theorem ev18 (n : Int) : (E 18 [.dat (.int .u64 n)] []).map (·.1) = some (.dat (.str (mixS n))) := by kernel_rfl
theorem ev19 (n : Int) : (E 19 [.dat (.int .u64 n)] []).map (·.1) = some (.dat (.str (mixS n))) := by kernel_rfl

def oS (G : List Ent) (s : ByteArray) : AV × List Ent := (.dat (.str s), G)
theorem oS_inj {G : List Ent} : ∀ x y, oS G x = oS G y → x = y := by intro x y h; simpa [oS] using h
def oB (G : List Ent) (b : Bool) : AV × List Ent := (.dat (.bool b), G)
theorem oB_inj {G : List Ent} : ∀ x y, oB G x = oB G y → x = y := by intro x y h; simpa [oB] using h
def oPad (G : List Ent) (p : ByteArray × Int) : AV × List Ent := (.tup [.dat (.str p.1), jn p.2], G)
theorem oPad_inj {G : List Ent} : ∀ x y, oPad G x = oPad G y → x = y := by
  rintro ⟨a, b⟩ ⟨c, d⟩ h
  simp [oPad, jn] at h
  obtain ⟨rfl, rfl⟩ := h
  rfl
/-- out of a closed evaluation -/
theorem pure_of {f : Nat} {a : List AV} {v : AV} {G : List Ent} (hp : (E f a []).map (·.1) = some v) (h1 : a.all nor1 = true := by rfl) (h2 : nor2 v = true := by rfl) : pureS (E f) a G = some (v, G) := by
  have h : ∃ G', E f a [] = some (v, G') := by
    cases ho : E f a [] with
    | none => rw [ho] at hp; cases hp
    | some r =>
      rw [ho] at hp
      simp only [Option.map_some, Option.some.injEq] at hp
      exact ⟨r.2, by rw [← hp]⟩
  obtain ⟨G', h⟩ := h
  exact pureS_eq h1 h h2

noncomputable def P14 := pureS (E 14)
noncomputable def P15 := pureS (E 15)
noncomputable def P16 := pureS (E 16)
noncomputable def P17 := pureS (E 17)
noncomputable def P18 := pureS (E 18)
noncomputable def P19 := pureS (E 19)
noncomputable def tFill : TOrc := tCons 14 (fun a G => tspec (oS G) (P14 a G)) (tCons 15 (fun a G => tspec (oS G) (P15 a G)) tNone)
theorem tFill_ok : TOk PP tFill := TOk.cons (COk.spec (out := fun _ G => oS G) (E_ok 14).pure) (TOk.cons (COk.spec (out := fun _ G => oS G) (E_ok 15).pure) TOk.nil)
noncomputable def f12t (s : ByteArray) : Tr (AV × List Ent) := tfn TT tFill noLo Go.Proofs.Tryd.f12 [.dat (.str s)] []
noncomputable def f13t (s : ByteArray) : Tr (AV × List Ent) := tfn TT tFill noLo Go.Proofs.Tryd.f13 [.dat (.str s)] []
noncomputable def f20t (s : ByteArray) : Tr (AV × List Ent) := tfn TT tNone noLo Go.Proofs.Tryd.f20 [.dat (.str s)] []
noncomputable def f11t (s : ByteArray) : Tr (AV × List Ent) := tfn TT tNone noLo Go.Proofs.Tryd.f11 [.dat (.str s)] []
noncomputable def R12 (a : List AV) (G : List Ent) : Option (AV × List Ent) := (tfn TT tFill noLo Go.Proofs.Tryd.f12 a G).run
noncomputable def R13 (a : List AV) (G : List Ent) : Option (AV × List Ent) := (tfn TT tFill noLo Go.Proofs.Tryd.f13 a G).run
noncomputable def R20 (a : List AV) (G : List Ent) : Option (AV × List Ent) := (tfn TT tNone noLo Go.Proofs.Tryd.f20 a G).run
noncomputable def R11 (a : List AV) (G : List Ent) : Option (AV × List Ent) := (tfn TT tNone noLo Go.Proofs.Tryd.f11 a G).run
theorem c12 : COk PP 12 R12 := tok_fn (H := fun _ => []) TT_ok tFill_ok Go.Proofs.Tryd.func12 (by kernel_rfl) fun _ _ => LoOk2.no _
theorem c13 : COk PP 13 R13 := tok_fn (H := fun _ => []) TT_ok tFill_ok Go.Proofs.Tryd.func13 (by kernel_rfl) fun _ _ => LoOk2.no _
theorem c20 : COk PP 20 R20 := tok_fn (H := fun _ => []) TT_ok TOk.nil Go.Proofs.Tryd.func20 (by kernel_rfl) fun _ _ => LoOk2.no _
theorem c11 : COk PP 11 R11 := tok_fn (H := fun _ => []) TT_ok TOk.nil Go.Proofs.Tryd.func11 (by kernel_rfl) fun _ _ => LoOk2.no _
noncomputable def P12 := pureS R12
noncomputable def P13 := pureS R13
noncomputable def P20 := pureS R20
noncomputable def P11 := pureS R11
noncomputable def t4 : TOrc := tCons 6 (fun a G => tspec (oT G) (P6 a G)) (tCons 12 (fun a G => tspec (oPad G) (P12 a G)) (tCons 13 (fun a G => tspec (oPad G) (P13 a G)) (tCons 14 (fun a G => tspec (oS G) (P14 a G)) (tCons 15 (fun a G => tspec (oS G) (P15 a G))
  (tCons 16 (fun a G => tspec (oS G) (P16 a G)) (tCons 17 (fun a G => tspec (oS G) (P17 a G)) (tCons 18 (fun a G => tspec (oS G) (P18 a G)) (tCons 19 (fun a G => tspec (oS G) (P19 a G)) (tCons 20 (fun a G => tspec (oB G) (P20 a G)) (tCons 11 (fun a G => tspec (oB G) (P11 a G)) tNone))))))))))
theorem t4_ok : TOk PP t4 := TOk.cons (COk.spec (out := fun _ G => oT G) (E_ok 6).pure) (TOk.cons (COk.spec (out := fun _ G => oPad G) c12.pure) (TOk.cons (COk.spec (out := fun _ G => oPad G) c13.pure) (TOk.cons (COk.spec (out := fun _ G => oS G) (E_ok 14).pure) (TOk.cons (COk.spec (out := fun _ G => oS G) (E_ok 15).pure)
  (TOk.cons (COk.spec (out := fun _ G => oS G) (E_ok 16).pure) (TOk.cons (COk.spec (out := fun _ G => oS G) (E_ok 17).pure) (TOk.cons (COk.spec (out := fun _ G => oS G) (E_ok 18).pure) (TOk.cons (COk.spec (out := fun _ G => oS G) (E_ok 19).pure) (TOk.cons (COk.spec (out := fun _ G => oB G) c20.pure) (TOk.cons (COk.spec (out := fun _ G => oB G) c11.pure) TOk.nil))))))))))
noncomputable def f4t (c n : Int) (s : ByteArray) : Tr (AV × List Ent) := tfn TT t4 noLo Go.Proofs.Tryd.f4 [.dat (.int .u8 c), .dat (.int .u64 n), .dat (.str s)] []
noncomputable def R4 (a : List AV) (G : List Ent) : Option (AV × List Ent) := (tfn TT t4 noLo Go.Proofs.Tryd.f4 a G).run
theorem c4 : COk PP 4 R4 := tok_fn (H := fun _ => []) TT_ok t4_ok Go.Proofs.Tryd.func4 (by kernel_rfl) fun _ _ => LoOk2.no _
end Go.Eng
end

/- Sectors: what is made; SectorMakes' law answers true. -/
section
namespace Go.Eng
open Go
set_option maxRecDepth 100000
set_option linter.unusedSimpArgs false

theorem f12t_eq (s : ByteArray) : (f12t s).ev =
  (rAsk (decide ((((ByteArray.size s) : Nat) : Int) > (64 : Int)))
   (some ((AV.tup [(AV.dat (D.str (ByteArray.mk (List.toArray [])))), (AV.dat (D.int IntKind.i64 (4 : Int)))]), []))
   (rGet (fnS (fun (s : ByteArray) => ((AV.dat (D.str s)), [])) (P14 [] [])) fun x1 =>
    (rAsk (true && ((decide ((((ByteArray.size s) : Nat) : Int) ≤ (((ByteArray.size x1) : Nat) : Int))) && (decide ((((ByteArray.size x1) : Nat) : Int) ≤ (((ByteArray.size x1) : Nat) : Int)))))
     (rAsk (decide (((((ByteArray.size s) + (ByteArray.size (ByteArray.extract x1 (Int.toNat (((ByteArray.size s) : Nat) : Int)) (Int.toNat (((ByteArray.size x1) : Nat) : Int))))) : Nat) : Int) ≤ (9223372036854775807 : Int)))
      (some ((AV.tup [(AV.dat (D.str (s ++ (ByteArray.extract x1 (Int.toNat (((ByteArray.size s) : Nat) : Int)) (Int.toNat (((ByteArray.size x1) : Nat) : Int)))))), (AV.dat (D.int IntKind.i64 (0 : Int)))]), []))
      none
     )
     none
    )
   )
  )
  := by kernel_rfl
theorem f13t_eq (s : ByteArray) : (f13t s).ev =
  (rAsk (decide ((((ByteArray.size s) : Nat) : Int) > (64 : Int)))
   (some ((AV.tup [(AV.dat (D.str (ByteArray.mk (List.toArray [])))), (AV.dat (D.int IntKind.i64 (4 : Int)))]), []))
   (rGet (fnS (fun (s : ByteArray) => ((AV.dat (D.str s)), [])) (P15 [] [])) fun x1 =>
    (rAsk (true && ((decide ((((ByteArray.size s) : Nat) : Int) ≤ (((ByteArray.size x1) : Nat) : Int))) && (decide ((((ByteArray.size x1) : Nat) : Int) ≤ (((ByteArray.size x1) : Nat) : Int)))))
     (rAsk (decide (((((ByteArray.size s) + (ByteArray.size (ByteArray.extract x1 (Int.toNat (((ByteArray.size s) : Nat) : Int)) (Int.toNat (((ByteArray.size x1) : Nat) : Int))))) : Nat) : Int) ≤ (9223372036854775807 : Int)))
      (some ((AV.tup [(AV.dat (D.str (s ++ (ByteArray.extract x1 (Int.toNat (((ByteArray.size s) : Nat) : Int)) (Int.toNat (((ByteArray.size x1) : Nat) : Int)))))), (AV.dat (D.int IntKind.i64 (0 : Int)))]), []))
      none
     )
     none
    )
   )
  )
  := by kernel_rfl
theorem f20t_eq (s : ByteArray) : (f20t s).ev =
  (some ((AV.dat (D.bool ((((ByteArray.size s) : Nat) : Int) == (64 : Int)))), []))
  := by kernel_rfl
theorem f11t_eq (s : ByteArray) : (f11t s).ev =
  (some ((AV.dat (D.bool ((((ByteArray.size s) : Nat) : Int) == (64 : Int)))), []))
  := by kernel_rfl
theorem f4t_eq (c n : Int) (s : ByteArray) : (f4t c n s).ev =
  (rGet (fnS (fun (p : ByteArray × Int) => ((AV.tup [(AV.dat (D.str p.1)), (AV.dat (D.int IntKind.i64 p.2))]), [])) (P12 [(AV.dat (D.str s))] [])) fun x1 =>
   (rGet (fnS (fun (p : ByteArray × Int) => ((AV.tup [(AV.dat (D.str p.1)), (AV.dat (D.int IntKind.i64 p.2))]), [])) (P13 [(AV.dat (D.str s))] [])) fun x2 =>
    (rGet (fnS (fun (s : ByteArray) => ((AV.dat (D.str s)), [])) (P14 [] [])) fun x3 =>
     (rGet (fnS (fun (s : ByteArray) => ((AV.dat (D.str s)), [])) (P15 [] [])) fun x4 =>
      (rAsk ((ByteArray.toList x3) == (ByteArray.toList x4))
       (rGet (fnS (fun (s : ByteArray) => ((AV.dat (D.str s)), [])) (P16 [(AV.dat (D.int IntKind.u8 c))] [])) fun x5 =>
        (rGet (fnS (fun (s : ByteArray) => ((AV.dat (D.str s)), [])) (P17 [(AV.dat (D.int IntKind.u8 c))] [])) fun x6 =>
         (rAsk ((ByteArray.toList x5) == (ByteArray.toList x6))
          (rGet (fnS (fun (s : ByteArray) => ((AV.dat (D.str s)), [])) (P18 [(AV.dat (D.int IntKind.u64 n))] [])) fun x7 =>
           (rGet (fnS (fun (s : ByteArray) => ((AV.dat (D.str s)), [])) (P19 [(AV.dat (D.int IntKind.u64 n))] [])) fun x8 =>
            (rAsk ((ByteArray.toList x7) == (ByteArray.toList x8))
             (rAsk ((ByteArray.toList x1.1) == (ByteArray.toList x2.1))
              (rAsk (x1.2 == x2.2)
               (rGet (fnS (fun (b : Bool) => ((AV.dat (D.bool b)), [])) (P20 [(AV.dat (D.str s))] [])) fun x9 =>
                (rGet (fnS (fun (b : Bool) => ((AV.dat (D.bool b)), [])) (P11 [(AV.dat (D.str s))] [])) fun x10 =>
                 (rAsk (x9 == x10)
                  (rGet (fnS (fun (x : Unit) => ((AV.dat (D.bool true)), [])) (P6 [] [])) fun x11 =>
                   (some ((AV.dat (D.bool true)), []))
                  )
                  (some ((AV.dat (D.bool false)), []))
                 )
                )
               )
               (some ((AV.dat (D.bool false)), []))
              )
              (some ((AV.dat (D.bool false)), []))
             )
             (some ((AV.dat (D.bool false)), []))
            )
           )
          )
          (some ((AV.dat (D.bool false)), []))
         )
        )
       )
       (some ((AV.dat (D.bool false)), []))
      )
     )
    )
   )
  )
  := by kernel_rfl

/-- filled up with bytes 0 -/
def padS (s : ByteArray) : ByteArray × Int := if s.size > 64 then (⟨#[]⟩, 4) else (s ++ (fillS 0).extract s.size 64, 0)
theorem fill_size (c : Int) : (fillS c).size = 64 := by
  show (List.replicate 64 (UInt8.ofNat c.toNat)).toArray.size = 64
  simp

attribute [local irreducible] fnS E
theorem w14 {G : List Ent} : fnS (oS G) (P14 [] G) = some (fillS 0) := fnS_eq oS_inj (pure_of ev14)
theorem w15 {G : List Ent} : fnS (oS G) (P15 [] G) = some (fillS 0) := fnS_eq oS_inj (pure_of ev15)
theorem w16 {c : Int} {G : List Ent} : fnS (oS G) (P16 [.dat (.int .u8 c)] G) = some (fillS c) := fnS_eq oS_inj (pure_of (ev16 c))
theorem w17 {c : Int} {G : List Ent} : fnS (oS G) (P17 [.dat (.int .u8 c)] G) = some (fillS c) := fnS_eq oS_inj (pure_of (ev17 c))
theorem w18 {n : Int} {G : List Ent} : fnS (oS G) (P18 [.dat (.int .u64 n)] G) = some (mixS n) := fnS_eq oS_inj (pure_of (ev18 n))
theorem w19 {n : Int} {G : List Ent} : fnS (oS G) (P19 [.dat (.int .u64 n)] G) = some (mixS n) := fnS_eq oS_inj (pure_of (ev19 n))

attribute [local irreducible] fillS P6 P14 P15 P16 P17 P18 P19
theorem q12 {s : ByteArray} : R12 [.dat (.str s)] [] = some (oPad [] (padS s)) := by
  show (f12t s).run = _
  rw [← Tr.ev_run, f12t_eq]
  unfold padS
  by_cases h : s.size > 64
  · rw [if_pos h]; exact aT (by rw [decide_eq_true_eq]; omega) rfl
  rw [if_neg h]
  refine aF (by rw [decide_eq_false_iff_not]; omega) (gStep w14 ?_)
  rw [fill_size, Int.toNat_natCast, Int.toNat_natCast]
  refine aT (by simp; omega) (aT ?_ rfl)
  rw [decide_eq_true_eq, ByteArray.size_extract, fill_size]
  omega
theorem q13 {s : ByteArray} : R13 [.dat (.str s)] [] = some (oPad [] (padS s)) := by
  show (f13t s).run = _
  rw [← Tr.ev_run, f13t_eq]
  unfold padS
  by_cases h : s.size > 64
  · rw [if_pos h]; exact aT (by rw [decide_eq_true_eq]; omega) rfl
  rw [if_neg h]
  refine aF (by rw [decide_eq_false_iff_not]; omega) (gStep w15 ?_)
  rw [fill_size, Int.toNat_natCast, Int.toNat_natCast]
  refine aT (by simp; omega) (aT ?_ rfl)
  rw [decide_eq_true_eq, ByteArray.size_extract, fill_size]
  omega
theorem q20 {s : ByteArray} : R20 [.dat (.str s)] [] = some (oB [] (((s.size : Nat) : Int) == 64)) := by
  show (f20t s).run = _
  rw [← Tr.ev_run, f20t_eq]
  rfl
theorem q11 {s : ByteArray} : R11 [.dat (.str s)] [] = some (oB [] (((s.size : Nat) : Int) == 64)) := by
  show (f11t s).run = _
  rw [← Tr.ev_run, f11t_eq]
  rfl

attribute [local irreducible] R12 R13 R20 R11
theorem f4_run {c n : Int} {s : ByteArray} : (f4t c n s).run = some (.dat (.bool true), []) := by
  rw [← Tr.ev_run, f4t_eq]
  refine gStep (fnS_eq (out := oPad []) oPad_inj (pureS_eq rfl q12 rfl)) (gStep (fnS_eq (out := oPad []) oPad_inj (pureS_eq rfl q13 rfl)) (gStep w14 (gStep w15 (aT (beq_self_eq_true _) ?_))))
  refine gStep w16 (gStep w17 (aT (beq_self_eq_true _) (gStep w18 (gStep w19 (aT (beq_self_eq_true _) ?_)))))
  refine aT (beq_self_eq_true _) (aT (beq_self_eq_true _) (gStep (fnS_eq (out := oB []) oB_inj (pureS_eq rfl q20 rfl)) (gStep (fnS_eq (out := oB []) oB_inj (pureS_eq rfl q11 rfl)) (aT (beq_self_eq_true _) ?_))))
  exact gStep (fnS_eq (out := oT []) oT_inj p6) rfl
end Go.Eng
end

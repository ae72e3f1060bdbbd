/- Sectors: the program's variables; the library's functions that are called; known. -/
import Derived.Test.YtnbdibeainhnhaaDoorSd18
import Derived.Test.YtnbdibeainhnhaaDoorSd19
import Derived.Test.YtnbdibeainhnhaaDoorSd22
import Derived.Test.YtnbdibeainhnhaaDoorSd9
import Derived.Test.YtnbdibeainhnhaaDoorSd6
import Derived.Test.YtnbdibeainhnhaaDoorSd12
section
namespace Go.Eng
open Go
set_option maxRecDepth 100000

instance : Inhabited Pkg := ⟨⟨fun _ => none, fun g => if g = 1 then some (fun v => ∃ m, v = .int .i64 m) else if g = 2 ∨ g = 3 then some IsI else none⟩⟩

/-- what is kept at each loop's head, by liveness; the ranges over functions by hand -/
noncomputable def HH (f n : Nat) : List Nat := if n = 3000000 then (if f = 7 then [10070003, 10070011] else []) else match FT f with
  | some fn => ((liveF fn).lookup n).getD []
  | none => []

noncomputable abbrev PP : Program := Go.Proofs.Tryd.prog
theorem c33 : COk PP 33 sRepeat := sRepeat_ok ⟨_, Go.Proofs.Tryd.func33, by kernel_rfl, by kernel_rfl⟩ fun s c w hc hl => Go.Proofs.Tryd.strings_Repeat s c w hc hl
theorem c24 : COk PP 24 sItoa := sItoa_ok ⟨_, Go.Proofs.Tryd.func24, by kernel_rfl, by kernel_rfl⟩ fun i hi w => Go.Proofs.Tryd.strconv_Itoa_small i hi w
theorem c25 : COk PP 25 sJoin := sJoin_ok ⟨_, Go.Proofs.Tryd.func25, by kernel_rfl, by kernel_rfl⟩ fun bk o c xs sep w h1 h2 h3 h4 h5 => Go.Proofs.Tryd.strings_Join bk o c xs sep w h1 h2 h3 h4 h5
theorem c26 : COk PP 26 sSplit1 := sSplit1_ok (g := 1) ⟨_, Go.Proofs.Tryd.func26, by kernel_rfl, by kernel_rfl⟩ rfl fun s sep m w h1 h2 h3 => Go.Proofs.Tryd.strings_Split s sep m w h1 h2 h3
theorem c43 : COk PP 43 sCut1 := sCut1_ok (g := 1) ⟨_, Go.Proofs.Tryd.func43, by kernel_rfl, by kernel_rfl⟩ rfl fun s sep m w h1 h2 => Go.Proofs.Tryd.strings_Cut s sep m w h1 h2
theorem c44 : COk PP 44 sIndexByte := sIndexByte_ok ⟨_, Go.Proofs.Tryd.func44, by kernel_rfl, by kernel_rfl⟩ fun s b w => Go.Proofs.Tryd.strings_IndexByte s b w
theorem c45 : COk PP 45 sAtoiA := sAtoiA_ok (g1 := 2) (g2 := 3) ⟨_, Go.Proofs.Tryd.func45, by kernel_rfl, by kernel_rfl⟩ rfl rfl (fun s h v hv w => Go.Proofs.Tryd.strconv_Atoi_ok s h v hv w)
  (fun s h hv hr ev w h1 h2 => (Go.Proofs.Any.strconv_Atoi_syntax Go.Proofs.Tryd.laysC172 s h (by
    cases hq : Go.Lib.atoiAll s.data.toList with
    | ok v => exact absurd hq (hv v)
    | range => exact absurd hq hr
    | _ => rfl) ev w h1 h2).mono fun e w' q => by obtain ⟨N, q1, _, _, q2⟩ := q; exact ⟨N, q1, q2⟩)
  (fun s h hv ev w h1 h2 => (Go.Proofs.Tryd.strconv_Atoi_range s h hv ev w h1 h2).mono fun e w' q => by obtain ⟨N, q1, _, _, q2⟩ := q; exact ⟨N, q1, q2⟩)

noncomputable def oL : Orc := fun f => match f with
  | 24 => sItoa
  | 25 => sJoin
  | 26 => sSplit1
  | 33 => sRepeat
  | 43 => sCut1
  | 44 => sIndexByte
  | 45 => sAtoiA
  | _ => fun _ _ => none
theorem oL_ok : ∀ f, COk PP f (oL f) := fun f => by
  unfold oL
  split
  · exact c24
  · exact c25
  · exact c26
  · exact c33
  · exact c43
  · exact c44
  · exact c45
  · exact COk.nothing fun _ _ => rfl
abbrev libs : List Nat := [24, 25, 26, 33, 43, 44, 45]

noncomputable def E (f : Nat) (a : List AV) (G : List Ent) : Option (AV × List Ent) := orcY FT TT 300 HH libs oL 8 f a G
theorem E_ok (f : Nat) : COk PP f (E f) := orcY_ok (K := 300) (H := HH) TT_ok (FT := FT) (fun _ _ h => FT_ok h) oL_ok 8 f
noncomputable abbrev bs (l : List UInt8) : AV := .dat (.str ⟨l.toArray⟩)
theorem fill5 : (E 16 [.dat (.int .u8 5)] []).map (·.1) = some (bs (List.replicate 64 5)) := by kernel_rfl
theorem short5 : (E 7 [bs (List.replicate 64 5)] []).map (·.1) = some (bs [48, 53, 42, 54, 52]) := by kernel_rfl
theorem pada : (E 12 [bs [97]] []).map (·.1) = some (.tup [bs (97 :: List.replicate 63 0), .dat (.int .i64 0)]) := by kernel_rfl
theorem longa : (E 8 [bs [54, 49, 32, 48, 48, 42, 54, 51]] []).map (·.1) = some (.tup [bs (97 :: List.replicate 63 0), .dat (.int .i64 0)]) := by kernel_rfl
theorem known_ev : (E 6 [] []).map (·.1) = some (.dat (.bool true)) := by kernel_rfl
end Go.Eng
end

/- Sectors: two texts side by side, as trees. -/
section
namespace Go.Eng
open Go
set_option maxRecDepth 100000

theorem FT_fine {f : Nat} {fn : Func} (h : FT f = some fn) : PP.funcs[f]? = some fn ∧ (fn.name == "runtime.NumGoroutine") = false ∧ nodupN ((loops (codeOf fn)).map firstRegion) = true := by
  have h2 := BT.get_all (BT.all_ok (q := fun _ fn => !(fn.name == "runtime.NumGoroutine") && nodupN ((loops (codeOf fn)).map firstRegion)) (show FTree.all (fun _ fn => !(fn.name == "runtime.NumGoroutine") && nodupN ((loops (codeOf fn)).map firstRegion)) = true by kernel_rfl)) h
  simp only [Bool.and_eq_true, Bool.not_eq_true'] at h2
  exact ⟨FT_ok h, h2.1, h2.2⟩

def hOfS (l : List (Nat × List Nat)) (n : Nat) : List Nat := (l.lookup n).getD []
def HSe (f : Nat) : Nat → List Nat := match f with
  | 21 => hOfS [(3, [0, 1, 6, 7, 13, 14]), (1000003, [6, 7])]
  | 22 => hOfS [(4, [0, 1, 6, 7, 8]), (1000004, [6, 7])]
  | _ => fun _ => []

def jn (n : Int) : AV := .dat (.int .i64 n)
def oT (G : List Ent) (_ : Unit) : AV × List Ent := (.dat (.bool true), G)
theorem oT_inj {G : List Ent} : ∀ x y, oT G x = oT G y → x = y := fun _ _ _ => rfl
noncomputable def P6 := pureS (E 6)
theorem p6 {G : List Ent} : P6 [] G = some (oT G ()) := by
  have := known_ev
  have h : ∃ G', E 6 [] [] = some (.dat (.bool true), G') := by
    cases ho : E 6 [] [] with
    | none => rw [ho] at this; cases this
    | some r =>
      rw [ho] at this
      simp only [Option.map_some, Option.some.injEq] at this
      exact ⟨r.2, by rw [← this]⟩
  obtain ⟨G', h⟩ := h
  exact pureS_eq rfl h rfl

noncomputable def lp21 : Code := lpOf (codeOf Go.Proofs.Tryd.f21) 0
noncomputable def lp22 : Code := lpOf (codeOf Go.Proofs.Tryd.f22) 0
def inv21 (a b : ByteArray) (m n at' i : Int) : St := ⟨mkT 0 44 [(0, .dat (.str a)), (1, .dat (.str b)), (6, jn n), (7, jn at'), (13, jn m), (14, jn i)], ⟨[], [], 0⟩⟩
noncomputable def rk21 (a b : ByteArray) (m n at' i : Int) : Tr (Ex × St) := tround TT tNone noLo (HSe 21) lp21 (inv21 a b m n at' i)
def inv22 (a b : ByteArray) (n at' i : Int) : St := ⟨mkT 0 47 [(0, .dat (.str a)), (1, .dat (.str b)), (6, jn n), (7, jn at'), (8, jn i)], ⟨[], [], 0⟩⟩
noncomputable def rk22 (a b : ByteArray) (n at' i : Int) : Tr (Ex × St) := tround TT tNone noLo (HSe 22) lp22 (inv22 a b n at' i)
def out21 (p : Int × Int) : Ex × St := (.exit 0, ⟨mkT 0 44 [(6, jn p.1), (7, jn p.2)], ⟨[], [], 0⟩⟩)
def out22 (p : Int × Int) : Ex × St := (.exit 0, ⟨mkT 0 47 [(6, jn p.1), (7, jn p.2)], ⟨[], [], 0⟩⟩)
noncomputable def lo21 (n : Nat) (st : St) : Tr (Ex × St) := match n with
  | 3 => tlo TT tNone.runs (HSe 21) lp21 out21 st
  | _ => .fail
noncomputable def lo22 (n : Nat) (st : St) : Tr (Ex × St) := match n with
  | 4 => tlo TT tNone.runs (HSe 22) lp22 out22 st
  | _ => .fail
noncomputable def f21t (a b : ByteArray) : Tr (AV × List Ent) := tfn TT tNone lo21 Go.Proofs.Tryd.f21 [.dat (.str a), .dat (.str b)] []
noncomputable def f22t (a b : ByteArray) : Tr (AV × List Ent) := tfn TT tNone lo22 Go.Proofs.Tryd.f22 [.dat (.str a), .dat (.str b)] []
def oP (G : List Ent) (p : Int × Int) : AV × List Ent := (.tup [jn p.1, jn p.2], G)
theorem oP_inj {G : List Ent} : ∀ x y, oP G x = oP G y → x = y := by
  rintro ⟨a, b⟩ ⟨c, d⟩ h
  simp [oP, jn] at h
  obtain ⟨rfl, rfl⟩ := h
  rfl
noncomputable def R21 (a : List AV) (G : List Ent) : Option (AV × List Ent) := (tfn TT tNone lo21 Go.Proofs.Tryd.f21 a G).run
noncomputable def R22 (a : List AV) (G : List Ent) : Option (AV × List Ent) := (tfn TT tNone lo22 Go.Proofs.Tryd.f22 a G).run
noncomputable def P21 := pureS R21
noncomputable def P22 := pureS R22
noncomputable def t5 : TOrc := tCons 6 (fun a G => tspec (oT G) (P6 a G)) (tCons 21 (fun a G => tspec (oP G) (P21 a G)) (tCons 22 (fun a G => tspec (oP G) (P22 a G)) tNone))
noncomputable def f5t (a b : ByteArray) : Tr (AV × List Ent) := tfn TT t5 noLo Go.Proofs.Tryd.f5 [.dat (.str a), .dat (.str b)] []
end Go.Eng
end

/- Sectors: at how many bytes two texts are not alike; the law answers true. -/
section
namespace Go.Eng
open Go
set_option maxRecDepth 100000
set_option linter.unusedSimpArgs false

theorem rk21_eq (a b : ByteArray) (m n at' i : Int) : (rk21 a b m n at' i).ev =
  (rAsk (decide (i < m))
   (rAsk (decide (i < (((ByteArray.size a) : Nat) : Int)))
    (rAsk (decide (i < (((ByteArray.size b) : Nat) : Int)))
     (rAsk (decide ((0 : Int) ≤ i))
      (rGet a[(Int.toNat i)]? fun x1 =>
       (rAsk (decide ((0 : Int) ≤ i))
        (rGet b[(Int.toNat i)]? fun x2 =>
         (rAsk ((((UInt8.toNat x1) : Nat) : Int) == (((UInt8.toNat x2) : Nat) : Int))
          (some (Ex.norm, (St.mk (mkT 0 44 [(0, (AV.dat (D.str a))), (1, (AV.dat (D.str b))), (6, (AV.dat (D.int IntKind.i64 n))), (7, (AV.dat (D.int IntKind.i64 at'))), (13, (AV.dat (D.int IntKind.i64 m))), (14, (AV.dat (D.int IntKind.i64 (IntKind.wrap IntKind.i64 (i + (1 : Int))))))]) (Mem.mk [] [] 0))))
          (rAsk (n == (0 : Int))
           (some (Ex.norm, (St.mk (mkT 0 44 [(0, (AV.dat (D.str a))), (1, (AV.dat (D.str b))), (6, (AV.dat (D.int IntKind.i64 (IntKind.wrap IntKind.i64 (n + (1 : Int)))))), (7, (AV.dat (D.int IntKind.i64 i))), (13, (AV.dat (D.int IntKind.i64 m))), (14, (AV.dat (D.int IntKind.i64 (IntKind.wrap IntKind.i64 (i + (1 : Int))))))]) (Mem.mk [] [] 0))))
           (some (Ex.norm, (St.mk (mkT 0 44 [(0, (AV.dat (D.str a))), (1, (AV.dat (D.str b))), (6, (AV.dat (D.int IntKind.i64 (IntKind.wrap IntKind.i64 (n + (1 : Int)))))), (7, (AV.dat (D.int IntKind.i64 at'))), (13, (AV.dat (D.int IntKind.i64 m))), (14, (AV.dat (D.int IntKind.i64 (IntKind.wrap IntKind.i64 (i + (1 : Int))))))]) (Mem.mk [] [] 0))))
          )
         )
        )
        none
       )
      )
      none
     )
     (rAsk (n == (0 : Int))
      (some (Ex.norm, (St.mk (mkT 0 44 [(0, (AV.dat (D.str a))), (1, (AV.dat (D.str b))), (6, (AV.dat (D.int IntKind.i64 (IntKind.wrap IntKind.i64 (n + (1 : Int)))))), (7, (AV.dat (D.int IntKind.i64 i))), (13, (AV.dat (D.int IntKind.i64 m))), (14, (AV.dat (D.int IntKind.i64 (IntKind.wrap IntKind.i64 (i + (1 : Int))))))]) (Mem.mk [] [] 0))))
      (some (Ex.norm, (St.mk (mkT 0 44 [(0, (AV.dat (D.str a))), (1, (AV.dat (D.str b))), (6, (AV.dat (D.int IntKind.i64 (IntKind.wrap IntKind.i64 (n + (1 : Int)))))), (7, (AV.dat (D.int IntKind.i64 at'))), (13, (AV.dat (D.int IntKind.i64 m))), (14, (AV.dat (D.int IntKind.i64 (IntKind.wrap IntKind.i64 (i + (1 : Int))))))]) (Mem.mk [] [] 0))))
     )
    )
    (rAsk (n == (0 : Int))
     (some (Ex.norm, (St.mk (mkT 0 44 [(0, (AV.dat (D.str a))), (1, (AV.dat (D.str b))), (6, (AV.dat (D.int IntKind.i64 (IntKind.wrap IntKind.i64 (n + (1 : Int)))))), (7, (AV.dat (D.int IntKind.i64 i))), (13, (AV.dat (D.int IntKind.i64 m))), (14, (AV.dat (D.int IntKind.i64 (IntKind.wrap IntKind.i64 (i + (1 : Int))))))]) (Mem.mk [] [] 0))))
     (some (Ex.norm, (St.mk (mkT 0 44 [(0, (AV.dat (D.str a))), (1, (AV.dat (D.str b))), (6, (AV.dat (D.int IntKind.i64 (IntKind.wrap IntKind.i64 (n + (1 : Int)))))), (7, (AV.dat (D.int IntKind.i64 at'))), (13, (AV.dat (D.int IntKind.i64 m))), (14, (AV.dat (D.int IntKind.i64 (IntKind.wrap IntKind.i64 (i + (1 : Int))))))]) (Mem.mk [] [] 0))))
    )
   )
   (some ((Ex.exit 0), (St.mk (mkT 0 44 [(6, (AV.dat (D.int IntKind.i64 n))), (7, (AV.dat (D.int IntKind.i64 at')))]) (Mem.mk [] [] 0))))
  )
  := by kernel_rfl

theorem rk22_eq (a b : ByteArray) (n at' i : Int) : (rk22 a b n at' i).ev =
  (rAsk (decide (i < (((ByteArray.size a) : Nat) : Int)))
   (rAsk (decide (i ≥ (((ByteArray.size a) : Nat) : Int)))
    (rAsk (n == (0 : Int))
     (some (Ex.norm, (St.mk (mkT 0 47 [(0, (AV.dat (D.str a))), (1, (AV.dat (D.str b))), (6, (AV.dat (D.int IntKind.i64 (IntKind.wrap IntKind.i64 (n + (1 : Int)))))), (7, (AV.dat (D.int IntKind.i64 i))), (8, (AV.dat (D.int IntKind.i64 (IntKind.wrap IntKind.i64 (i + (1 : Int))))))]) (Mem.mk [] [] 0))))
     (some (Ex.norm, (St.mk (mkT 0 47 [(0, (AV.dat (D.str a))), (1, (AV.dat (D.str b))), (6, (AV.dat (D.int IntKind.i64 (IntKind.wrap IntKind.i64 (n + (1 : Int)))))), (7, (AV.dat (D.int IntKind.i64 at'))), (8, (AV.dat (D.int IntKind.i64 (IntKind.wrap IntKind.i64 (i + (1 : Int))))))]) (Mem.mk [] [] 0))))
    )
    (rAsk (decide (i ≥ (((ByteArray.size b) : Nat) : Int)))
     (rAsk (n == (0 : Int))
      (some (Ex.norm, (St.mk (mkT 0 47 [(0, (AV.dat (D.str a))), (1, (AV.dat (D.str b))), (6, (AV.dat (D.int IntKind.i64 (IntKind.wrap IntKind.i64 (n + (1 : Int)))))), (7, (AV.dat (D.int IntKind.i64 i))), (8, (AV.dat (D.int IntKind.i64 (IntKind.wrap IntKind.i64 (i + (1 : Int))))))]) (Mem.mk [] [] 0))))
      (some (Ex.norm, (St.mk (mkT 0 47 [(0, (AV.dat (D.str a))), (1, (AV.dat (D.str b))), (6, (AV.dat (D.int IntKind.i64 (IntKind.wrap IntKind.i64 (n + (1 : Int)))))), (7, (AV.dat (D.int IntKind.i64 at'))), (8, (AV.dat (D.int IntKind.i64 (IntKind.wrap IntKind.i64 (i + (1 : Int))))))]) (Mem.mk [] [] 0))))
     )
     (rAsk (decide ((0 : Int) ≤ i))
      (rGet a[(Int.toNat i)]? fun x1 =>
       (rAsk (decide ((0 : Int) ≤ i))
        (rGet b[(Int.toNat i)]? fun x2 =>
         (rAsk ((((UInt8.toNat x1) : Nat) : Int) != (((UInt8.toNat x2) : Nat) : Int))
          (rAsk (n == (0 : Int))
           (some (Ex.norm, (St.mk (mkT 0 47 [(0, (AV.dat (D.str a))), (1, (AV.dat (D.str b))), (6, (AV.dat (D.int IntKind.i64 (IntKind.wrap IntKind.i64 (n + (1 : Int)))))), (7, (AV.dat (D.int IntKind.i64 i))), (8, (AV.dat (D.int IntKind.i64 (IntKind.wrap IntKind.i64 (i + (1 : Int))))))]) (Mem.mk [] [] 0))))
           (some (Ex.norm, (St.mk (mkT 0 47 [(0, (AV.dat (D.str a))), (1, (AV.dat (D.str b))), (6, (AV.dat (D.int IntKind.i64 (IntKind.wrap IntKind.i64 (n + (1 : Int)))))), (7, (AV.dat (D.int IntKind.i64 at'))), (8, (AV.dat (D.int IntKind.i64 (IntKind.wrap IntKind.i64 (i + (1 : Int))))))]) (Mem.mk [] [] 0))))
          )
          (some (Ex.norm, (St.mk (mkT 0 47 [(0, (AV.dat (D.str a))), (1, (AV.dat (D.str b))), (6, (AV.dat (D.int IntKind.i64 n))), (7, (AV.dat (D.int IntKind.i64 at'))), (8, (AV.dat (D.int IntKind.i64 (IntKind.wrap IntKind.i64 (i + (1 : Int))))))]) (Mem.mk [] [] 0))))
         )
        )
        none
       )
      )
      none
     )
    )
   )
   (rAsk (decide (i < (((ByteArray.size b) : Nat) : Int)))
    (rAsk (decide (i ≥ (((ByteArray.size a) : Nat) : Int)))
     (rAsk (n == (0 : Int))
      (some (Ex.norm, (St.mk (mkT 0 47 [(0, (AV.dat (D.str a))), (1, (AV.dat (D.str b))), (6, (AV.dat (D.int IntKind.i64 (IntKind.wrap IntKind.i64 (n + (1 : Int)))))), (7, (AV.dat (D.int IntKind.i64 i))), (8, (AV.dat (D.int IntKind.i64 (IntKind.wrap IntKind.i64 (i + (1 : Int))))))]) (Mem.mk [] [] 0))))
      (some (Ex.norm, (St.mk (mkT 0 47 [(0, (AV.dat (D.str a))), (1, (AV.dat (D.str b))), (6, (AV.dat (D.int IntKind.i64 (IntKind.wrap IntKind.i64 (n + (1 : Int)))))), (7, (AV.dat (D.int IntKind.i64 at'))), (8, (AV.dat (D.int IntKind.i64 (IntKind.wrap IntKind.i64 (i + (1 : Int))))))]) (Mem.mk [] [] 0))))
     )
     (rAsk (decide (i ≥ (((ByteArray.size b) : Nat) : Int)))
      (rAsk (n == (0 : Int))
       (some (Ex.norm, (St.mk (mkT 0 47 [(0, (AV.dat (D.str a))), (1, (AV.dat (D.str b))), (6, (AV.dat (D.int IntKind.i64 (IntKind.wrap IntKind.i64 (n + (1 : Int)))))), (7, (AV.dat (D.int IntKind.i64 i))), (8, (AV.dat (D.int IntKind.i64 (IntKind.wrap IntKind.i64 (i + (1 : Int))))))]) (Mem.mk [] [] 0))))
       (some (Ex.norm, (St.mk (mkT 0 47 [(0, (AV.dat (D.str a))), (1, (AV.dat (D.str b))), (6, (AV.dat (D.int IntKind.i64 (IntKind.wrap IntKind.i64 (n + (1 : Int)))))), (7, (AV.dat (D.int IntKind.i64 at'))), (8, (AV.dat (D.int IntKind.i64 (IntKind.wrap IntKind.i64 (i + (1 : Int))))))]) (Mem.mk [] [] 0))))
      )
      (rAsk (decide ((0 : Int) ≤ i))
       (rGet a[(Int.toNat i)]? fun x3 =>
        (rAsk (decide ((0 : Int) ≤ i))
         (rGet b[(Int.toNat i)]? fun x4 =>
          (rAsk ((((UInt8.toNat x3) : Nat) : Int) != (((UInt8.toNat x4) : Nat) : Int))
           (rAsk (n == (0 : Int))
            (some (Ex.norm, (St.mk (mkT 0 47 [(0, (AV.dat (D.str a))), (1, (AV.dat (D.str b))), (6, (AV.dat (D.int IntKind.i64 (IntKind.wrap IntKind.i64 (n + (1 : Int)))))), (7, (AV.dat (D.int IntKind.i64 i))), (8, (AV.dat (D.int IntKind.i64 (IntKind.wrap IntKind.i64 (i + (1 : Int))))))]) (Mem.mk [] [] 0))))
            (some (Ex.norm, (St.mk (mkT 0 47 [(0, (AV.dat (D.str a))), (1, (AV.dat (D.str b))), (6, (AV.dat (D.int IntKind.i64 (IntKind.wrap IntKind.i64 (n + (1 : Int)))))), (7, (AV.dat (D.int IntKind.i64 at'))), (8, (AV.dat (D.int IntKind.i64 (IntKind.wrap IntKind.i64 (i + (1 : Int))))))]) (Mem.mk [] [] 0))))
           )
           (some (Ex.norm, (St.mk (mkT 0 47 [(0, (AV.dat (D.str a))), (1, (AV.dat (D.str b))), (6, (AV.dat (D.int IntKind.i64 n))), (7, (AV.dat (D.int IntKind.i64 at'))), (8, (AV.dat (D.int IntKind.i64 (IntKind.wrap IntKind.i64 (i + (1 : Int))))))]) (Mem.mk [] [] 0))))
          )
         )
         none
        )
       )
       none
      )
     )
    )
    (some ((Ex.exit 0), (St.mk (mkT 0 47 [(6, (AV.dat (D.int IntKind.i64 n))), (7, (AV.dat (D.int IntKind.i64 at')))]) (Mem.mk [] [] 0))))
   )
  )
  := by kernel_rfl

theorem f21t_eq (a b : ByteArray) : (f21t a b).ev =
  (rGet (loS TT (TOrc.runs tNone) (HSe 21) lp21 out21 (St.mk (mkT 0 44 [(0, (AV.dat (D.str a))), (1, (AV.dat (D.str b))), (6, (AV.dat (D.int IntKind.i64 (0 : Int)))), (7, (AV.dat (D.int IntKind.i64 (0 : Int)))), (13, (AV.dat (D.int IntKind.i64 (if (true = true) then (if ((((ByteArray.size b) : Nat) : Int) > (((ByteArray.size a) : Nat) : Int)) then (((ByteArray.size b) : Nat) : Int) else (((ByteArray.size a) : Nat) : Int)) else (if ((((ByteArray.size b) : Nat) : Int) < (((ByteArray.size a) : Nat) : Int)) then (((ByteArray.size b) : Nat) : Int) else (((ByteArray.size a) : Nat) : Int)))))), (14, (AV.dat (D.int IntKind.i64 (0 : Int))))]) (Mem.mk [] [] 0))) fun x1 =>
   (some ((AV.tup [(AV.dat (D.int IntKind.i64 x1.1)), (AV.dat (D.int IntKind.i64 x1.2))]), []))
  )
  := by kernel_rfl

theorem f22t_eq (a b : ByteArray) : (f22t a b).ev =
  (rGet (loS TT (TOrc.runs tNone) (HSe 22) lp22 out22 (St.mk (mkT 0 47 [(0, (AV.dat (D.str a))), (1, (AV.dat (D.str b))), (6, (AV.dat (D.int IntKind.i64 (0 : Int)))), (7, (AV.dat (D.int IntKind.i64 (0 : Int)))), (8, (AV.dat (D.int IntKind.i64 (0 : Int))))]) (Mem.mk [] [] 0))) fun x1 =>
   (some ((AV.tup [(AV.dat (D.int IntKind.i64 x1.1)), (AV.dat (D.int IntKind.i64 x1.2))]), []))
  )
  := by kernel_rfl

theorem f5t_eq (a b : ByteArray) : (f5t a b).ev =
  (rGet (fnS (fun (p : Int × Int) => ((AV.tup [(AV.dat (D.int IntKind.i64 p.1)), (AV.dat (D.int IntKind.i64 p.2))]), [])) (P21 [(AV.dat (D.str a)), (AV.dat (D.str b))] [])) fun x1 =>
   (rGet (fnS (fun (p : Int × Int) => ((AV.tup [(AV.dat (D.int IntKind.i64 p.1)), (AV.dat (D.int IntKind.i64 p.2))]), [])) (P22 [(AV.dat (D.str a)), (AV.dat (D.str b))] [])) fun x2 =>
    (rAsk (x1.1 == x2.1)
     (rAsk (x1.2 == x2.2)
      (rGet (fnS (fun (x : Unit) => ((AV.dat (D.bool true)), [])) (P6 [] [])) fun x3 =>
       (some ((AV.dat (D.bool true)), []))
      )
      (some ((AV.dat (D.bool false)), []))
     )
     (some ((AV.dat (D.bool false)), []))
    )
   )
  )
  := by kernel_rfl

/-- one place more -/
def dst (a b : ByteArray) (i : Nat) (p : Int × Int) : Int × Int := if i < a.size ∧ i < b.size ∧ a[i]? = b[i]? then p else (p.1 + 1, if p.1 = 0 then i else p.2)
def dfold (a b : ByteArray) : Nat → Int × Int
  | 0 => (0, 0)
  | i + 1 => dst a b i (dfold a b i)
theorem dfold_le (a b : ByteArray) : ∀ i : Nat, 0 ≤ (dfold a b i).1 ∧ (dfold a b i).1 ≤ i
  | 0 => by simp [dfold]
  | i + 1 => by
    have := dfold_le a b i
    unfold dfold dst
    split
    · omega
    · simp only; omega

theorem ba_get {a : ByteArray} {i : Nat} (h : i < a.size) : a[i]? = some a[i] := getElem?_pos a i h
theorem u8_beq (x y : UInt8) : ((((x.toNat : Nat) : Int) == ((y.toNat : Nat) : Int)) = true) ↔ x = y := by
  rw [beq_iff_eq]
  constructor
  · intro h; exact UInt8.toNat_inj.1 (by omega)
  · rintro rfl; rfl

theorem round21 {a b : ByteArray} {i : Nat} (ha : a.size ≤ maxLen) (hb : b.size ≤ maxLen) (hi : i < max a.size b.size) :
    (rk21 a b (max a.size b.size : Nat) (dfold a b i).1 (dfold a b i).2 i).run = some (.norm, inv21 a b (max a.size b.size : Nat) (dfold a b (i + 1)).1 (dfold a b (i + 1)).2 ((i + 1 : Nat) : Int)) := by
  rw [← Tr.ev_run, rk21_eq]
  unfold maxLen at ha hb
  have hd := dfold_le a b i
  have hw : IntKind.wrap .i64 ((i : Int) + 1) = ((i + 1 : Nat) : Int) := by rw [IntKind.wrap_i64]; omega
  have hw2 : IntKind.wrap .i64 ((dfold a b i).1 + 1) = (dfold a b i).1 + 1 := by rw [IntKind.wrap_i64]; omega
  have key : ∀ q : ¬ (i < a.size ∧ i < b.size ∧ a[i]? = b[i]?), dfold a b (i + 1) = ((dfold a b i).1 + 1, if (dfold a b i).1 = 0 then (i : Int) else (dfold a b i).2) := fun q => by
    rw [show dfold a b (i + 1) = dst a b i (dfold a b i) from rfl, dst, if_neg q]
  have keyT : ∀ q : (i < a.size ∧ i < b.size ∧ a[i]? = b[i]?), dfold a b (i + 1) = dfold a b i := fun q => by
    rw [show dfold a b (i + 1) = dst a b i (dfold a b i) from rfl, dst, if_pos q]
  refine aT (by rw [decide_eq_true_eq]; omega) ?_
  rw [hw, hw2]
  by_cases h1 : i < a.size
  case neg =>
    rw [key fun q => h1 q.1]
    refine aF (by rw [decide_eq_false_iff_not]; omega) ?_
    by_cases h0 : (dfold a b i).1 = 0
    · rw [if_pos h0]; exact aT (by rw [beq_iff_eq]; exact h0) rfl
    · rw [if_neg h0]; exact aF (by rw [beq_eq_false_iff_ne]; exact h0) rfl
  refine aT (by rw [decide_eq_true_eq]; omega) ?_
  by_cases h2 : i < b.size
  case neg =>
    rw [key fun q => h2 q.2.1]
    refine aF (by rw [decide_eq_false_iff_not]; omega) ?_
    by_cases h0 : (dfold a b i).1 = 0
    · rw [if_pos h0]; exact aT (by rw [beq_iff_eq]; exact h0) rfl
    · rw [if_neg h0]; exact aF (by rw [beq_eq_false_iff_ne]; exact h0) rfl
  refine aT (by rw [decide_eq_true_eq]; omega) ?_
  refine aT (by rw [decide_eq_true_eq]; omega) (gStep (x := a[i]) (by rw [Int.toNat_natCast]; exact ba_get h1) ?_)
  refine aT (by rw [decide_eq_true_eq]; omega) (gStep (x := b[i]) (by rw [Int.toNat_natCast]; exact ba_get h2) ?_)
  by_cases h3 : a[i] = b[i]
  · rw [keyT ⟨h1, h2, by rw [ba_get h1, ba_get h2, h3]⟩]
    exact aT ((u8_beq _ _).2 h3) rfl
  · rw [key fun q => h3 (by have := q.2.2; rw [ba_get h1, ba_get h2] at this; exact Option.some.inj this)]
    refine aF (by rw [Bool.eq_false_iff]; exact fun h => h3 ((u8_beq _ _).1 h)) ?_
    by_cases h0 : (dfold a b i).1 = 0
    · rw [if_pos h0]; exact aT (by rw [beq_iff_eq]; exact h0) rfl
    · rw [if_neg h0]; exact aF (by rw [beq_eq_false_iff_ne]; exact h0) rfl

theorem loop21 {a b : ByteArray} (ha : a.size ≤ maxLen) (hb : b.size ≤ maxLen) : LoopTo TT tNone.runs (HSe 21) lp21 (inv21 a b (max a.size b.size : Nat) 0 0 0) (out21 (dfold a b (max a.size b.size))) := by
  have key := LoopTo.count (T := TT) (orc := tNone) (H := HSe 21) (lo := noLo) (b := lp21) (LoOk2.no _) (N := max a.size b.size) (inv := fun i => inv21 a b (max a.size b.size : Nat) (dfold a b i).1 (dfold a b i).2 i) (ex := .exit 0) (s := (out21 (dfold a b (max a.size b.size))).2)
    (fun i hi => round21 ha hb hi) ?_ (by simp) (max a.size b.size) 0 (by omega)
  · exact key
  · show (rk21 a b (max a.size b.size : Nat) _ _ (max a.size b.size : Nat)).run = _
    rw [← Tr.ev_run, rk21_eq]
    exact aF (by rw [decide_eq_false_iff_not]; omega) rfl

theorem round22 {a b : ByteArray} {i : Nat} (ha : a.size ≤ maxLen) (hb : b.size ≤ maxLen) (hi : i < max a.size b.size) :
    (rk22 a b (dfold a b i).1 (dfold a b i).2 i).run = some (.norm, inv22 a b (dfold a b (i + 1)).1 (dfold a b (i + 1)).2 ((i + 1 : Nat) : Int)) := by
  rw [← Tr.ev_run, rk22_eq]
  unfold maxLen at ha hb
  have hd := dfold_le a b i
  have hw : IntKind.wrap .i64 ((i : Int) + 1) = ((i + 1 : Nat) : Int) := by rw [IntKind.wrap_i64]; omega
  have hw2 : IntKind.wrap .i64 ((dfold a b i).1 + 1) = (dfold a b i).1 + 1 := by rw [IntKind.wrap_i64]; omega
  have key : ∀ q : ¬ (i < a.size ∧ i < b.size ∧ a[i]? = b[i]?), dfold a b (i + 1) = ((dfold a b i).1 + 1, if (dfold a b i).1 = 0 then (i : Int) else (dfold a b i).2) := fun q => by
    rw [show dfold a b (i + 1) = dst a b i (dfold a b i) from rfl, dst, if_neg q]
  have keyT : ∀ q : (i < a.size ∧ i < b.size ∧ a[i]? = b[i]?), dfold a b (i + 1) = dfold a b i := fun q => by
    rw [show dfold a b (i + 1) = dst a b i (dfold a b i) from rfl, dst, if_pos q]
  rw [hw, hw2]
  by_cases h1 : i < a.size
  case neg =>
    rw [key fun q => h1 q.1]
    refine aF (by rw [decide_eq_false_iff_not]; omega) (aT (by rw [decide_eq_true_eq]; omega) (aT (by rw [decide_eq_true_eq]; omega) ?_))
    by_cases h0 : (dfold a b i).1 = 0
    · rw [if_pos h0]; exact aT (by rw [beq_iff_eq]; exact h0) rfl
    · rw [if_neg h0]; exact aF (by rw [beq_eq_false_iff_ne]; exact h0) rfl
  refine aT (by rw [decide_eq_true_eq]; omega) (aF (by rw [decide_eq_false_iff_not]; omega) ?_)
  by_cases h2 : i < b.size
  case neg =>
    rw [key fun q => h2 q.2.1]
    refine aT (by rw [decide_eq_true_eq]; omega) ?_
    by_cases h0 : (dfold a b i).1 = 0
    · rw [if_pos h0]; exact aT (by rw [beq_iff_eq]; exact h0) rfl
    · rw [if_neg h0]; exact aF (by rw [beq_eq_false_iff_ne]; exact h0) rfl
  refine aF (by rw [decide_eq_false_iff_not]; omega) ?_
  refine aT (by rw [decide_eq_true_eq]; omega) (gStep (x := a[i]) (by rw [Int.toNat_natCast]; exact ba_get h1) ?_)
  refine aT (by rw [decide_eq_true_eq]; omega) (gStep (x := b[i]) (by rw [Int.toNat_natCast]; exact ba_get h2) ?_)
  by_cases h3 : a[i] = b[i]
  · rw [keyT ⟨h1, h2, by rw [ba_get h1, ba_get h2, h3]⟩]
    exact aF (by rw [bne_eq_false_iff_eq, ← beq_iff_eq]; exact (u8_beq _ _).2 h3) rfl
  · rw [key fun q => h3 (by have := q.2.2; rw [ba_get h1, ba_get h2] at this; exact Option.some.inj this)]
    refine aT (by rw [bne_iff_ne, ne_eq, ← beq_iff_eq]; exact fun h => h3 ((u8_beq _ _).1 h)) ?_
    by_cases h0 : (dfold a b i).1 = 0
    · rw [if_pos h0]; exact aT (by rw [beq_iff_eq]; exact h0) rfl
    · rw [if_neg h0]; exact aF (by rw [beq_eq_false_iff_ne]; exact h0) rfl

theorem loop22 {a b : ByteArray} (ha : a.size ≤ maxLen) (hb : b.size ≤ maxLen) : LoopTo TT tNone.runs (HSe 22) lp22 (inv22 a b 0 0 0) (out22 (dfold a b (max a.size b.size))) := by
  have key := LoopTo.count (T := TT) (orc := tNone) (H := HSe 22) (lo := noLo) (b := lp22) (LoOk2.no _) (N := max a.size b.size) (inv := fun i => inv22 a b (dfold a b i).1 (dfold a b i).2 i) (ex := .exit 0) (s := (out22 (dfold a b (max a.size b.size))).2)
    (fun i hi => round22 ha hb hi) ?_ (by simp) (max a.size b.size) 0 (by omega)
  · exact key
  · show (rk22 a b _ _ (max a.size b.size : Nat)).run = _
    rw [← Tr.ev_run, rk22_eq]
    exact aF (by rw [decide_eq_false_iff_not]; omega) (aF (by rw [decide_eq_false_iff_not]; omega) rfl)

theorem out21_inj : ∀ x y, out21 x = out21 y → x = y := by
  rintro ⟨a, b⟩ ⟨c, d⟩ h
  simp [out21, jn, mkT] at h
  exact Prod.ext h.1 h.2
theorem out22_inj : ∀ x y, out22 x = out22 y → x = y := by
  rintro ⟨a, b⟩ ⟨c, d⟩ h
  simp [out22, jn, mkT] at h
  exact Prod.ext h.1 h.2

attribute [local irreducible] fnS loS P6
theorem q21 {a b : ByteArray} (ha : a.size ≤ maxLen) (hb : b.size ≤ maxLen) : R21 [.dat (.str a), .dat (.str b)] [] = some (oP [] (dfold a b (max a.size b.size))) := by
  show (f21t a b).run = _
  rw [← Tr.ev_run, f21t_eq]
  have e : (if true = true then if (((b.size : Nat) : Int) > ((a.size : Nat) : Int)) then ((b.size : Nat) : Int) else ((a.size : Nat) : Int) else if (((b.size : Nat) : Int) < ((a.size : Nat) : Int)) then ((b.size : Nat) : Int) else ((a.size : Nat) : Int)) = ((max a.size b.size : Nat) : Int) := by
    rw [if_pos rfl]
    split <;> omega
  rw [e]
  exact gStep (loS_eq out21_inj (loop21 ha hb)) rfl
theorem q22 {a b : ByteArray} (ha : a.size ≤ maxLen) (hb : b.size ≤ maxLen) : R22 [.dat (.str a), .dat (.str b)] [] = some (oP [] (dfold a b (max a.size b.size))) := by
  show (f22t a b).run = _
  rw [← Tr.ev_run, f22t_eq]
  exact gStep (loS_eq out22_inj (loop22 ha hb)) rfl

attribute [local irreducible] R21 R22
theorem f5_run {a b : ByteArray} (ha : a.size ≤ maxLen) (hb : b.size ≤ maxLen) : (f5t a b).run = some (.dat (.bool true), []) := by
  rw [← Tr.ev_run, f5t_eq]
  refine gStep (fnS_eq (out := oP []) oP_inj (pureS_eq rfl (q21 ha hb) rfl)) (gStep (fnS_eq (out := oP []) oP_inj (pureS_eq rfl (q22 ha hb) rfl)) ?_)
  exact aT (beq_self_eq_true _) (aT (beq_self_eq_true _) (gStep (fnS_eq (out := oT []) oT_inj p6) rfl))

end Go.Eng
end

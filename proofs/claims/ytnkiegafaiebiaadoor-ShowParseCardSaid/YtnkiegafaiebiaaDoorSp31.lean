/- Answers as lines: small functions and both Line, as trees. -/
import Derived.Test.YtnkiegafaiebiaaDoorSp29
import Derived.Test.YtnkiegafaiebiaaDoorSp26
section
namespace Go.Eng
open Go
set_option maxRecDepth 100000

def HSc (f : Nat) : Nat → List Nat := match f with
  | 34 => hOfS [(3, [0, 3, 4]), (1000003, [3])]
  | 22 => hOfS [(4, [0, 1, 5]), (1000004, [])]
  | 6 => hOfS [(13, [4, 71, 72, 73]), (1000013, [4])]
  | 7 => hOfS [(13, [1, 4, 5]), (1000013, [4])]
  | _ => fun _ => []
/-! ### digits, Num -/
noncomputable def lp34 : Code := lpOf (codeOf Go.Proofs.Tryd.f34) 0
def inv34 (n : Int) (s : ByteArray) (i : Int) : St := ⟨mkT 0 29 [(0, .dat (.int .u64 n)), (3, .dat (.str s)), (4, jn i)], ⟨[], [], 0⟩⟩
noncomputable def rk34 (n : Int) (s : ByteArray) (i : Int) : Tr (Ex × St) := tround TT tNone noLo (HSc 34) lp34 (inv34 n s i)
def out34 (s : ByteArray) : Ex × St := (.exit 0, ⟨mkT 0 29 [(3, .dat (.str s))], ⟨[], [], 0⟩⟩)
noncomputable def lo34 (n : Nat) (st : St) : Tr (Ex × St) := match n with
  | 3 => tlo TT tNone.runs (HSc 34) lp34 out34 st
  | _ => .fail
noncomputable def f34t (n : Int) : Tr (AV × List Ent) := tfn TT tNone lo34 Go.Proofs.Tryd.f34 [.dat (.int .u64 n)] []
noncomputable def R134 (a : List AV) (G : List Ent) : Option (AV × List Ent) := (tfn TT tNone lo34 Go.Proofs.Tryd.f34 a G).run
noncomputable def P134 := pureS R134
noncomputable def t118 : TOrc := tCons 34 (fun a G => tspec (oS G) (P134 a G)) tNone
noncomputable def f18t (n : Int) : Tr (AV × List Ent) := tfn TT t118 noLo Go.Proofs.Tryd.f18 [jn n] []
noncomputable def R118 (a : List AV) (G : List Ent) : Option (AV × List Ent) := (tfn TT t118 noLo Go.Proofs.Tryd.f18 a G).run
noncomputable def P118 := pureS R118
/-! ### num -/
noncomputable def S51 : Spec := sParseA
noncomputable def t137 : TOrc := tCons 51 (fun a G => tspec2 (oAo G) (oAe G) (S51 a G)) tNone
noncomputable def g37t (s : ByteArray) : Tr (AV × List Ent) := tfn TT t137 noLo Go.Proofs.Tryd.f37 [.dat (.str s)] []
noncomputable def R137 (a : List AV) (G : List Ent) : Option (AV × List Ent) := (tfn TT t137 noLo Go.Proofs.Tryd.f37 a G).run
noncomputable def P137 := pureS R137
/-! ### Ints -/
noncomputable def lp22 : Code := lpOf (codeOf Go.Proofs.Tryd.f22) 0
def inv22 (k k' : LK) (z z' : Nat) (l r : Row) (i : Int) : St := ⟨mkT 0 26 [(0, .dat (.list k z l)), (1, .dat (.list k' z' r)), (5, jn i)], ⟨[], [], 0⟩⟩
noncomputable def rk22 (k k' : LK) (z z' : Nat) (l r : Row) (i : Int) : Tr (Ex × St) := tround TT tNone noLo (HSc 22) lp22 (inv22 k k' z z' l r i)
def out22 (_ : Unit) : Ex × St := (.exit 0, ⟨mkT 0 26 [], ⟨[], [], 0⟩⟩)
noncomputable def lo22 (n : Nat) (st : St) : Tr (Ex × St) := match n with
  | 4 => tlo TT tNone.runs (HSc 22) lp22 out22 st
  | _ => .fail
noncomputable def f22t (k k' : LK) (z z' : Nat) (l r : Row) : Tr (AV × List Ent) := tfn TT tNone lo22 Go.Proofs.Tryd.f22 [.dat (.list k z l), .dat (.list k' z' r)] []
noncomputable def R122 (a : List AV) (G : List Ent) : Option (AV × List Ent) := (tfn TT tNone lo22 Go.Proofs.Tryd.f22 a G).run
noncomputable def P122 := pureS R122
/-! ### Line -/
def anV (why n m : Int) (d : ByteArray) (k : LK) (z : Nat) (l : Row) : AV := .agg [jn why, jn n, jn m, .dat (.str d), .dat (.list k z l)]
noncomputable def S13 : Spec := sItoaA
noncomputable def S14 : Spec := sFormatA
noncomputable def f12r (s : ByteArray) : Tr (AV × List Ent) := t8 12 [.dat (.str s)] []
noncomputable def f17r (s : ByteArray) : Tr (AV × List Ent) := t8 17 [.dat (.str s)] []
noncomputable def P12 := pureS fun a G => (t8 12 a G).run
noncomputable def P17 := pureS fun a G => (t8 17 a G).run
noncomputable def t106 : TOrc := tCons 12 (fun a G => tspec (oB G) (P12 a G)) (tCons 13 (fun a G => tspec (oS G) (S13 a G)) (tCons 14 (fun a G => tspec (oS G) (S14 a G)) (tCons 15 (fun a G => tspec (oS G) (P7 a G)) (tCons 16 (fun a G => tspec (oS G) (S16n a G)) tNone))))
noncomputable def lp6 : Code := lpOf (codeOf Go.Proofs.Tryd.f6) 0
def inv6 (k : LK) (z : Nat) (l r : Row) (i : Int) : St := ⟨mkT 0 85 [(4, .sh false 0 1 0 r.length), (71, .dat (.list k z l)), (72, jn (l.length : Nat)), (73, jn i)], ⟨[some (.row .excl 1 r)], [], 0⟩⟩
noncomputable def rk6t (k : LK) (z : Nat) (l r : Row) : Tr (Ex × St) := tround TT t106 noLo (HSc 6) lp6 ⟨mkT 0 85 [(4, .sh true 0 1 0 r.length), (71, .dat (.list k z l)), (72, jn (l.length : Nat)), (73, jn 0)], ⟨[some (.row .excl 1 r)], [], 0⟩⟩
noncomputable def rk6 (k : LK) (z : Nat) (l r : Row) (i : Int) : Tr (Ex × St) := tround TT t106 noLo (HSc 6) lp6 (inv6 k z l r i)
def out6 (r : Row) : Ex × St := (.exit 0, ⟨mkT 0 85 [(4, .sh false 0 1 0 r.length)], ⟨[some (.row .excl 1 r)], [], 0⟩⟩)
def out6t (r : Row) : Ex × St := (.exit 0, ⟨mkT 0 85 [(4, .sh true 0 1 0 r.length)], ⟨[some (.row .excl 1 r)], [], 0⟩⟩)
noncomputable def lo6 (n : Nat) (st : St) : Tr (Ex × St) := match n with
  | 13 => tlo2 TT t106.runs (HSc 6) lp6 out6 out6t st
  | _ => .fail
noncomputable def f6t (why n m : Int) (d : ByteArray) (k : LK) (z : Nat) (l : Row) : Tr (AV × List Ent) := tfn TT t106 lo6 Go.Proofs.Tryd.f6 [anV why n m d k z l] []
noncomputable def R106 (a : List AV) (G : List Ent) : Option (AV × List Ent) := (tfn TT t106 lo6 Go.Proofs.Tryd.f6 a G).run
noncomputable def P106 := pureS R106
/-! ### Line, the document's -/
noncomputable def t107 : TOrc := tCons 17 (fun a G => tspec (oB G) (P17 a G)) (tCons 18 (fun a G => tspec (oS G) (P118 a G)) (tCons 19 (fun a G => tspec (oS G) (P10 a G)) tNone))
noncomputable def lp7 : Code := lpOf (codeOf Go.Proofs.Tryd.f7) 0
def inv7 (why n m : Int) (d : ByteArray) (k : LK) (z : Nat) (l : Row) (s : ByteArray) (i : Int) : St := ⟨mkT 0 85 [(1, .ptr (.loc 0) 0), (4, .dat (.str s)), (5, jn i)], ⟨[some (.obj [jn why, jn n, jn m, .dat (.str d), .dat (.list k z l)])], [], 0⟩⟩
noncomputable def rk7 (why n m : Int) (d : ByteArray) (k : LK) (z : Nat) (l : Row) (s : ByteArray) (i : Int) : Tr (Ex × St) := tround TT t107 noLo (HSc 7) lp7 (inv7 why n m d k z l s i)
def out7s (s : ByteArray) : Ex × St := (.exit 0, ⟨mkT 0 85 [(4, .dat (.str s))], ⟨[], [], 0⟩⟩)
noncomputable def lo7 (n : Nat) (st : St) : Tr (Ex × St) := match n with
  | 13 => tlo TT t107.runs (HSc 7) lp7 out7s st
  | _ => .fail
noncomputable def f7lt (why n m : Int) (d : ByteArray) (k : LK) (z : Nat) (l : Row) : Tr (AV × List Ent) := tfn TT t107 lo7 Go.Proofs.Tryd.f7 [anV why n m d k z l] []
noncomputable def R107 (a : List AV) (G : List Ent) : Option (AV × List Ent) := (tfn TT t107 lo7 Go.Proofs.Tryd.f7 a G).run
noncomputable def P107 := pureS R107
end Go.Eng
end

/- Answers as lines: numbers as texts, texts as numbers, lists alike. -/
section
namespace Go.Eng
open Go
set_option maxRecDepth 100000
set_option linter.unusedSimpArgs false

theorem rk34_eq (n : Int) (s : ByteArray) (i : Int) : (rk34 n s i).ev =
 (rAsk (decide (i < (20 : Int)))
 (rAsk (i == (0 : Int))
 (rAsk ((decide ((0 : Int) ≤ (Int.tmod n (10 : Int)))) && ((decide ((Int.tmod n (10 : Int)) ≤ (IntKind.wrap IntKind.u64 ((Int.tmod n (10 : Int)) + (1 : Int))))) && (decide ((IntKind.wrap IntKind.u64 ((Int.tmod n (10 : Int)) + (1 : Int))) ≤ (10 : Int)))))
 (rAsk (Nat.ble ((ByteArray.size (ByteArray.extract (ByteArray.mk (List.toArray [48, 49, 50, 51, 52, 53, 54, 55, 56, 57])) (Int.toNat (Int.tmod n (10 : Int))) (Int.toNat (IntKind.wrap IntKind.u64 ((Int.tmod n (10 : Int)) + (1 : Int)))))) + (ByteArray.size s)) 9223372036854775807)
 (some (Ex.norm, (St.mk (mkT 0 29 [(0, (AV.dat (D.int IntKind.u64 (IntKind.wrap IntKind.u64 (Int.tdiv n (10 : Int)))))), (3, (AV.dat (D.str ((ByteArray.extract (ByteArray.mk (List.toArray [48, 49, 50, 51, 52, 53, 54, 55, 56, 57])) (Int.toNat (Int.tmod n (10 : Int))) (Int.toNat (IntKind.wrap IntKind.u64 ((Int.tmod n (10 : Int)) + (1 : Int))))) ++ s)))), (4, (AV.dat (D.int IntKind.i64 (IntKind.wrap IntKind.i64 (i + (1 : Int))))))]) (Mem.mk [] [] 0))))
 none
 )
 none
 )
 (rAsk (decide (n > (0 : Int)))
 (rAsk ((decide ((0 : Int) ≤ (Int.tmod n (10 : Int)))) && ((decide ((Int.tmod n (10 : Int)) ≤ (IntKind.wrap IntKind.u64 ((Int.tmod n (10 : Int)) + (1 : Int))))) && (decide ((IntKind.wrap IntKind.u64 ((Int.tmod n (10 : Int)) + (1 : Int))) ≤ (10 : Int)))))
 (rAsk (Nat.ble ((ByteArray.size (ByteArray.extract (ByteArray.mk (List.toArray [48, 49, 50, 51, 52, 53, 54, 55, 56, 57])) (Int.toNat (Int.tmod n (10 : Int))) (Int.toNat (IntKind.wrap IntKind.u64 ((Int.tmod n (10 : Int)) + (1 : Int)))))) + (ByteArray.size s)) 9223372036854775807)
 (some (Ex.norm, (St.mk (mkT 0 29 [(0, (AV.dat (D.int IntKind.u64 (IntKind.wrap IntKind.u64 (Int.tdiv n (10 : Int)))))), (3, (AV.dat (D.str ((ByteArray.extract (ByteArray.mk (List.toArray [48, 49, 50, 51, 52, 53, 54, 55, 56, 57])) (Int.toNat (Int.tmod n (10 : Int))) (Int.toNat (IntKind.wrap IntKind.u64 ((Int.tmod n (10 : Int)) + (1 : Int))))) ++ s)))), (4, (AV.dat (D.int IntKind.i64 (IntKind.wrap IntKind.i64 (i + (1 : Int))))))]) (Mem.mk [] [] 0))))
 none
 )
 none
 )
 (some ((Ex.exit 0), (St.mk (mkT 0 29 [(3, (AV.dat (D.str s)))]) (Mem.mk [] [] 0))))
 )
 )
 (some ((Ex.exit 0), (St.mk (mkT 0 29 [(3, (AV.dat (D.str s)))]) (Mem.mk [] [] 0))))
 )
  := by kernel_rfl
theorem f34t_eq (n : Int) : (f34t n).ev =
 (rGet (loS TT (TOrc.runs tNone) (HSc 34) lp34 out34 (St.mk (mkT 0 29 [(0, (AV.dat (D.int IntKind.u64 n))), (3, (AV.dat (D.str (ByteArray.mk (List.toArray []))))), (4, (AV.dat (D.int IntKind.i64 (0 : Int))))]) (Mem.mk [] [] 0))) fun x1 =>
 (some ((AV.dat (D.str x1)), []))
 )
  := by kernel_rfl
theorem f18t_eq (n : Int) : (f18t n).ev =
 (rAsk (decide (n ≥ (0 : Int)))
 (rGet (fnS (fun (zs : ByteArray) => ((AV.dat (D.str zs)), [])) (P134 [(AV.dat (D.int IntKind.u64 (IntKind.wrap IntKind.u64 n)))] [])) fun x1 =>
 (some ((AV.dat (D.str x1)), []))
 )
 (rGet (fnS (fun (zs : ByteArray) => ((AV.dat (D.str zs)), [])) (P134 [(AV.dat (D.int IntKind.u64 (IntKind.wrap IntKind.u64 ((0 : Int) - (IntKind.wrap IntKind.u64 n)))))] [])) fun x2 =>
 (rAsk (Nat.ble (1 + (ByteArray.size x2)) 9223372036854775807)
 (some ((AV.dat (D.str ((ByteArray.mk (List.toArray [45])) ++ x2))), []))
 none
 )
 )
 )
  := by kernel_rfl
theorem g37t_eq (s : ByteArray) : (g37t s).ev =
 (rAsk (Option.isSome (fnS (fun (n : Int) => ((AV.tup [(AV.dat (D.int IntKind.i64 n)), AV.nili]), [])) (S51 [(AV.dat (D.str s)), (AV.dat (D.int IntKind.i64 (10 : Int))), (AV.dat (D.int IntKind.i64 (64 : Int)))] [])))
 (rGet (fnS (fun (n : Int) => ((AV.tup [(AV.dat (D.int IntKind.i64 n)), AV.nili]), [])) (S51 [(AV.dat (D.str s)), (AV.dat (D.int IntKind.i64 (10 : Int))), (AV.dat (D.int IntKind.i64 (64 : Int)))] [])) fun x1 =>
 (some ((AV.dat (D.int IntKind.i64 x1)), []))
 )
 (rGet (fnS (fun (n : Int) => ((AV.tup [(AV.dat (D.int IntKind.i64 n)), AV.err]), [])) (S51 [(AV.dat (D.str s)), (AV.dat (D.int IntKind.i64 (10 : Int))), (AV.dat (D.int IntKind.i64 (64 : Int)))] [])) fun _ =>
 (some ((AV.dat (D.int IntKind.i64 (0 : Int))), []))
 )
 )
  := by kernel_rfl
theorem rk22_eq (k k' : LK) (z z' : Nat) (l r : Row) (i : Int) : (rk22 k k' z z' l r i).ev =
 (rAsk (decide (i < (((List.length l) : Nat) : Int)))
 (rAsk ((decide (z = 1)) && ((decide ((0 : Int) ≤ i)) && (decide (i < (((List.length l) : Nat) : Int)))))
 (rGet l[(Int.toNat i)]? fun x1 =>
 (rGet (List.head? (List.drop 0 x1)) fun x2 =>
 (rAsk ((decide (z' = 1)) && ((decide ((0 : Int) ≤ i)) && (decide (i < (((List.length r) : Nat) : Int)))))
 (rGet r[(Int.toNat i)]? fun x3 =>
 (rGet (List.head? (List.drop 0 x3)) fun x4 =>
 (rGet (D.int? IntKind.i64 x2) fun x5 =>
 (rGet (D.int? IntKind.i64 x4) fun x6 =>
 (rAsk (x5 != x6)
 (some (Ex.ret, (St.mk (mkT 0 26 []) (Mem.mk [] [] 0))))
 (some (Ex.norm, (St.mk (mkT 0 26 [(0, (AV.dat (D.list k z l))), (1, (AV.dat (D.list k' z' r))), (5, (AV.dat (D.int IntKind.i64 (IntKind.wrap IntKind.i64 (i + (1 : Int))))))]) (Mem.mk [] [] 0))))
 )
 )
 )
 )
 )
 none
 )
 )
 )
 none
 )
 (some ((Ex.exit 0), (St.mk (mkT 0 26 []) (Mem.mk [] [] 0))))
 )
  := by kernel_rfl
theorem f22t_eq (k k' : LK) (z z' : Nat) (l r : Row) : (f22t k k' z z' l r).ev =
 (rAsk ((((List.length l) : Nat) : Int) != (((List.length r) : Nat) : Int))
 (some ((AV.dat (D.bool false)), []))
 (rGet (loS TT (TOrc.runs tNone) (HSc 22) lp22 out22 (St.mk (mkT 0 26 [(0, (AV.dat (D.list k z l))), (1, (AV.dat (D.list k' z' r))), (5, (AV.dat (D.int IntKind.i64 (0 : Int))))]) (Mem.mk [] [] 0))) fun _ =>
 (some ((AV.dat (D.bool true)), []))
 )
 )
  := by kernel_rfl
theorem out34_inj : ∀ x y, out34 x = out34 y → x = y := by
  intro x y h
  have h2 : (AV.dat (D.str x)) = AV.dat (D.str y) := congrArg (fun e : Ex × St => e.2.tmps.getD 3 .dead) h
  simpa using h2
theorem cut_all : (List.range 10).all (fun k => decide ((ByteArray.mk (List.toArray [48, 49, 50, 51, 52, 53, 54, 55, 56, 57])).extract k (k + 1) = ba [UInt8.ofNat (48 + k)])) = true := by kernel_rfl
theorem cut_at {k : Nat} (h : k < 10) : (ByteArray.mk (List.toArray [48, 49, 50, 51, 52, 53, 54, 55, 56, 57])).extract k (k + 1) = ba [UInt8.ofNat (48 + k)] :=
  of_decide_eq_true (List.all_eq_true.1 cut_all k (List.mem_range.2 h))
attribute [local irreducible] fnS loS tround
theorem go34 {n : Int} {s : ByteArray} {i : Int} {o} (h : (rk34 n s i).ev = o) : (tround TT tNone noLo (HSc 34) lp34 (inv34 n s i)).run = o := by
  rw [Tr.ev_run] at h
  exact h
theorem end34 {s : ByteArray} {i : Nat} (hi : 0 < i) : LoopTo TT tNone.runs (HSc 34) lp34 (inv34 0 s i) (out34 s) := by
  refine LoopTo.last (orc := tNone) (lo := noLo) (fun _ _ _ _ h => h) (LoOk2.no _) (go34 ?_) (by simp [out34])
  rw [rk34_eq]
  by_cases h : ((i : Nat) : Int) < 20
  · exact aT (decide_eq_true h) (aF (by rw [beq_eq_false_iff_ne]; omega) (aF rfl rfl))
  · exact aF (decide_eq_false h) rfl
theorem step34 {u i : Nat} {s : List UInt8} (hu : u < 18446744073709551616) (hi : i < 20) (h : i = 0 ∨ 0 < u) (hs : s.length ≤ 1000) :
    (tround TT tNone noLo (HSc 34) lp34 (inv34 u (ba s) i)).run = some (.norm, inv34 ((u / 10 : Nat) : Int) (ba (UInt8.ofNat (48 + u % 10) :: s)) ((i + 1 : Nat) : Int)) := by
  refine go34 ?_
  rw [rk34_eq]
  have e1 : Int.tmod ((u : Nat) : Int) 10 = ((u % 10 : Nat) : Int) := rfl
  have e2 : Int.tdiv ((u : Nat) : Int) 10 = ((u / 10 : Nat) : Int) := rfl
  have hm : u % 10 < 10 := Nat.mod_lt _ (by omega)
  have e3 : IntKind.wrap IntKind.u64 (((u % 10 : Nat) : Int) + 1) = ((u % 10 + 1 : Nat) : Int) := by rw [wU64]; omega
  have e4 : IntKind.wrap IntKind.u64 ((u / 10 : Nat) : Int) = ((u / 10 : Nat) : Int) := by rw [wU64]; omega
  rw [e1, e2, e3, e4, w64 (n := i + 1) (by omega) (x := ((i : Nat) : Int) + 1) (by omega), Int.toNat_natCast, Int.toNat_natCast, cut_at hm, ba_app, ba_sz, ba_sz]
  have hin : ((decide ((0 : Int) ≤ ((u % 10 : Nat) : Int))) && ((decide (((u % 10 : Nat) : Int) ≤ ((u % 10 + 1 : Nat) : Int))) && (decide (((u % 10 + 1 : Nat) : Int) ≤ (10 : Int))))) = true := by
    simp only [Bool.and_eq_true, decide_eq_true_eq]
    omega
  refine aT (by rw [decide_eq_true_eq]; omega) ?_
  have fin : ∀ o, (rAsk ((decide ((0 : Int) ≤ ((u % 10 : Nat) : Int))) && ((decide (((u % 10 : Nat) : Int) ≤ ((u % 10 + 1 : Nat) : Int))) && (decide (((u % 10 + 1 : Nat) : Int) ≤ (10 : Int)))))
      (rAsk (Nat.ble ([UInt8.ofNat (48 + u % 10)].length + s.length) 9223372036854775807) (some o) none) none) = some (o : Ex × St) := fun o =>
    aT hin (aT (Nat.ble_eq_true_of_le (by simp only [List.length_singleton]; omega)) rfl)
  by_cases h0 : i = 0
  · subst h0
    exact aT rfl (fin _)
  · refine aF (by rw [beq_eq_false_iff_ne]; omega) (aT (by rw [decide_eq_true_eq]; omega) (fin _))
theorem loop34 : ∀ (k u i : Nat) (s : List UInt8), u < 10 ^ (k + 1) → u < 18446744073709551616 → i + k + 1 ≤ 20 → (i = 0 ∨ 0 < u) → s.length + k ≤ 900 →
    LoopTo TT tNone.runs (HSc 34) lp34 (inv34 u (ba s) i) (out34 (ba (Go.Lib.decDigits u ++ s)))
  | 0, u, i, s, hk, hu, hi, h, hs => by
    have hlt : u < 10 := by simpa using hk
    have st := step34 (s := s) hu (by omega) h (by omega)
    rw [show u / 10 = 0 by omega, show u % 10 = u by omega] at st
    rw [dec_small hlt]
    exact LoopTo.more (orc := tNone) (lo := noLo) (fun _ _ _ _ h => h) (LoOk2.no _) st (end34 (by omega))
  | k + 1, u, i, s, hk, hu, hi, h, hs => by
    have st := step34 (s := s) hu (by omega) h (by omega)
    by_cases hlt : u < 10
    · rw [show u / 10 = 0 by omega, show u % 10 = u by omega] at st
      rw [dec_small hlt]
      exact LoopTo.more (orc := tNone) (lo := noLo) (fun _ _ _ _ h => h) (LoOk2.no _) st (end34 (by omega))
    · have ih := loop34 k (u / 10) (i + 1) (UInt8.ofNat (48 + u % 10) :: s) (by rw [Nat.pow_succ] at hk; omega) (by omega) (by omega) (.inr (by omega)) (by rw [List.length_cons]; omega)
      rw [dec_big hlt, List.append_assoc]
      exact LoopTo.more (orc := tNone) (lo := noLo) (fun _ _ _ _ h => h) (LoOk2.no _) st ih
theorem p134 {u : Nat} (hu : u < 18446744073709551616) (G : List Ent) : P134 [.dat (.int .u64 u)] G = some (oS G (ba (Go.Lib.decDigits u))) := by
  have key : ∀ o, (f34t u).ev = o → R134 [.dat (.int .u64 u)] [] = o := fun o h => by
    rw [Tr.ev_run] at h
    exact h
  have hl := loop34 19 u 0 [] (by omega) hu (by omega) (.inl rfl) (by simp)
  rw [List.append_nil] at hl
  unfold P134
  refine pureS_eq (G0 := []) rfl (key _ ?_) rfl
  rw [f34t_eq]
  exact gStep (loS_eq (out := out34) out34_inj hl) rfl
attribute [local irreducible] P134
theorem p118 {v : Int} (h : fit64 v) (G : List Ent) : P118 [.dat (.int .i64 v)] G = some (oS G (ba (Go.Lib.itoa v))) := by
  obtain ⟨h0, h1⟩ := h
  have key : ∀ o, (f18t v).ev = o → R118 [.dat (.int .i64 v)] [] = o := fun o h => by
    rw [Tr.ev_run] at h
    exact h
  unfold P118
  refine pureS_eq (G0 := []) rfl (key _ ?_) rfl
  rw [f18t_eq]
  by_cases hn : v < 0
  · obtain ⟨u, hu⟩ : ∃ u : Nat, v = -(u : Int) := ⟨v.natAbs, by omega⟩
    subst hu
    have e : IntKind.wrap IntKind.u64 ((0 : Int) - (IntKind.wrap IntKind.u64 (-(u : Int)))) = ((u : Nat) : Int) := by rw [wU64, wU64]; omega
    have hd := dec_len_lt 18 u (by omega)
    rw [e, Go.Lib.itoa_neg u (by omega)]
    refine aF (by rw [decide_eq_false_iff_not]; omega) (gStep (fnS_eq (out := oS []) oS_inj (p134 (u := u) (by omega) [])) ?_)
    rw [ba_sz]
    refine aT (Nat.ble_eq_true_of_le (by omega)) ?_
    rw [show ByteArray.mk (List.toArray [45]) = ba [45] from rfl, ba_app]
    rfl
  · obtain ⟨u, hu⟩ : ∃ u : Nat, v = (u : Int) := ⟨v.toNat, by omega⟩
    subst hu
    have e : IntKind.wrap IntKind.u64 ((u : Nat) : Int) = ((u : Nat) : Int) := by rw [wU64]; omega
    rw [e, Go.Lib.itoa_nonneg u]
    exact aT (by rw [decide_eq_true_eq]; omega) (gStep (fnS_eq (out := oS []) oS_inj (p134 (u := u) (by omega) [])) rfl)
theorem oAo_injW {G : List Ent} : ∀ x y, oAo G x = oAo G y → x = y := by intro x y h; simpa [oAo, jn] using h
theorem oAe_injW {G : List Ent} : ∀ x y, oAe G x = oAe G y → x = y := by intro x y h; simpa [oAe, jn] using h
theorem oAo_noW {G : List Ent} {y : Int} : ∀ x, oAo G x ≠ oAe G y := fun x h => by simp [oAo, oAe] at h
theorem p137 {w : List UInt8} (h : w.length ≤ 3000) (G : List Ent) : P137 [.dat (.str (ba w))] G = some (oI G (numP w)) := by
  have key : ∀ o, (g37t (ba w)).ev = o → R137 [.dat (.str (ba w))] [] = o := fun o h => by
    rw [Tr.ev_run] at h
    exact h
  unfold P137
  refine pureS_eq (G0 := []) rfl (key _ ?_) rfl
  rw [g37t_eq]
  have hc : True ∧ True ∧ (ba w).size ≤ 281474976710656 := ⟨trivial, trivial, by rw [ba_sz]; omega⟩
  have hd : (ba w).data.toList = w := rfl
  unfold numP
  cases ha : Go.Lib.atoiAll w with
  | ok v =>
    have e : S51 [.dat (.str (ba w)), .dat (.int .i64 10), .dat (.int .i64 64)] [] = some (oAo [] v) := by
      simp only [S51, sParseA]
      rw [if_pos hc, hd, ha]
      rfl
    exact aT (fnS_yes (o1 := oAo []) oAo_injW e) (gStep (fnS_eq (out := oAo []) oAo_injW e) rfl)
  | _ =>
    first
      | (have e : S51 [.dat (.str (ba w)), .dat (.int .i64 10), .dat (.int .i64 64)] [] = some (oAe [] 0) := by
          simp only [S51, sParseA]
          rw [if_pos hc, hd, ha]
          rfl
         exact aF (fnS_no e oAo_noW) (gStep (fnS_eq (out := oAe []) oAe_injW e) rfl))
      | (have e : S51 [.dat (.str (ba w)), .dat (.int .i64 10), .dat (.int .i64 64)] [] = some (oAe [] (Go.Lib.atoiSat w)) := by
          simp only [S51, sParseA]
          rw [if_pos hc, hd, ha]
          rfl
         exact aF (fnS_no e oAo_noW) (gStep (fnS_eq (out := oAe []) oAe_injW e) rfl))
/-! ### lists alike -/
theorem encI_len (l : List Int) : (encI l).length = l.length := by simp [encI]
theorem encI_at (pre : List Int) (v : Int) (l : List Int) : (encI (pre ++ v :: l))[Int.toNat ((pre.length : Nat) : Int)]? = some [.int .i64 v] := by
  rw [Int.toNat_natCast, encI, List.getElem?_map]
  simp
theorem out22_inj : ∀ x y, out22 x = out22 y → x = y := fun _ _ _ => rfl
theorem go22 {k k' : LK} {z z' : Nat} {l r : Row} {i : Int} {o} (h : (rk22 k k' z z' l r i).ev = o) : (tround TT tNone noLo (HSc 22) lp22 (inv22 k k' z z' l r i)).run = o := by
  rw [Tr.ev_run] at h
  exact h
theorem loop22 {k k' : LK} {z z' : Nat} : ∀ (l pre : List Int), (pre ++ l).length ≤ 1000 → (pre ++ l ≠ [] → z = 1 ∧ z' = 1) →
    LoopTo TT tNone.runs (HSc 22) lp22 (inv22 k k' z z' (encI (pre ++ l)) (encI (pre ++ l)) pre.length) (out22 ())
  | [], pre, _, _ => by
    refine LoopTo.last (orc := tNone) (lo := noLo) (fun _ _ _ _ h => h) (LoOk2.no _) (go22 ?_) (by simp [out22])
    rw [rk22_eq]
    exact aF (by rw [decide_eq_false_iff_not, encI_len, List.append_nil]; omega) rfl
  | v :: l, pre, h, hz => by
    obtain ⟨hz1, hz2⟩ := hz (by simp)
    have hlen : (encI (pre ++ v :: l)).length = pre.length + l.length + 1 := by
      rw [encI_len, List.length_append, List.length_cons]; omega
    have hl := h
    rw [List.length_append, List.length_cons] at hl
    have hb : ∀ y : Nat, y = 1 → ((decide (y = 1)) && ((decide ((0 : Int) ≤ ((pre.length : Nat) : Int))) && (decide (((pre.length : Nat) : Int) < (((encI (pre ++ v :: l)).length : Nat) : Int))))) = true := by
      intro y hy
      rw [Bool.and_eq_true, Bool.and_eq_true, decide_eq_true_eq, decide_eq_true_eq, decide_eq_true_eq]
      omega
    have hat := encI_at pre v l
    have step : (tround TT tNone noLo (HSc 22) lp22 (inv22 k k' z z' (encI (pre ++ v :: l)) (encI (pre ++ v :: l)) pre.length)).run = some (.norm, inv22 k k' z z' (encI (pre ++ v :: l)) (encI (pre ++ v :: l)) ((pre.length + 1 : Nat) : Int)) := by
      refine go22 ?_
      rw [rk22_eq, w64 (n := pre.length + 1) (by omega) (x := ((pre.length : Nat) : Int) + 1) (by omega)]
      exact aT (by rw [decide_eq_true_eq]; omega) (aT (hb z hz1) (gStep hat (gStep rfl (aT (hb z' hz2) (gStep hat (gStep rfl (gStep (x := v) rfl (gStep (x := v) rfl (aF (by simp) rfl)))))))))
    have ih := loop22 (k := k) (k' := k') (z := z) (z' := z') l (pre ++ [v]) (by simpa using h) (fun _ => ⟨hz1, hz2⟩)
    rw [show pre ++ [v] ++ l = pre ++ v :: l by simp, show List.length (pre ++ [v]) = pre.length + 1 by simp] at ih
    exact LoopTo.more (orc := tNone) (lo := noLo) (fun _ _ _ _ h => h) (LoOk2.no _) step ih
theorem p122 {k k' : LK} {z z' : Nat} {l : List Int} (h : l.length ≤ 1000) (hz : l ≠ [] → z = 1 ∧ z' = 1) (G : List Ent) : P122 [.dat (.list k z (encI l)), .dat (.list k' z' (encI l))] G = some (oB G true) := by
  have key : ∀ o, (f22t k k' z z' (encI l) (encI l)).ev = o → R122 [.dat (.list k z (encI l)), .dat (.list k' z' (encI l))] [] = o := fun o h => by
    rw [Tr.ev_run] at h
    exact h
  have hl := loop22 (k := k) (k' := k') (z := z) (z' := z') l [] (by simpa using h) (by simpa using hz)
  unfold P122
  refine pureS_eq (G0 := []) rfl (key _ ?_) rfl
  rw [f22t_eq]
  exact aF (by simp) (gStep (loS_eq (out := out22) out22_inj hl) rfl)
end Go.Eng
end

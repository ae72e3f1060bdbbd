/- Dice: known; the rolls as trees. -/
import Derived.Test.YtkconbpjimjbnabDf18
import Derived.Test.YtkconbpjimjbnabDf19
import Derived.Test.YtkconbpjimjbnabDf10
import Derived.Test.YtkconbpjimjbnabDf7
import Derived.Test.YtkconbpjimjbnabDf6
section
namespace Go.Eng
open Go
set_option maxRecDepth 100000

def hOfS (l : List (Nat × List Nat)) (n : Nat) : List Nat := (l.lookup n).getD []

/-- what is kept at each loop's head, by liveness; the ranges over functions by hand -/
noncomputable def HH (f n : Nat) : List Nat := if n = 3000000 then (if f = 15 then [10060007, 10060019] else []) else match FT f with
  | some fn => ((liveF fn).lookup n).getD []
  | none => []
/-! ### strings.Repeat, by the shelf's contract -/
noncomputable def S70 : Spec := fun xs G => match xs with
  | [.dat (.str s), .dat (.int .i64 n)] => if 0 ≤ n ∧ n ≤ 9223372036854775807 ∧ s.size * n.toNat ≤ 140737488355328 then some (.dat (.str ⟨(Go.Lib.repeatL s.data.toList n.toNat).toArray⟩), G) else none
  | _ => none
theorem c70 : COk Go.Proofs.Try.prog 70 S70 := by
  refine COk.below ⟨_, Go.Proofs.Try.func70, by kernel_rfl, by kernel_rfl⟩ fun c xs G vs r G' hs hv => ?_
  unfold S70 at hs
  split at hs
  · rename_i s n
    split at hs
    · rename_i hc
      simp only [Option.some.injEq, Prod.mk.injEq] at hs
      obtain ⟨rfl, rfl⟩ := hs
      refine ⟨rfl, _, _, rfl, fun w lv => .str _, ?_⟩
      obtain ⟨l⟩ := vs
      match l, hv with
      | [v0, v1], hv =>
        obtain ⟨⟨h0, _⟩, ⟨h1, _⟩, _⟩ := hv
        cases h0 with
        | dat h0 =>
          cases h0 with
          | str =>
            cases h1 with
            | dat h1 =>
              cases h1 with
              | int =>
                have := Go.Proofs.Try.strings_Repeat s n.toNat c.w (by omega) hc.2.2
                rw [show ((n.toNat : Nat) : Int) = n from Int.toNat_of_nonneg hc.1] at this
                exact this
    · cases hs
  · cases hs

noncomputable def o70 : Orc := fun f => if f = 70 then S70 else fun _ _ => none
theorem o70_ok : ∀ f, COk Go.Proofs.Try.prog f (o70 f) := fun f => by
  unfold o70
  split
  · rename_i h
    subst h
    exact c70
  · exact COk.nothing fun _ _ => rfl

noncomputable def R11 (a : List AV) (G : List Ent) : Option (AV × List Ent) := orcY FT TT 300 HH [70] o70 14 11 a G
theorem c11 : COk Go.Proofs.Try.prog 11 R11 := orcY_ok (K := 300) (H := HH) TT_ok (FT := FT) (fun _ _ h => FT_ok h) o70_ok 14 11
noncomputable def R47 (a : List AV) (G : List Ent) : Option (AV × List Ent) := orcY FT TT 300 HH [70] o70 8 47 a G
theorem c47 : COk Go.Proofs.Try.prog 47 R47 := orcY_ok (K := 300) (H := HH) TT_ok (FT := FT) (fun _ _ h => FT_ok h) o70_ok 8 47
noncomputable def R25 (a : List AV) (G : List Ent) : Option (AV × List Ent) := orcY FT TT 300 HH [70] o70 8 25 a G
theorem c25 : COk Go.Proofs.Try.prog 25 R25 := orcY_ok (K := 300) (H := HH) TT_ok (FT := FT) (fun _ _ h => FT_ok h) o70_ok 8 25

theorem fill0 : (R47 [.dat (.int .u8 0)] []).map (·.1) = some (.dat (.str ⟨(List.replicate 64 0).toArray⟩)) := by kernel_rfl
theorem fill0' : (R25 [.dat (.int .u8 0)] []).map (·.1) = some (.dat (.str ⟨(List.replicate 64 0).toArray⟩)) := by kernel_rfl
theorem known_ev : (orcY FT TT 300 HH [70] o70 14 11 [] []).map (·.1) = some (.dat (.bool true)) := by kernel_rfl

theorem FT_fine {f : Nat} {fn : Func} (h : FT f = some fn) : Go.Proofs.Try.prog.funcs[f]? = some fn ∧ (fn.name == "runtime.NumGoroutine") = false ∧ nodupN ((loops (codeOf fn)).map firstRegion) = true := by
  have h2 := BT.get_all (BT.all_ok (q := fun _ fn => !(fn.name == "runtime.NumGoroutine") && nodupN ((loops (codeOf fn)).map firstRegion)) (show FTree.all (fun _ fn => !(fn.name == "runtime.NumGoroutine") && nodupN ((loops (codeOf fn)).map firstRegion)) = true by kernel_rfl)) h
  simp only [Bool.and_eq_true, Bool.not_eq_true'] at h2
  exact ⟨FT_ok h, h2.1, h2.2⟩

def oT (G : List Ent) (_ : Unit) : AV × List Ent := (.dat (.bool true), G)
theorem oT_inj {G : List Ent} : ∀ x y, oT G x = oT G y → x = y := fun _ _ _ => rfl
noncomputable def P11 := pureS R11
theorem p11 {G : List Ent} : P11 [] G = some (oT G ()) := by
  have := known_ev
  have h : ∃ G', R11 [] [] = some (.dat (.bool true), G') := by
    unfold R11
    cases ho : orcY FT TT 300 HH [70] o70 14 11 [] [] with
    | none => rw [ho] at this; cases this
    | some r =>
      rw [ho] at this
      simp only [Option.map_some, Option.some.injEq] at this
      exact ⟨r.2, by rw [← this]⟩
  obtain ⟨G', h⟩ := h
  exact pureS_eq rfl h rfl
end Go.Eng
end

/- Dice: a roll, as trees. -/
section
namespace Go.Eng
open Go

def HSd (f : Nat) : Nat → List Nat := match f with
  | 3 => hOfS [(4, [1, 5, 6, 7]), (1000004, [4])]
  | _ => fun _ => []
/-- all inlined -/
noncomputable def tQ (f : Nat) (a : List AV) (G : List Ent) : Tr (AV × List Ent) := tinU FT TT HSd 6 [] tNone 3 f a G
theorem tQ_ok (f : Nat) : COk Go.Proofs.Try.prog f (fun a G => (tQ f a G).run) := tinU_ok TT_ok (FT := FT) (fun _ _ h => FT_fine h) (HS := HSd) (fuel := 6) (base := []) TOk.nil 3 f
noncomputable def R9 (a : List AV) (G : List Ent) : Option (AV × List Ent) := (tQ 9 a G).run
noncomputable def R10 (a : List AV) (G : List Ent) : Option (AV × List Ent) := (tQ 10 a G).run
noncomputable def m9 (x b : Int) (R : List Ent) : Tr (AV × List Ent) := tQ 9 [.ptr (.glob 0) 0, .dat (.int .i64 b)] (.obj [.dat (.int .u64 x)] :: R)
noncomputable def m10a (x b : Int) (R : List Ent) : Tr (AV × List Ent) := tQ 10 [.ptr (.glob 0) 0, .dat (.int .i64 b)] (.obj [.dat (.int .u64 x)] :: R)
noncomputable def m10b (e : Ent) (x b : Int) (R : List Ent) : Tr (AV × List Ent) := tQ 10 [.ptr (.glob 1) 0, .dat (.int .i64 b)] (e :: .obj [.dat (.int .u64 x)] :: R)
def ptrI (a : List AV) : Nat := match a with
  | .ptr (.glob g) _ :: _ => g
  | _ => 0
def oRoll (a : List AV) (G : List Ent) (p : Int × Int) : AV × List Ent := (.dat (.int .i64 p.1), G.set (ptrI a) (.obj [.dat (.int .u64 p.2)]))

/-- known, the rolls by their results, all else inlined -/
noncomputable def tP : TOrc := tCons 11 (fun a G => tspec (oT G) (P11 a G)) (tCons 9 (fun a G => tspec (oRoll a G) (R9 a G)) (tCons 10 (fun a G => tspec (oRoll a G) (R10 a G)) tNone))
theorem tP_ok : TOk Go.Proofs.Try.prog tP := TOk.cons (COk.spec (out := fun _ G => oT G) c11.pure) (TOk.cons (COk.spec (out := fun a G => oRoll a G) (tQ_ok 9)) (TOk.cons (COk.spec (out := fun a G => oRoll a G) (tQ_ok 10)) TOk.nil))
noncomputable def tR : TOrc := tinU FT TT HSd 6 [11, 9, 10] tP 3
theorem tR_ok : TOk Go.Proofs.Try.prog tR := tinU_ok TT_ok (FT := FT) (fun _ _ h => FT_fine h) (HS := HSd) (fuel := 6) (base := [11, 9, 10]) tP_ok 3

noncomputable def lp3 : Code := lpOf (codeOf Go.Proofs.Try.f3) 0
def inv3a (x y : Int) (k : LK) (xs : Row) (i : Int) : St := ⟨mkT 0 37 [(1, .dat (.list k 1 xs)), (5, .ptr (.glob 0) 0), (6, .ptr (.loc 0) 0), (7, .dat (.int .i64 i))], ⟨[some (.obj [.dat (.int .u64 y)])], [.obj [.dat (.int .u64 x)]], 0⟩⟩
noncomputable def rk3a (x y : Int) (k : LK) (xs : Row) (i : Int) : Tr (Ex × St) := tround TT tR noLo (HSd 3) lp3 (inv3a x y k xs i)
def inv3b (x y : Int) (k : LK) (xs : Row) (i : Int) : St := ⟨mkT 0 37 [(1, .dat (.list k 1 xs)), (5, .ptr (.glob 0) 0), (6, .ptr (.glob 1) 0), (7, .dat (.int .i64 i))], ⟨[], [.obj [.dat (.int .u64 x)], .obj [.dat (.int .u64 y)]], 0⟩⟩
noncomputable def rk3b (x y : Int) (k : LK) (xs : Row) (i : Int) : Tr (Ex × St) := tround TT tR noLo (HSd 3) lp3 (inv3b x y k xs i)
def out3 (G : List Ent) : Ex × St := (.exit 0, ⟨mkT 0 37 [], ⟨[], G, 0⟩⟩)
noncomputable def lo3 (n : Nat) (st : St) : Tr (Ex × St) := match n with
  | 4 => tlo TT tR.runs (HSd 3) lp3 out3 st
  | _ => .fail
noncomputable def f3t (x : Int) (k : LK) (xs : Row) : Tr (AV × List Ent) := tfn TT tR lo3 Go.Proofs.Try.f3 [.dat (.int .u64 x), .dat (.list k 1 xs)] []
end Go.Eng
end

/- Dice: what a roll comes to; DrillRolls and DrillNil answer true. -/
section
namespace Go.Eng
open Go
set_option maxRecDepth 100000
set_option linter.unusedSimpArgs false

theorem m9_eq (x b : Int) (R : List Ent) : (m9 x b R).ev =
  (rAsk (decide (b < (1 : Int)))
   (some ((AV.dat (D.int IntKind.i64 (0 : Int))), ((Ent.obj [(AV.dat (D.int IntKind.u64 x))]) :: R)))
   (rAsk (decide (b > (2147483648 : Int)))
    (some ((AV.dat (D.int IntKind.i64 (0 : Int))), ((Ent.obj [(AV.dat (D.int IntKind.u64 x))]) :: R)))
    (rAsk (!(decide (b = (0 : Int))))
     (some ((AV.dat (D.int IntKind.i64 (Int.tmod (IntKind.wrap IntKind.i64 (Int.fdiv (IntKind.wrap IntKind.u64 ((IntKind.wrap IntKind.u64 (x * (6364136223846793005 : Int))) + (1442695040888963407 : Int))) (8589934592 : Int))) b))), ((Ent.obj [(AV.dat (D.int IntKind.u64 (IntKind.wrap IntKind.u64 ((IntKind.wrap IntKind.u64 (x * (6364136223846793005 : Int))) + (1442695040888963407 : Int)))))]) :: R)))
     none
    )
   )
  )
  := by kernel_rfl

theorem m10a_eq (x b : Int) (R : List Ent) : (m10a x b R).ev =
  (rAsk (decide (b < (1 : Int)))
   (some ((AV.dat (D.int IntKind.i64 (0 : Int))), ((Ent.obj [(AV.dat (D.int IntKind.u64 x))]) :: R)))
   (rAsk (decide (b > (2147483648 : Int)))
    (some ((AV.dat (D.int IntKind.i64 (0 : Int))), ((Ent.obj [(AV.dat (D.int IntKind.u64 x))]) :: R)))
    (rAsk (!(decide ((IntKind.wrap IntKind.u64 b) = (0 : Int))))
     (some ((AV.dat (D.int IntKind.i64 (IntKind.wrap IntKind.i64 (Int.tmod (Int.fdiv (IntKind.wrap IntKind.u64 ((IntKind.wrap IntKind.u64 (x * (6364136223846793005 : Int))) + (1442695040888963407 : Int))) (8589934592 : Int)) (IntKind.wrap IntKind.u64 b))))), ((Ent.obj [(AV.dat (D.int IntKind.u64 (IntKind.wrap IntKind.u64 ((IntKind.wrap IntKind.u64 (x * (6364136223846793005 : Int))) + (1442695040888963407 : Int)))))]) :: R)))
     none
    )
   )
  )
  := by kernel_rfl

theorem m10b_eq (e : Ent) (x b : Int) (R : List Ent) : (m10b e x b R).ev =
  (rAsk (decide (b < (1 : Int)))
   (some ((AV.dat (D.int IntKind.i64 (0 : Int))), (e :: (Ent.obj [(AV.dat (D.int IntKind.u64 x))]) :: R)))
   (rAsk (decide (b > (2147483648 : Int)))
    (some ((AV.dat (D.int IntKind.i64 (0 : Int))), (e :: (Ent.obj [(AV.dat (D.int IntKind.u64 x))]) :: R)))
    (rAsk (!(decide ((IntKind.wrap IntKind.u64 b) = (0 : Int))))
     (some ((AV.dat (D.int IntKind.i64 (IntKind.wrap IntKind.i64 (Int.tmod (Int.fdiv (IntKind.wrap IntKind.u64 ((IntKind.wrap IntKind.u64 (x * (6364136223846793005 : Int))) + (1442695040888963407 : Int))) (8589934592 : Int)) (IntKind.wrap IntKind.u64 b))))), (e :: (Ent.obj [(AV.dat (D.int IntKind.u64 (IntKind.wrap IntKind.u64 ((IntKind.wrap IntKind.u64 (x * (6364136223846793005 : Int))) + (1442695040888963407 : Int)))))]) :: R)))
     none
    )
   )
  )
  := by kernel_rfl

theorem rk3a_eq (x y : Int) (k : LK) (xs : Row) (i : Int) : (rk3a x y k xs i).ev =
  (rAsk (decide (i < (((List.length xs) : Nat) : Int)))
   (rAsk (decide (i < (100 : Int)))
    (rAsk (true && ((decide ((0 : Int) ≤ i)) && (decide (i < (((List.length xs) : Nat) : Int)))))
     (rGet xs[(Int.toNat i)]? fun x1 =>
      (rGet (List.head? (List.drop 0 x1)) fun x2 =>
       (rGet (fnS (fun (p : Int × Int) => ((AV.dat (D.int IntKind.i64 p.1)), [(Ent.obj [(AV.dat (D.int IntKind.u64 p.2))])])) (R9 [(AV.ptr (Ref.glob 0) 0), (AV.dat x2)] [(Ent.obj [(AV.dat (D.int IntKind.u64 x))])])) fun x3 =>
        (rAsk (true && ((decide ((0 : Int) ≤ i)) && (decide (i < (((List.length xs) : Nat) : Int)))))
         (rGet xs[(Int.toNat i)]? fun x4 =>
          (rGet (List.head? (List.drop 0 x4)) fun x5 =>
           (rGet (fnS (fun (p : Int × Int) => ((AV.dat (D.int IntKind.i64 p.1)), [(Ent.obj [(AV.dat (D.int IntKind.u64 x3.2))]), (Ent.obj [(AV.dat (D.int IntKind.u64 p.2))])])) (R10 [(AV.ptr (Ref.glob 1) 0), (AV.dat x5)] [(Ent.obj [(AV.dat (D.int IntKind.u64 x3.2))]), (Ent.obj [(AV.dat (D.int IntKind.u64 y))])])) fun x6 =>
            (rAsk (x3.1 != x6.1)
             (some (Ex.ret, (St.mk (mkT 0 37 [(4, (AV.dat (D.bool false)))]) (Mem.mk [] [(Ent.obj [(AV.dat (D.int IntKind.u64 x3.2))]), (Ent.obj [(AV.dat (D.int IntKind.u64 x6.2))])] 0))))
             (some (Ex.norm, (St.mk (mkT 0 37 [(1, (AV.dat (D.list k 1 xs))), (5, (AV.ptr (Ref.glob 0) 0)), (6, (AV.ptr (Ref.glob 1) 0)), (7, (AV.dat (D.int IntKind.i64 (IntKind.wrap IntKind.i64 (i + (1 : Int))))))]) (Mem.mk [] [(Ent.obj [(AV.dat (D.int IntKind.u64 x3.2))]), (Ent.obj [(AV.dat (D.int IntKind.u64 x6.2))])] 0))))
            )
           )
          )
         )
         none
        )
       )
      )
     )
     none
    )
    (some ((Ex.exit 0), (St.mk (mkT 0 37 []) (Mem.mk [] [(Ent.obj [(AV.dat (D.int IntKind.u64 x))])] 0))))
   )
   (some ((Ex.exit 0), (St.mk (mkT 0 37 []) (Mem.mk [] [(Ent.obj [(AV.dat (D.int IntKind.u64 x))])] 0))))
  )
  := by kernel_rfl

theorem rk3b_eq (x y : Int) (k : LK) (xs : Row) (i : Int) : (rk3b x y k xs i).ev =
  (rAsk (decide (i < (((List.length xs) : Nat) : Int)))
   (rAsk (decide (i < (100 : Int)))
    (rAsk (true && ((decide ((0 : Int) ≤ i)) && (decide (i < (((List.length xs) : Nat) : Int)))))
     (rGet xs[(Int.toNat i)]? fun x1 =>
      (rGet (List.head? (List.drop 0 x1)) fun x2 =>
       (rGet (fnS (fun (p : Int × Int) => ((AV.dat (D.int IntKind.i64 p.1)), [(Ent.obj [(AV.dat (D.int IntKind.u64 p.2))]), (Ent.obj [(AV.dat (D.int IntKind.u64 y))])])) (R9 [(AV.ptr (Ref.glob 0) 0), (AV.dat x2)] [(Ent.obj [(AV.dat (D.int IntKind.u64 x))]), (Ent.obj [(AV.dat (D.int IntKind.u64 y))])])) fun x3 =>
        (rAsk (true && ((decide ((0 : Int) ≤ i)) && (decide (i < (((List.length xs) : Nat) : Int)))))
         (rGet xs[(Int.toNat i)]? fun x4 =>
          (rGet (List.head? (List.drop 0 x4)) fun x5 =>
           (rGet (fnS (fun (p : Int × Int) => ((AV.dat (D.int IntKind.i64 p.1)), [(Ent.obj [(AV.dat (D.int IntKind.u64 x3.2))]), (Ent.obj [(AV.dat (D.int IntKind.u64 p.2))])])) (R10 [(AV.ptr (Ref.glob 1) 0), (AV.dat x5)] [(Ent.obj [(AV.dat (D.int IntKind.u64 x3.2))]), (Ent.obj [(AV.dat (D.int IntKind.u64 y))])])) fun x6 =>
            (rAsk (x3.1 != x6.1)
             (some (Ex.ret, (St.mk (mkT 0 37 [(4, (AV.dat (D.bool false)))]) (Mem.mk [] [(Ent.obj [(AV.dat (D.int IntKind.u64 x3.2))]), (Ent.obj [(AV.dat (D.int IntKind.u64 x6.2))])] 0))))
             (some (Ex.norm, (St.mk (mkT 0 37 [(1, (AV.dat (D.list k 1 xs))), (5, (AV.ptr (Ref.glob 0) 0)), (6, (AV.ptr (Ref.glob 1) 0)), (7, (AV.dat (D.int IntKind.i64 (IntKind.wrap IntKind.i64 (i + (1 : Int))))))]) (Mem.mk [] [(Ent.obj [(AV.dat (D.int IntKind.u64 x3.2))]), (Ent.obj [(AV.dat (D.int IntKind.u64 x6.2))])] 0))))
            )
           )
          )
         )
         none
        )
       )
      )
     )
     none
    )
    (some ((Ex.exit 0), (St.mk (mkT 0 37 []) (Mem.mk [] [(Ent.obj [(AV.dat (D.int IntKind.u64 x))]), (Ent.obj [(AV.dat (D.int IntKind.u64 y))])] 0))))
   )
   (some ((Ex.exit 0), (St.mk (mkT 0 37 []) (Mem.mk [] [(Ent.obj [(AV.dat (D.int IntKind.u64 x))]), (Ent.obj [(AV.dat (D.int IntKind.u64 y))])] 0))))
  )
  := by kernel_rfl

theorem f3t_eq (x : Int) (k : LK) (xs : Row) : (f3t x k xs).ev =
  (rGet (loS TT (TOrc.runs tR) (HSd 3) lp3 out3 (St.mk (mkT 0 37 [(1, (AV.dat (D.list k 1 xs))), (5, (AV.ptr (Ref.glob 0) 0)), (6, (AV.ptr (Ref.loc 0) 0)), (7, (AV.dat (D.int IntKind.i64 (0 : Int))))]) (Mem.mk [(Option.some (Ent.obj [(AV.dat (D.int IntKind.u64 x))]))] [(Ent.obj [(AV.dat (D.int IntKind.u64 x))])] 0))) fun x1 =>
   (rGet (fnS (fun (x : Unit) => ((AV.dat (D.bool true)), x1)) (P11 [] x1)) fun x2 =>
    (some ((AV.dat (D.bool true)), x1))
   )
  )
  := by kernel_rfl

/-- the next number -/
def nx (x : Int) : Int := IntKind.wrap .u64 (IntKind.wrap .u64 (x * 6364136223846793005) + 1442695040888963407)
theorem nx_in (x : Int) : 0 ≤ nx x ∧ nx x < 18446744073709551616 := by
  unfold nx
  generalize IntKind.wrap .u64 (x * 6364136223846793005) + 1442695040888963407 = z
  rw [wU64]
  omega
/-- a roll: what it is, and what the dice are then -/
def roll (x b : Int) : Int × Int := if 1 ≤ b ∧ b ≤ 2147483648 then (nx x / 8589934592 % b, nx x) else (0, x)

theorem roll_fd (x : Int) : Int.fdiv (nx x) 8589934592 = nx x / 8589934592 := by rw [Int.fdiv_eq_ediv_of_nonneg _ (by omega)]
theorem roll_v (x b : Int) (h : 1 ≤ b) : Int.tmod (IntKind.wrap .i64 (Int.fdiv (nx x) 8589934592)) b = nx x / 8589934592 % b := by
  have := nx_in x
  rw [roll_fd, IntWalk.i64_in _ (by omega), Int.tmod_eq_emod_of_nonneg (by omega)]
theorem roll_w (x b : Int) (h : 1 ≤ b) (h2 : b ≤ 2147483648) : IntKind.wrap .i64 (Int.tmod (Int.fdiv (nx x) 8589934592) (IntKind.wrap .u64 b)) = nx x / 8589934592 % b := by
  have := nx_in x
  have hm : 0 ≤ nx x / 8589934592 % b ∧ nx x / 8589934592 % b < b := ⟨Int.emod_nonneg _ (by omega), Int.emod_lt_of_pos _ (by omega)⟩
  rw [roll_fd, IntWalk.u64_in b (by omega), Int.tmod_eq_emod_of_nonneg (by omega), IntWalk.i64_in _ (by omega)]

theorem c9 {x b : Int} {R : List Ent} : R9 [.ptr (.glob 0) 0, .dat (.int .i64 b)] (.obj [.dat (.int .u64 x)] :: R) = some (oRoll [.ptr (.glob 0) 0, .dat (.int .i64 b)] (.obj [.dat (.int .u64 x)] :: R) (roll x b)) := by
  show (m9 x b R).run = _
  rw [← Tr.ev_run, m9_eq]
  unfold roll
  by_cases h1 : 1 ≤ b
  case neg => rw [if_neg (by omega)]; exact aT (by rw [decide_eq_true_eq]; omega) rfl
  refine aF (by rw [decide_eq_false_iff_not]; omega) ?_
  by_cases h2 : b ≤ 2147483648
  case neg => rw [if_neg (by omega)]; exact aT (by rw [decide_eq_true_eq]; omega) rfl
  refine aF (by rw [decide_eq_false_iff_not]; omega) (aT (by simp; omega) ?_)
  rw [if_pos ⟨h1, h2⟩, ← roll_v x b h1]
  rfl
theorem c10a {x b : Int} {R : List Ent} : R10 [.ptr (.glob 0) 0, .dat (.int .i64 b)] (.obj [.dat (.int .u64 x)] :: R) = some (oRoll [.ptr (.glob 0) 0, .dat (.int .i64 b)] (.obj [.dat (.int .u64 x)] :: R) (roll x b)) := by
  show (m10a x b R).run = _
  rw [← Tr.ev_run, m10a_eq]
  unfold roll
  by_cases h1 : 1 ≤ b
  case neg => rw [if_neg (by omega)]; exact aT (by rw [decide_eq_true_eq]; omega) rfl
  refine aF (by rw [decide_eq_false_iff_not]; omega) ?_
  by_cases h2 : b ≤ 2147483648
  case neg => rw [if_neg (by omega)]; exact aT (by rw [decide_eq_true_eq]; omega) rfl
  refine aF (by rw [decide_eq_false_iff_not]; omega) (aT (by rw [IntWalk.u64_in b (by omega)]; simp; omega) ?_)
  rw [if_pos ⟨h1, h2⟩, ← roll_w x b h1 h2]
  rfl
theorem c10b {e : Ent} {x b : Int} {R : List Ent} : R10 [.ptr (.glob 1) 0, .dat (.int .i64 b)] (e :: .obj [.dat (.int .u64 x)] :: R) = some (oRoll [.ptr (.glob 1) 0, .dat (.int .i64 b)] (e :: .obj [.dat (.int .u64 x)] :: R) (roll x b)) := by
  show (m10b e x b R).run = _
  rw [← Tr.ev_run, m10b_eq]
  unfold roll
  by_cases h1 : 1 ≤ b
  case neg => rw [if_neg (by omega)]; exact aT (by rw [decide_eq_true_eq]; omega) rfl
  refine aF (by rw [decide_eq_false_iff_not]; omega) ?_
  by_cases h2 : b ≤ 2147483648
  case neg => rw [if_neg (by omega)]; exact aT (by rw [decide_eq_true_eq]; omega) rfl
  refine aF (by rw [decide_eq_false_iff_not]; omega) (aT (by rw [IntWalk.u64_in b (by omega)]; simp; omega) ?_)
  rw [if_pos ⟨h1, h2⟩, ← roll_w x b h1 h2]
  rfl

theorem oRoll_inj0 {x : Int} {b : AV} {R : List Ent} : ∀ p q, oRoll [.ptr (.glob 0) 0, b] (.obj [.dat (.int .u64 x)] :: R) p = oRoll [.ptr (.glob 0) 0, b] (.obj [.dat (.int .u64 x)] :: R) q → p = q := by
  rintro ⟨a, b⟩ ⟨c, d⟩ h
  simp [oRoll, ptrI] at h
  obtain ⟨rfl, rfl⟩ := h
  rfl
theorem oRoll_inj1 {e : Ent} {x : Int} {b : AV} {R : List Ent} : ∀ p q, oRoll [.ptr (.glob 1) 0, b] (e :: .obj [.dat (.int .u64 x)] :: R) p = oRoll [.ptr (.glob 1) 0, b] (e :: .obj [.dat (.int .u64 x)] :: R) q → p = q := by
  rintro ⟨a, b⟩ ⟨c, d⟩ h
  simp [oRoll, ptrI] at h
  obtain ⟨rfl, rfl⟩ := h
  rfl

attribute [local irreducible] fnS loS R9 R10 P11

/-- a roll, as a step along a tree -/
theorem g9 {x b : Int} {R : List Ent} : fnS (oRoll [.ptr (.glob 0) 0, .dat (.int .i64 b)] (.obj [.dat (.int .u64 x)] :: R)) (R9 [.ptr (.glob 0) 0, .dat (.int .i64 b)] (.obj [.dat (.int .u64 x)] :: R)) = some (roll x b) := fnS_eq oRoll_inj0 c9
theorem g10a {x b : Int} {R : List Ent} : fnS (oRoll [.ptr (.glob 0) 0, .dat (.int .i64 b)] (.obj [.dat (.int .u64 x)] :: R)) (R10 [.ptr (.glob 0) 0, .dat (.int .i64 b)] (.obj [.dat (.int .u64 x)] :: R)) = some (roll x b) := fnS_eq oRoll_inj0 c10a
theorem g10b {e : Ent} {x b : Int} {R : List Ent} : fnS (oRoll [.ptr (.glob 1) 0, .dat (.int .i64 b)] (e :: .obj [.dat (.int .u64 x)] :: R)) (R10 [.ptr (.glob 1) 0, .dat (.int .i64 b)] (e :: .obj [.dat (.int .u64 x)] :: R)) = some (roll x b) := fnS_eq oRoll_inj1 c10b

/-! ### DrillRolls -/
/-- whole numbers, as a row -/
def iRow (l : List Int) : Row := l.map fun n => [D.int .i64 n]

theorem loop3b {k : LK} {l : List Int} : ∀ (d i : Nat) (x : Int), i + d = min l.length 100 → ∃ y, LoopTo TT tR.runs (HSd 3) lp3 (inv3b x x k (iRow l) i) (out3 [.obj [.dat (.int .u64 y)], .obj [.dat (.int .u64 y)]])
  | 0, i, x, h => by
    refine ⟨x, LoopTo.last (orc := tR) (lo := noLo) (fun _ _ _ _ h => h) (LoOk2.no _) ?_ (by simp [out3])⟩
    show (rk3b x x k (iRow l) i).run = _
    rw [← Tr.ev_run, rk3b_eq]
    by_cases h1 : i < l.length
    · exact aT (by simpa [iRow] using h1) (aF (by rw [decide_eq_false_iff_not]; omega) rfl)
    · exact aF (by simpa [iRow] using h1) rfl
  | d + 1, i, x, h => by
    have h1 : i < l.length := by omega
    have hlen : (iRow l).length = l.length := by simp [iRow]
    have hx : (iRow l)[Int.toNat (i : Int)]? = some [D.int .i64 l[i]] := by rw [Int.toNat_natCast]; simp [iRow, h1]
    have hw : IntKind.wrap .i64 ((i : Int) + 1) = ((i + 1 : Nat) : Int) := by rw [IntKind.wrap_i64]; omega
    have step : (rk3b x x k (iRow l) i).run = some (.norm, inv3b (roll x l[i]).2 (roll x l[i]).2 k (iRow l) ((i + 1 : Nat) : Int)) := by
      rw [← Tr.ev_run, rk3b_eq]
      refine aT (by rw [hlen, decide_eq_true_eq]; omega) (aT (by rw [decide_eq_true_eq]; omega) (aT (by rw [hlen]; simp; omega) (gStep hx (gStep rfl (gStep g9 ?_)))))
      refine aT (by rw [hlen]; simp; omega) (gStep hx (gStep rfl (gStep g10b (aF (by simp) ?_))))
      rw [hw]
      rfl
    obtain ⟨y, ih⟩ := loop3b (k := k) (l := l) d (i + 1) (roll x l[i]).2 (by omega)
    exact ⟨y, LoopTo.more (orc := tR) (lo := noLo) (fun _ _ _ _ h => h) (LoOk2.no _) step ih⟩

theorem loop3a {k : LK} {l : List Int} {x : Int} : ∃ G, LoopTo TT tR.runs (HSd 3) lp3 (inv3a x x k (iRow l) 0) (out3 G) := by
  cases l with
  | nil =>
    refine ⟨[.obj [.dat (.int .u64 x)]], LoopTo.last (orc := tR) (lo := noLo) (fun _ _ _ _ h => h) (LoOk2.no _) ?_ (by simp [out3])⟩
    show (rk3a x x k (iRow []) 0).run = _
    rw [← Tr.ev_run, rk3a_eq]
    exact aF (by simp [iRow]) rfl
  | cons b l =>
    have step : (rk3a x x k (iRow (b :: l)) 0).run = some (.norm, inv3b (roll x b).2 (roll x b).2 k (iRow (b :: l)) ((1 : Nat) : Int)) := by
      rw [← Tr.ev_run, rk3a_eq]
      have hlt : (0 : Int) < (((iRow (b :: l)).length : Nat) : Int) := by simp [iRow]
      refine aT (by rw [decide_eq_true_eq]; exact hlt) (aT rfl (aT (by rw [Bool.true_and, Bool.and_eq_true, decide_eq_true_eq, decide_eq_true_eq]; exact ⟨by omega, hlt⟩) (gStep (x := [D.int .i64 b]) rfl (gStep rfl (gStep g9 ?_)))))
      refine aT (by rw [Bool.true_and, Bool.and_eq_true, decide_eq_true_eq, decide_eq_true_eq]; exact ⟨by omega, hlt⟩) (gStep (x := [D.int .i64 b]) rfl (gStep rfl (gStep g10b (aF (by simp) ?_))))
      rfl
    obtain ⟨y, ih⟩ := loop3b (k := k) (l := b :: l) (min (b :: l).length 100 - 1) 1 (roll x b).2 (by simp; omega)
    exact ⟨_, LoopTo.more (orc := tR) (lo := noLo) (fun _ _ _ _ h => h) (LoOk2.no _) step ih⟩

theorem out3_inj : ∀ x y, out3 x = out3 y → x = y := by
  intro x y h
  simp [out3] at h
  exact h

theorem f3_run {x : Int} {k : LK} {l : List Int} : ∃ G', (f3t x k (iRow l)).run = some (.dat (.bool true), G') := by
  obtain ⟨G, hp⟩ := loop3a (k := k) (l := l) (x := x)
  refine ⟨G, ?_⟩
  rw [← Tr.ev_run, f3t_eq]
  exact gStep (loS_eq out3_inj hp) (gStep (fnS_eq (out := oT G) oT_inj p11) rfl)

end Go.Eng
end

/- Steps that are rolled: the functions as trees. -/
section
namespace Go.Eng
open Go

def jnt (k : IntKind) (n : Int) : AV := .dat (.int k n)
/-- a step -/
structure Stp where
  kind : Int
  node : Int
  at' : Int
  n : Int
  data : ByteArray
  stop : Int
  keep : List Bool

def stpz (k nd at' n : Int) (s : ByteArray) (p : Int) (kk : LK) (sz : Nat) (ks : Row) : AV := .agg [jnt .i64 k, jnt .i64 nd, jnt .i64 at', jnt .i64 n, .dat (.str s), jnt .i64 p, .dat (.list kk sz ks)]
def oB (G : List Ent) (b : Bool) : AV × List Ent := (.dat (.bool b), G)
theorem oB_inj {G : List Ent} : ∀ x y, oB G x = oB G y → x = y := by intro x y h; simpa [oB] using h
def oS (G : List Ent) (s : ByteArray) : AV × List Ent := (.dat (.str s), G)
theorem oS_inj {G : List Ent} : ∀ x y, oS G x = oS G y → x = y := by intro x y h; simpa [oS] using h
def HSt (f : Nat) : Nat → List Nat := match f with
  | 12 => hOfS [(4, [2, 3, 5]), (1000004, [4])]
  | 17 => hOfS [(4, [0, 1, 5]), (1000004, [4])]
  | _ => fun _ => []

/-! ### Same, Steps -/
noncomputable def lp12 : Code := lpOf (codeOf Go.Proofs.Try.f12) 0
def inv12 (k nd at' n : Int) (s : ByteArray) (p : Int) (kk : LK) (sz : Nat) (ks : Row) (k' nd' at'' n' : Int) (s' : ByteArray) (p' : Int) (kk' : LK) (sz' : Nat) (ks' : Row) (G : List Ent) (i : Int) : St :=
  ⟨mkT 0 73 [(2, .ptr (.loc 0) 0), (3, .ptr (.loc 1) 0), (5, jnt .i64 i)], ⟨[some (.obj [jnt .i64 k, jnt .i64 nd, jnt .i64 at', jnt .i64 n, .dat (.str s), jnt .i64 p, .dat (.list kk sz ks)]), some (.obj [jnt .i64 k', jnt .i64 nd', jnt .i64 at'', jnt .i64 n', .dat (.str s'), jnt .i64 p', .dat (.list kk' sz' ks')])], G, 0⟩⟩
noncomputable def rk12 (k nd at' n : Int) (s : ByteArray) (p : Int) (kk : LK) (sz : Nat) (ks : Row) (k' nd' at'' n' : Int) (s' : ByteArray) (p' : Int) (kk' : LK) (sz' : Nat) (ks' : Row) (G : List Ent) (i : Int) : Tr (Ex × St) :=
  tround TT tNone noLo (HSt 12) lp12 (inv12 k nd at' n s p kk sz ks k' nd' at'' n' s' p' kk' sz' ks' G i)
def out12 (G : List Ent) (b : Bool) : Ex × St :=
  match b with
  | true => (.exit 0, ⟨mkT 0 73 [], ⟨[], G, 0⟩⟩)
  | false => (.ret, ⟨mkT 0 73 [(4, .dat (.bool false))], ⟨[], G, 0⟩⟩)
noncomputable def lo12 (n : Nat) (st : St) : Tr (Ex × St) := match n with
  | 4 => tloB TT tNone.runs (HSt 12) lp12 (out12 st.mem.G) st
  | _ => .fail
noncomputable def f12t (k nd at' n : Int) (s : ByteArray) (p : Int) (kk : LK) (sz : Nat) (ks : Row) (k' nd' at'' n' : Int) (s' : ByteArray) (p' : Int) (kk' : LK) (sz' : Nat) (ks' : Row) (G : List Ent) : Tr (AV × List Ent) :=
  tfn TT tNone lo12 Go.Proofs.Try.f12 [stpz k nd at' n s p kk sz ks, stpz k' nd' at'' n' s' p' kk' sz' ks'] G
noncomputable def R12 (a : List AV) (G : List Ent) : Option (AV × List Ent) := (tfn TT tNone lo12 Go.Proofs.Try.f12 a G).run
noncomputable def P12 := pureS R12
noncomputable def lp17 : Code := lpOf (codeOf Go.Proofs.Try.f17) 0
noncomputable def t17 : TOrc := tCons 12 (fun a G => tspec (oB G) (P12 a G)) tNone
def inv17 (sz : Nat) (k : LK) (xs : Row) (sz' : Nat) (k' : LK) (ys : Row) (G : List Ent) (i : Int) : St := ⟨mkT 0 27 [(0, .dat (.list k sz xs)), (1, .dat (.list k' sz' ys)), (5, .dat (.int .i64 i))], ⟨[], G, 0⟩⟩
noncomputable def rk17 (sz : Nat) (k : LK) (xs : Row) (sz' : Nat) (k' : LK) (ys : Row) (G : List Ent) (i : Int) : Tr (Ex × St) := tround TT t17 noLo (HSt 17) lp17 (inv17 sz k xs sz' k' ys G i)
def out17 (G : List Ent) (b : Bool) : Ex × St := match b with
  | true => (.exit 0, ⟨mkT 0 27 [], ⟨[], G, 0⟩⟩)
  | false => (.ret, ⟨mkT 0 27 [(4, .dat (.bool false))], ⟨[], G, 0⟩⟩)
noncomputable def lo17 (n : Nat) (st : St) : Tr (Ex × St) := match n with
  | 4 => tloB TT t17.runs (HSt 17) lp17 (out17 st.mem.G) st
  | _ => .fail
noncomputable def f17t (sz : Nat) (k : LK) (xs : Row) (sz' : Nat) (k' : LK) (ys : Row) (G : List Ent) : Tr (AV × List Ent) := tfn TT t17 lo17 Go.Proofs.Try.f17 [.dat (.list k sz xs), .dat (.list k' sz' ys)] G
noncomputable def R17 (a : List AV) (G : List Ent) : Option (AV × List Ent) := (tfn TT t17 lo17 Go.Proofs.Try.f17 a G).run

/-! ### Step -/
noncomputable def P47 := pureS R47
noncomputable def P25 := pureS R25
noncomputable def tF : TOrc := tCons 9 (fun a G => tspec (oRoll a G) (R9 a G)) (tCons 10 (fun a G => tspec (oRoll a G) (R10 a G)) (tCons 47 (fun a G => tspec (oS G) (P47 a G)) (tCons 25 (fun a G => tspec (oS G) (P25 a G)) tNone)))
theorem tF_ok : TOk Go.Proofs.Try.prog tF := TOk.cons (COk.spec (out := fun a G => oRoll a G) (tQ_ok 9)) (TOk.cons (COk.spec (out := fun a G => oRoll a G) (tQ_ok 10)) (TOk.cons (COk.spec (out := fun _ G => oS G) c47.pure) (TOk.cons (COk.spec (out := fun _ G => oS G) c25.pure) TOk.nil)))
noncomputable def tS : TOrc := tinU FT TT HH 6 [9, 10, 47, 25] tF 4
theorem tS_ok : TOk Go.Proofs.Try.prog tS := tinU_ok TT_ok (FT := FT) (fun _ _ h => FT_fine h) (HS := HH) (fuel := 6) (base := [9, 10, 47, 25]) tF_ok 4
noncomputable def R13 (a : List AV) (G : List Ent) : Option (AV × List Ent) := (tS 13 a G).run
noncomputable def R14 (a : List AV) (G : List Ent) : Option (AV × List Ent) := (tS 14 a G).run
noncomputable def m13 (x : Int) (R : List Ent) : Tr (AV × List Ent) := tS 13 [.ptr (.glob 0) 0] (.obj [.dat (.int .u64 x)] :: R)
noncomputable def m14a (x : Int) (R : List Ent) : Tr (AV × List Ent) := tS 14 [.ptr (.glob 0) 0] (.obj [.dat (.int .u64 x)] :: R)
noncomputable def m14b (e : Ent) (x : Int) (R : List Ent) : Tr (AV × List Ent) := tS 14 [.ptr (.glob 1) 0] (e :: .obj [.dat (.int .u64 x)] :: R)
/-- a step, and the dice behind it -/
def oStep (a : List AV) (G : List Ent) (p : Int × Int × Int × Int × ByteArray × Int × D × Int) : AV × List Ent :=
  (.agg [.dat (.int .i64 p.1), .dat (.int .i64 p.2.1), .dat (.int .i64 p.2.2.1), .dat (.int .i64 p.2.2.2.1), .dat (.str p.2.2.2.2.1), .dat (.int .i64 p.2.2.2.2.2.1), .dat p.2.2.2.2.2.2.1], G.set (ptrI a) (.obj [.dat (.int .u64 p.2.2.2.2.2.2.2)]))
end Go.Eng
end

/- Same and Steps: what they come to. -/
section
namespace Go.Eng
open Go
set_option maxRecDepth 100000
set_option linter.unusedSimpArgs false

theorem rk12_eq (k nd at' n : Int) (s : ByteArray) (p : Int) (kk : LK) (sz : Nat) (ks : Row) (k' nd' at'' n' : Int) (s' : ByteArray) (p' : Int) (kk' : LK) (sz' : Nat) (ks' : Row) (G : List Ent) (i : Int) : (rk12 k nd at' n s p kk sz ks k' nd' at'' n' s' p' kk' sz' ks' G i).ev =
  (rAsk (decide (i < (((List.length ks) : Nat) : Int)))
   (rAsk ((decide (sz = 1)) && ((decide ((0 : Int) ≤ i)) && (decide (i < (((List.length ks) : Nat) : Int)))))
    (rGet ks[(Int.toNat i)]? fun x1 =>
     (rGet (List.head? (List.drop 0 x1)) fun x2 =>
      (rAsk ((decide (sz' = 1)) && ((decide ((0 : Int) ≤ i)) && (decide (i < (((List.length ks') : Nat) : Int)))))
       (rGet ks'[(Int.toNat i)]? fun x3 =>
        (rGet (List.head? (List.drop 0 x3)) fun x4 =>
         (rGet (D.bool? x2) fun x5 =>
          (rGet (D.bool? x4) fun x6 =>
           (rAsk (!(x5 == x6))
            (some (Ex.ret, (St.mk (mkT 0 73 [(4, (AV.dat (D.bool false)))]) (Mem.mk [] G 0))))
            (some (Ex.norm, (St.mk (mkT 0 73 [(2, (AV.ptr (Ref.loc 0) 0)), (3, (AV.ptr (Ref.loc 1) 0)), (5, (AV.dat (D.int IntKind.i64 (IntKind.wrap IntKind.i64 (i + (1 : Int))))))]) (Mem.mk [(Option.some (Ent.obj [(AV.dat (D.int IntKind.i64 k)), (AV.dat (D.int IntKind.i64 nd)), (AV.dat (D.int IntKind.i64 at')), (AV.dat (D.int IntKind.i64 n)), (AV.dat (D.str s)), (AV.dat (D.int IntKind.i64 p)), (AV.dat (D.list kk sz ks))])), (Option.some (Ent.obj [(AV.dat (D.int IntKind.i64 k')), (AV.dat (D.int IntKind.i64 nd')), (AV.dat (D.int IntKind.i64 at'')), (AV.dat (D.int IntKind.i64 n')), (AV.dat (D.str s')), (AV.dat (D.int IntKind.i64 p')), (AV.dat (D.list kk' sz' ks'))]))] G 0))))
           )
          )
         )
        )
       )
       none
      )
     )
    )
    none
   )
   (some ((Ex.exit 0), (St.mk (mkT 0 73 []) (Mem.mk [] G 0))))
  )
  := by kernel_rfl

theorem f12t_eq (k nd at' n : Int) (s : ByteArray) (p : Int) (kk : LK) (sz : Nat) (ks : Row) (k' nd' at'' n' : Int) (s' : ByteArray) (p' : Int) (kk' : LK) (sz' : Nat) (ks' : Row) (G : List Ent) : (f12t k nd at' n s p kk sz ks k' nd' at'' n' s' p' kk' sz' ks' G).ev =
  (rAsk (k != k')
   (some ((AV.dat (D.bool false)), G))
   (rAsk (nd != nd')
    (some ((AV.dat (D.bool false)), G))
    (rAsk (at' != at'')
     (some ((AV.dat (D.bool false)), G))
     (rAsk (n != n')
      (some ((AV.dat (D.bool false)), G))
      (rAsk (!((ByteArray.toList s) == (ByteArray.toList s')))
       (some ((AV.dat (D.bool false)), G))
       (rAsk (p != p')
        (some ((AV.dat (D.bool false)), G))
        (rAsk ((((List.length ks) : Nat) : Int) != (((List.length ks') : Nat) : Int))
         (some ((AV.dat (D.bool false)), G))
         (rGet (loS TT (TOrc.runs tNone) (HSt 12) lp12 (out12 G) (St.mk (mkT 0 73 [(2, (AV.ptr (Ref.loc 0) 0)), (3, (AV.ptr (Ref.loc 1) 0)), (5, (AV.dat (D.int IntKind.i64 (0 : Int))))]) (Mem.mk [(Option.some (Ent.obj [(AV.dat (D.int IntKind.i64 k)), (AV.dat (D.int IntKind.i64 nd)), (AV.dat (D.int IntKind.i64 at')), (AV.dat (D.int IntKind.i64 n)), (AV.dat (D.str s)), (AV.dat (D.int IntKind.i64 p)), (AV.dat (D.list kk sz ks))])), (Option.some (Ent.obj [(AV.dat (D.int IntKind.i64 k')), (AV.dat (D.int IntKind.i64 nd')), (AV.dat (D.int IntKind.i64 at'')), (AV.dat (D.int IntKind.i64 n')), (AV.dat (D.str s')), (AV.dat (D.int IntKind.i64 p')), (AV.dat (D.list kk' sz' ks'))]))] G 0))) fun x1 =>
          (rAsk x1
           (some ((AV.dat (D.bool true)), G))
           (some ((AV.dat (D.bool false)), G))
          )
         )
        )
       )
      )
     )
    )
   )
  )
  := by kernel_rfl

theorem rk17_eq (sz : Nat) (k : LK) (xs : Row) (sz' : Nat) (k' : LK) (ys : Row) (G : List Ent) (i : Int) : (rk17 sz k xs sz' k' ys G i).ev =
  (rAsk (decide (i < (((List.length xs) : Nat) : Int)))
   (rAsk ((decide (sz = 7)) && ((decide ((0 : Int) ≤ i)) && (decide (i < (((List.length xs) : Nat) : Int)))))
    (rGet xs[(Int.toNat i)]? fun x1 =>
     (rGet (List.head? (List.drop 0 x1)) fun x2 =>
      (rGet (List.head? (List.tail (List.drop 0 x1))) fun x3 =>
       (rGet (List.head? (List.tail (List.tail (List.drop 0 x1)))) fun x4 =>
        (rGet (List.head? (List.tail (List.tail (List.tail (List.drop 0 x1))))) fun x5 =>
         (rGet (List.head? (List.tail (List.tail (List.tail (List.tail (List.drop 0 x1)))))) fun x6 =>
          (rGet (List.head? (List.tail (List.tail (List.tail (List.tail (List.tail (List.drop 0 x1))))))) fun x7 =>
           (rGet (List.head? (List.tail (List.tail (List.tail (List.tail (List.tail (List.tail (List.drop 0 x1)))))))) fun x8 =>
            (rAsk ((decide (sz' = 7)) && ((decide ((0 : Int) ≤ i)) && (decide (i < (((List.length ys) : Nat) : Int)))))
             (rGet ys[(Int.toNat i)]? fun x9 =>
              (rGet (List.head? (List.drop 0 x9)) fun x10 =>
               (rGet (List.head? (List.tail (List.drop 0 x9))) fun x11 =>
                (rGet (List.head? (List.tail (List.tail (List.drop 0 x9)))) fun x12 =>
                 (rGet (List.head? (List.tail (List.tail (List.tail (List.drop 0 x9))))) fun x13 =>
                  (rGet (List.head? (List.tail (List.tail (List.tail (List.tail (List.drop 0 x9)))))) fun x14 =>
                   (rGet (List.head? (List.tail (List.tail (List.tail (List.tail (List.tail (List.drop 0 x9))))))) fun x15 =>
                    (rGet (List.head? (List.tail (List.tail (List.tail (List.tail (List.tail (List.tail (List.drop 0 x9)))))))) fun x16 =>
                     (rGet (fnS (fun (b : Bool) => ((AV.dat (D.bool b)), G)) (P12 [(AV.agg [(AV.dat x2), (AV.dat x3), (AV.dat x4), (AV.dat x5), (AV.dat x6), (AV.dat x7), (AV.dat x8)]), (AV.agg [(AV.dat x10), (AV.dat x11), (AV.dat x12), (AV.dat x13), (AV.dat x14), (AV.dat x15), (AV.dat x16)])] G)) fun x17 =>
                      (rAsk (!x17)
                       (some (Ex.ret, (St.mk (mkT 0 27 [(4, (AV.dat (D.bool false)))]) (Mem.mk [] G 0))))
                       (some (Ex.norm, (St.mk (mkT 0 27 [(0, (AV.dat (D.list k sz xs))), (1, (AV.dat (D.list k' sz' ys))), (5, (AV.dat (D.int IntKind.i64 (IntKind.wrap IntKind.i64 (i + (1 : Int))))))]) (Mem.mk [] G 0))))
                      )
                     )
                    )
                   )
                  )
                 )
                )
               )
              )
             )
             none
            )
           )
          )
         )
        )
       )
      )
     )
    )
    none
   )
   (some ((Ex.exit 0), (St.mk (mkT 0 27 []) (Mem.mk [] G 0))))
  )
  := by kernel_rfl

theorem f17t_eq (sz : Nat) (k : LK) (xs : Row) (sz' : Nat) (k' : LK) (ys : Row) (G : List Ent) : (f17t sz k xs sz' k' ys G).ev =
  (rAsk ((((List.length xs) : Nat) : Int) != (((List.length ys) : Nat) : Int))
   (some ((AV.dat (D.bool false)), G))
   (rGet (loS TT (TOrc.runs t17) (HSt 17) lp17 (out17 G) (St.mk (mkT 0 27 [(0, (AV.dat (D.list k sz xs))), (1, (AV.dat (D.list k' sz' ys))), (5, (AV.dat (D.int IntKind.i64 (0 : Int))))]) (Mem.mk [] G 0))) fun x1 =>
    (rAsk x1
     (some ((AV.dat (D.bool true)), G))
     (some ((AV.dat (D.bool false)), G))
    )
   )
  )
  := by kernel_rfl

/-! ### steps as data -/
/-- truths, as a list holds them -/
def KeepD (l : List Bool) (d : D) : Prop := (d = .list .nil 0 [] ∧ l = []) ∨ (d = .list .any 1 (tRow l) ∧ l ≠ [])
def stpD (s : Stp) (d : D) : List D := [.int .i64 s.kind, .int .i64 s.node, .int .i64 s.at', .int .i64 s.n, .str s.data, .int .i64 s.stop, d]
def KD (l : List Bool) (d : D) : Prop := ∃ kk sz, d = .list kk sz (tRow l) ∧ (l ≠ [] → sz = 1)
/-- a list of steps, as a row -/
def SR (ss : List Stp) (xs : Row) : Prop := xs.length = ss.length ∧ ∀ i, (h : i < ss.length) → ∃ d, KD ss[i].keep d ∧ xs[i]? = some (stpD ss[i] d)
/-- so, and no list is nil -/
def SR1 (ss : List Stp) (xs : Row) : Prop := xs.length = ss.length ∧ ∀ i, (h : i < ss.length) → ∃ kk, xs[i]? = some (stpD ss[i] (.list kk 1 (tRow ss[i].keep)))

theorem KeepD.kd {l : List Bool} {d : D} (h : KeepD l d) : KD l d := by
  rcases h with ⟨rfl, rfl⟩ | ⟨rfl, h⟩
  · exact ⟨.nil, 0, rfl, fun h => absurd rfl h⟩
  · exact ⟨.any, 1, rfl, fun _ => rfl⟩

theorem SR1.sr {ss : List Stp} {xs : Row} (h : SR1 ss xs) : SR ss xs := by
  refine ⟨h.1, fun i hi => ?_⟩
  obtain ⟨kk, hk⟩ := h.2 i hi
  exact ⟨_, ⟨kk, 1, rfl, fun _ => rfl⟩, hk⟩

theorem SR.nil : SR [] [] := ⟨rfl, fun i h => absurd h (by simp)⟩

theorem SR.snoc {ss : List Stp} {xs : Row} {s : Stp} {d : D} (h : SR ss xs) (hd : KD s.keep d) : SR (ss ++ [s]) (xs ++ [stpD s d]) := by
  refine ⟨by simp [h.1], fun i hi => ?_⟩
  rcases Nat.lt_or_ge i ss.length with h1 | h1
  · obtain ⟨d', h2, h3⟩ := h.2 i h1
    have e : (ss ++ [s])[i] = ss[i] := List.getElem_append_left h1
    rw [e, List.getElem?_append_left (by rw [h.1]; exact h1)]
    exact ⟨d', h2, h3⟩
  · have : i = ss.length := by simp at hi; omega
    subst this
    have e : (ss ++ [s])[ss.length] = s := by simp
    rw [e, List.getElem?_append_right (by rw [h.1]; omega)]
    exact ⟨d, hd, by simp [h.1]⟩

theorem SR.get {ss : List Stp} {xs : Row} {pre ts : List Stp} {s : Stp} (h : SR ss xs) (e : ss = pre ++ s :: ts) : ∃ kk sz, (s.keep ≠ [] → sz = 1) ∧ xs[pre.length]? = some (stpD s (.list kk sz (tRow s.keep))) := by
  subst e
  obtain ⟨d, ⟨kk, sz, rfl, hz⟩, h2⟩ := h.2 pre.length (by simp)
  have e : (pre ++ s :: ts)[pre.length]'(by simp) = s := by simp
  rw [e] at hz h2
  exact ⟨kk, sz, hz, h2⟩

theorem wI1 {α : Type} {pre : List α} {s : α} (h : pre.length ≤ 1000) : IntKind.wrap .i64 ((pre.length : Int) + 1) = (((pre ++ [s]).length : Nat) : Int) := by
  rw [IntKind.wrap_i64, List.length_append, List.length_singleton]; omega

theorem out12_n {G : List Ent} : ∀ x, (out12 G x).1 ≠ .norm := by intro x; cases x <;> simp [out12]
theorem out12_inj {G : List Ent} : ∀ x y, out12 G x = out12 G y → x = y := by
  intro x y h
  cases x <;> cases y <;> first | rfl | (simp [out12] at h)
theorem out17_inj {G : List Ent} : ∀ x y, out17 G x = out17 G y → x = y := by
  intro x y h
  cases x <;> cases y <;> first | rfl | (simp [out17] at h)
/-- are two steps alike? -/
def sameS (k nd at' n : Int) (s : ByteArray) (p : Int) (a : List Bool) (k' nd' at'' n' : Int) (s' : ByteArray) (p' : Int) (b : List Bool) : Bool :=
  decide (k = k' ∧ nd = nd' ∧ at' = at'' ∧ n = n' ∧ s.toList = s'.toList ∧ p = p' ∧ a = b)
theorem sameS_self {k nd at' n : Int} {s : ByteArray} {p : Int} {a : List Bool} : sameS k nd at' n s p a k nd at' n s p a = true := by simp [sameS]

theorem loop12 {sz sz' : Nat} {k nd at' n : Int} {s : ByteArray} {p : Int} {kk : LK} {a : List Bool} {k' nd' at'' n' : Int} {s' : ByteArray} {p' : Int} {kk' : LK} {b : List Bool} {G : List Ent} (hab : a.length = b.length) (hm : a.length ≤ maxLen) (hz : a ≠ [] → sz = 1) (hz' : b ≠ [] → sz' = 1) :
    LoopTo TT tNone.runs (HSt 12) lp12 (inv12 k nd at' n s p kk sz (tRow a) k' nd' at'' n' s' p' kk' sz' (tRow b) G 0) (out12 G (decide (a = b))) := by
  have key := LoopTo.all (T := TT) (orc := tNone) (H := HSt 12) (lo := noLo) (b := lp12) (LoOk2.no _) (N := a.length) (inv := fun i => inv12 k nd at' n s p kk sz (tRow a) k' nd' at'' n' s' p' kk' sz' (tRow b) G i) (p := fun i => a[i]? == b[i]?) (out := out12 G)
    (fun i hi hp => ?_) (fun i hi hp => ?_) ?_ out12_n a.length 0 (by omega) (decide (a = b)) (by rw [decide_eq_true_eq]; exact (eq_iff_get hab).symm)
  · exact key
  · show (rk12 k nd at' n s p kk sz (tRow a) k' nd' at'' n' s' p' kk' sz' (tRow b) G i).run = _
    rw [← Tr.ev_run, rk12_eq]
    have hi' : i < b.length := by omega
    obtain rfl : sz = 1 := hz (fun h => by rw [h] at hi; simp at hi)
    obtain rfl : sz' = 1 := hz' (fun h => by rw [h] at hi'; simp at hi')
    have ga := tRow_get hi
    have gb := tRow_get hi'
    have hw : IntKind.wrap .i64 ((i : Int) + 1) = ((i + 1 : Nat) : Int) := by unfold maxLen at hm; rw [IntKind.wrap_i64]; omega
    (repeat first
    | ((with_reducible refine aT ?_ ?_); · first | with_reducible rfl | with_reducible assumption | (simp only [Bool.and_eq_true, Bool.and_eq_false_iff, Bool.or_eq_true, Bool.true_and, Bool.and_true, decide_eq_true_eq, decide_eq_false_iff_not, Bool.not_eq_true', Bool.not_eq_false', beq_iff_eq, beq_eq_false_iff_ne, bne_iff_ne, bne_eq_false_iff_eq, ne_eq, fits_iff, whole_iff, List.length_append, List.length_map, List.length_cons, List.length_nil, List.length_take, List.length_drop, bRow_length, tRow_length, List.nil_append, Nat.zero_add, Nat.add_zero, Int.toNat_natCast, and_self, and_true, true_and, true_or, or_true, false_or, or_false, not_true_eq_false, not_false_eq_true] <;> omega))
    | ((with_reducible refine aF ?_ ?_); · first | with_reducible rfl | with_reducible assumption | (simp only [Bool.and_eq_true, Bool.and_eq_false_iff, Bool.or_eq_true, Bool.true_and, Bool.and_true, decide_eq_true_eq, decide_eq_false_iff_not, Bool.not_eq_true', Bool.not_eq_false', beq_iff_eq, beq_eq_false_iff_ne, bne_iff_ne, bne_eq_false_iff_eq, ne_eq, fits_iff, whole_iff, List.length_append, List.length_map, List.length_cons, List.length_nil, List.length_take, List.length_drop, bRow_length, tRow_length, List.nil_append, Nat.zero_add, Nat.add_zero, Int.toNat_natCast, and_self, and_true, true_and, true_or, or_true, false_or, or_false, not_true_eq_false, not_false_eq_true] <;> omega))
    | ((with_reducible apply gStep); · first | exact rfl | (rw [Int.toNat_natCast]; exact ga) | (rw [Int.toNat_natCast]; exact gb)))
    refine aF (by simpa [hi, hi'] using hp) ?_
    rw [hw]
    rfl
  · show (rk12 k nd at' n s p kk sz (tRow a) k' nd' at'' n' s' p' kk' sz' (tRow b) G i).run = _
    rw [← Tr.ev_run, rk12_eq]
    have hi' : i < b.length := by omega
    obtain rfl : sz = 1 := hz (fun h => by rw [h] at hi; simp at hi)
    obtain rfl : sz' = 1 := hz' (fun h => by rw [h] at hi'; simp at hi')
    have ga := tRow_get hi
    have gb := tRow_get hi'
    (repeat first
    | ((with_reducible refine aT ?_ ?_); · first | with_reducible rfl | with_reducible assumption | (simp only [Bool.and_eq_true, Bool.and_eq_false_iff, Bool.or_eq_true, Bool.true_and, Bool.and_true, decide_eq_true_eq, decide_eq_false_iff_not, Bool.not_eq_true', Bool.not_eq_false', beq_iff_eq, beq_eq_false_iff_ne, bne_iff_ne, bne_eq_false_iff_eq, ne_eq, fits_iff, whole_iff, List.length_append, List.length_map, List.length_cons, List.length_nil, List.length_take, List.length_drop, bRow_length, tRow_length, List.nil_append, Nat.zero_add, Nat.add_zero, Int.toNat_natCast, and_self, and_true, true_and, true_or, or_true, false_or, or_false, not_true_eq_false, not_false_eq_true] <;> omega))
    | ((with_reducible refine aF ?_ ?_); · first | with_reducible rfl | with_reducible assumption | (simp only [Bool.and_eq_true, Bool.and_eq_false_iff, Bool.or_eq_true, Bool.true_and, Bool.and_true, decide_eq_true_eq, decide_eq_false_iff_not, Bool.not_eq_true', Bool.not_eq_false', beq_iff_eq, beq_eq_false_iff_ne, bne_iff_ne, bne_eq_false_iff_eq, ne_eq, fits_iff, whole_iff, List.length_append, List.length_map, List.length_cons, List.length_nil, List.length_take, List.length_drop, bRow_length, tRow_length, List.nil_append, Nat.zero_add, Nat.add_zero, Int.toNat_natCast, and_self, and_true, true_and, true_or, or_true, false_or, or_false, not_true_eq_false, not_false_eq_true] <;> omega))
    | ((with_reducible apply gStep); · first | exact rfl | (rw [Int.toNat_natCast]; exact ga) | (rw [Int.toNat_natCast]; exact gb)))
    refine aT (by simpa [hi, hi'] using hp) ?_
    rfl
  · show (rk12 k nd at' n s p kk sz (tRow a) k' nd' at'' n' s' p' kk' sz' (tRow b) G a.length).run = _
    rw [← Tr.ev_run, rk12_eq]
    refine aF (by first | with_reducible rfl | with_reducible assumption | (simp only [Bool.and_eq_true, Bool.and_eq_false_iff, Bool.or_eq_true, Bool.true_and, Bool.and_true, decide_eq_true_eq, decide_eq_false_iff_not, Bool.not_eq_true', Bool.not_eq_false', beq_iff_eq, beq_eq_false_iff_ne, bne_iff_ne, bne_eq_false_iff_eq, ne_eq, fits_iff, whole_iff, List.length_append, List.length_map, List.length_cons, List.length_nil, List.length_take, List.length_drop, bRow_length, tRow_length, List.nil_append, Nat.zero_add, Nat.add_zero, Int.toNat_natCast, and_self, and_true, true_and, true_or, or_true, false_or, or_false, not_true_eq_false, not_false_eq_true] <;> omega)) ?_
    rfl

attribute [local irreducible] fnS loS

theorem f12_run {sz sz' : Nat} {k nd at' n : Int} {s : ByteArray} {p : Int} {kk : LK} {a : List Bool} {k' nd' at'' n' : Int} {s' : ByteArray} {p' : Int} {kk' : LK} {b : List Bool} {G : List Ent} (hm : a.length ≤ maxLen) (hz : a ≠ [] → sz = 1) (hz' : b ≠ [] → sz' = 1) :
    (f12t k nd at' n s p kk sz (tRow a) k' nd' at'' n' s' p' kk' sz' (tRow b) G).run = some (.dat (.bool (sameS k nd at' n s p a k' nd' at'' n' s' p' b)), G) := by
  rw [← Tr.ev_run, f12t_eq]
  unfold sameS
  by_cases e1 : k = k'
  case neg => rw [decide_eq_false (fun h => e1 h.1)]; ((repeat first
    | ((with_reducible refine aT ?_ ?_); · first | with_reducible rfl | with_reducible assumption | (simp only [Bool.and_eq_true, Bool.and_eq_false_iff, Bool.or_eq_true, Bool.true_and, Bool.and_true, decide_eq_true_eq, decide_eq_false_iff_not, Bool.not_eq_true', Bool.not_eq_false', beq_iff_eq, beq_eq_false_iff_ne, bne_iff_ne, bne_eq_false_iff_eq, ne_eq, fits_iff, whole_iff, List.length_append, List.length_map, List.length_cons, List.length_nil, List.length_take, List.length_drop, bRow_length, tRow_length, List.nil_append, Nat.zero_add, Nat.add_zero, Int.toNat_natCast, and_self, and_true, true_and, true_or, or_true, false_or, or_false, not_true_eq_false, not_false_eq_true] <;> omega))
    | ((with_reducible refine aF ?_ ?_); · first | with_reducible rfl | with_reducible assumption | (simp only [Bool.and_eq_true, Bool.and_eq_false_iff, Bool.or_eq_true, Bool.true_and, Bool.and_true, decide_eq_true_eq, decide_eq_false_iff_not, Bool.not_eq_true', Bool.not_eq_false', beq_iff_eq, beq_eq_false_iff_ne, bne_iff_ne, bne_eq_false_iff_eq, ne_eq, fits_iff, whole_iff, List.length_append, List.length_map, List.length_cons, List.length_nil, List.length_take, List.length_drop, bRow_length, tRow_length, List.nil_append, Nat.zero_add, Nat.add_zero, Int.toNat_natCast, and_self, and_true, true_and, true_or, or_true, false_or, or_false, not_true_eq_false, not_false_eq_true] <;> omega))
    | ((with_reducible apply gStep); · first | exact rfl))); rfl
  by_cases e2 : nd = nd'
  case neg => rw [decide_eq_false (fun h => e2 h.2.1)]; ((repeat first
    | ((with_reducible refine aT ?_ ?_); · first | with_reducible rfl | with_reducible assumption | (simp only [Bool.and_eq_true, Bool.and_eq_false_iff, Bool.or_eq_true, Bool.true_and, Bool.and_true, decide_eq_true_eq, decide_eq_false_iff_not, Bool.not_eq_true', Bool.not_eq_false', beq_iff_eq, beq_eq_false_iff_ne, bne_iff_ne, bne_eq_false_iff_eq, ne_eq, fits_iff, whole_iff, List.length_append, List.length_map, List.length_cons, List.length_nil, List.length_take, List.length_drop, bRow_length, tRow_length, List.nil_append, Nat.zero_add, Nat.add_zero, Int.toNat_natCast, and_self, and_true, true_and, true_or, or_true, false_or, or_false, not_true_eq_false, not_false_eq_true] <;> omega))
    | ((with_reducible refine aF ?_ ?_); · first | with_reducible rfl | with_reducible assumption | (simp only [Bool.and_eq_true, Bool.and_eq_false_iff, Bool.or_eq_true, Bool.true_and, Bool.and_true, decide_eq_true_eq, decide_eq_false_iff_not, Bool.not_eq_true', Bool.not_eq_false', beq_iff_eq, beq_eq_false_iff_ne, bne_iff_ne, bne_eq_false_iff_eq, ne_eq, fits_iff, whole_iff, List.length_append, List.length_map, List.length_cons, List.length_nil, List.length_take, List.length_drop, bRow_length, tRow_length, List.nil_append, Nat.zero_add, Nat.add_zero, Int.toNat_natCast, and_self, and_true, true_and, true_or, or_true, false_or, or_false, not_true_eq_false, not_false_eq_true] <;> omega))
    | ((with_reducible apply gStep); · first | exact rfl))); rfl
  by_cases e3 : at' = at''
  case neg => rw [decide_eq_false (fun h => e3 h.2.2.1)]; ((repeat first
    | ((with_reducible refine aT ?_ ?_); · first | with_reducible rfl | with_reducible assumption | (simp only [Bool.and_eq_true, Bool.and_eq_false_iff, Bool.or_eq_true, Bool.true_and, Bool.and_true, decide_eq_true_eq, decide_eq_false_iff_not, Bool.not_eq_true', Bool.not_eq_false', beq_iff_eq, beq_eq_false_iff_ne, bne_iff_ne, bne_eq_false_iff_eq, ne_eq, fits_iff, whole_iff, List.length_append, List.length_map, List.length_cons, List.length_nil, List.length_take, List.length_drop, bRow_length, tRow_length, List.nil_append, Nat.zero_add, Nat.add_zero, Int.toNat_natCast, and_self, and_true, true_and, true_or, or_true, false_or, or_false, not_true_eq_false, not_false_eq_true] <;> omega))
    | ((with_reducible refine aF ?_ ?_); · first | with_reducible rfl | with_reducible assumption | (simp only [Bool.and_eq_true, Bool.and_eq_false_iff, Bool.or_eq_true, Bool.true_and, Bool.and_true, decide_eq_true_eq, decide_eq_false_iff_not, Bool.not_eq_true', Bool.not_eq_false', beq_iff_eq, beq_eq_false_iff_ne, bne_iff_ne, bne_eq_false_iff_eq, ne_eq, fits_iff, whole_iff, List.length_append, List.length_map, List.length_cons, List.length_nil, List.length_take, List.length_drop, bRow_length, tRow_length, List.nil_append, Nat.zero_add, Nat.add_zero, Int.toNat_natCast, and_self, and_true, true_and, true_or, or_true, false_or, or_false, not_true_eq_false, not_false_eq_true] <;> omega))
    | ((with_reducible apply gStep); · first | exact rfl))); rfl
  by_cases e4 : n = n'
  case neg => rw [decide_eq_false (fun h => e4 h.2.2.2.1)]; ((repeat first
    | ((with_reducible refine aT ?_ ?_); · first | with_reducible rfl | with_reducible assumption | (simp only [Bool.and_eq_true, Bool.and_eq_false_iff, Bool.or_eq_true, Bool.true_and, Bool.and_true, decide_eq_true_eq, decide_eq_false_iff_not, Bool.not_eq_true', Bool.not_eq_false', beq_iff_eq, beq_eq_false_iff_ne, bne_iff_ne, bne_eq_false_iff_eq, ne_eq, fits_iff, whole_iff, List.length_append, List.length_map, List.length_cons, List.length_nil, List.length_take, List.length_drop, bRow_length, tRow_length, List.nil_append, Nat.zero_add, Nat.add_zero, Int.toNat_natCast, and_self, and_true, true_and, true_or, or_true, false_or, or_false, not_true_eq_false, not_false_eq_true] <;> omega))
    | ((with_reducible refine aF ?_ ?_); · first | with_reducible rfl | with_reducible assumption | (simp only [Bool.and_eq_true, Bool.and_eq_false_iff, Bool.or_eq_true, Bool.true_and, Bool.and_true, decide_eq_true_eq, decide_eq_false_iff_not, Bool.not_eq_true', Bool.not_eq_false', beq_iff_eq, beq_eq_false_iff_ne, bne_iff_ne, bne_eq_false_iff_eq, ne_eq, fits_iff, whole_iff, List.length_append, List.length_map, List.length_cons, List.length_nil, List.length_take, List.length_drop, bRow_length, tRow_length, List.nil_append, Nat.zero_add, Nat.add_zero, Int.toNat_natCast, and_self, and_true, true_and, true_or, or_true, false_or, or_false, not_true_eq_false, not_false_eq_true] <;> omega))
    | ((with_reducible apply gStep); · first | exact rfl))); rfl
  by_cases e5 : s.toList = s'.toList
  case neg => rw [decide_eq_false (fun h => e5 h.2.2.2.2.1)]; ((repeat first
    | ((with_reducible refine aT ?_ ?_); · first | with_reducible rfl | with_reducible assumption | (simp only [Bool.and_eq_true, Bool.and_eq_false_iff, Bool.or_eq_true, Bool.true_and, Bool.and_true, decide_eq_true_eq, decide_eq_false_iff_not, Bool.not_eq_true', Bool.not_eq_false', beq_iff_eq, beq_eq_false_iff_ne, bne_iff_ne, bne_eq_false_iff_eq, ne_eq, fits_iff, whole_iff, List.length_append, List.length_map, List.length_cons, List.length_nil, List.length_take, List.length_drop, bRow_length, tRow_length, List.nil_append, Nat.zero_add, Nat.add_zero, Int.toNat_natCast, and_self, and_true, true_and, true_or, or_true, false_or, or_false, not_true_eq_false, not_false_eq_true, e5] <;> omega))
    | ((with_reducible refine aF ?_ ?_); · first | with_reducible rfl | with_reducible assumption | (simp only [Bool.and_eq_true, Bool.and_eq_false_iff, Bool.or_eq_true, Bool.true_and, Bool.and_true, decide_eq_true_eq, decide_eq_false_iff_not, Bool.not_eq_true', Bool.not_eq_false', beq_iff_eq, beq_eq_false_iff_ne, bne_iff_ne, bne_eq_false_iff_eq, ne_eq, fits_iff, whole_iff, List.length_append, List.length_map, List.length_cons, List.length_nil, List.length_take, List.length_drop, bRow_length, tRow_length, List.nil_append, Nat.zero_add, Nat.add_zero, Int.toNat_natCast, and_self, and_true, true_and, true_or, or_true, false_or, or_false, not_true_eq_false, not_false_eq_true, e5] <;> omega))
    | ((with_reducible apply gStep); · first | exact rfl))); rfl
  by_cases e6 : p = p'
  case neg => rw [decide_eq_false (fun h => e6 h.2.2.2.2.2.1)]; ((repeat first
    | ((with_reducible refine aT ?_ ?_); · first | with_reducible rfl | with_reducible assumption | (simp only [Bool.and_eq_true, Bool.and_eq_false_iff, Bool.or_eq_true, Bool.true_and, Bool.and_true, decide_eq_true_eq, decide_eq_false_iff_not, Bool.not_eq_true', Bool.not_eq_false', beq_iff_eq, beq_eq_false_iff_ne, bne_iff_ne, bne_eq_false_iff_eq, ne_eq, fits_iff, whole_iff, List.length_append, List.length_map, List.length_cons, List.length_nil, List.length_take, List.length_drop, bRow_length, tRow_length, List.nil_append, Nat.zero_add, Nat.add_zero, Int.toNat_natCast, and_self, and_true, true_and, true_or, or_true, false_or, or_false, not_true_eq_false, not_false_eq_true, e5] <;> omega))
    | ((with_reducible refine aF ?_ ?_); · first | with_reducible rfl | with_reducible assumption | (simp only [Bool.and_eq_true, Bool.and_eq_false_iff, Bool.or_eq_true, Bool.true_and, Bool.and_true, decide_eq_true_eq, decide_eq_false_iff_not, Bool.not_eq_true', Bool.not_eq_false', beq_iff_eq, beq_eq_false_iff_ne, bne_iff_ne, bne_eq_false_iff_eq, ne_eq, fits_iff, whole_iff, List.length_append, List.length_map, List.length_cons, List.length_nil, List.length_take, List.length_drop, bRow_length, tRow_length, List.nil_append, Nat.zero_add, Nat.add_zero, Int.toNat_natCast, and_self, and_true, true_and, true_or, or_true, false_or, or_false, not_true_eq_false, not_false_eq_true, e5] <;> omega))
    | ((with_reducible apply gStep); · first | exact rfl))); rfl
  by_cases hl : a.length = b.length
  case neg => rw [decide_eq_false (fun h => hl (by rw [h.2.2.2.2.2.2]))]; ((repeat first
    | ((with_reducible refine aT ?_ ?_); · first | with_reducible rfl | with_reducible assumption | (simp only [Bool.and_eq_true, Bool.and_eq_false_iff, Bool.or_eq_true, Bool.true_and, Bool.and_true, decide_eq_true_eq, decide_eq_false_iff_not, Bool.not_eq_true', Bool.not_eq_false', beq_iff_eq, beq_eq_false_iff_ne, bne_iff_ne, bne_eq_false_iff_eq, ne_eq, fits_iff, whole_iff, List.length_append, List.length_map, List.length_cons, List.length_nil, List.length_take, List.length_drop, bRow_length, tRow_length, List.nil_append, Nat.zero_add, Nat.add_zero, Int.toNat_natCast, and_self, and_true, true_and, true_or, or_true, false_or, or_false, not_true_eq_false, not_false_eq_true, e5] <;> omega))
    | ((with_reducible refine aF ?_ ?_); · first | with_reducible rfl | with_reducible assumption | (simp only [Bool.and_eq_true, Bool.and_eq_false_iff, Bool.or_eq_true, Bool.true_and, Bool.and_true, decide_eq_true_eq, decide_eq_false_iff_not, Bool.not_eq_true', Bool.not_eq_false', beq_iff_eq, beq_eq_false_iff_ne, bne_iff_ne, bne_eq_false_iff_eq, ne_eq, fits_iff, whole_iff, List.length_append, List.length_map, List.length_cons, List.length_nil, List.length_take, List.length_drop, bRow_length, tRow_length, List.nil_append, Nat.zero_add, Nat.add_zero, Int.toNat_natCast, and_self, and_true, true_and, true_or, or_true, false_or, or_false, not_true_eq_false, not_false_eq_true, e5] <;> omega))
    | ((with_reducible apply gStep); · first | exact rfl))); rfl
  ((repeat first
    | ((with_reducible refine aT ?_ ?_); · first | with_reducible rfl | with_reducible assumption | (simp only [Bool.and_eq_true, Bool.and_eq_false_iff, Bool.or_eq_true, Bool.true_and, Bool.and_true, decide_eq_true_eq, decide_eq_false_iff_not, Bool.not_eq_true', Bool.not_eq_false', beq_iff_eq, beq_eq_false_iff_ne, bne_iff_ne, bne_eq_false_iff_eq, ne_eq, fits_iff, whole_iff, List.length_append, List.length_map, List.length_cons, List.length_nil, List.length_take, List.length_drop, bRow_length, tRow_length, List.nil_append, Nat.zero_add, Nat.add_zero, Int.toNat_natCast, and_self, and_true, true_and, true_or, or_true, false_or, or_false, not_true_eq_false, not_false_eq_true, e5] <;> omega))
    | ((with_reducible refine aF ?_ ?_); · first | with_reducible rfl | with_reducible assumption | (simp only [Bool.and_eq_true, Bool.and_eq_false_iff, Bool.or_eq_true, Bool.true_and, Bool.and_true, decide_eq_true_eq, decide_eq_false_iff_not, Bool.not_eq_true', Bool.not_eq_false', beq_iff_eq, beq_eq_false_iff_ne, bne_iff_ne, bne_eq_false_iff_eq, ne_eq, fits_iff, whole_iff, List.length_append, List.length_map, List.length_cons, List.length_nil, List.length_take, List.length_drop, bRow_length, tRow_length, List.nil_append, Nat.zero_add, Nat.add_zero, Int.toNat_natCast, and_self, and_true, true_and, true_or, or_true, false_or, or_false, not_true_eq_false, not_false_eq_true, e5] <;> omega))
    | ((with_reducible apply gStep); · first | exact rfl | exact loS_eq out12_inj (loop12 hl hm hz hz'))))
  by_cases h : a = b
  · rw [decide_eq_true h, decide_eq_true ⟨e1, e2, e3, e4, e5, e6, h⟩]; rfl
  · rw [decide_eq_false h, decide_eq_false (fun q => h q.2.2.2.2.2.2)]; rfl

theorem p12 {k nd at' n : Int} {s : ByteArray} {p : Int} {kk : LK} {sz : Nat} {a : List Bool} {k' nd' at'' n' : Int} {s' : ByteArray} {p' : Int} {kk' : LK} {sz' : Nat} {b : List Bool} {G : List Ent} (hm : a.length ≤ maxLen) (hz : a ≠ [] → sz = 1) (hz' : b ≠ [] → sz' = 1) :
    P12 [stpz k nd at' n s p kk sz (tRow a), stpz k' nd' at'' n' s' p' kk' sz' (tRow b)] G = some (oB G (sameS k nd at' n s p a k' nd' at'' n' s' p' b)) :=
  pureS_eq rfl (G0 := []) (f12_run (G := []) hm hz hz') rfl

attribute [local irreducible] P12

theorem loop17 {sz sz' : Nat} {k k' : LK} {xs ys : Row} {G : List Ent} : ∀ (ts pre : List Stp), SR (pre ++ ts) xs → SR (pre ++ ts) ys → (pre ++ ts ≠ [] → sz = 7) → (pre ++ ts ≠ [] → sz' = 7) → (pre ++ ts).length ≤ 1000 → (∀ s ∈ ts, s.keep.length ≤ maxLen) →
    LoopTo TT t17.runs (HSt 17) lp17 (inv17 sz k xs sz' k' ys G pre.length) (out17 G true)
  | [], pre, hsx, hsy, hz, hz', hn, hk => by
    refine LoopTo.last (orc := t17) (lo := noLo) (fun _ _ _ _ h => h) (LoOk2.no _) ?_ (by simp [out17])
    show (rk17 sz k xs sz' k' ys G pre.length).run = _
    rw [← Tr.ev_run, rk17_eq]
    have hl := hsx.1
    refine aF (by rw [hl]; simp) rfl
  | s :: ts, pre, hsx, hsy, hz, hz', hn, hk => by
    have hl := hsx.1
    have hl' := hsy.1
    obtain ⟨kk, z, hkz, hx⟩ := hsx.get rfl
    obtain ⟨kk', z', hkz', hy⟩ := hsy.get rfl
    obtain rfl : sz = 7 := hz (by simp)
    obtain rfl : sz' = 7 := hz' (by simp)
    have hlt : pre.length < xs.length := by rw [hl]; simp
    have hlt' : pre.length < ys.length := by rw [hl']; simp
    have hpn : pre.length ≤ 1000 := by simp at hn; omega
    have step : (rk17 7 k xs 7 k' ys G pre.length).run = some (.norm, inv17 7 k xs 7 k' ys G ((pre ++ [s]).length : Nat)) := by
      rw [← Tr.ev_run, rk17_eq]
      have f := p12 (k := s.kind) (nd := s.node) (at' := s.at') (n := s.n) (s := s.data) (p := s.stop) (kk := kk) (sz := z) (a := s.keep) (k' := s.kind) (nd' := s.node) (at'' := s.at') (n' := s.n) (s' := s.data) (p' := s.stop) (kk' := kk') (sz' := z') (b := s.keep) (G := G) (hk s (by simp)) hkz hkz'
      rw [sameS_self] at f
      refine aT (by simpa using hlt) (aT (by simpa using hlt) (gStep (by rw [Int.toNat_natCast]; exact hx) (gStep rfl (gStep rfl (gStep rfl (gStep rfl (gStep rfl (gStep rfl (gStep rfl ?_)))))))))
      refine aT (by simpa using hlt') (gStep (by rw [Int.toNat_natCast]; exact hy) (gStep rfl (gStep rfl (gStep rfl (gStep rfl (gStep rfl (gStep rfl (gStep rfl ?_))))))))
      refine gStep (fnS_eq (out := oB G) oB_inj f) (aF rfl ?_)
      rw [wI1 (s := s) hpn]
      rfl
    have ih := loop17 (sz := 7) (sz' := 7) (k := k) (k' := k') (G := G) ts (pre ++ [s]) (by simpa using hsx) (by simpa using hsy) (fun _ => rfl) (fun _ => rfl) (by simpa using hn) (fun t ht => hk t (by simp [ht]))
    exact LoopTo.more (orc := t17) (lo := noLo) (fun _ _ _ _ h => h) (LoOk2.no _) step ih

theorem f17_run {sz sz' : Nat} {k k' : LK} {xs ys : Row} {G : List Ent} {ss : List Stp} (hsx : SR ss xs) (hsy : SR ss ys) (hz : ss ≠ [] → sz = 7) (hz' : ss ≠ [] → sz' = 7) (hn : ss.length ≤ 1000) (hk : ∀ s ∈ ss, s.keep.length ≤ maxLen) :
    (f17t sz k xs sz' k' ys G).run = some (oB G true) := by
  rw [← Tr.ev_run, f17t_eq]
  have hp := loop17 (sz := sz) (sz' := sz') (k := k) (k' := k') (G := G) ss [] hsx hsy hz hz' hn hk
  exact aF (by rw [hsx.1, hsy.1]; simp) (gStep (loS_eq (out := out17 G) out17_inj hp) (aT rfl rfl))

end Go.Eng
end

/- Both Steps, as trees. -/
section
namespace Go.Eng
open Go
set_option maxRecDepth 100000

theorem m13_eq (x : Int) (R : List Ent) : (m13 x R).ev =
  (rGet (fnS (fun (p : Int × Int) => ((AV.dat (D.int IntKind.i64 p.1)), ((Ent.obj [(AV.dat (D.int IntKind.u64 p.2))]) :: R))) (R9 [(AV.ptr (Ref.glob 0) 0), (AV.dat (D.int IntKind.i64 (20 : Int)))] ((Ent.obj [(AV.dat (D.int IntKind.u64 x))]) :: R))) fun x1 =>
   (rAsk (decide (x1.1 < (5 : Int)))
    (rGet (fnS (fun (p : Int × Int) => ((AV.dat (D.int IntKind.i64 p.1)), ((Ent.obj [(AV.dat (D.int IntKind.u64 p.2))]) :: R))) (R9 [(AV.ptr (Ref.glob 0) 0), (AV.dat (D.int IntKind.i64 (4 : Int)))] ((Ent.obj [(AV.dat (D.int IntKind.u64 x1.2))]) :: R))) fun x2 =>
     (rGet (fnS (fun (p : Int × Int) => ((AV.dat (D.int IntKind.i64 p.1)), ((Ent.obj [(AV.dat (D.int IntKind.u64 p.2))]) :: R))) (R9 [(AV.ptr (Ref.glob 0) 0), (AV.dat (D.int IntKind.i64 (5 : Int)))] ((Ent.obj [(AV.dat (D.int IntKind.u64 x2.2))]) :: R))) fun x3 =>
      (rGet (fnS (fun (s : ByteArray) => ((AV.dat (D.str s)), ((Ent.obj [(AV.dat (D.int IntKind.u64 x3.2))]) :: R))) (P47 [(AV.dat (D.int IntKind.u8 (IntKind.wrap IntKind.u8 x3.1)))] ((Ent.obj [(AV.dat (D.int IntKind.u64 x3.2))]) :: R))) fun x4 =>
       (rGet (fnS (fun (p : Int × Int) => ((AV.dat (D.int IntKind.i64 p.1)), ((Ent.obj [(AV.dat (D.int IntKind.u64 p.2))]) :: R))) (R9 [(AV.ptr (Ref.glob 0) 0), (AV.dat (D.int IntKind.i64 (8 : Int)))] ((Ent.obj [(AV.dat (D.int IntKind.u64 x3.2))]) :: R))) fun x5 =>
        (rAsk (x5.1 == (0 : Int))
         (rGet (fnS (fun (p : Int × Int) => ((AV.dat (D.int IntKind.i64 p.1)), ((Ent.obj [(AV.dat (D.int IntKind.u64 p.2))]) :: R))) (R9 [(AV.ptr (Ref.glob 0) 0), (AV.dat (D.int IntKind.i64 (8 : Int)))] ((Ent.obj [(AV.dat (D.int IntKind.u64 x5.2))]) :: R))) fun x6 =>
          (some ((AV.agg [(AV.dat (D.int IntKind.i64 (2 : Int))), (AV.dat (D.int IntKind.i64 (0 : Int))), (AV.dat (D.int IntKind.i64 x2.1)), (AV.dat (D.int IntKind.i64 (0 : Int))), (AV.dat (D.str x4)), (AV.dat (D.int IntKind.i64 (IntKind.wrap IntKind.i64 ((1 : Int) + x6.1)))), (AV.dat (D.list LK.nil 0 ([] : Row)))]), ((Ent.obj [(AV.dat (D.int IntKind.u64 x6.2))]) :: R)))
         )
         (some ((AV.agg [(AV.dat (D.int IntKind.i64 (2 : Int))), (AV.dat (D.int IntKind.i64 (0 : Int))), (AV.dat (D.int IntKind.i64 x2.1)), (AV.dat (D.int IntKind.i64 (0 : Int))), (AV.dat (D.str x4)), (AV.dat (D.int IntKind.i64 (0 : Int))), (AV.dat (D.list LK.nil 0 ([] : Row)))]), ((Ent.obj [(AV.dat (D.int IntKind.u64 x5.2))]) :: R)))
        )
       )
      )
     )
    )
    (rAsk (decide (x1.1 < (8 : Int)))
     (rAsk ((IntKind.wrap IntKind.i64 (x1.1 - (5 : Int))) == (0 : Int))
      (rGet (fnS (fun (p : Int × Int) => ((AV.dat (D.int IntKind.i64 p.1)), ((Ent.obj [(AV.dat (D.int IntKind.u64 p.2))]) :: R))) (R9 [(AV.ptr (Ref.glob 0) 0), (AV.dat (D.int IntKind.i64 (8 : Int)))] ((Ent.obj [(AV.dat (D.int IntKind.u64 x1.2))]) :: R))) fun x7 =>
       (rAsk (x7.1 == (0 : Int))
        (rGet (fnS (fun (p : Int × Int) => ((AV.dat (D.int IntKind.i64 p.1)), ((Ent.obj [(AV.dat (D.int IntKind.u64 p.2))]) :: R))) (R9 [(AV.ptr (Ref.glob 0) 0), (AV.dat (D.int IntKind.i64 (8 : Int)))] ((Ent.obj [(AV.dat (D.int IntKind.u64 x7.2))]) :: R))) fun x8 =>
         (some ((AV.agg [(AV.dat (D.int IntKind.i64 (3 : Int))), (AV.dat (D.int IntKind.i64 (0 : Int))), (AV.dat (D.int IntKind.i64 (0 : Int))), (AV.dat (D.int IntKind.i64 (0 : Int))), (AV.dat (D.str (ByteArray.mk (List.toArray [])))), (AV.dat (D.int IntKind.i64 (IntKind.wrap IntKind.i64 ((1 : Int) + x8.1)))), (AV.dat (D.list LK.nil 0 ([] : Row)))]), ((Ent.obj [(AV.dat (D.int IntKind.u64 x8.2))]) :: R)))
        )
        (some ((AV.agg [(AV.dat (D.int IntKind.i64 (3 : Int))), (AV.dat (D.int IntKind.i64 (0 : Int))), (AV.dat (D.int IntKind.i64 (0 : Int))), (AV.dat (D.int IntKind.i64 (0 : Int))), (AV.dat (D.str (ByteArray.mk (List.toArray [])))), (AV.dat (D.int IntKind.i64 (0 : Int))), (AV.dat (D.list LK.nil 0 ([] : Row)))]), ((Ent.obj [(AV.dat (D.int IntKind.u64 x7.2))]) :: R)))
       )
      )
      (rAsk ((IntKind.wrap IntKind.i64 (x1.1 - (5 : Int))) == (1 : Int))
       (rGet (fnS (fun (p : Int × Int) => ((AV.dat (D.int IntKind.i64 p.1)), ((Ent.obj [(AV.dat (D.int IntKind.u64 p.2))]) :: R))) (R9 [(AV.ptr (Ref.glob 0) 0), (AV.dat (D.int IntKind.i64 (8 : Int)))] ((Ent.obj [(AV.dat (D.int IntKind.u64 x1.2))]) :: R))) fun x9 =>
        (rAsk (x9.1 == (0 : Int))
         (rGet (fnS (fun (p : Int × Int) => ((AV.dat (D.int IntKind.i64 p.1)), ((Ent.obj [(AV.dat (D.int IntKind.u64 p.2))]) :: R))) (R9 [(AV.ptr (Ref.glob 0) 0), (AV.dat (D.int IntKind.i64 (8 : Int)))] ((Ent.obj [(AV.dat (D.int IntKind.u64 x9.2))]) :: R))) fun x10 =>
          (some ((AV.agg [(AV.dat (D.int IntKind.i64 (4 : Int))), (AV.dat (D.int IntKind.i64 (0 : Int))), (AV.dat (D.int IntKind.i64 (0 : Int))), (AV.dat (D.int IntKind.i64 (0 : Int))), (AV.dat (D.str (ByteArray.mk (List.toArray [])))), (AV.dat (D.int IntKind.i64 (IntKind.wrap IntKind.i64 ((1 : Int) + x10.1)))), (AV.dat (D.list LK.nil 0 ([] : Row)))]), ((Ent.obj [(AV.dat (D.int IntKind.u64 x10.2))]) :: R)))
         )
         (some ((AV.agg [(AV.dat (D.int IntKind.i64 (4 : Int))), (AV.dat (D.int IntKind.i64 (0 : Int))), (AV.dat (D.int IntKind.i64 (0 : Int))), (AV.dat (D.int IntKind.i64 (0 : Int))), (AV.dat (D.str (ByteArray.mk (List.toArray [])))), (AV.dat (D.int IntKind.i64 (0 : Int))), (AV.dat (D.list LK.nil 0 ([] : Row)))]), ((Ent.obj [(AV.dat (D.int IntKind.u64 x9.2))]) :: R)))
        )
       )
       (rAsk ((IntKind.wrap IntKind.i64 (x1.1 - (5 : Int))) == (2 : Int))
        (rGet (fnS (fun (p : Int × Int) => ((AV.dat (D.int IntKind.i64 p.1)), ((Ent.obj [(AV.dat (D.int IntKind.u64 p.2))]) :: R))) (R9 [(AV.ptr (Ref.glob 0) 0), (AV.dat (D.int IntKind.i64 (8 : Int)))] ((Ent.obj [(AV.dat (D.int IntKind.u64 x1.2))]) :: R))) fun x11 =>
         (rAsk (x11.1 == (0 : Int))
          (rGet (fnS (fun (p : Int × Int) => ((AV.dat (D.int IntKind.i64 p.1)), ((Ent.obj [(AV.dat (D.int IntKind.u64 p.2))]) :: R))) (R9 [(AV.ptr (Ref.glob 0) 0), (AV.dat (D.int IntKind.i64 (8 : Int)))] ((Ent.obj [(AV.dat (D.int IntKind.u64 x11.2))]) :: R))) fun x12 =>
           (some ((AV.agg [(AV.dat (D.int IntKind.i64 (5 : Int))), (AV.dat (D.int IntKind.i64 (0 : Int))), (AV.dat (D.int IntKind.i64 (0 : Int))), (AV.dat (D.int IntKind.i64 (0 : Int))), (AV.dat (D.str (ByteArray.mk (List.toArray [])))), (AV.dat (D.int IntKind.i64 (IntKind.wrap IntKind.i64 ((1 : Int) + x12.1)))), (AV.dat (D.list LK.nil 0 ([] : Row)))]), ((Ent.obj [(AV.dat (D.int IntKind.u64 x12.2))]) :: R)))
          )
          (some ((AV.agg [(AV.dat (D.int IntKind.i64 (5 : Int))), (AV.dat (D.int IntKind.i64 (0 : Int))), (AV.dat (D.int IntKind.i64 (0 : Int))), (AV.dat (D.int IntKind.i64 (0 : Int))), (AV.dat (D.str (ByteArray.mk (List.toArray [])))), (AV.dat (D.int IntKind.i64 (0 : Int))), (AV.dat (D.list LK.nil 0 ([] : Row)))]), ((Ent.obj [(AV.dat (D.int IntKind.u64 x11.2))]) :: R)))
         )
        )
        none
       )
      )
     )
     (rAsk (decide (x1.1 < (14 : Int)))
      (rGet (fnS (fun (p : Int × Int) => ((AV.dat (D.int IntKind.i64 p.1)), ((Ent.obj [(AV.dat (D.int IntKind.u64 p.2))]) :: R))) (R9 [(AV.ptr (Ref.glob 0) 0), (AV.dat (D.int IntKind.i64 (8 : Int)))] ((Ent.obj [(AV.dat (D.int IntKind.u64 x1.2))]) :: R))) fun x13 =>
       (rAsk (x13.1 == (0 : Int))
        (rGet (fnS (fun (p : Int × Int) => ((AV.dat (D.int IntKind.i64 p.1)), ((Ent.obj [(AV.dat (D.int IntKind.u64 p.2))]) :: R))) (R9 [(AV.ptr (Ref.glob 0) 0), (AV.dat (D.int IntKind.i64 (8 : Int)))] ((Ent.obj [(AV.dat (D.int IntKind.u64 x13.2))]) :: R))) fun x14 =>
         (some ((AV.agg [(AV.dat (D.int IntKind.i64 (7 : Int))), (AV.dat (D.int IntKind.i64 (0 : Int))), (AV.dat (D.int IntKind.i64 (0 : Int))), (AV.dat (D.int IntKind.i64 (0 : Int))), (AV.dat (D.str (ByteArray.mk (List.toArray [])))), (AV.dat (D.int IntKind.i64 (IntKind.wrap IntKind.i64 ((1 : Int) + x14.1)))), (AV.dat (D.list LK.nil 0 ([] : Row)))]), ((Ent.obj [(AV.dat (D.int IntKind.u64 x14.2))]) :: R)))
        )
        (some ((AV.agg [(AV.dat (D.int IntKind.i64 (7 : Int))), (AV.dat (D.int IntKind.i64 (0 : Int))), (AV.dat (D.int IntKind.i64 (0 : Int))), (AV.dat (D.int IntKind.i64 (0 : Int))), (AV.dat (D.str (ByteArray.mk (List.toArray [])))), (AV.dat (D.int IntKind.i64 (0 : Int))), (AV.dat (D.list LK.nil 0 ([] : Row)))]), ((Ent.obj [(AV.dat (D.int IntKind.u64 x13.2))]) :: R)))
       )
      )
      (rAsk (x1.1 == (14 : Int))
       (rGet (fnS (fun (p : Int × Int) => ((AV.dat (D.int IntKind.i64 p.1)), ((Ent.obj [(AV.dat (D.int IntKind.u64 p.2))]) :: R))) (R9 [(AV.ptr (Ref.glob 0) 0), (AV.dat (D.int IntKind.i64 (2 : Int)))] ((Ent.obj [(AV.dat (D.int IntKind.u64 x1.2))]) :: R))) fun x15 =>
        (rGet (fnS (fun (p : Int × Int) => ((AV.dat (D.int IntKind.i64 p.1)), ((Ent.obj [(AV.dat (D.int IntKind.u64 p.2))]) :: R))) (R9 [(AV.ptr (Ref.glob 0) 0), (AV.dat (D.int IntKind.i64 (8 : Int)))] ((Ent.obj [(AV.dat (D.int IntKind.u64 x15.2))]) :: R))) fun x16 =>
         (rAsk (x16.1 == (0 : Int))
          (rGet (fnS (fun (p : Int × Int) => ((AV.dat (D.int IntKind.i64 p.1)), ((Ent.obj [(AV.dat (D.int IntKind.u64 p.2))]) :: R))) (R9 [(AV.ptr (Ref.glob 0) 0), (AV.dat (D.int IntKind.i64 (8 : Int)))] ((Ent.obj [(AV.dat (D.int IntKind.u64 x16.2))]) :: R))) fun x17 =>
           (some ((AV.agg [(AV.dat (D.int IntKind.i64 (6 : Int))), (AV.dat (D.int IntKind.i64 x15.1)), (AV.dat (D.int IntKind.i64 (0 : Int))), (AV.dat (D.int IntKind.i64 (0 : Int))), (AV.dat (D.str (ByteArray.mk (List.toArray [])))), (AV.dat (D.int IntKind.i64 (IntKind.wrap IntKind.i64 ((1 : Int) + x17.1)))), (AV.dat (D.list LK.nil 0 ([] : Row)))]), ((Ent.obj [(AV.dat (D.int IntKind.u64 x17.2))]) :: R)))
          )
          (some ((AV.agg [(AV.dat (D.int IntKind.i64 (6 : Int))), (AV.dat (D.int IntKind.i64 x15.1)), (AV.dat (D.int IntKind.i64 (0 : Int))), (AV.dat (D.int IntKind.i64 (0 : Int))), (AV.dat (D.str (ByteArray.mk (List.toArray [])))), (AV.dat (D.int IntKind.i64 (0 : Int))), (AV.dat (D.list LK.nil 0 ([] : Row)))]), ((Ent.obj [(AV.dat (D.int IntKind.u64 x16.2))]) :: R)))
         )
        )
       )
       (rAsk (x1.1 == (15 : Int))
        (rGet (fnS (fun (p : Int × Int) => ((AV.dat (D.int IntKind.i64 p.1)), ((Ent.obj [(AV.dat (D.int IntKind.u64 p.2))]) :: R))) (R9 [(AV.ptr (Ref.glob 0) 0), (AV.dat (D.int IntKind.i64 (2 : Int)))] ((Ent.obj [(AV.dat (D.int IntKind.u64 x1.2))]) :: R))) fun x18 =>
         (rGet (fnS (fun (p : Int × Int) => ((AV.dat (D.int IntKind.i64 p.1)), ((Ent.obj [(AV.dat (D.int IntKind.u64 p.2))]) :: R))) (R9 [(AV.ptr (Ref.glob 0) 0), (AV.dat (D.int IntKind.i64 (8 : Int)))] ((Ent.obj [(AV.dat (D.int IntKind.u64 x18.2))]) :: R))) fun x19 =>
          (rAsk (x19.1 == (0 : Int))
           (rGet (fnS (fun (p : Int × Int) => ((AV.dat (D.int IntKind.i64 p.1)), ((Ent.obj [(AV.dat (D.int IntKind.u64 p.2))]) :: R))) (R9 [(AV.ptr (Ref.glob 0) 0), (AV.dat (D.int IntKind.i64 (8 : Int)))] ((Ent.obj [(AV.dat (D.int IntKind.u64 x19.2))]) :: R))) fun x20 =>
            (some ((AV.agg [(AV.dat (D.int IntKind.i64 (8 : Int))), (AV.dat (D.int IntKind.i64 (0 : Int))), (AV.dat (D.int IntKind.i64 (0 : Int))), (AV.dat (D.int IntKind.i64 x18.1)), (AV.dat (D.str (ByteArray.mk (List.toArray [])))), (AV.dat (D.int IntKind.i64 (IntKind.wrap IntKind.i64 ((1 : Int) + x20.1)))), (AV.dat (D.list LK.nil 0 ([] : Row)))]), ((Ent.obj [(AV.dat (D.int IntKind.u64 x20.2))]) :: R)))
           )
           (some ((AV.agg [(AV.dat (D.int IntKind.i64 (8 : Int))), (AV.dat (D.int IntKind.i64 (0 : Int))), (AV.dat (D.int IntKind.i64 (0 : Int))), (AV.dat (D.int IntKind.i64 x18.1)), (AV.dat (D.str (ByteArray.mk (List.toArray [])))), (AV.dat (D.int IntKind.i64 (0 : Int))), (AV.dat (D.list LK.nil 0 ([] : Row)))]), ((Ent.obj [(AV.dat (D.int IntKind.u64 x19.2))]) :: R)))
          )
         )
        )
        (rAsk (x1.1 == (16 : Int))
         (rGet (fnS (fun (p : Int × Int) => ((AV.dat (D.int IntKind.i64 p.1)), ((Ent.obj [(AV.dat (D.int IntKind.u64 p.2))]) :: R))) (R9 [(AV.ptr (Ref.glob 0) 0), (AV.dat (D.int IntKind.i64 (8 : Int)))] ((Ent.obj [(AV.dat (D.int IntKind.u64 x1.2))]) :: R))) fun x21 =>
          (rAsk (x21.1 == (0 : Int))
           (rGet (fnS (fun (p : Int × Int) => ((AV.dat (D.int IntKind.i64 p.1)), ((Ent.obj [(AV.dat (D.int IntKind.u64 p.2))]) :: R))) (R9 [(AV.ptr (Ref.glob 0) 0), (AV.dat (D.int IntKind.i64 (8 : Int)))] ((Ent.obj [(AV.dat (D.int IntKind.u64 x21.2))]) :: R))) fun x22 =>
            (some ((AV.agg [(AV.dat (D.int IntKind.i64 (9 : Int))), (AV.dat (D.int IntKind.i64 (0 : Int))), (AV.dat (D.int IntKind.i64 (0 : Int))), (AV.dat (D.int IntKind.i64 (0 : Int))), (AV.dat (D.str (ByteArray.mk (List.toArray [])))), (AV.dat (D.int IntKind.i64 (IntKind.wrap IntKind.i64 ((1 : Int) + x22.1)))), (AV.dat (D.list LK.nil 0 ([] : Row)))]), ((Ent.obj [(AV.dat (D.int IntKind.u64 x22.2))]) :: R)))
           )
           (some ((AV.agg [(AV.dat (D.int IntKind.i64 (9 : Int))), (AV.dat (D.int IntKind.i64 (0 : Int))), (AV.dat (D.int IntKind.i64 (0 : Int))), (AV.dat (D.int IntKind.i64 (0 : Int))), (AV.dat (D.str (ByteArray.mk (List.toArray [])))), (AV.dat (D.int IntKind.i64 (0 : Int))), (AV.dat (D.list LK.nil 0 ([] : Row)))]), ((Ent.obj [(AV.dat (D.int IntKind.u64 x21.2))]) :: R)))
          )
         )
         (rAsk (x1.1 == (17 : Int))
          (rGet (fnS (fun (p : Int × Int) => ((AV.dat (D.int IntKind.i64 p.1)), ((Ent.obj [(AV.dat (D.int IntKind.u64 p.2))]) :: R))) (R9 [(AV.ptr (Ref.glob 0) 0), (AV.dat (D.int IntKind.i64 (2 : Int)))] ((Ent.obj [(AV.dat (D.int IntKind.u64 x1.2))]) :: R))) fun x23 =>
           (rGet (fnS (fun (p : Int × Int) => ((AV.dat (D.int IntKind.i64 p.1)), ((Ent.obj [(AV.dat (D.int IntKind.u64 p.2))]) :: R))) (R9 [(AV.ptr (Ref.glob 0) 0), (AV.dat (D.int IntKind.i64 (4 : Int)))] ((Ent.obj [(AV.dat (D.int IntKind.u64 x23.2))]) :: R))) fun x24 =>
            (rAsk (decide ((0 : Int) < x24.1))
             (rGet (fnS (fun (p : Int × Int) => ((AV.dat (D.int IntKind.i64 p.1)), ((Ent.obj [(AV.dat (D.int IntKind.u64 p.2))]) :: R))) (R9 [(AV.ptr (Ref.glob 0) 0), (AV.dat (D.int IntKind.i64 (2 : Int)))] ((Ent.obj [(AV.dat (D.int IntKind.u64 x24.2))]) :: R))) fun x25 =>
              (rAsk (decide ((1 : Int) < x24.1))
               (rGet (fnS (fun (p : Int × Int) => ((AV.dat (D.int IntKind.i64 p.1)), ((Ent.obj [(AV.dat (D.int IntKind.u64 p.2))]) :: R))) (R9 [(AV.ptr (Ref.glob 0) 0), (AV.dat (D.int IntKind.i64 (2 : Int)))] ((Ent.obj [(AV.dat (D.int IntKind.u64 x25.2))]) :: R))) fun x26 =>
                (rAsk (decide ((2 : Int) < x24.1))
                 (rGet (fnS (fun (p : Int × Int) => ((AV.dat (D.int IntKind.i64 p.1)), ((Ent.obj [(AV.dat (D.int IntKind.u64 p.2))]) :: R))) (R9 [(AV.ptr (Ref.glob 0) 0), (AV.dat (D.int IntKind.i64 (2 : Int)))] ((Ent.obj [(AV.dat (D.int IntKind.u64 x26.2))]) :: R))) fun x27 =>
                  (rAsk (decide ((3 : Int) < x24.1))
                   (rGet (fnS (fun (p : Int × Int) => ((AV.dat (D.int IntKind.i64 p.1)), ((Ent.obj [(AV.dat (D.int IntKind.u64 p.2))]) :: R))) (R9 [(AV.ptr (Ref.glob 0) 0), (AV.dat (D.int IntKind.i64 (2 : Int)))] ((Ent.obj [(AV.dat (D.int IntKind.u64 x27.2))]) :: R))) fun x28 =>
                    (rAsk (decide ((4 : Int) < x24.1))
                     (rGet (fnS (fun (p : Int × Int) => ((AV.dat (D.int IntKind.i64 p.1)), ((Ent.obj [(AV.dat (D.int IntKind.u64 p.2))]) :: R))) (R9 [(AV.ptr (Ref.glob 0) 0), (AV.dat (D.int IntKind.i64 (2 : Int)))] ((Ent.obj [(AV.dat (D.int IntKind.u64 x28.2))]) :: R))) fun x29 =>
                      (rAsk (decide ((5 : Int) < x24.1))
                       (rGet (fnS (fun (p : Int × Int) => ((AV.dat (D.int IntKind.i64 p.1)), ((Ent.obj [(AV.dat (D.int IntKind.u64 p.2))]) :: R))) (R9 [(AV.ptr (Ref.glob 0) 0), (AV.dat (D.int IntKind.i64 (2 : Int)))] ((Ent.obj [(AV.dat (D.int IntKind.u64 x29.2))]) :: R))) fun x30 =>
                        none
                       )
                       (rGet (fnS (fun (p : Int × Int) => ((AV.dat (D.int IntKind.i64 p.1)), ((Ent.obj [(AV.dat (D.int IntKind.u64 p.2))]) :: R))) (R9 [(AV.ptr (Ref.glob 0) 0), (AV.dat (D.int IntKind.i64 (8 : Int)))] ((Ent.obj [(AV.dat (D.int IntKind.u64 x29.2))]) :: R))) fun x31 =>
                        (rAsk (x31.1 == (0 : Int))
                         (some ((AV.agg [(AV.dat (D.int IntKind.i64 (12 : Int))), (AV.dat (D.int IntKind.i64 x23.1)), (AV.dat (D.int IntKind.i64 (0 : Int))), (AV.dat (D.int IntKind.i64 (0 : Int))), (AV.dat (D.str (ByteArray.mk (List.toArray [])))), (AV.dat (D.int IntKind.i64 (0 : Int))), (AV.dat (D.list LK.any 1 [[(D.bool (x25.1 == (1 : Int)))], [(D.bool (x26.1 == (1 : Int)))], [(D.bool (x27.1 == (1 : Int)))], [(D.bool (x28.1 == (1 : Int)))], [(D.bool (x29.1 == (1 : Int)))]]))]), ((Ent.obj [(AV.dat (D.int IntKind.u64 x31.2))]) :: R)))
                         (some ((AV.agg [(AV.dat (D.int IntKind.i64 (12 : Int))), (AV.dat (D.int IntKind.i64 x23.1)), (AV.dat (D.int IntKind.i64 (0 : Int))), (AV.dat (D.int IntKind.i64 (0 : Int))), (AV.dat (D.str (ByteArray.mk (List.toArray [])))), (AV.dat (D.int IntKind.i64 (0 : Int))), (AV.dat (D.list LK.any 1 [[(D.bool (x25.1 == (1 : Int)))], [(D.bool (x26.1 == (1 : Int)))], [(D.bool (x27.1 == (1 : Int)))], [(D.bool (x28.1 == (1 : Int)))], [(D.bool (x29.1 == (1 : Int)))]]))]), ((Ent.obj [(AV.dat (D.int IntKind.u64 x31.2))]) :: R)))
                        )
                       )
                      )
                     )
                     (rGet (fnS (fun (p : Int × Int) => ((AV.dat (D.int IntKind.i64 p.1)), ((Ent.obj [(AV.dat (D.int IntKind.u64 p.2))]) :: R))) (R9 [(AV.ptr (Ref.glob 0) 0), (AV.dat (D.int IntKind.i64 (8 : Int)))] ((Ent.obj [(AV.dat (D.int IntKind.u64 x28.2))]) :: R))) fun x32 =>
                      (rAsk (x32.1 == (0 : Int))
                       (some ((AV.agg [(AV.dat (D.int IntKind.i64 (12 : Int))), (AV.dat (D.int IntKind.i64 x23.1)), (AV.dat (D.int IntKind.i64 (0 : Int))), (AV.dat (D.int IntKind.i64 (0 : Int))), (AV.dat (D.str (ByteArray.mk (List.toArray [])))), (AV.dat (D.int IntKind.i64 (0 : Int))), (AV.dat (D.list LK.any 1 [[(D.bool (x25.1 == (1 : Int)))], [(D.bool (x26.1 == (1 : Int)))], [(D.bool (x27.1 == (1 : Int)))], [(D.bool (x28.1 == (1 : Int)))]]))]), ((Ent.obj [(AV.dat (D.int IntKind.u64 x32.2))]) :: R)))
                       (some ((AV.agg [(AV.dat (D.int IntKind.i64 (12 : Int))), (AV.dat (D.int IntKind.i64 x23.1)), (AV.dat (D.int IntKind.i64 (0 : Int))), (AV.dat (D.int IntKind.i64 (0 : Int))), (AV.dat (D.str (ByteArray.mk (List.toArray [])))), (AV.dat (D.int IntKind.i64 (0 : Int))), (AV.dat (D.list LK.any 1 [[(D.bool (x25.1 == (1 : Int)))], [(D.bool (x26.1 == (1 : Int)))], [(D.bool (x27.1 == (1 : Int)))], [(D.bool (x28.1 == (1 : Int)))]]))]), ((Ent.obj [(AV.dat (D.int IntKind.u64 x32.2))]) :: R)))
                      )
                     )
                    )
                   )
                   (rGet (fnS (fun (p : Int × Int) => ((AV.dat (D.int IntKind.i64 p.1)), ((Ent.obj [(AV.dat (D.int IntKind.u64 p.2))]) :: R))) (R9 [(AV.ptr (Ref.glob 0) 0), (AV.dat (D.int IntKind.i64 (8 : Int)))] ((Ent.obj [(AV.dat (D.int IntKind.u64 x27.2))]) :: R))) fun x33 =>
                    (rAsk (x33.1 == (0 : Int))
                     (some ((AV.agg [(AV.dat (D.int IntKind.i64 (12 : Int))), (AV.dat (D.int IntKind.i64 x23.1)), (AV.dat (D.int IntKind.i64 (0 : Int))), (AV.dat (D.int IntKind.i64 (0 : Int))), (AV.dat (D.str (ByteArray.mk (List.toArray [])))), (AV.dat (D.int IntKind.i64 (0 : Int))), (AV.dat (D.list LK.any 1 [[(D.bool (x25.1 == (1 : Int)))], [(D.bool (x26.1 == (1 : Int)))], [(D.bool (x27.1 == (1 : Int)))]]))]), ((Ent.obj [(AV.dat (D.int IntKind.u64 x33.2))]) :: R)))
                     (some ((AV.agg [(AV.dat (D.int IntKind.i64 (12 : Int))), (AV.dat (D.int IntKind.i64 x23.1)), (AV.dat (D.int IntKind.i64 (0 : Int))), (AV.dat (D.int IntKind.i64 (0 : Int))), (AV.dat (D.str (ByteArray.mk (List.toArray [])))), (AV.dat (D.int IntKind.i64 (0 : Int))), (AV.dat (D.list LK.any 1 [[(D.bool (x25.1 == (1 : Int)))], [(D.bool (x26.1 == (1 : Int)))], [(D.bool (x27.1 == (1 : Int)))]]))]), ((Ent.obj [(AV.dat (D.int IntKind.u64 x33.2))]) :: R)))
                    )
                   )
                  )
                 )
                 (rGet (fnS (fun (p : Int × Int) => ((AV.dat (D.int IntKind.i64 p.1)), ((Ent.obj [(AV.dat (D.int IntKind.u64 p.2))]) :: R))) (R9 [(AV.ptr (Ref.glob 0) 0), (AV.dat (D.int IntKind.i64 (8 : Int)))] ((Ent.obj [(AV.dat (D.int IntKind.u64 x26.2))]) :: R))) fun x34 =>
                  (rAsk (x34.1 == (0 : Int))
                   (some ((AV.agg [(AV.dat (D.int IntKind.i64 (12 : Int))), (AV.dat (D.int IntKind.i64 x23.1)), (AV.dat (D.int IntKind.i64 (0 : Int))), (AV.dat (D.int IntKind.i64 (0 : Int))), (AV.dat (D.str (ByteArray.mk (List.toArray [])))), (AV.dat (D.int IntKind.i64 (0 : Int))), (AV.dat (D.list LK.any 1 [[(D.bool (x25.1 == (1 : Int)))], [(D.bool (x26.1 == (1 : Int)))]]))]), ((Ent.obj [(AV.dat (D.int IntKind.u64 x34.2))]) :: R)))
                   (some ((AV.agg [(AV.dat (D.int IntKind.i64 (12 : Int))), (AV.dat (D.int IntKind.i64 x23.1)), (AV.dat (D.int IntKind.i64 (0 : Int))), (AV.dat (D.int IntKind.i64 (0 : Int))), (AV.dat (D.str (ByteArray.mk (List.toArray [])))), (AV.dat (D.int IntKind.i64 (0 : Int))), (AV.dat (D.list LK.any 1 [[(D.bool (x25.1 == (1 : Int)))], [(D.bool (x26.1 == (1 : Int)))]]))]), ((Ent.obj [(AV.dat (D.int IntKind.u64 x34.2))]) :: R)))
                  )
                 )
                )
               )
               (rGet (fnS (fun (p : Int × Int) => ((AV.dat (D.int IntKind.i64 p.1)), ((Ent.obj [(AV.dat (D.int IntKind.u64 p.2))]) :: R))) (R9 [(AV.ptr (Ref.glob 0) 0), (AV.dat (D.int IntKind.i64 (8 : Int)))] ((Ent.obj [(AV.dat (D.int IntKind.u64 x25.2))]) :: R))) fun x35 =>
                (rAsk (x35.1 == (0 : Int))
                 (some ((AV.agg [(AV.dat (D.int IntKind.i64 (12 : Int))), (AV.dat (D.int IntKind.i64 x23.1)), (AV.dat (D.int IntKind.i64 (0 : Int))), (AV.dat (D.int IntKind.i64 (0 : Int))), (AV.dat (D.str (ByteArray.mk (List.toArray [])))), (AV.dat (D.int IntKind.i64 (0 : Int))), (AV.dat (D.list LK.any 1 [[(D.bool (x25.1 == (1 : Int)))]]))]), ((Ent.obj [(AV.dat (D.int IntKind.u64 x35.2))]) :: R)))
                 (some ((AV.agg [(AV.dat (D.int IntKind.i64 (12 : Int))), (AV.dat (D.int IntKind.i64 x23.1)), (AV.dat (D.int IntKind.i64 (0 : Int))), (AV.dat (D.int IntKind.i64 (0 : Int))), (AV.dat (D.str (ByteArray.mk (List.toArray [])))), (AV.dat (D.int IntKind.i64 (0 : Int))), (AV.dat (D.list LK.any 1 [[(D.bool (x25.1 == (1 : Int)))]]))]), ((Ent.obj [(AV.dat (D.int IntKind.u64 x35.2))]) :: R)))
                )
               )
              )
             )
             (rGet (fnS (fun (p : Int × Int) => ((AV.dat (D.int IntKind.i64 p.1)), ((Ent.obj [(AV.dat (D.int IntKind.u64 p.2))]) :: R))) (R9 [(AV.ptr (Ref.glob 0) 0), (AV.dat (D.int IntKind.i64 (8 : Int)))] ((Ent.obj [(AV.dat (D.int IntKind.u64 x24.2))]) :: R))) fun x36 =>
              (rAsk (x36.1 == (0 : Int))
               (some ((AV.agg [(AV.dat (D.int IntKind.i64 (12 : Int))), (AV.dat (D.int IntKind.i64 x23.1)), (AV.dat (D.int IntKind.i64 (0 : Int))), (AV.dat (D.int IntKind.i64 (0 : Int))), (AV.dat (D.str (ByteArray.mk (List.toArray [])))), (AV.dat (D.int IntKind.i64 (0 : Int))), (AV.dat (D.list LK.nil 0 ([] : Row)))]), ((Ent.obj [(AV.dat (D.int IntKind.u64 x36.2))]) :: R)))
               (some ((AV.agg [(AV.dat (D.int IntKind.i64 (12 : Int))), (AV.dat (D.int IntKind.i64 x23.1)), (AV.dat (D.int IntKind.i64 (0 : Int))), (AV.dat (D.int IntKind.i64 (0 : Int))), (AV.dat (D.str (ByteArray.mk (List.toArray [])))), (AV.dat (D.int IntKind.i64 (0 : Int))), (AV.dat (D.list LK.nil 0 ([] : Row)))]), ((Ent.obj [(AV.dat (D.int IntKind.u64 x36.2))]) :: R)))
              )
             )
            )
           )
          )
          (rAsk (x1.1 == (18 : Int))
           (rGet (fnS (fun (p : Int × Int) => ((AV.dat (D.int IntKind.i64 p.1)), ((Ent.obj [(AV.dat (D.int IntKind.u64 p.2))]) :: R))) (R9 [(AV.ptr (Ref.glob 0) 0), (AV.dat (D.int IntKind.i64 (2 : Int)))] ((Ent.obj [(AV.dat (D.int IntKind.u64 x1.2))]) :: R))) fun x37 =>
            (rGet (fnS (fun (p : Int × Int) => ((AV.dat (D.int IntKind.i64 p.1)), ((Ent.obj [(AV.dat (D.int IntKind.u64 p.2))]) :: R))) (R9 [(AV.ptr (Ref.glob 0) 0), (AV.dat (D.int IntKind.i64 (8 : Int)))] ((Ent.obj [(AV.dat (D.int IntKind.u64 x37.2))]) :: R))) fun x38 =>
             (rAsk (x38.1 == (0 : Int))
              (rGet (fnS (fun (p : Int × Int) => ((AV.dat (D.int IntKind.i64 p.1)), ((Ent.obj [(AV.dat (D.int IntKind.u64 p.2))]) :: R))) (R9 [(AV.ptr (Ref.glob 0) 0), (AV.dat (D.int IntKind.i64 (8 : Int)))] ((Ent.obj [(AV.dat (D.int IntKind.u64 x38.2))]) :: R))) fun x39 =>
               (some ((AV.agg [(AV.dat (D.int IntKind.i64 (13 : Int))), (AV.dat (D.int IntKind.i64 x37.1)), (AV.dat (D.int IntKind.i64 (0 : Int))), (AV.dat (D.int IntKind.i64 (0 : Int))), (AV.dat (D.str (ByteArray.mk (List.toArray [])))), (AV.dat (D.int IntKind.i64 (IntKind.wrap IntKind.i64 ((1 : Int) + x39.1)))), (AV.dat (D.list LK.nil 0 ([] : Row)))]), ((Ent.obj [(AV.dat (D.int IntKind.u64 x39.2))]) :: R)))
              )
              (some ((AV.agg [(AV.dat (D.int IntKind.i64 (13 : Int))), (AV.dat (D.int IntKind.i64 x37.1)), (AV.dat (D.int IntKind.i64 (0 : Int))), (AV.dat (D.int IntKind.i64 (0 : Int))), (AV.dat (D.str (ByteArray.mk (List.toArray [])))), (AV.dat (D.int IntKind.i64 (0 : Int))), (AV.dat (D.list LK.nil 0 ([] : Row)))]), ((Ent.obj [(AV.dat (D.int IntKind.u64 x38.2))]) :: R)))
             )
            )
           )
           (rGet (fnS (fun (p : Int × Int) => ((AV.dat (D.int IntKind.i64 p.1)), ((Ent.obj [(AV.dat (D.int IntKind.u64 p.2))]) :: R))) (R9 [(AV.ptr (Ref.glob 0) 0), (AV.dat (D.int IntKind.i64 (4 : Int)))] ((Ent.obj [(AV.dat (D.int IntKind.u64 x1.2))]) :: R))) fun x40 =>
            (rGet (fnS (fun (p : Int × Int) => ((AV.dat (D.int IntKind.i64 p.1)), ((Ent.obj [(AV.dat (D.int IntKind.u64 p.2))]) :: R))) (R9 [(AV.ptr (Ref.glob 0) 0), (AV.dat (D.int IntKind.i64 (8 : Int)))] ((Ent.obj [(AV.dat (D.int IntKind.u64 x40.2))]) :: R))) fun x41 =>
             (rAsk (x41.1 == (0 : Int))
              (rGet (fnS (fun (p : Int × Int) => ((AV.dat (D.int IntKind.i64 p.1)), ((Ent.obj [(AV.dat (D.int IntKind.u64 p.2))]) :: R))) (R9 [(AV.ptr (Ref.glob 0) 0), (AV.dat (D.int IntKind.i64 (8 : Int)))] ((Ent.obj [(AV.dat (D.int IntKind.u64 x41.2))]) :: R))) fun x42 =>
               (some ((AV.agg [(AV.dat (D.int IntKind.i64 (14 : Int))), (AV.dat (D.int IntKind.i64 (0 : Int))), (AV.dat (D.int IntKind.i64 x40.1)), (AV.dat (D.int IntKind.i64 (0 : Int))), (AV.dat (D.str (ByteArray.mk (List.toArray [])))), (AV.dat (D.int IntKind.i64 (IntKind.wrap IntKind.i64 ((1 : Int) + x42.1)))), (AV.dat (D.list LK.nil 0 ([] : Row)))]), ((Ent.obj [(AV.dat (D.int IntKind.u64 x42.2))]) :: R)))
              )
              (some ((AV.agg [(AV.dat (D.int IntKind.i64 (14 : Int))), (AV.dat (D.int IntKind.i64 (0 : Int))), (AV.dat (D.int IntKind.i64 x40.1)), (AV.dat (D.int IntKind.i64 (0 : Int))), (AV.dat (D.str (ByteArray.mk (List.toArray [])))), (AV.dat (D.int IntKind.i64 (0 : Int))), (AV.dat (D.list LK.nil 0 ([] : Row)))]), ((Ent.obj [(AV.dat (D.int IntKind.u64 x41.2))]) :: R)))
             )
            )
           )
          )
         )
        )
       )
      )
     )
    )
   )
  )
  := by kernel_rfl
end Go.Eng
end

/- The document's Step, as a tree. -/
section
namespace Go.Eng
open Go
set_option maxRecDepth 100000

theorem m14a_eq (x : Int) (R : List Ent) : (m14a x R).ev =
  (rGet (fnS (fun (p : Int × Int) => ((AV.dat (D.int IntKind.i64 p.1)), ((Ent.obj [(AV.dat (D.int IntKind.u64 p.2))]) :: R))) (R10 [(AV.ptr (Ref.glob 0) 0), (AV.dat (D.int IntKind.i64 (20 : Int)))] ((Ent.obj [(AV.dat (D.int IntKind.u64 x))]) :: R))) fun x1 =>
   (rAsk (decide (x1.1 < (5 : Int)))
    (rGet (fnS (fun (p : Int × Int) => ((AV.dat (D.int IntKind.i64 p.1)), ((Ent.obj [(AV.dat (D.int IntKind.u64 p.2))]) :: R))) (R10 [(AV.ptr (Ref.glob 0) 0), (AV.dat (D.int IntKind.i64 (4 : Int)))] ((Ent.obj [(AV.dat (D.int IntKind.u64 x1.2))]) :: R))) fun x2 =>
     (rGet (fnS (fun (p : Int × Int) => ((AV.dat (D.int IntKind.i64 p.1)), ((Ent.obj [(AV.dat (D.int IntKind.u64 p.2))]) :: R))) (R10 [(AV.ptr (Ref.glob 0) 0), (AV.dat (D.int IntKind.i64 (5 : Int)))] ((Ent.obj [(AV.dat (D.int IntKind.u64 x2.2))]) :: R))) fun x3 =>
      (rGet (fnS (fun (s : ByteArray) => ((AV.dat (D.str s)), ((Ent.obj [(AV.dat (D.int IntKind.u64 x3.2))]) :: R))) (P25 [(AV.dat (D.int IntKind.u8 (IntKind.wrap IntKind.u8 x3.1)))] ((Ent.obj [(AV.dat (D.int IntKind.u64 x3.2))]) :: R))) fun x4 =>
       (rGet (fnS (fun (p : Int × Int) => ((AV.dat (D.int IntKind.i64 p.1)), ((Ent.obj [(AV.dat (D.int IntKind.u64 p.2))]) :: R))) (R10 [(AV.ptr (Ref.glob 0) 0), (AV.dat (D.int IntKind.i64 (8 : Int)))] ((Ent.obj [(AV.dat (D.int IntKind.u64 x3.2))]) :: R))) fun x5 =>
        (rAsk (x5.1 == (0 : Int))
         (rAsk (x1.1 != (17 : Int))
          (rGet (fnS (fun (p : Int × Int) => ((AV.dat (D.int IntKind.i64 p.1)), ((Ent.obj [(AV.dat (D.int IntKind.u64 p.2))]) :: R))) (R10 [(AV.ptr (Ref.glob 0) 0), (AV.dat (D.int IntKind.i64 (8 : Int)))] ((Ent.obj [(AV.dat (D.int IntKind.u64 x5.2))]) :: R))) fun x6 =>
           (some ((AV.agg [(AV.dat (D.int IntKind.i64 (2 : Int))), (AV.dat (D.int IntKind.i64 (0 : Int))), (AV.dat (D.int IntKind.i64 x2.1)), (AV.dat (D.int IntKind.i64 (0 : Int))), (AV.dat (D.str x4)), (AV.dat (D.int IntKind.i64 (IntKind.wrap IntKind.i64 ((1 : Int) + x6.1)))), (AV.dat (D.list LK.nil 0 ([] : Row)))]), ((Ent.obj [(AV.dat (D.int IntKind.u64 x6.2))]) :: R)))
          )
          (some ((AV.agg [(AV.dat (D.int IntKind.i64 (2 : Int))), (AV.dat (D.int IntKind.i64 (0 : Int))), (AV.dat (D.int IntKind.i64 x2.1)), (AV.dat (D.int IntKind.i64 (0 : Int))), (AV.dat (D.str x4)), (AV.dat (D.int IntKind.i64 (0 : Int))), (AV.dat (D.list LK.nil 0 ([] : Row)))]), ((Ent.obj [(AV.dat (D.int IntKind.u64 x5.2))]) :: R)))
         )
         (some ((AV.agg [(AV.dat (D.int IntKind.i64 (2 : Int))), (AV.dat (D.int IntKind.i64 (0 : Int))), (AV.dat (D.int IntKind.i64 x2.1)), (AV.dat (D.int IntKind.i64 (0 : Int))), (AV.dat (D.str x4)), (AV.dat (D.int IntKind.i64 (0 : Int))), (AV.dat (D.list LK.nil 0 ([] : Row)))]), ((Ent.obj [(AV.dat (D.int IntKind.u64 x5.2))]) :: R)))
        )
       )
      )
     )
    )
    (rAsk (x1.1 == (5 : Int))
     (rGet (fnS (fun (p : Int × Int) => ((AV.dat (D.int IntKind.i64 p.1)), ((Ent.obj [(AV.dat (D.int IntKind.u64 p.2))]) :: R))) (R10 [(AV.ptr (Ref.glob 0) 0), (AV.dat (D.int IntKind.i64 (8 : Int)))] ((Ent.obj [(AV.dat (D.int IntKind.u64 x1.2))]) :: R))) fun x7 =>
      (rAsk (x7.1 == (0 : Int))
       (rAsk (x1.1 != (17 : Int))
        (rGet (fnS (fun (p : Int × Int) => ((AV.dat (D.int IntKind.i64 p.1)), ((Ent.obj [(AV.dat (D.int IntKind.u64 p.2))]) :: R))) (R10 [(AV.ptr (Ref.glob 0) 0), (AV.dat (D.int IntKind.i64 (8 : Int)))] ((Ent.obj [(AV.dat (D.int IntKind.u64 x7.2))]) :: R))) fun x8 =>
         (some ((AV.agg [(AV.dat (D.int IntKind.i64 (3 : Int))), (AV.dat (D.int IntKind.i64 (0 : Int))), (AV.dat (D.int IntKind.i64 (0 : Int))), (AV.dat (D.int IntKind.i64 (0 : Int))), (AV.dat (D.str (ByteArray.mk (List.toArray [])))), (AV.dat (D.int IntKind.i64 (IntKind.wrap IntKind.i64 ((1 : Int) + x8.1)))), (AV.dat (D.list LK.nil 0 ([] : Row)))]), ((Ent.obj [(AV.dat (D.int IntKind.u64 x8.2))]) :: R)))
        )
        (some ((AV.agg [(AV.dat (D.int IntKind.i64 (3 : Int))), (AV.dat (D.int IntKind.i64 (0 : Int))), (AV.dat (D.int IntKind.i64 (0 : Int))), (AV.dat (D.int IntKind.i64 (0 : Int))), (AV.dat (D.str (ByteArray.mk (List.toArray [])))), (AV.dat (D.int IntKind.i64 (0 : Int))), (AV.dat (D.list LK.nil 0 ([] : Row)))]), ((Ent.obj [(AV.dat (D.int IntKind.u64 x7.2))]) :: R)))
       )
       (some ((AV.agg [(AV.dat (D.int IntKind.i64 (3 : Int))), (AV.dat (D.int IntKind.i64 (0 : Int))), (AV.dat (D.int IntKind.i64 (0 : Int))), (AV.dat (D.int IntKind.i64 (0 : Int))), (AV.dat (D.str (ByteArray.mk (List.toArray [])))), (AV.dat (D.int IntKind.i64 (0 : Int))), (AV.dat (D.list LK.nil 0 ([] : Row)))]), ((Ent.obj [(AV.dat (D.int IntKind.u64 x7.2))]) :: R)))
      )
     )
     (rAsk (x1.1 == (6 : Int))
      (rGet (fnS (fun (p : Int × Int) => ((AV.dat (D.int IntKind.i64 p.1)), ((Ent.obj [(AV.dat (D.int IntKind.u64 p.2))]) :: R))) (R10 [(AV.ptr (Ref.glob 0) 0), (AV.dat (D.int IntKind.i64 (8 : Int)))] ((Ent.obj [(AV.dat (D.int IntKind.u64 x1.2))]) :: R))) fun x9 =>
       (rAsk (x9.1 == (0 : Int))
        (rAsk (x1.1 != (17 : Int))
         (rGet (fnS (fun (p : Int × Int) => ((AV.dat (D.int IntKind.i64 p.1)), ((Ent.obj [(AV.dat (D.int IntKind.u64 p.2))]) :: R))) (R10 [(AV.ptr (Ref.glob 0) 0), (AV.dat (D.int IntKind.i64 (8 : Int)))] ((Ent.obj [(AV.dat (D.int IntKind.u64 x9.2))]) :: R))) fun x10 =>
          (some ((AV.agg [(AV.dat (D.int IntKind.i64 (4 : Int))), (AV.dat (D.int IntKind.i64 (0 : Int))), (AV.dat (D.int IntKind.i64 (0 : Int))), (AV.dat (D.int IntKind.i64 (0 : Int))), (AV.dat (D.str (ByteArray.mk (List.toArray [])))), (AV.dat (D.int IntKind.i64 (IntKind.wrap IntKind.i64 ((1 : Int) + x10.1)))), (AV.dat (D.list LK.nil 0 ([] : Row)))]), ((Ent.obj [(AV.dat (D.int IntKind.u64 x10.2))]) :: R)))
         )
         (some ((AV.agg [(AV.dat (D.int IntKind.i64 (4 : Int))), (AV.dat (D.int IntKind.i64 (0 : Int))), (AV.dat (D.int IntKind.i64 (0 : Int))), (AV.dat (D.int IntKind.i64 (0 : Int))), (AV.dat (D.str (ByteArray.mk (List.toArray [])))), (AV.dat (D.int IntKind.i64 (0 : Int))), (AV.dat (D.list LK.nil 0 ([] : Row)))]), ((Ent.obj [(AV.dat (D.int IntKind.u64 x9.2))]) :: R)))
        )
        (some ((AV.agg [(AV.dat (D.int IntKind.i64 (4 : Int))), (AV.dat (D.int IntKind.i64 (0 : Int))), (AV.dat (D.int IntKind.i64 (0 : Int))), (AV.dat (D.int IntKind.i64 (0 : Int))), (AV.dat (D.str (ByteArray.mk (List.toArray [])))), (AV.dat (D.int IntKind.i64 (0 : Int))), (AV.dat (D.list LK.nil 0 ([] : Row)))]), ((Ent.obj [(AV.dat (D.int IntKind.u64 x9.2))]) :: R)))
       )
      )
      (rAsk (x1.1 == (7 : Int))
       (rGet (fnS (fun (p : Int × Int) => ((AV.dat (D.int IntKind.i64 p.1)), ((Ent.obj [(AV.dat (D.int IntKind.u64 p.2))]) :: R))) (R10 [(AV.ptr (Ref.glob 0) 0), (AV.dat (D.int IntKind.i64 (8 : Int)))] ((Ent.obj [(AV.dat (D.int IntKind.u64 x1.2))]) :: R))) fun x11 =>
        (rAsk (x11.1 == (0 : Int))
         (rAsk (x1.1 != (17 : Int))
          (rGet (fnS (fun (p : Int × Int) => ((AV.dat (D.int IntKind.i64 p.1)), ((Ent.obj [(AV.dat (D.int IntKind.u64 p.2))]) :: R))) (R10 [(AV.ptr (Ref.glob 0) 0), (AV.dat (D.int IntKind.i64 (8 : Int)))] ((Ent.obj [(AV.dat (D.int IntKind.u64 x11.2))]) :: R))) fun x12 =>
           (some ((AV.agg [(AV.dat (D.int IntKind.i64 (5 : Int))), (AV.dat (D.int IntKind.i64 (0 : Int))), (AV.dat (D.int IntKind.i64 (0 : Int))), (AV.dat (D.int IntKind.i64 (0 : Int))), (AV.dat (D.str (ByteArray.mk (List.toArray [])))), (AV.dat (D.int IntKind.i64 (IntKind.wrap IntKind.i64 ((1 : Int) + x12.1)))), (AV.dat (D.list LK.nil 0 ([] : Row)))]), ((Ent.obj [(AV.dat (D.int IntKind.u64 x12.2))]) :: R)))
          )
          (some ((AV.agg [(AV.dat (D.int IntKind.i64 (5 : Int))), (AV.dat (D.int IntKind.i64 (0 : Int))), (AV.dat (D.int IntKind.i64 (0 : Int))), (AV.dat (D.int IntKind.i64 (0 : Int))), (AV.dat (D.str (ByteArray.mk (List.toArray [])))), (AV.dat (D.int IntKind.i64 (0 : Int))), (AV.dat (D.list LK.nil 0 ([] : Row)))]), ((Ent.obj [(AV.dat (D.int IntKind.u64 x11.2))]) :: R)))
         )
         (some ((AV.agg [(AV.dat (D.int IntKind.i64 (5 : Int))), (AV.dat (D.int IntKind.i64 (0 : Int))), (AV.dat (D.int IntKind.i64 (0 : Int))), (AV.dat (D.int IntKind.i64 (0 : Int))), (AV.dat (D.str (ByteArray.mk (List.toArray [])))), (AV.dat (D.int IntKind.i64 (0 : Int))), (AV.dat (D.list LK.nil 0 ([] : Row)))]), ((Ent.obj [(AV.dat (D.int IntKind.u64 x11.2))]) :: R)))
        )
       )
       (rAsk (decide (x1.1 < (14 : Int)))
        (rGet (fnS (fun (p : Int × Int) => ((AV.dat (D.int IntKind.i64 p.1)), ((Ent.obj [(AV.dat (D.int IntKind.u64 p.2))]) :: R))) (R10 [(AV.ptr (Ref.glob 0) 0), (AV.dat (D.int IntKind.i64 (8 : Int)))] ((Ent.obj [(AV.dat (D.int IntKind.u64 x1.2))]) :: R))) fun x13 =>
         (rAsk (x13.1 == (0 : Int))
          (rAsk (x1.1 != (17 : Int))
           (rGet (fnS (fun (p : Int × Int) => ((AV.dat (D.int IntKind.i64 p.1)), ((Ent.obj [(AV.dat (D.int IntKind.u64 p.2))]) :: R))) (R10 [(AV.ptr (Ref.glob 0) 0), (AV.dat (D.int IntKind.i64 (8 : Int)))] ((Ent.obj [(AV.dat (D.int IntKind.u64 x13.2))]) :: R))) fun x14 =>
            (some ((AV.agg [(AV.dat (D.int IntKind.i64 (7 : Int))), (AV.dat (D.int IntKind.i64 (0 : Int))), (AV.dat (D.int IntKind.i64 (0 : Int))), (AV.dat (D.int IntKind.i64 (0 : Int))), (AV.dat (D.str (ByteArray.mk (List.toArray [])))), (AV.dat (D.int IntKind.i64 (IntKind.wrap IntKind.i64 ((1 : Int) + x14.1)))), (AV.dat (D.list LK.nil 0 ([] : Row)))]), ((Ent.obj [(AV.dat (D.int IntKind.u64 x14.2))]) :: R)))
           )
           (some ((AV.agg [(AV.dat (D.int IntKind.i64 (7 : Int))), (AV.dat (D.int IntKind.i64 (0 : Int))), (AV.dat (D.int IntKind.i64 (0 : Int))), (AV.dat (D.int IntKind.i64 (0 : Int))), (AV.dat (D.str (ByteArray.mk (List.toArray [])))), (AV.dat (D.int IntKind.i64 (0 : Int))), (AV.dat (D.list LK.nil 0 ([] : Row)))]), ((Ent.obj [(AV.dat (D.int IntKind.u64 x13.2))]) :: R)))
          )
          (some ((AV.agg [(AV.dat (D.int IntKind.i64 (7 : Int))), (AV.dat (D.int IntKind.i64 (0 : Int))), (AV.dat (D.int IntKind.i64 (0 : Int))), (AV.dat (D.int IntKind.i64 (0 : Int))), (AV.dat (D.str (ByteArray.mk (List.toArray [])))), (AV.dat (D.int IntKind.i64 (0 : Int))), (AV.dat (D.list LK.nil 0 ([] : Row)))]), ((Ent.obj [(AV.dat (D.int IntKind.u64 x13.2))]) :: R)))
         )
        )
        (rAsk (x1.1 == (14 : Int))
         (rGet (fnS (fun (p : Int × Int) => ((AV.dat (D.int IntKind.i64 p.1)), ((Ent.obj [(AV.dat (D.int IntKind.u64 p.2))]) :: R))) (R10 [(AV.ptr (Ref.glob 0) 0), (AV.dat (D.int IntKind.i64 (2 : Int)))] ((Ent.obj [(AV.dat (D.int IntKind.u64 x1.2))]) :: R))) fun x15 =>
          (rGet (fnS (fun (p : Int × Int) => ((AV.dat (D.int IntKind.i64 p.1)), ((Ent.obj [(AV.dat (D.int IntKind.u64 p.2))]) :: R))) (R10 [(AV.ptr (Ref.glob 0) 0), (AV.dat (D.int IntKind.i64 (8 : Int)))] ((Ent.obj [(AV.dat (D.int IntKind.u64 x15.2))]) :: R))) fun x16 =>
           (rAsk (x16.1 == (0 : Int))
            (rAsk (x1.1 != (17 : Int))
             (rGet (fnS (fun (p : Int × Int) => ((AV.dat (D.int IntKind.i64 p.1)), ((Ent.obj [(AV.dat (D.int IntKind.u64 p.2))]) :: R))) (R10 [(AV.ptr (Ref.glob 0) 0), (AV.dat (D.int IntKind.i64 (8 : Int)))] ((Ent.obj [(AV.dat (D.int IntKind.u64 x16.2))]) :: R))) fun x17 =>
              (some ((AV.agg [(AV.dat (D.int IntKind.i64 (6 : Int))), (AV.dat (D.int IntKind.i64 x15.1)), (AV.dat (D.int IntKind.i64 (0 : Int))), (AV.dat (D.int IntKind.i64 (0 : Int))), (AV.dat (D.str (ByteArray.mk (List.toArray [])))), (AV.dat (D.int IntKind.i64 (IntKind.wrap IntKind.i64 ((1 : Int) + x17.1)))), (AV.dat (D.list LK.nil 0 ([] : Row)))]), ((Ent.obj [(AV.dat (D.int IntKind.u64 x17.2))]) :: R)))
             )
             (some ((AV.agg [(AV.dat (D.int IntKind.i64 (6 : Int))), (AV.dat (D.int IntKind.i64 x15.1)), (AV.dat (D.int IntKind.i64 (0 : Int))), (AV.dat (D.int IntKind.i64 (0 : Int))), (AV.dat (D.str (ByteArray.mk (List.toArray [])))), (AV.dat (D.int IntKind.i64 (0 : Int))), (AV.dat (D.list LK.nil 0 ([] : Row)))]), ((Ent.obj [(AV.dat (D.int IntKind.u64 x16.2))]) :: R)))
            )
            (some ((AV.agg [(AV.dat (D.int IntKind.i64 (6 : Int))), (AV.dat (D.int IntKind.i64 x15.1)), (AV.dat (D.int IntKind.i64 (0 : Int))), (AV.dat (D.int IntKind.i64 (0 : Int))), (AV.dat (D.str (ByteArray.mk (List.toArray [])))), (AV.dat (D.int IntKind.i64 (0 : Int))), (AV.dat (D.list LK.nil 0 ([] : Row)))]), ((Ent.obj [(AV.dat (D.int IntKind.u64 x16.2))]) :: R)))
           )
          )
         )
         (rAsk (x1.1 == (15 : Int))
          (rGet (fnS (fun (p : Int × Int) => ((AV.dat (D.int IntKind.i64 p.1)), ((Ent.obj [(AV.dat (D.int IntKind.u64 p.2))]) :: R))) (R10 [(AV.ptr (Ref.glob 0) 0), (AV.dat (D.int IntKind.i64 (2 : Int)))] ((Ent.obj [(AV.dat (D.int IntKind.u64 x1.2))]) :: R))) fun x18 =>
           (rGet (fnS (fun (p : Int × Int) => ((AV.dat (D.int IntKind.i64 p.1)), ((Ent.obj [(AV.dat (D.int IntKind.u64 p.2))]) :: R))) (R10 [(AV.ptr (Ref.glob 0) 0), (AV.dat (D.int IntKind.i64 (8 : Int)))] ((Ent.obj [(AV.dat (D.int IntKind.u64 x18.2))]) :: R))) fun x19 =>
            (rAsk (x19.1 == (0 : Int))
             (rAsk (x1.1 != (17 : Int))
              (rGet (fnS (fun (p : Int × Int) => ((AV.dat (D.int IntKind.i64 p.1)), ((Ent.obj [(AV.dat (D.int IntKind.u64 p.2))]) :: R))) (R10 [(AV.ptr (Ref.glob 0) 0), (AV.dat (D.int IntKind.i64 (8 : Int)))] ((Ent.obj [(AV.dat (D.int IntKind.u64 x19.2))]) :: R))) fun x20 =>
               (some ((AV.agg [(AV.dat (D.int IntKind.i64 (8 : Int))), (AV.dat (D.int IntKind.i64 (0 : Int))), (AV.dat (D.int IntKind.i64 (0 : Int))), (AV.dat (D.int IntKind.i64 x18.1)), (AV.dat (D.str (ByteArray.mk (List.toArray [])))), (AV.dat (D.int IntKind.i64 (IntKind.wrap IntKind.i64 ((1 : Int) + x20.1)))), (AV.dat (D.list LK.nil 0 ([] : Row)))]), ((Ent.obj [(AV.dat (D.int IntKind.u64 x20.2))]) :: R)))
              )
              (some ((AV.agg [(AV.dat (D.int IntKind.i64 (8 : Int))), (AV.dat (D.int IntKind.i64 (0 : Int))), (AV.dat (D.int IntKind.i64 (0 : Int))), (AV.dat (D.int IntKind.i64 x18.1)), (AV.dat (D.str (ByteArray.mk (List.toArray [])))), (AV.dat (D.int IntKind.i64 (0 : Int))), (AV.dat (D.list LK.nil 0 ([] : Row)))]), ((Ent.obj [(AV.dat (D.int IntKind.u64 x19.2))]) :: R)))
             )
             (some ((AV.agg [(AV.dat (D.int IntKind.i64 (8 : Int))), (AV.dat (D.int IntKind.i64 (0 : Int))), (AV.dat (D.int IntKind.i64 (0 : Int))), (AV.dat (D.int IntKind.i64 x18.1)), (AV.dat (D.str (ByteArray.mk (List.toArray [])))), (AV.dat (D.int IntKind.i64 (0 : Int))), (AV.dat (D.list LK.nil 0 ([] : Row)))]), ((Ent.obj [(AV.dat (D.int IntKind.u64 x19.2))]) :: R)))
            )
           )
          )
          (rAsk (x1.1 == (16 : Int))
           (rGet (fnS (fun (p : Int × Int) => ((AV.dat (D.int IntKind.i64 p.1)), ((Ent.obj [(AV.dat (D.int IntKind.u64 p.2))]) :: R))) (R10 [(AV.ptr (Ref.glob 0) 0), (AV.dat (D.int IntKind.i64 (8 : Int)))] ((Ent.obj [(AV.dat (D.int IntKind.u64 x1.2))]) :: R))) fun x21 =>
            (rAsk (x21.1 == (0 : Int))
             (rAsk (x1.1 != (17 : Int))
              (rGet (fnS (fun (p : Int × Int) => ((AV.dat (D.int IntKind.i64 p.1)), ((Ent.obj [(AV.dat (D.int IntKind.u64 p.2))]) :: R))) (R10 [(AV.ptr (Ref.glob 0) 0), (AV.dat (D.int IntKind.i64 (8 : Int)))] ((Ent.obj [(AV.dat (D.int IntKind.u64 x21.2))]) :: R))) fun x22 =>
               (some ((AV.agg [(AV.dat (D.int IntKind.i64 (9 : Int))), (AV.dat (D.int IntKind.i64 (0 : Int))), (AV.dat (D.int IntKind.i64 (0 : Int))), (AV.dat (D.int IntKind.i64 (0 : Int))), (AV.dat (D.str (ByteArray.mk (List.toArray [])))), (AV.dat (D.int IntKind.i64 (IntKind.wrap IntKind.i64 ((1 : Int) + x22.1)))), (AV.dat (D.list LK.nil 0 ([] : Row)))]), ((Ent.obj [(AV.dat (D.int IntKind.u64 x22.2))]) :: R)))
              )
              (some ((AV.agg [(AV.dat (D.int IntKind.i64 (9 : Int))), (AV.dat (D.int IntKind.i64 (0 : Int))), (AV.dat (D.int IntKind.i64 (0 : Int))), (AV.dat (D.int IntKind.i64 (0 : Int))), (AV.dat (D.str (ByteArray.mk (List.toArray [])))), (AV.dat (D.int IntKind.i64 (0 : Int))), (AV.dat (D.list LK.nil 0 ([] : Row)))]), ((Ent.obj [(AV.dat (D.int IntKind.u64 x21.2))]) :: R)))
             )
             (some ((AV.agg [(AV.dat (D.int IntKind.i64 (9 : Int))), (AV.dat (D.int IntKind.i64 (0 : Int))), (AV.dat (D.int IntKind.i64 (0 : Int))), (AV.dat (D.int IntKind.i64 (0 : Int))), (AV.dat (D.str (ByteArray.mk (List.toArray [])))), (AV.dat (D.int IntKind.i64 (0 : Int))), (AV.dat (D.list LK.nil 0 ([] : Row)))]), ((Ent.obj [(AV.dat (D.int IntKind.u64 x21.2))]) :: R)))
            )
           )
           (rAsk (x1.1 == (17 : Int))
            (rGet (fnS (fun (p : Int × Int) => ((AV.dat (D.int IntKind.i64 p.1)), ((Ent.obj [(AV.dat (D.int IntKind.u64 p.2))]) :: R))) (R10 [(AV.ptr (Ref.glob 0) 0), (AV.dat (D.int IntKind.i64 (2 : Int)))] ((Ent.obj [(AV.dat (D.int IntKind.u64 x1.2))]) :: R))) fun x23 =>
             (rGet (fnS (fun (p : Int × Int) => ((AV.dat (D.int IntKind.i64 p.1)), ((Ent.obj [(AV.dat (D.int IntKind.u64 p.2))]) :: R))) (R10 [(AV.ptr (Ref.glob 0) 0), (AV.dat (D.int IntKind.i64 (4 : Int)))] ((Ent.obj [(AV.dat (D.int IntKind.u64 x23.2))]) :: R))) fun x24 =>
              (rAsk (decide ((0 : Int) < x24.1))
               (rGet (fnS (fun (p : Int × Int) => ((AV.dat (D.int IntKind.i64 p.1)), ((Ent.obj [(AV.dat (D.int IntKind.u64 p.2))]) :: R))) (R10 [(AV.ptr (Ref.glob 0) 0), (AV.dat (D.int IntKind.i64 (2 : Int)))] ((Ent.obj [(AV.dat (D.int IntKind.u64 x24.2))]) :: R))) fun x25 =>
                (rAsk (decide ((1 : Int) < x24.1))
                 (rGet (fnS (fun (p : Int × Int) => ((AV.dat (D.int IntKind.i64 p.1)), ((Ent.obj [(AV.dat (D.int IntKind.u64 p.2))]) :: R))) (R10 [(AV.ptr (Ref.glob 0) 0), (AV.dat (D.int IntKind.i64 (2 : Int)))] ((Ent.obj [(AV.dat (D.int IntKind.u64 x25.2))]) :: R))) fun x26 =>
                  (rAsk (decide ((2 : Int) < x24.1))
                   (rGet (fnS (fun (p : Int × Int) => ((AV.dat (D.int IntKind.i64 p.1)), ((Ent.obj [(AV.dat (D.int IntKind.u64 p.2))]) :: R))) (R10 [(AV.ptr (Ref.glob 0) 0), (AV.dat (D.int IntKind.i64 (2 : Int)))] ((Ent.obj [(AV.dat (D.int IntKind.u64 x26.2))]) :: R))) fun x27 =>
                    (rAsk (decide ((3 : Int) < x24.1))
                     (rGet (fnS (fun (p : Int × Int) => ((AV.dat (D.int IntKind.i64 p.1)), ((Ent.obj [(AV.dat (D.int IntKind.u64 p.2))]) :: R))) (R10 [(AV.ptr (Ref.glob 0) 0), (AV.dat (D.int IntKind.i64 (2 : Int)))] ((Ent.obj [(AV.dat (D.int IntKind.u64 x27.2))]) :: R))) fun x28 =>
                      (rAsk (decide ((4 : Int) < x24.1))
                       (rGet (fnS (fun (p : Int × Int) => ((AV.dat (D.int IntKind.i64 p.1)), ((Ent.obj [(AV.dat (D.int IntKind.u64 p.2))]) :: R))) (R10 [(AV.ptr (Ref.glob 0) 0), (AV.dat (D.int IntKind.i64 (2 : Int)))] ((Ent.obj [(AV.dat (D.int IntKind.u64 x28.2))]) :: R))) fun x29 =>
                        (rAsk (decide ((5 : Int) < x24.1))
                         (rGet (fnS (fun (p : Int × Int) => ((AV.dat (D.int IntKind.i64 p.1)), ((Ent.obj [(AV.dat (D.int IntKind.u64 p.2))]) :: R))) (R10 [(AV.ptr (Ref.glob 0) 0), (AV.dat (D.int IntKind.i64 (2 : Int)))] ((Ent.obj [(AV.dat (D.int IntKind.u64 x29.2))]) :: R))) fun x30 =>
                          none
                         )
                         (rGet (fnS (fun (p : Int × Int) => ((AV.dat (D.int IntKind.i64 p.1)), ((Ent.obj [(AV.dat (D.int IntKind.u64 p.2))]) :: R))) (R10 [(AV.ptr (Ref.glob 0) 0), (AV.dat (D.int IntKind.i64 (8 : Int)))] ((Ent.obj [(AV.dat (D.int IntKind.u64 x29.2))]) :: R))) fun x31 =>
                          (rAsk (x31.1 == (0 : Int))
                           (rAsk (x1.1 != (17 : Int))
                            (rGet (fnS (fun (p : Int × Int) => ((AV.dat (D.int IntKind.i64 p.1)), ((Ent.obj [(AV.dat (D.int IntKind.u64 p.2))]) :: R))) (R10 [(AV.ptr (Ref.glob 0) 0), (AV.dat (D.int IntKind.i64 (8 : Int)))] ((Ent.obj [(AV.dat (D.int IntKind.u64 x31.2))]) :: R))) fun x32 =>
                             (some ((AV.agg [(AV.dat (D.int IntKind.i64 (12 : Int))), (AV.dat (D.int IntKind.i64 x23.1)), (AV.dat (D.int IntKind.i64 (0 : Int))), (AV.dat (D.int IntKind.i64 (0 : Int))), (AV.dat (D.str (ByteArray.mk (List.toArray [])))), (AV.dat (D.int IntKind.i64 (IntKind.wrap IntKind.i64 ((1 : Int) + x32.1)))), (AV.dat (D.list LK.any 1 [[(D.bool (x25.1 == (1 : Int)))], [(D.bool (x26.1 == (1 : Int)))], [(D.bool (x27.1 == (1 : Int)))], [(D.bool (x28.1 == (1 : Int)))], [(D.bool (x29.1 == (1 : Int)))]]))]), ((Ent.obj [(AV.dat (D.int IntKind.u64 x32.2))]) :: R)))
                            )
                            (some ((AV.agg [(AV.dat (D.int IntKind.i64 (12 : Int))), (AV.dat (D.int IntKind.i64 x23.1)), (AV.dat (D.int IntKind.i64 (0 : Int))), (AV.dat (D.int IntKind.i64 (0 : Int))), (AV.dat (D.str (ByteArray.mk (List.toArray [])))), (AV.dat (D.int IntKind.i64 (0 : Int))), (AV.dat (D.list LK.any 1 [[(D.bool (x25.1 == (1 : Int)))], [(D.bool (x26.1 == (1 : Int)))], [(D.bool (x27.1 == (1 : Int)))], [(D.bool (x28.1 == (1 : Int)))], [(D.bool (x29.1 == (1 : Int)))]]))]), ((Ent.obj [(AV.dat (D.int IntKind.u64 x31.2))]) :: R)))
                           )
                           (some ((AV.agg [(AV.dat (D.int IntKind.i64 (12 : Int))), (AV.dat (D.int IntKind.i64 x23.1)), (AV.dat (D.int IntKind.i64 (0 : Int))), (AV.dat (D.int IntKind.i64 (0 : Int))), (AV.dat (D.str (ByteArray.mk (List.toArray [])))), (AV.dat (D.int IntKind.i64 (0 : Int))), (AV.dat (D.list LK.any 1 [[(D.bool (x25.1 == (1 : Int)))], [(D.bool (x26.1 == (1 : Int)))], [(D.bool (x27.1 == (1 : Int)))], [(D.bool (x28.1 == (1 : Int)))], [(D.bool (x29.1 == (1 : Int)))]]))]), ((Ent.obj [(AV.dat (D.int IntKind.u64 x31.2))]) :: R)))
                          )
                         )
                        )
                       )
                       (rGet (fnS (fun (p : Int × Int) => ((AV.dat (D.int IntKind.i64 p.1)), ((Ent.obj [(AV.dat (D.int IntKind.u64 p.2))]) :: R))) (R10 [(AV.ptr (Ref.glob 0) 0), (AV.dat (D.int IntKind.i64 (8 : Int)))] ((Ent.obj [(AV.dat (D.int IntKind.u64 x28.2))]) :: R))) fun x33 =>
                        (rAsk (x33.1 == (0 : Int))
                         (rAsk (x1.1 != (17 : Int))
                          (rGet (fnS (fun (p : Int × Int) => ((AV.dat (D.int IntKind.i64 p.1)), ((Ent.obj [(AV.dat (D.int IntKind.u64 p.2))]) :: R))) (R10 [(AV.ptr (Ref.glob 0) 0), (AV.dat (D.int IntKind.i64 (8 : Int)))] ((Ent.obj [(AV.dat (D.int IntKind.u64 x33.2))]) :: R))) fun x34 =>
                           (some ((AV.agg [(AV.dat (D.int IntKind.i64 (12 : Int))), (AV.dat (D.int IntKind.i64 x23.1)), (AV.dat (D.int IntKind.i64 (0 : Int))), (AV.dat (D.int IntKind.i64 (0 : Int))), (AV.dat (D.str (ByteArray.mk (List.toArray [])))), (AV.dat (D.int IntKind.i64 (IntKind.wrap IntKind.i64 ((1 : Int) + x34.1)))), (AV.dat (D.list LK.any 1 [[(D.bool (x25.1 == (1 : Int)))], [(D.bool (x26.1 == (1 : Int)))], [(D.bool (x27.1 == (1 : Int)))], [(D.bool (x28.1 == (1 : Int)))]]))]), ((Ent.obj [(AV.dat (D.int IntKind.u64 x34.2))]) :: R)))
                          )
                          (some ((AV.agg [(AV.dat (D.int IntKind.i64 (12 : Int))), (AV.dat (D.int IntKind.i64 x23.1)), (AV.dat (D.int IntKind.i64 (0 : Int))), (AV.dat (D.int IntKind.i64 (0 : Int))), (AV.dat (D.str (ByteArray.mk (List.toArray [])))), (AV.dat (D.int IntKind.i64 (0 : Int))), (AV.dat (D.list LK.any 1 [[(D.bool (x25.1 == (1 : Int)))], [(D.bool (x26.1 == (1 : Int)))], [(D.bool (x27.1 == (1 : Int)))], [(D.bool (x28.1 == (1 : Int)))]]))]), ((Ent.obj [(AV.dat (D.int IntKind.u64 x33.2))]) :: R)))
                         )
                         (some ((AV.agg [(AV.dat (D.int IntKind.i64 (12 : Int))), (AV.dat (D.int IntKind.i64 x23.1)), (AV.dat (D.int IntKind.i64 (0 : Int))), (AV.dat (D.int IntKind.i64 (0 : Int))), (AV.dat (D.str (ByteArray.mk (List.toArray [])))), (AV.dat (D.int IntKind.i64 (0 : Int))), (AV.dat (D.list LK.any 1 [[(D.bool (x25.1 == (1 : Int)))], [(D.bool (x26.1 == (1 : Int)))], [(D.bool (x27.1 == (1 : Int)))], [(D.bool (x28.1 == (1 : Int)))]]))]), ((Ent.obj [(AV.dat (D.int IntKind.u64 x33.2))]) :: R)))
                        )
                       )
                      )
                     )
                     (rGet (fnS (fun (p : Int × Int) => ((AV.dat (D.int IntKind.i64 p.1)), ((Ent.obj [(AV.dat (D.int IntKind.u64 p.2))]) :: R))) (R10 [(AV.ptr (Ref.glob 0) 0), (AV.dat (D.int IntKind.i64 (8 : Int)))] ((Ent.obj [(AV.dat (D.int IntKind.u64 x27.2))]) :: R))) fun x35 =>
                      (rAsk (x35.1 == (0 : Int))
                       (rAsk (x1.1 != (17 : Int))
                        (rGet (fnS (fun (p : Int × Int) => ((AV.dat (D.int IntKind.i64 p.1)), ((Ent.obj [(AV.dat (D.int IntKind.u64 p.2))]) :: R))) (R10 [(AV.ptr (Ref.glob 0) 0), (AV.dat (D.int IntKind.i64 (8 : Int)))] ((Ent.obj [(AV.dat (D.int IntKind.u64 x35.2))]) :: R))) fun x36 =>
                         (some ((AV.agg [(AV.dat (D.int IntKind.i64 (12 : Int))), (AV.dat (D.int IntKind.i64 x23.1)), (AV.dat (D.int IntKind.i64 (0 : Int))), (AV.dat (D.int IntKind.i64 (0 : Int))), (AV.dat (D.str (ByteArray.mk (List.toArray [])))), (AV.dat (D.int IntKind.i64 (IntKind.wrap IntKind.i64 ((1 : Int) + x36.1)))), (AV.dat (D.list LK.any 1 [[(D.bool (x25.1 == (1 : Int)))], [(D.bool (x26.1 == (1 : Int)))], [(D.bool (x27.1 == (1 : Int)))]]))]), ((Ent.obj [(AV.dat (D.int IntKind.u64 x36.2))]) :: R)))
                        )
                        (some ((AV.agg [(AV.dat (D.int IntKind.i64 (12 : Int))), (AV.dat (D.int IntKind.i64 x23.1)), (AV.dat (D.int IntKind.i64 (0 : Int))), (AV.dat (D.int IntKind.i64 (0 : Int))), (AV.dat (D.str (ByteArray.mk (List.toArray [])))), (AV.dat (D.int IntKind.i64 (0 : Int))), (AV.dat (D.list LK.any 1 [[(D.bool (x25.1 == (1 : Int)))], [(D.bool (x26.1 == (1 : Int)))], [(D.bool (x27.1 == (1 : Int)))]]))]), ((Ent.obj [(AV.dat (D.int IntKind.u64 x35.2))]) :: R)))
                       )
                       (some ((AV.agg [(AV.dat (D.int IntKind.i64 (12 : Int))), (AV.dat (D.int IntKind.i64 x23.1)), (AV.dat (D.int IntKind.i64 (0 : Int))), (AV.dat (D.int IntKind.i64 (0 : Int))), (AV.dat (D.str (ByteArray.mk (List.toArray [])))), (AV.dat (D.int IntKind.i64 (0 : Int))), (AV.dat (D.list LK.any 1 [[(D.bool (x25.1 == (1 : Int)))], [(D.bool (x26.1 == (1 : Int)))], [(D.bool (x27.1 == (1 : Int)))]]))]), ((Ent.obj [(AV.dat (D.int IntKind.u64 x35.2))]) :: R)))
                      )
                     )
                    )
                   )
                   (rGet (fnS (fun (p : Int × Int) => ((AV.dat (D.int IntKind.i64 p.1)), ((Ent.obj [(AV.dat (D.int IntKind.u64 p.2))]) :: R))) (R10 [(AV.ptr (Ref.glob 0) 0), (AV.dat (D.int IntKind.i64 (8 : Int)))] ((Ent.obj [(AV.dat (D.int IntKind.u64 x26.2))]) :: R))) fun x37 =>
                    (rAsk (x37.1 == (0 : Int))
                     (rAsk (x1.1 != (17 : Int))
                      (rGet (fnS (fun (p : Int × Int) => ((AV.dat (D.int IntKind.i64 p.1)), ((Ent.obj [(AV.dat (D.int IntKind.u64 p.2))]) :: R))) (R10 [(AV.ptr (Ref.glob 0) 0), (AV.dat (D.int IntKind.i64 (8 : Int)))] ((Ent.obj [(AV.dat (D.int IntKind.u64 x37.2))]) :: R))) fun x38 =>
                       (some ((AV.agg [(AV.dat (D.int IntKind.i64 (12 : Int))), (AV.dat (D.int IntKind.i64 x23.1)), (AV.dat (D.int IntKind.i64 (0 : Int))), (AV.dat (D.int IntKind.i64 (0 : Int))), (AV.dat (D.str (ByteArray.mk (List.toArray [])))), (AV.dat (D.int IntKind.i64 (IntKind.wrap IntKind.i64 ((1 : Int) + x38.1)))), (AV.dat (D.list LK.any 1 [[(D.bool (x25.1 == (1 : Int)))], [(D.bool (x26.1 == (1 : Int)))]]))]), ((Ent.obj [(AV.dat (D.int IntKind.u64 x38.2))]) :: R)))
                      )
                      (some ((AV.agg [(AV.dat (D.int IntKind.i64 (12 : Int))), (AV.dat (D.int IntKind.i64 x23.1)), (AV.dat (D.int IntKind.i64 (0 : Int))), (AV.dat (D.int IntKind.i64 (0 : Int))), (AV.dat (D.str (ByteArray.mk (List.toArray [])))), (AV.dat (D.int IntKind.i64 (0 : Int))), (AV.dat (D.list LK.any 1 [[(D.bool (x25.1 == (1 : Int)))], [(D.bool (x26.1 == (1 : Int)))]]))]), ((Ent.obj [(AV.dat (D.int IntKind.u64 x37.2))]) :: R)))
                     )
                     (some ((AV.agg [(AV.dat (D.int IntKind.i64 (12 : Int))), (AV.dat (D.int IntKind.i64 x23.1)), (AV.dat (D.int IntKind.i64 (0 : Int))), (AV.dat (D.int IntKind.i64 (0 : Int))), (AV.dat (D.str (ByteArray.mk (List.toArray [])))), (AV.dat (D.int IntKind.i64 (0 : Int))), (AV.dat (D.list LK.any 1 [[(D.bool (x25.1 == (1 : Int)))], [(D.bool (x26.1 == (1 : Int)))]]))]), ((Ent.obj [(AV.dat (D.int IntKind.u64 x37.2))]) :: R)))
                    )
                   )
                  )
                 )
                 (rGet (fnS (fun (p : Int × Int) => ((AV.dat (D.int IntKind.i64 p.1)), ((Ent.obj [(AV.dat (D.int IntKind.u64 p.2))]) :: R))) (R10 [(AV.ptr (Ref.glob 0) 0), (AV.dat (D.int IntKind.i64 (8 : Int)))] ((Ent.obj [(AV.dat (D.int IntKind.u64 x25.2))]) :: R))) fun x39 =>
                  (rAsk (x39.1 == (0 : Int))
                   (rAsk (x1.1 != (17 : Int))
                    (rGet (fnS (fun (p : Int × Int) => ((AV.dat (D.int IntKind.i64 p.1)), ((Ent.obj [(AV.dat (D.int IntKind.u64 p.2))]) :: R))) (R10 [(AV.ptr (Ref.glob 0) 0), (AV.dat (D.int IntKind.i64 (8 : Int)))] ((Ent.obj [(AV.dat (D.int IntKind.u64 x39.2))]) :: R))) fun x40 =>
                     (some ((AV.agg [(AV.dat (D.int IntKind.i64 (12 : Int))), (AV.dat (D.int IntKind.i64 x23.1)), (AV.dat (D.int IntKind.i64 (0 : Int))), (AV.dat (D.int IntKind.i64 (0 : Int))), (AV.dat (D.str (ByteArray.mk (List.toArray [])))), (AV.dat (D.int IntKind.i64 (IntKind.wrap IntKind.i64 ((1 : Int) + x40.1)))), (AV.dat (D.list LK.any 1 [[(D.bool (x25.1 == (1 : Int)))]]))]), ((Ent.obj [(AV.dat (D.int IntKind.u64 x40.2))]) :: R)))
                    )
                    (some ((AV.agg [(AV.dat (D.int IntKind.i64 (12 : Int))), (AV.dat (D.int IntKind.i64 x23.1)), (AV.dat (D.int IntKind.i64 (0 : Int))), (AV.dat (D.int IntKind.i64 (0 : Int))), (AV.dat (D.str (ByteArray.mk (List.toArray [])))), (AV.dat (D.int IntKind.i64 (0 : Int))), (AV.dat (D.list LK.any 1 [[(D.bool (x25.1 == (1 : Int)))]]))]), ((Ent.obj [(AV.dat (D.int IntKind.u64 x39.2))]) :: R)))
                   )
                   (some ((AV.agg [(AV.dat (D.int IntKind.i64 (12 : Int))), (AV.dat (D.int IntKind.i64 x23.1)), (AV.dat (D.int IntKind.i64 (0 : Int))), (AV.dat (D.int IntKind.i64 (0 : Int))), (AV.dat (D.str (ByteArray.mk (List.toArray [])))), (AV.dat (D.int IntKind.i64 (0 : Int))), (AV.dat (D.list LK.any 1 [[(D.bool (x25.1 == (1 : Int)))]]))]), ((Ent.obj [(AV.dat (D.int IntKind.u64 x39.2))]) :: R)))
                  )
                 )
                )
               )
               (rGet (fnS (fun (p : Int × Int) => ((AV.dat (D.int IntKind.i64 p.1)), ((Ent.obj [(AV.dat (D.int IntKind.u64 p.2))]) :: R))) (R10 [(AV.ptr (Ref.glob 0) 0), (AV.dat (D.int IntKind.i64 (8 : Int)))] ((Ent.obj [(AV.dat (D.int IntKind.u64 x24.2))]) :: R))) fun x41 =>
                (rAsk (x41.1 == (0 : Int))
                 (rAsk (x1.1 != (17 : Int))
                  (rGet (fnS (fun (p : Int × Int) => ((AV.dat (D.int IntKind.i64 p.1)), ((Ent.obj [(AV.dat (D.int IntKind.u64 p.2))]) :: R))) (R10 [(AV.ptr (Ref.glob 0) 0), (AV.dat (D.int IntKind.i64 (8 : Int)))] ((Ent.obj [(AV.dat (D.int IntKind.u64 x41.2))]) :: R))) fun x42 =>
                   (some ((AV.agg [(AV.dat (D.int IntKind.i64 (12 : Int))), (AV.dat (D.int IntKind.i64 x23.1)), (AV.dat (D.int IntKind.i64 (0 : Int))), (AV.dat (D.int IntKind.i64 (0 : Int))), (AV.dat (D.str (ByteArray.mk (List.toArray [])))), (AV.dat (D.int IntKind.i64 (IntKind.wrap IntKind.i64 ((1 : Int) + x42.1)))), (AV.dat (D.list LK.nil 0 ([] : Row)))]), ((Ent.obj [(AV.dat (D.int IntKind.u64 x42.2))]) :: R)))
                  )
                  (some ((AV.agg [(AV.dat (D.int IntKind.i64 (12 : Int))), (AV.dat (D.int IntKind.i64 x23.1)), (AV.dat (D.int IntKind.i64 (0 : Int))), (AV.dat (D.int IntKind.i64 (0 : Int))), (AV.dat (D.str (ByteArray.mk (List.toArray [])))), (AV.dat (D.int IntKind.i64 (0 : Int))), (AV.dat (D.list LK.nil 0 ([] : Row)))]), ((Ent.obj [(AV.dat (D.int IntKind.u64 x41.2))]) :: R)))
                 )
                 (some ((AV.agg [(AV.dat (D.int IntKind.i64 (12 : Int))), (AV.dat (D.int IntKind.i64 x23.1)), (AV.dat (D.int IntKind.i64 (0 : Int))), (AV.dat (D.int IntKind.i64 (0 : Int))), (AV.dat (D.str (ByteArray.mk (List.toArray [])))), (AV.dat (D.int IntKind.i64 (0 : Int))), (AV.dat (D.list LK.nil 0 ([] : Row)))]), ((Ent.obj [(AV.dat (D.int IntKind.u64 x41.2))]) :: R)))
                )
               )
              )
             )
            )
            (rAsk (x1.1 == (18 : Int))
             (rGet (fnS (fun (p : Int × Int) => ((AV.dat (D.int IntKind.i64 p.1)), ((Ent.obj [(AV.dat (D.int IntKind.u64 p.2))]) :: R))) (R10 [(AV.ptr (Ref.glob 0) 0), (AV.dat (D.int IntKind.i64 (2 : Int)))] ((Ent.obj [(AV.dat (D.int IntKind.u64 x1.2))]) :: R))) fun x43 =>
              (rGet (fnS (fun (p : Int × Int) => ((AV.dat (D.int IntKind.i64 p.1)), ((Ent.obj [(AV.dat (D.int IntKind.u64 p.2))]) :: R))) (R10 [(AV.ptr (Ref.glob 0) 0), (AV.dat (D.int IntKind.i64 (8 : Int)))] ((Ent.obj [(AV.dat (D.int IntKind.u64 x43.2))]) :: R))) fun x44 =>
               (rAsk (x44.1 == (0 : Int))
                (rAsk (x1.1 != (17 : Int))
                 (rGet (fnS (fun (p : Int × Int) => ((AV.dat (D.int IntKind.i64 p.1)), ((Ent.obj [(AV.dat (D.int IntKind.u64 p.2))]) :: R))) (R10 [(AV.ptr (Ref.glob 0) 0), (AV.dat (D.int IntKind.i64 (8 : Int)))] ((Ent.obj [(AV.dat (D.int IntKind.u64 x44.2))]) :: R))) fun x45 =>
                  (some ((AV.agg [(AV.dat (D.int IntKind.i64 (13 : Int))), (AV.dat (D.int IntKind.i64 x43.1)), (AV.dat (D.int IntKind.i64 (0 : Int))), (AV.dat (D.int IntKind.i64 (0 : Int))), (AV.dat (D.str (ByteArray.mk (List.toArray [])))), (AV.dat (D.int IntKind.i64 (IntKind.wrap IntKind.i64 ((1 : Int) + x45.1)))), (AV.dat (D.list LK.nil 0 ([] : Row)))]), ((Ent.obj [(AV.dat (D.int IntKind.u64 x45.2))]) :: R)))
                 )
                 (some ((AV.agg [(AV.dat (D.int IntKind.i64 (13 : Int))), (AV.dat (D.int IntKind.i64 x43.1)), (AV.dat (D.int IntKind.i64 (0 : Int))), (AV.dat (D.int IntKind.i64 (0 : Int))), (AV.dat (D.str (ByteArray.mk (List.toArray [])))), (AV.dat (D.int IntKind.i64 (0 : Int))), (AV.dat (D.list LK.nil 0 ([] : Row)))]), ((Ent.obj [(AV.dat (D.int IntKind.u64 x44.2))]) :: R)))
                )
                (some ((AV.agg [(AV.dat (D.int IntKind.i64 (13 : Int))), (AV.dat (D.int IntKind.i64 x43.1)), (AV.dat (D.int IntKind.i64 (0 : Int))), (AV.dat (D.int IntKind.i64 (0 : Int))), (AV.dat (D.str (ByteArray.mk (List.toArray [])))), (AV.dat (D.int IntKind.i64 (0 : Int))), (AV.dat (D.list LK.nil 0 ([] : Row)))]), ((Ent.obj [(AV.dat (D.int IntKind.u64 x44.2))]) :: R)))
               )
              )
             )
             (rGet (fnS (fun (p : Int × Int) => ((AV.dat (D.int IntKind.i64 p.1)), ((Ent.obj [(AV.dat (D.int IntKind.u64 p.2))]) :: R))) (R10 [(AV.ptr (Ref.glob 0) 0), (AV.dat (D.int IntKind.i64 (4 : Int)))] ((Ent.obj [(AV.dat (D.int IntKind.u64 x1.2))]) :: R))) fun x46 =>
              (rGet (fnS (fun (p : Int × Int) => ((AV.dat (D.int IntKind.i64 p.1)), ((Ent.obj [(AV.dat (D.int IntKind.u64 p.2))]) :: R))) (R10 [(AV.ptr (Ref.glob 0) 0), (AV.dat (D.int IntKind.i64 (8 : Int)))] ((Ent.obj [(AV.dat (D.int IntKind.u64 x46.2))]) :: R))) fun x47 =>
               (rAsk (x47.1 == (0 : Int))
                (rAsk (x1.1 != (17 : Int))
                 (rGet (fnS (fun (p : Int × Int) => ((AV.dat (D.int IntKind.i64 p.1)), ((Ent.obj [(AV.dat (D.int IntKind.u64 p.2))]) :: R))) (R10 [(AV.ptr (Ref.glob 0) 0), (AV.dat (D.int IntKind.i64 (8 : Int)))] ((Ent.obj [(AV.dat (D.int IntKind.u64 x47.2))]) :: R))) fun x48 =>
                  (some ((AV.agg [(AV.dat (D.int IntKind.i64 (14 : Int))), (AV.dat (D.int IntKind.i64 (0 : Int))), (AV.dat (D.int IntKind.i64 x46.1)), (AV.dat (D.int IntKind.i64 (0 : Int))), (AV.dat (D.str (ByteArray.mk (List.toArray [])))), (AV.dat (D.int IntKind.i64 (IntKind.wrap IntKind.i64 ((1 : Int) + x48.1)))), (AV.dat (D.list LK.nil 0 ([] : Row)))]), ((Ent.obj [(AV.dat (D.int IntKind.u64 x48.2))]) :: R)))
                 )
                 (some ((AV.agg [(AV.dat (D.int IntKind.i64 (14 : Int))), (AV.dat (D.int IntKind.i64 (0 : Int))), (AV.dat (D.int IntKind.i64 x46.1)), (AV.dat (D.int IntKind.i64 (0 : Int))), (AV.dat (D.str (ByteArray.mk (List.toArray [])))), (AV.dat (D.int IntKind.i64 (0 : Int))), (AV.dat (D.list LK.nil 0 ([] : Row)))]), ((Ent.obj [(AV.dat (D.int IntKind.u64 x47.2))]) :: R)))
                )
                (some ((AV.agg [(AV.dat (D.int IntKind.i64 (14 : Int))), (AV.dat (D.int IntKind.i64 (0 : Int))), (AV.dat (D.int IntKind.i64 x46.1)), (AV.dat (D.int IntKind.i64 (0 : Int))), (AV.dat (D.str (ByteArray.mk (List.toArray [])))), (AV.dat (D.int IntKind.i64 (0 : Int))), (AV.dat (D.list LK.nil 0 ([] : Row)))]), ((Ent.obj [(AV.dat (D.int IntKind.u64 x47.2))]) :: R)))
               )
              )
             )
            )
           )
          )
         )
        )
       )
      )
     )
    )
   )
  )
  := by kernel_rfl
end Go.Eng
end

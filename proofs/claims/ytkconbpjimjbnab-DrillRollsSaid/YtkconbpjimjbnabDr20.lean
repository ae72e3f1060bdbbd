/- Dice: known; the rolls as trees. -/
import Derived.Test.YtkconbpjimjbnabDr18
import Derived.Test.YtkconbpjimjbnabDr19
import Derived.Test.YtkconbpjimjbnabDr10
import Derived.Test.YtkconbpjimjbnabDr7
import Derived.Test.YtkconbpjimjbnabDr6
section
namespace Go.Eng
open Go
set_option maxRecDepth 100000

def hOfS (l : List (Nat × List Nat)) (n : Nat) : List Nat := (l.lookup n).getD []

/-- what is kept at each loop's head, by liveness; the ranges over functions by hand -/
noncomputable def HH (f n : Nat) : List Nat := if n = 3000000 then (if f = 15 then [10060007, 10060019] else []) else match FT f with
  | some fn => ((liveF fn).lookup n).getD []
  | none => []
/-! ### strings.Repeat, by the shelf's contract -/
noncomputable def S70 : Spec := fun xs G => match xs with
  | [.dat (.str s), .dat (.int .i64 n)] => if 0 ≤ n ∧ n ≤ 9223372036854775807 ∧ s.size * n.toNat ≤ 140737488355328 then some (.dat (.str ⟨(Go.Lib.repeatL s.data.toList n.toNat).toArray⟩), G) else none
  | _ => none
theorem c70 : COk Go.Proofs.Try.prog 70 S70 := by
  refine COk.below ⟨_, Go.Proofs.Try.func70, by kernel_rfl, by kernel_rfl⟩ fun c xs G vs r G' hs hv => ?_
  unfold S70 at hs
  split at hs
  · rename_i s n
    split at hs
    · rename_i hc
      simp only [Option.some.injEq, Prod.mk.injEq] at hs
      obtain ⟨rfl, rfl⟩ := hs
      refine ⟨rfl, _, _, rfl, fun w lv => .str _, ?_⟩
      obtain ⟨l⟩ := vs
      match l, hv with
      | [v0, v1], hv =>
        obtain ⟨⟨h0, _⟩, ⟨h1, _⟩, _⟩ := hv
        cases h0 with
        | dat h0 =>
          cases h0 with
          | str =>
            cases h1 with
            | dat h1 =>
              cases h1 with
              | int =>
                have := Go.Proofs.Try.strings_Repeat s n.toNat c.w (by omega) hc.2.2
                rw [show ((n.toNat : Nat) : Int) = n from Int.toNat_of_nonneg hc.1] at this
                exact this
    · cases hs
  · cases hs

noncomputable def o70 : Orc := fun f => if f = 70 then S70 else fun _ _ => none
theorem o70_ok : ∀ f, COk Go.Proofs.Try.prog f (o70 f) := fun f => by
  unfold o70
  split
  · rename_i h
    subst h
    exact c70
  · exact COk.nothing fun _ _ => rfl

noncomputable def R11 (a : List AV) (G : List Ent) : Option (AV × List Ent) := orcY FT TT 300 HH [70] o70 14 11 a G
theorem c11 : COk Go.Proofs.Try.prog 11 R11 := orcY_ok (K := 300) (H := HH) TT_ok (FT := FT) (fun _ _ h => FT_ok h) o70_ok 14 11
noncomputable def R47 (a : List AV) (G : List Ent) : Option (AV × List Ent) := orcY FT TT 300 HH [70] o70 8 47 a G
theorem c47 : COk Go.Proofs.Try.prog 47 R47 := orcY_ok (K := 300) (H := HH) TT_ok (FT := FT) (fun _ _ h => FT_ok h) o70_ok 8 47
noncomputable def R25 (a : List AV) (G : List Ent) : Option (AV × List Ent) := orcY FT TT 300 HH [70] o70 8 25 a G
theorem c25 : COk Go.Proofs.Try.prog 25 R25 := orcY_ok (K := 300) (H := HH) TT_ok (FT := FT) (fun _ _ h => FT_ok h) o70_ok 8 25

theorem fill0 : (R47 [.dat (.int .u8 0)] []).map (·.1) = some (.dat (.str ⟨(List.replicate 64 0).toArray⟩)) := by kernel_rfl
theorem fill0' : (R25 [.dat (.int .u8 0)] []).map (·.1) = some (.dat (.str ⟨(List.replicate 64 0).toArray⟩)) := by kernel_rfl
theorem known_ev : (orcY FT TT 300 HH [70] o70 14 11 [] []).map (·.1) = some (.dat (.bool true)) := by kernel_rfl

theorem FT_fine {f : Nat} {fn : Func} (h : FT f = some fn) : Go.Proofs.Try.prog.funcs[f]? = some fn ∧ (fn.name == "runtime.NumGoroutine") = false ∧ nodupN ((loops (codeOf fn)).map firstRegion) = true := by
  have h2 := BT.get_all (BT.all_ok (q := fun _ fn => !(fn.name == "runtime.NumGoroutine") && nodupN ((loops (codeOf fn)).map firstRegion)) (show FTree.all (fun _ fn => !(fn.name == "runtime.NumGoroutine") && nodupN ((loops (codeOf fn)).map firstRegion)) = true by kernel_rfl)) h
  simp only [Bool.and_eq_true, Bool.not_eq_true'] at h2
  exact ⟨FT_ok h, h2.1, h2.2⟩

def oT (G : List Ent) (_ : Unit) : AV × List Ent := (.dat (.bool true), G)
theorem oT_inj {G : List Ent} : ∀ x y, oT G x = oT G y → x = y := fun _ _ _ => rfl
noncomputable def P11 := pureS R11
theorem p11 {G : List Ent} : P11 [] G = some (oT G ()) := by
  have := known_ev
  have h : ∃ G', R11 [] [] = some (.dat (.bool true), G') := by
    unfold R11
    cases ho : orcY FT TT 300 HH [70] o70 14 11 [] [] with
    | none => rw [ho] at this; cases this
    | some r =>
      rw [ho] at this
      simp only [Option.map_some, Option.some.injEq] at this
      exact ⟨r.2, by rw [← this]⟩
  obtain ⟨G', h⟩ := h
  exact pureS_eq rfl h rfl
end Go.Eng
end

/- Dice: a roll, as trees. -/
section
namespace Go.Eng
open Go

def HSd (f : Nat) : Nat → List Nat := match f with
  | 3 => hOfS [(4, [1, 5, 6, 7]), (1000004, [4])]
  | _ => fun _ => []
/-- all inlined -/
noncomputable def tQ (f : Nat) (a : List AV) (G : List Ent) : Tr (AV × List Ent) := tinU FT TT HSd 6 [] tNone 3 f a G
theorem tQ_ok (f : Nat) : COk Go.Proofs.Try.prog f (fun a G => (tQ f a G).run) := tinU_ok TT_ok (FT := FT) (fun _ _ h => FT_fine h) (HS := HSd) (fuel := 6) (base := []) TOk.nil 3 f
noncomputable def R9 (a : List AV) (G : List Ent) : Option (AV × List Ent) := (tQ 9 a G).run
noncomputable def R10 (a : List AV) (G : List Ent) : Option (AV × List Ent) := (tQ 10 a G).run
noncomputable def m9 (x b : Int) (R : List Ent) : Tr (AV × List Ent) := tQ 9 [.ptr (.glob 0) 0, .dat (.int .i64 b)] (.obj [.dat (.int .u64 x)] :: R)
noncomputable def m10a (x b : Int) (R : List Ent) : Tr (AV × List Ent) := tQ 10 [.ptr (.glob 0) 0, .dat (.int .i64 b)] (.obj [.dat (.int .u64 x)] :: R)
noncomputable def m10b (e : Ent) (x b : Int) (R : List Ent) : Tr (AV × List Ent) := tQ 10 [.ptr (.glob 1) 0, .dat (.int .i64 b)] (e :: .obj [.dat (.int .u64 x)] :: R)
def ptrI (a : List AV) : Nat := match a with
  | .ptr (.glob g) _ :: _ => g
  | _ => 0
def oRoll (a : List AV) (G : List Ent) (p : Int × Int) : AV × List Ent := (.dat (.int .i64 p.1), G.set (ptrI a) (.obj [.dat (.int .u64 p.2)]))

/-- known, the rolls by their results, all else inlined -/
noncomputable def tP : TOrc := tCons 11 (fun a G => tspec (oT G) (P11 a G)) (tCons 9 (fun a G => tspec (oRoll a G) (R9 a G)) (tCons 10 (fun a G => tspec (oRoll a G) (R10 a G)) tNone))
theorem tP_ok : TOk Go.Proofs.Try.prog tP := TOk.cons (COk.spec (out := fun _ G => oT G) c11.pure) (TOk.cons (COk.spec (out := fun a G => oRoll a G) (tQ_ok 9)) (TOk.cons (COk.spec (out := fun a G => oRoll a G) (tQ_ok 10)) TOk.nil))
noncomputable def tR : TOrc := tinU FT TT HSd 6 [11, 9, 10] tP 3
theorem tR_ok : TOk Go.Proofs.Try.prog tR := tinU_ok TT_ok (FT := FT) (fun _ _ h => FT_fine h) (HS := HSd) (fuel := 6) (base := [11, 9, 10]) tP_ok 3

noncomputable def lp3 : Code := lpOf (codeOf Go.Proofs.Try.f3) 0
def inv3a (x y : Int) (k : LK) (xs : Row) (i : Int) : St := ⟨mkT 0 37 [(1, .dat (.list k 1 xs)), (5, .ptr (.glob 0) 0), (6, .ptr (.loc 0) 0), (7, .dat (.int .i64 i))], ⟨[some (.obj [.dat (.int .u64 y)])], [.obj [.dat (.int .u64 x)]], 0⟩⟩
noncomputable def rk3a (x y : Int) (k : LK) (xs : Row) (i : Int) : Tr (Ex × St) := tround TT tR noLo (HSd 3) lp3 (inv3a x y k xs i)
def inv3b (x y : Int) (k : LK) (xs : Row) (i : Int) : St := ⟨mkT 0 37 [(1, .dat (.list k 1 xs)), (5, .ptr (.glob 0) 0), (6, .ptr (.glob 1) 0), (7, .dat (.int .i64 i))], ⟨[], [.obj [.dat (.int .u64 x)], .obj [.dat (.int .u64 y)]], 0⟩⟩
noncomputable def rk3b (x y : Int) (k : LK) (xs : Row) (i : Int) : Tr (Ex × St) := tround TT tR noLo (HSd 3) lp3 (inv3b x y k xs i)
def out3 (G : List Ent) : Ex × St := (.exit 0, ⟨mkT 0 37 [], ⟨[], G, 0⟩⟩)
noncomputable def lo3 (n : Nat) (st : St) : Tr (Ex × St) := match n with
  | 4 => tlo TT tR.runs (HSd 3) lp3 out3 st
  | _ => .fail
noncomputable def f3t (x : Int) (k : LK) (xs : Row) : Tr (AV × List Ent) := tfn TT tR lo3 Go.Proofs.Try.f3 [.dat (.int .u64 x), .dat (.list k 1 xs)] []
end Go.Eng
end

/- Dice: what a roll comes to; DrillRolls and DrillNil answer true. -/
section
namespace Go.Eng
open Go
set_option maxRecDepth 100000
set_option linter.unusedSimpArgs false

theorem m9_eq (x b : Int) (R : List Ent) : (m9 x b R).ev =
  (rAsk (decide (b < (1 : Int)))
   (some ((AV.dat (D.int IntKind.i64 (0 : Int))), ((Ent.obj [(AV.dat (D.int IntKind.u64 x))]) :: R)))
   (rAsk (decide (b > (2147483648 : Int)))
    (some ((AV.dat (D.int IntKind.i64 (0 : Int))), ((Ent.obj [(AV.dat (D.int IntKind.u64 x))]) :: R)))
    (rAsk (!(decide (b = (0 : Int))))
     (some ((AV.dat (D.int IntKind.i64 (Int.tmod (IntKind.wrap IntKind.i64 (Int.fdiv (IntKind.wrap IntKind.u64 ((IntKind.wrap IntKind.u64 (x * (6364136223846793005 : Int))) + (1442695040888963407 : Int))) (8589934592 : Int))) b))), ((Ent.obj [(AV.dat (D.int IntKind.u64 (IntKind.wrap IntKind.u64 ((IntKind.wrap IntKind.u64 (x * (6364136223846793005 : Int))) + (1442695040888963407 : Int)))))]) :: R)))
     none
    )
   )
  )
  := by kernel_rfl

theorem m10a_eq (x b : Int) (R : List Ent) : (m10a x b R).ev =
  (rAsk (decide (b < (1 : Int)))
   (some ((AV.dat (D.int IntKind.i64 (0 : Int))), ((Ent.obj [(AV.dat (D.int IntKind.u64 x))]) :: R)))
   (rAsk (decide (b > (2147483648 : Int)))
    (some ((AV.dat (D.int IntKind.i64 (0 : Int))), ((Ent.obj [(AV.dat (D.int IntKind.u64 x))]) :: R)))
    (rAsk (!(decide ((IntKind.wrap IntKind.u64 b) = (0 : Int))))
     (some ((AV.dat (D.int IntKind.i64 (IntKind.wrap IntKind.i64 (Int.tmod (Int.fdiv (IntKind.wrap IntKind.u64 ((IntKind.wrap IntKind.u64 (x * (6364136223846793005 : Int))) + (1442695040888963407 : Int))) (8589934592 : Int)) (IntKind.wrap IntKind.u64 b))))), ((Ent.obj [(AV.dat (D.int IntKind.u64 (IntKind.wrap IntKind.u64 ((IntKind.wrap IntKind.u64 (x * (6364136223846793005 : Int))) + (1442695040888963407 : Int)))))]) :: R)))
     none
    )
   )
  )
  := by kernel_rfl

theorem m10b_eq (e : Ent) (x b : Int) (R : List Ent) : (m10b e x b R).ev =
  (rAsk (decide (b < (1 : Int)))
   (some ((AV.dat (D.int IntKind.i64 (0 : Int))), (e :: (Ent.obj [(AV.dat (D.int IntKind.u64 x))]) :: R)))
   (rAsk (decide (b > (2147483648 : Int)))
    (some ((AV.dat (D.int IntKind.i64 (0 : Int))), (e :: (Ent.obj [(AV.dat (D.int IntKind.u64 x))]) :: R)))
    (rAsk (!(decide ((IntKind.wrap IntKind.u64 b) = (0 : Int))))
     (some ((AV.dat (D.int IntKind.i64 (IntKind.wrap IntKind.i64 (Int.tmod (Int.fdiv (IntKind.wrap IntKind.u64 ((IntKind.wrap IntKind.u64 (x * (6364136223846793005 : Int))) + (1442695040888963407 : Int))) (8589934592 : Int)) (IntKind.wrap IntKind.u64 b))))), (e :: (Ent.obj [(AV.dat (D.int IntKind.u64 (IntKind.wrap IntKind.u64 ((IntKind.wrap IntKind.u64 (x * (6364136223846793005 : Int))) + (1442695040888963407 : Int)))))]) :: R)))
     none
    )
   )
  )
  := by kernel_rfl

theorem rk3a_eq (x y : Int) (k : LK) (xs : Row) (i : Int) : (rk3a x y k xs i).ev =
  (rAsk (decide (i < (((List.length xs) : Nat) : Int)))
   (rAsk (decide (i < (100 : Int)))
    (rAsk (true && ((decide ((0 : Int) ≤ i)) && (decide (i < (((List.length xs) : Nat) : Int)))))
     (rGet xs[(Int.toNat i)]? fun x1 =>
      (rGet (List.head? (List.drop 0 x1)) fun x2 =>
       (rGet (fnS (fun (p : Int × Int) => ((AV.dat (D.int IntKind.i64 p.1)), [(Ent.obj [(AV.dat (D.int IntKind.u64 p.2))])])) (R9 [(AV.ptr (Ref.glob 0) 0), (AV.dat x2)] [(Ent.obj [(AV.dat (D.int IntKind.u64 x))])])) fun x3 =>
        (rAsk (true && ((decide ((0 : Int) ≤ i)) && (decide (i < (((List.length xs) : Nat) : Int)))))
         (rGet xs[(Int.toNat i)]? fun x4 =>
          (rGet (List.head? (List.drop 0 x4)) fun x5 =>
           (rGet (fnS (fun (p : Int × Int) => ((AV.dat (D.int IntKind.i64 p.1)), [(Ent.obj [(AV.dat (D.int IntKind.u64 x3.2))]), (Ent.obj [(AV.dat (D.int IntKind.u64 p.2))])])) (R10 [(AV.ptr (Ref.glob 1) 0), (AV.dat x5)] [(Ent.obj [(AV.dat (D.int IntKind.u64 x3.2))]), (Ent.obj [(AV.dat (D.int IntKind.u64 y))])])) fun x6 =>
            (rAsk (x3.1 != x6.1)
             (some (Ex.ret, (St.mk (mkT 0 37 [(4, (AV.dat (D.bool false)))]) (Mem.mk [] [(Ent.obj [(AV.dat (D.int IntKind.u64 x3.2))]), (Ent.obj [(AV.dat (D.int IntKind.u64 x6.2))])] 0))))
             (some (Ex.norm, (St.mk (mkT 0 37 [(1, (AV.dat (D.list k 1 xs))), (5, (AV.ptr (Ref.glob 0) 0)), (6, (AV.ptr (Ref.glob 1) 0)), (7, (AV.dat (D.int IntKind.i64 (IntKind.wrap IntKind.i64 (i + (1 : Int))))))]) (Mem.mk [] [(Ent.obj [(AV.dat (D.int IntKind.u64 x3.2))]), (Ent.obj [(AV.dat (D.int IntKind.u64 x6.2))])] 0))))
            )
           )
          )
         )
         none
        )
       )
      )
     )
     none
    )
    (some ((Ex.exit 0), (St.mk (mkT 0 37 []) (Mem.mk [] [(Ent.obj [(AV.dat (D.int IntKind.u64 x))])] 0))))
   )
   (some ((Ex.exit 0), (St.mk (mkT 0 37 []) (Mem.mk [] [(Ent.obj [(AV.dat (D.int IntKind.u64 x))])] 0))))
  )
  := by kernel_rfl

theorem rk3b_eq (x y : Int) (k : LK) (xs : Row) (i : Int) : (rk3b x y k xs i).ev =
  (rAsk (decide (i < (((List.length xs) : Nat) : Int)))
   (rAsk (decide (i < (100 : Int)))
    (rAsk (true && ((decide ((0 : Int) ≤ i)) && (decide (i < (((List.length xs) : Nat) : Int)))))
     (rGet xs[(Int.toNat i)]? fun x1 =>
      (rGet (List.head? (List.drop 0 x1)) fun x2 =>
       (rGet (fnS (fun (p : Int × Int) => ((AV.dat (D.int IntKind.i64 p.1)), [(Ent.obj [(AV.dat (D.int IntKind.u64 p.2))]), (Ent.obj [(AV.dat (D.int IntKind.u64 y))])])) (R9 [(AV.ptr (Ref.glob 0) 0), (AV.dat x2)] [(Ent.obj [(AV.dat (D.int IntKind.u64 x))]), (Ent.obj [(AV.dat (D.int IntKind.u64 y))])])) fun x3 =>
        (rAsk (true && ((decide ((0 : Int) ≤ i)) && (decide (i < (((List.length xs) : Nat) : Int)))))
         (rGet xs[(Int.toNat i)]? fun x4 =>
          (rGet (List.head? (List.drop 0 x4)) fun x5 =>
           (rGet (fnS (fun (p : Int × Int) => ((AV.dat (D.int IntKind.i64 p.1)), [(Ent.obj [(AV.dat (D.int IntKind.u64 x3.2))]), (Ent.obj [(AV.dat (D.int IntKind.u64 p.2))])])) (R10 [(AV.ptr (Ref.glob 1) 0), (AV.dat x5)] [(Ent.obj [(AV.dat (D.int IntKind.u64 x3.2))]), (Ent.obj [(AV.dat (D.int IntKind.u64 y))])])) fun x6 =>
            (rAsk (x3.1 != x6.1)
             (some (Ex.ret, (St.mk (mkT 0 37 [(4, (AV.dat (D.bool false)))]) (Mem.mk [] [(Ent.obj [(AV.dat (D.int IntKind.u64 x3.2))]), (Ent.obj [(AV.dat (D.int IntKind.u64 x6.2))])] 0))))
             (some (Ex.norm, (St.mk (mkT 0 37 [(1, (AV.dat (D.list k 1 xs))), (5, (AV.ptr (Ref.glob 0) 0)), (6, (AV.ptr (Ref.glob 1) 0)), (7, (AV.dat (D.int IntKind.i64 (IntKind.wrap IntKind.i64 (i + (1 : Int))))))]) (Mem.mk [] [(Ent.obj [(AV.dat (D.int IntKind.u64 x3.2))]), (Ent.obj [(AV.dat (D.int IntKind.u64 x6.2))])] 0))))
            )
           )
          )
         )
         none
        )
       )
      )
     )
     none
    )
    (some ((Ex.exit 0), (St.mk (mkT 0 37 []) (Mem.mk [] [(Ent.obj [(AV.dat (D.int IntKind.u64 x))]), (Ent.obj [(AV.dat (D.int IntKind.u64 y))])] 0))))
   )
   (some ((Ex.exit 0), (St.mk (mkT 0 37 []) (Mem.mk [] [(Ent.obj [(AV.dat (D.int IntKind.u64 x))]), (Ent.obj [(AV.dat (D.int IntKind.u64 y))])] 0))))
  )
  := by kernel_rfl

theorem f3t_eq (x : Int) (k : LK) (xs : Row) : (f3t x k xs).ev =
  (rGet (loS TT (TOrc.runs tR) (HSd 3) lp3 out3 (St.mk (mkT 0 37 [(1, (AV.dat (D.list k 1 xs))), (5, (AV.ptr (Ref.glob 0) 0)), (6, (AV.ptr (Ref.loc 0) 0)), (7, (AV.dat (D.int IntKind.i64 (0 : Int))))]) (Mem.mk [(Option.some (Ent.obj [(AV.dat (D.int IntKind.u64 x))]))] [(Ent.obj [(AV.dat (D.int IntKind.u64 x))])] 0))) fun x1 =>
   (rGet (fnS (fun (x : Unit) => ((AV.dat (D.bool true)), x1)) (P11 [] x1)) fun x2 =>
    (some ((AV.dat (D.bool true)), x1))
   )
  )
  := by kernel_rfl

/-- the next number -/
def nx (x : Int) : Int := IntKind.wrap .u64 (IntKind.wrap .u64 (x * 6364136223846793005) + 1442695040888963407)
theorem nx_in (x : Int) : 0 ≤ nx x ∧ nx x < 18446744073709551616 := by
  unfold nx
  generalize IntKind.wrap .u64 (x * 6364136223846793005) + 1442695040888963407 = z
  rw [wU64]
  omega
/-- a roll: what it is, and what the dice are then -/
def roll (x b : Int) : Int × Int := if 1 ≤ b ∧ b ≤ 2147483648 then (nx x / 8589934592 % b, nx x) else (0, x)

theorem roll_fd (x : Int) : Int.fdiv (nx x) 8589934592 = nx x / 8589934592 := by rw [Int.fdiv_eq_ediv_of_nonneg _ (by omega)]
theorem roll_v (x b : Int) (h : 1 ≤ b) : Int.tmod (IntKind.wrap .i64 (Int.fdiv (nx x) 8589934592)) b = nx x / 8589934592 % b := by
  have := nx_in x
  rw [roll_fd, IntWalk.i64_in _ (by omega), Int.tmod_eq_emod_of_nonneg (by omega)]
theorem roll_w (x b : Int) (h : 1 ≤ b) (h2 : b ≤ 2147483648) : IntKind.wrap .i64 (Int.tmod (Int.fdiv (nx x) 8589934592) (IntKind.wrap .u64 b)) = nx x / 8589934592 % b := by
  have := nx_in x
  have hm : 0 ≤ nx x / 8589934592 % b ∧ nx x / 8589934592 % b < b := ⟨Int.emod_nonneg _ (by omega), Int.emod_lt_of_pos _ (by omega)⟩
  rw [roll_fd, IntWalk.u64_in b (by omega), Int.tmod_eq_emod_of_nonneg (by omega), IntWalk.i64_in _ (by omega)]

theorem c9 {x b : Int} {R : List Ent} : R9 [.ptr (.glob 0) 0, .dat (.int .i64 b)] (.obj [.dat (.int .u64 x)] :: R) = some (oRoll [.ptr (.glob 0) 0, .dat (.int .i64 b)] (.obj [.dat (.int .u64 x)] :: R) (roll x b)) := by
  show (m9 x b R).run = _
  rw [← Tr.ev_run, m9_eq]
  unfold roll
  by_cases h1 : 1 ≤ b
  case neg => rw [if_neg (by omega)]; exact aT (by rw [decide_eq_true_eq]; omega) rfl
  refine aF (by rw [decide_eq_false_iff_not]; omega) ?_
  by_cases h2 : b ≤ 2147483648
  case neg => rw [if_neg (by omega)]; exact aT (by rw [decide_eq_true_eq]; omega) rfl
  refine aF (by rw [decide_eq_false_iff_not]; omega) (aT (by simp; omega) ?_)
  rw [if_pos ⟨h1, h2⟩, ← roll_v x b h1]
  rfl
theorem c10a {x b : Int} {R : List Ent} : R10 [.ptr (.glob 0) 0, .dat (.int .i64 b)] (.obj [.dat (.int .u64 x)] :: R) = some (oRoll [.ptr (.glob 0) 0, .dat (.int .i64 b)] (.obj [.dat (.int .u64 x)] :: R) (roll x b)) := by
  show (m10a x b R).run = _
  rw [← Tr.ev_run, m10a_eq]
  unfold roll
  by_cases h1 : 1 ≤ b
  case neg => rw [if_neg (by omega)]; exact aT (by rw [decide_eq_true_eq]; omega) rfl
  refine aF (by rw [decide_eq_false_iff_not]; omega) ?_
  by_cases h2 : b ≤ 2147483648
  case neg => rw [if_neg (by omega)]; exact aT (by rw [decide_eq_true_eq]; omega) rfl
  refine aF (by rw [decide_eq_false_iff_not]; omega) (aT (by rw [IntWalk.u64_in b (by omega)]; simp; omega) ?_)
  rw [if_pos ⟨h1, h2⟩, ← roll_w x b h1 h2]
  rfl
theorem c10b {e : Ent} {x b : Int} {R : List Ent} : R10 [.ptr (.glob 1) 0, .dat (.int .i64 b)] (e :: .obj [.dat (.int .u64 x)] :: R) = some (oRoll [.ptr (.glob 1) 0, .dat (.int .i64 b)] (e :: .obj [.dat (.int .u64 x)] :: R) (roll x b)) := by
  show (m10b e x b R).run = _
  rw [← Tr.ev_run, m10b_eq]
  unfold roll
  by_cases h1 : 1 ≤ b
  case neg => rw [if_neg (by omega)]; exact aT (by rw [decide_eq_true_eq]; omega) rfl
  refine aF (by rw [decide_eq_false_iff_not]; omega) ?_
  by_cases h2 : b ≤ 2147483648
  case neg => rw [if_neg (by omega)]; exact aT (by rw [decide_eq_true_eq]; omega) rfl
  refine aF (by rw [decide_eq_false_iff_not]; omega) (aT (by rw [IntWalk.u64_in b (by omega)]; simp; omega) ?_)
  rw [if_pos ⟨h1, h2⟩, ← roll_w x b h1 h2]
  rfl

theorem oRoll_inj0 {x : Int} {b : AV} {R : List Ent} : ∀ p q, oRoll [.ptr (.glob 0) 0, b] (.obj [.dat (.int .u64 x)] :: R) p = oRoll [.ptr (.glob 0) 0, b] (.obj [.dat (.int .u64 x)] :: R) q → p = q := by
  rintro ⟨a, b⟩ ⟨c, d⟩ h
  simp [oRoll, ptrI] at h
  obtain ⟨rfl, rfl⟩ := h
  rfl
theorem oRoll_inj1 {e : Ent} {x : Int} {b : AV} {R : List Ent} : ∀ p q, oRoll [.ptr (.glob 1) 0, b] (e :: .obj [.dat (.int .u64 x)] :: R) p = oRoll [.ptr (.glob 1) 0, b] (e :: .obj [.dat (.int .u64 x)] :: R) q → p = q := by
  rintro ⟨a, b⟩ ⟨c, d⟩ h
  simp [oRoll, ptrI] at h
  obtain ⟨rfl, rfl⟩ := h
  rfl

attribute [local irreducible] fnS loS R9 R10 P11

/-- a roll, as a step along a tree -/
theorem g9 {x b : Int} {R : List Ent} : fnS (oRoll [.ptr (.glob 0) 0, .dat (.int .i64 b)] (.obj [.dat (.int .u64 x)] :: R)) (R9 [.ptr (.glob 0) 0, .dat (.int .i64 b)] (.obj [.dat (.int .u64 x)] :: R)) = some (roll x b) := fnS_eq oRoll_inj0 c9
theorem g10a {x b : Int} {R : List Ent} : fnS (oRoll [.ptr (.glob 0) 0, .dat (.int .i64 b)] (.obj [.dat (.int .u64 x)] :: R)) (R10 [.ptr (.glob 0) 0, .dat (.int .i64 b)] (.obj [.dat (.int .u64 x)] :: R)) = some (roll x b) := fnS_eq oRoll_inj0 c10a
theorem g10b {e : Ent} {x b : Int} {R : List Ent} : fnS (oRoll [.ptr (.glob 1) 0, .dat (.int .i64 b)] (e :: .obj [.dat (.int .u64 x)] :: R)) (R10 [.ptr (.glob 1) 0, .dat (.int .i64 b)] (e :: .obj [.dat (.int .u64 x)] :: R)) = some (roll x b) := fnS_eq oRoll_inj1 c10b

/-! ### DrillRolls -/
/-- whole numbers, as a row -/
def iRow (l : List Int) : Row := l.map fun n => [D.int .i64 n]

theorem loop3b {k : LK} {l : List Int} : ∀ (d i : Nat) (x : Int), i + d = min l.length 100 → ∃ y, LoopTo TT tR.runs (HSd 3) lp3 (inv3b x x k (iRow l) i) (out3 [.obj [.dat (.int .u64 y)], .obj [.dat (.int .u64 y)]])
  | 0, i, x, h => by
    refine ⟨x, LoopTo.last (orc := tR) (lo := noLo) (fun _ _ _ _ h => h) (LoOk2.no _) ?_ (by simp [out3])⟩
    show (rk3b x x k (iRow l) i).run = _
    rw [← Tr.ev_run, rk3b_eq]
    by_cases h1 : i < l.length
    · exact aT (by simpa [iRow] using h1) (aF (by rw [decide_eq_false_iff_not]; omega) rfl)
    · exact aF (by simpa [iRow] using h1) rfl
  | d + 1, i, x, h => by
    have h1 : i < l.length := by omega
    have hlen : (iRow l).length = l.length := by simp [iRow]
    have hx : (iRow l)[Int.toNat (i : Int)]? = some [D.int .i64 l[i]] := by rw [Int.toNat_natCast]; simp [iRow, h1]
    have hw : IntKind.wrap .i64 ((i : Int) + 1) = ((i + 1 : Nat) : Int) := by rw [IntKind.wrap_i64]; omega
    have step : (rk3b x x k (iRow l) i).run = some (.norm, inv3b (roll x l[i]).2 (roll x l[i]).2 k (iRow l) ((i + 1 : Nat) : Int)) := by
      rw [← Tr.ev_run, rk3b_eq]
      refine aT (by rw [hlen, decide_eq_true_eq]; omega) (aT (by rw [decide_eq_true_eq]; omega) (aT (by rw [hlen]; simp; omega) (gStep hx (gStep rfl (gStep g9 ?_)))))
      refine aT (by rw [hlen]; simp; omega) (gStep hx (gStep rfl (gStep g10b (aF (by simp) ?_))))
      rw [hw]
      rfl
    obtain ⟨y, ih⟩ := loop3b (k := k) (l := l) d (i + 1) (roll x l[i]).2 (by omega)
    exact ⟨y, LoopTo.more (orc := tR) (lo := noLo) (fun _ _ _ _ h => h) (LoOk2.no _) step ih⟩

theorem loop3a {k : LK} {l : List Int} {x : Int} : ∃ G, LoopTo TT tR.runs (HSd 3) lp3 (inv3a x x k (iRow l) 0) (out3 G) := by
  cases l with
  | nil =>
    refine ⟨[.obj [.dat (.int .u64 x)]], LoopTo.last (orc := tR) (lo := noLo) (fun _ _ _ _ h => h) (LoOk2.no _) ?_ (by simp [out3])⟩
    show (rk3a x x k (iRow []) 0).run = _
    rw [← Tr.ev_run, rk3a_eq]
    exact aF (by simp [iRow]) rfl
  | cons b l =>
    have step : (rk3a x x k (iRow (b :: l)) 0).run = some (.norm, inv3b (roll x b).2 (roll x b).2 k (iRow (b :: l)) ((1 : Nat) : Int)) := by
      rw [← Tr.ev_run, rk3a_eq]
      have hlt : (0 : Int) < (((iRow (b :: l)).length : Nat) : Int) := by simp [iRow]
      refine aT (by rw [decide_eq_true_eq]; exact hlt) (aT rfl (aT (by rw [Bool.true_and, Bool.and_eq_true, decide_eq_true_eq, decide_eq_true_eq]; exact ⟨by omega, hlt⟩) (gStep (x := [D.int .i64 b]) rfl (gStep rfl (gStep g9 ?_)))))
      refine aT (by rw [Bool.true_and, Bool.and_eq_true, decide_eq_true_eq, decide_eq_true_eq]; exact ⟨by omega, hlt⟩) (gStep (x := [D.int .i64 b]) rfl (gStep rfl (gStep g10b (aF (by simp) ?_))))
      rfl
    obtain ⟨y, ih⟩ := loop3b (k := k) (l := b :: l) (min (b :: l).length 100 - 1) 1 (roll x b).2 (by simp; omega)
    exact ⟨_, LoopTo.more (orc := tR) (lo := noLo) (fun _ _ _ _ h => h) (LoOk2.no _) step ih⟩

theorem out3_inj : ∀ x y, out3 x = out3 y → x = y := by
  intro x y h
  simp [out3] at h
  exact h

theorem f3_run {x : Int} {k : LK} {l : List Int} : ∃ G', (f3t x k (iRow l)).run = some (.dat (.bool true), G') := by
  obtain ⟨G, hp⟩ := loop3a (k := k) (l := l) (x := x)
  refine ⟨G, ?_⟩
  rw [← Tr.ev_run, f3t_eq]
  exact gStep (loS_eq out3_inj hp) (gStep (fnS_eq (out := oT G) oT_inj p11) rfl)

end Go.Eng
end

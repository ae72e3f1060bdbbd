/- Dice: known; the rolls as trees. -/
import Derived.Test.YtkconbpjimjbnabDn18
import Derived.Test.YtkconbpjimjbnabDn19
import Derived.Test.YtkconbpjimjbnabDn10
import Derived.Test.YtkconbpjimjbnabDn7
import Derived.Test.YtkconbpjimjbnabDn6
section
namespace Go.Eng
open Go
set_option maxRecDepth 100000

def hOfS (l : List (Nat × List Nat)) (n : Nat) : List Nat := (l.lookup n).getD []

/-- what is kept at each loop's head, by liveness; the ranges over functions by hand -/
noncomputable def HH (f n : Nat) : List Nat := if n = 3000000 then (if f = 15 then [10060007, 10060019] else []) else match FT f with
  | some fn => ((liveF fn).lookup n).getD []
  | none => []
/-! ### strings.Repeat, by the shelf's contract -/
noncomputable def S70 : Spec := fun xs G => match xs with
  | [.dat (.str s), .dat (.int .i64 n)] => if 0 ≤ n ∧ n ≤ 9223372036854775807 ∧ s.size * n.toNat ≤ 140737488355328 then some (.dat (.str ⟨(Go.Lib.repeatL s.data.toList n.toNat).toArray⟩), G) else none
  | _ => none
theorem c70 : COk Go.Proofs.Try.prog 70 S70 := by
  refine COk.below ⟨_, Go.Proofs.Try.func70, by kernel_rfl, by kernel_rfl⟩ fun c xs G vs r G' hs hv => ?_
  unfold S70 at hs
  split at hs
  · rename_i s n
    split at hs
    · rename_i hc
      simp only [Option.some.injEq, Prod.mk.injEq] at hs
      obtain ⟨rfl, rfl⟩ := hs
      refine ⟨rfl, _, _, rfl, fun w lv => .str _, ?_⟩
      obtain ⟨l⟩ := vs
      match l, hv with
      | [v0, v1], hv =>
        obtain ⟨⟨h0, _⟩, ⟨h1, _⟩, _⟩ := hv
        cases h0 with
        | dat h0 =>
          cases h0 with
          | str =>
            cases h1 with
            | dat h1 =>
              cases h1 with
              | int =>
                have := Go.Proofs.Try.strings_Repeat s n.toNat c.w (by omega) hc.2.2
                rw [show ((n.toNat : Nat) : Int) = n from Int.toNat_of_nonneg hc.1] at this
                exact this
    · cases hs
  · cases hs

noncomputable def o70 : Orc := fun f => if f = 70 then S70 else fun _ _ => none
theorem o70_ok : ∀ f, COk Go.Proofs.Try.prog f (o70 f) := fun f => by
  unfold o70
  split
  · rename_i h
    subst h
    exact c70
  · exact COk.nothing fun _ _ => rfl

noncomputable def R11 (a : List AV) (G : List Ent) : Option (AV × List Ent) := orcY FT TT 300 HH [70] o70 14 11 a G
theorem c11 : COk Go.Proofs.Try.prog 11 R11 := orcY_ok (K := 300) (H := HH) TT_ok (FT := FT) (fun _ _ h => FT_ok h) o70_ok 14 11
noncomputable def R47 (a : List AV) (G : List Ent) : Option (AV × List Ent) := orcY FT TT 300 HH [70] o70 8 47 a G
theorem c47 : COk Go.Proofs.Try.prog 47 R47 := orcY_ok (K := 300) (H := HH) TT_ok (FT := FT) (fun _ _ h => FT_ok h) o70_ok 8 47
noncomputable def R25 (a : List AV) (G : List Ent) : Option (AV × List Ent) := orcY FT TT 300 HH [70] o70 8 25 a G
theorem c25 : COk Go.Proofs.Try.prog 25 R25 := orcY_ok (K := 300) (H := HH) TT_ok (FT := FT) (fun _ _ h => FT_ok h) o70_ok 8 25

theorem fill0 : (R47 [.dat (.int .u8 0)] []).map (·.1) = some (.dat (.str ⟨(List.replicate 64 0).toArray⟩)) := by kernel_rfl
theorem fill0' : (R25 [.dat (.int .u8 0)] []).map (·.1) = some (.dat (.str ⟨(List.replicate 64 0).toArray⟩)) := by kernel_rfl
theorem known_ev : (orcY FT TT 300 HH [70] o70 14 11 [] []).map (·.1) = some (.dat (.bool true)) := by kernel_rfl

theorem FT_fine {f : Nat} {fn : Func} (h : FT f = some fn) : Go.Proofs.Try.prog.funcs[f]? = some fn ∧ (fn.name == "runtime.NumGoroutine") = false ∧ nodupN ((loops (codeOf fn)).map firstRegion) = true := by
  have h2 := BT.get_all (BT.all_ok (q := fun _ fn => !(fn.name == "runtime.NumGoroutine") && nodupN ((loops (codeOf fn)).map firstRegion)) (show FTree.all (fun _ fn => !(fn.name == "runtime.NumGoroutine") && nodupN ((loops (codeOf fn)).map firstRegion)) = true by kernel_rfl)) h
  simp only [Bool.and_eq_true, Bool.not_eq_true'] at h2
  exact ⟨FT_ok h, h2.1, h2.2⟩

def oT (G : List Ent) (_ : Unit) : AV × List Ent := (.dat (.bool true), G)
theorem oT_inj {G : List Ent} : ∀ x y, oT G x = oT G y → x = y := fun _ _ _ => rfl
noncomputable def P11 := pureS R11
theorem p11 {G : List Ent} : P11 [] G = some (oT G ()) := by
  have := known_ev
  have h : ∃ G', R11 [] [] = some (.dat (.bool true), G') := by
    unfold R11
    cases ho : orcY FT TT 300 HH [70] o70 14 11 [] [] with
    | none => rw [ho] at this; cases this
    | some r =>
      rw [ho] at this
      simp only [Option.map_some, Option.some.injEq] at this
      exact ⟨r.2, by rw [← this]⟩
  obtain ⟨G', h⟩ := h
  exact pureS_eq rfl h rfl
end Go.Eng
end

/- Dice: a roll, as trees. -/
section
namespace Go.Eng
open Go

def HSd (f : Nat) : Nat → List Nat := match f with
  | 3 => hOfS [(4, [1, 5, 6, 7]), (1000004, [4])]
  | _ => fun _ => []
/-- all inlined -/
noncomputable def tQ (f : Nat) (a : List AV) (G : List Ent) : Tr (AV × List Ent) := tinU FT TT HSd 6 [] tNone 3 f a G
theorem tQ_ok (f : Nat) : COk Go.Proofs.Try.prog f (fun a G => (tQ f a G).run) := tinU_ok TT_ok (FT := FT) (fun _ _ h => FT_fine h) (HS := HSd) (fuel := 6) (base := []) TOk.nil 3 f
noncomputable def R9 (a : List AV) (G : List Ent) : Option (AV × List Ent) := (tQ 9 a G).run
noncomputable def R10 (a : List AV) (G : List Ent) : Option (AV × List Ent) := (tQ 10 a G).run
noncomputable def m9 (x b : Int) (R : List Ent) : Tr (AV × List Ent) := tQ 9 [.ptr (.glob 0) 0, .dat (.int .i64 b)] (.obj [.dat (.int .u64 x)] :: R)
noncomputable def m10a (x b : Int) (R : List Ent) : Tr (AV × List Ent) := tQ 10 [.ptr (.glob 0) 0, .dat (.int .i64 b)] (.obj [.dat (.int .u64 x)] :: R)
noncomputable def m10b (e : Ent) (x b : Int) (R : List Ent) : Tr (AV × List Ent) := tQ 10 [.ptr (.glob 1) 0, .dat (.int .i64 b)] (e :: .obj [.dat (.int .u64 x)] :: R)
def ptrI (a : List AV) : Nat := match a with
  | .ptr (.glob g) _ :: _ => g
  | _ => 0
def oRoll (a : List AV) (G : List Ent) (p : Int × Int) : AV × List Ent := (.dat (.int .i64 p.1), G.set (ptrI a) (.obj [.dat (.int .u64 p.2)]))

/-- known, the rolls by their results, all else inlined -/
noncomputable def tP : TOrc := tCons 11 (fun a G => tspec (oT G) (P11 a G)) (tCons 9 (fun a G => tspec (oRoll a G) (R9 a G)) (tCons 10 (fun a G => tspec (oRoll a G) (R10 a G)) tNone))
theorem tP_ok : TOk Go.Proofs.Try.prog tP := TOk.cons (COk.spec (out := fun _ G => oT G) c11.pure) (TOk.cons (COk.spec (out := fun a G => oRoll a G) (tQ_ok 9)) (TOk.cons (COk.spec (out := fun a G => oRoll a G) (tQ_ok 10)) TOk.nil))
noncomputable def tR : TOrc := tinU FT TT HSd 6 [11, 9, 10] tP 3
theorem tR_ok : TOk Go.Proofs.Try.prog tR := tinU_ok TT_ok (FT := FT) (fun _ _ h => FT_fine h) (HS := HSd) (fuel := 6) (base := [11, 9, 10]) tP_ok 3

noncomputable def lp3 : Code := lpOf (codeOf Go.Proofs.Try.f3) 0
def inv3a (x y : Int) (k : LK) (xs : Row) (i : Int) : St := ⟨mkT 0 37 [(1, .dat (.list k 1 xs)), (5, .ptr (.glob 0) 0), (6, .ptr (.loc 0) 0), (7, .dat (.int .i64 i))], ⟨[some (.obj [.dat (.int .u64 y)])], [.obj [.dat (.int .u64 x)]], 0⟩⟩
noncomputable def rk3a (x y : Int) (k : LK) (xs : Row) (i : Int) : Tr (Ex × St) := tround TT tR noLo (HSd 3) lp3 (inv3a x y k xs i)
def inv3b (x y : Int) (k : LK) (xs : Row) (i : Int) : St := ⟨mkT 0 37 [(1, .dat (.list k 1 xs)), (5, .ptr (.glob 0) 0), (6, .ptr (.glob 1) 0), (7, .dat (.int .i64 i))], ⟨[], [.obj [.dat (.int .u64 x)], .obj [.dat (.int .u64 y)]], 0⟩⟩
noncomputable def rk3b (x y : Int) (k : LK) (xs : Row) (i : Int) : Tr (Ex × St) := tround TT tR noLo (HSd 3) lp3 (inv3b x y k xs i)
def out3 (G : List Ent) : Ex × St := (.exit 0, ⟨mkT 0 37 [], ⟨[], G, 0⟩⟩)
noncomputable def lo3 (n : Nat) (st : St) : Tr (Ex × St) := match n with
  | 4 => tlo TT tR.runs (HSd 3) lp3 out3 st
  | _ => .fail
noncomputable def f3t (x : Int) (k : LK) (xs : Row) : Tr (AV × List Ent) := tfn TT tR lo3 Go.Proofs.Try.f3 [.dat (.int .u64 x), .dat (.list k 1 xs)] []
end Go.Eng
end

/- DrillNil, as a tree. -/
section
namespace Go.Eng
open Go
def HSn (f : Nat) : Nat → List Nat := match f with
  | 12 => hOfS [(4, [2, 3, 5]), (1000004, [4])]
  | _ => fun _ => []
noncomputable def tN : TOrc := tCons 11 (fun a G => tspec (oT G) (P11 a G)) tNone
theorem tN_ok : TOk Go.Proofs.Try.prog tN := TOk.cons (COk.spec (out := fun _ G => oT G) c11.pure) TOk.nil
noncomputable def tNi : TOrc := tinU FT TT HSn 6 [11] tN 3
theorem tNi_ok : TOk Go.Proofs.Try.prog tNi := tinU_ok TT_ok (FT := FT) (fun _ _ h => FT_fine h) (HS := HSn) (fuel := 6) (base := [11]) tN_ok 3
noncomputable def f6t (b : Int) : Tr (AV × List Ent) := tfn TT tNi noLo Go.Proofs.Try.f6 [.dat (.int .i64 b)] []
end Go.Eng
end

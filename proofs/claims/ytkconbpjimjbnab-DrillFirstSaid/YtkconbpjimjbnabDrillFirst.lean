/- DrillFirst: at every input true, and the arguments read as they did. -/
import Derived.Test.YtkconbpjimjbnabDf22
import Derived.Test.YtkconbpjimjbnabDf18
import Derived.Test.YtkconbpjimjbnabRows
import Derived.WalkKit
import Derived.ProofKit
import Derived.OpenShut
section
namespace Go.Eng
open Go
set_option maxRecDepth 100000

theorem argU (x : Int) : argAV Go.Proofs.Try.prog 22 [.int .u64 x] = .dat (.int .u64 x) := by
  unfold argAV
  rw [if_neg (show ¬ aggT Go.Proofs.Try.prog 22 = true by rw [show aggT Go.Proofs.Try.prog 22 = false by kernel_rfl]; simp)]
  rfl
theorem argI (x : Int) : argAV Go.Proofs.Try.prog 3 [.int .i64 x] = .dat (.int .i64 x) := by
  unfold argAV
  rw [if_neg (show ¬ aggT Go.Proofs.Try.prog 3 = true by rw [show aggT Go.Proofs.Try.prog 3 = false by kernel_rfl]; simp)]
  rfl

noncomputable def R5 (a : List AV) (G : List Ent) : Option (AV × List Ent) := (tfn TT tZ noLo Go.Proofs.Try.f5 a G).run
theorem c5 : COk Go.Proofs.Try.prog 5 R5 := tok_fn (H := fun _ => []) TT_ok tZ_ok Go.Proofs.Try.func5 (by kernel_rfl) fun _ _ => LoOk2.no _

theorem spec5 : ∀ dss : List (List D), All2 (fun t d => Ty Go.Proofs.Try.prog 4 t d) Go.Proofs.Try.f5.params.toList dss → ∃ spec : Go.Eng.Spec, COk Go.Proofs.Try.prog 5 spec ∧ ∃ G', spec (List.zipWith (argAV Go.Proofs.Try.prog) Go.Proofs.Try.f5.params.toList dss) [] = some (.dat (.bool true), G') := by
  intro dss h
  rw [Go.Proofs.Try.params5] at h ⊢
  match dss, h with
  | [d1, d2, d3], h =>
    obtain ⟨x, rfl, _⟩ := Ty.int Go.Proofs.Try.underlying22 h.1
    obtain ⟨n, rfl, _⟩ := Ty.int Go.Proofs.Try.underlying3 h.2.1
    obtain ⟨m, rfl, _⟩ := Ty.int Go.Proofs.Try.underlying3 h.2.2.1
    refine ⟨R5, c5, ?_⟩
    change ∃ G', R5 [argAV Go.Proofs.Try.prog 22 [.int .u64 x], argAV Go.Proofs.Try.prog 3 [.int .i64 n], argAV Go.Proofs.Try.prog 3 [.int .i64 m]] [] = _
    rw [argU, argI, argI]
    exact f5_run
  | [], h => exact h.elim
  | [_], h => exact h.2.elim
  | [_, _], h => exact h.2.2.elim
  | _ :: _ :: _ :: _ :: _, h => exact h.2.2.2.elim

end Go.Eng

namespace Go.Proofs.Ytkconbpjimjbnab
open Go Go.Eng Go.ChangeShapes Go.WideShapes Go.ChangeAt Go.RowKit
set_option maxRecDepth 100000

theorem ownDf : ownKnob Try.prog.godebug = none := by kernel_rfl

theorem lifted5 (os : Os) (started : os.Started) (H : Type) (enc : TypeId × Value → H) :
    ReturnsInHanded {} Try.checked os 5 .any (Rows.drillFirstSpec.pre6 enc Try.prog Try.f5 Rows.drillFirstRow.domain false) (Rows.drillFirstSpec.post enc Try.prog Try.f5 false true false false) := by
  refine returnsInHanded_of_change (C := Try.checked) ownDf started (by kernel_rfl) Try.func5
    (ChangeSpec.witness6 (enc := enc) (C := Try.checked) false ⟨#[], #[.int .u64 0, .int .i64 0, .int .i64 0], []⟩ 8 (by kernel_rfl) (by kernel_rfl) (by kernel_rfl) (by kernel_rfl)) ?_
  intro W base args ds gs before hval0 hW hcnd _
  have hW' := hW
  obtain ⟨p, q, hA0, hV, rfl, hfz, hnd⟩ := hW
  have hA : DataW.TrodAll enc Try.prog W 0 (fun _ => true) true Try.f5.params.toList args.toList ds p := hA0
  rw [Try.params5] at hA
  obtain ⟨v0, v1, v2, d0, d1, d2, p0, p1, p2, rfl, rfl, rfl, h0, h1, h2⟩ := trodAll_three hA
  obtain ⟨rfl, rfl⟩ := trodVars_none hV
  exact law_contract (m := 4) (tb := 4) (by kernel_rfl) spec5 hval0 hW' (by kernel_rfl) (by kernel_rfl) rfl rfl rfl rfl

theorem drillFirst_holds : Rows.DrillFirstSaid :=
  OpenClaim.holds_of_wide 5 Try.f5 rfl rfl rfl rfl rfl rfl rfl ⟨rfl, rfl, rfl, rfl, rfl⟩ rfl rfl rfl rfl rfl (by kernel_rfl) Try.func5 (by kernel_rfl)
    (of_decide_eq_true (by kernel_rfl)) (by unfold Func.isWrapper; first | (rw [if_pos (by decide +kernel)]; kernel_rfl) | (rw [if_neg (by decide +kernel)]; exact ⟨rfl, rfl⟩))
    (fun os started H enc _ => lifted5 os started H enc)
#print axioms drillFirst_holds
end Go.Proofs.Ytkconbpjimjbnab
end

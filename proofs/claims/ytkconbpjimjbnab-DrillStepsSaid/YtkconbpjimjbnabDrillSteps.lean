/- DrillSteps: at every input true, and the arguments read as they did. -/
import Derived.Test.YtkconbpjimjbnabDs22
import Derived.Test.YtkconbpjimjbnabDs18
import Derived.Test.YtkconbpjimjbnabRows
import Derived.WalkKit
import Derived.ProofKit
import Derived.OpenShut
section
namespace Go.Eng
open Go
set_option maxRecDepth 100000

theorem argU (x : Int) : argAV Go.Proofs.Try.prog 22 [.int .u64 x] = .dat (.int .u64 x) := by
  unfold argAV
  rw [if_neg (show ¬ aggT Go.Proofs.Try.prog 22 = true by rw [show aggT Go.Proofs.Try.prog 22 = false by kernel_rfl]; simp)]
  rfl
theorem argI (x : Int) : argAV Go.Proofs.Try.prog 3 [.int .i64 x] = .dat (.int .i64 x) := by
  unfold argAV
  rw [if_neg (show ¬ aggT Go.Proofs.Try.prog 3 = true by rw [show aggT Go.Proofs.Try.prog 3 = false by kernel_rfl]; simp)]
  rfl

theorem lo4_ok : ∀ c, Go.Proofs.Try.f4.body = some c → LoOk2 TT tZ.runs (HSc 4) lo4 c := by
  intro c hc
  refine LoOk2.of c fun b hb st r h => ?_
  have hcc : c = codeOf Go.Proofs.Try.f4 := by unfold codeOf; rw [hc]; rfl
  have hl : loops c = [lp4] := by rw [hcc]; kernel_rfl
  rw [hl] at hb
  obtain rfl := List.mem_singleton.1 hb
  rw [show firstRegion lp4 = 4 from by kernel_rfl] at h
  exact tlo_ok h
noncomputable def R4 (a : List AV) (G : List Ent) : Option (AV × List Ent) := (tfn TT tZ lo4 Go.Proofs.Try.f4 a G).run
theorem c4 : COk Go.Proofs.Try.prog 4 R4 := tok_fn (H := HSc 4) TT_ok tZ_ok Go.Proofs.Try.func4 (by kernel_rfl) lo4_ok

theorem spec4 : ∀ dss : List (List D), All2 (fun t d => Ty Go.Proofs.Try.prog 4 t d) Go.Proofs.Try.f4.params.toList dss → ∃ spec : Go.Eng.Spec, COk Go.Proofs.Try.prog 4 spec ∧ ∃ G', spec (List.zipWith (argAV Go.Proofs.Try.prog) Go.Proofs.Try.f4.params.toList dss) [] = some (.dat (.bool true), G') := by
  intro dss h
  rw [Go.Proofs.Try.params4] at h ⊢
  match dss, h with
  | [d1, d2], h =>
    obtain ⟨x, rfl, _⟩ := Ty.int Go.Proofs.Try.underlying22 h.1
    obtain ⟨n, rfl, _⟩ := Ty.int Go.Proofs.Try.underlying3 h.2.1
    refine ⟨R4, c4, ?_⟩
    change ∃ G', R4 [argAV Go.Proofs.Try.prog 22 [.int .u64 x], argAV Go.Proofs.Try.prog 3 [.int .i64 n]] [] = _
    rw [argU, argI]
    exact f4_run
  | [], h => exact h.elim
  | [_], h => exact h.2.elim
  | _ :: _ :: _ :: _, h => exact h.2.2.elim

end Go.Eng

namespace Go.Proofs.Ytkconbpjimjbnab
open Go Go.Eng Go.ChangeShapes Go.WideShapes Go.ChangeAt Go.RowKit
set_option maxRecDepth 100000

theorem ownDs : ownKnob Try.prog.godebug = none := by kernel_rfl

theorem lifted4 (os : Os) (started : os.Started) (H : Type) (enc : TypeId × Value → H) :
    ReturnsInHanded {} Try.checked os 4 .any (Rows.drillStepsSpec.pre6 enc Try.prog Try.f4 Rows.drillStepsRow.domain false) (Rows.drillStepsSpec.post enc Try.prog Try.f4 false true false false) := by
  refine returnsInHanded_of_change (C := Try.checked) ownDs started (by kernel_rfl) Try.func4
    (ChangeSpec.witness6 (enc := enc) (C := Try.checked) false ⟨#[], #[.int .u64 0, .int .i64 0], []⟩ 8 (by kernel_rfl) (by kernel_rfl) (by kernel_rfl) (by kernel_rfl)) ?_
  intro W base args ds gs before hval0 hW hcnd _
  have hW' := hW
  obtain ⟨p, q, hA0, hV, rfl, hfz, hnd⟩ := hW
  have hA : DataW.TrodAll enc Try.prog W 0 (fun _ => true) true Try.f4.params.toList args.toList ds p := hA0
  rw [Try.params4] at hA
  obtain ⟨v0, v1, d0, d1, p0, p1, rfl, rfl, rfl, h0, h1⟩ := trodAll_two hA
  obtain ⟨rfl, rfl⟩ := trodVars_none hV
  exact law_contract (m := 4) (tb := 4) (by kernel_rfl) spec4 hval0 hW' (by kernel_rfl) (by kernel_rfl) rfl rfl rfl rfl

theorem drillSteps_holds : Rows.DrillStepsSaid :=
  OpenClaim.holds_of_wide 4 Try.f4 rfl rfl rfl rfl rfl rfl rfl ⟨rfl, rfl, rfl, rfl, rfl⟩ rfl rfl rfl rfl rfl (by kernel_rfl) Try.func4 (by kernel_rfl)
    (of_decide_eq_true (by kernel_rfl)) (by unfold Func.isWrapper; first | (rw [if_pos (by decide +kernel)]; kernel_rfl) | (rw [if_neg (by decide +kernel)]; exact ⟨rfl, rfl⟩))
    (fun os started H enc _ => lifted4 os started H enc)
#print axioms drillSteps_holds
end Go.Proofs.Ytkconbpjimjbnab
end

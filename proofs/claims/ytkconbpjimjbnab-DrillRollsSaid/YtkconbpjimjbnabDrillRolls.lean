/- DrillRolls: at every input true, and the arguments read as they did. -/
import Derived.Test.YtkconbpjimjbnabDr20
import Derived.Test.YtkconbpjimjbnabDr18
import Derived.Test.YtkconbpjimjbnabRows
import Derived.WalkKit
import Derived.ProofKit
import Derived.OpenShut
section
namespace Go.Eng
open Go
set_option maxRecDepth 100000

theorem iRow_of : ∀ (xs : Row), (∀ x ∈ xs, ∃ z, x = [D.int .i64 z] ∧ (Lit.int .i64 z).wf = true) → ∃ l : List Int, xs = iRow l
  | [], _ => ⟨[], rfl⟩
  | x :: xs, h => by
    obtain ⟨z, hz, _⟩ := h x (by simp)
    obtain ⟨l, hl⟩ := iRow_of xs fun y hy => h y (by simp [hy])
    exact ⟨z :: l, by rw [hz, hl]; rfl⟩

theorem lo3_ok : ∀ c, Go.Proofs.Try.f3.body = some c → LoOk2 TT tR.runs (HSd 3) lo3 c := by
  intro c hc
  refine LoOk2.of c fun b hb st r h => ?_
  have hcc : c = codeOf Go.Proofs.Try.f3 := by unfold codeOf; rw [hc]; rfl
  have hl : loops c = [lp3] := by rw [hcc]; kernel_rfl
  rw [hl] at hb
  obtain rfl := List.mem_singleton.1 hb
  rw [show firstRegion lp3 = 4 from by kernel_rfl] at h
  exact tlo_ok h

noncomputable def R3 (a : List AV) (G : List Ent) : Option (AV × List Ent) := (tfn TT tR lo3 Go.Proofs.Try.f3 a G).run
theorem c3 : COk Go.Proofs.Try.prog 3 R3 := tok_fn (H := HSd 3) TT_ok tR_ok Go.Proofs.Try.func3 (by kernel_rfl) lo3_ok

theorem spec3 : ∀ dss : List (List D), All2 (fun t d => Ty Go.Proofs.Try.prog 4 t d) Go.Proofs.Try.f3.params.toList dss → ∃ spec : Go.Eng.Spec, COk Go.Proofs.Try.prog 3 spec ∧ ∃ G', spec (List.zipWith (argAV Go.Proofs.Try.prog) Go.Proofs.Try.f3.params.toList dss) [] = some (.dat (.bool true), G') := by
  intro dss h
  rw [Go.Proofs.Try.params3] at h ⊢
  match dss, h with
  | [d1, d2], h =>
    obtain ⟨x, rfl, _⟩ := Ty.int Go.Proofs.Try.underlying22 h.1
    obtain ⟨k, xs, rfl, he, _, _⟩ := Ty.slice Go.Proofs.Try.underlying23 h.2.1
    obtain ⟨l, rfl⟩ := iRow_of xs fun x hx => Ty.int Go.Proofs.Try.underlying3 (he x hx)
    refine ⟨R3, c3, ?_⟩
    have e0 : argAV Go.Proofs.Try.prog 22 [.int .u64 x] = .dat (.int .u64 x) := by
      unfold argAV
      rw [if_neg (show ¬ aggT Go.Proofs.Try.prog 22 = true by rw [show aggT Go.Proofs.Try.prog 22 = false by kernel_rfl]; simp)]
      rfl
    have e1 : argAV Go.Proofs.Try.prog 23 [.list k (Go.Proofs.Try.prog.cellsOf 3) (iRow l)] = .dat (.list k 1 (iRow l)) := by
      unfold argAV
      rw [if_neg (show ¬ aggT Go.Proofs.Try.prog 23 = true by rw [show aggT Go.Proofs.Try.prog 23 = false by kernel_rfl]; simp), show Go.Proofs.Try.prog.cellsOf 3 = 1 by kernel_rfl]
      rfl
    change ∃ G', R3 [argAV Go.Proofs.Try.prog 22 [.int .u64 x], argAV Go.Proofs.Try.prog 23 [.list k (Go.Proofs.Try.prog.cellsOf 3) (iRow l)]] [] = _
    rw [e0, e1]
    exact f3_run
  | [], h => exact h.elim
  | [_], h => exact h.2.elim
  | _ :: _ :: _ :: _, h => exact h.2.2.elim

end Go.Eng

namespace Go.Proofs.Ytkconbpjimjbnab
open Go Go.Eng Go.ChangeShapes Go.WideShapes Go.ChangeAt Go.RowKit
set_option maxRecDepth 100000

theorem ownDr : ownKnob Try.prog.godebug = none := by kernel_rfl

theorem lifted3 (os : Os) (started : os.Started) (H : Type) (enc : TypeId × Value → H) :
    ReturnsInHanded {} Try.checked os 3 .any (Rows.drillRollsSpec.pre6 enc Try.prog Try.f3 Rows.drillRollsRow.domain false) (Rows.drillRollsSpec.post enc Try.prog Try.f3 false true false false) := by
  refine returnsInHanded_of_change (C := Try.checked) ownDr started (by kernel_rfl) Try.func3
    (ChangeSpec.witness6 (enc := enc) (C := Try.checked) false ⟨#[], #[.int .u64 0, .slice none 0 0], []⟩ 8 (by kernel_rfl) (by kernel_rfl) (by kernel_rfl) (by kernel_rfl)) ?_
  intro W base args ds gs before hval0 hW hcnd _
  have hW' := hW
  obtain ⟨p, q, hA0, hV, rfl, hfz, hnd⟩ := hW
  have hA : DataW.TrodAll enc Try.prog W 0 (fun _ => true) true Try.f3.params.toList args.toList ds p := hA0
  rw [Try.params3] at hA
  obtain ⟨v0, v1, d0, d1, p0, p1, rfl, rfl, rfl, h0, h1⟩ := trodAll_two hA
  obtain ⟨rfl, rfl⟩ := trodVars_none hV
  exact law_contract (m := 4) (tb := 4) (by kernel_rfl) spec3 hval0 hW' (by kernel_rfl) (by kernel_rfl) rfl rfl rfl rfl

theorem drillRolls_holds : Rows.DrillRollsSaid :=
  OpenClaim.holds_of_wide 3 Try.f3 rfl rfl rfl rfl rfl rfl rfl ⟨rfl, rfl, rfl, rfl, rfl⟩ rfl rfl rfl rfl rfl (by kernel_rfl) Try.func3 (by kernel_rfl)
    (of_decide_eq_true (by kernel_rfl)) (by unfold Func.isWrapper; first | (rw [if_pos (by decide +kernel)]; kernel_rfl) | (rw [if_neg (by decide +kernel)]; exact ⟨rfl, rfl⟩))
    (fun os started H enc _ => lifted3 os started H enc)
#print axioms drillRolls_holds
end Go.Proofs.Ytkconbpjimjbnab
end

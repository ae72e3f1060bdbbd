/- DrillNil: at every input true, and the argument reads as it did. -/
import Derived.Test.YtkconbpjimjbnabDn20
import Derived.Test.YtkconbpjimjbnabDn18
import Derived.Test.YtkconbpjimjbnabRows
import Derived.WalkKit
import Derived.ProofKit
import Derived.OpenShut
section
namespace Go.Eng
open Go
set_option maxRecDepth 100000

theorem f6t_eq (b : Int) : (f6t b).ev =
  (rGet (fnS (fun (x : Unit) => ((AV.dat (D.bool true)), [])) (P11 [] [])) fun _ =>
   (some ((AV.dat (D.bool true)), []))
  )
  := by kernel_rfl
theorem f6_run {b : Int} : ∃ G', (f6t b).run = some (.dat (.bool true), G') := by
  refine ⟨[], ?_⟩
  rw [← Tr.ev_run, f6t_eq]
  exact gStep (fnS_eq (out := oT []) oT_inj p11) rfl

noncomputable def R6 (a : List AV) (G : List Ent) : Option (AV × List Ent) := (tfn TT tNi noLo Go.Proofs.Try.f6 a G).run
theorem c6 : COk Go.Proofs.Try.prog 6 R6 := tok_fn (H := fun _ => []) TT_ok tNi_ok Go.Proofs.Try.func6 (by kernel_rfl) fun _ _ => LoOk2.no _

theorem spec6 : ∀ dss : List (List D), All2 (fun t d => Ty Go.Proofs.Try.prog 4 t d) Go.Proofs.Try.f6.params.toList dss → ∃ spec : Go.Eng.Spec, COk Go.Proofs.Try.prog 6 spec ∧ ∃ G', spec (List.zipWith (argAV Go.Proofs.Try.prog) Go.Proofs.Try.f6.params.toList dss) [] = some (.dat (.bool true), G') := by
  intro dss h
  rw [Go.Proofs.Try.params6] at h ⊢
  match dss, h with
  | [d1], h =>
    obtain ⟨x, rfl, _⟩ := Ty.int Go.Proofs.Try.underlying3 h.1
    refine ⟨R6, c6, ?_⟩
    have e0 : argAV Go.Proofs.Try.prog 3 [.int .i64 x] = .dat (.int .i64 x) := by
      unfold argAV
      rw [if_neg (show ¬ aggT Go.Proofs.Try.prog 3 = true by rw [show aggT Go.Proofs.Try.prog 3 = false by kernel_rfl]; simp)]
      rfl
    change ∃ G', R6 [argAV Go.Proofs.Try.prog 3 [.int .i64 x]] [] = _
    rw [e0]
    exact f6_run
  | [], h => exact h.elim
  | _ :: _ :: _, h => exact h.2.elim

end Go.Eng

namespace Go.Proofs.Ytkconbpjimjbnab
open Go Go.Eng Go.ChangeShapes Go.WideShapes Go.ChangeAt Go.RowKit
set_option maxRecDepth 100000

theorem ownDn : ownKnob Try.prog.godebug = none := by kernel_rfl

theorem lifted6 (os : Os) (started : os.Started) (H : Type) (enc : TypeId × Value → H) :
    ReturnsInHanded {} Try.checked os 6 .any (Rows.drillNilSpec.pre6 enc Try.prog Try.f6 Rows.drillNilRow.domain false) (Rows.drillNilSpec.post enc Try.prog Try.f6 false true false false) := by
  refine returnsInHanded_of_change (C := Try.checked) ownDn started (by kernel_rfl) Try.func6
    (ChangeSpec.witness6 (enc := enc) (C := Try.checked) false ⟨#[], #[.int .i64 0], []⟩ 8 (by kernel_rfl) (by kernel_rfl) (by kernel_rfl) (by kernel_rfl)) ?_
  intro W base args ds gs before hval0 hW hcnd _
  have hW' := hW
  obtain ⟨p, q, hA0, hV, rfl, hfz, hnd⟩ := hW
  have hA : DataW.TrodAll enc Try.prog W 0 (fun _ => true) true Try.f6.params.toList args.toList ds p := hA0
  rw [Try.params6] at hA
  obtain ⟨v0, d0, rfl, rfl, h0⟩ := trodAll_one hA
  obtain ⟨rfl, rfl⟩ := trodVars_none hV
  exact law_contract (m := 4) (tb := 4) (by kernel_rfl) spec6 hval0 hW' (by kernel_rfl) (by kernel_rfl) rfl rfl rfl rfl

theorem drillNil_holds : Rows.DrillNilSaid :=
  OpenClaim.holds_of_wide 6 Try.f6 rfl rfl rfl rfl rfl rfl rfl ⟨rfl, rfl, rfl, rfl, rfl⟩ rfl rfl rfl rfl rfl (by kernel_rfl) Try.func6 (by kernel_rfl)
    (of_decide_eq_true (by kernel_rfl)) (by unfold Func.isWrapper; first | (rw [if_pos (by decide +kernel)]; kernel_rfl) | (rw [if_neg (by decide +kernel)]; exact ⟨rfl, rfl⟩))
    (fun os started H enc _ => lifted6 os started H enc)
#print axioms drillNil_holds
end Go.Proofs.Ytkconbpjimjbnab
end

/- The law's contract, at every world that meets the row's condition. -/
import Derived.Test.YtjicjmpkgpbdbaaGreatDoorTnSp
import Derived.Test.YtjicjmpkgpbdbaaGreatDoorTnX
import Derived.Test.YtjicjmpkgpbdbaaGreatDoorTnY
namespace Go.Proofs.YtjicjmpkgpbdbaaGreatDoor
open Go Go.Eng Go.ChangeShapes Go.WideShapes Go.ChangeAt Go.RowKit
set_option maxRecDepth 100000

theorem own : ownKnob Tryz.prog.godebug = none := by kernel_rfl

theorem lifted (os : Os) (started : os.Started) (H : Type) (enc : TypeId × Value → H) :
    ReturnsInHanded {} Tryz.checked os 3 .any (fun w args => (Rows.traceNilSpec.pre enc Tryz.prog Tryz.f3 [] false w args ∧ laidMetH Tryz.prog Rows.traceNilRow.laid w) ∧ sizedMet enc Tryz.prog Tryz.f3 (OpenSpec.ofChange Rows.traceNilSpec) false w args)
      (Rows.traceNilSpec.post enc Tryz.prog Tryz.f3 false true false false) := by
  refine returnsInHanded_of_change_and (C := Tryz.checked) (X := fun w _ => laidMetH Tryz.prog Rows.traceNilRow.laid w) (fun _ _ _ hh h => h.of_heap hh) own started (by kernel_rfl) Tryz.func3
    (ChangeSpec.witness_at (enc := enc) (C := Tryz.checked) (os := os) (X := fun w _ => laidMetH Tryz.prog Rows.traceNilRow.laid w) false (laidWorld os) args0 8 rfl (wit_vars os) (wit_rest os) (wit_ok os) (wit_pre os H enc) (wit_size os H enc) (laidWorld_met os _)) ?_
  intro W base args ds gs before hval0 hW _ _ _ _
  have hW' := hW
  obtain ⟨p, q, hA0, hV, rfl, hfz, hnd⟩ := hW
  have hA : DataW.TrodAll enc Tryz.prog W 0 (fun _ => true) true Tryz.f3.params.toList args.toList ds p := hA0
  rw [Tryz.params3] at hA
  obtain ⟨v0, d0, rfl, rfl, h0⟩ := trodAll_one hA
  obtain ⟨rfl, rfl⟩ := trodVars_none hV
  exact law_contract (m := 4) (tb := 4) (by kernel_rfl) spec_ev hval0 hW' (by kernel_rfl) (by kernel_rfl) rfl rfl rfl rfl


end Go.Proofs.YtjicjmpkgpbdbaaGreatDoor

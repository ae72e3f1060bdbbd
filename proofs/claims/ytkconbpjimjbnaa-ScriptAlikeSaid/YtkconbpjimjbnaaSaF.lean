/- ScriptAlike: at every input true, and the arguments read as they did. -/
import Derived.Test.YtkconbpjimjbnaaSaE
import Derived.Test.YtkconbpjimjbnaaRows
import Derived.WalkKit
import Derived.ProofKit
import Derived.OpenShut
namespace Go.Proofs.Ytkconbpjimjbnaa
open Go Go.Eng Go.ChangeShapes Go.WideShapes Go.ChangeAt Go.RowKit
set_option maxRecDepth 100000

theorem own : ownKnob Try.prog.godebug = none := by kernel_rfl

theorem lifted5 (os : Os) (started : os.Started) (H : Type) (enc : TypeId × Value → H) :
    ReturnsInHanded {} Try.checked os 5 .any (Rows.scriptAlikeSpec.pre6 enc Try.prog Try.f5 Rows.scriptAlikeRow.domain false) (Rows.scriptAlikeSpec.post enc Try.prog Try.f5 false true false false) := by
  refine returnsInHanded_of_change (C := Try.checked) own started (by kernel_rfl) Try.func5
    (ChangeSpec.witness6 (enc := enc) (C := Try.checked) false ⟨#[], #[.agg #[.int .i64 0, .int .i64 0, .int .i64 0, .string ⟨#[]⟩, .slice none 0 0], .agg #[.int .i64 0, .int .i64 0, .int .i64 0, .string ⟨#[]⟩, .slice none 0 0]], []⟩ 8 (by kernel_rfl) (by kernel_rfl) (by kernel_rfl) (by kernel_rfl)) ?_
  intro W base args ds gs before hval0 hW hcnd _
  have hW' := hW
  obtain ⟨p, q, hA0, hV, rfl, hfz, hnd⟩ := hW
  have hA : DataW.TrodAll enc Try.prog W 0 (fun _ => true) true Try.f5.params.toList args.toList ds p := hA0
  rw [Try.params5] at hA
  obtain ⟨v0, v1, d0, d1, e0, rfl, h0⟩ : ∃ v0 v1 d0 d1, args.toList = [v0, v1] ∧ ds = [d0, d1] ∧ True := by
    match hargs : args.toList, ds, hA with
    | [v0, v1], [d0, d1], _ => exact ⟨v0, v1, d0, d1, rfl, rfl, trivial⟩
    | [], _, h => exact h.elim
    | [_], [], h => exact h.elim
    | [_], _ :: _, ⟨_, _, _, h, _⟩ => exact h.elim
    | _ :: _ :: _, [], h => exact h.elim
    | _ :: _ :: _, [_], ⟨_, _, _, h, _⟩ => exact h.elim
    | _ :: _ :: _ :: _, _ :: _ :: _, ⟨_, _, _, ⟨_, _, _, h, _⟩, _⟩ => exact (by cases ‹List _› <;> exact h.elim)
    | [_, _], _ :: _ :: _ :: _, ⟨_, _, _, ⟨_, _, _, h, _⟩, _⟩ => exact h.elim
  obtain ⟨rfl, rfl⟩ := trodVars_none hV
  exact law_contract (m := 4) (tb := 4) (by kernel_rfl) spec5 hval0 hW' (by kernel_rfl) (by kernel_rfl) rfl rfl rfl rfl

theorem scriptAlike_holds : Rows.ScriptAlikeSaid :=
  OpenClaim.holds_of_wide 5 Try.f5 rfl rfl rfl rfl rfl rfl rfl ⟨rfl, rfl, rfl, rfl, rfl⟩ rfl rfl rfl rfl rfl (by kernel_rfl) Try.func5 (by kernel_rfl)
    (of_decide_eq_true (by kernel_rfl)) (by unfold Func.isWrapper; first | (rw [if_pos (by decide +kernel)]; kernel_rfl) | (rw [if_neg (by decide +kernel)]; exact ⟨rfl, rfl⟩))
    (fun os started H enc _ => lifted5 os started H enc)
#print axioms scriptAlike_holds
end Go.Proofs.Ytkconbpjimjbnaa

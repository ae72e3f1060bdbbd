/- ScriptGets: at every input true, and the argument reads as it did. -/
import Derived.Test.YtkconbpjimjbnaaSg26
import Derived.Test.YtkconbpjimjbnaaRows
import Derived.WalkKit
import Derived.ProofKit
import Derived.OpenShut
section
namespace Go.Eng
open Go
set_option maxRecDepth 100000

theorem bRow_of : ∀ (xs : Row), (∀ x ∈ xs, ∃ z, x = [D.int .u8 z] ∧ (Lit.int .u8 z).wf = true) → ∃ l : List UInt8, xs = bRow l
  | [], _ => ⟨[], rfl⟩
  | x :: xs, h => by
    obtain ⟨z, hz, hw⟩ := h x (by simp)
    obtain ⟨l, hl⟩ := bRow_of xs fun y hy => h y (by simp [hy])
    have hw : 0 ≤ z ∧ z ≤ 255 := by simpa [Lit.wf, IntKind.min, IntKind.max, IntKind.signed, IntKind.bits] using hw
    refine ⟨UInt8.ofNat z.toNat :: l, ?_⟩
    rw [hz, hl, bRow_cons, byteRow_eq]
    congr 3
    simp
    omega

noncomputable def R6 (a : List AV) (G : List Ent) : Option (AV × List Ent) := (tfn TT t6 noLo Go.Proofs.Try.f6 a G).run
theorem c6 : COk Go.Proofs.Try.prog 6 R6 := tok_fn (H := fun _ => []) TT_ok t6_ok Go.Proofs.Try.func6 (by kernel_rfl) fun _ _ => LoOk2.no _

theorem spec6 : ∀ dss : List (List D), All2 (fun t d => Ty Go.Proofs.Try.prog 4 t d) Go.Proofs.Try.f6.params.toList dss → ∃ spec : Go.Eng.Spec, COk Go.Proofs.Try.prog 6 spec ∧ ∃ G', spec (List.zipWith (argAV Go.Proofs.Try.prog) Go.Proofs.Try.f6.params.toList dss) [] = some (.dat (.bool true), G') := by
  intro dss h
  rw [Go.Proofs.Try.params6] at h ⊢
  match dss, h with
  | [d1], h =>
    obtain ⟨k, xs, rfl, he, _, _⟩ := Ty.slice Go.Proofs.Try.underlying45 h.1
    obtain ⟨l, rfl⟩ := bRow_of xs fun x hx => Ty.int Go.Proofs.Try.underlying5 (he x hx)
    refine ⟨R6, c6, ?_⟩
    have e1 : argAV Go.Proofs.Try.prog 45 [.list k (Go.Proofs.Try.prog.cellsOf 5) (bRow l)] = .dat (.list k 1 (bRow l)) := by
      unfold argAV
      rw [if_neg (show ¬ aggT Go.Proofs.Try.prog 45 = true by rw [show aggT Go.Proofs.Try.prog 45 = false by kernel_rfl]; simp), show Go.Proofs.Try.prog.cellsOf 5 = 1 by kernel_rfl]
      rfl
    change ∃ G', R6 [argAV Go.Proofs.Try.prog 45 [.list k (Go.Proofs.Try.prog.cellsOf 5) (bRow l)]] [] = _
    rw [e1]
    exact f6_run
  | [], h => exact h.elim
  | _ :: _ :: _, h => exact h.2.elim

end Go.Eng

namespace Go.Proofs.Ytkconbpjimjbnaa
open Go Go.Eng Go.ChangeShapes Go.WideShapes Go.ChangeAt Go.RowKit
set_option maxRecDepth 100000

theorem ownSg : ownKnob Try.prog.godebug = none := by kernel_rfl

theorem lifted6 (os : Os) (started : os.Started) (H : Type) (enc : TypeId × Value → H) :
    ReturnsInHanded {} Try.checked os 6 .any (Rows.scriptGetsSpec.pre6 enc Try.prog Try.f6 Rows.scriptGetsRow.domain false) (Rows.scriptGetsSpec.post enc Try.prog Try.f6 false true false false) := by
  refine returnsInHanded_of_change (C := Try.checked) ownSg started (by kernel_rfl) Try.func6
    (ChangeSpec.witness6 (enc := enc) (C := Try.checked) false ⟨#[], #[.slice none 0 0], []⟩ 8 (by kernel_rfl) (by kernel_rfl) (by kernel_rfl) (by kernel_rfl)) ?_
  intro W base args ds gs before hval0 hW hcnd _
  have hW' := hW
  obtain ⟨p, q, hA0, hV, rfl, hfz, hnd⟩ := hW
  have hA : DataW.TrodAll enc Try.prog W 0 (fun _ => true) true Try.f6.params.toList args.toList ds p := hA0
  rw [Try.params6] at hA
  obtain ⟨v0, d0, rfl, rfl, h0⟩ := trodAll_one hA
  obtain ⟨rfl, rfl⟩ := trodVars_none hV
  exact law_contract (m := 4) (tb := 4) (by kernel_rfl) spec6 hval0 hW' (by kernel_rfl) (by kernel_rfl) rfl rfl rfl rfl

theorem scriptGets_holds : Rows.ScriptGetsSaid :=
  OpenClaim.holds_of_wide 6 Try.f6 rfl rfl rfl rfl rfl rfl rfl ⟨rfl, rfl, rfl, rfl, rfl⟩ rfl rfl rfl rfl rfl (by kernel_rfl) Try.func6 (by kernel_rfl)
    (of_decide_eq_true (by kernel_rfl)) (by unfold Func.isWrapper; first | (rw [if_pos (by decide +kernel)]; kernel_rfl) | (rw [if_neg (by decide +kernel)]; exact ⟨rfl, rfl⟩))
    (fun os started H enc _ => lifted6 os started H enc)
#print axioms scriptGets_holds
end Go.Proofs.Ytkconbpjimjbnaa
end

/- ScriptAlls: at every input true, and the argument reads as it did. -/
import Derived.Test.YtkconbpjimjbnaaSh26
import Derived.Test.YtkconbpjimjbnaaRows
import Derived.WalkKit
import Derived.ProofKit
import Derived.OpenShut
section
namespace Go.Eng
open Go
set_option maxRecDepth 100000

theorem tRow_of' : ∀ (xs : Row), (∀ x ∈ xs, ∃ b, x = [D.bool b]) → ∃ l : List Bool, xs = tRow l
  | [], _ => ⟨[], rfl⟩
  | x :: xs, h => by
    obtain ⟨b, hb⟩ := h x (by simp)
    obtain ⟨l, hl⟩ := tRow_of' xs fun y hy => h y (by simp [hy])
    exact ⟨b :: l, by rw [hb, hl]; rfl⟩

theorem stp_of' {m : Nat} {ds : List D} (h : Ty Go.Proofs.Try.prog (m + 3) 44 ds) : ∃ (s : Stp) (kk : LK), ds = stpD s (.list kk 1 (tRow s.keep)) := by
  have h := Ty.struct Go.Proofs.Try.underlying44 h
  obtain ⟨p1, q1, rfl, t1, p2, q2, rfl, t2, p3, q3, rfl, t3, p4, q4, rfl, t4, p5, q5, rfl, t5, p6, q6, rfl, t6, p7, q7, rfl, t7, hq⟩ := h
  cases hq
  obtain ⟨k, rfl, _⟩ := Ty.int Go.Proofs.Try.underlying3 t1
  obtain ⟨nd, rfl, _⟩ := Ty.int Go.Proofs.Try.underlying3 t2
  obtain ⟨at', rfl, _⟩ := Ty.int Go.Proofs.Try.underlying3 t3
  obtain ⟨n, rfl, _⟩ := Ty.int Go.Proofs.Try.underlying3 t4
  obtain ⟨s, rfl, hs⟩ := Ty.str Go.Proofs.Try.underlying9 t5
  obtain ⟨p, rfl, _⟩ := Ty.int Go.Proofs.Try.underlying3 t6
  obtain ⟨kk, xs, rfl, h2, h3, _⟩ := Ty.slice Go.Proofs.Try.underlying42 t7
  obtain ⟨l, rfl⟩ := tRow_of' xs fun x hx => Ty.bool Go.Proofs.Try.underlying4 (h2 x hx)
  refine ⟨⟨k, nd, at', n, s, p, l⟩, kk, ?_⟩
  rw [show Go.Proofs.Try.prog.cellsOf 4 = 1 from by kernel_rfl]
  rfl

theorem sr_of {m : Nat} : ∀ (xs : Row), (∀ x ∈ xs, Ty Go.Proofs.Try.prog (m + 3) 44 x) → ∃ ss, SR1 ss xs
  | [], _ => ⟨[], rfl, fun i h => absurd h (by simp)⟩
  | x :: xs, h => by
    obtain ⟨s, kk, hx⟩ := stp_of' (h x (by simp))
    obtain ⟨ss, h1, h2⟩ := sr_of xs fun y hy => h y (by simp [hy])
    refine ⟨s :: ss, by simp [h1], fun i hi => ?_⟩
    match i, hi with
    | 0, _ => exact ⟨kk, by simp [hx]⟩
    | i + 1, hi =>
      obtain ⟨kk', h3⟩ := h2 i (by simpa using hi)
      exact ⟨kk', by simpa using h3⟩

theorem lo7_ok : ∀ c, Go.Proofs.Try.f7.body = some c → LoOk2 TT t6.runs (HS7 7) lo7 c := by
  intro c hc
  refine LoOk2.of c fun b hb st r h => ?_
  have hcc : c = codeOf Go.Proofs.Try.f7 := by unfold codeOf; rw [hc]; rfl
  have hl : loops c = [lp7] := by rw [hcc]; kernel_rfl
  rw [hl] at hb
  obtain rfl := List.mem_singleton.1 hb
  rw [show firstRegion lp7 = 4 from by kernel_rfl] at h
  exact tlo2_ok h

noncomputable def R7 (a : List AV) (G : List Ent) : Option (AV × List Ent) := (tfn TT t6 lo7 Go.Proofs.Try.f7 a G).run
theorem c7 : COk Go.Proofs.Try.prog 7 R7 := tok_fn (H := HS7 7) TT_ok t6_ok Go.Proofs.Try.func7 (by kernel_rfl) lo7_ok

theorem spec7 : ∀ dss : List (List D), All2 (fun t d => Ty Go.Proofs.Try.prog 5 t d) Go.Proofs.Try.f7.params.toList dss → ∃ spec : Go.Eng.Spec, COk Go.Proofs.Try.prog 7 spec ∧ ∃ G', spec (List.zipWith (argAV Go.Proofs.Try.prog) Go.Proofs.Try.f7.params.toList dss) [] = some (.dat (.bool true), G') := by
  intro dss h
  rw [Go.Proofs.Try.params7] at h ⊢
  match dss, h with
  | [d1], h =>
    obtain ⟨k, xs, rfl, he, _, _⟩ := Ty.slice Go.Proofs.Try.underlying57 h.1
    obtain ⟨ss, hsr⟩ := sr_of (m := 1) xs he
    refine ⟨R7, c7, ?_⟩
    have e1 : argAV Go.Proofs.Try.prog 57 [.list k (Go.Proofs.Try.prog.cellsOf 44) xs] = .dat (.list k 7 xs) := by
      unfold argAV
      rw [if_neg (show ¬ aggT Go.Proofs.Try.prog 57 = true by rw [show aggT Go.Proofs.Try.prog 57 = false by kernel_rfl]; simp), show Go.Proofs.Try.prog.cellsOf 44 = 7 by kernel_rfl]
      rfl
    change ∃ G', R7 [argAV Go.Proofs.Try.prog 57 [.list k (Go.Proofs.Try.prog.cellsOf 44) xs]] [] = _
    rw [e1]
    exact f7_run hsr
  | [], h => exact h.elim
  | _ :: _ :: _, h => exact h.2.elim

end Go.Eng

namespace Go.Proofs.Ytkconbpjimjbnaa
open Go Go.Eng Go.ChangeShapes Go.WideShapes Go.ChangeAt Go.RowKit
set_option maxRecDepth 100000

theorem ownSh : ownKnob Try.prog.godebug = none := by kernel_rfl

theorem lifted7 (os : Os) (started : os.Started) (H : Type) (enc : TypeId × Value → H) :
    ReturnsInHanded {} Try.checked os 7 .any (Rows.scriptAllsSpec.pre6 enc Try.prog Try.f7 Rows.scriptAllsRow.domain false) (Rows.scriptAllsSpec.post enc Try.prog Try.f7 false true false false) := by
  refine returnsInHanded_of_change (C := Try.checked) ownSh started (by kernel_rfl) Try.func7
    (ChangeSpec.witness6 (enc := enc) (C := Try.checked) false ⟨#[], #[.slice none 0 0], []⟩ 8 (by kernel_rfl) (by kernel_rfl) (by kernel_rfl) (by kernel_rfl)) ?_
  intro W base args ds gs before hval0 hW hcnd _
  have hW' := hW
  obtain ⟨p, q, hA0, hV, rfl, hfz, hnd⟩ := hW
  have hA : DataW.TrodAll enc Try.prog W 0 (fun _ => true) true Try.f7.params.toList args.toList ds p := hA0
  rw [Try.params7] at hA
  obtain ⟨v0, d0, rfl, rfl, h0⟩ := trodAll_one hA
  obtain ⟨rfl, rfl⟩ := trodVars_none hV
  exact law_contract (m := 5) (tb := 4) (by kernel_rfl) spec7 hval0 hW' (by kernel_rfl) (by kernel_rfl) rfl rfl rfl rfl

theorem scriptAlls_holds : Rows.ScriptAllsSaid :=
  OpenClaim.holds_of_wide 7 Try.f7 rfl rfl rfl rfl rfl rfl rfl ⟨rfl, rfl, rfl, rfl, rfl⟩ rfl rfl rfl rfl rfl (by kernel_rfl) Try.func7 (by kernel_rfl)
    (of_decide_eq_true (by kernel_rfl)) (by unfold Func.isWrapper; first | (rw [if_pos (by decide +kernel)]; kernel_rfl) | (rw [if_neg (by decide +kernel)]; exact ⟨rfl, rfl⟩))
    (fun os started H enc _ => lifted7 os started H enc)
#print axioms scriptAlls_holds
end Go.Proofs.Ytkconbpjimjbnaa
end

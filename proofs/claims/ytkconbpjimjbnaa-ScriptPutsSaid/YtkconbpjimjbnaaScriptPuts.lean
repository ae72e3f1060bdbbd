/- ScriptPuts: at every input true, and the arguments read as they did. -/
import Derived.Test.YtkconbpjimjbnaaSp23
import Derived.Test.YtkconbpjimjbnaaRows
import Derived.WalkKit
import Derived.ProofKit
import Derived.OpenShut
section
namespace Go.Eng
open Go
set_option maxRecDepth 100000

theorem tRow_of : ∀ (xs : Row), (∀ x ∈ xs, ∃ b, x = [D.bool b]) → ∃ l : List Bool, xs = tRow l
  | [], _ => ⟨[], rfl⟩
  | x :: xs, h => by
    obtain ⟨b, hb⟩ := h x (by simp)
    obtain ⟨l, hl⟩ := tRow_of xs fun y hy => h y (by simp [hy])
    exact ⟨b :: l, by rw [hb, hl]; rfl⟩

theorem stp_of {m : Nat} {ds : List D} (h : Ty Go.Proofs.Try.prog (m + 3) 44 ds) : ∃ k nd at' n s p kk l, ds = [.int .i64 k, .int .i64 nd, .int .i64 at', .int .i64 n, .str s, .int .i64 p, .list kk 1 (tRow l)] ∧ s.size ≤ maxLen ∧ l.length ≤ maxLen := by
  have h := Ty.struct Go.Proofs.Try.underlying44 h
  obtain ⟨p1, q1, rfl, t1, p2, q2, rfl, t2, p3, q3, rfl, t3, p4, q4, rfl, t4, p5, q5, rfl, t5, p6, q6, rfl, t6, p7, q7, rfl, t7, hq⟩ := h
  cases hq
  obtain ⟨k, rfl, _⟩ := Ty.int Go.Proofs.Try.underlying3 t1
  obtain ⟨nd, rfl, _⟩ := Ty.int Go.Proofs.Try.underlying3 t2
  obtain ⟨at', rfl, _⟩ := Ty.int Go.Proofs.Try.underlying3 t3
  obtain ⟨n, rfl, _⟩ := Ty.int Go.Proofs.Try.underlying3 t4
  obtain ⟨s, rfl, hs⟩ := Ty.str Go.Proofs.Try.underlying9 t5
  obtain ⟨p, rfl, _⟩ := Ty.int Go.Proofs.Try.underlying3 t6
  obtain ⟨kk, xs, rfl, h2, h3, _⟩ := Ty.slice Go.Proofs.Try.underlying42 t7
  obtain ⟨l, rfl⟩ := tRow_of xs fun x hx => Ty.bool Go.Proofs.Try.underlying4 (h2 x hx)
  refine ⟨k, nd, at', n, s, p, kk, l, ?_, hs, by simpa using h3⟩
  rw [show Go.Proofs.Try.prog.cellsOf 4 = 1 from by kernel_rfl]
  rfl

noncomputable def R4 (a : List AV) (G : List Ent) : Option (AV × List Ent) := (tfn TT t4 noLo Go.Proofs.Try.f4 a G).run
theorem c4 : COk Go.Proofs.Try.prog 4 R4 := tok_fn (H := fun _ => []) TT_ok t4_ok Go.Proofs.Try.func4 (by kernel_rfl) fun _ _ => LoOk2.no _

theorem spec4 : ∀ dss : List (List D), All2 (fun t d => Ty Go.Proofs.Try.prog 4 t d) Go.Proofs.Try.f4.params.toList dss → ∃ spec : Go.Eng.Spec, COk Go.Proofs.Try.prog 4 spec ∧ ∃ G', spec (List.zipWith (argAV Go.Proofs.Try.prog) Go.Proofs.Try.f4.params.toList dss) [] = some (.dat (.bool true), G') := by
  intro dss h
  rw [Go.Proofs.Try.params4] at h ⊢
  match dss, h with
  | [d1, d2], h =>
    obtain ⟨k, nd, at', n, s, p, kk, l, rfl, _, _⟩ := stp_of (m := 1) h.1
    obtain ⟨k', nd', at'', n', s', p', kk', l', rfl, _, _⟩ := stp_of (m := 1) h.2.1
    refine ⟨R4, c4, ?_⟩
    have e : ∀ ds : List D, argAV Go.Proofs.Try.prog 44 ds = .agg (ds.map .dat) := fun ds => by
      unfold argAV
      rw [if_pos (show aggT Go.Proofs.Try.prog 44 = true by kernel_rfl)]
    change ∃ G', R4 [argAV Go.Proofs.Try.prog 44 _, argAV Go.Proofs.Try.prog 44 _] [] = _
    rw [e, e]
    exact f4_run
  | [], h => exact h.elim
  | [_], h => exact h.2.elim
  | _ :: _ :: _ :: _, h => exact h.2.2.elim

end Go.Eng

namespace Go.Proofs.Ytkconbpjimjbnaa
open Go Go.Eng Go.ChangeShapes Go.WideShapes Go.ChangeAt Go.RowKit
set_option maxRecDepth 100000

theorem ownSp : ownKnob Try.prog.godebug = none := by kernel_rfl

theorem lifted4 (os : Os) (started : os.Started) (H : Type) (enc : TypeId × Value → H) :
    ReturnsInHanded {} Try.checked os 4 .any (Rows.scriptPutsSpec.pre6 enc Try.prog Try.f4 Rows.scriptPutsRow.domain false) (Rows.scriptPutsSpec.post enc Try.prog Try.f4 false true false false) := by
  refine returnsInHanded_of_change (C := Try.checked) ownSp started (by kernel_rfl) Try.func4
    (ChangeSpec.witness6 (enc := enc) (C := Try.checked) false ⟨#[], #[.agg #[.int .i64 0, .int .i64 0, .int .i64 0, .int .i64 0, .string ⟨#[]⟩, .int .i64 0, .slice none 0 0], .agg #[.int .i64 0, .int .i64 0, .int .i64 0, .int .i64 0, .string ⟨#[]⟩, .int .i64 0, .slice none 0 0]], []⟩ 8 (by kernel_rfl) (by kernel_rfl) (by kernel_rfl) (by kernel_rfl)) ?_
  intro W base args ds gs before hval0 hW hcnd _
  have hW' := hW
  obtain ⟨p, q, hA0, hV, rfl, hfz, hnd⟩ := hW
  have hA : DataW.TrodAll enc Try.prog W 0 (fun _ => true) true Try.f4.params.toList args.toList ds p := hA0
  rw [Try.params4] at hA
  obtain ⟨v0, v1, d0, d1, e0, rfl, h0⟩ : ∃ v0 v1 d0 d1, args.toList = [v0, v1] ∧ ds = [d0, d1] ∧ True := by
    match hargs : args.toList, ds, hA with
    | [v0, v1], [d0, d1], _ => exact ⟨v0, v1, d0, d1, rfl, rfl, trivial⟩
    | [], _, h => exact h.elim
    | [_], [], h => exact h.elim
    | [_], _ :: _, ⟨_, _, _, h, _⟩ => exact h.elim
    | _ :: _ :: _, [], h => exact h.elim
    | _ :: _ :: _, [_], ⟨_, _, _, h, _⟩ => exact h.elim
    | _ :: _ :: _ :: _, _ :: _ :: _, ⟨_, _, _, ⟨_, _, _, h, _⟩, _⟩ => exact (by cases ‹List _› <;> exact h.elim)
    | [_, _], _ :: _ :: _ :: _, ⟨_, _, _, ⟨_, _, _, h, _⟩, _⟩ => exact h.elim
  obtain ⟨rfl, rfl⟩ := trodVars_none hV
  exact law_contract (m := 4) (tb := 4) (by kernel_rfl) spec4 hval0 hW' (by kernel_rfl) (by kernel_rfl) rfl rfl rfl rfl

theorem scriptPuts_holds : Rows.ScriptPutsSaid :=
  OpenClaim.holds_of_wide 4 Try.f4 rfl rfl rfl rfl rfl rfl rfl ⟨rfl, rfl, rfl, rfl, rfl⟩ rfl rfl rfl rfl rfl (by kernel_rfl) Try.func4 (by kernel_rfl)
    (of_decide_eq_true (by kernel_rfl)) (by unfold Func.isWrapper; first | (rw [if_pos (by decide +kernel)]; kernel_rfl) | (rw [if_neg (by decide +kernel)]; exact ⟨rfl, rfl⟩))
    (fun os started H enc _ => lifted4 os started H enc)
#print axioms scriptPuts_holds
end Go.Proofs.Ytkconbpjimjbnaa
end

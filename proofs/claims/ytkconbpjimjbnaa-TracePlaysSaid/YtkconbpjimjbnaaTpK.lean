/- Trace: the law answers true at any list of things that are done. -/
import Derived.Test.YtkconbpjimjbnaaTpI
import Derived.Test.YtkconbpjimjbnaaTpJ
namespace Go.Eng
open Go
set_option maxRecDepth 100000

theorem law_run {k : LK} {l : Row} (hac : acts l) : ∃ G', (lawT k l).run = some (.dat (.bool true), G') := by
  rw [← Tr.ev_run, lawT_eq]
  by_cases h : (l.length : Int) > 300
  · obtain ⟨G', hG⟩ := known_of known0
    refine ⟨G', ?_⟩
    refine rAsk_t (decide_eq_true h) ?_
    exact rGet_step (fnS_eq inj8 hG) rfl
  · rcases loop0 (k := k) hac (by omega) inv_nil with ⟨o1, o2, hlo⟩ | ⟨o1, hlo⟩
    · obtain ⟨G', hG⟩ := known_of (known2 o1 o2)
      refine ⟨G', ?_⟩
      refine rAsk_f (decide_eq_false h) ?_
      refine rGet_step (loS_eq (x := [o1, o2]) out6_inj ?_) ?_
      · exact hlo
      exact rGet_step (fnS_eq inj8 hG) rfl
    · obtain ⟨G', hG⟩ := known_of (known1 o1)
      refine ⟨G', ?_⟩
      refine rAsk_f (decide_eq_false h) ?_
      refine rGet_step (loS_eq (x := [o1]) out6_inj ?_) ?_
      · exact hlo
      exact rGet_step (fnS_eq inj8 hG) rfl

theorem act_of {x : List D} (h : Ty Go.Proofs.Try.prog 3 32 x) : ∃ kd a nd wy n, x = actR kd a nd wy n := by
  have h := Ty.struct Go.Proofs.Try.underlying32 h
  obtain ⟨p1, q1, rfl, t1, p2, q2, rfl, t2, p3, q3, rfl, t3, p4, q4, rfl, t4, p5, q5, rfl, t5, hq⟩ := h
  cases hq
  obtain ⟨a, rfl, _⟩ := Ty.int Go.Proofs.Try.underlying3 t1
  obtain ⟨b, rfl, _⟩ := Ty.int Go.Proofs.Try.underlying3 t2
  obtain ⟨c, rfl, _⟩ := Ty.int Go.Proofs.Try.underlying3 t3
  obtain ⟨d, rfl, _⟩ := Ty.int Go.Proofs.Try.underlying30 t4
  obtain ⟨e, rfl, _⟩ := Ty.int Go.Proofs.Try.underlying2 t5
  exact ⟨a, b, c, d, e, rfl⟩

theorem spec3 : ∀ dss : List (List D), All2 (fun t d => Ty Go.Proofs.Try.prog 4 t d) Go.Proofs.Try.f3.params.toList dss → ∃ spec : Go.Eng.Spec, COk Go.Proofs.Try.prog 3 spec ∧ ∃ G', spec (List.zipWith (argAV Go.Proofs.Try.prog) Go.Proofs.Try.f3.params.toList dss) [] = some (.dat (.bool true), G') := by
  intro dss h
  rw [Go.Proofs.Try.params3] at h ⊢
  match dss, h with
  | [d1], h =>
    obtain ⟨k, l, rfl, he, _, _⟩ := Ty.slice Go.Proofs.Try.underlying22 h.1
    refine ⟨R3, c3, ?_⟩
    have e1 : argAV Go.Proofs.Try.prog 22 [.list k (Go.Proofs.Try.prog.cellsOf 32) l] = .dat (.list k 5 l) := by
      unfold argAV
      rw [if_neg (show ¬ aggT Go.Proofs.Try.prog 22 = true by rw [show aggT Go.Proofs.Try.prog 22 = false by kernel_rfl]; simp), show Go.Proofs.Try.prog.cellsOf 32 = 5 by kernel_rfl]
      rfl
    change ∃ G', R3 [argAV Go.Proofs.Try.prog 22 [.list k (Go.Proofs.Try.prog.cellsOf 32) l]] [] = _
    rw [e1]
    exact law_run fun i hi => act_of (he _ (List.getElem_mem hi))
  | [], h => exact h.elim
  | _ :: _ :: _, h => exact h.2.elim

end Go.Eng

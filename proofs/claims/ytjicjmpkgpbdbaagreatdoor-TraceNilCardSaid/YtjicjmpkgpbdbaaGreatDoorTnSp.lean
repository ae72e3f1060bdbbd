/- TraceNil returns true at each step that reads as data. -/
import Derived.Test.YtjicjmpkgpbdbaaGreatDoorTnEv
import Derived.Test.YtjicjmpkgpbdbaaGreatDoorEngZf
import Derived.Test.YtjicjmpkgpbdbaaGreatDoorCards
import Derived.WalkKit
import Derived.ProofKit
import Derived.OpenShut
namespace Go.Proofs.YtjicjmpkgpbdbaaGreatDoor
open Go Go.Eng Go.ChangeShapes Go.WideShapes Go.ChangeAt Go.RowKit
set_option maxRecDepth 100000

/-- what an argument of seven cells is -/
theorem step_len {ds : List D} (h : Ty Tryz.prog 4 24 ds) : ∃ a b c d e f g, ds = [a, b, c, d, e, f, g] := by
  have hu : ∃ fs, Tryz.prog.underlying 24 = some (.struct fs) ∧ (fs.toList.all fun f => match Tryz.prog.underlying f.type with
      | some (.int _) => true
      | some .string => true
      | some (.slice _) => true
      | _ => false) = true ∧ fs.toList.length = 7 := by
    refine ⟨_, Tryz.underlying24, ?_, ?_⟩ <;> kernel_rfl
  obtain ⟨fs, hu, hall, hlen⟩ := hu
  unfold Ty at h
  rw [hu] at h
  have one : ∀ (t : TypeId) (p : List D), Ty Tryz.prog 3 t p → (match Tryz.prog.underlying t with
      | some (.int _) => true
      | some .string => true
      | some (.slice _) => true
      | _ => false) = true → ∃ a, p = [a] := by
    intro t p hp hk
    unfold Ty at hp
    split at hk
    · rename_i k hk2
      rw [hk2] at hp
      obtain ⟨z, hz, _⟩ := hp
      exact ⟨_, hz⟩
    · rename_i hk2
      rw [hk2] at hp
      obtain ⟨z, hz, _⟩ := hp
      exact ⟨_, hz⟩
    · rename_i e hk2
      rw [hk2] at hp
      obtain ⟨k, xs, hz, _⟩ := hp
      exact ⟨_, hz⟩
    · cases hk
  have many : ∀ (l : List Field) (ds : List D), TyFs (Ty Tryz.prog 3) l ds → (l.all fun f => match Tryz.prog.underlying f.type with
      | some (.int _) => true
      | some .string => true
      | some (.slice _) => true
      | _ => false) = true → ds.length = l.length := by
    intro l
    induction l with
    | nil => intro ds h _; cases h; rfl
    | cons f r ih =>
      intro ds h ha
      obtain ⟨p, q, rfl, hp, hq⟩ := h
      simp only [List.all_cons, Bool.and_eq_true] at ha
      obtain ⟨a, rfl⟩ := one _ _ hp ha.1
      simp only [List.length_append, List.length_cons, List.length_nil, ih q hq ha.2]
      omega
  have hl := many _ _ h hall
  rw [hlen] at hl
  match ds, hl with
  | [a, b, c, d, e, f, g], _ => exact ⟨a, b, c, d, e, f, g, rfl⟩

theorem spec_ev : ∀ dss : List (List D), All2 (fun t d => Ty Tryz.prog 4 t d) Tryz.f3.params.toList dss → ∃ spec : Go.Eng.Spec, COk Tryz.prog 3 spec ∧ ∃ G', spec (List.zipWith (argAV Tryz.prog) Tryz.f3.params.toList dss) [] = some (.dat (.bool true), G') := by
  intro dss h
  rw [Tryz.params3] at h ⊢
  match dss, h with
  | [ds], h =>
    obtain ⟨a, b, c, d, e, f, g, rfl⟩ := step_len h.1
    refine ⟨_, orcN_ok (K := 60) (H := HH) TT_ok (FT := FT) (fun _ _ h => FT_ok h) 7 3, ?_⟩
    have ha : argAV Tryz.prog 24 [a, b, c, d, e, f, g] = .agg [.dat a, .dat b, .dat c, .dat d, .dat e, .dat f, .dat g] := by
      unfold argAV
      rw [if_pos (show aggT Tryz.prog 24 = true by kernel_rfl)]
      rfl
    have := nil_ev a b c d e f g
    rw [← ha] at this
    change ∃ G', orcN FT TT 60 HH 7 3 [argAV Tryz.prog 24 [a, b, c, d, e, f, g]] [] = _
    cases ho : orcN FT TT 60 HH 7 3 [argAV Tryz.prog 24 [a, b, c, d, e, f, g]] [] with
    | none => rw [ho] at this; cases this
    | some r =>
      rw [ho] at this
      simp only [Option.map_some, Option.some.injEq] at this
      exact ⟨r.2, by rw [← this]⟩
  | [], h => exact h.elim
  | _ :: _ :: _, h => exact h.2.elim


end Go.Proofs.YtjicjmpkgpbdbaaGreatDoor

/- SectorMakes: at every input true, and the arguments read as they did; with the listed tables as the program's text lays them. -/
import Derived.Test.YtnbdibeainhnhaaDoorSm23
import Derived.Test.YtnbdibeainhnhaaDoorSm24
section
namespace Go.Eng
open Go
set_option maxRecDepth 100000

theorem spec4 : ∀ dss : List (List D), All2 (fun t d => Ty PP 4 t d) Go.Proofs.Tryd.f4.params.toList dss → ∃ spec : Go.Eng.Spec, COk PP 4 spec ∧ ∃ G', spec (List.zipWith (argAV PP) Go.Proofs.Tryd.f4.params.toList dss) [] = some (.dat (.bool true), G') := by
  intro dss h
  rw [Go.Proofs.Tryd.params4] at h ⊢
  match dss, h with
  | [d1, d2, d3], h =>
    obtain ⟨c, rfl, _⟩ := Ty.int Go.Proofs.Tryd.underlying5 h.1
    obtain ⟨n, rfl, _⟩ := Ty.int Go.Proofs.Tryd.underlying29 h.2.1
    obtain ⟨s, rfl, _⟩ := Ty.str Go.Proofs.Tryd.underlying9 h.2.2.1
    refine ⟨R4, c4, [], ?_⟩
    change R4 [argAV PP 5 [.int .u8 c], argAV PP 29 [.int .u64 n], argAV PP 9 [.str s]] [] = _
    have e0 : argAV PP 5 [.int .u8 c] = .dat (.int .u8 c) := by
      unfold argAV
      rw [if_neg (show ¬ aggT PP 5 = true by rw [show aggT PP 5 = false by kernel_rfl]; simp)]
      rfl
    have e1 : argAV PP 29 [.int .u64 n] = .dat (.int .u64 n) := by
      unfold argAV
      rw [if_neg (show ¬ aggT PP 29 = true by rw [show aggT PP 29 = false by kernel_rfl]; simp)]
      rfl
    have e2 : argAV PP 9 [.str s] = .dat (.str s) := by
      unfold argAV
      rw [if_neg (show ¬ aggT PP 9 = true by rw [show aggT PP 9 = false by kernel_rfl]; simp)]
      rfl
    rw [e0, e1, e2]
    exact f4_run
  | [], h => exact h.elim
  | [_], h => exact h.2.elim
  | [_, _], h => exact h.2.2.elim
  | _ :: _ :: _ :: _ :: _, h => exact h.2.2.2.elim
end Go.Eng

namespace Go.Proofs.YtnbdibeainhnhaaDoor
open Go Go.Eng Go.ChangeShapes Go.WideShapes Go.ChangeAt Go.RowKit
set_option maxRecDepth 100000

theorem lifted4 (os : Os) (started : os.Started) (H : Type) (enc : TypeId × Value → H) :
    ReturnsInHanded {} Tryd.checked os 4 .any (fun w args => (Rows.sectorMakesSpec.pre enc Tryd.prog Tryd.f4 [] false w args ∧ laidMetH Tryd.prog Rows.sectorMakesRow.laid w) ∧ sizedMet enc Tryd.prog Tryd.f4 (OpenSpec.ofChange Rows.sectorMakesSpec) false w args)
      (Rows.sectorMakesSpec.post enc Tryd.prog Tryd.f4 false true false false) := by
  refine returnsInHanded_laid_shaped (C := Tryd.checked) (X := fun w _ => laidMetH Tryd.prog Rows.sectorMakesRow.laid w) (fun _ _ _ hh h => h.of_heap hh) ownSe started (by kernel_rfl) Tryd.func4
    (ChangeSpec.witness_shaped (enc := enc) (C := Tryd.checked) (os := os) (X := fun w _ => laidMetH Tryd.prog Rows.sectorMakesRow.laid w) false (World.laidAll Tryd.prog os laidSe) #[.int .u8 0, .int .u64 0, .string ⟨#[]⟩] 8 (World.laidAll_os _ _ _)
      (World.shaped_of_ZipB (by kernel_rfl) (by kernel_rfl)) (by kernel_rfl) (by kernel_rfl) (by kernel_rfl) (laidWorld_met os _)) ?_
  intro W base args ds gs before hval0 hW _ _ hL hsh
  have hW' := hW
  obtain ⟨p, q, hA0, hV, rfl, hfz, hnd⟩ := hW
  have hA : DataW.TrodAll enc Tryd.prog W 0 (fun _ => true) true Tryd.f4.params.toList args.toList ds p := hA0
  rw [Tryd.params4] at hA
  obtain ⟨v0, v1, v2, d0, d1, d2, p0, p1, p2, rfl, rfl, rfl, h0, h1, h2⟩ := trodAll_three hA
  obtain ⟨rfl, rfl⟩ := trodVars_none hV
  exact law_contract (m := 4) (tb := 4) (by kernel_rfl) spec4 hval0 hW' (by kernel_rfl) (by kernel_rfl) rfl rfl rfl rfl (laid_ok hL hsh)

theorem sectorMakesRow_holds : Rows.SectorMakesSaid :=
  OpenClaim.holds_of_wide 4 Tryd.f4 rfl rfl rfl rfl rfl rfl rfl ⟨rfl, rfl, rfl, rfl, rfl⟩ rfl rfl rfl rfl rfl (by kernel_rfl) Tryd.func4 (by kernel_rfl)
    (of_decide_eq_true (by kernel_rfl)) (by unfold Func.isWrapper; first | (rw [if_pos (by decide +kernel)]; kernel_rfl) | (rw [if_neg (by decide +kernel)]; exact ⟨rfl, rfl⟩))
    (fun os started H enc _ => lifted4 os started H enc)

theorem sectorMakes_holds : Rows.SectorMakesCardSaid :=
  Claim7.holds_tied_plain_at .later [] [.data, .data, .data, .data, .sentinel, .sentinel, .pinned] true (true, "60e2e7e09b6cc6f553914a6b7ae05fc52ae995787144df4cf471bc64dad5831c") true
    sectorMakesRow_holds (fun _ h => by cases h) (by kernel_rfl) (fun _ h => by cases h) sectorMakes_row_tie rfl ⟨rfl, rfl⟩ (by kernel_rfl) rfl
    (fun f fn hf hfn => by
      obtain rfl : f = 4 := Option.some.inj ((show Tryd.prog.funcNamed "pentimento/pentimentolaw05.SectorMakes" = some 4 by kernel_rfl).symm.trans hf) |>.symm
      obtain rfl : fn = Tryd.f4 := (Option.some.inj (Tryd.func4.symm.trans hfn)).symm
      exact ⟨by kernel_rfl, fun j t ht => by
        rw [Tryd.params4] at ht
        have hm : t ∈ [5, 29, 9] := by simpa using Array.mem_of_getElem? ht
        have hall : ([5, 29, 9].all fun u => !Tryd.prog.wantsStandIn u) = true := by kernel_rfl
        exact (show Tryd.prog.wantsStandIn t = false by simpa using List.all_eq_true.1 hall t hm)⟩)
    (by kernel_rfl)
#print axioms sectorMakes_holds
end Go.Proofs.YtnbdibeainhnhaaDoor
end

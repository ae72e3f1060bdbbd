/- ShowParse: at every input true, and the argument reads as it did; with the listed tables as the program's text lays them. -/
import Derived.Test.YtnkiegafaiebiaaDoorSp34
import Derived.Test.YtnkiegafaiebiaaDoorSp35
section
namespace Go.Eng
open Go
set_option maxRecDepth 100000

theorem strAV9 (s : ByteArray) : argAV PP 9 [.str s] = .dat (.str s) := by
  unfold argAV
  rw [if_neg (show ¬ aggT PP 9 = true by rw [show aggT PP 9 = false by kernel_rfl]; simp)]
  rfl
theorem spec4 : ∀ dss : List (List D), All2 (fun t d => Ty PP 4 t d) Go.Proofs.Tryd.f4.params.toList dss → ∃ spec : Go.Eng.Spec, COk PP 4 spec ∧ ∃ G', spec (List.zipWith (argAV PP) Go.Proofs.Tryd.f4.params.toList dss) [] = some (.dat (.bool true), G') := by
  intro dss h
  rw [Go.Proofs.Tryd.params4] at h ⊢
  match dss, h with
  | [d1], h =>
    obtain ⟨a, rfl, ha⟩ := Ty.str Go.Proofs.Tryd.underlying9 h.1
    refine ⟨R104, cW4, [], ?_⟩
    change R104 [argAV PP 9 [.str a]] [] = _
    rw [strAV9]
    exact f4_run a
  | [], h => exact h.elim
  | _ :: _ :: _, h => exact h.2.elim
end Go.Eng

namespace Go.Proofs.YtnkiegafaiebiaaDoor
open Go Go.Eng Go.ChangeShapes Go.WideShapes Go.ChangeAt Go.RowKit
set_option maxRecDepth 100000

theorem lifted4 (os : Os) (started : os.Started) (H : Type) (enc : TypeId × Value → H) :
    ReturnsInHanded {} Tryd.checked os 4 .any (fun w args => (Rows.showParseSpec.pre enc Tryd.prog Tryd.f4 [] false w args ∧ laidMetH Tryd.prog Rows.showParseRow.laid w) ∧ sizedMet enc Tryd.prog Tryd.f4 (OpenSpec.ofChange Rows.showParseSpec) false w args)
      (Rows.showParseSpec.post enc Tryd.prog Tryd.f4 false true false false) := by
  refine returnsInHanded_laid_shaped (C := Tryd.checked) (X := fun w _ => laidMetH Tryd.prog Rows.showParseRow.laid w) (fun _ _ _ hh h => h.of_heap hh) ownSw started (by kernel_rfl) Tryd.func4
    (ChangeSpec.witness_shaped (enc := enc) (C := Tryd.checked) (os := os) (X := fun w _ => laidMetH Tryd.prog Rows.showParseRow.laid w) false (World.laidAll Tryd.prog os laidSw) #[.string ⟨#[]⟩] 8 (World.laidAll_os _ _ _)
      (World.shaped_of_ZipB (by kernel_rfl) (by kernel_rfl)) (by kernel_rfl) (by kernel_rfl) (by kernel_rfl) (laidWorld_met os _)) ?_
  intro W base args ds gs before hval0 hW _ _ hL hsh
  have hW' := hW
  obtain ⟨p, q, hA0, hV, rfl, hfz, hnd⟩ := hW
  have hA : DataW.TrodAll enc Tryd.prog W 0 (fun _ => true) true Tryd.f4.params.toList args.toList ds p := hA0
  rw [Tryd.params4] at hA
  obtain ⟨v0, d0, rfl, rfl, _, h0⟩ := trodAll_one hA
  obtain ⟨rfl, rfl⟩ := trodVars_none hV
  exact law_contract (m := 4) (tb := 4) (by kernel_rfl) spec4 hval0 hW' (by kernel_rfl) (by kernel_rfl) rfl rfl rfl rfl (laid_ok hL hsh)

theorem showParseRow_holds : Rows.ShowParseSaid :=
  OpenClaim.holds_of_wide 4 Tryd.f4 rfl rfl rfl rfl rfl rfl rfl ⟨rfl, rfl, rfl, rfl, rfl⟩ rfl rfl rfl rfl rfl (by kernel_rfl) Tryd.func4 (by kernel_rfl)
    (of_decide_eq_true (by kernel_rfl)) (by unfold Func.isWrapper; first | (rw [if_pos (by decide +kernel)]; kernel_rfl) | (rw [if_neg (by decide +kernel)]; exact ⟨rfl, rfl⟩))
    (fun os started H enc _ => lifted4 os started H enc)

theorem showParse_holds : Rows.ShowParseCardSaid :=
  Claim7.holds_tied_plain_at .later [] [.data, .data, .data, .data, .sentinel, .sentinel, .pinned] true (true, "0ea57fb98f4e92ac93dc2a68d6da1d1d456267dff045098581c9e5d5921bc007") true
    showParseRow_holds (fun _ h => by cases h) (by kernel_rfl) (fun _ h => by cases h) showParse_row_tie rfl ⟨rfl, rfl⟩ (by kernel_rfl) rfl
    (fun f fn hf hfn => by
      obtain rfl : f = 4 := Option.some.inj ((show Tryd.prog.funcNamed "pentimento/pentimentolaw31.ShowParse" = some 4 by kernel_rfl).symm.trans hf) |>.symm
      obtain rfl : fn = Tryd.f4 := (Option.some.inj (Tryd.func4.symm.trans hfn)).symm
      exact ⟨by kernel_rfl, fun j t ht => by
        rw [Tryd.params4] at ht
        have hm : t ∈ [9] := by simpa using Array.mem_of_getElem? ht
        have hall : ([9].all fun u => !Tryd.prog.wantsStandIn u) = true := by kernel_rfl
        exact (show Tryd.prog.wantsStandIn t = false by simpa using List.all_eq_true.1 hall t hm)⟩)
    (by kernel_rfl)
#print axioms showParse_holds
end Go.Proofs.YtnkiegafaiebiaaDoor
end

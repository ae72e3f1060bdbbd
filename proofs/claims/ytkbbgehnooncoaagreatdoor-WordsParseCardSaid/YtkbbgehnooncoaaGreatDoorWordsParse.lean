/- WordsParse: at every input true, and the argument reads as it did; with the listed tables as the program's text lays them. -/
import Derived.Test.YtkbbgehnooncoaaGreatDoorWp35
import Derived.Test.YtkbbgehnooncoaaGreatDoorWp36
section
namespace Go.Eng
open Go
set_option maxRecDepth 100000

theorem strAV9 (s : ByteArray) : argAV PP 9 [.str s] = .dat (.str s) := by
  unfold argAV
  rw [if_neg (show ¬ aggT PP 9 = true by rw [show aggT PP 9 = false by kernel_rfl]; simp)]
  rfl
attribute [local irreducible] R204 argAV
theorem spec4 : ∀ dss : List (List D), All2 (fun t d => Ty PP 4 t d) Go.Proofs.Tryz.f4.params.toList dss → ∃ spec : Go.Eng.Spec, COk PP 4 spec ∧ ∃ G', spec (List.zipWith (argAV PP) Go.Proofs.Tryz.f4.params.toList dss) [] = some (.dat (.bool true), G') := by
  intro dss h
  rw [Go.Proofs.Tryz.params4] at h ⊢
  match dss, h with
  | [d1], h =>
    obtain ⟨a, rfl, ha⟩ := Ty.str Go.Proofs.Tryz.underlying9 h.1
    refine ⟨R204, cV4, [], ?_⟩
    change R204 [argAV PP 9 [.str a]] [] = _
    rw [strAV9]
    exact f4_runW a
  | [], h => exact h.elim
  | _ :: _ :: _, h => exact h.2.elim
end Go.Eng

namespace Go.Proofs.YtkbbgehnooncoaaGreatDoor
open Go Go.Eng Go.ChangeShapes Go.WideShapes Go.ChangeAt Go.RowKit
set_option maxRecDepth 100000

theorem lifted4 (os : Os) (started : os.Started) (H : Type) (enc : TypeId × Value → H) :
    ReturnsInHanded {} Tryz.checked os 4 .any (fun w args => (Rows.wordsParseSpec.pre enc Tryz.prog Tryz.f4 [] false w args ∧ laidMetH Tryz.prog Rows.wordsParseRow.laid w) ∧ sizedMet enc Tryz.prog Tryz.f4 (OpenSpec.ofChange Rows.wordsParseSpec) false w args)
      (Rows.wordsParseSpec.post enc Tryz.prog Tryz.f4 false true false false) := by
  refine returnsInHanded_laid_shaped (C := Tryz.checked) (X := fun w _ => laidMetH Tryz.prog Rows.wordsParseRow.laid w) (fun _ _ _ hh h => h.of_heap hh) ownVw started (by kernel_rfl) Tryz.func4
    (ChangeSpec.witness_shaped (enc := enc) (C := Tryz.checked) (os := os) (X := fun w _ => laidMetH Tryz.prog Rows.wordsParseRow.laid w) false (World.laidAll Tryz.prog os laidVw) #[.string ⟨#[]⟩] 8 (World.laidAll_os _ _ _)
      (World.shaped_of_ZipB (by kernel_rfl) (by kernel_rfl)) (by kernel_rfl) (by kernel_rfl) (by kernel_rfl) (laidWorld_met os _)) ?_
  intro W base args ds gs before hval0 hW _ _ hL hsh
  have hW' := hW
  obtain ⟨p, q, hA0, hV, rfl, hfz, hnd⟩ := hW
  have hA : DataW.TrodAll enc Tryz.prog W 0 (fun _ => true) true Tryz.f4.params.toList args.toList ds p := hA0
  rw [Tryz.params4] at hA
  obtain ⟨v0, d0, rfl, rfl, _, h0⟩ := trodAll_one hA
  obtain ⟨rfl, rfl⟩ := trodVars_none hV
  exact law_contract (m := 4) (tb := 4) (by kernel_rfl) spec4 hval0 hW' (by kernel_rfl) (by kernel_rfl) rfl rfl rfl rfl (laid_ok hL hsh)

theorem wordsParseRow_holds : Rows.WordsParseSaid :=
  OpenClaim.holds_of_wide 4 Tryz.f4 rfl rfl rfl rfl rfl rfl rfl ⟨rfl, rfl, rfl, rfl, rfl⟩ rfl rfl rfl rfl rfl (by kernel_rfl) Tryz.func4 (by kernel_rfl)
    (of_decide_eq_true (by kernel_rfl)) (by unfold Func.isWrapper; first | (rw [if_pos (by decide +kernel)]; kernel_rfl) | (rw [if_neg (by decide +kernel)]; exact ⟨rfl, rfl⟩))
    (fun os started H enc _ => lifted4 os started H enc)

theorem wordsParse_holds : Rows.WordsParseCardSaid :=
  Claim7.holds_tied_plain_at .later [] [.data, .data, .data, .data, .sentinel, .sentinel, .pinned] true (true, "d97b006e4a863ce82e386467def652e0e87e92a4bf101d7bb1e868bf2de1ee5d") true
    wordsParseRow_holds (fun _ h => by cases h) (by kernel_rfl) (fun _ h => by cases h) wordsParse_row_tie rfl ⟨rfl, rfl⟩ (by kernel_rfl) rfl
    (fun f fn hf hfn => by
      obtain rfl : f = 4 := Option.some.inj ((show Tryz.prog.funcNamed "pentimento/pentimentolaw30.WordsParse" = some 4 by kernel_rfl).symm.trans hf) |>.symm
      obtain rfl : fn = Tryz.f4 := (Option.some.inj (Tryz.func4.symm.trans hfn)).symm
      exact ⟨by kernel_rfl, fun j t ht => by
        rw [Tryz.params4] at ht
        have hm : t ∈ [9] := by simpa using Array.mem_of_getElem? ht
        have hall : ([9].all fun u => !Tryz.prog.wantsStandIn u) = true := by kernel_rfl
        exact (show Tryz.prog.wantsStandIn t = false by simpa using List.all_eq_true.1 hall t hm)⟩)
    (by kernel_rfl)
#print axioms wordsParse_holds
end Go.Proofs.YtkbbgehnooncoaaGreatDoor
end

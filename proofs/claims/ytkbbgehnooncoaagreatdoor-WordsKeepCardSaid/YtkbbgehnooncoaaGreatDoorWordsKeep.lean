/- WordsKeep: at every input true, and the arguments read as they did; with the listed tables as the program's text lays them. -/
import Derived.Test.YtkbbgehnooncoaaGreatDoorWk33
import Derived.Test.YtkbbgehnooncoaaGreatDoorWk34
section
namespace Go.Eng
open Go
set_option maxRecDepth 100000

theorem bools_of {n : Nat} : ∀ (xs : Row), (∀ x ∈ xs, Ty PP (n + 1) 4 x) → ∃ us : List Bool, xs = encB us
  | [], _ => ⟨[], rfl⟩
  | x :: xs, h => by
    obtain ⟨z, rfl⟩ := Ty.bool Go.Proofs.Tryz.underlying4 (h x (by simp))
    obtain ⟨us, rfl⟩ := bools_of xs fun y hy => h y (by simp [hy])
    exact ⟨z :: us, rfl⟩
theorem strAV9 (s : ByteArray) : argAV PP 9 [.str s] = .dat (.str s) := by
  unfold argAV
  rw [if_neg (show ¬ aggT PP 9 = true by rw [show aggT PP 9 = false by kernel_rfl]; simp)]
  rfl
theorem listAV22 (d : D) : argAV PP 22 [d] = .dat d := by
  unfold argAV
  rw [if_neg (show ¬ aggT PP 22 = true by rw [show aggT PP 22 = false by kernel_rfl]; simp)]
  rfl
attribute [local irreducible] R205 argAV
theorem spec5 : ∀ dss : List (List D), All2 (fun t d => Ty PP 4 t d) Go.Proofs.Tryz.f5.params.toList dss → ∃ spec : Go.Eng.Spec, COk PP 5 spec ∧ ∃ G', spec (List.zipWith (argAV PP) Go.Proofs.Tryz.f5.params.toList dss) [] = some (.dat (.bool true), G') := by
  intro dss h
  rw [Go.Proofs.Tryz.params5] at h ⊢
  match dss, h with
  | [d1, d2], h =>
    have hc : PP.cellsOf 4 = 1 := by kernel_rfl
    obtain ⟨k, xs, rfl, he, _, _⟩ := Ty.slice Go.Proofs.Tryz.underlying22 h.1
    obtain ⟨us, rfl⟩ := bools_of xs he
    obtain ⟨a, rfl, ha⟩ := Ty.str Go.Proofs.Tryz.underlying9 h.2.1
    refine ⟨R205, cV5, [], ?_⟩
    rw [hc]
    change R205 [argAV PP 22 [.list k 1 (encB us)], argAV PP 9 [.str a]] [] = _
    rw [strAV9, listAV22]
    exact f5_runK a (fun _ => rfl)
  | [], h => exact h.elim
  | [_], h => exact h.2.elim
  | _ :: _ :: _ :: _, h => exact h.2.2.elim
end Go.Eng

namespace Go.Proofs.YtkbbgehnooncoaaGreatDoor
open Go Go.Eng Go.ChangeShapes Go.WideShapes Go.ChangeAt Go.RowKit
set_option maxRecDepth 100000

theorem lifted5 (os : Os) (started : os.Started) (H : Type) (enc : TypeId × Value → H) :
    ReturnsInHanded {} Tryz.checked os 5 .any (fun w args => (Rows.wordsKeepSpec.pre enc Tryz.prog Tryz.f5 [] false w args ∧ laidMetH Tryz.prog Rows.wordsKeepRow.laid w) ∧ sizedMet enc Tryz.prog Tryz.f5 (OpenSpec.ofChange Rows.wordsKeepSpec) false w args)
      (Rows.wordsKeepSpec.post enc Tryz.prog Tryz.f5 false true false false) := by
  refine returnsInHanded_laid_shaped (C := Tryz.checked) (X := fun w _ => laidMetH Tryz.prog Rows.wordsKeepRow.laid w) (fun _ _ _ hh h => h.of_heap hh) ownVw started (by kernel_rfl) Tryz.func5
    (ChangeSpec.witness_shaped (enc := enc) (C := Tryz.checked) (os := os) (X := fun w _ => laidMetH Tryz.prog Rows.wordsKeepRow.laid w) false (World.laidAll Tryz.prog os laidVw) #[.slice none 0 0, .string ⟨#[]⟩] 8 (World.laidAll_os _ _ _)
      (World.shaped_of_ZipB (by kernel_rfl) (by kernel_rfl)) (by kernel_rfl) (by kernel_rfl) (by kernel_rfl) (laidWorld_met os _)) ?_
  intro W base args ds gs before hval0 hW _ _ hL hsh
  have hW' := hW
  obtain ⟨p, q, hA0, hV, rfl, hfz, hnd⟩ := hW
  have hA : DataW.TrodAll enc Tryz.prog W 0 (fun _ => true) true Tryz.f5.params.toList args.toList ds p := hA0
  rw [Tryz.params5] at hA
  obtain ⟨v0, v1, d0, d1, p0, p1, rfl, rfl, rfl, h0, h1⟩ := trodAll_two hA
  obtain ⟨rfl, rfl⟩ := trodVars_none hV
  exact law_contract (m := 4) (tb := 4) (by kernel_rfl) spec5 hval0 hW' (by kernel_rfl) (by kernel_rfl) rfl rfl rfl rfl (laid_ok hL hsh)

theorem wordsKeepRow_holds : Rows.WordsKeepSaid :=
  OpenClaim.holds_of_wide 5 Tryz.f5 rfl rfl rfl rfl rfl rfl rfl ⟨rfl, rfl, rfl, rfl, rfl⟩ rfl rfl rfl rfl rfl (by kernel_rfl) Tryz.func5 (by kernel_rfl)
    (of_decide_eq_true (by kernel_rfl)) (by unfold Func.isWrapper; first | (rw [if_pos (by decide +kernel)]; kernel_rfl) | (rw [if_neg (by decide +kernel)]; exact ⟨rfl, rfl⟩))
    (fun os started H enc _ => lifted5 os started H enc)

theorem wordsKeep_holds : Rows.WordsKeepCardSaid :=
  Claim7.holds_tied_plain_at .later [] [.data, .data, .data, .data, .sentinel, .sentinel, .pinned] true (true, "d97b006e4a863ce82e386467def652e0e87e92a4bf101d7bb1e868bf2de1ee5d") true
    wordsKeepRow_holds (fun _ h => by cases h) (by kernel_rfl) (fun _ h => by cases h) wordsKeep_row_tie rfl ⟨rfl, rfl⟩ (by kernel_rfl) rfl
    (fun f fn hf hfn => by
      obtain rfl : f = 5 := Option.some.inj ((show Tryz.prog.funcNamed "pentimento/pentimentolaw30.WordsKeep" = some 5 by kernel_rfl).symm.trans hf) |>.symm
      obtain rfl : fn = Tryz.f5 := (Option.some.inj (Tryz.func5.symm.trans hfn)).symm
      exact ⟨by kernel_rfl, fun j t ht => by
        rw [Tryz.params5] at ht
        have hm : t ∈ [22, 9] := by simpa using Array.mem_of_getElem? ht
        have hall : ([22, 9].all fun u => !Tryz.prog.wantsStandIn u) = true := by kernel_rfl
        exact (show Tryz.prog.wantsStandIn t = false by simpa using List.all_eq_true.1 hall t hm)⟩)
    (by kernel_rfl)
#print axioms wordsKeep_holds
end Go.Proofs.YtkbbgehnooncoaaGreatDoor
end

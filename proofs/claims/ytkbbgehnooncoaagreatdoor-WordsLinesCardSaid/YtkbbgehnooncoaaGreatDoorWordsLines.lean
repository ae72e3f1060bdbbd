/- WordsLines: at every input true, and the argument reads as it did; with the listed tables as the program's text lays them. -/
import Derived.Test.YtkbbgehnooncoaaGreatDoorWl35
import Derived.Test.YtkbbgehnooncoaaGreatDoorWl36
section
namespace Go.Eng
open Go
set_option maxRecDepth 100000

theorem fit_of {z : Int} (h : (Lit.int .i64 z).wf = true) : fit64 z := by
  simp only [Lit.wf, Bool.and_eq_true, decide_eq_true_eq] at h
  have h0 : (-9223372036854775808 : Int) ≤ z := h.1
  have h1 : z ≤ 9223372036854775807 := h.2
  exact ⟨by omega, by omega⟩
theorem bools_of {n : Nat} : ∀ (xs : Row), (∀ x ∈ xs, Ty PP (n + 1) 4 x) → ∃ us : List Bool, xs = encB us
  | [], _ => ⟨[], rfl⟩
  | x :: xs, h => by
    obtain ⟨z, rfl⟩ := Ty.bool Go.Proofs.Tryz.underlying4 (h x (by simp))
    obtain ⟨us, rfl⟩ := bools_of xs fun y hy => h y (by simp [hy])
    exact ⟨z :: us, rfl⟩
theorem step_of {d : List D} (h : Ty PP 4 24 d) : ∃ (x : Stw) (k : LK), d = [.int .i64 x.kind, .int .i64 x.node, .int .i64 x.at_, .int .i64 x.n, .str (ba x.data), .int .i64 x.stop, .list k 1 (encB x.keep)] ∧ fitW x := by
  have hc : PP.cellsOf 4 = 1 := by kernel_rfl
  have h2 := Ty.struct Go.Proofs.Tryz.underlying24 h
  obtain ⟨p0, q, rfl, t0, h2⟩ := h2
  obtain ⟨p1, q, rfl, t1, h2⟩ := h2
  obtain ⟨p2, q, rfl, t2, h2⟩ := h2
  obtain ⟨p3, q, rfl, t3, h2⟩ := h2
  obtain ⟨p4, q, rfl, t4, h2⟩ := h2
  obtain ⟨p5, q, rfl, t5, h2⟩ := h2
  obtain ⟨p6, q, rfl, t6, h2⟩ := h2
  obtain rfl : q = [] := h2
  obtain ⟨a, rfl, w0⟩ := Ty.int Go.Proofs.Tryz.underlying3 t0
  obtain ⟨b, rfl, w1⟩ := Ty.int Go.Proofs.Tryz.underlying3 t1
  obtain ⟨c, rfl, w2⟩ := Ty.int Go.Proofs.Tryz.underlying3 t2
  obtain ⟨e, rfl, w3⟩ := Ty.int Go.Proofs.Tryz.underlying3 t3
  obtain ⟨s, rfl, _⟩ := Ty.str Go.Proofs.Tryz.underlying9 t4
  obtain ⟨f, rfl, w5⟩ := Ty.int Go.Proofs.Tryz.underlying3 t5
  obtain ⟨k, xs, rfl, he, _, _⟩ := Ty.slice Go.Proofs.Tryz.underlying22 t6
  obtain ⟨us, rfl⟩ := bools_of xs he
  rw [hc]
  exact ⟨⟨a, b, c, e, s.data.toList, f, us⟩, k, by rw [show ba s.data.toList = s from (ba_of s).symm]; rfl, fit_of w0, fit_of w1, fit_of w2, fit_of w3, fit_of w5⟩
theorem stepAV {x : Stw} {k : LK} : argAV PP 24 [.int .i64 x.kind, .int .i64 x.node, .int .i64 x.at_, .int .i64 x.n, .str (ba x.data), .int .i64 x.stop, .list k 1 (encB x.keep)] = stv x k 1 := by
  unfold argAV
  rw [if_pos (show aggT PP 24 = true by kernel_rfl)]
  rfl
attribute [local irreducible] R203 argAV stv
theorem spec3 : ∀ dss : List (List D), All2 (fun t d => Ty PP 4 t d) Go.Proofs.Tryz.f3.params.toList dss → ∃ spec : Go.Eng.Spec, COk PP 3 spec ∧ ∃ G', spec (List.zipWith (argAV PP) Go.Proofs.Tryz.f3.params.toList dss) [] = some (.dat (.bool true), G') := by
  intro dss h
  rw [Go.Proofs.Tryz.params3] at h ⊢
  match dss, h with
  | [d1], h =>
    obtain ⟨x, k, rfl, hf⟩ := step_of h.1
    refine ⟨R203, cV3, [], ?_⟩
    change R203 [argAV PP 24 [.int .i64 x.kind, .int .i64 x.node, .int .i64 x.at_, .int .i64 x.n, .str (ba x.data), .int .i64 x.stop, .list k 1 (encB x.keep)]] [] = _
    rw [stepAV]
    exact f3_runW hf (fun _ => rfl)
  | [], h => exact h.elim
  | _ :: _ :: _, h => exact h.2.elim
end Go.Eng

namespace Go.Proofs.YtkbbgehnooncoaaGreatDoor
open Go Go.Eng Go.ChangeShapes Go.WideShapes Go.ChangeAt Go.RowKit
set_option maxRecDepth 100000

theorem lifted3 (os : Os) (started : os.Started) (H : Type) (enc : TypeId × Value → H) :
    ReturnsInHanded {} Tryz.checked os 3 .any (fun w args => (Rows.wordsLinesSpec.pre enc Tryz.prog Tryz.f3 [] false w args ∧ laidMetH Tryz.prog Rows.wordsLinesRow.laid w) ∧ sizedMet enc Tryz.prog Tryz.f3 (OpenSpec.ofChange Rows.wordsLinesSpec) false w args)
      (Rows.wordsLinesSpec.post enc Tryz.prog Tryz.f3 false true false false) := by
  refine returnsInHanded_laid_shaped (C := Tryz.checked) (X := fun w _ => laidMetH Tryz.prog Rows.wordsLinesRow.laid w) (fun _ _ _ hh h => h.of_heap hh) ownVw started (by kernel_rfl) Tryz.func3
    (ChangeSpec.witness_shaped (enc := enc) (C := Tryz.checked) (os := os) (X := fun w _ => laidMetH Tryz.prog Rows.wordsLinesRow.laid w) false (World.laidAll Tryz.prog os laidVw) #[.agg #[.int .i64 0, .int .i64 0, .int .i64 0, .int .i64 0, .string ⟨#[]⟩, .int .i64 0, .slice none 0 0]] 8 (World.laidAll_os _ _ _)
      (World.shaped_of_ZipB (by kernel_rfl) (by kernel_rfl)) (by kernel_rfl) (by kernel_rfl) (by kernel_rfl) (laidWorld_met os _)) ?_
  intro W base args ds gs before hval0 hW _ _ hL hsh
  have hW' := hW
  obtain ⟨p, q, hA0, hV, rfl, hfz, hnd⟩ := hW
  have hA : DataW.TrodAll enc Tryz.prog W 0 (fun _ => true) true Tryz.f3.params.toList args.toList ds p := hA0
  rw [Tryz.params3] at hA
  obtain ⟨v0, d0, rfl, rfl, _, h0⟩ := trodAll_one hA
  obtain ⟨rfl, rfl⟩ := trodVars_none hV
  exact law_contract (m := 4) (tb := 4) (by kernel_rfl) spec3 hval0 hW' (by kernel_rfl) (by kernel_rfl) rfl rfl rfl rfl (laid_ok hL hsh)

theorem wordsLinesRow_holds : Rows.WordsLinesSaid :=
  OpenClaim.holds_of_wide 3 Tryz.f3 rfl rfl rfl rfl rfl rfl rfl ⟨rfl, rfl, rfl, rfl, rfl⟩ rfl rfl rfl rfl rfl (by kernel_rfl) Tryz.func3 (by kernel_rfl)
    (of_decide_eq_true (by kernel_rfl)) (by unfold Func.isWrapper; first | (rw [if_pos (by decide +kernel)]; kernel_rfl) | (rw [if_neg (by decide +kernel)]; exact ⟨rfl, rfl⟩))
    (fun os started H enc _ => lifted3 os started H enc)

theorem wordsLines_holds : Rows.WordsLinesCardSaid :=
  Claim7.holds_tied_plain_at .later [] [.data, .data, .data, .data, .sentinel, .sentinel, .pinned] true (true, "d97b006e4a863ce82e386467def652e0e87e92a4bf101d7bb1e868bf2de1ee5d") true
    wordsLinesRow_holds (fun _ h => by cases h) (by kernel_rfl) (fun _ h => by cases h) wordsLines_row_tie rfl ⟨rfl, rfl⟩ (by kernel_rfl) rfl
    (fun f fn hf hfn => by
      obtain rfl : f = 3 := Option.some.inj ((show Tryz.prog.funcNamed "pentimento/pentimentolaw30.WordsLines" = some 3 by kernel_rfl).symm.trans hf) |>.symm
      obtain rfl : fn = Tryz.f3 := (Option.some.inj (Tryz.func3.symm.trans hfn)).symm
      exact ⟨by kernel_rfl, fun j t ht => by
        rw [Tryz.params3] at ht
        have hm : t ∈ [24] := by simpa using Array.mem_of_getElem? ht
        have hall : ([24].all fun u => !Tryz.prog.wantsStandIn u) = true := by kernel_rfl
        exact (show Tryz.prog.wantsStandIn t = false by simpa using List.all_eq_true.1 hall t hm)⟩)
    (by kernel_rfl)
#print axioms wordsLines_holds
end Go.Proofs.YtkbbgehnooncoaaGreatDoor
end

/- ShowLines: at every input true, and the argument reads as it did; with the listed tables as the program's text lays them. -/
import Derived.Test.YtnkiegafaiebiaaDoorSl33
import Derived.Test.YtnkiegafaiebiaaDoorSl34
section
namespace Go.Eng
open Go
set_option maxRecDepth 100000

theorem fit_of {z : Int} (h : (Lit.int .i64 z).wf = true) : fit64 z := by
  simp only [Lit.wf, Bool.and_eq_true, decide_eq_true_eq] at h
  have h0 : (-9223372036854775808 : Int) ≤ z := h.1
  have h1 : z ≤ 9223372036854775807 := h.2
  exact ⟨by omega, by omega⟩
theorem ints_of : ∀ (xs : Row), (∀ x ∈ xs, Ty PP 2 3 x) → ∃ us : List Int, xs = encI us ∧ ∀ v ∈ us, fit64 v
  | [], _ => ⟨[], rfl, fun v hv => by cases hv⟩
  | x :: xs, h => by
    obtain ⟨z, rfl, w⟩ := Ty.int Go.Proofs.Tryd.underlying3 (h x (by simp))
    obtain ⟨us, rfl, hu⟩ := ints_of xs fun y hy => h y (by simp [hy])
    exact ⟨z :: us, rfl, fun v hv => by
      rcases List.mem_cons.1 hv with rfl | hv
      · exact fit_of w
      · exact hu v hv⟩
theorem an_of {d : List D} (h : Ty PP 4 25 d) : ∃ (x : An) (k : LK), d = [.int .i64 x.why, .int .i64 x.n, .int .i64 x.m, .str (ba x.data), .list k 1 (encI x.list)] ∧ fitA x := by
  have hc : PP.cellsOf 3 = 1 := by kernel_rfl
  have h2 := Ty.struct Go.Proofs.Tryd.underlying25 h
  obtain ⟨p0, q, rfl, t0, h2⟩ := h2
  obtain ⟨p1, q, rfl, t1, h2⟩ := h2
  obtain ⟨p2, q, rfl, t2, h2⟩ := h2
  obtain ⟨p3, q, rfl, t3, h2⟩ := h2
  obtain ⟨p4, q, rfl, t4, h2⟩ := h2
  obtain rfl : q = [] := h2
  obtain ⟨why, rfl, w0⟩ := Ty.int Go.Proofs.Tryd.underlying22 t0
  obtain ⟨n, rfl, w1⟩ := Ty.int Go.Proofs.Tryd.underlying2 t1
  obtain ⟨m, rfl, w2⟩ := Ty.int Go.Proofs.Tryd.underlying2 t2
  obtain ⟨s, rfl, _⟩ := Ty.str Go.Proofs.Tryd.underlying9 t3
  obtain ⟨k, xs, rfl, he, _, _⟩ := Ty.slice Go.Proofs.Tryd.underlying23 t4
  obtain ⟨us, rfl, hu⟩ := ints_of xs he
  rw [hc]
  exact ⟨⟨why, n, m, s.data.toList, us⟩, k, by rw [show ba s.data.toList = s from (ba_of s).symm]; rfl, fit_of w0, fit_of w1, fit_of w2, hu⟩
theorem anAV {x : An} {k : LK} : argAV PP 25 [.int .i64 x.why, .int .i64 x.n, .int .i64 x.m, .str (ba x.data), .list k 1 (encI x.list)] = anX x k 1 := by
  unfold argAV
  rw [if_pos (show aggT PP 25 = true by kernel_rfl)]
  rfl
attribute [local irreducible] R103 argAV anX
theorem spec3 : ∀ dss : List (List D), All2 (fun t d => Ty PP 4 t d) Go.Proofs.Tryd.f3.params.toList dss → ∃ spec : Go.Eng.Spec, COk PP 3 spec ∧ ∃ G', spec (List.zipWith (argAV PP) Go.Proofs.Tryd.f3.params.toList dss) [] = some (.dat (.bool true), G') := by
  intro dss h
  rw [Go.Proofs.Tryd.params3] at h ⊢
  match dss, h with
  | [d1], h =>
    obtain ⟨x, k, rfl, hf⟩ := an_of h.1
    refine ⟨R103, cW3, [], ?_⟩
    change R103 [argAV PP 25 [.int .i64 x.why, .int .i64 x.n, .int .i64 x.m, .str (ba x.data), .list k 1 (encI x.list)]] [] = _
    rw [anAV]
    exact f3_runL hf (fun _ => rfl)
  | [], h => exact h.elim
  | _ :: _ :: _, h => exact h.2.elim
end Go.Eng

namespace Go.Proofs.YtnkiegafaiebiaaDoor
open Go Go.Eng Go.ChangeShapes Go.WideShapes Go.ChangeAt Go.RowKit
set_option maxRecDepth 100000

theorem lifted3 (os : Os) (started : os.Started) (H : Type) (enc : TypeId × Value → H) :
    ReturnsInHanded {} Tryd.checked os 3 .any (fun w args => (Rows.showLinesSpec.pre enc Tryd.prog Tryd.f3 [] false w args ∧ laidMetH Tryd.prog Rows.showLinesRow.laid w) ∧ sizedMet enc Tryd.prog Tryd.f3 (OpenSpec.ofChange Rows.showLinesSpec) false w args)
      (Rows.showLinesSpec.post enc Tryd.prog Tryd.f3 false true false false) := by
  refine returnsInHanded_laid_shaped (C := Tryd.checked) (X := fun w _ => laidMetH Tryd.prog Rows.showLinesRow.laid w) (fun _ _ _ hh h => h.of_heap hh) ownSw started (by kernel_rfl) Tryd.func3
    (ChangeSpec.witness_shaped (enc := enc) (C := Tryd.checked) (os := os) (X := fun w _ => laidMetH Tryd.prog Rows.showLinesRow.laid w) false (World.laidAll Tryd.prog os laidSw) #[.agg #[.int .i64 0, .int .i64 0, .int .i64 0, .string ⟨#[]⟩, .slice none 0 0]] 8 (World.laidAll_os _ _ _)
      (World.shaped_of_ZipB (by kernel_rfl) (by kernel_rfl)) (by kernel_rfl) (by kernel_rfl) (by kernel_rfl) (laidWorld_met os _)) ?_
  intro W base args ds gs before hval0 hW _ _ hL hsh
  have hW' := hW
  obtain ⟨p, q, hA0, hV, rfl, hfz, hnd⟩ := hW
  have hA : DataW.TrodAll enc Tryd.prog W 0 (fun _ => true) true Tryd.f3.params.toList args.toList ds p := hA0
  rw [Tryd.params3] at hA
  obtain ⟨v0, d0, rfl, rfl, _, h0⟩ := trodAll_one hA
  obtain ⟨rfl, rfl⟩ := trodVars_none hV
  exact law_contract (m := 4) (tb := 4) (by kernel_rfl) spec3 hval0 hW' (by kernel_rfl) (by kernel_rfl) rfl rfl rfl rfl (laid_ok hL hsh)

theorem showLinesRow_holds : Rows.ShowLinesSaid :=
  OpenClaim.holds_of_wide 3 Tryd.f3 rfl rfl rfl rfl rfl rfl rfl ⟨rfl, rfl, rfl, rfl, rfl⟩ rfl rfl rfl rfl rfl (by kernel_rfl) Tryd.func3 (by kernel_rfl)
    (of_decide_eq_true (by kernel_rfl)) (by unfold Func.isWrapper; first | (rw [if_pos (by decide +kernel)]; kernel_rfl) | (rw [if_neg (by decide +kernel)]; exact ⟨rfl, rfl⟩))
    (fun os started H enc _ => lifted3 os started H enc)

theorem showLines_holds : Rows.ShowLinesCardSaid :=
  Claim7.holds_tied_plain_at .later [] [.data, .data, .data, .data, .sentinel, .sentinel, .pinned] true (true, "0ea57fb98f4e92ac93dc2a68d6da1d1d456267dff045098581c9e5d5921bc007") true
    showLinesRow_holds (fun _ h => by cases h) (by kernel_rfl) (fun _ h => by cases h) showLines_row_tie rfl ⟨rfl, rfl⟩ (by kernel_rfl) rfl
    (fun f fn hf hfn => by
      obtain rfl : f = 3 := Option.some.inj ((show Tryd.prog.funcNamed "pentimento/pentimentolaw31.ShowLines" = some 3 by kernel_rfl).symm.trans hf) |>.symm
      obtain rfl : fn = Tryd.f3 := (Option.some.inj (Tryd.func3.symm.trans hfn)).symm
      exact ⟨by kernel_rfl, fun j t ht => by
        rw [Tryd.params3] at ht
        have hm : t ∈ [25] := by simpa using Array.mem_of_getElem? ht
        have hall : ([25].all fun u => !Tryd.prog.wantsStandIn u) = true := by kernel_rfl
        exact (show Tryd.prog.wantsStandIn t = false by simpa using List.all_eq_true.1 hall t hm)⟩)
    (by kernel_rfl)
#print axioms showLines_holds
end Go.Proofs.YtnkiegafaiebiaaDoor
end

/- SectorDiffers: at every input true, and the arguments read as they did; with the listed tables as the program's text lays them. -/
import Derived.Test.YtnbdibeainhnhaaDoorSd23
import Derived.Test.YtnbdibeainhnhaaDoorSd24
section
namespace Go.Eng
open Go
set_option maxRecDepth 100000

theorem lo21_ok : ∀ c, Go.Proofs.Tryd.f21.body = some c → LoOk2 TT tNone.runs (HSe 21) lo21 c := by
  intro c hc
  refine LoOk2.of c fun b hb st r h => ?_
  have hcc : c = codeOf Go.Proofs.Tryd.f21 := by unfold codeOf; rw [hc]; rfl
  have hl : loops c = [lp21] := by rw [hcc]; kernel_rfl
  rw [hl] at hb
  obtain rfl := List.mem_singleton.1 hb
  rw [show firstRegion lp21 = 3 from by kernel_rfl] at h
  exact tlo_ok h
theorem lo22_ok : ∀ c, Go.Proofs.Tryd.f22.body = some c → LoOk2 TT tNone.runs (HSe 22) lo22 c := by
  intro c hc
  refine LoOk2.of c fun b hb st r h => ?_
  have hcc : c = codeOf Go.Proofs.Tryd.f22 := by unfold codeOf; rw [hc]; rfl
  have hl : loops c = [lp22] := by rw [hcc]; kernel_rfl
  rw [hl] at hb
  obtain rfl := List.mem_singleton.1 hb
  rw [show firstRegion lp22 = 4 from by kernel_rfl] at h
  exact tlo_ok h
theorem c21 : COk PP 21 R21 := tok_fn (H := HSe 21) TT_ok TOk.nil Go.Proofs.Tryd.func21 (by kernel_rfl) lo21_ok
theorem c22 : COk PP 22 R22 := tok_fn (H := HSe 22) TT_ok TOk.nil Go.Proofs.Tryd.func22 (by kernel_rfl) lo22_ok
theorem t5_ok : TOk PP t5 := TOk.cons (COk.spec (out := fun _ G => oT G) (E_ok 6).pure) (TOk.cons (COk.spec (out := fun _ G => oP G) c21.pure) (TOk.cons (COk.spec (out := fun _ G => oP G) c22.pure) TOk.nil))
noncomputable def R5 (a : List AV) (G : List Ent) : Option (AV × List Ent) := (tfn TT t5 noLo Go.Proofs.Tryd.f5 a G).run
theorem c5 : COk PP 5 R5 := tok_fn (H := fun _ => []) TT_ok t5_ok Go.Proofs.Tryd.func5 (by kernel_rfl) fun _ _ => LoOk2.no _

theorem strAV (s : ByteArray) : argAV PP 9 [.str s] = .dat (.str s) := by
  unfold argAV
  rw [if_neg (show ¬ aggT PP 9 = true by rw [show aggT PP 9 = false by kernel_rfl]; simp)]
  rfl

theorem spec5 : ∀ dss : List (List D), All2 (fun t d => Ty PP 4 t d) Go.Proofs.Tryd.f5.params.toList dss → ∃ spec : Go.Eng.Spec, COk PP 5 spec ∧ ∃ G', spec (List.zipWith (argAV PP) Go.Proofs.Tryd.f5.params.toList dss) [] = some (.dat (.bool true), G') := by
  intro dss h
  rw [Go.Proofs.Tryd.params5] at h ⊢
  match dss, h with
  | [d1, d2], h =>
    obtain ⟨a, rfl, ha⟩ := Ty.str Go.Proofs.Tryd.underlying9 h.1
    obtain ⟨b, rfl, hb⟩ := Ty.str Go.Proofs.Tryd.underlying9 h.2.1
    refine ⟨R5, c5, [], ?_⟩
    change R5 [argAV PP 9 [.str a], argAV PP 9 [.str b]] [] = _
    rw [strAV, strAV]
    exact f5_run ha hb
  | [], h => exact h.elim
  | [_], h => exact h.2.elim
  | _ :: _ :: _ :: _, h => exact h.2.2.elim
end Go.Eng

namespace Go.Proofs.YtnbdibeainhnhaaDoor
open Go Go.Eng Go.ChangeShapes Go.WideShapes Go.ChangeAt Go.RowKit
set_option maxRecDepth 100000

theorem lifted5 (os : Os) (started : os.Started) (H : Type) (enc : TypeId × Value → H) :
    ReturnsInHanded {} Tryd.checked os 5 .any (fun w args => (Rows.sectorDiffersSpec.pre enc Tryd.prog Tryd.f5 [] false w args ∧ laidMetH Tryd.prog Rows.sectorDiffersRow.laid w) ∧ sizedMet enc Tryd.prog Tryd.f5 (OpenSpec.ofChange Rows.sectorDiffersSpec) false w args)
      (Rows.sectorDiffersSpec.post enc Tryd.prog Tryd.f5 false true false false) := by
  refine returnsInHanded_laid_shaped (C := Tryd.checked) (X := fun w _ => laidMetH Tryd.prog Rows.sectorDiffersRow.laid w) (fun _ _ _ hh h => h.of_heap hh) ownSe started (by kernel_rfl) Tryd.func5
    (ChangeSpec.witness_shaped (enc := enc) (C := Tryd.checked) (os := os) (X := fun w _ => laidMetH Tryd.prog Rows.sectorDiffersRow.laid w) false (World.laidAll Tryd.prog os laidSe) #[.string ⟨#[]⟩, .string ⟨#[]⟩] 8 (World.laidAll_os _ _ _)
      (World.shaped_of_ZipB (by kernel_rfl) (by kernel_rfl)) (by kernel_rfl) (by kernel_rfl) (by kernel_rfl) (laidWorld_met os _)) ?_
  intro W base args ds gs before hval0 hW _ _ hL hsh
  have hW' := hW
  obtain ⟨p, q, hA0, hV, rfl, hfz, hnd⟩ := hW
  have hA : DataW.TrodAll enc Tryd.prog W 0 (fun _ => true) true Tryd.f5.params.toList args.toList ds p := hA0
  rw [Tryd.params5] at hA
  obtain ⟨v0, v1, d0, d1, p0, p1, rfl, rfl, rfl, h0, h1⟩ := trodAll_two hA
  obtain ⟨rfl, rfl⟩ := trodVars_none hV
  exact law_contract (m := 4) (tb := 4) (by kernel_rfl) spec5 hval0 hW' (by kernel_rfl) (by kernel_rfl) rfl rfl rfl rfl (laid_ok hL hsh)

theorem sectorDiffersRow_holds : Rows.SectorDiffersSaid :=
  OpenClaim.holds_of_wide 5 Tryd.f5 rfl rfl rfl rfl rfl rfl rfl ⟨rfl, rfl, rfl, rfl, rfl⟩ rfl rfl rfl rfl rfl (by kernel_rfl) Tryd.func5 (by kernel_rfl)
    (of_decide_eq_true (by kernel_rfl)) (by unfold Func.isWrapper; first | (rw [if_pos (by decide +kernel)]; kernel_rfl) | (rw [if_neg (by decide +kernel)]; exact ⟨rfl, rfl⟩))
    (fun os started H enc _ => lifted5 os started H enc)

theorem sectorDiffers_holds : Rows.SectorDiffersCardSaid :=
  Claim7.holds_tied_plain_at .later [] [.data, .data, .data, .data, .sentinel, .sentinel, .pinned] true (true, "60e2e7e09b6cc6f553914a6b7ae05fc52ae995787144df4cf471bc64dad5831c") true
    sectorDiffersRow_holds (fun _ h => by cases h) (by kernel_rfl) (fun _ h => by cases h) sectorDiffers_row_tie rfl ⟨rfl, rfl⟩ (by kernel_rfl) rfl
    (fun f fn hf hfn => by
      obtain rfl : f = 5 := Option.some.inj ((show Tryd.prog.funcNamed "pentimento/pentimentolaw05.SectorDiffers" = some 5 by kernel_rfl).symm.trans hf) |>.symm
      obtain rfl : fn = Tryd.f5 := (Option.some.inj (Tryd.func5.symm.trans hfn)).symm
      exact ⟨by kernel_rfl, fun j t ht => by
        rw [Tryd.params5] at ht
        have hm : t ∈ [9, 9] := by simpa using Array.mem_of_getElem? ht
        have hall : ([9, 9].all fun u => !Tryd.prog.wantsStandIn u) = true := by kernel_rfl
        exact (show Tryd.prog.wantsStandIn t = false by simpa using List.all_eq_true.1 hall t hm)⟩)
    (by kernel_rfl)
#print axioms sectorDiffers_holds
end Go.Proofs.YtnbdibeainhnhaaDoor
end

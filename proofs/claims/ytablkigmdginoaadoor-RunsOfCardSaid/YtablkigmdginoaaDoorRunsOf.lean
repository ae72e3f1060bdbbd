/- RunsOf: at every input true, and the argument reads as it did; with the listed tables as the program's text lays them. -/
import Derived.Test.YtablkigmdginoaaDoorRo32
import Derived.Test.YtablkigmdginoaaDoorRo30
section
namespace Go.Eng
open Go
set_option maxRecDepth 100000

theorem cY13 : COk PP (yB + 2) Y13 := tok_yld (H := fun _ => []) TT_ok TOk.nil rfl (fun _ => LoOk2.no _) 2
theorem t37o_ok : TOk PP t37o := TOk.cons (COk.spec2 (o1 := fun _ G => oNlI G) (o2 := fun _ G => oOwI G) c38.pure) (TOk.cons (COk.spec (out := fun _ G => oYo G) cY13) TOk.nil)
theorem lo37o_ok : ∀ c, Go.Proofs.Tryd.f37.body = some c → LoOk2 TT t37o.runs (HSt 37) lo37o c := lo_one (lp := lp37) (by kernel_rfl) fun st r h => by
  rw [show firstRegion lp37 = 2 from by kernel_rfl] at h
  exact tlo_ok h
theorem c37o : COk PP 37 R37o := tok_fn (H := HSt 37) TT_ok t37o_ok Go.Proofs.Tryd.func37 (by kernel_rfl) lo37o_ok
theorem t13_ok : TOk PP t13 := TOk.cons (COk.spec2 (o1 := fun _ G => o37on G) (o2 := fun _ G => o37or G) c37o) (TOk.cons (t1_ok 26) TOk.nil)
theorem c13 : COk PP 13 R13 := tok_fnR (H := HSu 13) TT_ok t13_ok Go.Proofs.Tryd.func13 (by kernel_rfl) rfl fun _ _ => LoOk2.no _
theorem cY18 : COk PP (yB + 2) Y18 := tok_yld (H := fun _ => []) TT_ok TOk.nil rfl (fun _ => LoOk2.no _) 2
theorem t37g_ok : TOk PP t37g := TOk.cons (COk.spec2 (o1 := fun _ G => oNlI G) (o2 := fun _ G => oOwI G) c38.pure) (TOk.cons (COk.spec (out := fun _ G => oYg G) cY18) TOk.nil)
theorem lo37g_ok : ∀ c, Go.Proofs.Tryd.f37.body = some c → LoOk2 TT t37g.runs (HSt 37) lo37g c := lo_one (lp := lp37) (by kernel_rfl) fun st r h => by
  rw [show firstRegion lp37 = 2 from by kernel_rfl] at h
  exact tlo_ok h
theorem c37g : COk PP 37 R37g := tok_fn (H := HSt 37) TT_ok t37g_ok Go.Proofs.Tryd.func37 (by kernel_rfl) lo37g_ok
theorem t18_ok : TOk PP t18 := TOk.cons (COk.spec (out := fun _ G => o37g G) c37g) (TOk.cons (t1_ok 26) TOk.nil)
theorem c18 : COk PP 18 R18 := tok_fnR (H := HSu 18) TT_ok t18_ok Go.Proofs.Tryd.func18 (by kernel_rfl) rfl fun _ _ => LoOk2.no _
theorem lo15_ok : ∀ c, Go.Proofs.Tryd.f15.body = some c → LoOk2 TT tNone.runs (HSu 15) lo15 c := lo_one (lp := lp15) (by kernel_rfl) fun st r h => by
  rw [show firstRegion lp15 = 3 from by kernel_rfl] at h
  exact tlo2_ok h
theorem c15 : COk PP 15 R15 := tok_fn (H := HSu 15) TT_ok TOk.nil Go.Proofs.Tryd.func15 (by kernel_rfl) lo15_ok
theorem lo14_ok : ∀ c, Go.Proofs.Tryd.f14.body = some c → LoOk2 TT tNone.runs (HSu 14) lo14 c := lo_one (lp := lp14) (by kernel_rfl) fun st r h => by
  rw [show firstRegion lp14 = 4 from by kernel_rfl] at h
  exact tlo_ok h
theorem c14 : COk PP 14 R14 := tok_fn (H := HSu 14) TT_ok TOk.nil Go.Proofs.Tryd.func14 (by kernel_rfl) lo14_ok
theorem t19_ok : TOk PP t19 := TOk.cons (COk.spec2 (o1 := fun _ G => oNl G) (o2 := fun _ G => oOw G) c16.pure) TOk.nil
theorem lo19_ok : ∀ c, Go.Proofs.Tryd.f19.body = some c → LoOk2 TT t19.runs (HSu 19) lo19 c := lo_one (lp := lp19) (by kernel_rfl) fun st r h => by
  rw [show firstRegion lp19 = 4 from by kernel_rfl] at h
  exact tlo_ok h
theorem c19 : COk PP 19 R19 := tok_fn (H := HSu 19) TT_ok t19_ok Go.Proofs.Tryd.func19 (by kernel_rfl) lo19_ok
theorem t5_ok : TOk PP t5 := TOk.cons (COk.spec (out := fun _ G => oT G) (E_ok 6).pure) (TOk.cons (COk.spec (out := fun _ G => oW G) c7.pure) (TOk.cons (COk.spec (out := fun _ G => oW G) c10.pure) (TOk.cons (COk.spec (out := fun _ G => oS G) c12.pure) (TOk.cons (COk.spec2 (o1 := fun _ G => oNl G) (o2 := fun _ G => oLa G) c13.pure) (TOk.cons (COk.spec (out := fun _ G => oB G) c14.pure) (TOk.cons (COk.spec2 (o1 := fun _ G => oNl G) (o2 := fun _ G => oOw G) c15.pure) (TOk.cons (COk.spec2 (o1 := fun _ G => oNl G) (o2 := fun _ G => oOw G) c16.pure) (TOk.cons (COk.spec (out := fun _ G => oS G) c17.pure) (TOk.cons (COk.spec (out := fun _ G => oR2 G) c18.pure) (TOk.cons (COk.spec (out := fun _ G => oR2 G) c19.pure) TOk.nil))))))))))
theorem c5 : COk PP 5 R5 := tok_fn (H := fun _ => []) TT_ok t5_ok Go.Proofs.Tryd.func5 (by kernel_rfl) fun _ _ => LoOk2.no _

theorem Ty.array {P : Program} {n m : Nat} {t e : TypeId} {ds : List D} (hu : P.underlying t = some (.array m e)) (h : Ty P (n + 1) t ds) : ∃ parts : List (List D), parts.length = m ∧ ds = parts.flatten ∧ ∀ p ∈ parts, Ty P n e p := by
  unfold Ty at h
  rw [hu] at h
  exact h
theorem u64_of {z : Int} (h : (Lit.int .u64 z).wf = true) : ∃ n : Nat, z = n ∧ n < 2 ^ 64 := by
  simp only [Lit.wf, Bool.and_eq_true, decide_eq_true_eq] at h
  have h0 : (0 : Int) ≤ z := h.1
  have h1 : z ≤ 18446744073709551615 := h.2
  exact ⟨z.toNat, by omega, by omega⟩
theorem spec5 : ∀ dss : List (List D), All2 (fun t d => Ty PP 4 t d) Go.Proofs.Tryd.f5.params.toList dss → ∃ spec : Go.Eng.Spec, COk PP 5 spec ∧ ∃ G', spec (List.zipWith (argAV PP) Go.Proofs.Tryd.f5.params.toList dss) [] = some (.dat (.bool true), G') := by
  intro dss h
  rw [Go.Proofs.Tryd.params5] at h ⊢
  match dss, h with
  | [d1], h =>
    obtain ⟨parts, hl, rfl, hp⟩ := Ty.array Go.Proofs.Tryd.underlying25 h.1
    match parts, hl, hp with
    | [x, y], _, hp =>
      obtain ⟨z1, rfl, w1⟩ := Ty.int Go.Proofs.Tryd.underlying24 (hp x (by simp))
      obtain ⟨z2, rfl, w2⟩ := Ty.int Go.Proofs.Tryd.underlying24 (hp y (by simp))
      obtain ⟨n1, rfl, h1⟩ := u64_of w1
      obtain ⟨n2, rfl, h2⟩ := u64_of w2
      refine ⟨R5, c5, [], ?_⟩
      have e1 : argAV PP 25 [.int .u64 n1, .int .u64 n2] = st2 n1 n2 := by
        unfold argAV
        rw [if_pos (show aggT PP 25 = true by kernel_rfl)]
        rfl
      change R5 [argAV PP 25 [.int .u64 n1, .int .u64 n2]] [] = _
      rw [e1]
      exact f5_run (s := (n1, n2)) ⟨h1, h2⟩
  | [], h => exact h.elim
  | _ :: _ :: _, h => exact h.2.elim
end Go.Eng

namespace Go.Proofs.YtablkigmdginoaaDoor
open Go Go.Eng Go.ChangeShapes Go.WideShapes Go.ChangeAt Go.RowKit
set_option maxRecDepth 100000

theorem lifted5 (os : Os) (started : os.Started) (H : Type) (enc : TypeId × Value → H) :
    ReturnsInHanded {} Tryd.checked os 5 .any (fun w args => (Rows.runsOfSpec.pre enc Tryd.prog Tryd.f5 [] false w args ∧ laidMetH Tryd.prog Rows.runsOfRow.laid w) ∧ sizedMet enc Tryd.prog Tryd.f5 (OpenSpec.ofChange Rows.runsOfSpec) false w args)
      (Rows.runsOfSpec.post enc Tryd.prog Tryd.f5 false true false false) := by
  refine returnsInHanded_laid_shaped (C := Tryd.checked) (X := fun w _ => laidMetH Tryd.prog Rows.runsOfRow.laid w) (fun _ _ _ hh h => h.of_heap hh) ownRu started (by kernel_rfl) Tryd.func5
    (ChangeSpec.witness_shaped (enc := enc) (C := Tryd.checked) (os := os) (X := fun w _ => laidMetH Tryd.prog Rows.runsOfRow.laid w) false (World.laidAll Tryd.prog os laidRu) #[.agg #[.int .u64 0, .int .u64 0]] 8 (World.laidAll_os _ _ _)
      (World.shaped_of_ZipB (by kernel_rfl) (by kernel_rfl)) (by kernel_rfl) (by kernel_rfl) (by kernel_rfl) (laidWorld_met os _)) ?_
  intro W base args ds gs before hval0 hW _ _ hL hsh
  have hW' := hW
  obtain ⟨p, q, hA0, hV, rfl, hfz, hnd⟩ := hW
  have hA : DataW.TrodAll enc Tryd.prog W 0 (fun _ => true) true Tryd.f5.params.toList args.toList ds p := hA0
  rw [Tryd.params5] at hA
  obtain ⟨v0, d0, rfl, rfl, _, h0⟩ := trodAll_one hA
  obtain ⟨rfl, rfl⟩ := trodVars_none hV
  exact law_contract (m := 4) (tb := 4) (by kernel_rfl) spec5 hval0 hW' (by kernel_rfl) (by kernel_rfl) rfl rfl rfl rfl (laid_ok hL hsh)

theorem runsOfRow_holds : Rows.RunsOfSaid :=
  OpenClaim.holds_of_wide 5 Tryd.f5 rfl rfl rfl rfl rfl rfl rfl ⟨rfl, rfl, rfl, rfl, rfl⟩ rfl rfl rfl rfl rfl (by kernel_rfl) Tryd.func5 (by kernel_rfl)
    (of_decide_eq_true (by kernel_rfl)) (by unfold Func.isWrapper; first | (rw [if_pos (by decide +kernel)]; kernel_rfl) | (rw [if_neg (by decide +kernel)]; exact ⟨rfl, rfl⟩))
    (fun os started H enc _ => lifted5 os started H enc)

theorem runsOf_holds : Rows.RunsOfCardSaid :=
  Claim7.holds_tied_plain_at .later [] [.data, .data, .data, .data, .sentinel, .sentinel, .pinned] true (true, "bdea5b3025d37e4821780f449ae8c6e3379c284ce98a57c194e159f97faee809") true
    runsOfRow_holds (fun _ h => by cases h) (by kernel_rfl) (fun _ h => by cases h) runsOf_row_tie rfl ⟨rfl, rfl⟩ (by kernel_rfl) rfl
    (fun f fn hf hfn => by
      obtain rfl : f = 5 := Option.some.inj ((show Tryd.prog.funcNamed "pentimento/pentimentolaw34.RunsOf" = some 5 by kernel_rfl).symm.trans hf) |>.symm
      obtain rfl : fn = Tryd.f5 := (Option.some.inj (Tryd.func5.symm.trans hfn)).symm
      exact ⟨by kernel_rfl, fun j t ht => by
        rw [Tryd.params5] at ht
        have hm : t ∈ [25] := by simpa using Array.mem_of_getElem? ht
        have hall : ([25].all fun u => !Tryd.prog.wantsStandIn u) = true := by kernel_rfl
        exact (show Tryd.prog.wantsStandIn t = false by simpa using List.all_eq_true.1 hall t hm)⟩)
    (by kernel_rfl)
#print axioms runsOf_holds
end Go.Proofs.YtablkigmdginoaaDoor
end

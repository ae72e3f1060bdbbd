/- Sets of runs: what the rows list, as the evaluator takes it; the witness's world. -/
import Derived.Test.YtablkigmdginoaaDoorRo28
import Derived.Test.YtablkigmdginoaaDoorRo23
import Derived.Test.YtablkigmdginoaaDoorRo27
import Derived.Test.YtablkigmdginoaaDoorRo20
import Derived.Test.YtablkigmdginoaaDoorRo18
import Derived.Test.YtablkigmdginoaaDoorCards
import Derived.WalkKit
import Derived.ProofKit
import Derived.OpenShut
import Derived.LaidMore
import Derived.MakeChecks
import Derived.Lay
import Derived.Stop.LaidErr
import Derived.Shelf.Vars
import Derived.SevenTiedAt
import Derived.Test.YtablkigmdginoaaDoorTie
section
namespace Go.Proofs.YtablkigmdginoaaDoor
open Go Go.Eng Go.ChangeShapes Go.WideShapes Go.ChangeAt Go.RowKit
set_option maxRecDepth 100000

theorem ownRu : ownKnob Tryd.prog.godebug = none := by kernel_rfl
theorem star : "*" ++ "errors.errorString" = "*errors.errorString" := by decide
noncomputable abbrev laidRu : List (String × DataW Unit) := Rows.runsSetRow.laid
theorem rowES (u : TypeId) (h : Tryd.prog.typeName? 3 u = some "*errors.errorString") : u = 131 :=
  typeName_ptr_named (nm := "errors.errorString") (by rw [star]; kernel_rfl) (by kernel_rfl) (by decide) u (by rw [star]; exact h)
theorem und133 : ∃ f : Field, Tryd.prog.underlying 133 = some (.struct #[f]) ∧ f.type = 9 ∧ f.offset = 0 := ⟨_, Tryd.underlying133, rfl, rfl⟩

/-- what the rows list is what the evaluator takes -/
theorem laid_ok {W : World} (h : laidMetH Tryd.prog laidRu W) (hs : W.ShapedOpen Tryd.prog) : Laid W (Cx.base W).lv := by
  rw [MakeChecks.laidMetH_plain _ _ _ (by kernel_rfl)] at h
  have h4 := h.tail.tail.tail.tail
  obtain ⟨f, hu, hft, hfo⟩ := und133
  obtain ⟨a1, s1, v1, _⟩ := laid_sentinel h4 (show Tryd.prog.globalNamed "strconv.ErrRange" = some 3 by kernel_rfl) (show (Tryd.prog.globals[3]?).map (·.type) = some 74 by kernel_rfl) Tryd.underlying74 rowES Tryd.underlying131 hu hft hfo Tryd.underlying9 (by kernel_rfl) (by kernel_rfl)
  obtain ⟨a2, s2, v2, _⟩ := laid_sentinel h4.tail (show Tryd.prog.globalNamed "strconv.ErrSyntax" = some 2 by kernel_rfl) (show (Tryd.prog.globals[2]?).map (·.type) = some 74 by kernel_rfl) Tryd.underlying74 rowES Tryd.underlying131 hu hft hfo Tryd.underlying9 (by kernel_rfl) (by kernel_rfl)
  have c1 := World.var?_cell (show Tryd.prog.globalNamed "strconv.ErrRange" = some 3 by kernel_rfl) v1 0
  have c2 := World.var?_cell (show Tryd.prog.globalNamed "strconv.ErrSyntax" = some 2 by kernel_rfl) v2 0
  obtain ⟨m, cm⟩ := cell_of_shapedOpen_int (g := 1) (t := 3) (k := .i64) (zero := #[.int .i64 0]) hs (of_decide_eq_true (by kernel_rfl)) (by kernel_rfl) rfl (by kernel_rfl) (by kernel_rfl) Tryd.underlying3
  obtain ⟨ht, hz⟩ := tab_of_laid (xs := Go.Lib.deBruijn64tab.map fun n => ((n : Nat) : Int)) (k := .u8) h.tail (show Tryd.prog.globalNamed "math/bits.deBruijn64tab" = some 0 by kernel_rfl) (show (Tryd.prog.globals[0]?).map (·.type) = some 104 by kernel_rfl) Tryd.underlying104 Tryd.underlying5 (by kernel_rfl) (by kernel_rfl) (by decide)
  obtain ⟨ht4, hz4⟩ := tab_of_laid (xs := Go.Lib.pow10Tab) (k := .u64) h.tail.tail (show Tryd.prog.globalNamed "internal/strconv.uint64pow10" = some 4 by kernel_rfl) (show (Tryd.prog.globals[4]?).map (·.type) = some 120 by kernel_rfl) Tryd.underlying120 Tryd.underlying24 (by kernel_rfl) (by kernel_rfl) Go.Lib.pow10Tab_length
  have e0 : (Go.Lib.deBruijn64tab.map fun n => D.int .u8 (n : Nat)) = (Go.Lib.deBruijn64tab.map fun n => ((n : Nat) : Int)).map fun z => D.int .u8 z := by rw [List.map_map]; rfl
  refine ⟨fun g cs hg => ?_, fun g cs hg => ?_, fun g p hg => ?_⟩
  · simp only [pkgGl, default] at hg
    split at hg
    · rename_i e
      subst e
      simp only [Option.some.injEq] at hg
      subst hg
      rw [e0]
      exact rd_table (by decide) ht
    · split at hg
      · rename_i e
        subst e
        simp only [Option.some.injEq] at hg
        subst hg
        exact rd_table (by rw [Go.Lib.pow10Tab_length]; decide) ht4
      · cases hg
  · simp only [pkgGl, default] at hg
    split at hg
    · rename_i e
      subst e
      simp only [Option.some.injEq] at hg
      subst hg
      rw [hz]
      rfl
    · split at hg
      · rename_i e
        subst e
        simp only [Option.some.injEq] at hg
        subst hg
        rw [hz4, List.length_map, Go.Lib.pow10Tab_length]
      · cases hg
  simp only [pkgPv, default] at hg
  split at hg
  · rename_i e
    subst e
    cases hg
    exact ⟨lv_base cm, _, cm, _, rfl⟩
  · split at hg
    · rename_i e
      cases hg
      rcases e with rfl | rfl
      · have c2' : W.cell? ⟨2, 0, none⟩ = some (.iface 131 (.pointer (some a2))) := by simpa using c2
        exact ⟨lv_base c2', _, c2', .inr ⟨_, _, rfl⟩⟩
      · have c1' : W.cell? ⟨3, 0, none⟩ = some (.iface 131 (.pointer (some a1))) := by simpa using c1
        exact ⟨lv_base c1', _, c1', .inr ⟨_, _, rfl⟩⟩
    · cases hg

theorem laidWorld_met (os : Os) (args : Array Value) : laidMetH Tryd.prog laidRu (((World.laidAll Tryd.prog os laidRu).forCall (fun _ _ => 0) ⟨#[], args, []⟩).memory) := by
  rw [MakeChecks.laidMetH_plain _ _ _ (by kernel_rfl)]
  exact laidMet_laidAll _ (by kernel_rfl) (by kernel_rfl)
end Go.Proofs.YtablkigmdginoaaDoor
end

/- RunsSet: at every input true, and the arguments read as they did; with the listed tables as the program's text lays them. -/
section
namespace Go.Eng
open Go
set_option maxRecDepth 100000

theorem lo_one {T : Tab} {oo : Orc} {H : Nat → List Nat} {lo : Nat → St → Tr (Ex × St)} {fn : Func} {lp : Code} (hl : loops (codeOf fn) = [lp])
    (h : ∀ st r, (lo (firstRegion lp) st).run = some r → ∃ K, exec T oo K H (.loop lp) st = some r) : ∀ c, fn.body = some c → LoOk2 T oo H lo c := by
  intro c hc
  refine LoOk2.of c fun b hb st r hr => ?_
  have hcc : c = codeOf fn := by unfold codeOf; rw [hc]; rfl
  rw [hcc, hl] at hb
  obtain rfl := List.mem_singleton.1 hb
  exact h st r hr
theorem lo33_ok : ∀ c, Go.Proofs.Tryd.f33.body = some c → LoOk2 TT tNone.runs (HSb 33) lo33 c := lo_one (lp := lp33) (by kernel_rfl) fun st r h => by
  rw [show firstRegion lp33 = 3 from by kernel_rfl] at h
  exact tlo_ok h
theorem c33 : COk PP 33 R33 := tok_fn (H := HSb 33) TT_ok TOk.nil Go.Proofs.Tryd.func33 (by kernel_rfl) lo33_ok
theorem c32 : COk PP 32 R32 := E_ok 32
theorem t22_ok : TOk PP t22 := TOk.cons (COk.spec (out := fun _ G => oTd G) c32) (TOk.cons (COk.spec (out := fun _ G => oS2 G) c33.pure) TOk.nil)
theorem c22 : COk PP 22 R22 := tok_fn (H := fun _ => []) TT_ok t22_ok Go.Proofs.Tryd.func22 (by kernel_rfl) fun _ _ => LoOk2.no _
theorem lo8_ok : ∀ c, Go.Proofs.Tryd.f8.body = some c → LoOk2 TT tNone.runs (HSb 8) lo8 c := lo_one (lp := lp8) (by kernel_rfl) fun st r h => by
  rw [show firstRegion lp8 = 3 from by kernel_rfl] at h
  exact tlo2_ok h
theorem c8 : COk PP 8 R8 := tok_fn (H := HSb 8) TT_ok TOk.nil Go.Proofs.Tryd.func8 (by kernel_rfl) lo8_ok
theorem c20 : COk PP 20 R20 := t1_ok 20
theorem t7_ok : TOk PP t7 := TOk.cons (COk.spec (out := fun _ G => oErr G) c20.pure) (TOk.cons (COk.spec (out := fun _ G => oW G) (E_ok 21).pure) TOk.nil)
theorem lo7_ok : ∀ c, Go.Proofs.Tryd.f7.body = some c → LoOk2 TT t7.runs (HSb 7) lo7 c := lo_one (lp := lp7) (by kernel_rfl) fun st r h => by
  rw [show firstRegion lp7 = 3 from by kernel_rfl] at h
  exact tlo2_ok h
theorem c7 : COk PP 7 R7 := tok_fn (H := HSb 7) TT_ok t7_ok Go.Proofs.Tryd.func7 (by kernel_rfl) lo7_ok
theorem t9_ok : TOk PP t9 := TOk.cons (COk.spec (out := fun _ G => oW G) c22.pure) TOk.nil
theorem lo9_ok : ∀ c, Go.Proofs.Tryd.f9.body = some c → LoOk2 TT t9.runs (HSb 9) lo9 c := lo_one (lp := lp9) (by kernel_rfl) fun st r h => by
  rw [show firstRegion lp9 = 3 from by kernel_rfl] at h
  exact tlo2_ok h
theorem c9 : COk PP 9 R9 := tok_fn (H := HSb 9) TT_ok t9_ok Go.Proofs.Tryd.func9 (by kernel_rfl) lo9_ok
theorem t3_ok : TOk PP t3 := TOk.cons (COk.spec (out := fun _ G => oT G) (E_ok 6).pure) (TOk.cons (COk.spec (out := fun _ G => oW G) c7.pure) (TOk.cons (COk.spec2 (o1 := fun _ G => oNl G) (o2 := fun _ G => oOw G) c8) (TOk.cons (COk.spec (out := fun _ G => oW G) c9.pure) TOk.nil)))
theorem c3 : COk PP 3 R3 := tok_fn (H := fun _ => []) TT_ok t3_ok Go.Proofs.Tryd.func3 (by kernel_rfl) fun _ _ => LoOk2.no _

/-- runs, as they read -/
theorem run_of {x : List D} (h : Ty PP 3 46 x) : ∃ m c : Int, x = [.int .i64 m, .int .i64 c] := by
  have h2 := Ty.struct Go.Proofs.Tryd.underlying46 h
  obtain ⟨p, q, rfl, h3, h4⟩ := h2
  obtain ⟨r, q, rfl, h5, h6⟩ := h4
  obtain ⟨m, rfl, _⟩ := Ty.int Go.Proofs.Tryd.underlying3 h3
  obtain ⟨c, rfl, _⟩ := Ty.int Go.Proofs.Tryd.underlying3 h5
  obtain rfl : q = [] := h6
  exact ⟨m, c, rfl⟩
theorem rowR_of : ∀ (xs : Row), (∀ x ∈ xs, Ty PP 3 46 x) → ∃ ps, xs = rowR ps
  | [], _ => ⟨[], rfl⟩
  | x :: xs, h => by
    obtain ⟨m, c, rfl⟩ := run_of (h x (by simp))
    obtain ⟨ps, rfl⟩ := rowR_of xs fun y hy => h y (by simp [hy])
    exact ⟨(m, c) :: ps, rfl⟩
theorem spec3 : ∀ dss : List (List D), All2 (fun t d => Ty PP 4 t d) Go.Proofs.Tryd.f3.params.toList dss → ∃ spec : Go.Eng.Spec, COk PP 3 spec ∧ ∃ G', spec (List.zipWith (argAV PP) Go.Proofs.Tryd.f3.params.toList dss) [] = some (.dat (.bool true), G') := by
  intro dss h
  rw [Go.Proofs.Tryd.params3] at h ⊢
  match dss, h with
  | [d1], h =>
    obtain ⟨k, xs, rfl, he, _, _⟩ := Ty.slice Go.Proofs.Tryd.underlying22 h.1
    obtain ⟨ps, rfl⟩ := rowR_of xs he
    refine ⟨R3, c3, [], ?_⟩
    have e1 : argAV PP 22 [.list k (PP.cellsOf 46) (rowR ps)] = .dat (.list k 2 (rowR ps)) := by
      unfold argAV
      rw [if_neg (show ¬ aggT PP 22 = true by rw [show aggT PP 22 = false by kernel_rfl]; simp), show PP.cellsOf 46 = 2 by kernel_rfl]
      rfl
    change R3 [argAV PP 22 [.list k (PP.cellsOf 46) (rowR ps)]] [] = _
    rw [e1]
    exact f3_run ps
  | [], h => exact h.elim
  | _ :: _ :: _, h => exact h.2.elim
end Go.Eng

namespace Go.Proofs.YtablkigmdginoaaDoor
open Go Go.Eng Go.ChangeShapes Go.WideShapes Go.ChangeAt Go.RowKit
set_option maxRecDepth 100000

theorem lifted3 (os : Os) (started : os.Started) (H : Type) (enc : TypeId × Value → H) :
    ReturnsInHanded {} Tryd.checked os 3 .any (fun w args => (Rows.runsSetSpec.pre enc Tryd.prog Tryd.f3 [] false w args ∧ laidMetH Tryd.prog Rows.runsSetRow.laid w) ∧ sizedMet enc Tryd.prog Tryd.f3 (OpenSpec.ofChange Rows.runsSetSpec) false w args)
      (Rows.runsSetSpec.post enc Tryd.prog Tryd.f3 false true false false) := by
  refine returnsInHanded_laid_shaped (C := Tryd.checked) (X := fun w _ => laidMetH Tryd.prog Rows.runsSetRow.laid w) (fun _ _ _ hh h => h.of_heap hh) ownRu started (by kernel_rfl) Tryd.func3
    (ChangeSpec.witness_shaped (enc := enc) (C := Tryd.checked) (os := os) (X := fun w _ => laidMetH Tryd.prog Rows.runsSetRow.laid w) false (World.laidAll Tryd.prog os laidRu) #[.slice none 0 0] 8 (World.laidAll_os _ _ _)
      (World.shaped_of_ZipB (by kernel_rfl) (by kernel_rfl)) (by kernel_rfl) (by kernel_rfl) (by kernel_rfl) (laidWorld_met os _)) ?_
  intro W base args ds gs before hval0 hW _ _ hL hsh
  have hW' := hW
  obtain ⟨p, q, hA0, hV, rfl, hfz, hnd⟩ := hW
  have hA : DataW.TrodAll enc Tryd.prog W 0 (fun _ => true) true Tryd.f3.params.toList args.toList ds p := hA0
  rw [Tryd.params3] at hA
  obtain ⟨v0, d0, rfl, rfl, _, h0⟩ := trodAll_one hA
  obtain ⟨rfl, rfl⟩ := trodVars_none hV
  exact law_contract (m := 4) (tb := 4) (by kernel_rfl) spec3 hval0 hW' (by kernel_rfl) (by kernel_rfl) rfl rfl rfl rfl (laid_ok hL hsh)

theorem runsSetRow_holds : Rows.RunsSetSaid :=
  OpenClaim.holds_of_wide 3 Tryd.f3 rfl rfl rfl rfl rfl rfl rfl ⟨rfl, rfl, rfl, rfl, rfl⟩ rfl rfl rfl rfl rfl (by kernel_rfl) Tryd.func3 (by kernel_rfl)
    (of_decide_eq_true (by kernel_rfl)) (by unfold Func.isWrapper; first | (rw [if_pos (by decide +kernel)]; kernel_rfl) | (rw [if_neg (by decide +kernel)]; exact ⟨rfl, rfl⟩))
    (fun os started H enc _ => lifted3 os started H enc)

theorem runsSet_holds : Rows.RunsSetCardSaid :=
  Claim7.holds_tied_plain_at .later [] [.data, .data, .data, .data, .sentinel, .sentinel, .pinned] true (true, "bdea5b3025d37e4821780f449ae8c6e3379c284ce98a57c194e159f97faee809") true
    runsSetRow_holds (fun _ h => by cases h) (by kernel_rfl) (fun _ h => by cases h) runsSet_row_tie rfl ⟨rfl, rfl⟩ (by kernel_rfl) rfl
    (fun f fn hf hfn => by
      obtain rfl : f = 3 := Option.some.inj ((show Tryd.prog.funcNamed "pentimento/pentimentolaw34.RunsSet" = some 3 by kernel_rfl).symm.trans hf) |>.symm
      obtain rfl : fn = Tryd.f3 := (Option.some.inj (Tryd.func3.symm.trans hfn)).symm
      exact ⟨by kernel_rfl, fun j t ht => by
        rw [Tryd.params3] at ht
        have hm : t ∈ [22] := by simpa using Array.mem_of_getElem? ht
        have hall : ([22].all fun u => !Tryd.prog.wantsStandIn u) = true := by kernel_rfl
        exact (show Tryd.prog.wantsStandIn t = false by simpa using List.all_eq_true.1 hall t hm)⟩)
    (by kernel_rfl)
#print axioms runsSet_holds
end Go.Proofs.YtablkigmdginoaaDoor
end

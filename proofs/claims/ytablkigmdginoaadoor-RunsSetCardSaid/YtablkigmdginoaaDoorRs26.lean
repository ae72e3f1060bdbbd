/- Sets of runs: what the rows list, as the evaluator takes it; the witness's world. -/
import Derived.Test.YtablkigmdginoaaDoorRs25
import Derived.Test.YtablkigmdginoaaDoorRs22
import Derived.Test.YtablkigmdginoaaDoorRs21
import Derived.Test.YtablkigmdginoaaDoorRs18
import Derived.Test.YtablkigmdginoaaDoorCards
import Derived.WalkKit
import Derived.ProofKit
import Derived.OpenShut
import Derived.LaidMore
import Derived.MakeChecks
import Derived.Lay
import Derived.Stop.LaidErr
import Derived.Shelf.Vars
import Derived.SevenTiedAt
import Derived.Test.YtablkigmdginoaaDoorTie
section
namespace Go.Proofs.YtablkigmdginoaaDoor
open Go Go.Eng Go.ChangeShapes Go.WideShapes Go.ChangeAt Go.RowKit
set_option maxRecDepth 100000

theorem ownRu : ownKnob Tryd.prog.godebug = none := by kernel_rfl
theorem star : "*" ++ "errors.errorString" = "*errors.errorString" := by decide
noncomputable abbrev laidRu : List (String × DataW Unit) := Rows.runsSetRow.laid
theorem rowES (u : TypeId) (h : Tryd.prog.typeName? 3 u = some "*errors.errorString") : u = 131 :=
  typeName_ptr_named (nm := "errors.errorString") (by rw [star]; kernel_rfl) (by kernel_rfl) (by decide) u (by rw [star]; exact h)
theorem und133 : ∃ f : Field, Tryd.prog.underlying 133 = some (.struct #[f]) ∧ f.type = 9 ∧ f.offset = 0 := ⟨_, Tryd.underlying133, rfl, rfl⟩

/-- what the rows list is what the evaluator takes -/
theorem laid_ok {W : World} (h : laidMetH Tryd.prog laidRu W) (hs : W.ShapedOpen Tryd.prog) : Laid W (Cx.base W).lv := by
  rw [MakeChecks.laidMetH_plain _ _ _ (by kernel_rfl)] at h
  have h4 := h.tail.tail.tail.tail
  obtain ⟨f, hu, hft, hfo⟩ := und133
  obtain ⟨a1, s1, v1, _⟩ := laid_sentinel h4 (show Tryd.prog.globalNamed "strconv.ErrRange" = some 3 by kernel_rfl) (show (Tryd.prog.globals[3]?).map (·.type) = some 74 by kernel_rfl) Tryd.underlying74 rowES Tryd.underlying131 hu hft hfo Tryd.underlying9 (by kernel_rfl) (by kernel_rfl)
  obtain ⟨a2, s2, v2, _⟩ := laid_sentinel h4.tail (show Tryd.prog.globalNamed "strconv.ErrSyntax" = some 2 by kernel_rfl) (show (Tryd.prog.globals[2]?).map (·.type) = some 74 by kernel_rfl) Tryd.underlying74 rowES Tryd.underlying131 hu hft hfo Tryd.underlying9 (by kernel_rfl) (by kernel_rfl)
  have c1 := World.var?_cell (show Tryd.prog.globalNamed "strconv.ErrRange" = some 3 by kernel_rfl) v1 0
  have c2 := World.var?_cell (show Tryd.prog.globalNamed "strconv.ErrSyntax" = some 2 by kernel_rfl) v2 0
  obtain ⟨m, cm⟩ := cell_of_shapedOpen_int (g := 1) (t := 3) (k := .i64) (zero := #[.int .i64 0]) hs (of_decide_eq_true (by kernel_rfl)) (by kernel_rfl) rfl (by kernel_rfl) (by kernel_rfl) Tryd.underlying3
  have ht := tab_of_laid (xs := Go.Lib.deBruijn64tab.map fun n => ((n : Nat) : Int)) (k := .u8) h.tail (show Tryd.prog.globalNamed "math/bits.deBruijn64tab" = some 0 by kernel_rfl) (show (Tryd.prog.globals[0]?).map (·.type) = some 104 by kernel_rfl) Tryd.underlying104 Tryd.underlying5 (by kernel_rfl) (by kernel_rfl) (by decide)
  have hcell : ∀ j d, (Go.Lib.deBruijn64tab.map fun n => D.int .u8 (n : Nat))[j]? = some d → ∃ n : Int, d = .int .u8 n ∧ W.cell? ⟨0, j, none⟩ = some (.int .u8 n) := by
    intro j d hd
    rw [List.getElem?_map] at hd
    cases hn : Go.Lib.deBruijn64tab[j]? with
    | none => rw [hn] at hd; cases hd
    | some n =>
      rw [hn] at hd
      simp only [Option.map_some, Option.some.injEq] at hd
      exact ⟨n, hd.symm, ht j n (by rw [List.getElem?_map, hn]; rfl)⟩
  refine ⟨fun g cs hg => ?_, fun g p hg => ?_⟩
  · simp only [pkgGl, default] at hg
    split at hg
    · rename_i e
      subst e
      simp only [Option.some.injEq] at hg
      subst hg
      have hlen : (Go.Lib.deBruijn64tab.map fun n => D.int .u8 (n : Nat)).length = 64 := by decide
      rw [hlen]
      refine RD.list (fun _ j => (W.cell? ⟨0, j, none⟩).getD default) (fun x hx => ?_) (Nat.le_refl _) (by decide) (fun _ => ?_) (fun k x j d hx hd => ?_) (fun k x j d hx hd => ?_) (by decide) (fun h => by cases h)
      · rw [List.mem_singleton.1 hx, hlen]
      · obtain ⟨n, _, hn⟩ := hcell 63 _ (List.getElem?_eq_getElem (by rw [hlen]; decide))
        have := lv_base hn
        simp only [List.length_singleton]
        omega
      · cases k with
        | zero =>
          simp only [List.getElem?_cons_zero, Option.some.injEq] at hx
          subst hx
          obtain ⟨n, _, hn⟩ := hcell j d hd
          rw [show 0 + (0 * 64 + j) = j by omega, hn]
          rfl
        | succ k => simp at hx
      · cases k with
        | zero =>
          simp only [List.getElem?_cons_zero, Option.some.injEq] at hx
          subst hx
          obtain ⟨n, rfl, hn⟩ := hcell j d hd
          rw [hn]
          exact .int _ _
        | succ k => simp at hx
    · cases hg
  simp only [pkgPv, default] at hg
  split at hg
  · rename_i e
    subst e
    cases hg
    exact ⟨lv_base cm, _, cm, _, rfl⟩
  · split at hg
    · rename_i e
      cases hg
      rcases e with rfl | rfl
      · have c2' : W.cell? ⟨2, 0, none⟩ = some (.iface 131 (.pointer (some a2))) := by simpa using c2
        exact ⟨lv_base c2', _, c2', .inr ⟨_, _, rfl⟩⟩
      · have c1' : W.cell? ⟨3, 0, none⟩ = some (.iface 131 (.pointer (some a1))) := by simpa using c1
        exact ⟨lv_base c1', _, c1', .inr ⟨_, _, rfl⟩⟩
    · cases hg

theorem laidWorld_met (os : Os) (args : Array Value) : laidMetH Tryd.prog laidRu (((World.laidAll Tryd.prog os laidRu).forCall (fun _ _ => 0) ⟨#[], args, []⟩).memory) := by
  rw [MakeChecks.laidMetH_plain _ _ _ (by kernel_rfl)]
  exact laidMet_laidAll _ (by kernel_rfl) (by kernel_rfl)
end Go.Proofs.YtablkigmdginoaaDoor
end

/- Steps as lines: what the rows list, as the evaluator takes it; the witness's world. -/
import Derived.Test.YtkbbgehnooncoaaGreatDoorWp31
import Derived.Test.YtkbbgehnooncoaaGreatDoorWp23
import Derived.Test.YtkbbgehnooncoaaGreatDoorWp28
import Derived.Test.YtkbbgehnooncoaaGreatDoorWp22
import Derived.Test.YtkbbgehnooncoaaGreatDoorWp20
import Derived.Test.YtkbbgehnooncoaaGreatDoorCards
import Derived.WalkKit
import Derived.ProofKit
import Derived.OpenShut
import Derived.LaidMore
import Derived.MakeChecks
import Derived.Lay
import Derived.Stop.LaidErr
import Derived.Shelf.Vars
import Derived.SevenTiedAt
import Derived.Test.YtkbbgehnooncoaaGreatDoorTie
section
namespace Go.Proofs.YtkbbgehnooncoaaGreatDoor
open Go Go.Eng Go.ChangeShapes Go.WideShapes Go.ChangeAt Go.RowKit
set_option maxRecDepth 100000

theorem ownVw : ownKnob Tryz.prog.godebug = none := by kernel_rfl
theorem star : "*" ++ "errors.errorString" = "*errors.errorString" := by decide
noncomputable abbrev laidVw : List (String × DataW Unit) := Rows.wordsKeepRow.laid
theorem rowES (u : TypeId) (h : Tryz.prog.typeName? 3 u = some "*errors.errorString") : u = 151 :=
  typeName_ptr_named (nm := "errors.errorString") (by rw [star]; kernel_rfl) (by kernel_rfl) (by decide) u (by rw [star]; exact h)
theorem und153 : ∃ f : Field, Tryz.prog.underlying 153 = some (.struct #[f]) ∧ f.type = 9 ∧ f.offset = 0 := ⟨_, Tryz.underlying153, rfl, rfl⟩

/-- what the rows list is what the evaluator takes -/
theorem laid_ok {W : World} (h : laidMetH Tryz.prog laidVw W) (hs : W.ShapedOpen Tryz.prog) : Laid W (Cx.base W).lv := by
  rw [MakeChecks.laidMetH_plain _ _ _ (by kernel_rfl)] at h
  have h4 := h.tail.tail.tail.tail
  obtain ⟨f, hu, hft, hfo⟩ := und153
  obtain ⟨a1, s1, v1, _⟩ := laid_sentinel h4 (show Tryz.prog.globalNamed "strconv.ErrRange" = some 5 by kernel_rfl) (show (Tryz.prog.globals[5]?).map (·.type) = some 55 by kernel_rfl) Tryz.underlying55 rowES Tryz.underlying151 hu hft hfo Tryz.underlying9 (by kernel_rfl) (by kernel_rfl)
  obtain ⟨a2, s2, v2, _⟩ := laid_sentinel h4.tail (show Tryz.prog.globalNamed "strconv.ErrSyntax" = some 4 by kernel_rfl) (show (Tryz.prog.globals[4]?).map (·.type) = some 55 by kernel_rfl) Tryz.underlying55 rowES Tryz.underlying151 hu hft hfo Tryz.underlying9 (by kernel_rfl) (by kernel_rfl)
  have c1 := World.var?_cell (show Tryz.prog.globalNamed "strconv.ErrRange" = some 5 by kernel_rfl) v1 0
  have c2 := World.var?_cell (show Tryz.prog.globalNamed "strconv.ErrSyntax" = some 4 by kernel_rfl) v2 0
  obtain ⟨m, cm⟩ := cell_of_shapedOpen_int (g := 1) (t := 3) (k := .i64) (zero := #[.int .i64 0]) hs (of_decide_eq_true (by kernel_rfl)) (by kernel_rfl) rfl (by kernel_rfl) (by kernel_rfl) Tryz.underlying3
  obtain ⟨ht4, hz4⟩ := tab_of_laid (xs := Go.Lib.pow10Tab) (k := .u64) h.tail.tail (show Tryz.prog.globalNamed "internal/strconv.uint64pow10" = some 0 by kernel_rfl) (show (Tryz.prog.globals[0]?).map (·.type) = some 116 by kernel_rfl) Tryz.underlying116 Tryz.underlying64 (by kernel_rfl) (by kernel_rfl) Go.Lib.pow10Tab_length
  refine ⟨fun g cs hg => ?_, fun g cs hg => ?_, fun g p hg => ?_⟩
  · simp only [pkgGl, default] at hg
    split at hg
    · rename_i e
      subst e
      simp only [Option.some.injEq] at hg
      subst hg
      exact rd_table (by rw [Go.Lib.pow10Tab_length]; decide) ht4
    · cases hg
  · simp only [pkgGl, default] at hg
    split at hg
    · rename_i e
      subst e
      simp only [Option.some.injEq] at hg
      subst hg
      rw [hz4, List.length_map, Go.Lib.pow10Tab_length]
    · cases hg
  simp only [pkgPv, default] at hg
  split at hg
  · rename_i e
    subst e
    cases hg
    exact ⟨lv_base cm, _, cm, _, rfl⟩
  · split at hg
    · rename_i e
      cases hg
      rcases e with rfl | rfl
      · have c2' : W.cell? ⟨4, 0, none⟩ = some (.iface 151 (.pointer (some a2))) := by simpa using c2
        exact ⟨lv_base c2', _, c2', .inr ⟨_, _, rfl⟩⟩
      · have c1' : W.cell? ⟨5, 0, none⟩ = some (.iface 151 (.pointer (some a1))) := by simpa using c1
        exact ⟨lv_base c1', _, c1', .inr ⟨_, _, rfl⟩⟩
    · cases hg

theorem laidWorld_met (os : Os) (args : Array Value) : laidMetH Tryz.prog laidVw (((World.laidAll Tryz.prog os laidVw).forCall (fun _ _ => 0) ⟨#[], args, []⟩).memory) := by
  rw [MakeChecks.laidMetH_plain _ _ _ (by kernel_rfl)]
  exact laidMet_laidAll _ (by kernel_rfl) (by kernel_rfl)
end Go.Proofs.YtkbbgehnooncoaaGreatDoor
end

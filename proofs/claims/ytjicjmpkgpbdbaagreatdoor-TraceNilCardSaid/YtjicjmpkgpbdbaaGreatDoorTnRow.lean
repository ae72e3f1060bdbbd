/- TraceNil returns true at every step, and leaves its argument alone: with the listed tables as the program's text lays them. -/
import Derived.Test.YtjicjmpkgpbdbaaGreatDoorTnR
import Derived.Test.YtjicjmpkgpbdbaaGreatDoorTie
namespace Go.Proofs.YtjicjmpkgpbdbaaGreatDoor
open Go Go.Eng Go.ChangeShapes Go.WideShapes Go.ChangeAt Go.RowKit
set_option maxRecDepth 100000

theorem traceNil_holds : Rows.TraceNilCardSaid :=
  Claim7.holds_tied_plain_at .later [] [.data, .data, .pinned] true (true, "3af16854a9b53cda511496b447bce7c9d765b572ea7d494525aa3030568b836d") false
    row_holds (fun _ h => by cases h) (by kernel_rfl) (fun _ h => by cases h) traceNil_row_tie rfl ⟨rfl, rfl⟩ (by kernel_rfl) rfl
    (fun f fn hf hfn => by
      obtain rfl : f = 3 := Option.some.inj ((show Tryz.prog.funcNamed "pentimento/pentimentolaw37.TraceNil" = some 3 by kernel_rfl).symm.trans hf) |>.symm
      obtain rfl : fn = Tryz.f3 := (Option.some.inj (Tryz.func3.symm.trans hfn)).symm
      exact ⟨by kernel_rfl, fun j t ht => by
        rw [Tryz.params3] at ht
        have hm : t ∈ [24] := by simpa using Array.mem_of_getElem? ht
        have hall : ([24].all fun u => !Tryz.prog.wantsStandIn u) = true := by kernel_rfl
        exact (show Tryz.prog.wantsStandIn t = false by simpa using List.all_eq_true.1 hall t hm)⟩)
    (by kernel_rfl)
#print axioms traceNil_holds
end Go.Proofs.YtjicjmpkgpbdbaaGreatDoor

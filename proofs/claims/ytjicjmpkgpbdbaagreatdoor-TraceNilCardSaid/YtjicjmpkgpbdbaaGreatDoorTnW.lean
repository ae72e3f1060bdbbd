/- A world in which the listed tables lie as the text lays them. -/
import Derived.Test.YtjicjmpkgpbdbaaGreatDoorCards
import Derived.WalkKit
import Derived.ProofKit
import Derived.OpenShut
import Derived.LaidHandle
import Derived.Deep.DeepLaidRun
import Derived.SevenTiedAt
namespace Go.Proofs.YtjicjmpkgpbdbaaGreatDoor
open Go Go.ChangeShapes Go.WideShapes Go.ChangeAt Go.RowKit
set_option maxRecDepth 100000

/-! ### a world in which the listed tables lie -/
def litsOf : Nat → DataW Unit → List Value
  | 0, _ => []
  | _ + 1, .lit (.int k z) => [.int k z]
  | n + 1, .agg ps => ps.flatMap (litsOf n)
  | _, _ => []

noncomputable def put (h : Array Obj) (name : String) (d : DataW Unit) : Array Obj :=
  h.modify ((Tryz.prog.globalNamed name).getD 0) fun
    | .cells _ t frozen => .cells (litsOf 4 d).toArray t frozen
    | o => o

noncomputable def laidWorld (os : Os) : World :=
  let w0 := World.holding Tryz.prog os ⟨#[], #[], []⟩
  { w0 with heap := Rows.traceNilRow.laid.foldl (fun h x => put h x.1 x.2) w0.heap }

/-- a step of nothing -/
def args0 : Array Value := #[.agg #[.int .i64 0, .int .i64 0, .int .i64 0, .int .i64 0, .string ⟨#[]⟩, .int .i64 0, .slice none 0 0]]

theorem laidWorld_met (os : Os) (args : Array Value) : laidMetH Tryz.prog Rows.traceNilRow.laid ((laidWorld os).forCall (fun _ _ => 0) ⟨#[], args, []⟩).memory :=
  laidMetH_of_parts (laidMet_of_run3 8 (by kernel_rfl) (by kernel_rfl) (by kernel_rfl)) (by kernel_rfl)


end Go.Proofs.YtjicjmpkgpbdbaaGreatDoor

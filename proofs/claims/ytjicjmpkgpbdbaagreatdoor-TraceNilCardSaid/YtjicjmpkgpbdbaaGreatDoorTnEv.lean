/- What TraceNil comes to: its evaluation at any step. -/
import Derived.Test.YtjicjmpkgpbdbaaGreatDoorTnT
import Derived.Test.YtjicjmpkgpbdbaaGreatDoorTnFT
import Derived.Test.YtjicjmpkgpbdbaaGreatDoorEngFn
import Derived.Test.YtjicjmpkgpbdbaaGreatDoorEngLv
namespace Go.Proofs.YtjicjmpkgpbdbaaGreatDoor
open Go Go.Eng
set_option maxRecDepth 100000

noncomputable def HH (f n : Nat) : List Nat := match FT f with
  | some fn => ((liveF fn).lookup n).getD []
  | none => []

/-- the evaluation -/
theorem nil_ev (a b c d e f g : D) : (orcN FT TT 60 HH 7 3 [.agg [.dat a, .dat b, .dat c, .dat d, .dat e, .dat f, .dat g]] []).map (·.1) = some (.dat (.bool true)) := by kernel_rfl

end Go.Proofs.YtjicjmpkgpbdbaaGreatDoor

/- Trace: fixed calls beside two objects. -/
import Derived.Test.YtkconbpjimjbnaaTpH
namespace Go.Eng
open Go
set_option maxRecDepth 100000
theorem known2 (o1 o2 : Ent) : kOrc [o1, o2] = some (.dat (.bool true)) := by kernel_rfl
end Go.Eng

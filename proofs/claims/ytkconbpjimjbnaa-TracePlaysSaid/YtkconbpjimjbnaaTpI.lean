/- Trace: fixed calls beside one object. -/
import Derived.Test.YtkconbpjimjbnaaTpH
namespace Go.Eng
open Go
set_option maxRecDepth 100000
theorem known1 (o1 : Ent) : kOrc [o1] = some (.dat (.bool true)) := by kernel_rfl
end Go.Eng

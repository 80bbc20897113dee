/- Closed runs; no conditions. -/
import Derived.Test.YtdabbamabgfeoaaGreatWkD
namespace Go.Eng
open Go.Proofs

theorem h16 : closed U16 Tryz.prog 60 15 60 36 [a11] = some v12 := by kernel_rfl

end Go.Eng

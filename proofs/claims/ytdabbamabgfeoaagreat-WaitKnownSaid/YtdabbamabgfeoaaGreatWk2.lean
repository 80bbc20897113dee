/- Closed runs; no conditions. -/
import Derived.Test.YtdabbamabgfeoaaGreatWkD
namespace Go.Eng
open Go.Proofs

theorem h11 : closed U11 Tryz.prog 60 14 60 139 [v0] = some (.sc (.bool true)) := by kernel_rfl

end Go.Eng

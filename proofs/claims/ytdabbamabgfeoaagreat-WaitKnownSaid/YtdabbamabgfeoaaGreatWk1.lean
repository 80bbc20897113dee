/- Closed runs; no conditions. -/
import Derived.Test.YtdabbamabgfeoaaGreatWkD
namespace Go.Eng
open Go.Proofs

theorem h9 : closed U9 Tryz.prog 60 15 60 286 [a8] = some (.sc (.bool true)) := by kernel_rfl

end Go.Eng

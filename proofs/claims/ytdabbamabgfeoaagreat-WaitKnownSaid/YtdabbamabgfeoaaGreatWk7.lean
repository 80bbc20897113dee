/- Closed runs; no conditions. -/
import Derived.Test.YtdabbamabgfeoaaGreatWkD
namespace Go.Eng
open Go.Proofs

theorem h46 : closed U46 Tryz.prog 60 15 60 4 [] = some (.sc (.bool true)) := by kernel_rfl

end Go.Eng

/- Closed runs; no conditions. -/
import Derived.Test.YtdabbamabgfeoaaGreatRkD
namespace Go.Eng
open Go.Proofs

theorem h15 : closed U15 Tryz.prog 60 15 60 32 [v0, a6, (.sc (.int .i64 9)), (.sc (.int .i64 3))] = some v13 := by kernel_rfl

end Go.Eng

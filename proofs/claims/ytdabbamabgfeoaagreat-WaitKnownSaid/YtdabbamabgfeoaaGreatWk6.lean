/- Closed runs; no conditions. -/
import Derived.Test.YtdabbamabgfeoaaGreatWkD
namespace Go.Eng
open Go.Proofs

theorem h34 : closed U34 Tryz.prog 60 13 60 59 [v0, a31] = some (.sc (.bool true)) := by kernel_rfl
theorem h35 : closed U35 Tryz.prog 60 11 60 53 [a32, (.sc (.int .i64 2))] = some v33 := by kernel_rfl
theorem h36 : closed U36 Tryz.prog 60 13 60 59 [v0, a34] = some (.sc (.bool true)) := by kernel_rfl
theorem h37 : closed U37 Tryz.prog 60 12 60 53 [a35, (.sc (.int .i64 1))] = some v36 := by kernel_rfl
theorem h38 : closed U38 Tryz.prog 60 13 60 59 [v0, a37] = some (.sc (.bool true)) := by kernel_rfl
theorem h39 : closed U39 Tryz.prog 60 11 60 17 [v0, a37] = some v38 := by kernel_rfl

end Go.Eng

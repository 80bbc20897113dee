/- Closed runs; no conditions. -/
import Derived.Test.YtdabbamabgfeoaaGreatWkD
namespace Go.Eng
open Go.Proofs

theorem h40 : closed U40 Tryz.prog 60 13 60 64 [a39, a40] = some v41 := by kernel_rfl
theorem h41 : closed U41 Tryz.prog 60 8 60 18 [v0, a19, (.lit [.sc (.int .i64 1), .sc (.int .i64 (-1))]), (.sc (.int .i64 9))] = some v42 := by kernel_rfl
theorem h42 : closed U42 Tryz.prog 60 13 60 21 [] = some (.sc (.bool true)) := by kernel_rfl
theorem h43 : closed U43 Tryz.prog 60 9 60 135 [a8, a16, (.sc (.int .i64 4))] = some (.sc (.bool true)) := by kernel_rfl
theorem h44 : closed U44 Tryz.prog 60 11 60 59 [v0, a43] = some (.sc (.bool true)) := by kernel_rfl
theorem h45 : closed U45 Tryz.prog 60 4 60 93 [v0, a43] = some (.sc (.int .i64 0)) := by kernel_rfl

end Go.Eng

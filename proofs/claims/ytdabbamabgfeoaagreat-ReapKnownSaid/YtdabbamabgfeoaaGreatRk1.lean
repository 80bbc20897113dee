/- Closed runs; no conditions. -/
import Derived.Test.YtdabbamabgfeoaaGreatRkD
namespace Go.Eng
open Go.Proofs

theorem h1 : closed U1 Tryz.prog 60 13 60 236 [v0] = some (.sc (.int .i64 0)) := by kernel_rfl
theorem h2 : closed U2 Tryz.prog 60 13 60 237 [v0] = some v1 := by kernel_rfl
theorem h3 : closed U3 Tryz.prog 60 5 60 147 [v0] = some v2 := by kernel_rfl
theorem h4 : closed U4 Tryz.prog 60 9 60 70 [v0] = some (.sc (.bool true)) := by kernel_rfl
theorem h5 : closed U5 Tryz.prog 60 11 60 202 [a3] = some (.sc (.int .i64 0)) := by kernel_rfl
theorem h6 : closed U6 Tryz.prog 60 11 60 71 [a3, a4] = some (.sc (.int .i64 0)) := by kernel_rfl
theorem h7 : closed U7 Tryz.prog 60 11 60 205 [a3, a4] = some (.sc (.bool true)) := by kernel_rfl
theorem h8 : closed U8 Tryz.prog 60 11 60 25 [v0, a4] = some v5 := by kernel_rfl
theorem h9 : closed U9 Tryz.prog 60 13 60 26 [v0, a6, (.sc (.int .i64 1))] = some v7 := by kernel_rfl

end Go.Eng

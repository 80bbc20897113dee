/- Closed runs; no conditions. -/
import Derived.Test.YtdabbamabgfeoaaGreatWkD
namespace Go.Eng
open Go.Proofs

theorem h22 : closed U22 Tryz.prog 60 11 60 11 [v0, a14, (.sc (.int .i64 0)), a17] = some v18 := by kernel_rfl
theorem h23 : closed U23 Tryz.prog 60 11 60 205 [a1, a19] = some (.sc (.bool true)) := by kernel_rfl
theorem h24 : closed U24 Tryz.prog 60 12 60 62 [v0, a19] = some v20 := by kernel_rfl
theorem h25 : closed U25 Tryz.prog 60 9 60 135 [a8, a21, (.sc (.int .i64 8))] = some (.sc (.bool true)) := by kernel_rfl
theorem h26 : closed U26 Tryz.prog 60 9 60 135 [a8, a22, (.sc (.int .i64 8))] = some (.sc (.bool true)) := by kernel_rfl
theorem h27 : closed U27 Tryz.prog 60 9 60 135 [a8, a23, (.sc (.int .i64 8))] = some (.sc (.bool true)) := by kernel_rfl
theorem h28 : closed U28 Tryz.prog 60 9 60 135 [a8, a24, (.sc (.int .i64 8))] = some (.sc (.bool true)) := by kernel_rfl
theorem h29 : closed U29 Tryz.prog 60 12 60 59 [v0, a25] = some (.sc (.bool true)) := by kernel_rfl
theorem h30 : closed U30 Tryz.prog 60 11 60 53 [a11, (.sc (.int .i64 6))] = some v26 := by kernel_rfl
theorem h31 : closed U31 Tryz.prog 60 13 60 36 [a27] = some v28 := by kernel_rfl
theorem h32 : closed U32 Tryz.prog 60 13 60 59 [v0, a29] = some (.sc (.bool true)) := by kernel_rfl
theorem h33 : closed U33 Tryz.prog 60 11 60 53 [a27, (.sc (.int .i64 3))] = some v30 := by kernel_rfl

end Go.Eng

/- Closed runs; no conditions. -/
import Derived.Test.YtdabbamabgfeoaaGreatRkD
namespace Go.Eng
open Go.Proofs

theorem h10 : closed U10 Tryz.prog 60 13 60 27 [v0, a8] = some v9 := by kernel_rfl
theorem h11 : closed U11 Tryz.prog 60 12 60 84 [v0, a10] = some (.sc (.int .i64 0)) := by kernel_rfl
theorem h12 : closed U12 Tryz.prog 60 11 60 28 [v0, a10] = some v11 := by kernel_rfl
theorem h13 : closed U13 Tryz.prog 60 9 60 205 [a3, a12] = some (.sc (.bool true)) := by kernel_rfl
theorem h14 : closed U14 Tryz.prog 60 12 60 84 [v0, a6] = some (.sc (.int .i64 0)) := by kernel_rfl
theorem h17 : closed U17 Tryz.prog 60 3 60 3 [] = some (.sc (.bool true)) := by kernel_rfl

end Go.Eng

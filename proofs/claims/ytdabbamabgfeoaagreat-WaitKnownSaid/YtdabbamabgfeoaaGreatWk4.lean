/- Closed runs; no conditions. -/
import Derived.Test.YtdabbamabgfeoaaGreatWkD
namespace Go.Eng
open Go.Proofs

theorem h1 : closed U1 Tryz.prog 60 11 60 202 [a1] = some (.sc (.int .i64 0)) := by kernel_rfl
theorem h2 : closed U2 Tryz.prog 60 9 60 205 [a1, a2] = some (.sc (.bool true)) := by kernel_rfl
theorem h3 : closed U3 Tryz.prog 60 11 60 352 [a1, a3] = some (.sc (.bool true)) := by kernel_rfl
theorem h4 : closed U4 Tryz.prog 60 13 60 352 [a1, a4] = some (.sc (.bool true)) := by kernel_rfl
theorem h5 : closed U5 Tryz.prog 60 9 60 205 [a1, a5] = some (.sc (.bool true)) := by kernel_rfl
theorem h6 : closed U6 Tryz.prog 60 8 60 397 [a1, a5] = some (.tup [.sc (.bool true), .sc (.int .i64 0)]) := by kernel_rfl
theorem h7 : closed U7 Tryz.prog 60 10 60 352 [a1, a6] = some (.sc (.bool true)) := by kernel_rfl
theorem h8 : closed U8 Tryz.prog 60 12 60 352 [a1, a7] = some (.sc (.bool true)) := by kernel_rfl
theorem h10 : closed U10 Tryz.prog 60 4 60 225 [a8] = some (.sc (.int .i64 0)) := by kernel_rfl
theorem h12 : closed U12 Tryz.prog 60 4 60 61 [v0] = some (.sc (.int .i64 0)) := by kernel_rfl
theorem h13 : closed U13 Tryz.prog 60 13 60 59 [v0, a9] = some (.sc (.bool true)) := by kernel_rfl
theorem h14 : closed U14 Tryz.prog 60 4 60 93 [v0, a9] = some (.sc (.int .i64 0)) := by kernel_rfl
theorem h15 : closed U15 Tryz.prog 60 5 60 35 [v0, a9] = some v10 := by kernel_rfl
theorem h17 : closed U17 Tryz.prog 60 5 60 6 [v0, a9] = some v13 := by kernel_rfl
theorem h18 : closed U18 Tryz.prog 60 12 60 14 [v0, a14] = some v15 := by kernel_rfl
theorem h19 : closed U19 Tryz.prog 60 9 60 135 [a8, a16, (.sc (.int .i64 3))] = some (.sc (.bool true)) := by kernel_rfl
theorem h20 : closed U20 Tryz.prog 60 11 60 59 [v0, a14] = some (.sc (.bool true)) := by kernel_rfl
theorem h21 : closed U21 Tryz.prog 60 4 60 93 [v0, a14] = some (.sc (.int .i64 0)) := by kernel_rfl

end Go.Eng

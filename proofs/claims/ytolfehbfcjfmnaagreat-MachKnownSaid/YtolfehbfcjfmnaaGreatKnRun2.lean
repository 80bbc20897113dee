/- Closed runs; no conditions. -/
import Derived.Test.YtolfehbfcjfmnaaGreatKnD
namespace Go.Eng
open Go.Proofs

theorem hRun2 : closed T4l Tryz.prog 4 16 60 19 [vC, m2, .sc (.int .i64 50)] = some vRun2 := by kernel_rfl

end Go.Eng

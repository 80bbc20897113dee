/- Closed runs; no conditions. -/
import Derived.Test.YtdabbamabgfeoaaGreatWkD
namespace Go.Eng
open Go.Proofs

theorem h0 : closed U0 Tryz.prog 60 16 60 7 [] = some v0 := by kernel_rfl

end Go.Eng

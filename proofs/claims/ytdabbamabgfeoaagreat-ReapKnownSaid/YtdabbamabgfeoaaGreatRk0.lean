/- Closed runs; no conditions. -/
import Derived.Test.YtdabbamabgfeoaaGreatRkD
namespace Go.Eng
open Go.Proofs

theorem h0 : closed U0 Tryz.prog 60 14 60 22 [] = some v0 := by kernel_rfl

end Go.Eng

/- Closed runs; no conditions. -/
import Derived.Test.YtdabbamabgfeoaaGreatRkD
namespace Go.Eng
open Go.Proofs

theorem h16 : closed U16 Tryz.prog 60 16 60 5 [] = some (.sc (.bool true)) := by kernel_rfl

end Go.Eng

/- Closed runs; no conditions. -/
import Derived.Test.YtolfehbfcjfmnaaGreatKnD
namespace Go.Eng
open Go.Proofs

theorem hStr : closed T2 Tryz.prog 4 15 60 60 [vC] = some vStr := by kernel_rfl

end Go.Eng

/- Closed runs; no conditions. -/
import Derived.Test.YtolfehbfcjfmnaaGreatKnD
namespace Go.Eng
open Go.Proofs

theorem hC : closed T1 Tryz.prog 4 15 60 101 [] = some vC := by kernel_rfl

end Go.Eng

/- Closed runs; no conditions. -/
import Derived.Test.YthplmmeobggkfaaGreatVKM
set_option linter.all false
namespace Go.Eng
open Go.Proofs
theorem avD : aao 400 (Hh (Te UB Z9) Tryz.prog [15] ZM)=some akq.2:=by kernel_rfl
end Go.Eng

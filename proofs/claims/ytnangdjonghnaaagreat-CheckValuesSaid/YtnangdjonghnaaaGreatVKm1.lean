/- A part of the closed run of the chapter s examples; no conditions. -/
import Derived.Test.YtnangdjonghnaaaGreatVKM
set_option linter.unusedVariables false
set_option linter.unusedSimpArgs false
namespace Go.Eng
open Go.Proofs
theorem abw : G5 [[2,8,9,10]] [189,167,148,136,99,93,101,68,73,48,203,33,36,38,19,11,13,40,2,0] (xL (NL UB QU) Tryz.prog [13,12,9,8,5,4,2,1,0] QA)=some QB:=by kernel_rfl
end Go.Eng

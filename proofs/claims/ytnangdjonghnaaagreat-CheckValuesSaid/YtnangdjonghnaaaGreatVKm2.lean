/- A part of the closed run of the chapter s examples; no conditions. -/
import Derived.Test.YtnangdjonghnaaaGreatVKM
set_option linter.unusedVariables false
set_option linter.unusedSimpArgs false
namespace Go.Eng
open Go.Proofs
theorem abx : G5 [[2,10,11,12]] [325,344,347,349,297,299,255,267,254,249,230,211,189,167,148,136,99,93,101,68,73,48,253,0] (xL (NL UB QU) Tryz.prog [12,11,10,8,5,1,0] QB)=some QC:=by kernel_rfl
end Go.Eng

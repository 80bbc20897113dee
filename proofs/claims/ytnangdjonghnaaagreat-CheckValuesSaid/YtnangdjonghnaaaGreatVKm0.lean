/- A part of the closed run of the chapter s examples; no conditions. -/
import Derived.Test.YtnangdjonghnaaaGreatVKM
set_option linter.unusedVariables false
set_option linter.unusedSimpArgs false
namespace Go.Eng
open Go.Proofs
theorem abv : G5 [[2,8,9,10]] [68,73,48,87,33,36,38,19,11,13,40,2,0] (xL (NL UB QU) Tryz.prog [13,10,9,6,5,0] (St.start (NL UB QU) 145 acb.1 af.empty))=some QA:=by kernel_rfl
end Go.Eng

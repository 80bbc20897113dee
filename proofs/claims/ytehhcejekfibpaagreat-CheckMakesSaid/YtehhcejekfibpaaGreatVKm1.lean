/- A part of the closed run of the chapter s examples; no conditions. -/
import Derived.Test.YtehhcejekfibpaaGreatVKM
set_option linter.unusedVariables false
set_option linter.unusedSimpArgs false
namespace Go.Eng
open Go.Proofs
theorem abF : Gt [[2,8,9,10]] [189,167,148,136,99,93,101,68,73,48,203,33,36,38,19,11,13,40,2,0] (wX (Nr UB QN) Tryz.prog [13,12,9,8,5,4,2,1,0] Ql)=some Qm:=by kernel_rfl
end Go.Eng

/- A part of the closed run of the chapter s examples; no conditions. -/
import Derived.Test.YtehhcejekfibpaaGreatVKM
set_option linter.unusedVariables false
set_option linter.unusedSimpArgs false
namespace Go.Eng
open Go.Proofs
theorem abE : Gt [[2,8,9,10]] [68,73,48,87,33,36,38,19,11,13,40,2,0] (wX (Nr UB QN) Tryz.prog [13,10,9,6,5,0] (St.start (Nr UB QN) 146 ach.1 af.empty))=some Ql:=by kernel_rfl
end Go.Eng

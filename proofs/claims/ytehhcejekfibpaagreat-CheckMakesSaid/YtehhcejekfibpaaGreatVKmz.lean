/- A part of the closed run of the chapter s examples; no conditions. -/
import Derived.Test.YtehhcejekfibpaaGreatVKM
set_option linter.unusedVariables false
set_option linter.unusedSimpArgs false
namespace Go.Eng
open Go.Proofs
theorem asO : NS 400 (wX (Nr UB QN) Tryz.prog [15] Qn)=some ach.2:=by kernel_rfl
end Go.Eng

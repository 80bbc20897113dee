/- A part of the closed run of the chapter s examples; no conditions. -/
import Derived.Test.YtehhcejekfibpaaGreatVKD
set_option linter.unusedVariables false
set_option linter.unusedSimpArgs false
namespace Go.Eng
open Go.Proofs
theorem akN : H [(92,1,[jD])] 14 297 V8:=hh
theorem akO : H [(297,1,[V8])] 13 246 V9:=hh
theorem akP : H [(243,2,[V7]),(246,2,[V9])] 8 181 Wa:=hh
theorem akQ : H [(92,1,[jD])] 14 297 Wb:=hh
end Go.Eng

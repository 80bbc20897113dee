/- A part of the closed run of the chapter s examples; no conditions. -/
import Derived.Test.YtehhcejekfibpaaGreatVKD
set_option linter.unusedVariables false
set_option linter.unusedSimpArgs false
namespace Go.Eng
open Go.Proofs
theorem ak2 : H [(92,1,[jD])] 14 297 Wn:=hh
theorem ak3 : H [(297,1,[Wn])] 12 243 Wo:=hh
end Go.Eng

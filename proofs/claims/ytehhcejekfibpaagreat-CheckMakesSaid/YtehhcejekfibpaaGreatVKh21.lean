/- A part of the closed run of the chapter s examples; no conditions. -/
import Derived.Test.YtehhcejekfibpaaGreatVKD
set_option linter.unusedVariables false
set_option linter.unusedSimpArgs false
namespace Go.Eng
open Go.Proofs
theorem alp : H [(92,1,[jD]),(339,0,[WG,WH,WI,WJ])] 14 297 OG:=hh
theorem alq : H [(297,1,[OG])] 12 243 WK:=hh
theorem alr : H [(297,1,[OG])] 13 246 WL:=hh
theorem als : H [(243,2,[WK]),(246,2,[WL])] 8 181 WM:=hh
end Go.Eng

/- A part of the closed run of the chapter s examples; no conditions. -/
import Derived.Test.YtnangdjonghnaaaGreatVKD
set_option linter.unusedVariables false
set_option linter.unusedSimpArgs false
namespace Go.Eng
open Go.Proofs
theorem alu : H [(90,1,[j4])] 14 299 WU:=hh
theorem alv : H [(299,1,[WU])] 13 245 WV:=hh
theorem alw : H [(90,1,[j4])] 15 299 WW:=hh
theorem alx : H [(299,1,[WW])] 13 247 WX:=hh
theorem aly : H [(245,2,[WV]),(247,2,[WX])] 6 182 WY:=hh
end Go.Eng

/- A part of the closed run of the chapter s examples; no conditions. -/
import Derived.Test.YtnangdjonghnaaaGreatVKD
set_option linter.unusedVariables false
set_option linter.unusedSimpArgs false
namespace Go.Eng
open Go.Proofs
theorem ala : H [(90,1,[j4]),(341,0,[Wx,Wy,Wz])] 14 299 WA:=hh
theorem alb : H [(299,1,[WA])] 13 245 WB:=hh
theorem alc : H [(90,1,[j4])] 14 299 WC:=hh
theorem ald : H [(299,1,[WC])] 13 248 WD:=hh
theorem ale : H [(245,2,[WB]),(248,2,[WD])] 8 182 WE:=hh
end Go.Eng

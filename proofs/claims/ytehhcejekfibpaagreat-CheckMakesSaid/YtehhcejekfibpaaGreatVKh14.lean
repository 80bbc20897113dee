/- A part of the closed run of the chapter s examples; no conditions. -/
import Derived.Test.YtehhcejekfibpaaGreatVKD
set_option linter.unusedVariables false
set_option linter.unusedSimpArgs false
namespace Go.Eng
open Go.Proofs
theorem akA : H [(92,1,[jD]),(339,0,[VT,VU])] 13 297 OE:=hh
theorem akB : H [(297,1,[OE])] 12 243 VV:=hh
theorem akC : H [(297,1,[OE])] 12 246 VW:=hh
theorem akD : H [(243,2,[VV]),(246,2,[VW])] 8 181 VX:=hh
theorem akE : H [(92,1,[jD])] 14 297 VY:=hh
theorem akF : H [(297,1,[VY])] 12 243 VZ:=hh
theorem akG : H [(92,1,[jD])] 14 297 V1:=hh
theorem akH : H [(297,1,[V1])] 12 245 V2:=hh
theorem akI : H [(243,2,[VZ]),(245,2,[V2])] 6 181 V3:=hh
theorem akJ : H [] 10 339 V4:=hh
theorem akK : H [] 10 339 V5:=hh
theorem akL : H [(92,1,[jD]),(339,0,[V4,V5])] 14 297 V6:=hh
theorem akM : H [(297,1,[V6])] 13 243 V7:=hh
end Go.Eng

/- A part of the closed run of the chapter s examples; no conditions. -/
import Derived.Test.YtnangdjonghnaaaGreatVKD
set_option linter.unusedVariables false
set_option linter.unusedSimpArgs false
namespace Go.Eng
open Go.Proofs
theorem akv : H [(90,1,[j4])] 14 299 VV:=hh
theorem akw : H [(299,1,[VV])] 12 247 VW:=hh
theorem akx : H [(245,2,[VU]),(247,2,[VW])] 6 182 VX:=hh
theorem aky : H [] 10 341 VY:=hh
theorem akz : H [] 10 341 VZ:=hh
theorem akA : H [(90,1,[j4]),(341,0,[VY,VZ])] 13 299 OW:=hh
theorem akB : H [(299,1,[OW])] 12 245 V1:=hh
theorem akC : H [(299,1,[OW])] 12 248 V2:=hh
theorem akD : H [(245,2,[V1]),(248,2,[V2])] 8 182 V3:=hh
theorem akE : H [(90,1,[j4])] 14 299 V4:=hh
theorem akF : H [(299,1,[V4])] 12 245 V5:=hh
end Go.Eng

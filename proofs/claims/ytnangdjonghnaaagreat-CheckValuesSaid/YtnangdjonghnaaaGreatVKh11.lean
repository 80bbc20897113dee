/- A part of the closed run of the chapter s examples; no conditions. -/
import Derived.Test.YtnangdjonghnaaaGreatVKD
set_option linter.unusedVariables false
set_option linter.unusedSimpArgs false
namespace Go.Eng
open Go.Proofs
theorem ajU : H [(90,1,[j4])] 12 299 OS:=hh
theorem ajV : H [(299,1,[OS])] 11 245 Vn:=hh
theorem ajW : H [(299,1,[OS])] 12 248 Vo:=hh
theorem ajX : H [(245,2,[Vn]),(248,2,[Vo])] 8 182 OT:=hh
theorem ajY : H [(90,1,[j4])] 12 299 Vp:=hh
theorem ajZ : H [(299,1,[Vp])] 12 245 Vq:=hh
theorem aj0 : H [(90,1,[j4])] 13 299 Vr:=hh
theorem aj1 : H [(299,1,[Vr])] 12 247 Vs:=hh
theorem aj2 : H [(245,2,[Vq]),(247,2,[Vs])] 6 182 OU:=hh
theorem aj3 : H [(90,1,[j4])] 12 299 Vt:=hh
theorem aj4 : H [(299,1,[Vt])] 12 245 Vu:=hh
theorem aj5 : H [(90,1,[j4])] 13 299 Vv:=hh
theorem aj6 : H [(299,1,[Vv])] 12 248 Vw:=hh
theorem aj7 : H [(245,2,[Vu]),(248,2,[Vw])] 8 182 Vx:=hh
theorem aj8 : H [(90,1,[j4])] 13 299 Vy:=hh
theorem aj9 : H [(299,1,[Vy])] 12 245 Vz:=hh
theorem aka : H [(90,1,[j4])] 13 299 VA:=hh
end Go.Eng

/- A part of the closed run of the chapter s examples; no conditions. -/
import Derived.Test.YtnangdjonghnaaaGreatVKD
set_option linter.unusedVariables false
set_option linter.unusedSimpArgs false
namespace Go.Eng
open Go.Proofs
theorem ajC : H [(90,1,[j4])] 11 299 U8:=hh
theorem ajD : H [(299,1,[U8])] 11 245 U9:=hh
theorem ajE : H [(90,1,[j4])] 12 299 Va:=hh
theorem ajF : H [(299,1,[Va])] 10 247 Vb:=hh
theorem ajG : H [(245,2,[U9]),(247,2,[Vb])] 6 182 Vc:=hh
theorem ajH : H [(181,0,[U7]),(182,0,[Vc])] 9 92 Vd:=hh
theorem ajI : H [(23,0,[vB]),(90,1,[j4]),(171,0,[acj,Ff,JG]),(91,2,[P7]),(92,2,[Vd])] 12 16 Ve:=hh
theorem ajJ : H [(91,2,[P7]),(182,0,[Lw,OI])] 8 115 Vf:=hh
theorem ajK : H [(91,2,[P7]),(182,0,[Lw,OJ])] 8 115 Vg:=hh
theorem ajL : H [(90,1,[j4])] 11 299 OQ:=hh
theorem ajM : H [(299,1,[OQ])] 11 245 Vh:=hh
theorem ajN : H [(299,1,[OQ])] 11 248 Vi:=hh
theorem ajO : H [(245,2,[Vh]),(248,2,[Vi])] 8 182 LA:=hh
theorem ajP : H [(90,1,[j4])] 12 299 Vj:=hh
theorem ajQ : H [(299,1,[Vj])] 12 245 Vk:=hh
theorem ajR : H [(90,1,[j4])] 12 299 Vl:=hh
theorem ajS : H [(299,1,[Vl])] 11 247 Vm:=hh
theorem ajT : H [(245,2,[Vk]),(247,2,[Vm])] 6 182 OR:=hh
end Go.Eng

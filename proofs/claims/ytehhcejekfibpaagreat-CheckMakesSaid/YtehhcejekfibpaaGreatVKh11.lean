/- A part of the closed run of the chapter s examples; no conditions. -/
import Derived.Test.YtehhcejekfibpaaGreatVKD
set_option linter.unusedVariables false
set_option linter.unusedSimpArgs false
namespace Go.Eng
open Go.Proofs
theorem ajQ : H [(297,1,[Vd])] 12 243 Ve:=hh
theorem ajR : H [(92,1,[jD])] 12 297 Vf:=hh
theorem ajS : H [(297,1,[Vf])] 11 245 Vg:=hh
theorem ajT : H [(243,2,[Ve]),(245,2,[Vg])] 6 181 Oz:=hh
theorem ajU : H [(92,1,[jD])] 12 297 OA:=hh
theorem ajV : H [(297,1,[OA])] 11 243 Vh:=hh
theorem ajW : H [(297,1,[OA])] 12 246 Vi:=hh
theorem ajX : H [(243,2,[Vh]),(246,2,[Vi])] 8 181 OB:=hh
theorem ajY : H [(92,1,[jD])] 12 297 Vj:=hh
theorem ajZ : H [(297,1,[Vj])] 12 243 Vk:=hh
theorem aj0 : H [(92,1,[jD])] 13 297 Vl:=hh
theorem aj1 : H [(297,1,[Vl])] 12 245 Vm:=hh
theorem aj2 : H [(243,2,[Vk]),(245,2,[Vm])] 6 181 OC:=hh
theorem aj3 : H [(92,1,[jD])] 12 297 Vn:=hh
theorem aj4 : H [(297,1,[Vn])] 12 243 Vo:=hh
theorem aj5 : H [(92,1,[jD])] 13 297 Vp:=hh
theorem aj6 : H [(297,1,[Vp])] 12 246 Vq:=hh
theorem aj7 : H [(243,2,[Vo]),(246,2,[Vq])] 8 181 Vr:=hh
theorem aj8 : H [(92,1,[jD])] 13 297 Vs:=hh
theorem aj9 : H [(297,1,[Vs])] 12 243 Vt:=hh
theorem aka : H [(92,1,[jD])] 13 297 Vu:=hh
end Go.Eng

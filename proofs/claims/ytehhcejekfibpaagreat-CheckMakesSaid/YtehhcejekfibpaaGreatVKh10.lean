/- A part of the closed run of the chapter s examples; no conditions. -/
import Derived.Test.YtehhcejekfibpaaGreatVKD
set_option linter.unusedVariables false
set_option linter.unusedSimpArgs false
namespace Go.Eng
open Go.Proofs
theorem ajx : H [(30,0,[uD]),(92,1,[jD]),(170,0,[Je,Lg,Ow,Ox]),(93,2,[Us]),(168,0,[Ut]),(94,2,[UD,UM,UW])] 14 23 UX:=hh
theorem ajy : H [(44,0,[H3]),(53,2,[Tp])] 5 18 UY:=hh
theorem ajz : H [] 10 170 UZ:=hh
theorem ajA : H [(30,0,[uD]),(92,1,[jD]),(170,0,[UZ])] 10 93 U0:=hh
theorem ajB : H [(93,2,[U0])] 6 180 U1:=hh
theorem ajC : H [(92,1,[jD])] 11 297 U2:=hh
theorem ajD : H [(297,1,[U2])] 11 243 U3:=hh
theorem ajE : H [(92,1,[jD])] 12 297 U4:=hh
theorem ajF : H [(297,1,[U4])] 10 245 U5:=hh
theorem ajG : H [(243,2,[U3]),(245,2,[U5])] 6 181 U6:=hh
theorem ajH : H [(180,0,[U1]),(181,0,[U6])] 9 94 U7:=hh
theorem ajI : H [(30,0,[uD]),(92,1,[jD]),(170,0,[acq,Ed,Je]),(93,2,[PS]),(94,2,[U7])] 12 23 U8:=hh
theorem ajJ : H [(93,2,[PS]),(181,0,[Ld,On])] 8 116 U9:=hh
theorem ajK : H [(93,2,[PS]),(181,0,[Ld,Oo])] 8 116 Va:=hh
theorem ajL : H [(92,1,[jD])] 11 297 Oy:=hh
theorem ajM : H [(297,1,[Oy])] 11 243 Vb:=hh
theorem ajN : H [(297,1,[Oy])] 11 246 Vc:=hh
theorem ajO : H [(243,2,[Vb]),(246,2,[Vc])] 8 181 Lh:=hh
theorem ajP : H [(92,1,[jD])] 12 297 Vd:=hh
end Go.Eng

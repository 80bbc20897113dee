/- A part of the closed run of the chapter s examples; no conditions. -/
import Derived.Test.YtehhcejekfibpaaGreatVKD
set_option linter.unusedVariables false
set_option linter.unusedSimpArgs false
namespace Go.Eng
open Go.Proofs
theorem akR : H [(297,1,[Wb])] 12 243 Wc:=hh
theorem akS : H [(92,1,[jD])] 14 297 Wd:=hh
theorem akT : H [(297,1,[Wd])] 13 245 We:=hh
theorem akU : H [(243,2,[Wc]),(245,2,[We])] 6 181 Wf:=hh
theorem akV : H [] 10 339 Wg:=hh
theorem akW : H [] 10 339 Wh:=hh
theorem akX : H [] 10 339 Wi:=hh
theorem akY : H [(92,1,[jD]),(339,0,[Wg,Wh,Wi])] 14 297 OF:=hh
theorem akZ : H [(297,1,[OF])] 12 243 Wj:=hh
theorem ak0 : H [(297,1,[OF])] 13 246 Wl:=hh
theorem ak1 : H [(243,2,[Wj]),(246,2,[Wl])] 8 181 Wm:=hh
end Go.Eng

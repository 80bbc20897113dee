/- A part of the closed run of the chapter s examples; no conditions. -/
import Derived.Test.YtehhcejekfibpaaGreatVKD
set_option linter.unusedVariables false
set_option linter.unusedSimpArgs false
namespace Go.Eng
open Go.Proofs
theorem ak4 : H [(92,1,[jD])] 14 297 Wp:=hh
theorem ak5 : H [(297,1,[Wp])] 13 245 Wq:=hh
theorem ak6 : H [(243,2,[Wo]),(245,2,[Wq])] 6 181 Wr:=hh
theorem ak7 : H [] 10 339 Ws:=hh
theorem ak8 : H [] 10 339 Wt:=hh
theorem ak9 : H [] 10 339 Wu:=hh
theorem ala : H [(92,1,[jD]),(339,0,[Ws,Wt,Wu])] 14 297 Wv:=hh
theorem alb : H [(297,1,[Wv])] 13 243 Ww:=hh
end Go.Eng

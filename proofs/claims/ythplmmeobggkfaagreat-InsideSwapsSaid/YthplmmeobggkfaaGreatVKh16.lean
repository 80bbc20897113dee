/- Closed runs; no conditions. -/
import Derived.Test.YthplmmeobggkfaaGreatVKD
set_option linter.all false
namespace Go.Eng
open Go.Proofs
theorem apd : H [(61,1,[mR]),(361,0,[Hk,X0])] 13 343 adB:=hh
theorem ape : H [(343,1,[adB])] 10 317 adC:=hh
theorem apf : H [(61,1,[mR]),(361,0,[Hk,adq,ady])] 12 343 adD:=hh
theorem apg : H [(343,1,[adD])] 13 315 adE:=hh
theorem aph : H [(61,1,[mR])] 13 343 adF:=hh
theorem api : H [(343,1,[adF])] 11 317 adG:=hh
end Go.Eng

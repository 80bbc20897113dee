/- A part of the closed run of the chapter s examples; no conditions. -/
import Derived.Test.YthplmmeobggkfaaGreatVKD
set_option linter.all false
namespace Go.Eng
open Go.Proofs
theorem aiE : C 100 abM:=cz 10
theorem amF : H [(97,0,[rW]),(100,0,[abM])] 9 32 abN:=hh
theorem amG : H [(97,0,[rW]),(61,1,[mO]),(100,0,[abM]),(32,1,[abN])] 10 78 Xq:=hh
theorem amH : H [(61,1,[mO])] 11 343 abO:=hh
theorem amI : H [(343,1,[abO])] 11 315 abP:=hh
theorem amJ : H [(315,2,[abP])] 6 270 abQ:=hh
theorem amK : H [(78,2,[Xq]),(270,0,[abQ])] 9 79 abR:=hh
theorem amL : H [(61,1,[mO]),(78,2,[Xq]),(79,2,[abR])] 8 14 abS:=hh
theorem amM : C 219 ahG:=cz 9
theorem aao : C 219 ahH:=cz 9
theorem amN : H [(219,0,[ahG,ahH])] 10 86 abT:=hh
theorem amO : H [(85,1,[NT]),(86,0,[abT])] 12 50 abU:=hh
theorem amP : H [(46,0,[N1]),(50,2,[abU])] 5 15 abV:=hh
theorem Hc : C 100 TD:=cz 10
theorem amQ : H [(97,0,[rW]),(100,0,[TD])] 8 32 Xr:=hh
theorem amR : H [(97,0,[rW]),(61,1,[mO]),(100,0,[TD]),(32,1,[Xr])] 9 78 Rx:=hh
theorem amS : H [(61,1,[mO])] 11 343 abW:=hh
theorem amT : H [(343,1,[abW])] 12 315 Xs:=hh
theorem amU : H [(61,1,[mO])] 12 343 abX:=hh
theorem amV : H [(343,1,[abX])] 11 318 Xt:=hh
theorem amW : H [(315,2,[Xs]),(318,2,[Xt])] 8 270 abY:=hh
theorem N8 : C 361 Ry:=cz 9
theorem amX : H [(61,1,[mO]),(361,0,[Ry])] 12 343 abZ:=hh
theorem amY : H [(343,1,[abZ])] 12 315 Xu:=hh
end Go.Eng

/- Closed runs; no conditions. -/
import Derived.Test.YthplmmeobggkfaaGreatVKD
set_option linter.all false
namespace Go.Eng
open Go.Proofs
theorem aiG : C 100 abO:=cz 10
theorem amG : H [(97,0,[sk]),(100,0,[abO])] 9 32 abP:=hh
theorem amH : H [(97,0,[sk]),(61,1,[mR]),(100,0,[abO]),(32,1,[abP])] 10 78 Xs:=hh
theorem amI : H [(61,1,[mR])] 11 343 abQ:=hh
theorem amJ : H [(343,1,[abQ])] 11 315 abR:=hh
theorem amK : H [(315,2,[abR])] 6 270 abS:=hh
theorem amL : H [(78,2,[Xs]),(270,0,[abS])] 9 79 abT:=hh
theorem amM : H [(61,1,[mR]),(78,2,[Xs]),(79,2,[abT])] 8 14 abU:=hh
theorem amN : C 219 ahI:=cz 9
theorem aaq : C 219 ahJ:=cz 9
theorem amO : H [(219,0,[ahI,ahJ])] 10 86 abV:=hh
theorem amP : H [(85,1,[NW]),(86,0,[abV])] 12 50 abW:=hh
theorem amQ : H [(46,0,[N3]),(50,2,[abW])] 5 15 abX:=hh
theorem Hi : C 100 TH:=cz 10
theorem amR : H [(97,0,[sk]),(100,0,[TH])] 8 32 Xt:=hh
theorem amS : H [(97,0,[sk]),(61,1,[mR]),(100,0,[TH]),(32,1,[Xt])] 9 78 RA:=hh
theorem amT : H [(61,1,[mR])] 11 343 abY:=hh
theorem amU : H [(343,1,[abY])] 12 315 Xu:=hh
theorem amV : H [(61,1,[mR])] 12 343 abZ:=hh
theorem amW : H [(343,1,[abZ])] 11 318 Xv:=hh
theorem amX : H [(315,2,[Xu]),(318,2,[Xv])] 8 270 ab0:=hh
theorem Ob : C 361 RB:=cz 9
theorem amY : H [(61,1,[mR]),(361,0,[RB])] 12 343 ab1:=hh
theorem amZ : H [(343,1,[ab1])] 12 315 Xw:=hh
end Go.Eng

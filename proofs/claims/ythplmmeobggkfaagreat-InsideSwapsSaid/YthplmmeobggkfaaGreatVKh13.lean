/- Closed runs; no conditions. -/
import Derived.Test.YthplmmeobggkfaaGreatVKD
set_option linter.all false
namespace Go.Eng
open Go.Proofs
theorem aoB : H [(97,0,[sk]),(61,1,[mR]),(100,0,[Rv,Xy,TQ]),(80,1,[Lv,Rw,Rx]),(126,1,[Ry,Rz]),(78,2,[Od,XW]),(79,2,[XB]),(54,1,[TI,TJ,ac2,ac3]),(32,1,[XC,XL]),(315,2,[XD,XG,XJ,XM,XP,XS]),(318,2,[XE,XN]),(317,2,[XH,XK,XQ,XT])] 14 22 ac4:=hh
theorem aoC : C 219 ahR:=cz 9
theorem aoD : C 219 ahS:=cz 9
theorem aoE : C 219 ahT:=cz 9
theorem aoF : C 219 ahU:=cz 9
theorem aoG : C 219 ahV:=cz 9
theorem aoH : H [(219,0,[ahR,ahS,ahT,ahU,ahV])] 11 86 ac5:=hh
theorem aoI : H [(85,1,[NW]),(86,0,[ac5])] 13 50 ac6:=hh
theorem aoJ : H [(46,0,[N3]),(50,2,[ac6])] 5 15 ac7:=hh
theorem aoK : H [(15,0,[ac7])] 4 20 ac8:=hh
theorem X5 : C 100 TR:=cz 11
theorem aoL : H [(97,0,[sk]),(100,0,[TR])] 9 32 XX:=hh
theorem aoM : H [(97,0,[sk]),(61,1,[mR]),(100,0,[TR]),(32,1,[XX])] 10 78 ac9:=hh
theorem aoN : H [(97,0,[sk]),(100,0,[TH])] 7 54 ada:=hh
theorem aoO : C 361 ahW:=cz 9
theorem aoP : H [(61,1,[mR]),(361,0,[RB,ahW])] 11 343 adb:=hh
end Go.Eng

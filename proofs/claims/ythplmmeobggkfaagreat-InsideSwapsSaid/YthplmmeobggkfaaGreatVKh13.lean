/- A part of the closed run of the chapter s examples; no conditions. -/
import Derived.Test.YthplmmeobggkfaaGreatVKD
set_option linter.all false
namespace Go.Eng
open Go.Proofs
theorem aoA : H [(97,0,[rW]),(61,1,[mO]),(100,0,[Rs,Xw,TK]),(80,1,[Lq,Rt,Ru]),(126,1,[Rv,Rw]),(78,2,[Oa,XU]),(79,2,[Xz]),(54,1,[TE,TF,ac0,ac1]),(32,1,[XA,XJ]),(315,2,[XB,XE,XH,XK,XN,XQ]),(318,2,[XC,XL]),(317,2,[XF,XI,XO,XR])] 14 22 ac2:=hh
theorem aoB : C 219 ahP:=cz 9
theorem aoC : C 219 ahQ:=cz 9
theorem aoD : C 219 ahR:=cz 9
theorem aoE : C 219 ahS:=cz 9
theorem aoF : C 219 ahT:=cz 9
theorem aoG : H [(219,0,[ahP,ahQ,ahR,ahS,ahT])] 11 86 ac3:=hh
theorem aoH : H [(85,1,[NT]),(86,0,[ac3])] 13 50 ac4:=hh
theorem aoI : H [(46,0,[N1]),(50,2,[ac4])] 5 15 ac5:=hh
theorem aoJ : H [(15,0,[ac5])] 4 20 ac6:=hh
theorem X3 : C 100 TM:=cz 11
theorem aoK : H [(97,0,[rW]),(100,0,[TM])] 9 32 XV:=hh
theorem aoL : H [(97,0,[rW]),(61,1,[mO]),(100,0,[TM]),(32,1,[XV])] 10 78 ac7:=hh
theorem aoM : H [(97,0,[rW]),(100,0,[TD])] 7 54 ac8:=hh
theorem aoN : C 361 ahU:=cz 9
theorem aoO : H [(61,1,[mO]),(361,0,[Ry,ahU])] 11 343 ac9:=hh
end Go.Eng

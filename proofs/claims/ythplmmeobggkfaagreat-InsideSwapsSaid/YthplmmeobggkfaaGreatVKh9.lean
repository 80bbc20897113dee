/- A part of the closed run of the chapter s examples; no conditions. -/
import Derived.Test.YthplmmeobggkfaaGreatVKD
set_option linter.all false
namespace Go.Eng
open Go.Proofs
theorem amZ : H [(61,1,[mO])] 13 343 ab0:=hh
theorem am0 : H [(343,1,[ab0])] 12 318 Xv:=hh
theorem am1 : H [(315,2,[Xu]),(318,2,[Xv])] 8 270 ab1:=hh
theorem am2 : H [(78,2,[Rx]),(270,0,[abY,ab1])] 10 79 ab2:=hh
theorem am3 : H [(61,1,[mO]),(78,2,[Rx]),(79,2,[ab2])] 8 14 ab3:=hh
theorem am4 : C 86 ahI:=cz 9
theorem am5 : H [(85,1,[NT]),(86,0,[ahI])] 11 50 ab4:=hh
theorem ad0 : C 100 Xw:=cz 10
theorem am6 : H [(97,0,[rW]),(100,0,[Xw])] 8 32 ab5:=hh
theorem am7 : H [(97,0,[rW]),(61,1,[mO]),(100,0,[Xw]),(32,1,[ab5])] 9 78 Oa:=hh
theorem am8 : H [(61,1,[mO])] 10 343 ab6:=hh
theorem am9 : H [(343,1,[ab6])] 12 315 ab7:=hh
theorem ana : H [(61,1,[mO])] 12 343 ab8:=hh
theorem anb : H [(343,1,[ab8])] 11 318 ab9:=hh
theorem anc : H [(315,2,[ab7]),(318,2,[ab9])] 8 270 aca:=hh
theorem aiF : C 361 acb:=cz 9
theorem ane : H [(61,1,[mO]),(361,0,[acb])] 12 343 Xx:=hh
theorem anf : H [(343,1,[Xx])] 10 315 acd:=hh
theorem ang : H [(343,1,[Xx])] 10 317 ace:=hh
theorem anh : H [(315,2,[acd]),(317,2,[ace])] 6 270 acf:=hh
theorem ani : H [(61,1,[mO]),(361,0,[acb])] 12 343 Xy:=hh
theorem anj : H [(343,1,[Xy])] 11 315 acg:=hh
theorem ank : H [(343,1,[Xy])] 11 317 ach:=hh
end Go.Eng

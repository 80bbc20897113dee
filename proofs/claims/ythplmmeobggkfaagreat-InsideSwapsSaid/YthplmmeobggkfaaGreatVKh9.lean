/- Closed runs; no conditions. -/
import Derived.Test.YthplmmeobggkfaaGreatVKD
set_option linter.all false
namespace Go.Eng
open Go.Proofs
theorem am0 : H [(61,1,[mR])] 13 343 ab2:=hh
theorem am1 : H [(343,1,[ab2])] 12 318 Xx:=hh
theorem am2 : H [(315,2,[Xw]),(318,2,[Xx])] 8 270 ab3:=hh
theorem am3 : H [(78,2,[RA]),(270,0,[ab0,ab3])] 10 79 ab4:=hh
theorem am4 : H [(61,1,[mR]),(78,2,[RA]),(79,2,[ab4])] 8 14 ab5:=hh
theorem am5 : C 86 ahK:=cz 9
theorem am6 : H [(85,1,[NW]),(86,0,[ahK])] 11 50 ab6:=hh
theorem ad2 : C 100 Xy:=cz 10
theorem am7 : H [(97,0,[sk]),(100,0,[Xy])] 8 32 ab7:=hh
theorem am8 : H [(97,0,[sk]),(61,1,[mR]),(100,0,[Xy]),(32,1,[ab7])] 9 78 Od:=hh
theorem am9 : H [(61,1,[mR])] 10 343 ab8:=hh
theorem ana : H [(343,1,[ab8])] 12 315 ab9:=hh
theorem anb : H [(61,1,[mR])] 12 343 aca:=hh
theorem anc : H [(343,1,[aca])] 11 318 acb:=hh
theorem ane : H [(315,2,[ab9]),(318,2,[acb])] 8 270 acd:=hh
theorem aiH : C 361 ace:=cz 9
theorem anf : H [(61,1,[mR]),(361,0,[ace])] 12 343 Xz:=hh
theorem ang : H [(343,1,[Xz])] 10 315 acf:=hh
theorem anh : H [(343,1,[Xz])] 10 317 acg:=hh
theorem ani : H [(315,2,[acf]),(317,2,[acg])] 6 270 ach:=hh
theorem anj : H [(61,1,[mR]),(361,0,[ace])] 12 343 XA:=hh
theorem ank : H [(343,1,[XA])] 11 315 aci:=hh
theorem anl : H [(343,1,[XA])] 11 317 acj:=hh
end Go.Eng

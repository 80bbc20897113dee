/- Closed runs; no conditions. -/
import Derived.Test.YthplmmeobggkfaaGreatVKD
set_option linter.all false
namespace Go.Eng
open Go.Proofs
theorem ao0 : H [(343,1,[X1])] 11 315 ado:=hh
theorem ao1 : H [(343,1,[X1])] 11 317 adp:=hh
theorem aiN : C 361 adq:=cz 9
theorem ao2 : H [(61,1,[mR]),(361,0,[RC,Hk,adn,adq])] 12 343 X2:=hh
theorem ao3 : H [(343,1,[X2])] 11 315 adr:=hh
theorem ao4 : H [(343,1,[X2])] 11 317 ads:=hh
theorem ao5 : C 100 ahX:=cz 10
theorem ao6 : H [(97,0,[sk]),(100,0,[TR])] 7 54 adt:=hh
theorem ao7 : H [(61,1,[mR])] 12 343 adu:=hh
theorem ao8 : H [(343,1,[adu])] 12 315 adv:=hh
theorem ao9 : H [(61,1,[mR]),(361,0,[Hk,adf])] 12 343 adw:=hh
theorem apa : H [(343,1,[adw])] 12 318 adx:=hh
theorem aiO : C 361 ady:=cz 9
theorem apb : H [(61,1,[mR]),(361,0,[Hk,X0,ady])] 12 343 adz:=hh
theorem apc : H [(343,1,[adz])] 12 315 adA:=hh
end Go.Eng

/- A part of the closed run of the chapter s examples; no conditions. -/
import Derived.Test.YthplmmeobggkfaaGreatVKD
set_option linter.all false
namespace Go.Eng
open Go.Proofs
theorem aoZ : H [(343,1,[XZ])] 11 315 adm:=hh
theorem ao0 : H [(343,1,[XZ])] 11 317 adn:=hh
theorem aiL : C 361 ado:=cz 9
theorem ao1 : H [(61,1,[mO]),(361,0,[Rz,He,adl,ado])] 12 343 X0:=hh
theorem ao2 : H [(343,1,[X0])] 11 315 adp:=hh
theorem ao3 : H [(343,1,[X0])] 11 317 adq:=hh
theorem ao4 : C 100 ahV:=cz 10
theorem ao5 : H [(97,0,[rW]),(100,0,[TM])] 7 54 adr:=hh
theorem ao6 : H [(61,1,[mO])] 12 343 ads:=hh
theorem ao7 : H [(343,1,[ads])] 12 315 adt:=hh
theorem ao8 : H [(61,1,[mO]),(361,0,[He,adb])] 12 343 adu:=hh
theorem ao9 : H [(343,1,[adu])] 12 318 adv:=hh
theorem aiM : C 361 adw:=cz 9
theorem apa : H [(61,1,[mO]),(361,0,[He,XY,adw])] 12 343 adx:=hh
theorem apb : H [(343,1,[adx])] 12 315 ady:=hh
end Go.Eng

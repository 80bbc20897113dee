/- A part of the closed run of the chapter s examples; no conditions. -/
import Derived.Test.YthplmmeobggkfaaGreatVKD
set_option linter.all false
namespace Go.Eng
open Go.Proofs
theorem apY : H [(85,1,[NT]),(86,0,[adR])] 14 50 adS:=hh
theorem apZ : H [(46,0,[N1]),(50,2,[adS])] 5 15 adT:=hh
theorem ap0 : C 40 aio:=cz 9
theorem ap1 : H [(40,1,[aio])] 8 23 adU:=hh
theorem ap2 : C 40 aip:=cz 9
theorem ap3 : H [(40,1,[aip])] 8 40 adV:=hh
theorem ap4 : H [(40,1,[adV])] 8 23 adW:=hh
theorem ap5 : C 86 aiq:=cz 8
theorem ap6 : H [(85,1,[NT]),(86,0,[aiq])] 11 50 adX:=hh
theorem ap7 : C 86 air:=cz 9
theorem ap8 : H [(85,1,[NT]),(86,0,[air])] 11 50 adY:=hh
theorem ap9 : C 23 ais:=cz 9
theorem aqa : H [(46,0,[N1]),(13,0,[alo]),(15,0,[alr,abL,abV,acP,acQ,acZ,adK,adN,adQ,adT]),(14,2,[abI,abS,ab3]),(16,2,[acB,acY]),(18,2,[acO]),(22,2,[ac2,adF,adG]),(20,0,[ac6]),(7,2,[adH]),(23,1,[ah2,adU,adW,ais]),(50,2,[adX,adY])] 12 6 ait:=hh
end Go.Eng

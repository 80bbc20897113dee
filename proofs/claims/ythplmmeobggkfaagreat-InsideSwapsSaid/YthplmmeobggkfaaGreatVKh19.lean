/- Closed runs; no conditions. -/
import Derived.Test.YthplmmeobggkfaaGreatVKD
set_option linter.all false
namespace Go.Eng
open Go.Proofs
theorem apZ : H [(85,1,[NW]),(86,0,[adT])] 14 50 adU:=hh
theorem ap0 : H [(46,0,[N3]),(50,2,[adU])] 5 15 adV:=hh
theorem ap1 : C 40 aiq:=cz 9
theorem ap2 : H [(40,1,[aiq])] 8 23 adW:=hh
theorem ap3 : C 40 air:=cz 9
theorem ap4 : H [(40,1,[air])] 8 40 adX:=hh
theorem ap5 : H [(40,1,[adX])] 8 23 adY:=hh
theorem ap6 : C 86 ais:=cz 8
theorem ap7 : H [(85,1,[NW]),(86,0,[ais])] 11 50 adZ:=hh
theorem ap8 : C 86 ait:=cz 9
theorem ap9 : H [(85,1,[NW]),(86,0,[ait])] 11 50 ad0:=hh
theorem aqa : C 23 aiu:=cz 9
theorem aqb : H [(46,0,[N3]),(13,0,[alp]),(15,0,[als,abN,abX,acR,acS,ac1,adM,adP,adS,adV]),(14,2,[abK,abU,ab5]),(16,2,[acD,ac0]),(18,2,[acQ]),(22,2,[ac4,adH,adI]),(20,0,[ac8]),(7,2,[adJ]),(23,1,[ah4,adW,adY,aiu]),(50,2,[adZ,ad0])] 12 6 aiv:=hh
end Go.Eng

/- Closed runs; no conditions. -/
import Derived.Test.YthplmmeobggkfaaGreatVKD
set_option linter.all false
namespace Go.Eng
open Go.Proofs
theorem apz : C 23 ah4:=cz 9
theorem apA : C 219 ah5:=cz 9
theorem apC : C 219 ah6:=cz 9
theorem apD : C 219 ah7:=cz 9
theorem apE : C 219 ah8:=cz 9
theorem apF : C 219 ah9:=cz 9
theorem apG : C 219 aia:=cz 9
theorem apH : C 219 aib:=cz 9
theorem apI : C 219 aic:=cz 9
theorem apJ : H [(219,0,[ah5,ah6,ah7,ah8,ah9,aia,aib,aic])] 12 86 adQ:=hh
theorem apK : H [(85,1,[NW]),(86,0,[adQ])] 14 50 adR:=hh
theorem apL : H [(46,0,[N3]),(50,2,[adR])] 5 15 adS:=hh
theorem apM : C 219 aid:=cz 9
theorem apN : C 219 aie:=cz 9
theorem apO : C 219 aif:=cz 9
theorem apP : C 219 aih:=cz 9
theorem apQ : C 219 aii:=cz 9
theorem apR : C 219 aij:=cz 9
theorem apS : C 219 aik:=cz 9
theorem apT : C 219 ail:=cz 9
theorem apU : C 219 aim:=cz 9
theorem apV : C 219 ain:=cz 9
theorem apW : C 219 aio:=cz 9
theorem apX : C 219 aip:=cz 9
theorem apY : H [(219,0,[aid,aie,aif,aih,aii,aij,aik,ail,aim,ain,aio,aip])] 12 86 adT:=hh
end Go.Eng

/- Closed runs; no conditions. -/
import Derived.Test.YthplmmeobggkfaaGreatVKD
set_option linter.all false
namespace Go.Eng
open Go.Proofs
theorem aml : H [(343,1,[Xo])] 11 315 abD:=hh
theorem amm : H [(343,1,[Xo])] 11 317 abE:=hh
theorem amn : H [(315,2,[abD]),(317,2,[abE])] 6 270 abF:=hh
theorem amo : H [(61,1,[mR]),(361,0,[aby,abz,abA,abB,abC])] 13 343 Xp:=hh
theorem amp : H [(343,1,[Xp])] 11 315 abG:=hh
theorem amq : H [(343,1,[Xp])] 11 317 abH:=hh
theorem amr : H [(315,2,[abG]),(317,2,[abH])] 6 270 abI:=hh
theorem ams : H [(78,2,[akv]),(270,0,[aba,abh,abm,abu,abx,abF,abI])] 11 79 abJ:=hh
theorem TS : C 100 Rv:=cz 10
theorem amt : H [(97,0,[sk]),(100,0,[Rv])] 8 80 Lv:=hh
theorem amu : H [(97,0,[sk])] 11 80 Rw:=hh
theorem amv : H [(97,0,[sk])] 11 80 Rx:=hh
theorem ad1 : C 100 Xq:=cz 10
theorem amw : H [(97,0,[sk]),(100,0,[Rv,Xq])] 10 126 Ry:=hh
theorem amx : C 207 ahF:=cz 9
theorem amy : H [(97,0,[sk]),(100,0,[Xq]),(207,0,[ahF])] 11 126 Xr:=hh
theorem amz : C 100 ahG:=cz 10
theorem amA : H [(97,0,[sk]),(100,0,[Xq,ahG])] 11 126 Rz:=hh
theorem amB : H [(61,1,[mR]),(78,2,[akv]),(79,2,[abJ]),(80,1,[Lv,Rw,Rx]),(126,1,[Ry,Xr,Rz])] 11 14 abK:=hh
theorem amC : C 219 ahH:=cz 9
theorem amD : H [(219,0,[ahH])] 10 86 abL:=hh
theorem amE : H [(85,1,[NW]),(86,0,[abL])] 12 50 abM:=hh
theorem amF : H [(46,0,[N3]),(50,2,[abM])] 5 15 abN:=hh
end Go.Eng

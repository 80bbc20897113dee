/- A part of the closed run of the chapter s examples; no conditions. -/
import Derived.Test.YthplmmeobggkfaaGreatVKD
set_option linter.all false
namespace Go.Eng
open Go.Proofs
theorem amk : H [(343,1,[Xm])] 11 315 abB:=hh
theorem aml : H [(343,1,[Xm])] 11 317 abC:=hh
theorem amm : H [(315,2,[abB]),(317,2,[abC])] 6 270 abD:=hh
theorem amn : H [(61,1,[mO]),(361,0,[abw,abx,aby,abz,abA])] 13 343 Xn:=hh
theorem amo : H [(343,1,[Xn])] 11 315 abE:=hh
theorem amp : H [(343,1,[Xn])] 11 317 abF:=hh
theorem amq : H [(315,2,[abE]),(317,2,[abF])] 6 270 abG:=hh
theorem amr : H [(78,2,[aku]),(270,0,[aa8,abf,abk,abr,abv,abD,abG])] 11 79 abH:=hh
theorem TN : C 100 Rs:=cz 10
theorem ams : H [(97,0,[rW]),(100,0,[Rs])] 8 80 Lq:=hh
theorem amt : H [(97,0,[rW])] 11 80 Rt:=hh
theorem amu : H [(97,0,[rW])] 11 80 Ru:=hh
theorem adZ : C 100 Xo:=cz 10
theorem amv : H [(97,0,[rW]),(100,0,[Rs,Xo])] 10 126 Rv:=hh
theorem amw : C 207 ahD:=cz 9
theorem amx : H [(97,0,[rW]),(100,0,[Xo]),(207,0,[ahD])] 11 126 Xp:=hh
theorem amy : C 100 ahE:=cz 10
theorem amz : H [(97,0,[rW]),(100,0,[Xo,ahE])] 11 126 Rw:=hh
theorem amA : H [(61,1,[mO]),(78,2,[aku]),(79,2,[abH]),(80,1,[Lq,Rt,Ru]),(126,1,[Rv,Xp,Rw])] 11 14 abI:=hh
theorem amB : C 219 ahF:=cz 9
theorem amC : H [(219,0,[ahF])] 10 86 abJ:=hh
theorem amD : H [(85,1,[NT]),(86,0,[abJ])] 12 50 abK:=hh
theorem amE : H [(46,0,[N1]),(50,2,[abK])] 5 15 abL:=hh
end Go.Eng

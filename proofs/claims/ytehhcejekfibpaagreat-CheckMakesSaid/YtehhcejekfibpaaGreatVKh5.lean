/- A part of the closed run of the chapter s examples; no conditions. -/
import Derived.Test.YtehhcejekfibpaaGreatVKD
set_option linter.unusedVariables false
set_option linter.unusedSimpArgs false
namespace Go.Eng
open Go.Proofs
theorem ahv : H [(92,1,[jD]),(339,0,[SR])] 13 297 SS:=hh
theorem ahw : H [(297,1,[SS])] 11 245 SU:=hh
theorem ahx : H [(243,2,[SQ]),(245,2,[SU])] 6 181 SV:=hh
theorem ahy : H [(93,2,[Ot]),(181,0,[SI,SN,SV])] 10 94 SY:=hh
theorem ahz : H [(92,1,[jD]),(93,2,[Ot]),(94,2,[SY])] 9 17 SZ:=hh
theorem ahA : H [] 9 234 S3:=hh
theorem ahB : H [] 9 234 S4:=hh
theorem ahC : H [(234,0,[S3,S4])] 10 101 S5:=hh
theorem ahD : H [(100,1,[H2]),(101,0,[S5])] 12 53 S6:=hh
theorem ahE : H [(44,0,[H3]),(53,2,[S6])] 5 18 S7:=hh
theorem ahF : H [] 10 170 Ov:=hh
theorem ahG : H [(30,0,[uD]),(92,1,[jD]),(170,0,[Ov])] 10 93 Le:=hh
theorem ahH : H [(92,1,[jD])] 11 297 S8:=hh
theorem ahI : H [(297,1,[S8])] 12 243 S9:=hh
theorem ahJ : H [(243,2,[S9])] 6 181 Ta:=hh
theorem ahK : H [(93,2,[Le]),(181,0,[Ta])] 9 94 Tb:=hh
theorem ahL : H [(92,1,[jD]),(93,2,[Le]),(94,2,[Tb])] 8 17 Tc:=hh
theorem ahM : H [] 9 234 Td:=hh
theorem ahN : H [] 9 234 Te:=hh
theorem ahO : H [] 9 234 Tf:=hh
theorem ahP : H [(234,0,[Td,Te,Tf])] 11 101 Tg:=hh
theorem ahQ : H [(100,1,[H2]),(101,0,[Tg])] 13 53 Th:=hh
theorem ahR : H [(44,0,[H3]),(53,2,[Th])] 5 18 Ti:=hh
theorem ahS : H [] 9 234 Tj:=hh
theorem ahT : H [] 9 234 Tk:=hh
theorem ahU : H [(234,0,[Tj,Tk])] 10 101 Tl:=hh
theorem ahV : H [(100,1,[H2]),(101,0,[Tl])] 12 53 Tm:=hh
theorem ahW : H [(44,0,[H3]),(53,2,[Tm])] 5 18 Tn:=hh
theorem ahX : H [] 8 101 To:=hh
theorem ahY : H [(100,1,[H2]),(101,0,[To])] 11 53 Tp:=hh
theorem ahZ : H [] 10 170 Lf:=hh
theorem ah0 : H [(30,0,[uD]),(170,0,[Lf])] 7 219 Tq:=hh
theorem ah1 : H [(30,0,[uD]),(92,1,[jD]),(170,0,[Lf]),(219,1,[Tq])] 11 93 Gz:=hh
theorem ah2 : H [] 10 170 Ed:=hh
theorem ah3 : H [] 10 170 Je:=hh
theorem ah4 : H [(30,0,[uD]),(170,0,[Ed,Je])] 11 104 Tr:=hh
theorem ah5 : H [] 10 170 Lg:=hh
theorem ah6 : H [(170,0,[Ed,Lg])] 7 168 Ts:=hh
theorem ah7 : H [] 11 170 Tt:=hh
theorem ah8 : H [(30,0,[uD]),(92,1,[jD]),(170,0,[Tt])] 11 93 Tu:=hh
theorem ah9 : H [(93,2,[Tu])] 6 180 Tv:=hh
theorem aia : H [(92,1,[jD])] 12 297 Tw:=hh
theorem aib : H [(297,1,[Tw])] 12 243 Tx:=hh
theorem aic : H [(92,1,[jD])] 12 297 Ty:=hh
theorem aid : H [(297,1,[Ty])] 10 245 Tz:=hh
theorem aie : H [(243,2,[Tx]),(245,2,[Tz])] 6 181 TA:=hh
theorem aif : H [(180,0,[Tv]),(181,0,[TA])] 9 94 TD:=hh
theorem aih : H [(30,0,[uD]),(92,1,[jD]),(170,0,[Lf,Ed,Lg]),(93,2,[Gz]),(104,0,[Tr]),(168,0,[Ts]),(94,2,[TD])] 12 19 TE:=hh
end Go.Eng

/- A part of the closed run of the chapter s examples; no conditions. -/
import Derived.Test.YtehhcejekfibpaaGreatVKD
set_option linter.unusedVariables false
set_option linter.unusedSimpArgs false
namespace Go.Eng
open Go.Proofs
theorem ai9 : H [(92,1,[jD])] 12 297 Ux:=hh
theorem aja : H [(297,1,[Ux])] 13 243 Uy:=hh
theorem ajb : H [(92,1,[jD])] 13 297 Uz:=hh
theorem ajc : H [(297,1,[Uz])] 10 245 UA:=hh
theorem ajd : H [(243,2,[Uy]),(245,2,[UA])] 6 181 UC:=hh
theorem aje : H [(180,0,[Uw]),(181,0,[UC])] 9 94 UD:=hh
theorem ajf : H [] 11 170 UE:=hh
theorem ajg : H [(30,0,[uD]),(92,1,[jD]),(170,0,[UE])] 11 93 UF:=hh
theorem ajh : H [(93,2,[UF])] 6 180 UG:=hh
theorem aji : H [(92,1,[jD])] 12 297 UH:=hh
theorem ajj : H [(297,1,[UH])] 12 243 UI:=hh
theorem ajk : H [(92,1,[jD])] 13 297 UJ:=hh
theorem ajl : H [(297,1,[UJ])] 10 245 UK:=hh
theorem ajm : H [(243,2,[UI]),(245,2,[UK])] 6 181 UL:=hh
theorem ajn : H [(180,0,[UG]),(181,0,[UL])] 9 94 UM:=hh
theorem ajo : H [] 11 170 UN:=hh
theorem ajp : H [(30,0,[uD]),(92,1,[jD]),(170,0,[UN])] 11 93 UO:=hh
theorem ajq : H [(93,2,[UO])] 6 180 UP:=hh
theorem ajr : H [(92,1,[jD])] 12 297 UQ:=hh
theorem ajs : H [(297,1,[UQ])] 12 243 UR:=hh
theorem ajt : H [(92,1,[jD])] 13 297 US:=hh
theorem aju : H [(297,1,[US])] 10 245 UT:=hh
theorem ajv : H [(243,2,[UR]),(245,2,[UT])] 6 181 UU:=hh
theorem ajw : H [(180,0,[UP]),(181,0,[UU])] 9 94 UW:=hh
end Go.Eng

/- A part of the closed run of the chapter s examples; no conditions. -/
import Derived.Test.YtnangdjonghnaaaGreatVKD
set_option linter.unusedVariables false
set_option linter.unusedSimpArgs false
namespace Go.Eng
open Go.Proofs
theorem ajb : H [(90,1,[j4])] 13 299 UG:=hh
theorem ajc : H [(299,1,[UG])] 10 247 UH:=hh
theorem ajd : H [(245,2,[UF]),(247,2,[UH])] 6 182 UI:=hh
theorem aje : H [(181,0,[UD]),(182,0,[UI])] 9 92 UJ:=hh
theorem ajf : H [] 11 171 UK:=hh
theorem ajg : H [(23,0,[vB]),(90,1,[j4]),(171,0,[UK])] 11 91 UL:=hh
theorem ajh : H [(91,2,[UL])] 6 181 UM:=hh
theorem aji : H [(90,1,[j4])] 12 299 UN:=hh
theorem ajj : H [(299,1,[UN])] 12 245 UO:=hh
theorem ajk : H [(90,1,[j4])] 13 299 UP:=hh
theorem ajl : H [(299,1,[UP])] 10 247 UQ:=hh
theorem ajm : H [(245,2,[UO]),(247,2,[UQ])] 6 182 UR:=hh
theorem ajn : H [(181,0,[UM]),(182,0,[UR])] 9 92 US:=hh
theorem ajo : H [] 11 171 UT:=hh
theorem ajp : H [(23,0,[vB]),(90,1,[j4]),(171,0,[UT])] 11 91 UU:=hh
theorem ajq : H [(91,2,[UU])] 6 181 UW:=hh
theorem ajr : H [(90,1,[j4])] 12 299 UX:=hh
theorem ajs : H [(299,1,[UX])] 12 245 UY:=hh
theorem ajt : H [(90,1,[j4])] 13 299 UZ:=hh
theorem aju : H [(299,1,[UZ])] 10 247 U0:=hh
theorem ajv : H [(245,2,[UY]),(247,2,[U0])] 6 182 U1:=hh
theorem ajw : H [(181,0,[UW]),(182,0,[U1])] 9 92 U2:=hh
theorem ajx : H [(23,0,[vB]),(90,1,[j4]),(171,0,[JG,Lz,OO,OP]),(91,2,[Uy]),(169,0,[Uz]),(92,2,[UJ,US,U2])] 14 16 U3:=hh
theorem ajy : H [(40,0,[Iu]),(49,2,[Tv])] 5 11 U4:=hh
theorem ajz : H [] 10 171 U5:=hh
theorem ajA : H [(23,0,[vB]),(90,1,[j4]),(171,0,[U5])] 10 91 U6:=hh
theorem ajB : H [(91,2,[U6])] 6 181 U7:=hh
end Go.Eng

/- A part of the closed run of the chapter s examples; no conditions. -/
import Derived.Test.YtnangdjonghnaaaGreatVKD
set_option linter.unusedVariables false
set_option linter.unusedSimpArgs false
namespace Go.Eng
open Go.Proofs
theorem ahv : H [(90,1,[j4]),(341,0,[S3])] 13 299 S4:=hh
theorem ahw : H [(299,1,[S4])] 11 247 S5:=hh
theorem ahx : H [(245,2,[SZ]),(247,2,[S5])] 6 182 S6:=hh
theorem ahy : H [(91,2,[OL]),(182,0,[SO,SU,S6])] 10 92 S7:=hh
theorem ahz : H [(90,1,[j4]),(91,2,[OL]),(92,2,[S7])] 9 10 S8:=hh
theorem ahA : H [] 9 235 S9:=hh
theorem ahB : H [] 9 235 Ta:=hh
theorem ahC : H [(235,0,[S9,Ta])] 10 99 Tb:=hh
theorem ahD : H [(98,1,[It]),(99,0,[Tb])] 12 49 Tc:=hh
theorem ahE : H [(40,0,[Iu]),(49,2,[Tc])] 5 11 Td:=hh
theorem ahF : H [] 10 171 ON:=hh
theorem ahG : H [(23,0,[vB]),(90,1,[j4]),(171,0,[ON])] 10 91 Lx:=hh
theorem ahH : H [(90,1,[j4])] 11 299 Te:=hh
theorem ahI : H [(299,1,[Te])] 12 245 Tf:=hh
theorem ahJ : H [(245,2,[Tf])] 6 182 Tg:=hh
theorem ahK : H [(91,2,[Lx]),(182,0,[Tg])] 9 92 Th:=hh
theorem ahL : H [(90,1,[j4]),(91,2,[Lx]),(92,2,[Th])] 8 10 Ti:=hh
theorem ahM : H [] 9 235 Tj:=hh
theorem ahN : H [] 9 235 Tk:=hh
theorem ahO : H [] 9 235 Tl:=hh
theorem ahP : H [(235,0,[Tj,Tk,Tl])] 11 99 Tm:=hh
theorem ahQ : H [(98,1,[It]),(99,0,[Tm])] 13 49 Tn:=hh
theorem ahR : H [(40,0,[Iu]),(49,2,[Tn])] 5 11 To:=hh
theorem ahS : H [] 9 235 Tp:=hh
theorem ahT : H [] 9 235 Tq:=hh
theorem ahU : H [(235,0,[Tp,Tq])] 10 99 Tr:=hh
theorem ahV : H [(98,1,[It]),(99,0,[Tr])] 12 49 Ts:=hh
theorem ahW : H [(40,0,[Iu]),(49,2,[Ts])] 5 11 Tt:=hh
theorem ahX : H [] 8 99 Tu:=hh
theorem ahY : H [(98,1,[It]),(99,0,[Tu])] 11 49 Tv:=hh
theorem ahZ : H [] 10 171 Ly:=hh
theorem ah0 : H [(23,0,[vB]),(171,0,[Ly])] 7 220 Tw:=hh
theorem ah1 : H [(23,0,[vB]),(90,1,[j4]),(171,0,[Ly]),(220,1,[Tw])] 11 91 Ha:=hh
theorem ah2 : H [] 10 171 Ff:=hh
theorem ah3 : H [] 10 171 JG:=hh
theorem ah4 : H [(23,0,[vB]),(171,0,[Ff,JG])] 11 103 Tx:=hh
theorem ah5 : H [] 10 171 Lz:=hh
theorem ah6 : H [(171,0,[Ff,Lz])] 7 169 Ty:=hh
theorem ah7 : H [] 11 171 Tz:=hh
theorem ah8 : H [(23,0,[vB]),(90,1,[j4]),(171,0,[Tz])] 11 91 TA:=hh
theorem ah9 : H [(91,2,[TA])] 6 181 TD:=hh
theorem aia : H [(90,1,[j4])] 12 299 TE:=hh
end Go.Eng

/- A part of the closed run of the chapter s examples; no conditions. -/
import Derived.Test.YtnangdjonghnaaaGreatVKD
set_option linter.unusedVariables false
set_option linter.unusedSimpArgs false
namespace Go.Eng
open Go.Proofs
theorem ag2 : H [(299,1,[Sy])] 11 247 Sz:=hh
theorem ag3 : H [(245,2,[Sx]),(247,2,[Sz])] 6 182 OJ:=hh
theorem ag4 : H [(91,2,[P7]),(182,0,[Lw,OI,OJ])] 10 92 OK:=hh
theorem ag5 : H [(90,1,[j4]),(91,2,[P7]),(92,2,[OK])] 9 10 SA:=hh
theorem ag6 : H [] 9 235 SB:=hh
theorem ag7 : H [] 9 235 SC:=hh
theorem ag8 : H [] 9 235 SD:=hh
theorem ag9 : H [] 9 235 SE:=hh
theorem aha : H [] 9 235 SF:=hh
theorem ahb : H [] 9 235 SG:=hh
theorem ahc : H [] 9 235 SH:=hh
theorem ahd : H [(235,0,[SB,SC,SD,SE,SF,SG,SH])] 12 99 SI:=hh
theorem ahe : H [(98,1,[It]),(99,0,[SI])] 14 49 SJ:=hh
theorem ahf : H [(40,0,[Iu]),(49,2,[SJ])] 5 11 SK:=hh
theorem ahg : H [] 11 171 SL:=hh
theorem ahh : H [(23,0,[vB]),(90,1,[j4]),(171,0,[SL])] 11 91 OL:=hh
theorem ahi : H [(90,1,[j4])] 12 299 OM:=hh
theorem ahj : H [(299,1,[OM])] 11 245 SM:=hh
theorem ahk : H [(299,1,[OM])] 12 248 SN:=hh
theorem ahl : H [(245,2,[SM]),(248,2,[SN])] 8 182 SO:=hh
theorem ahm : H [(90,1,[j4])] 12 299 SP:=hh
theorem ahn : H [(299,1,[SP])] 12 245 SQ:=hh
theorem aho : H [(90,1,[j4])] 13 299 SR:=hh
theorem ahp : H [(299,1,[SR])] 11 247 SS:=hh
theorem ahq : H [(245,2,[SQ]),(247,2,[SS])] 6 182 SU:=hh
theorem ahr : H [] 9 341 SV:=hh
theorem ahs : H [(90,1,[j4]),(341,0,[SV])] 12 299 SY:=hh
theorem aht : H [(299,1,[SY])] 13 245 SZ:=hh
theorem ahu : H [] 9 341 S3:=hh
end Go.Eng

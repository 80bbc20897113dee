/- A part of the closed run of the chapter s examples; no conditions. -/
import Derived.Test.YtnangdjonghnaaaGreatVKD
set_option linter.unusedVariables false
set_option linter.unusedSimpArgs false
namespace Go.Eng
open Go.Proofs
theorem alz : H [(91,2,[Ha]),(182,0,[LA,OR,OT,OU,Vx,VC,VG,VL,VS,VX,V3,V8,Wf,Wl,Wr,Ww,WE,WK,WT,WY])] 13 92 WZ:=hh
theorem alA : H [(91,2,[Ha]),(182,0,[LA,OR])] 8 115 W0:=hh
theorem alB : H [(91,2,[Ha]),(182,0,[LA,OT,OU])] 8 115 W1:=hh
theorem alC : H [(90,1,[j4]),(91,2,[Ha]),(92,2,[WZ]),(115,2,[W0,W1])] 10 18 W2:=hh
theorem alD : H [] 9 235 W3:=hh
theorem alE : H [] 9 235 W4:=hh
theorem alF : H [(235,0,[W3,W4])] 10 99 W5:=hh
theorem alG : H [(98,1,[It]),(99,0,[W5])] 12 49 W6:=hh
theorem alH : H [(40,0,[Iu]),(49,2,[W6])] 5 11 W7:=hh
theorem alI : H [] 9 235 W8:=hh
theorem alJ : H [] 9 235 W9:=hh
theorem alK : H [] 9 235 Xa:=hh
theorem alL : H [] 9 235 Xb:=hh
theorem alM : H [(235,0,[W8,W9,Xa,Xb])] 11 99 Xc:=hh
theorem alN : H [(98,1,[It]),(99,0,[Xc])] 13 49 Xd:=hh
theorem alO : H [(40,0,[Iu]),(49,2,[Xd])] 5 11 Xe:=hh
theorem alP : H [] 8 99 Xf:=hh
theorem alQ : H [(98,1,[It]),(99,0,[Xf])] 11 49 Xg:=hh
theorem alR : H [(40,0,[Iu]),(9,0,[aeP]),(11,0,[aeV,SK,Td,To,Tt,Uo,Ux,U4,W7,Xe]),(90,1,[j4]),(91,2,[P7]),(92,2,[OK]),(10,2,[SA,S8,Ti]),(12,2,[TK]),(6,2,[TM,TU]),(15,2,[Ug]),(16,2,[U3,Ve]),(115,2,[Vf,Vg]),(18,2,[W2]),(49,2,[Xg])] 12 5 aaU:=hh
end Go.Eng

/- A part of the closed run of the chapter s examples; no conditions. -/
import Derived.Test.YtehhcejekfibpaaGreatVKD
set_option linter.unusedVariables false
set_option linter.unusedSimpArgs false
namespace Go.Eng
open Go.Proofs
theorem alu : H [(92,1,[jD])] 14 297 WN:=hh
theorem alv : H [(297,1,[WN])] 13 243 WO:=hh
theorem alw : H [(92,1,[jD])] 15 297 WR:=hh
theorem alx : H [(297,1,[WR])] 13 245 WS:=hh
theorem aly : H [(243,2,[WO]),(245,2,[WS])] 6 181 WT:=hh
theorem alz : H [(93,2,[Gz]),(181,0,[Lh,Oz,OB,OC,Vr,Vw,VA,VF,VL,VS,VX,V3,Wa,Wf,Wm,Wr,Wz,WE,WM,WT])] 13 94 WU:=hh
theorem alA : H [(93,2,[Gz]),(181,0,[Lh,Oz])] 8 116 WV:=hh
theorem alB : H [(93,2,[Gz]),(181,0,[Lh,OB,OC])] 8 116 WW:=hh
theorem alC : H [(92,1,[jD]),(93,2,[Gz]),(94,2,[WU]),(116,2,[WV,WW])] 10 25 WX:=hh
theorem alD : H [] 9 234 WY:=hh
theorem alE : H [] 9 234 WZ:=hh
end Go.Eng

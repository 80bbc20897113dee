/- A part of the closed run of the chapter s examples; no conditions. -/
import Derived.Test.YtehhcejekfibpaaGreatVKD
set_option linter.unusedVariables false
set_option linter.unusedSimpArgs false
namespace Go.Eng
open Go.Proofs
theorem alF : H [(234,0,[WY,WZ])] 10 101 W0:=hh
theorem alG : H [(100,1,[H2]),(101,0,[W0])] 12 53 W1:=hh
theorem alH : H [(44,0,[H3]),(53,2,[W1])] 5 18 W2:=hh
theorem alI : H [] 9 234 W3:=hh
theorem alJ : H [] 9 234 W4:=hh
theorem alK : H [] 9 234 W5:=hh
theorem alL : H [] 9 234 W6:=hh
theorem alM : H [(234,0,[W3,W4,W5,W6])] 11 101 W7:=hh
theorem alN : H [(100,1,[H2]),(101,0,[W7])] 13 53 W8:=hh
theorem alO : H [(44,0,[H3]),(53,2,[W8])] 5 18 W9:=hh
theorem alP : H [] 8 101 Xa:=hh
theorem alQ : H [(100,1,[H2]),(101,0,[Xa])] 11 53 Xb:=hh
theorem alR : H [(44,0,[H3]),(16,0,[aeQ]),(18,0,[aeW,SE,S7,Ti,Tn,Ui,Ur,UY,W2,W9]),(92,1,[jD]),(93,2,[PS]),(94,2,[Oq]),(17,2,[Su,SZ,Tc]),(19,2,[TE]),(7,2,[TF,TN]),(22,2,[Ua]),(23,2,[UX,U8]),(116,2,[U9,Va]),(25,2,[WX]),(53,2,[Xb])] 12 6 aaZ:=hh
end Go.Eng

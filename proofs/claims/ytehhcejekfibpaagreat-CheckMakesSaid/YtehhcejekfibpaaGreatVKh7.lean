/- A part of the closed run of the chapter s examples; no conditions. -/
import Derived.Test.YtehhcejekfibpaaGreatVKD
set_option linter.unusedVariables false
set_option linter.unusedSimpArgs false
namespace Go.Eng
open Go.Proofs
theorem aip : H [(30,0,[uD]),(170,0,[Ed,TG]),(83,0,[TH,TI,TJ,TK,TM])] 16 7 TN:=hh
theorem aiq : H [] 10 170 TO:=hh
theorem air : H [] 10 170 TP:=hh
theorem ais : H [] 10 170 TQ:=hh
theorem ait : H [(30,0,[uD]),(92,1,[jD]),(170,0,[TQ])] 10 93 TR:=hh
theorem aiu : H [(92,1,[jD])] 11 297 TS:=hh
theorem aiv : H [(297,1,[TS])] 12 243 TU:=hh
theorem aiw : H [(92,1,[jD])] 12 297 TV:=hh
theorem aix : H [(297,1,[TV])] 10 245 TW:=hh
theorem aiy : H [(243,2,[TU]),(245,2,[TW])] 6 181 TX:=hh
theorem aiz : H [(93,2,[TR]),(181,0,[TX])] 9 94 TY:=hh
theorem aiA : H [] 10 170 TZ:=hh
theorem aiB : H [(30,0,[uD]),(92,1,[jD]),(170,0,[TZ])] 10 93 T1:=hh
theorem aiC : H [(92,1,[jD])] 11 297 T2:=hh
theorem aiD : H [(297,1,[T2])] 12 243 T3:=hh
theorem aiE : H [] 9 339 T4:=hh
theorem aiF : H [] 9 339 T5:=hh
theorem aiG : H [(92,1,[jD]),(339,0,[T4,T5])] 12 297 T6:=hh
theorem aiH : H [(297,1,[T6])] 10 245 T7:=hh
theorem aiI : H [(243,2,[T3]),(245,2,[T7])] 6 181 T8:=hh
theorem aiJ : H [(93,2,[T1]),(181,0,[T8])] 9 94 T9:=hh
theorem aiK : H [(30,0,[uD]),(92,1,[jD]),(170,0,[Ov,Je,TO,TP]),(93,2,[Le]),(94,2,[TY,T9])] 13 22 Ua:=hh
theorem aiL : H [] 9 234 Ub:=hh
theorem aiM : H [] 9 234 Uc:=hh
theorem aiN : H [] 9 234 Ud:=hh
theorem aiO : H [] 9 234 Ue:=hh
theorem aiP : H [] 9 234 Uf:=hh
theorem aiQ : H [(234,0,[Ub,Uc,Ud,Ue,Uf])] 11 101 Ug:=hh
end Go.Eng

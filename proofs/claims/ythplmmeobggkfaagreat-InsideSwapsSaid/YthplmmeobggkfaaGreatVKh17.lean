/- A part of the closed run of the chapter s examples; no conditions. -/
import Derived.Test.YthplmmeobggkfaaGreatVKD
set_option linter.all false
namespace Go.Eng
open Go.Proofs
theorem api : H [(97,0,[rW]),(61,1,[mO]),(80,1,[Lq,Rt,Ru]),(126,1,[Rv,Xp,Rw]),(100,0,[TD,TH,TM,ahV]),(32,1,[Xr,XV]),(78,2,[Rx,Ob,ac7]),(315,2,[Xs,Xu,ada,adh,adj,adm,adp,adt,ady,adC]),(318,2,[Xt,Xv,adf,adv]),(79,2,[TJ]),(54,1,[ac8,adr]),(317,2,[adi,adk,adn,adq,adA,adE])] 14 22 adF:=hh
theorem apj : H [(97,0,[rW]),(61,1,[mO]),(78,2,[Oa,Ob]),(100,0,[TH]),(79,2,[TJ])] 11 22 adG:=hh
theorem apk : H [(97,0,[rW]),(61,1,[mO]),(78,2,[Oa,XU]),(100,0,[TK]),(32,1,[XT])] 10 7 adH:=hh
theorem apl : C 219 ahW:=cz 9
theorem apm : C 219 ahX:=cz 9
theorem apn : H [(219,0,[ahW,ahX])] 10 86 adI:=hh
theorem apo : H [(85,1,[NT]),(86,0,[adI])] 12 50 adJ:=hh
theorem apq : H [(46,0,[N1]),(50,2,[adJ])] 5 15 adK:=hh
theorem apr : C 219 ahY:=cz 9
theorem aps : C 219 ahZ:=cz 9
theorem apt : C 219 ah0:=cz 9
theorem apu : C 219 ah1:=cz 9
theorem apv : H [(219,0,[ahY,ahZ,ah0,ah1])] 11 86 adL:=hh
theorem apw : H [(85,1,[NT]),(86,0,[adL])] 13 50 adM:=hh
theorem apx : H [(46,0,[N1]),(50,2,[adM])] 5 15 adN:=hh
end Go.Eng

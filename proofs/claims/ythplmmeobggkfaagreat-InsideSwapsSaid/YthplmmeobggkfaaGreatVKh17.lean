/- Closed runs; no conditions. -/
import Derived.Test.YthplmmeobggkfaaGreatVKD
set_option linter.all false
namespace Go.Eng
open Go.Proofs
theorem apj : H [(97,0,[sk]),(61,1,[mR]),(80,1,[Lv,Rw,Rx]),(126,1,[Ry,Xr,Rz]),(100,0,[TH,TM,TR,ahX]),(32,1,[Xt,XX]),(78,2,[RA,Oe,ac9]),(315,2,[Xu,Xw,ade,adj,adl,ado,adr,adv,adA,adE]),(318,2,[Xv,Xx,adh,adx]),(79,2,[TO]),(54,1,[ada,adt]),(317,2,[adk,adm,adp,ads,adC,adG])] 14 22 adH:=hh
theorem apk : H [(97,0,[sk]),(61,1,[mR]),(78,2,[Od,Oe]),(100,0,[TM]),(79,2,[TO])] 11 22 adI:=hh
theorem apl : H [(97,0,[sk]),(61,1,[mR]),(78,2,[Od,XW]),(100,0,[TQ]),(32,1,[XV])] 10 7 adJ:=hh
theorem apm : C 219 ahY:=cz 9
theorem apn : C 219 ahZ:=cz 9
theorem apo : H [(219,0,[ahY,ahZ])] 10 86 adK:=hh
theorem apq : H [(85,1,[NW]),(86,0,[adK])] 12 50 adL:=hh
theorem apr : H [(46,0,[N3]),(50,2,[adL])] 5 15 adM:=hh
theorem aps : C 219 ah0:=cz 9
theorem apt : C 219 ah1:=cz 9
theorem apu : C 219 ah2:=cz 9
theorem apv : C 219 ah3:=cz 9
theorem apw : H [(219,0,[ah0,ah1,ah2,ah3])] 11 86 adN:=hh
theorem apx : H [(85,1,[NW]),(86,0,[adN])] 13 50 adO:=hh
theorem apy : H [(46,0,[N3]),(50,2,[adO])] 5 15 adP:=hh
end Go.Eng

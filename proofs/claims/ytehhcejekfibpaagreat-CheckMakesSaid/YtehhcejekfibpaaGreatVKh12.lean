/- A part of the closed run of the chapter s examples; no conditions. -/
import Derived.Test.YtehhcejekfibpaaGreatVKD
set_option linter.unusedVariables false
set_option linter.unusedSimpArgs false
namespace Go.Eng
open Go.Proofs
theorem akb : H [(297,1,[Vu])] 12 245 Vv:=hh
theorem akc : H [(243,2,[Vt]),(245,2,[Vv])] 6 181 Vw:=hh
theorem akd : H [] 10 339 Vx:=hh
theorem ake : H [(92,1,[jD]),(339,0,[Vx])] 13 297 OD:=hh
theorem akf : H [(297,1,[OD])] 12 243 Vy:=hh
theorem akg : H [(297,1,[OD])] 12 246 Vz:=hh
theorem akh : H [(243,2,[Vy]),(246,2,[Vz])] 8 181 VA:=hh
theorem aki : H [(92,1,[jD])] 13 297 VB:=hh
theorem akj : H [(297,1,[VB])] 12 243 VC:=hh
theorem akk : H [(92,1,[jD])] 13 297 VD:=hh
theorem akl : H [(297,1,[VD])] 12 245 VE:=hh
theorem akm : H [(243,2,[VC]),(245,2,[VE])] 6 181 VF:=hh
theorem akn : H [] 10 339 VG:=hh
theorem ako : H [(92,1,[jD]),(339,0,[VG])] 13 297 VH:=hh
theorem akp : H [(297,1,[VH])] 12 243 VI:=hh
theorem akq : H [(92,1,[jD])] 13 297 VJ:=hh
end Go.Eng

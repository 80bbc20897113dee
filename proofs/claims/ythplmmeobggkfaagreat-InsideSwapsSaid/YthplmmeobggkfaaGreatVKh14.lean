/- Closed runs; no conditions. -/
import Derived.Test.YthplmmeobggkfaaGreatVKD
set_option linter.all false
namespace Go.Eng
open Go.Proofs
theorem aoQ : H [(343,1,[adb])] 12 315 ade:=hh
theorem TT : C 361 RC:=cz 9
theorem Ju : C 361 Hk:=cz 9
theorem aiK : C 361 adf:=cz 9
theorem aoR : H [(61,1,[mR]),(361,0,[RC,Hk,adf])] 12 343 adg:=hh
theorem aoS : H [(343,1,[adg])] 12 318 adh:=hh
theorem aiL : C 361 adi:=cz 9
theorem aoT : H [(61,1,[mR]),(361,0,[RC,Hk,adi])] 12 343 XY:=hh
theorem aoU : H [(343,1,[XY])] 11 315 adj:=hh
theorem aoV : H [(343,1,[XY])] 10 317 adk:=hh
theorem aoW : H [(61,1,[mR]),(361,0,[RC,Hk,adi])] 12 343 XZ:=hh
theorem aoX : H [(343,1,[XZ])] 11 315 adl:=hh
theorem aoY : H [(343,1,[XZ])] 11 317 adm:=hh
theorem aiM : C 361 adn:=cz 9
theorem ad3 : C 361 X0:=cz 9
theorem aoZ : H [(61,1,[mR]),(361,0,[RC,Hk,adn,X0])] 12 343 X1:=hh
end Go.Eng

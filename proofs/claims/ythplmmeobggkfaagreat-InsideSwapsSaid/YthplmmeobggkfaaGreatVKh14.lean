/- A part of the closed run of the chapter s examples; no conditions. -/
import Derived.Test.YthplmmeobggkfaaGreatVKD
set_option linter.all false
namespace Go.Eng
open Go.Proofs
theorem aoP : H [(343,1,[ac9])] 12 315 ada:=hh
theorem TO : C 361 Rz:=cz 9
theorem Jm : C 361 He:=cz 9
theorem aiI : C 361 adb:=cz 9
theorem aoQ : H [(61,1,[mO]),(361,0,[Rz,He,adb])] 12 343 ade:=hh
theorem aoR : H [(343,1,[ade])] 12 318 adf:=hh
theorem aiJ : C 361 adg:=cz 9
theorem aoS : H [(61,1,[mO]),(361,0,[Rz,He,adg])] 12 343 XW:=hh
theorem aoT : H [(343,1,[XW])] 11 315 adh:=hh
theorem aoU : H [(343,1,[XW])] 10 317 adi:=hh
theorem aoV : H [(61,1,[mO]),(361,0,[Rz,He,adg])] 12 343 XX:=hh
theorem aoW : H [(343,1,[XX])] 11 315 adj:=hh
theorem aoX : H [(343,1,[XX])] 11 317 adk:=hh
theorem aiK : C 361 adl:=cz 9
theorem ad1 : C 361 XY:=cz 9
theorem aoY : H [(61,1,[mO]),(361,0,[Rz,He,adl,XY])] 12 343 XZ:=hh
end Go.Eng

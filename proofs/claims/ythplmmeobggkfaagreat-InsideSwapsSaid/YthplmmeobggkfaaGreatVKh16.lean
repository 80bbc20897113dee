/- A part of the closed run of the chapter s examples; no conditions. -/
import Derived.Test.YthplmmeobggkfaaGreatVKD
set_option linter.all false
namespace Go.Eng
open Go.Proofs
theorem apc : H [(61,1,[mO]),(361,0,[He,XY])] 13 343 adz:=hh
theorem apd : H [(343,1,[adz])] 10 317 adA:=hh
theorem ape : H [(61,1,[mO]),(361,0,[He,ado,adw])] 12 343 adB:=hh
theorem apf : H [(343,1,[adB])] 13 315 adC:=hh
theorem apg : H [(61,1,[mO])] 13 343 adD:=hh
theorem aph : H [(343,1,[adD])] 11 317 adE:=hh
end Go.Eng

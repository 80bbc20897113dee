/- A part of the closed run of the chapter s examples; no conditions. -/
import Derived.Test.YtehhcejekfibpaaGreatVKD
set_option linter.unusedVariables false
set_option linter.unusedSimpArgs false
namespace Go.Eng
open Go.Proofs
theorem ahi : H [(92,1,[jD])] 12 297 Ou:=hh
theorem ahj : H [(297,1,[Ou])] 11 243 SG:=hh
theorem ahk : H [(297,1,[Ou])] 12 246 SH:=hh
theorem ahl : H [(243,2,[SG]),(246,2,[SH])] 8 181 SI:=hh
theorem ahm : H [(92,1,[jD])] 12 297 SJ:=hh
theorem ahn : H [(297,1,[SJ])] 12 243 SK:=hh
theorem aho : H [(92,1,[jD])] 13 297 SL:=hh
theorem ahp : H [(297,1,[SL])] 11 245 SM:=hh
theorem ahq : H [(243,2,[SK]),(245,2,[SM])] 6 181 SN:=hh
theorem ahr : H [] 9 339 SO:=hh
theorem ahs : H [(92,1,[jD]),(339,0,[SO])] 12 297 SP:=hh
theorem aht : H [(297,1,[SP])] 13 243 SQ:=hh
theorem ahu : H [] 9 339 SR:=hh
end Go.Eng

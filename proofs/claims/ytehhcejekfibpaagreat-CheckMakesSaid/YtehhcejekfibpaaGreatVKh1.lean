/- A part of the closed run of the chapter s examples; no conditions. -/
import Derived.Test.YtehhcejekfibpaaGreatVKD
set_option linter.unusedVariables false
set_option linter.unusedSimpArgs false
namespace Go.Eng
open Go.Proofs
theorem asc : H [] 12 154 aeI:=hh
theorem asd : H [(14,0,[aeH]),(154,0,[aeI])] 14 100 H2:=hh
theorem ase : H [(100,1,[H2])] 11 211 aeJ:=hh
theorem asf : H [(146,0,[ach])] 5 90 aeK:=hh
theorem asg : H [(90,2,[aeK])] 4 44 H3:=hh
theorem ash : H [] 14 86 aeL:=hh
theorem asi : H [] 13 89 aeM:=hh
theorem asj : H [] 12 86 aeN:=hh
theorem asl : H [] 12 86 aeO:=hh
theorem asm : H [(86,0,[aeL,aeN,aeO]),(89,1,[aeM])] 14 43 aeP:=hh
theorem asn : H [(44,0,[H3]),(43,2,[aeP])] 5 16 aeQ:=hh
theorem aso : H [] 9 234 aeR:=hh
theorem asp : H [] 9 234 aeS:=hh
theorem asq : H [] 9 234 aeT:=hh
theorem asr : H [(234,0,[aeR,aeS,aeT])] 11 101 aeU:=hh
end Go.Eng

/- A part of the closed run of the chapter s examples; no conditions. -/
import Derived.Test.YtnangdjonghnaaaGreatVKD
set_option linter.unusedVariables false
set_option linter.unusedSimpArgs false
namespace Go.Eng
open Go.Proofs
theorem ase : H [] 12 32 aeG:=hh
theorem asf : H [] 12 153 aeH:=hh
theorem asg : H [(32,0,[aeG]),(153,0,[aeH])] 14 98 It:=hh
theorem ash : H [(98,1,[It])] 11 212 aeI:=hh
theorem asi : H [(145,0,[acb])] 5 88 aeJ:=hh
theorem asj : H [(88,2,[aeJ])] 4 40 Iu:=hh
theorem asl : H [] 14 84 aeK:=hh
theorem asm : H [] 13 87 aeL:=hh
theorem asn : H [] 12 84 aeM:=hh
theorem aso : H [] 12 84 aeN:=hh
end Go.Eng

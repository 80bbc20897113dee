/- A part of the closed run of the chapter s examples; no conditions. -/
import Derived.Test.YtnangdjonghnaaaGreatVKD
set_option linter.unusedVariables false
set_option linter.unusedSimpArgs false
namespace Go.Eng
open Go.Proofs
theorem akG : H [(90,1,[j4])] 14 299 V6:=hh
theorem akH : H [(299,1,[V6])] 12 247 V7:=hh
theorem akI : H [(245,2,[V5]),(247,2,[V7])] 6 182 V8:=hh
theorem akJ : H [] 10 341 V9:=hh
theorem akK : H [] 10 341 Wa:=hh
theorem akL : H [(90,1,[j4]),(341,0,[V9,Wa])] 14 299 Wb:=hh
theorem akM : H [(299,1,[Wb])] 13 245 Wc:=hh
theorem akN : H [(90,1,[j4])] 14 299 Wd:=hh
theorem akO : H [(299,1,[Wd])] 13 248 We:=hh
theorem akP : H [(245,2,[Wc]),(248,2,[We])] 8 182 Wf:=hh
end Go.Eng

/- A part of the closed run of the chapter s examples; no conditions. -/
import Derived.Test.YtnangdjonghnaaaGreatVKD
set_option linter.unusedVariables false
set_option linter.unusedSimpArgs false
namespace Go.Eng
open Go.Proofs
theorem akq : H [(90,1,[j4])] 13 299 VP:=hh
theorem akr : H [(299,1,[VP])] 12 248 VQ:=hh
theorem aks : H [(245,2,[VO]),(248,2,[VQ])] 8 182 VS:=hh
theorem akt : H [(90,1,[j4])] 14 299 VT:=hh
theorem aku : H [(299,1,[VT])] 12 245 VU:=hh
end Go.Eng

/- A part of the closed run of the chapter s examples; no conditions. -/
import Derived.Test.YtnangdjonghnaaaGreatVKD
set_option linter.unusedVariables false
set_option linter.unusedSimpArgs false
namespace Go.Eng
open Go.Proofs
theorem ak2 : H [(90,1,[j4])] 14 299 Ws:=hh
theorem ak3 : H [(299,1,[Ws])] 12 245 Wt:=hh
theorem ak4 : H [(90,1,[j4])] 14 299 Wu:=hh
theorem ak5 : H [(299,1,[Wu])] 13 247 Wv:=hh
theorem ak6 : H [(245,2,[Wt]),(247,2,[Wv])] 6 182 Ww:=hh
theorem ak7 : H [] 10 341 Wx:=hh
theorem ak8 : H [] 10 341 Wy:=hh
theorem ak9 : H [] 10 341 Wz:=hh
end Go.Eng

/- A part of the closed run of the chapter s examples; no conditions. -/
import Derived.Test.YtnangdjonghnaaaGreatVKD
set_option linter.unusedVariables false
set_option linter.unusedSimpArgs false
namespace Go.Eng
open Go.Proofs
theorem akQ : H [(90,1,[j4])] 14 299 Wg:=hh
theorem akR : H [(299,1,[Wg])] 12 245 Wh:=hh
theorem akS : H [(90,1,[j4])] 14 299 Wi:=hh
theorem akT : H [(299,1,[Wi])] 13 247 Wj:=hh
theorem akU : H [(245,2,[Wh]),(247,2,[Wj])] 6 182 Wl:=hh
theorem akV : H [] 10 341 Wm:=hh
theorem akW : H [] 10 341 Wn:=hh
theorem akX : H [] 10 341 Wo:=hh
end Go.Eng

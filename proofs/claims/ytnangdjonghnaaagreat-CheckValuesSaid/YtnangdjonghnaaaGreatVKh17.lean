/- A part of the closed run of the chapter s examples; no conditions. -/
import Derived.Test.YtnangdjonghnaaaGreatVKD
set_option linter.unusedVariables false
set_option linter.unusedSimpArgs false
namespace Go.Eng
open Go.Proofs
theorem akY : H [(90,1,[j4]),(341,0,[Wm,Wn,Wo])] 14 299 OX:=hh
theorem akZ : H [(299,1,[OX])] 12 245 Wp:=hh
theorem ak0 : H [(299,1,[OX])] 13 248 Wq:=hh
theorem ak1 : H [(245,2,[Wp]),(248,2,[Wq])] 8 182 Wr:=hh
end Go.Eng

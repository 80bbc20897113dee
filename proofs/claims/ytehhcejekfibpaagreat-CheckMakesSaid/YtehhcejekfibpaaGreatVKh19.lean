/- A part of the closed run of the chapter s examples; no conditions. -/
import Derived.Test.YtehhcejekfibpaaGreatVKD
set_option linter.unusedVariables false
set_option linter.unusedSimpArgs false
namespace Go.Eng
open Go.Proofs
theorem alc : H [(92,1,[jD])] 14 297 Wx:=hh
theorem ald : H [(297,1,[Wx])] 13 246 Wy:=hh
theorem ale : H [(243,2,[Ww]),(246,2,[Wy])] 8 181 Wz:=hh
end Go.Eng

/- A part of the closed run of the chapter s examples; no conditions. -/
import Derived.Test.YtehhcejekfibpaaGreatVKD
set_option linter.unusedVariables false
set_option linter.unusedSimpArgs false
namespace Go.Eng
open Go.Proofs
theorem akr : H [(297,1,[VJ])] 12 246 VK:=hh
theorem aks : H [(243,2,[VI]),(246,2,[VK])] 8 181 VL:=hh
theorem akt : H [(92,1,[jD])] 14 297 VN:=hh
theorem aku : H [(297,1,[VN])] 12 243 VO:=hh
theorem akv : H [(92,1,[jD])] 14 297 VP:=hh
theorem akw : H [(297,1,[VP])] 12 245 VQ:=hh
theorem akx : H [(243,2,[VO]),(245,2,[VQ])] 6 181 VS:=hh
theorem aky : H [] 10 339 VT:=hh
theorem akz : H [] 10 339 VU:=hh
end Go.Eng

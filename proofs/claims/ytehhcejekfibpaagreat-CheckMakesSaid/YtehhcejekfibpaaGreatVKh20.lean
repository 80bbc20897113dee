/- A part of the closed run of the chapter s examples; no conditions. -/
import Derived.Test.YtehhcejekfibpaaGreatVKD
set_option linter.unusedVariables false
set_option linter.unusedSimpArgs false
namespace Go.Eng
open Go.Proofs
theorem alf : H [(92,1,[jD])] 14 297 WA:=hh
theorem alg : H [(297,1,[WA])] 12 243 WB:=hh
theorem alh : H [(92,1,[jD])] 14 297 WC:=hh
theorem ali : H [(297,1,[WC])] 13 245 WD:=hh
theorem alj : H [(243,2,[WB]),(245,2,[WD])] 6 181 WE:=hh
theorem alk : H [] 10 339 WG:=hh
theorem alm : H [] 10 339 WH:=hh
theorem aln : H [] 10 339 WI:=hh
theorem alo : H [] 10 339 WJ:=hh
end Go.Eng

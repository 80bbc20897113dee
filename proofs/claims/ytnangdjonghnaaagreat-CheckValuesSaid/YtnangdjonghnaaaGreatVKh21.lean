/- A part of the closed run of the chapter s examples; no conditions. -/
import Derived.Test.YtnangdjonghnaaaGreatVKD
set_option linter.unusedVariables false
set_option linter.unusedSimpArgs false
namespace Go.Eng
open Go.Proofs
theorem alh : H [(90,1,[j4])] 14 299 WI:=hh
theorem ali : H [(299,1,[WI])] 13 247 WJ:=hh
theorem alj : H [(245,2,[WH]),(247,2,[WJ])] 6 182 WK:=hh
theorem alk : H [] 10 341 WL:=hh
theorem alm : H [] 10 341 WM:=hh
theorem aln : H [] 10 341 WN:=hh
theorem alo : H [] 10 341 WO:=hh
theorem alp : H [(90,1,[j4]),(341,0,[WL,WM,WN,WO])] 14 299 OY:=hh
theorem alq : H [(299,1,[OY])] 12 245 WR:=hh
theorem alr : H [(299,1,[OY])] 13 248 WS:=hh
theorem als : H [(245,2,[WR]),(248,2,[WS])] 8 182 WT:=hh
end Go.Eng

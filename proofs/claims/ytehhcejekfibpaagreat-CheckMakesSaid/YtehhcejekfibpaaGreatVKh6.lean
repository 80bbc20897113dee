/- A part of the closed run of the chapter s examples; no conditions. -/
import Derived.Test.YtehhcejekfibpaaGreatVKD
set_option linter.unusedVariables false
set_option linter.unusedSimpArgs false
namespace Go.Eng
open Go.Proofs
theorem aii : H [(30,0,[uD]),(170,0,[Ed])] 13 7 TF:=hh
theorem aij : H [] 10 170 TG:=hh
theorem aik : H [] 9 83 TH:=hh
theorem ail : H [] 9 83 TI:=hh
theorem aim : H [] 9 83 TJ:=hh
theorem ain : H [] 9 83 TK:=hh
theorem aio : H [] 9 83 TM:=hh
end Go.Eng

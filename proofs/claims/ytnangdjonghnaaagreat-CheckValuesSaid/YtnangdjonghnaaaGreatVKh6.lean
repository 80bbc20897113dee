/- A part of the closed run of the chapter s examples; no conditions. -/
import Derived.Test.YtnangdjonghnaaaGreatVKD
set_option linter.unusedVariables false
set_option linter.unusedSimpArgs false
namespace Go.Eng
open Go.Proofs
theorem aib : H [(299,1,[TE])] 12 245 TF:=hh
theorem aic : H [(90,1,[j4])] 12 299 TG:=hh
theorem aid : H [(299,1,[TG])] 10 247 TH:=hh
theorem aie : H [(245,2,[TF]),(247,2,[TH])] 6 182 TI:=hh
theorem aif : H [(181,0,[TD]),(182,0,[TI])] 9 92 TJ:=hh
theorem aih : H [(23,0,[vB]),(90,1,[j4]),(171,0,[Ly,Ff,Lz]),(91,2,[Ha]),(103,0,[Tx]),(169,0,[Ty]),(92,2,[TJ])] 12 12 TK:=hh
theorem aii : H [(23,0,[vB]),(171,0,[Ff])] 13 6 TM:=hh
theorem aij : H [] 10 171 TN:=hh
theorem aik : H [] 9 78 TO:=hh
theorem ail : H [] 9 78 TP:=hh
theorem aim : H [] 9 78 TQ:=hh
theorem ain : H [] 9 78 TR:=hh
theorem aio : H [] 9 78 TS:=hh
end Go.Eng

/- A part of the closed run of the chapter s examples; no conditions. -/
import Derived.Test.YthplmmeobggkfaaGreatVKD
set_option linter.all false
namespace Go.Eng
open Go.Proofs
theorem avi : H [(85,1,[NT]),(86,0,[alp])] 13 50 alq:=hh
theorem avj : H [(46,0,[N1]),(50,2,[alq])] 5 15 alr:=hh
theorem tc : C 97 rW:=cz 12
theorem avk : H [(97,0,[rW])] 11 54 als:=hh
theorem avl : H [(54,1,[als])] 11 291 alu:=hh
theorem alH : C 100 akq:=cz 10
theorem avm : H [(97,0,[rW]),(100,0,[akq])] 7 54 akr:=hh
theorem avn : H [(97,0,[rW]),(100,0,[akq]),(54,1,[akr])] 11 291 alv:=hh
theorem avo : H [(97,0,[rW])] 11 54 alw:=hh
theorem avp : H [(97,0,[rW]),(54,1,[alw])] 13 291 alx:=hh
theorem avq : H [(97,0,[rW]),(100,0,[akq])] 8 328 aks:=hh
theorem avr : H [(97,0,[rW])] 11 54 aly:=hh
theorem avs : H [(328,0,[aks]),(54,1,[aly])] 11 291 alz:=hh
theorem avt : H [(97,0,[rW])] 10 54 alB:=hh
theorem avu : C 100 at1:=cz 10
theorem avv : H [(97,0,[rW]),(100,0,[at1])] 8 328 alC:=hh
theorem avw : H [(97,0,[rW]),(291,0,[alu,alv,alx,alz]),(54,1,[akr,alB]),(328,0,[aks,alC])] 12 228 akt:=hh
theorem avx : H [(228,0,[akt])] 4 149 alD:=hh
end Go.Eng

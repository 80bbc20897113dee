/- Closed runs; no conditions. -/
import Derived.Test.YthplmmeobggkfaaGreatVKD
set_option linter.all false
namespace Go.Eng
open Go.Proofs
theorem avj : H [(85,1,[NW]),(86,0,[alq])] 13 50 alr:=hh
theorem avk : H [(46,0,[N3]),(50,2,[alr])] 5 15 als:=hh
theorem tr : C 97 sk:=cz 12
theorem avl : H [(97,0,[sk])] 11 54 alu:=hh
theorem avm : H [(54,1,[alu])] 11 291 alv:=hh
theorem alI : C 100 akr:=cz 10
theorem avn : H [(97,0,[sk]),(100,0,[akr])] 7 54 aks:=hh
theorem avo : H [(97,0,[sk]),(100,0,[akr]),(54,1,[aks])] 11 291 alw:=hh
theorem avp : H [(97,0,[sk])] 11 54 alx:=hh
theorem avq : H [(97,0,[sk]),(54,1,[alx])] 13 291 aly:=hh
theorem avr : H [(97,0,[sk]),(100,0,[akr])] 8 328 akt:=hh
theorem avs : H [(97,0,[sk])] 11 54 alz:=hh
theorem avt : H [(328,0,[akt]),(54,1,[alz])] 11 291 alB:=hh
theorem avu : H [(97,0,[sk])] 10 54 alC:=hh
theorem avv : C 100 at2:=cz 10
theorem avw : H [(97,0,[sk]),(100,0,[at2])] 8 328 alD:=hh
theorem avx : H [(97,0,[sk]),(291,0,[alv,alw,aly,alB]),(54,1,[aks,alC]),(328,0,[akt,alD])] 12 228 aku:=hh
theorem avy : H [(228,0,[aku])] 4 149 alE:=hh
end Go.Eng

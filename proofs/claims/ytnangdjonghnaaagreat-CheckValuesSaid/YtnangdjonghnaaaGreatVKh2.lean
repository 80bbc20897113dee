/- A part of the closed run of the chapter s examples; no conditions. -/
import Derived.Test.YtnangdjonghnaaaGreatVKD
set_option linter.unusedVariables false
set_option linter.unusedSimpArgs false
namespace Go.Eng
open Go.Proofs
theorem asp : H [(84,0,[aeK,aeM,aeN]),(87,1,[aeL])] 14 39 aeO:=hh
theorem asq : H [(40,0,[Iu]),(39,2,[aeO])] 5 9 aeP:=hh
theorem asr : H [] 9 235 aeQ:=hh
theorem ass : H [] 9 235 aeR:=hh
theorem ast : H [] 9 235 aeS:=hh
theorem asu : H [(235,0,[aeQ,aeR,aeS])] 11 99 aeT:=hh
theorem asv : H [(98,1,[It]),(99,0,[aeT])] 13 49 aeU:=hh
theorem asw : H [(40,0,[Iu]),(49,2,[aeU])] 5 11 aeV:=hh
theorem asx : H [] 11 23 vB:=hh
theorem asy : H [(23,0,[vB])] 10 354 acd:=hh
theorem asz : H [(23,0,[vB]),(354,0,[acd])] 12 319 aeW:=hh
theorem asA : H [] 10 171 aeX:=hh
theorem asB : H [(23,0,[vB]),(171,0,[aeX])] 9 354 ace:=hh
theorem asC : H [(23,0,[vB]),(354,0,[ace])] 13 319 aeY:=hh
theorem asD : H [] 10 171 acf:=hh
theorem asE : H [] 10 171 acg:=hh
theorem asF : H [(23,0,[vB]),(171,0,[acg])] 7 220 aeZ:=hh
theorem asG : H [(23,0,[vB]),(171,0,[acf])] 7 220 ae0:=hh
theorem asH : H [(23,0,[vB]),(171,0,[acf])] 8 354 ae1:=hh
theorem asI : H [] 10 171 ach:=hh
theorem asJ : H [(23,0,[vB]),(171,0,[ach])] 8 354 ae2:=hh
theorem asK : H [(23,0,[vB]),(354,0,[acd,ace,ae1,ae2]),(319,0,[aeW,aeY]),(171,0,[acg,ach]),(220,1,[aeZ,ae0])] 13 268 aci:=hh
theorem asL : H [(268,0,[aci])] 4 213 ae3:=hh
theorem asM : H [(268,0,[aci]),(213,1,[ae3])] 14 146 ae4:=hh
theorem asN : H [(146,0,[ae4])] 4 90 j4:=hh
theorem asO : H [] 10 171 acj:=hh
end Go.Eng

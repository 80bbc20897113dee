/- A part of the closed run of the chapter s examples; no conditions. -/
import Derived.Test.YtnangdjonghnaaaGreatVKD
set_option linter.unusedVariables false
set_option linter.unusedSimpArgs false
namespace Go.Eng
open Go.Proofs
theorem asP : H [(23,0,[vB]),(90,1,[j4]),(171,0,[acj])] 10 91 P7:=hh
theorem asQ : H [(90,1,[j4])] 11 299 ack:=hh
theorem agR : H [(299,1,[ack])] 11 245 Sn:=hh
theorem agS : H [(299,1,[ack])] 11 248 Sp:=hh
theorem agT : H [(245,2,[Sn]),(248,2,[Sp])] 8 182 Lw:=hh
theorem agU : H [(90,1,[j4])] 12 299 Sq:=hh
theorem agV : H [(299,1,[Sq])] 12 245 Ss:=hh
theorem agW : H [(90,1,[j4])] 12 299 Su:=hh
theorem agX : H [(299,1,[Su])] 11 247 Sv:=hh
theorem agY : H [(245,2,[Ss]),(247,2,[Sv])] 6 182 OI:=hh
theorem agZ : H [(90,1,[j4])] 12 299 Sw:=hh
theorem ag0 : H [(299,1,[Sw])] 12 245 Sx:=hh
theorem ag1 : H [(90,1,[j4])] 12 299 Sy:=hh
end Go.Eng

/- A part of the closed run of the chapter s examples; no conditions. -/
import Derived.Test.YtnangdjonghnaaaGreatVKD
set_option linter.unusedVariables false
set_option linter.unusedSimpArgs false
namespace Go.Eng
open Go.Proofs
theorem aiK : H [(23,0,[vB]),(90,1,[j4]),(171,0,[ON,JG,TV,TW]),(91,2,[Lx]),(92,2,[T5,Uf])] 13 15 Ug:=hh
theorem aiL : H [] 9 235 Uh:=hh
theorem aiM : H [] 9 235 Ui:=hh
theorem aiN : H [] 9 235 Uj:=hh
theorem aiO : H [] 9 235 Uk:=hh
theorem aiP : H [] 9 235 Ul:=hh
theorem aiQ : H [(235,0,[Uh,Ui,Uj,Uk,Ul])] 11 99 Um:=hh
theorem aiR : H [(98,1,[It]),(99,0,[Um])] 13 49 Un:=hh
theorem aiS : H [(40,0,[Iu]),(49,2,[Un])] 5 11 Uo:=hh
theorem aiT : H [] 9 235 Up:=hh
theorem aiU : H [] 9 235 Uq:=hh
theorem aiV : H [] 9 235 Ur:=hh
theorem aiW : H [] 9 235 Us:=hh
theorem aiX : H [] 9 235 Ut:=hh
theorem aiY : H [] 9 235 Uu:=hh
theorem aiZ : H [(235,0,[Up,Uq,Ur,Us,Ut,Uu])] 11 99 Uv:=hh
theorem ai0 : H [(98,1,[It]),(99,0,[Uv])] 13 49 Uw:=hh
theorem ai1 : H [(40,0,[Iu]),(49,2,[Uw])] 5 11 Ux:=hh
theorem ai2 : H [] 11 171 OO:=hh
theorem ai3 : H [(23,0,[vB]),(90,1,[j4]),(171,0,[OO])] 11 91 Uy:=hh
theorem ai4 : H [] 11 171 OP:=hh
theorem ai5 : H [(171,0,[OP])] 7 169 Uz:=hh
theorem ai6 : H [] 11 171 UA:=hh
theorem ai7 : H [(23,0,[vB]),(90,1,[j4]),(171,0,[UA])] 11 91 UC:=hh
theorem ai8 : H [(91,2,[UC])] 6 181 UD:=hh
theorem ai9 : H [(90,1,[j4])] 12 299 UE:=hh
theorem aja : H [(299,1,[UE])] 13 245 UF:=hh
end Go.Eng

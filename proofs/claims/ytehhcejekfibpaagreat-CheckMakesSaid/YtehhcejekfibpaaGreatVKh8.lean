/- A part of the closed run of the chapter s examples; no conditions. -/
import Derived.Test.YtehhcejekfibpaaGreatVKD
set_option linter.unusedVariables false
set_option linter.unusedSimpArgs false
namespace Go.Eng
open Go.Proofs
theorem aiR : H [(100,1,[H2]),(101,0,[Ug])] 13 53 Uh:=hh
theorem aiS : H [(44,0,[H3]),(53,2,[Uh])] 5 18 Ui:=hh
theorem aiT : H [] 9 234 Uj:=hh
theorem aiU : H [] 9 234 Uk:=hh
theorem aiV : H [] 9 234 Ul:=hh
theorem aiW : H [] 9 234 Um:=hh
theorem aiX : H [] 9 234 Un:=hh
theorem aiY : H [] 9 234 Uo:=hh
theorem aiZ : H [(234,0,[Uj,Uk,Ul,Um,Un,Uo])] 11 101 Up:=hh
theorem ai0 : H [(100,1,[H2]),(101,0,[Up])] 13 53 Uq:=hh
theorem ai1 : H [(44,0,[H3]),(53,2,[Uq])] 5 18 Ur:=hh
theorem ai2 : H [] 11 170 Ow:=hh
theorem ai3 : H [(30,0,[uD]),(92,1,[jD]),(170,0,[Ow])] 11 93 Us:=hh
theorem ai4 : H [] 11 170 Ox:=hh
theorem ai5 : H [(170,0,[Ox])] 7 168 Ut:=hh
theorem ai6 : H [] 11 170 Uu:=hh
theorem ai7 : H [(30,0,[uD]),(92,1,[jD]),(170,0,[Uu])] 11 93 Uv:=hh
theorem ai8 : H [(93,2,[Uv])] 6 180 Uw:=hh
end Go.Eng

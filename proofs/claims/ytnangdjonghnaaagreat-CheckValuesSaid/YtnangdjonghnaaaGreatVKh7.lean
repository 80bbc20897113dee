/- A part of the closed run of the chapter s examples; no conditions. -/
import Derived.Test.YtnangdjonghnaaaGreatVKD
set_option linter.unusedVariables false
set_option linter.unusedSimpArgs false
namespace Go.Eng
open Go.Proofs
theorem aip : H [(23,0,[vB]),(171,0,[Ff,TN]),(78,0,[TO,TP,TQ,TR,TS])] 16 6 TU:=hh
theorem aiq : H [] 10 171 TV:=hh
theorem air : H [] 10 171 TW:=hh
theorem ais : H [] 10 171 TX:=hh
theorem ait : H [(23,0,[vB]),(90,1,[j4]),(171,0,[TX])] 10 91 TY:=hh
theorem aiu : H [(90,1,[j4])] 11 299 TZ:=hh
theorem aiv : H [(299,1,[TZ])] 12 245 T1:=hh
theorem aiw : H [(90,1,[j4])] 12 299 T2:=hh
theorem aix : H [(299,1,[T2])] 10 247 T3:=hh
theorem aiy : H [(245,2,[T1]),(247,2,[T3])] 6 182 T4:=hh
theorem aiz : H [(91,2,[TY]),(182,0,[T4])] 9 92 T5:=hh
theorem aiA : H [] 10 171 T6:=hh
theorem aiB : H [(23,0,[vB]),(90,1,[j4]),(171,0,[T6])] 10 91 T7:=hh
theorem aiC : H [(90,1,[j4])] 11 299 T8:=hh
theorem aiD : H [(299,1,[T8])] 12 245 T9:=hh
theorem aiE : H [] 9 341 Ua:=hh
theorem aiF : H [] 9 341 Ub:=hh
theorem aiG : H [(90,1,[j4]),(341,0,[Ua,Ub])] 12 299 Uc:=hh
theorem aiH : H [(299,1,[Uc])] 10 247 Ud:=hh
theorem aiI : H [(245,2,[T9]),(247,2,[Ud])] 6 182 Ue:=hh
theorem aiJ : H [(91,2,[T7]),(182,0,[Ue])] 9 92 Uf:=hh
end Go.Eng

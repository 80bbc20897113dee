/- A part of the closed run of the chapter s examples; no conditions. -/
import Derived.Test.YthplmmeobggkfaaGreatVKD
set_option linter.all false
namespace Go.Eng
open Go.Proofs
theorem al9 : H [(343,1,[abi])] 12 318 abj:=hh
theorem ama : H [(315,2,[abh]),(318,2,[abj])] 8 270 abk:=hh
theorem aiw : C 361 abl:=cz 9
theorem aix : C 361 abm:=cz 9
theorem aiy : C 361 abn:=cz 9
theorem aiz : C 361 abo:=cz 9
theorem amb : H [(61,1,[mO]),(361,0,[abl,abm,abn,abo])] 13 343 Xk:=hh
theorem amc : H [(343,1,[Xk])] 11 315 abp:=hh
theorem amd : H [(343,1,[Xk])] 10 317 abq:=hh
theorem ame : H [(315,2,[abp]),(317,2,[abq])] 6 270 abr:=hh
theorem amf : H [(61,1,[mO]),(361,0,[abl,abm,abn,abo])] 13 343 Xl:=hh
theorem amg : H [(343,1,[Xl])] 11 315 abt:=hh
theorem amh : H [(343,1,[Xl])] 11 317 abu:=hh
theorem ami : H [(315,2,[abt]),(317,2,[abu])] 6 270 abv:=hh
theorem Lm : C 361 abw:=cz 10
theorem aiA : C 361 abx:=cz 9
theorem aiB : C 361 aby:=cz 9
theorem aiC : C 361 abz:=cz 9
theorem aiD : C 361 abA:=cz 9
theorem amj : H [(61,1,[mO]),(361,0,[abw,abx,aby,abz,abA])] 13 343 Xm:=hh
end Go.Eng

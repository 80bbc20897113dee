/- Closed runs; no conditions. -/
import Derived.Test.YthplmmeobggkfaaGreatVKD
set_option linter.all false
namespace Go.Eng
open Go.Proofs
theorem ama : H [(343,1,[abk])] 12 318 abl:=hh
theorem amb : H [(315,2,[abj]),(318,2,[abl])] 8 270 abm:=hh
theorem aiy : C 361 abn:=cz 9
theorem aiz : C 361 abo:=cz 9
theorem aiA : C 361 abp:=cz 9
theorem aiB : C 361 abq:=cz 9
theorem amc : H [(61,1,[mR]),(361,0,[abn,abo,abp,abq])] 13 343 Xm:=hh
theorem amd : H [(343,1,[Xm])] 11 315 abr:=hh
theorem ame : H [(343,1,[Xm])] 10 317 abt:=hh
theorem amf : H [(315,2,[abr]),(317,2,[abt])] 6 270 abu:=hh
theorem amg : H [(61,1,[mR]),(361,0,[abn,abo,abp,abq])] 13 343 Xn:=hh
theorem amh : H [(343,1,[Xn])] 11 315 abv:=hh
theorem ami : H [(343,1,[Xn])] 11 317 abw:=hh
theorem amj : H [(315,2,[abv]),(317,2,[abw])] 6 270 abx:=hh
theorem Ls : C 361 aby:=cz 10
theorem aiC : C 361 abz:=cz 9
theorem aiD : C 361 abA:=cz 9
theorem aiE : C 361 abB:=cz 9
theorem aiF : C 361 abC:=cz 9
theorem amk : H [(61,1,[mR]),(361,0,[aby,abz,abA,abB,abC])] 13 343 Xo:=hh
end Go.Eng

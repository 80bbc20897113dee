/- Closed runs; no conditions. -/
import Derived.Test.YthplmmeobggkfaaGreatVKD
set_option linter.all false
namespace Go.Eng
open Go.Proofs
theorem au1 : H [(89,0,[atT]),(212,0,[atU])] 12 128 alh:=hh
theorem au2 : C 89 atV:=cz 10
theorem au3 : H [(89,0,[atV])] 11 128 ali:=hh
theorem au4 : C 89 atW:=cz 9
theorem au5 : H [(89,0,[atW])] 10 128 alj:=hh
theorem au6 : C 212 atX:=cz 9
theorem au7 : H [(212,0,[atX])] 11 128 alk:=hh
theorem au8 : H [(127,0,[atO]),(128,0,[alf,alg,alh,ali,alj,alk])] 8 85 NW:=hh
theorem au9 : H [(85,1,[NW])] 11 189 alm:=hh
theorem ava : H [(117,0,[akq])] 5 77 aln:=hh
theorem avb : H [(77,2,[aln])] 4 46 N3:=hh
theorem avc : C 73 atY:=cz 13
theorem avd : H [(73,0,[atY])] 14 45 alo:=hh
theorem ave : H [(46,0,[N3]),(45,2,[alo])] 5 13 alp:=hh
theorem avf : C 219 atZ:=cz 9
theorem avg : C 219 at0:=cz 9
theorem avh : C 219 at1:=cz 9
theorem avi : H [(219,0,[atZ,at0,at1])] 11 86 alq:=hh
end Go.Eng

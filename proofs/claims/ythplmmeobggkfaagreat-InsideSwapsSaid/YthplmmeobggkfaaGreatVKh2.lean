/- A part of the closed run of the chapter s examples; no conditions. -/
import Derived.Test.YthplmmeobggkfaaGreatVKD
set_option linter.all false
namespace Go.Eng
open Go.Proofs
theorem au0 : H [(89,0,[atS]),(212,0,[atT])] 12 128 alg:=hh
theorem au1 : C 89 atU:=cz 10
theorem au2 : H [(89,0,[atU])] 11 128 alh:=hh
theorem au3 : C 89 atV:=cz 9
theorem au4 : H [(89,0,[atV])] 10 128 ali:=hh
theorem au5 : C 212 atW:=cz 9
theorem au6 : H [(212,0,[atW])] 11 128 alj:=hh
theorem au7 : H [(127,0,[atN]),(128,0,[ale,alf,alg,alh,ali,alj])] 8 85 NT:=hh
theorem au8 : H [(85,1,[NT])] 11 189 alk:=hh
theorem au9 : H [(117,0,[akp])] 5 77 alm:=hh
theorem ava : H [(77,2,[alm])] 4 46 N1:=hh
theorem avb : C 73 atX:=cz 13
theorem avc : H [(73,0,[atX])] 14 45 aln:=hh
theorem avd : H [(46,0,[N1]),(45,2,[aln])] 5 13 alo:=hh
theorem ave : C 219 atY:=cz 9
theorem avf : C 219 atZ:=cz 9
theorem avg : C 219 at0:=cz 9
theorem avh : H [(219,0,[atY,atZ,at0])] 11 86 alp:=hh
end Go.Eng

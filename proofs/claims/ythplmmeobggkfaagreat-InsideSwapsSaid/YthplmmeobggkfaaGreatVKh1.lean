/- Closed runs; no conditions. -/
import Derived.Test.YthplmmeobggkfaaGreatVKD
set_option linter.all false
namespace Go.Eng
open Go.Proofs
theorem auU : H [(219,0,[E0,E1,E2,E3,E4,E5,E6,E7,E8,E9,atb,atc,atd,ate,atf,atg,ath,ati,atj,atk,atl,atm,atn,ato,atp,atq,atr,ats,att,atu,atv,atw,atx,aty,atz,atA,atB,atC,atD,atE,atF,atG,atH,atI,atJ,atK,atL,atM,atN])] 15 86 ale:=hh
theorem auV : C 127 atO:=cz 12
theorem afP : C 89 atP:=cz 10
theorem auW : C 213 atQ:=cz 9
theorem auX : H [(89,0,[atP]),(213,0,[atQ])] 9 128 alf:=hh
theorem afW : C 212 atS:=cz 9
theorem auY : H [(212,0,[atS])] 11 128 alg:=hh
theorem auZ : C 89 atT:=cz 10
theorem au0 : C 212 atU:=cz 10
end Go.Eng

/- A part of the closed run of the chapter s examples; no conditions. -/
import Derived.Test.YthplmmeobggkfaaGreatVKD
set_option linter.all false
namespace Go.Eng
open Go.Proofs
theorem auT : H [(219,0,[E0,E1,E2,E3,E4,E5,E6,E7,E8,E9,ata,atb,atc,atd,ate,atf,atg,ath,ati,atj,atk,atl,atm,atn,ato,atp,atq,atr,ats,att,atu,atv,atw,atx,aty,atz,atA,atB,atC,atD,atE,atF,atG,atH,atI,atJ,atK,atL,atM])] 15 86 ald:=hh
theorem auU : C 127 atN:=cz 12
theorem afN : C 89 atO:=cz 10
theorem auV : C 213 atP:=cz 9
theorem auW : H [(89,0,[atO]),(213,0,[atP])] 9 128 ale:=hh
theorem afU : C 212 atQ:=cz 9
theorem auX : H [(212,0,[atQ])] 11 128 alf:=hh
theorem auY : C 89 atS:=cz 10
theorem auZ : C 212 atT:=cz 10
end Go.Eng

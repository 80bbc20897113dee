/- Closed runs; no conditions. -/
import Derived.Test.YthplmmeobggkfaaGreatVKD
set_option linter.all false
namespace Go.Eng
open Go.Proofs
theorem c0 : C 219 E0:=cz 8
theorem c1 : C 219 E1:=cz 9
theorem c2 : C 219 E2:=cz 9
theorem c3 : C 219 E3:=cz 9
theorem c4 : C 219 E4:=cz 8
theorem c5 : C 219 E5:=cz 8
theorem c6 : C 219 E6:=cz 9
theorem c7 : C 219 E7:=cz 9
theorem c8 : C 219 E8:=cz 9
theorem c9 : C 219 E9:=cz 9
theorem afX : C 219 atb:=cz 9
theorem auy : C 219 atc:=cz 9
theorem auz : C 219 atd:=cz 8
theorem auA : C 219 ate:=cz 8
theorem afY : C 219 atf:=cz 10
theorem auB : C 219 atg:=cz 9
theorem auC : C 219 ath:=cz 9
theorem auD : C 219 ati:=cz 8
theorem auE : C 219 atj:=cz 9
theorem auF : C 219 atk:=cz 9
theorem afZ : C 219 atl:=cz 9
theorem auG : C 219 atm:=cz 8
theorem afT : C 219 atn:=cz 8
theorem auH : C 219 ato:=cz 9
theorem auI : C 219 atp:=cz 9
theorem auJ : C 219 atq:=cz 9
theorem auK : C 219 atr:=cz 9
theorem afH : C 219 ats:=cz 9
theorem auL : C 219 att:=cz 8
theorem afJ : C 219 atu:=cz 9
theorem afI : C 219 atv:=cz 9
theorem Z2 : C 219 atw:=cz 9
theorem akS : C 219 atx:=cz 9
theorem akT : C 219 aty:=cz 9
theorem WU : C 219 atz:=cz 8
theorem auM : C 219 atA:=cz 9
theorem afK : C 219 atB:=cz 9
theorem auN : C 219 atC:=cz 8
theorem afL : C 219 atD:=cz 10
theorem auO : C 219 atE:=cz 9
theorem afU : C 219 atF:=cz 9
theorem afM : C 219 atG:=cz 8
theorem auP : C 219 atH:=cz 8
theorem auQ : C 219 atI:=cz 8
theorem auR : C 219 atJ:=cz 9
theorem auS : C 219 atK:=cz 9
theorem afN : C 219 atL:=cz 9
theorem auT : C 219 atM:=cz 8
theorem afO : C 219 atN:=cz 8
end Go.Eng

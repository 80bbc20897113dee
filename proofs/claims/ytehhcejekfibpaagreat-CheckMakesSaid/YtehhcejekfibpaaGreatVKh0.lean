/- A part of the closed run of the chapter s examples; no conditions. -/
import Derived.Test.YtehhcejekfibpaaGreatVKD
set_option linter.unusedVariables false
set_option linter.unusedSimpArgs false
namespace Go.Eng
open Go.Proofs
theorem h0 : H [] 8 234 E0:=hh
theorem h1 : H [] 9 234 E1:=hh
theorem h2 : H [] 9 234 E2:=hh
theorem h3 : H [] 9 234 E3:=hh
theorem h4 : H [] 8 234 E4:=hh
theorem h5 : H [] 8 234 E5:=hh
theorem h6 : H [] 9 234 E6:=hh
theorem h7 : H [] 9 234 E7:=hh
theorem h8 : H [] 9 234 E8:=hh
theorem h9 : H [] 9 234 E9:=hh
theorem acU : H [] 9 234 adS:=hh
theorem arl : H [] 9 234 adT:=hh
theorem arn : H [] 8 234 adU:=hh
theorem aro : H [] 9 234 adV:=hh
theorem arp : H [] 9 234 adW:=hh
theorem arq : H [] 9 234 adX:=hh
theorem ars : H [] 8 234 adY:=hh
theorem art : H [] 8 234 adZ:=hh
theorem aru : H [] 9 234 ad0:=hh
theorem arv : H [] 9 234 ad1:=hh
theorem arw : H [] 9 234 ad2:=hh
theorem arx : H [] 9 234 ad3:=hh
theorem ary : H [] 9 234 ad4:=hh
theorem arz : H [] 8 234 ad5:=hh
theorem arA : H [] 8 234 ad6:=hh
theorem arB : H [] 9 234 ad7:=hh
theorem arC : H [] 9 234 ad8:=hh
theorem arD : H [] 9 234 ad9:=hh
theorem arE : H [] 9 234 aea:=hh
theorem arF : H [] 9 234 aeb:=hh
theorem arG : H [] 9 234 aec:=hh
theorem arH : H [] 9 234 aed:=hh
theorem arI : H [] 8 234 aee:=hh
theorem arJ : H [] 9 234 aef:=hh
theorem arK : H [] 9 234 aeg:=hh
theorem arL : H [] 9 234 aeh:=hh
theorem arM : H [] 8 234 aei:=hh
theorem arN : H [] 9 234 aej:=hh
theorem arO : H [] 9 234 aek:=hh
theorem arP : H [] 8 234 ael:=hh
theorem arQ : H [] 8 234 aem:=hh
theorem arR : H [] 9 234 aen:=hh
theorem arS : H [] 9 234 aeo:=hh
theorem arT : H [] 8 234 aep:=hh
theorem arU : H [] 8 234 aeq:=hh
theorem arV : H [] 9 234 aer:=hh
theorem arW : H [] 9 234 aes:=hh
theorem arX : H [] 9 234 aet:=hh
theorem arY : H [] 8 234 aeu:=hh
theorem arZ : H [] 8 234 aev:=hh
theorem ar0 : H [] 9 234 aew:=hh
theorem ar1 : H [] 9 234 aex:=hh
theorem ar2 : H [] 9 234 aey:=hh
theorem ar3 : H [] 8 234 aez:=hh
theorem ar4 : H [] 8 234 aeA:=hh
theorem ar5 : H [] 9 234 aeB:=hh
theorem ar6 : H [] 9 234 aeC:=hh
theorem ar7 : H [] 8 234 aeD:=hh
theorem ar8 : H [] 9 234 aeE:=hh
theorem ar9 : H [] 8 234 aeF:=hh
theorem asa : H [(234,0,[E0,E1,E2,E3,E4,E5,E6,E7,E8,E9,adS,adT,adU,adV,adW,adX,adY,adZ,ad0,ad1,ad2,ad3,ad4,ad5,ad6,ad7,ad8,ad9,aea,aeb,aec,aed,aee,aef,aeg,aeh,aei,aej,aek,ael,aem,aen,aeo,aep,aeq,aer,aes,aet,aeu,aev,aew,aex,aey,aez,aeA,aeB,aeC,aeD,aeE,aeF])] 15 101 aeG:=hh
theorem asb : H [] 12 14 aeH:=hh
end Go.Eng

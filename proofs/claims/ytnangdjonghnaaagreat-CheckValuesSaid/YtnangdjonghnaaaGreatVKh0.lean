/- A part of the closed run of the chapter s examples; no conditions. -/
import Derived.Test.YtnangdjonghnaaaGreatVKD
set_option linter.unusedVariables false
set_option linter.unusedSimpArgs false
namespace Go.Eng
open Go.Proofs
theorem h0 : H [] 8 235 E0:=hh
theorem h1 : H [] 9 235 E1:=hh
theorem h2 : H [] 9 235 E2:=hh
theorem h3 : H [] 9 235 E3:=hh
theorem h4 : H [] 8 235 E4:=hh
theorem h5 : H [] 8 235 E5:=hh
theorem h6 : H [] 9 235 E6:=hh
theorem h7 : H [] 9 235 E7:=hh
theorem h8 : H [] 9 235 E8:=hh
theorem h9 : H [] 9 235 E9:=hh
theorem acL : H [] 9 235 adR:=hh
theorem arp : H [] 9 235 adS:=hh
theorem arq : H [] 8 235 adT:=hh
theorem ars : H [] 9 235 adU:=hh
theorem art : H [] 9 235 adV:=hh
theorem aru : H [] 9 235 adW:=hh
theorem arv : H [] 8 235 adX:=hh
theorem arw : H [] 8 235 adY:=hh
theorem arx : H [] 9 235 adZ:=hh
theorem ary : H [] 9 235 ad0:=hh
theorem arz : H [] 9 235 ad1:=hh
theorem arA : H [] 9 235 ad2:=hh
theorem arB : H [] 9 235 ad3:=hh
theorem arC : H [] 8 235 ad4:=hh
theorem arD : H [] 8 235 ad5:=hh
theorem arE : H [] 9 235 ad6:=hh
theorem arF : H [] 9 235 ad7:=hh
theorem arG : H [] 9 235 ad8:=hh
theorem arH : H [] 9 235 ad9:=hh
theorem arI : H [] 9 235 aea:=hh
theorem arJ : H [] 9 235 aeb:=hh
theorem arK : H [] 9 235 aec:=hh
theorem arL : H [] 8 235 aed:=hh
theorem arM : H [] 9 235 aee:=hh
theorem arN : H [] 9 235 aef:=hh
theorem arO : H [] 9 235 aeg:=hh
theorem arP : H [] 8 235 aeh:=hh
theorem arQ : H [] 9 235 aei:=hh
theorem arR : H [] 9 235 aej:=hh
theorem arS : H [] 8 235 aek:=hh
theorem arT : H [] 8 235 ael:=hh
theorem arU : H [] 9 235 aem:=hh
theorem arV : H [] 9 235 aen:=hh
theorem arW : H [] 8 235 aeo:=hh
theorem arX : H [] 8 235 aep:=hh
theorem arY : H [] 9 235 aeq:=hh
theorem arZ : H [] 9 235 aer:=hh
theorem ar0 : H [] 9 235 aes:=hh
theorem ar1 : H [] 8 235 aet:=hh
theorem ar2 : H [] 8 235 aeu:=hh
theorem ar3 : H [] 9 235 aev:=hh
theorem ar4 : H [] 9 235 aew:=hh
theorem ar5 : H [] 9 235 aex:=hh
theorem ar6 : H [] 8 235 aey:=hh
theorem ar7 : H [] 8 235 aez:=hh
theorem ar8 : H [] 9 235 aeA:=hh
theorem ar9 : H [] 9 235 aeB:=hh
theorem asa : H [] 8 235 aeC:=hh
theorem asb : H [] 9 235 aeD:=hh
theorem asc : H [] 8 235 aeE:=hh
theorem asd : H [(235,0,[E0,E1,E2,E3,E4,E5,E6,E7,E8,E9,adR,adS,adT,adU,adV,adW,adX,adY,adZ,ad0,ad1,ad2,ad3,ad4,ad5,ad6,ad7,ad8,ad9,aea,aeb,aec,aed,aee,aef,aeg,aeh,aei,aej,aek,ael,aem,aen,aeo,aep,aeq,aer,aes,aet,aeu,aev,aew,aex,aey,aez,aeA,aeB,aeC,aeD,aeE])] 15 99 aeF:=hh
end Go.Eng

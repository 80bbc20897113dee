/- The closed run of the chapter s examples comes to true; no conditions. -/
import Derived.Test.YthplmmeobggkfaaGreatVKh0
import Derived.Test.YthplmmeobggkfaaGreatVKh1
import Derived.Test.YthplmmeobggkfaaGreatVKh2
import Derived.Test.YthplmmeobggkfaaGreatVKh3
import Derived.Test.YthplmmeobggkfaaGreatVKh4
import Derived.Test.YthplmmeobggkfaaGreatVKh5
import Derived.Test.YthplmmeobggkfaaGreatVKh6
import Derived.Test.YthplmmeobggkfaaGreatVKh7
import Derived.Test.YthplmmeobggkfaaGreatVKh8
import Derived.Test.YthplmmeobggkfaaGreatVKh9
import Derived.Test.YthplmmeobggkfaaGreatVKh10
import Derived.Test.YthplmmeobggkfaaGreatVKh11
import Derived.Test.YthplmmeobggkfaaGreatVKh12
import Derived.Test.YthplmmeobggkfaaGreatVKh13
import Derived.Test.YthplmmeobggkfaaGreatVKh14
import Derived.Test.YthplmmeobggkfaaGreatVKh15
import Derived.Test.YthplmmeobggkfaaGreatVKh16
import Derived.Test.YthplmmeobggkfaaGreatVKh17
import Derived.Test.YthplmmeobggkfaaGreatVKh18
import Derived.Test.YthplmmeobggkfaaGreatVKh19
import Derived.Test.YthplmmeobggkfaaGreatVKm0
import Derived.Test.YthplmmeobggkfaaGreatVKm1
import Derived.Test.YthplmmeobggkfaaGreatVKm2
import Derived.Test.YthplmmeobggkfaaGreatVKmz
import Derived.Test.YthplmmeobggkfaaGreatVEngD
set_option linter.all false
namespace Go.Eng
open Go.Proofs
theorem avE : C 86 ale:=ck auU ⟨⟨rfl,c0,c1,c2,c3,c4,c5,c6,c7,c8,c9,afX,auy,auz,auA,afY,auB,auC,auD,auE,auF,afZ,auG,afT,auH,auI,auJ,auK,afH,auL,afJ,afI,Z2,akS,akT,WU,auM,afK,auN,afL,auO,afU,afM,auP,auQ,auR,auS,afN,auT,afO,⟨⟩⟩,⟨⟩⟩
theorem afQ : C 128 alf:=ck auX ⟨⟨rfl,afP,⟨⟩⟩,⟨⟨rfl,auW,⟨⟩⟩,⟨⟩⟩⟩
theorem afR : C 128 alg:=ck auY ⟨⟨rfl,afW,⟨⟩⟩,⟨⟩⟩
theorem afS : C 128 alh:=ck au1 ⟨⟨rfl,auZ,⟨⟩⟩,⟨⟨rfl,au0,⟨⟩⟩,⟨⟩⟩⟩
theorem avF : C 128 ali:=ck au3 ⟨⟨rfl,au2,⟨⟩⟩,⟨⟩⟩
theorem avG : C 128 alj:=ck au5 ⟨⟨rfl,au4,⟨⟩⟩,⟨⟩⟩
theorem avH : C 128 alk:=ck au7 ⟨⟨rfl,au6,⟨⟩⟩,⟨⟩⟩
theorem Qd : C 85 NW:=ck au8 ⟨⟨rfl,auV,⟨⟩⟩,⟨⟨rfl,afQ,afR,afS,avF,avG,avH,⟨⟩⟩,⟨⟩⟩⟩
theorem avI : C 189 alm:=ck au9 ⟨⟨rfl,Qd,⟨⟩⟩,⟨⟩⟩
theorem TU : di (Te UB Z9) Tryz.prog:=UO UB.ok (l:=Z9) ⟨⟨rfl,⟨avE,trivial⟩⟩,⟨⟨rfl,⟨avI,trivial⟩⟩,trivial⟩⟩
theorem avJ : cP Tryz.prog 117 akq:=auv TU mixed (by kernel_rfl) (by kernel_rfl) (OE TU mixed (by kernel_rfl) ajK (OE TU mixed (by kernel_rfl) ajL (OE TU mixed (by kernel_rfl) ajM (aeH TU mixed avD))))
theorem avK : C 77 aln:=ck ava ⟨⟨rfl,avJ,⟨⟩⟩,⟨⟩⟩
theorem Rj : C 46 N3:=ck avb ⟨⟨rfl,avK,⟨⟩⟩,⟨⟩⟩
theorem avL : C 45 alo:=ck avd ⟨⟨rfl,avc,⟨⟩⟩,⟨⟩⟩
theorem afV : C 13 alp:=ck ave ⟨⟨rfl,Rj,⟨⟩⟩,⟨⟨rfl,avL,⟨⟩⟩,⟨⟩⟩⟩
theorem avM : C 86 alq:=ck avi ⟨⟨rfl,avf,avg,avh,⟨⟩⟩,⟨⟩⟩
theorem avN : C 50 alr:=ck avj ⟨⟨rfl,Qd,⟨⟩⟩,⟨⟨rfl,avM,⟨⟩⟩,⟨⟩⟩⟩
theorem avO : C 15 als:=ck avk ⟨⟨rfl,Rj,⟨⟩⟩,⟨⟨rfl,avN,⟨⟩⟩,⟨⟩⟩⟩
theorem avP : C 54 alu:=ck avl ⟨⟨rfl,tr,⟨⟩⟩,⟨⟩⟩
theorem avQ : C 291 alv:=ck avm ⟨⟨rfl,avP,⟨⟩⟩,⟨⟩⟩
theorem at4 : C 54 aks:=ck avn ⟨⟨rfl,tr,⟨⟩⟩,⟨⟨rfl,alI,⟨⟩⟩,⟨⟩⟩⟩
theorem avR : C 291 alw:=ck avo ⟨⟨rfl,tr,⟨⟩⟩,⟨⟨rfl,alI,⟨⟩⟩,⟨⟨rfl,at4,⟨⟩⟩,⟨⟩⟩⟩⟩
theorem avS : C 54 alx:=ck avp ⟨⟨rfl,tr,⟨⟩⟩,⟨⟩⟩
theorem avT : C 291 aly:=ck avq ⟨⟨rfl,tr,⟨⟩⟩,⟨⟨rfl,avS,⟨⟩⟩,⟨⟩⟩⟩
theorem at5 : C 328 akt:=ck avr ⟨⟨rfl,tr,⟨⟩⟩,⟨⟨rfl,alI,⟨⟩⟩,⟨⟩⟩⟩
theorem avU : C 54 alz:=ck avs ⟨⟨rfl,tr,⟨⟩⟩,⟨⟩⟩
theorem avV : C 291 alB:=ck avt ⟨⟨rfl,at5,⟨⟩⟩,⟨⟨rfl,avU,⟨⟩⟩,⟨⟩⟩⟩
theorem avW : C 54 alC:=ck avu ⟨⟨rfl,tr,⟨⟩⟩,⟨⟩⟩
theorem avX : C 328 alD:=ck avw ⟨⟨rfl,tr,⟨⟩⟩,⟨⟨rfl,avv,⟨⟩⟩,⟨⟩⟩⟩
theorem at6 : C 228 aku:=ck avx ⟨⟨rfl,tr,⟨⟩⟩,⟨⟨rfl,avQ,avR,avT,avV,⟨⟩⟩,⟨⟨rfl,at4,avW,⟨⟩⟩,⟨⟨rfl,at5,avX,⟨⟩⟩,⟨⟩⟩⟩⟩⟩
theorem avY : C 149 alE:=ck avy ⟨⟨rfl,at6,⟨⟩⟩,⟨⟩⟩
theorem avZ : C 96 alF:=ck avz ⟨⟨rfl,at6,⟨⟩⟩,⟨⟨rfl,avY,⟨⟩⟩,⟨⟩⟩⟩
theorem na : C 61 mR:=ck avA ⟨⟨rfl,avZ,⟨⟩⟩,⟨⟩⟩
theorem av0 : C 32 alH:=ck avB ⟨⟨rfl,tr,⟨⟩⟩,⟨⟨rfl,at3,⟨⟩⟩,⟨⟩⟩⟩
theorem at7 : C 78 akv:=ck avC ⟨⟨rfl,tr,⟨⟩⟩,⟨⟨rfl,na,⟨⟩⟩,⟨⟨rfl,at3,⟨⟩⟩,⟨⟨rfl,av0,⟨⟩⟩,⟨⟩⟩⟩⟩⟩
theorem aqc : C 343 aa6:=ck alW ⟨⟨rfl,na,⟨⟩⟩,⟨⟩⟩
theorem aqd : C 315 aa7:=ck alX ⟨⟨rfl,aqc,⟨⟩⟩,⟨⟩⟩
theorem aqe : C 343 aa8:=ck alY ⟨⟨rfl,na,⟨⟩⟩,⟨⟩⟩
theorem aqf : C 318 aa9:=ck alZ ⟨⟨rfl,aqe,⟨⟩⟩,⟨⟩⟩
theorem aqg : C 270 aba:=ck al0 ⟨⟨rfl,aqd,⟨⟩⟩,⟨⟨rfl,aqf,⟨⟩⟩,⟨⟩⟩⟩
theorem aqh : C 343 abd:=ck al2 ⟨⟨rfl,na,⟨⟩⟩,⟨⟨rfl,aiw,aix,⟨⟩⟩,⟨⟩⟩⟩
theorem aqi : C 315 abe:=ck al3 ⟨⟨rfl,aqh,⟨⟩⟩,⟨⟩⟩
theorem aqj : C 343 abf:=ck al4 ⟨⟨rfl,na,⟨⟩⟩,⟨⟩⟩
theorem aqk : C 318 abg:=ck al5 ⟨⟨rfl,aqj,⟨⟩⟩,⟨⟩⟩
theorem aql : C 270 abh:=ck al6 ⟨⟨rfl,aqi,⟨⟩⟩,⟨⟨rfl,aqk,⟨⟩⟩,⟨⟩⟩⟩
theorem aqm : C 343 abi:=ck al7 ⟨⟨rfl,na,⟨⟩⟩,⟨⟨rfl,aiw,aix,⟨⟩⟩,⟨⟩⟩⟩
theorem aqn : C 315 abj:=ck al8 ⟨⟨rfl,aqm,⟨⟩⟩,⟨⟩⟩
theorem aqo : C 343 abk:=ck al9 ⟨⟨rfl,na,⟨⟩⟩,⟨⟩⟩
theorem Tz : C 318 abl:=ck ama ⟨⟨rfl,aqo,⟨⟩⟩,⟨⟩⟩
theorem aqp : C 270 abm:=ck amb ⟨⟨rfl,aqn,⟨⟩⟩,⟨⟨rfl,Tz,⟨⟩⟩,⟨⟩⟩⟩
theorem aiP : C 343 Xm:=ck amc ⟨⟨rfl,na,⟨⟩⟩,⟨⟨rfl,aiy,aiz,aiA,aiB,⟨⟩⟩,⟨⟩⟩⟩
theorem Ty : C 315 abr:=ck amd ⟨⟨rfl,aiP,⟨⟩⟩,⟨⟩⟩
theorem aqq : C 317 abt:=ck ame ⟨⟨rfl,aiP,⟨⟩⟩,⟨⟩⟩
theorem aqr : C 270 abu:=ck amf ⟨⟨rfl,Ty,⟨⟩⟩,⟨⟨rfl,aqq,⟨⟩⟩,⟨⟩⟩⟩
theorem aiQ : C 343 Xn:=ck amg ⟨⟨rfl,na,⟨⟩⟩,⟨⟨rfl,aiy,aiz,aiA,aiB,⟨⟩⟩,⟨⟩⟩⟩
theorem aqs : C 315 abv:=ck amh ⟨⟨rfl,aiQ,⟨⟩⟩,⟨⟩⟩
theorem aqt : C 317 abw:=ck ami ⟨⟨rfl,aiQ,⟨⟩⟩,⟨⟩⟩
theorem aqu : C 270 abx:=ck amj ⟨⟨rfl,aqs,⟨⟩⟩,⟨⟨rfl,aqt,⟨⟩⟩,⟨⟩⟩⟩
theorem aiR : C 343 Xo:=ck amk ⟨⟨rfl,na,⟨⟩⟩,⟨⟨rfl,Ls,aiC,aiD,aiE,aiF,⟨⟩⟩,⟨⟩⟩⟩
theorem aqv : C 315 abD:=ck aml ⟨⟨rfl,aiR,⟨⟩⟩,⟨⟩⟩
theorem aqw : C 317 abE:=ck amm ⟨⟨rfl,aiR,⟨⟩⟩,⟨⟩⟩
theorem aqx : C 270 abF:=ck amn ⟨⟨rfl,aqv,⟨⟩⟩,⟨⟨rfl,aqw,⟨⟩⟩,⟨⟩⟩⟩
theorem aiS : C 343 Xp:=ck amo ⟨⟨rfl,na,⟨⟩⟩,⟨⟨rfl,Ls,aiC,aiD,aiE,aiF,⟨⟩⟩,⟨⟩⟩⟩
theorem aqy : C 315 abG:=ck amp ⟨⟨rfl,aiS,⟨⟩⟩,⟨⟩⟩
theorem aqz : C 317 abH:=ck amq ⟨⟨rfl,aiS,⟨⟩⟩,⟨⟩⟩
theorem aqA : C 270 abI:=ck amr ⟨⟨rfl,aqy,⟨⟩⟩,⟨⟨rfl,aqz,⟨⟩⟩,⟨⟩⟩⟩
theorem aqB : C 79 abJ:=ck ams ⟨⟨rfl,at7,⟨⟩⟩,⟨⟨rfl,aqg,aql,aqp,aqr,aqu,aqx,aqA,⟨⟩⟩,⟨⟩⟩⟩
theorem RE : C 80 Lv:=ck amt ⟨⟨rfl,tr,⟨⟩⟩,⟨⟨rfl,TS,⟨⟩⟩,⟨⟩⟩⟩
theorem X6 : C 80 Rw:=ck amu ⟨⟨rfl,tr,⟨⟩⟩,⟨⟩⟩
theorem X7 : C 80 Rx:=ck amv ⟨⟨rfl,tr,⟨⟩⟩,⟨⟩⟩
theorem X8 : C 126 Ry:=ck amw ⟨⟨rfl,tr,⟨⟩⟩,⟨⟨rfl,TS,ad1,⟨⟩⟩,⟨⟩⟩⟩
theorem aiT : C 126 Xr:=ck amy ⟨⟨rfl,tr,⟨⟩⟩,⟨⟨rfl,ad1,⟨⟩⟩,⟨⟨rfl,amx,⟨⟩⟩,⟨⟩⟩⟩⟩
theorem X9 : C 126 Rz:=ck amA ⟨⟨rfl,tr,⟨⟩⟩,⟨⟨rfl,ad1,amz,⟨⟩⟩,⟨⟩⟩⟩
theorem aax : C 14 abK:=ck amB ⟨⟨rfl,na,⟨⟩⟩,⟨⟨rfl,at7,⟨⟩⟩,⟨⟨rfl,aqB,⟨⟩⟩,⟨⟨rfl,RE,X6,X7,⟨⟩⟩,⟨⟨rfl,X8,aiT,X9,⟨⟩⟩,⟨⟩⟩⟩⟩⟩⟩
theorem aaw : C 86 abL:=ck amD ⟨⟨rfl,amC,⟨⟩⟩,⟨⟩⟩
theorem aqC : C 50 abM:=ck amE ⟨⟨rfl,Qd,⟨⟩⟩,⟨⟨rfl,aaw,⟨⟩⟩,⟨⟩⟩⟩
theorem aav : C 15 abN:=ck amF ⟨⟨rfl,Rj,⟨⟩⟩,⟨⟨rfl,aqC,⟨⟩⟩,⟨⟩⟩⟩
theorem aau : C 32 abP:=ck amG ⟨⟨rfl,tr,⟨⟩⟩,⟨⟨rfl,aiG,⟨⟩⟩,⟨⟩⟩⟩
theorem aiU : C 78 Xs:=ck amH ⟨⟨rfl,tr,⟨⟩⟩,⟨⟨rfl,na,⟨⟩⟩,⟨⟨rfl,aiG,⟨⟩⟩,⟨⟨rfl,aau,⟨⟩⟩,⟨⟩⟩⟩⟩⟩
theorem aat : C 343 abQ:=ck amI ⟨⟨rfl,na,⟨⟩⟩,⟨⟩⟩
theorem aqD : C 315 abR:=ck amJ ⟨⟨rfl,aat,⟨⟩⟩,⟨⟩⟩
theorem aas : C 270 abS:=ck amK ⟨⟨rfl,aqD,⟨⟩⟩,⟨⟩⟩
theorem aqE : C 79 abT:=ck amL ⟨⟨rfl,aiU,⟨⟩⟩,⟨⟨rfl,aas,⟨⟩⟩,⟨⟩⟩⟩
theorem aar : C 14 abU:=ck amM ⟨⟨rfl,na,⟨⟩⟩,⟨⟨rfl,aiU,⟨⟩⟩,⟨⟨rfl,aqE,⟨⟩⟩,⟨⟩⟩⟩⟩
theorem aqF : C 86 abV:=ck amO ⟨⟨rfl,amN,aaq,⟨⟩⟩,⟨⟩⟩
theorem aap : C 50 abW:=ck amP ⟨⟨rfl,Qd,⟨⟩⟩,⟨⟨rfl,aqF,⟨⟩⟩,⟨⟩⟩⟩
theorem aqG : C 15 abX:=ck amQ ⟨⟨rfl,Rj,⟨⟩⟩,⟨⟨rfl,aap,⟨⟩⟩,⟨⟩⟩⟩
theorem aiV : C 32 Xt:=ck amR ⟨⟨rfl,tr,⟨⟩⟩,⟨⟨rfl,Hi,⟨⟩⟩,⟨⟩⟩⟩
theorem Rt : C 78 RA:=ck amS ⟨⟨rfl,tr,⟨⟩⟩,⟨⟨rfl,na,⟨⟩⟩,⟨⟨rfl,Hi,⟨⟩⟩,⟨⟨rfl,aiV,⟨⟩⟩,⟨⟩⟩⟩⟩⟩
theorem aqH : C 343 abY:=ck amT ⟨⟨rfl,na,⟨⟩⟩,⟨⟩⟩
theorem Xc : C 315 Xu:=ck amU ⟨⟨rfl,aqH,⟨⟩⟩,⟨⟩⟩
theorem aqI : C 343 abZ:=ck amV ⟨⟨rfl,na,⟨⟩⟩,⟨⟩⟩
theorem Xb : C 318 Xv:=ck amW ⟨⟨rfl,aqI,⟨⟩⟩,⟨⟩⟩
theorem aqJ : C 270 ab0:=ck amX ⟨⟨rfl,Xc,⟨⟩⟩,⟨⟨rfl,Xb,⟨⟩⟩,⟨⟩⟩⟩
theorem aqK : C 343 ab1:=ck amY ⟨⟨rfl,na,⟨⟩⟩,⟨⟨rfl,Ob,⟨⟩⟩,⟨⟩⟩⟩
theorem aiW : C 315 Xw:=ck amZ ⟨⟨rfl,aqK,⟨⟩⟩,⟨⟩⟩
theorem aqL : C 343 ab2:=ck am0 ⟨⟨rfl,na,⟨⟩⟩,⟨⟩⟩
theorem aiX : C 318 Xx:=ck am1 ⟨⟨rfl,aqL,⟨⟩⟩,⟨⟩⟩
theorem aqM : C 270 ab3:=ck am2 ⟨⟨rfl,aiW,⟨⟩⟩,⟨⟨rfl,aiX,⟨⟩⟩,⟨⟩⟩⟩
theorem aqN : C 79 ab4:=ck am3 ⟨⟨rfl,Rt,⟨⟩⟩,⟨⟨rfl,aqJ,aqM,⟨⟩⟩,⟨⟩⟩⟩
theorem aqO : C 14 ab5:=ck am4 ⟨⟨rfl,na,⟨⟩⟩,⟨⟨rfl,Rt,⟨⟩⟩,⟨⟨rfl,aqN,⟨⟩⟩,⟨⟩⟩⟩⟩
theorem aqP : C 50 ab6:=ck am6 ⟨⟨rfl,Qd,⟨⟩⟩,⟨⟨rfl,am5,⟨⟩⟩,⟨⟩⟩⟩
theorem aqQ : C 32 ab7:=ck am7 ⟨⟨rfl,tr,⟨⟩⟩,⟨⟨rfl,ad2,⟨⟩⟩,⟨⟩⟩⟩
theorem TV : C 78 Od:=ck am8 ⟨⟨rfl,tr,⟨⟩⟩,⟨⟨rfl,na,⟨⟩⟩,⟨⟨rfl,ad2,⟨⟩⟩,⟨⟨rfl,aqQ,⟨⟩⟩,⟨⟩⟩⟩⟩⟩
theorem aqR : C 343 ab8:=ck am9 ⟨⟨rfl,na,⟨⟩⟩,⟨⟩⟩
theorem aqS : C 315 ab9:=ck ana ⟨⟨rfl,aqR,⟨⟩⟩,⟨⟩⟩
theorem aqT : C 343 aca:=ck anb ⟨⟨rfl,na,⟨⟩⟩,⟨⟩⟩
theorem aqU : C 318 acb:=ck anc ⟨⟨rfl,aqT,⟨⟩⟩,⟨⟩⟩
theorem aqV : C 270 acd:=ck ane ⟨⟨rfl,aqS,⟨⟩⟩,⟨⟨rfl,aqU,⟨⟩⟩,⟨⟩⟩⟩
theorem aiY : C 343 Xz:=ck anf ⟨⟨rfl,na,⟨⟩⟩,⟨⟨rfl,aiH,⟨⟩⟩,⟨⟩⟩⟩
theorem aqW : C 315 acf:=ck ang ⟨⟨rfl,aiY,⟨⟩⟩,⟨⟩⟩
theorem aqX : C 317 acg:=ck anh ⟨⟨rfl,aiY,⟨⟩⟩,⟨⟩⟩
theorem aqY : C 270 ach:=ck ani ⟨⟨rfl,aqW,⟨⟩⟩,⟨⟨rfl,aqX,⟨⟩⟩,⟨⟩⟩⟩
theorem aiZ : C 343 XA:=ck anj ⟨⟨rfl,na,⟨⟩⟩,⟨⟨rfl,aiH,⟨⟩⟩,⟨⟩⟩⟩
theorem aqZ : C 315 aci:=ck ank ⟨⟨rfl,aiZ,⟨⟩⟩,⟨⟩⟩
theorem aq0 : C 317 acj:=ck anl ⟨⟨rfl,aiZ,⟨⟩⟩,⟨⟩⟩
theorem aq1 : C 270 ack:=ck anm ⟨⟨rfl,aqZ,⟨⟩⟩,⟨⟨rfl,aq0,⟨⟩⟩,⟨⟩⟩⟩
theorem ai0 : C 79 XB:=ck ann ⟨⟨rfl,TV,⟨⟩⟩,⟨⟨rfl,aqV,aqY,aq1,⟨⟩⟩,⟨⟩⟩⟩
theorem ad4 : C 54 TI:=ck ano ⟨⟨rfl,tr,⟨⟩⟩,⟨⟩⟩
theorem ai1 : C 32 XC:=ck anq ⟨⟨rfl,tr,⟨⟩⟩,⟨⟨rfl,anp,⟨⟩⟩,⟨⟩⟩⟩
theorem aq2 : C 78 acn:=ck anr ⟨⟨rfl,na,⟨⟩⟩,⟨⟨rfl,ad4,⟨⟩⟩,⟨⟨rfl,ai1,⟨⟩⟩,⟨⟩⟩⟩⟩
theorem aq3 : C 343 aco:=ck ans ⟨⟨rfl,na,⟨⟩⟩,⟨⟩⟩
theorem ai2 : C 315 XD:=ck ant ⟨⟨rfl,aq3,⟨⟩⟩,⟨⟩⟩
theorem aq4 : C 343 acp:=ck anv ⟨⟨rfl,na,⟨⟩⟩,⟨⟨rfl,Ob,anu,⟨⟩⟩,⟨⟩⟩⟩
theorem ai3 : C 318 XE:=ck anw ⟨⟨rfl,aq4,⟨⟩⟩,⟨⟩⟩
theorem aq5 : C 270 acq:=ck anx ⟨⟨rfl,ai2,⟨⟩⟩,⟨⟨rfl,ai3,⟨⟩⟩,⟨⟩⟩⟩
theorem ai4 : C 343 XF:=ck anA ⟨⟨rfl,na,⟨⟩⟩,⟨⟨rfl,Ob,anz,⟨⟩⟩,⟨⟩⟩⟩
theorem ai5 : C 315 XG:=ck anB ⟨⟨rfl,ai4,⟨⟩⟩,⟨⟩⟩
theorem ai6 : C 317 XH:=ck anC ⟨⟨rfl,ai4,⟨⟩⟩,⟨⟩⟩
theorem aq6 : C 270 acr:=ck anD ⟨⟨rfl,ai5,⟨⟩⟩,⟨⟨rfl,ai6,⟨⟩⟩,⟨⟩⟩⟩
theorem ai7 : C 343 XI:=ck anE ⟨⟨rfl,na,⟨⟩⟩,⟨⟨rfl,Ob,⟨⟩⟩,⟨⟩⟩⟩
theorem ai8 : C 315 XJ:=ck anF ⟨⟨rfl,ai7,⟨⟩⟩,⟨⟩⟩
theorem ai9 : C 317 XK:=ck anG ⟨⟨rfl,ai7,⟨⟩⟩,⟨⟩⟩
theorem aq7 : C 270 acs:=ck anH ⟨⟨rfl,ai8,⟨⟩⟩,⟨⟨rfl,ai9,⟨⟩⟩,⟨⟩⟩⟩
theorem aq8 : C 79 acu:=ck anI ⟨⟨rfl,aq2,⟨⟩⟩,⟨⟨rfl,aq5,aq6,aq7,⟨⟩⟩,⟨⟩⟩⟩
theorem ad5 : C 54 TJ:=ck anJ ⟨⟨rfl,tr,⟨⟩⟩,⟨⟩⟩
theorem aja : C 32 XL:=ck anL ⟨⟨rfl,tr,⟨⟩⟩,⟨⟨rfl,anK,⟨⟩⟩,⟨⟩⟩⟩
theorem aq9 : C 78 acv:=ck anM ⟨⟨rfl,na,⟨⟩⟩,⟨⟨rfl,ad5,⟨⟩⟩,⟨⟨rfl,aja,⟨⟩⟩,⟨⟩⟩⟩⟩
theorem ara : C 343 acw:=ck anN ⟨⟨rfl,na,⟨⟩⟩,⟨⟩⟩
theorem ajb : C 315 XM:=ck anO ⟨⟨rfl,ara,⟨⟩⟩,⟨⟩⟩
theorem arb : C 343 acx:=ck anP ⟨⟨rfl,na,⟨⟩⟩,⟨⟩⟩
theorem ajc : C 318 XN:=ck anQ ⟨⟨rfl,arb,⟨⟩⟩,⟨⟩⟩
theorem arc : C 270 acy:=ck anR ⟨⟨rfl,ajb,⟨⟩⟩,⟨⟨rfl,ajc,⟨⟩⟩,⟨⟩⟩⟩
theorem ajd : C 343 XO:=ck anS ⟨⟨rfl,na,⟨⟩⟩,⟨⟨rfl,aiI,⟨⟩⟩,⟨⟩⟩⟩
theorem aje : C 315 XP:=ck anT ⟨⟨rfl,ajd,⟨⟩⟩,⟨⟩⟩
theorem ajf : C 317 XQ:=ck anU ⟨⟨rfl,ajd,⟨⟩⟩,⟨⟩⟩
theorem ard : C 270 acA:=ck anV ⟨⟨rfl,aje,⟨⟩⟩,⟨⟨rfl,ajf,⟨⟩⟩,⟨⟩⟩⟩
theorem ajg : C 343 XR:=ck anW ⟨⟨rfl,na,⟨⟩⟩,⟨⟨rfl,aiI,⟨⟩⟩,⟨⟩⟩⟩
theorem ajh : C 315 XS:=ck anX ⟨⟨rfl,ajg,⟨⟩⟩,⟨⟩⟩
theorem aji : C 317 XT:=ck anY ⟨⟨rfl,ajg,⟨⟩⟩,⟨⟩⟩
theorem are : C 270 acB:=ck anZ ⟨⟨rfl,ajh,⟨⟩⟩,⟨⟨rfl,aji,⟨⟩⟩,⟨⟩⟩⟩
theorem arf : C 79 acC:=ck an0 ⟨⟨rfl,aq9,⟨⟩⟩,⟨⟨rfl,arc,ard,are,⟨⟩⟩,⟨⟩⟩⟩
theorem arh : C 16 acD:=ck an1 ⟨⟨rfl,na,⟨⟩⟩,⟨⟨rfl,RE,X6,X7,⟨⟩⟩,⟨⟨rfl,X8,X9,⟨⟩⟩,⟨⟨rfl,Rt,TV,⟨⟩⟩,⟨⟨rfl,ai0,aq8,arf,⟨⟩⟩,⟨⟨rfl,ad4,ad5,⟨⟩⟩,⟨⟩⟩⟩⟩⟩⟩⟩
theorem ari : C 50 acE:=ck an3 ⟨⟨rfl,Qd,⟨⟩⟩,⟨⟨rfl,an2,⟨⟩⟩,⟨⟩⟩⟩
theorem arj : C 50 acF:=ck an5 ⟨⟨rfl,Qd,⟨⟩⟩,⟨⟨rfl,an4,⟨⟩⟩,⟨⟩⟩⟩
theorem ark : C 32 acG:=ck an6 ⟨⟨rfl,tr,⟨⟩⟩,⟨⟨rfl,TS,⟨⟩⟩,⟨⟩⟩⟩
theorem ad6 : C 78 TK:=ck an7 ⟨⟨rfl,tr,⟨⟩⟩,⟨⟨rfl,na,⟨⟩⟩,⟨⟨rfl,TS,⟨⟩⟩,⟨⟨rfl,ark,⟨⟩⟩,⟨⟩⟩⟩⟩⟩
theorem arl : C 32 acH:=ck an8 ⟨⟨rfl,tr,⟨⟩⟩,⟨⟨rfl,X3,⟨⟩⟩,⟨⟩⟩⟩
theorem TW : C 78 Oe:=ck an9 ⟨⟨rfl,tr,⟨⟩⟩,⟨⟨rfl,na,⟨⟩⟩,⟨⟨rfl,X3,⟨⟩⟩,⟨⟨rfl,arl,⟨⟩⟩,⟨⟩⟩⟩⟩⟩
theorem arn : C 32 acJ:=ck aoa ⟨⟨rfl,tr,⟨⟩⟩,⟨⟨rfl,aiJ,⟨⟩⟩,⟨⟩⟩⟩
theorem ad7 : C 78 TN:=ck aob ⟨⟨rfl,tr,⟨⟩⟩,⟨⟨rfl,na,⟨⟩⟩,⟨⟨rfl,aiJ,⟨⟩⟩,⟨⟨rfl,arn,⟨⟩⟩,⟨⟩⟩⟩⟩⟩
theorem aro : C 343 acK:=ck aoc ⟨⟨rfl,na,⟨⟩⟩,⟨⟩⟩
theorem arp : C 315 acL:=ck aod ⟨⟨rfl,aro,⟨⟩⟩,⟨⟩⟩
theorem arq : C 343 acM:=ck aoe ⟨⟨rfl,na,⟨⟩⟩,⟨⟩⟩
theorem ars : C 317 acN:=ck aof ⟨⟨rfl,arq,⟨⟩⟩,⟨⟩⟩
theorem art : C 270 acO:=ck aog ⟨⟨rfl,arp,⟨⟩⟩,⟨⟨rfl,ars,⟨⟩⟩,⟨⟩⟩⟩
theorem aru : C 79 acP:=ck aoh ⟨⟨rfl,ad7,⟨⟩⟩,⟨⟨rfl,art,⟨⟩⟩,⟨⟩⟩⟩
theorem arv : C 18 acQ:=ck aoi ⟨⟨rfl,na,⟨⟩⟩,⟨⟨rfl,RE,⟨⟩⟩,⟨⟨rfl,ad6,TW,ad7,⟨⟩⟩,⟨⟨rfl,aru,⟨⟩⟩,⟨⟩⟩⟩⟩⟩
theorem arw : C 15 acR:=ck aoj ⟨⟨rfl,Rj,⟨⟩⟩,⟨⟨rfl,ari,⟨⟩⟩,⟨⟩⟩⟩
theorem arx : C 15 acS:=ck aok ⟨⟨rfl,Rj,⟨⟩⟩,⟨⟨rfl,arj,⟨⟩⟩,⟨⟩⟩⟩
theorem ajj : C 343 XU:=ck aol ⟨⟨rfl,na,⟨⟩⟩,⟨⟩⟩
theorem ary : C 315 acT:=ck aom ⟨⟨rfl,ajj,⟨⟩⟩,⟨⟩⟩
theorem arz : C 317 acU:=ck aon ⟨⟨rfl,ajj,⟨⟩⟩,⟨⟩⟩
theorem arA : C 270 acV:=ck aoo ⟨⟨rfl,ary,⟨⟩⟩,⟨⟨rfl,arz,⟨⟩⟩,⟨⟩⟩⟩
theorem arB : C 79 acW:=ck aoq ⟨⟨rfl,ad6,⟨⟩⟩,⟨⟨rfl,arA,⟨⟩⟩,⟨⟩⟩⟩
theorem arC : C 343 acX:=ck aor ⟨⟨rfl,na,⟨⟩⟩,⟨⟩⟩
theorem arD : C 315 acY:=ck aos ⟨⟨rfl,arC,⟨⟩⟩,⟨⟩⟩
theorem arE : C 270 acZ:=ck aot ⟨⟨rfl,arD,⟨⟩⟩,⟨⟩⟩
theorem ad8 : C 79 TO:=ck aou ⟨⟨rfl,TW,⟨⟩⟩,⟨⟨rfl,arE,⟨⟩⟩,⟨⟩⟩⟩
theorem arF : C 16 ac0:=ck aov ⟨⟨rfl,na,⟨⟩⟩,⟨⟨rfl,RE,⟨⟩⟩,⟨⟨rfl,ad6,TW,ad7,⟨⟩⟩,⟨⟨rfl,arB,ad8,⟨⟩⟩,⟨⟩⟩⟩⟩⟩
theorem arG : C 15 ac1:=ck aow ⟨⟨rfl,Rj,⟨⟩⟩,⟨⟨rfl,aqP,⟨⟩⟩,⟨⟩⟩⟩
theorem ajk : C 32 XV:=ck aox ⟨⟨rfl,tr,⟨⟩⟩,⟨⟨rfl,X4,⟨⟩⟩,⟨⟩⟩⟩
theorem ajl : C 78 XW:=ck aoy ⟨⟨rfl,tr,⟨⟩⟩,⟨⟨rfl,na,⟨⟩⟩,⟨⟨rfl,X4,⟨⟩⟩,⟨⟨rfl,ajk,⟨⟩⟩,⟨⟩⟩⟩⟩⟩
theorem arH : C 54 ac2:=ck aoz ⟨⟨rfl,tr,⟨⟩⟩,⟨⟩⟩
theorem arI : C 54 ac3:=ck aoA ⟨⟨rfl,tr,⟨⟩⟩,⟨⟩⟩
theorem arJ : C 22 ac4:=ck aoB ⟨⟨rfl,tr,⟨⟩⟩,⟨⟨rfl,na,⟨⟩⟩,⟨⟨rfl,TS,ad2,X4,⟨⟩⟩,⟨⟨rfl,RE,X6,X7,⟨⟩⟩,⟨⟨rfl,X8,X9,⟨⟩⟩,⟨⟨rfl,TV,ajl,⟨⟩⟩,⟨⟨rfl,ai0,⟨⟩⟩,⟨⟨rfl,ad4,ad5,arH,arI,⟨⟩⟩,⟨⟨rfl,ai1,aja,⟨⟩⟩,⟨⟨rfl,ai2,ai5,ai8,ajb,aje,ajh,⟨⟩⟩,⟨⟨rfl,ai3,ajc,⟨⟩⟩,⟨⟨rfl,ai6,ai9,ajf,aji,⟨⟩⟩,⟨⟩⟩⟩⟩⟩⟩⟩⟩⟩⟩⟩⟩⟩
theorem arK : C 86 ac5:=ck aoH ⟨⟨rfl,aoC,aoD,aoE,aoF,aoG,⟨⟩⟩,⟨⟩⟩
theorem arL : C 50 ac6:=ck aoI ⟨⟨rfl,Qd,⟨⟩⟩,⟨⟨rfl,arK,⟨⟩⟩,⟨⟩⟩⟩
theorem arM : C 15 ac7:=ck aoJ ⟨⟨rfl,Rj,⟨⟩⟩,⟨⟨rfl,arL,⟨⟩⟩,⟨⟩⟩⟩
theorem arN : C 20 ac8:=ck aoK ⟨⟨rfl,arM,⟨⟩⟩,⟨⟩⟩
theorem ajm : C 32 XX:=ck aoL ⟨⟨rfl,tr,⟨⟩⟩,⟨⟨rfl,X5,⟨⟩⟩,⟨⟩⟩⟩
theorem arO : C 78 ac9:=ck aoM ⟨⟨rfl,tr,⟨⟩⟩,⟨⟨rfl,na,⟨⟩⟩,⟨⟨rfl,X5,⟨⟩⟩,⟨⟨rfl,ajm,⟨⟩⟩,⟨⟩⟩⟩⟩⟩
theorem arP : C 54 ada:=ck aoN ⟨⟨rfl,tr,⟨⟩⟩,⟨⟨rfl,Hi,⟨⟩⟩,⟨⟩⟩⟩
theorem arQ : C 343 adb:=ck aoP ⟨⟨rfl,na,⟨⟩⟩,⟨⟨rfl,Ob,aoO,⟨⟩⟩,⟨⟩⟩⟩
theorem arR : C 315 ade:=ck aoQ ⟨⟨rfl,arQ,⟨⟩⟩,⟨⟩⟩
theorem arS : C 343 adg:=ck aoR ⟨⟨rfl,na,⟨⟩⟩,⟨⟨rfl,TT,Ju,aiK,⟨⟩⟩,⟨⟩⟩⟩
theorem arT : C 318 adh:=ck aoS ⟨⟨rfl,arS,⟨⟩⟩,⟨⟩⟩
theorem ajn : C 343 XY:=ck aoT ⟨⟨rfl,na,⟨⟩⟩,⟨⟨rfl,TT,Ju,aiL,⟨⟩⟩,⟨⟩⟩⟩
theorem arU : C 315 adj:=ck aoU ⟨⟨rfl,ajn,⟨⟩⟩,⟨⟩⟩
theorem arV : C 317 adk:=ck aoV ⟨⟨rfl,ajn,⟨⟩⟩,⟨⟩⟩
theorem ajo : C 343 XZ:=ck aoW ⟨⟨rfl,na,⟨⟩⟩,⟨⟨rfl,TT,Ju,aiL,⟨⟩⟩,⟨⟩⟩⟩
theorem arW : C 315 adl:=ck aoX ⟨⟨rfl,ajo,⟨⟩⟩,⟨⟩⟩
theorem arX : C 317 adm:=ck aoY ⟨⟨rfl,ajo,⟨⟩⟩,⟨⟩⟩
theorem ajp : C 343 X1:=ck aoZ ⟨⟨rfl,na,⟨⟩⟩,⟨⟨rfl,TT,Ju,aiM,ad3,⟨⟩⟩,⟨⟩⟩⟩
theorem arY : C 315 ado:=ck ao0 ⟨⟨rfl,ajp,⟨⟩⟩,⟨⟩⟩
theorem arZ : C 317 adp:=ck ao1 ⟨⟨rfl,ajp,⟨⟩⟩,⟨⟩⟩
theorem ajq : C 343 X2:=ck ao2 ⟨⟨rfl,na,⟨⟩⟩,⟨⟨rfl,TT,Ju,aiM,aiN,⟨⟩⟩,⟨⟩⟩⟩
theorem ar0 : C 315 adr:=ck ao3 ⟨⟨rfl,ajq,⟨⟩⟩,⟨⟩⟩
theorem ar1 : C 317 ads:=ck ao4 ⟨⟨rfl,ajq,⟨⟩⟩,⟨⟩⟩
theorem ar2 : C 54 adt:=ck ao6 ⟨⟨rfl,tr,⟨⟩⟩,⟨⟨rfl,X5,⟨⟩⟩,⟨⟩⟩⟩
theorem ar3 : C 343 adu:=ck ao7 ⟨⟨rfl,na,⟨⟩⟩,⟨⟩⟩
theorem ar4 : C 315 adv:=ck ao8 ⟨⟨rfl,ar3,⟨⟩⟩,⟨⟩⟩
theorem ar5 : C 343 adw:=ck ao9 ⟨⟨rfl,na,⟨⟩⟩,⟨⟨rfl,Ju,aiK,⟨⟩⟩,⟨⟩⟩⟩
theorem ar6 : C 318 adx:=ck apa ⟨⟨rfl,ar5,⟨⟩⟩,⟨⟩⟩
theorem ar7 : C 343 adz:=ck apb ⟨⟨rfl,na,⟨⟩⟩,⟨⟨rfl,Ju,ad3,aiO,⟨⟩⟩,⟨⟩⟩⟩
theorem ar8 : C 315 adA:=ck apc ⟨⟨rfl,ar7,⟨⟩⟩,⟨⟩⟩
theorem ar9 : C 343 adB:=ck apd ⟨⟨rfl,na,⟨⟩⟩,⟨⟨rfl,Ju,ad3,⟨⟩⟩,⟨⟩⟩⟩
theorem asa : C 317 adC:=ck ape ⟨⟨rfl,ar9,⟨⟩⟩,⟨⟩⟩
theorem asb : C 343 adD:=ck apf ⟨⟨rfl,na,⟨⟩⟩,⟨⟨rfl,Ju,aiN,aiO,⟨⟩⟩,⟨⟩⟩⟩
theorem asc : C 315 adE:=ck apg ⟨⟨rfl,asb,⟨⟩⟩,⟨⟩⟩
theorem asd : C 343 adF:=ck aph ⟨⟨rfl,na,⟨⟩⟩,⟨⟩⟩
theorem ase : C 317 adG:=ck api ⟨⟨rfl,asd,⟨⟩⟩,⟨⟩⟩
theorem asf : C 22 adH:=ck apj ⟨⟨rfl,tr,⟨⟩⟩,⟨⟨rfl,na,⟨⟩⟩,⟨⟨rfl,RE,X6,X7,⟨⟩⟩,⟨⟨rfl,X8,aiT,X9,⟨⟩⟩,⟨⟨rfl,Hi,X3,X5,ao5,⟨⟩⟩,⟨⟨rfl,aiV,ajm,⟨⟩⟩,⟨⟨rfl,Rt,TW,arO,⟨⟩⟩,⟨⟨rfl,Xc,aiW,arR,arU,arW,arY,ar0,ar4,ar8,asc,⟨⟩⟩,⟨⟨rfl,Xb,aiX,arT,ar6,⟨⟩⟩,⟨⟨rfl,ad8,⟨⟩⟩,⟨⟨rfl,arP,ar2,⟨⟩⟩,⟨⟨rfl,arV,arX,arZ,ar1,asa,ase,⟨⟩⟩,⟨⟩⟩⟩⟩⟩⟩⟩⟩⟩⟩⟩⟩⟩
theorem asg : C 22 adI:=ck apk ⟨⟨rfl,tr,⟨⟩⟩,⟨⟨rfl,na,⟨⟩⟩,⟨⟨rfl,TV,TW,⟨⟩⟩,⟨⟨rfl,X3,⟨⟩⟩,⟨⟨rfl,ad8,⟨⟩⟩,⟨⟩⟩⟩⟩⟩⟩
theorem ash : C 7 adJ:=ck apl ⟨⟨rfl,tr,⟨⟩⟩,⟨⟨rfl,na,⟨⟩⟩,⟨⟨rfl,TV,ajl,⟨⟩⟩,⟨⟨rfl,X4,⟨⟩⟩,⟨⟨rfl,ajk,⟨⟩⟩,⟨⟩⟩⟩⟩⟩⟩
theorem asi : C 86 adK:=ck apo ⟨⟨rfl,apm,apn,⟨⟩⟩,⟨⟩⟩
theorem asj : C 50 adL:=ck apq ⟨⟨rfl,Qd,⟨⟩⟩,⟨⟨rfl,asi,⟨⟩⟩,⟨⟩⟩⟩
theorem asl : C 15 adM:=ck apr ⟨⟨rfl,Rj,⟨⟩⟩,⟨⟨rfl,asj,⟨⟩⟩,⟨⟩⟩⟩
theorem asm : C 86 adN:=ck apw ⟨⟨rfl,aps,apt,apu,apv,⟨⟩⟩,⟨⟩⟩
theorem asn : C 50 adO:=ck apx ⟨⟨rfl,Qd,⟨⟩⟩,⟨⟨rfl,asm,⟨⟩⟩,⟨⟩⟩⟩
theorem aso : C 15 adP:=ck apy ⟨⟨rfl,Rj,⟨⟩⟩,⟨⟨rfl,asn,⟨⟩⟩,⟨⟩⟩⟩
theorem asp : C 86 adQ:=ck apJ ⟨⟨rfl,apA,apC,apD,apE,apF,apG,apH,apI,⟨⟩⟩,⟨⟩⟩
theorem asq : C 50 adR:=ck apK ⟨⟨rfl,Qd,⟨⟩⟩,⟨⟨rfl,asp,⟨⟩⟩,⟨⟩⟩⟩
theorem asr : C 15 adS:=ck apL ⟨⟨rfl,Rj,⟨⟩⟩,⟨⟨rfl,asq,⟨⟩⟩,⟨⟩⟩⟩
theorem ass : C 86 adT:=ck apY ⟨⟨rfl,apM,apN,apO,apP,apQ,apR,apS,apT,apU,apV,apW,apX,⟨⟩⟩,⟨⟩⟩
theorem ast : C 50 adU:=ck apZ ⟨⟨rfl,Qd,⟨⟩⟩,⟨⟨rfl,ass,⟨⟩⟩,⟨⟩⟩⟩
theorem asu : C 15 adV:=ck ap0 ⟨⟨rfl,Rj,⟨⟩⟩,⟨⟨rfl,ast,⟨⟩⟩,⟨⟩⟩⟩
theorem asv : C 23 adW:=ck ap2 ⟨⟨rfl,ap1,⟨⟩⟩,⟨⟩⟩
theorem asw : C 40 adX:=ck ap4 ⟨⟨rfl,ap3,⟨⟩⟩,⟨⟩⟩
theorem asx : C 23 adY:=ck ap5 ⟨⟨rfl,asw,⟨⟩⟩,⟨⟩⟩
theorem asy : C 50 adZ:=ck ap7 ⟨⟨rfl,Qd,⟨⟩⟩,⟨⟨rfl,ap6,⟨⟩⟩,⟨⟩⟩⟩
theorem asz : C 50 ad0:=ck ap9 ⟨⟨rfl,Qd,⟨⟩⟩,⟨⟨rfl,ap8,⟨⟩⟩,⟨⟩⟩⟩
theorem asA : C 6 aiv:=ck aqb ⟨⟨rfl,Rj,⟨⟩⟩,⟨⟨rfl,afV,⟨⟩⟩,⟨⟨rfl,avO,aav,aqG,arw,arx,arG,asl,aso,asr,asu,⟨⟩⟩,⟨⟨rfl,aax,aar,aqO,⟨⟩⟩,⟨⟨rfl,arh,arF,⟨⟩⟩,⟨⟨rfl,arv,⟨⟩⟩,⟨⟨rfl,arJ,asf,asg,⟨⟩⟩,⟨⟨rfl,arN,⟨⟩⟩,⟨⟨rfl,ash,⟨⟩⟩,⟨⟨rfl,apz,asv,asx,aqa,⟨⟩⟩,⟨⟨rfl,asy,asz,⟨⟩⟩,⟨⟩⟩⟩⟩⟩⟩⟩⟩⟩⟩⟩⟩
end Go.Eng

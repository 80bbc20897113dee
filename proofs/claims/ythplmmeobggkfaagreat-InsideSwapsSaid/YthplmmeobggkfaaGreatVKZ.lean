/- The closed run of the chapter s examples comes to true; no conditions. -/
import Derived.Test.YthplmmeobggkfaaGreatVKh0
import Derived.Test.YthplmmeobggkfaaGreatVKh1
import Derived.Test.YthplmmeobggkfaaGreatVKh2
import Derived.Test.YthplmmeobggkfaaGreatVKh3
import Derived.Test.YthplmmeobggkfaaGreatVKh4
import Derived.Test.YthplmmeobggkfaaGreatVKh5
import Derived.Test.YthplmmeobggkfaaGreatVKh6
import Derived.Test.YthplmmeobggkfaaGreatVKh7
import Derived.Test.YthplmmeobggkfaaGreatVKh8
import Derived.Test.YthplmmeobggkfaaGreatVKh9
import Derived.Test.YthplmmeobggkfaaGreatVKh10
import Derived.Test.YthplmmeobggkfaaGreatVKh11
import Derived.Test.YthplmmeobggkfaaGreatVKh12
import Derived.Test.YthplmmeobggkfaaGreatVKh13
import Derived.Test.YthplmmeobggkfaaGreatVKh14
import Derived.Test.YthplmmeobggkfaaGreatVKh15
import Derived.Test.YthplmmeobggkfaaGreatVKh16
import Derived.Test.YthplmmeobggkfaaGreatVKh17
import Derived.Test.YthplmmeobggkfaaGreatVKh18
import Derived.Test.YthplmmeobggkfaaGreatVKh19
import Derived.Test.YthplmmeobggkfaaGreatVKm0
import Derived.Test.YthplmmeobggkfaaGreatVKm1
import Derived.Test.YthplmmeobggkfaaGreatVKm2
import Derived.Test.YthplmmeobggkfaaGreatVKmz
import Derived.Test.YthplmmeobggkfaaGreatVEngD
set_option linter.all false
namespace Go.Eng
open Go.Proofs
theorem avD : C 86 ald:=ck auT ⟨⟨rfl,c0,c1,c2,c3,c4,c5,c6,c7,c8,c9,afV,auw,auy,auz,afW,auA,auB,auC,auD,auE,afX,auF,afR,auG,auH,auI,auJ,afF,auK,afH,afG,Z0,akR,akS,WR,auL,afI,auM,afJ,auN,afS,afK,auO,auP,auQ,auR,afL,auS,afM,⟨⟩⟩,⟨⟩⟩
theorem afO : C 128 ale:=ck auW ⟨⟨rfl,afN,⟨⟩⟩,⟨⟨rfl,auV,⟨⟩⟩,⟨⟩⟩⟩
theorem afP : C 128 alf:=ck auX ⟨⟨rfl,afU,⟨⟩⟩,⟨⟩⟩
theorem afQ : C 128 alg:=ck au0 ⟨⟨rfl,auY,⟨⟩⟩,⟨⟨rfl,auZ,⟨⟩⟩,⟨⟩⟩⟩
theorem avE : C 128 alh:=ck au2 ⟨⟨rfl,au1,⟨⟩⟩,⟨⟩⟩
theorem avF : C 128 ali:=ck au4 ⟨⟨rfl,au3,⟨⟩⟩,⟨⟩⟩
theorem avG : C 128 alj:=ck au6 ⟨⟨rfl,au5,⟨⟩⟩,⟨⟩⟩
theorem Qb : C 85 NT:=ck au7 ⟨⟨rfl,auU,⟨⟩⟩,⟨⟨rfl,afO,afP,afQ,avE,avF,avG,⟨⟩⟩,⟨⟩⟩⟩
theorem avH : C 189 alk:=ck au8 ⟨⟨rfl,Qb,⟨⟩⟩,⟨⟩⟩
theorem TQ : dh (Tb UB Z7) Tryz.prog:=UL UB.ok (l:=Z7) ⟨⟨rfl,⟨avD,trivial⟩⟩,⟨⟨rfl,⟨avH,trivial⟩⟩,trivial⟩⟩
theorem avI : cP Tryz.prog 117 akp:=auu TQ mixed (by kernel_rfl) (by kernel_rfl) (OB TQ mixed (by kernel_rfl) ajI (OB TQ mixed (by kernel_rfl) ajJ (OB TQ mixed (by kernel_rfl) ajK (aeF TQ mixed avC))))
theorem avJ : C 77 alm:=ck au9 ⟨⟨rfl,avI,⟨⟩⟩,⟨⟩⟩
theorem Rg : C 46 N1:=ck ava ⟨⟨rfl,avJ,⟨⟩⟩,⟨⟩⟩
theorem avK : C 45 aln:=ck avc ⟨⟨rfl,avb,⟨⟩⟩,⟨⟩⟩
theorem afT : C 13 alo:=ck avd ⟨⟨rfl,Rg,⟨⟩⟩,⟨⟨rfl,avK,⟨⟩⟩,⟨⟩⟩⟩
theorem avL : C 86 alp:=ck avh ⟨⟨rfl,ave,avf,avg,⟨⟩⟩,⟨⟩⟩
theorem avM : C 50 alq:=ck avi ⟨⟨rfl,Qb,⟨⟩⟩,⟨⟨rfl,avL,⟨⟩⟩,⟨⟩⟩⟩
theorem avN : C 15 alr:=ck avj ⟨⟨rfl,Rg,⟨⟩⟩,⟨⟨rfl,avM,⟨⟩⟩,⟨⟩⟩⟩
theorem avO : C 54 als:=ck avk ⟨⟨rfl,tc,⟨⟩⟩,⟨⟩⟩
theorem avP : C 291 alu:=ck avl ⟨⟨rfl,avO,⟨⟩⟩,⟨⟩⟩
theorem at3 : C 54 akr:=ck avm ⟨⟨rfl,tc,⟨⟩⟩,⟨⟨rfl,alH,⟨⟩⟩,⟨⟩⟩⟩
theorem avQ : C 291 alv:=ck avn ⟨⟨rfl,tc,⟨⟩⟩,⟨⟨rfl,alH,⟨⟩⟩,⟨⟨rfl,at3,⟨⟩⟩,⟨⟩⟩⟩⟩
theorem avR : C 54 alw:=ck avo ⟨⟨rfl,tc,⟨⟩⟩,⟨⟩⟩
theorem avS : C 291 alx:=ck avp ⟨⟨rfl,tc,⟨⟩⟩,⟨⟨rfl,avR,⟨⟩⟩,⟨⟩⟩⟩
theorem at4 : C 328 aks:=ck avq ⟨⟨rfl,tc,⟨⟩⟩,⟨⟨rfl,alH,⟨⟩⟩,⟨⟩⟩⟩
theorem avT : C 54 aly:=ck avr ⟨⟨rfl,tc,⟨⟩⟩,⟨⟩⟩
theorem avU : C 291 alz:=ck avs ⟨⟨rfl,at4,⟨⟩⟩,⟨⟨rfl,avT,⟨⟩⟩,⟨⟩⟩⟩
theorem avV : C 54 alB:=ck avt ⟨⟨rfl,tc,⟨⟩⟩,⟨⟩⟩
theorem avW : C 328 alC:=ck avv ⟨⟨rfl,tc,⟨⟩⟩,⟨⟨rfl,avu,⟨⟩⟩,⟨⟩⟩⟩
theorem at5 : C 228 akt:=ck avw ⟨⟨rfl,tc,⟨⟩⟩,⟨⟨rfl,avP,avQ,avS,avU,⟨⟩⟩,⟨⟨rfl,at3,avV,⟨⟩⟩,⟨⟨rfl,at4,avW,⟨⟩⟩,⟨⟩⟩⟩⟩⟩
theorem avX : C 149 alD:=ck avx ⟨⟨rfl,at5,⟨⟩⟩,⟨⟩⟩
theorem avY : C 96 alE:=ck avy ⟨⟨rfl,at5,⟨⟩⟩,⟨⟨rfl,avX,⟨⟩⟩,⟨⟩⟩⟩
theorem m7 : C 61 mO:=ck avz ⟨⟨rfl,avY,⟨⟩⟩,⟨⟩⟩
theorem avZ : C 32 alG:=ck avA ⟨⟨rfl,tc,⟨⟩⟩,⟨⟨rfl,at2,⟨⟩⟩,⟨⟩⟩⟩
theorem at6 : C 78 aku:=ck avB ⟨⟨rfl,tc,⟨⟩⟩,⟨⟨rfl,m7,⟨⟩⟩,⟨⟨rfl,at2,⟨⟩⟩,⟨⟨rfl,avZ,⟨⟩⟩,⟨⟩⟩⟩⟩⟩
theorem aqb : C 343 aa4:=ck alV ⟨⟨rfl,m7,⟨⟩⟩,⟨⟩⟩
theorem aqc : C 315 aa5:=ck alW ⟨⟨rfl,aqb,⟨⟩⟩,⟨⟩⟩
theorem aqd : C 343 aa6:=ck alX ⟨⟨rfl,m7,⟨⟩⟩,⟨⟩⟩
theorem aqe : C 318 aa7:=ck alY ⟨⟨rfl,aqd,⟨⟩⟩,⟨⟩⟩
theorem aqf : C 270 aa8:=ck alZ ⟨⟨rfl,aqc,⟨⟩⟩,⟨⟨rfl,aqe,⟨⟩⟩,⟨⟩⟩⟩
theorem aqg : C 343 abb:=ck al0 ⟨⟨rfl,m7,⟨⟩⟩,⟨⟨rfl,aiu,aiv,⟨⟩⟩,⟨⟩⟩⟩
theorem aqh : C 315 abc:=ck al2 ⟨⟨rfl,aqg,⟨⟩⟩,⟨⟩⟩
theorem aqi : C 343 abd:=ck al3 ⟨⟨rfl,m7,⟨⟩⟩,⟨⟩⟩
theorem aqj : C 318 abe:=ck al4 ⟨⟨rfl,aqi,⟨⟩⟩,⟨⟩⟩
theorem aqk : C 270 abf:=ck al5 ⟨⟨rfl,aqh,⟨⟩⟩,⟨⟨rfl,aqj,⟨⟩⟩,⟨⟩⟩⟩
theorem aql : C 343 abg:=ck al6 ⟨⟨rfl,m7,⟨⟩⟩,⟨⟨rfl,aiu,aiv,⟨⟩⟩,⟨⟩⟩⟩
theorem aqm : C 315 abh:=ck al7 ⟨⟨rfl,aql,⟨⟩⟩,⟨⟩⟩
theorem aqn : C 343 abi:=ck al8 ⟨⟨rfl,m7,⟨⟩⟩,⟨⟩⟩
theorem Tv : C 318 abj:=ck al9 ⟨⟨rfl,aqn,⟨⟩⟩,⟨⟩⟩
theorem aqo : C 270 abk:=ck ama ⟨⟨rfl,aqm,⟨⟩⟩,⟨⟨rfl,Tv,⟨⟩⟩,⟨⟩⟩⟩
theorem aiN : C 343 Xk:=ck amb ⟨⟨rfl,m7,⟨⟩⟩,⟨⟨rfl,aiw,aix,aiy,aiz,⟨⟩⟩,⟨⟩⟩⟩
theorem Tu : C 315 abp:=ck amc ⟨⟨rfl,aiN,⟨⟩⟩,⟨⟩⟩
theorem aqp : C 317 abq:=ck amd ⟨⟨rfl,aiN,⟨⟩⟩,⟨⟩⟩
theorem aqq : C 270 abr:=ck ame ⟨⟨rfl,Tu,⟨⟩⟩,⟨⟨rfl,aqp,⟨⟩⟩,⟨⟩⟩⟩
theorem aiO : C 343 Xl:=ck amf ⟨⟨rfl,m7,⟨⟩⟩,⟨⟨rfl,aiw,aix,aiy,aiz,⟨⟩⟩,⟨⟩⟩⟩
theorem aqr : C 315 abt:=ck amg ⟨⟨rfl,aiO,⟨⟩⟩,⟨⟩⟩
theorem aqs : C 317 abu:=ck amh ⟨⟨rfl,aiO,⟨⟩⟩,⟨⟩⟩
theorem aqt : C 270 abv:=ck ami ⟨⟨rfl,aqr,⟨⟩⟩,⟨⟨rfl,aqs,⟨⟩⟩,⟨⟩⟩⟩
theorem aiP : C 343 Xm:=ck amj ⟨⟨rfl,m7,⟨⟩⟩,⟨⟨rfl,Lm,aiA,aiB,aiC,aiD,⟨⟩⟩,⟨⟩⟩⟩
theorem aqu : C 315 abB:=ck amk ⟨⟨rfl,aiP,⟨⟩⟩,⟨⟩⟩
theorem aqv : C 317 abC:=ck aml ⟨⟨rfl,aiP,⟨⟩⟩,⟨⟩⟩
theorem aqw : C 270 abD:=ck amm ⟨⟨rfl,aqu,⟨⟩⟩,⟨⟨rfl,aqv,⟨⟩⟩,⟨⟩⟩⟩
theorem aiQ : C 343 Xn:=ck amn ⟨⟨rfl,m7,⟨⟩⟩,⟨⟨rfl,Lm,aiA,aiB,aiC,aiD,⟨⟩⟩,⟨⟩⟩⟩
theorem aqx : C 315 abE:=ck amo ⟨⟨rfl,aiQ,⟨⟩⟩,⟨⟩⟩
theorem aqy : C 317 abF:=ck amp ⟨⟨rfl,aiQ,⟨⟩⟩,⟨⟩⟩
theorem aqz : C 270 abG:=ck amq ⟨⟨rfl,aqx,⟨⟩⟩,⟨⟨rfl,aqy,⟨⟩⟩,⟨⟩⟩⟩
theorem aqA : C 79 abH:=ck amr ⟨⟨rfl,at6,⟨⟩⟩,⟨⟨rfl,aqf,aqk,aqo,aqq,aqt,aqw,aqz,⟨⟩⟩,⟨⟩⟩⟩
theorem RA : C 80 Lq:=ck ams ⟨⟨rfl,tc,⟨⟩⟩,⟨⟨rfl,TN,⟨⟩⟩,⟨⟩⟩⟩
theorem X4 : C 80 Rt:=ck amt ⟨⟨rfl,tc,⟨⟩⟩,⟨⟩⟩
theorem X5 : C 80 Ru:=ck amu ⟨⟨rfl,tc,⟨⟩⟩,⟨⟩⟩
theorem X6 : C 126 Rv:=ck amv ⟨⟨rfl,tc,⟨⟩⟩,⟨⟨rfl,TN,adZ,⟨⟩⟩,⟨⟩⟩⟩
theorem aiR : C 126 Xp:=ck amx ⟨⟨rfl,tc,⟨⟩⟩,⟨⟨rfl,adZ,⟨⟩⟩,⟨⟨rfl,amw,⟨⟩⟩,⟨⟩⟩⟩⟩
theorem X7 : C 126 Rw:=ck amz ⟨⟨rfl,tc,⟨⟩⟩,⟨⟨rfl,adZ,amy,⟨⟩⟩,⟨⟩⟩⟩
theorem aav : C 14 abI:=ck amA ⟨⟨rfl,m7,⟨⟩⟩,⟨⟨rfl,at6,⟨⟩⟩,⟨⟨rfl,aqA,⟨⟩⟩,⟨⟨rfl,RA,X4,X5,⟨⟩⟩,⟨⟨rfl,X6,aiR,X7,⟨⟩⟩,⟨⟩⟩⟩⟩⟩⟩
theorem aau : C 86 abJ:=ck amC ⟨⟨rfl,amB,⟨⟩⟩,⟨⟩⟩
theorem aqB : C 50 abK:=ck amD ⟨⟨rfl,Qb,⟨⟩⟩,⟨⟨rfl,aau,⟨⟩⟩,⟨⟩⟩⟩
theorem aat : C 15 abL:=ck amE ⟨⟨rfl,Rg,⟨⟩⟩,⟨⟨rfl,aqB,⟨⟩⟩,⟨⟩⟩⟩
theorem aas : C 32 abN:=ck amF ⟨⟨rfl,tc,⟨⟩⟩,⟨⟨rfl,aiE,⟨⟩⟩,⟨⟩⟩⟩
theorem aiS : C 78 Xq:=ck amG ⟨⟨rfl,tc,⟨⟩⟩,⟨⟨rfl,m7,⟨⟩⟩,⟨⟨rfl,aiE,⟨⟩⟩,⟨⟨rfl,aas,⟨⟩⟩,⟨⟩⟩⟩⟩⟩
theorem aar : C 343 abO:=ck amH ⟨⟨rfl,m7,⟨⟩⟩,⟨⟩⟩
theorem aqC : C 315 abP:=ck amI ⟨⟨rfl,aar,⟨⟩⟩,⟨⟩⟩
theorem aaq : C 270 abQ:=ck amJ ⟨⟨rfl,aqC,⟨⟩⟩,⟨⟩⟩
theorem aqD : C 79 abR:=ck amK ⟨⟨rfl,aiS,⟨⟩⟩,⟨⟨rfl,aaq,⟨⟩⟩,⟨⟩⟩⟩
theorem aap : C 14 abS:=ck amL ⟨⟨rfl,m7,⟨⟩⟩,⟨⟨rfl,aiS,⟨⟩⟩,⟨⟨rfl,aqD,⟨⟩⟩,⟨⟩⟩⟩⟩
theorem aqE : C 86 abT:=ck amN ⟨⟨rfl,amM,aao,⟨⟩⟩,⟨⟩⟩
theorem aan : C 50 abU:=ck amO ⟨⟨rfl,Qb,⟨⟩⟩,⟨⟨rfl,aqE,⟨⟩⟩,⟨⟩⟩⟩
theorem aqF : C 15 abV:=ck amP ⟨⟨rfl,Rg,⟨⟩⟩,⟨⟨rfl,aan,⟨⟩⟩,⟨⟩⟩⟩
theorem aiT : C 32 Xr:=ck amQ ⟨⟨rfl,tc,⟨⟩⟩,⟨⟨rfl,Hc,⟨⟩⟩,⟨⟩⟩⟩
theorem Rq : C 78 Rx:=ck amR ⟨⟨rfl,tc,⟨⟩⟩,⟨⟨rfl,m7,⟨⟩⟩,⟨⟨rfl,Hc,⟨⟩⟩,⟨⟨rfl,aiT,⟨⟩⟩,⟨⟩⟩⟩⟩⟩
theorem aqG : C 343 abW:=ck amS ⟨⟨rfl,m7,⟨⟩⟩,⟨⟩⟩
theorem Xa : C 315 Xs:=ck amT ⟨⟨rfl,aqG,⟨⟩⟩,⟨⟩⟩
theorem aqH : C 343 abX:=ck amU ⟨⟨rfl,m7,⟨⟩⟩,⟨⟩⟩
theorem W9 : C 318 Xt:=ck amV ⟨⟨rfl,aqH,⟨⟩⟩,⟨⟩⟩
theorem aqI : C 270 abY:=ck amW ⟨⟨rfl,Xa,⟨⟩⟩,⟨⟨rfl,W9,⟨⟩⟩,⟨⟩⟩⟩
theorem aqJ : C 343 abZ:=ck amX ⟨⟨rfl,m7,⟨⟩⟩,⟨⟨rfl,N8,⟨⟩⟩,⟨⟩⟩⟩
theorem aiU : C 315 Xu:=ck amY ⟨⟨rfl,aqJ,⟨⟩⟩,⟨⟩⟩
theorem aqK : C 343 ab0:=ck amZ ⟨⟨rfl,m7,⟨⟩⟩,⟨⟩⟩
theorem aiV : C 318 Xv:=ck am0 ⟨⟨rfl,aqK,⟨⟩⟩,⟨⟩⟩
theorem aqL : C 270 ab1:=ck am1 ⟨⟨rfl,aiU,⟨⟩⟩,⟨⟨rfl,aiV,⟨⟩⟩,⟨⟩⟩⟩
theorem aqM : C 79 ab2:=ck am2 ⟨⟨rfl,Rq,⟨⟩⟩,⟨⟨rfl,aqI,aqL,⟨⟩⟩,⟨⟩⟩⟩
theorem aqN : C 14 ab3:=ck am3 ⟨⟨rfl,m7,⟨⟩⟩,⟨⟨rfl,Rq,⟨⟩⟩,⟨⟨rfl,aqM,⟨⟩⟩,⟨⟩⟩⟩⟩
theorem aqO : C 50 ab4:=ck am5 ⟨⟨rfl,Qb,⟨⟩⟩,⟨⟨rfl,am4,⟨⟩⟩,⟨⟩⟩⟩
theorem aqP : C 32 ab5:=ck am6 ⟨⟨rfl,tc,⟨⟩⟩,⟨⟨rfl,ad0,⟨⟩⟩,⟨⟩⟩⟩
theorem TR : C 78 Oa:=ck am7 ⟨⟨rfl,tc,⟨⟩⟩,⟨⟨rfl,m7,⟨⟩⟩,⟨⟨rfl,ad0,⟨⟩⟩,⟨⟨rfl,aqP,⟨⟩⟩,⟨⟩⟩⟩⟩⟩
theorem aqQ : C 343 ab6:=ck am8 ⟨⟨rfl,m7,⟨⟩⟩,⟨⟩⟩
theorem aqR : C 315 ab7:=ck am9 ⟨⟨rfl,aqQ,⟨⟩⟩,⟨⟩⟩
theorem aqS : C 343 ab8:=ck ana ⟨⟨rfl,m7,⟨⟩⟩,⟨⟩⟩
theorem aqT : C 318 ab9:=ck anb ⟨⟨rfl,aqS,⟨⟩⟩,⟨⟩⟩
theorem aqU : C 270 aca:=ck anc ⟨⟨rfl,aqR,⟨⟩⟩,⟨⟨rfl,aqT,⟨⟩⟩,⟨⟩⟩⟩
theorem aiW : C 343 Xx:=ck ane ⟨⟨rfl,m7,⟨⟩⟩,⟨⟨rfl,aiF,⟨⟩⟩,⟨⟩⟩⟩
theorem aqV : C 315 acd:=ck anf ⟨⟨rfl,aiW,⟨⟩⟩,⟨⟩⟩
theorem aqW : C 317 ace:=ck ang ⟨⟨rfl,aiW,⟨⟩⟩,⟨⟩⟩
theorem aqX : C 270 acf:=ck anh ⟨⟨rfl,aqV,⟨⟩⟩,⟨⟨rfl,aqW,⟨⟩⟩,⟨⟩⟩⟩
theorem aiX : C 343 Xy:=ck ani ⟨⟨rfl,m7,⟨⟩⟩,⟨⟨rfl,aiF,⟨⟩⟩,⟨⟩⟩⟩
theorem aqY : C 315 acg:=ck anj ⟨⟨rfl,aiX,⟨⟩⟩,⟨⟩⟩
theorem aqZ : C 317 ach:=ck ank ⟨⟨rfl,aiX,⟨⟩⟩,⟨⟩⟩
theorem aq0 : C 270 aci:=ck anl ⟨⟨rfl,aqY,⟨⟩⟩,⟨⟨rfl,aqZ,⟨⟩⟩,⟨⟩⟩⟩
theorem aiY : C 79 Xz:=ck anm ⟨⟨rfl,TR,⟨⟩⟩,⟨⟨rfl,aqU,aqX,aq0,⟨⟩⟩,⟨⟩⟩⟩
theorem ad2 : C 54 TE:=ck ann ⟨⟨rfl,tc,⟨⟩⟩,⟨⟩⟩
theorem aiZ : C 32 XA:=ck anp ⟨⟨rfl,tc,⟨⟩⟩,⟨⟨rfl,ano,⟨⟩⟩,⟨⟩⟩⟩
theorem aq1 : C 78 acj:=ck anq ⟨⟨rfl,m7,⟨⟩⟩,⟨⟨rfl,ad2,⟨⟩⟩,⟨⟨rfl,aiZ,⟨⟩⟩,⟨⟩⟩⟩⟩
theorem aq2 : C 343 ack:=ck anr ⟨⟨rfl,m7,⟨⟩⟩,⟨⟩⟩
theorem ai0 : C 315 XB:=ck ans ⟨⟨rfl,aq2,⟨⟩⟩,⟨⟩⟩
theorem aq3 : C 343 acn:=ck anu ⟨⟨rfl,m7,⟨⟩⟩,⟨⟨rfl,N8,ant,⟨⟩⟩,⟨⟩⟩⟩
theorem ai1 : C 318 XC:=ck anv ⟨⟨rfl,aq3,⟨⟩⟩,⟨⟩⟩
theorem aq4 : C 270 aco:=ck anw ⟨⟨rfl,ai0,⟨⟩⟩,⟨⟨rfl,ai1,⟨⟩⟩,⟨⟩⟩⟩
theorem ai2 : C 343 XD:=ck anz ⟨⟨rfl,m7,⟨⟩⟩,⟨⟨rfl,N8,anx,⟨⟩⟩,⟨⟩⟩⟩
theorem ai3 : C 315 XE:=ck anA ⟨⟨rfl,ai2,⟨⟩⟩,⟨⟩⟩
theorem ai4 : C 317 XF:=ck anB ⟨⟨rfl,ai2,⟨⟩⟩,⟨⟩⟩
theorem aq5 : C 270 acp:=ck anC ⟨⟨rfl,ai3,⟨⟩⟩,⟨⟨rfl,ai4,⟨⟩⟩,⟨⟩⟩⟩
theorem ai5 : C 343 XG:=ck anD ⟨⟨rfl,m7,⟨⟩⟩,⟨⟨rfl,N8,⟨⟩⟩,⟨⟩⟩⟩
theorem ai6 : C 315 XH:=ck anE ⟨⟨rfl,ai5,⟨⟩⟩,⟨⟩⟩
theorem ai7 : C 317 XI:=ck anF ⟨⟨rfl,ai5,⟨⟩⟩,⟨⟩⟩
theorem aq6 : C 270 acq:=ck anG ⟨⟨rfl,ai6,⟨⟩⟩,⟨⟨rfl,ai7,⟨⟩⟩,⟨⟩⟩⟩
theorem aq7 : C 79 acr:=ck anH ⟨⟨rfl,aq1,⟨⟩⟩,⟨⟨rfl,aq4,aq5,aq6,⟨⟩⟩,⟨⟩⟩⟩
theorem ad3 : C 54 TF:=ck anI ⟨⟨rfl,tc,⟨⟩⟩,⟨⟩⟩
theorem ai8 : C 32 XJ:=ck anK ⟨⟨rfl,tc,⟨⟩⟩,⟨⟨rfl,anJ,⟨⟩⟩,⟨⟩⟩⟩
theorem aq8 : C 78 acs:=ck anL ⟨⟨rfl,m7,⟨⟩⟩,⟨⟨rfl,ad3,⟨⟩⟩,⟨⟨rfl,ai8,⟨⟩⟩,⟨⟩⟩⟩⟩
theorem aq9 : C 343 acu:=ck anM ⟨⟨rfl,m7,⟨⟩⟩,⟨⟩⟩
theorem ai9 : C 315 XK:=ck anN ⟨⟨rfl,aq9,⟨⟩⟩,⟨⟩⟩
theorem ara : C 343 acv:=ck anO ⟨⟨rfl,m7,⟨⟩⟩,⟨⟩⟩
theorem aja : C 318 XL:=ck anP ⟨⟨rfl,ara,⟨⟩⟩,⟨⟩⟩
theorem arb : C 270 acw:=ck anQ ⟨⟨rfl,ai9,⟨⟩⟩,⟨⟨rfl,aja,⟨⟩⟩,⟨⟩⟩⟩
theorem ajb : C 343 XM:=ck anR ⟨⟨rfl,m7,⟨⟩⟩,⟨⟨rfl,aiG,⟨⟩⟩,⟨⟩⟩⟩
theorem ajc : C 315 XN:=ck anS ⟨⟨rfl,ajb,⟨⟩⟩,⟨⟩⟩
theorem ajd : C 317 XO:=ck anT ⟨⟨rfl,ajb,⟨⟩⟩,⟨⟩⟩
theorem arc : C 270 acy:=ck anU ⟨⟨rfl,ajc,⟨⟩⟩,⟨⟨rfl,ajd,⟨⟩⟩,⟨⟩⟩⟩
theorem aje : C 343 XP:=ck anV ⟨⟨rfl,m7,⟨⟩⟩,⟨⟨rfl,aiG,⟨⟩⟩,⟨⟩⟩⟩
theorem ajf : C 315 XQ:=ck anW ⟨⟨rfl,aje,⟨⟩⟩,⟨⟩⟩
theorem ajg : C 317 XR:=ck anX ⟨⟨rfl,aje,⟨⟩⟩,⟨⟩⟩
theorem ard : C 270 acz:=ck anY ⟨⟨rfl,ajf,⟨⟩⟩,⟨⟨rfl,ajg,⟨⟩⟩,⟨⟩⟩⟩
theorem are : C 79 acA:=ck anZ ⟨⟨rfl,aq8,⟨⟩⟩,⟨⟨rfl,arb,arc,ard,⟨⟩⟩,⟨⟩⟩⟩
theorem arf : C 16 acB:=ck an0 ⟨⟨rfl,m7,⟨⟩⟩,⟨⟨rfl,RA,X4,X5,⟨⟩⟩,⟨⟨rfl,X6,X7,⟨⟩⟩,⟨⟨rfl,Rq,TR,⟨⟩⟩,⟨⟨rfl,aiY,aq7,are,⟨⟩⟩,⟨⟨rfl,ad2,ad3,⟨⟩⟩,⟨⟩⟩⟩⟩⟩⟩⟩
theorem arh : C 50 acC:=ck an2 ⟨⟨rfl,Qb,⟨⟩⟩,⟨⟨rfl,an1,⟨⟩⟩,⟨⟩⟩⟩
theorem ari : C 50 acD:=ck an4 ⟨⟨rfl,Qb,⟨⟩⟩,⟨⟨rfl,an3,⟨⟩⟩,⟨⟩⟩⟩
theorem arj : C 32 acE:=ck an5 ⟨⟨rfl,tc,⟨⟩⟩,⟨⟨rfl,TN,⟨⟩⟩,⟨⟩⟩⟩
theorem ad4 : C 78 TG:=ck an6 ⟨⟨rfl,tc,⟨⟩⟩,⟨⟨rfl,m7,⟨⟩⟩,⟨⟨rfl,TN,⟨⟩⟩,⟨⟨rfl,arj,⟨⟩⟩,⟨⟩⟩⟩⟩⟩
theorem ark : C 32 acF:=ck an7 ⟨⟨rfl,tc,⟨⟩⟩,⟨⟨rfl,X1,⟨⟩⟩,⟨⟩⟩⟩
theorem TS : C 78 Ob:=ck an8 ⟨⟨rfl,tc,⟨⟩⟩,⟨⟨rfl,m7,⟨⟩⟩,⟨⟨rfl,X1,⟨⟩⟩,⟨⟨rfl,ark,⟨⟩⟩,⟨⟩⟩⟩⟩⟩
theorem arl : C 32 acH:=ck an9 ⟨⟨rfl,tc,⟨⟩⟩,⟨⟨rfl,aiH,⟨⟩⟩,⟨⟩⟩⟩
theorem ad5 : C 78 TI:=ck aoa ⟨⟨rfl,tc,⟨⟩⟩,⟨⟨rfl,m7,⟨⟩⟩,⟨⟨rfl,aiH,⟨⟩⟩,⟨⟨rfl,arl,⟨⟩⟩,⟨⟩⟩⟩⟩⟩
theorem arn : C 343 acI:=ck aob ⟨⟨rfl,m7,⟨⟩⟩,⟨⟩⟩
theorem aro : C 315 acJ:=ck aoc ⟨⟨rfl,arn,⟨⟩⟩,⟨⟩⟩
theorem arp : C 343 acK:=ck aod ⟨⟨rfl,m7,⟨⟩⟩,⟨⟩⟩
theorem arq : C 317 acL:=ck aoe ⟨⟨rfl,arp,⟨⟩⟩,⟨⟩⟩
theorem ars : C 270 acM:=ck aof ⟨⟨rfl,aro,⟨⟩⟩,⟨⟨rfl,arq,⟨⟩⟩,⟨⟩⟩⟩
theorem art : C 79 acN:=ck aog ⟨⟨rfl,ad5,⟨⟩⟩,⟨⟨rfl,ars,⟨⟩⟩,⟨⟩⟩⟩
theorem aru : C 18 acO:=ck aoh ⟨⟨rfl,m7,⟨⟩⟩,⟨⟨rfl,RA,⟨⟩⟩,⟨⟨rfl,ad4,TS,ad5,⟨⟩⟩,⟨⟨rfl,art,⟨⟩⟩,⟨⟩⟩⟩⟩⟩
theorem arv : C 15 acP:=ck aoi ⟨⟨rfl,Rg,⟨⟩⟩,⟨⟨rfl,arh,⟨⟩⟩,⟨⟩⟩⟩
theorem arw : C 15 acQ:=ck aoj ⟨⟨rfl,Rg,⟨⟩⟩,⟨⟨rfl,ari,⟨⟩⟩,⟨⟩⟩⟩
theorem ajh : C 343 XS:=ck aok ⟨⟨rfl,m7,⟨⟩⟩,⟨⟩⟩
theorem arx : C 315 acR:=ck aol ⟨⟨rfl,ajh,⟨⟩⟩,⟨⟩⟩
theorem ary : C 317 acS:=ck aom ⟨⟨rfl,ajh,⟨⟩⟩,⟨⟩⟩
theorem arz : C 270 acT:=ck aon ⟨⟨rfl,arx,⟨⟩⟩,⟨⟨rfl,ary,⟨⟩⟩,⟨⟩⟩⟩
theorem arA : C 79 acU:=ck aoo ⟨⟨rfl,ad4,⟨⟩⟩,⟨⟨rfl,arz,⟨⟩⟩,⟨⟩⟩⟩
theorem arB : C 343 acV:=ck aoq ⟨⟨rfl,m7,⟨⟩⟩,⟨⟩⟩
theorem arC : C 315 acW:=ck aor ⟨⟨rfl,arB,⟨⟩⟩,⟨⟩⟩
theorem arD : C 270 acX:=ck aos ⟨⟨rfl,arC,⟨⟩⟩,⟨⟩⟩
theorem ad6 : C 79 TJ:=ck aot ⟨⟨rfl,TS,⟨⟩⟩,⟨⟨rfl,arD,⟨⟩⟩,⟨⟩⟩⟩
theorem arE : C 16 acY:=ck aou ⟨⟨rfl,m7,⟨⟩⟩,⟨⟨rfl,RA,⟨⟩⟩,⟨⟨rfl,ad4,TS,ad5,⟨⟩⟩,⟨⟨rfl,arA,ad6,⟨⟩⟩,⟨⟩⟩⟩⟩⟩
theorem arF : C 15 acZ:=ck aov ⟨⟨rfl,Rg,⟨⟩⟩,⟨⟨rfl,aqO,⟨⟩⟩,⟨⟩⟩⟩
theorem aji : C 32 XT:=ck aow ⟨⟨rfl,tc,⟨⟩⟩,⟨⟨rfl,X2,⟨⟩⟩,⟨⟩⟩⟩
theorem ajj : C 78 XU:=ck aox ⟨⟨rfl,tc,⟨⟩⟩,⟨⟨rfl,m7,⟨⟩⟩,⟨⟨rfl,X2,⟨⟩⟩,⟨⟨rfl,aji,⟨⟩⟩,⟨⟩⟩⟩⟩⟩
theorem arG : C 54 ac0:=ck aoy ⟨⟨rfl,tc,⟨⟩⟩,⟨⟩⟩
theorem arH : C 54 ac1:=ck aoz ⟨⟨rfl,tc,⟨⟩⟩,⟨⟩⟩
theorem arI : C 22 ac2:=ck aoA ⟨⟨rfl,tc,⟨⟩⟩,⟨⟨rfl,m7,⟨⟩⟩,⟨⟨rfl,TN,ad0,X2,⟨⟩⟩,⟨⟨rfl,RA,X4,X5,⟨⟩⟩,⟨⟨rfl,X6,X7,⟨⟩⟩,⟨⟨rfl,TR,ajj,⟨⟩⟩,⟨⟨rfl,aiY,⟨⟩⟩,⟨⟨rfl,ad2,ad3,arG,arH,⟨⟩⟩,⟨⟨rfl,aiZ,ai8,⟨⟩⟩,⟨⟨rfl,ai0,ai3,ai6,ai9,ajc,ajf,⟨⟩⟩,⟨⟨rfl,ai1,aja,⟨⟩⟩,⟨⟨rfl,ai4,ai7,ajd,ajg,⟨⟩⟩,⟨⟩⟩⟩⟩⟩⟩⟩⟩⟩⟩⟩⟩⟩
theorem arJ : C 86 ac3:=ck aoG ⟨⟨rfl,aoB,aoC,aoD,aoE,aoF,⟨⟩⟩,⟨⟩⟩
theorem arK : C 50 ac4:=ck aoH ⟨⟨rfl,Qb,⟨⟩⟩,⟨⟨rfl,arJ,⟨⟩⟩,⟨⟩⟩⟩
theorem arL : C 15 ac5:=ck aoI ⟨⟨rfl,Rg,⟨⟩⟩,⟨⟨rfl,arK,⟨⟩⟩,⟨⟩⟩⟩
theorem arM : C 20 ac6:=ck aoJ ⟨⟨rfl,arL,⟨⟩⟩,⟨⟩⟩
theorem ajk : C 32 XV:=ck aoK ⟨⟨rfl,tc,⟨⟩⟩,⟨⟨rfl,X3,⟨⟩⟩,⟨⟩⟩⟩
theorem arN : C 78 ac7:=ck aoL ⟨⟨rfl,tc,⟨⟩⟩,⟨⟨rfl,m7,⟨⟩⟩,⟨⟨rfl,X3,⟨⟩⟩,⟨⟨rfl,ajk,⟨⟩⟩,⟨⟩⟩⟩⟩⟩
theorem arO : C 54 ac8:=ck aoM ⟨⟨rfl,tc,⟨⟩⟩,⟨⟨rfl,Hc,⟨⟩⟩,⟨⟩⟩⟩
theorem arP : C 343 ac9:=ck aoO ⟨⟨rfl,m7,⟨⟩⟩,⟨⟨rfl,N8,aoN,⟨⟩⟩,⟨⟩⟩⟩
theorem arQ : C 315 ada:=ck aoP ⟨⟨rfl,arP,⟨⟩⟩,⟨⟩⟩
theorem arR : C 343 ade:=ck aoQ ⟨⟨rfl,m7,⟨⟩⟩,⟨⟨rfl,TO,Jm,aiI,⟨⟩⟩,⟨⟩⟩⟩
theorem arS : C 318 adf:=ck aoR ⟨⟨rfl,arR,⟨⟩⟩,⟨⟩⟩
theorem ajl : C 343 XW:=ck aoS ⟨⟨rfl,m7,⟨⟩⟩,⟨⟨rfl,TO,Jm,aiJ,⟨⟩⟩,⟨⟩⟩⟩
theorem arT : C 315 adh:=ck aoT ⟨⟨rfl,ajl,⟨⟩⟩,⟨⟩⟩
theorem arU : C 317 adi:=ck aoU ⟨⟨rfl,ajl,⟨⟩⟩,⟨⟩⟩
theorem ajm : C 343 XX:=ck aoV ⟨⟨rfl,m7,⟨⟩⟩,⟨⟨rfl,TO,Jm,aiJ,⟨⟩⟩,⟨⟩⟩⟩
theorem arV : C 315 adj:=ck aoW ⟨⟨rfl,ajm,⟨⟩⟩,⟨⟩⟩
theorem arW : C 317 adk:=ck aoX ⟨⟨rfl,ajm,⟨⟩⟩,⟨⟩⟩
theorem ajn : C 343 XZ:=ck aoY ⟨⟨rfl,m7,⟨⟩⟩,⟨⟨rfl,TO,Jm,aiK,ad1,⟨⟩⟩,⟨⟩⟩⟩
theorem arX : C 315 adm:=ck aoZ ⟨⟨rfl,ajn,⟨⟩⟩,⟨⟩⟩
theorem arY : C 317 adn:=ck ao0 ⟨⟨rfl,ajn,⟨⟩⟩,⟨⟩⟩
theorem ajo : C 343 X0:=ck ao1 ⟨⟨rfl,m7,⟨⟩⟩,⟨⟨rfl,TO,Jm,aiK,aiL,⟨⟩⟩,⟨⟩⟩⟩
theorem arZ : C 315 adp:=ck ao2 ⟨⟨rfl,ajo,⟨⟩⟩,⟨⟩⟩
theorem ar0 : C 317 adq:=ck ao3 ⟨⟨rfl,ajo,⟨⟩⟩,⟨⟩⟩
theorem ar1 : C 54 adr:=ck ao5 ⟨⟨rfl,tc,⟨⟩⟩,⟨⟨rfl,X3,⟨⟩⟩,⟨⟩⟩⟩
theorem ar2 : C 343 ads:=ck ao6 ⟨⟨rfl,m7,⟨⟩⟩,⟨⟩⟩
theorem ar3 : C 315 adt:=ck ao7 ⟨⟨rfl,ar2,⟨⟩⟩,⟨⟩⟩
theorem ar4 : C 343 adu:=ck ao8 ⟨⟨rfl,m7,⟨⟩⟩,⟨⟨rfl,Jm,aiI,⟨⟩⟩,⟨⟩⟩⟩
theorem ar5 : C 318 adv:=ck ao9 ⟨⟨rfl,ar4,⟨⟩⟩,⟨⟩⟩
theorem ar6 : C 343 adx:=ck apa ⟨⟨rfl,m7,⟨⟩⟩,⟨⟨rfl,Jm,ad1,aiM,⟨⟩⟩,⟨⟩⟩⟩
theorem ar7 : C 315 ady:=ck apb ⟨⟨rfl,ar6,⟨⟩⟩,⟨⟩⟩
theorem ar8 : C 343 adz:=ck apc ⟨⟨rfl,m7,⟨⟩⟩,⟨⟨rfl,Jm,ad1,⟨⟩⟩,⟨⟩⟩⟩
theorem ar9 : C 317 adA:=ck apd ⟨⟨rfl,ar8,⟨⟩⟩,⟨⟩⟩
theorem asa : C 343 adB:=ck ape ⟨⟨rfl,m7,⟨⟩⟩,⟨⟨rfl,Jm,aiL,aiM,⟨⟩⟩,⟨⟩⟩⟩
theorem asb : C 315 adC:=ck apf ⟨⟨rfl,asa,⟨⟩⟩,⟨⟩⟩
theorem asc : C 343 adD:=ck apg ⟨⟨rfl,m7,⟨⟩⟩,⟨⟩⟩
theorem asd : C 317 adE:=ck aph ⟨⟨rfl,asc,⟨⟩⟩,⟨⟩⟩
theorem ase : C 22 adF:=ck api ⟨⟨rfl,tc,⟨⟩⟩,⟨⟨rfl,m7,⟨⟩⟩,⟨⟨rfl,RA,X4,X5,⟨⟩⟩,⟨⟨rfl,X6,aiR,X7,⟨⟩⟩,⟨⟨rfl,Hc,X1,X3,ao4,⟨⟩⟩,⟨⟨rfl,aiT,ajk,⟨⟩⟩,⟨⟨rfl,Rq,TS,arN,⟨⟩⟩,⟨⟨rfl,Xa,aiU,arQ,arT,arV,arX,arZ,ar3,ar7,asb,⟨⟩⟩,⟨⟨rfl,W9,aiV,arS,ar5,⟨⟩⟩,⟨⟨rfl,ad6,⟨⟩⟩,⟨⟨rfl,arO,ar1,⟨⟩⟩,⟨⟨rfl,arU,arW,arY,ar0,ar9,asd,⟨⟩⟩,⟨⟩⟩⟩⟩⟩⟩⟩⟩⟩⟩⟩⟩⟩
theorem asf : C 22 adG:=ck apj ⟨⟨rfl,tc,⟨⟩⟩,⟨⟨rfl,m7,⟨⟩⟩,⟨⟨rfl,TR,TS,⟨⟩⟩,⟨⟨rfl,X1,⟨⟩⟩,⟨⟨rfl,ad6,⟨⟩⟩,⟨⟩⟩⟩⟩⟩⟩
theorem asg : C 7 adH:=ck apk ⟨⟨rfl,tc,⟨⟩⟩,⟨⟨rfl,m7,⟨⟩⟩,⟨⟨rfl,TR,ajj,⟨⟩⟩,⟨⟨rfl,X2,⟨⟩⟩,⟨⟨rfl,aji,⟨⟩⟩,⟨⟩⟩⟩⟩⟩⟩
theorem ash : C 86 adI:=ck apn ⟨⟨rfl,apl,apm,⟨⟩⟩,⟨⟩⟩
theorem asi : C 50 adJ:=ck apo ⟨⟨rfl,Qb,⟨⟩⟩,⟨⟨rfl,ash,⟨⟩⟩,⟨⟩⟩⟩
theorem asj : C 15 adK:=ck apq ⟨⟨rfl,Rg,⟨⟩⟩,⟨⟨rfl,asi,⟨⟩⟩,⟨⟩⟩⟩
theorem asl : C 86 adL:=ck apv ⟨⟨rfl,apr,aps,apt,apu,⟨⟩⟩,⟨⟩⟩
theorem asm : C 50 adM:=ck apw ⟨⟨rfl,Qb,⟨⟩⟩,⟨⟨rfl,asl,⟨⟩⟩,⟨⟩⟩⟩
theorem asn : C 15 adN:=ck apx ⟨⟨rfl,Rg,⟨⟩⟩,⟨⟨rfl,asm,⟨⟩⟩,⟨⟩⟩⟩
theorem aso : C 86 adO:=ck apI ⟨⟨rfl,apz,apA,apC,apD,apE,apF,apG,apH,⟨⟩⟩,⟨⟩⟩
theorem asp : C 50 adP:=ck apJ ⟨⟨rfl,Qb,⟨⟩⟩,⟨⟨rfl,aso,⟨⟩⟩,⟨⟩⟩⟩
theorem asq : C 15 adQ:=ck apK ⟨⟨rfl,Rg,⟨⟩⟩,⟨⟨rfl,asp,⟨⟩⟩,⟨⟩⟩⟩
theorem asr : C 86 adR:=ck apX ⟨⟨rfl,apL,apM,apN,apO,apP,apQ,apR,apS,apT,apU,apV,apW,⟨⟩⟩,⟨⟩⟩
theorem ass : C 50 adS:=ck apY ⟨⟨rfl,Qb,⟨⟩⟩,⟨⟨rfl,asr,⟨⟩⟩,⟨⟩⟩⟩
theorem ast : C 15 adT:=ck apZ ⟨⟨rfl,Rg,⟨⟩⟩,⟨⟨rfl,ass,⟨⟩⟩,⟨⟩⟩⟩
theorem asu : C 23 adU:=ck ap1 ⟨⟨rfl,ap0,⟨⟩⟩,⟨⟩⟩
theorem asv : C 40 adV:=ck ap3 ⟨⟨rfl,ap2,⟨⟩⟩,⟨⟩⟩
theorem asw : C 23 adW:=ck ap4 ⟨⟨rfl,asv,⟨⟩⟩,⟨⟩⟩
theorem asx : C 50 adX:=ck ap6 ⟨⟨rfl,Qb,⟨⟩⟩,⟨⟨rfl,ap5,⟨⟩⟩,⟨⟩⟩⟩
theorem asy : C 50 adY:=ck ap8 ⟨⟨rfl,Qb,⟨⟩⟩,⟨⟨rfl,ap7,⟨⟩⟩,⟨⟩⟩⟩
theorem asz : C 6 ait:=ck aqa ⟨⟨rfl,Rg,⟨⟩⟩,⟨⟨rfl,afT,⟨⟩⟩,⟨⟨rfl,avN,aat,aqF,arv,arw,arF,asj,asn,asq,ast,⟨⟩⟩,⟨⟨rfl,aav,aap,aqN,⟨⟩⟩,⟨⟨rfl,arf,arE,⟨⟩⟩,⟨⟨rfl,aru,⟨⟩⟩,⟨⟨rfl,arI,ase,asf,⟨⟩⟩,⟨⟨rfl,arM,⟨⟩⟩,⟨⟨rfl,asg,⟨⟩⟩,⟨⟨rfl,apy,asu,asw,ap9,⟨⟩⟩,⟨⟨rfl,asx,asy,⟨⟩⟩,⟨⟩⟩⟩⟩⟩⟩⟩⟩⟩⟩⟩⟩
end Go.Eng

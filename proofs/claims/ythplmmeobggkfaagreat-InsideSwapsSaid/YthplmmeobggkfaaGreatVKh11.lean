/- Closed runs; no conditions. -/
import Derived.Test.YthplmmeobggkfaaGreatVKD
set_option linter.all false
namespace Go.Eng
open Go.Proofs
theorem anP : H [(61,1,[mR])] 12 343 acx:=hh
theorem anQ : H [(343,1,[acx])] 11 318 XN:=hh
theorem anR : H [(315,2,[XM]),(318,2,[XN])] 8 270 acy:=hh
theorem aiI : C 361 acz:=cz 9
theorem anS : H [(61,1,[mR]),(361,0,[acz])] 12 343 XO:=hh
theorem anT : H [(343,1,[XO])] 11 315 XP:=hh
theorem anU : H [(343,1,[XO])] 11 317 XQ:=hh
theorem anV : H [(315,2,[XP]),(317,2,[XQ])] 6 270 acA:=hh
theorem anW : H [(61,1,[mR]),(361,0,[acz])] 12 343 XR:=hh
theorem anX : H [(343,1,[XR])] 11 315 XS:=hh
theorem anY : H [(343,1,[XR])] 11 317 XT:=hh
theorem anZ : H [(315,2,[XS]),(317,2,[XT])] 6 270 acB:=hh
theorem an0 : H [(78,2,[acv]),(270,0,[acy,acA,acB])] 10 79 acC:=hh
theorem an1 : H [(61,1,[mR]),(80,1,[Lv,Rw,Rx]),(126,1,[Ry,Rz]),(78,2,[RA,Od]),(79,2,[XB,acu,acC]),(54,1,[TI,TJ])] 12 16 acD:=hh
theorem an2 : C 86 ahP:=cz 8
theorem an3 : H [(85,1,[NW]),(86,0,[ahP])] 11 50 acE:=hh
theorem an4 : C 86 ahQ:=cz 9
theorem an5 : H [(85,1,[NW]),(86,0,[ahQ])] 11 50 acF:=hh
theorem an6 : H [(97,0,[sk]),(100,0,[Rv])] 8 32 acG:=hh
theorem an7 : H [(97,0,[sk]),(61,1,[mR]),(100,0,[Rv]),(32,1,[acG])] 9 78 TK:=hh
theorem X3 : C 100 TM:=cz 10
theorem an8 : H [(97,0,[sk]),(100,0,[TM])] 8 32 acH:=hh
theorem an9 : H [(97,0,[sk]),(61,1,[mR]),(100,0,[TM]),(32,1,[acH])] 9 78 Oe:=hh
theorem aiJ : C 100 acI:=cz 10
theorem aoa : H [(97,0,[sk]),(100,0,[acI])] 9 32 acJ:=hh
theorem aob : H [(97,0,[sk]),(61,1,[mR]),(100,0,[acI]),(32,1,[acJ])] 10 78 TN:=hh
theorem aoc : H [(61,1,[mR])] 11 343 acK:=hh
end Go.Eng

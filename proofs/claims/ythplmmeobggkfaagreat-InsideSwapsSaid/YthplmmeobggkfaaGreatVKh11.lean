/- A part of the closed run of the chapter s examples; no conditions. -/
import Derived.Test.YthplmmeobggkfaaGreatVKD
set_option linter.all false
namespace Go.Eng
open Go.Proofs
theorem anO : H [(61,1,[mO])] 12 343 acv:=hh
theorem anP : H [(343,1,[acv])] 11 318 XL:=hh
theorem anQ : H [(315,2,[XK]),(318,2,[XL])] 8 270 acw:=hh
theorem aiG : C 361 acx:=cz 9
theorem anR : H [(61,1,[mO]),(361,0,[acx])] 12 343 XM:=hh
theorem anS : H [(343,1,[XM])] 11 315 XN:=hh
theorem anT : H [(343,1,[XM])] 11 317 XO:=hh
theorem anU : H [(315,2,[XN]),(317,2,[XO])] 6 270 acy:=hh
theorem anV : H [(61,1,[mO]),(361,0,[acx])] 12 343 XP:=hh
theorem anW : H [(343,1,[XP])] 11 315 XQ:=hh
theorem anX : H [(343,1,[XP])] 11 317 XR:=hh
theorem anY : H [(315,2,[XQ]),(317,2,[XR])] 6 270 acz:=hh
theorem anZ : H [(78,2,[acs]),(270,0,[acw,acy,acz])] 10 79 acA:=hh
theorem an0 : H [(61,1,[mO]),(80,1,[Lq,Rt,Ru]),(126,1,[Rv,Rw]),(78,2,[Rx,Oa]),(79,2,[Xz,acr,acA]),(54,1,[TE,TF])] 12 16 acB:=hh
theorem an1 : C 86 ahN:=cz 8
theorem an2 : H [(85,1,[NT]),(86,0,[ahN])] 11 50 acC:=hh
theorem an3 : C 86 ahO:=cz 9
theorem an4 : H [(85,1,[NT]),(86,0,[ahO])] 11 50 acD:=hh
theorem an5 : H [(97,0,[rW]),(100,0,[Rs])] 8 32 acE:=hh
theorem an6 : H [(97,0,[rW]),(61,1,[mO]),(100,0,[Rs]),(32,1,[acE])] 9 78 TG:=hh
theorem X1 : C 100 TH:=cz 10
theorem an7 : H [(97,0,[rW]),(100,0,[TH])] 8 32 acF:=hh
theorem an8 : H [(97,0,[rW]),(61,1,[mO]),(100,0,[TH]),(32,1,[acF])] 9 78 Ob:=hh
theorem aiH : C 100 acG:=cz 10
theorem an9 : H [(97,0,[rW]),(100,0,[acG])] 9 32 acH:=hh
theorem aoa : H [(97,0,[rW]),(61,1,[mO]),(100,0,[acG]),(32,1,[acH])] 10 78 TI:=hh
theorem aob : H [(61,1,[mO])] 11 343 acI:=hh
end Go.Eng

/- A part of the closed run of the chapter s examples; no conditions. -/
import Derived.Test.YthplmmeobggkfaaGreatVKD
set_option linter.all false
namespace Go.Eng
open Go.Proofs
theorem avy : H [(228,0,[akt]),(149,1,[alD])] 13 96 alE:=hh
theorem avz : H [(96,0,[alE])] 4 61 mO:=hh
theorem at2 : C 100 alF:=cz 10
theorem avA : H [(97,0,[rW]),(100,0,[alF])] 9 32 alG:=hh
theorem avB : H [(97,0,[rW]),(61,1,[mO]),(100,0,[alF]),(32,1,[alG])] 10 78 aku:=hh
theorem alV : H [(61,1,[mO])] 11 343 aa4:=hh
theorem alW : H [(343,1,[aa4])] 12 315 aa5:=hh
theorem alX : H [(61,1,[mO])] 12 343 aa6:=hh
theorem alY : H [(343,1,[aa6])] 12 318 aa7:=hh
theorem alZ : H [(315,2,[aa5]),(318,2,[aa7])] 8 270 aa8:=hh
theorem aiu : C 361 aa9:=cz 9
theorem aiv : C 361 aba:=cz 9
theorem al0 : H [(61,1,[mO]),(361,0,[aa9,aba])] 12 343 abb:=hh
theorem al2 : H [(343,1,[abb])] 13 315 abc:=hh
end Go.Eng

/- Closed runs; no conditions. -/
import Derived.Test.YthplmmeobggkfaaGreatVKD
set_option linter.all false
namespace Go.Eng
open Go.Proofs
theorem avz : H [(228,0,[aku]),(149,1,[alE])] 13 96 alF:=hh
theorem avA : H [(96,0,[alF])] 4 61 mR:=hh
theorem at3 : C 100 alG:=cz 10
theorem avB : H [(97,0,[sk]),(100,0,[alG])] 9 32 alH:=hh
theorem avC : H [(97,0,[sk]),(61,1,[mR]),(100,0,[alG]),(32,1,[alH])] 10 78 akv:=hh
theorem alW : H [(61,1,[mR])] 11 343 aa6:=hh
theorem alX : H [(343,1,[aa6])] 12 315 aa7:=hh
theorem alY : H [(61,1,[mR])] 12 343 aa8:=hh
theorem alZ : H [(343,1,[aa8])] 12 318 aa9:=hh
theorem al0 : H [(315,2,[aa7]),(318,2,[aa9])] 8 270 aba:=hh
theorem aiw : C 361 abb:=cz 9
theorem aix : C 361 abc:=cz 9
theorem al2 : H [(61,1,[mR]),(361,0,[abb,abc])] 12 343 abd:=hh
theorem al3 : H [(343,1,[abd])] 13 315 abe:=hh
end Go.Eng

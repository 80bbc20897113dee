/- A part of the closed run of the chapter s examples; no conditions. -/
import Derived.Test.YthplmmeobggkfaaGreatVKD
set_option linter.all false
namespace Go.Eng
open Go.Proofs
theorem al3 : H [(61,1,[mO])] 13 343 abd:=hh
theorem al4 : H [(343,1,[abd])] 12 318 abe:=hh
theorem al5 : H [(315,2,[abc]),(318,2,[abe])] 8 270 abf:=hh
theorem al6 : H [(61,1,[mO]),(361,0,[aa9,aba])] 12 343 abg:=hh
theorem al7 : H [(343,1,[abg])] 13 315 abh:=hh
theorem al8 : H [(61,1,[mO])] 14 343 abi:=hh
end Go.Eng

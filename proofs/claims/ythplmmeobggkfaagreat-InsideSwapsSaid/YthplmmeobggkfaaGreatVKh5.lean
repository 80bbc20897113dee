/- Closed runs; no conditions. -/
import Derived.Test.YthplmmeobggkfaaGreatVKD
set_option linter.all false
namespace Go.Eng
open Go.Proofs
theorem al4 : H [(61,1,[mR])] 13 343 abf:=hh
theorem al5 : H [(343,1,[abf])] 12 318 abg:=hh
theorem al6 : H [(315,2,[abe]),(318,2,[abg])] 8 270 abh:=hh
theorem al7 : H [(61,1,[mR]),(361,0,[abb,abc])] 12 343 abi:=hh
theorem al8 : H [(343,1,[abi])] 13 315 abj:=hh
theorem al9 : H [(61,1,[mR])] 14 343 abk:=hh
end Go.Eng

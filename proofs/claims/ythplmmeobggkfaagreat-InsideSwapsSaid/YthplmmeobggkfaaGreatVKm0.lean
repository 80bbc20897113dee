/- A part of the closed run of the chapter s examples; no conditions. -/
import Derived.Test.YthplmmeobggkfaaGreatVKM
set_option linter.all false
namespace Go.Eng
open Go.Proofs
theorem ajI : Tt [[2,8,9,10]] [93,74,83,107,33,36,38,19,11,13,40,2,0] (Hb (Tb UB Z7) Tryz.prog [13,11,10] (St.start (Tb UB Z7) 117 akp.1 ag.empty))=some ZI:=by kernel_rfl
end Go.Eng

/- Closed runs; no conditions. -/
import Derived.Test.YthplmmeobggkfaaGreatVKM
set_option linter.all false
namespace Go.Eng
open Go.Proofs
theorem ajM : Tx [[2,10,11,12]] [350,369,372,374,322,324,280,292,279,264,254,211,220,179,160,167,113,118,93,74,83,278,0] (Hh (Te UB Z9) Tryz.prog [11,7,6,3,2] ZL)=some ZM:=by kernel_rfl
end Go.Eng

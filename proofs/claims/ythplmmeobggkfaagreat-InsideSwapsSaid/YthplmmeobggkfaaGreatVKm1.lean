/- Closed runs; no conditions. -/
import Derived.Test.YthplmmeobggkfaaGreatVKM
set_option linter.all false
namespace Go.Eng
open Go.Proofs
theorem ajL : Tx [[2,8,9,10]] [264,254,211,220,179,160,167,113,118,93,74,83,278,33,36,38,19,11,13,40,2,0] (Hh (Te UB Z9) Tryz.prog [14,10,7,6,5,3,2,1,0] ZK)=some ZL:=by kernel_rfl
end Go.Eng

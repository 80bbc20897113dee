/- Closed runs; no conditions. -/
import Derived.Test.YthplmmeobggkfaaGreatVKM
set_option linter.all false
namespace Go.Eng
open Go.Proofs
theorem ajK : Tx [[2,8,9,10]] [93,74,83,107,33,36,38,19,11,13,40,2,0] (Hh (Te UB Z9) Tryz.prog [13,11,10] (St.start (Te UB Z9) 117 akq.1 ag.empty))=some ZK:=by kernel_rfl
end Go.Eng

/- A part of the closed run of the chapter s examples; no conditions. -/
import Derived.Test.YthplmmeobggkfaaGreatVKM
set_option linter.all false
namespace Go.Eng
open Go.Proofs
theorem avC : aam 400 (Hb (Tb UB Z7) Tryz.prog [15] ZK)=some akp.2:=by kernel_rfl
end Go.Eng

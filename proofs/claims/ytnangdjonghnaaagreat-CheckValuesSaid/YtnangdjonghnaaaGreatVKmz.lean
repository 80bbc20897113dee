/- A part of the closed run of the chapter s examples; no conditions. -/
import Derived.Test.YtnangdjonghnaaaGreatVKM
set_option linter.unusedVariables false
set_option linter.unusedSimpArgs false
namespace Go.Eng
open Go.Proofs
theorem asR : N9 400 (xL (NL UB QU) Tryz.prog [15] QC)=some acb.2:=by kernel_rfl
end Go.Eng

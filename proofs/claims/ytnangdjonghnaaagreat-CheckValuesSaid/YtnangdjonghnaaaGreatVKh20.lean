/- A part of the closed run of the chapter s examples; no conditions. -/
import Derived.Test.YtnangdjonghnaaaGreatVKD
set_option linter.unusedVariables false
set_option linter.unusedSimpArgs false
namespace Go.Eng
open Go.Proofs
theorem alf : H [(90,1,[j4])] 14 299 WG:=hh
theorem alg : H [(299,1,[WG])] 12 245 WH:=hh
end Go.Eng

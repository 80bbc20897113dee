/- A part of the closed run of the chapter s examples; no conditions. -/
import Derived.Test.YtnangdjonghnaaaGreatVKD
set_option linter.unusedVariables false
set_option linter.unusedSimpArgs false
namespace Go.Eng
open Go.Proofs
theorem akb : H [(299,1,[VA])] 12 247 VB:=hh
theorem akc : H [(245,2,[Vz]),(247,2,[VB])] 6 182 VC:=hh
theorem akd : H [] 10 341 VD:=hh
theorem ake : H [(90,1,[j4]),(341,0,[VD])] 13 299 OV:=hh
theorem akf : H [(299,1,[OV])] 12 245 VE:=hh
theorem akg : H [(299,1,[OV])] 12 248 VF:=hh
theorem akh : H [(245,2,[VE]),(248,2,[VF])] 8 182 VG:=hh
theorem aki : H [(90,1,[j4])] 13 299 VH:=hh
theorem akj : H [(299,1,[VH])] 12 245 VI:=hh
theorem akk : H [(90,1,[j4])] 13 299 VJ:=hh
theorem akl : H [(299,1,[VJ])] 12 247 VK:=hh
theorem akm : H [(245,2,[VI]),(247,2,[VK])] 6 182 VL:=hh
theorem akn : H [] 10 341 VM:=hh
theorem ako : H [(90,1,[j4]),(341,0,[VM])] 13 299 VN:=hh
theorem akp : H [(299,1,[VN])] 12 245 VO:=hh
end Go.Eng

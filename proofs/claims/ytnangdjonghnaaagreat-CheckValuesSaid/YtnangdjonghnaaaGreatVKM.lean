/- The plan of a closed run in parts; no conditions. -/
import Derived.Test.YtnangdjonghnaaaGreatVKD
import Derived.Test.YtnangdjonghnaaaGreatVEngG
set_option linter.unusedVariables false
set_option linter.unusedSimpArgs false
namespace Go.Eng
open Go.Proofs
noncomputable section
def QA : St:=jg (ab T0 Tryz.prog 87 (St.start T0 145 [st []] af.empty)) [[(2,(.ptr 0 0 0)),(8,(.ptr 2 0 0)),(9,(.aj 40 0 2)),(10,(.aj 87 0 2))]] (oL 88 [(68,.arr 4 [KR]),(73,.arr 4 [RE,P5]),(48,.arr 4 [P5,QS]),(87,.arr 8 [Rv,Rw]),(33,.arr 4 [Ox]),(36,.arr 4 [Ox,Z8]),(38,.arr 4 [aas,Z3]),(19,.arr 1 [Jz]),(11,.arr 4 [aat]),(13,.arr 4 [P5,Z4]),(40,.arr 3 [aai,Z0]),(2,.arr 3 [g [l1,i 47,ff]]),(0,.arr 4 [Sb])])
def QB : St:=jg (ab T0 Tryz.prog 87 (St.start T0 145 [st []] af.empty)) [[(2,(.ptr 0 0 0)),(8,(.ptr 2 0 0)),(9,(.aj 40 0 2)),(10,(.aj 203 0 6))]] (oL 204 [(189,.arr 4 [OB,KR]),(167,.arr 4 [RX]),(148,.arr 4 [OB]),(136,.arr 4 [KR,QS]),(99,.arr 4 [QS]),(93,.arr 4 [KR]),(101,.arr 4 [Z5,Z6]),(68,.arr 4 [KR]),(73,.arr 4 [RE,P5]),(48,.arr 4 [P5,QS]),(203,.arr 8 [Rv,Rw,ZI,ZL,ZM,ZN]),(33,.arr 4 [Ox]),(36,.arr 4 [Ox,Z8]),(38,.arr 4 [aas,Z3]),(19,.arr 1 [Jz]),(11,.arr 4 [aat]),(13,.arr 4 [P5,Z4]),(40,.arr 3 [aai,Z0]),(2,.arr 3 [g [l1,i 90,ff]]),(0,.arr 4 [Sb])])
def QC : St:=jg (ab T0 Tryz.prog 158 (St.start T0 145 [st []] af.empty)) [[(2,(.ptr 0 0 0)),(10,(.aj 253 0 8)),(11,(.ptr 254 0 0)),(12,(i 0))]] (oL 350 [(325,.arr 2 [g [KY,i 0],g [NY,i 0],g [wE,i 0],g [wF,i 1],g [Od,i 0],g [Oe,i 2]]),(344,.arr 3 [GY]),(347,.arr 3 [GY,(tm 4 2 (.aj 344 0 1))]),(349,.arr 1 [z,.aj 347 0 2]),(297,.arr 3 [tm 4 1 z]),(299,.arr 1 [z,.aj 297 0 1]),(255,.arr 1 [z,z]),(267,.arr 3 [(g [st [66,111,111,108],i 0,.aj 255 0 2]),g [Jy,i 0,.aj 299 0 2],g [Yt,i 1,.aj 349 0 2]]),(254,.arr 4 [g [.aj 267 0 3,.aj 325 0 6,z,ff]]),(249,.arr 4 [KR,(g [i 2,st [],i 0,z])]),(230,.arr 4 [KR]),(211,.arr 4 [RX,KR]),(189,.arr 4 [OB,KR]),(167,.arr 4 [RX]),(148,.arr 4 [OB]),(136,.arr 4 [KR,QS]),(99,.arr 4 [QS]),(93,.arr 4 [KR]),(101,.arr 4 [Z5,Z6]),(68,.arr 4 [KR]),(73,.arr 4 [RE,P5]),(48,.arr 4 [P5,QS]),(253,.arr 8 [Rv,Rw,ZI,ZL,ZM,ZN,g [JB,.aj 211 0 2,uc,KY,i 0,z,i 1,i 1],(g [Of,.aj 230 0 1,i 15,st [],i 0,.aj 249 0 2,i 1,i 1])]),(0,.arr 4 [Sb])])
def QU : WQ:=[(99,0,[aeF]),(212,1,[aeI])]
end
end Go.Eng

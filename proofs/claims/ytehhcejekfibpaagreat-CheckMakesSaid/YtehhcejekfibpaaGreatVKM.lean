/- The plan of a closed run in parts; no conditions. -/
import Derived.Test.YtehhcejekfibpaaGreatVKD
import Derived.Test.YtehhcejekfibpaaGreatVEngG
set_option linter.unusedVariables false
set_option linter.unusedSimpArgs false
namespace Go.Eng
open Go.Proofs
noncomputable section
def Ql : St:=iJ (ab T0 Tryz.prog 87 (St.start T0 146 [st []] af.empty)) [[(2,(.ptr 0 0 0)),(8,(.ptr 2 0 0)),(9,(.ak 40 0 2)),(10,(.ak 87 0 2))]] (oL 88 [(68,.arr 4 [Kr]),(73,.arr 4 [RA,PQ]),(48,.arr 4 [PQ,QL]),(87,.arr 8 [Rr,Rs]),(33,.arr 4 [Oc]),(36,.arr 4 [Oc,aad]),(38,.arr 4 [aax,Z8]),(19,.arr 1 [I6]),(11,.arr 4 [aay]),(13,.arr 4 [PQ,Z9]),(40,.arr 3 [aan,Z5]),(2,.arr 3 [g [l1,i 47,ff]]),(0,.arr 4 [R7])])
def Qm : St:=iJ (ab T0 Tryz.prog 87 (St.start T0 146 [st []] af.empty)) [[(2,(.ptr 0 0 0)),(8,(.ptr 2 0 0)),(9,(.ak 40 0 2)),(10,(.ak 203 0 6))]] (oL 204 [(189,.arr 4 [Og,Kr]),(167,.arr 4 [RT]),(148,.arr 4 [Og]),(136,.arr 4 [Kr,QL]),(99,.arr 4 [QL]),(93,.arr 4 [Kr]),(101,.arr 4 [aaa,aab]),(68,.arr 4 [Kr]),(73,.arr 4 [RA,PQ]),(48,.arr 4 [PQ,QL]),(203,.arr 8 [Rr,Rs,ZN,ZQ,ZR,ZS]),(33,.arr 4 [Oc]),(36,.arr 4 [Oc,aad]),(38,.arr 4 [aax,Z8]),(19,.arr 1 [I6]),(11,.arr 4 [aay]),(13,.arr 4 [PQ,Z9]),(40,.arr 3 [aan,Z5]),(2,.arr 3 [g [l1,i 90,ff]]),(0,.arr 4 [R7])])
def Qn : St:=iJ (ab T0 Tryz.prog 158 (St.start T0 146 [st []] af.empty)) [[(2,(.ptr 0 0 0)),(10,(.ak 253 0 8)),(11,(.ptr 254 0 0)),(12,(i 0))]] (oL 350 [(325,.arr 2 [g [Ky,i 0],g [NH,i 0],g [vw,i 0],g [vx,i 1],g [NW,i 0],g [NX,i 2]]),(344,.arr 3 [Gk]),(347,.arr 3 [Gk,(tm 4 2 (.ak 344 0 1))]),(349,.arr 1 [z,.ak 347 0 2]),(297,.arr 3 [tm 4 1 z]),(299,.arr 1 [z,.ak 297 0 1]),(255,.arr 1 [z,z]),(267,.arr 3 [(g [st [66,111,111,108],i 0,.ak 255 0 2]),g [I5,i 0,.ak 299 0 2],g [Yp,i 1,.ak 349 0 2]]),(254,.arr 4 [g [.ak 267 0 3,.ak 325 0 6,z,ff]]),(249,.arr 4 [Kr,(g [i 2,st [],i 0,z])]),(230,.arr 4 [Kr]),(211,.arr 4 [RT,Kr]),(189,.arr 4 [Og,Kr]),(167,.arr 4 [RT]),(148,.arr 4 [Og]),(136,.arr 4 [Kr,QL]),(99,.arr 4 [QL]),(93,.arr 4 [Kr]),(101,.arr 4 [aaa,aab]),(68,.arr 4 [Kr]),(73,.arr 4 [RA,PQ]),(48,.arr 4 [PQ,QL]),(253,.arr 8 [Rr,Rs,ZN,ZQ,ZR,ZS,g [I8,.ak 211 0 2,ta,Ky,i 0,z,i 1,i 1],(g [NY,.ak 230 0 1,i 15,st [],i 0,.ak 249 0 2,i 1,i 1])]),(0,.arr 4 [R7])])
def QN : WQ:=[(101,0,[aeG]),(211,1,[aeJ])]
end
end Go.Eng

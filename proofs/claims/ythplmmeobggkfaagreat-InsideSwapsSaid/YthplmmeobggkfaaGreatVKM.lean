/- The plan of a closed run in parts; no conditions. -/
import Derived.Test.YthplmmeobggkfaaGreatVKD
import Derived.Test.YthplmmeobggkfaaGreatVEngG
set_option linter.all false
namespace Go.Eng
open Go.Proofs
noncomputable section
def ZK : St:=jB (ab T0 Tryz.prog 87 (St.start T0 117 [st []] ag.empty)) [[(2,(.ptr 0 0 0)),(8,(.ptr 2 0 0)),(9,(.ai 40 0 2)),(10,(.ai 107 0 2))]] (pg 108 [(93,.arr 4 [wP,WY]),(74,.arr 4 [wP]),(83,.arr 4 [wP,ak7]),(107,.arr 8 [ak3,ak2]),(33,.arr 4 [ako]),(36,.arr 4 [ako,agS]),(38,.arr 4 [ahi,agT]),(19,.arr 1 [Ru]),(11,.arr 4 [ahj]),(13,.arr 4 [wP,agU]),(40,.arr 3 [ahd,agO]),(2,.arr 3 [g [l1,i 44,ff]]),(0,.arr 4 [aaX])])
def ZL : St:=jB (ab T0 Tryz.prog 87 (St.start T0 117 [st []] ag.empty)) [[(2,(.ptr 0 0 0)),(8,(.ptr 2 0 0)),(9,(.ai 40 0 2)),(10,(.ai 278 0 6))]] (pg 279 [(264,.arr 4 [S3,WY]),(254,.arr 4 [ahk,wP]),(211,.arr 4 [S3]),(220,.arr 4 [S3,agQ]),(179,.arr 4 [S3]),(160,.arr 4 [S3,WY]),(167,.arr 4 [agV]),(113,.arr 4 [S3]),(118,.arr 4 [agR,WY]),(93,.arr 4 [wP,WY]),(74,.arr 4 [wP]),(83,.arr 4 [wP,ak7]),(278,.arr 8 [ak3,ak2,as4,as1,agH,as2]),(33,.arr 4 [ako]),(36,.arr 4 [ako,agS]),(38,.arr 4 [ahi,agT]),(19,.arr 1 [Ru]),(11,.arr 4 [ahj]),(13,.arr 4 [wP,agU]),(40,.arr 3 [ahd,agO]),(2,.arr 3 [g [l1,i 92,ff]]),(0,.arr 4 [aaX])])
def ZM : St:=jB (ab T0 Tryz.prog 158 (St.start T0 117 [st []] ag.empty)) [[(2,(.ptr 0 0 0)),(10,(.ai 278 0 6)),(11,(.ptr 279 0 0)),(12,(i 0))]] (pg 375 [(350,.arr 2 [g [aj7,i 0],g [af1,i 0],g [Jh,i 0],g [Ji,i 1],g [yJ,i 0],g [Z3,i 2]]),(369,.arr 3 [Tf]),(372,.arr 3 [Tf,(tm 4 2 (.ai 369 0 1))]),(374,.arr 1 [z,.ai 372 0 2]),(322,.arr 3 [tm 4 1 z]),(324,.arr 1 [z,.ai 322 0 1]),(280,.arr 1 [z,z]),(292,.arr 3 [(g [st [66,111,111,108],i 0,.ai 280 0 2]),g [afh,i 0,.ai 324 0 2],g [afi,i 1,.ai 374 0 2]]),(279,.arr 4 [g [.ai 292 0 3,.ai 350 0 6,z,ff]]),(264,.arr 4 [S3,WY]),(254,.arr 4 [ahk,wP]),(211,.arr 4 [S3]),(220,.arr 4 [S3,agQ]),(179,.arr 4 [S3]),(160,.arr 4 [S3,WY]),(167,.arr 4 [agV]),(113,.arr 4 [S3]),(118,.arr 4 [agR,WY]),(93,.arr 4 [wP,WY]),(74,.arr 4 [wP]),(83,.arr 4 [wP,ak7]),(278,.arr 8 [ak3,ak2,as4,as1,agH,as2]),(0,.arr 4 [aaX])])
def Z9 : WQ:=[(86,0,[ale]),(189,1,[alm])]
end
end Go.Eng

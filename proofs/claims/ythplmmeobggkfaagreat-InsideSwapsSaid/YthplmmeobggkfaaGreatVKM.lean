/- The plan of a closed run in parts; no conditions. -/
import Derived.Test.YthplmmeobggkfaaGreatVKD
import Derived.Test.YthplmmeobggkfaaGreatVEngG
set_option linter.all false
namespace Go.Eng
open Go.Proofs
noncomputable section
def ZI : St:=jN (ab T0 Tryz.prog 87 (St.start T0 117 [st []] ag.empty)) [[(2,(.ptr 0 0 0)),(8,(.ptr 2 0 0)),(9,(.ai 40 0 2)),(10,(.ai 107 0 2))]] (oX 108 [(93,.arr 4 [wL,WV]),(74,.arr 4 [wL]),(83,.arr 4 [wL,ak6]),(107,.arr 8 [ak2,ak1]),(33,.arr 4 [akn]),(36,.arr 4 [akn,agQ]),(38,.arr 4 [ahg,agR]),(19,.arr 1 [Rr]),(11,.arr 4 [ahh]),(13,.arr 4 [wL,agS]),(40,.arr 3 [ahb,agM]),(2,.arr 3 [g [l1,i 44,ff]]),(0,.arr 4 [aaV])])
def ZJ : St:=jN (ab T0 Tryz.prog 87 (St.start T0 117 [st []] ag.empty)) [[(2,(.ptr 0 0 0)),(8,(.ptr 2 0 0)),(9,(.ai 40 0 2)),(10,(.ai 278 0 6))]] (oX 279 [(264,.arr 4 [SV,WV]),(254,.arr 4 [ahi,wL]),(211,.arr 4 [SV]),(220,.arr 4 [SV,agO]),(179,.arr 4 [SV]),(160,.arr 4 [SV,WV]),(167,.arr 4 [agT]),(113,.arr 4 [SV]),(118,.arr 4 [agP,WV]),(93,.arr 4 [wL,WV]),(74,.arr 4 [wL]),(83,.arr 4 [wL,ak6]),(278,.arr 8 [ak2,ak1,as3,as0,agF,as1]),(33,.arr 4 [akn]),(36,.arr 4 [akn,agQ]),(38,.arr 4 [ahg,agR]),(19,.arr 1 [Rr]),(11,.arr 4 [ahh]),(13,.arr 4 [wL,agS]),(40,.arr 3 [ahb,agM]),(2,.arr 3 [g [l1,i 92,ff]]),(0,.arr 4 [aaV])])
def ZK : St:=jN (ab T0 Tryz.prog 158 (St.start T0 117 [st []] ag.empty)) [[(2,(.ptr 0 0 0)),(10,(.ai 278 0 6)),(11,(.ptr 279 0 0)),(12,(i 0))]] (oX 375 [(350,.arr 2 [g [aj6,i 0],g [afZ,i 0],g [Jb,i 0],g [Jc,i 1],g [yr,i 0],g [Z1,i 2]]),(369,.arr 3 [Tc]),(372,.arr 3 [Tc,(tm 4 2 (.ai 369 0 1))]),(374,.arr 1 [z,.ai 372 0 2]),(322,.arr 3 [tm 4 1 z]),(324,.arr 1 [z,.ai 322 0 1]),(280,.arr 1 [z,z]),(292,.arr 3 [(g [st [66,111,111,108],i 0,.ai 280 0 2]),g [aff,i 0,.ai 324 0 2],g [afg,i 1,.ai 374 0 2]]),(279,.arr 4 [g [.ai 292 0 3,.ai 350 0 6,z,ff]]),(264,.arr 4 [SV,WV]),(254,.arr 4 [ahi,wL]),(211,.arr 4 [SV]),(220,.arr 4 [SV,agO]),(179,.arr 4 [SV]),(160,.arr 4 [SV,WV]),(167,.arr 4 [agT]),(113,.arr 4 [SV]),(118,.arr 4 [agP,WV]),(93,.arr 4 [wL,WV]),(74,.arr 4 [wL]),(83,.arr 4 [wL,ak6]),(278,.arr 8 [ak2,ak1,as3,as0,agF,as1]),(0,.arr 4 [aaV])])
def Z7 : WQ:=[(86,0,[ald]),(189,1,[alk])]
end
end Go.Eng

/- The law itself lifted to data, with its contract; no conditions. -/
import Derived.Test.YthplmmeobggkfaaGreatVLfB
import Derived.Test.YthplmmeobggkfaaGreatVKZ
import Derived.KernelRfl
set_option linter.all false
namespace Go.Eng
open Go.Proofs
set_option synthInstance.maxSize 100000
set_option synthInstance.maxHeartbeats 400000
set_option maxRecDepth 100000
noncomputable section
def vf : Option Bool:=some true
theorem we : LF Tryz.prog vf 6 [] aB:=fun v h=>by
 cases h
 exact asA
def rz (a0:bA)(a:aj)(a2:Int):Option (Bool):=
 qD a0>>=fun v0=>if v0 then(qE a>>=fun c=>if c then(qU a0 a a2>>=fun b=>xD a0 a a2>>=fun v3=>if decide ((b.2:Int)=v3.2) then(rM b.1 v3.1>>=fun v5=>if v5 then(vf  >>= fun d=>if d then(some true) else(some false)) else(some false)) else(some false)) else(vf  >>= fun e=>if e then(some true) else(some false))) else(vf  >>= fun f=>if f then(some true) else(some false))
theorem Aj {a0:bA}{a:aj}{a2:Int}:LF Tryz.prog (rz a0 a a2) 3 [.agg [aM a0.Prog.cv.Cons,aM a0.Prog.cv.bp,.lit (a0.Prog.aF.map az),.lit (a0.bP.map au)],.agg [aI a.Nil,aI a.Cons,.lit (a.Steps.map ar)],aI a2] aB:=
 sF<|fI 6 CE (fI 3 CH (sC 6 G5 fun _=>sC 10 NF fun _=>sB 9 (fI 3 Er (fI 2 we (sR 4)<|sR 4)<|sR 7)<|sR 11)<|fI 3 we (sR 3)<|sR 3)<|fI 7 we (sR 3)<|sR 3
end
end Go.Eng

/- The law itself lifted to data, with its contract; no conditions. -/
import Derived.Test.YthplmmeobggkfaaGreatVLfB
import Derived.Test.YthplmmeobggkfaaGreatVKZ
import Derived.KernelRfl
set_option linter.all false
namespace Go.Eng
open Go.Proofs
set_option synthInstance.maxSize 100000
set_option synthInstance.maxHeartbeats 400000
set_option maxRecDepth 100000
noncomputable section
def u6 : Option Bool:=some true
theorem vX : LF Tryz.prog u6 6 [] aB:=fun v h=>by
 cases h
 exact asz
def ra (a0:bA)(a:aj)(a2:Int):Option (Bool):=
 qw a0>>=fun v0=>if v0 then(qy a>>=fun c=>if c then(qP a0 a a2>>=fun b=>xu a0 a a2>>=fun v3=>if decide ((b.2:Int)=v3.2) then(rD b.1 v3.1>>=fun v5=>if v5 then(u6  >>= fun d=>if d then(some true) else(some false)) else(some false)) else(some false)) else(u6  >>= fun e=>if e then(some true) else(some false))) else(u6  >>= fun f=>if f then(some true) else(some false))
theorem Aa {a0:bA}{a:aj}{a2:Int}:LF Tryz.prog (ra a0 a a2) 3 [.agg [aM a0.Prog.cy.Cons,aM a0.Prog.cy.bq,.lit (a0.Prog.aO.map ay),.lit (a0.bX.map au)],.agg [aI a.Nil,aI a.Cons,.lit (a.Steps.map ar)],aI a2] aB:=
 sF<|fH 6 Cw (fH 3 Cz (sC 6 GW fun _=>sC 10 NB fun _=>sB 9 (fH 3 Ef (fH 2 vX (sR 4)<|sR 4)<|sR 7)<|sR 11)<|fH 3 vX (sR 3)<|sR 3)<|fH 7 vX (sR 3)<|sR 3
end
end Go.Eng

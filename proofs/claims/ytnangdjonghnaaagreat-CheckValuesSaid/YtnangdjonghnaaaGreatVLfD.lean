/- The law itself lifted to data, with its contract; no conditions. -/
import Derived.Test.YtnangdjonghnaaaGreatVLfB
import Derived.Test.YtnangdjonghnaaaGreatVLfC
import Derived.Test.YtnangdjonghnaaaGreatVKZ
import Derived.KernelRfl
set_option linter.unusedVariables false
set_option linter.unusedSimpArgs false
namespace Go.Eng
open Go.Proofs
set_option synthInstance.maxSize 100000
set_option synthInstance.maxHeartbeats 400000
noncomputable section
def qZ : Option Bool:=some true
theorem qK (r:Bool)(h:qZ=some r):∀ S,dc Tryz.prog 5 [] S fun a b=>a=.ret (.sc (.bool r))∧b=S:=by
 cases h
 exact aqd
def mG (a0:ae)(a a2:LI)(a3:Int):Option (Bool):=
 nE a0>>=fun v0=>if v0 then(if decide ((a.length:Int)>20) then(qZ  >>= fun b=>if b then(some true) else(some false)) else(if decide ((a2.length:Int)>20) then(qZ  >>= fun v4=>if v4 then(some true) else(some false)) else(jo a0 a a2 a3>>=fun v5=>kz a0 a a2 a3>>=fun v6=>if decide ((v5.2:Int)=v6.2) then(mn v5.1 v6.1>>=fun v8=>if v8 then(qZ  >>= fun v9=>if v9 then(some true) else(some false)) else(some false)) else(some false)))) else(qZ  >>= fun v10=>if v10 then(some true) else(some false))
set_option maxRecDepth 100000 in
theorem wx (a0:ae)(a a2:LI)(a3:Int)(r:(Bool))(h:mG a0 a a2 a3=some r):∀ S,dc Tryz.prog 3 [aG a0,aN a,aN a2,aI a3] S fun b c=>b=.ret (aB r)∧c=S:=by
 unfold mG at h
 refine yF EE ?_
 refine sK EE 5 (zr a0) h (fun h=>?_) (fun h=>?_)
 · refine zL 3 (dX .i64) a ?_
   refine yB EE 0 h (fun c1 h=>?_) (fun c1 h=>?_)
   · refine sK EE 7 qK h (fun h=>?_) (fun h=>?_)
     · cases h
       exact yR EE 3
     · cases h
       exact yR EE 3
   · refine zL 3 (dX .i64) a2 ?_
     refine yB EE 0 h (fun c3 h=>?_) (fun c3 h=>?_)
     · refine sK EE 2 qK h (fun h=>?_) (fun h=>?_)
       · cases h
         exact yR EE 3
       · cases h
         exact yR EE 3
     · refine yC EE 6 (zI a0 a a2 a3) h fun v5 h=>?_
       refine yC EE 10 (Cr a0 a a2 a3) h fun v6 h=>?_
       refine yB EE 8 h (fun c7 h=>?_) (fun c7 h=>?_)
       · refine sK EE 3 (yh v5.1 v6.1) h (fun h=>?_) (fun h=>?_)
         · refine sK EE 2 qK h (fun h=>?_) (fun h=>?_)
           · cases h
             exact yR EE 4
           · cases h
             exact yR EE 4
         · cases h
           exact yR EE 7
       · cases h
         exact yR EE 11
 · refine sK EE 12 qK h (fun h=>?_) (fun h=>?_)
   · cases h
     exact yR EE 3
   · cases h
     exact yR EE 3
end
end Go.Eng

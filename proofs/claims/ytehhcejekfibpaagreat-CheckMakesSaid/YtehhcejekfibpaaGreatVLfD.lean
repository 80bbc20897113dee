/- The law itself lifted to data, with its contract; no conditions. -/
import Derived.Test.YtehhcejekfibpaaGreatVLfC
import Derived.Test.YtehhcejekfibpaaGreatVKZ
import Derived.KernelRfl
set_option linter.unusedVariables false
set_option linter.unusedSimpArgs false
namespace Go.Eng
open Go.Proofs
set_option synthInstance.maxSize 100000
set_option synthInstance.maxHeartbeats 400000
noncomputable section
def dM : Option Bool:=some true
theorem fj (r:Bool)(h:dM=some r):∀ S,cL Tryz.prog 6 [] S fun a b=>a=.ret (.sc (.bool r))∧b=S:=by
 cases h
 exact ap2
noncomputable def wM : St:=sN 7 (aF (aB true) none (sN 2 (aF (aB false) none (sN 0 (aF (aI 0) none (sN 2 (aF (aB false) none (sN 7 (aF (.bM [.lit [],aI 0]) none (sN 7 (aF (aB true) none (sN 3 (aF (aB false) none (sN 0 (aF (aI 0) none (sN 3 (aF (aB false) none (sN 0 (aF (aI 0) none (sN 3 (aF (aB true) none (sN 6 (St.start T0 3 [.agg [.lit [],.lit []],.lit [],.lit [],aI 0,.agg [aI 0,aI 0,.lit []]] af.empty)))))))))))))))))))))))
noncomputable def wN := fun a0 c a2 a3 a4 (v6:(LT×Int)) a b=>ng wM 2 fun o=>([[(9,aP (o 1)),(11,aT v6.1),(3,aI a3),(2,aN a2),(1,aN c),(5,aP (o 0)),(14,aI a),(13,aB b)]],[((o 1),.arr 3 [aK a4]),((o 0),oG a0)])
def bu (a0:ae)(b a2:LI)(a3:Int)(a4:Term)(v6:(LT×Int))(a:Int)(c:Bool):Option (Bool):=
 if decide (a<(v6.1.length:Int)) then(dY v6.1 a>>=fun k=>kL a0 k>>=fun v87=>if v87 then(dY v6.1 a>>=fun l=>jn l b a2>>=fun m=>if m then(dY v6.1 a>>=fun n=>jm n>>=fun v91=>if decide (v91>a3) then(some false) else(if decide (a>0) then(if dH .i64 (a-1) then(dY v6.1 (a-1)>>=fun o=>dY v6.1 a>>=fun p=>jN o p>>=fun acf=>if decide (acf≥0) then(some false) else(if c then(if dH .i64 (a+1) then(bu a0 b a2 a3 a4 v6 (a+1) true) else none) else(dY v6.1 a>>=fun d=>kK d a4>>=fun Jd=>if Jd then(if dH .i64 (a+1) then(bu a0 b a2 a3 a4 v6 (a+1) true) else none) else(if dH .i64 (a+1) then(bu a0 b a2 a3 a4 v6 (a+1) false) else none)))) else none) else(if c then(if dH .i64 (a+1) then(bu a0 b a2 a3 a4 v6 (a+1) true) else none) else(dY v6.1 a>>=fun e=>kK e a4>>=fun f=>if f then(if dH .i64 (a+1) then(bu a0 b a2 a3 a4 v6 (a+1) true) else none) else(if dH .i64 (a+1) then(bu a0 b a2 a3 a4 v6 (a+1) false) else none))))) else(some false)) else(some false)) else(ri a0>>=fun La=>if La then(kL a0 a4>>=fun g=>if g then(jn a4 b a2>>=fun Gx=>if Gx then(jm a4>>=fun h=>if decide (h>a3) then(dM  >>= fun Gy=>if Gy then(some true) else(some false)) else(if c then(dM  >>= fun Lb=>if Lb then(some true) else(some false)) else(some false))) else(dM  >>= fun i=>if i then(some true) else(some false))) else(dM  >>= fun Lc=>if Lc then(some true) else(some false))) else(dM  >>= fun j=>if j then(some true) else(some false)))
 partial_fixpoint
set_option maxRecDepth 100000 in
theorem tL (a0:ae)(f a2:LI)(a3:Int)(a4:Term)(v6:(LT×Int)):(∀ b c r,bu a0 f a2 a3 a4 v6 b c=some r→SX Tryz.prog (RQ (aB r)) (wN a0 f a2 a3 a4 v6 b c)):=by
 refine bu.partial_correctness _ _ _ _ _ _ _ ?_
 intro bu a b c r h
 refine zL 3 aj v6.1 ?_
 refine yB EE 0 h (fun ae6 h=>?_) (fun ae6 h=>?_)
 · refine yX EE 6 27 29 eB h fun g o h=>?_
   refine mK EE 1 (x5 a0 g) h (fun h=>?_) (fun h=>?_)
   · refine yX EE 4 27 29 eB h fun i p h=>?_
     refine mK EE 3 (rA i f a2) h (fun h=>?_) (fun h=>?_)
     · refine yX EE 5 27 29 eB h fun j q h=>?_
       refine yC EE 1 (mE j) h fun v91 h=>?_
       refine yB EE 1 h (fun Y2 h=>?_) (fun Y2 h=>?_)
       · cases h
         exact yR EE 23
       · refine yB EE 3 h (fun PK h=>?_) (fun PK h=>?_)
         · refine yI EE 3 h fun aa1 h=>?_
           refine yX EE 0 27 29 eB h fun k s h=>?_
           refine yX EE 3 27 29 eB h fun l t h=>?_
           refine yC EE 1 (qC k l) h fun acf h=>?_
           refine yB EE 0 h (fun Y3 h=>?_) (fun Y3 h=>?_)
           · cases h
             exact yR EE 7
           · refine NC EE 5 h (fun NG h=>?_) (fun NG h=>?_)
             · refine yI EE 13 h fun Y4 h=>?_
               exact yK EE 2 [[9,11,3,2,1,5,14,13]] [1,0] (a (b+1) true r h)
             · refine yX EE 3 27 29 eB h fun d m h=>?_
               refine mK EE 2 (rz d a4) h (fun h=>?_) (fun h=>?_)
               · refine yI EE 6 h fun OH h=>?_
                 exact yK EE 2 [[9,11,3,2,1,5,14,13]] [1,0] (a (b+1) true r h)
               · refine yI EE 6 h fun aa0 h=>?_
                 exact yK EE 2 [[9,11,3,2,1,5,14,13]] [1,0] (a (b+1) false r h)
         · refine NC EE 17 h (fun Xc h=>?_) (fun Xc h=>?_)
           · refine yI EE 13 h fun aa2 h=>?_
             exact yK EE 2 [[9,11,3,2,1,5,14,13]] [1,0] (a (b+1) true r h)
           · refine yX EE 3 27 29 eB h fun e n h=>?_
             refine mK EE 2 (rz e a4) h (fun h=>?_) (fun h=>?_)
             · refine yI EE 6 h fun aa4 h=>?_
               exact yK EE 2 [[9,11,3,2,1,5,14,13]] [1,0] (a (b+1) true r h)
             · refine yI EE 6 h fun aa5 h=>?_
               exact yK EE 2 [[9,11,3,2,1,5,14,13]] [1,0] (a (b+1) false r h)
     · cases h
       exact yR EE 33
   · cases h
     exact yR EE 42
 · refine mK EE 2 (Hz a0) h (fun h=>?_) (fun h=>?_)
   · refine mK EE 4 (x5 a0 a4) h (fun h=>?_) (fun h=>?_)
     · refine mK EE 6 (rA a4 f a2) h (fun h=>?_) (fun h=>?_)
       · refine yC EE 4 (mE a4) h fun u h=>?_
         refine yB EE 1 h (fun KS h=>?_) (fun KS h=>?_)
         · refine mK EE 2 fj h (fun h=>?_) (fun h=>?_)
           · cases h
             exact yR EE 3
           · cases h
             exact yR EE 3
         · refine NC EE 2 h (fun I4 h=>?_) (fun I4 h=>?_)
           · refine mK EE 1 fj h (fun h=>?_) (fun h=>?_)
             · cases h
               exact yR EE 4
             · cases h
               exact yR EE 4
           · cases h
             exact yR EE 6
       · refine mK EE 9 fj h (fun h=>?_) (fun h=>?_)
         · cases h
           exact yR EE 3
         · cases h
           exact yR EE 3
     · refine mK EE 16 fj h (fun h=>?_) (fun h=>?_)
       · cases h
         exact yR EE 3
       · cases h
         exact yR EE 3
   · refine mK EE 21 fj h (fun h=>?_) (fun h=>?_)
     · cases h
       exact yR EE 3
     · cases h
       exact yR EE 3
def nb (a0:ae)(c a2:LI)(a3:Int)(a4:Term):Option (Bool):=
 jX a0>>=fun v0=>if v0 then(if decide ((c.length:Int)>20) then(dM  >>= fun d=>if d then(some true) else(some false)) else(if decide ((a2.length:Int)>20) then(dM  >>= fun v4=>if v4 then(some true) else(some false)) else(qd a4>>=fun v5=>if v5 then(fY a0 c a2 a3>>=fun v6=>if(!decide ((v6.2:Int)=0)) then(if decide ((v6.2:Int)=2) then(if decide ((v6.1.length:Int)=0) then(dM  >>= fun v10=>if v10 then(some true) else(some false)) else(some false)) else(if decide ((v6.2:Int)=3) then(if decide ((v6.1.length:Int)=0) then(dM  >>= fun cB=>if cB then(some true) else(some false)) else(some false)) else(some false))) else(if decide ((v6.1.length:Int)>100) then(some false) else(kO v6.1>>=fun PI=>if PI then(bu a0 c a2 a3 a4 v6 0 false) else(some false)))) else(dM  >>= fun a=>if a then(some true) else(some false))))) else(dM  >>= fun b=>if b then(some true) else(some false))
set_option maxRecDepth 100000 in
theorem wO (a0:ae)(a a2:LI)(a3:Int)(a4:Term)(r:(Bool))(h:nb a0 a a2 a3 a4=some r):∀ S,cL Tryz.prog 3 [aG a0,aN a,aN a2,aI a3,aK a4] S fun b c=>b=.ret (aB r)∧c=S:=by
 unfold nb at h
 refine yF EE ?_
 refine mK EE 6 (yH a0) h (fun h=>?_) (fun h=>?_)
 · refine zL 3 (dO .i64) a ?_
   refine yB EE 0 h (fun c1 h=>?_) (fun c1 h=>?_)
   · refine mK EE 12 fj h (fun h=>?_) (fun h=>?_)
     · cases h
       exact yR EE 3
     · cases h
       exact yR EE 3
   · refine zL 3 (dO .i64) a2 ?_
     refine yB EE 0 h (fun c3 h=>?_) (fun c3 h=>?_)
     · refine mK EE 7 fj h (fun h=>?_) (fun h=>?_)
       · cases h
         exact yR EE 3
       · cases h
         exact yR EE 3
     · refine mK EE 3 (wB a4) h (fun h=>?_) (fun h=>?_)
       · refine yC EE 7 (y5 a0 a a2 a3) h fun v6 h=>?_
         refine yB EE 7 h (fun c7 h=>?_) (fun c7 h=>?_)
         · refine yB EE 2 h (fun c8 h=>?_) (fun c8 h=>?_)
           · refine zL 6 aj v6.1 ?_
             refine yB EE 0 h (fun c9 h=>?_) (fun c9 h=>?_)
             · refine mK EE 2 fj h (fun h=>?_) (fun h=>?_)
               · cases h
                 exact yR EE 4
               · cases h
                 exact yR EE 4
             · cases h
               exact yR EE 7
           · refine yB EE 2 h (fun YX h=>?_) (fun YX h=>?_)
             · refine zL 3 aj v6.1 ?_
               refine yB EE 0 h (fun Yo h=>?_) (fun Yo h=>?_)
               · refine mK EE 2 fj h (fun h=>?_) (fun h=>?_)
                 · cases h
                   exact yR EE 4
                 · cases h
                   exact yR EE 4
               · cases h
                 exact yR EE 7
             · cases h
               exact yR EE 12
         · refine zL 2 aj v6.1 ?_
           refine yB EE 0 h (fun QH h=>?_) (fun QH h=>?_)
           · cases h
             exact yR EE 9
           · refine mK EE 2 (wL v6.1) h (fun h=>?_) (fun h=>?_)
             · exact yK EE 7 [[9,11,3,2,1,5,14,13]] [1,0] ((tL a0 a a2 a3 a4 v6) 0 false r h)
             · cases h
               exact yR EE 6
       · refine mK EE 3 fj h (fun h=>?_) (fun h=>?_)
         · cases h
           exact yR EE 3
         · cases h
           exact yR EE 3
 · refine mK EE 17 fj h (fun h=>?_) (fun h=>?_)
   · cases h
     exact yR EE 3
   · cases h
     exact yR EE 3
end
end Go.Eng

/- Functions of the program lifted to data, each with its contract; no conditions. -/
import Derived.Test.YtnangdjonghnaaaGreatVLcA
import Derived.KernelRfl
set_option linter.unusedVariables false
set_option linter.unusedSimpArgs false
namespace Go.Eng
open Go.Proofs
set_option synthInstance.maxSize 100000
set_option synthInstance.maxHeartbeats 400000
noncomputable section
def xX (a0 a a2:Int):Option (Bool):=
 if decide (a0≥a) then(if decide (a0≤a2) then(some true) else(some false)) else(some false)
set_option maxRecDepth 100000 in
theorem Dg (a0 a a2:Int)(r:(Bool))(h:xX a0 a a2=some r):∀ S,dc Tryz.prog 34 [aI a0,aI a,aI a2] S fun b c=>b=.ret (aB r)∧c=S:=by
 unfold xX at h
 refine yF EE ?_
 refine yB EE 5 h (fun c0 h=>?_) (fun c0 h=>?_)
 · refine yB EE 3 h (fun c1 h=>?_) (fun c1 h=>?_)
   · cases h
     exact yR EE 4
   · cases h
     exact yR EE 4
 · cases h
   exact yR EE 8
noncomputable def Cd : St:=sN 5 (St.start T0 33 [.lit [],aI 0,aI 0] af.empty)
noncomputable def Ce := fun a0 a a2 b=>lH Cd 0 fun o=>([[(0,aN a0),(2,aI a2),(1,aI a),(7,aI b)]],[])
def il (a0:LI)(b a2 a:Int):Option (Bool):=
 if decide (a<(a0.length:Int)) then(dA a0 a>>=fun c=>xX c b a2>>=fun d=>if d then(if decide (a>0) then(if du .i64 (a-1) then(dA a0 (a-1)>>=fun e=>dA a0 a>>=fun f=>if decide (e≥f) then(some false) else(if du .i64 (a+1) then(il a0 b a2 (a+1)) else none)) else none) else(if du .i64 (a+1) then(il a0 b a2 (a+1)) else none)) else(some false)) else(some true)
 partial_fixpoint
set_option maxRecDepth 100000 in
theorem yf (a0:LI)(c a2:Int):(∀ b r,il a0 c a2 b=some r→SX Tryz.prog (RQ (aB r)) (Ce a0 c a2 b)):=by
 refine il.partial_correctness _ _ _ _ ?_
 intro il a b r h
 refine zL 3 (dX .i64) a0 ?_
 refine yB EE 0 h (fun Yo h=>?_) (fun Yo h=>?_)
 · refine yX EE 5 25 3 (Dv .i64) h fun d e h=>?_
   refine sK EE 3 (Dg d c a2) h (fun h=>?_) (fun h=>?_)
   · refine yB EE 3 h (fun abW h=>?_) (fun abW h=>?_)
     · refine yI EE 3 h fun Yp h=>?_
       refine yX EE 0 25 3 (Dv .i64) h fun i f h=>?_
       refine yX EE 3 25 3 (Dv .i64) h fun j g h=>?_
       refine yB EE 1 h (fun YW h=>?_) (fun YW h=>?_)
       · cases h
         exact yR EE 7
       · refine yI EE 6 h fun Yq h=>?_
         exact yK EE 2 [[0,2,1,7]] [] (a (b+1) r h)
     · refine yI EE 17 h fun abX h=>?_
       exact yK EE 2 [[0,2,1,7]] [] (a (b+1) r h)
   · cases h
     exact yR EE 22
 · cases h
   exact yR EE 4
def oC (a0:LI)(a a2:Int):Option (Bool):=
 il a0 a a2 0
set_option maxRecDepth 100000 in
theorem vq (a0:LI)(a a2:Int)(r:(Bool))(h:oC a0 a a2=some r):∀ S,dc Tryz.prog 33 [aN a0,aI a,aI a2] S fun b c=>b=.ret (aB r)∧c=S:=by
 unfold oC at h
 refine yF EE ?_
 exact yK EE 5 [[0,2,1,7]] [] ((yf a0 a a2) 0 r h)
def ux (a0 a a2:Int):Option (Bool):=
 if decide (a0≥a) then(if decide (a0≤a2) then(some true) else(some false)) else(some false)
set_option maxRecDepth 100000 in
theorem u4 (a0 a a2:Int)(r:(Bool))(h:ux a0 a a2=some r):∀ S,dc Tryz.prog 79 [aI a0,aI a,aI a2] S fun b c=>b=.ret (aB r)∧c=S:=by
 unfold ux at h
 refine yF EE ?_
 refine yB EE 5 h (fun c0 h=>?_) (fun c0 h=>?_)
 · refine yB EE 3 h (fun c1 h=>?_) (fun c1 h=>?_)
   · cases h
     exact yR EE 4
   · cases h
     exact yR EE 4
 · cases h
   exact yR EE 8
noncomputable def Gt : St:=sN 5 (St.start T0 134 [.sc (.string ⟨#[]⟩)] af.empty)
noncomputable def Gu := fun a0 a=>lH Gt 0 fun o=>([[(0,.sc (.string a0)),(3,aI a)]],[])
def iL (a0:ByteArray)(a:Int):Option (Bool):=
 if decide (a<(a0.size:Int)) then(om a0 a>>=fun b=>if decide (b<97) then(om a0 a>>=fun c=>if decide (c<65) then(some false) else(om a0 a>>=fun d=>if decide (d>90) then(some false) else(if du .i64 (a+1) then(iL a0 (a+1)) else none))) else(om a0 a>>=fun e=>if decide (e>122) then(om a0 a>>=fun f=>if decide (f<65) then(some false) else(om a0 a>>=fun g=>if decide (g>90) then(some false) else(if du .i64 (a+1) then(iL a0 (a+1)) else none))) else(if du .i64 (a+1) then(iL a0 (a+1)) else none))) else(ux (a0.size:Int) 1 8>>=fun YX=>if YX then(some true) else(some false))
 partial_fixpoint
set_option maxRecDepth 100000 in
theorem Bi (a0:ByteArray):(∀ b r,iL a0 b=some r→SX Tryz.prog (RQ (aB r)) (Gu a0 b)):=by
 refine iL.partial_correctness _ _ ?_
 intro iL a b r h
 refine zg EE 3 (some (aI (a0.size:Nat))) (aI (a0.size:Int)) (by kernel_rfl) (rfl) ?_
 refine yB EE 0 h (fun acQ h=>?_) (fun acQ h=>?_)
 · obtain⟨j,c,h⟩:=bC h
   refine eo EE 4 (fun S=>Dz Tryz.prog S 9 (.sc (.string a0)) (aI b)) (fun S=>.val (.sc (.int .u8 j)) S) (by kernel_rfl) (by kernel_rfl) (tx c (by kernel_rfl)) ?_
   refine yB EE 0 h (fun acR h=>?_) (fun acR h=>?_)
   · obtain⟨k,d,h⟩:=bC h
     refine eo EE 9 (fun S=>Dz Tryz.prog S 9 (.sc (.string a0)) (aI b)) (fun S=>.val (.sc (.int .u8 k)) S) (by kernel_rfl) (by kernel_rfl) (tx d (by kernel_rfl)) ?_
     refine yB EE 0 h (fun abY h=>?_) (fun abY h=>?_)
     · cases h
       exact yR EE 11
     · obtain⟨l,e,h⟩:=bC h
       refine eo EE 3 (fun S=>Dz Tryz.prog S 9 (.sc (.string a0)) (aI b)) (fun S=>.val (.sc (.int .u8 l)) S) (by kernel_rfl) (by kernel_rfl) (tx e (by kernel_rfl)) ?_
       refine yB EE 0 h (fun YY h=>?_) (fun YY h=>?_)
       · cases h
         exact yR EE 6
       · refine yI EE 5 h fun abZ h=>?_
         exact yK EE 2 [[0,3]] [] (a (b+1) r h)
   · obtain⟨m,f,h⟩:=bC h
     refine eo EE 3 (fun S=>Dz Tryz.prog S 9 (.sc (.string a0)) (aI b)) (fun S=>.val (.sc (.int .u8 m)) S) (by kernel_rfl) (by kernel_rfl) (tx f (by kernel_rfl)) ?_
     refine yB EE 0 h (fun acS h=>?_) (fun acS h=>?_)
     · obtain⟨n,g,h⟩:=bC h
       refine eo EE 4 (fun S=>Dz Tryz.prog S 9 (.sc (.string a0)) (aI b)) (fun S=>.val (.sc (.int .u8 n)) S) (by kernel_rfl) (by kernel_rfl) (tx g (by kernel_rfl)) ?_
       refine yB EE 0 h (fun GV h=>?_) (fun GV h=>?_)
       · cases h
         exact yR EE 11
       · obtain⟨o,i,h⟩:=bC h
         refine eo EE 3 (fun S=>Dz Tryz.prog S 9 (.sc (.string a0)) (aI b)) (fun S=>.val (.sc (.int .u8 o)) S) (by kernel_rfl) (by kernel_rfl) (tx i (by kernel_rfl)) ?_
         refine yB EE 0 h (fun ab0 h=>?_) (fun ab0 h=>?_)
         · cases h
           exact yR EE 6
         · refine yI EE 5 h fun Jm h=>?_
           exact yK EE 2 [[0,3]] [] (a (b+1) r h)
     · refine yI EE 16 h fun aqu h=>?_
       exact yK EE 2 [[0,3]] [] (a (b+1) r h)
 · refine zg EE 2 (some (aI (a0.size:Nat))) (aI (a0.size:Int)) (by kernel_rfl) (rfl) ?_
   refine sK EE 0 (u4 (a0.size:Int) 1 8) h (fun h=>?_) (fun h=>?_)
   · cases h
     exact yR EE 3
   · cases h
     exact yR EE 3
def sZ (a0:ByteArray):Option (Bool):=
 iL a0 0
set_option maxRecDepth 100000 in
theorem yZ (a0:ByteArray)(r:(Bool))(h:sZ a0=some r):∀ S,dc Tryz.prog 134 [.sc (.string a0)] S fun a b=>a=.ret (aB r)∧b=S:=by
 unfold sZ at h
 refine yF EE ?_
 exact yK EE 5 [[0,3]] [] ((Bi a0) 0 r h)
noncomputable def Ew : St:=sN 6 (St.start T0 80 [.lit [],.lit []] af.empty)
noncomputable def xm := fun a0 (a:(List ByteArray))=>lH Ew 0 fun o=>([[(6,aI 0),(0,aM a0),(1,.lit (a.map fV))]],[])
noncomputable def Ex : St:=sN 4 (aA (aB true) none (sN 0 (aA (aI 0) none (sN 3 (dz xm)))))
noncomputable def xn := fun a0 (b:(List ByteArray)) a=>lH Ex 0 fun o=>([[(6,aI 0),(0,aM a0),(1,.lit (b.map fV)),(7,aI a)]],[])
noncomputable def Ey : St:=sN 12 (aA (.eV [.sc (.string ⟨#[]⟩),aI 0]) none (sN 2 (fB (fun S=>.val (.an) S) (sN 5 (aA (aB true) none (sN 2 (aA (.eV [.sc (.string ⟨#[]⟩),aI 0]) none (sN 4 (aA (aB true) none (sN 2 (aA (.eV [.sc (.string ⟨#[]⟩),aI 0]) none (sN 3 (aA (aB false) none (sN 0 (aA (aI 0) none (sN 3 (dz xn)))))))))))))))))
noncomputable def xo := fun a0 a (ig:(List ByteArray))=>lH Ey 2 fun o=>([[(6,aI a),(0,aM a0),(1,.aj (o 1) 0 ig.length)]],[((o 1),.arr 1 (ig.map fV))])
noncomputable def Ez : St:=sN 4 (aA (aB true) none (sN 0 (aA (aI 0) none (sN 3 (dz xo)))))
noncomputable def EA := fun a0 a (ig:(List ByteArray)) b=>lH Ez 2 fun o=>([[(6,aI a),(0,aM a0),(1,.aj (o 1) 0 ig.length),(7,aI b)]],[((o 1),.arr 1 (ig.map fV))])
mutual
def ji (a0:(List bK))(a:Int)(ig:(List ByteArray))(b:Int):Option ((List ByteArray)×Bool):=
 if decide (b<ig.length) then(dA ig b>>=fun j=>dA ig b>>=fun d=>dA a0 a>>=fun e=>if(d.data.toList==e.Name.data.toList) then(some (([]:List ByteArray),false)) else(if du .i64 (b+1) then(ji a0 a ig (b+1)) else none)) else(dA a0 a>>=fun f=>sZ f.Name>>=fun g=>if g then(dA a0 a>>=fun h=>ux h.dF 0 4>>=fun Ra=>if Ra then(if ig.isEmpty then(dA a0 a>>=fun i=>if du .i64 (a+1) then(jj a0 (a+1) [i.Name]) else none) else(if decide (ig.length≤1048576) then(dA a0 a>>=fun c=>if decide (ig.length+[c.Name].length≤1048576) then(if du .i64 (a+1) then(jj a0 (a+1) (ig++[c.Name])) else none) else none) else none)) else(some (([]:List ByteArray),false))) else(some (([]:List ByteArray),false)))
 partial_fixpoint
def jj (a0:(List bK))(a:Int)(ig:(List ByteArray)):Option ((List ByteArray)×Bool):=
 if decide (a<(a0.length:Int)) then(ji a0 a ig 0) else(some (ig,true))
 partial_fixpoint
end
set_option maxRecDepth 100000 in
theorem tS (a0:(List bK)):(∀ c ig d r,ji a0 c ig d=some r→SX Tryz.prog (RQ (.bm [.lit (r.1.map fV),aB r.2])) (EA a0 c ig d))∧(∀ c ig r,jj a0 c ig=some r→SX Tryz.prog (RQ (.bm [.lit (r.1.map fV),aB r.2])) (xo a0 c ig)):=by
 refine ji.mutual_partial_correctness _ _ _ ?_ ?_
 · intro ji jj a b c ig d r h
   refine yB EE 4 h (fun Rb h=>?_) (fun Rb h=>?_)
   · obtain⟨x,g,h⟩:=bC h
     refine qE EE 5 (fun S=>Jk Tryz.prog S 116 (.aj 1 0 ig.length) (aI d)) (fun S=>.val (.ptr 1 (0+(d:Int).toNat) 0) S) (by kernel_rfl) (by kernel_rfl) (Hm (xs:=ig) (es:=ig.map fV) (el:=9) (n:=1) g (by first | rfl | (simp;done) | omega | (simp;omega)) (by kernel_rfl) (by kernel_rfl) (by kernel_rfl)) ?_
     obtain⟨f,j,h⟩:=bC h
     refine qE EE 0 (fun S=>GP Tryz.prog S 9 (.ptr 1 (0+(d:Int).toNat) 0)) (fun S=>.val (.sc (.string f)) S) (by kernel_rfl) (by kernel_rfl) (XF (n:=1) (enc:=fV) (xs:=ig) (i:=d) j (by kernel_rfl) (cs:=(AV.agg [.sc (.string f)]).cells) rfl (by kernel_rfl) (by kernel_rfl)) ?_
     refine yX EE 2 22 35 cB h fun y q h=>?_
     refine yB EE 2 h (fun Rc h=>?_) (fun Rc h=>?_)
     · cases h
       exact nr EE 6 (v:=.bm [.an,aB false]) (by kernel_rfl) (Fz.iH (.an) (.pure (by simp[aq,br,bH,aD,-List.map_append,-List.map_drop,-List.map_take,-List.map_set,-List.map_replicate])))
     · refine yI EE 4 h fun ZA h=>?_
       exact yK EE 2 [[6,0,1,7]] [1] (a c ig (d+1) r h)
   · refine yX EE 3 22 35 cB h fun k s h=>?_
     refine sK EE 2 (yZ k.Name) h (fun h=>?_) (fun h=>?_)
     · refine yX EE 4 22 35 cB h fun l t h=>?_
       refine sK EE 2 (u4 l.dF 0 4) h (fun h=>?_) (fun h=>?_)
       · cases Jx:ig.isEmpty with
         | true=>
           have h:=wy Jx h
           refine eo EE 5 (fun S=>pt Tryz.prog S 116 116 (.an) (.aj 1 0 ig.length)) (fun S=>.val (.an) S) (by kernel_rfl) (by kernel_rfl) (ny (enc:=fV) (el:=9) (sz:=1) (ys:=ig) (by kernel_rfl) (by kernel_rfl) (gT _ (.inr ⟨1,1,rfl,by kernel_rfl⟩)) Jx rfl rfl) ?_
           refine yX EE 2 22 35 cB h fun m u h=>?_
           refine yI EE 9 h fun G6 h=>?_
           exact xF EE rq 2 [[6,0,1]] [3] [(1,3)] 4 (b (c+1) [m.Name] r h)
         | false=>
           have h:=wA Jx h
           obtain⟨o,h⟩:=kY h
           refine eo EE 5 (fun S=>pt Tryz.prog S 116 116 (.an) (.aj 1 0 ig.length)) (fun S=>.val (.aj 2 0 ig.length) (S.add (.arr 1 (ig.map fV)))) (by kernel_rfl) (by kernel_rfl) (pd (enc:=fV) (el:=9) (sz:=1) (ys:=ig) (.inl rfl) (by kernel_rfl) (by kernel_rfl) (fun _=>rfl) (fun _=>by kernel_rfl) (gT _ (.inr ⟨1,1,rfl,by kernel_rfl⟩)) (by kernel_rfl) (by kernel_rfl) (jA Jx) (of_decide_eq_true o)) ?_
           refine yX EE 2 22 35 cB h fun e w h=>?_
           obtain⟨p,h⟩:=kY h
           refine eo EE 3 (fun S=>pt Tryz.prog S 116 116 (.aj 2 0 ig.length) (.aj 3 0 1)) (fun S=>.val (.aj 4 0 (ig++[e.Name]).length) ((S.del 2).add (.arr 1 ((ig++[e.Name]).map fV)))) (by kernel_rfl) (by kernel_rfl) (zX (enc:=fV) (el:=9) (sz:=1) (xs:=ig) (ys:=[e.Name]) (by kernel_rfl) (by kernel_rfl) (fun _=>rfl) (fun _=>by kernel_rfl) (by kernel_rfl) (gT _ (.inr ⟨3,1,rfl,by kernel_rfl⟩)) (by first | rfl | (simp;done) | omega | (simp;omega)) (by kernel_rfl) (by kernel_rfl) (by kernel_rfl) (by simp) (of_decide_eq_true p)) ?_
           refine yI EE 5 h fun Oa h=>?_
           exact xF EE rq 2 [[6,0,1]] [4] [(1,4)] 5 (b (c+1) (ig++[e.Name]) r h)
       · cases h
         exact nr EE 7 (v:=.bm [.an,aB false]) (by kernel_rfl) (Fz.iH (.an) (.pure (by simp[aq,br,bH,aD,-List.map_append,-List.map_drop,-List.map_take,-List.map_set,-List.map_replicate])))
     · cases h
       exact nr EE 15 (v:=.bm [.an,aB false]) (by kernel_rfl) (Fz.iH (.an) (.pure (by simp[aq,br,bH,aD,-List.map_append,-List.map_drop,-List.map_take,-List.map_set,-List.map_replicate])))
 · intro ji a c ig r h
   refine zL 3 bf a0 ?_
   refine yB EE 0 h (fun Re h=>?_) (fun Re h=>?_)
   · exact yK EE 4 [[6,0,1,7]] [1] (a c ig 0 r h)
   · cases h
     exact nr EE 6 (v:=.bm [.aj 1 0 ig.length,aB true]) (by kernel_rfl) (Fz.iH (Fz.Ap (sz:=1) (es:=(ig.map fV)) (by kernel_rfl) (by simp) (by simp[aq,br,bH,aD,-List.map_append,-List.map_drop,-List.map_take,-List.map_set,-List.map_replicate])) (.pure (by simp[aq,br,bH,aD,-List.map_append,-List.map_drop,-List.map_take,-List.map_set,-List.map_replicate])))
def kc (a0:(List bK))(c:(List ByteArray))(a:Int):Option ((List ByteArray)×Bool):=
 if decide (a<(c.length:Int)) then(dA c a>>=fun d=>dA a0 0>>=fun e=>if(d.data.toList==e.Name.data.toList) then(some (([]:List ByteArray),false)) else(if du .i64 (a+1) then(kc a0 c (a+1)) else none)) else(dA a0 0>>=fun f=>sZ f.Name>>=fun g=>if g then(dA a0 0>>=fun h=>ux h.dF 0 4>>=fun i=>if i then(if c.isEmpty then(dA a0 0>>=fun j=>jj a0 1 [j.Name]) else(if decide (c.length≤1048576) then(dA a0 0>>=fun b=>if decide (c.length+[b.Name].length≤1048576) then(jj a0 1 (c++[b.Name])) else none) else none)) else(some (([]:List ByteArray),false))) else(some (([]:List ByteArray),false)))
 partial_fixpoint
set_option maxRecDepth 100000 in
theorem zn (a0:(List bK))(b:(List ByteArray)):(∀ c r,kc a0 b c=some r→SX Tryz.prog (RQ (.bm [.lit (r.1.map fV),aB r.2])) (xn a0 b c)):=by
 refine kc.partial_correctness _ _ _ ?_
 intro kc a c r h
 refine zL 3 fV b ?_
 refine yB EE 0 h (fun Ob h=>?_) (fun Ob h=>?_)
 · refine yX EE 5 116 9 aq6 h fun q k h=>?_
   refine yX EE 3 22 35 cB h fun s l h=>?_
   refine yB EE 2 h (fun Rf h=>?_) (fun Rf h=>?_)
   · cases h
     exact nr EE 6 (v:=.bm [.an,aB false]) (by kernel_rfl) (Fz.iH (.an) (.pure (by simp[aq,br,bH,aD,-List.map_append,-List.map_drop,-List.map_take,-List.map_set,-List.map_replicate])))
   · refine yI EE 4 h fun ZB h=>?_
     exact yK EE 2 [[6,0,1,7]] [] (a (c+1) r h)
 · refine yX EE 3 22 35 cB h fun e m h=>?_
   refine sK EE 2 (yZ e.Name) h (fun h=>?_) (fun h=>?_)
   · refine yX EE 4 22 35 cB h fun f n h=>?_
     refine sK EE 2 (u4 f.dF 0 4) h (fun h=>?_) (fun h=>?_)
     · cases G7:b.isEmpty with
       | true=>
         have h:=wy G7 h
         refine eo EE 5 (fun S=>pt Tryz.prog S 116 116 (.an) (.lit (b.map fV))) (fun S=>.val (.an) S) (by kernel_rfl) (by kernel_rfl) (ny (enc:=fV) (el:=9) (sz:=1) (ys:=b) (by kernel_rfl) (by kernel_rfl) (gT _ (.inl rfl)) G7 rfl rfl) ?_
         refine yX EE 2 22 35 cB h fun g o h=>?_
         exact yK EE 12 [[6,0,1]] [1] ((tS a0).2 1 [g.Name] r h)
       | false=>
         have h:=wA G7 h
         obtain⟨i,h⟩:=kY h
         refine eo EE 5 (fun S=>pt Tryz.prog S 116 116 (.an) (.lit (b.map fV))) (fun S=>.val (.aj 0 0 b.length) (S.add (.arr 1 (b.map fV)))) (by kernel_rfl) (by kernel_rfl) (pd (enc:=fV) (el:=9) (sz:=1) (ys:=b) (.inl rfl) (by kernel_rfl) (by kernel_rfl) (fun _=>rfl) (fun _=>by kernel_rfl) (gT _ (.inl rfl)) (by kernel_rfl) (by kernel_rfl) (jA G7) (of_decide_eq_true i)) ?_
         refine yX EE 2 22 35 cB h fun d p h=>?_
         obtain⟨j,h⟩:=kY h
         refine eo EE 3 (fun S=>pt Tryz.prog S 116 116 (.aj 0 0 b.length) (.aj 1 0 1)) (fun S=>.val (.aj 2 0 (b++[d.Name]).length) ((S.del 0).add (.arr 1 ((b++[d.Name]).map fV)))) (by kernel_rfl) (by kernel_rfl) (zX (enc:=fV) (el:=9) (sz:=1) (xs:=b) (ys:=[d.Name]) (by kernel_rfl) (by kernel_rfl) (fun _=>rfl) (fun _=>by kernel_rfl) (by kernel_rfl) (gT _ (.inr ⟨1,1,rfl,by kernel_rfl⟩)) (by first | rfl | (simp;done) | omega | (simp;omega)) (by kernel_rfl) (by kernel_rfl) (by kernel_rfl) (by simp) (of_decide_eq_true j)) ?_
         exact xF EE rq 8 [[6,0,1]] [2] [(1,2)] 3 ((tS a0).2 1 (b++[d.Name]) r h)
     · cases h
       exact nr EE 7 (v:=.bm [.an,aB false]) (by kernel_rfl) (Fz.iH (.an) (.pure (by simp[aq,br,bH,aD,-List.map_append,-List.map_drop,-List.map_take,-List.map_set,-List.map_replicate])))
   · cases h
     exact nr EE 15 (v:=.bm [.an,aB false]) (by kernel_rfl) (Fz.iH (.an) (.pure (by simp[aq,br,bH,aD,-List.map_append,-List.map_drop,-List.map_take,-List.map_set,-List.map_replicate])))
def sr (a0:(List bK))(a:(List ByteArray)):Option ((List ByteArray)×Bool):=
 if decide (0<(a0.length:Int)) then(kc a0 a 0) else(some (a,true))
set_option maxRecDepth 100000 in
theorem Bj (a0:(List bK))(a:(List ByteArray))(r:((List ByteArray)×Bool))(h:sr a0 a=some r):SX Tryz.prog (RQ (.bm [.lit (r.1.map fV),aB r.2])) (xm a0 a):=by
 unfold sr at h
 refine zL 3 bf a0 ?_
 refine yB EE 0 h (fun Rg h=>?_) (fun Rg h=>?_)
 · exact yK EE 4 [[6,0,1,7]] [] ((zn a0 a) 0 r h)
 · cases h
   exact yR EE 6
def qX (a0:(List bK))(a:(List ByteArray)):Option ((List ByteArray)×Bool):=
 sr a0 a
set_option maxRecDepth 100000 in
theorem xp (a0:(List bK))(a:(List ByteArray))(r:((List ByteArray)×Bool))(h:qX a0 a=some r):∀ S,dc Tryz.prog 80 [aM a0,.lit (a.map fV)] S fun b c=>b=.ret (.bm [.lit (r.1.map fV),aB r.2])∧c=S:=by
 unfold qX at h
 refine yF EE ?_
 exact yK EE 6 [[6,0,1]] [] (Bj a0 a r h)
def sh (a0:ae):Option (Bool):=
 ux (a0.Cons.length:Int) 2 12>>=fun v0=>if v0 then(if decide ((a0.gR.length:Int)>8) then(some false) else(dA a0.Cons 0>>=fun a=>if(!([(a.Name.data.toList==(⟨#[70,97,108,115,101]⟩:ByteArray).data.toList),(a.dF==0)].all id)) then(some false) else(dA a0.Cons 1>>=fun b=>if(!([(b.Name.data.toList==(⟨#[84,114,117,101]⟩:ByteArray).data.toList),(b.dF==0)].all id)) then(some false) else(qX a0.Cons ([]:List ByteArray)>>=fun v6=>if v6.2 then(qX a0.gR v6.1>>=fun v8=>if v8.2 then(some true) else(some false)) else(some false))))) else(some false)
set_option maxRecDepth 100000 in
theorem H8 (a0:ae)(r:(Bool))(h:sh a0=some r):∀ S,dc Tryz.prog 32 [aG a0] S fun d e=>d=.ret (aB r)∧e=S:=by
 unfold sh at h
 refine yF EE ?_
 refine zL 6 bf a0.Cons ?_
 refine sK EE 0 (u4 (a0.Cons.length:Int) 2 12) h (fun h=>?_) (fun h=>?_)
 · refine zL 4 bf a0.gR ?_
   refine yB EE 0 h (fun c1 h=>?_) (fun c1 h=>?_)
   · cases h
     exact yR EE 21
   · refine yX EE 4 22 35 cB h fun a f h=>?_
     refine IG EE 2 (sQ Tryz.prog .neq 35 (.agg [.sc (.string a.Name),aI a.dF]) (.agg [.sc (.string ⟨#[70,97,108,115,101]⟩),aI 0])) (!([(a.Name.data.toList==(⟨#[70,97,108,115,101]⟩:ByteArray).data.toList),(a.dF==0)].all id)) (by kernel_rfl) ((DQ (by kernel_rfl)).2) (fun c3=>?_) (fun c3=>?_)
     · have h:=wy c3 h
       cases h
       exact yR EE 13
     · have h:=wA c3 h
       refine yX EE 4 22 35 cB h fun b g h=>?_
       refine IG EE 2 (sQ Tryz.prog .neq 35 (.agg [.sc (.string b.Name),aI b.dF]) (.agg [.sc (.string ⟨#[84,114,117,101]⟩),aI 0])) (!([(b.Name.data.toList==(⟨#[84,114,117,101]⟩:ByteArray).data.toList),(b.dF==0)].all id)) (by kernel_rfl) ((DQ (by kernel_rfl)).2) (fun c5=>?_) (fun c5=>?_)
       · have h:=wy c5 h
         cases h
         exact yR EE 5
       · have h:=wA c5 h
         obtain⟨v6,c,h⟩:=bC h
         refine Pw EE 4 80 [aM a0.Cons,.an] [aM a0.Cons,.lit []] (.bm [.lit (v6.1.map fV),aB v6.2]) (by kernel_rfl) (by kernel_rfl) (xp a0.Cons ([]:List ByteArray) v6 c) ?_
         refine PZ EE 2 h (fun c7 h=>?_) (fun c7 h=>?_)
         · refine yC EE 9 (xp a0.gR v6.1) h fun v8 h=>?_
           refine PZ EE 2 h (fun c9 h=>?_) (fun c9 h=>?_)
           · cases h
             exact yR EE 6
           · cases h
             exact yR EE 6
         · cases h
           exact yR EE 9
 · cases h
   exact yR EE 27
noncomputable def zo : St:=sN 4 (aA (aB false) none (sN 0 (aA (aI 0) none (sN 3 (aA (aB false) none (sN 0 (aA (aI 0) none (sN 6 (St.start T0 4 [.agg [.lit [],.lit []]] af.empty)))))))))
noncomputable def tT := fun a0 a=>lH zo 1 fun o=>([[(1,aP (o 0)),(3,aI a)]],[((o 0),oG a0)])
noncomputable def zp : St:=sN 3 (aA (aB false) none (sN 0 (aA (aI 0) none (sN 4 (dz tT)))))
noncomputable def zq := fun a0 a=>lH zp 1 fun o=>([[(1,aP (o 0)),(4,aI a)]],[((o 0),oG a0)])
def gM (a0:ae)(a:Int):Option (Bool):=
 if decide (a<(a0.gR.length:Int)) then(dA a0.gR a>>=fun b=>if decide (((b.Name.size:Int):Int)>30) then(some false) else(if du .i64 (a+1) then(gM a0 (a+1)) else none)) else(some true)
 partial_fixpoint
set_option maxRecDepth 100000 in
theorem wg (a0:ae):(∀ b r,gM a0 b=some r→SX Tryz.prog (RQ (aB r)) (zq a0 b)):=by
 refine gM.partial_correctness _ _ ?_
 intro gM a b r h
 refine zL 4 bf a0.gR ?_
 refine yB EE 0 h (fun acT h=>?_) (fun acT h=>?_)
 · refine yX EE 5 22 35 cB h fun c d h=>?_
   refine zg EE 2 (some (aI (c.Name.size:Nat))) (aI (c.Name.size:Int)) (by kernel_rfl) (rfl) ?_
   refine yB EE 0 h (fun acU h=>?_) (fun acU h=>?_)
   · cases h
     exact yR EE 4
   · refine yI EE 3 h fun aqv h=>?_
     exact yK EE 2 [[1,4]] [0] (a (b+1) r h)
 · cases h
   exact yR EE 4
def gO (a0:ae)(a:Int):Option (Bool):=
 if decide (a<(a0.Cons.length:Int)) then(dA a0.Cons a>>=fun b=>if decide (((b.Name.size:Int):Int)>30) then(some false) else(if du .i64 (a+1) then(gO a0 (a+1)) else none)) else(gM a0 0)
 partial_fixpoint
set_option maxRecDepth 100000 in
theorem wh (a0:ae):(∀ b r,gO a0 b=some r→SX Tryz.prog (RQ (aB r)) (tT a0 b)):=by
 refine gO.partial_correctness _ _ ?_
 intro gO a b r h
 refine zL 4 bf a0.Cons ?_
 refine yB EE 0 h (fun ab1 h=>?_) (fun ab1 h=>?_)
 · refine yX EE 5 22 35 cB h fun c d h=>?_
   refine zg EE 2 (some (aI (c.Name.size:Nat))) (aI (c.Name.size:Int)) (by kernel_rfl) (rfl) ?_
   refine yB EE 0 h (fun YV h=>?_) (fun YV h=>?_)
   · cases h
     exact yR EE 4
   · refine yI EE 3 h fun abV h=>?_
     exact yK EE 2 [[1,3]] [0] (a (b+1) r h)
 · exact yK EE 3 [[1,4]] [0] ((wg a0) 0 r h)
def nE (a0:ae):Option (Bool):=
 if decide ((a0.Cons.length:Int)>16) then(some false) else(if decide ((a0.gR.length:Int)>12) then(some false) else(gO a0 0))
set_option maxRecDepth 100000 in
theorem zr (a0:ae)(r:(Bool))(h:nE a0=some r):∀ S,dc Tryz.prog 4 [aG a0] S fun a b=>a=.ret (aB r)∧b=S:=by
 unfold nE at h
 refine yF EE ?_
 refine zL 6 bf a0.Cons ?_
 refine yB EE 0 h (fun c0 h=>?_) (fun c0 h=>?_)
 · cases h
   exact yR EE 10
 · refine zL 3 bf a0.gR ?_
   refine yB EE 0 h (fun c1 h=>?_) (fun c1 h=>?_)
   · cases h
     exact yR EE 5
   · exact yK EE 4 [[1,3]] [0] ((wh a0) 0 r h)
def nz (a0 a:Int):Option (Int):=
 if decide (a0<a) then(some (-1)) else(if decide (a0>a) then(some 1) else(some 0))
set_option maxRecDepth 100000 in
theorem pH (a0 a:Int)(r:(Int))(h:nz a0 a=some r):∀ S,dc Tryz.prog 81 [aI a0,aI a] S fun b c=>b=.ret (aI r)∧c=S:=by
 unfold nz at h
 refine yF EE ?_
 refine yB EE 5 h (fun c0 h=>?_) (fun c0 h=>?_)
 · cases h
   exact yR EE 4
 · refine yB EE 3 h (fun c1 h=>?_) (fun c1 h=>?_)
   · cases h
     exact yR EE 4
   · cases h
     exact yR EE 4
noncomputable def Gv : St:=sN 8 (St.start T0 82 [.agg [aI 0,aI 0,.lit []]] af.empty)
noncomputable def Gw := fun a0 a b=>lH Gv 1 fun o=>([[(1,aP (o 0)),(4,aI a),(3,aI b)]],[((o 0),.arr 3 [aK a0])])
mutual
def kx (a0:Term)(a b:Int):Option (Int):=
 if decide (a<(a0.Kids.length:Int)) then(dA a0.Kids a>>=fun c=>mh c>>=fun Yr=>if du .i64 (b+Yr) then(if du .i64 (a+1) then(kx a0 (a+1) (b+Yr)) else none) else none) else(some b)
 partial_fixpoint
def mh (a0:Term):Option (Int):=
 kx a0 0 1
 partial_fixpoint
end
set_option maxRecDepth 100000 in
theorem Bk : (∀ a0 b c r,kx a0 b c=some r→SX Tryz.prog (RQ (aI r)) (Gw a0 b c))∧(∀ a0 r,mh a0=some r→∀ S,dc Tryz.prog 82 [aK a0] S fun f g=>f=.ret (aI r)∧g=S):=by
 refine kx.mutual_partial_correctness _ _ ?_ ?_
 · intro kx mh a ss a0 b c r h
   refine zL 4 ai a0.Kids ?_
   refine yB EE 0 h (fun YZ h=>?_) (fun YZ h=>?_)
   · refine yX EE 6 28 50 ez h fun d e h=>?_
     refine yC EE 1 (ss d) h fun Yr h=>?_
     refine yI EE 0 h fun acV h=>?_
     refine yI EE 4 h fun Yo h=>?_
     exact yK EE 2 [[1,4,3]] [0] (a a0 (b+1) (c+Yr) r h)
   · cases h
     exact yR EE 5
 · intro kx a a0 r h
   refine yF EE ?_
   exact yK EE 8 [[1,4,3]] [0] (a a0 0 1 r h)
theorem ss (a0:Term)(r:(Int))(h:mh a0=some r):∀ S,dc Tryz.prog 82 [aK a0] S fun a b=>a=.ret (aI r)∧b=S:=(Bk ).2 a0 r h
noncomputable def Bl : St:=sN 3 (aA (aB false) none (sN 3 (aA (aI 0) none (sN 5 (aA (aB false) none (sN 3 (aA (aI 0) none (sN 5 (aA (aB false) none (sN 4 (aA (aI 0) none (sN 0 (aA (aI 0) none (sN 1 (aA (aI 0) none (sN 7 (St.start T0 37 [.agg [aI 0,aI 0,.lit []],.agg [aI 0,aI 0,.lit []]] af.empty)))))))))))))))))
noncomputable def Bm := fun a0 b a=>lH Bl 2 fun o=>([[(3,aP (o 1)),(2,aP (o 0)),(8,aI a)]],[((o 1),.arr 3 [aK b]),((o 0),.arr 3 [aK a0])])
mutual
def gD (a0 b:Term)(a:Int):Option (Int):=
 if decide (a<(a0.Kids.length:Int)) then(if decide (a<(b.Kids.length:Int)) then(dA a0.Kids a>>=fun d=>dA b.Kids a>>=fun e=>kd d e>>=fun c=>if(!decide (c=0)) then(some c) else(if du .i64 (a+1) then(gD a0 b (a+1)) else none)) else(nz (a0.Kids.length:Int) (b.Kids.length:Int)>>=fun v30=>some v30)) else(nz (a0.Kids.length:Int) (b.Kids.length:Int)>>=fun f=>some f)
 partial_fixpoint
def kd (a0 a:Term):Option (Int):=
 mh a0>>=fun v0=>mh a>>=fun v1=>nz v0 v1>>=fun b=>if(!decide (b=0)) then(some b) else(nz a0.Op a.Op>>=fun v4=>if(!decide (v4=0)) then(some v4) else(nz a0.N a.N>>=fun v6=>if(!decide (v6=0)) then(some v6) else(gD a0 a 0)))
 partial_fixpoint
end
set_option maxRecDepth 100000 in
theorem xB : (∀ a0 b c r,gD a0 b c=some r→SX Tryz.prog (RQ (aI r)) (Bm a0 b c))∧(∀ a0 b r,kd a0 b=some r→∀ S,dc Tryz.prog 37 [aK a0,aK b] S fun i j=>i=.ret (aI r)∧j=S):=by
 refine gD.mutual_partial_correctness _ _ ?_ ?_
 · intro gD kd a rB a0 b c r h
   refine zL 4 ai a0.Kids ?_
   refine yB EE 0 h (fun Yq h=>?_) (fun Yq h=>?_)
   · refine zL 4 ai b.Kids ?_
     refine yB EE 0 h (fun Yp h=>?_) (fun Yp h=>?_)
     · refine yX EE 7 28 50 ez h fun d f h=>?_
       refine yX EE 4 28 50 ez h fun e g h=>?_
       refine yC EE 1 (rB d e) h fun k h=>?_
       refine yB EE 4 h (fun acW h=>?_) (fun acW h=>?_)
       · cases h
         exact yR EE 5
       · refine yI EE 3 h fun ab1 h=>?_
         exact yK EE 2 [[3,2,8]] [1,0] (a a0 b (c+1) r h)
     · refine zL 4 ai a0.Kids ?_
       refine zL 2 ai b.Kids ?_
       refine yC EE 0 (pH (a0.Kids.length:Int) (b.Kids.length:Int)) h fun v30 h=>?_
       cases h
       exact yR EE 3
   · refine zL 10 ai a0.Kids ?_
     refine zL 2 ai b.Kids ?_
     refine yC EE 0 (pH (a0.Kids.length:Int) (b.Kids.length:Int)) h fun l h=>?_
     cases h
     exact yR EE 3
 · intro gD a a0 b r h
   refine yF EE ?_
   refine yC EE 7 (ss a0) h fun v0 h=>?_
   refine yC EE 1 (ss b) h fun v1 h=>?_
   refine yC EE 0 (pH v0 v1) h fun m h=>?_
   refine yB EE 4 h (fun c3 h=>?_) (fun c3 h=>?_)
   · cases h
     exact yR EE 5
   · refine yC EE 5 (pH a0.Op b.Op) h fun v4 h=>?_
     refine yB EE 3 h (fun c5 h=>?_) (fun c5 h=>?_)
     · cases h
       exact yR EE 5
     · refine yC EE 5 (pH a0.N b.N) h fun v6 h=>?_
       refine yB EE 3 h (fun c7 h=>?_) (fun c7 h=>?_)
       · cases h
         exact yR EE 5
       · exact yK EE 3 [[3,2,8]] [1,0] (a a0 b 0 r h)
theorem rB (a0 a:Term)(r:(Int))(h:kd a0 a=some r):∀ S,dc Tryz.prog 37 [aK a0,aK a] S fun b c=>b=.ret (aI r)∧c=S:=(xB ).2 a0 a r h
def s8 (a0:LT):Option (Term):=
 some (Term.mk 0 0 a0)
set_option maxRecDepth 100000 in
theorem xq (a0:LT)(r:(Term))(h:s8 a0=some r):∀ S,dc Tryz.prog 83 [aT a0] S fun a b=>a=.ret (aK r)∧b=S:=by
 unfold s8 at h
 refine yF EE ?_
 cases h
 exact yR EE 8
noncomputable def Gx : St:=sN 4 (aA (aB false) none (sN 0 (aA (aI 0) none (sN 2 (aA (aI 0) none (sN 4 (aA (aB false) none (sN 5 (aA (aB false) none (sN 9 (St.start T0 20 [.agg [aI 0,aI 0,.lit []],.agg [aI 0,aI 0,.lit []]] af.empty)))))))))))
noncomputable def Gy := fun a0 a b=>lH Gx 2 fun o=>([[(3,aP (o 1)),(2,aP (o 0)),(5,aI b)]],[((o 1),.arr 3 [aK a]),((o 0),.arr 3 [aK a0])])
mutual
def ky (a0 e:Term)(a:Int):Option (Bool):=
 if decide (a<(a0.Kids.length:Int)) then(dA a0.Kids a>>=fun b=>dA e.Kids a>>=fun c=>nA b c>>=fun d=>if d then(if du .i64 (a+1) then(ky a0 e (a+1)) else none) else(some false)) else(some true)
 partial_fixpoint
def nA (a0 a:Term):Option (Bool):=
 if(!decide ((a0.Op:Int)=a.Op)) then(some false) else(if(!decide ((a0.N:Int)=a.N)) then(some false) else(if(!decide ((a0.Kids.length:Int)=(a.Kids.length:Int))) then(some false) else(ky a0 a 0)))
 partial_fixpoint
end
set_option maxRecDepth 100000 in
theorem Bn : (∀ a0 b c r,ky a0 b c=some r→SX Tryz.prog (RQ (aB r)) (Gy a0 b c))∧(∀ a0 b r,nA a0 b=some r→∀ S,dc Tryz.prog 20 [aK a0,aK b] S fun i j=>i=.ret (aB r)∧j=S):=by
 refine ky.mutual_partial_correctness _ _ ?_ ?_
 · intro ky nA a uF a0 b c r h
   refine zL 4 ai a0.Kids ?_
   refine yB EE 0 h (fun acX h=>?_) (fun acX h=>?_)
   · refine yX EE 6 28 50 ez h fun d f h=>?_
     refine yX EE 4 28 50 ez h fun e g h=>?_
     refine sK EE 1 (uF d e) h (fun h=>?_) (fun h=>?_)
     · refine yI EE 5 h fun acY h=>?_
       exact yK EE 2 [[3,2,5]] [1,0] (a a0 b (c+1) r h)
     · cases h
       exact yR EE 6
   · cases h
     exact yR EE 4
 · intro ky a a0 b r h
   refine yF EE ?_
   refine yB EE 9 h (fun c0 h=>?_) (fun c0 h=>?_)
   · cases h
     exact yR EE 20
   · refine yB EE 5 h (fun c1 h=>?_) (fun c1 h=>?_)
     · cases h
       exact yR EE 14
     · refine zL 4 ai a0.Kids ?_
       refine zL 2 ai b.Kids ?_
       refine yB EE 0 h (fun c2 h=>?_) (fun c2 h=>?_)
       · cases h
         exact yR EE 5
       · exact yK EE 4 [[3,2,5]] [1,0] (a a0 b 0 r h)
theorem uF (a0 a:Term)(r:(Bool))(h:nA a0 a=some r):∀ S,dc Tryz.prog 20 [aK a0,aK a] S fun b c=>b=.ret (aB r)∧c=S:=(Bn ).2 a0 a r h
def pn (a0 a:LT):Option (Bool):=
 s8 a0>>=fun v0=>s8 a>>=fun v1=>nA v0 v1>>=fun b=>if b then(some true) else(some false)
set_option maxRecDepth 100000 in
theorem yg (a0 a:LT)(r:(Bool))(h:pn a0 a=some r):∀ S,dc Tryz.prog 38 [aT a0,aT a] S fun b c=>b=.ret (aB r)∧c=S:=by
 unfold pn at h
 refine yF EE ?_
 refine yC EE 4 (xq a0) h fun v0 h=>?_
 refine yC EE 1 (xq a) h fun v1 h=>?_
 refine sK EE 0 (uF v0 v1) h (fun h=>?_) (fun h=>?_)
 · cases h
   exact yR EE 3
 · cases h
   exact yR EE 3
def mn (a0 a:LT):Option (Bool):=
 pn a0 a>>=fun v0=>if v0 then(some true) else(some false)
set_option maxRecDepth 100000 in
theorem yh (a0 a:LT)(r:(Bool))(h:mn a0 a=some r):∀ S,dc Tryz.prog 8 [aT a0,aT a] S fun b c=>b=.ret (aB r)∧c=S:=by
 unfold mn at h
 refine yF EE ?_
 refine sK EE 5 (yg a0 a) h (fun h=>?_) (fun h=>?_)
 · cases h
   exact yR EE 3
 · cases h
   exact yR EE 3
def dO (a0 a a2:Int):Option (Bool):=
 if decide (a≤a0) then(if decide (a0≤a2) then(some true) else(some false)) else(some false)
set_option maxRecDepth 100000 in
theorem eX (a0 a a2:Int)(r:(Bool))(h:dO a0 a a2=some r):∀ S,dc Tryz.prog 70 [aI a0,aI a,aI a2] S fun b c=>b=.ret (aB r)∧c=S:=by
 unfold dO at h
 refine yF EE ?_
 refine yB EE 5 h (fun c0 h=>?_) (fun c0 h=>?_)
 · refine yB EE 3 h (fun c1 h=>?_) (fun c1 h=>?_)
   · cases h
     exact yR EE 4
   · cases h
     exact yR EE 4
 · cases h
   exact yR EE 8
noncomputable def zt : St:=sN 1 (fB (fun S=>.val (aP 0) (S.add (.si ⟨#[]⟩ 0))) (sN 4 (St.start T0 69 [.sc (.string ⟨#[]⟩)] af.empty)))
noncomputable def zu := fun a0 a=>lH zt 1 fun o=>([[(0,.sc (.string a0)),(6,aP (o 0))]],[((o 0),.si a0 a)])
def eu (a0:ByteArray)(a:Nat):Option (Bool):=
 if decide (a+1≤a0.size) then(if decide (97≤(((Utf8.decode a0 a).1:Nat):Int)) then(if decide (((((Utf8.decode a0 a).1:Nat):Int):Int)≤122) then(eu a0 (a+(Utf8.decode a0 a).2)) else(if decide (65≤(((Utf8.decode a0 a).1:Nat):Int)) then(if decide (((((Utf8.decode a0 a).1:Nat):Int):Int)≤90) then(eu a0 (a+(Utf8.decode a0 a).2)) else(some false)) else(some false))) else(if decide (65≤(((Utf8.decode a0 a).1:Nat):Int)) then(if decide (((((Utf8.decode a0 a).1:Nat):Int):Int)≤90) then(eu a0 (a+(Utf8.decode a0 a).2)) else(some false)) else(some false))) else(dO (a0.size:Int) 1 8>>=fun b=>if b then(some true) else(some false))
 partial_fixpoint
set_option maxRecDepth 100000 in
theorem wi (a0:ByteArray):(∀ b r,eu a0 b=some r→SX Tryz.prog (RQ (aB r)) (zu a0 b)):=by
 refine eu.partial_correctness _ _ ?_
 intro eu a b r h
 cases Ys:decide (b+1≤a0.size) with
 | true=>
   have h:=wy Ys h
   refine eo EE 1 (fun S=>Yl S (aP 0)) (fun S=>.val (.bm [aB true,aI ((b:Nat):Int),.sc (.int .i32 (((Utf8.decode a0 b).1:Nat):Int))]) (S.set 0 (.si a0 (b+(Utf8.decode a0 b).2)))) (by kernel_rfl) (by kernel_rfl) (XP (by kernel_rfl) (by kernel_rfl) Ys) ?_
   refine yB EE 8 h (fun acZ h=>?_) (fun acZ h=>?_)
   · refine yB EE 2 h (fun YW h=>?_) (fun YW h=>?_)
     · exact yK EE 11 [[0,6]] [0] (a (b+(Utf8.decode a0 b).2) r h)
     · refine yB EE 3 h (fun Yq h=>?_) (fun Yq h=>?_)
       · refine yB EE 2 h (fun Yp h=>?_) (fun Yp h=>?_)
         · exact yK EE 4 [[0,6]] [0] (a (b+(Utf8.decode a0 b).2) r h)
         · cases h
           exact yR EE 7
       · cases h
         exact yR EE 10
   · refine yB EE 6 h (fun abX h=>?_) (fun abX h=>?_)
     · refine yB EE 2 h (fun ac0 h=>?_) (fun ac0 h=>?_)
       · exact yK EE 4 [[0,6]] [0] (a (b+(Utf8.decode a0 b).2) r h)
       · cases h
         exact yR EE 7
     · cases h
       exact yR EE 10
 | false=>
   have h:=wA Ys h
   refine eo EE 1 (fun S=>Yl S (aP 0)) (fun S=>.val (.bm [aB false]) S) (by kernel_rfl) (by kernel_rfl) (XQ (by kernel_rfl) Ys) ?_
   refine zg EE 4 (some (aI (a0.size:Nat))) (aI (a0.size:Int)) (by kernel_rfl) (rfl) ?_
   refine sK EE 0 (eX (a0.size:Int) 1 8) h (fun h=>?_) (fun h=>?_)
   · cases h
     exact yR EE 3
   · cases h
     exact yR EE 3
def nF (a0:ByteArray):Option (Bool):=
 eu a0 0
set_option maxRecDepth 100000 in
theorem zw (a0:ByteArray)(r:(Bool))(h:nF a0=some r):∀ S,dc Tryz.prog 69 [.sc (.string a0)] S fun a b=>a=.ret (aB r)∧b=S:=by
 unfold nF at h
 refine yF EE ?_
 refine eo EE 4 (fun S=>acG Tryz.prog S 9 (.sc (.string a0))) (fun S=>.val (aP 0) (S.add (.si a0 0))) (by kernel_rfl) (by kernel_rfl) (XO (by kernel_rfl) (by kernel_rfl) (by kernel_rfl)) ?_
 exact yK EE 1 [[0,6]] [0] ((wi a0) 0 r h)
noncomputable def zx : St:=sN 2 (aA (aI 0) none (sN 4 (St.start T0 24 [.lit []] af.empty)))
noncomputable def zy := fun a0 a=>lH zx 0 fun o=>([[(0,aN a0),(5,aI (a0.length:Int)),(6,aI a)]],[])
def fK (a0:LI)(a:Int):Option (Bool):=
 if decide (a<(a0.length:Int)) then(if decide (a>0) then(dA a0 a>>=fun b=>if du .i64 (a-1) then(dA a0 (a-1)>>=fun c=>if decide (b≤c) then(some false) else(if du .i64 (a+1) then(fK a0 (a+1)) else none)) else none) else(if du .i64 (a+1) then(fK a0 (a+1)) else none)) else(some true)
 partial_fixpoint
set_option maxRecDepth 100000 in
theorem wj (a0:LI):(∀ b r,fK a0 b=some r→SX Tryz.prog (RQ (aB r)) (zy a0 b)):=by
 refine fK.partial_correctness _ _ ?_
 intro fK a b r h
 refine yB EE 1 h (fun ac1 h=>?_) (fun ac1 h=>?_)
 · refine yB EE 8 h (fun YZ h=>?_) (fun YZ h=>?_)
   · refine yX EE 3 25 3 (Dv .i64) h fun e c h=>?_
     refine yI EE 3 h fun acY h=>?_
     refine yX EE 0 25 3 (Dv .i64) h fun f d h=>?_
     refine yB EE 1 h (fun Yo h=>?_) (fun Yo h=>?_)
     · cases h
       exact yR EE 6
     · refine yI EE 4 h fun acV h=>?_
       exact yK EE 2 [[0,5,6]] [] (a (b+1) r h)
   · refine yI EE 15 h fun abW h=>?_
     exact yK EE 2 [[0,5,6]] [] (a (b+1) r h)
 · cases h
   exact yR EE 5
def lK (a0:LI):Option (Bool):=
 fK a0 0
set_option maxRecDepth 100000 in
theorem tU (a0:LI)(r:(Bool))(h:lK a0=some r):∀ S,dc Tryz.prog 24 [aN a0] S fun a b=>a=.ret (aB r)∧b=S:=by
 unfold lK at h
 refine yF EE ?_
 refine zL 4 (dX .i64) a0 ?_
 exact yK EE 2 [[0,5,6]] [] ((wj a0) 0 r h)
set_option maxRecDepth 100000 in
theorem wW (a0:LT):∀ S,dc Tryz.prog 118 [aT a0] S fun a b=>a=.ret (.clip (aT a0))∧b=S:=by
 refine yF EE ?_
 refine zL 5 ai a0 ?_
 refine zL 1 ai a0 ?_
 refine eo EE 0 (fun S=>acF Tryz.prog S 28 (aT a0) (aI (a0.length:Int)) (aI (a0.length:Int))) (fun S=>.val (.clip (aT a0)) S) (by kernel_rfl) (by kernel_rfl) (PH (enc:=ai) (el:=50) (n:=3) (xs:=a0) (by kernel_rfl) (by kernel_rfl) (fun x=>by rw[bw];rfl) (by first | rfl | omega) (by first | rfl | omega)) ?_
 exact yR EE 3
@[simp] noncomputable def cz := fun a (o:NM)=>(([aT a,.fn (.func 47) [] []],[]):TC)
@[simp] noncomputable def cA := fun(r:LT) (o:NM)=>((aT r,[],[]):TB)
noncomputable def jt : St:=sN 2 (aA (aI 0) none (sN 6 (St.start T0 46 ((cz dd id).1) (oL 0 (lV 0 ((cz dd id).2))))))
noncomputable def eP := fun a=>lH jt 0 fun o=>([[(1,.fn (.func 47) [] []),(8,aT a),(9,aI (a.length:Int)),(10,aI 0),(5,.an)]],[])
noncomputable def ju : St:=sN 6 (fB (fun S=>.val (.aj 2 0 0) (S.add (.arr 3 []))) (sN 1 (aA (.agg [aI 0,aI 0,.lit []]) none (sN 7 (aA (.eV [aI 0,aI 0,.lit []]) none (sN 3 (aA (aB true) none (sN 1 (eP dd)))))))))
noncomputable def jw := fun a b EU=>lH ju 3 fun o=>([[(1,.fn (.func 47) [] []),(8,aT a),(9,aI (a.length:Int)),(10,aI b),(5,.aj (o 2) 0 EU.length)]],[((o 2),oT EU)])
mutual
def aw (b:LT)(a:Int)(EU:LT):Option LT:=
 if decide (a<(b.length:Int)) then(dA b a>>=fun c=>bt c>>=fun v72=>if decide (EU.length+[v72].length≤1048576) then(if du .i64 (a+1) then(aw b (a+1) (EU++[v72])) else none) else none) else(some EU)
 partial_fixpoint
def bt (a0:Term):Option (Term):=
 bO a0.Kids>>=fun a=>some (Term.mk a0.Op a0.N a)
 partial_fixpoint
def bO (a:LT):Option LT:=
 bB a
 partial_fixpoint
def bB (a:LT):Option LT:=
 if decide (0<(a.length:Int)) then(dA a 0>>=fun c=>bt c>>=fun b=>if decide ([b].length≤1048576) then(aw a 1 [b]) else none) else(some ([]:LT))
 partial_fixpoint
end
set_option maxRecDepth 100000 in
theorem ew : (∀ c d EU r,aw c d EU=some r→SX Tryz.prog (gy 0 (cA r)) (jw c d EU))∧(∀ a0 r,bt a0=some r→∀ S,dc Tryz.prog 47 [aK a0] S fun m n=>m=.ret (aK r)∧n=S)∧(∀ c r,bO c=some r→fI Tryz.prog 46 0 (cz c) (cA r))∧(∀ c r,bB c=some r→SX Tryz.prog (gy 0 (cA r)) (eP c)):=by
 refine aw.mutual_partial_correctness _ _ _ _ ?_ ?_ ?_ ?_
 · intro aw bt a jd c d EU r h
   refine yB EE 1 h (fun Y0 h=>?_) (fun Y0 h=>?_)
   · refine yX EE 3 28 50 ez h fun g k h=>?_
     refine yC EE 7 (jd g) h fun v72 h=>?_
     refine P0 1 2 4 5 EU v72 h fun h=>?_
     refine yI EE 3 h fun aqw h=>?_
     exact xF EE qk 2 [[1,8,9,10,5]] [5] [(2,5)] 6 (a c (d+1) (EU++[v72]) r h)
   · cases h
     exact gP EE 6 (.aj 2 0 EU.length) [] (ie.Ap (sz:=3) (es:=(EU.map ai)) (by decide) (by kernel_rfl) (by first | rfl | (simp;done) | omega | (simp;omega)) (by simp[aq,br,bH,aD,-List.map_append,-List.map_drop,-List.map_take,-List.map_set,-List.map_replicate])) aW ah
 · intro bO eQ a0 r h
   refine yF EE ?_
   obtain⟨i,f,h⟩:=bC h
   refine KW EE 6 (eQ a0.Kids i f _ 2 [] gw) ?_
   cases h
   exact yR EE 7
 · intro bB b c r h
   refine jL EE 0 ?_
   refine zL 6 ai c ?_
   exact sL EE qk 2 [[1,8,9,10,5]] [] (b c r h)
 · intro aw bt a jd c r h
   refine yB EE 1 h (fun abZ h=>?_) (fun abZ h=>?_)
   · refine yX EE 3 28 50 ez h fun j l h=>?_
     refine yC EE 7 (jd j) h fun e h=>?_
     refine NN 1 1 2 e h fun h=>?_
     exact sL EE qk 6 [[1,8,9,10,5]] [2] (a c 1 [e] r h)
   · cases h
     exact gP EE 6 (.an) [] .an aW ah
theorem jd (a0:Term)(r:(Term))(h:bt a0=some r):∀ S,dc Tryz.prog 47 [aK a0] S fun a b=>a=.ret (aK r)∧b=S:=(ew ).2.1 a0 r h
theorem eQ (a r:LT)(h:bO a=some r):fI Tryz.prog 46 0 (cz a) (cA r):=(ew ).2.2.1 a r h
def qY (a0:Int):Option (Bool):=
 if(!decide (a0=a0)) then(some true) else(some false)
set_option maxRecDepth 100000 in
theorem tG (a0:Int)(r:(Bool))(h:qY a0=some r):∀ S,dc Tryz.prog 191 [aI a0] S fun a b=>a=.ret (aB r)∧b=S:=by
 unfold qY at h
 refine yF EE ?_
 refine yB EE 5 h (fun c0 h=>?_) (fun c0 h=>?_)
 · cases h
   exact yR EE 3
 · cases h
   exact yR EE 3
def pI (a0 a:Int):Option (Int):=
 qY a0>>=fun v0=>if v0 then(qY a>>=fun v1=>if v1 then(some 0) else(some (-1))) else(qY a>>=fun b=>if b then(some 1) else(if decide (a0<a) then(some (-1)) else(if decide (a0>a) then(some 1) else(some 0))))
set_option maxRecDepth 100000 in
theorem Bo (a0 a:Int)(r:(Int))(h:pI a0 a=some r):∀ S,dc Tryz.prog 132 [aI a0,aI a] S fun b c=>b=.ret (aI r)∧c=S:=by
 unfold pI at h
 refine yF EE ?_
 refine sK EE 4 (tG a0) h (fun h=>?_) (fun h=>?_)
 · refine sK EE 3 (tG a) h (fun h=>?_) (fun h=>?_)
   · cases h
     exact yR EE 9
   · cases h
     exact yR EE 9
 · refine sK EE 3 (tG a) h (fun h=>?_) (fun h=>?_)
   · cases h
     exact yR EE 9
   · refine yB EE 8 h (fun c3 h=>?_) (fun c3 h=>?_)
     · cases h
       exact yR EE 4
     · refine yB EE 3 h (fun c4 h=>?_) (fun c4 h=>?_)
       · cases h
         exact yR EE 4
       · cases h
         exact yR EE 4
def vt (a0:bE)(a:Term):Option (Bool):=
 dO a.N 0 19>>=fun v0=>if v0 then(if decide ((a.Kids.length:Int)=0) then(some true) else(some false)) else(some false)
set_option maxRecDepth 100000 in
theorem KK (a0:bE)(a:Term)(r:(Bool))(h:vt a0 a=some r):∀ S,dc Tryz.prog 292 [.agg [aM a0.ae.Cons,aM a0.ae.gR],aK a] S fun b c=>b=.ret (aB r)∧c=S:=by
 unfold vt at h
 refine yF EE ?_
 refine sK EE 7 (eX a.N 0 19) h (fun h=>?_) (fun h=>?_)
 · refine zL 3 ai a.Kids ?_
   refine yB EE 0 h (fun c1 h=>?_) (fun c1 h=>?_)
   · cases h
     exact yR EE 4
   · cases h
     exact yR EE 4
 · cases h
   exact yR EE 9
def nG (a0:bE)(a:Term):Option (Bool):=
 dO a.N (-1000000) 1000000>>=fun v0=>if v0 then(if decide ((a.Kids.length:Int)=0) then(some true) else(some false)) else(some false)
set_option maxRecDepth 100000 in
theorem zz (a0:bE)(a:Term)(r:(Bool))(h:nG a0 a=some r):∀ S,dc Tryz.prog 293 [.agg [aM a0.ae.Cons,aM a0.ae.gR],aK a] S fun b c=>b=.ret (aB r)∧c=S:=by
 unfold nG at h
 refine yF EE ?_
 refine sK EE 7 (eX a.N (-1000000) 1000000) h (fun h=>?_) (fun h=>?_)
 · refine zL 3 ai a.Kids ?_
   refine yB EE 0 h (fun c1 h=>?_) (fun c1 h=>?_)
   · cases h
     exact yR EE 4
   · cases h
     exact yR EE 4
 · cases h
   exact yR EE 9
def uA (a0:bE)(a:Term):Option (Bool):=
 if du .i64 ((a0.ae.Cons.length:Int)-1) then(dO a.N 0 ((a0.ae.Cons.length:Int)-1)>>=fun v0=>if v0 then(dA a0.ae.Cons a.N>>=fun b=>if decide ((a.Kids.length:Int)=b.dF) then(some true) else(some false)) else(some false)) else none
set_option maxRecDepth 100000 in
theorem Gz (a0:bE)(a:Term)(r:(Bool))(h:uA a0 a=some r):∀ S,dc Tryz.prog 294 [.agg [aM a0.ae.Cons,aM a0.ae.gR],aK a] S fun b c=>b=.ret (aB r)∧c=S:=by
 unfold uA at h
 refine yF EE ?_
 refine zL 11 bf a0.ae.Cons ?_
 refine yI EE 0 h fun c3 h=>?_
 refine sK EE 0 (eX a.N 0 ((a0.ae.Cons.length:Int)-1)) h (fun h=>?_) (fun h=>?_)
 · refine zL 3 ai a.Kids ?_
   refine yX EE 5 22 35 cB h fun e d h=>?_
   refine yB EE 2 h (fun c2 h=>?_) (fun c2 h=>?_)
   · cases h
     exact yR EE 5
   · cases h
     exact yR EE 5
 · cases h
   exact yR EE 18
def FQ (a0:bE)(a:Term):Option (Bool):=
 if du .i64 ((a0.ae.gR.length:Int)-1) then(dO a.N 0 ((a0.ae.gR.length:Int)-1)>>=fun v0=>if v0 then(dA a0.ae.gR a.N>>=fun b=>if decide ((a.Kids.length:Int)=b.dF) then(some true) else(some false)) else(some false)) else none
set_option maxRecDepth 100000 in
theorem QI (a0:bE)(a:Term)(r:(Bool))(h:FQ a0 a=some r):∀ S,dc Tryz.prog 295 [.agg [aM a0.ae.Cons,aM a0.ae.gR],aK a] S fun b c=>b=.ret (aB r)∧c=S:=by
 unfold FQ at h
 refine yF EE ?_
 refine zL 11 bf a0.ae.gR ?_
 refine yI EE 0 h fun c3 h=>?_
 refine sK EE 0 (eX a.N 0 ((a0.ae.gR.length:Int)-1)) h (fun h=>?_) (fun h=>?_)
 · refine zL 3 ai a.Kids ?_
   refine yX EE 5 22 35 cB h fun e d h=>?_
   refine yB EE 2 h (fun c2 h=>?_) (fun c2 h=>?_)
   · cases h
     exact yR EE 5
   · cases h
     exact yR EE 5
 · cases h
   exact yR EE 18
def Dh (a0:bE)(a:Term):Option (Bool):=
 if du .i64 ((a0.ae.gR.length:Int)-1) then(dO a.N 0 ((a0.ae.gR.length:Int)-1)>>=fun v0=>if v0 then(dA a0.ae.gR a.N>>=fun b=>if decide ((a.Kids.length:Int)<b.dF) then(some true) else(some false)) else(some false)) else none
set_option maxRecDepth 100000 in
theorem PW (a0:bE)(a:Term)(r:(Bool))(h:Dh a0 a=some r):∀ S,dc Tryz.prog 296 [.agg [aM a0.ae.Cons,aM a0.ae.gR],aK a] S fun b c=>b=.ret (aB r)∧c=S:=by
 unfold Dh at h
 refine yF EE ?_
 refine zL 11 bf a0.ae.gR ?_
 refine yI EE 0 h fun c3 h=>?_
 refine sK EE 0 (eX a.N 0 ((a0.ae.gR.length:Int)-1)) h (fun h=>?_) (fun h=>?_)
 · refine zL 3 ai a.Kids ?_
   refine yX EE 5 22 35 cB h fun e d h=>?_
   refine yB EE 2 h (fun c2 h=>?_) (fun c2 h=>?_)
   · cases h
     exact yR EE 5
   · cases h
     exact yR EE 5
 · cases h
   exact yR EE 18
def FR (a0:bE)(a:Term):Option (Bool):=
 dO a.N 0 19>>=fun v0=>if v0 then(if decide ((a.Kids.length:Int)=2) then(some true) else(some false)) else(some false)
set_option maxRecDepth 100000 in
theorem QJ (a0:bE)(a:Term)(r:(Bool))(h:FR a0 a=some r):∀ S,dc Tryz.prog 297 [.agg [aM a0.ae.Cons,aM a0.ae.gR],aK a] S fun b c=>b=.ret (aB r)∧c=S:=by
 unfold FR at h
 refine yF EE ?_
 refine sK EE 7 (eX a.N 0 19) h (fun h=>?_) (fun h=>?_)
 · refine zL 3 ai a.Kids ?_
   refine yB EE 0 h (fun c1 h=>?_) (fun c1 h=>?_)
   · cases h
     exact yR EE 4
   · cases h
     exact yR EE 4
 · cases h
   exact yR EE 9
def Di (a0:bE)(a:Term):Option (Bool):=
 if decide ((a.N:Int)=0) then(if decide ((a.Kids.length:Int)=2) then(some true) else(some false)) else(some false)
set_option maxRecDepth 100000 in
theorem PX (a0:bE)(a:Term)(r:(Bool))(h:Di a0 a=some r):∀ S,dc Tryz.prog 298 [.agg [aM a0.ae.Cons,aM a0.ae.gR],aK a] S fun b c=>b=.ret (aB r)∧c=S:=by
 unfold Di at h
 refine yF EE ?_
 refine yB EE 7 h (fun c0 h=>?_) (fun c0 h=>?_)
 · refine zL 3 ai a.Kids ?_
   refine yB EE 0 h (fun c1 h=>?_) (fun c1 h=>?_)
   · cases h
     exact yR EE 4
   · cases h
     exact yR EE 4
 · cases h
   exact yR EE 9
@[simp] noncomputable def rS := fun a (o:NM)=>(([aK a],[]):TC)
@[simp] noncomputable def rT := fun a (r:Unit) (o:NM)=>((.fn (.func 250) [] [aP (o 0)],[],[.arr 3 [aK a]]):TB)
@[simp] noncomputable def ke := fun a b c (o:NM)=>(([aK a,aI b,aP (o 0),aP (o 1)],[oY (o 2),.arr 1 [.fn (.func 251) [] [aP (o 0),aP (o 1)]],kq Tryz.prog .ready 192 0 11 239 [(3,aP (o 3))],oI c]):TC)
@[simp] noncomputable def kf := fun(r:Int) (o:NM)=>((aB true,sm [oY (o 2),.arr 1 [.fn (.func 251) [] [aP (o 0),aP (o 1)]],kq Tryz.prog .ready 192 0 11 239 [(3,aP (o 3))],oI r],[]):TB)
@[simp] noncomputable def dR := fun a a17 pV (o:NM)=>(([aT a,.fn (.func 252) [] [aP (o 0),aP (o 1)]],[.arr 1 [.fn (.func 251) [] [aP (o 2),aP (o 0)]],oI a17,oY (o 3),kq Tryz.prog .ready 192 0 11 239 [(3,aP (o 4))],oI pV]):TC)
@[simp] noncomputable def fj := fun a17 (r:Int) (o:NM)=>((aB true,sm [.arr 1 [.fn (.func 251) [] [aP (o 2),aP (o 0)]],oI a17,oY (o 3),kq Tryz.prog .ready 192 0 11 239 [(3,aP (o 4))],oI r],[]):TB)
@[simp] noncomputable def jC := fun a22 a a24 (o:NM)=>(([aK a22,aP (o 0),aP (o 1)],[.arr 1 [.fn (.func 251) [] [aP (o 2),aP (o 0)]],oI a,oY (o 3),kq Tryz.prog .ready 192 0 11 239 [(3,aP (o 4))],oI a24]):TC)
@[simp] noncomputable def jD := fun a (r:Int) (o:NM)=>((aB true,sm [.arr 1 [.fn (.func 251) [] [aP (o 2),aP (o 0)]],oI a,oY (o 3),kq Tryz.prog .ready 192 0 11 239 [(3,aP (o 4))],oI r],[]):TB)
noncomputable def mu : St:=sN 2 (aA (aI 0) none (sN 4 (St.start T0 130 ((dz dR id).1) (oL 5 (lV 0 ((dz dR id).2))))))
noncomputable def mw := fun a17 a b c=>lH mu 5 fun o=>([[(1,.fn (.func 252) [] [aP (o 0),aP (o 1)]),(7,aT a),(8,aI (a.length:Int)),(9,aI b)]],[((o 0),.arr 1 [.fn (.func 251) [] [aP (o 2),aP (o 0)]]),((o 1),oI a17),((o 2),oY (o 3)),((o 3),kq Tryz.prog .ready 192 0 11 239 [(3,aP (o 4))]),((o 4),oI c)])
def gX (a:Term):Option Unit:=
 some ()
set_option maxRecDepth 100000 in
theorem rF (a:Term)(r:Unit)(h:gX a=some r):fI Tryz.prog 190 0 (rS a) (rT a r):=by
 unfold gX at h
 refine jL EE 0 ?_
 cases h
 exact gP EE 8 (.fn (.func 250) [] [aP 0]) [0] (ie.QK dK.nil (dK.cons (ie.pA (j:=0) rfl) dK.nil)) aW (ua (.arr 3 [aK a]) ah)
mutual
def bo (b:Term)(c a:Int):Option Int:=
 if du .i64 (a+1) then(dn b.Kids c (a+1)>>=fun Y1=>some Y1) else none
 partial_fixpoint
def dn (a:LT)(a17 pV:Int):Option Int:=
 bg a17 a 0 pV
 partial_fixpoint
def bg (a17:Int)(b:LT)(a c:Int):Option Int:=
 if decide (a<(b.length:Int)) then(dA b a>>=fun d=>dP d a17 c>>=fun v82=>if du .i64 (a+1) then(bg a17 b (a+1) v82) else none) else(some c)
 partial_fixpoint
def dP (a22:Term)(a a24:Int):Option Int:=
 if du .i64 (a+1) then(bo a22 (a+1) a24>>=fun v85=>some v85) else none
 partial_fixpoint
end
set_option maxRecDepth 100000 in
theorem fX : (∀ d e f r,bo d e f=some r→fI Tryz.prog 251 4 (ke d e f) (kf r))∧(∀ b a17 pV r,dn b a17 pV=some r→fI Tryz.prog 130 5 (dR b a17 pV) (fj a17 r))∧(∀ a17 b g i r,bg a17 b g i=some r→SX Tryz.prog (gy 5 (fj a17 r)) (mw a17 b g i))∧(∀ a22 c a24 r,dP a22 c a24=some r→fI Tryz.prog 252 5 (jC a22 c a24) (jD c r)):=by
 refine bo.mutual_partial_correctness _ _ _ _ ?_ ?_ ?_ ?_
 · intro dn iu d e f r h
   refine jL EE 4 ?_
   refine yI EE 13 h fun GV h=>?_
   obtain⟨Y1,j,h⟩:=bC h
   refine yG EE 7 (v:=aB true) (iu d.Kids e (f+1) Y1 j _ 6 [1,5,0,2,3] gw) ?_
   cases h
   exact gP EE 4 (aB true) [0,1,2,3] (.pure pv) uT ah
 · intro bg a b a17 pV r h
   refine jL EE 5 ?_
   refine zL 4 ai b ?_
   exact sL EE qk 2 [[1,7,8,9]] [0,1,2,3,4] (a a17 b 0 pV r h)
 · intro bg dP a jq a17 b g i r h
   refine yB EE 1 h (fun vz h=>?_) (fun vz h=>?_)
   · refine yX EE 3 28 50 ez h fun m n h=>?_
     obtain⟨v82,k,h⟩:=bC h
     refine yG EE 6 (v:=aB true) (jq m a17 i v82 k _ 6 [0,1,2,3,4] gw) ?_
     refine yI EE 3 h fun ac2 h=>?_
     exact xF EE qk 2 [[1,7,8,9]] [0,1,2,3,4] [] 6 (a a17 b (g+1) v82 r h)
   · cases h
     exact gP EE 5 (aB true) [0,1,2,3,4] (.pure pv) uT ah
 · intro bo gq a22 c a24 r h
   refine jL EE 5 ?_
   refine yI EE 7 h fun ac3 h=>?_
   obtain⟨v85,l,h⟩:=bC h
   refine yG EE 0 (v:=aB true) (gq a22 (c+1) a24 v85 l _ 6 [2,0,3,4] gw) ?_
   cases h
   exact gP EE 3 (aB true) [0,1,2,3,4] (.pure pv) uT ah
theorem gq (a:Term)(b c r:Int)(h:bo a b c=some r):fI Tryz.prog 251 4 (ke a b c) (kf r):=(fX ).1 a b c r h
theorem iu (a:LT)(a17 pV r:Int)(h:dn a a17 pV=some r):fI Tryz.prog 130 5 (dR a a17 pV) (fj a17 r):=(fX ).2.1 a a17 pV r h
theorem jq (a22:Term)(a a24 r:Int)(h:dP a22 a a24=some r):fI Tryz.prog 252 5 (jC a22 a a24) (jD a r):=(fX ).2.2.2 a22 a a24 r h
def s9 (a0:Term):Option (Int):=
 gX a0>>=fun ab2=>bo a0 1 0>>=fun a=>some a
set_option maxRecDepth 100000 in
theorem EB (a0:Term)(r:(Int))(h:s9 a0=some r):∀ S,dc Tryz.prog 192 [aK a0] S fun d e=>d=.ret (aI r)∧e=S:=by
 unfold s9 at h
 refine yF EE ?_
 obtain⟨ab2,a,h⟩:=bC h
 refine KW EE 8 (rF a0 ab2 a _ 2 [] gw) ?_
 refine D8 EE 2 4 [3] (by kernel_rfl) ?_
 obtain⟨c,b,h⟩:=bC h
 refine yG EE 10 (v:=aB true) (gq a0 1 0 c b _ 7 [5,6,4,1] gw) ?_
 cases h
 exact yR EE 9
@[simp] noncomputable def qc := fun a (o:NM)=>(([aK a],[]):TC)
@[simp] noncomputable def qd := fun a (r:Unit) (o:NM)=>((.fn (.func 250) [] [aP (o 0)],[],[.arr 3 [aK a]]):TB)
@[simp] noncomputable def jr := fun a b c (o:NM)=>(([aK a,aI b,aP (o 0),aP (o 1)],[oY (o 2),.arr 1 [.fn (.func 251) [] [aP (o 0),aP (o 1)]],kq Tryz.prog .ready 131 0 16 33007 [(2,aP (o 3))],.arr 1 [aB c]]):TC)
@[simp] noncomputable def js := fun a (r:(Sum Unit Unit)) (o:NM)=>(match r with | (Sum.inl y)=>(aB false,sm [oY (o 2),.arr 1 [.fn (.func 251) [] [aP (o 0),aP (o 1)]],mF (some .ret) (kq Tryz.prog .done 131 0 16 33007 [(2,aP (o 3))]),.arr 1 [aB false]],[]) | (Sum.inr y)=>(aB true,sm [oY (o 2),.arr 1 [.fn (.func 251) [] [aP (o 0),aP (o 1)]],kq Tryz.prog .ready 131 0 16 33007 [(2,aP (o 3))],.arr 1 [aB a]],[]):TB)
@[simp] noncomputable def dy := fun pV uN a20 (o:NM)=>(([aT pV,.fn (.func 252) [] [aP (o 0),aP (o 1)]],[.arr 1 [.fn (.func 251) [] [aP (o 2),aP (o 0)]],oI uN,oY (o 3),kq Tryz.prog .ready 131 0 16 33007 [(2,aP (o 4))],.arr 1 [aB a20]]):TC)
@[simp] noncomputable def eF := fun uN a20 (r:(Sum Unit Unit)) (o:NM)=>(match r with | (Sum.inl y)=>(aB true,sm [.arr 1 [.fn (.func 251) [] [aP (o 2),aP (o 0)]],oI uN,oY (o 3),kq Tryz.prog .ready 131 0 16 33007 [(2,aP (o 4))],.arr 1 [aB a20]],[]) | (Sum.inr y)=>(aB false,sm [.arr 1 [.fn (.func 251) [] [aP (o 2),aP (o 0)]],oI uN,oY (o 3),mF (some .ret) (kq Tryz.prog .done 131 0 16 33007 [(2,aP (o 4))]),.arr 1 [aB false]],[]):TB)
@[simp] noncomputable def iQ := fun a24 a25 a (o:NM)=>(([aK a24,aP (o 0),aP (o 1)],[.arr 1 [.fn (.func 251) [] [aP (o 2),aP (o 0)]],oI a25,oY (o 3),kq Tryz.prog .ready 131 0 16 33007 [(2,aP (o 4))],.arr 1 [aB a]]):TC)
@[simp] noncomputable def iS := fun a25 a (r:(Sum Unit Unit)) (o:NM)=>(match r with | (Sum.inl y)=>(aB false,sm [.arr 1 [.fn (.func 251) [] [aP (o 2),aP (o 0)]],oI a25,oY (o 3),mF (some .ret) (kq Tryz.prog .done 131 0 16 33007 [(2,aP (o 4))]),.arr 1 [aB false]],[]) | (Sum.inr y)=>(aB true,sm [.arr 1 [.fn (.func 251) [] [aP (o 2),aP (o 0)]],oI a25,oY (o 3),kq Tryz.prog .ready 131 0 16 33007 [(2,aP (o 4))],.arr 1 [aB a]],[]):TB)
noncomputable def lE : St:=sN 2 (aA (aI 0) none (sN 4 (St.start T0 130 ((dz dy id).1) (oL 5 (lV 0 ((dz dy id).2))))))
noncomputable def lF := fun a20 uN pV a=>lH lE 5 fun o=>([[(1,.fn (.func 252) [] [aP (o 0),aP (o 1)]),(7,aT pV),(8,aI (pV.length:Int)),(9,aI a)]],[((o 0),.arr 1 [.fn (.func 251) [] [aP (o 2),aP (o 0)]]),((o 1),oI uN),((o 2),oY (o 3)),((o 3),kq Tryz.prog .ready 131 0 16 33007 [(2,aP (o 4))]),((o 4),.arr 1 [aB a20])])
def fO (a:Term):Option Unit:=
 some ()
set_option maxRecDepth 100000 in
theorem pL (a:Term)(r:Unit)(h:fO a=some r):fI Tryz.prog 190 0 (qc a) (qd a r):=by
 unfold fO at h
 refine jL EE 0 ?_
 cases h
 exact gP EE 8 (.fn (.func 250) [] [aP 0]) [0] (ie.QK dK.nil (dK.cons (ie.pA (j:=0) rfl) dK.nil)) aW (ua (.arr 3 [aK a]) ah)
mutual
def aY (a:Term)(b:Int)(c:Bool):Option (Sum Unit Unit):=
 if decide ((a.Op:Int)>3) then(if(!decide ((a.Op:Int)=5)) then(some (Sum.inl ())) else(bA a.Kids b c>>=fun d=>(match d with | (Sum.inl g)=>some (Sum.inr ()) | (Sum.inr h)=>some (Sum.inl ())))) else(bA a.Kids b c>>=fun Lf=>(match Lf with | (Sum.inl e)=>some (Sum.inr ()) | (Sum.inr f)=>some (Sum.inl ())))
 partial_fixpoint
def bA (pV:LT)(uN:Int)(a:Bool):Option (Sum Unit Unit):=
 aO a uN pV 0
 partial_fixpoint
def aO (b:Bool)(uN:Int)(pV:LT)(a:Int):Option (Sum Unit Unit):=
 if decide (a<(pV.length:Int)) then(dA pV a>>=fun c=>dq c uN b>>=fun d=>(match d with | (Sum.inl e)=>some (Sum.inr ()) | (Sum.inr f)=>if du .i64 (a+1) then(aO b uN pV (a+1)) else none)) else(some (Sum.inl ()))
 partial_fixpoint
def dq (a24:Term)(a25:Int)(b:Bool):Option (Sum Unit Unit):=
 if du .i64 (a25+1) then(aY a24 (a25+1) b>>=fun a=>(match a with | (Sum.inl c)=>some (Sum.inl ()) | (Sum.inr d)=>some (Sum.inr ()))) else none
 partial_fixpoint
end
set_option maxRecDepth 100000 in
theorem fk (b:Bool):(∀ c d r,aY c d b=some r→fI Tryz.prog 251 4 (jr c d b) (js b r))∧(∀ pV uN r,bA pV uN b=some r→fI Tryz.prog 130 5 (dy pV uN b) (eF uN b r))∧(∀ uN pV e r,aO b uN pV e=some r→SX Tryz.prog (gy 5 (eF uN b r)) (lF b uN pV e))∧(∀ a24 a25 r,dq a24 a25 b=some r→fI Tryz.prog 252 5 (iQ a24 a25 b) (iS a25 b r)):=by
 refine aY.mutual_partial_correctness _ _ _ _ _ ?_ ?_ ?_ ?_
 · intro bA cE c d r h
   refine jL EE 4 ?_ (by rcases r with y | y<;>exact bc)
   refine yB EE 17 h (fun ab3 h=>?_) (fun ab3 h=>?_)
   · refine yB EE 3 h (fun Y2 h=>?_) (fun Y2 h=>?_)
     · cases h
       exact gP EE 14 (aB false) [0,1,2,3] (.pure pv) uT ah
     · obtain⟨n,j,h⟩:=bC h
       rcases n with x | z
       · dsimp only at h
         refine yG EE 7 (v:=aB true) (cE c.Kids d _ j _ 7 [1,5,0,2,3] gw) ?_
         cases h
         exact gP EE 4 (aB true) [0,1,2,3] (.pure pv) uT ah
       · dsimp only at h
         refine yG EE 7 (v:=aB false) (cE c.Kids d _ j _ 7 [1,5,0,2,3] gw) ?_
         cases h
         exact gP EE 4 (aB false) [0,1,2,3] (.pure pv) uT ah
   · obtain⟨Lf,f,h⟩:=bC h
     rcases Lf with p | q
     · dsimp only at h
       refine yG EE 11 (v:=aB true) (cE c.Kids d _ f _ 7 [1,5,0,2,3] gw) ?_
       cases h
       exact gP EE 4 (aB true) [0,1,2,3] (.pure pv) uT ah
     · dsimp only at h
       refine yG EE 11 (v:=aB false) (cE c.Kids d _ f _ 7 [1,5,0,2,3] gw) ?_
       cases h
       exact gP EE 4 (aB false) [0,1,2,3] (.pure pv) uT ah
 · intro aO a pV uN r h
   refine jL EE 5 ?_ (by rcases r with y | y<;>exact bc)
   refine zL 4 ai pV ?_
   exact sL EE qk 2 [[1,7,8,9]] [0,1,2,3,4] (a uN pV 0 r h)
 · intro aO dq a eZ uN pV e r h
   refine yB EE 1 h (fun Rh h=>?_) (fun Rh h=>?_)
   · refine yX EE 3 28 50 ez h fun k o h=>?_
     obtain⟨l,g,h⟩:=bC h
     rcases l with s | t
     · dsimp only at h
       refine yG EE 6 (v:=aB false) (eZ k uN _ g _ 6 [0,1,2,3,4] gw) ?_
       cases h
       exact gP EE 5 (aB false) [0,1,2,3,4] (.pure pv) uT ah
     · dsimp only at h
       refine yG EE 6 (v:=aB true) (eZ k uN _ g _ 6 [0,1,2,3,4] gw) ?_
       refine yI EE 3 h fun G7 h=>?_
       exact xF EE qk 2 [[1,7,8,9]] [0,1,2,3,4] [] 6 (a uN pV (e+1) r h)
   · cases h
     exact gP EE 5 (aB true) [0,1,2,3,4] (.pure pv) uT ah
 · intro aY dh a24 a25 r h
   refine jL EE 5 ?_ (by rcases r with y | y<;>exact bc)
   refine yI EE 7 h fun ZC h=>?_
   obtain⟨m,i,h⟩:=bC h
   rcases m with u | w
   · dsimp only at h
     refine yG EE 0 (v:=aB false) (dh a24 (a25+1) _ i _ 6 [2,0,3,4] gw) ?_
     cases h
     exact gP EE 3 (aB false) [0,1,2,3,4] (.pure pv) uT ah
   · dsimp only at h
     refine yG EE 0 (v:=aB true) (dh a24 (a25+1) _ i _ 6 [2,0,3,4] gw) ?_
     cases h
     exact gP EE 3 (aB true) [0,1,2,3,4] (.pure pv) uT ah
theorem dh (b:Term)(c:Int)(a:Bool)(r:(Sum Unit Unit))(h:aY b c a=some r):fI Tryz.prog 251 4 (jr b c a) (js a r):=(fk a).1 b c r h
theorem cE (pV:LT)(uN:Int)(a:Bool)(r:(Sum Unit Unit))(h:bA pV uN a=some r):fI Tryz.prog 130 5 (dy pV uN a) (eF uN a r):=(fk a).2.1 pV uN r h
theorem eZ (a24:Term)(a25:Int)(a:Bool)(r:(Sum Unit Unit))(h:dq a24 a25 a=some r):fI Tryz.prog 252 5 (iQ a24 a25 a) (iS a25 a r):=(fk a).2.2.2 a24 a25 r h
def nH (a0:Term):Option (Bool):=
 fO a0>>=fun Oc=>aY a0 1 false>>=fun v131=>(match v131 with | (Sum.inl a)=>some false | (Sum.inr b)=>some true)
set_option maxRecDepth 100000 in
theorem zA (a0:Term)(r:(Bool))(h:nH a0=some r):∀ S,dc Tryz.prog 131 [aK a0] S fun e f=>e=.ret (aB r)∧f=S:=by
 unfold nH at h
 refine yF EE ?_
 obtain⟨Oc,b,h⟩:=bC h
 refine KW EE 5 (pL a0 Oc b _ 2 [] gw) ?_
 refine D8 EE 2 4 [2,6] (by kernel_rfl) ?_
 obtain⟨v131,a,h⟩:=bC h
 rcases v131 with c | d
 · dsimp only at h
   refine yG EE 10 (v:=aB false) (dh a0 1 false _ a _ 7 [5,6,4,1] gw) ?_
   cases h
   exact yR EE 6
 · dsimp only at h
   refine yG EE 10 (v:=aB true) (dh a0 1 false _ a _ 7 [5,6,4,1] gw) ?_
   cases h
   exact yR EE 8
@[simp] noncomputable def qL := fun a (o:NM)=>(([aK a],[]):TC)
@[simp] noncomputable def qM := fun a (r:Unit) (o:NM)=>((.fn (.func 250) [] [aP (o 0)],[],[.arr 3 [aK a]]):TB)
@[simp] noncomputable def jE := fun a b c d a17 (o:NM)=>(([aK a,aI b,aP (o 0),aP (o 1)],[oY (o 2),.arr 1 [.fn (.func 251) [] [aP (o 0),aP (o 1)]],kq Tryz.prog .ready 171 0 39 274877921791 [(2,aP (o 3)),(4,aP (o 4)),(5,aP (o 5)),(6,aP (o 6))],oG c,.arr 1 [aB d],.arr 16 [.agg [.sc .nilFunc,.fn (.func 292) [] [],.fn (.func 293) [] [],.fn (.func 294) [] [],.fn (.func 295) [] [],.fn (.func 296) [] [],.fn (.func 298) [] [],.fn (.func 298) [] [],.fn (.func 297) [] [],.fn (.func 298) [] [],.fn (.func 298) [] [],.fn (.func 298) [] [],.fn (.func 298) [] [],.fn (.func 298) [] [],.fn (.func 298) [] [],.fn (.func 298) [] []]],oI a17]):TC)
@[simp] noncomputable def jF := fun a b (r:(Sum Int Int)) (o:NM)=>(match r with | (Sum.inl y)=>(aB false,sm [oY (o 2),.arr 1 [.fn (.func 251) [] [aP (o 0),aP (o 1)]],mF (some .ret) (kq Tryz.prog .done 171 0 39 274877921791 [(2,aP (o 3)),(4,aP (o 4)),(5,aP (o 5)),(6,aP (o 6))]),oG a,.arr 1 [aB false],.arr 16 [.agg [.sc .nilFunc,.fn (.func 292) [] [],.fn (.func 293) [] [],.fn (.func 294) [] [],.fn (.func 295) [] [],.fn (.func 296) [] [],.fn (.func 298) [] [],.fn (.func 298) [] [],.fn (.func 297) [] [],.fn (.func 298) [] [],.fn (.func 298) [] [],.fn (.func 298) [] [],.fn (.func 298) [] [],.fn (.func 298) [] [],.fn (.func 298) [] [],.fn (.func 298) [] []]],oI y],[]) | (Sum.inr y)=>(aB true,sm [oY (o 2),.arr 1 [.fn (.func 251) [] [aP (o 0),aP (o 1)]],kq Tryz.prog .ready 171 0 39 274877921791 [(2,aP (o 3)),(4,aP (o 4)),(5,aP (o 5)),(6,aP (o 6))],oG a,.arr 1 [aB b],.arr 16 [.agg [.sc .nilFunc,.fn (.func 292) [] [],.fn (.func 293) [] [],.fn (.func 294) [] [],.fn (.func 295) [] [],.fn (.func 296) [] [],.fn (.func 298) [] [],.fn (.func 298) [] [],.fn (.func 297) [] [],.fn (.func 298) [] [],.fn (.func 298) [] [],.fn (.func 298) [] [],.fn (.func 298) [] [],.fn (.func 298) [] [],.fn (.func 298) [] [],.fn (.func 298) [] []]],oI y],[]):TB)
@[simp] noncomputable def dH := fun a a24 a25 b qD (o:NM)=>(([aT a,.fn (.func 252) [] [aP (o 0),aP (o 1)]],[.arr 1 [.fn (.func 251) [] [aP (o 2),aP (o 0)]],oI a24,oY (o 3),kq Tryz.prog .ready 171 0 39 274877921791 [(2,aP (o 4)),(4,aP (o 5)),(5,aP (o 6)),(6,aP (o 7))],oG a25,.arr 1 [aB b],.arr 16 [.agg [.sc .nilFunc,.fn (.func 292) [] [],.fn (.func 293) [] [],.fn (.func 294) [] [],.fn (.func 295) [] [],.fn (.func 296) [] [],.fn (.func 298) [] [],.fn (.func 298) [] [],.fn (.func 297) [] [],.fn (.func 298) [] [],.fn (.func 298) [] [],.fn (.func 298) [] [],.fn (.func 298) [] [],.fn (.func 298) [] [],.fn (.func 298) [] [],.fn (.func 298) [] []]],oI qD]):TC)
@[simp] noncomputable def eJ := fun a24 a25 a (r:(Sum Int Int)) (o:NM)=>(match r with | (Sum.inl y)=>(aB true,sm [.arr 1 [.fn (.func 251) [] [aP (o 2),aP (o 0)]],oI a24,oY (o 3),kq Tryz.prog .ready 171 0 39 274877921791 [(2,aP (o 4)),(4,aP (o 5)),(5,aP (o 6)),(6,aP (o 7))],oG a25,.arr 1 [aB a],.arr 16 [.agg [.sc .nilFunc,.fn (.func 292) [] [],.fn (.func 293) [] [],.fn (.func 294) [] [],.fn (.func 295) [] [],.fn (.func 296) [] [],.fn (.func 298) [] [],.fn (.func 298) [] [],.fn (.func 297) [] [],.fn (.func 298) [] [],.fn (.func 298) [] [],.fn (.func 298) [] [],.fn (.func 298) [] [],.fn (.func 298) [] [],.fn (.func 298) [] [],.fn (.func 298) [] []]],oI y],[]) | (Sum.inr y)=>(aB false,sm [.arr 1 [.fn (.func 251) [] [aP (o 2),aP (o 0)]],oI a24,oY (o 3),mF (some .ret) (kq Tryz.prog .done 171 0 39 274877921791 [(2,aP (o 4)),(4,aP (o 5)),(5,aP (o 6)),(6,aP (o 7))]),oG a25,.arr 1 [aB false],.arr 16 [.agg [.sc .nilFunc,.fn (.func 292) [] [],.fn (.func 293) [] [],.fn (.func 294) [] [],.fn (.func 295) [] [],.fn (.func 296) [] [],.fn (.func 298) [] [],.fn (.func 298) [] [],.fn (.func 297) [] [],.fn (.func 298) [] [],.fn (.func 298) [] [],.fn (.func 298) [] [],.fn (.func 298) [] [],.fn (.func 298) [] [],.fn (.func 298) [] [],.fn (.func 298) [] []]],oI y],[]):TB)
@[simp] noncomputable def iX := fun a a35 b a37 c (o:NM)=>(([aK a,aP (o 0),aP (o 1)],[.arr 1 [.fn (.func 251) [] [aP (o 2),aP (o 0)]],oI a35,oY (o 3),kq Tryz.prog .ready 171 0 39 274877921791 [(2,aP (o 4)),(4,aP (o 5)),(5,aP (o 6)),(6,aP (o 7))],oG b,.arr 1 [aB a37],.arr 16 [.agg [.sc .nilFunc,.fn (.func 292) [] [],.fn (.func 293) [] [],.fn (.func 294) [] [],.fn (.func 295) [] [],.fn (.func 296) [] [],.fn (.func 298) [] [],.fn (.func 298) [] [],.fn (.func 297) [] [],.fn (.func 298) [] [],.fn (.func 298) [] [],.fn (.func 298) [] [],.fn (.func 298) [] [],.fn (.func 298) [] [],.fn (.func 298) [] [],.fn (.func 298) [] []]],oI c]):TC)
@[simp] noncomputable def iY := fun a35 a a37 (r:(Sum Int Int)) (o:NM)=>(match r with | (Sum.inl y)=>(aB false,sm [.arr 1 [.fn (.func 251) [] [aP (o 2),aP (o 0)]],oI a35,oY (o 3),mF (some .ret) (kq Tryz.prog .done 171 0 39 274877921791 [(2,aP (o 4)),(4,aP (o 5)),(5,aP (o 6)),(6,aP (o 7))]),oG a,.arr 1 [aB false],.arr 16 [.agg [.sc .nilFunc,.fn (.func 292) [] [],.fn (.func 293) [] [],.fn (.func 294) [] [],.fn (.func 295) [] [],.fn (.func 296) [] [],.fn (.func 298) [] [],.fn (.func 298) [] [],.fn (.func 297) [] [],.fn (.func 298) [] [],.fn (.func 298) [] [],.fn (.func 298) [] [],.fn (.func 298) [] [],.fn (.func 298) [] [],.fn (.func 298) [] [],.fn (.func 298) [] []]],oI y],[]) | (Sum.inr y)=>(aB true,sm [.arr 1 [.fn (.func 251) [] [aP (o 2),aP (o 0)]],oI a35,oY (o 3),kq Tryz.prog .ready 171 0 39 274877921791 [(2,aP (o 4)),(4,aP (o 5)),(5,aP (o 6)),(6,aP (o 7))],oG a,.arr 1 [aB a37],.arr 16 [.agg [.sc .nilFunc,.fn (.func 292) [] [],.fn (.func 293) [] [],.fn (.func 294) [] [],.fn (.func 295) [] [],.fn (.func 296) [] [],.fn (.func 298) [] [],.fn (.func 298) [] [],.fn (.func 297) [] [],.fn (.func 298) [] [],.fn (.func 298) [] [],.fn (.func 298) [] [],.fn (.func 298) [] [],.fn (.func 298) [] [],.fn (.func 298) [] [],.fn (.func 298) [] []]],oI y],[]):TB)
noncomputable def lL : St:=sN 2 (aA (aI 0) none (sN 4 (St.start T0 130 ((dz dH id).1) (oL 8 (lV 0 ((dz dH id).2))))))
noncomputable def lM := fun d a25 a24 a b c=>lH lL 8 fun o=>([[(1,.fn (.func 252) [] [aP (o 0),aP (o 1)]),(7,aT a),(8,aI (a.length:Int)),(9,aI b)]],[((o 0),.arr 1 [.fn (.func 251) [] [aP (o 2),aP (o 0)]]),((o 1),oI a24),((o 2),oY (o 3)),((o 3),kq Tryz.prog .ready 171 0 39 274877921791 [(2,aP (o 4)),(4,aP (o 5)),(5,aP (o 6)),(6,aP (o 7))]),((o 4),oG a25),((o 5),.arr 1 [aB d]),((o 6),.arr 16 [.agg [.sc .nilFunc,.fn (.func 292) [] [],.fn (.func 293) [] [],.fn (.func 294) [] [],.fn (.func 295) [] [],.fn (.func 296) [] [],.fn (.func 298) [] [],.fn (.func 298) [] [],.fn (.func 297) [] [],.fn (.func 298) [] [],.fn (.func 298) [] [],.fn (.func 298) [] [],.fn (.func 298) [] [],.fn (.func 298) [] [],.fn (.func 298) [] [],.fn (.func 298) [] []]]),((o 7),oI c)])
def fZ (a:Term):Option Unit:=
 some ()
set_option maxRecDepth 100000 in
theorem qe (a:Term)(r:Unit)(h:fZ a=some r):fI Tryz.prog 190 0 (qL a) (qM a r):=by
 unfold fZ at h
 refine jL EE 0 ?_
 cases h
 exact gP EE 8 (.fn (.func 250) [] [aP 0]) [0] (ie.QK dK.nil (dK.cons (ie.pA (j:=0) rfl) dK.nil)) aW (ua (.arr 3 [aK a]) ah)
mutual
def ba (a:Term)(c:Int)(b:ae)(d:Bool)(a17:Int):Option (Sum Int Int):=
 if du .i64 (a17+1) then(if decide (((a17+1):Int)>40) then(some (Sum.inl (a17+1))) else(if decide (c>12) then(some (Sum.inl (a17+1))) else(dO a.Op 1 15>>=fun v139=>if v139 then(if decide (a.Op=2) then(nG (bE.mk b) a>>=fun v148=>if v148 then(bI a.Kids c b d (a17+1)>>=fun e=>(match e with | (Sum.inl f)=>some (Sum.inr f) | (Sum.inr g)=>some (Sum.inl g))) else(some (Sum.inl (a17+1)))) else(if decide (a.Op=3) then(uA (bE.mk b) a>>=fun h=>if h then(bI a.Kids c b d (a17+1)>>=fun Lg=>(match Lg with | (Sum.inl i)=>some (Sum.inr i) | (Sum.inr j)=>some (Sum.inl j))) else(some (Sum.inl (a17+1)))) else none)) else(some (Sum.inl (a17+1)))))) else none
 partial_fixpoint
def bI (a:LT)(a24:Int)(b:ae)(c:Bool)(qD:Int):Option (Sum Int Int):=
 aR c b a24 a 0 qD
 partial_fixpoint
def aR (d:Bool)(e:ae)(a24:Int)(c:LT)(a b:Int):Option (Sum Int Int):=
 if decide (a<(c.length:Int)) then(dA c a>>=fun f=>dC f a24 e d b>>=fun g=>(match g with | (Sum.inl h)=>some (Sum.inr h) | (Sum.inr i)=>if du .i64 (a+1) then(aR d e a24 c (a+1) i) else none)) else(some (Sum.inl b))
 partial_fixpoint
def dC (c:Term)(a35:Int)(d:ae)(e:Bool)(f:Int):Option (Sum Int Int):=
 if du .i64 (a35+1) then(ba c (a35+1) d e f>>=fun v175=>(match v175 with | (Sum.inl a)=>some (Sum.inl a) | (Sum.inr b)=>some (Sum.inr b))) else none
 partial_fixpoint
end
set_option maxRecDepth 100000 in
theorem fC (b:ae)(d:Bool):(∀ c g a17 r,ba c g b d a17=some r→fI Tryz.prog 251 7 (jE c g b d a17) (jF b d r))∧(∀ e a24 qD r,bI e a24 b d qD=some r→fI Tryz.prog 130 8 (dH e a24 b d qD) (eJ a24 b d r))∧(∀ a24 e i f r,aR d b a24 e i f=some r→SX Tryz.prog (gy 8 (eJ a24 b d r)) (lM d b a24 e i f))∧(∀ j a35 k r,dC j a35 b d k=some r→fI Tryz.prog 252 8 (iX j a35 b d k) (iY a35 b d r)):=by
 refine ba.mutual_partial_correctness _ _ _ _ _ _ ?_ ?_ ?_ ?_
 · intro bI cH c g a17 r h
   refine jL EE 7 ?_ (by rcases r with y | y<;>exact bc)
   refine yI EE 18 h fun ZD h=>?_
   refine yB EE 4 h (fun Ri h=>?_) (fun Ri h=>?_)
   · cases h
     exact gP EE 35 (aB false) [0,1,2,3,4,5,6] (.pure pv) uT ah
   · refine yB EE 2 h (fun Rj h=>?_) (fun Rj h=>?_)
     · cases h
       exact gP EE 32 (aB false) [0,1,2,3,4,5,6] (.pure pv) uT ah
     · refine sK EE 4 (eX c.Op 1 15) h (fun h=>?_) (fun h=>?_)
       · cases Lh:decide (c.Op=2) with
         | true=>
           have h:=wy Lh h
           refine qE EE 5 (fun S=>Jk Tryz.prog S 377 (aP 5) (aI c.Op)) (fun S=>.val (.ptr 5 0 2) S) (by kernel_rfl) (by kernel_rfl) (by rw[of_decide_eq_true Lh];kernel_rfl) ?_
           refine sK EE 4 (zz (bE.mk b) c) h (fun h=>?_) (fun h=>?_)
           · obtain⟨q,l,h⟩:=bC h
             rcases q with w | x
             · dsimp only at h
               refine yG EE 9 (v:=aB true) (cH c.Kids g (a17+1) _ l _ 10 [1,8,0,2,3,4,5,6] gw) ?_
               cases h
               exact gP EE 4 (aB true) [0,1,2,3,4,5,6] (.pure pv) uT ah
             · dsimp only at h
               refine yG EE 9 (v:=aB false) (cH c.Kids g (a17+1) _ l _ 10 [1,8,0,2,3,4,5,6] gw) ?_
               cases h
               exact gP EE 4 (aB false) [0,1,2,3,4,5,6] (.pure pv) uT ah
           · cases h
             exact gP EE 16 (aB false) [0,1,2,3,4,5,6] (.pure pv) uT ah
         | false=>
           have h:=wA Lh h
           cases Li:decide (c.Op=3) with
           | true=>
             have h:=wy Li h
             refine qE EE 5 (fun S=>Jk Tryz.prog S 377 (aP 5) (aI c.Op)) (fun S=>.val (.ptr 5 0 3) S) (by kernel_rfl) (by kernel_rfl) (by rw[of_decide_eq_true Li];kernel_rfl) ?_
             refine sK EE 4 (Gz (bE.mk b) c) h (fun h=>?_) (fun h=>?_)
             · obtain⟨Lg,m,h⟩:=bC h
               rcases Lg with z | A
               · dsimp only at h
                 refine yG EE 9 (v:=aB true) (cH c.Kids g (a17+1) _ m _ 10 [1,8,0,2,3,4,5,6] gw) ?_
                 cases h
                 exact gP EE 4 (aB true) [0,1,2,3,4,5,6] (.pure pv) uT ah
               · dsimp only at h
                 refine yG EE 9 (v:=aB false) (cH c.Kids g (a17+1) _ m _ 10 [1,8,0,2,3,4,5,6] gw) ?_
                 cases h
                 exact gP EE 4 (aB false) [0,1,2,3,4,5,6] (.pure pv) uT ah
             · cases h
               exact gP EE 16 (aB false) [0,1,2,3,4,5,6] (.pure pv) uT ah
           | false=>
             have h:=wA Li h
             cases h
       · cases h
         exact gP EE 27 (aB false) [0,1,2,3,4,5,6] (.pure pv) uT ah
 · intro aR a e a24 qD r h
   refine jL EE 8 ?_ (by rcases r with y | y<;>exact bc)
   refine zL 4 ai e ?_
   exact sL EE qk 2 [[1,7,8,9]] [0,1,2,3,4,5,6,7] (a a24 e 0 qD r h)
 · intro aR dC a fl a24 e i f r h
   refine yB EE 1 h (fun Rk h=>?_) (fun Rk h=>?_)
   · refine yX EE 3 28 50 ez h fun p u h=>?_
     obtain⟨s,n,h⟩:=bC h
     rcases s with B | t
     · dsimp only at h
       refine yG EE 6 (v:=aB false) (fl p a24 f _ n _ 9 [0,1,2,3,4,5,6,7] gw) ?_
       cases h
       exact gP EE 5 (aB false) [0,1,2,3,4,5,6,7] (.pure pv) uT ah
     · dsimp only at h
       refine yG EE 6 (v:=aB true) (fl p a24 f _ n _ 9 [0,1,2,3,4,5,6,7] gw) ?_
       refine yI EE 3 h fun Lj h=>?_
       exact xF EE qk 2 [[1,7,8,9]] [0,1,2,3,4,5,6,7] [] 9 (a a24 e (i+1) t r h)
   · cases h
     exact gP EE 5 (aB true) [0,1,2,3,4,5,6,7] (.pure pv) uT ah
 · intro ba dr j a35 k r h
   refine jL EE 8 ?_ (by rcases r with y | y<;>exact bc)
   refine yI EE 7 h fun ZE h=>?_
   obtain⟨v175,o,h⟩:=bC h
   rcases v175 with C | D
   · dsimp only at h
     refine yG EE 0 (v:=aB false) (dr j (a35+1) k _ o _ 9 [2,0,3,4,5,6,7] gw) ?_
     cases h
     exact gP EE 3 (aB false) [0,1,2,3,4,5,6,7] (.pure pv) uT ah
   · dsimp only at h
     refine yG EE 0 (v:=aB true) (dr j (a35+1) k _ o _ 9 [2,0,3,4,5,6,7] gw) ?_
     cases h
     exact gP EE 3 (aB true) [0,1,2,3,4,5,6,7] (.pure pv) uT ah
theorem dr (c:Term)(d:Int)(a:ae)(b:Bool)(a17:Int)(r:(Sum Int Int))(h:ba c d a b a17=some r):fI Tryz.prog 251 7 (jE c d a b a17) (jF a b r):=(fC a b).1 c d a17 r h
theorem cH (c:LT)(a24:Int)(a:ae)(b:Bool)(qD:Int)(r:(Sum Int Int))(h:bI c a24 a b qD=some r):fI Tryz.prog 130 8 (dH c a24 a b qD) (eJ a24 a b r):=(fC a b).2.1 c a24 qD r h
theorem fl (c:Term)(a35:Int)(a:ae)(b:Bool)(d:Int)(r:(Sum Int Int))(h:dC c a35 a b d=some r):fI Tryz.prog 252 8 (iX c a35 a b d) (iY a35 a b r):=(fC a b).2.2.2 c a35 d r h
def pJ (a0:ae)(b:Term):Option (Bool):=
 fZ b>>=fun c=>ba b 1 a0 false 0>>=fun a=>(match a with | (Sum.inl d)=>some false | (Sum.inr e)=>some true)
set_option maxRecDepth 100000 in
theorem Bp (a0:ae)(c:Term)(r:(Bool))(h:pJ a0 c=some r):∀ S,dc Tryz.prog 171 [aG a0,aK c] S fun i j=>i=.ret (aB r)∧j=S:=by
 unfold pJ at h
 refine yF EE ?_
 obtain⟨d,b,h⟩:=bC h
 refine KW EE 401 (qe c d b _ 7 [] gw) ?_
 refine D8 EE 2 9 [2,4,5,6,12,13] (by kernel_rfl) ?_
 obtain⟨e,a,h⟩:=bC h
 rcases e with f | g
 · dsimp only at h
   refine yG EE 10 (v:=aB false) (dr c 1 a0 false 0 _ a _ 12 [10,11,9,0,2,5,6] gw) ?_
   cases h
   exact yR EE 6
 · dsimp only at h
   refine yG EE 10 (v:=aB true) (dr c 1 a0 false 0 _ a _ 12 [10,11,9,0,2,5,6] gw) ?_
   cases h
   exact yR EE 8
@[simp] noncomputable def dU := fun a (b:(List (ByteArray×Bool))) (o:NM)=>(([aM a,.fn (.func 68) [] [aP (o 0)]],[.arr 1 [.dJ (o 1)],.mp (b.map (dL fV rR))]):TC)
@[simp] noncomputable def fR := fun(r:((List (ByteArray×Bool))×Bool)) (o:NM)=>((aB r.2,sm [.arr 1 [.dJ (o 1)],.mp (r.1.map (dL fV rR))],[]):TB)
@[simp] noncomputable def mO := fun(a:bK) (a17:(List (ByteArray×Bool))) (o:NM)=>(([.agg [.sc (.string a.Name),aI a.dF],aP (o 0)],[.arr 1 [.dJ (o 1)],.mp (a17.map (dL fV rR))]):TC)
@[simp] noncomputable def mP := fun(r:((List (ByteArray×Bool))×Bool)) (o:NM)=>((aB r.2,sm [.arr 1 [.dJ (o 1)],.mp (r.1.map (dL fV rR))],[]):TB)
noncomputable def j7 : St:=sN 2 (aA (aI 0) none (sN 4 (St.start T0 71 ((dz dU id).1) (oL 2 (lV 0 ((dz dU id).2))))))
noncomputable def j8 := fun a b (c:(List (ByteArray×Bool)))=>lH j7 2 fun o=>([[(1,.fn (.func 68) [] [aP (o 0)]),(7,aM a),(8,aI (a.length:Int)),(9,aI b)]],[((o 0),.arr 1 [.dJ (o 1)]),((o 1),.mp (c.map (dL fV rR)))])
def dt (a:bK)(a17:(List (ByteArray×Bool))):Option ((List (ByteArray×Bool))×Bool):=
 if((tP a17 a.Name).getD false) then(some ((qC a17 a.Name true),false)) else(nF a.Name>>=fun v67=>if v67 then(dO a.dF 0 4>>=fun ac4=>if ac4 then(some ((qC a17 a.Name true),true)) else(some ((qC a17 a.Name true),false))) else(some ((qC a17 a.Name true),false)))
set_option maxRecDepth 100000 in
theorem my (a:bK)(a17:(List (ByteArray×Bool)))(r:((List (ByteArray×Bool))×Bool))(h:dt a a17=some r):fI Tryz.prog 68 2 (mO a a17) (mP r):=by
 unfold dt at h
 refine jL EE 2 ?_
 refine eo EE 7 (fun S=>vg Tryz.prog S 135 (.dJ 1) (.sc (.string a.Name)) false) (fun S=>.val (aB ((tP a17 a.Name).getD false)) S) (by kernel_rfl) (by kernel_rfl) (PC (g:=rR) (l:=a17) (x:=a.Name) (z0:=false) (by kernel_rfl) (by kernel_rfl)) ?_
 generalize ab0:((tP a17 a.Name).getD false)=b at h ⊢
 cases b with
 | true=>
   have h:=wy rfl h
   refine eo EE 5 (fun S=>EO Tryz.prog S 135 (.dJ 1) (.sc (.string a.Name)) (aB true)) (fun S=>.skip (S.set 1 (.mp ((qC a17 a.Name true).map (dL fV rR))))) (by kernel_rfl) (by kernel_rfl) (I5 (g:=rR) (l:=a17) (x:=a.Name) (y:=true) (z:=aB false) (by kernel_rfl) (by kernel_rfl) (by kernel_rfl)) ?_
   cases h
   exact gP EE 16 (aB false) [0,1] (.pure pv) uT ah
 | false=>
   have h:=wA rfl h
   refine eo EE 5 (fun S=>EO Tryz.prog S 135 (.dJ 1) (.sc (.string a.Name)) (aB true)) (fun S=>.skip (S.set 1 (.mp ((qC a17 a.Name true).map (dL fV rR))))) (by kernel_rfl) (by kernel_rfl) (I5 (g:=rR) (l:=a17) (x:=a.Name) (y:=true) (z:=aB false) (by kernel_rfl) (by kernel_rfl) (by kernel_rfl)) ?_
   refine sK EE 6 (zw a.Name) h (fun h=>?_) (fun h=>?_)
   · refine sK EE 4 (eX a.dF 0 4) h (fun h=>?_) (fun h=>?_)
     · cases h
       exact gP EE 4 (aB true) [0,1] (.pure pv) uT ah
     · cases h
       exact gP EE 4 (aB false) [0,1] (.pure pv) uT ah
   · cases h
     exact gP EE 9 (aB false) [0,1] (.pure pv) uT ah
def aL (b:(List bK))(a:Int)(d:(List (ByteArray×Bool))):Option ((List (ByteArray×Bool))×Bool):=
 if decide (a<(b.length:Int)) then(dA b a>>=fun e=>dt e d>>=fun c=>if c.2 then(if du .i64 (a+1) then(aL b (a+1) c.1) else none) else(some (c.1,false))) else(some (d,true))
 partial_fixpoint
set_option maxRecDepth 100000 in
theorem jB (e:(List bK)):(∀ b c r,aL e b c=some r→SX Tryz.prog (gy 2 (fR r)) (j8 e b c)):=by
 refine aL.partial_correctness _ _ ?_
 intro aL a b c r h
 refine yB EE 1 h (fun ac5 h=>?_) (fun ac5 h=>?_)
 · refine yX EE 3 22 35 cB h fun i j h=>?_
   obtain⟨d,g,h⟩:=bC h
   refine yG EE 6 (v:=aB d.2) (my i c d g _ 3 [0,1] gw) ?_
   cases f:d.2 with
   | true=>
     have h:=wy f h
     refine yI EE 3 h fun aqx h=>?_
     exact xF EE qk 2 [[1,7,8,9]] [0,1] [] 3 (a (b+1) d.1 r h)
   | false=>
     have h:=wA f h
     cases h
     exact gP EE 5 (aB false) [0,1] (.pure pv) uT ah
 · cases h
   exact gP EE 5 (aB true) [0,1] (.pure pv) uT ah
def bu (a:(List bK))(b:(List (ByteArray×Bool))):Option ((List (ByteArray×Bool))×Bool):=
 aL a 0 b
set_option maxRecDepth 100000 in
theorem fD (a:(List bK))(b:(List (ByteArray×Bool)))(r:((List (ByteArray×Bool))×Bool))(h:bu a b=some r):fI Tryz.prog 71 2 (dU a b) (fR r):=by
 unfold bu at h
 refine jL EE 2 ?_
 refine zL 4 bf a ?_
 exact sL EE qk 2 [[1,7,8,9]] [0,1] ((jB a) 0 b r h)
def fF (a0:ae):Option (Int):=
 dO (a0.Cons.length:Int) 2 12>>=fun YX=>if YX then(if decide ((a0.gR.length:Int)>8) then(some 2) else(bu a0.Cons ([]:(List (ByteArray×Bool)))>>=fun Iq=>if Iq.2 then(bu a0.gR Iq.1>>=fun c=>if c.2 then(dA a0.Cons 0>>=fun a=>if(!([(a.Name.data.toList==(⟨#[70,97,108,115,101]⟩:ByteArray).data.toList),(a.dF==0)].all id)) then(some 2) else(dA a0.Cons 1>>=fun b=>if(!([(b.Name.data.toList==(⟨#[84,114,117,101]⟩:ByteArray).data.toList),(b.dF==0)].all id)) then(some 2) else(some 0))) else(some 2)) else(some 2))) else(some 2)
set_option maxRecDepth 100000 in
theorem te (a0:ae)(r:(Int))(h:fF a0=some r):∀ S,dc Tryz.prog 23 [aG a0] S fun k l=>k=.ret (aI r)∧l=S:=by
 unfold fF at h
 refine yF EE ?_
 refine zL 13 bf a0.Cons ?_
 refine sK EE 0 (eX (a0.Cons.length:Int) 2 12) h (fun h=>?_) (fun h=>?_)
 · refine zL 4 bf a0.gR ?_
   refine yB EE 0 h (fun Y0 h=>?_) (fun Y0 h=>?_)
   · cases h
     exact yR EE 19
   · obtain⟨Iq,f,h⟩:=bC h
     refine yG EE 5 (v:=aB Iq.2) (fD a0.Cons ([]:(List (ByteArray×Bool))) Iq f _ 3 [2,1] gw) ?_
     cases d:Iq.2 with
     | true=>
       have h:=wy d h
       obtain⟨c,g,h⟩:=bC h
       refine yG EE 6 (v:=aB c.2) (fD a0.gR Iq.1 c g _ 3 [2,1] gw) ?_
       cases e:c.2 with
       | true=>
         have h:=wy e h
         refine yX EE 5 22 35 cB h fun a i h=>?_
         refine IG EE 2 (sQ Tryz.prog .neq 35 (.agg [.sc (.string a.Name),aI a.dF]) (.agg [.sc (.string ⟨#[70,97,108,115,101]⟩),aI 0])) (!([(a.Name.data.toList==(⟨#[70,97,108,115,101]⟩:ByteArray).data.toList),(a.dF==0)].all id)) (by kernel_rfl) ((DQ (by kernel_rfl)).2) (fun QQ=>?_) (fun QQ=>?_)
         · have h:=wy QQ h
           cases h
           exact yR EE 12
         · have h:=wA QQ h
           refine yX EE 3 22 35 cB h fun b j h=>?_
           refine IG EE 2 (sQ Tryz.prog .neq 35 (.agg [.sc (.string b.Name),aI b.dF]) (.agg [.sc (.string ⟨#[84,114,117,101]⟩),aI 0])) (!([(b.Name.data.toList==(⟨#[84,114,117,101]⟩:ByteArray).data.toList),(b.dF==0)].all id)) (by kernel_rfl) ((DQ (by kernel_rfl)).2) (fun Y3=>?_) (fun Y3=>?_)
           · have h:=wy Y3 h
             cases h
             exact yR EE 5
           · have h:=wA Y3 h
             cases h
             exact yR EE 5
       | false=>
         have h:=wA e h
         cases h
         exact yR EE 6
     | false=>
       have h:=wA d h
       cases h
       exact yR EE 13
 · cases h
   exact yR EE 25
@[simp] noncomputable def e9 := fun a b (o:NM)=>(([aT a,.fn (.func 189) [] [aP (o 0)]],[oG b]):TC)
@[simp] noncomputable def iv := fun a (r:Bool) (o:NM)=>((aB r,[some (oG a)],[]):TB)
@[simp] noncomputable def qg := fun a a17 (o:NM)=>(([aK a,aP (o 0)],[oG a17]):TC)
@[simp] noncomputable def qh := fun a17 (r:Bool) (o:NM)=>((aB r,[some (oG a17)],[]):TB)
noncomputable def lZ : St:=sN 2 (aA (aI 0) none (sN 4 (St.start T0 130 ((dz e9 id).1) (oL 1 (lV 0 ((dz e9 id).2))))))
noncomputable def ma := fun b a c=>lH lZ 1 fun o=>([[(1,.fn (.func 189) [] [aP (o 0)]),(7,aT a),(8,aI (a.length:Int)),(9,aI c)]],[((o 0),oG b)])
def ev (a:Term)(a17:ae):Option Bool:=
 pJ a17 a>>=fun v54=>if v54 then(some true) else(some false)
set_option maxRecDepth 100000 in
theorem pM (a:Term)(a17:ae)(r:Bool)(h:ev a a17=some r):fI Tryz.prog 189 1 (qg a a17) (qh a17 r):=by
 unfold ev at h
 refine jL EE 1 ?_
 refine sK EE 6 (Bp a17 a) h (fun h=>?_) (fun h=>?_)
 · cases h
   exact gP EE 3 (aB true) [0] (.pure pv) uT ah
 · cases h
   exact gP EE 3 (aB false) [0] (.pure pv) uT ah
def bd (c:ae)(b:LT)(a:Int):Option Bool:=
 if decide (a<(b.length:Int)) then(dA b a>>=fun d=>ev d c>>=fun e=>if e then(if du .i64 (a+1) then(bd c b (a+1)) else none) else(some false)) else(some true)
 partial_fixpoint
set_option maxRecDepth 100000 in
theorem kZ (b:ae)(e:LT):(∀ c r,bd b e c=some r→SX Tryz.prog (gy 1 (iv b r)) (ma b e c)):=by
 refine bd.partial_correctness _ _ _ ?_
 intro bd a c r h
 refine yB EE 1 h (fun ac6 h=>?_) (fun ac6 h=>?_)
 · refine yX EE 3 28 50 ez h fun i j h=>?_
   obtain⟨d,g,h⟩:=bC h
   refine yG EE 6 (v:=aB d) (pM i b d g _ 2 [0] gw) ?_
   cases f:d with
   | true=>
     have h:=wy f h
     refine yI EE 3 h fun abY h=>?_
     exact xF EE qk 2 [[1,7,8,9]] [0] [] 2 (a (c+1) r h)
   | false=>
     have h:=wA f h
     cases h
     exact gP EE 5 (aB false) [0] (.pure pv) uT ah
 · cases h
   exact gP EE 5 (aB true) [0] (.pure pv) uT ah
def dV (a:LT)(b:ae):Option Bool:=
 bd b a 0
set_option maxRecDepth 100000 in
theorem mb (a:LT)(b:ae)(r:Bool)(h:dV a b=some r):fI Tryz.prog 130 1 (e9 a b) (iv b r):=by
 unfold dV at h
 refine jL EE 1 ?_
 refine zL 4 ai a ?_
 exact sL EE qk 2 [[1,7,8,9]] [0] ((kZ b a) 0 r h)
def rA (a0:ae)(b:LT):Option (Bool):=
 fF a0>>=fun v55=>if decide (v55=0) then(dV b a0>>=fun a=>if a then(some true) else(some false)) else(some false)
set_option maxRecDepth 100000 in
theorem Cf (a0:ae)(d:LT)(r:(Bool))(h:rA a0 d=some r):∀ S,dc Tryz.prog 129 [aG a0,aT d] S fun e f=>e=.ret (aB r)∧f=S:=by
 unfold rA at h
 refine yF EE ?_
 refine yC EE 5 (te a0) h fun v55 h=>?_
 refine yB EE 0 h (fun YY h=>?_) (fun YY h=>?_)
 · obtain⟨a,c,h⟩:=bC h
   refine yG EE 3 (v:=aB a) (mb d a0 a c _ 1 [0] gw) ?_
   cases b:a with
   | true=>
     have h:=wy b h
     cases h
     exact yR EE 4
   | false=>
     have h:=wA b h
     cases h
     exact yR EE 4
 · cases h
   exact yR EE 8
@[simp] noncomputable def eK := fun a (o:NM)=>(([aT a,.fn (.func 131) [] []],[]):TC)
@[simp] noncomputable def ib := fun(r:Bool) (o:NM)=>((aB r,[],[]):TB)
noncomputable def lN : St:=sN 2 (aA (aI 0) none (sN 4 (St.start T0 130 ((eK dd id).1) (oL 0 (lV 0 ((eK dd id).2))))))
noncomputable def lO := fun a b=>lH lN 0 fun o=>([[(1,.fn (.func 131) [] []),(7,aT a),(8,aI (a.length:Int)),(9,aI b)]],[])
def aZ (b:LT)(a:Int):Option Bool:=
 if decide (a<(b.length:Int)) then(dA b a>>=fun c=>nH c>>=fun ac7=>if ac7 then(if du .i64 (a+1) then(aZ b (a+1)) else none) else(some false)) else(some true)
 partial_fixpoint
set_option maxRecDepth 100000 in
theorem kT (c:LT):(∀ b r,aZ c b=some r→SX Tryz.prog (gy 0 (ib r)) (lO c b)):=by
 refine aZ.partial_correctness _ _ ?_
 intro aZ a b r h
 refine yB EE 1 h (fun ac8 h=>?_) (fun ac8 h=>?_)
 · refine yX EE 3 28 50 ez h fun d e h=>?_
   refine sK EE 6 (zA d) h (fun h=>?_) (fun h=>?_)
   · refine yI EE 3 h fun aqy h=>?_
     exact xF EE qk 2 [[1,7,8,9]] [] [] 1 (a (b+1) r h)
   · cases h
     exact gP EE 5 (aB false) [] (.pure pv) aW ah
 · cases h
   exact gP EE 5 (aB true) [] (.pure pv) aW ah
def dS (a:LT):Option Bool:=
 aZ a 0
set_option maxRecDepth 100000 in
theorem lP (a:LT)(r:Bool)(h:dS a=some r):fI Tryz.prog 130 0 (eK a) (ib r):=by
 unfold dS at h
 refine jL EE 0 ?_
 refine zL 4 ai a ?_
 exact sL EE qk 2 [[1,7,8,9]] [] ((kT a) 0 r h)
def pK (a0:ae)(a:LT):Option (Bool):=
 rA a0 a>>=fun ac9=>if ac9 then(dS a>>=fun v39=>if v39 then(some true) else(some false)) else(some false)
set_option maxRecDepth 100000 in
theorem Bq (a0:ae)(c:LT)(r:(Bool))(h:pK a0 c=some r):∀ S,dc Tryz.prog 77 [aG a0,aT c] S fun d e=>d=.ret (aB r)∧e=S:=by
 unfold pK at h
 refine yF EE ?_
 refine sK EE 6 (Cf a0 c) h (fun h=>?_) (fun h=>?_)
 · obtain⟨v39,b,h⟩:=bC h
   refine KW EE 2 (v:=aB v39) (lP c v39 b _ 1 [] gw) ?_
   cases a:v39 with
   | true=>
     have h:=wy a h
     cases h
     exact yR EE 4
   | false=>
     have h:=wA a h
     cases h
     exact yR EE 4
 · cases h
   exact yR EE 7
def kN (a0:Term)(a:Int):Option (Int):=
 if decide (a=0) then(s9 a0>>=fun v1=>some v1) else(if decide (a=1) then(some a0.Op) else(some a0.N))
set_option maxRecDepth 100000 in
theorem xu (a0:Term)(a:Int)(r:(Int))(h:kN a0 a=some r):∀ S,dc Tryz.prog 133 [aK a0,aI a] S fun b c=>b=.ret (aI r)∧c=S:=by
 unfold kN at h
 refine yF EE ?_
 refine yB EE 6 h (fun c0 h=>?_) (fun c0 h=>?_)
 · refine yC EE 3 (EB a0) h fun v1 h=>?_
   cases h
   exact yR EE 3
 · refine yB EE 2 h (fun c2 h=>?_) (fun c2 h=>?_)
   · cases h
     exact yR EE 7
   · cases h
     exact yR EE 7
noncomputable def zB : St:=sN 7 (St.start T0 78 [.agg [aI 0,aI 0,.lit []],.agg [aI 0,aI 0,.lit []]] af.empty)
noncomputable def tV := fun a0 a=>lH zB 2 fun o=>([[(3,aP (o 1)),(2,aP (o 0)),(5,aI 0)]],[((o 1),.arr 3 [aK a]),((o 0),.arr 3 [aK a0])])
noncomputable def zC : St:=sN 3 (dz tV)
noncomputable def tW := fun a0 c a b=>lH zC 2 fun o=>([[(3,aP (o 1)),(2,aP (o 0)),(8,aI a),(5,aI b)]],[((o 1),.arr 3 [aK c]),((o 0),.arr 3 [aK a0])])
noncomputable def zD : St:=sN 4 (aA (aB false) none (sN 1 (dz tW)))
noncomputable def zF := fun a0 c a b=>lH zD 2 fun o=>([[(3,aP (o 1)),(2,aP (o 0)),(7,aI a),(5,aI b)]],[((o 1),.arr 3 [aK c]),((o 0),.arr 3 [aK a0])])
mutual
def fL (a0 c:Term)(a b:Int):Option (Int):=
 if decide (a<(a0.Kids.length:Int)) then(if decide (a<(c.Kids.length:Int)) then(dA a0.Kids a>>=fun d=>dA c.Kids a>>=fun e=>jl d e>>=fun v93=>if(!decide (v93=0)) then(some v93) else(if du .i64 (a+1) then(fL a0 c (a+1) v93) else none)) else(some b)) else(some b)
 partial_fixpoint
def jl (a0 a:Term):Option (Int):=
 nK a0 a
 partial_fixpoint
def nK (a0 a:Term):Option (Int):=
 fM a0 a 0 0
 partial_fixpoint
def fM (a0 c:Term)(a d:Int):Option (Int):=
 if decide (a<3) then(kN a0 a>>=fun e=>kN c a>>=fun Y4=>pI e Y4>>=fun b=>if(!decide (b=0)) then(some b) else(if du .i64 (a+1) then(fM a0 c (a+1) b) else none)) else(fL a0 c 0 d)
 partial_fixpoint
end
set_option maxRecDepth 100000 in
theorem wo : (∀ a0 d f i r,fL a0 d f i=some r→SX Tryz.prog (RQ (aI r)) (zF a0 d f i))∧(∀ a0 d r,jl a0 d=some r→∀ S,dc Tryz.prog 78 [aK a0,aK d] S fun p q=>p=.ret (aI r)∧q=S)∧(∀ a0 d r,nK a0 d=some r→SX Tryz.prog (RQ (aI r)) (tV a0 d))∧(∀ a0 d e g r,fM a0 d e g=some r→SX Tryz.prog (RQ (aI r)) (tW a0 d e g)):=by
 refine fL.mutual_partial_correctness _ _ _ _ ?_ ?_ ?_ ?_
 · intro fL jl a qb a0 d f i r h
   refine zL 4 ai a0.Kids ?_
   refine yB EE 0 h (fun ada h=>?_) (fun ada h=>?_)
   · refine zL 4 ai d.Kids ?_
     refine yB EE 0 h (fun adb h=>?_) (fun adb h=>?_)
     · refine yX EE 7 28 50 ez h fun j n h=>?_
       refine yX EE 4 28 50 ez h fun k o h=>?_
       refine yC EE 1 (qb j k) h fun v93 h=>?_
       refine yB EE 4 h (fun Y2 h=>?_) (fun Y2 h=>?_)
       · cases h
         exact yR EE 5
       · refine yI EE 3 h fun aqz h=>?_
         exact yK EE 2 [[3,2,7,5]] [1,0] (a a0 d (f+1) v93 r h)
     · cases h
       exact yR EE 6
   · cases h
     exact yR EE 12
 · intro nK c a0 d r h
   refine yF EE ?_
   exact yK EE 7 [[3,2,5]] [1,0] (c a0 d r h)
 · intro fM b a0 d r h
   exact yK EE 3 [[3,2,8,5]] [1,0] (b a0 d 0 0 r h)
 · intro fL fM a b a0 d e g r h
   refine yB EE 1 h (fun ade h=>?_) (fun ade h=>?_)
   · refine yC EE 9 (xu a0 e) h fun l h=>?_
     refine yC EE 2 (xu d e) h fun Y4 h=>?_
     refine yC EE 0 (Bo l Y4) h fun m h=>?_
     refine yB EE 4 h (fun QQ h=>?_) (fun QQ h=>?_)
     · cases h
       exact yR EE 5
     · refine yI EE 2 h fun aqA h=>?_
       exact yK EE 2 [[3,2,8,5]] [1,0] (b a0 d (e+1) m r h)
   · exact yK EE 4 [[3,2,7,5]] [1,0] (a a0 d 0 g r h)
theorem qb (a0 a:Term)(r:(Int))(h:jl a0 a=some r):∀ S,dc Tryz.prog 78 [aK a0,aK a] S fun b c=>b=.ret (aI r)∧c=S:=(wo ).2.1 a0 a r h
def qI (a0:ae)(a a2:Term):Option (Int×Int):=
 pK a0 [a,a2]>>=fun v0=>if v0 then(jl a a2>>=fun v1=>some (v1,0)) else(some (0,2))
set_option maxRecDepth 100000 in
theorem zG (a0:ae)(a a2:Term)(r:(Int×Int))(h:qI a0 a a2=some r):∀ S,dc Tryz.prog 31 [aG a0,aK a,aK a2] S fun c d=>c=.ret (.bm [aI r.1,aI r.2])∧d=S:=by
 unfold qI at h
 refine yF EE ?_
 obtain⟨v0,b,h⟩:=bC h
 refine Pz EE 11 77 [aG a0,.aj 3 0 2] [aG a0,.lit [aK a,aK a2]] (aB v0) (by kernel_rfl) (zh.cons (.pure (by simp[aq,br,bH,aD,-List.map_append,-List.map_drop,-List.map_take,-List.map_set,-List.map_replicate])) (zh.cons (ym.Ap (sz:=3) (es:=[aK a,aK a2]) (by kernel_rfl) (by first | rfl | (simp;done) | omega | (simp;omega)) (by simp[aq,br,bH,aD,-List.map_append,-List.map_drop,-List.map_take,-List.map_set,-List.map_replicate])) zh.nil)) (by simp[aq,br,bH,aD,-List.map_append,-List.map_drop,-List.map_take,-List.map_set,-List.map_replicate]) rfl (by have q:=Bq a0 [a,a2] v0 b;simp only[aT,List.map_cons,List.map_nil,tD] at q;exact q) ?_
 cases v0 with
 | true=>
   have h:=wy rfl h
   refine yC EE 4 (qb a a2) h fun v1 h=>?_
   cases h
   exact yR EE 4
 | false=>
   have h:=wA rfl h
   cases h
   exact yR EE 6
end
end Go.Eng

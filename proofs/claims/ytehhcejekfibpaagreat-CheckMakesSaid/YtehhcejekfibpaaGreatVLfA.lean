/- Functions of the program lifted to data, each with its contract; no conditions. -/
import Derived.Test.YtehhcejekfibpaaGreatVLcA
import Derived.KernelRfl
set_option linter.unusedVariables false
set_option linter.unusedSimpArgs false
namespace Go.Eng
open Go.Proofs
set_option synthInstance.maxSize 100000
set_option synthInstance.maxHeartbeats 400000
noncomputable section
def mg (a0 a a2:Int):Option (Bool):=
 if decide (a0≥a) then(if decide (a0≤a2) then(some true) else(some false)) else(some false)
set_option maxRecDepth 100000 in
theorem kc (a0 a a2:Int)(r:(Bool))(h:mg a0 a a2=some r):∀ S,cL Tryz.prog 41 [aI a0,aI a,aI a2] S fun b c=>b=.ret (aB r)∧c=S:=by
 unfold mg at h
 refine yF EE ?_
 refine yB EE 5 h (fun c0 h=>?_) (fun c0 h=>?_)
 · refine yB EE 3 h (fun c1 h=>?_) (fun c1 h=>?_)
   · cases h
     exact yR EE 4
   · cases h
     exact yR EE 4
 · cases h
   exact yR EE 8
noncomputable def FE : St:=sN 5 (St.start T0 85 [.sc (.string ⟨#[]⟩)] af.empty)
noncomputable def FF := fun a0 a=>ng FE 0 fun o=>([[(0,.sc (.string a0)),(3,aI a)]],[])
def ic (a0:ByteArray)(a:Int):Option (Bool):=
 if decide (a<(a0.size:Int)) then(nD a0 a>>=fun b=>if decide (b<97) then(nD a0 a>>=fun c=>if decide (c<65) then(some false) else(nD a0 a>>=fun d=>if decide (d>90) then(some false) else(if dH .i64 (a+1) then(ic a0 (a+1)) else none))) else(nD a0 a>>=fun e=>if decide (e>122) then(nD a0 a>>=fun f=>if decide (f<65) then(some false) else(nD a0 a>>=fun g=>if decide (g>90) then(some false) else(if dH .i64 (a+1) then(ic a0 (a+1)) else none))) else(if dH .i64 (a+1) then(ic a0 (a+1)) else none))) else(mg (a0.size:Int) 1 8>>=fun YO=>if YO then(some true) else(some false))
 partial_fixpoint
set_option maxRecDepth 100000 in
theorem AH (a0:ByteArray):(∀ b r,ic a0 b=some r→SX Tryz.prog (RQ (aB r)) (FF a0 b)):=by
 refine ic.partial_correctness _ _ ?_
 intro ic a b r h
 refine yn EE 3 (some (aI (a0.size:Nat))) (aI (a0.size:Int)) (by kernel_rfl) (rfl) ?_
 refine yB EE 0 h (fun YP h=>?_) (fun YP h=>?_)
 · obtain⟨j,c,h⟩:=bT h
   refine gO EE 4 (fun S=>CE Tryz.prog S 9 (.sc (.string a0)) (aI b)) (fun S=>.val (.sc (.int .u8 j)) S) (by kernel_rfl) (by kernel_rfl) (sB c (by kernel_rfl)) ?_
   refine yB EE 0 h (fun YQ h=>?_) (fun YQ h=>?_)
   · obtain⟨k,d,h⟩:=bT h
     refine gO EE 9 (fun S=>CE Tryz.prog S 9 (.sc (.string a0)) (aI b)) (fun S=>.val (.sc (.int .u8 k)) S) (by kernel_rfl) (by kernel_rfl) (sB d (by kernel_rfl)) ?_
     refine yB EE 0 h (fun ab1 h=>?_) (fun ab1 h=>?_)
     · cases h
       exact yR EE 11
     · obtain⟨l,e,h⟩:=bT h
       refine gO EE 3 (fun S=>CE Tryz.prog S 9 (.sc (.string a0)) (aI b)) (fun S=>.val (.sc (.int .u8 l)) S) (by kernel_rfl) (by kernel_rfl) (sB e (by kernel_rfl)) ?_
       refine yB EE 0 h (fun YR h=>?_) (fun YR h=>?_)
       · cases h
         exact yR EE 6
       · refine yI EE 5 h fun Yi h=>?_
         exact yK EE 2 [[0,3]] [] (a (b+1) r h)
   · obtain⟨m,f,h⟩:=bT h
     refine gO EE 3 (fun S=>CE Tryz.prog S 9 (.sc (.string a0)) (aI b)) (fun S=>.val (.sc (.int .u8 m)) S) (by kernel_rfl) (by kernel_rfl) (sB f (by kernel_rfl)) ?_
     refine yB EE 0 h (fun acV h=>?_) (fun acV h=>?_)
     · obtain⟨n,g,h⟩:=bT h
       refine gO EE 4 (fun S=>CE Tryz.prog S 9 (.sc (.string a0)) (aI b)) (fun S=>.val (.sc (.int .u8 n)) S) (by kernel_rfl) (by kernel_rfl) (sB g (by kernel_rfl)) ?_
       refine yB EE 0 h (fun Ge h=>?_) (fun Ge h=>?_)
       · cases h
         exact yR EE 11
       · obtain⟨o,i,h⟩:=bT h
         refine gO EE 3 (fun S=>CE Tryz.prog S 9 (.sc (.string a0)) (aI b)) (fun S=>.val (.sc (.int .u8 o)) S) (by kernel_rfl) (by kernel_rfl) (sB i (by kernel_rfl)) ?_
         refine yB EE 0 h (fun ab2 h=>?_) (fun ab2 h=>?_)
         · cases h
           exact yR EE 6
         · refine yI EE 5 h fun IT h=>?_
           exact yK EE 2 [[0,3]] [] (a (b+1) r h)
     · refine yI EE 16 h fun aqr h=>?_
       exact yK EE 2 [[0,3]] [] (a (b+1) r h)
 · refine yn EE 2 (some (aI (a0.size:Nat))) (aI (a0.size:Int)) (by kernel_rfl) (rfl) ?_
   refine mK EE 0 (kc (a0.size:Int) 1 8) h (fun h=>?_) (fun h=>?_)
   · cases h
     exact yR EE 3
   · cases h
     exact yR EE 3
def rV (a0:ByteArray):Option (Bool):=
 ic a0 0
set_option maxRecDepth 100000 in
theorem xZ (a0:ByteArray)(r:(Bool))(h:rV a0=some r):∀ S,cL Tryz.prog 85 [.sc (.string a0)] S fun a b=>a=.ret (aB r)∧b=S:=by
 unfold rV at h
 refine yF EE ?_
 exact yK EE 5 [[0,3]] [] ((AH a0) 0 r h)
noncomputable def Dz : St:=sN 6 (St.start T0 42 [.lit [],.lit []] af.empty)
noncomputable def wv := fun a0 (a:(List ByteArray))=>ng Dz 0 fun o=>([[(6,aI 0),(0,aM a0),(1,.lit (a.map fC))]],[])
noncomputable def DA : St:=sN 4 (aF (aB true) none (sN 0 (aF (aI 0) none (sN 3 (dz wv)))))
noncomputable def wx := fun a0 (b:(List ByteArray)) a=>ng DA 0 fun o=>([[(6,aI 0),(0,aM a0),(1,.lit (b.map fC)),(7,aI a)]],[])
noncomputable def DB : St:=sN 12 (aF (.fa [.sc (.string ⟨#[]⟩),aI 0]) none (sN 2 (jG (fun S=>.val (.ax) S) (sN 5 (aF (aB true) none (sN 2 (aF (.fa [.sc (.string ⟨#[]⟩),aI 0]) none (sN 4 (aF (aB true) none (sN 2 (aF (.fa [.sc (.string ⟨#[]⟩),aI 0]) none (sN 3 (aF (aB false) none (sN 0 (aF (aI 0) none (sN 3 (dz wx)))))))))))))))))
noncomputable def wy := fun a0 a (gK:(List ByteArray))=>ng DB 2 fun o=>([[(6,aI a),(0,aM a0),(1,.ak (o 1) 0 gK.length)]],[((o 1),.arr 1 (gK.map fC))])
noncomputable def DC : St:=sN 4 (aF (aB true) none (sN 0 (aF (aI 0) none (sN 3 (dz wy)))))
noncomputable def DD := fun a0 a (gK:(List ByteArray)) b=>ng DC 2 fun o=>([[(6,aI a),(0,aM a0),(1,.ak (o 1) 0 gK.length),(7,aI b)]],[((o 1),.arr 1 (gK.map fC))])
mutual
def iL (a0:(List bN))(a:Int)(gK:(List ByteArray))(b:Int):Option ((List ByteArray)×Bool):=
 if decide (b<gK.length) then(dY gK b>>=fun j=>dY gK b>>=fun d=>dY a0 a>>=fun e=>if(d.data.toList==e.Name.data.toList) then(some (([]:List ByteArray),false)) else(if dH .i64 (b+1) then(iL a0 a gK (b+1)) else none)) else(dY a0 a>>=fun f=>rV f.Name>>=fun g=>if g then(dY a0 a>>=fun h=>mg h.cU 0 4>>=fun Q4=>if Q4 then(if gK.isEmpty then(dY a0 a>>=fun i=>if dH .i64 (a+1) then(iM a0 (a+1) [i.Name]) else none) else(if decide (gK.length≤1048576) then(dY a0 a>>=fun c=>if decide (gK.length+[c.Name].length≤1048576) then(if dH .i64 (a+1) then(iM a0 (a+1) (gK++[c.Name])) else none) else none) else none)) else(some (([]:List ByteArray),false))) else(some (([]:List ByteArray),false)))
 partial_fixpoint
def iM (a0:(List bN))(a:Int)(gK:(List ByteArray)):Option ((List ByteArray)×Bool):=
 if decide (a<(a0.length:Int)) then(iL a0 a gK 0) else(some (gK,true))
 partial_fixpoint
end
set_option maxRecDepth 100000 in
theorem sX (a0:(List bN)):(∀ c gK d r,iL a0 c gK d=some r→SX Tryz.prog (RQ (.bM [.lit (r.1.map fC),aB r.2])) (DD a0 c gK d))∧(∀ c gK r,iM a0 c gK=some r→SX Tryz.prog (RQ (.bM [.lit (r.1.map fC),aB r.2])) (wy a0 c gK)):=by
 refine iL.mutual_partial_correctness _ _ _ ?_ ?_
 · intro iL iM a b c gK d r h
   refine yB EE 4 h (fun Q5 h=>?_) (fun Q5 h=>?_)
   · obtain⟨x,g,h⟩:=bT h
     refine wW EE 5 (fun S=>NA Tryz.prog S 98 (.ak 1 0 gK.length) (aI d)) (fun S=>.val (.ptr 1 (0+(d:Int).toNat) 0) S) (by kernel_rfl) (by kernel_rfl) (GN (xs:=gK) (es:=gK.map fC) (el:=9) (n:=1) g (by first | rfl | (simp;done) | omega | (simp;omega)) (by kernel_rfl) (by kernel_rfl) (by kernel_rfl)) ?_
     obtain⟨f,j,h⟩:=bT h
     refine wW EE 0 (fun S=>Ko Tryz.prog S 9 (.ptr 1 (0+(d:Int).toNat) 0)) (fun S=>.val (.sc (.string f)) S) (by kernel_rfl) (by kernel_rfl) (XA (n:=1) (enc:=fC) (xs:=gK) (i:=d) j (by kernel_rfl) (cs:=(AV.agg [.sc (.string f)]).cells) rfl (by kernel_rfl) (by kernel_rfl)) ?_
     refine yX EE 2 22 44 bX h fun y q h=>?_
     refine yB EE 2 h (fun Q6 h=>?_) (fun Q6 h=>?_)
     · cases h
       exact uR EE 6 (v:=.bM [.ax,aB false]) (by kernel_rfl) (Fz.n5 (.ax) (.pure (by simp[aq,bF,cC,aO,-List.map_append,-List.map_drop,-List.map_take,-List.map_set,-List.map_replicate])))
     · refine yI EE 4 h fun ZE h=>?_
       exact yK EE 2 [[6,0,1,7]] [1] (a c gK (d+1) r h)
   · refine yX EE 3 22 44 bX h fun k s h=>?_
     refine mK EE 2 (xZ k.Name) h (fun h=>?_) (fun h=>?_)
     · refine yX EE 4 22 44 bX h fun l t h=>?_
       refine mK EE 2 (kc l.cU 0 4) h (fun h=>?_) (fun h=>?_)
       · cases I3:gK.isEmpty with
         | true=>
           have h:=yg I3 h
           refine gO EE 5 (fun S=>rK Tryz.prog S 98 98 (.ax) (.ak 1 0 gK.length)) (fun S=>.val (.ax) S) (by kernel_rfl) (by kernel_rfl) (vY (enc:=fC) (el:=9) (sz:=1) (ys:=gK) (by kernel_rfl) (by kernel_rfl) (nQ _ (.inr ⟨1,1,rfl,by kernel_rfl⟩)) I3 rfl rfl) ?_
           refine yX EE 2 22 44 bX h fun m u h=>?_
           refine yI EE 9 h fun Gu h=>?_
           exact Gc EE rq 2 [[6,0,1]] [3] [(1,3)] 4 (b (c+1) [m.Name] r h)
         | false=>
           have h:=yh I3 h
           obtain⟨o,h⟩:=q8 h
           refine gO EE 5 (fun S=>rK Tryz.prog S 98 98 (.ax) (.ak 1 0 gK.length)) (fun S=>.val (.ak 2 0 gK.length) (S.add (.arr 1 (gK.map fC)))) (by kernel_rfl) (by kernel_rfl) (vO (enc:=fC) (el:=9) (sz:=1) (ys:=gK) (.inl rfl) (by kernel_rfl) (by kernel_rfl) (fun _=>rfl) (fun _=>by kernel_rfl) (nQ _ (.inr ⟨1,1,rfl,by kernel_rfl⟩)) (by kernel_rfl) (by kernel_rfl) (ux I3) (of_decide_eq_true o)) ?_
           refine yX EE 2 22 44 bX h fun e w h=>?_
           obtain⟨p,h⟩:=q8 h
           refine gO EE 3 (fun S=>rK Tryz.prog S 98 98 (.ak 2 0 gK.length) (.ak 3 0 1)) (fun S=>.val (.ak 4 0 (gK++[e.Name]).length) ((S.del 2).add (.arr 1 ((gK++[e.Name]).map fC)))) (by kernel_rfl) (by kernel_rfl) (zj (enc:=fC) (el:=9) (sz:=1) (xs:=gK) (ys:=[e.Name]) (by kernel_rfl) (by kernel_rfl) (fun _=>rfl) (fun _=>by kernel_rfl) (by kernel_rfl) (nQ _ (.inr ⟨3,1,rfl,by kernel_rfl⟩)) (by first | rfl | (simp;done) | omega | (simp;omega)) (by kernel_rfl) (by kernel_rfl) (by kernel_rfl) (by simp) (of_decide_eq_true p)) ?_
           refine yI EE 5 h fun NT h=>?_
           exact Gc EE rq 2 [[6,0,1]] [4] [(1,4)] 5 (b (c+1) (gK++[e.Name]) r h)
       · cases h
         exact uR EE 7 (v:=.bM [.ax,aB false]) (by kernel_rfl) (Fz.n5 (.ax) (.pure (by simp[aq,bF,cC,aO,-List.map_append,-List.map_drop,-List.map_take,-List.map_set,-List.map_replicate])))
     · cases h
       exact uR EE 15 (v:=.bM [.ax,aB false]) (by kernel_rfl) (Fz.n5 (.ax) (.pure (by simp[aq,bF,cC,aO,-List.map_append,-List.map_drop,-List.map_take,-List.map_set,-List.map_replicate])))
 · intro iL a c gK r h
   refine zL 3 aR a0 ?_
   refine yB EE 0 h (fun Q7 h=>?_) (fun Q7 h=>?_)
   · exact yK EE 4 [[6,0,1,7]] [1] (a c gK 0 r h)
   · cases h
     exact uR EE 6 (v:=.bM [.ak 1 0 gK.length,aB true]) (by kernel_rfl) (Fz.n5 (Fz.zD (sz:=1) (es:=(gK.map fC)) (by kernel_rfl) (by simp) (by simp[aq,bF,cC,aO,-List.map_append,-List.map_drop,-List.map_take,-List.map_set,-List.map_replicate])) (.pure (by simp[aq,bF,cC,aO,-List.map_append,-List.map_drop,-List.map_take,-List.map_set,-List.map_replicate])))
def jM (a0:(List bN))(c:(List ByteArray))(a:Int):Option ((List ByteArray)×Bool):=
 if decide (a<(c.length:Int)) then(dY c a>>=fun d=>dY a0 0>>=fun e=>if(d.data.toList==e.Name.data.toList) then(some (([]:List ByteArray),false)) else(if dH .i64 (a+1) then(jM a0 c (a+1)) else none)) else(dY a0 0>>=fun f=>rV f.Name>>=fun g=>if g then(dY a0 0>>=fun h=>mg h.cU 0 4>>=fun i=>if i then(if c.isEmpty then(dY a0 0>>=fun j=>iM a0 1 [j.Name]) else(if decide (c.length≤1048576) then(dY a0 0>>=fun b=>if decide (c.length+[b.Name].length≤1048576) then(iM a0 1 (c++[b.Name])) else none) else none)) else(some (([]:List ByteArray),false))) else(some (([]:List ByteArray),false)))
 partial_fixpoint
set_option maxRecDepth 100000 in
theorem yz (a0:(List bN))(b:(List ByteArray)):(∀ c r,jM a0 b c=some r→SX Tryz.prog (RQ (.bM [.lit (r.1.map fC),aB r.2])) (wx a0 b c)):=by
 refine jM.partial_correctness _ _ _ ?_
 intro jM a c r h
 refine zL 3 fC b ?_
 refine yB EE 0 h (fun NU h=>?_) (fun NU h=>?_)
 · refine yX EE 5 98 9 aq4 h fun q k h=>?_
   refine yX EE 3 22 44 bX h fun s l h=>?_
   refine yB EE 2 h (fun Q8 h=>?_) (fun Q8 h=>?_)
   · cases h
     exact uR EE 6 (v:=.bM [.ax,aB false]) (by kernel_rfl) (Fz.n5 (.ax) (.pure (by simp[aq,bF,cC,aO,-List.map_append,-List.map_drop,-List.map_take,-List.map_set,-List.map_replicate])))
   · refine yI EE 4 h fun I4 h=>?_
     exact yK EE 2 [[6,0,1,7]] [] (a (c+1) r h)
 · refine yX EE 3 22 44 bX h fun e m h=>?_
   refine mK EE 2 (xZ e.Name) h (fun h=>?_) (fun h=>?_)
   · refine yX EE 4 22 44 bX h fun f n h=>?_
     refine mK EE 2 (kc f.cU 0 4) h (fun h=>?_) (fun h=>?_)
     · cases Ea:b.isEmpty with
       | true=>
         have h:=yg Ea h
         refine gO EE 5 (fun S=>rK Tryz.prog S 98 98 (.ax) (.lit (b.map fC))) (fun S=>.val (.ax) S) (by kernel_rfl) (by kernel_rfl) (vY (enc:=fC) (el:=9) (sz:=1) (ys:=b) (by kernel_rfl) (by kernel_rfl) (nQ _ (.inl rfl)) Ea rfl rfl) ?_
         refine yX EE 2 22 44 bX h fun g o h=>?_
         exact yK EE 12 [[6,0,1]] [1] ((sX a0).2 1 [g.Name] r h)
       | false=>
         have h:=yh Ea h
         obtain⟨i,h⟩:=q8 h
         refine gO EE 5 (fun S=>rK Tryz.prog S 98 98 (.ax) (.lit (b.map fC))) (fun S=>.val (.ak 0 0 b.length) (S.add (.arr 1 (b.map fC)))) (by kernel_rfl) (by kernel_rfl) (vO (enc:=fC) (el:=9) (sz:=1) (ys:=b) (.inl rfl) (by kernel_rfl) (by kernel_rfl) (fun _=>rfl) (fun _=>by kernel_rfl) (nQ _ (.inl rfl)) (by kernel_rfl) (by kernel_rfl) (ux Ea) (of_decide_eq_true i)) ?_
         refine yX EE 2 22 44 bX h fun d p h=>?_
         obtain⟨j,h⟩:=q8 h
         refine gO EE 3 (fun S=>rK Tryz.prog S 98 98 (.ak 0 0 b.length) (.ak 1 0 1)) (fun S=>.val (.ak 2 0 (b++[d.Name]).length) ((S.del 0).add (.arr 1 ((b++[d.Name]).map fC)))) (by kernel_rfl) (by kernel_rfl) (zj (enc:=fC) (el:=9) (sz:=1) (xs:=b) (ys:=[d.Name]) (by kernel_rfl) (by kernel_rfl) (fun _=>rfl) (fun _=>by kernel_rfl) (by kernel_rfl) (nQ _ (.inr ⟨1,1,rfl,by kernel_rfl⟩)) (by first | rfl | (simp;done) | omega | (simp;omega)) (by kernel_rfl) (by kernel_rfl) (by kernel_rfl) (by simp) (of_decide_eq_true j)) ?_
         exact Gc EE rq 8 [[6,0,1]] [2] [(1,2)] 3 ((sX a0).2 1 (b++[d.Name]) r h)
     · cases h
       exact uR EE 7 (v:=.bM [.ax,aB false]) (by kernel_rfl) (Fz.n5 (.ax) (.pure (by simp[aq,bF,cC,aO,-List.map_append,-List.map_drop,-List.map_take,-List.map_set,-List.map_replicate])))
   · cases h
     exact uR EE 15 (v:=.bM [.ax,aB false]) (by kernel_rfl) (Fz.n5 (.ax) (.pure (by simp[aq,bF,cC,aO,-List.map_append,-List.map_drop,-List.map_take,-List.map_set,-List.map_replicate])))
def ry (a0:(List bN))(a:(List ByteArray)):Option ((List ByteArray)×Bool):=
 if decide (0<(a0.length:Int)) then(jM a0 a 0) else(some (a,true))
set_option maxRecDepth 100000 in
theorem AI (a0:(List bN))(a:(List ByteArray))(r:((List ByteArray)×Bool))(h:ry a0 a=some r):SX Tryz.prog (RQ (.bM [.lit (r.1.map fC),aB r.2])) (wv a0 a):=by
 unfold ry at h
 refine zL 3 aR a0 ?_
 refine yB EE 0 h (fun Q9 h=>?_) (fun Q9 h=>?_)
 · exact yK EE 4 [[6,0,1,7]] [] ((yz a0 a) 0 r h)
 · cases h
   exact yR EE 6
def qc (a0:(List bN))(a:(List ByteArray)):Option ((List ByteArray)×Bool):=
 ry a0 a
set_option maxRecDepth 100000 in
theorem wA (a0:(List bN))(a:(List ByteArray))(r:((List ByteArray)×Bool))(h:qc a0 a=some r):∀ S,cL Tryz.prog 42 [aM a0,.lit (a.map fC)] S fun b c=>b=.ret (.bM [.lit (r.1.map fC),aB r.2])∧c=S:=by
 unfold qc at h
 refine yF EE ?_
 exact yK EE 6 [[6,0,1]] [] (AI a0 a r h)
def ri (a0:ae):Option (Bool):=
 mg (a0.Cons.length:Int) 2 12>>=fun v0=>if v0 then(if decide ((a0.dI.length:Int)>8) then(some false) else(dY a0.Cons 0>>=fun a=>if(!([(a.Name.data.toList==(⟨#[70,97,108,115,101]⟩:ByteArray).data.toList),(a.cU==0)].all id)) then(some false) else(dY a0.Cons 1>>=fun b=>if(!([(b.Name.data.toList==(⟨#[84,114,117,101]⟩:ByteArray).data.toList),(b.cU==0)].all id)) then(some false) else(qc a0.Cons ([]:List ByteArray)>>=fun v6=>if v6.2 then(qc a0.dI v6.1>>=fun v8=>if v8.2 then(some true) else(some false)) else(some false))))) else(some false)
set_option maxRecDepth 100000 in
theorem Hz (a0:ae)(r:(Bool))(h:ri a0=some r):∀ S,cL Tryz.prog 14 [aG a0] S fun d e=>d=.ret (aB r)∧e=S:=by
 unfold ri at h
 refine yF EE ?_
 refine zL 6 aR a0.Cons ?_
 refine mK EE 0 (kc (a0.Cons.length:Int) 2 12) h (fun h=>?_) (fun h=>?_)
 · refine zL 4 aR a0.dI ?_
   refine yB EE 0 h (fun c1 h=>?_) (fun c1 h=>?_)
   · cases h
     exact yR EE 21
   · refine yX EE 4 22 44 bX h fun a f h=>?_
     refine Ig EE 2 (rO Tryz.prog .neq 44 (.agg [.sc (.string a.Name),aI a.cU]) (.agg [.sc (.string ⟨#[70,97,108,115,101]⟩),aI 0])) (!([(a.Name.data.toList==(⟨#[70,97,108,115,101]⟩:ByteArray).data.toList),(a.cU==0)].all id)) (by kernel_rfl) ((CP (by kernel_rfl)).2) (fun c3=>?_) (fun c3=>?_)
     · have h:=yg c3 h
       cases h
       exact yR EE 13
     · have h:=yh c3 h
       refine yX EE 4 22 44 bX h fun b g h=>?_
       refine Ig EE 2 (rO Tryz.prog .neq 44 (.agg [.sc (.string b.Name),aI b.cU]) (.agg [.sc (.string ⟨#[84,114,117,101]⟩),aI 0])) (!([(b.Name.data.toList==(⟨#[84,114,117,101]⟩:ByteArray).data.toList),(b.cU==0)].all id)) (by kernel_rfl) ((CP (by kernel_rfl)).2) (fun c5=>?_) (fun c5=>?_)
       · have h:=yg c5 h
         cases h
         exact yR EE 5
       · have h:=yh c5 h
         obtain⟨v6,c,h⟩:=bT h
         refine Pf EE 4 42 [aM a0.Cons,.ax] [aM a0.Cons,.lit []] (.bM [.lit (v6.1.map fC),aB v6.2]) (by kernel_rfl) (by kernel_rfl) (wA a0.Cons ([]:List ByteArray) v6 c) ?_
         refine NC EE 2 h (fun c7 h=>?_) (fun c7 h=>?_)
         · refine yC EE 9 (wA a0.dI v6.1) h fun v8 h=>?_
           refine NC EE 2 h (fun c9 h=>?_) (fun c9 h=>?_)
           · cases h
             exact yR EE 6
           · cases h
             exact yR EE 6
         · cases h
           exact yR EE 9
 · cases h
   exact yR EE 27
noncomputable def yA : St:=sN 4 (aF (aB false) none (sN 0 (aF (aI 0) none (sN 3 (aF (aB false) none (sN 0 (aF (aI 0) none (sN 6 (St.start T0 4 [.agg [.lit [],.lit []]] af.empty)))))))))
noncomputable def sY := fun a0 a=>ng yA 1 fun o=>([[(1,aP (o 0)),(3,aI a)]],[((o 0),oG a0)])
noncomputable def yD : St:=sN 3 (aF (aB false) none (sN 0 (aF (aI 0) none (sN 4 (dz sY)))))
noncomputable def yE := fun a0 a=>ng yD 1 fun o=>([[(1,aP (o 0)),(4,aI a)]],[((o 0),oG a0)])
def gu (a0:ae)(a:Int):Option (Bool):=
 if decide (a<(a0.dI.length:Int)) then(dY a0.dI a>>=fun b=>if decide (((b.Name.size:Int):Int)>30) then(some false) else(if dH .i64 (a+1) then(gu a0 (a+1)) else none)) else(some true)
 partial_fixpoint
set_option maxRecDepth 100000 in
theorem vc (a0:ae):(∀ b r,gu a0 b=some r→SX Tryz.prog (RQ (aB r)) (yE a0 b)):=by
 refine gu.partial_correctness _ _ ?_
 intro gu a b r h
 refine zL 4 aR a0.dI ?_
 refine yB EE 0 h (fun YS h=>?_) (fun YS h=>?_)
 · refine yX EE 5 22 44 bX h fun c d h=>?_
   refine yn EE 2 (some (aI (c.Name.size:Nat))) (aI (c.Name.size:Int)) (by kernel_rfl) (rfl) ?_
   refine yB EE 0 h (fun YT h=>?_) (fun YT h=>?_)
   · cases h
     exact yR EE 4
   · refine yI EE 3 h fun ab3 h=>?_
     exact yK EE 2 [[1,4]] [0] (a (b+1) r h)
 · cases h
   exact yR EE 4
def gv (a0:ae)(a:Int):Option (Bool):=
 if decide (a<(a0.Cons.length:Int)) then(dY a0.Cons a>>=fun b=>if decide (((b.Name.size:Int):Int)>30) then(some false) else(if dH .i64 (a+1) then(gv a0 (a+1)) else none)) else(gu a0 0)
 partial_fixpoint
set_option maxRecDepth 100000 in
theorem vd (a0:ae):(∀ b r,gv a0 b=some r→SX Tryz.prog (RQ (aB r)) (sY a0 b)):=by
 refine gv.partial_correctness _ _ ?_
 intro gv a b r h
 refine zL 4 aR a0.Cons ?_
 refine yB EE 0 h (fun Yj h=>?_) (fun Yj h=>?_)
 · refine yX EE 5 22 44 bX h fun c d h=>?_
   refine yn EE 2 (some (aI (c.Name.size:Nat))) (aI (c.Name.size:Int)) (by kernel_rfl) (rfl) ?_
   refine yB EE 0 h (fun QF h=>?_) (fun QF h=>?_)
   · cases h
     exact yR EE 4
   · refine yI EE 3 h fun Yh h=>?_
     exact yK EE 2 [[1,3]] [0] (a (b+1) r h)
 · exact yK EE 3 [[1,4]] [0] ((vc a0) 0 r h)
def jX (a0:ae):Option (Bool):=
 if decide ((a0.Cons.length:Int)>16) then(some false) else(if decide ((a0.dI.length:Int)>12) then(some false) else(gv a0 0))
set_option maxRecDepth 100000 in
theorem yH (a0:ae)(r:(Bool))(h:jX a0=some r):∀ S,cL Tryz.prog 4 [aG a0] S fun a b=>a=.ret (aB r)∧b=S:=by
 unfold jX at h
 refine yF EE ?_
 refine zL 6 aR a0.Cons ?_
 refine yB EE 0 h (fun c0 h=>?_) (fun c0 h=>?_)
 · cases h
   exact yR EE 10
 · refine zL 3 aR a0.dI ?_
   refine yB EE 0 h (fun c1 h=>?_) (fun c1 h=>?_)
   · cases h
     exact yR EE 5
   · exact yK EE 4 [[1,3]] [0] ((vd a0) 0 r h)
def mS (a0 a:Int):Option (Int):=
 if decide (a0<a) then(some (-1)) else(if decide (a0>a) then(some 1) else(some 0))
set_option maxRecDepth 100000 in
theorem oq (a0 a:Int)(r:(Int))(h:mS a0 a=some r):∀ S,cL Tryz.prog 40 [aI a0,aI a] S fun b c=>b=.ret (aI r)∧c=S:=by
 unfold mS at h
 refine yF EE ?_
 refine yB EE 5 h (fun c0 h=>?_) (fun c0 h=>?_)
 · cases h
   exact yR EE 4
 · refine yB EE 3 h (fun c1 h=>?_) (fun c1 h=>?_)
   · cases h
     exact yR EE 4
   · cases h
     exact yR EE 4
noncomputable def FG : St:=sN 8 (St.start T0 11 [.agg [aI 0,aI 0,.lit []]] af.empty)
noncomputable def FH := fun a0 a b=>ng FG 1 fun o=>([[(1,aP (o 0)),(4,aI a),(3,aI b)]],[((o 0),.arr 3 [aK a0])])
mutual
def jV (a0:Term)(a b:Int):Option (Int):=
 if decide (a<(a0.Kids.length:Int)) then(dY a0.Kids a>>=fun c=>jm c>>=fun PI=>if dH .i64 (b+PI) then(if dH .i64 (a+1) then(jV a0 (a+1) (b+PI)) else none) else none) else(some b)
 partial_fixpoint
def jm (a0:Term):Option (Int):=
 jV a0 0 1
 partial_fixpoint
end
set_option maxRecDepth 100000 in
theorem AJ : (∀ a0 b c r,jV a0 b c=some r→SX Tryz.prog (RQ (aI r)) (FH a0 b c))∧(∀ a0 r,jm a0=some r→∀ S,cL Tryz.prog 11 [aK a0] S fun f g=>f=.ret (aI r)∧g=S):=by
 refine jV.mutual_partial_correctness _ _ ?_ ?_
 · intro jV jm a mE a0 b c r h
   refine zL 4 aj a0.Kids ?_
   refine yB EE 0 h (fun PJ h=>?_) (fun PJ h=>?_)
   · refine yX EE 6 27 29 eB h fun d e h=>?_
     refine yC EE 1 (mE d) h fun PI h=>?_
     refine yI EE 0 h fun YU h=>?_
     refine yI EE 4 h fun Yk h=>?_
     exact yK EE 2 [[1,4,3]] [0] (a a0 (b+1) (c+PI) r h)
   · cases h
     exact yR EE 5
 · intro jV a a0 r h
   refine yF EE ?_
   exact yK EE 8 [[1,4,3]] [0] (a a0 0 1 r h)
theorem mE (a0:Term)(r:(Int))(h:jm a0=some r):∀ S,cL Tryz.prog 11 [aK a0] S fun a b=>a=.ret (aI r)∧b=S:=(AJ ).2 a0 r h
noncomputable def AK : St:=sN 3 (aF (aB false) none (sN 3 (aF (aI 0) none (sN 5 (aF (aB false) none (sN 3 (aF (aI 0) none (sN 5 (aF (aB false) none (sN 4 (aF (aI 0) none (sN 0 (aF (aI 0) none (sN 1 (aF (aI 0) none (sN 7 (St.start T0 12 [.agg [aI 0,aI 0,.lit []],.agg [aI 0,aI 0,.lit []]] af.empty)))))))))))))))))
noncomputable def AL := fun a0 b a=>ng AK 2 fun o=>([[(3,aP (o 1)),(2,aP (o 0)),(8,aI a)]],[((o 1),.arr 3 [aK b]),((o 0),.arr 3 [aK a0])])
mutual
def fZ (a0 b:Term)(a:Int):Option (Int):=
 if decide (a<(a0.Kids.length:Int)) then(if decide (a<(b.Kids.length:Int)) then(dY a0.Kids a>>=fun d=>dY b.Kids a>>=fun e=>jN d e>>=fun c=>if(!decide (c=0)) then(some c) else(if dH .i64 (a+1) then(fZ a0 b (a+1)) else none)) else(mS (a0.Kids.length:Int) (b.Kids.length:Int)>>=fun v30=>some v30)) else(mS (a0.Kids.length:Int) (b.Kids.length:Int)>>=fun f=>some f)
 partial_fixpoint
def jN (a0 a:Term):Option (Int):=
 jm a0>>=fun v0=>jm a>>=fun v1=>mS v0 v1>>=fun b=>if(!decide (b=0)) then(some b) else(mS a0.Op a.Op>>=fun v4=>if(!decide (v4=0)) then(some v4) else(mS a0.N a.N>>=fun v6=>if(!decide (v6=0)) then(some v6) else(fZ a0 a 0)))
 partial_fixpoint
end
set_option maxRecDepth 100000 in
theorem wI : (∀ a0 b c r,fZ a0 b c=some r→SX Tryz.prog (RQ (aI r)) (AL a0 b c))∧(∀ a0 b r,jN a0 b=some r→∀ S,cL Tryz.prog 12 [aK a0,aK b] S fun i j=>i=.ret (aI r)∧j=S):=by
 refine fZ.mutual_partial_correctness _ _ ?_ ?_
 · intro fZ jN a qC a0 b c r h
   refine zL 4 aj a0.Kids ?_
   refine yB EE 0 h (fun Yl h=>?_) (fun Yl h=>?_)
   · refine zL 4 aj b.Kids ?_
     refine yB EE 0 h (fun QG h=>?_) (fun QG h=>?_)
     · refine yX EE 7 27 29 eB h fun d f h=>?_
       refine yX EE 4 27 29 eB h fun e g h=>?_
       refine yC EE 1 (qC d e) h fun k h=>?_
       refine yB EE 4 h (fun YV h=>?_) (fun YV h=>?_)
       · cases h
         exact yR EE 5
       · refine yI EE 3 h fun Yj h=>?_
         exact yK EE 2 [[3,2,8]] [1,0] (a a0 b (c+1) r h)
     · refine zL 4 aj a0.Kids ?_
       refine zL 2 aj b.Kids ?_
       refine yC EE 0 (oq (a0.Kids.length:Int) (b.Kids.length:Int)) h fun v30 h=>?_
       cases h
       exact yR EE 3
   · refine zL 10 aj a0.Kids ?_
     refine zL 2 aj b.Kids ?_
     refine yC EE 0 (oq (a0.Kids.length:Int) (b.Kids.length:Int)) h fun l h=>?_
     cases h
     exact yR EE 3
 · intro fZ a a0 b r h
   refine yF EE ?_
   refine yC EE 7 (mE a0) h fun v0 h=>?_
   refine yC EE 1 (mE b) h fun v1 h=>?_
   refine yC EE 0 (oq v0 v1) h fun m h=>?_
   refine yB EE 4 h (fun c3 h=>?_) (fun c3 h=>?_)
   · cases h
     exact yR EE 5
   · refine yC EE 5 (oq a0.Op b.Op) h fun v4 h=>?_
     refine yB EE 3 h (fun c5 h=>?_) (fun c5 h=>?_)
     · cases h
       exact yR EE 5
     · refine yC EE 5 (oq a0.N b.N) h fun v6 h=>?_
       refine yB EE 3 h (fun c7 h=>?_) (fun c7 h=>?_)
       · cases h
         exact yR EE 5
       · exact yK EE 3 [[3,2,8]] [1,0] (a a0 b 0 r h)
theorem qC (a0 a:Term)(r:(Int))(h:jN a0 a=some r):∀ S,cL Tryz.prog 12 [aK a0,aK a] S fun b c=>b=.ret (aI r)∧c=S:=(wI ).2 a0 a r h
noncomputable def FI : St:=sN 4 (aF (aB false) none (sN 0 (aF (aI 0) none (sN 2 (aF (aI 0) none (sN 4 (aF (aB false) none (sN 5 (aF (aB false) none (sN 9 (St.start T0 13 [.agg [aI 0,aI 0,.lit []],.agg [aI 0,aI 0,.lit []]] af.empty)))))))))))
noncomputable def FJ := fun a0 a b=>ng FI 2 fun o=>([[(3,aP (o 1)),(2,aP (o 0)),(5,aI b)]],[((o 1),.arr 3 [aK a]),((o 0),.arr 3 [aK a0])])
mutual
def jW (a0 e:Term)(a:Int):Option (Bool):=
 if decide (a<(a0.Kids.length:Int)) then(dY a0.Kids a>>=fun b=>dY e.Kids a>>=fun c=>kK b c>>=fun d=>if d then(if dH .i64 (a+1) then(jW a0 e (a+1)) else none) else(some false)) else(some true)
 partial_fixpoint
def kK (a0 a:Term):Option (Bool):=
 if(!decide ((a0.Op:Int)=a.Op)) then(some false) else(if(!decide ((a0.N:Int)=a.N)) then(some false) else(if(!decide ((a0.Kids.length:Int)=(a.Kids.length:Int))) then(some false) else(jW a0 a 0)))
 partial_fixpoint
end
set_option maxRecDepth 100000 in
theorem AM : (∀ a0 b c r,jW a0 b c=some r→SX Tryz.prog (RQ (aB r)) (FJ a0 b c))∧(∀ a0 b r,kK a0 b=some r→∀ S,cL Tryz.prog 13 [aK a0,aK b] S fun i j=>i=.ret (aB r)∧j=S):=by
 refine jW.mutual_partial_correctness _ _ ?_ ?_
 · intro jW kK a rz a0 b c r h
   refine zL 4 aj a0.Kids ?_
   refine yB EE 0 h (fun QH h=>?_) (fun QH h=>?_)
   · refine yX EE 6 27 29 eB h fun d f h=>?_
     refine yX EE 4 27 29 eB h fun e g h=>?_
     refine mK EE 1 (rz d e) h (fun h=>?_) (fun h=>?_)
     · refine yI EE 5 h fun YW h=>?_
       exact yK EE 2 [[3,2,5]] [1,0] (a a0 b (c+1) r h)
     · cases h
       exact yR EE 6
   · cases h
     exact yR EE 4
 · intro jW a a0 b r h
   refine yF EE ?_
   refine yB EE 9 h (fun c0 h=>?_) (fun c0 h=>?_)
   · cases h
     exact yR EE 20
   · refine yB EE 5 h (fun c1 h=>?_) (fun c1 h=>?_)
     · cases h
       exact yR EE 14
     · refine zL 4 aj a0.Kids ?_
       refine zL 2 aj b.Kids ?_
       refine yB EE 0 h (fun c2 h=>?_) (fun c2 h=>?_)
       · cases h
         exact yR EE 5
       · exact yK EE 4 [[3,2,5]] [1,0] (a a0 b 0 r h)
theorem rz (a0 a:Term)(r:(Bool))(h:kK a0 a=some r):∀ S,cL Tryz.prog 13 [aK a0,aK a] S fun b c=>b=.ret (aB r)∧c=S:=(AM ).2 a0 a r h
noncomputable def DE : St:=sN 4 (aF (aI 0) none (sN 3 (aF (aB false) none (sN 2 (aF (aB false) none (sN 5 (St.start T0 15 [.agg [aI 0,aI 0,.lit []],aI 0,aI 0] af.empty)))))))
noncomputable def DF := fun a0 a2 a b=>ng DE 1 fun o=>([[(2,aI a2),(3,aP (o 0)),(7,aI a),(1,aI b)]],[((o 0),.arr 3 [aK a0])])
mutual
def iN (a0:Term)(a2 a b:Int):Option (Int):=
 if decide (a<(a0.Kids.length:Int)) then(if decide (b≥0) then(dY a0.Kids a>>=fun c=>if dH .i64 (a2-1) then(kd c b (a2-1)>>=fun d=>if dH .i64 (a+1) then(iN a0 a2 (a+1) d) else none) else none) else(some b)) else(some b)
 partial_fixpoint
def kd (a0:Term)(a a2:Int):Option (Int):=
 if decide (a<1) then(some (-1)) else(if decide (a2<1) then(some (-1)) else(if dH .i64 (a-1) then(iN a0 a2 0 (a-1)) else none))
 partial_fixpoint
end
set_option maxRecDepth 100000 in
theorem yJ : (∀ a0 a2 b c r,iN a0 a2 b c=some r→SX Tryz.prog (RQ (aI r)) (DF a0 a2 b c))∧(∀ a0 d a2 r,kd a0 d a2=some r→∀ S,cL Tryz.prog 15 [aK a0,aI d,aI a2] S fun i j=>i=.ret (aI r)∧j=S):=by
 refine iN.mutual_partial_correctness _ _ ?_ ?_
 · intro iN kd a pO a0 a2 b c r h
   refine zL 4 aj a0.Kids ?_
   refine yB EE 0 h (fun YU h=>?_) (fun YU h=>?_)
   · refine yB EE 2 h (fun YW h=>?_) (fun YW h=>?_)
     · refine yX EE 6 27 29 eB h fun e g h=>?_
       refine yI EE 3 h fun Ym h=>?_
       refine yC EE 0 (pO e c (a2-1)) h fun f h=>?_
       refine yI EE 4 h fun Yn h=>?_
       exact yK EE 2 [[2,3,7,1]] [0] (a a0 a2 (b+1) f r h)
     · cases h
       exact yR EE 6
   · cases h
     exact yR EE 9
 · intro iN a a0 d a2 r h
   refine yF EE ?_
   refine yB EE 5 h (fun c0 h=>?_) (fun c0 h=>?_)
   · cases h
     exact yR EE 8
   · refine yB EE 2 h (fun c1 h=>?_) (fun c1 h=>?_)
     · cases h
       exact yR EE 5
     · refine yI EE 3 h fun Yl h=>?_
       exact yK EE 4 [[2,3,7,1]] [0] (a a0 a2 0 (d-1) r h)
theorem pO (a0:Term)(a a2:Int)(r:(Int))(h:kd a0 a a2=some r):∀ S,cL Tryz.prog 15 [aK a0,aI a,aI a2] S fun b c=>b=.ret (aI r)∧c=S:=(yJ ).2 a0 a a2 r h
def qd (a0:Term):Option (Bool):=
 kd a0 50 14>>=fun v0=>if decide (v0≥0) then(some true) else(some false)
set_option maxRecDepth 100000 in
theorem wB (a0:Term)(r:(Bool))(h:qd a0=some r):∀ S,cL Tryz.prog 5 [aK a0] S fun a b=>a=.ret (aB r)∧b=S:=by
 unfold qd at h
 refine yF EE ?_
 refine yC EE 5 (pO a0 50 14) h fun v0 h=>?_
 refine yB EE 0 h (fun c1 h=>?_) (fun c1 h=>?_)
 · cases h
   exact yR EE 3
 · cases h
   exact yR EE 3
def om (a0:ae)(a:Term):Option (Bool):=
 if decide ((a.Op:Int)=1) then(if decide ((a.Kids.length:Int)=0) then(mg a.N 0 19>>=fun e=>if e then(some true) else(some false)) else(some false)) else(if decide ((a.Op:Int)=2) then(if decide ((a.Kids.length:Int)=0) then(mg a.N (-1000000) 1000000>>=fun v5=>if v5 then(some true) else(some false)) else(some false)) else(if decide ((a.Op:Int)=3) then(if dH .i64 ((a0.Cons.length:Int)-1) then(mg a.N 0 ((a0.Cons.length:Int)-1)>>=fun v7=>if v7 then(dY a0.Cons a.N>>=fun f=>if decide ((a.Kids.length:Int)=f.cU) then(some true) else(some false)) else(some false)) else none) else(if decide ((a.Op:Int)=4) then(if dH .i64 ((a0.dI.length:Int)-1) then(mg a.N 0 ((a0.dI.length:Int)-1)>>=fun v12=>if v12 then(dY a0.dI a.N>>=fun b=>if decide ((a.Kids.length:Int)=b.cU) then(some true) else(some false)) else(some false)) else none) else(if decide ((a.Op:Int)=5) then(if dH .i64 ((a0.dI.length:Int)-1) then(mg a.N 0 ((a0.dI.length:Int)-1)>>=fun c=>if c then(dY a0.dI a.N>>=fun d=>if decide ((a.Kids.length:Int)<d.cU) then(some true) else(some false)) else(some false)) else none) else(if decide ((a.Op:Int)=8) then(if decide ((a.Kids.length:Int)=2) then(mg a.N 0 19>>=fun v23=>if v23 then(some true) else(some false)) else(some false)) else(if decide ((a.Op:Int)=6) then(if decide ((a.Kids.length:Int)=2) then(if decide ((a.N:Int)=0) then(some true) else(some false)) else(some false)) else(if decide ((a.Op:Int)=7) then(if decide ((a.Kids.length:Int)=2) then(if decide ((a.N:Int)=0) then(some true) else(some false)) else(some false)) else(if decide ((a.Op:Int)=9) then(if decide ((a.Kids.length:Int)=2) then(if decide ((a.N:Int)=0) then(some true) else(some false)) else(some false)) else(if decide ((a.Op:Int)=10) then(if decide ((a.Kids.length:Int)=2) then(if decide ((a.N:Int)=0) then(some true) else(some false)) else(some false)) else(if decide ((a.Op:Int)=11) then(if decide ((a.Kids.length:Int)=2) then(if decide ((a.N:Int)=0) then(some true) else(some false)) else(some false)) else(if decide ((a.Op:Int)=12) then(if decide ((a.Kids.length:Int)=2) then(if decide ((a.N:Int)=0) then(some true) else(some false)) else(some false)) else(if decide ((a.Op:Int)=13) then(if decide ((a.Kids.length:Int)=2) then(if decide ((a.N:Int)=0) then(some true) else(some false)) else(some false)) else(if decide ((a.Op:Int)=14) then(if decide ((a.Kids.length:Int)=2) then(if decide ((a.N:Int)=0) then(some true) else(some false)) else(some false)) else(if decide ((a.Op:Int)=15) then(if decide ((a.Kids.length:Int)=2) then(if decide ((a.N:Int)=0) then(some true) else(some false)) else(some false)) else(some false)))))))))))))))
set_option maxRecDepth 100000 in
theorem FK (a0:ae)(a:Term)(r:(Bool))(h:om a0 a=some r):∀ S,cL Tryz.prog 84 [aG a0,aK a] S fun d e=>d=.ret (aB r)∧e=S:=by
 unfold om at h
 refine yF EE ?_
 refine zL 7 aj a.Kids ?_
 refine yB EE 5 h (fun c0 h=>?_) (fun c0 h=>?_)
 · refine yB EE 3 h (fun c1 h=>?_) (fun c1 h=>?_)
   · refine mK EE 3 (kc a.N 0 19) h (fun h=>?_) (fun h=>?_)
     · cases h
       exact yR EE 4
     · cases h
       exact yR EE 4
   · cases h
     exact yR EE 8
 · refine yB EE 2 h (fun c3 h=>?_) (fun c3 h=>?_)
   · refine yB EE 3 h (fun c4 h=>?_) (fun c4 h=>?_)
     · refine mK EE 3 (kc a.N (-1000000) 1000000) h (fun h=>?_) (fun h=>?_)
       · cases h
         exact yR EE 4
       · cases h
         exact yR EE 4
     · cases h
       exact yR EE 8
   · refine yB EE 2 h (fun c6 h=>?_) (fun c6 h=>?_)
     · refine zL 6 aR a0.Cons ?_
       refine yI EE 0 h fun ab4 h=>?_
       refine mK EE 0 (kc a.N 0 ((a0.Cons.length:Int)-1)) h (fun h=>?_) (fun h=>?_)
       · refine yX EE 6 22 44 bX h fun j f h=>?_
         refine yB EE 2 h (fun c9 h=>?_) (fun c9 h=>?_)
         · cases h
           exact yR EE 4
         · cases h
           exact yR EE 4
       · cases h
         exact yR EE 14
     · refine yB EE 2 h (fun YX h=>?_) (fun YX h=>?_)
       · refine zL 6 aR a0.dI ?_
         refine yI EE 0 h fun aqs h=>?_
         refine mK EE 0 (kc a.N 0 ((a0.dI.length:Int)-1)) h (fun h=>?_) (fun h=>?_)
         · refine yX EE 6 22 44 bX h fun g b h=>?_
           refine yB EE 2 h (fun QH h=>?_) (fun QH h=>?_)
           · cases h
             exact yR EE 4
           · cases h
             exact yR EE 4
         · cases h
           exact yR EE 14
       · refine yB EE 2 h (fun Yk h=>?_) (fun Yk h=>?_)
         · refine zL 6 aR a0.dI ?_
           refine yI EE 0 h fun QI h=>?_
           refine mK EE 0 (kc a.N 0 ((a0.dI.length:Int)-1)) h (fun h=>?_) (fun h=>?_)
           · refine yX EE 6 22 44 bX h fun i c h=>?_
             refine yB EE 2 h (fun ab5 h=>?_) (fun ab5 h=>?_)
             · cases h
               exact yR EE 4
             · cases h
               exact yR EE 4
           · cases h
             exact yR EE 14
         · refine yB EE 2 h (fun Yn h=>?_) (fun Yn h=>?_)
           · refine yB EE 3 h (fun Ym h=>?_) (fun Ym h=>?_)
             · refine mK EE 3 (kc a.N 0 19) h (fun h=>?_) (fun h=>?_)
               · cases h
                 exact yR EE 4
               · cases h
                 exact yR EE 4
             · cases h
               exact yR EE 8
           · refine yB EE 2 h (fun QG h=>?_) (fun QG h=>?_)
             · refine yB EE 3 h (fun YY h=>?_) (fun YY h=>?_)
               · refine yB EE 3 h (fun YZ h=>?_) (fun YZ h=>?_)
                 · cases h
                   exact yR EE 4
                 · cases h
                   exact yR EE 4
               · cases h
                 exact yR EE 8
             · refine yB EE 2 h (fun QD h=>?_) (fun QD h=>?_)
               · refine yB EE 3 h (fun YV h=>?_) (fun YV h=>?_)
                 · refine yB EE 3 h (fun Yj h=>?_) (fun Yj h=>?_)
                   · cases h
                     exact yR EE 4
                   · cases h
                     exact yR EE 4
                 · cases h
                   exact yR EE 8
               · refine yB EE 2 h (fun QE h=>?_) (fun QE h=>?_)
                 · refine yB EE 3 h (fun QF h=>?_) (fun QF h=>?_)
                   · refine yB EE 3 h (fun Yh h=>?_) (fun Yh h=>?_)
                     · cases h
                       exact yR EE 4
                     · cases h
                       exact yR EE 4
                   · cases h
                     exact yR EE 8
                 · refine yB EE 2 h (fun YN h=>?_) (fun YN h=>?_)
                   · refine yB EE 3 h (fun Y0 h=>?_) (fun Y0 h=>?_)
                     · refine yB EE 3 h (fun acW h=>?_) (fun acW h=>?_)
                       · cases h
                         exact yR EE 4
                       · cases h
                         exact yR EE 4
                     · cases h
                       exact yR EE 8
                   · refine yB EE 2 h (fun acX h=>?_) (fun acX h=>?_)
                     · refine yB EE 3 h (fun ab6 h=>?_) (fun ab6 h=>?_)
                       · refine yB EE 3 h (fun acY h=>?_) (fun acY h=>?_)
                         · cases h
                           exact yR EE 4
                         · cases h
                           exact yR EE 4
                       · cases h
                         exact yR EE 8
                     · refine yB EE 2 h (fun YS h=>?_) (fun YS h=>?_)
                       · refine yB EE 3 h (fun acZ h=>?_) (fun acZ h=>?_)
                         · refine yB EE 3 h (fun YT h=>?_) (fun YT h=>?_)
                           · cases h
                             exact yR EE 4
                           · cases h
                             exact yR EE 4
                         · cases h
                           exact yR EE 8
                       · refine yB EE 2 h (fun ab3 h=>?_) (fun ab3 h=>?_)
                         · refine yB EE 3 h (fun ac0 h=>?_) (fun ac0 h=>?_)
                           · refine yB EE 3 h (fun ac1 h=>?_) (fun ac1 h=>?_)
                             · cases h
                               exact yR EE 4
                             · cases h
                               exact yR EE 4
                           · cases h
                             exact yR EE 8
                         · refine yB EE 2 h (fun ac2 h=>?_) (fun ac2 h=>?_)
                           · refine yB EE 3 h (fun ac3 h=>?_) (fun ac3 h=>?_)
                             · refine yB EE 3 h (fun YP h=>?_) (fun YP h=>?_)
                               · cases h
                                 exact yR EE 4
                               · cases h
                                 exact yR EE 4
                             · cases h
                               exact yR EE 8
                           · refine yB EE 2 h (fun ac4 h=>?_) (fun ac4 h=>?_)
                             · refine yB EE 3 h (fun Y1 h=>?_) (fun Y1 h=>?_)
                               · refine yB EE 3 h (fun YQ h=>?_) (fun YQ h=>?_)
                                 · cases h
                                   exact yR EE 4
                                 · cases h
                                   exact yR EE 4
                               · cases h
                                 exact yR EE 8
                             · cases h
                               exact yR EE 5
noncomputable def DG : St:=sN 4 (aF (aB true) none (sN 7 (St.start T0 39 [.agg [.lit [],.lit []],.agg [aI 0,aI 0,.lit []]] af.empty)))
noncomputable def DH := fun a0 a b=>ng DG 2 fun o=>([[(3,aP (o 1)),(2,aP (o 0)),(5,aI b)]],[((o 1),.arr 3 [aK a]),((o 0),oG a0)])
mutual
def iO (a0:ae)(b:Term)(a:Int):Option (Bool):=
 if decide (a<(b.Kids.length:Int)) then(dY b.Kids a>>=fun c=>fN a0 c>>=fun v12=>if v12 then(if dH .i64 (a+1) then(iO a0 b (a+1)) else none) else(some false)) else(some true)
 partial_fixpoint
def fN (a0:ae)(a:Term):Option (Bool):=
 om a0 a>>=fun v0=>if v0 then(iO a0 a 0) else(some false)
 partial_fixpoint
end
set_option maxRecDepth 100000 in
theorem yL (a0:ae):(∀ b c r,iO a0 b c=some r→SX Tryz.prog (RQ (aB r)) (DH a0 b c))∧(∀ b r,fN a0 b=some r→∀ S,cL Tryz.prog 39 [aG a0,aK b] S fun f g=>f=.ret (aB r)∧g=S):=by
 refine iO.mutual_partial_correctness _ _ _ ?_ ?_
 · intro iO fN a sJ b c r h
   refine zL 4 aj b.Kids ?_
   refine yB EE 0 h (fun ab4 h=>?_) (fun ab4 h=>?_)
   · refine yX EE 7 27 29 eB h fun d e h=>?_
     refine mK EE 1 (sJ d) h (fun h=>?_) (fun h=>?_)
     · refine yI EE 5 h fun PJ h=>?_
       exact yK EE 2 [[3,2,5]] [1,0] (a b (c+1) r h)
     · cases h
       exact yR EE 6
   · cases h
     exact yR EE 4
 · intro iO a b r h
   refine yF EE ?_
   refine mK EE 7 (FK a0 b) h (fun h=>?_) (fun h=>?_)
   · exact yK EE 4 [[3,2,5]] [1,0] (a b 0 r h)
   · cases h
     exact yR EE 5
theorem sJ (a0:ae)(a:Term)(r:(Bool))(h:fN a0 a=some r):∀ S,cL Tryz.prog 39 [aG a0,aK a] S fun b c=>b=.ret (aB r)∧c=S:=(yL a0).2 a r h
def kL (a0:ae)(a:Term):Option (Bool):=
 kd a 40 12>>=fun v0=>if decide (v0≥0) then(fN a0 a>>=fun b=>if b then(some true) else(some false)) else(some false)
set_option maxRecDepth 100000 in
theorem x5 (a0:ae)(a:Term)(r:(Bool))(h:kL a0 a=some r):∀ S,cL Tryz.prog 9 [aG a0,aK a] S fun b c=>b=.ret (aB r)∧c=S:=by
 unfold kL at h
 refine yF EE ?_
 refine yC EE 6 (pO a 40 12) h fun v0 h=>?_
 refine yB EE 0 h (fun c1 h=>?_) (fun c1 h=>?_)
 · refine mK EE 3 (sJ a0 a) h (fun h=>?_) (fun h=>?_)
   · cases h
     exact yR EE 4
   · cases h
     exact yR EE 4
 · cases h
   exact yR EE 8
noncomputable def wJ : St:=sN 5 (St.start T0 8 [.lit []] af.empty)
noncomputable def wK := fun a0 a=>ng wJ 0 fun o=>([[(0,aT a0),(3,aI a)]],[])
def eQ (a0:LT)(a:Int):Option (Bool):=
 if decide (a<(a0.length:Int)) then(dY a0 a>>=fun b=>qd b>>=fun v11=>if v11 then(if dH .i64 (a+1) then(eQ a0 (a+1)) else none) else(some false)) else(if decide ((a0.length:Int)≤110) then(some true) else(some false))
 partial_fixpoint
set_option maxRecDepth 100000 in
theorem tI (a0:LT):(∀ b r,eQ a0 b=some r→SX Tryz.prog (RQ (aB r)) (wK a0 b)):=by
 refine eQ.partial_correctness _ _ ?_
 intro eQ a b r h
 refine zL 3 aj a0 ?_
 refine yB EE 0 h (fun c9 h=>?_) (fun c9 h=>?_)
 · refine yX EE 4 27 29 eB h fun c d h=>?_
   refine mK EE 1 (wB c) h (fun h=>?_) (fun h=>?_)
   · refine yI EE 4 h fun Yo h=>?_
     exact yK EE 2 [[0,3]] [] (a (b+1) r h)
   · cases h
     exact yR EE 5
 · refine zL 2 aj a0 ?_
   refine yB EE 0 h (fun PJ h=>?_) (fun PJ h=>?_)
   · cases h
     exact yR EE 3
   · cases h
     exact yR EE 3
def kO (a0:LT):Option (Bool):=
 eQ a0 0
set_option maxRecDepth 100000 in
theorem wL (a0:LT)(r:(Bool))(h:kO a0=some r):∀ S,cL Tryz.prog 8 [aT a0] S fun a b=>a=.ret (aB r)∧b=S:=by
 unfold kO at h
 refine yF EE ?_
 exact yK EE 5 [[0,3]] [] ((tI a0) 0 r h)
noncomputable def FL : St:=sN 8 (aF (aB true) none (sN 9 (St.start T0 10 [.agg [aI 0,aI 0,.lit []],.lit [],.lit []] af.empty)))
noncomputable def x6 := fun a0 c a2 a b=>ng FL 1 fun o=>([[(3,aP (o 0)),(7,aN a2),(2,aN a2),(1,aN c),(9,aI a),(8,aB b)]],[((o 0),.arr 3 [aK a0])])
noncomputable def FM : St:=sN 3 (aF (aB false) none (sN 0 (aF (aI 0) none (sN 3 (dz x6)))))
noncomputable def FN := fun a0 c a2 a b=>ng FM 1 fun o=>([[(2,aN a2),(1,aN c),(3,aP (o 0)),(10,aI a),(8,aB b)]],[((o 0),.arr 3 [aK a0])])
noncomputable def FO : St:=sN 5 (aF (aB false) none (sN 3 (aF (aB false) none (sN 9 (St.start T0 10 [.agg [aI 0,aI 0,.lit []],.lit [],.lit []] af.empty)))))
noncomputable def FP := fun a0 c a2 fL a b=>ng FO 1 fun o=>([[(3,aP (o 0)),(7,aN fL),(2,aN a2),(1,aN c),(9,aI a),(8,aB b)]],[((o 0),.arr 3 [aK a0])])
mutual
def fP (a0:Term)(c a2:LI)(a:Int)(b:Bool):Option (Bool):=
 if decide (a<(a0.Kids.length:Int)) then(if b then(dY a0.Kids a>>=fun d=>jn d c a2>>=fun e=>if e then(if dH .i64 (a+1) then(fP a0 c a2 (a+1) true) else none) else(if dH .i64 (a+1) then(fP a0 c a2 (a+1) false) else none)) else(if dH .i64 (a+1) then(fP a0 c a2 (a+1) false) else none)) else(if b then(some true) else(some false))
 partial_fixpoint
def jn (a0:Term)(a a2:LI):Option (Bool):=
 if decide ((a0.Op:Int)=2) then(jb a0 a a2 0 false) else(if(!decide ((a0.Op:Int)=3)) then(some false) else(jc a0 a a2 a 0 false))
 partial_fixpoint
def jc (a0:Term)(d a2 fL:LI)(a:Int)(b:Bool):Option (Bool):=
 if decide (a<(fL.length:Int)) then(if b then(if dH .i64 (a+1) then(jc a0 d a2 fL (a+1) true) else none) else(dY fL a>>=fun c=>if decide (c=a0.N) then(if dH .i64 (a+1) then(jc a0 d a2 fL (a+1) true) else none) else(if dH .i64 (a+1) then(jc a0 d a2 fL (a+1) false) else none))) else(fP a0 d a2 0 b)
 partial_fixpoint
def jb (a0:Term)(c a2:LI)(a:Int)(b:Bool):Option (Bool):=
 if decide (a<(a2.length:Int)) then(if b then(if dH .i64 (a+1) then(jb a0 c a2 (a+1) true) else none) else(dY a2 a>>=fun d=>if decide (d=a0.N) then(if dH .i64 (a+1) then(jb a0 c a2 (a+1) true) else none) else(if dH .i64 (a+1) then(jb a0 c a2 (a+1) false) else none))) else(fP a0 c a2 0 b)
 partial_fixpoint
end
set_option maxRecDepth 100000 in
theorem AN (i a2:LI):(∀ a0 f k r,fP a0 i a2 f k=some r→SX Tryz.prog (RQ (aB r)) (FN a0 i a2 f k))∧(∀ a0 r,jn a0 i a2=some r→∀ S,cL Tryz.prog 10 [aK a0,aN i,aN a2] S fun q s=>q=.ret (aB r)∧s=S)∧(∀ a0 fL d e r,jc a0 i a2 fL d e=some r→SX Tryz.prog (RQ (aB r)) (FP a0 i a2 fL d e))∧(∀ a0 g j r,jb a0 i a2 g j=some r→SX Tryz.prog (RQ (aB r)) (x6 a0 i a2 g j)):=by
 refine fP.mutual_partial_correctness _ _ _ _ _ _ ?_ ?_ ?_ ?_
 · intro fP jn a rA a0 f k r h
   refine zL 4 aj a0.Kids ?_
   refine yB EE 0 h (fun Y2 h=>?_) (fun Y2 h=>?_)
   · refine NC EE 2 h (fun PK h=>?_) (fun PK h=>?_)
     · refine yX EE 4 27 29 eB h fun l n h=>?_
       refine mK EE 3 (rA l) h (fun h=>?_) (fun h=>?_)
       · refine yI EE 5 h fun jE h=>?_
         exact yK EE 2 [[2,1,3,10,8]] [0] (a a0 (f+1) true r h)
       · refine yI EE 5 h fun Y3 h=>?_
         exact yK EE 2 [[2,1,3,10,8]] [0] (a a0 (f+1) false r h)
     · refine yI EE 14 h fun NG h=>?_
       exact yK EE 2 [[2,1,3,10,8]] [0] (a a0 (f+1) false r h)
   · refine NC EE 1 h (fun Y4 h=>?_) (fun Y4 h=>?_)
     · cases h
       exact yR EE 3
     · cases h
       exact yR EE 3
 · intro jc jb b c a0 r h
   refine yF EE ?_
   refine yB EE 9 h (fun c0 h=>?_) (fun c0 h=>?_)
   · exact yK EE 8 [[3,7,2,1,9,8]] [0] (c a0 0 false r h)
   · refine yB EE 3 h (fun Ra h=>?_) (fun Ra h=>?_)
     · cases h
       exact yR EE 4
     · exact yK EE 5 [[3,7,2,1,9,8]] [0] (b a0 i 0 false r h)
 · intro fP jc a b a0 fL d e r h
   refine zL 3 (dO .i64) fL ?_
   refine yB EE 0 h (fun I4 h=>?_) (fun I4 h=>?_)
   · refine NC EE 3 h (fun Rb h=>?_) (fun Rb h=>?_)
     · refine yI EE 14 h fun ZF h=>?_
       exact yK EE 2 [[3,7,2,1,9,8]] [0] (b a0 fL (d+1) true r h)
     · refine yX EE 3 25 3 (HX .i64) h fun o m h=>?_
       refine yB EE 3 h (fun Rc h=>?_) (fun Rc h=>?_)
       · refine yI EE 6 h fun Ea h=>?_
         exact yK EE 2 [[3,7,2,1,9,8]] [0] (b a0 fL (d+1) true r h)
       · refine yI EE 6 h fun ZG h=>?_
         exact yK EE 2 [[3,7,2,1,9,8]] [0] (b a0 fL (d+1) false r h)
   · exact yK EE 3 [[2,1,3,10,8]] [0] (a a0 0 e r h)
 · intro fP jb a c a0 g j r h
   refine zL 3 (dO .i64) a2 ?_
   refine yB EE 0 h (fun Yi h=>?_) (fun Yi h=>?_)
   · refine NC EE 3 h (fun ac5 h=>?_) (fun ac5 h=>?_)
     · refine yI EE 14 h fun aqt h=>?_
       exact yK EE 2 [[3,7,2,1,9,8]] [0] (c a0 (g+1) true r h)
     · refine yX EE 3 25 3 (HX .i64) h fun t p h=>?_
       refine yB EE 3 h (fun Y5 h=>?_) (fun Y5 h=>?_)
       · refine yI EE 6 h fun aqu h=>?_
         exact yK EE 2 [[3,7,2,1,9,8]] [0] (c a0 (g+1) true r h)
       · refine yI EE 6 h fun Ge h=>?_
         exact yK EE 2 [[3,7,2,1,9,8]] [0] (c a0 (g+1) false r h)
   · exact yK EE 3 [[2,1,3,10,8]] [0] (a a0 0 j r h)
theorem rA (a0:Term)(a a2:LI)(r:(Bool))(h:jn a0 a a2=some r):∀ S,cL Tryz.prog 10 [aK a0,aN a,aN a2] S fun b c=>b=.ret (aB r)∧c=S:=(AN a a2).2.1 a0 r h
def du (a0 a a2:Int):Option (Bool):=
 if decide (a≤a0) then(if decide (a0≤a2) then(some true) else(some false)) else(some false)
set_option maxRecDepth 100000 in
theorem eD (a0 a a2:Int)(r:(Bool))(h:du a0 a a2=some r):∀ S,cL Tryz.prog 75 [aI a0,aI a,aI a2] S fun b c=>b=.ret (aB r)∧c=S:=by
 unfold du at h
 refine yF EE ?_
 refine yB EE 5 h (fun c0 h=>?_) (fun c0 h=>?_)
 · refine yB EE 3 h (fun c1 h=>?_) (fun c1 h=>?_)
   · cases h
     exact yR EE 4
   · cases h
     exact yR EE 4
 · cases h
   exact yR EE 8
noncomputable def yM : St:=sN 1 (jG (fun S=>.val (aP 0) (S.add (.si ⟨#[]⟩ 0))) (sN 4 (St.start T0 74 [.sc (.string ⟨#[]⟩)] af.empty)))
noncomputable def yN := fun a0 a=>ng yM 1 fun o=>([[(0,.sc (.string a0)),(6,aP (o 0))]],[((o 0),.si a0 a)])
def dP (a0:ByteArray)(a:Nat):Option (Bool):=
 if decide (a+1≤a0.size) then(if decide (97≤(((Utf8.decode a0 a).1:Nat):Int)) then(if decide (((((Utf8.decode a0 a).1:Nat):Int):Int)≤122) then(dP a0 (a+(Utf8.decode a0 a).2)) else(if decide (65≤(((Utf8.decode a0 a).1:Nat):Int)) then(if decide (((((Utf8.decode a0 a).1:Nat):Int):Int)≤90) then(dP a0 (a+(Utf8.decode a0 a).2)) else(some false)) else(some false))) else(if decide (65≤(((Utf8.decode a0 a).1:Nat):Int)) then(if decide (((((Utf8.decode a0 a).1:Nat):Int):Int)≤90) then(dP a0 (a+(Utf8.decode a0 a).2)) else(some false)) else(some false))) else(du (a0.size:Int) 1 8>>=fun b=>if b then(some true) else(some false))
 partial_fixpoint
set_option maxRecDepth 100000 in
theorem ve (a0:ByteArray):(∀ b r,dP a0 b=some r→SX Tryz.prog (RQ (aB r)) (yN a0 b)):=by
 refine dP.partial_correctness _ _ ?_
 intro dP a b r h
 cases QI:decide (b+1≤a0.size) with
 | true=>
   have h:=yg QI h
   refine gO EE 1 (fun S=>Ye S (aP 0)) (fun S=>.val (.bM [aB true,aI ((b:Nat):Int),.sc (.int .i32 (((Utf8.decode a0 b).1:Nat):Int))]) (S.set 0 (.si a0 (b+(Utf8.decode a0 b).2)))) (by kernel_rfl) (by kernel_rfl) (XK (by kernel_rfl) (by kernel_rfl) QI) ?_
   refine yB EE 8 h (fun Yn h=>?_) (fun Yn h=>?_)
   · refine yB EE 2 h (fun Ym h=>?_) (fun Ym h=>?_)
     · exact yK EE 11 [[0,6]] [0] (a (b+(Utf8.decode a0 b).2) r h)
     · refine yB EE 3 h (fun Yl h=>?_) (fun Yl h=>?_)
       · refine yB EE 2 h (fun QG h=>?_) (fun QG h=>?_)
         · exact yK EE 4 [[0,6]] [0] (a (b+(Utf8.decode a0 b).2) r h)
         · cases h
           exact yR EE 7
       · cases h
         exact yR EE 10
   · refine yB EE 6 h (fun YY h=>?_) (fun YY h=>?_)
     · refine yB EE 2 h (fun YZ h=>?_) (fun YZ h=>?_)
       · exact yK EE 4 [[0,6]] [0] (a (b+(Utf8.decode a0 b).2) r h)
       · cases h
         exact yR EE 7
     · cases h
       exact yR EE 10
 | false=>
   have h:=yh QI h
   refine gO EE 1 (fun S=>Ye S (aP 0)) (fun S=>.val (.bM [aB false]) S) (by kernel_rfl) (by kernel_rfl) (XL (by kernel_rfl) QI) ?_
   refine yn EE 4 (some (aI (a0.size:Nat))) (aI (a0.size:Int)) (by kernel_rfl) (rfl) ?_
   refine mK EE 0 (eD (a0.size:Int) 1 8) h (fun h=>?_) (fun h=>?_)
   · cases h
     exact yR EE 3
   · cases h
     exact yR EE 3
def mW (a0:ByteArray):Option (Bool):=
 dP a0 0
set_option maxRecDepth 100000 in
theorem yP (a0:ByteArray)(r:(Bool))(h:mW a0=some r):∀ S,cL Tryz.prog 74 [.sc (.string a0)] S fun a b=>a=.ret (aB r)∧b=S:=by
 unfold mW at h
 refine yF EE ?_
 refine gO EE 4 (fun S=>acP Tryz.prog S 9 (.sc (.string a0))) (fun S=>.val (aP 0) (S.add (.si a0 0))) (by kernel_rfl) (by kernel_rfl) (XJ (by kernel_rfl) (by kernel_rfl) (by kernel_rfl)) ?_
 exact yK EE 1 [[0,6]] [0] ((ve a0) 0 r h)
noncomputable def yQ : St:=sN 2 (aF (aI 0) none (sN 4 (St.start T0 31 [.lit []] af.empty)))
noncomputable def yS := fun a0 a=>ng yQ 0 fun o=>([[(0,aN a0),(5,aI (a0.length:Int)),(6,aI a)]],[])
def fk (a0:LI)(a:Int):Option (Bool):=
 if decide (a<(a0.length:Int)) then(if decide (a>0) then(dY a0 a>>=fun b=>if dH .i64 (a-1) then(dY a0 (a-1)>>=fun c=>if decide (b≤c) then(some false) else(if dH .i64 (a+1) then(fk a0 (a+1)) else none)) else none) else(if dH .i64 (a+1) then(fk a0 (a+1)) else none)) else(some true)
 partial_fixpoint
set_option maxRecDepth 100000 in
theorem vf (a0:LI):(∀ b r,fk a0 b=some r→SX Tryz.prog (RQ (aB r)) (yS a0 b)):=by
 refine fk.partial_correctness _ _ ?_
 intro fk a b r h
 refine yB EE 1 h (fun Yo h=>?_) (fun Yo h=>?_)
 · refine yB EE 8 h (fun PJ h=>?_) (fun PJ h=>?_)
   · refine yX EE 3 25 3 (HX .i64) h fun e c h=>?_
     refine yI EE 3 h fun YW h=>?_
     refine yX EE 0 25 3 (HX .i64) h fun f d h=>?_
     refine yB EE 1 h (fun Yk h=>?_) (fun Yk h=>?_)
     · cases h
       exact yR EE 6
     · refine yI EE 4 h fun YU h=>?_
       exact yK EE 2 [[0,5,6]] [] (a (b+1) r h)
   · refine yI EE 15 h fun ab5 h=>?_
     exact yK EE 2 [[0,5,6]] [] (a (b+1) r h)
 · cases h
   exact yR EE 5
def kX (a0:LI):Option (Bool):=
 fk a0 0
set_option maxRecDepth 100000 in
theorem sZ (a0:LI)(r:(Bool))(h:kX a0=some r):∀ S,cL Tryz.prog 31 [aN a0] S fun a b=>a=.ret (aB r)∧b=S:=by
 unfold kX at h
 refine yF EE ?_
 refine zL 4 (dO .i64) a0 ?_
 exact yK EE 2 [[0,5,6]] [] ((vf a0) 0 r h)
set_option maxRecDepth 100000 in
theorem vP (a0:LT):∀ S,cL Tryz.prog 120 [aT a0] S fun a b=>a=.ret (.clip (aT a0))∧b=S:=by
 refine yF EE ?_
 refine zL 5 aj a0 ?_
 refine zL 1 aj a0 ?_
 refine gO EE 0 (fun S=>acO Tryz.prog S 27 (aT a0) (aI (a0.length:Int)) (aI (a0.length:Int))) (fun S=>.val (.clip (aT a0)) S) (by kernel_rfl) (by kernel_rfl) (Pq (enc:=aj) (el:=29) (n:=3) (xs:=a0) (by kernel_rfl) (by kernel_rfl) (fun x=>by rw[jd];rfl) (by first | rfl | omega) (by first | rfl | omega)) ?_
 exact yR EE 3
@[simp] noncomputable def bZ := fun a (o:NM)=>(([aT a,.fn (.func 51) [] []],[]):TC)
@[simp] noncomputable def cd := fun(r:LT) (o:NM)=>((aT r,[],[]):TB)
noncomputable def iV : St:=sN 2 (aF (aI 0) none (sN 6 (St.start T0 50 ((bZ dd id).1) (oL 0 (lY 0 ((bZ dd id).2))))))
noncomputable def eo := fun a=>ng iV 0 fun o=>([[(1,.fn (.func 51) [] []),(8,aT a),(9,aI (a.length:Int)),(10,aI 0),(5,.ax)]],[])
noncomputable def iW : St:=sN 6 (jG (fun S=>.val (.ak 2 0 0) (S.add (.arr 3 []))) (sN 1 (aF (.agg [aI 0,aI 0,.lit []]) none (sN 7 (aF (.fa [aI 0,aI 0,.lit []]) none (sN 3 (aF (aB true) none (sN 1 (eo dd)))))))))
noncomputable def iX := fun a b D1=>ng iW 3 fun o=>([[(1,.fn (.func 51) [] []),(8,aT a),(9,aI (a.length:Int)),(10,aI b),(5,.ak (o 2) 0 D1.length)]],[((o 2),oT D1)])
mutual
def au (b:LT)(a:Int)(D1:LT):Option LT:=
 if decide (a<(b.length:Int)) then(dY b a>>=fun c=>bh c>>=fun v72=>if decide (D1.length+[v72].length≤1048576) then(if dH .i64 (a+1) then(au b (a+1) (D1++[v72])) else none) else none) else(some D1)
 partial_fixpoint
def bh (a0:Term):Option (Term):=
 bA a0.Kids>>=fun a=>some (Term.mk a0.Op a0.N a)
 partial_fixpoint
def bA (a:LT):Option LT:=
 bm a
 partial_fixpoint
def bm (a:LT):Option LT:=
 if decide (0<(a.length:Int)) then(dY a 0>>=fun c=>bh c>>=fun b=>if decide ([b].length≤1048576) then(au a 1 [b]) else none) else(some ([]:LT))
 partial_fixpoint
end
set_option maxRecDepth 100000 in
theorem dR : (∀ c d D1 r,au c d D1=some r→SX Tryz.prog (gV 0 (cd r)) (iX c d D1))∧(∀ a0 r,bh a0=some r→∀ S,cL Tryz.prog 51 [aK a0] S fun m n=>m=.ret (aK r)∧n=S)∧(∀ c r,bA c=some r→gj Tryz.prog 50 0 (bZ c) (cd r))∧(∀ c r,bm c=some r→SX Tryz.prog (gV 0 (cd r)) (eo c)):=by
 refine au.mutual_partial_correctness _ _ _ _ ?_ ?_ ?_ ?_
 · intro au bh a iF c d D1 r h
   refine yB EE 1 h (fun Y6 h=>?_) (fun Y6 h=>?_)
   · refine yX EE 3 27 29 eB h fun g k h=>?_
     refine yC EE 7 (iF g) h fun v72 h=>?_
     refine YK 1 2 4 5 D1 v72 h fun h=>?_
     refine yI EE 3 h fun aqv h=>?_
     exact Gc EE qk 2 [[1,8,9,10,5]] [5] [(2,5)] 6 (a c (d+1) (D1++[v72]) r h)
   · cases h
     exact iH EE 6 (.ak 2 0 D1.length) [] (gJ.zD (sz:=3) (es:=(D1.map aj)) (by decide) (by kernel_rfl) (by first | rfl | (simp;done) | omega | (simp;omega)) (by simp[aq,bF,cC,aO,-List.map_append,-List.map_drop,-List.map_take,-List.map_set,-List.map_replicate])) bg ah
 · intro bA ep a0 r h
   refine yF EE ?_
   obtain⟨i,f,h⟩:=bT h
   refine Kw EE 6 (ep a0.Kids i f _ 2 [] iw) ?_
   cases h
   exact yR EE 7
 · intro bm b c r h
   refine kj EE 0 ?_
   refine zL 6 aj c ?_
   exact vq EE qk 2 [[1,8,9,10,5]] [] (b c r h)
 · intro au bh a iF c r h
   refine yB EE 1 h (fun Yi h=>?_) (fun Yi h=>?_)
   · refine yX EE 3 27 29 eB h fun j l h=>?_
     refine yC EE 7 (iF j) h fun e h=>?_
     refine Yg 1 1 2 e h fun h=>?_
     exact vq EE qk 6 [[1,8,9,10,5]] [2] (a c 1 [e] r h)
   · cases h
     exact iH EE 6 (.ax) [] .ax bg ah
theorem iF (a0:Term)(r:(Term))(h:bh a0=some r):∀ S,cL Tryz.prog 51 [aK a0] S fun a b=>a=.ret (aK r)∧b=S:=(dR ).2.1 a0 r h
theorem ep (a r:LT)(h:bA a=some r):gj Tryz.prog 50 0 (bZ a) (cd r):=(dR ).2.2.1 a r h
def qe (a0:Int):Option (Bool):=
 if(!decide (a0=a0)) then(some true) else(some false)
set_option maxRecDepth 100000 in
theorem sK (a0:Int)(r:(Bool))(h:qe a0=some r):∀ S,cL Tryz.prog 190 [aI a0] S fun a b=>a=.ret (aB r)∧b=S:=by
 unfold qe at h
 refine yF EE ?_
 refine yB EE 5 h (fun c0 h=>?_) (fun c0 h=>?_)
 · cases h
   exact yR EE 3
 · cases h
   exact yR EE 3
def ot (a0 a:Int):Option (Int):=
 qe a0>>=fun v0=>if v0 then(qe a>>=fun v1=>if v1 then(some 0) else(some (-1))) else(qe a>>=fun b=>if b then(some 1) else(if decide (a0<a) then(some (-1)) else(if decide (a0>a) then(some 1) else(some 0))))
set_option maxRecDepth 100000 in
theorem AO (a0 a:Int)(r:(Int))(h:ot a0 a=some r):∀ S,cL Tryz.prog 134 [aI a0,aI a] S fun b c=>b=.ret (aI r)∧c=S:=by
 unfold ot at h
 refine yF EE ?_
 refine mK EE 4 (sK a0) h (fun h=>?_) (fun h=>?_)
 · refine mK EE 3 (sK a) h (fun h=>?_) (fun h=>?_)
   · cases h
     exact yR EE 9
   · cases h
     exact yR EE 9
 · refine mK EE 3 (sK a) h (fun h=>?_) (fun h=>?_)
   · cases h
     exact yR EE 9
   · refine yB EE 8 h (fun c3 h=>?_) (fun c3 h=>?_)
     · cases h
       exact yR EE 4
     · refine yB EE 3 h (fun c4 h=>?_) (fun c4 h=>?_)
       · cases h
         exact yR EE 4
       · cases h
         exact yR EE 4
def uz (a0:bo)(a:Term):Option (Bool):=
 du a.N 0 19>>=fun v0=>if v0 then(if decide ((a.Kids.length:Int)=0) then(some true) else(some false)) else(some false)
set_option maxRecDepth 100000 in
theorem Kl (a0:bo)(a:Term)(r:(Bool))(h:uz a0 a=some r):∀ S,cL Tryz.prog 290 [.agg [aM a0.ae.Cons,aM a0.ae.dI],aK a] S fun b c=>b=.ret (aB r)∧c=S:=by
 unfold uz at h
 refine yF EE ?_
 refine mK EE 7 (eD a.N 0 19) h (fun h=>?_) (fun h=>?_)
 · refine zL 3 aj a.Kids ?_
   refine yB EE 0 h (fun c1 h=>?_) (fun c1 h=>?_)
   · cases h
     exact yR EE 4
   · cases h
     exact yR EE 4
 · cases h
   exact yR EE 9
def mX (a0:bo)(a:Term):Option (Bool):=
 du a.N (-1000000) 1000000>>=fun v0=>if v0 then(if decide ((a.Kids.length:Int)=0) then(some true) else(some false)) else(some false)
set_option maxRecDepth 100000 in
theorem yT (a0:bo)(a:Term)(r:(Bool))(h:mX a0 a=some r):∀ S,cL Tryz.prog 291 [.agg [aM a0.ae.Cons,aM a0.ae.dI],aK a] S fun b c=>b=.ret (aB r)∧c=S:=by
 unfold mX at h
 refine yF EE ?_
 refine mK EE 7 (eD a.N (-1000000) 1000000) h (fun h=>?_) (fun h=>?_)
 · refine zL 3 aj a.Kids ?_
   refine yB EE 0 h (fun c1 h=>?_) (fun c1 h=>?_)
   · cases h
     exact yR EE 4
   · cases h
     exact yR EE 4
 · cases h
   exact yR EE 9
def tA (a0:bo)(a:Term):Option (Bool):=
 if dH .i64 ((a0.ae.Cons.length:Int)-1) then(du a.N 0 ((a0.ae.Cons.length:Int)-1)>>=fun v0=>if v0 then(dY a0.ae.Cons a.N>>=fun b=>if decide ((a.Kids.length:Int)=b.cU) then(some true) else(some false)) else(some false)) else none
set_option maxRecDepth 100000 in
theorem FQ (a0:bo)(a:Term)(r:(Bool))(h:tA a0 a=some r):∀ S,cL Tryz.prog 292 [.agg [aM a0.ae.Cons,aM a0.ae.dI],aK a] S fun b c=>b=.ret (aB r)∧c=S:=by
 unfold tA at h
 refine yF EE ?_
 refine zL 11 aR a0.ae.Cons ?_
 refine yI EE 0 h fun c3 h=>?_
 refine mK EE 0 (eD a.N 0 ((a0.ae.Cons.length:Int)-1)) h (fun h=>?_) (fun h=>?_)
 · refine zL 3 aj a.Kids ?_
   refine yX EE 5 22 44 bX h fun e d h=>?_
   refine yB EE 2 h (fun c2 h=>?_) (fun c2 h=>?_)
   · cases h
     exact yR EE 5
   · cases h
     exact yR EE 5
 · cases h
   exact yR EE 18
def EP (a0:bo)(a:Term):Option (Bool):=
 if dH .i64 ((a0.ae.dI.length:Int)-1) then(du a.N 0 ((a0.ae.dI.length:Int)-1)>>=fun v0=>if v0 then(dY a0.ae.dI a.N>>=fun b=>if decide ((a.Kids.length:Int)=b.cU) then(some true) else(some false)) else(some false)) else none
set_option maxRecDepth 100000 in
theorem Qu (a0:bo)(a:Term)(r:(Bool))(h:EP a0 a=some r):∀ S,cL Tryz.prog 293 [.agg [aM a0.ae.Cons,aM a0.ae.dI],aK a] S fun b c=>b=.ret (aB r)∧c=S:=by
 unfold EP at h
 refine yF EE ?_
 refine zL 11 aR a0.ae.dI ?_
 refine yI EE 0 h fun c3 h=>?_
 refine mK EE 0 (eD a.N 0 ((a0.ae.dI.length:Int)-1)) h (fun h=>?_) (fun h=>?_)
 · refine zL 3 aj a.Kids ?_
   refine yX EE 5 22 44 bX h fun e d h=>?_
   refine yB EE 2 h (fun c2 h=>?_) (fun c2 h=>?_)
   · cases h
     exact yR EE 5
   · cases h
     exact yR EE 5
 · cases h
   exact yR EE 18
def Co (a0:bo)(a:Term):Option (Bool):=
 if dH .i64 ((a0.ae.dI.length:Int)-1) then(du a.N 0 ((a0.ae.dI.length:Int)-1)>>=fun v0=>if v0 then(dY a0.ae.dI a.N>>=fun b=>if decide ((a.Kids.length:Int)<b.cU) then(some true) else(some false)) else(some false)) else none
set_option maxRecDepth 100000 in
theorem PD (a0:bo)(a:Term)(r:(Bool))(h:Co a0 a=some r):∀ S,cL Tryz.prog 294 [.agg [aM a0.ae.Cons,aM a0.ae.dI],aK a] S fun b c=>b=.ret (aB r)∧c=S:=by
 unfold Co at h
 refine yF EE ?_
 refine zL 11 aR a0.ae.dI ?_
 refine yI EE 0 h fun c3 h=>?_
 refine mK EE 0 (eD a.N 0 ((a0.ae.dI.length:Int)-1)) h (fun h=>?_) (fun h=>?_)
 · refine zL 3 aj a.Kids ?_
   refine yX EE 5 22 44 bX h fun e d h=>?_
   refine yB EE 2 h (fun c2 h=>?_) (fun c2 h=>?_)
   · cases h
     exact yR EE 5
   · cases h
     exact yR EE 5
 · cases h
   exact yR EE 18
def ER (a0:bo)(a:Term):Option (Bool):=
 du a.N 0 19>>=fun v0=>if v0 then(if decide ((a.Kids.length:Int)=2) then(some true) else(some false)) else(some false)
set_option maxRecDepth 100000 in
theorem Qv (a0:bo)(a:Term)(r:(Bool))(h:ER a0 a=some r):∀ S,cL Tryz.prog 295 [.agg [aM a0.ae.Cons,aM a0.ae.dI],aK a] S fun b c=>b=.ret (aB r)∧c=S:=by
 unfold ER at h
 refine yF EE ?_
 refine mK EE 7 (eD a.N 0 19) h (fun h=>?_) (fun h=>?_)
 · refine zL 3 aj a.Kids ?_
   refine yB EE 0 h (fun c1 h=>?_) (fun c1 h=>?_)
   · cases h
     exact yR EE 4
   · cases h
     exact yR EE 4
 · cases h
   exact yR EE 9
def Cp (a0:bo)(a:Term):Option (Bool):=
 if decide ((a.N:Int)=0) then(if decide ((a.Kids.length:Int)=2) then(some true) else(some false)) else(some false)
set_option maxRecDepth 100000 in
theorem PF (a0:bo)(a:Term)(r:(Bool))(h:Cp a0 a=some r):∀ S,cL Tryz.prog 296 [.agg [aM a0.ae.Cons,aM a0.ae.dI],aK a] S fun b c=>b=.ret (aB r)∧c=S:=by
 unfold Cp at h
 refine yF EE ?_
 refine yB EE 7 h (fun c0 h=>?_) (fun c0 h=>?_)
 · refine zL 3 aj a.Kids ?_
   refine yB EE 0 h (fun c1 h=>?_) (fun c1 h=>?_)
   · cases h
     exact yR EE 4
   · cases h
     exact yR EE 4
 · cases h
   exact yR EE 9
@[simp] noncomputable def qS := fun a (o:NM)=>(([aK a],[]):TC)
@[simp] noncomputable def qT := fun a (r:Unit) (o:NM)=>((.fn (.func 248) [] [aP (o 0)],[],[.arr 3 [aK a]]):TB)
@[simp] noncomputable def jO := fun a b c (o:NM)=>(([aK a,aI b,aP (o 0),aP (o 1)],[oY (o 2),.arr 1 [.fn (.func 249) [] [aP (o 0),aP (o 1)]],jT Tryz.prog .ready 191 0 11 239 [(3,aP (o 3))],oI c]):TC)
@[simp] noncomputable def jP := fun(r:Int) (o:NM)=>((aB true,sm [oY (o 2),.arr 1 [.fn (.func 249) [] [aP (o 0),aP (o 1)]],jT Tryz.prog .ready 191 0 11 239 [(3,aP (o 3))],oI r],[]):TB)
@[simp] noncomputable def dy := fun a a17 mG (o:NM)=>(([aT a,.fn (.func 250) [] [aP (o 0),aP (o 1)]],[.arr 1 [.fn (.func 249) [] [aP (o 2),aP (o 0)]],oI a17,oY (o 3),jT Tryz.prog .ready 191 0 11 239 [(3,aP (o 4))],oI mG]):TC)
@[simp] noncomputable def eK := fun a17 (r:Int) (o:NM)=>((aB true,sm [.arr 1 [.fn (.func 249) [] [aP (o 2),aP (o 0)]],oI a17,oY (o 3),jT Tryz.prog .ready 191 0 11 239 [(3,aP (o 4))],oI r],[]):TB)
@[simp] noncomputable def jf := fun a22 a a24 (o:NM)=>(([aK a22,aP (o 0),aP (o 1)],[.arr 1 [.fn (.func 249) [] [aP (o 2),aP (o 0)]],oI a,oY (o 3),jT Tryz.prog .ready 191 0 11 239 [(3,aP (o 4))],oI a24]):TC)
@[simp] noncomputable def jg := fun a (r:Int) (o:NM)=>((aB true,sm [.arr 1 [.fn (.func 249) [] [aP (o 2),aP (o 0)]],oI a,oY (o 3),jT Tryz.prog .ready 191 0 11 239 [(3,aP (o 4))],oI r],[]):TB)
noncomputable def lN : St:=sN 2 (aF (aI 0) none (sN 4 (St.start T0 132 ((dz dy id).1) (oL 5 (lY 0 ((dz dy id).2))))))
noncomputable def lO := fun a a17 (mG:Int) b c=>ng lN 5 fun o=>([[(1,.fn (.func 250) [] [aP (o 0),aP (o 1)]),(7,aT a),(8,aI (a.length:Int)),(9,aI b)]],[((o 0),.arr 1 [.fn (.func 249) [] [aP (o 2),aP (o 0)]]),((o 1),oI a17),((o 2),oY (o 3)),((o 3),jT Tryz.prog .ready 191 0 11 239 [(3,aP (o 4))]),((o 4),oI c)])
def gz (a:Term):Option Unit:=
 some ()
set_option maxRecDepth 100000 in
theorem qG (a:Term)(r:Unit)(h:gz a=some r):gj Tryz.prog 189 0 (qS a) (qT a r):=by
 unfold gz at h
 refine kj EE 0 ?_
 cases h
 exact iH EE 8 (.fn (.func 248) [] [aP 0]) [0] (gJ.Qw dn.nil (dn.cons (gJ.n4 (j:=0) rfl) dn.nil)) bg (ua (.arr 3 [aK a]) ah)
mutual
def ba (b:Term)(c a:Int):Option Int:=
 if dH .i64 (a+1) then(cW b.Kids c (a+1)>>=fun Y7=>some Y7) else none
 partial_fixpoint
def cW (a:LT)(a17 mG:Int):Option Int:=
 aW a a17 mG 0 mG
 partial_fixpoint
def aW (b:LT)(a17 mG a c:Int):Option Int:=
 if decide (a<(b.length:Int)) then(dY b a>>=fun d=>dw d a17 c>>=fun v82=>if dH .i64 (a+1) then(aW b a17 mG (a+1) v82) else none) else(some c)
 partial_fixpoint
def dw (a22:Term)(a a24:Int):Option Int:=
 if dH .i64 (a+1) then(ba a22 (a+1) a24>>=fun v85=>some v85) else none
 partial_fixpoint
end
set_option maxRecDepth 100000 in
theorem fF : (∀ d e f r,ba d e f=some r→gj Tryz.prog 249 4 (jO d e f) (jP r))∧(∀ b a17 mG r,cW b a17 mG=some r→gj Tryz.prog 132 5 (dy b a17 mG) (eK a17 r))∧(∀ b a17 mG g i r,aW b a17 mG g i=some r→SX Tryz.prog (gV 5 (eK a17 r)) (lO b a17 mG g i))∧(∀ a22 c a24 r,dw a22 c a24=some r→gj Tryz.prog 250 5 (jf a22 c a24) (jg c r)):=by
 refine ba.mutual_partial_correctness _ _ _ _ ?_ ?_ ?_ ?_
 · intro cW gR d e f r h
   refine kj EE 4 ?_
   refine yI EE 13 h fun Ge h=>?_
   obtain⟨Y7,j,h⟩:=bT h
   refine yG EE 7 (v:=aB true) (gR d.Kids e (f+1) Y7 j _ 6 [1,5,0,2,3] iw) ?_
   cases h
   exact iH EE 4 (aB true) [0,1,2,3] (.pure pv) uT ah
 · intro aW a b a17 mG r h
   refine kj EE 5 ?_
   refine zL 4 aj b ?_
   exact vq EE qk 2 [[1,7,8,9]] [0,1,2,3,4] (a b a17 mG 0 mG r h)
 · intro aW dw a iS b a17 mG g i r h
   refine yB EE 1 h (fun uB h=>?_) (fun uB h=>?_)
   · refine yX EE 3 27 29 eB h fun m n h=>?_
     obtain⟨v82,k,h⟩:=bT h
     refine yG EE 6 (v:=aB true) (iS m a17 i v82 k _ 6 [0,1,2,3,4] iw) ?_
     refine yI EE 3 h fun ac6 h=>?_
     exact Gc EE qk 2 [[1,7,8,9]] [0,1,2,3,4] [] 6 (a b a17 mG (g+1) v82 r h)
   · cases h
     exact iH EE 5 (aB true) [0,1,2,3,4] (.pure pv) uT ah
 · intro ba fQ a22 c a24 r h
   refine kj EE 5 ?_
   refine yI EE 7 h fun ac7 h=>?_
   obtain⟨v85,l,h⟩:=bT h
   refine yG EE 0 (v:=aB true) (fQ a22 (c+1) a24 v85 l _ 6 [2,0,3,4] iw) ?_
   cases h
   exact iH EE 3 (aB true) [0,1,2,3,4] (.pure pv) uT ah
theorem fQ (a:Term)(b c r:Int)(h:ba a b c=some r):gj Tryz.prog 249 4 (jO a b c) (jP r):=(fF ).1 a b c r h
theorem gR (a:LT)(a17 mG r:Int)(h:cW a a17 mG=some r):gj Tryz.prog 132 5 (dy a a17 mG) (eK a17 r):=(fF ).2.1 a a17 mG r h
theorem iS (a22:Term)(a a24 r:Int)(h:dw a22 a a24=some r):gj Tryz.prog 250 5 (jf a22 a a24) (jg a r):=(fF ).2.2.2 a22 a a24 r h
def rZ (a0:Term):Option (Int):=
 gz a0>>=fun ab7=>ba a0 1 0>>=fun a=>some a
set_option maxRecDepth 100000 in
theorem DK (a0:Term)(r:(Int))(h:rZ a0=some r):∀ S,cL Tryz.prog 191 [aK a0] S fun d e=>d=.ret (aI r)∧e=S:=by
 unfold rZ at h
 refine yF EE ?_
 obtain⟨ab7,a,h⟩:=bT h
 refine Kw EE 8 (qG a0 ab7 a _ 2 [] iw) ?_
 refine C9 EE 2 4 [3] (by kernel_rfl) ?_
 obtain⟨c,b,h⟩:=bT h
 refine yG EE 10 (v:=aB true) (fQ a0 1 0 c b _ 7 [5,6,4,1] iw) ?_
 cases h
 exact yR EE 9
@[simp] noncomputable def pj := fun a (o:NM)=>(([aK a],[]):TC)
@[simp] noncomputable def pk := fun a (r:Unit) (o:NM)=>((.fn (.func 248) [] [aP (o 0)],[],[.arr 3 [aK a]]):TB)
@[simp] noncomputable def iT := fun a b c (o:NM)=>(([aK a,aI b,aP (o 0),aP (o 1)],[oY (o 2),.arr 1 [.fn (.func 249) [] [aP (o 0),aP (o 1)]],jT Tryz.prog .ready 133 0 16 33007 [(2,aP (o 3))],.arr 1 [aB c]]):TC)
@[simp] noncomputable def iU := fun a (r:(Sum Unit Unit)) (o:NM)=>(match r with | (Sum.inl y)=>(aB false,sm [oY (o 2),.arr 1 [.fn (.func 249) [] [aP (o 0),aP (o 1)]],lV (some .ret) (jT Tryz.prog .done 133 0 16 33007 [(2,aP (o 3))]),.arr 1 [aB false]],[]) | (Sum.inr y)=>(aB true,sm [oY (o 2),.arr 1 [.fn (.func 249) [] [aP (o 0),aP (o 1)]],jT Tryz.prog .ready 133 0 16 33007 [(2,aP (o 3))],.arr 1 [aB a]],[]):TB)
@[simp] noncomputable def da := fun mG tN a20 (o:NM)=>(([aT mG,.fn (.func 250) [] [aP (o 0),aP (o 1)]],[.arr 1 [.fn (.func 249) [] [aP (o 2),aP (o 0)]],oI tN,oY (o 3),jT Tryz.prog .ready 133 0 16 33007 [(2,aP (o 4))],.arr 1 [aB a20]]):TC)
@[simp] noncomputable def dU := fun tN a20 (r:(Sum Unit Unit)) (o:NM)=>(match r with | (Sum.inl y)=>(aB true,sm [.arr 1 [.fn (.func 249) [] [aP (o 2),aP (o 0)]],oI tN,oY (o 3),jT Tryz.prog .ready 133 0 16 33007 [(2,aP (o 4))],.arr 1 [aB a20]],[]) | (Sum.inr y)=>(aB false,sm [.arr 1 [.fn (.func 249) [] [aP (o 2),aP (o 0)]],oI tN,oY (o 3),lV (some .ret) (jT Tryz.prog .done 133 0 16 33007 [(2,aP (o 4))]),.arr 1 [aB false]],[]):TB)
@[simp] noncomputable def iq := fun a24 a25 a (o:NM)=>(([aK a24,aP (o 0),aP (o 1)],[.arr 1 [.fn (.func 249) [] [aP (o 2),aP (o 0)]],oI a25,oY (o 3),jT Tryz.prog .ready 133 0 16 33007 [(2,aP (o 4))],.arr 1 [aB a]]):TC)
@[simp] noncomputable def ir := fun a25 a (r:(Sum Unit Unit)) (o:NM)=>(match r with | (Sum.inl y)=>(aB false,sm [.arr 1 [.fn (.func 249) [] [aP (o 2),aP (o 0)]],oI a25,oY (o 3),lV (some .ret) (jT Tryz.prog .done 133 0 16 33007 [(2,aP (o 4))]),.arr 1 [aB false]],[]) | (Sum.inr y)=>(aB true,sm [.arr 1 [.fn (.func 249) [] [aP (o 2),aP (o 0)]],oI a25,oY (o 3),jT Tryz.prog .ready 133 0 16 33007 [(2,aP (o 4))],.arr 1 [aB a]],[]):TB)
noncomputable def kQ : St:=sN 2 (aF (aI 0) none (sN 4 (St.start T0 132 ((dz da id).1) (oL 5 (lY 0 ((dz da id).2))))))
noncomputable def kR := fun mG tN a20 a=>ng kQ 5 fun o=>([[(1,.fn (.func 250) [] [aP (o 0),aP (o 1)]),(7,aT mG),(8,aI (mG.length:Int)),(9,aI a)]],[((o 0),.arr 1 [.fn (.func 249) [] [aP (o 2),aP (o 0)]]),((o 1),oI tN),((o 2),oY (o 3)),((o 3),jT Tryz.prog .ready 133 0 16 33007 [(2,aP (o 4))]),((o 4),.arr 1 [aB a20])])
def fp (a:Term):Option Unit:=
 some ()
set_option maxRecDepth 100000 in
theorem oB (a:Term)(r:Unit)(h:fp a=some r):gj Tryz.prog 189 0 (pj a) (pk a r):=by
 unfold fp at h
 refine kj EE 0 ?_
 cases h
 exact iH EE 8 (.fn (.func 248) [] [aP 0]) [0] (gJ.Qw dn.nil (dn.cons (gJ.n4 (j:=0) rfl) dn.nil)) bg (ua (.arr 3 [aK a]) ah)
mutual
def aQ (a:Term)(b:Int)(c:Bool):Option (Sum Unit Unit):=
 if decide ((a.Op:Int)>3) then(if(!decide ((a.Op:Int)=5)) then(some (Sum.inl ())) else(bl a.Kids b c>>=fun d=>(match d with | (Sum.inl g)=>some (Sum.inr ()) | (Sum.inr h)=>some (Sum.inl ())))) else(bl a.Kids b c>>=fun KR=>(match KR with | (Sum.inl e)=>some (Sum.inr ()) | (Sum.inr f)=>some (Sum.inl ())))
 partial_fixpoint
def bl (mG:LT)(tN:Int)(a:Bool):Option (Sum Unit Unit):=
 aD mG tN a 0
 partial_fixpoint
def aD (mG:LT)(tN:Int)(b:Bool)(a:Int):Option (Sum Unit Unit):=
 if decide (a<(mG.length:Int)) then(dY mG a>>=fun c=>cX c tN b>>=fun d=>(match d with | (Sum.inl e)=>some (Sum.inr ()) | (Sum.inr f)=>if dH .i64 (a+1) then(aD mG tN b (a+1)) else none)) else(some (Sum.inl ()))
 partial_fixpoint
def cX (a24:Term)(a25:Int)(b:Bool):Option (Sum Unit Unit):=
 if dH .i64 (a25+1) then(aQ a24 (a25+1) b>>=fun a=>(match a with | (Sum.inl c)=>some (Sum.inl ()) | (Sum.inr d)=>some (Sum.inr ()))) else none
 partial_fixpoint
end
set_option maxRecDepth 100000 in
theorem eL (b:Bool):(∀ c d r,aQ c d b=some r→gj Tryz.prog 249 4 (iT c d b) (iU b r))∧(∀ mG tN r,bl mG tN b=some r→gj Tryz.prog 132 5 (da mG tN b) (dU tN b r))∧(∀ mG tN e r,aD mG tN b e=some r→SX Tryz.prog (gV 5 (dU tN b r)) (kR mG tN b e))∧(∀ a24 a25 r,cX a24 a25 b=some r→gj Tryz.prog 250 5 (iq a24 a25 b) (ir a25 b r)):=by
 refine aQ.mutual_partial_correctness _ _ _ _ _ ?_ ?_ ?_ ?_
 · intro bl cn c d r h
   refine kj EE 4 ?_ (by rcases r with y | y<;>exact bc)
   refine yB EE 17 h (fun PK h=>?_) (fun PK h=>?_)
   · refine yB EE 3 h (fun Y8 h=>?_) (fun Y8 h=>?_)
     · cases h
       exact iH EE 14 (aB false) [0,1,2,3] (.pure pv) uT ah
     · obtain⟨n,j,h⟩:=bT h
       rcases n with x | z
       · dsimp only at h
         refine yG EE 7 (v:=aB true) (cn c.Kids d _ j _ 7 [1,5,0,2,3] iw) ?_
         cases h
         exact iH EE 4 (aB true) [0,1,2,3] (.pure pv) uT ah
       · dsimp only at h
         refine yG EE 7 (v:=aB false) (cn c.Kids d _ j _ 7 [1,5,0,2,3] iw) ?_
         cases h
         exact iH EE 4 (aB false) [0,1,2,3] (.pure pv) uT ah
   · obtain⟨KR,f,h⟩:=bT h
     rcases KR with p | q
     · dsimp only at h
       refine yG EE 11 (v:=aB true) (cn c.Kids d _ f _ 7 [1,5,0,2,3] iw) ?_
       cases h
       exact iH EE 4 (aB true) [0,1,2,3] (.pure pv) uT ah
     · dsimp only at h
       refine yG EE 11 (v:=aB false) (cn c.Kids d _ f _ 7 [1,5,0,2,3] iw) ?_
       cases h
       exact iH EE 4 (aB false) [0,1,2,3] (.pure pv) uT ah
 · intro aD a mG tN r h
   refine kj EE 5 ?_ (by rcases r with y | y<;>exact bc)
   refine zL 4 aj mG ?_
   exact vq EE qk 2 [[1,7,8,9]] [0,1,2,3,4] (a mG tN 0 r h)
 · intro aD cX a eF mG tN e r h
   refine yB EE 1 h (fun KS h=>?_) (fun KS h=>?_)
   · refine yX EE 3 27 29 eB h fun k o h=>?_
     obtain⟨l,g,h⟩:=bT h
     rcases l with s | t
     · dsimp only at h
       refine yG EE 6 (v:=aB false) (eF k tN _ g _ 6 [0,1,2,3,4] iw) ?_
       cases h
       exact iH EE 5 (aB false) [0,1,2,3,4] (.pure pv) uT ah
     · dsimp only at h
       refine yG EE 6 (v:=aB true) (eF k tN _ g _ 6 [0,1,2,3,4] iw) ?_
       refine yI EE 3 h fun Ea h=>?_
       exact Gc EE qk 2 [[1,7,8,9]] [0,1,2,3,4] [] 6 (a mG tN (e+1) r h)
   · cases h
     exact iH EE 5 (aB true) [0,1,2,3,4] (.pure pv) uT ah
 · intro aQ cR a24 a25 r h
   refine kj EE 5 ?_ (by rcases r with y | y<;>exact bc)
   refine yI EE 7 h fun ZH h=>?_
   obtain⟨m,i,h⟩:=bT h
   rcases m with u | w
   · dsimp only at h
     refine yG EE 0 (v:=aB false) (cR a24 (a25+1) _ i _ 6 [2,0,3,4] iw) ?_
     cases h
     exact iH EE 3 (aB false) [0,1,2,3,4] (.pure pv) uT ah
   · dsimp only at h
     refine yG EE 0 (v:=aB true) (cR a24 (a25+1) _ i _ 6 [2,0,3,4] iw) ?_
     cases h
     exact iH EE 3 (aB true) [0,1,2,3,4] (.pure pv) uT ah
theorem cR (b:Term)(c:Int)(a:Bool)(r:(Sum Unit Unit))(h:aQ b c a=some r):gj Tryz.prog 249 4 (iT b c a) (iU a r):=(eL a).1 b c r h
theorem cn (mG:LT)(tN:Int)(a:Bool)(r:(Sum Unit Unit))(h:bl mG tN a=some r):gj Tryz.prog 132 5 (da mG tN a) (dU tN a r):=(eL a).2.1 mG tN r h
theorem eF (a24:Term)(a25:Int)(a:Bool)(r:(Sum Unit Unit))(h:cX a24 a25 a=some r):gj Tryz.prog 250 5 (iq a24 a25 a) (ir a25 a r):=(eL a).2.2.2 a24 a25 r h
def mY (a0:Term):Option (Bool):=
 fp a0>>=fun NV=>aQ a0 1 false>>=fun v131=>(match v131 with | (Sum.inl a)=>some false | (Sum.inr b)=>some true)
set_option maxRecDepth 100000 in
theorem yU (a0:Term)(r:(Bool))(h:mY a0=some r):∀ S,cL Tryz.prog 133 [aK a0] S fun e f=>e=.ret (aB r)∧f=S:=by
 unfold mY at h
 refine yF EE ?_
 obtain⟨NV,b,h⟩:=bT h
 refine Kw EE 5 (oB a0 NV b _ 2 [] iw) ?_
 refine C9 EE 2 4 [2,6] (by kernel_rfl) ?_
 obtain⟨v131,a,h⟩:=bT h
 rcases v131 with c | d
 · dsimp only at h
   refine yG EE 10 (v:=aB false) (cR a0 1 false _ a _ 7 [5,6,4,1] iw) ?_
   cases h
   exact yR EE 6
 · dsimp only at h
   refine yG EE 10 (v:=aB true) (cR a0 1 false _ a _ 7 [5,6,4,1] iw) ?_
   cases h
   exact yR EE 8
@[simp] noncomputable def pQ := fun a (o:NM)=>(([aK a],[]):TC)
@[simp] noncomputable def pR := fun a (r:Unit) (o:NM)=>((.fn (.func 248) [] [aP (o 0)],[],[.arr 3 [aK a]]):TB)
@[simp] noncomputable def jh := fun a b c d a17 (o:NM)=>(([aK a,aI b,aP (o 0),aP (o 1)],[oY (o 2),.arr 1 [.fn (.func 249) [] [aP (o 0),aP (o 1)]],jT Tryz.prog .ready 170 0 39 274877921791 [(2,aP (o 3)),(4,aP (o 4)),(5,aP (o 5)),(6,aP (o 6))],oG c,.arr 1 [aB d],.arr 16 [.agg [.sc .nilFunc,.fn (.func 290) [] [],.fn (.func 291) [] [],.fn (.func 292) [] [],.fn (.func 293) [] [],.fn (.func 294) [] [],.fn (.func 296) [] [],.fn (.func 296) [] [],.fn (.func 295) [] [],.fn (.func 296) [] [],.fn (.func 296) [] [],.fn (.func 296) [] [],.fn (.func 296) [] [],.fn (.func 296) [] [],.fn (.func 296) [] [],.fn (.func 296) [] []]],oI a17]):TC)
@[simp] noncomputable def ji := fun a b (r:(Sum Int Int)) (o:NM)=>(match r with | (Sum.inl y)=>(aB false,sm [oY (o 2),.arr 1 [.fn (.func 249) [] [aP (o 0),aP (o 1)]],lV (some .ret) (jT Tryz.prog .done 170 0 39 274877921791 [(2,aP (o 3)),(4,aP (o 4)),(5,aP (o 5)),(6,aP (o 6))]),oG a,.arr 1 [aB false],.arr 16 [.agg [.sc .nilFunc,.fn (.func 290) [] [],.fn (.func 291) [] [],.fn (.func 292) [] [],.fn (.func 293) [] [],.fn (.func 294) [] [],.fn (.func 296) [] [],.fn (.func 296) [] [],.fn (.func 295) [] [],.fn (.func 296) [] [],.fn (.func 296) [] [],.fn (.func 296) [] [],.fn (.func 296) [] [],.fn (.func 296) [] [],.fn (.func 296) [] [],.fn (.func 296) [] []]],oI y],[]) | (Sum.inr y)=>(aB true,sm [oY (o 2),.arr 1 [.fn (.func 249) [] [aP (o 0),aP (o 1)]],jT Tryz.prog .ready 170 0 39 274877921791 [(2,aP (o 3)),(4,aP (o 4)),(5,aP (o 5)),(6,aP (o 6))],oG a,.arr 1 [aB b],.arr 16 [.agg [.sc .nilFunc,.fn (.func 290) [] [],.fn (.func 291) [] [],.fn (.func 292) [] [],.fn (.func 293) [] [],.fn (.func 294) [] [],.fn (.func 296) [] [],.fn (.func 296) [] [],.fn (.func 295) [] [],.fn (.func 296) [] [],.fn (.func 296) [] [],.fn (.func 296) [] [],.fn (.func 296) [] [],.fn (.func 296) [] [],.fn (.func 296) [] [],.fn (.func 296) [] []]],oI y],[]):TB)
@[simp] noncomputable def di := fun a a24 a25 b y7 (o:NM)=>(([aT a,.fn (.func 250) [] [aP (o 0),aP (o 1)]],[.arr 1 [.fn (.func 249) [] [aP (o 2),aP (o 0)]],oI a24,oY (o 3),jT Tryz.prog .ready 170 0 39 274877921791 [(2,aP (o 4)),(4,aP (o 5)),(5,aP (o 6)),(6,aP (o 7))],oG a25,.arr 1 [aB b],.arr 16 [.agg [.sc .nilFunc,.fn (.func 290) [] [],.fn (.func 291) [] [],.fn (.func 292) [] [],.fn (.func 293) [] [],.fn (.func 294) [] [],.fn (.func 296) [] [],.fn (.func 296) [] [],.fn (.func 295) [] [],.fn (.func 296) [] [],.fn (.func 296) [] [],.fn (.func 296) [] [],.fn (.func 296) [] [],.fn (.func 296) [] [],.fn (.func 296) [] [],.fn (.func 296) [] []]],oI y7]):TC)
@[simp] noncomputable def dZ := fun a24 a25 a (r:(Sum Int Int)) (o:NM)=>(match r with | (Sum.inl y)=>(aB true,sm [.arr 1 [.fn (.func 249) [] [aP (o 2),aP (o 0)]],oI a24,oY (o 3),jT Tryz.prog .ready 170 0 39 274877921791 [(2,aP (o 4)),(4,aP (o 5)),(5,aP (o 6)),(6,aP (o 7))],oG a25,.arr 1 [aB a],.arr 16 [.agg [.sc .nilFunc,.fn (.func 290) [] [],.fn (.func 291) [] [],.fn (.func 292) [] [],.fn (.func 293) [] [],.fn (.func 294) [] [],.fn (.func 296) [] [],.fn (.func 296) [] [],.fn (.func 295) [] [],.fn (.func 296) [] [],.fn (.func 296) [] [],.fn (.func 296) [] [],.fn (.func 296) [] [],.fn (.func 296) [] [],.fn (.func 296) [] [],.fn (.func 296) [] []]],oI y],[]) | (Sum.inr y)=>(aB false,sm [.arr 1 [.fn (.func 249) [] [aP (o 2),aP (o 0)]],oI a24,oY (o 3),lV (some .ret) (jT Tryz.prog .done 170 0 39 274877921791 [(2,aP (o 4)),(4,aP (o 5)),(5,aP (o 6)),(6,aP (o 7))]),oG a25,.arr 1 [aB false],.arr 16 [.agg [.sc .nilFunc,.fn (.func 290) [] [],.fn (.func 291) [] [],.fn (.func 292) [] [],.fn (.func 293) [] [],.fn (.func 294) [] [],.fn (.func 296) [] [],.fn (.func 296) [] [],.fn (.func 295) [] [],.fn (.func 296) [] [],.fn (.func 296) [] [],.fn (.func 296) [] [],.fn (.func 296) [] [],.fn (.func 296) [] [],.fn (.func 296) [] [],.fn (.func 296) [] []]],oI y],[]):TB)
@[simp] noncomputable def iy := fun a a35 b a37 c (o:NM)=>(([aK a,aP (o 0),aP (o 1)],[.arr 1 [.fn (.func 249) [] [aP (o 2),aP (o 0)]],oI a35,oY (o 3),jT Tryz.prog .ready 170 0 39 274877921791 [(2,aP (o 4)),(4,aP (o 5)),(5,aP (o 6)),(6,aP (o 7))],oG b,.arr 1 [aB a37],.arr 16 [.agg [.sc .nilFunc,.fn (.func 290) [] [],.fn (.func 291) [] [],.fn (.func 292) [] [],.fn (.func 293) [] [],.fn (.func 294) [] [],.fn (.func 296) [] [],.fn (.func 296) [] [],.fn (.func 295) [] [],.fn (.func 296) [] [],.fn (.func 296) [] [],.fn (.func 296) [] [],.fn (.func 296) [] [],.fn (.func 296) [] [],.fn (.func 296) [] [],.fn (.func 296) [] []]],oI c]):TC)
@[simp] noncomputable def iz := fun a35 a a37 (r:(Sum Int Int)) (o:NM)=>(match r with | (Sum.inl y)=>(aB false,sm [.arr 1 [.fn (.func 249) [] [aP (o 2),aP (o 0)]],oI a35,oY (o 3),lV (some .ret) (jT Tryz.prog .done 170 0 39 274877921791 [(2,aP (o 4)),(4,aP (o 5)),(5,aP (o 6)),(6,aP (o 7))]),oG a,.arr 1 [aB false],.arr 16 [.agg [.sc .nilFunc,.fn (.func 290) [] [],.fn (.func 291) [] [],.fn (.func 292) [] [],.fn (.func 293) [] [],.fn (.func 294) [] [],.fn (.func 296) [] [],.fn (.func 296) [] [],.fn (.func 295) [] [],.fn (.func 296) [] [],.fn (.func 296) [] [],.fn (.func 296) [] [],.fn (.func 296) [] [],.fn (.func 296) [] [],.fn (.func 296) [] [],.fn (.func 296) [] []]],oI y],[]) | (Sum.inr y)=>(aB true,sm [.arr 1 [.fn (.func 249) [] [aP (o 2),aP (o 0)]],oI a35,oY (o 3),jT Tryz.prog .ready 170 0 39 274877921791 [(2,aP (o 4)),(4,aP (o 5)),(5,aP (o 6)),(6,aP (o 7))],oG a,.arr 1 [aB a37],.arr 16 [.agg [.sc .nilFunc,.fn (.func 290) [] [],.fn (.func 291) [] [],.fn (.func 292) [] [],.fn (.func 293) [] [],.fn (.func 294) [] [],.fn (.func 296) [] [],.fn (.func 296) [] [],.fn (.func 295) [] [],.fn (.func 296) [] [],.fn (.func 296) [] [],.fn (.func 296) [] [],.fn (.func 296) [] [],.fn (.func 296) [] [],.fn (.func 296) [] [],.fn (.func 296) [] []]],oI y],[]):TB)
noncomputable def kY : St:=sN 2 (aF (aI 0) none (sN 4 (St.start T0 132 ((dz di id).1) (oL 8 (lY 0 ((dz di id).2))))))
noncomputable def kZ := fun a a24 a25 d (y7:Int) b c=>ng kY 8 fun o=>([[(1,.fn (.func 250) [] [aP (o 0),aP (o 1)]),(7,aT a),(8,aI (a.length:Int)),(9,aI b)]],[((o 0),.arr 1 [.fn (.func 249) [] [aP (o 2),aP (o 0)]]),((o 1),oI a24),((o 2),oY (o 3)),((o 3),jT Tryz.prog .ready 170 0 39 274877921791 [(2,aP (o 4)),(4,aP (o 5)),(5,aP (o 6)),(6,aP (o 7))]),((o 4),oG a25),((o 5),.arr 1 [aB d]),((o 6),.arr 16 [.agg [.sc .nilFunc,.fn (.func 290) [] [],.fn (.func 291) [] [],.fn (.func 292) [] [],.fn (.func 293) [] [],.fn (.func 294) [] [],.fn (.func 296) [] [],.fn (.func 296) [] [],.fn (.func 295) [] [],.fn (.func 296) [] [],.fn (.func 296) [] [],.fn (.func 296) [] [],.fn (.func 296) [] [],.fn (.func 296) [] [],.fn (.func 296) [] [],.fn (.func 296) [] []]]),((o 7),oI c)])
def fH (a:Term):Option Unit:=
 some ()
set_option maxRecDepth 100000 in
theorem pn (a:Term)(r:Unit)(h:fH a=some r):gj Tryz.prog 189 0 (pQ a) (pR a r):=by
 unfold fH at h
 refine kj EE 0 ?_
 cases h
 exact iH EE 8 (.fn (.func 248) [] [aP 0]) [0] (gJ.Qw dn.nil (dn.cons (gJ.n4 (j:=0) rfl) dn.nil)) bg (ua (.arr 3 [aK a]) ah)
mutual
def aU (a:Term)(c:Int)(b:ae)(d:Bool)(a17:Int):Option (Sum Int Int):=
 if dH .i64 (a17+1) then(if decide (((a17+1):Int)>40) then(some (Sum.inl (a17+1))) else(if decide (c>12) then(some (Sum.inl (a17+1))) else(du a.Op 1 15>>=fun v139=>if v139 then(if decide (a.Op=2) then(mX (bo.mk b) a>>=fun v148=>if v148 then(br a.Kids c b d (a17+1)>>=fun e=>(match e with | (Sum.inl f)=>some (Sum.inr f) | (Sum.inr g)=>some (Sum.inl g))) else(some (Sum.inl (a17+1)))) else(if decide (a.Op=3) then(tA (bo.mk b) a>>=fun h=>if h then(br a.Kids c b d (a17+1)>>=fun KT=>(match KT with | (Sum.inl i)=>some (Sum.inr i) | (Sum.inr j)=>some (Sum.inl j))) else(some (Sum.inl (a17+1)))) else none)) else(some (Sum.inl (a17+1)))))) else none
 partial_fixpoint
def br (a:LT)(a24:Int)(b:ae)(c:Bool)(y7:Int):Option (Sum Int Int):=
 aJ a a24 b c y7 0 y7
 partial_fixpoint
def aJ (c:LT)(a24:Int)(d:ae)(e:Bool)(y7 a b:Int):Option (Sum Int Int):=
 if decide (a<(c.length:Int)) then(dY c a>>=fun f=>dc f a24 d e b>>=fun g=>(match g with | (Sum.inl h)=>some (Sum.inr h) | (Sum.inr i)=>if dH .i64 (a+1) then(aJ c a24 d e y7 (a+1) i) else none)) else(some (Sum.inl b))
 partial_fixpoint
def dc (c:Term)(a35:Int)(d:ae)(e:Bool)(f:Int):Option (Sum Int Int):=
 if dH .i64 (a35+1) then(aU c (a35+1) d e f>>=fun v175=>(match v175 with | (Sum.inl a)=>some (Sum.inl a) | (Sum.inr b)=>some (Sum.inr b))) else none
 partial_fixpoint
end
set_option maxRecDepth 100000 in
theorem eY (b:ae)(d:Bool):(∀ c g a17 r,aU c g b d a17=some r→gj Tryz.prog 249 7 (jh c g b d a17) (ji b d r))∧(∀ e a24 y7 r,br e a24 b d y7=some r→gj Tryz.prog 132 8 (di e a24 b d y7) (dZ a24 b d r))∧(∀ e a24 y7 i f r,aJ e a24 b d y7 i f=some r→SX Tryz.prog (gV 8 (dZ a24 b d r)) (kZ e a24 b d y7 i f))∧(∀ j a35 k r,dc j a35 b d k=some r→gj Tryz.prog 250 8 (iy j a35 b d k) (iz a35 b d r)):=by
 refine aU.mutual_partial_correctness _ _ _ _ _ _ ?_ ?_ ?_ ?_
 · intro br ct c g a17 r h
   refine kj EE 7 ?_ (by rcases r with y | y<;>exact bc)
   refine yI EE 18 h fun ZI h=>?_
   refine yB EE 4 h (fun Re h=>?_) (fun Re h=>?_)
   · cases h
     exact iH EE 35 (aB false) [0,1,2,3,4,5,6] (.pure pv) uT ah
   · refine yB EE 2 h (fun Rf h=>?_) (fun Rf h=>?_)
     · cases h
       exact iH EE 32 (aB false) [0,1,2,3,4,5,6] (.pure pv) uT ah
     · refine mK EE 4 (eD c.Op 1 15) h (fun h=>?_) (fun h=>?_)
       · cases KU:decide (c.Op=2) with
         | true=>
           have h:=yg KU h
           refine wW EE 5 (fun S=>NA Tryz.prog S 371 (aP 5) (aI c.Op)) (fun S=>.val (.ptr 5 0 2) S) (by kernel_rfl) (by kernel_rfl) (by rw[of_decide_eq_true KU];kernel_rfl) ?_
           refine mK EE 4 (yT (bo.mk b) c) h (fun h=>?_) (fun h=>?_)
           · obtain⟨q,l,h⟩:=bT h
             rcases q with w | x
             · dsimp only at h
               refine yG EE 9 (v:=aB true) (ct c.Kids g (a17+1) _ l _ 10 [1,8,0,2,3,4,5,6] iw) ?_
               cases h
               exact iH EE 4 (aB true) [0,1,2,3,4,5,6] (.pure pv) uT ah
             · dsimp only at h
               refine yG EE 9 (v:=aB false) (ct c.Kids g (a17+1) _ l _ 10 [1,8,0,2,3,4,5,6] iw) ?_
               cases h
               exact iH EE 4 (aB false) [0,1,2,3,4,5,6] (.pure pv) uT ah
           · cases h
             exact iH EE 16 (aB false) [0,1,2,3,4,5,6] (.pure pv) uT ah
         | false=>
           have h:=yh KU h
           cases KV:decide (c.Op=3) with
           | true=>
             have h:=yg KV h
             refine wW EE 5 (fun S=>NA Tryz.prog S 371 (aP 5) (aI c.Op)) (fun S=>.val (.ptr 5 0 3) S) (by kernel_rfl) (by kernel_rfl) (by rw[of_decide_eq_true KV];kernel_rfl) ?_
             refine mK EE 4 (FQ (bo.mk b) c) h (fun h=>?_) (fun h=>?_)
             · obtain⟨KT,m,h⟩:=bT h
               rcases KT with z | A
               · dsimp only at h
                 refine yG EE 9 (v:=aB true) (ct c.Kids g (a17+1) _ m _ 10 [1,8,0,2,3,4,5,6] iw) ?_
                 cases h
                 exact iH EE 4 (aB true) [0,1,2,3,4,5,6] (.pure pv) uT ah
               · dsimp only at h
                 refine yG EE 9 (v:=aB false) (ct c.Kids g (a17+1) _ m _ 10 [1,8,0,2,3,4,5,6] iw) ?_
                 cases h
                 exact iH EE 4 (aB false) [0,1,2,3,4,5,6] (.pure pv) uT ah
             · cases h
               exact iH EE 16 (aB false) [0,1,2,3,4,5,6] (.pure pv) uT ah
           | false=>
             have h:=yh KV h
             cases h
       · cases h
         exact iH EE 27 (aB false) [0,1,2,3,4,5,6] (.pure pv) uT ah
 · intro aJ a e a24 y7 r h
   refine kj EE 8 ?_ (by rcases r with y | y<;>exact bc)
   refine zL 4 aj e ?_
   exact vq EE qk 2 [[1,7,8,9]] [0,1,2,3,4,5,6,7] (a e a24 y7 0 y7 r h)
 · intro aJ dc a eM e a24 y7 i f r h
   refine yB EE 1 h (fun Rg h=>?_) (fun Rg h=>?_)
   · refine yX EE 3 27 29 eB h fun p u h=>?_
     obtain⟨s,n,h⟩:=bT h
     rcases s with B | t
     · dsimp only at h
       refine yG EE 6 (v:=aB false) (eM p a24 f _ n _ 9 [0,1,2,3,4,5,6,7] iw) ?_
       cases h
       exact iH EE 5 (aB false) [0,1,2,3,4,5,6,7] (.pure pv) uT ah
     · dsimp only at h
       refine yG EE 6 (v:=aB true) (eM p a24 f _ n _ 9 [0,1,2,3,4,5,6,7] iw) ?_
       refine yI EE 3 h fun KW h=>?_
       exact Gc EE qk 2 [[1,7,8,9]] [0,1,2,3,4,5,6,7] [] 9 (a e a24 y7 (i+1) t r h)
   · cases h
     exact iH EE 5 (aB true) [0,1,2,3,4,5,6,7] (.pure pv) uT ah
 · intro aU cY j a35 k r h
   refine kj EE 8 ?_ (by rcases r with y | y<;>exact bc)
   refine yI EE 7 h fun ZJ h=>?_
   obtain⟨v175,o,h⟩:=bT h
   rcases v175 with C | D
   · dsimp only at h
     refine yG EE 0 (v:=aB false) (cY j (a35+1) k _ o _ 9 [2,0,3,4,5,6,7] iw) ?_
     cases h
     exact iH EE 3 (aB false) [0,1,2,3,4,5,6,7] (.pure pv) uT ah
   · dsimp only at h
     refine yG EE 0 (v:=aB true) (cY j (a35+1) k _ o _ 9 [2,0,3,4,5,6,7] iw) ?_
     cases h
     exact iH EE 3 (aB true) [0,1,2,3,4,5,6,7] (.pure pv) uT ah
theorem cY (c:Term)(d:Int)(a:ae)(b:Bool)(a17:Int)(r:(Sum Int Int))(h:aU c d a b a17=some r):gj Tryz.prog 249 7 (jh c d a b a17) (ji a b r):=(eY a b).1 c d a17 r h
theorem ct (c:LT)(a24:Int)(a:ae)(b:Bool)(y7:Int)(r:(Sum Int Int))(h:br c a24 a b y7=some r):gj Tryz.prog 132 8 (di c a24 a b y7) (dZ a24 a b r):=(eY a b).2.1 c a24 y7 r h
theorem eM (c:Term)(a35:Int)(a:ae)(b:Bool)(d:Int)(r:(Sum Int Int))(h:dc c a35 a b d=some r):gj Tryz.prog 250 8 (iy c a35 a b d) (iz a35 a b r):=(eY a b).2.2.2 c a35 d r h
def ou (a0:ae)(b:Term):Option (Bool):=
 fH b>>=fun c=>aU b 1 a0 false 0>>=fun a=>(match a with | (Sum.inl d)=>some false | (Sum.inr e)=>some true)
set_option maxRecDepth 100000 in
theorem AP (a0:ae)(c:Term)(r:(Bool))(h:ou a0 c=some r):∀ S,cL Tryz.prog 170 [aG a0,aK c] S fun i j=>i=.ret (aB r)∧j=S:=by
 unfold ou at h
 refine yF EE ?_
 obtain⟨d,b,h⟩:=bT h
 refine Kw EE 401 (pn c d b _ 7 [] iw) ?_
 refine C9 EE 2 9 [2,4,5,6,12,13] (by kernel_rfl) ?_
 obtain⟨e,a,h⟩:=bT h
 rcases e with f | g
 · dsimp only at h
   refine yG EE 10 (v:=aB false) (cY c 1 a0 false 0 _ a _ 12 [10,11,9,0,2,5,6] iw) ?_
   cases h
   exact yR EE 6
 · dsimp only at h
   refine yG EE 10 (v:=aB true) (cY c 1 a0 false 0 _ a _ 12 [10,11,9,0,2,5,6] iw) ?_
   cases h
   exact yR EE 8
@[simp] noncomputable def dC := fun a (b:(List (ByteArray×Bool))) (o:NM)=>(([aM a,.fn (.func 73) [] [aP (o 0)]],[.arr 1 [.dm (o 1)],.mp (b.map (dq fC qR))]):TC)
@[simp] noncomputable def fu := fun(r:((List (ByteArray×Bool))×Bool)) (o:NM)=>((aB r.2,sm [.arr 1 [.dm (o 1)],.mp (r.1.map (dq fC qR))],[]):TB)
@[simp] noncomputable def ml := fun(a:bN) (a17:(List (ByteArray×Bool))) (o:NM)=>(([.agg [.sc (.string a.Name),aI a.cU],aP (o 0)],[.arr 1 [.dm (o 1)],.mp (a17.map (dq fC qR))]):TC)
@[simp] noncomputable def mn := fun(r:((List (ByteArray×Bool))×Bool)) (o:NM)=>((aB r.2,sm [.arr 1 [.dm (o 1)],.mp (r.1.map (dq fC qR))],[]):TB)
noncomputable def jH : St:=sN 2 (aF (aI 0) none (sN 4 (St.start T0 76 ((dz dC id).1) (oL 2 (lY 0 ((dz dC id).2))))))
noncomputable def jI := fun a (d:(List (ByteArray×Bool))) b (c:(List (ByteArray×Bool)))=>ng jH 2 fun o=>([[(1,.fn (.func 73) [] [aP (o 0)]),(7,aM a),(8,aI (a.length:Int)),(9,aI b)]],[((o 0),.arr 1 [.dm (o 1)]),((o 1),.mp (c.map (dq fC qR)))])
def cZ (a:bN)(a17:(List (ByteArray×Bool))):Option ((List (ByteArray×Bool))×Bool):=
 if((sU a17 a.Name).getD false) then(some ((pJ a17 a.Name true),false)) else(mW a.Name>>=fun v67=>if v67 then(du a.cU 0 4>>=fun ac8=>if ac8 then(some ((pJ a17 a.Name true),true)) else(some ((pJ a17 a.Name true),false))) else(some ((pJ a17 a.Name true),false)))
set_option maxRecDepth 100000 in
theorem lP (a:bN)(a17:(List (ByteArray×Bool)))(r:((List (ByteArray×Bool))×Bool))(h:cZ a a17=some r):gj Tryz.prog 73 2 (ml a a17) (mn r):=by
 unfold cZ at h
 refine kj EE 2 ?_
 refine gO EE 7 (fun S=>um Tryz.prog S 137 (.dm 1) (.sc (.string a.Name)) false) (fun S=>.val (aB ((sU a17 a.Name).getD false)) S) (by kernel_rfl) (by kernel_rfl) (Pm (g:=qR) (l:=a17) (x:=a.Name) (z0:=false) (by kernel_rfl) (by kernel_rfl)) ?_
 generalize ab2:((sU a17 a.Name).getD false)=b at h ⊢
 cases b with
 | true=>
   have h:=yg rfl h
   refine gO EE 5 (fun S=>DV Tryz.prog S 137 (.dm 1) (.sc (.string a.Name)) (aB true)) (fun S=>.skip (S.set 1 (.mp ((pJ a17 a.Name true).map (dq fC qR))))) (by kernel_rfl) (by kernel_rfl) (ID (g:=qR) (l:=a17) (x:=a.Name) (y:=true) (z:=aB false) (by kernel_rfl) (by kernel_rfl) (by kernel_rfl)) ?_
   cases h
   exact iH EE 16 (aB false) [0,1] (.pure pv) uT ah
 | false=>
   have h:=yh rfl h
   refine gO EE 5 (fun S=>DV Tryz.prog S 137 (.dm 1) (.sc (.string a.Name)) (aB true)) (fun S=>.skip (S.set 1 (.mp ((pJ a17 a.Name true).map (dq fC qR))))) (by kernel_rfl) (by kernel_rfl) (ID (g:=qR) (l:=a17) (x:=a.Name) (y:=true) (z:=aB false) (by kernel_rfl) (by kernel_rfl) (by kernel_rfl)) ?_
   refine mK EE 6 (yP a.Name) h (fun h=>?_) (fun h=>?_)
   · refine mK EE 4 (eD a.cU 0 4) h (fun h=>?_) (fun h=>?_)
     · cases h
       exact iH EE 4 (aB true) [0,1] (.pure pv) uT ah
     · cases h
       exact iH EE 4 (aB false) [0,1] (.pure pv) uT ah
   · cases h
     exact iH EE 9 (aB false) [0,1] (.pure pv) uT ah
def aC (b:(List bN))(e:(List (ByteArray×Bool)))(a:Int)(d:(List (ByteArray×Bool))):Option ((List (ByteArray×Bool))×Bool):=
 if decide (a<(b.length:Int)) then(dY b a>>=fun f=>cZ f d>>=fun c=>if c.2 then(if dH .i64 (a+1) then(aC b e (a+1) c.1) else none) else(some (c.1,false))) else(some (d,true))
 partial_fixpoint
set_option maxRecDepth 100000 in
theorem je (e:(List bN))(f:(List (ByteArray×Bool))):(∀ b c r,aC e f b c=some r→SX Tryz.prog (gV 2 (fu r)) (jI e f b c)):=by
 refine aC.partial_correctness _ _ _ ?_
 intro aC a b c r h
 refine yB EE 1 h (fun Y5 h=>?_) (fun Y5 h=>?_)
 · refine yX EE 3 22 44 bX h fun j k h=>?_
   obtain⟨d,i,h⟩:=bT h
   refine yG EE 6 (v:=aB d.2) (lP j c d i _ 3 [0,1] iw) ?_
   cases g:d.2 with
   | true=>
     have h:=yg g h
     refine yI EE 3 h fun aqw h=>?_
     exact Gc EE qk 2 [[1,7,8,9]] [0,1] [] 3 (a (b+1) d.1 r h)
   | false=>
     have h:=yh g h
     cases h
     exact iH EE 5 (aB false) [0,1] (.pure pv) uT ah
 · cases h
   exact iH EE 5 (aB true) [0,1] (.pure pv) uT ah
def bj (b:(List bN))(a:(List (ByteArray×Bool))):Option ((List (ByteArray×Bool))×Bool):=
 aC b a 0 a
set_option maxRecDepth 100000 in
theorem eZ (a:(List bN))(b:(List (ByteArray×Bool)))(r:((List (ByteArray×Bool))×Bool))(h:bj a b=some r):gj Tryz.prog 76 2 (dC a b) (fu r):=by
 unfold bj at h
 refine kj EE 2 ?_
 refine zL 4 aR a ?_
 exact vq EE qk 2 [[1,7,8,9]] [0,1] ((je a b) 0 b r h)
def fb (a0:ae):Option (Int):=
 du (a0.Cons.length:Int) 2 12>>=fun YO=>if YO then(if decide ((a0.dI.length:Int)>8) then(some 2) else(bj a0.Cons ([]:(List (ByteArray×Bool)))>>=fun HY=>if HY.2 then(bj a0.dI HY.1>>=fun c=>if c.2 then(dY a0.Cons 0>>=fun a=>if(!([(a.Name.data.toList==(⟨#[70,97,108,115,101]⟩:ByteArray).data.toList),(a.cU==0)].all id)) then(some 2) else(dY a0.Cons 1>>=fun b=>if(!([(b.Name.data.toList==(⟨#[84,114,117,101]⟩:ByteArray).data.toList),(b.cU==0)].all id)) then(some 2) else(some 0))) else(some 2)) else(some 2))) else(some 2)
set_option maxRecDepth 100000 in
theorem sf (a0:ae)(r:(Int))(h:fb a0=some r):∀ S,cL Tryz.prog 30 [aG a0] S fun k l=>k=.ret (aI r)∧l=S:=by
 unfold fb at h
 refine yF EE ?_
 refine zL 13 aR a0.Cons ?_
 refine mK EE 0 (eD (a0.Cons.length:Int) 2 12) h (fun h=>?_) (fun h=>?_)
 · refine zL 4 aR a0.dI ?_
   refine yB EE 0 h (fun Y6 h=>?_) (fun Y6 h=>?_)
   · cases h
     exact yR EE 19
   · obtain⟨HY,f,h⟩:=bT h
     refine yG EE 5 (v:=aB HY.2) (eZ a0.Cons ([]:(List (ByteArray×Bool))) HY f _ 3 [2,1] iw) ?_
     cases d:HY.2 with
     | true=>
       have h:=yg d h
       obtain⟨c,g,h⟩:=bT h
       refine yG EE 6 (v:=aB c.2) (eZ a0.dI HY.1 c g _ 3 [2,1] iw) ?_
       cases e:c.2 with
       | true=>
         have h:=yg e h
         refine yX EE 5 22 44 bX h fun a i h=>?_
         refine Ig EE 2 (rO Tryz.prog .neq 44 (.agg [.sc (.string a.Name),aI a.cU]) (.agg [.sc (.string ⟨#[70,97,108,115,101]⟩),aI 0])) (!([(a.Name.data.toList==(⟨#[70,97,108,115,101]⟩:ByteArray).data.toList),(a.cU==0)].all id)) (by kernel_rfl) ((CP (by kernel_rfl)).2) (fun QJ=>?_) (fun QJ=>?_)
         · have h:=yg QJ h
           cases h
           exact yR EE 12
         · have h:=yh QJ h
           refine yX EE 3 22 44 bX h fun b j h=>?_
           refine Ig EE 2 (rO Tryz.prog .neq 44 (.agg [.sc (.string b.Name),aI b.cU]) (.agg [.sc (.string ⟨#[84,114,117,101]⟩),aI 0])) (!([(b.Name.data.toList==(⟨#[84,114,117,101]⟩:ByteArray).data.toList),(b.cU==0)].all id)) (by kernel_rfl) ((CP (by kernel_rfl)).2) (fun Y9=>?_) (fun Y9=>?_)
           · have h:=yg Y9 h
             cases h
             exact yR EE 5
           · have h:=yh Y9 h
             cases h
             exact yR EE 5
       | false=>
         have h:=yh e h
         cases h
         exact yR EE 6
     | false=>
       have h:=yh d h
       cases h
       exact yR EE 13
 · cases h
   exact yR EE 25
@[simp] noncomputable def eG := fun a b (o:NM)=>(([aT a,.fn (.func 188) [] [aP (o 0)]],[oG b]):TC)
@[simp] noncomputable def gS := fun a (r:Bool) (o:NM)=>((aB r,[some (oG a)],[]):TB)
@[simp] noncomputable def po := fun a a17 (o:NM)=>(([aK a,aP (o 0)],[oG a17]):TC)
@[simp] noncomputable def pq := fun a17 (r:Bool) (o:NM)=>((aB r,[some (oG a17)],[]):TB)
noncomputable def lC : St:=sN 2 (aF (aI 0) none (sN 4 (St.start T0 132 ((dz eG id).1) (oL 1 (lY 0 ((dz eG id).2))))))
noncomputable def lD := fun a b c=>ng lC 1 fun o=>([[(1,.fn (.func 188) [] [aP (o 0)]),(7,aT a),(8,aI (a.length:Int)),(9,aI c)]],[((o 0),oG b)])
def dQ (a:Term)(a17:ae):Option Bool:=
 ou a17 a>>=fun v54=>if v54 then(some true) else(some false)
set_option maxRecDepth 100000 in
theorem oC (a:Term)(a17:ae)(r:Bool)(h:dQ a a17=some r):gj Tryz.prog 188 1 (po a a17) (pq a17 r):=by
 unfold dQ at h
 refine kj EE 1 ?_
 refine mK EE 6 (AP a17 a) h (fun h=>?_) (fun h=>?_)
 · cases h
   exact iH EE 3 (aB true) [0] (.pure pv) uT ah
 · cases h
   exact iH EE 3 (aB false) [0] (.pure pv) uT ah
def aV (b:LT)(c:ae)(a:Int):Option Bool:=
 if decide (a<(b.length:Int)) then(dY b a>>=fun d=>dQ d c>>=fun e=>if e then(if dH .i64 (a+1) then(aV b c (a+1)) else none) else(some false)) else(some true)
 partial_fixpoint
set_option maxRecDepth 100000 in
theorem kA (e:LT)(b:ae):(∀ c r,aV e b c=some r→SX Tryz.prog (gV 1 (gS b r)) (lD e b c)):=by
 refine aV.partial_correctness _ _ _ ?_
 intro aV a c r h
 refine yB EE 1 h (fun Y1 h=>?_) (fun Y1 h=>?_)
 · refine yX EE 3 27 29 eB h fun i j h=>?_
   obtain⟨d,g,h⟩:=bT h
   refine yG EE 6 (v:=aB d) (oC i b d g _ 2 [0] iw) ?_
   cases f:d with
   | true=>
     have h:=yg f h
     refine yI EE 3 h fun ab1 h=>?_
     exact Gc EE qk 2 [[1,7,8,9]] [0] [] 2 (a (c+1) r h)
   | false=>
     have h:=yh f h
     cases h
     exact iH EE 5 (aB false) [0] (.pure pv) uT ah
 · cases h
   exact iH EE 5 (aB true) [0] (.pure pv) uT ah
def dD (a:LT)(b:ae):Option Bool:=
 aV a b 0
set_option maxRecDepth 100000 in
theorem lE (a:LT)(b:ae)(r:Bool)(h:dD a b=some r):gj Tryz.prog 132 1 (eG a b) (gS b r):=by
 unfold dD at h
 refine kj EE 1 ?_
 refine zL 4 aj a ?_
 exact vq EE qk 2 [[1,7,8,9]] [0] ((kA a b) 0 r h)
def qz (a0:ae)(b:LT):Option (Bool):=
 fb a0>>=fun v55=>if decide (v55=0) then(dD b a0>>=fun a=>if a then(some true) else(some false)) else(some false)
set_option maxRecDepth 100000 in
theorem BC (a0:ae)(d:LT)(r:(Bool))(h:qz a0 d=some r):∀ S,cL Tryz.prog 131 [aG a0,aT d] S fun e f=>e=.ret (aB r)∧f=S:=by
 unfold qz at h
 refine yF EE ?_
 refine yC EE 5 (sf a0) h fun v55 h=>?_
 refine yB EE 0 h (fun YR h=>?_) (fun YR h=>?_)
 · obtain⟨a,c,h⟩:=bT h
   refine yG EE 3 (v:=aB a) (lE d a0 a c _ 1 [0] iw) ?_
   cases b:a with
   | true=>
     have h:=yg b h
     cases h
     exact yR EE 4
   | false=>
     have h:=yh b h
     cases h
     exact yR EE 4
 · cases h
   exact yR EE 8
@[simp] noncomputable def ec := fun a (o:NM)=>(([aT a,.fn (.func 133) [] []],[]):TC)
@[simp] noncomputable def gH := fun(r:Bool) (o:NM)=>((aB r,[],[]):TB)
noncomputable def lh : St:=sN 2 (aF (aI 0) none (sN 4 (St.start T0 132 ((ec dd id).1) (oL 0 (lY 0 ((ec dd id).2))))))
noncomputable def lj := fun a b=>ng lh 0 fun o=>([[(1,.fn (.func 133) [] []),(7,aT a),(8,aI (a.length:Int)),(9,aI b)]],[])
def aS (b:LT)(a:Int):Option Bool:=
 if decide (a<(b.length:Int)) then(dY b a>>=fun c=>mY c>>=fun ac9=>if ac9 then(if dH .i64 (a+1) then(aS b (a+1)) else none) else(some false)) else(some true)
 partial_fixpoint
set_option maxRecDepth 100000 in
theorem kr (c:LT):(∀ b r,aS c b=some r→SX Tryz.prog (gV 0 (gH r)) (lj c b)):=by
 refine aS.partial_correctness _ _ ?_
 intro aS a b r h
 refine yB EE 1 h (fun Y0 h=>?_) (fun Y0 h=>?_)
 · refine yX EE 3 27 29 eB h fun d e h=>?_
   refine mK EE 6 (yU d) h (fun h=>?_) (fun h=>?_)
   · refine yI EE 3 h fun ab6 h=>?_
     exact Gc EE qk 2 [[1,7,8,9]] [] [] 1 (a (b+1) r h)
   · cases h
     exact iH EE 5 (aB false) [] (.pure pv) bg ah
 · cases h
   exact iH EE 5 (aB true) [] (.pure pv) bg ah
def dA (a:LT):Option Bool:=
 aS a 0
set_option maxRecDepth 100000 in
theorem ll (a:LT)(r:Bool)(h:dA a=some r):gj Tryz.prog 132 0 (ec a) (gH r):=by
 unfold dA at h
 refine kj EE 0 ?_
 refine zL 4 aj a ?_
 exact vq EE qk 2 [[1,7,8,9]] [] ((kr a) 0 r h)
def ow (a0:ae)(a:LT):Option (Bool):=
 qz a0 a>>=fun ada=>if ada then(dA a>>=fun v39=>if v39 then(some true) else(some false)) else(some false)
set_option maxRecDepth 100000 in
theorem AQ (a0:ae)(c:LT)(r:(Bool))(h:ow a0 c=some r):∀ S,cL Tryz.prog 82 [aG a0,aT c] S fun d e=>d=.ret (aB r)∧e=S:=by
 unfold ow at h
 refine yF EE ?_
 refine mK EE 6 (BC a0 c) h (fun h=>?_) (fun h=>?_)
 · obtain⟨v39,b,h⟩:=bT h
   refine Kw EE 2 (v:=aB v39) (ll c v39 b _ 1 [] iw) ?_
   cases a:v39 with
   | true=>
     have h:=yg a h
     cases h
     exact yR EE 4
   | false=>
     have h:=yh a h
     cases h
     exact yR EE 4
 · cases h
   exact yR EE 7
def ke (a0:Term)(a:Int):Option (Int):=
 if decide (a=0) then(rZ a0>>=fun v1=>some v1) else(if decide (a=1) then(some a0.Op) else(some a0.N))
set_option maxRecDepth 100000 in
theorem wC (a0:Term)(a:Int)(r:(Int))(h:ke a0 a=some r):∀ S,cL Tryz.prog 135 [aK a0,aI a] S fun b c=>b=.ret (aI r)∧c=S:=by
 unfold ke at h
 refine yF EE ?_
 refine yB EE 6 h (fun c0 h=>?_) (fun c0 h=>?_)
 · refine yC EE 3 (DK a0) h fun v1 h=>?_
   cases h
   exact yR EE 3
 · refine yB EE 2 h (fun c2 h=>?_) (fun c2 h=>?_)
   · cases h
     exact yR EE 7
   · cases h
     exact yR EE 7
noncomputable def yV : St:=sN 7 (St.start T0 83 [.agg [aI 0,aI 0,.lit []],.agg [aI 0,aI 0,.lit []]] af.empty)
noncomputable def s4 := fun a0 a=>ng yV 2 fun o=>([[(3,aP (o 1)),(2,aP (o 0)),(5,aI 0)]],[((o 1),.arr 3 [aK a]),((o 0),.arr 3 [aK a0])])
noncomputable def yW : St:=sN 3 (dz s4)
noncomputable def s5 := fun a0 c a b=>ng yW 2 fun o=>([[(3,aP (o 1)),(2,aP (o 0)),(8,aI a),(5,aI b)]],[((o 1),.arr 3 [aK c]),((o 0),.arr 3 [aK a0])])
noncomputable def yY : St:=sN 4 (aF (aB false) none (sN 1 (dz s5)))
noncomputable def yZ := fun a0 c a b=>ng yY 2 fun o=>([[(3,aP (o 1)),(2,aP (o 0)),(7,aI a),(5,aI b)]],[((o 1),.arr 3 [aK c]),((o 0),.arr 3 [aK a0])])
mutual
def fl (a0 c:Term)(a b:Int):Option (Int):=
 if decide (a<(a0.Kids.length:Int)) then(if decide (a<(c.Kids.length:Int)) then(dY a0.Kids a>>=fun d=>dY c.Kids a>>=fun e=>iQ d e>>=fun v93=>if(!decide (v93=0)) then(some v93) else(if dH .i64 (a+1) then(fl a0 c (a+1) v93) else none)) else(some b)) else(some b)
 partial_fixpoint
def iQ (a0 a:Term):Option (Int):=
 na a0 a
 partial_fixpoint
def na (a0 a:Term):Option (Int):=
 fm a0 a 0 0
 partial_fixpoint
def fm (a0 c:Term)(a d:Int):Option (Int):=
 if decide (a<3) then(ke a0 a>>=fun e=>ke c a>>=fun Za=>ot e Za>>=fun b=>if(!decide (b=0)) then(some b) else(if dH .i64 (a+1) then(fm a0 c (a+1) b) else none)) else(fl a0 c 0 d)
 partial_fixpoint
end
set_option maxRecDepth 100000 in
theorem vg : (∀ a0 d f i r,fl a0 d f i=some r→SX Tryz.prog (RQ (aI r)) (yZ a0 d f i))∧(∀ a0 d r,iQ a0 d=some r→∀ S,cL Tryz.prog 83 [aK a0,aK d] S fun p q=>p=.ret (aI r)∧q=S)∧(∀ a0 d r,na a0 d=some r→SX Tryz.prog (RQ (aI r)) (s4 a0 d))∧(∀ a0 d e g r,fm a0 d e g=some r→SX Tryz.prog (RQ (aI r)) (s5 a0 d e g)):=by
 refine fl.mutual_partial_correctness _ _ _ _ ?_ ?_ ?_ ?_
 · intro fl iQ a pg a0 d f i r h
   refine zL 4 aj a0.Kids ?_
   refine yB EE 0 h (fun adb h=>?_) (fun adb h=>?_)
   · refine zL 4 aj d.Kids ?_
     refine yB EE 0 h (fun ade h=>?_) (fun ade h=>?_)
     · refine yX EE 7 27 29 eB h fun j n h=>?_
       refine yX EE 4 27 29 eB h fun k o h=>?_
       refine yC EE 1 (pg j k) h fun v93 h=>?_
       refine yB EE 4 h (fun Y8 h=>?_) (fun Y8 h=>?_)
       · cases h
         exact yR EE 5
       · refine yI EE 3 h fun aqx h=>?_
         exact yK EE 2 [[3,2,7,5]] [1,0] (a a0 d (f+1) v93 r h)
     · cases h
       exact yR EE 6
   · cases h
     exact yR EE 12
 · intro na c a0 d r h
   refine yF EE ?_
   exact yK EE 7 [[3,2,5]] [1,0] (c a0 d r h)
 · intro fm b a0 d r h
   exact yK EE 3 [[3,2,8,5]] [1,0] (b a0 d 0 0 r h)
 · intro fl fm a b a0 d e g r h
   refine yB EE 1 h (fun adf h=>?_) (fun adf h=>?_)
   · refine yC EE 9 (wC a0 e) h fun l h=>?_
     refine yC EE 2 (wC d e) h fun Za h=>?_
     refine yC EE 0 (AO l Za) h fun m h=>?_
     refine yB EE 4 h (fun QJ h=>?_) (fun QJ h=>?_)
     · cases h
       exact yR EE 5
     · refine yI EE 2 h fun aqy h=>?_
       exact yK EE 2 [[3,2,8,5]] [1,0] (b a0 d (e+1) m r h)
   · exact yK EE 4 [[3,2,7,5]] [1,0] (a a0 d 0 g r h)
theorem pg (a0 a:Term)(r:(Int))(h:iQ a0 a=some r):∀ S,cL Tryz.prog 83 [aK a0,aK a] S fun b c=>b=.ret (aI r)∧c=S:=(vg ).2.1 a0 a r h
def pP (a0:ae)(a a2:Term):Option (Int×Int):=
 ow a0 [a,a2]>>=fun v0=>if v0 then(iQ a a2>>=fun v1=>some (v1,0)) else(some (0,2))
set_option maxRecDepth 100000 in
theorem y4 (a0:ae)(a a2:Term)(r:(Int×Int))(h:pP a0 a a2=some r):∀ S,cL Tryz.prog 38 [aG a0,aK a,aK a2] S fun c d=>c=.ret (.bM [aI r.1,aI r.2])∧d=S:=by
 unfold pP at h
 refine yF EE ?_
 obtain⟨v0,b,h⟩:=bT h
 refine Pj EE 11 82 [aG a0,.ak 3 0 2] [aG a0,.lit [aK a,aK a2]] (aB v0) (by kernel_rfl) (yo.cons (.pure pv) (yo.cons (xx.zD (sz:=3) (es:=[aK a,aK a2]) (by kernel_rfl) (by first | rfl | (simp;done) | omega | (simp;omega)) (by simp[aq,bF,cC,aO,-List.map_append,-List.map_drop,-List.map_take,-List.map_set,-List.map_replicate])) yo.nil)) (by simp[aq,bF,cC,aO,-List.map_append,-List.map_drop,-List.map_take,-List.map_set,-List.map_replicate]) rfl (by have q:=AQ a0 [a,a2] v0 b;simp only[aT,List.map_cons,List.map_nil,sF] at q;exact q) ?_
 cases v0 with
 | true=>
   have h:=yg rfl h
   refine yC EE 4 (pg a a2) h fun v1 h=>?_
   cases h
   exact yR EE 4
 | false=>
   have h:=yh rfl h
   cases h
   exact yR EE 6
end
end Go.Eng

/- Functions of the program lifted to data, each with its contract; no conditions. -/
import Derived.Test.YthplmmeobggkfaaGreatVLfA
import Derived.KernelRfl
set_option linter.all false
namespace Go.Eng
open Go.Proofs
set_option synthInstance.maxSize 100000
set_option synthInstance.maxHeartbeats 400000
set_option maxRecDepth 100000
noncomputable section
noncomputable def HX : St:=sN 2 (ak (aI 0) none (sN 23 (ak (aB true) none (sN 0 (ak (aI 0) none (sN 3 (ak (aB true) none (sN 0 (ak (aI 0) none (sN 6 (St.start T0 228 [.agg [.lit [],.lit [],.lit []]] ag.empty)))))))))))
noncomputable def HY := fun(a0:aL) a=>fZ HX 2 fun o=>([[(0,.lit (a0.aF.map az)),(1,.fn (.func 326) [] [aP (o 1)]),(7,aI (a0.aF.length:Int)),(8,aI a)],[],[],[(13,aB true)]],[((o 1),.arr 1 [.fn (.func 290) [] [aP (o 0)]]),((o 0),.arr 3 [.agg [aM a0.cv.Cons,aM a0.cv.bp,.lit (a0.aF.map az)]])])
def jQ (a0:aL)(a:Int):Option (Bool):=
 if decide (a<(a0.aF.length:Int)) then(bQ a0.aF a>>=fun b=>vd a0.cv b>>=fun c=>if c then(if cy .i64 (a+1) then(jQ a0 (a+1)) else none) else(if decide (a≥0) then(some false) else(some true))) else(some true)
 partial_fixpoint
variable {a0 : aL}
theorem CO : (∀ b,LH Tryz.prog (jQ a0 b) aB (HY a0 b)):=by
 refine jQ.partial_correctness _ _ ?_
 exact fun jQ a b=>sB 1 (sX 9 fun _=>fI 16 Bu (sI 9<|sM 2 [[0,1,7,8],[],[],[13]] [1,0] [] 4 (a _))<|sB 12 (sR 11)<|sR 11)<|sR 17
def tn (a0:aL):Option (Bool):=
 if decide ((a0.aF.length:Int)≤16) then(cZ a0.cv>>=fun v28=>if decide (v28=0) then(jQ a0 0) else(some false)) else(some false)
theorem HZ : LF Tryz.prog (tn a0) 228 [.agg [aM a0.cv.Cons,aM a0.cv.bp,.lit (a0.aF.map az)]] aB:=
 sF<|sL 6 a0.aF<|sB 0 (sC 3 pN fun _=>sB 0 (sL 23 a0.aF<|sK 2 [[0,1,7,8],[],[],[13]] [1,0] (CO _))<|sR 10)<|sR 15
def vT (a0:aL):Option (Int):=
 tn a0>>=fun v0=>if v0 then(some 0) else(some 2)
theorem H0 : LF Tryz.prog (vT a0) 149 [.agg [aM a0.cv.Cons,aM a0.cv.bp,.lit (a0.aF.map az)]] aI:=
 sF<|fI 5 HZ (sR 5)<|sR 5
noncomputable def Ev : St:=sN 8 (St.start T0 298 [aI 0,aI 0] ag.empty)
noncomputable def wL := fun a0 a1=>fZ Ev 0 fun o=>([[(0,aI a0),(7,aI a1),(8,aI 0),(5,.an)]],[])
noncomputable def Ew : St:=sN 8 (ak (aI 0) none (sN 9 (ak (aB true) none (sN 1 (dz wL)))))
noncomputable def Ex := fun a0 a1 a (w5:LI)=>fZ Ew 2 fun o=>([[(0,aI a0),(7,aI a1),(8,aI a),(5,.ai (o 1) 0 w5.length)]],[((o 1),.arr 1 (w5.map (aA .i64)))])
def km (a0 a1 a:Int)(w5:LI):Option (LI):=
 if decide (a<a1) then(if cy .i64 (a0+a) then(if decide (w5.length+[(a0+a)].length≤1048576) then(if cy .i64 (a+1) then(km a0 a1 (a+1) (w5++[(a0+a)])) else none) else none) else none) else(some w5)
 partial_fixpoint
variable {a1 : Int}
theorem Ac {a0:Int}:(∀ b w5,LH Tryz.prog (km a0 a1 b w5) aN (Ex a0 a1 b w5)):=by
 refine km.partial_correctness _ _ _ ?_
 exact fun km a b w5=>sB 1 (sI 9<|sA 1 1 2 3<|sI 3<|sM 2 [[0,7,8,5]] [3] [(1,3)] 4 (a _ _))<|Hb 6 1
def tq (a0 a1:Int):Option (LI):=
 if decide (0<a1) then(if cy .i64 (a0+0) then(km a0 a1 1 [(a0+0)]) else none) else(some ([]:LI))
theorem BL {a0:Int}:LH Tryz.prog (tq a0 a1) aN (wL a0 a1):=
 sB 1 (sI 9<|sK 8 [[0,7,8,5]] [1] (Ac _ _))<|Td 6
def oC (a0 a1:Int):Option (LI):=
 tq a0 a1
theorem wM {a0:Int}:LF Tryz.prog (oC a0 a1) 298 [aI a0,aI a1] aN:=
 sF<|sK 8 [[0,7,8,5]] [] BL
noncomputable def BM : St:=sN 2 (ak (aI 0) none (sN 6 (St.start T0 297 [.lit []] ag.empty)))
noncomputable def uf := fun a0=>fZ BM 0 fun o=>([[(6,aN a0),(7,aI (a0.length:Int)),(8,aI 0),(3,.an)]],[])
noncomputable def BN : St:=sN 6 (eH (fun S=>.val (.ai 1 0 0) (S.add (.arr 3 []))) (sN 7 (ak (.dO [aI 0]) none (sN 3 (ak (aB true) none (sN 1 (uf dd)))))))
noncomputable def BO := fun a0 a Ri=>fZ BN 2 fun o=>([[(6,aN a0),(7,aI (a0.length:Int)),(8,aI a),(3,.ai (o 1) 0 Ri.length)]],[((o 1),oT Ri)])
def iW (a0:LI)(a:Int)(Ri:LT):Option (LT):=
 if decide (a<(a0.length:Int)) then(bQ a0 a>>=fun b=>if decide (Ri.length+[(Term.mk 1 b ([]:LT))].length≤1048576) then(if cy .i64 (a+1) then(iW a0 (a+1) (Ri++[(Term.mk 1 b ([]:LT))])) else none) else none) else(some Ri)
 partial_fixpoint
theorem xX {a0:LI}:(∀ b Ri,LH Tryz.prog (iW a0 b Ri) aT (BO a0 b Ri)):=by
 refine iW.partial_correctness _ _ ?_
 exact fun iW a b Ri=>sB 1 (sX 3 fun c=>sW 7 1 2 3 [.agg [aI 1,aI c,.an]]<|sI 3<|sM 2 [[6,7,8,3]] [3] [(1,3)] 4 (a _ _))<|Hb 6 1
def pO (a0:LI):Option (LT):=
 if decide (0<(a0.length:Int)) then(bQ a0 0>>=fun a=>if decide ([(Term.mk 1 a ([]:LT))].length≤1048576) then(iW a0 1 [(Term.mk 1 a ([]:LT))]) else none) else(some ([]:LT))
theorem yY {a0:LI}:LH Tryz.prog (pO a0) aT (uf a0):=
 sB 1 (sX 3 fun a=>auu 7 0 1 [.agg [aI 1,aI a,.an]]<|sK 6 [[6,7,8,3]] [1] (xX _ _))<|Td 6
def ml (a0:LI):Option (LT):=
 pO a0
theorem ug {a0:LI}:LF Tryz.prog (ml a0) 297 [aN a0] aT:=
 sF<|sL 6 a0<|sK 2 [[6,7,8,3]] [] yY
def vU (a0:aL)(a1:Int):Option (dj):=
 bQ a0.cv.bp a1>>=fun a=>oC 0 a.bu>>=fun b=>ml b>>=fun c=>some (dj.mk c a.bu)
theorem H2 : LF Tryz.prog (vU a0 a1) 233 [.agg [aM a0.cv.Cons,aM a0.cv.bp,.lit (a0.aF.map az)],aI a1] (fun r=>.agg [aT r.args,aI r.next]):=
 sF<|sX 8 fun _=>sC 5 wM fun _=>sC 0 ug fun _=>sR 5
noncomputable def NI : St:=sN 2 (ak (aI 0) none (sN 17 (St.start T0 353 [.lit [],aI 0] ag.empty)))
noncomputable def NJ := fun a0 a1 a=>fZ NI 1 fun o=>([[(0,aT a0),(1,.fn (.func 371) [] [aP (o 0)]),(7,aI (a0.length:Int)),(8,aI a)],[],[]],[((o 0),oI a1)])
mutual
def jX (a0:LT)(a1 a:Int):Option (Bool):=
 if decide (a<(a0.length:Int)) then(bQ a0 a>>=fun b=>if decide ((b.Op:Int)=1) then(if decide ((b.N:Int)=a1) then(if decide (a≥0) then(some true) else(some false)) else(lV b.Kids a1>>=fun c=>if c then(if decide (a≥0) then(some true) else(some false)) else(if cy .i64 (a+1) then(jX a0 a1 (a+1)) else none))) else(lV b.Kids a1>>=fun NV=>if NV then(if decide (a≥0) then(some true) else(some false)) else(if cy .i64 (a+1) then(jX a0 a1 (a+1)) else none))) else(some false)
 partial_fixpoint
def lV (a0:LT)(a1:Int):Option (Bool):=
 jX a0 a1 0
 partial_fixpoint
end
theorem GY : (∀ a0 b,LH Tryz.prog (jX a0 a1 b) aB (NJ a0 a1 b))∧(∀ a0,LF Tryz.prog (lV a0 a1) 353 [aT a0,aI a1] aB):=by
 refine jX.mutual_partial_correctness _ _ _ ?_ ?_
 · exact fun jX lV a tY a0 b=>sB 1 (sX 9 fun _=>sB 8 (sB 4 (sB 15 (sR 6)<|sR 6)<|fI 5 (tY _) (sB 9 (sR 6)<|sR 6)<|sI 6<|sM 2 [[0,1,7,8],[],[]] [0] [] 2 (a _ _))<|fI 10 (tY _) (sB 9 (sR 6)<|sR 6)<|sI 6<|sM 2 [[0,1,7,8],[],[]] [0] [] 2 (a _ _))<|sR 12
 · exact fun jX a a0=>sF<|sL 17 a0<|sK 2 [[0,1,7,8],[],[]] [0] (a _ _)
theorem tY {a0:LT}:LF Tryz.prog (lV a0 a1) 353 [aT a0,aI a1] aB:=GY.2 _
noncomputable def CP : St:=sN 10 (ak (aB true) none (sN 10 (St.start T0 372 [.lit [],aI 0,.agg [aI 0,aI 0,.lit []]] ag.empty)))
noncomputable def CQ := fun a1 a2=>fZ CP 1 fun o=>([[(5,aP (o 0)),(7,.an),(1,aI a1),(12,.an),(13,aI 0),(14,aI 0)]],[((o 0),.arr 3 [aK a2])])
noncomputable def CR : St:=sN 9 (eH (fun S=>.val (.ai 1 0 0) S) (sN 3 (ak (aB false) none (sN 10 (St.start T0 372 [.lit [],aI 0,.agg [aI 0,aI 0,.lit []]] ag.empty)))))
noncomputable def CT := fun a1 a2=>fZ CR 2 fun o=>([[(5,aP (o 0)),(7,.ai (o 1) 0 0),(1,aI a1),(12,.ai (o 1) 0 0),(13,aI 0),(14,aI 0)]],[((o 0),.arr 3 [aK a2]),((o 1),.arr 3 [])])
noncomputable def CU : St:=sN 9 (eH (fun S=>.val (.ai 2 0 0) ((S.del 1).add (.arr 3 []))) (sN 3 (ak (aB false) none (sN 10 (St.start T0 372 [.lit [],aI 0,.agg [aI 0,aI 0,.lit []]] ag.empty)))))
noncomputable def mF := fun a1 a2 b a za=>fZ CU 3 fun o=>([[(5,aP (o 0)),(7,.ai (o 2) 0 za.length),(1,aI a1),(12,.ai (o 2) 0 za.length),(13,aI b),(14,aI a)]],[((o 0),.arr 3 [aK a2]),((o 2),oT za)])
def ru (a1:Int)(a2:Term):Option (LT):=
 some ([]:LT)
theorem Ad {a2:Term}:LH Tryz.prog (ru a1 a2) aT (CQ a1 a2):=
 Td 8
def ry (a1:Int)(a2:Term):Option (LT):=
 some []
theorem Ae {a2:Term}:LH Tryz.prog (ry a1 a2) aT (CT a1 a2):=
 sE (by exact bN EE 8 (v:=.ai 1 0 0) kr (Fz.zf (sz:=3) (es:=[]) kr rfl EB.nil))
mutual
def dF (a1:Int)(a2:Term)(e a:Int)(za:LT):Option (LT):=
 if decide (a<e) then(bQ za a>>=fun g=>bQ za a>>=fun b=>if decide ((b.Op:Int)=1) then(if decide ((b.N:Int)=a1) then(bQ za a>>=fun h=>bQ za a>>=fun i=>if cy .i64 (a+1) then(dF a1 a2 e (a+1) (za.set (a:Int).toNat a2)) else none) else(hJ b.Kids a1 a2>>=fun v53=>bQ za a>>=fun j=>bQ za a>>=fun c=>if cy .i64 (a+1) then(dF a1 a2 e (a+1) (za.set (a:Int).toNat (Term.mk c.Op c.N v53))) else none)) else(hJ b.Kids a1 a2>>=fun f=>bQ za a>>=fun k=>bQ za a>>=fun d=>if cy .i64 (a+1) then(dF a1 a2 e (a+1) (za.set (a:Int).toNat (Term.mk d.Op d.N f))) else none)) else(some za)
 partial_fixpoint
def hJ (a0:LT)(a1:Int)(a2:Term):Option (LT):=
 (if a0.isEmpty then(ry a1 a2) else(if decide (([]:LT).length+a0.length≤1048576) then(dF a1 a2 ((([]:LT)++a0).length) 0 (([]:LT)++a0)) else none))>>=fun z=>if a0.isEmpty then((ru a1 a2)>>=Z0 z) else some z
 partial_fixpoint
end
theorem yZ {a2:Term}:(∀ h b za,LH Tryz.prog (dF a1 a2 h b za) aT (mF a1 a2 h b za))∧(∀ a0,LF Tryz.prog (hJ a0 a1 a2) 372 [aT a0,aI a1,aK a2] aT):=by
 refine dF.mutual_partial_correctness _ _ _ _ ?_ ?_
 · exact fun dF hJ a mG h b za=>sB 1 (aj6 4 2 fun _ _=>sV fun c g=>sT (bF EE 0 (fun S=>WS Tryz.prog S 54 (.ptr 2 (0+(b:Int).toNat) 0)) (fun S=>.val (aK c) S) kr kr (zG (n:=3) (enc:=cI) (xs:=za) (i:=b) g kr (ga c) kr kr))<|sB 6 (sB 4 (aj6 5 2 fun _ _=>auw 0 2 a2 fun _=>sI 2<|by unfold mF;rw[show za.length=(za.set (b:Int).toNat a2).length by simp];exact sM 2 [[5,7,1,12,13,14]] [0,2] [] 4 (a _ _ _))<|sC 8 (mG _) fun v53=>aj6 0 2 fun _ _=>asV 1 2 v53 fun d=>sI 2<|by unfold mF;rw[show za.length=(za.set (b:Int).toNat (Term.mk d.Op d.N v53)).length by simp];exact sM 2 [[5,7,1,12,13,14]] [0,2] [] 4 (a _ _ _))<|sC 13 (mG _) fun e=>aj6 0 2 fun _ _=>asV 1 2 e fun f=>sI 2<|by unfold mF;rw[show za.length=(za.set (b:Int).toNat (Term.mk f.Op f.N e)).length by simp];exact sM 2 [[5,7,1,12,13,14]] [0,2] [] 4 (a _ _ _))<|Hb 6 2
 · exact fun dF a a0=>sF<|sO 10 a0 (sK 10 [[5,7,1,12,13,14]] [0] Ad)<|sS (fun c1=>sT (bF EE 3 (fun S=>mQ Tryz.prog S 52 52 (.ai 1 0 0) (aT a0)) (fun S=>.val (.ai 1 0 0) S) kr kr (dJ (enc:=cI) (el:=54) (sz:=3) (ys:=a0) kr kr (bC _ (.inl rfl)) c1 (bC (enc:=cI) (ys:=([]:LT)) _ (.inr ⟨1,3,rfl,by kernel_rfl⟩)) (ed (enc:=cI) (fun x=>by rw[ga];rfl) (fun x=>by rw[ga];rfl) _)))<|sK 9 [[5,7,1,12,13,14]] [0,1] Ae) fun c1=>Rh 3 1 2 (bK c1)<|sK 9 [[5,7,1,12,13,14]] [0,2] (a _ _ _)
theorem mG {a0:LT}{a2:Term}:LF Tryz.prog (hJ a0 a1 a2) 372 [aT a0,aI a1,aK a2] aT:=yZ.2 _
def nm (a0:dj)(a1:aH)(a2 a3:Int):Option (dj×LI):=
 bQ a1.Cons a3>>=fun b=>oC a0.next b.bu>>=fun a=>ml a>>=fun c=>hJ a0.args a2 (Term.mk 3 a3 c)>>=fun v3=>if cy .i64 (a0.next+(a.length:Int)) then(some ((dj.mk v3 (a0.next+(a.length:Int))),a)) else none
variable {a2 : Int}
theorem Af {a0:dj}{a1:aH}{a3:Int}:LF Tryz.prog (nm a0 a1 a2 a3) 354 [.agg [aT a0.args,aI a0.next],aG a1,aI a2,aI a3] (fun r=>.bO [.agg [aT r.1.args,aI r.1.next],aN r.2]):=
 sF<|sX 12 fun _=>sC 3 wM fun a=>sC 4 ug fun _=>sC 9 mG fun _=>sL 3 a<|sI 0<|sR 7
noncomputable def uG : St:=sN 2 (ak (aI 0) none (sN 2 (ak (aB false) none (sN 0 (ak (aI 0) none (sN 1 (ak (aI 0) none (sN 4 (St.start T0 355 [.lit [],.lit []] ag.empty)))))))))
noncomputable def uH := fun a0 a1 a=>fZ uG 0 fun o=>([[(1,aN a1),(0,aN a0),(12,aI (a0.length:Int)),(13,aI a)]],[])
def eD (a0 a1:LI)(a:Int):Option (Bool):=
 if decide (a<(a0.length:Int)) then(bQ a0 a>>=fun b=>bQ a1 a>>=fun c=>if(!decide (b=c)) then(some false) else(if cy .i64 (a+1) then(eD a0 a1 (a+1)) else none)) else(some true)
 partial_fixpoint
theorem rT {a0:LI}{a1:LI}:(∀ b,LH Tryz.prog (eD a0 a1 b) aB (uH a0 a1 b)):=by
 refine eD.partial_correctness _ _ _ ?_
 exact fun eD a b=>sB 1 (sX 9 fun _=>sX 3 fun _=>sB 1 (sR 5)<|sI 3<|sK 2 [[1,0,12,13]] [] (a _))<|sR 5
def dD (a0 a1:LI):Option (Bool):=
 if(!decide ((a0.length:Int)=(a1.length:Int))) then(some false) else(eD a0 a1 0)
theorem m3 {a0:LI}{a1:LI}:LF Tryz.prog (dD a0 a1) 355 [aN a0,aN a1] aB:=
 sF<|sL 4 a0<|sL 1 a1<|sB 0 (sR 4)<|sL 2 a0<|sK 2 [[1,0,12,13]] [] (rT _)
@[simp] noncomputable def fm := fun gu a12 (a:LI) (o:NM)=>(([aT gu,aT a12,.ai (o 0) 0 a.length],[.arr 1 (a.map (aA .i64))]):TC)
@[simp] noncomputable def ir := fun(r:(LI×Bool)) (o:NM)=>((aB r.2,[some (.arr 1 (r.1.map (aA .i64)))],[]):TB)
noncomputable def pY : St:=sN 2 (ak (aI 0) none (sN 4 (St.start T0 374 ((dz fm id).1) (pg 1 (nr 0 ((dz fm id).2))))))
noncomputable def e8 := fun gu a12 (b:LI) a (yJ:LI)=>fZ pY 1 fun o=>([[(2,.ai (o 0) 0 yJ.length),(1,aT a12),(10,aT gu),(11,aI (gu.length:Int)),(12,aI a)]],[((o 0),.arr 1 (yJ.map (aA .i64)))])
noncomputable def Ag : St:=sN 127 (W8 1 (aI 0) (sN 13 (St.start T0 356 [.agg [.lit [],aI 0],.agg [aI 0,.lit [],aI 0,aI 0,.lit [],aI 0]] ag.empty)))
noncomputable def Ah := fun(a0:dj) (a1:bn) (Aq:LI)=>fZ Ag 4 fun o=>([[(6,.ai (o 3) 0 Aq.length),(2,aP (o 0)),(3,aP (o 1))]],[((o 3),.arr 1 (Aq.map (aA .i64))),((o 0),.arr 2 [.agg [aT a0.args,aI a0.next]]),((o 1),.arr 6 [.agg [aI a1.vt,aT a1.cJ,aI a1.gU.Op,aI a1.gU.N,aT a1.gU.Kids,aI a1.bf]])])
mutual
def bB (gu a12:LT)(f:LI)(c:Int)(yJ:LI):Option (LI×Bool):=
 if decide (c<(gu.length:Int)) then(bQ gu c>>=fun a=>bQ a12 c>>=fun b=>if decide ((a.Op:Int)=1) then(if decide ((b.Op:Int)=1) then(bQ yJ a.N>>=fun g=>bQ yJ a.N>>=fun h=>if cy .i64 (c+1) then(bB gu a12 f (c+1) (yJ.set (a.N:Int).toNat b.N)) else none) else(if(!decide ((a.Op:Int)=b.Op)) then(some (yJ,false)) else(if(!decide ((a.N:Int)=b.N)) then(some (yJ,false)) else(bG a.Kids b.Kids yJ>>=fun d=>if decide (d.1.length=yJ.length) then(if d.2 then(if cy .i64 (c+1) then(bB gu a12 f (c+1) d.1) else none) else(some (d.1,false))) else none)))) else(if(!decide ((a.Op:Int)=b.Op)) then(some (yJ,false)) else(if(!decide ((a.N:Int)=b.N)) then(some (yJ,false)) else(bG a.Kids b.Kids yJ>>=fun e=>if decide (e.1.length=yJ.length) then(if e.2 then(if cy .i64 (c+1) then(bB gu a12 f (c+1) e.1) else none) else(some (e.1,false))) else none)))) else(some (yJ,true))
 partial_fixpoint
def bG (gu a12:LT)(a:LI):Option (LI×Bool):=
 bB gu a12 a 0 a
 partial_fixpoint
end
theorem nZ  : (∀ gu a12 c e yJ,LJ Tryz.prog (bB gu a12 c e yJ) 1 ir (e8 gu a12 c e yJ))∧(∀ gu a12 c,LG Tryz.prog (bG gu a12 c) 374 1 (fm gu a12 c) ir):=by
 refine bB.mutual_partial_correctness _ _ ?_ ?_
 · exact fun bB bG a e9 gu a12 c e yJ=>sB 1 (sX 4 fun b=>sX 7 fun d=>sB 6 (sB 3 (sV fun _ f=>sT (bF EE 7 (fun S=>w4 Tryz.prog S 45 (.ai 0 0 yJ.length) (aI b.N)) (fun S=>.val (.ptr 0 (0+(b.N:Int).toNat) 0) S) kr kr (lK (xs:=yJ) (es:=yJ.map (aA .i64)) (el:=3) (n:=1) f (by first | rfl | (simp;done) | omega | (simp;omega)) kr kr kr))<|sV fun k g=>sT (bF EE 0 (fun S=>Lh Tryz.prog S 3 (.ptr 0 (0+(b.N:Int).toNat) 0) (aI d.N)) (fun S=>.skip (S.set 0 (.arr 1 ((yJ.set (b.N:Int).toNat d.N).map (aA .i64))))) kr kr (py (n:=1) (m:=1) (enc:=(aA .i64)) (xs:=yJ) (i:=b.N) (x' := d.N) g kr (cs:=(AV.agg [aI k]).cells) rfl kr kr rfl))<|sI 2<|by unfold e8;rw[show yJ.length=(yJ.set (b.N:Int).toNat d.N).length by simp];exact Jf 2 [[2,1,10,11,12]] [0] [] 3 (a _ _ _ _ _))<|sB 6 (mo 20 (aB false) [0])<|sB 5 (mo 14 (aB false) [0])<|sV fun l h=>sG fun o=>N2 7 (e9 _ _ _ l h _ 3 [0] wO) (sI 4<|by unfold e8;rw[←o];exact Jf 2 [[2,1,10,11,12]] [0] [] 3 (a _ _ _ _ _))<|mo 6 (aB false) [0])<|sB 10 (mo 20 (aB false) [0])<|sB 5 (mo 14 (aB false) [0])<|sV fun p j=>sG fun q=>N2 7 (e9 _ _ _ p j _ 3 [0] wO) (sI 4<|by unfold e8;rw[←q];exact Jf 2 [[2,1,10,11,12]] [0] [] 3 (a _ _ _ _ _))<|mo 6 (aB false) [0])<|mo 5 (aB true) [0]
 · exact fun bB a gu a12 c=>Qa 1 (sL 4 gu<|wi 2 [[2,1,10,11,12]] [0] (a _ _ _ _ _))
theorem e9 {gu:LT}{a12:LT}{a:LI}:LG Tryz.prog (bG gu a12 a) 374 1 (fm gu a12 a) ir:=nZ.2 _ _ _
def oL (a0:dj)(a1:bn)(Aq:LI):Option (LI×Bool):=
 bG a1.cJ a0.args Aq>>=fun a=>if decide (a.1.length=Aq.length) then(if a.2 then(some (a.1,true)) else(some (a.1,false))) else none
theorem bj {a0:dj}{a1:bn}{Aq:LI}:LH Tryz.prog (oL a0 a1 Aq) (fun r=>.bO [aN r.1,aB r.2]) (Ah a0 a1 Aq):=
 sV fun a b=>sG fun _=>N2 5 (e9 a b _ 4 [3] wO) (sE (by exact bN EE 8 (v:=.bO [.ai 3 0 Aq.length,aB true]) kr (Fz.bw (Fz.lT (sz:=1) (es:=(a.1.map (aA .i64))) kr (by first | (simp;done) | (simp;omega)) pl) (.pure pv))))<|sE (by exact bN EE 8 (v:=.bO [.ai 3 0 Aq.length,aB false]) kr (Fz.bw (Fz.lT (sz:=1) (es:=(a.1.map (aA .i64))) kr (by first | (simp;done) | (simp;omega)) pl) (.pure pv)))
def oN (a0:dj)(a1:bn)(k:Int):Option (LI×Bool):=
 oL a0 a1 (List.replicate k.toNat (-1))
def jy (a0:dj)(a1:bn):Option (LI×Bool):=
 if decide (0≤a1.bf∧a1.bf≤20) then(oN a0 a1 a1.bf) else none
theorem Ai {a0:dj}{a1:bn}:LF Tryz.prog (jy a0 a1) 356 [.agg [aT a0.args,aI a0.next],.agg [aI a1.vt,aT a1.cJ,aI a1.gU.Op,aI a1.gU.N,aT a1.gU.Kids,aI a1.bf]] (fun r=>.bO [aN r.1,aB r.2]):=
 sF<|aut 13 1 (F:=oN a0 a1) fun k h=>match k,h with | 0,_=>sK 127 [[6,2,3]] [3,0,1] bj | 1,_=>sK 127 [[6,2,3]] [3,0,1] bj | 2,_=>sK 147 [[6,2,3]] [3,0,1] bj | 3,_=>sK 167 [[6,2,3]] [3,0,1] bj | 4,_=>sK 167 [[6,2,3]] [3,0,1] bj | 5,_=>sK 187 [[6,2,3]] [3,0,1] bj | 6,_=>sK 187 [[6,2,3]] [3,0,1] bj | 7,_=>sK 187 [[6,2,3]] [3,0,1] bj | 8,_=>sK 187 [[6,2,3]] [3,0,1] bj | 9,_=>sK 207 [[6,2,3]] [3,0,1] bj | 10,_=>sK 207 [[6,2,3]] [3,0,1] bj | 11,_=>sK 207 [[6,2,3]] [3,0,1] bj | 12,_=>sK 207 [[6,2,3]] [3,0,1] bj | 13,_=>sK 207 [[6,2,3]] [3,0,1] bj | 14,_=>sK 207 [[6,2,3]] [3,0,1] bj | 15,_=>sK 207 [[6,2,3]] [3,0,1] bj | 16,_=>sK 207 [[6,2,3]] [3,0,1] bj | 17,_=>sK 227 [[6,2,3]] [3,0,1] bj | 18,_=>sK 227 [[6,2,3]] [3,0,1] bj | 19,_=>sK 227 [[6,2,3]] [3,0,1] bj | 20,_=>sK 227 [[6,2,3]] [3,0,1] bj | n+21,h=>absurd h (by omega)
noncomputable def PR : St:=sN 2 (ak (aI 0) none (sN 8 (St.start T0 235 [.agg [.lit [],.lit [],.lit []],aI 0] ag.empty)))
noncomputable def Gp := fun(a0:aL) a1 a=>fZ PR 1 fun o=>([[(1,aI a1),(9,.lit (a0.aF.map az)),(10,aI (a0.aF.length:Int)),(11,aI a),(5,.an)]],[])
noncomputable def PS : St:=sN 2 (ak (aI 0) none (sN 8 (ak (aB true) none (sN 8 (ak (.dO [aI 0,.lit [],aI 0,aI 0,.lit [],aI 0]) none (sN 4 (ak (aB true) none (sN 1 (dz Gp)))))))))
noncomputable def PU := fun(a0:aL) a1 a (y9:LI)=>fZ PS 4 fun o=>([[(1,aI a1),(9,.lit (a0.aF.map az)),(10,aI (a0.aF.length:Int)),(11,aI a),(5,.ai (o 3) 0 y9.length)]],[((o 3),.arr 1 (y9.map (aA .i64)))])
def nS (a0:aL)(a1 a:Int)(y9:LI):Option (LI):=
 if decide (a<(a0.aF.length:Int)) then(bQ a0.aF a>>=fun b=>if decide ((b.vt:Int)=a1) then(if decide (y9.length+[a].length≤1048576) then(if cy .i64 (a+1) then(nS a0 a1 (a+1) (y9++[a])) else none) else none) else(if cy .i64 (a+1) then(nS a0 a1 (a+1) y9) else none)) else(some y9)
 partial_fixpoint
theorem H3 : (∀ b y9,LH Tryz.prog (nS a0 a1 b y9) aN (PU a0 a1 b y9)):=by
 refine nS.partial_correctness _ _ _ ?_
 exact fun nS a b y9=>sB 1 (sX 4 fun _=>sB 8 (sA 4 3 5 6<|sI 3<|sM 2 [[1,9,10,11,5]] [6] [(3,6)] 7 (a _ _))<|sI 2<|sM 2 [[1,9,10,11,5]] [3] [] 5 (a _ _))<|Hb 6 3
def sg (a0:aL)(a1 a:Int):Option (LI):=
 if decide (a<(a0.aF.length:Int)) then(bQ a0.aF a>>=fun b=>if decide ((b.vt:Int)=a1) then(if cy .i64 (a+1) then(nS a0 a1 (a+1) [a]) else none) else(if cy .i64 (a+1) then(sg a0 a1 (a+1)) else none)) else(some ([]:LI))
 partial_fixpoint
theorem H4 : (∀ b,LH Tryz.prog (sg a0 a1 b) aN (Gp a0 a1 b)):=by
 refine sg.partial_correctness _ _ _ ?_
 exact fun sg a b=>sB 1 (sX 4 fun _=>sB 8 (sI 8<|sK 2 [[1,9,10,11,5]] [3] (H3 _ _))<|sI 2<|sM 2 [[1,9,10,11,5]] [] [] 2 (a _))<|Td 6
def AL (a0:aL)(a1:Int):Option (LI):=
 sg a0 a1 0
theorem Gq : LF Tryz.prog (AL a0 a1) 235 [.agg [aM a0.cv.Cons,aM a0.cv.bp,.lit (a0.aF.map az)],aI a1] aN:=
 sF<|sL 8 a0.aF<|sK 2 [[1,9,10,11,5]] [] (H4 _)
noncomputable def H5 : St:=sN 2 (ak (aI 0) none (sN 23 (ak (aB true) none (sN 0 (ak (aI 0) none (sN 3 (ak (aB true) none (sN 0 (ak (aI 0) none (sN 20 (St.start T0 151 [.agg [.lit [],.lit [],.lit []],aI 0] ag.empty)))))))))))
noncomputable def H6 := fun(a0:aL) a1 a=>fZ H5 4 fun o=>([[(0,.lit (a0.aF.map az)),(1,.fn (.func 326) [] [aP (o 3)]),(7,aI (a0.aF.length:Int)),(8,aI a)],[],[],[(13,aB true)],[(2,aP (o 1)),(1,aI a1)],[(1,aI a1),(2,aP (o 0))]],[((o 3),.arr 1 [.fn (.func 290) [] [aP (o 2)]]),((o 1),.arr 3 [.agg [aM a0.cv.Cons,aM a0.cv.bp,.lit (a0.aF.map az)]]),((o 0),.arr 3 [.agg [aM a0.cv.Cons,aM a0.cv.bp,.lit (a0.aF.map az)]]),((o 2),.arr 3 [.agg [aM a0.cv.Cons,aM a0.cv.bp,.lit (a0.aF.map az)]])])
def jR (a0:aL)(a1 a:Int):Option (LI×Int):=
 if decide (a<(a0.aF.length:Int)) then(bQ a0.aF a>>=fun b=>vd a0.cv b>>=fun c=>if c then(if cy .i64 (a+1) then(jR a0 a1 (a+1)) else none) else(if decide (a≥0) then(some (([]:LI),2)) else(if decide (0≤a1) then(if decide (a1<(a0.cv.bp.length:Int)) then(AL a0 a1>>=fun d=>some (d,0)) else(some (([]:LI),2))) else(some (([]:LI),2))))) else(if decide (0≤a1) then(if decide (a1<(a0.cv.bp.length:Int)) then(AL a0 a1>>=fun e=>some (e,0)) else(some (([]:LI),2))) else(some (([]:LI),2)))
 partial_fixpoint
theorem CV : (∀ b,LH Tryz.prog (jR a0 a1 b) (fun r=>.bO [aN r.1,aI r.2]) (H6 a0 a1 b)):=by
 refine jR.partial_correctness _ _ _ ?_
 exact fun jR a b=>sB 1 (sX 9 fun _=>fI 16 Bu (sI 9<|sM 2 [[0,1,7,8],[],[],[13],[2,1],[1,2]] [3,1,0,2] [] 6 (a _))<|sB 12 (sE (by exact bN EE 32 (v:=.bO [.an,aI 2]) kr (Fz.bw (.an) (.pure pv))))<|sB 13 (sL 6 a0.cv.bp<|sB 0 (sC 8 Gq fun _=>sR 4)<|sE (by exact bN EE 10 (v:=.bO [.an,aI 2]) kr (Fz.bw (.an) (.pure pv))))<|sE (by exact bN EE 18 (v:=.bO [.an,aI 2]) kr (Fz.bw (.an) (.pure pv))))<|sB 19 (sL 6 a0.cv.bp<|sB 0 (sC 8 Gq fun _=>sR 4)<|sE (by exact bN EE 10 (v:=.bO [.an,aI 2]) kr (Fz.bw (.an) (.pure pv))))<|sE (by exact bN EE 18 (v:=.bO [.an,aI 2]) kr (Fz.bw (.an) (.pure pv)))
def nI (a0:aL)(a1:Int):Option (LI×Int):=
 if decide ((a0.aF.length:Int)≤16) then(cZ a0.cv>>=fun a=>if decide (a=0) then(jR a0 a1 0) else(some (([]:LI),2))) else(some (([]:LI),2))
theorem qG : LF Tryz.prog (nI a0 a1) 151 [.agg [aM a0.cv.Cons,aM a0.cv.bp,.lit (a0.aF.map az)],aI a1] (fun r=>.bO [aN r.1,aI r.2]):=
 sF<|sL 20 a0.aF<|sB 0 (sC 3 pN fun _=>sB 0 (sL 23 a0.aF<|sK 2 [[0,1,7,8],[],[],[13],[2,1],[1,2]] [3,1,0,2] (CV _))<|sE (by exact bN EE 31 (v:=.bO [.an,aI 2]) kr (Fz.bw (.an) (.pure pv))))<|sE (by exact bN EE 36 (v:=.bO [.an,aI 2]) kr (Fz.bw (.an) (.pure pv)))
noncomputable def H7 : St:=sN 2 (ak (aI 0) none (sN 8 (ak (aB true) none (sN 11 (St.start T0 295 [.agg [aI 0,aI 0,.lit [],.lit [],aI 0,.lit []]] ag.empty)))))
noncomputable def zj := fun(a0:af)=>fZ H7 1 fun o=>([[(10,.lit (a0.bk.map aZ)),(11,aI (a0.bk.length:Int)),(12,aI 0),(3,.an)]],[])
noncomputable def H8 : St:=sN 6 (eH (fun S=>.val (.ai 3 0 0) (S.add (.arr 6 []))) (sN 8 (ak (.dO [aI 0,.lit [],aI 0,aI 0,.lit [],.lit [],aI 0,.lit []]) none (sN 3 (ak (aB true) none (sN 1 (zj dd)))))))
noncomputable def H9 := fun(a0:af) a (Li:(List af))=>fZ H8 4 fun o=>([[(10,.lit (a0.bk.map aZ)),(11,aI (a0.bk.length:Int)),(12,aI a),(3,.ai (o 3) 0 Li.length)]],[((o 3),.arr 6 (Li.map au))])
def gZ (a0:af)(a:Int)(Li:(List af)):Option ((List af)):=
 if decide (a<(a0.bk.length:Int)) then(bQ a0.bk a>>=fun b=>if decide (Li.length+[b.fh].length≤1048576) then(if cy .i64 (a+1) then(gZ a0 (a+1) (Li++[b.fh])) else none) else none) else(some Li)
 partial_fixpoint
theorem pP {a0:af}:(∀ b Li,LH Tryz.prog (gZ a0 b Li) (fun r=>.lit (r.map au)) (H9 a0 b Li)):=by
 refine gZ.partial_correctness _ _ ?_
 exact fun gZ a b Li=>sB 1 (sX 3 fun _=>sA 8 3 5 6 (hs:=agB)<|sI 3<|sM 2 [[10,11,12,3]] [6] [(3,6)] 7 (a _ _))<|sE (by exact bN EE 6 (v:=.ai 3 0 Li.length) kr (Fz.lT (sz:=6) (es:=(Li.map au)) kr (by first | (simp;done) | (simp;omega)) pl))
def rN (a0:af):Option ((List af)):=
 if decide (0<(a0.bk.length:Int)) then(bQ a0.bk 0>>=fun a=>if decide ([a.fh].length≤1048576) then(gZ a0 1 [a.fh]) else none) else(some ([]:List af))
theorem Ey {a0:af}:LH Tryz.prog (rN a0) (fun r=>.lit (r.map au)) (zj a0):=
 sB 1 (sX 3 fun _=>afG 8 2 3 (hs:=agB)<|sK 6 [[10,11,12,3]] [3] (pP _ _))<|Td 6
noncomputable def vV (a0:af):Option ((List af)):=
 (if a0.Kids.isEmpty then(gZ a0 0 []) else(if decide (([]:List af).length+a0.Kids.length≤1048576) then(gZ a0 0 (([]:List af)++a0.Kids)) else none))>>=fun z=>if a0.Kids.isEmpty then((rN a0)>>=Z0 z) else some z
theorem Ia {a0:af}:LF Tryz.prog (vV a0) 295 [.agg [aI a0.Op,aI a0.Var,.lit (a0.bk.map aZ),.lit (a0.Kids.map au),aI a0.bY,aN a0.bf]] (fun r=>.lit (r.map au)):=
 sF<|sO 11 a0.Kids (sL 8 a0.bk<|sK 2 [[10,11,12,3]] [] Ey)<|sS (fun WU=>sT (bF EE 3 (fun S=>mQ Tryz.prog S 28 28 (.ai 1 0 0) (.lit (a0.Kids.map au))) (fun S=>.val (.ai 1 0 0) S) kr kr (dJ (enc:=au) (el:=47) (sz:=6) (ys:=a0.Kids) kr kr (bC _ (.inl rfl)) WU (bC (enc:=au) (ys:=([]:List af)) _ (.inr ⟨1,6,rfl,by kernel_rfl⟩)) (ed (enc:=au) (fun x=>by rw[fj];rfl) (fun x=>by rw[fj];rfl) _)))<|sL 7 a0.bk<|sT (Cg EE 2 6 kr)<|sM 0 [[10,11,12,3]] [1] [(3,1),(1,3),(2,4)] 6 (pP _ _)) fun WU=>Rh 3 1 2 (bK WU)<|sL 7 a0.bk<|sT (Cg EE 2 7 kr)<|sM 0 [[10,11,12,3]] [2] [(3,2),(2,5)] 7 (pP _ _)
@[simp] noncomputable def fb := fun(a:af) m9 (mH:aL) (a18:af) a19 b (o:NM)=>(([.agg [aI a.Op,aI a.Var,.lit (a.bk.map aZ),.lit (a.Kids.map au),aI a.bY,aN a.bf],aP (o 0),aP (o 1)],[oY (o 2),.arr 1 [.fn (.func 293) [] [aP (o 0),aP (o 1)]],qZ Tryz.prog .ready 150 0 34 13295 [(1,aI m9),(3,aP (o 3)),(5,aP (o 4)),(6,aP (o 5)),(7,aP (o 6)),(8,aP (o 7))],.arr 3 [.agg [aM mH.cv.Cons,aM mH.cv.bp,.lit (mH.aF.map az)]],.arr 6 [.agg [aI a18.Op,aI a18.Var,.lit (a18.bk.map aZ),.lit (a18.Kids.map au),aI a18.bY,aN a18.bf]],.arr 1 [.sc (.map none)],.arr 1 [aB a19],oI b]):TC)
@[simp] noncomputable def fc := fun m9 (mH:aL) (a18:af) a19 (r:(Sum Int Unit)) (o:NM)=>(match r with | (Sum.inl y)=>(true,aB true,sm [oY (o 2),.arr 1 [.fn (.func 293) [] [aP (o 0),aP (o 1)]],qZ Tryz.prog .ready 150 0 34 13295 [(1,aI m9),(3,aP (o 3)),(5,aP (o 4)),(6,aP (o 5)),(7,aP (o 6)),(8,aP (o 7))],.arr 3 [.agg [aM mH.cv.Cons,aM mH.cv.bp,.lit (mH.aF.map az)]],.arr 6 [.agg [aI a18.Op,aI a18.Var,.lit (a18.bk.map aZ),.lit (a18.Kids.map au),aI a18.bY,aN a18.bf]],.arr 1 [.sc (.map none)],.arr 1 [aB a19],oI y],[]) | (Sum.inr y)=>(false,.eB 345 (.agg []),[some (oY (o 2)),some (.arr 1 [.fn (.func 293) [] [aP (o 0),aP (o 1)]]),none,some (.arr 3 [.agg [aM mH.cv.Cons,aM mH.cv.bp,.lit (mH.aF.map az)]]),some (.arr 6 [.agg [aI a18.Op,aI a18.Var,.lit (a18.bk.map aZ),.lit (a18.Kids.map au),aI a18.bY,aN a18.bf]]),some (.arr 1 [.sc (.map none)]),some (.arr 1 [aB a19]),none],[]):TP)
@[simp] noncomputable def cS := fun(a:af) (b:dj) (a74:aL) a75 (c:(List (Int×Int))) (o:NM)=>(([aP (o 0),.agg [aI a.Op,aI a.Var,.lit (a.bk.map aZ),.lit (a.Kids.map au),aI a.bY,aN a.bf],.agg [aT b.args,aI b.next]],[.arr 5 [.agg [aM a74.cv.Cons,aM a74.cv.bp,.lit (a74.aF.map az),aI a75,.cR (o 1)]],.mp (c.map (cg (aA .i64) (aA .i64)))]):TC)
@[simp] noncomputable def dC := fun(a74:aL) a75 (a:(List (Int×Int))) (r:(Sum (List (Int×Int)) (Sum Unit Unit))) (o:NM)=>(match r with | (Sum.inl y)=>(true,.bO [],sm [.arr 5 [.agg [aM a74.cv.Cons,aM a74.cv.bp,.lit (a74.aF.map az),aI a75,.cR (o 1)]],.mp (y.map (cg (aA .i64) (aA .i64)))],[]) | (Sum.inr (Sum.inl y))=>(false,.eB 345 (.agg []),sm [.arr 5 [.agg [aM a74.cv.Cons,aM a74.cv.bp,.lit (a74.aF.map az),aI a75,.cR (o 1)]],.mp (a.map (cg (aA .i64) (aA .i64)))],[]) | (Sum.inr (Sum.inr y))=>(false,.eB 345 (.agg []),[some (.arr 5 [.agg [aM a74.cv.Cons,aM a74.cv.bp,.lit (a74.aF.map az),aI a75,.cR (o 1)]]),none],[]):TP)
noncomputable def pe : St:=sN 2 (ak (aI 0) none (sN 20 (ak (.lit []) none (sN 11 (ak (aB true) none (sN 3 (ak (aI 0) none (sN 13 (St.start T0 293 ((dz fb id).1) (pg 8 (nr 0 ((dz fb id).2))))))))))))
noncomputable def pf := fun(d:af) m9 (mH:aL) (a18:af) a19 (e:Int) (a:((List af))) b c=>fZ pe 10 fun o=>([[(0,.lit (a.map au)),(1,.fn (.func 334) [] [aP (o 9)]),(7,aI (a.length:Int)),(8,aI b)],[],[],[(8,aB true)]],[((o 9),.arr 1 [.fn (.func 293) [] [aP (o 0),aP (o 1)]]),((o 0),oY (o 2)),((o 1),.arr 1 [.fn (.func 293) [] [aP (o 0),aP (o 1)]]),((o 2),qZ Tryz.prog .ready 150 0 34 13295 [(1,aI m9),(3,aP (o 3)),(5,aP (o 4)),(6,aP (o 5)),(7,aP (o 6)),(8,aP (o 7))]),((o 3),.arr 3 [.agg [aM mH.cv.Cons,aM mH.cv.bp,.lit (mH.aF.map az)]]),((o 4),.arr 6 [.agg [aI a18.Op,aI a18.Var,.lit (a18.bk.map aZ),.lit (a18.Kids.map au),aI a18.bY,aN a18.bf]]),((o 5),.arr 1 [.sc (.map none)]),((o 6),.arr 1 [aB a19]),((o 7),oI c)])
noncomputable def oU : St:=sN 2 (ak (aI 0) none (sN 10 (ak (aB true) none (sN 0 (ak (aI 0) none (sN 4 (ak (aB true) none (sN 0 (ak (aI 0) none (sN 4 (ak (aB true) none (sN 4 (ak (aB true) none (sN 3 (ak (aB true) none (sN 0 (ak (aI 0) none (sN 0 (ak (aI 0) none (sN 2 (ak (aI 0) none (sN 11 (ak (.fn (.func 337) [] []) none (sN 19 (ak (aB true) none (sN 4 (ak (aB true) none (sN 3 (ak (aB true) none (sN 6 (St.start T0 232 ((dz cS id).1) (pg 2 (nr 0 ((dz cS id).2))))))))))))))))))))))))))))))))))
noncomputable def oV := fun(a:af) (b:dj) (a74:aL) a75 (e:(List (Int×Int))) c (d:(List (Int×Int)))=>fZ oU 7 fun o=>([[(5,aP (o 6)),(0,aP (o 0)),(40,.lit (a.Kids.map au)),(41,aI (a.Kids.length:Int)),(42,aI c)],[]],[((o 6),.arr 2 [.agg [aT b.args,aI b.next]]),((o 0),.arr 5 [.agg [aM a74.cv.Cons,aM a74.cv.bp,.lit (a74.aF.map az),aI a75,.cR (o 1)]]),((o 1),.mp (d.map (cg (aA .i64) (aA .i64))))])
noncomputable def Ib : St:=sN 2 (ak (aI 0) none (sN 4 (ak (aB false) none (sN 0 (ak (aI 0) none (sN 4 (ak (aI 0) none (sN 3 (ak (aB false) none (sN 0 (ak (aI 0) none (sN 6 (St.start T0 96 [.agg [.lit [],.lit [],.lit [],.lit []]] ag.empty)))))))))))))
noncomputable def zk := fun(a0:bA) a=>fZ Ib 1 fun o=>([[(1,aP (o 0)),(25,.lit (a0.bP.map au)),(26,aI (a0.bP.length:Int)),(27,aI a)]],[((o 0),.arr 4 [.agg [aM a0.Prog.cv.Cons,aM a0.Prog.cv.bp,.lit (a0.Prog.aF.map az),.lit (a0.bP.map au)]])])
noncomputable def oW : St:=sN 2 (ak (aI 0) none (sN 12 (ak (aB true) none (sN 0 (ak (aI 0) none (sN 4 (ak (aB true) none (sN 6 (ak (aB true) none (sN 3 (ak (aB true) none (sN 0 (ak (aI 0) none (sN 0 (ak (aI 0) none (sN 2 (ak (aI 0) none (sN 11 (ak (.fn (.func 336) [] []) none (sN 19 (ak (aB true) none (sN 4 (ak (aB true) none (sN 3 (ak (aB true) none (sN 6 (St.start T0 232 ((dz cS id).1) (pg 2 (nr 0 ((dz cS id).2))))))))))))))))))))))))))))))
noncomputable def oX := fun(a:af) (b:dj) (a74:aL) a75 (f:(List (Int×Int))) c d (e:(List (Int×Int)))=>fZ oW 7 fun o=>([[(0,aP (o 0)),(4,aP (o 5)),(5,aP (o 6)),(39,.lit (a.bk.map aZ)),(40,aI (a.bk.length:Int)),(41,aI c),(6,aI d)],[]],[((o 0),.arr 5 [.agg [aM a74.cv.Cons,aM a74.cv.bp,.lit (a74.aF.map az),aI a75,.cR (o 1)]]),((o 5),.arr 6 [.agg [aI a.Op,aI a.Var,.lit (a.bk.map aZ),.lit (a.Kids.map au),aI a.bY,aN a.bf]]),((o 6),.arr 2 [.agg [aT b.args,aI b.next]]),((o 1),.mp (e.map (cg (aA .i64) (aA .i64))))])
noncomputable def Ic : St:=sN 2 (ak (aI 0) none (sN 22 (ak (aB false) none (sN 0 (ak (aI 0) none (sN 1 (eH (fun S=>.val (aI 0) S) (sN 10 (ak (.bO [.lit [],aI 0]) none (sN 29 (Fg (.bO []) (W9 2 (dC dd dd dd (Sum.inl dd)) [13,12] 14) (sN 1 (ak (.agg [.lit [],aI 0]) none (sN 16 (Fg (aB true) (W9 8 (fc dd dd dd dd (Sum.inl dd)) [10,11,9,2,3,4,5,6] 12) (sN 10 (prune 9 [1,3,5,6,7,8] (sN 34 (ak (.dO [aI 0,aI 0,.lit [],.lit [],aI 0,.lit []]) none (sN 4 (ak (aB true) none (sN 1 (dz zk)))))))))))))))))))))))
noncomputable def Ie := fun(a0:bA) a b c d (e:(List (Int×Int)))=>fZ Ic 16 fun o=>([[(0,aN a),(1,.fn (.func 237) [] [aP (o 15)]),(7,aI b),(8,aI c)],[],[],[(1,aP (o 0)),(25,.lit (a0.bP.map au)),(26,aI (a0.bP.length:Int)),(27,aI d),(56,aB false)]],[((o 15),.arr 1 [.fn (.func 153) [] [aP (o 14)]]),((o 0),.arr 4 [.agg [aM a0.Prog.cv.Cons,aM a0.Prog.cv.bp,.lit (a0.Prog.aF.map az),.lit (a0.bP.map au)]]),((o 14),.arr 1 [.cR (o 12)]),((o 12),.mp (e.map (cg (aA .i64) (aA .i64))))])
mutual
def bS (g:af)(m9:Int)(mH:aL)(a18:af)(a19:Bool)(h:Int)(b:((List af)))(a c:Int):Option (Sum Int Unit):=
 if decide (a<(b.length:Int)) then(bQ b a>>=fun d=>cd d m9 mH a18 a19 c>>=fun e=>(match e with | (Sum.inl f)=>if cy .i64 (a+1) then(bS g m9 mH a18 a19 h b (a+1) f) else none | (Sum.inr i)=>some (Sum.inr ()))) else(some (Sum.inl c))
 partial_fixpoint
def cd (b:af)(m9:Int)(mH:aL)(a18:af)(a19:Bool)(a:Int):Option (Sum Int Unit):=
 if cy .i64 (a+1) then(if decide (((a+1):Int)≤100) then(vV b>>=fun c=>bS b m9 mH a18 a19 a c 0 (a+1)) else(some (Sum.inr ()))) else none
 partial_fixpoint
end
variable {m9 : Int} {mH : aL} {a18 : af} {a19 : Bool}
theorem nJ : (∀ c d b e f,LP Tryz.prog (bS c m9 mH a18 a19 d b e f) 8 (fc m9 mH a18 a19) (pf c m9 mH a18 a19 d b e f))∧(∀ c d,afd Tryz.prog (cd c m9 mH a18 a19 d) 293 8 (fb c m9 mH a18 a19 d) (fc m9 mH a18 a19)):=by
 refine bS.mutual_partial_correctness _ _ _ _ _ _ ?_ ?_
 · exact fun bS cd a gH c d b e f=>sB 1 (sX 9 fun _=>sP 8 11 [0,1,2,3,4,5,6,7] (gH _ _) fun v=>match v with | .inl _=>sI 6<|akM 2 [[0,1,7,8],[],[],[8]] [9,0,1,2,3,4,5,6,7] [] 11 (a _ _ _ _ _) | .inr _=>zo 5 (.eB 345 (.agg [])) [0,1,2,3,4,5,6,7] (hu:=us (us (je (us (us (us (us (je iA)))))))))<|afF 17 (aB true) [0,1,2,3,4,5,6,7]
 · exact fun bS a c d=>asU 8 (sI 13<|sB 3 (sC 11 Ia fun b=>sL 20 b<|akJ 2 [[0,1,7,8],[],[],[8]] [9,0,1,2,3,4,5,6,7] (a _ _ _ _ _))<|zo 11 (.eB 345 (.agg [])) [0,1,2,3,4,5,6,7] (hu:=us (us (je (us (us (us (us (je iA))))))))) (hb:=by rintro(y | y)<;>exact bc)
theorem gH {a:af}{b:Int}:afd Tryz.prog (cd a m9 mH a18 a19 b) 293 8 (fb a m9 mH a18 a19 b) (fc m9 mH a18 a19):=nJ.2 _ _
mutual
def bh (c:af)(d:dj)(a74:aL)(a75:Int)(h:(List (Int×Int)))(a:Int)(b:(List (Int×Int))):Option (Sum (List (Int×Int)) (Sum Unit Unit)):=
 if decide (a<(c.Kids.length:Int)) then(bQ c.Kids a>>=fun e=>aS e d a74 a75 b>>=fun f=>(match f with | (Sum.inl g)=>if cy .i64 (a+1) then(bh c d a74 a75 h (a+1) g) else none | (Sum.inr (Sum.inl i))=>some (Sum.inr (Sum.inr ())) | (Sum.inr (Sum.inr j))=>some (Sum.inr (Sum.inr ())))) else(some (Sum.inl b))
 partial_fixpoint
def aS (a:af)(c:dj)(a74:aL)(a75:Int)(b:(List (Int×Int))):Option (Sum (List (Int×Int)) (Sum Unit Unit)):=
 if decide ((c.next:Int)≤60) then(if decide (1≤a.Op) then(if decide ((a.Op:Int)≤4) then(if decide (a.Op=1) then(if cy .i64 ((a.Kids.length:Int)+(a.bf.length:Int)) then(if decide ((((a.Kids.length:Int)+(a.bf.length:Int)):Int)=0) then(if decide ((a.bY:Int)=0) then(lV c.args a.Var>>=fun e=>if e then(if decide ((a.bk.length:Int)>0) then(aR a c a74 a75 b 0 (-1) b) else(some (Sum.inr (Sum.inl ())))) else(some (Sum.inr (Sum.inl ())))) else(some (Sum.inr (Sum.inl ())))) else(some (Sum.inr (Sum.inl ())))) else none) else(if decide (a.Op=2) then(if cy .i64 ((a.bk.length:Int)+(a.bf.length:Int)) then(if decide ((((a.bk.length:Int)+(a.bf.length:Int)):Int)=0) then(if decide ((a.Var:Int)=0) then(if decide ((a.bY:Int)=0) then(if decide (2≤(a.Kids.length:Int)) then(if decide ((a.Kids.length:Int)≤16) then(bh a c a74 a75 b 0 b) else(some (Sum.inr (Sum.inl ())))) else(some (Sum.inr (Sum.inl ())))) else(some (Sum.inr (Sum.inl ())))) else(some (Sum.inr (Sum.inl ())))) else(some (Sum.inr (Sum.inl ())))) else none) else(if decide (a.Op=3) then(if cy .i64 ((a.bk.length:Int)+(a.Kids.length:Int)) then(if decide ((((a.bk.length:Int)+(a.Kids.length:Int)):Int)=0) then(if decide ((a.Var:Int)=0) then(if decide (0≤a.bY) then(if decide ((a.bY:Int)<(a74.aF.length:Int)) then(bQ a74.aF a.bY>>=fun f=>if decide ((f.vt:Int)=a75) then(bQ a74.aF a.bY>>=fun g=>jy c g>>=fun d=>if d.2 then(dD d.1 a.bf>>=fun h=>if h then(if cy .i64 (((iJ b a.bY).getD 0)+1) then(some (Sum.inl (ky b a.bY (((iJ b a.bY).getD 0)+1)))) else none) else(some (Sum.inr (Sum.inl ())))) else(some (Sum.inr (Sum.inl ())))) else(some (Sum.inr (Sum.inl ())))) else(some (Sum.inr (Sum.inl ())))) else(some (Sum.inr (Sum.inl ())))) else(some (Sum.inr (Sum.inl ())))) else(some (Sum.inr (Sum.inl ())))) else none) else(if decide (a.Op=4) then(if cy .i64 ((a.bk.length:Int)+(a.Kids.length:Int)) then(if cy .i64 (((a.bk.length:Int)+(a.Kids.length:Int))+(a.bf.length:Int)) then(if decide (((((a.bk.length:Int)+(a.Kids.length:Int))+(a.bf.length:Int)):Int)=0) then(if decide ((a.Var:Int)=0) then(if decide ((a.bY:Int)=0) then(some (Sum.inl b)) else(some (Sum.inr (Sum.inl ())))) else(some (Sum.inr (Sum.inl ())))) else(some (Sum.inr (Sum.inl ())))) else none) else none) else none)))) else(some (Sum.inr (Sum.inl ())))) else(some (Sum.inr (Sum.inl ())))) else(some (Sum.inr (Sum.inl ())))
 partial_fixpoint
def aR (c:af)(f:dj)(a74:aL)(a75:Int)(k:(List (Int×Int)))(b g:Int)(d:(List (Int×Int))):Option (Sum (List (Int×Int)) (Sum Unit Unit)):=
 if decide (b<(c.bk.length:Int)) then(bQ c.bk b>>=fun a=>if decide (g<a.BQ) then(if decide ((a.BQ:Int)<(a74.cv.Cons.length:Int)) then(nm f a74.cv c.Var a.BQ>>=fun e=>dD a.bf e.2>>=fun h=>if h then(aS a.fh e.1 a74 a75 d>>=fun i=>(match i with | (Sum.inl j)=>if cy .i64 (b+1) then(aR c f a74 a75 k (b+1) a.BQ j) else none | (Sum.inr (Sum.inl l))=>some (Sum.inr (Sum.inr ())) | (Sum.inr (Sum.inr m))=>some (Sum.inr (Sum.inr ())))) else(some (Sum.inr (Sum.inr ())))) else(some (Sum.inr (Sum.inr ())))) else(some (Sum.inr (Sum.inr ())))) else(some (Sum.inl d))
 partial_fixpoint
end
variable {a74 : aL} {a75 : Int}
theorem m7 : (∀ c e d f h,LP Tryz.prog (bh c e a74 a75 d f h) 2 (dC a74 a75 d) (oV c e a74 a75 d f h))∧(∀ c e d,afd Tryz.prog (aS c e a74 a75 d) 232 2 (cS c e a74 a75 d) (dC a74 a75 d))∧(∀ c e d i j k,LP Tryz.prog (aR c e a74 a75 d i j k) 2 (dC a74 a75 d) (oX c e a74 a75 d i j k)):=by
 refine bh.mutual_partial_correctness _ _ _ _ _ ?_ ?_ ?_
 · exact fun bh aS a dy c e d f h=>sB 1 (sX 3 fun _=>sP 7 8 [0,1] (dy _ _ _) fun v=>match v with | .inl _=>sI 2<|akM 2 [[5,0,40,41,42],[]] [6,0,1] [] 8 (a _ _ _ _ _) | .inr (.inl _)=>zo 2 (.eB 345 (.agg [])) [0,1] (hu:=us (je iA)) | .inr (.inr _)=>zo 2 (.eB 345 (.agg [])) [0,1] (hu:=us (je iA)))<|afF 5 (.bO []) [0,1]
 · exact fun bh aR a b c e d=>asU 2 (sB 6 (sB 3 (sB 4 (sS (fun m=>sT (wT EE 19 (og Tryz.prog 404 (.agg [.sc .nilFunc,.fn (.func 336) [] [],.fn (.func 337) [] [],.fn (.func 338) [] [],.fn (.func 339) [] []]) (aI c.Op)) (.fn (.func 336) [] []) kr (by rw[of_decide_eq_true m];kernel_rfl))<|sL 11 c.Kids<|sL 2 c.bf<|sI 0<|sB 0 (sB 3 (fI 6 tY (sL 4 c.bk<|sB 0 (sL 12 c.bk<|akJ 2 [[0,4,5,39,40,41,6],[]] [0,5,6,1] (b _ _ _ _ _ _))<|zo 12 (.eB 345 (.agg [])) [0,1])<|zo 18 (.eB 345 (.agg [])) [0,1])<|zo 25 (.eB 345 (.agg [])) [0,1])<|zo 29 (.eB 345 (.agg [])) [0,1]) fun _=>sS (fun n=>sT (wT EE 19 (og Tryz.prog 404 (.agg [.sc .nilFunc,.fn (.func 336) [] [],.fn (.func 337) [] [],.fn (.func 338) [] [],.fn (.func 339) [] []]) (aI c.Op)) (.fn (.func 337) [] []) kr (by rw[of_decide_eq_true n];kernel_rfl))<|sL 11 c.bk<|sL 2 c.bf<|sI 0<|sB 0 (sB 3 (sB 4 (sL 4 c.Kids<|sB 0 (sL 4 c.Kids<|sB 0 (sL 10 c.Kids<|akJ 2 [[5,0,40,41,42],[]] [6,0,1] (a _ _ _ _ _))<|zo 12 (.eB 345 (.agg [])) [0,1])<|zo 18 (.eB 345 (.agg [])) [0,1])<|zo 24 (.eB 345 (.agg [])) [0,1])<|zo 29 (.eB 345 (.agg [])) [0,1])<|zo 33 (.eB 345 (.agg [])) [0,1]) fun _=>sS (fun o=>sT (wT EE 19 (og Tryz.prog 404 (.agg [.sc .nilFunc,.fn (.func 336) [] [],.fn (.func 337) [] [],.fn (.func 338) [] [],.fn (.func 339) [] []]) (aI c.Op)) (.fn (.func 338) [] []) kr (by rw[of_decide_eq_true o];kernel_rfl))<|sL 12 c.bk<|sL 2 c.Kids<|sI 0<|sB 0 (sB 3 (sB 4 (sL 9 a74.aF<|sB 0 (sX 9 fun _=>sB 6 (sX 18 fun _=>sC 2 Ai fun _=>WL 3 (fI 9 m3 (sT (lF EE 15 (fun S=>Rf Tryz.prog S 253 (.cR 1) (aI c.bY) false) (fun S=>.val (aI ((iJ d c.bY).getD 0)) S) kr kr (Oz (g:=(aA .i64)) (l:=d) (x:=c.bY) (z0:=0) kr kr))<|sI 0<|akQ 0 253 1 d c.bY (((iJ d c.bY).getD 0)+1)<|afF 5 (.bO []) [0,1])<|zo 12 (.eB 345 (.agg [])) [0,1])<|zo 22 (.eB 345 (.agg [])) [0,1])<|zo 13 (.eB 345 (.agg [])) [0,1])<|zo 30 (.eB 345 (.agg [])) [0,1])<|zo 41 (.eB 345 (.agg [])) [0,1])<|zo 46 (.eB 345 (.agg [])) [0,1])<|zo 50 (.eB 345 (.agg [])) [0,1]) fun _=>sS (fun p=>sT (wT EE 19 (og Tryz.prog 404 (.agg [.sc .nilFunc,.fn (.func 336) [] [],.fn (.func 337) [] [],.fn (.func 338) [] [],.fn (.func 339) [] []]) (aI c.Op)) (.fn (.func 339) [] []) kr (by rw[of_decide_eq_true p];kernel_rfl))<|sL 11 c.bk<|sL 2 c.Kids<|sI 0<|sL 2 c.bf<|sI 0<|sB 0 (sB 3 (sB 4 (afF 11 (.bO []) [0,1])<|zo 12 (.eB 345 (.agg [])) [0,1])<|zo 17 (.eB 345 (.agg [])) [0,1])<|zo 21 (.eB 345 (.agg [])) [0,1]) fun _=>s0)<|zo 11 (.eB 345 (.agg [])) [0,1])<|zo 16 (.eB 345 (.agg [])) [0,1])<|zo 20 (.eB 345 (.agg [])) [0,1]) (hb:=by rintro(y | y | y)<;>exact bc)
 · exact fun aS aR dy b c e d i j k=>sB 1 (sX 3 fun _=>sB 8 (sL 9 a74.cv.Cons<|sB 0 (sC 24 Af fun _=>fI 11 m3 (sP 11 9 [0,1] (dy _ _ _) fun v=>match v with | .inl _=>sI 2<|akM 2 [[0,4,5,39,40,41,6],[]] [0,5,6,1] [] 9 (b _ _ _ _ _ _) | .inr (.inl _)=>zo 2 (.eB 345 (.agg [])) [0,1] (hu:=us (je iA)) | .inr (.inr _)=>zo 2 (.eB 345 (.agg [])) [0,1] (hu:=us (je iA)))<|zo 11 (.eB 345 (.agg [])) [0,1] (hu:=us (je iA)))<|zo 13 (.eB 345 (.agg [])) [0,1] (hu:=us (je iA)))<|zo 24 (.eB 345 (.agg [])) [0,1] (hu:=us (je iA)))<|afF 5 (.bO []) [0,1]
theorem dy {b:af}{c:dj}{a:(List (Int×Int))}:afd Tryz.prog (aS b c a74 a75 a) 232 2 (cS b c a74 a75 a) (dC a74 a75 a):=m7.2.1 _ _ _
mutual
def gi (a0:bA)(c:LI)(d a b:Int)(e:(List (Int×Int))):Option (Bool):=
 if decide (a<d) then(bQ c a>>=fun f=>if decide ((((iJ e f).getD 0):Int)=1) then(if cy .i64 (a+1) then(gi a0 c d (a+1) b e) else none) else(if decide (a≥0) then(some false) else(if cy .i64 (b+1) then(fE a0 (b+1)) else none))) else(if cy .i64 (b+1) then(fE a0 (b+1)) else none)
 partial_fixpoint
def fE (a0:bA)(a:Int):Option (Bool):=
 if decide (a<(a0.bP.length:Int)) then(bQ a0.bP a>>=fun b=>cd b a a0.Prog b false 0>>=fun e=>(match e with | (Sum.inl h)=>vU a0.Prog a>>=fun f=>aS b f a0.Prog a ([]:(List (Int×Int)))>>=fun g=>(match g with | (Sum.inl d)=>nI a0.Prog a>>=fun c=>if(!decide ((d.length:Int)=(c.1.length:Int))) then(some false) else(gi a0 c.1 (c.1.length:Int) 0 a d) | (Sum.inr (Sum.inl i))=>nI a0.Prog a>>=fun j=>some false | (Sum.inr (Sum.inr k))=>nI a0.Prog a>>=fun l=>some false) | (Sum.inr m)=>nI a0.Prog a>>=fun n=>some false)) else(some true)
 partial_fixpoint
end
theorem CW {a0:bA}:(∀ d e f g c,LH Tryz.prog (gi a0 d e f g c) aB (Ie a0 d e f g c))∧(∀ h,LH Tryz.prog (fE a0 h) aB (zk a0 h)):=by
 refine gi.mutual_partial_correctness _ _ _ ?_ ?_
 · exact fun gi fE a b d e f g c=>sB 1 (sX 9 fun k=>afe 13 253 12 c k<|sB 0 (sI 9<|sK 2 [[0,1,7,8],[],[],[1,25,26,27,56]] [15,0,14,12] (a _ _ _ _ _))<|sB 12 (sR 13)<|sI 11<|sM 2 [[1,25,26,27]] [0] [] 16 (b _))<|sI 17<|sM 2 [[1,25,26,27]] [0] [] 16 (b _)
 · exact fun gi a h=>sB 1 (sX 4 fun _=>sT (AJ EE 34 9 [1,3,5,6,7,8] kr)<|sP 10 12 [10,11,9,2,3,4,5,6] gH fun v=>match v with | .inl _=>(sC 16 H2 fun _=>sP 1 14 [13,12] dy fun v=>match v with | .inl i=>sC 29 qG fun j=>sT (bF EE 10 (fun S=>some (.val (aI ((i.map (cg (aA .i64) (aA .i64))).length:Nat)) S)) (fun S=>.val (aI (i.length:Int)) S) kr kr ((alU _ _)))<|sL 1 j.1<|sB 0 (sR 11)<|sL 22 j.1<|sK 2 [[0,1,7,8],[],[],[1,25,26,27,56]] [15,0,14,12] (a _ _ _ _ _) | .inr (.inl _)=>sC 29 qG fun _=>sR 25 | .inr (.inr _)=>sC 29 qG fun _=>sR 25) | .inr _=>sC 30 qG fun _=>sR 25)<|sR 5
def tp (a0:bA):Option (Bool):=
 vT a0.Prog>>=fun a=>if(!decide (a=0)) then(some false) else(if(!decide ((a0.bP.length:Int)=(a0.Prog.cv.bp.length:Int))) then(some false) else(fE a0 0))
theorem Ig {a0:bA}:LF Tryz.prog (tp a0) 96 [.agg [aM a0.Prog.cv.Cons,aM a0.Prog.cv.bp,.lit (a0.Prog.aF.map az),.lit (a0.bP.map au)]] aB:=
 sF<|sC 6 H0 fun _=>sB 0 (sR 15)<|sL 3 a0.bP<|sL 4 a0.Prog.cv.bp<|sB 0 (sR 5)<|sL 4 a0.bP<|sK 2 [[1,25,26,27]] [0] (CW.2 _)
def kV (a0:bA):Option (Int):=
 tp a0>>=fun v0=>if v0 then(some 0) else(some 2)
theorem zl {a0:bA}:LF Tryz.prog (kV a0) 61 [.agg [aM a0.Prog.cv.Cons,aM a0.Prog.cv.bp,.lit (a0.Prog.aF.map az),.lit (a0.bP.map au)]] aI:=
 sF<|fI 5 Ig (sR 5)<|sR 5
@[simp] noncomputable def gq := fun a (o:NM)=>(([aK a,aP (o 0)],[.arr 1 [.fn (.func 190) [] [aP (o 0)]]]):TC)
@[simp] noncomputable def jk := fun(r:Bool) (o:NM)=>((aB r,[some (.arr 1 [.fn (.func 190) [] [aP (o 0)]])],[]):TB)
noncomputable def rU : St:=sN 2 (ak (aI 0) none (sN 22 (ak (aB true) none (sN 6 (St.start T0 190 ((gq dd id).1) (pg 1 (nr 0 ((gq dd id).2))))))))
noncomputable def rV := fun(a:Term) b=>fZ rU 3 fun o=>([[(0,aT a.Kids),(1,.fn (.func 267) [] [aP (o 2)]),(7,aI (a.Kids.length:Int)),(8,aI b)],[],[],[(7,aB true)]],[((o 2),.arr 1 [.fn (.func 190) [] [aP (o 0)]]),((o 0),.arr 1 [.fn (.func 190) [] [aP (o 0)]])])
mutual
def cD (b:Term)(a:Int):Option Bool:=
 if decide (a<(b.Kids.length:Int)) then(bQ b.Kids a>>=fun c=>db c>>=fun d=>if d then(if cy .i64 (a+1) then(cD b (a+1)) else none) else(if decide (a≥0) then(some false) else(some true))) else(some true)
 partial_fixpoint
def db (a:Term):Option Bool:=
 if(!decide ((a.Op:Int)=8)) then(cD a 0) else(some false)
 partial_fixpoint
end
theorem pZ  : (∀ b c,LJ Tryz.prog (cD b c) 1 jk (rV b c))∧(∀ b,LG Tryz.prog (db b) 190 1 (gq b) jk):=by
 refine cD.mutual_partial_correctness _ _ ?_ ?_
 · exact fun cD db a iM b c=>sB 1 (sX 9 fun _=>sV fun e d=>N2 8 (iM _ e d _ 4 [0] wO) (sI 6<|Jf 2 [[0,1,7,8],[],[],[7]] [2,0] [] 4 (a _ _))<|sB 9 (mo 11 (aB false) [0])<|mo 11 (aB true) [0])<|mo 17 (aB true) [0]
 · exact fun cD a b=>Qa 1 (sB 6 (sL 22 b.Kids<|wi 2 [[0,1,7,8],[],[],[7]] [2,0] (a _ _))<|mo 9 (aB false) [0])
theorem iM {a:Term}:LG Tryz.prog (db a) 190 1 (gq a) jk:=pZ.2 _
def yD (a0:bA)(a1:Term):Option (Bool):=
 kV a0>>=fun WM=>if decide (WM=0) then(nH a0.Prog.cv a1>>=fun a=>if decide (a=0) then(db a1>>=fun b=>if b then(some true) else(some false)) else(some false)) else(some false)
theorem K5 {a0:bA}{a1:Term}:LF Tryz.prog (yD a0 a1) 118 [.agg [aM a0.Prog.cv.Cons,aM a0.Prog.cv.bp,.lit (a0.Prog.aF.map az),.lit (a0.bP.map au)],aK a1] aB:=
 sF<|sC 11 zl fun _=>sB 0 (sC 5 qF fun _=>sB 0 (sV fun b a=>N2 4 (iM b a _ 3 [2] wO) (sR 4)<|sR 4)<|sR 9)<|sR 16
abbrev LB := List (Int×Bool)
def mK (m:LB):LI:=m.map (·.1)
def DL (l:LI)(m:LB):Prop:=(mK m).Nodup∧∀ k,k∈mK m↔k∈l
theorem OH (k:Int):∀ m:LB,(∀ x,x∈mK (ky m k true)↔x∈mK m∨x=k)∧((mK m).Nodup→(mK (ky m k true)).Nodup)
 | []=>by simp[ky,mK]
 | (a,b)::r=>by
   obtain⟨h1,h2⟩:=OH k r
   simp only[mK] at h1 h2
   simp only[ky,mK]
   split
   · rename_i e
     subst e
     refine⟨fun x=>?_,fun h=>h⟩
     simp only[dH,cF]
     constructor
     · exact .inl
     · rintro(h | h)
       · exact h
       · exact .inl h
   · rename_i e
     refine⟨fun x=>?_,fun h=>?_⟩
     · simp only[dH,cF,h1]
       constructor
       · rintro(h | h | h)<;>simp[h]
       · rintro((h | h) | h)<;>simp[h]
     · simp only[dH,rj] at h ⊢
       refine⟨fun q=>?_,h2 h.2⟩
       rcases(h1 a).1 q with q | q
       · exact h.1 q
       · exact e q.symm
def Al : LI→LI
 | []=>[]
 | a::r=>if a∈r then Al r else a::Al r
theorem rF : ∀(l:LI) (x:Int),x∈Al l↔x∈l
 | [],x=>Iff.rfl
 | a::r,x=>by
   simp only[Al]
   split
   · rename_i h
     rw[rF r x,cF]
     exact⟨.inr,fun q=>q.elim (fun e=>e▸h) id⟩
   · rw[cF,cF,rF r x]
theorem ve : ∀ l:LI,(Al l).Nodup
 | []=>List.nodup_nil
 | a::r=>by
   simp only[Al]
   split
   · exact ve r
   · rename_i h
     exact rj.2 ⟨fun q=>h ((rF r a).1 q),ve r⟩
theorem pm : ∀(a b:LI),a.Nodup→b.Nodup→(∀ x,x∈a↔x∈b)→a.Perm b
 | [],b,_,_,h=>by
   cases b with
   | nil=>exact .nil
   | cons y r=>exact absurd ((h y).2 (by simp)) (by simp)
 | x::r,b,ha,hb,h=>by
   have hx:x∈b:=(h x).1 (by simp)
   refine .trans (.cons x (pm r (b.erase x) (rj.1 ha).2 (hb.erase x) fun y=>?_)) (List.perm_cons_erase hx).symm
   rw[hb.mem_erase_iff,←h y,cF]
   constructor
   · exact fun q=>⟨fun e=>(rj.1 ha).1 (e▸q),.inr q⟩
   · rintro⟨c,q2 | q2⟩
     · exact absurd q2 c
     · exact q2
theorem ZH : ∀(a b:LI),a.Perm b→a.Pairwise (· ≤ ·)→b.Pairwise (· ≤ ·)→a=b
 | [],b,h,_,_=>(List.nil_perm.1 h).symm
 | x::r,b,h,ha,hb=>by
   cases b with
   | nil=>exact absurd h.length_eq (by simp)
   | cons y s=>
     have e:x=y:=by
      have h1:x∈y::s:=h.subset (by simp)
      have h2:y∈x::r:=h.symm.subset (by simp)
      rw[List.pairwise_cons] at ha hb
      rcases cF.1 h1 with q | q
      · exact q
      · rcases cF.1 h2 with p | p
        · exact p.symm
        · exact Int.le_antisymm (ha.1 y p) (hb.1 x q)
     subst e
     rw[ZH r s (List.Perm.cons_inv h) (List.pairwise_cons.1 ha).2 (List.pairwise_cons.1 hb).2]
theorem YR {a b:LI}(h:a.Perm b):kA a=kA b:=by
 have p (l:LI):(kA l).Pairwise (· ≤ ·):=by
  have:=List.pairwise_mergeSort (le:=fun x y:Int=>decide (x≤y)) (fun a b c=>by simp;omega) (fun a b=>by simp;omega) l
  exact this.imp fun h=>by simpa using h
 exact ZH _ _ ((List.mergeSort_perm a _).trans (h.trans (List.mergeSort_perm b _).symm)) (p a) (p b)
mutual
def Av (t:Term)(i:Int)(l:LI):Option LI:=
 if decide (i<(t.Kids.length:Int)) then(bQ t.Kids i>>=fun x=>if decide (t.Op=8) then none else(Zn x []>>=fun s=>if cy .i64 (i+1) then Av t (i+1) (l++s) else none)) else some l
 partial_fixpoint
def Zn (t:Term)(l:LI):Option LI:=
 if decide (t.Op=1) then some (l++[t.N]) else Av t 0 l
 partial_fixpoint
end
abbrev oM (m:LB):aO:=.mp (m.map (cg (aA .i64) gB))
abbrev Un (t:Term)(m:LB)(o:NM):TC:=([.cR (o 0),aK t],[oM m])
abbrev wy (m:LB)(_:NM):TB:=(.bO [],[some (oM m)],[])
noncomputable def aeJ : St:=sN 2 (ak (aI 0) none (sN 3 (ak (aB false) none (sN 5 (St.start T0 101 (Un default [] id).1 (pg 1 (nr 0 (Un default [] id).2)))))))
noncomputable def OI (t:Term)(i:Int)(m:LB):St:=jB aeJ [[(0,.cR 0),(3,aP 1),(15,aT t.Kids),(16,aI (t.Kids.length:Int)),(17,aI i)]] (pg 2 [(0,oM m),(1,.arr 3 [aK t])])
noncomputable def aeK : St:=sN 8 (ak (aB false) none (sN 3 (N9 (.bO []) (B2 1 (wy []) [3] 4) (sN 10 (ak (.dO [aI 0,aI 0,.lit []]) none (sN 4 (ak (aB true) none (sN 1 (OI default 0 [])))))))))
noncomputable def UQ (t:Term)(i:Int)(v m:LB)(k:List Nat):St:=jB aeK [[(0,.cR 0),(37,aP 4),(3,aP 1),(15,aT t.Kids),(16,aI (t.Kids.length:Int)),(17,aI i)]] (pg 5 [(0,oM m),(4,.mi 3 (v.map (cg (aA .i64) gB)).length k),(1,.arr 3 [aK t]),(3,oM v)])
variable {r : LI} {v : LB}
theorem YS {t:Term}{i:Int}{l s:LI}(C:DL s v)(F:cy .i64 (i+1)=true)(G:∀ m,DL (l++s) m→SX Tryz.prog (Hf 1 (DL r) wy) (OI t (i+1) m)) :
   ∀(n:Nat) (k:List Nat) (m:LB),n+k.length=v.length→k.Nodup→(∀ j,j∈k→j<v.length)→(mK m).Nodup→(∀ x,x∈mK m→x∈l++s)→(∀ x,x∈l→x∈mK m)→(∀ j y,j∈k→v[j]? = some y→y.1∈mK m)→SX Tryz.prog (Hf 1 (DL r) wy) (UQ t i v m k):=by
 have D:vq 1 (Hf 1 (DL r) wy):=qx fun c=>qk
 have E:∀(k:List Nat) (m:LB),(∀ j,j<v.length→j∈k)→(mK m).Nodup→(∀ x,x∈mK m→x∈l++s)→(∀ x,x∈l→x∈mK m)→(∀ j y,j∈k→v[j]? = some y→y.1∈mK m)→SX Tryz.prog (Hf 1 (DL r) wy) (eH (fun S=>.val (.bO [.sc (.bool false)]) S) (sN 1 (UQ t i v m k))):=by
   intro k m ha h1 h2 h3 h4
   have hf:DL (l++s) m:=⟨h1,fun x=>⟨h2 x,fun q=>by
    rcases dG.1 q with q | q
    · exact h3 x q
    · obtain⟨y,H,q2⟩:=iB.1 ((C.2 x).2 q)
      obtain⟨j,q3⟩:=gM H
      rw[←q2]
      exact h4 j y (ha j (lr.1 q3).1) q3⟩⟩
   refine wT EE 4 _ _ (by kernel_rfl) (iR (k:=.i64) F) ?_
   exact asR EE D 2 [[0,3,15,16,17]] [0,1] [] 2 5 [[(0,.cR 0),(3,aP 1),(15,aT t.Kids),(16,aI (t.Kids.length:Int)),(17,aI (i+1))]] [(0,oM m),(1,.arr 3 [aK t])] (G m hf)
 intro n
 induction n with
 | zero=>
   intro k m I A hb h1 h2 h3 h4
   refine AK EE 1 (id:=4) (m:=3) (since:=(v.map (cg (aA .i64) gB)).length) (f:=aA .i64) (g:=gB) (l:=v) (sn:=k) (by simp) (fun ha=>E k m ha h1 h2 h3 h4) (fun j y o d=>?_)
   have h:=(lr.1 o).1
   have:=aff v.length (j::k) (rj.2 ⟨d,A⟩) fun x hx=>(cF.1 hx).elim (fun e=>e▸h) (hb x)
   simp at this;omega
 | succ n B=>
   intro k m I A hb h1 h2 h3 h4
   refine AK EE 1 (id:=4) (m:=3) (since:=(v.map (cg (aA .i64) gB)).length) (f:=aA .i64) (g:=gB) (l:=v) (sn:=k) (by simp) (fun ha=>E k m ha h1 h2 h3 h4) (fun j y o d=>?_)
   have h:=(lr.1 o).1
   refine bF EE 4 (fun S=>ZY S (.ptr 4 0 0)) (fun S=>.val (.bO [aI y.1,aB y.2]) S) kr kr (JH (f:=aA .i64) (g:=gB) (m:=3) (sn:=k) (since:=(v.map (cg (aA .i64) gB)).length) kr kr (by simp) o) ?_
   refine bF EE 5 (fun S=>SW Tryz.prog S 123 (.cR 0) (aI y.1) (aB true)) (fun S=>.skip (S.set 0 (oM (ky m y.1 true)))) kr kr (JG (g:=gB) (l:=m) (x:=y.1) (y:=true) (z:=aB false) kr kr kr) ?_
   have p:=OH y.1 m
   have hy:y.1∈mK v:=iB.2 ⟨y,uI o,rfl⟩
   exact afD EE D 1 [[0,37,3,15,16,17]] [0,4,1,3] (B (k++[j]) (ky m y.1 true) (by simp;omega) (by
    rw[List.nodup_append]
    exact ⟨A,by simp,fun a ha b u e=>d (by simp at u;exact u▸e▸ha)⟩) (fun x hx=>by
      rcases dG.1 hx with q | q
      · exact hb x q
      · simp at q;exact q▸h) (p.2 h1) (fun x hx=>by
      rcases(p.1 x).1 hx with q | q
      · exact h2 x q
      · exact List.mem_append_right _ ((C.2 x).1 (q▸hy))) (fun x hx=>(p.1 x).2 (.inl (h3 x hx))) (fun a z ha w=>by
      rcases dG.1 ha with q | q
      · exact(p.1 _).2 (.inl (h4 a z q w))
      · simp only[px] at q
        subst q
        rw[o] at w
        simp only[ba] at w
        exact(p.1 _).2 (.inr (by rw[w]))))
theorem QP : DL [] []:=⟨List.nodup_nil,fun _=>Iff.rfl⟩
theorem YT : (∀ t i l r,Av t i l=some r→∀ m,DL l m→SX Tryz.prog (Hf 1 (DL r) wy) (OI t i m))∧(∀ t l r,Zn t l=some r→∀ m,DL l m→agA Tryz.prog 101 1 (Un t m) (DL r) wy):=by
 refine Av.mutual_partial_correctness _ _ ?_ ?_
 · intro Av Zn b j t i l r h m a
   have d:vq 1 (Hf 1 (DL r) wy):=qx fun c=>qk
   refine yB EE 1 h (fun c h=>?_) (fun c h=>?_)
   · refine yX EE 4 52 54 OF h fun x o h=>?_
     cases c8:decide (t.Op=8) with
     | true=>rw[c8] at h;cases h
     | false=>
       rw[c8] at h
       obtain⟨s,es,h⟩:=sq h
       obtain⟨k,h⟩:=WI h
       refine QN EE 10 (.bO []) (fun c=>B2 1 (wy c) [3] 4) (j x [] s es [] QP _ 4 [3] wO) fun v n=>?_
       refine Tv EE 3 (decide (t.Op=8)) kr (fun e=>by rw[c8] at e;cases e) fun _=>?_
       exact afD EE d 8 [[0,37,3,15,16,17]] [0,4,1,3] (YS n k (fun m=>b t (i+1) (l++s) r h m) v.length [] m rfl List.nodup_nil (by simp) a.1 (fun x hx=>List.mem_append_left _ ((a.2 x).1 hx)) (fun x hx=>(a.2 x).2 hx) (by simp))
   · obtain rfl:=Option.some.inj h
     exact UN EE 3 m a (.bO []) [0] (.pure pv) (us iA) gP
 · intro Av b t l r h m a
   refine ajF EE 1 ?_ (fun c=>bd) akR rfl kr
   have d:vq 1 (Hf 1 (DL r) wy):=qx fun c=>qk
   refine yB EE 5 h (fun c h=>?_) (fun c h=>?_)
   · refine bF EE 4 (fun S=>SW Tryz.prog S 123 (.cR 0) (aI t.N) (aB true)) (fun S=>.skip (S.set 0 (oM (ky m t.N true)))) kr kr (JG (g:=gB) (l:=m) (x:=t.N) (y:=true) (z:=aB false) kr kr kr) ?_
     obtain rfl:=Option.some.inj h
     have f:=OH t.N m
     exact UN EE 2 (ky m t.N true) ⟨f.2 a.1,fun x=>by rw[f.1,a.2,dG,px]⟩ (.bO []) [0] (.pure pv) (us iA) gP
   · refine wT EE 3 _ _ (by kernel_rfl) (JU cI t.Kids) ?_
     exact afD EE d 2 [[0,3,15,16,17]] [0,1] (b t 0 l r h m a)
noncomputable def ajI : St:=sN 7 (N9 (.bO []) (B2 1 (wy []) [4] 5) (sN 15 (agx (aB true) (sN 9 (St.start T0 32 [aG default,aK default] ag.empty)))))
noncomputable def ZI (v:LB):St:=jB ajI [[(15,aP 5),(6,.an)]] (pg 6 [(5,.mi 4 (v.map (cg (aA .i64) gB)).length []),(4,oM v)])
noncomputable def ajJ : St:=sN 9 (eH (fun S=>.val (.bO [aI 0,aB false]) S) (sN 4 (eH (fun S=>.val (.bO [aB true,aI 0,aB false]) (S.set 5 (.mi 4 0 []))) (sN 1 (ZI [])))))
noncomputable def ZJ (v:LB)(k:List Nat)(l:LI):St:=jB ajJ [[(15,aP 5),(6,.ai 7 0 l.length)]] (pg 8 [(5,.mi 4 (v.map (cg (aA .i64) gB)).length k),(7,.arr 1 (l.map (aA .i64))),(4,oM v)])
theorem UR (a:DL r v)(k:List Nat)(l:LI)(b:0<l.length)(h1:l.length≤1048576)(c:l.Nodup)(h2:∀ x,x∈l→x∈mK v)(h3:∀ x,x∈mK v→x∈l) :
  SX Tryz.prog (RQ (.bO [aN (kA (Al r)),aI 0])) (eH (fun S=>.val (.bO [.sc (.bool false)]) S) (sN 1 (ZJ v k l))):=by
 have hs:kA (Al r)=kA l:=YR (pm _ _ (ve r) c fun x=>by rw[rF,←a.2];exact⟨h3 x,h2 x⟩)
 rw[hs]
 refine yG EE 4 (g:=65) (A:=[.ai 7 0 l.length]) (v:=.bO []) (r:=fun S=>S.set 7 (.arr 1 ((kA l).map (aA .i64)))) (MO Tryz.UP l b (by omega) kr (gb (by kernel_rfl))) ?_
 exact bN EE 6 (v:=.bO [.ai 7 0 l.length,aI 0]) kr (Fz.bw (Fz.lT (sz:=1) (es:=(kA l).map (aA .i64)) kr (by simp[kA]) pl) (.pure pv))
theorem aeL (u:DL r v)(hb:v.length≤1048576):∀(n:Nat) (k:List Nat) (l:LI),n+k.length=v.length→k.Nodup→(∀ j,j∈k→j<v.length)→l.length=k.length→0<l.length→l.Nodup→(∀ x,x∈l→∃(j:Nat) (y:Int×Bool),j∈k∧v[j]? = some y∧y.1=x) →
   (∀ j y,j∈k→v[j]? = some y→y.1∈l)→SX Tryz.prog (RQ (.bO [aN (kA (Al r)),aI 0])) (ZJ v k l):=by
 have s:∀(j:Nat) (y:Int×Bool),v[j]? = some y→y.1∈mK v:=fun j y e=>iB.2 ⟨y,uI e,rfl⟩
 intro n
 induction n with
 | zero=>
   intro k l G w A F B h1 h2 h3
   refine AK EE 1 (id:=5) (m:=4) (since:=(v.map (cg (aA .i64) gB)).length) (f:=aA .i64) (g:=gB) (l:=v) (sn:=k) (by simp) (fun ha=>?_) (fun j y o h=>?_)
   · exact UR u k l B (by omega) h1 (fun x hx=>let ⟨j,y,_,e,q⟩:=h2 x hx;q▸s j y e) fun x hx=>by
      obtain⟨y,C,q2⟩:=iB.1 hx
      obtain⟨j,q3⟩:=gM C
      exact q2▸h3 j y (ha j (lr.1 q3).1) q3
   · have p:=(lr.1 o).1
     have:=aff v.length (j::k) (rj.2 ⟨h,w⟩) fun x hx=>(cF.1 hx).elim (fun e=>e▸p) (A x)
     simp at this;omega
 | succ n D=>
   intro k l G w A F B h1 h2 h3
   refine AK EE 1 (id:=5) (m:=4) (since:=(v.map (cg (aA .i64) gB)).length) (f:=aA .i64) (g:=gB) (l:=v) (sn:=k) (by simp) (fun ha=>?_) (fun j y o h=>?_)
   · exact UR u k l B (by omega) h1 (fun x hx=>let ⟨j,y,_,e,q⟩:=h2 x hx;q▸s j y e) fun x hx=>by
      obtain⟨y,C,q2⟩:=iB.1 hx
      obtain⟨j,q3⟩:=gM C
      exact q2▸h3 j y (ha j (lr.1 q3).1) q3
   · have p:=(lr.1 o).1
     refine bF EE 4 (fun S=>ZY S (.ptr 5 0 0)) (fun S=>.val (.bO [aI y.1,aB y.2]) S) kr kr (JH (f:=aA .i64) (g:=gB) (m:=4) (sn:=k) (since:=(v.map (cg (aA .i64) gB)).length) kr kr (by simp) o) ?_
     refine bF EE 6 (fun S=>mQ Tryz.prog S 45 45 (.ai 7 0 l.length) (.ai 8 0 1)) (fun S=>.val (.ai 9 0 (l++[y.1]).length) ((S.del 7).add (.arr 1 ((l++[y.1]).map (aA .i64))))) kr kr (oh (enc:=(aA .i64)) (el:=3) (sz:=1) (xs:=l) (ys:=[y.1]) kr kr (fun _=>rfl) (fun _=>by kernel_rfl) kr (bC _ (.inr ⟨8,1,rfl,by kernel_rfl⟩)) rfl kr kr kr (by simp) (by simp;omega)) ?_
     have E:y.1∉l:=fun q=>by
      obtain⟨i,z,a,b,c⟩:=h2 _ q
      have hi:=(lr.1 b).1
      have e:(mK v)[i]? = (mK v)[j]? := by simp only[mK,pw,b,o,j9,c]
      exact h ((JC (by simpa [mK] using hi) u.1).1 e▸a)
     exact asR EE rq 2 [[15,6]] [5,9,4] [(7,9)] 8 10 [[(15,aP 5),(6,.ai 9 0 ((l++[y.1]).length))]] [(5,.mi 4 (v.map (cg (aA .i64) gB)).length (k++[j])),(9,.arr 1 ((l++[y.1]).map (aA .i64))),(4,oM v)] (D (k++[j]) (l++[y.1]) (by simp;omega) (by
      rw[List.nodup_append]
      exact ⟨w,by simp,fun a ha b d e=>h (by simp at d;exact d▸e▸ha)⟩) (fun x hx=>by
       rcases dG.1 hx with q | q
       · exact A x q
       · simp at q;exact q▸p) (by simp[F]) (by simp) (by
      rw[List.nodup_append]
      exact ⟨h1,by simp,fun a ha b d e=>E (by simp at d;exact d▸e▸ha)⟩) (fun x hx=>by
       rcases dG.1 hx with q | q
       · obtain⟨i,z,a,b,c⟩:=h2 x q
         exact⟨i,z,List.mem_append_left _ a,b,c⟩
       · simp at q
         exact⟨j,y,by simp,o,q.symm⟩) (fun a z ha t=>by
       rcases dG.1 ha with q | q
       · exact List.mem_append_left _ (h3 a z q t)
       · simp only[px] at q
         subst q
         rw[o] at t
         simp only[ba] at t
         exact List.mem_append_right _ (by rw[t];simp)))
theorem aeM (e:DL r v)(hb:v.length≤1048576):SX Tryz.prog (RQ (.bO [aN (kA (Al r)),aI 0])) (ZI v):=by
 refine AK EE 1 (id:=5) (m:=4) (since:=(v.map (cg (aA .i64) gB)).length) (f:=aA .i64) (g:=gB) (l:=v) (sn:=[]) (by simp) (fun ha=>?_) (fun j y b n=>?_)
 · have h:Al r=[]:=by
    cases i:Al r with
    | nil=>rfl
    | cons a t=>
      have h1:a∈mK v:=(e.2 a).2 ((rF r a).1 (by rw[i];simp))
      obtain⟨y,k,q2⟩:=iB.1 h1
      obtain⟨j,q3⟩:=gM k
      exact absurd (ha j (lr.1 q3).1) (by simp)
   rw[h,show kA []=[] from by simp[kA]]
   refine yG EE 4 (g:=65) (A:=[.an]) (v:=.bO []) (r:=fun S=>S) (Sw Tryz.UP _) ?_
   exact bN EE 6 (v:=.bO [.an,aI 0]) kr (Fz.bw (.an) (.pure pv))
 · have d:=(lr.1 b).1
   refine bF EE 4 (fun S=>ZY S (.ptr 5 0 0)) (fun S=>.val (.bO [aI y.1,aB y.2]) S) kr kr (JH (f:=aA .i64) (g:=gB) (m:=4) (sn:=[]) (since:=(v.map (cg (aA .i64) gB)).length) kr kr (by simp) b) ?_
   exact yK EE 9 [[15,6]] [5,7,4] (aeL e hb (v.length-1) [j] [y.1] (by simp;omega) (by simp) (fun x hx=>by simp at hx;exact hx▸d) rfl (by simp) (by simp) (fun x hx=>⟨j,y,by simp,b,by simp at hx;exact hx.symm⟩) (fun a z ha c=>by
    simp at ha;subst ha
    rw[b] at c;simp at c;simp[c]))
def mu (a0:aH)(a1:Term):Option (LI×Int):=
 pL a0 [a1]>>=fun v=>if v then(Zn a1 []>>=fun r=>if decide ((Al r).length≤1048576) then some (kA (Al r),0) else none) else some ([],2)
theorem wc {a0:aH}{a1:Term}:LF Tryz.prog (mu a0 a1) 32 [aG a0,aK a1] (fun r=>.bO [aN r.1,aI r.2]):=by
 intro r h
 unfold mu at h
 refine yF EE ?_
 obtain⟨a,b,h⟩:=sq h
 refine ER EE 9 63 [aG a0,.ai 2 0 1] [aG a0,.lit [aK a1]] (aB a) kr (uL.cons (.pure pv) (uL.cons (BU.lT (sz:=3) (es:=[aK a1]) kr rfl pl) uL.nil)) pl rfl (by have q:∀ S,fY Tryz.prog 63 [aG a0,aT [a1]] S fun e f=>e=.ret (aB a)∧f=S:=uz a b;simp only[aT,dH,sH,kP] at q;exact q) ?_
 cases a with
 | true=>
   have h:=Zk rfl h
   obtain⟨l,el,h⟩:=sq h
   obtain⟨g,h⟩:=WI h
   obtain rfl:=Option.some.inj h
   refine QN EE 15 (.bO []) (fun c=>B2 1 (wy c) [4] 5) (YT.2 a1 [] l el [] QP _ 5 [4] wO) fun v d=>?_
   have hb:v.length≤1048576:=by
    have:=(pm _ _ d.1 (ve l) fun x=>by rw[d.2,rF]).length_eq
    simp only[mK,rf] at this
    have:=of_decide_eq_true g
    omega
   exact yK EE 7 [[15,6]] [5,4] (aeM d hb)
 | false=>
   have h:=ZU rfl h
   obtain rfl:=Option.some.inj h
   exact bN EE 6 (v:=.bO [.an,aI 2]) kr (Fz.bw (.an) (.pure pv))
@[simp] noncomputable def fo := fun b a82 (a83:LI) (a:(List ad)) (a85:LI) (o:NM)=>(([aP (o 0),aK b,.ai (o 1) 0 a83.length],[.arr 8 [.agg [.ai (o 2) 0 a.length,aI a82,.ai (o 3) 0 a85.length,.an,.an,.an,.an,.sc (.map none)]],.arr 1 (a83.map (aA .i64)),.arr 7 (a.map aJ),.arr 1 (a85.map (aA .i64))]):TC)
@[simp] noncomputable def dS := fun a82 (a83:LI) (a85:LI) (r:((List ad)×Int)) (o:NM)=>((aI r.2,sm [.arr 8 [.agg [.ai (o 2) 0 r.1.length,aI a82,.ai (o 3) 0 a85.length,.an,.an,.an,.an,.sc (.map none)]],.arr 1 (a83.map (aA .i64))],[.arr 7 (r.1.map aJ),.arr 1 (a85.map (aA .i64))]):TB)
@[simp] noncomputable def iu := fun a87 a88 (a89:LI) (o:NM)=>(([aP (o 0),aK a87,.ai (o 1) 0 a89.length],[.arr 8 [.agg [.an,aI a88,.an,.an,.an,.an,.an,.sc (.map none)]],.arr 1 (a89.map (aA .i64))]):TC)
@[simp] noncomputable def iv := fun a88 (a89:LI) (r:(Sum Int ((List ad)×Int))) (o:NM)=>(match r with | (Sum.inl y)=>(aI y,sm [.arr 8 [.agg [.an,aI a88,.an,.an,.an,.an,.an,.sc (.map none)]],.arr 1 (a89.map (aA .i64))],[]) | (Sum.inr y)=>(aI y.2,sm [.arr 8 [.agg [.ai (o 2) 0 y.1.length,aI a88,.an,.an,.an,.an,.an,.sc (.map none)]],.arr 1 (a89.map (aA .i64))],[.arr 7 (y.1.map aJ)]):TB)
@[simp] noncomputable def fp := fun a lQ (a114:LI) (ew:(List ad)) (o:NM)=>(([aP (o 0),aK a,.ai (o 1) 0 a114.length],[.arr 8 [.agg [.ai (o 2) 0 ew.length,aI lQ,.an,.an,.an,.an,.an,.sc (.map none)]],.arr 1 (a114.map (aA .i64)),.arr 7 (ew.map aJ)]):TC)
@[simp] noncomputable def dq := fun lQ (a114:LI) (r:((List ad)×Int)) (o:NM)=>((aI r.2,sm [.arr 8 [.agg [.ai (o 2) 0 r.1.length,aI lQ,.an,.an,.an,.an,.an,.sc (.map none)]],.arr 1 (a114.map (aA .i64))],[.arr 7 (r.1.map aJ)]):TB)
noncomputable def qa : St:=sN 2 (ak (aI 0) none (sN 9 (ak (aI 0) none (sN 11 (eH (fun S=>.val (.ai 6 0 0) ((S.del 2).add (.arr 7 []))) (sN 12 (ak (aB false) none (sN 17 (ak (aB false) none (sN 2 (ak (aB false) none (sN 7 (St.start T0 120 ((dz fo id).1) (pg 4 (nr 0 ((dz fo id).2))))))))))))))))
noncomputable def ko := fun(a:Term) a82 (a83:LI) b (a85:LI)=>fZ qa 7 fun o=>([[(2,.ai (o 1) 0 a83.length),(0,aP (o 0)),(49,aT a.Kids),(8,aI (((b++[(ad.mk a.Op a.N ([]:LI) (-1) ([]:LI) 0 ([]:LI))]).length)-1)),(50,aI (a.Kids.length:Int)),(51,aI 0),(9,.an)]],[((o 1),.arr 1 (a83.map (aA .i64))),((o 0),.arr 8 [.agg [.ai (o 6) 0 ((b++[(ad.mk a.Op a.N ([]:LI) (-1) ([]:LI) 0 ([]:LI))]).length),aI a82,.ai (o 3) 0 a85.length,.an,.an,.an,.an,.sc (.map none)]]),((o 6),.arr 7 ((b++[(ad.mk a.Op a.N ([]:LI) (-1) ([]:LI) 0 ([]:LI))]).map aJ)),((o 3),.arr 1 (a85.map (aA .i64)))])
noncomputable def qb : St:=sN 2 (ak (aI 0) none (sN 9 (ak (aI 0) none (sN 11 (eH (fun S=>.val (.ai 4 0 0) (S.add (.arr 7 []))) (sN 30 (ak (aB false) none (sN 2 (ak (aB false) none (sN 7 (St.start T0 120 ((dz iu id).1) (pg 2 (nr 0 ((dz iu id).2))))))))))))))
noncomputable def kq := fun(a87:Term) a88 (a89:LI)=>fZ qb 5 fun o=>([[(2,.ai (o 1) 0 a89.length),(0,aP (o 0)),(49,aT a87.Kids),(8,aI ([(ad.mk a87.Op a87.N ([]:LI) (-1) ([]:LI) 0 ([]:LI))].length-1)),(50,aI (a87.Kids.length:Int)),(51,aI 0),(9,.an)]],[((o 1),.arr 1 (a89.map (aA .i64))),((o 0),.arr 8 [.agg [.ai (o 4) 0 [(ad.mk a87.Op a87.N ([]:LI) (-1) ([]:LI) 0 ([]:LI))].length,aI a88,.an,.an,.an,.an,.an,.sc (.map none)]]),((o 4),.arr 7 ([(ad.mk a87.Op a87.N ([]:LI) (-1) ([]:LI) 0 ([]:LI))].map aJ))])
noncomputable def qc : St:=sN 2 (ak (aI 0) none (sN 9 (ak (aI 0) none (sN 11 (eH (fun S=>.val (.ai 5 0 0) ((S.del 2).add (.arr 7 []))) (sN 12 (ak (aB false) none (sN 17 (ak (aB false) none (sN 2 (ak (aB false) none (sN 7 (St.start T0 120 ((dz fp id).1) (pg 3 (nr 0 ((dz fp id).2))))))))))))))))
noncomputable def ku := fun(a:Term) lQ (a114:LI) ew=>fZ qc 6 fun o=>([[(2,.ai (o 1) 0 a114.length),(0,aP (o 0)),(49,aT a.Kids),(8,aI (((ew++[(ad.mk a.Op a.N ([]:LI) (-1) ([]:LI) 0 ([]:LI))]).length)-1)),(50,aI (a.Kids.length:Int)),(51,aI 0),(9,.an)]],[((o 1),.arr 1 (a114.map (aA .i64))),((o 0),.arr 8 [.agg [.ai (o 5) 0 ((ew++[(ad.mk a.Op a.N ([]:LI) (-1) ([]:LI) 0 ([]:LI))]).length),aI lQ,.an,.an,.an,.an,.an,.sc (.map none)]]),((o 5),.arr 7 ((ew++[(ad.mk a.Op a.N ([]:LI) (-1) ([]:LI) 0 ([]:LI))]).map aJ))])
noncomputable def NK : St:=sN 2 (ak (aI 0) none (sN 14 (ak (.bO [.lit [],aI 0]) none (sN 6 (ak (aB true) none (sN 8 (St.start T0 78 [.agg [.lit [],.lit [],.lit [],.lit []],.agg [aI 0,aI 0,.lit []]] ag.empty)))))))
noncomputable def DE := fun a1 (v401:(LI×Int))=>fZ NK 5 fun o=>([[(9,.ai (o 4) 0 20),(8,aP (o 3)),(28,aN v401.1),(4,aP (o 2)),(3,aP (o 1)),(29,aI (v401.1.length:Int)),(30,aI 0)]],[((o 4),.arr 1 [aI 0,aI 0,aI 0,aI 0,aI 0,aI 0,aI 0,aI 0,aI 0,aI 0,aI 0,aI 0,aI 0,aI 0,aI 0,aI 0,aI 0,aI 0,aI 0,aI 0]),((o 3),.arr 8 [.agg [.an,aI 0,.an,.an,.an,.an,.an,.sc (.map none)]]),((o 2),.arr 3 [.agg [.an,aI 0,.an]]),((o 1),.arr 3 [aK a1])])
noncomputable def qd : St:=sN 8 (Fg (aI 0) (B2 2 (dz dS) [0,1,6,3] 8) (sN 8 (ak (.dO [aI 0,aI 0,.lit []]) none (sN 3 (ak (aB true) none (sN 1 (dz ko)))))))
noncomputable def qe := fun(a:Term) a82 (a83:LI) e (a85:LI) d (b:LI) (c:(List ad))=>fZ qd 12 fun o=>([[(2,.ai (o 1) 0 a83.length),(0,aP (o 0)),(49,aT a.Kids),(8,aI (((e++[(ad.mk a.Op a.N ([]:LI) (-1) ([]:LI) 0 ([]:LI))]).length)-1)),(50,aI (a.Kids.length:Int)),(51,aI d),(9,.ai (o 11) 0 b.length)]],[((o 1),.arr 1 (a83.map (aA .i64))),((o 0),.arr 8 [.agg [.ai (o 8) 0 c.length,aI a82,.ai (o 9) 0 a85.length,.an,.an,.an,.an,.sc (.map none)]]),((o 11),.arr 1 (b.map (aA .i64))),((o 8),.arr 7 (c.map aJ)),((o 9),.arr 1 (a85.map (aA .i64)))])
noncomputable def qg : St:=sN 8 (Fg (aI 0) (B2 2 (dz dq) [0,1,4] 6) (sN 8 (ak (.dO [aI 0,aI 0,.lit []]) none (sN 3 (ak (aB true) none (sN 1 (dz kq)))))))
noncomputable def qh := fun(a87:Term) a88 (a89:LI) c (a:LI) (b:(List ad))=>fZ qg 9 fun o=>([[(2,.ai (o 1) 0 a89.length),(0,aP (o 0)),(49,aT a87.Kids),(8,aI ([(ad.mk a87.Op a87.N ([]:LI) (-1) ([]:LI) 0 ([]:LI))].length-1)),(50,aI (a87.Kids.length:Int)),(51,aI c),(9,.ai (o 8) 0 a.length)]],[((o 1),.arr 1 (a89.map (aA .i64))),((o 0),.arr 8 [.agg [.ai (o 6) 0 b.length,aI a88,.an,.an,.an,.an,.an,.sc (.map none)]]),((o 8),.arr 1 (a.map (aA .i64))),((o 6),.arr 7 (b.map aJ))])
noncomputable def qi : St:=sN 8 (Fg (aI 0) (B2 2 (dz dq) [0,1,5] 7) (sN 8 (ak (.dO [aI 0,aI 0,.lit []]) none (sN 3 (ak (aB true) none (sN 1 (dz ku)))))))
noncomputable def qj := fun(a:Term) lQ (a114:LI) ew d (b:LI) (c:(List ad))=>fZ qi 10 fun o=>([[(2,.ai (o 1) 0 a114.length),(0,aP (o 0)),(49,aT a.Kids),(8,aI (((ew++[(ad.mk a.Op a.N ([]:LI) (-1) ([]:LI) 0 ([]:LI))]).length)-1)),(50,aI (a.Kids.length:Int)),(51,aI d),(9,.ai (o 9) 0 b.length)]],[((o 1),.arr 1 (a114.map (aA .i64))),((o 0),.arr 8 [.agg [.ai (o 7) 0 c.length,aI lQ,.an,.an,.an,.an,.an,.sc (.map none)]]),((o 9),.arr 1 (b.map (aA .i64))),((o 7),.arr 7 (c.map aJ))])
noncomputable def NL : St:=sN 12 (LN (fun S=>.val (aI 0) S) (sN 0 (LN (fun S=>.val (aP 4) S) (sN 10 (eH (fun S=>.skip (S.set 4 (.arr 1 []))) (sN 0 (eH (fun S=>.val (aP 4) S) (sN 3 (ak (aI 0) none (sN 11 (eH (fun S=>.val (.ai 6 0 0) (S.add (.arr 7 []))) (sN 29 (ak (.dO [aI 0]) none (sN 3 (ak (aB true) none (sN 1 (dz DE)))))))))))))))))
noncomputable def DF := fun a1 (v401:(LI×Int)) d (a:LI) (b:(List ad)) (c:LI)=>fZ NL 9 fun o=>([[(9,.ai (o 4) 0 a.length),(8,aP (o 3)),(28,aN v401.1),(4,aP (o 2)),(3,aP (o 1)),(29,aI (v401.1.length:Int)),(30,aI d)]],[((o 4),.arr 1 (a.map (aA .i64))),((o 3),.arr 8 [.agg [.ai (o 6) 0 b.length,aI 0,.ai (o 8) 0 c.length,.an,.an,.an,.an,.sc (.map none)]]),((o 2),.arr 3 [.agg [.an,aI 0,.an]]),((o 1),.arr 3 [aK a1]),((o 6),.arr 7 (b.map aJ)),((o 8),.arr 1 (c.map (aA .i64)))])
mutual
def bW (a:Term)(a82:Int)(a83:LI)(e:(List ad))(a85:LI)(c:Int)(f:LI)(d:(List ad)):Option ((List ad)×Int):=
 if decide (c<(a.Kids.length:Int)) then(bQ a.Kids c>>=fun h=>bH h a82 a83 d a85>>=fun g=>if decide (f.length+[g.2].length≤1048576) then(if cy .i64 (c+1) then(bW a a82 a83 e a85 (c+1) (f++[g.2]) g.1) else none) else none) else(bQ d (((e++[(ad.mk a.Op a.N ([]:LI) (-1) ([]:LI) 0 ([]:LI))]).length)-1)>>=fun i=>bQ d (((e++[(ad.mk a.Op a.N ([]:LI) (-1) ([]:LI) 0 ([]:LI))]).length)-1)>>=fun b=>some ((d.set ((((e++[(ad.mk a.Op a.N ([]:LI) (-1) ([]:LI) 0 ([]:LI))]).length)-1):Int).toNat (ad.mk b.Op b.N f b.To b.iZ b.bY b.Env)),(((e++[(ad.mk a.Op a.N ([]:LI) (-1) ([]:LI) 0 ([]:LI))]).length)-1)))
 partial_fixpoint
def bH (a:Term)(a82:Int)(a83:LI)(b:(List ad))(a85:LI):Option ((List ad)×Int):=
 if decide ((a.Op:Int)=1) then(bQ a83 a.N>>=fun d=>bQ a83 a.N>>=fun c=>some (b,c)) else(if decide ((a.Op:Int)=8) then none else(if decide ((b.length:Int)=200) then none else(if decide (b.length+[(ad.mk a.Op a.N ([]:LI) (-1) ([]:LI) 0 ([]:LI))].length≤1048576) then(if cy .i64 (((b++[(ad.mk a.Op a.N ([]:LI) (-1) ([]:LI) 0 ([]:LI))]).length)-1) then(fq a a82 a83 b a85) else none) else none)))
 partial_fixpoint
def fq (a:Term)(a82:Int)(a83:LI)(c:(List ad))(a85:LI):Option ((List ad)×Int):=
 if decide (0<(a.Kids.length:Int)) then(bQ a.Kids 0>>=fun e=>bH e a82 a83 (c++[(ad.mk a.Op a.N ([]:LI) (-1) ([]:LI) 0 ([]:LI))]) a85>>=fun d=>bW a a82 a83 c a85 1 [d.2] d.1) else(bQ (c++[(ad.mk a.Op a.N ([]:LI) (-1) ([]:LI) 0 ([]:LI))]) (((c++[(ad.mk a.Op a.N ([]:LI) (-1) ([]:LI) 0 ([]:LI))]).length)-1)>>=fun f=>bQ (c++[(ad.mk a.Op a.N ([]:LI) (-1) ([]:LI) 0 ([]:LI))]) (((c++[(ad.mk a.Op a.N ([]:LI) (-1) ([]:LI) 0 ([]:LI))]).length)-1)>>=fun b=>some (((c++[(ad.mk a.Op a.N ([]:LI) (-1) ([]:LI) 0 ([]:LI))]).set ((((c++[(ad.mk a.Op a.N ([]:LI) (-1) ([]:LI) 0 ([]:LI))]).length)-1):Int).toNat (ad.mk b.Op b.N ([]:LI) b.To b.iZ b.bY b.Env)),(((c++[(ad.mk a.Op a.N ([]:LI) (-1) ([]:LI) 0 ([]:LI))]).length)-1)))
 partial_fixpoint
end
variable {a82 : Int} {a83 a85 : LI}
theorem n4 : (∀ a e j g h,LJ Tryz.prog (bW a a82 a83 e a85 j g h) 2 (dS a82 a83 a85) (qe a a82 a83 e a85 j g h))∧(∀ a e,LG Tryz.prog (bH a a82 a83 e a85) 120 2 (fo a a82 a83 e a85) (dS a82 a83 a85))∧(∀ a e,LJ Tryz.prog (fq a a82 a83 e a85) 2 (dS a82 a83 a85) (ko a a82 a83 e a85)):=by
 refine bW.mutual_partial_correctness _ _ _ _ _ _ ?_ ?_ ?_
 · exact fun bW bH b dK a e j g h=>sB 1 (sX 3 fun _=>sV fun y l=>sT (fun q=>yG EE 8 (dK _ _ y l _ 13 [0,1,8,9] wO) q)<|sA 1 11 15 16<|sI 3<|Jf 2 [[2,0,49,8,50,51,9]] [1,0,16,13,14] [(11,16),(8,13),(9,14)] 17 (b _ _ _ _ _))<|sT (Uj EE 8 (fun S=>some (.val (.ai 11 0 g.length) S)) 11 (sz:=1) (len:=g.length) (es:=g.map (aA .i64)) (fun S=>S) kr kr rfl (by simp) kr kr kr)<|sV fun _ o=>sT (bF EE 0 (fun S=>w4 Tryz.prog S 148 (.ai 8 0 h.length) (aI (((e++[(ad.mk a.Op a.N ([]:LI) (-1) ([]:LI) 0 ([]:LI))]).length)-1))) (fun S=>.val (.ptr 8 (0+((((e++[(ad.mk a.Op a.N ([]:LI) (-1) ([]:LI) 0 ([]:LI))]).length)-1):Int).toNat) 0) S) kr kr (lK (xs:=h) (es:=h.map aJ) (el:=310) (n:=7) o (by first | rfl | (simp;done) | omega | (simp;omega)) kr kr kr))<|sV fun c p=>sT (bF EE 1 (fun S=>Lh Tryz.prog S 45 (.ptr 8 (0+((((e++[(ad.mk a.Op a.N ([]:LI) (-1) ([]:LI) 0 ([]:LI))]).length)-1):Int).toNat) 2) (aN g)) (fun S=>.skip (S.set 8 (.arr 7 ((h.set ((((e++[(ad.mk a.Op a.N ([]:LI) (-1) ([]:LI) 0 ([]:LI))]).length)-1):Int).toNat (ad.mk c.Op c.N g c.To c.iZ c.bY c.Env)).map aJ)))) kr kr (py (n:=7) (m:=1) (enc:=aJ) (xs:=h) (i:=(((e++[(ad.mk a.Op a.N ([]:LI) (-1) ([]:LI) 0 ([]:LI))]).length)-1)) (x' := (ad.mk c.Op c.N g c.To c.iZ c.bY c.Env)) p kr (cs:=(AV.agg [aI c.Op,aI c.N,aN c.Refs,aI c.To,aN c.iZ,aI c.bY,aN c.Env]).cells) rfl kr kr rfl))<|mo 5 (aI (((e++[(ad.mk a.Op a.N ([]:LI) (-1) ([]:LI) 0 ([]:LI))]).length)-1)) [0,1,8,9] (hu:=uo (.arr 8 [.agg [.ai 8 0 h.length,aI a82,.ai 9 0 a85.length,.an,.an,.an,.an,.sc (.map none)]]) uT) (ha:=ua (.arr 7 ((h.set ((((e++[(ad.mk a.Op a.N ([]:LI) (-1) ([]:LI) 0 ([]:LI))]).length)-1):Int).toNat (ad.mk c.Op c.N g c.To c.iZ c.bY c.Env)).map aJ)) (ua (.arr 1 (a85.map (aA .i64))) gP))
 · exact fun fq f a e=>Qa 4 (sB 7 (sV fun _ s=>sT (bF EE 5 (fun S=>w4 Tryz.prog S 45 (.ai 1 0 a83.length) (aI a.N)) (fun S=>.val (.ptr 1 (0+(a.N:Int).toNat) 0) S) kr kr (lK (xs:=a83) (es:=a83.map (aA .i64)) (el:=3) (n:=1) s (by first | rfl | (simp;done) | omega | (simp;omega)) kr kr kr))<|sV fun k t=>sT (bF EE 0 (fun S=>WS Tryz.prog S 3 (.ptr 1 (0+(a.N:Int).toNat) 0)) (fun S=>.val (aI k) S) kr kr (zG (n:=1) (enc:=(aA .i64)) (xs:=a83) (i:=a.N) t kr (cs:=(AV.agg [aI k]).cells) rfl kr kr))<|mo 3 (aI k) [0,1,2,3] (ha:=ua (.arr 7 (e.map aJ)) (ua (.arr 1 (a85.map (aA .i64))) gP)))<|sB 2 s0<|sB 17 s0<|sG fun z=>sT (Oa EE 12 (fun S=>mQ Tryz.prog S 148 148 (.ai 2 0 e.length) (.ai 5 0 1)) (.ai 6 0 (e++[(ad.mk a.Op a.N ([]:LI) (-1) ([]:LI) 0 ([]:LI))]).length) (fun S=>(S.del 2).add (.arr 7 ((e++[(ad.mk a.Op a.N ([]:LI) (-1) ([]:LI) 0 ([]:LI))]).map aJ))) kr kr (AZ (enc:=aJ) (el:=310) (sz:=7) (xs:=e) (ys:=[(ad.mk a.Op a.N ([]:LI) (-1) ([]:LI) 0 ([]:LI))]) (raw:=[.agg [aI a.Op,aI a.N,.an,aI (-1),.an,aI 0,.an]]) kr kr (fun _=>rfl) (fun _=>by kernel_rfl) kr kr kr kr (by first | rfl | (simp;done) | omega | (simp;omega)) kr kr kr (by simp) z))<|sI 11<|sL 9 a.Kids<|wi 2 [[2,0,49,8,50,51,9]] [1,0,6,3] (f _ _))
 · exact fun bW bH b dK a e=>sB 1 (sX 3 fun _=>sV fun A u=>sT (fun q=>yG EE 8 (dK _ _ A u _ 8 [0,1,6,3] wO) q)<|wi 8 [[2,0,49,8,50,51,9]] [1,0,11,8,9] (b _ _ _ _ _))<|sT (FF EE 8 (fun S=>some (.val .an S)) [] kr kr kr (.inr ⟨rfl,.an,rfl,OD⟩))<|sV fun _ w=>sT (bF EE 0 (fun S=>w4 Tryz.prog S 148 (.ai 6 0 ((e++[(ad.mk a.Op a.N ([]:LI) (-1) ([]:LI) 0 ([]:LI))]).length)) (aI (((e++[(ad.mk a.Op a.N ([]:LI) (-1) ([]:LI) 0 ([]:LI))]).length)-1))) (fun S=>.val (.ptr 6 (0+((((e++[(ad.mk a.Op a.N ([]:LI) (-1) ([]:LI) 0 ([]:LI))]).length)-1):Int).toNat) 0) S) kr kr (lK (xs:=(e++[(ad.mk a.Op a.N ([]:LI) (-1) ([]:LI) 0 ([]:LI))])) (es:=(e++[(ad.mk a.Op a.N ([]:LI) (-1) ([]:LI) 0 ([]:LI))]).map aJ) (el:=310) (n:=7) w (by first | rfl | (simp;done) | omega | (simp;omega)) kr kr kr))<|sV fun d x=>sT (bF EE 1 (fun S=>Lh Tryz.prog S 45 (.ptr 6 (0+((((e++[(ad.mk a.Op a.N ([]:LI) (-1) ([]:LI) 0 ([]:LI))]).length)-1):Int).toNat) 2) (aN ([]:LI))) (fun S=>.skip (S.set 6 (.arr 7 (((e++[(ad.mk a.Op a.N ([]:LI) (-1) ([]:LI) 0 ([]:LI))]).set ((((e++[(ad.mk a.Op a.N ([]:LI) (-1) ([]:LI) 0 ([]:LI))]).length)-1):Int).toNat (ad.mk d.Op d.N ([]:LI) d.To d.iZ d.bY d.Env)).map aJ)))) kr kr (py (n:=7) (m:=1) (enc:=aJ) (xs:=(e++[(ad.mk a.Op a.N ([]:LI) (-1) ([]:LI) 0 ([]:LI))])) (i:=(((e++[(ad.mk a.Op a.N ([]:LI) (-1) ([]:LI) 0 ([]:LI))]).length)-1)) (x' := (ad.mk d.Op d.N ([]:LI) d.To d.iZ d.bY d.Env)) x kr (cs:=(AV.agg [aI d.Op,aI d.N,aN d.Refs,aI d.To,aN d.iZ,aI d.bY,aN d.Env]).cells) rfl kr kr rfl))<|mo 5 (aI (((e++[(ad.mk a.Op a.N ([]:LI) (-1) ([]:LI) 0 ([]:LI))]).length)-1)) [0,1,6,3] (hu:=uo (.arr 8 [.agg [.ai 6 0 ((e++[(ad.mk a.Op a.N ([]:LI) (-1) ([]:LI) 0 ([]:LI))]).length),aI a82,.ai 3 0 a85.length,.an,.an,.an,.an,.sc (.map none)]]) uT) (ha:=ua (.arr 7 (((e++[(ad.mk a.Op a.N ([]:LI) (-1) ([]:LI) 0 ([]:LI))]).set ((((e++[(ad.mk a.Op a.N ([]:LI) (-1) ([]:LI) 0 ([]:LI))]).length)-1):Int).toNat (ad.mk d.Op d.N ([]:LI) d.To d.iZ d.bY d.Env)).map aJ)) (ua (.arr 1 (a85.map (aA .i64))) gP))
theorem dK {a:Term}{b:(List ad)}:LG Tryz.prog (bH a a82 a83 b a85) 120 2 (fo a a82 a83 b a85) (dS a82 a83 a85):=n4.2.1 _ _
mutual
def bX (a:Term)(lQ:Int)(a114:LI)(ew:(List ad))(c:Int)(e:LI)(d:(List ad)):Option ((List ad)×Int):=
 if decide (c<(a.Kids.length:Int)) then(bQ a.Kids c>>=fun g=>bq g lQ a114 d>>=fun f=>if decide (e.length+[f.2].length≤1048576) then(if cy .i64 (c+1) then(bX a lQ a114 ew (c+1) (e++[f.2]) f.1) else none) else none) else(bQ d (((ew++[(ad.mk a.Op a.N ([]:LI) (-1) ([]:LI) 0 ([]:LI))]).length)-1)>>=fun h=>bQ d (((ew++[(ad.mk a.Op a.N ([]:LI) (-1) ([]:LI) 0 ([]:LI))]).length)-1)>>=fun b=>some ((d.set ((((ew++[(ad.mk a.Op a.N ([]:LI) (-1) ([]:LI) 0 ([]:LI))]).length)-1):Int).toNat (ad.mk b.Op b.N e b.To b.iZ b.bY b.Env)),(((ew++[(ad.mk a.Op a.N ([]:LI) (-1) ([]:LI) 0 ([]:LI))]).length)-1)))
 partial_fixpoint
def bq (a:Term)(lQ:Int)(a114:LI)(ew:(List ad)):Option ((List ad)×Int):=
 if decide ((a.Op:Int)=1) then(bQ a114 a.N>>=fun c=>bQ a114 a.N>>=fun b=>some (ew,b)) else(if decide ((a.Op:Int)=8) then none else(if decide ((ew.length:Int)=200) then none else(if decide (ew.length+[(ad.mk a.Op a.N ([]:LI) (-1) ([]:LI) 0 ([]:LI))].length≤1048576) then(if cy .i64 (((ew++[(ad.mk a.Op a.N ([]:LI) (-1) ([]:LI) 0 ([]:LI))]).length)-1) then(ft a lQ a114 ew) else none) else none)))
 partial_fixpoint
def ft (a:Term)(lQ:Int)(a114:LI)(ew:(List ad)):Option ((List ad)×Int):=
 if decide (0<(a.Kids.length:Int)) then(bQ a.Kids 0>>=fun d=>bq d lQ a114 (ew++[(ad.mk a.Op a.N ([]:LI) (-1) ([]:LI) 0 ([]:LI))])>>=fun c=>bX a lQ a114 ew 1 [c.2] c.1) else(bQ (ew++[(ad.mk a.Op a.N ([]:LI) (-1) ([]:LI) 0 ([]:LI))]) (((ew++[(ad.mk a.Op a.N ([]:LI) (-1) ([]:LI) 0 ([]:LI))]).length)-1)>>=fun e=>bQ (ew++[(ad.mk a.Op a.N ([]:LI) (-1) ([]:LI) 0 ([]:LI))]) (((ew++[(ad.mk a.Op a.N ([]:LI) (-1) ([]:LI) 0 ([]:LI))]).length)-1)>>=fun b=>some (((ew++[(ad.mk a.Op a.N ([]:LI) (-1) ([]:LI) 0 ([]:LI))]).set ((((ew++[(ad.mk a.Op a.N ([]:LI) (-1) ([]:LI) 0 ([]:LI))]).length)-1):Int).toNat (ad.mk b.Op b.N ([]:LI) b.To b.iZ b.bY b.Env)),(((ew++[(ad.mk a.Op a.N ([]:LI) (-1) ([]:LI) 0 ([]:LI))]).length)-1)))
 partial_fixpoint
end
variable {lQ : Int} {a114 : LI}
theorem n5 : (∀ a ew h f g,LJ Tryz.prog (bX a lQ a114 ew h f g) 2 (dq lQ a114) (qj a lQ a114 ew h f g))∧(∀ a ew,LG Tryz.prog (bq a lQ a114 ew) 120 2 (fp a lQ a114 ew) (dq lQ a114))∧(∀ a ew,LJ Tryz.prog (ft a lQ a114 ew) 2 (dq lQ a114) (ku a lQ a114 ew)):=by
 refine bX.mutual_partial_correctness _ _ _ _ _ ?_ ?_ ?_
 · exact fun bX bq b dc a ew h f g=>sB 1 (sX 3 fun _=>sV fun x k=>sT (fun q=>yG EE 8 (dc _ _ x k _ 11 [0,1,7] wO) q)<|sA 1 9 12 13<|sI 3<|Jf 2 [[2,0,49,8,50,51,9]] [1,0,13,11] [(9,13),(7,11)] 14 (b _ _ _ _ _))<|sT (Uj EE 8 (fun S=>some (.val (.ai 9 0 f.length) S)) 9 (sz:=1) (len:=f.length) (es:=f.map (aA .i64)) (fun S=>S) kr kr rfl (by simp) kr kr kr)<|sV fun _ l=>sT (bF EE 0 (fun S=>w4 Tryz.prog S 148 (.ai 7 0 g.length) (aI (((ew++[(ad.mk a.Op a.N ([]:LI) (-1) ([]:LI) 0 ([]:LI))]).length)-1))) (fun S=>.val (.ptr 7 (0+((((ew++[(ad.mk a.Op a.N ([]:LI) (-1) ([]:LI) 0 ([]:LI))]).length)-1):Int).toNat) 0) S) kr kr (lK (xs:=g) (es:=g.map aJ) (el:=310) (n:=7) l (by first | rfl | (simp;done) | omega | (simp;omega)) kr kr kr))<|sV fun c o=>sT (bF EE 1 (fun S=>Lh Tryz.prog S 45 (.ptr 7 (0+((((ew++[(ad.mk a.Op a.N ([]:LI) (-1) ([]:LI) 0 ([]:LI))]).length)-1):Int).toNat) 2) (aN f)) (fun S=>.skip (S.set 7 (.arr 7 ((g.set ((((ew++[(ad.mk a.Op a.N ([]:LI) (-1) ([]:LI) 0 ([]:LI))]).length)-1):Int).toNat (ad.mk c.Op c.N f c.To c.iZ c.bY c.Env)).map aJ)))) kr kr (py (n:=7) (m:=1) (enc:=aJ) (xs:=g) (i:=(((ew++[(ad.mk a.Op a.N ([]:LI) (-1) ([]:LI) 0 ([]:LI))]).length)-1)) (x' := (ad.mk c.Op c.N f c.To c.iZ c.bY c.Env)) o kr (cs:=(AV.agg [aI c.Op,aI c.N,aN c.Refs,aI c.To,aN c.iZ,aI c.bY,aN c.Env]).cells) rfl kr kr rfl))<|mo 5 (aI (((ew++[(ad.mk a.Op a.N ([]:LI) (-1) ([]:LI) 0 ([]:LI))]).length)-1)) [0,1,7] (hu:=uo (.arr 8 [.agg [.ai 7 0 g.length,aI lQ,.an,.an,.an,.an,.an,.sc (.map none)]]) uT) (ha:=ua (.arr 7 ((g.set ((((ew++[(ad.mk a.Op a.N ([]:LI) (-1) ([]:LI) 0 ([]:LI))]).length)-1):Int).toNat (ad.mk c.Op c.N f c.To c.iZ c.bY c.Env)).map aJ)) gP)
 · exact fun ft e a ew=>Qa 3 (sB 7 (sV fun _ p=>sT (bF EE 5 (fun S=>w4 Tryz.prog S 45 (.ai 1 0 a114.length) (aI a.N)) (fun S=>.val (.ptr 1 (0+(a.N:Int).toNat) 0) S) kr kr (lK (xs:=a114) (es:=a114.map (aA .i64)) (el:=3) (n:=1) p (by first | rfl | (simp;done) | omega | (simp;omega)) kr kr kr))<|sV fun j s=>sT (bF EE 0 (fun S=>WS Tryz.prog S 3 (.ptr 1 (0+(a.N:Int).toNat) 0)) (fun S=>.val (aI j) S) kr kr (zG (n:=1) (enc:=(aA .i64)) (xs:=a114) (i:=a.N) s kr (cs:=(AV.agg [aI j]).cells) rfl kr kr))<|mo 3 (aI j) [0,1,2] (ha:=ua (.arr 7 (ew.map aJ)) gP))<|sB 2 s0<|sB 17 s0<|sG fun y=>sT (Oa EE 12 (fun S=>mQ Tryz.prog S 148 148 (.ai 2 0 ew.length) (.ai 4 0 1)) (.ai 5 0 (ew++[(ad.mk a.Op a.N ([]:LI) (-1) ([]:LI) 0 ([]:LI))]).length) (fun S=>(S.del 2).add (.arr 7 ((ew++[(ad.mk a.Op a.N ([]:LI) (-1) ([]:LI) 0 ([]:LI))]).map aJ))) kr kr (AZ (enc:=aJ) (el:=310) (sz:=7) (xs:=ew) (ys:=[(ad.mk a.Op a.N ([]:LI) (-1) ([]:LI) 0 ([]:LI))]) (raw:=[.agg [aI a.Op,aI a.N,.an,aI (-1),.an,aI 0,.an]]) kr kr (fun _=>rfl) (fun _=>by kernel_rfl) kr kr kr kr (by first | rfl | (simp;done) | omega | (simp;omega)) kr kr kr (by simp) y))<|sI 11<|sL 9 a.Kids<|wi 2 [[2,0,49,8,50,51,9]] [1,0,5] (e _ _))
 · exact fun bX bq b dc a ew=>sB 1 (sX 3 fun _=>sV fun z t=>sT (fun q=>yG EE 8 (dc _ _ z t _ 7 [0,1,5] wO) q)<|wi 8 [[2,0,49,8,50,51,9]] [1,0,9,7] (b _ _ _ _ _))<|sT (FF EE 8 (fun S=>some (.val .an S)) [] kr kr kr (.inr ⟨rfl,.an,rfl,OD⟩))<|sV fun _ u=>sT (bF EE 0 (fun S=>w4 Tryz.prog S 148 (.ai 5 0 ((ew++[(ad.mk a.Op a.N ([]:LI) (-1) ([]:LI) 0 ([]:LI))]).length)) (aI (((ew++[(ad.mk a.Op a.N ([]:LI) (-1) ([]:LI) 0 ([]:LI))]).length)-1))) (fun S=>.val (.ptr 5 (0+((((ew++[(ad.mk a.Op a.N ([]:LI) (-1) ([]:LI) 0 ([]:LI))]).length)-1):Int).toNat) 0) S) kr kr (lK (xs:=(ew++[(ad.mk a.Op a.N ([]:LI) (-1) ([]:LI) 0 ([]:LI))])) (es:=(ew++[(ad.mk a.Op a.N ([]:LI) (-1) ([]:LI) 0 ([]:LI))]).map aJ) (el:=310) (n:=7) u (by first | rfl | (simp;done) | omega | (simp;omega)) kr kr kr))<|sV fun d w=>sT (bF EE 1 (fun S=>Lh Tryz.prog S 45 (.ptr 5 (0+((((ew++[(ad.mk a.Op a.N ([]:LI) (-1) ([]:LI) 0 ([]:LI))]).length)-1):Int).toNat) 2) (aN ([]:LI))) (fun S=>.skip (S.set 5 (.arr 7 (((ew++[(ad.mk a.Op a.N ([]:LI) (-1) ([]:LI) 0 ([]:LI))]).set ((((ew++[(ad.mk a.Op a.N ([]:LI) (-1) ([]:LI) 0 ([]:LI))]).length)-1):Int).toNat (ad.mk d.Op d.N ([]:LI) d.To d.iZ d.bY d.Env)).map aJ)))) kr kr (py (n:=7) (m:=1) (enc:=aJ) (xs:=(ew++[(ad.mk a.Op a.N ([]:LI) (-1) ([]:LI) 0 ([]:LI))])) (i:=(((ew++[(ad.mk a.Op a.N ([]:LI) (-1) ([]:LI) 0 ([]:LI))]).length)-1)) (x' := (ad.mk d.Op d.N ([]:LI) d.To d.iZ d.bY d.Env)) w kr (cs:=(AV.agg [aI d.Op,aI d.N,aN d.Refs,aI d.To,aN d.iZ,aI d.bY,aN d.Env]).cells) rfl kr kr rfl))<|mo 5 (aI (((ew++[(ad.mk a.Op a.N ([]:LI) (-1) ([]:LI) 0 ([]:LI))]).length)-1)) [0,1,5] (hu:=uo (.arr 8 [.agg [.ai 5 0 ((ew++[(ad.mk a.Op a.N ([]:LI) (-1) ([]:LI) 0 ([]:LI))]).length),aI lQ,.an,.an,.an,.an,.an,.sc (.map none)]]) uT) (ha:=ua (.arr 7 (((ew++[(ad.mk a.Op a.N ([]:LI) (-1) ([]:LI) 0 ([]:LI))]).set ((((ew++[(ad.mk a.Op a.N ([]:LI) (-1) ([]:LI) 0 ([]:LI))]).length)-1):Int).toNat (ad.mk d.Op d.N ([]:LI) d.To d.iZ d.bY d.Env)).map aJ)) gP)
theorem dc {a:Term}{ew:(List ad)}:LG Tryz.prog (bq a lQ a114 ew) 120 2 (fp a lQ a114 ew) (dq lQ a114):=n5.2.1 _ _
def ma (a1:Term)(v401:(LI×Int))(d:Int)(c:LI)(a:(List ad))(e:LI):Option (kf×Int):=
 if decide (d<(v401.1.length:Int)) then(bQ v401.1 d>>=fun b=>if decide ((a.length:Int)=200) then none else(if decide (a.length+[(ad.mk 1 0 ([]:LI) (-1) ([]:LI) 0 ([]:LI))].length≤1048576) then(if cy .i64 (((a++[(ad.mk 1 0 ([]:LI) (-1) ([]:LI) 0 ([]:LI))]).length)-1) then(bQ c b>>=fun h=>bQ c b>>=fun i=>bQ (c.set (b:Int).toNat (((a++[(ad.mk 1 0 ([]:LI) (-1) ([]:LI) 0 ([]:LI))]).length)-1)) b>>=fun j=>bQ (c.set (b:Int).toNat (((a++[(ad.mk 1 0 ([]:LI) (-1) ([]:LI) 0 ([]:LI))]).length)-1)) b>>=fun f=>if decide (e.length+[f].length≤1048576) then(if cy .i64 (d+1) then(ma a1 v401 (d+1) (c.set (b:Int).toNat (((a++[(ad.mk 1 0 ([]:LI) (-1) ([]:LI) 0 ([]:LI))]).length)-1)) (a++[(ad.mk 1 0 ([]:LI) (-1) ([]:LI) 0 ([]:LI))]) (e++[f])) else none) else none) else none) else none)) else(bH a1 0 c a e>>=fun g=>some ((kf.mk g.1 g.2 e),0))
 partial_fixpoint
variable {v401 : (LI × Int)}
theorem GZ {a1:Term}:(∀ g a b e,LH Tryz.prog (ma a1 v401 g a b e) (fun r=>.bO [.agg [.lit (r.1.Qr.map aJ),aI r.1.Xa,aN r.1.bf],aI r.2]) (DF a1 v401 g a b e)):=by
 refine ma.partial_correctness _ _ _ ?_
 exact fun ma d g a b e=>sB 1 (sX 3 fun c=>sB 16 s0<|sG fun s=>sT (Oa EE 12 (fun S=>mQ Tryz.prog S 148 148 (.ai 6 0 b.length) (.ai 9 0 1)) (.ai 10 0 (b++[(ad.mk 1 0 ([]:LI) (-1) ([]:LI) 0 ([]:LI))]).length) (fun S=>(S.del 6).add (.arr 7 ((b++[(ad.mk 1 0 ([]:LI) (-1) ([]:LI) 0 ([]:LI))]).map aJ))) kr kr (AZ (enc:=aJ) (el:=310) (sz:=7) (xs:=b) (ys:=[(ad.mk 1 0 ([]:LI) (-1) ([]:LI) 0 ([]:LI))]) (raw:=[.agg [aI 1,aI 0,.an,aI (-1),.an,aI 0,.an]]) kr kr (fun _=>rfl) (fun _=>by kernel_rfl) kr kr kr kr (by first | rfl | (simp;done) | omega | (simp;omega)) kr kr kr (by simp) s))<|sI 11<|sV fun _ j=>sT (bF EE 3 (fun S=>w4 Tryz.prog S 45 (.ai 4 0 a.length) (aI c)) (fun S=>.val (.ptr 4 (0+(c:Int).toNat) 0) S) kr kr (lK (xs:=a) (es:=a.map (aA .i64)) (el:=3) (n:=1) j (by first | rfl | (simp;done) | omega | (simp;omega)) kr kr kr))<|sV fun t k=>sT (bF EE 0 (fun S=>Lh Tryz.prog S 3 (.ptr 4 (0+(c:Int).toNat) 0) (aI (((b++[(ad.mk 1 0 ([]:LI) (-1) ([]:LI) 0 ([]:LI))]).length)-1))) (fun S=>.skip (S.set 4 (.arr 1 ((a.set (c:Int).toNat (((b++[(ad.mk 1 0 ([]:LI) (-1) ([]:LI) 0 ([]:LI))]).length)-1)).map (aA .i64))))) kr kr (py (n:=1) (m:=1) (enc:=(aA .i64)) (xs:=a) (i:=c) (x' := (((b++[(ad.mk 1 0 ([]:LI) (-1) ([]:LI) 0 ([]:LI))]).length)-1)) k kr (cs:=(AV.agg [aI t]).cells) rfl kr kr rfl))<|sV fun _ l=>sT (lF EE 10 (fun S=>w4 Tryz.prog S 45 (.ai 4 0 a.length) (aI c)) (fun S=>.val (.ptr 4 (0+(c:Int).toNat) 0) S) kr kr (lK (xs:=(a.set (c:Int).toNat (((b++[(ad.mk 1 0 ([]:LI) (-1) ([]:LI) 0 ([]:LI))]).length)-1))) (es:=(a.set (c:Int).toNat (((b++[(ad.mk 1 0 ([]:LI) (-1) ([]:LI) 0 ([]:LI))]).length)-1)).map (aA .i64)) (el:=3) (n:=1) l (by first | rfl | (simp;done) | omega | (simp;omega)) kr kr kr))<|sV fun h o=>sT (lF EE 0 (fun S=>WS Tryz.prog S 3 (.ptr 4 (0+(c:Int).toNat) 0)) (fun S=>.val (aI h) S) kr kr (zG (n:=1) (enc:=(aA .i64)) (xs:=(a.set (c:Int).toNat (((b++[(ad.mk 1 0 ([]:LI) (-1) ([]:LI) 0 ([]:LI))]).length)-1))) (i:=c) o kr (cs:=(AV.agg [aI h]).cells) rfl kr kr))<|sA 1 8 11 12<|sI 7<|by unfold DF;rw[show a.length=(a.set (c:Int).toNat (((b++[(ad.mk 1 0 ([]:LI) (-1) ([]:LI) 0 ([]:LI))]).length)-1)).length by simp];exact sM 2 [[9,8,28,4,3,29,30]] [4,3,2,1,10,12] [(6,10),(8,12)] 13 (d _ _ _ _))<|sV fun f p=>sT (fun q=>yG EE 6 (dK f p _ 9 [3,4,6,8] wO) q)<|sE (by exact bN EE 13 (v:=.bO [.agg [.ai 9 0 f.1.length,aI f.2,.ai 10 0 e.length],aI 0]) kr (Fz.bw (Fz.aw (Fz.lT (sz:=7) (es:=(f.1.map aJ)) kr (by first | (simp;done) | (simp;omega)) pl) (Fz.aw (.pure pv) (Fz.aw (Fz.lT (sz:=1) (es:=(e.map (aA .i64))) kr (by first | (simp;done) | (simp;omega)) pl) (.pure pv)))) (.pure pv)))
def cx (a87:Term)(a88:Int)(a89:LI)(b:Int)(d:LI)(c:(List ad)):Option (Sum Int ((List ad)×Int)):=
 if decide (b<(a87.Kids.length:Int)) then(bQ a87.Kids b>>=fun f=>bq f a88 a89 c>>=fun e=>if decide (d.length+[e.2].length≤1048576) then(if cy .i64 (b+1) then(cx a87 a88 a89 (b+1) (d++[e.2]) e.1) else none) else none) else(bQ c ([(ad.mk a87.Op a87.N ([]:LI) (-1) ([]:LI) 0 ([]:LI))].length-1)>>=fun g=>bQ c ([(ad.mk a87.Op a87.N ([]:LI) (-1) ([]:LI) 0 ([]:LI))].length-1)>>=fun a=>some (Sum.inr ((c.set (([(ad.mk a87.Op a87.N ([]:LI) (-1) ([]:LI) 0 ([]:LI))].length-1):Int).toNat (ad.mk a.Op a.N d a.To a.iZ a.bY a.Env)),([(ad.mk a87.Op a87.N ([]:LI) (-1) ([]:LI) 0 ([]:LI))].length-1))))
 partial_fixpoint
variable {a87 : Term} {a88 : Int} {a89 : LI}
theorem n6 : (∀ e c d,LJ Tryz.prog (cx a87 a88 a89 e c d) 2 (iv a88 a89) (qh a87 a88 a89 e c d)):=by
 refine cx.partial_correctness _ _ _ _ ?_
 exact fun cx b e c d=>sB 1 (sX 3 fun _=>sV fun j f=>sT (fun q=>yG EE 8 (dc j f _ 10 [0,1,6] wO) q)<|sA 1 8 11 12<|sI 3<|Jf 2 [[2,0,49,8,50,51,9]] [1,0,12,10] [(8,12),(6,10)] 13 (b _ _ _))<|sT (Uj EE 8 (fun S=>some (.val (.ai 8 0 c.length) S)) 8 (sz:=1) (len:=c.length) (es:=c.map (aA .i64)) (fun S=>S) kr kr rfl (by simp) kr kr kr)<|sV fun _ g=>sT (bF EE 0 (fun S=>w4 Tryz.prog S 148 (.ai 6 0 d.length) (aI ([(ad.mk a87.Op a87.N ([]:LI) (-1) ([]:LI) 0 ([]:LI))].length-1))) (fun S=>.val (.ptr 6 (0+(([(ad.mk a87.Op a87.N ([]:LI) (-1) ([]:LI) 0 ([]:LI))].length-1):Int).toNat) 0) S) kr kr (lK (xs:=d) (es:=d.map aJ) (el:=310) (n:=7) g (by first | rfl | (simp;done) | omega | (simp;omega)) kr kr kr))<|sV fun a h=>sT (bF EE 1 (fun S=>Lh Tryz.prog S 45 (.ptr 6 (0+(([(ad.mk a87.Op a87.N ([]:LI) (-1) ([]:LI) 0 ([]:LI))].length-1):Int).toNat) 2) (aN c)) (fun S=>.skip (S.set 6 (.arr 7 ((d.set (([(ad.mk a87.Op a87.N ([]:LI) (-1) ([]:LI) 0 ([]:LI))].length-1):Int).toNat (ad.mk a.Op a.N c a.To a.iZ a.bY a.Env)).map aJ)))) kr kr (py (n:=7) (m:=1) (enc:=aJ) (xs:=d) (i:=([(ad.mk a87.Op a87.N ([]:LI) (-1) ([]:LI) 0 ([]:LI))].length-1)) (x' := (ad.mk a.Op a.N c a.To a.iZ a.bY a.Env)) h kr (cs:=(AV.agg [aI a.Op,aI a.N,aN a.Refs,aI a.To,aN a.iZ,aI a.bY,aN a.Env]).cells) rfl kr kr rfl))<|mo 5 (aI ([(ad.mk a87.Op a87.N ([]:LI) (-1) ([]:LI) 0 ([]:LI))].length-1)) [0,1,6] (hu:=uo (.arr 8 [.agg [.ai 6 0 d.length,aI a88,.an,.an,.an,.an,.an,.sc (.map none)]]) uT) (ha:=ua (.arr 7 ((d.set (([(ad.mk a87.Op a87.N ([]:LI) (-1) ([]:LI) 0 ([]:LI))].length-1):Int).toNat (ad.mk a.Op a.N c a.To a.iZ a.bY a.Env)).map aJ)) gP)
def iw (a87:Term)(a88:Int)(a89:LI):Option (Sum Int ((List ad)×Int)):=
 if decide (0<(a87.Kids.length:Int)) then(bQ a87.Kids 0>>=fun c=>bq c a88 a89 [(ad.mk a87.Op a87.N ([]:LI) (-1) ([]:LI) 0 ([]:LI))]>>=fun b=>cx a87 a88 a89 1 [b.2] b.1) else(bQ [(ad.mk a87.Op a87.N ([]:LI) (-1) ([]:LI) 0 ([]:LI))] ([(ad.mk a87.Op a87.N ([]:LI) (-1) ([]:LI) 0 ([]:LI))].length-1)>>=fun d=>bQ [(ad.mk a87.Op a87.N ([]:LI) (-1) ([]:LI) 0 ([]:LI))] ([(ad.mk a87.Op a87.N ([]:LI) (-1) ([]:LI) 0 ([]:LI))].length-1)>>=fun a=>some (Sum.inr (([(ad.mk a87.Op a87.N ([]:LI) (-1) ([]:LI) 0 ([]:LI))].set (([(ad.mk a87.Op a87.N ([]:LI) (-1) ([]:LI) 0 ([]:LI))].length-1):Int).toNat (ad.mk a.Op a.N ([]:LI) a.To a.iZ a.bY a.Env)),([(ad.mk a87.Op a87.N ([]:LI) (-1) ([]:LI) 0 ([]:LI))].length-1))))
theorem oZ : LJ Tryz.prog (iw a87 a88 a89) 2 (iv a88 a89) (kq a87 a88 a89):=
 sB 1 (sX 3 fun _=>sV fun e b=>sT (fun q=>yG EE 8 (dc e b _ 6 [0,1,4] wO) q)<|wi 8 [[2,0,49,8,50,51,9]] [1,0,8,6] (n6 _ _ _))<|sT (FF EE 8 (fun S=>some (.val .an S)) [] kr kr kr (.inr ⟨rfl,.an,rfl,OD⟩))<|sV fun _ c=>sT (bF EE 0 (fun S=>w4 Tryz.prog S 148 (.ai 4 0 [(ad.mk a87.Op a87.N ([]:LI) (-1) ([]:LI) 0 ([]:LI))].length) (aI ([(ad.mk a87.Op a87.N ([]:LI) (-1) ([]:LI) 0 ([]:LI))].length-1))) (fun S=>.val (.ptr 4 (0+(([(ad.mk a87.Op a87.N ([]:LI) (-1) ([]:LI) 0 ([]:LI))].length-1):Int).toNat) 0) S) kr kr (lK (xs:=[(ad.mk a87.Op a87.N ([]:LI) (-1) ([]:LI) 0 ([]:LI))]) (es:=[(ad.mk a87.Op a87.N ([]:LI) (-1) ([]:LI) 0 ([]:LI))].map aJ) (el:=310) (n:=7) c (by first | rfl | (simp;done) | omega | (simp;omega)) kr kr kr))<|sV fun a d=>sT (bF EE 1 (fun S=>Lh Tryz.prog S 45 (.ptr 4 (0+(([(ad.mk a87.Op a87.N ([]:LI) (-1) ([]:LI) 0 ([]:LI))].length-1):Int).toNat) 2) (aN ([]:LI))) (fun S=>.skip (S.set 4 (.arr 7 (([(ad.mk a87.Op a87.N ([]:LI) (-1) ([]:LI) 0 ([]:LI))].set (([(ad.mk a87.Op a87.N ([]:LI) (-1) ([]:LI) 0 ([]:LI))].length-1):Int).toNat (ad.mk a.Op a.N ([]:LI) a.To a.iZ a.bY a.Env)).map aJ)))) kr kr (py (n:=7) (m:=1) (enc:=aJ) (xs:=[(ad.mk a87.Op a87.N ([]:LI) (-1) ([]:LI) 0 ([]:LI))]) (i:=([(ad.mk a87.Op a87.N ([]:LI) (-1) ([]:LI) 0 ([]:LI))].length-1)) (x' := (ad.mk a.Op a.N ([]:LI) a.To a.iZ a.bY a.Env)) d kr (cs:=(AV.agg [aI a.Op,aI a.N,aN a.Refs,aI a.To,aN a.iZ,aI a.bY,aN a.Env]).cells) rfl kr kr rfl))<|mo 5 (aI ([(ad.mk a87.Op a87.N ([]:LI) (-1) ([]:LI) 0 ([]:LI))].length-1)) [0,1,4] (hu:=uo (.arr 8 [.agg [.ai 4 0 [(ad.mk a87.Op a87.N ([]:LI) (-1) ([]:LI) 0 ([]:LI))].length,aI a88,.an,.an,.an,.an,.an,.sc (.map none)]]) uT) (ha:=ua (.arr 7 (([(ad.mk a87.Op a87.N ([]:LI) (-1) ([]:LI) 0 ([]:LI))].set (([(ad.mk a87.Op a87.N ([]:LI) (-1) ([]:LI) 0 ([]:LI))].length-1):Int).toNat (ad.mk a.Op a.N ([]:LI) a.To a.iZ a.bY a.Env)).map aJ)) gP)
def fT (a87:Term)(a88:Int)(a89:LI):Option (Sum Int ((List ad)×Int)):=
 if decide ((a87.Op:Int)=1) then(bQ a89 a87.N>>=fun b=>bQ a89 a87.N>>=fun a=>some (Sum.inl a)) else(if decide ((a87.Op:Int)=8) then none else(if decide ([(ad.mk a87.Op a87.N ([]:LI) (-1) ([]:LI) 0 ([]:LI))].length≤1048576) then(if cy .i64 ([(ad.mk a87.Op a87.N ([]:LI) (-1) ([]:LI) 0 ([]:LI))].length-1) then(iw a87 a88 a89) else none) else none))
theorem ql : LG Tryz.prog (fT a87 a88 a89) 120 2 (iu a87 a88 a89) (iv a88 a89):=
 Qa 2 (sB 7 (sV fun _ b=>sT (bF EE 5 (fun S=>w4 Tryz.prog S 45 (.ai 1 0 a89.length) (aI a87.N)) (fun S=>.val (.ptr 1 (0+(a87.N:Int).toNat) 0) S) kr kr (lK (xs:=a89) (es:=a89.map (aA .i64)) (el:=3) (n:=1) b (by first | rfl | (simp;done) | omega | (simp;omega)) kr kr kr))<|sV fun a c=>sT (bF EE 0 (fun S=>WS Tryz.prog S 3 (.ptr 1 (0+(a87.N:Int).toNat) 0)) (fun S=>.val (aI a) S) kr kr (zG (n:=1) (enc:=(aA .i64)) (xs:=a89) (i:=a87.N) c kr (cs:=(AV.agg [aI a]).cells) rfl kr kr))<|mo 3 (aI a) [0,1])<|sB 2 s0<|sG fun d=>sT (Oa EE 30 (fun S=>mQ Tryz.prog S 148 148 (.an) (.ai 3 0 1)) (.ai 4 0 [(ad.mk a87.Op a87.N ([]:LI) (-1) ([]:LI) 0 ([]:LI))].length) (fun S=>S.add (.arr 7 ([(ad.mk a87.Op a87.N ([]:LI) (-1) ([]:LI) 0 ([]:LI))].map aJ))) kr kr (FP (enc:=aJ) (el:=310) (sz:=7) (ys:=[(ad.mk a87.Op a87.N ([]:LI) (-1) ([]:LI) 0 ([]:LI))]) (raw:=[.agg [aI a87.Op,aI a87.N,.an,aI (-1),.an,aI 0,.an]]) (.inl rfl) kr kr kr kr kr kr kr (by simp) d))<|sI 11<|sL 9 a87.Kids<|wi 2 [[2,0,49,8,50,51,9]] [1,0,4] oZ) (hb:=by rintro(y | y)<;>exact bd)
def vW (a1:Term)(v401:(LI×Int)):Option (kf×Int):=
 if decide (0<(v401.1.length:Int)) then(bQ v401.1 0>>=fun a=>if decide ([(ad.mk 1 0 ([]:LI) (-1) ([]:LI) 0 ([]:LI))].length≤1048576) then(if cy .i64 ([(ad.mk 1 0 ([]:LI) (-1) ([]:LI) 0 ([]:LI))].length-1) then(bQ ([0,0,0,0,0,0,0,0,0,0,0,0,0,0,0,0,0,0,0,0]:LI) a>>=fun f=>bQ ([0,0,0,0,0,0,0,0,0,0,0,0,0,0,0,0,0,0,0,0]:LI) a>>=fun g=>bQ (([0,0,0,0,0,0,0,0,0,0,0,0,0,0,0,0,0,0,0,0]:LI).set (a:Int).toNat ([(ad.mk 1 0 ([]:LI) (-1) ([]:LI) 0 ([]:LI))].length-1)) a>>=fun h=>bQ (([0,0,0,0,0,0,0,0,0,0,0,0,0,0,0,0,0,0,0,0]:LI).set (a:Int).toNat ([(ad.mk 1 0 ([]:LI) (-1) ([]:LI) 0 ([]:LI))].length-1)) a>>=fun c=>ma a1 v401 1 (([0,0,0,0,0,0,0,0,0,0,0,0,0,0,0,0,0,0,0,0]:LI).set (a:Int).toNat ([(ad.mk 1 0 ([]:LI) (-1) ([]:LI) 0 ([]:LI))].length-1)) [(ad.mk 1 0 ([]:LI) (-1) ([]:LI) 0 ([]:LI))] [c]) else none) else none) else(fT a1 0 [0,0,0,0,0,0,0,0,0,0,0,0,0,0,0,0,0,0,0,0]>>=fun d=>(match d with | (Sum.inl e)=>some ((kf.mk ([]:List ad) e ([]:LI)),0) | (Sum.inr b)=>some ((kf.mk b.1 b.2 ([]:LI)),0)))
theorem Ih {a1:Term}:LH Tryz.prog (vW a1 v401) (fun r=>.bO [.agg [.lit (r.1.Qr.map aJ),aI r.1.Xa,aN r.1.bf],aI r.2]) (DE a1 v401):=
 sB 1 (sX 3 fun a=>sG fun j=>sT (Oa EE 29 (fun S=>mQ Tryz.prog S 148 148 (.an) (.ai 5 0 1)) (.ai 6 0 [(ad.mk 1 0 ([]:LI) (-1) ([]:LI) 0 ([]:LI))].length) (fun S=>S.add (.arr 7 ([(ad.mk 1 0 ([]:LI) (-1) ([]:LI) 0 ([]:LI))].map aJ))) kr kr (FP (enc:=aJ) (el:=310) (sz:=7) (ys:=[(ad.mk 1 0 ([]:LI) (-1) ([]:LI) 0 ([]:LI))]) (raw:=[.agg [aI 1,aI 0,.an,aI (-1),.an,aI 0,.an]]) (.inl rfl) kr kr kr kr kr kr kr (by simp) j))<|sI 11<|sV fun _ d=>sT (bF EE 3 (fun S=>w4 Tryz.prog S 45 (.ai 4 0 20) (aI a)) (fun S=>.val (.ptr 4 (0+(a:Int).toNat) 0) S) kr kr (lK (xs:=([0,0,0,0,0,0,0,0,0,0,0,0,0,0,0,0,0,0,0,0]:LI)) (es:=([0,0,0,0,0,0,0,0,0,0,0,0,0,0,0,0,0,0,0,0]:LI).map (aA .i64)) (el:=3) (n:=1) d (by first | rfl | (simp;done) | omega | (simp;omega)) kr kr kr))<|sV fun k e=>sT (bF EE 0 (fun S=>Lh Tryz.prog S 3 (.ptr 4 (0+(a:Int).toNat) 0) (aI ([(ad.mk 1 0 ([]:LI) (-1) ([]:LI) 0 ([]:LI))].length-1))) (fun S=>.skip (S.set 4 (.arr 1 ((([0,0,0,0,0,0,0,0,0,0,0,0,0,0,0,0,0,0,0,0]:LI).set (a:Int).toNat ([(ad.mk 1 0 ([]:LI) (-1) ([]:LI) 0 ([]:LI))].length-1)).map (aA .i64))))) kr kr (py (n:=1) (m:=1) (enc:=(aA .i64)) (xs:=([0,0,0,0,0,0,0,0,0,0,0,0,0,0,0,0,0,0,0,0]:LI)) (i:=a) (x' := ([(ad.mk 1 0 ([]:LI) (-1) ([]:LI) 0 ([]:LI))].length-1)) e kr (cs:=(AV.agg [aI k]).cells) rfl kr kr rfl))<|sV fun _ f=>sT (lF EE 10 (fun S=>w4 Tryz.prog S 45 (.ai 4 0 20) (aI a)) (fun S=>.val (.ptr 4 (0+(a:Int).toNat) 0) S) kr kr (lK (xs:=(([0,0,0,0,0,0,0,0,0,0,0,0,0,0,0,0,0,0,0,0]:LI).set (a:Int).toNat ([(ad.mk 1 0 ([]:LI) (-1) ([]:LI) 0 ([]:LI))].length-1))) (es:=(([0,0,0,0,0,0,0,0,0,0,0,0,0,0,0,0,0,0,0,0]:LI).set (a:Int).toNat ([(ad.mk 1 0 ([]:LI) (-1) ([]:LI) 0 ([]:LI))].length-1)).map (aA .i64)) (el:=3) (n:=1) f (by first | rfl | (simp;done) | omega | (simp;omega)) kr kr kr))<|sV fun b g=>sT (lF EE 0 (fun S=>WS Tryz.prog S 3 (.ptr 4 (0+(a:Int).toNat) 0)) (fun S=>.val (aI b) S) kr kr (zG (n:=1) (enc:=(aA .i64)) (xs:=(([0,0,0,0,0,0,0,0,0,0,0,0,0,0,0,0,0,0,0,0]:LI).set (a:Int).toNat ([(ad.mk 1 0 ([]:LI) (-1) ([]:LI) 0 ([]:LI))].length-1))) (i:=a) g kr (cs:=(AV.agg [aI b]).cells) rfl kr kr)) (fun r h=>by
  exact aur EE rq 12 [[9,8,28,4,3,29,30]] [4,3,2,1,6,8] [] 9 [[(9,.ai 4 0 20),(8,aP 3),(28,aN v401.1),(4,aP 2),(3,aP 1),(29,aI (v401.1.length:Int)),(30,aI 1)]] [(4,.arr 1 ((([0,0,0,0,0,0,0,0,0,0,0,0,0,0,0,0,0,0,0,0]:LI).set (a:Int).toNat ([(ad.mk 1 0 ([]:LI) (-1) ([]:LI) 0 ([]:LI))].length-1)).map (aA .i64))),(3,.arr 8 [.agg [.ai 6 0 [(ad.mk 1 0 ([]:LI) (-1) ([]:LI) 0 ([]:LI))].length,aI 0,.ai 8 0 1,.an,.an,.an,.an,.sc (.map none)]]),(2,.arr 3 [.agg [.an,aI 0,.an]]),(1,.arr 3 [aK a1]),(6,.arr 7 ([(ad.mk 1 0 ([]:LI) (-1) ([]:LI) 0 ([]:LI))].map aJ)),(8,oI b)] (GZ 1 (([0,0,0,0,0,0,0,0,0,0,0,0,0,0,0,0,0,0,0,0]:LI).set (a:Int).toNat ([(ad.mk 1 0 ([]:LI) (-1) ([]:LI) 0 ([]:LI))].length-1)) [(ad.mk 1 0 ([]:LI) (-1) ([]:LI) 0 ([]:LI))] [b] r h)))<|sQ 6 5 [3,4] ql fun v=>match v with | .inl l=>sE (by exact bN EE 13 (v:=.bO [.agg [.an,aI l,.an],aI 0]) kr (Fz.bw (Fz.aw (.an) (Fz.aw (.pure pv) (Fz.aw (.an) (.pure pv)))) (.pure pv))) | .inr c=>sE (by exact bN EE 13 (v:=.bO [.agg [.ai 5 0 c.1.length,aI c.2,.an],aI 0]) kr (Fz.bw (Fz.aw (Fz.lT (sz:=7) (es:=(c.1.map aJ)) kr (by first | (simp;done) | (simp;omega)) pl) (Fz.aw (.pure pv) (Fz.aw (.an) (.pure pv)))) (.pure pv)))
def Bb (a0:bA)(a1:Term):Option (kf×Int):=
 yD a0 a1>>=fun a=>if a then(mu a0.Prog.cv a1>>=fun v401=>vW a1 v401) else(some ((kf.mk ([]:List ad) 0 ([]:LI)),2))
theorem NN {a0:bA}{a1:Term}:LF Tryz.prog (Bb a0 a1) 78 [.agg [aM a0.Prog.cv.Cons,aM a0.Prog.cv.bp,.lit (a0.Prog.aF.map az),.lit (a0.bP.map au)],aK a1] (fun r=>.bO [.agg [.lit (r.1.Qr.map aJ),aI r.1.Xa,aN r.1.bf],aI r.2]):=
 sF<|fI 8 K5 (sC 6 wc fun v401=>sL 14 v401.1<|sK 2 [[9,8,28,4,3,29,30]] [4,3,2,1] Ih)<|sE (by exact bN EE 7 (v:=.bO [.agg [.an,aI 0,.an],aI 2]) kr (Fz.bw (Fz.aw (.an) (Fz.aw (.pure pv) (Fz.aw (.an) (.pure pv)))) (.pure pv)))
noncomputable def CX : St:=sN 2 (ak (aI 0) none (sN 8 (St.start T0 35 [.agg [aI 0,aI 0,.lit []]] ag.empty)))
noncomputable def vl := fun a0=>fZ CX 2 fun o=>([[(7,aT a0.Kids),(2,aP (o 1)),(1,aP (o 0)),(8,aI (a0.Kids.length:Int)),(9,aI 0),(3,.an)]],[((o 1),.arr 3 [.agg [aI 0,aI 0,.an]]),((o 0),.arr 3 [aK a0])])
noncomputable def CY : St:=sN 6 (eH (fun S=>.val (.ai 4 0 0) (S.add (.arr 3 []))) (sN 1 (ak (.agg [aI 0,aI 0,.lit []]) none (sN 6 (ak (.dO [aI 0,aI 0,.lit []]) none (sN 3 (ak (aB true) none (sN 1 (vl dd)))))))))
noncomputable def CZ := fun a0 a wP=>fZ CY 5 fun o=>([[(7,aT a0.Kids),(2,aP (o 1)),(1,aP (o 0)),(8,aI (a0.Kids.length:Int)),(9,aI a),(3,.ai (o 4) 0 wP.length)]],[((o 1),.arr 3 [.agg [aI 0,aI 0,.an]]),((o 0),.arr 3 [aK a0]),((o 4),oT wP)])
mutual
def gF (a0:Term)(a:Int)(wP:LT):Option (Term):=
 if decide (a<(a0.Kids.length:Int)) then(bQ a0.Kids a>>=fun c=>da c>>=fun b=>if decide (wP.length+[b].length≤1048576) then(if cy .i64 (a+1) then(gF a0 (a+1) (wP++[b])) else none) else none) else(some (Term.mk a0.Op a0.N wP))
 partial_fixpoint
def da (a0:Term):Option (Term):=
 ll a0
 partial_fixpoint
def ll (a0:Term):Option (Term):=
 if decide (0<(a0.Kids.length:Int)) then(bQ a0.Kids 0>>=fun b=>da b>>=fun a=>if decide ([a].length≤1048576) then(gF a0 1 [a]) else none) else(some (Term.mk a0.Op a0.N ([]:LT)))
 partial_fixpoint
end
theorem y6  : (∀ a0 c wP,LH Tryz.prog (gF a0 c wP) aK (CZ a0 c wP))∧(∀ a0,LF Tryz.prog (da a0) 35 [aK a0] aK)∧(∀ a0,LH Tryz.prog (ll a0) aK (vl a0)):=by
 refine gF.mutual_partial_correctness _ _ _ ?_ ?_ ?_
 · exact fun gF da a eg a0 c wP=>sB 1 (sX 3 fun _=>sC 6 (eg _) fun _=>sA 1 4 6 7 (hs:=Lr)<|sI 3<|sM 2 [[7,2,1,8,9,3]] [1,0,7] [(4,7)] 8 (a _ _ _))<|sE (by exact bN EE 10 (v:=.agg [aI a0.Op,aI a0.N,.ai 4 0 wP.length]) kr (Fz.aw (.pure pv) (Fz.aw (.pure pv) (Fz.aw (Fz.lT (sz:=3) (es:=(wP.map cI)) kr (by simp) pl) (.pure pv)))))
 · exact fun ll b a0=>sF<|sL 8 a0.Kids<|sK 2 [[7,2,1,8,9,3]] [1,0] (b _)
 · exact fun gF da a eg a0=>sB 1 (sX 3 fun _=>sC 6 (eg _) fun _=>afG 1 3 4 (hs:=Lr)<|sK 6 [[7,2,1,8,9,3]] [1,0,4] (a _ _ _))<|sE (by exact bN EE 10 (v:=.agg [aI a0.Op,aI a0.N,.an]) kr (Fz.aw (.pure pv) (Fz.aw (.pure pv) (Fz.aw (.an) (.pure pv)))))
theorem eg {a0:Term}:LF Tryz.prog (da a0) 35 [aK a0] aK:=y6.2.1 _
noncomputable def G0 : St:=sN 2 (ak (aI 0) none (sN 12 (ak (aB false) none (sN 0 (ak (aI 0) none (sN 9 (ak (aB true) none (sN 3 (ak (.dO [.sc (.string ⟨#[]⟩),aI 0]) none (sN 18 (ak (aB true) none (sN 0 (ak (aI 0) none (sN 17 (ak (aB true) none (sN 14 (ak (aB true) none (sN 3 (ak (.dO [.sc (.string ⟨#[]⟩),aI 0]) none (sN 18 (ak (aB true) none (sN 0 (ak (aI 0) none (sN 17 (ak (aB true) none (sN 42 (ak (aB false) none (sN 0 (ak (aI 0) none (sN 33 (St.start T0 7 [.agg [.lit [],.lit [],.lit [],.lit []],.agg [aI 0,aI 0,.lit []],aI 0] ag.empty)))))))))))))))))))))))))))))))
noncomputable def xQ := fun(a0:bA) (a1:aj) a2 a (b:(List (Int×Bool)))=>fZ G0 16 fun o=>([[(2,aP (o 9)),(5,.cR (o 15)),(30,.lit (a1.Steps.map ar)),(3,aP (o 10)),(31,aI (a1.Steps.length:Int)),(32,aI a)],[(3,aP (o 4)),(1,aP (o 1)),(2,aP (o 2)),(4,aP (o 8))],[(2,aP (o 5))],[(6,aP (o 3)),(8,aP (o 4))]],[((o 9),oP (o 7)),((o 15),.mp (b.map (cg (aA .i64) gB))),((o 10),.arr 3 [.agg [aI a1.Nil,aI a1.Cons,.lit (a1.Steps.map ar)]]),((o 4),.arr 3 [.agg [aI a1.Nil,aI a1.Cons,.an]]),((o 1),.arr 3 [.agg [aI a1.Nil,aI a1.Cons,.lit (a1.Steps.map ar)]]),((o 2),oI a2),((o 8),oP (o 7)),((o 5),oI 0),((o 3),.arr 3 [.agg [aI 0,aI 0,.an]]),((o 7),.arr 9 [.agg [aM a0.Prog.cv.Cons,aM a0.Prog.cv.bp,.lit (a0.Prog.aF.map az),.lit (a0.bP.map au),aI 0,aI 0,.an,aI 0,aI 0]])])
noncomputable def G1 : St:=sN 2 (ak (aI 0) none (sN 10 (ak (aB false) none (sN 11 (ak (.bO [.lit [],aI 0]) none (sN 25 (ak (.dO [aI 0,aI 0,aI 0,aI 0,.lit []]) none (sN 4 (ak (.dO [aI 0,aI 0,aI 0,aI 0,.lit []]) none (sN 0 (ak (aI 0) none (sN 13 (ak (aB false) none (sN 11 (ak (.bO [.lit [],aI 0]) none (sN 25 (ak (.dO [aI 0,aI 0,aI 0,aI 0,.lit []]) none (sN 0 (ak (aI 0) none (sN 4 (ak (.dO [aI 0,aI 0,aI 0,aI 0,.lit []]) none (sN 15 (ak (aB false) none (sN 0 (ak (aI 0) none (sN 0 (ak (aI 0) none (sN 4 (ak (aB false) none (sN 11 (ak (aB false) none (sN 1 (dz xQ)))))))))))))))))))))))))))))))))
noncomputable def xR := fun(a1:aj) a2=>fZ G1 22 fun o=>([[(3,aP (o 4)),(1,aP (o 1)),(2,aP (o 2)),(54,aI (a1.Steps.length:Int)),(55,aI 0)],[(2,aP (o 5))],[(6,aP (o 3)),(8,aP (o 4))]],[((o 4),.arr 3 [.agg [aI a1.Nil,aI a1.Cons,.an]]),((o 1),.arr 3 [.agg [aI a1.Nil,aI a1.Cons,.lit (a1.Steps.map ar)]]),((o 2),oI a2),((o 5),oI 0),((o 3),.arr 3 [.agg [aI 0,aI 0,.an]])])
noncomputable def G3 : St:=sN 15 (ak (.agg [aI 0,aI 0,.lit []]) none (sN 6 (ak (.dO [aI 0,aI 0,aI 0,aI 0,.lit []]) none (sN 5 (ak (aI 0) none (sN 3 (ak (aB true) none (sN 12 (ak (aB true) none (sN 1 (dz xR)))))))))))
noncomputable def G4 := fun(a1:aj) a2 b (a:(List aC))=>fZ G3 25 fun o=>([[(3,aP (o 4)),(1,aP (o 1)),(2,aP (o 2)),(54,aI (a1.Steps.length:Int)),(55,aI b)],[(2,aP (o 5))],[(6,aP (o 3)),(8,aP (o 4))]],[((o 4),.arr 3 [.agg [aI a1.Nil,aI a1.Cons,.ai (o 24) 0 a.length]]),((o 1),.arr 3 [.agg [aI a1.Nil,aI a1.Cons,.lit (a1.Steps.map ar)]]),((o 2),oI a2),((o 5),oI 0),((o 3),.arr 3 [.agg [aI 0,aI 0,.an]]),((o 24),.arr 5 (a.map ar))])
def eU (a1:aj)(a2 a:Int)(b:(List aC)):Option (aj×Int):=
 if decide (a<(a1.Steps.length:Int)) then(if decide (a=a2) then(if cy .i64 (a2+1) then(bQ a1.Steps (a2+1)>>=fun c=>da c.Expr>>=fun f=>if decide (b.length+[(aC.mk c.Op c.Var f)].length≤1048576) then(if cy .i64 (a+1) then(eU a1 a2 (a+1) (b++[(aC.mk c.Op c.Var f)])) else none) else none) else none) else(if cy .i64 (a2+1) then(if decide (a=(a2+1)) then(bQ a1.Steps a2>>=fun d=>da d.Expr>>=fun g=>if decide (b.length+[(aC.mk d.Op d.Var g)].length≤1048576) then(if cy .i64 (a+1) then(eU a1 a2 (a+1) (b++[(aC.mk d.Op d.Var g)])) else none) else none) else(bQ a1.Steps a>>=fun e=>da e.Expr>>=fun h=>if decide (b.length+[(aC.mk e.Op e.Var h)].length≤1048576) then(if cy .i64 (a+1) then(eU a1 a2 (a+1) (b++[(aC.mk e.Op e.Var h)])) else none) else none)) else none)) else(some ((aj.mk a1.Nil a1.Cons b),0))
 partial_fixpoint
theorem oO {a1:aj}:(∀ f b,LH Tryz.prog (eU a1 a2 f b) (fun r=>.bO [.agg [aI r.1.Nil,aI r.1.Cons,.lit (r.1.Steps.map ar)],aI r.2]) (G4 a1 a2 f b)):=by
 refine eU.partial_correctness _ _ _ ?_
 exact fun eU a f b=>sB 1 (sB 12 (sI 3<|DN 5 31 56 cB fun c _=>sC 6 eg fun g=>sG fun j=>sT (bF EE 7 (fun S=>mQ Tryz.prog S 31 31 (.ai 24 0 b.length) (.ai 26 0 1)) (fun S=>.val (.ai 27 0 (b++[(aC.mk c.Op c.Var g)]).length) ((S.del 24).add (.arr 5 ((b++[(aC.mk c.Op c.Var g)]).map ar)))) kr kr (oh (enc:=ar) (el:=56) (sz:=5) (xs:=b) (ys:=[(aC.mk c.Op c.Var g)]) kr kr (fun _=>rfl) (fun _=>by kernel_rfl) kr (bC _ (.inr ⟨26,5,rfl,by kernel_rfl⟩)) (by first | rfl | (simp;done) | omega | (simp;omega)) kr kr kr (by simp) j))<|sI 4<|sM 2 [[3,1,2,54,55],[2],[6,8]] [4,1,2,5,3,27] [(24,27)] 28 (a _ _))<|sI 3<|sB 0 (DN 8 31 56 cB fun d _=>sC 6 eg fun h=>sG fun k=>sT (bF EE 7 (fun S=>mQ Tryz.prog S 31 31 (.ai 24 0 b.length) (.ai 26 0 1)) (fun S=>.val (.ai 27 0 (b++[(aC.mk d.Op d.Var h)]).length) ((S.del 24).add (.arr 5 ((b++[(aC.mk d.Op d.Var h)]).map ar)))) kr kr (oh (enc:=ar) (el:=56) (sz:=5) (xs:=b) (ys:=[(aC.mk d.Op d.Var h)]) kr kr (fun _=>rfl) (fun _=>by kernel_rfl) kr (bC _ (.inr ⟨26,5,rfl,by kernel_rfl⟩)) (by first | rfl | (simp;done) | omega | (simp;omega)) kr kr kr (by simp) k))<|sI 4<|sM 2 [[3,1,2,54,55],[2],[6,8]] [4,1,2,5,3,27] [(24,27)] 28 (a _ _))<|DN 5 31 56 cB fun e _=>sC 6 eg fun i=>sG fun l=>sT (bF EE 7 (fun S=>mQ Tryz.prog S 31 31 (.ai 24 0 b.length) (.ai 26 0 1)) (fun S=>.val (.ai 27 0 (b++[(aC.mk e.Op e.Var i)]).length) ((S.del 24).add (.arr 5 ((b++[(aC.mk e.Op e.Var i)]).map ar)))) kr kr (oh (enc:=ar) (el:=56) (sz:=5) (xs:=b) (ys:=[(aC.mk e.Op e.Var i)]) kr kr (fun _=>rfl) (fun _=>by kernel_rfl) kr (bC _ (.inr ⟨26,5,rfl,by kernel_rfl⟩)) (by first | rfl | (simp;done) | omega | (simp;omega)) kr kr kr (by simp) l))<|sI 4<|sM 2 [[3,1,2,54,55],[2],[6,8]] [4,1,2,5,3,27] [(24,27)] 28 (a _ _))<|sE (by exact bN EE 26 (v:=.bO [.agg [aI a1.Nil,aI a1.Cons,.ai 24 0 b.length],aI 0]) kr (Fz.bw (Fz.aw (.pure pv) (Fz.aw (.pure pv) (Fz.aw (Fz.lT (sz:=5) (es:=(b.map ar)) kr (by first | (simp;done) | (simp;omega)) pl) (.pure pv)))) (.pure pv)))
def lE (a1:aj)(a2:Int):Option (aj×Int):=
 if decide (0<(a1.Steps.length:Int)) then(if decide (0=a2) then(if cy .i64 (a2+1) then(bQ a1.Steps (a2+1)>>=fun a=>da a.Expr>>=fun d=>eU a1 a2 1 [(aC.mk a.Op a.Var d)]) else none) else(if cy .i64 (a2+1) then(if decide (0=(a2+1)) then(bQ a1.Steps a2>>=fun b=>da b.Expr>>=fun e=>eU a1 a2 1 [(aC.mk b.Op b.Var e)]) else(bQ a1.Steps 0>>=fun c=>da c.Expr>>=fun f=>eU a1 a2 1 [(aC.mk c.Op c.Var f)])) else none)) else(some ((aj.mk a1.Nil a1.Cons ([]:List aC)),0))
theorem C0 {a1:aj}:LH Tryz.prog (lE a1 a2) (fun r=>.bO [.agg [aI r.1.Nil,aI r.1.Cons,.lit (r.1.Steps.map ar)],aI r.2]) (xR a1 a2):=
 sB 1 (sB 12 (sI 3<|DN 5 31 56 cB fun a _=>sC 6 eg fun _=>sK 15 [[3,1,2,54,55],[2],[6,8]] [4,1,2,5,3,24] (oO _ _))<|sI 3<|sB 0 (DN 8 31 56 cB fun b _=>sC 6 eg fun _=>sK 15 [[3,1,2,54,55],[2],[6,8]] [4,1,2,5,3,24] (oO _ _))<|DN 5 31 56 cB fun c _=>sC 6 eg fun _=>sK 15 [[3,1,2,54,55],[2],[6,8]] [4,1,2,5,3,24] (oO _ _))<|sE (by exact bN EE 26 (v:=.bO [.agg [aI a1.Nil,aI a1.Cons,.an],aI 0]) kr (Fz.bw (Fz.aw (.pure pv) (Fz.aw (.pure pv) (Fz.aw (.an) (.pure pv)))) (.pure pv)))
def dN (a0:bA)(a1:aj)(a2 b:Int)(c:(List (Int×Bool))):Option (aj×Int):=
 if decide (b<(a1.Steps.length:Int)) then(bQ a1.Steps b>>=fun a=>if decide ((a.Var:Int)<0) then(some ((aj.mk 0 0 ([]:List aC)),2)) else(if decide ((a.Var:Int)≥20) then(some ((aj.mk 0 0 ([]:List aC)),2)) else(if((iJ c a.Var).getD false) then(some ((aj.mk 0 0 ([]:List aC)),2)) else(if decide ((a.Op:Int)<1) then(some ((aj.mk 0 0 ([]:List aC)),2)) else(if decide ((a.Op:Int)>5) then(some ((aj.mk 0 0 ([]:List aC)),2)) else(Bb a0 a.Expr>>=fun d=>if(!decide ((d.2:Int)=0)) then(some ((aj.mk 0 0 ([]:List aC)),2)) else(if cy .i64 (b+1) then(dN a0 a1 a2 (b+1) (ky c a.Var true)) else none))))))) else(if decide (a2<0) then(some ((aj.mk 0 0 ([]:List aC)),2)) else(if cy .i64 ((a1.Steps.length:Int)-1) then(if decide (a2≥((a1.Steps.length:Int)-1)) then(some ((aj.mk 0 0 ([]:List aC)),2)) else(bQ a1.Steps a2>>=fun e=>if cy .i64 (a2+1) then(bQ a1.Steps (a2+1)>>=fun f=>mu a0.Prog.cv f.Expr>>=fun Jt=>cL Jt.1 e.Var>>=fun g=>if g then(some ((aj.mk 0 0 ([]:List aC)),7)) else(if cy .i64 (a2+1) then(bQ a1.Steps (a2+1)>>=fun h=>bQ a1.Steps a2>>=fun i=>mu a0.Prog.cv i.Expr>>=fun j=>cL j.1 h.Var>>=fun k=>if k then(some ((aj.mk 0 0 ([]:List aC)),7)) else(lE a1 a2)) else none)) else none)) else none))
 partial_fixpoint
theorem BP {a0:bA}{a1:aj}:(∀ c b,LH Tryz.prog (dN a0 a1 a2 c b) (fun r=>.bO [.agg [aI r.1.Nil,aI r.1.Cons,.lit (r.1.Steps.map ar)],aI r.2]) (xQ a0 a1 a2 c b)):=by
 refine dN.partial_correctness _ _ _ _ ?_
 exact fun dN a c b=>sB 1 (DN 3 31 56 cB fun d _=>sB 6 (sE (by exact bN EE 62 (v:=.bO [.agg [aI 0,aI 0,.an],aI 2]) kr (Fz.bw (Fz.aw (.pure pv) (Fz.aw (.pure pv) (Fz.aw (.an) (.pure pv)))) (.pure pv))))<|sB 3 (sE (by exact bN EE 58 (v:=.bO [.agg [aI 0,aI 0,.an],aI 2]) kr (Fz.bw (Fz.aw (.pure pv) (Fz.aw (.pure pv) (Fz.aw (.an) (.pure pv)))) (.pure pv))))<|akP 5 121 15 (sE (by exact bN EE 52 (v:=.bO [.agg [aI 0,aI 0,.an],aI 2]) kr (Fz.bw (Fz.aw (.pure pv) (Fz.aw (.pure pv) (Fz.aw (.an) (.pure pv)))) (.pure pv))))<|sB 4 (sE (by exact bN EE 47 (v:=.bO [.agg [aI 0,aI 0,.an],aI 2]) kr (Fz.bw (Fz.aw (.pure pv) (Fz.aw (.pure pv) (Fz.aw (.an) (.pure pv)))) (.pure pv))))<|sB 4 (sE (by exact bN EE 42 (v:=.bO [.agg [aI 0,aI 0,.an],aI 2]) kr (Fz.bw (Fz.aw (.pure pv) (Fz.aw (.pure pv) (Fz.aw (.an) (.pure pv)))) (.pure pv))))<|afE 10 121 15 b d.Var true<|sC 14 NN fun _=>sB 9 (sE (by exact bN EE 42 (v:=.bO [.agg [aI 0,aI 0,.an],aI 2]) kr (Fz.bw (Fz.aw (.pure pv) (Fz.aw (.pure pv) (Fz.aw (.an) (.pure pv)))) (.pure pv))))<|sI 9<|sM 2 [[2,5,30,3,31,32],[3,1,2,4],[2],[6,8]] [9,15,10,4,1,2,8,5,3,7] [] 19 (a _ _))<|sB 11 (sE (by exact bN EE 48 (v:=.bO [.agg [aI 0,aI 0,.an],aI 2]) kr (Fz.bw (Fz.aw (.pure pv) (Fz.aw (.pure pv) (Fz.aw (.an) (.pure pv)))) (.pure pv))))<|sL 4 a1.Steps<|sI 0<|sB 0 (sE (by exact bN EE 41 (v:=.bO [.agg [aI 0,aI 0,.an],aI 2]) kr (Fz.bw (Fz.aw (.pure pv) (Fz.aw (.pure pv) (Fz.aw (.an) (.pure pv)))) (.pure pv))))<|DN 15 31 56 cB fun e _=>sI 4<|DN 0 31 56 cB fun f _=>sC 25 wc fun _=>fI 11 fR (sE (by exact bN EE 41 (v:=.bO [.agg [aI 0,aI 0,.an],aI 7]) kr (Fz.bw (Fz.aw (.pure pv) (Fz.aw (.pure pv) (Fz.aw (.an) (.pure pv)))) (.pure pv))))<|sI 13<|DN 0 31 56 cB fun g _=>DN 4 31 56 cB fun h _=>sC 25 wc fun _=>fI 11 fR (sE (by exact bN EE 41 (v:=.bO [.agg [aI 0,aI 0,.an],aI 7]) kr (Fz.bw (Fz.aw (.pure pv) (Fz.aw (.pure pv) (Fz.aw (.an) (.pure pv)))) (.pure pv))))<|sL 10 a1.Steps<|sK 2 [[3,1,2,54,55],[2],[6,8]] [4,1,2,5,3] C0
def qU (a0:bA)(a1:aj)(a2:Int):Option (aj×Int):=
 kV a0>>=fun a=>if(!decide (a=0)) then(some ((aj.mk 0 0 ([]:List aC)),2)) else(if decide ((a1.Nil:Int)≥0) then(if decide ((a1.Nil:Int)<(a0.Prog.cv.Cons.length:Int)) then(bQ a0.Prog.cv.Cons a1.Nil>>=fun b=>if decide ((b.bu:Int)=0) then(if decide ((a1.Cons:Int)≥0) then(if decide ((a1.Cons:Int)<(a0.Prog.cv.Cons.length:Int)) then(bQ a0.Prog.cv.Cons a1.Cons>>=fun c=>if decide ((c.bu:Int)=2) then(if decide ((a1.Steps.length:Int)>6) then(some ((aj.mk 0 0 ([]:List aC)),2)) else(dN a0 a1 a2 0 [])) else(some ((aj.mk 0 0 ([]:List aC)),2))) else(some ((aj.mk 0 0 ([]:List aC)),2))) else(some ((aj.mk 0 0 ([]:List aC)),2))) else(some ((aj.mk 0 0 ([]:List aC)),2))) else(some ((aj.mk 0 0 ([]:List aC)),2))) else(some ((aj.mk 0 0 ([]:List aC)),2)))
theorem G5 {a0:bA}{a1:aj}:LF Tryz.prog (qU a0 a1 a2) 7 [.agg [aM a0.Prog.cv.Cons,aM a0.Prog.cv.bp,.lit (a0.Prog.aF.map az),.lit (a0.bP.map au)],.agg [aI a1.Nil,aI a1.Cons,.lit (a1.Steps.map ar)],aI a2] (fun r=>.bO [.agg [aI r.1.Nil,aI r.1.Cons,.lit (r.1.Steps.map ar)],aI r.2]):=
 sF<|sC 33 zl fun _=>sB 0 (sE (by exact bN EE 49 (v:=.bO [.agg [aI 0,aI 0,.an],aI 2]) kr (Fz.bw (Fz.aw (.pure pv) (Fz.aw (.pure pv) (Fz.aw (.an) (.pure pv)))) (.pure pv))))<|sB 42 (sL 17 a0.Prog.cv.Cons<|sB 0 (sX 18 fun _=>sB 3 (sB 14 (sL 17 a0.Prog.cv.Cons<|sB 0 (sX 18 fun _=>sB 3 (sL 9 a1.Steps<|sB 0 (sE (by exact bN EE 42 (v:=.bO [.agg [aI 0,aI 0,.an],aI 2]) kr (Fz.bw (Fz.aw (.pure pv) (Fz.aw (.pure pv) (Fz.aw (.an) (.pure pv)))) (.pure pv))))<|sL 12 a1.Steps<|sK 2 [[2,5,30,3,31,32],[3,1,2,4],[2],[6,8]] [9,15,10,4,1,2,8,5,3,7] (BP _ _))<|sE (by exact bN EE 53 (v:=.bO [.agg [aI 0,aI 0,.an],aI 2]) kr (Fz.bw (Fz.aw (.pure pv) (Fz.aw (.pure pv) (Fz.aw (.an) (.pure pv)))) (.pure pv))))<|sE (by exact bN EE 64 (v:=.bO [.agg [aI 0,aI 0,.an],aI 2]) kr (Fz.bw (Fz.aw (.pure pv) (Fz.aw (.pure pv) (Fz.aw (.an) (.pure pv)))) (.pure pv))))<|sE (by exact bN EE 71 (v:=.bO [.agg [aI 0,aI 0,.an],aI 2]) kr (Fz.bw (Fz.aw (.pure pv) (Fz.aw (.pure pv) (Fz.aw (.an) (.pure pv)))) (.pure pv))))<|sE (by exact bN EE 59 (v:=.bO [.agg [aI 0,aI 0,.an],aI 2]) kr (Fz.bw (Fz.aw (.pure pv) (Fz.aw (.pure pv) (Fz.aw (.an) (.pure pv)))) (.pure pv))))<|sE (by exact bN EE 70 (v:=.bO [.agg [aI 0,aI 0,.an],aI 2]) kr (Fz.bw (Fz.aw (.pure pv) (Fz.aw (.pure pv) (Fz.aw (.an) (.pure pv)))) (.pure pv))))<|sE (by exact bN EE 77 (v:=.bO [.agg [aI 0,aI 0,.an],aI 2]) kr (Fz.bw (Fz.aw (.pure pv) (Fz.aw (.pure pv) (Fz.aw (.an) (.pure pv)))) (.pure pv)))
end
end Go.Eng

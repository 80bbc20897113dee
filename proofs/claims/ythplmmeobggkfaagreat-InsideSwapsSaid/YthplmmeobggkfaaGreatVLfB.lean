/- Functions of the program lifted to data, each with its contract; no conditions. -/
import Derived.Test.YthplmmeobggkfaaGreatVLfA
import Derived.KernelRfl
set_option linter.all false
namespace Go.Eng
open Go.Proofs
set_option synthInstance.maxSize 100000
set_option synthInstance.maxHeartbeats 400000
set_option maxRecDepth 100000
noncomputable section
noncomputable def HR : St:=sN 2 (ak (aI 0) none (sN 23 (ak (aB true) none (sN 0 (ak (aI 0) none (sN 3 (ak (aB true) none (sN 0 (ak (aI 0) none (sN 6 (St.start T0 228 [.agg [.lit [],.lit [],.lit []]] ag.empty)))))))))))
noncomputable def HS := fun(a0:aJ) a=>fV HR 2 fun o=>([[(0,.lit (a0.aO.map ay)),(1,.fn (.func 326) [] [aP (o 1)]),(7,aI (a0.aO.length:Int)),(8,aI a)],[],[],[(13,aB true)]],[((o 1),.arr 1 [.fn (.func 290) [] [aP (o 0)]]),((o 0),.arr 3 [.agg [aM a0.cy.Cons,aM a0.cy.bq,.lit (a0.aO.map ay)]])])
def jJ (a0:aJ)(a:Int):Option (Bool):=
 if decide (a<(a0.aO.length:Int)) then(bP a0.aO a>>=fun b=>u4 a0.cy b>>=fun c=>if c then(if cw .i64 (a+1) then(jJ a0 (a+1)) else none) else(if decide (a≥0) then(some false) else(some true))) else(some true)
 partial_fixpoint
variable {a0 : aJ}
theorem CF : (∀ b,LH Tryz.prog (jJ a0 b) aB (HS a0 b)):=by
 refine jJ.partial_correctness _ _ ?_
 exact fun jJ a b=>sB 1 (sX 9 fun _=>fH 16 Bj (sI 9<|sM 2 [[0,1,7,8],[],[],[13]] [1,0] [] 4 (a _))<|sB 12 (sR 11)<|sR 11)<|sR 17
def s8 (a0:aJ):Option (Bool):=
 if decide ((a0.aO.length:Int)≤16) then(cW a0.cy>>=fun v28=>if decide (v28=0) then(jJ a0 0) else(some false)) else(some false)
theorem HT : LF Tryz.prog (s8 a0) 228 [.agg [aM a0.cy.Cons,aM a0.cy.bq,.lit (a0.aO.map ay)]] aB:=
 sF<|sL 6 a0.aO<|sB 0 (sC 3 pI fun _=>sB 0 (sL 23 a0.aO<|sK 2 [[0,1,7,8],[],[],[13]] [1,0] (CF _))<|sR 10)<|sR 15
def vN (a0:aJ):Option (Int):=
 s8 a0>>=fun v0=>if v0 then(some 0) else(some 2)
theorem HU : LF Tryz.prog (vN a0) 149 [.agg [aM a0.cy.Cons,aM a0.cy.bq,.lit (a0.aO.map ay)]] aI:=
 sF<|fH 5 HT (sR 5)<|sR 5
noncomputable def Ej : St:=sN 8 (St.start T0 298 [aI 0,aI 0] ag.empty)
noncomputable def wF := fun a0 a1=>fV Ej 0 fun o=>([[(0,aI a0),(7,aI a1),(8,aI 0),(5,.an)]],[])
noncomputable def Ek : St:=sN 8 (ak (aI 0) none (sN 9 (ak (aB true) none (sN 1 (dz wF)))))
noncomputable def El := fun a0 a1 a (wT:LI)=>fV Ek 2 fun o=>([[(0,aI a0),(7,aI a1),(8,aI a),(5,.ai (o 1) 0 wT.length)]],[((o 1),.arr 1 (wT.map (az .i64)))])
def kf (a0 a1 a:Int)(wT:LI):Option (LI):=
 if decide (a<a1) then(if cw .i64 (a0+a) then(if decide (wT.length+[(a0+a)].length≤1048576) then(if cw .i64 (a+1) then(kf a0 a1 (a+1) (wT++[(a0+a)])) else none) else none) else none) else(some wT)
 partial_fixpoint
variable {a1 : Int}
theorem zT {a0:Int}:(∀ b wT,LH Tryz.prog (kf a0 a1 b wT) aN (El a0 a1 b wT)):=by
 refine kf.partial_correctness _ _ _ ?_
 exact fun kf a b wT=>sB 1 (sI 9<|sA 1 1 2 3<|sI 3<|sM 2 [[0,7,8,5]] [3] [(1,3)] 4 (a _ _))<|G4 6 1
def ta (a0 a1:Int):Option (LI):=
 if decide (0<a1) then(if cw .i64 (a0+0) then(kf a0 a1 1 [(a0+0)]) else none) else(some ([]:LI))
theorem BB {a0:Int}:LH Tryz.prog (ta a0 a1) aN (wF a0 a1):=
 sB 1 (sI 9<|sK 8 [[0,7,8,5]] [1] (zT _ _))<|Ta 6
def oq (a0 a1:Int):Option (LI):=
 ta a0 a1
theorem wG {a0:Int}:LF Tryz.prog (oq a0 a1) 298 [aI a0,aI a1] aN:=
 sF<|sK 8 [[0,7,8,5]] [] BB
noncomputable def BC : St:=sN 2 (ak (aI 0) none (sN 6 (St.start T0 297 [.lit []] ag.empty)))
noncomputable def tP := fun a0=>fV BC 0 fun o=>([[(6,aN a0),(7,aI (a0.length:Int)),(8,aI 0),(3,.an)]],[])
noncomputable def BD : St:=sN 6 (eC (fun S=>.val (.ai 1 0 0) (S.add (.arr 3 []))) (sN 7 (ak (.dN [aI 0]) none (sN 3 (ak (aB true) none (sN 1 (tP dd)))))))
noncomputable def BE := fun a0 a Rf=>fV BD 2 fun o=>([[(6,aN a0),(7,aI (a0.length:Int)),(8,aI a),(3,.ai (o 1) 0 Rf.length)]],[((o 1),oT Rf)])
def iS (a0:LI)(a:Int)(Rf:LT):Option (LT):=
 if decide (a<(a0.length:Int)) then(bP a0 a>>=fun b=>if decide (Rf.length+[(Term.mk 1 b ([]:LT))].length≤1048576) then(if cw .i64 (a+1) then(iS a0 (a+1) (Rf++[(Term.mk 1 b ([]:LT))])) else none) else none) else(some Rf)
 partial_fixpoint
theorem xP {a0:LI}:(∀ b Rf,LH Tryz.prog (iS a0 b Rf) aT (BE a0 b Rf)):=by
 refine iS.partial_correctness _ _ ?_
 exact fun iS a b Rf=>sB 1 (sX 3 fun c=>sW 7 1 2 3 [.agg [aI 1,aI c,.an]]<|sI 3<|sM 2 [[6,7,8,3]] [3] [(1,3)] 4 (a _ _))<|G4 6 1
def pJ (a0:LI):Option (LT):=
 if decide (0<(a0.length:Int)) then(bP a0 0>>=fun a=>if decide ([(Term.mk 1 a ([]:LT))].length≤1048576) then(iS a0 1 [(Term.mk 1 a ([]:LT))]) else none) else(some ([]:LT))
theorem yL {a0:LI}:LH Tryz.prog (pJ a0) aT (tP a0):=
 sB 1 (sX 3 fun a=>aut 7 0 1 [.agg [aI 1,aI a,.an]]<|sK 6 [[6,7,8,3]] [1] (xP _ _))<|Ta 6
def me (a0:LI):Option (LT):=
 pJ a0
theorem tQ {a0:LI}:LF Tryz.prog (me a0) 297 [aN a0] aT:=
 sF<|sL 6 a0<|sK 2 [[6,7,8,3]] [] yL
def vO (a0:aJ)(a1:Int):Option (di):=
 bP a0.cy.bq a1>>=fun a=>oq 0 a.bu>>=fun b=>me b>>=fun c=>some (di.mk c a.bu)
theorem HV : LF Tryz.prog (vO a0 a1) 233 [.agg [aM a0.cy.Cons,aM a0.cy.bq,.lit (a0.aO.map ay)],aI a1] (fun r=>.agg [aT r.args,aI r.next]):=
 sF<|sX 8 fun _=>sC 5 wG fun _=>sC 0 tQ fun _=>sR 5
noncomputable def NF : St:=sN 2 (ak (aI 0) none (sN 17 (St.start T0 353 [.lit [],aI 0] ag.empty)))
noncomputable def NG := fun a0 a1 a=>fV NF 1 fun o=>([[(0,aT a0),(1,.fn (.func 371) [] [aP (o 0)]),(7,aI (a0.length:Int)),(8,aI a)],[],[]],[((o 0),oI a1)])
mutual
def jS (a0:LT)(a1 a:Int):Option (Bool):=
 if decide (a<(a0.length:Int)) then(bP a0 a>>=fun b=>if decide ((b.Op:Int)=1) then(if decide ((b.N:Int)=a1) then(if decide (a≥0) then(some true) else(some false)) else(lQ b.Kids a1>>=fun c=>if c then(if decide (a≥0) then(some true) else(some false)) else(if cw .i64 (a+1) then(jS a0 a1 (a+1)) else none))) else(lQ b.Kids a1>>=fun NS=>if NS then(if decide (a≥0) then(some true) else(some false)) else(if cw .i64 (a+1) then(jS a0 a1 (a+1)) else none))) else(some false)
 partial_fixpoint
def lQ (a0:LT)(a1:Int):Option (Bool):=
 jS a0 a1 0
 partial_fixpoint
end
theorem GP : (∀ a0 b,LH Tryz.prog (jS a0 a1 b) aB (NG a0 a1 b))∧(∀ a0,LF Tryz.prog (lQ a0 a1) 353 [aT a0,aI a1] aB):=by
 refine jS.mutual_partial_correctness _ _ _ ?_ ?_
 · exact fun jS lQ a tK a0 b=>sB 1 (sX 9 fun _=>sB 8 (sB 4 (sB 15 (sR 6)<|sR 6)<|fH 5 (tK _) (sB 9 (sR 6)<|sR 6)<|sI 6<|sM 2 [[0,1,7,8],[],[]] [0] [] 2 (a _ _))<|fH 10 (tK _) (sB 9 (sR 6)<|sR 6)<|sI 6<|sM 2 [[0,1,7,8],[],[]] [0] [] 2 (a _ _))<|sR 12
 · exact fun jS a a0=>sF<|sL 17 a0<|sK 2 [[0,1,7,8],[],[]] [0] (a _ _)
theorem tK {a0:LT}:LF Tryz.prog (lQ a0 a1) 353 [aT a0,aI a1] aB:=GP.2 _
noncomputable def CG : St:=sN 10 (ak (aB true) none (sN 10 (St.start T0 372 [.lit [],aI 0,.agg [aI 0,aI 0,.lit []]] ag.empty)))
noncomputable def CH := fun a1 a2=>fV CG 1 fun o=>([[(5,aP (o 0)),(7,.an),(1,aI a1),(12,.an),(13,aI 0),(14,aI 0)]],[((o 0),.arr 3 [aK a2])])
noncomputable def CI : St:=sN 9 (eC (fun S=>.val (.ai 1 0 0) S) (sN 3 (ak (aB false) none (sN 10 (St.start T0 372 [.lit [],aI 0,.agg [aI 0,aI 0,.lit []]] ag.empty)))))
noncomputable def CJ := fun a1 a2=>fV CI 2 fun o=>([[(5,aP (o 0)),(7,.ai (o 1) 0 0),(1,aI a1),(12,.ai (o 1) 0 0),(13,aI 0),(14,aI 0)]],[((o 0),.arr 3 [aK a2]),((o 1),.arr 3 [])])
noncomputable def CK : St:=sN 9 (eC (fun S=>.val (.ai 2 0 0) ((S.del 1).add (.arr 3 []))) (sN 3 (ak (aB false) none (sN 10 (St.start T0 372 [.lit [],aI 0,.agg [aI 0,aI 0,.lit []]] ag.empty)))))
noncomputable def mA := fun a1 a2 b a yP=>fV CK 3 fun o=>([[(5,aP (o 0)),(7,.ai (o 2) 0 yP.length),(1,aI a1),(12,.ai (o 2) 0 yP.length),(13,aI b),(14,aI a)]],[((o 0),.arr 3 [aK a2]),((o 2),oT yP)])
def q8 (a1:Int)(a2:Term):Option (LT):=
 some ([]:LT)
theorem zU {a2:Term}:LH Tryz.prog (q8 a1 a2) aT (CH a1 a2):=
 Ta 8
def q9 (a1:Int)(a2:Term):Option (LT):=
 some []
theorem zV {a2:Term}:LH Tryz.prog (q9 a1 a2) aT (CJ a1 a2):=
 sE (by exact bN EE 8 (v:=.ai 1 0 0) kr (Fz.yU (sz:=3) (es:=[]) kr rfl Er.nil))
mutual
def dD (a1:Int)(a2:Term)(e a:Int)(yP:LT):Option (LT):=
 if decide (a<e) then(bP yP a>>=fun g=>bP yP a>>=fun b=>if decide ((b.Op:Int)=1) then(if decide ((b.N:Int)=a1) then(bP yP a>>=fun h=>bP yP a>>=fun i=>if cw .i64 (a+1) then(dD a1 a2 e (a+1) (yP.set (a:Int).toNat a2)) else none) else(gZ b.Kids a1 a2>>=fun v53=>bP yP a>>=fun j=>bP yP a>>=fun c=>if cw .i64 (a+1) then(dD a1 a2 e (a+1) (yP.set (a:Int).toNat (Term.mk c.Op c.N v53))) else none)) else(gZ b.Kids a1 a2>>=fun f=>bP yP a>>=fun k=>bP yP a>>=fun d=>if cw .i64 (a+1) then(dD a1 a2 e (a+1) (yP.set (a:Int).toNat (Term.mk d.Op d.N f))) else none)) else(some yP)
 partial_fixpoint
def gZ (a0:LT)(a1:Int)(a2:Term):Option (LT):=
 (if a0.isEmpty then(q9 a1 a2) else(if decide (([]:LT).length+a0.length≤1048576) then(dD a1 a2 ((([]:LT)++a0).length) 0 (([]:LT)++a0)) else none))>>=fun z=>if a0.isEmpty then((q8 a1 a2)>>=ZY z) else some z
 partial_fixpoint
end
theorem yM {a2:Term}:(∀ h b yP,LH Tryz.prog (dD a1 a2 h b yP) aT (mA a1 a2 h b yP))∧(∀ a0,LF Tryz.prog (gZ a0 a1 a2) 372 [aT a0,aI a1,aK a2] aT):=by
 refine dD.mutual_partial_correctness _ _ _ _ ?_ ?_
 · exact fun dD gZ a mB h b yP=>sB 1 (aj5 4 2 fun _ _=>sV fun c g=>sT (bF EE 0 (fun S=>WN Tryz.prog S 54 (.ptr 2 (0+(b:Int).toNat) 0)) (fun S=>.val (aK c) S) kr kr (zw (n:=3) (enc:=cH) (xs:=yP) (i:=b) g kr (fX c) kr kr))<|sB 6 (sB 4 (aj5 5 2 fun _ _=>auv 0 2 a2 fun _=>sI 2<|by unfold mA;rw[show yP.length=(yP.set (b:Int).toNat a2).length by simp];exact sM 2 [[5,7,1,12,13,14]] [0,2] [] 4 (a _ _ _))<|sC 8 (mB _) fun v53=>aj5 0 2 fun _ _=>asU 1 2 v53 fun d=>sI 2<|by unfold mA;rw[show yP.length=(yP.set (b:Int).toNat (Term.mk d.Op d.N v53)).length by simp];exact sM 2 [[5,7,1,12,13,14]] [0,2] [] 4 (a _ _ _))<|sC 13 (mB _) fun e=>aj5 0 2 fun _ _=>asU 1 2 e fun f=>sI 2<|by unfold mA;rw[show yP.length=(yP.set (b:Int).toNat (Term.mk f.Op f.N e)).length by simp];exact sM 2 [[5,7,1,12,13,14]] [0,2] [] 4 (a _ _ _))<|G4 6 2
 · exact fun dD a a0=>sF<|sO 10 a0 (sK 10 [[5,7,1,12,13,14]] [0] zU)<|sS (fun c1=>sT (bF EE 3 (fun S=>mN Tryz.prog S 52 52 (.ai 1 0 0) (aT a0)) (fun S=>.val (.ai 1 0 0) S) kr kr (dH (enc:=cH) (el:=54) (sz:=3) (ys:=a0) kr kr (bC _ (.inl rfl)) c1 (bC (enc:=cH) (ys:=([]:LT)) _ (.inr ⟨1,3,rfl,by kernel_rfl⟩)) (dY (enc:=cH) (fun x=>by rw[fX];rfl) (fun x=>by rw[fX];rfl) _)))<|sK 9 [[5,7,1,12,13,14]] [0,1] zV) fun c1=>Re 3 1 2 (bK c1)<|sK 9 [[5,7,1,12,13,14]] [0,2] (a _ _ _)
theorem mB {a0:LT}{a2:Term}:LF Tryz.prog (gZ a0 a1 a2) 372 [aT a0,aI a1,aK a2] aT:=yM.2 _
def ni (a0:di)(a1:aE)(a2 a3:Int):Option (di×LI):=
 bP a1.Cons a3>>=fun b=>oq a0.next b.bu>>=fun a=>me a>>=fun c=>gZ a0.args a2 (Term.mk 3 a3 c)>>=fun v3=>if cw .i64 (a0.next+(a.length:Int)) then(some ((di.mk v3 (a0.next+(a.length:Int))),a)) else none
variable {a2 : Int}
theorem zW {a0:di}{a1:aE}{a3:Int}:LF Tryz.prog (ni a0 a1 a2 a3) 354 [.agg [aT a0.args,aI a0.next],aG a1,aI a2,aI a3] (fun r=>.bO [.agg [aT r.1.args,aI r.1.next],aN r.2]):=
 sF<|sX 12 fun _=>sC 3 wG fun a=>sC 4 tQ fun _=>sC 9 mB fun _=>sL 3 a<|sI 0<|sR 7
noncomputable def uA : St:=sN 2 (ak (aI 0) none (sN 2 (ak (aB false) none (sN 0 (ak (aI 0) none (sN 1 (ak (aI 0) none (sN 4 (St.start T0 355 [.lit [],.lit []] ag.empty)))))))))
noncomputable def uB := fun a0 a1 a=>fV uA 0 fun o=>([[(1,aN a1),(0,aN a0),(12,aI (a0.length:Int)),(13,aI a)]],[])
def ew (a0 a1:LI)(a:Int):Option (Bool):=
 if decide (a<(a0.length:Int)) then(bP a0 a>>=fun b=>bP a1 a>>=fun c=>if(!decide (b=c)) then(some false) else(if cw .i64 (a+1) then(ew a0 a1 (a+1)) else none)) else(some true)
 partial_fixpoint
theorem rK {a0:LI}{a1:LI}:(∀ b,LH Tryz.prog (ew a0 a1 b) aB (uB a0 a1 b)):=by
 refine ew.partial_correctness _ _ _ ?_
 exact fun ew a b=>sB 1 (sX 9 fun _=>sX 3 fun _=>sB 1 (sR 5)<|sI 3<|sK 2 [[1,0,12,13]] [] (a _))<|sR 5
def dC (a0 a1:LI):Option (Bool):=
 if(!decide ((a0.length:Int)=(a1.length:Int))) then(some false) else(ew a0 a1 0)
theorem mY {a0:LI}{a1:LI}:LF Tryz.prog (dC a0 a1) 355 [aN a0,aN a1] aB:=
 sF<|sL 4 a0<|sL 1 a1<|sB 0 (sR 4)<|sL 2 a0<|sK 2 [[1,0,12,13]] [] (rK _)
@[simp] noncomputable def fk := fun gp a12 (a:LI) (o:NM)=>(([aT gp,aT a12,.ai (o 0) 0 a.length],[.arr 1 (a.map (az .i64))]):TC)
@[simp] noncomputable def iq := fun(r:(LI×Bool)) (o:NM)=>((aB r.2,[some (.arr 1 (r.1.map (az .i64)))],[]):TB)
noncomputable def pT : St:=sN 2 (ak (aI 0) none (sN 4 (St.start T0 374 ((dz fk id).1) (oX 1 (mR 0 ((dz fk id).2))))))
noncomputable def eV := fun gp a12 (b:LI) a (yr:LI)=>fV pT 1 fun o=>([[(2,.ai (o 0) 0 yr.length),(1,aT a12),(10,aT gp),(11,aI (gp.length:Int)),(12,aI a)]],[((o 0),.arr 1 (yr.map (az .i64)))])
noncomputable def zX : St:=sN 127 (W6 1 (aI 0) (sN 13 (St.start T0 356 [.agg [.lit [],aI 0],.agg [aI 0,.lit [],aI 0,aI 0,.lit [],aI 0]] ag.empty)))
noncomputable def zY := fun(a0:di) (a1:bn) (Af:LI)=>fV zX 4 fun o=>([[(6,.ai (o 3) 0 Af.length),(2,aP (o 0)),(3,aP (o 1))]],[((o 3),.arr 1 (Af.map (az .i64))),((o 0),.arr 2 [.agg [aT a0.args,aI a0.next]]),((o 1),.arr 6 [.agg [aI a1.vl,aT a1.cK,aI a1.gR.Op,aI a1.gR.N,aT a1.gR.Kids,aI a1.bg]])])
mutual
def bB (gp a12:LT)(f:LI)(c:Int)(yr:LI):Option (LI×Bool):=
 if decide (c<(gp.length:Int)) then(bP gp c>>=fun a=>bP a12 c>>=fun b=>if decide ((a.Op:Int)=1) then(if decide ((b.Op:Int)=1) then(bP yr a.N>>=fun g=>bP yr a.N>>=fun h=>if cw .i64 (c+1) then(bB gp a12 f (c+1) (yr.set (a.N:Int).toNat b.N)) else none) else(if(!decide ((a.Op:Int)=b.Op)) then(some (yr,false)) else(if(!decide ((a.N:Int)=b.N)) then(some (yr,false)) else(bH a.Kids b.Kids yr>>=fun d=>if decide (d.1.length=yr.length) then(if d.2 then(if cw .i64 (c+1) then(bB gp a12 f (c+1) d.1) else none) else(some (d.1,false))) else none)))) else(if(!decide ((a.Op:Int)=b.Op)) then(some (yr,false)) else(if(!decide ((a.N:Int)=b.N)) then(some (yr,false)) else(bH a.Kids b.Kids yr>>=fun e=>if decide (e.1.length=yr.length) then(if e.2 then(if cw .i64 (c+1) then(bB gp a12 f (c+1) e.1) else none) else(some (e.1,false))) else none)))) else(some (yr,true))
 partial_fixpoint
def bH (gp a12:LT)(a:LI):Option (LI×Bool):=
 bB gp a12 a 0 a
 partial_fixpoint
end
theorem nR  : (∀ gp a12 c e yr,LJ Tryz.prog (bB gp a12 c e yr) 1 iq (eV gp a12 c e yr))∧(∀ gp a12 c,LG Tryz.prog (bH gp a12 c) 374 1 (fk gp a12 c) iq):=by
 refine bB.mutual_partial_correctness _ _ ?_ ?_
 · exact fun bB bH a eX gp a12 c e yr=>sB 1 (sX 4 fun b=>sX 7 fun d=>sB 6 (sB 3 (sV fun _ f=>sT (bF EE 7 (fun S=>wS Tryz.prog S 45 (.ai 0 0 yr.length) (aI b.N)) (fun S=>.val (.ptr 0 (0+(b.N:Int).toNat) 0) S) kr kr (lD (xs:=yr) (es:=yr.map (az .i64)) (el:=3) (n:=1) f (by first | rfl | (simp;done) | omega | (simp;omega)) kr kr kr))<|sV fun k g=>sT (bF EE 0 (fun S=>Lb Tryz.prog S 3 (.ptr 0 (0+(b.N:Int).toNat) 0) (aI d.N)) (fun S=>.skip (S.set 0 (.arr 1 ((yr.set (b.N:Int).toNat d.N).map (az .i64))))) kr kr (pq (n:=1) (m:=1) (enc:=(az .i64)) (xs:=yr) (i:=b.N) (x' := d.N) g kr (cs:=(AV.agg [aI k]).cells) rfl kr kr rfl))<|sI 2<|by unfold eV;rw[show yr.length=(yr.set (b.N:Int).toNat d.N).length by simp];exact I9 2 [[2,1,10,11,12]] [0] [] 3 (a _ _ _ _ _))<|sB 6 (mg 20 (aB false) [0])<|sB 5 (mg 14 (aB false) [0])<|sV fun l h=>sG fun o=>N0 7 (eX _ _ _ l h _ 3 [0] wK) (sI 4<|by unfold eV;rw[←o];exact I9 2 [[2,1,10,11,12]] [0] [] 3 (a _ _ _ _ _))<|mg 6 (aB false) [0])<|sB 10 (mg 20 (aB false) [0])<|sB 5 (mg 14 (aB false) [0])<|sV fun p j=>sG fun q=>N0 7 (eX _ _ _ p j _ 3 [0] wK) (sI 4<|by unfold eV;rw[←q];exact I9 2 [[2,1,10,11,12]] [0] [] 3 (a _ _ _ _ _))<|mg 6 (aB false) [0])<|mg 5 (aB true) [0]
 · exact fun bB a gp a12 c=>P8 1 (sL 4 gp<|wa 2 [[2,1,10,11,12]] [0] (a _ _ _ _ _))
theorem eX {gp:LT}{a12:LT}{a:LI}:LG Tryz.prog (bH gp a12 a) 374 1 (fk gp a12 a) iq:=nR.2 _ _ _
def oC (a0:di)(a1:bn)(Af:LI):Option (LI×Bool):=
 bH a1.cK a0.args Af>>=fun a=>if decide (a.1.length=Af.length) then(if a.2 then(some (a.1,true)) else(some (a.1,false))) else none
theorem bh {a0:di}{a1:bn}{Af:LI}:LH Tryz.prog (oC a0 a1 Af) (fun r=>.bO [aN r.1,aB r.2]) (zY a0 a1 Af):=
 sV fun a b=>sG fun _=>N0 5 (eX a b _ 4 [3] wK) (sE (by exact bN EE 8 (v:=.bO [.ai 3 0 Af.length,aB true]) kr (Fz.bw (Fz.lN (sz:=1) (es:=(a.1.map (az .i64))) kr (by first | (simp;done) | (simp;omega)) pl) (.pure pv))))<|sE (by exact bN EE 8 (v:=.bO [.ai 3 0 Af.length,aB false]) kr (Fz.bw (Fz.lN (sz:=1) (es:=(a.1.map (az .i64))) kr (by first | (simp;done) | (simp;omega)) pl) (.pure pv)))
def oD (a0:di)(a1:bn)(k:Int):Option (LI×Bool):=
 oC a0 a1 (List.replicate k.toNat (-1))
def jq (a0:di)(a1:bn):Option (LI×Bool):=
 if decide (0≤a1.bg∧a1.bg≤20) then(oD a0 a1 a1.bg) else none
theorem zZ {a0:di}{a1:bn}:LF Tryz.prog (jq a0 a1) 356 [.agg [aT a0.args,aI a0.next],.agg [aI a1.vl,aT a1.cK,aI a1.gR.Op,aI a1.gR.N,aT a1.gR.Kids,aI a1.bg]] (fun r=>.bO [aN r.1,aB r.2]):=
 sF<|aus 13 1 (F:=oD a0 a1) fun k h=>match k,h with | 0,_=>sK 127 [[6,2,3]] [3,0,1] bh | 1,_=>sK 127 [[6,2,3]] [3,0,1] bh | 2,_=>sK 147 [[6,2,3]] [3,0,1] bh | 3,_=>sK 167 [[6,2,3]] [3,0,1] bh | 4,_=>sK 167 [[6,2,3]] [3,0,1] bh | 5,_=>sK 187 [[6,2,3]] [3,0,1] bh | 6,_=>sK 187 [[6,2,3]] [3,0,1] bh | 7,_=>sK 187 [[6,2,3]] [3,0,1] bh | 8,_=>sK 187 [[6,2,3]] [3,0,1] bh | 9,_=>sK 207 [[6,2,3]] [3,0,1] bh | 10,_=>sK 207 [[6,2,3]] [3,0,1] bh | 11,_=>sK 207 [[6,2,3]] [3,0,1] bh | 12,_=>sK 207 [[6,2,3]] [3,0,1] bh | 13,_=>sK 207 [[6,2,3]] [3,0,1] bh | 14,_=>sK 207 [[6,2,3]] [3,0,1] bh | 15,_=>sK 207 [[6,2,3]] [3,0,1] bh | 16,_=>sK 207 [[6,2,3]] [3,0,1] bh | 17,_=>sK 227 [[6,2,3]] [3,0,1] bh | 18,_=>sK 227 [[6,2,3]] [3,0,1] bh | 19,_=>sK 227 [[6,2,3]] [3,0,1] bh | 20,_=>sK 227 [[6,2,3]] [3,0,1] bh | n+21,h=>absurd h (by omega)
noncomputable def PO : St:=sN 2 (ak (aI 0) none (sN 8 (St.start T0 235 [.agg [.lit [],.lit [],.lit []],aI 0] ag.empty)))
noncomputable def Gf := fun(a0:aJ) a1 a=>fV PO 1 fun o=>([[(1,aI a1),(9,.lit (a0.aO.map ay)),(10,aI (a0.aO.length:Int)),(11,aI a),(5,.an)]],[])
noncomputable def PQ : St:=sN 2 (ak (aI 0) none (sN 8 (ak (aB true) none (sN 8 (ak (.dN [aI 0,.lit [],aI 0,aI 0,.lit [],aI 0]) none (sN 4 (ak (aB true) none (sN 1 (dz Gf)))))))))
noncomputable def PR := fun(a0:aJ) a1 a (yO:LI)=>fV PQ 4 fun o=>([[(1,aI a1),(9,.lit (a0.aO.map ay)),(10,aI (a0.aO.length:Int)),(11,aI a),(5,.ai (o 3) 0 yO.length)]],[((o 3),.arr 1 (yO.map (az .i64)))])
def nJ (a0:aJ)(a1 a:Int)(yO:LI):Option (LI):=
 if decide (a<(a0.aO.length:Int)) then(bP a0.aO a>>=fun b=>if decide ((b.vl:Int)=a1) then(if decide (yO.length+[a].length≤1048576) then(if cw .i64 (a+1) then(nJ a0 a1 (a+1) (yO++[a])) else none) else none) else(if cw .i64 (a+1) then(nJ a0 a1 (a+1) yO) else none)) else(some yO)
 partial_fixpoint
theorem HW : (∀ b yO,LH Tryz.prog (nJ a0 a1 b yO) aN (PR a0 a1 b yO)):=by
 refine nJ.partial_correctness _ _ _ ?_
 exact fun nJ a b yO=>sB 1 (sX 4 fun _=>sB 8 (sA 4 3 5 6<|sI 3<|sM 2 [[1,9,10,11,5]] [6] [(3,6)] 7 (a _ _))<|sI 2<|sM 2 [[1,9,10,11,5]] [3] [] 5 (a _ _))<|G4 6 3
def rU (a0:aJ)(a1 a:Int):Option (LI):=
 if decide (a<(a0.aO.length:Int)) then(bP a0.aO a>>=fun b=>if decide ((b.vl:Int)=a1) then(if cw .i64 (a+1) then(nJ a0 a1 (a+1) [a]) else none) else(if cw .i64 (a+1) then(rU a0 a1 (a+1)) else none)) else(some ([]:LI))
 partial_fixpoint
theorem HX : (∀ b,LH Tryz.prog (rU a0 a1 b) aN (Gf a0 a1 b)):=by
 refine rU.partial_correctness _ _ _ ?_
 exact fun rU a b=>sB 1 (sX 4 fun _=>sB 8 (sI 8<|sK 2 [[1,9,10,11,5]] [3] (HW _ _))<|sI 2<|sM 2 [[1,9,10,11,5]] [] [] 2 (a _))<|Ta 6
def Az (a0:aJ)(a1:Int):Option (LI):=
 rU a0 a1 0
theorem Gg : LF Tryz.prog (Az a0 a1) 235 [.agg [aM a0.cy.Cons,aM a0.cy.bq,.lit (a0.aO.map ay)],aI a1] aN:=
 sF<|sL 8 a0.aO<|sK 2 [[1,9,10,11,5]] [] (HX _)
noncomputable def HY : St:=sN 2 (ak (aI 0) none (sN 23 (ak (aB true) none (sN 0 (ak (aI 0) none (sN 3 (ak (aB true) none (sN 0 (ak (aI 0) none (sN 20 (St.start T0 151 [.agg [.lit [],.lit [],.lit []],aI 0] ag.empty)))))))))))
noncomputable def HZ := fun(a0:aJ) a1 a=>fV HY 4 fun o=>([[(0,.lit (a0.aO.map ay)),(1,.fn (.func 326) [] [aP (o 3)]),(7,aI (a0.aO.length:Int)),(8,aI a)],[],[],[(13,aB true)],[(2,aP (o 1)),(1,aI a1)],[(1,aI a1),(2,aP (o 0))]],[((o 3),.arr 1 [.fn (.func 290) [] [aP (o 2)]]),((o 1),.arr 3 [.agg [aM a0.cy.Cons,aM a0.cy.bq,.lit (a0.aO.map ay)]]),((o 0),.arr 3 [.agg [aM a0.cy.Cons,aM a0.cy.bq,.lit (a0.aO.map ay)]]),((o 2),.arr 3 [.agg [aM a0.cy.Cons,aM a0.cy.bq,.lit (a0.aO.map ay)]])])
def jK (a0:aJ)(a1 a:Int):Option (LI×Int):=
 if decide (a<(a0.aO.length:Int)) then(bP a0.aO a>>=fun b=>u4 a0.cy b>>=fun c=>if c then(if cw .i64 (a+1) then(jK a0 a1 (a+1)) else none) else(if decide (a≥0) then(some (([]:LI),2)) else(if decide (0≤a1) then(if decide (a1<(a0.cy.bq.length:Int)) then(Az a0 a1>>=fun d=>some (d,0)) else(some (([]:LI),2))) else(some (([]:LI),2))))) else(if decide (0≤a1) then(if decide (a1<(a0.cy.bq.length:Int)) then(Az a0 a1>>=fun e=>some (e,0)) else(some (([]:LI),2))) else(some (([]:LI),2)))
 partial_fixpoint
theorem CL : (∀ b,LH Tryz.prog (jK a0 a1 b) (fun r=>.bO [aN r.1,aI r.2]) (HZ a0 a1 b)):=by
 refine jK.partial_correctness _ _ _ ?_
 exact fun jK a b=>sB 1 (sX 9 fun _=>fH 16 Bj (sI 9<|sM 2 [[0,1,7,8],[],[],[13],[2,1],[1,2]] [3,1,0,2] [] 6 (a _))<|sB 12 (sE (by exact bN EE 32 (v:=.bO [.an,aI 2]) kr (Fz.bw (.an) (.pure pv))))<|sB 13 (sL 6 a0.cy.bq<|sB 0 (sC 8 Gg fun _=>sR 4)<|sE (by exact bN EE 10 (v:=.bO [.an,aI 2]) kr (Fz.bw (.an) (.pure pv))))<|sE (by exact bN EE 18 (v:=.bO [.an,aI 2]) kr (Fz.bw (.an) (.pure pv))))<|sB 19 (sL 6 a0.cy.bq<|sB 0 (sC 8 Gg fun _=>sR 4)<|sE (by exact bN EE 10 (v:=.bO [.an,aI 2]) kr (Fz.bw (.an) (.pure pv))))<|sE (by exact bN EE 18 (v:=.bO [.an,aI 2]) kr (Fz.bw (.an) (.pure pv)))
def ny (a0:aJ)(a1:Int):Option (LI×Int):=
 if decide ((a0.aO.length:Int)≤16) then(cW a0.cy>>=fun a=>if decide (a=0) then(jK a0 a1 0) else(some (([]:LI),2))) else(some (([]:LI),2))
theorem qA : LF Tryz.prog (ny a0 a1) 151 [.agg [aM a0.cy.Cons,aM a0.cy.bq,.lit (a0.aO.map ay)],aI a1] (fun r=>.bO [aN r.1,aI r.2]):=
 sF<|sL 20 a0.aO<|sB 0 (sC 3 pI fun _=>sB 0 (sL 23 a0.aO<|sK 2 [[0,1,7,8],[],[],[13],[2,1],[1,2]] [3,1,0,2] (CL _))<|sE (by exact bN EE 31 (v:=.bO [.an,aI 2]) kr (Fz.bw (.an) (.pure pv))))<|sE (by exact bN EE 36 (v:=.bO [.an,aI 2]) kr (Fz.bw (.an) (.pure pv)))
noncomputable def H0 : St:=sN 2 (ak (aI 0) none (sN 8 (ak (aB true) none (sN 11 (St.start T0 295 [.agg [aI 0,aI 0,.lit [],.lit [],aI 0,.lit []]] ag.empty)))))
noncomputable def yZ := fun(a0:af)=>fV H0 1 fun o=>([[(10,.lit (a0.bl.map aZ)),(11,aI (a0.bl.length:Int)),(12,aI 0),(3,.an)]],[])
noncomputable def H2 : St:=sN 6 (eC (fun S=>.val (.ai 3 0 0) (S.add (.arr 6 []))) (sN 8 (ak (.dN [aI 0,.lit [],aI 0,aI 0,.lit [],.lit [],aI 0,.lit []]) none (sN 3 (ak (aB true) none (sN 1 (yZ dd)))))))
noncomputable def H3 := fun(a0:af) a (Lc:(List af))=>fV H2 4 fun o=>([[(10,.lit (a0.bl.map aZ)),(11,aI (a0.bl.length:Int)),(12,aI a),(3,.ai (o 3) 0 Lc.length)]],[((o 3),.arr 6 (Lc.map au))])
def gY (a0:af)(a:Int)(Lc:(List af)):Option ((List af)):=
 if decide (a<(a0.bl.length:Int)) then(bP a0.bl a>>=fun b=>if decide (Lc.length+[b.fb].length≤1048576) then(if cw .i64 (a+1) then(gY a0 (a+1) (Lc++[b.fb])) else none) else none) else(some Lc)
 partial_fixpoint
theorem pK {a0:af}:(∀ b Lc,LH Tryz.prog (gY a0 b Lc) (fun r=>.lit (r.map au)) (H3 a0 b Lc)):=by
 refine gY.partial_correctness _ _ ?_
 exact fun gY a b Lc=>sB 1 (sX 3 fun _=>sA 8 3 5 6 (hs:=agz)<|sI 3<|sM 2 [[10,11,12,3]] [6] [(3,6)] 7 (a _ _))<|sE (by exact bN EE 6 (v:=.ai 3 0 Lc.length) kr (Fz.lN (sz:=6) (es:=(Lc.map au)) kr (by first | (simp;done) | (simp;omega)) pl))
def rE (a0:af):Option ((List af)):=
 if decide (0<(a0.bl.length:Int)) then(bP a0.bl 0>>=fun a=>if decide ([a.fb].length≤1048576) then(gY a0 1 [a.fb]) else none) else(some ([]:List af))
theorem Em {a0:af}:LH Tryz.prog (rE a0) (fun r=>.lit (r.map au)) (yZ a0):=
 sB 1 (sX 3 fun _=>afE 8 2 3 (hs:=agz)<|sK 6 [[10,11,12,3]] [3] (pK _ _))<|Ta 6
noncomputable def vP (a0:af):Option ((List af)):=
 (if a0.Kids.isEmpty then(gY a0 0 []) else(if decide (([]:List af).length+a0.Kids.length≤1048576) then(gY a0 0 (([]:List af)++a0.Kids)) else none))>>=fun z=>if a0.Kids.isEmpty then((rE a0)>>=ZY z) else some z
theorem H4 {a0:af}:LF Tryz.prog (vP a0) 295 [.agg [aI a0.Op,aI a0.Var,.lit (a0.bl.map aZ),.lit (a0.Kids.map au),aI a0.bY,aN a0.bg]] (fun r=>.lit (r.map au)):=
 sF<|sO 11 a0.Kids (sL 8 a0.bl<|sK 2 [[10,11,12,3]] [] Em)<|sS (fun WR=>sT (bF EE 3 (fun S=>mN Tryz.prog S 28 28 (.ai 1 0 0) (.lit (a0.Kids.map au))) (fun S=>.val (.ai 1 0 0) S) kr kr (dH (enc:=au) (el:=47) (sz:=6) (ys:=a0.Kids) kr kr (bC _ (.inl rfl)) WR (bC (enc:=au) (ys:=([]:List af)) _ (.inr ⟨1,6,rfl,by kernel_rfl⟩)) (dY (enc:=au) (fun x=>by rw[fh];rfl) (fun x=>by rw[fh];rfl) _)))<|sL 7 a0.bl<|sT (B9 EE 2 6 kr)<|sM 0 [[10,11,12,3]] [1] [(3,1),(1,3),(2,4)] 6 (pK _ _)) fun WR=>Re 3 1 2 (bK WR)<|sL 7 a0.bl<|sT (B9 EE 2 7 kr)<|sM 0 [[10,11,12,3]] [2] [(3,2),(2,5)] 7 (pK _ _)
@[simp] noncomputable def eY := fun(a:af) m6 (mD:aJ) (a18:af) a19 b (o:NM)=>(([.agg [aI a.Op,aI a.Var,.lit (a.bl.map aZ),.lit (a.Kids.map au),aI a.bY,aN a.bg],aP (o 0),aP (o 1)],[oY (o 2),.arr 1 [.fn (.func 293) [] [aP (o 0),aP (o 1)]],qU Tryz.prog .ready 150 0 34 13295 [(1,aI m6),(3,aP (o 3)),(5,aP (o 4)),(6,aP (o 5)),(7,aP (o 6)),(8,aP (o 7))],.arr 3 [.agg [aM mD.cy.Cons,aM mD.cy.bq,.lit (mD.aO.map ay)]],.arr 6 [.agg [aI a18.Op,aI a18.Var,.lit (a18.bl.map aZ),.lit (a18.Kids.map au),aI a18.bY,aN a18.bg]],.arr 1 [.sc (.map none)],.arr 1 [aB a19],oI b]):TC)
@[simp] noncomputable def eZ := fun m6 (mD:aJ) (a18:af) a19 (r:(Sum Int Unit)) (o:NM)=>(match r with | (Sum.inl y)=>(true,aB true,sm [oY (o 2),.arr 1 [.fn (.func 293) [] [aP (o 0),aP (o 1)]],qU Tryz.prog .ready 150 0 34 13295 [(1,aI m6),(3,aP (o 3)),(5,aP (o 4)),(6,aP (o 5)),(7,aP (o 6)),(8,aP (o 7))],.arr 3 [.agg [aM mD.cy.Cons,aM mD.cy.bq,.lit (mD.aO.map ay)]],.arr 6 [.agg [aI a18.Op,aI a18.Var,.lit (a18.bl.map aZ),.lit (a18.Kids.map au),aI a18.bY,aN a18.bg]],.arr 1 [.sc (.map none)],.arr 1 [aB a19],oI y],[]) | (Sum.inr y)=>(false,.eu 345 (.agg []),[some (oY (o 2)),some (.arr 1 [.fn (.func 293) [] [aP (o 0),aP (o 1)]]),none,some (.arr 3 [.agg [aM mD.cy.Cons,aM mD.cy.bq,.lit (mD.aO.map ay)]]),some (.arr 6 [.agg [aI a18.Op,aI a18.Var,.lit (a18.bl.map aZ),.lit (a18.Kids.map au),aI a18.bY,aN a18.bg]]),some (.arr 1 [.sc (.map none)]),some (.arr 1 [aB a19]),none],[]):TP)
@[simp] noncomputable def cR := fun(a:af) (b:di) (a74:aJ) a75 (c:(List (Int×Int))) (o:NM)=>(([aP (o 0),.agg [aI a.Op,aI a.Var,.lit (a.bl.map aZ),.lit (a.Kids.map au),aI a.bY,aN a.bg],.agg [aT b.args,aI b.next]],[.arr 5 [.agg [aM a74.cy.Cons,aM a74.cy.bq,.lit (a74.aO.map ay),aI a75,.cQ (o 1)]],.mp (c.map (cg (az .i64) (az .i64)))]):TC)
@[simp] noncomputable def dB := fun(a74:aJ) a75 (a:(List (Int×Int))) (r:(Sum (List (Int×Int)) (Sum Unit Unit))) (o:NM)=>(match r with | (Sum.inl y)=>(true,.bO [],sm [.arr 5 [.agg [aM a74.cy.Cons,aM a74.cy.bq,.lit (a74.aO.map ay),aI a75,.cQ (o 1)]],.mp (y.map (cg (az .i64) (az .i64)))],[]) | (Sum.inr (Sum.inl y))=>(false,.eu 345 (.agg []),sm [.arr 5 [.agg [aM a74.cy.Cons,aM a74.cy.bq,.lit (a74.aO.map ay),aI a75,.cQ (o 1)]],.mp (a.map (cg (az .i64) (az .i64)))],[]) | (Sum.inr (Sum.inr y))=>(false,.eu 345 (.agg []),[some (.arr 5 [.agg [aM a74.cy.Cons,aM a74.cy.bq,.lit (a74.aO.map ay),aI a75,.cQ (o 1)]]),none],[]):TP)
noncomputable def oV : St:=sN 2 (ak (aI 0) none (sN 20 (ak (.lit []) none (sN 11 (ak (aB true) none (sN 3 (ak (aI 0) none (sN 13 (St.start T0 293 ((dz eY id).1) (oX 8 (mR 0 ((dz eY id).2))))))))))))
noncomputable def oW := fun(d:af) m6 (mD:aJ) (a18:af) a19 (e:Int) (a:((List af))) b c=>fV oV 10 fun o=>([[(0,.lit (a.map au)),(1,.fn (.func 334) [] [aP (o 9)]),(7,aI (a.length:Int)),(8,aI b)],[],[],[(8,aB true)]],[((o 9),.arr 1 [.fn (.func 293) [] [aP (o 0),aP (o 1)]]),((o 0),oY (o 2)),((o 1),.arr 1 [.fn (.func 293) [] [aP (o 0),aP (o 1)]]),((o 2),qU Tryz.prog .ready 150 0 34 13295 [(1,aI m6),(3,aP (o 3)),(5,aP (o 4)),(6,aP (o 5)),(7,aP (o 6)),(8,aP (o 7))]),((o 3),.arr 3 [.agg [aM mD.cy.Cons,aM mD.cy.bq,.lit (mD.aO.map ay)]]),((o 4),.arr 6 [.agg [aI a18.Op,aI a18.Var,.lit (a18.bl.map aZ),.lit (a18.Kids.map au),aI a18.bY,aN a18.bg]]),((o 5),.arr 1 [.sc (.map none)]),((o 6),.arr 1 [aB a19]),((o 7),oI c)])
noncomputable def oK : St:=sN 2 (ak (aI 0) none (sN 10 (ak (aB true) none (sN 0 (ak (aI 0) none (sN 4 (ak (aB true) none (sN 0 (ak (aI 0) none (sN 4 (ak (aB true) none (sN 4 (ak (aB true) none (sN 3 (ak (aB true) none (sN 0 (ak (aI 0) none (sN 0 (ak (aI 0) none (sN 2 (ak (aI 0) none (sN 11 (ak (.fn (.func 337) [] []) none (sN 19 (ak (aB true) none (sN 4 (ak (aB true) none (sN 3 (ak (aB true) none (sN 6 (St.start T0 232 ((dz cR id).1) (oX 2 (mR 0 ((dz cR id).2))))))))))))))))))))))))))))))))))
noncomputable def oL := fun(a:af) (b:di) (a74:aJ) a75 (e:(List (Int×Int))) c (d:(List (Int×Int)))=>fV oK 7 fun o=>([[(5,aP (o 6)),(0,aP (o 0)),(40,.lit (a.Kids.map au)),(41,aI (a.Kids.length:Int)),(42,aI c)],[]],[((o 6),.arr 2 [.agg [aT b.args,aI b.next]]),((o 0),.arr 5 [.agg [aM a74.cy.Cons,aM a74.cy.bq,.lit (a74.aO.map ay),aI a75,.cQ (o 1)]]),((o 1),.mp (d.map (cg (az .i64) (az .i64))))])
noncomputable def H5 : St:=sN 2 (ak (aI 0) none (sN 4 (ak (aB false) none (sN 0 (ak (aI 0) none (sN 4 (ak (aI 0) none (sN 3 (ak (aB false) none (sN 0 (ak (aI 0) none (sN 6 (St.start T0 96 [.agg [.lit [],.lit [],.lit [],.lit []]] ag.empty)))))))))))))
noncomputable def y6 := fun(a0:bA) a=>fV H5 1 fun o=>([[(1,aP (o 0)),(25,.lit (a0.bX.map au)),(26,aI (a0.bX.length:Int)),(27,aI a)]],[((o 0),.arr 4 [.agg [aM a0.Prog.cy.Cons,aM a0.Prog.cy.bq,.lit (a0.Prog.aO.map ay),.lit (a0.bX.map au)]])])
noncomputable def oN : St:=sN 2 (ak (aI 0) none (sN 12 (ak (aB true) none (sN 0 (ak (aI 0) none (sN 4 (ak (aB true) none (sN 6 (ak (aB true) none (sN 3 (ak (aB true) none (sN 0 (ak (aI 0) none (sN 0 (ak (aI 0) none (sN 2 (ak (aI 0) none (sN 11 (ak (.fn (.func 336) [] []) none (sN 19 (ak (aB true) none (sN 4 (ak (aB true) none (sN 3 (ak (aB true) none (sN 6 (St.start T0 232 ((dz cR id).1) (oX 2 (mR 0 ((dz cR id).2))))))))))))))))))))))))))))))
noncomputable def oO := fun(a:af) (b:di) (a74:aJ) a75 (f:(List (Int×Int))) c d (e:(List (Int×Int)))=>fV oN 7 fun o=>([[(0,aP (o 0)),(4,aP (o 5)),(5,aP (o 6)),(39,.lit (a.bl.map aZ)),(40,aI (a.bl.length:Int)),(41,aI c),(6,aI d)],[]],[((o 0),.arr 5 [.agg [aM a74.cy.Cons,aM a74.cy.bq,.lit (a74.aO.map ay),aI a75,.cQ (o 1)]]),((o 5),.arr 6 [.agg [aI a.Op,aI a.Var,.lit (a.bl.map aZ),.lit (a.Kids.map au),aI a.bY,aN a.bg]]),((o 6),.arr 2 [.agg [aT b.args,aI b.next]]),((o 1),.mp (e.map (cg (az .i64) (az .i64))))])
noncomputable def H6 : St:=sN 2 (ak (aI 0) none (sN 22 (ak (aB false) none (sN 0 (ak (aI 0) none (sN 1 (eC (fun S=>.val (aI 0) S) (sN 10 (ak (.bO [.lit [],aI 0]) none (sN 29 (EV (.bO []) (W7 2 (dB dd dd dd (Sum.inl dd)) [13,12] 14) (sN 1 (ak (.agg [.lit [],aI 0]) none (sN 16 (EV (aB true) (W7 8 (eZ dd dd dd dd (Sum.inl dd)) [10,11,9,2,3,4,5,6] 12) (sN 10 (prune 9 [1,3,5,6,7,8] (sN 34 (ak (.dN [aI 0,aI 0,.lit [],.lit [],aI 0,.lit []]) none (sN 4 (ak (aB true) none (sN 1 (dz y6)))))))))))))))))))))))
noncomputable def H7 := fun(a0:bA) a b c d (e:(List (Int×Int)))=>fV H6 16 fun o=>([[(0,aN a),(1,.fn (.func 237) [] [aP (o 15)]),(7,aI b),(8,aI c)],[],[],[(1,aP (o 0)),(25,.lit (a0.bX.map au)),(26,aI (a0.bX.length:Int)),(27,aI d),(56,aB false)]],[((o 15),.arr 1 [.fn (.func 153) [] [aP (o 14)]]),((o 0),.arr 4 [.agg [aM a0.Prog.cy.Cons,aM a0.Prog.cy.bq,.lit (a0.Prog.aO.map ay),.lit (a0.bX.map au)]]),((o 14),.arr 1 [.cQ (o 12)]),((o 12),.mp (e.map (cg (az .i64) (az .i64))))])
mutual
def bR (g:af)(m6:Int)(mD:aJ)(a18:af)(a19:Bool)(h:Int)(b:((List af)))(a c:Int):Option (Sum Int Unit):=
 if decide (a<(b.length:Int)) then(bP b a>>=fun d=>cd d m6 mD a18 a19 c>>=fun e=>(match e with | (Sum.inl f)=>if cw .i64 (a+1) then(bR g m6 mD a18 a19 h b (a+1) f) else none | (Sum.inr i)=>some (Sum.inr ()))) else(some (Sum.inl c))
 partial_fixpoint
def cd (b:af)(m6:Int)(mD:aJ)(a18:af)(a19:Bool)(a:Int):Option (Sum Int Unit):=
 if cw .i64 (a+1) then(if decide (((a+1):Int)≤100) then(vP b>>=fun c=>bR b m6 mD a18 a19 a c 0 (a+1)) else(some (Sum.inr ()))) else none
 partial_fixpoint
end
variable {m6 : Int} {mD : aJ} {a18 : af} {a19 : Bool}
theorem nz : (∀ c d b e f,LP Tryz.prog (bR c m6 mD a18 a19 d b e f) 8 (eZ m6 mD a18 a19) (oW c m6 mD a18 a19 d b e f))∧(∀ c d,afb Tryz.prog (cd c m6 mD a18 a19 d) 293 8 (eY c m6 mD a18 a19 d) (eZ m6 mD a18 a19)):=by
 refine bR.mutual_partial_correctness _ _ _ _ _ _ ?_ ?_
 · exact fun bR cd a gF c d b e f=>sB 1 (sX 9 fun _=>sP 8 11 [0,1,2,3,4,5,6,7] (gF _ _) fun v=>match v with | .inl _=>sI 6<|akL 2 [[0,1,7,8],[],[],[8]] [9,0,1,2,3,4,5,6,7] [] 11 (a _ _ _ _ _) | .inr _=>za 5 (.eu 345 (.agg [])) [0,1,2,3,4,5,6,7] (hu:=us (us (iZ (us (us (us (us (iZ iy)))))))))<|afD 17 (aB true) [0,1,2,3,4,5,6,7]
 · exact fun bR a c d=>asT 8 (sI 13<|sB 3 (sC 11 H4 fun b=>sL 20 b<|akI 2 [[0,1,7,8],[],[],[8]] [9,0,1,2,3,4,5,6,7] (a _ _ _ _ _))<|za 11 (.eu 345 (.agg [])) [0,1,2,3,4,5,6,7] (hu:=us (us (iZ (us (us (us (us (iZ iy))))))))) (hb:=by rintro(y | y)<;>exact bc)
theorem gF {a:af}{b:Int}:afb Tryz.prog (cd a m6 mD a18 a19 b) 293 8 (eY a m6 mD a18 a19 b) (eZ m6 mD a18 a19):=nz.2 _ _
mutual
def ba (c:af)(d:di)(a74:aJ)(a75:Int)(h:(List (Int×Int)))(a:Int)(b:(List (Int×Int))):Option (Sum (List (Int×Int)) (Sum Unit Unit)):=
 if decide (a<(c.Kids.length:Int)) then(bP c.Kids a>>=fun e=>aR e d a74 a75 b>>=fun f=>(match f with | (Sum.inl g)=>if cw .i64 (a+1) then(ba c d a74 a75 h (a+1) g) else none | (Sum.inr (Sum.inl i))=>some (Sum.inr (Sum.inr ())) | (Sum.inr (Sum.inr j))=>some (Sum.inr (Sum.inr ())))) else(some (Sum.inl b))
 partial_fixpoint
def aR (a:af)(c:di)(a74:aJ)(a75:Int)(b:(List (Int×Int))):Option (Sum (List (Int×Int)) (Sum Unit Unit)):=
 if decide ((c.next:Int)≤60) then(if decide (1≤a.Op) then(if decide ((a.Op:Int)≤4) then(if decide (a.Op=1) then(if cw .i64 ((a.Kids.length:Int)+(a.bg.length:Int)) then(if decide ((((a.Kids.length:Int)+(a.bg.length:Int)):Int)=0) then(if decide ((a.bY:Int)=0) then(lQ c.args a.Var>>=fun e=>if e then(if decide ((a.bl.length:Int)>0) then(aQ a c a74 a75 b 0 (-1) b) else(some (Sum.inr (Sum.inl ())))) else(some (Sum.inr (Sum.inl ())))) else(some (Sum.inr (Sum.inl ())))) else(some (Sum.inr (Sum.inl ())))) else none) else(if decide (a.Op=2) then(if cw .i64 ((a.bl.length:Int)+(a.bg.length:Int)) then(if decide ((((a.bl.length:Int)+(a.bg.length:Int)):Int)=0) then(if decide ((a.Var:Int)=0) then(if decide ((a.bY:Int)=0) then(if decide (2≤(a.Kids.length:Int)) then(if decide ((a.Kids.length:Int)≤16) then(ba a c a74 a75 b 0 b) else(some (Sum.inr (Sum.inl ())))) else(some (Sum.inr (Sum.inl ())))) else(some (Sum.inr (Sum.inl ())))) else(some (Sum.inr (Sum.inl ())))) else(some (Sum.inr (Sum.inl ())))) else none) else(if decide (a.Op=3) then(if cw .i64 ((a.bl.length:Int)+(a.Kids.length:Int)) then(if decide ((((a.bl.length:Int)+(a.Kids.length:Int)):Int)=0) then(if decide ((a.Var:Int)=0) then(if decide (0≤a.bY) then(if decide ((a.bY:Int)<(a74.aO.length:Int)) then(bP a74.aO a.bY>>=fun f=>if decide ((f.vl:Int)=a75) then(bP a74.aO a.bY>>=fun g=>jq c g>>=fun d=>if d.2 then(dC d.1 a.bg>>=fun h=>if h then(if cw .i64 (((iO b a.bY).getD 0)+1) then(some (Sum.inl (ko b a.bY (((iO b a.bY).getD 0)+1)))) else none) else(some (Sum.inr (Sum.inl ())))) else(some (Sum.inr (Sum.inl ())))) else(some (Sum.inr (Sum.inl ())))) else(some (Sum.inr (Sum.inl ())))) else(some (Sum.inr (Sum.inl ())))) else(some (Sum.inr (Sum.inl ())))) else(some (Sum.inr (Sum.inl ())))) else none) else(if decide (a.Op=4) then(if cw .i64 ((a.bl.length:Int)+(a.Kids.length:Int)) then(if cw .i64 (((a.bl.length:Int)+(a.Kids.length:Int))+(a.bg.length:Int)) then(if decide (((((a.bl.length:Int)+(a.Kids.length:Int))+(a.bg.length:Int)):Int)=0) then(if decide ((a.Var:Int)=0) then(if decide ((a.bY:Int)=0) then(some (Sum.inl b)) else(some (Sum.inr (Sum.inl ())))) else(some (Sum.inr (Sum.inl ())))) else(some (Sum.inr (Sum.inl ())))) else none) else none) else none)))) else(some (Sum.inr (Sum.inl ())))) else(some (Sum.inr (Sum.inl ())))) else(some (Sum.inr (Sum.inl ())))
 partial_fixpoint
def aQ (c:af)(f:di)(a74:aJ)(a75:Int)(k:(List (Int×Int)))(b g:Int)(d:(List (Int×Int))):Option (Sum (List (Int×Int)) (Sum Unit Unit)):=
 if decide (b<(c.bl.length:Int)) then(bP c.bl b>>=fun a=>if decide (g<a.BH) then(if decide ((a.BH:Int)<(a74.cy.Cons.length:Int)) then(ni f a74.cy c.Var a.BH>>=fun e=>dC a.bg e.2>>=fun h=>if h then(aR a.fb e.1 a74 a75 d>>=fun i=>(match i with | (Sum.inl j)=>if cw .i64 (b+1) then(aQ c f a74 a75 k (b+1) a.BH j) else none | (Sum.inr (Sum.inl l))=>some (Sum.inr (Sum.inr ())) | (Sum.inr (Sum.inr m))=>some (Sum.inr (Sum.inr ())))) else(some (Sum.inr (Sum.inr ())))) else(some (Sum.inr (Sum.inr ())))) else(some (Sum.inr (Sum.inr ())))) else(some (Sum.inl d))
 partial_fixpoint
end
variable {a74 : aJ} {a75 : Int}
theorem m5 : (∀ c e d f h,LP Tryz.prog (ba c e a74 a75 d f h) 2 (dB a74 a75 d) (oL c e a74 a75 d f h))∧(∀ c e d,afb Tryz.prog (aR c e a74 a75 d) 232 2 (cR c e a74 a75 d) (dB a74 a75 d))∧(∀ c e d i j k,LP Tryz.prog (aQ c e a74 a75 d i j k) 2 (dB a74 a75 d) (oO c e a74 a75 d i j k)):=by
 refine ba.mutual_partial_correctness _ _ _ _ _ ?_ ?_ ?_
 · exact fun ba aR a dx c e d f h=>sB 1 (sX 3 fun _=>sP 7 8 [0,1] (dx _ _ _) fun v=>match v with | .inl _=>sI 2<|akL 2 [[5,0,40,41,42],[]] [6,0,1] [] 8 (a _ _ _ _ _) | .inr (.inl _)=>za 2 (.eu 345 (.agg [])) [0,1] (hu:=us (iZ iy)) | .inr (.inr _)=>za 2 (.eu 345 (.agg [])) [0,1] (hu:=us (iZ iy)))<|afD 5 (.bO []) [0,1]
 · exact fun ba aQ a b c e d=>asT 2 (sB 6 (sB 3 (sB 4 (sS (fun m=>sT (wO EE 19 (n6 Tryz.prog 404 (.agg [.sc .nilFunc,.fn (.func 336) [] [],.fn (.func 337) [] [],.fn (.func 338) [] [],.fn (.func 339) [] []]) (aI c.Op)) (.fn (.func 336) [] []) kr (by rw[of_decide_eq_true m];kernel_rfl))<|sL 11 c.Kids<|sL 2 c.bg<|sI 0<|sB 0 (sB 3 (fH 6 tK (sL 4 c.bl<|sB 0 (sL 12 c.bl<|akI 2 [[0,4,5,39,40,41,6],[]] [0,5,6,1] (b _ _ _ _ _ _))<|za 12 (.eu 345 (.agg [])) [0,1])<|za 18 (.eu 345 (.agg [])) [0,1])<|za 25 (.eu 345 (.agg [])) [0,1])<|za 29 (.eu 345 (.agg [])) [0,1]) fun _=>sS (fun n=>sT (wO EE 19 (n6 Tryz.prog 404 (.agg [.sc .nilFunc,.fn (.func 336) [] [],.fn (.func 337) [] [],.fn (.func 338) [] [],.fn (.func 339) [] []]) (aI c.Op)) (.fn (.func 337) [] []) kr (by rw[of_decide_eq_true n];kernel_rfl))<|sL 11 c.bl<|sL 2 c.bg<|sI 0<|sB 0 (sB 3 (sB 4 (sL 4 c.Kids<|sB 0 (sL 4 c.Kids<|sB 0 (sL 10 c.Kids<|akI 2 [[5,0,40,41,42],[]] [6,0,1] (a _ _ _ _ _))<|za 12 (.eu 345 (.agg [])) [0,1])<|za 18 (.eu 345 (.agg [])) [0,1])<|za 24 (.eu 345 (.agg [])) [0,1])<|za 29 (.eu 345 (.agg [])) [0,1])<|za 33 (.eu 345 (.agg [])) [0,1]) fun _=>sS (fun o=>sT (wO EE 19 (n6 Tryz.prog 404 (.agg [.sc .nilFunc,.fn (.func 336) [] [],.fn (.func 337) [] [],.fn (.func 338) [] [],.fn (.func 339) [] []]) (aI c.Op)) (.fn (.func 338) [] []) kr (by rw[of_decide_eq_true o];kernel_rfl))<|sL 12 c.bl<|sL 2 c.Kids<|sI 0<|sB 0 (sB 3 (sB 4 (sL 9 a74.aO<|sB 0 (sX 9 fun _=>sB 6 (sX 18 fun _=>sC 2 zZ fun _=>WI 3 (fH 9 mY (sT (lB EE 15 (fun S=>Rb Tryz.prog S 253 (.cQ 1) (aI c.bY) false) (fun S=>.val (aI ((iO d c.bY).getD 0)) S) kr kr (Ow (g:=(az .i64)) (l:=d) (x:=c.bY) (z0:=0) kr kr))<|sI 0<|akP 0 253 1 d c.bY (((iO d c.bY).getD 0)+1)<|afD 5 (.bO []) [0,1])<|za 12 (.eu 345 (.agg [])) [0,1])<|za 22 (.eu 345 (.agg [])) [0,1])<|za 13 (.eu 345 (.agg [])) [0,1])<|za 30 (.eu 345 (.agg [])) [0,1])<|za 41 (.eu 345 (.agg [])) [0,1])<|za 46 (.eu 345 (.agg [])) [0,1])<|za 50 (.eu 345 (.agg [])) [0,1]) fun _=>sS (fun p=>sT (wO EE 19 (n6 Tryz.prog 404 (.agg [.sc .nilFunc,.fn (.func 336) [] [],.fn (.func 337) [] [],.fn (.func 338) [] [],.fn (.func 339) [] []]) (aI c.Op)) (.fn (.func 339) [] []) kr (by rw[of_decide_eq_true p];kernel_rfl))<|sL 11 c.bl<|sL 2 c.Kids<|sI 0<|sL 2 c.bg<|sI 0<|sB 0 (sB 3 (sB 4 (afD 11 (.bO []) [0,1])<|za 12 (.eu 345 (.agg [])) [0,1])<|za 17 (.eu 345 (.agg [])) [0,1])<|za 21 (.eu 345 (.agg [])) [0,1]) fun _=>s0)<|za 11 (.eu 345 (.agg [])) [0,1])<|za 16 (.eu 345 (.agg [])) [0,1])<|za 20 (.eu 345 (.agg [])) [0,1]) (hb:=by rintro(y | y | y)<;>exact bc)
 · exact fun aR aQ dx b c e d i j k=>sB 1 (sX 3 fun _=>sB 8 (sL 9 a74.cy.Cons<|sB 0 (sC 24 zW fun _=>fH 11 mY (sP 11 9 [0,1] (dx _ _ _) fun v=>match v with | .inl _=>sI 2<|akL 2 [[0,4,5,39,40,41,6],[]] [0,5,6,1] [] 9 (b _ _ _ _ _ _) | .inr (.inl _)=>za 2 (.eu 345 (.agg [])) [0,1] (hu:=us (iZ iy)) | .inr (.inr _)=>za 2 (.eu 345 (.agg [])) [0,1] (hu:=us (iZ iy)))<|za 11 (.eu 345 (.agg [])) [0,1] (hu:=us (iZ iy)))<|za 13 (.eu 345 (.agg [])) [0,1] (hu:=us (iZ iy)))<|za 24 (.eu 345 (.agg [])) [0,1] (hu:=us (iZ iy)))<|afD 5 (.bO []) [0,1]
theorem dx {b:af}{c:di}{a:(List (Int×Int))}:afb Tryz.prog (aR b c a74 a75 a) 232 2 (cR b c a74 a75 a) (dB a74 a75 a):=m5.2.1 _ _ _
mutual
def gb (a0:bA)(c:LI)(d a b:Int)(e:(List (Int×Int))):Option (Bool):=
 if decide (a<d) then(bP c a>>=fun f=>if decide ((((iO e f).getD 0):Int)=1) then(if cw .i64 (a+1) then(gb a0 c d (a+1) b e) else none) else(if decide (a≥0) then(some false) else(if cw .i64 (b+1) then(fD a0 (b+1)) else none))) else(if cw .i64 (b+1) then(fD a0 (b+1)) else none)
 partial_fixpoint
def fD (a0:bA)(a:Int):Option (Bool):=
 if decide (a<(a0.bX.length:Int)) then(bP a0.bX a>>=fun b=>cd b a a0.Prog b false 0>>=fun e=>(match e with | (Sum.inl h)=>vO a0.Prog a>>=fun f=>aR b f a0.Prog a ([]:(List (Int×Int)))>>=fun g=>(match g with | (Sum.inl d)=>ny a0.Prog a>>=fun c=>if(!decide ((d.length:Int)=(c.1.length:Int))) then(some false) else(gb a0 c.1 (c.1.length:Int) 0 a d) | (Sum.inr (Sum.inl i))=>ny a0.Prog a>>=fun j=>some false | (Sum.inr (Sum.inr k))=>ny a0.Prog a>>=fun l=>some false) | (Sum.inr m)=>ny a0.Prog a>>=fun n=>some false)) else(some true)
 partial_fixpoint
end
theorem CN {a0:bA}:(∀ d e f g c,LH Tryz.prog (gb a0 d e f g c) aB (H7 a0 d e f g c))∧(∀ h,LH Tryz.prog (fD a0 h) aB (y6 a0 h)):=by
 refine gb.mutual_partial_correctness _ _ _ ?_ ?_
 · exact fun gb fD a b d e f g c=>sB 1 (sX 9 fun k=>afc 13 253 12 c k<|sB 0 (sI 9<|sK 2 [[0,1,7,8],[],[],[1,25,26,27,56]] [15,0,14,12] (a _ _ _ _ _))<|sB 12 (sR 13)<|sI 11<|sM 2 [[1,25,26,27]] [0] [] 16 (b _))<|sI 17<|sM 2 [[1,25,26,27]] [0] [] 16 (b _)
 · exact fun gb a h=>sB 1 (sX 4 fun _=>sT (Ax EE 34 9 [1,3,5,6,7,8] kr)<|sP 10 12 [10,11,9,2,3,4,5,6] gF fun v=>match v with | .inl _=>(sC 16 HV fun _=>sP 1 14 [13,12] dx fun v=>match v with | .inl i=>sC 29 qA fun j=>sT (bF EE 10 (fun S=>some (.val (aI ((i.map (cg (az .i64) (az .i64))).length:Nat)) S)) (fun S=>.val (aI (i.length:Int)) S) kr kr ((alT _ _)))<|sL 1 j.1<|sB 0 (sR 11)<|sL 22 j.1<|sK 2 [[0,1,7,8],[],[],[1,25,26,27,56]] [15,0,14,12] (a _ _ _ _ _) | .inr (.inl _)=>sC 29 qA fun _=>sR 25 | .inr (.inr _)=>sC 29 qA fun _=>sR 25) | .inr _=>sC 30 qA fun _=>sR 25)<|sR 5
def s9 (a0:bA):Option (Bool):=
 vN a0.Prog>>=fun a=>if(!decide (a=0)) then(some false) else(if(!decide ((a0.bX.length:Int)=(a0.Prog.cy.bq.length:Int))) then(some false) else(fD a0 0))
theorem H8 {a0:bA}:LF Tryz.prog (s9 a0) 96 [.agg [aM a0.Prog.cy.Cons,aM a0.Prog.cy.bq,.lit (a0.Prog.aO.map ay),.lit (a0.bX.map au)]] aB:=
 sF<|sC 6 HU fun _=>sB 0 (sR 15)<|sL 3 a0.bX<|sL 4 a0.Prog.cy.bq<|sB 0 (sR 5)<|sL 4 a0.bX<|sK 2 [[1,25,26,27]] [0] (CN.2 _)
def kS (a0:bA):Option (Int):=
 s9 a0>>=fun v0=>if v0 then(some 0) else(some 2)
theorem y7 {a0:bA}:LF Tryz.prog (kS a0) 61 [.agg [aM a0.Prog.cy.Cons,aM a0.Prog.cy.bq,.lit (a0.Prog.aO.map ay),.lit (a0.bX.map au)]] aI:=
 sF<|fH 5 H8 (sR 5)<|sR 5
@[simp] noncomputable def gj := fun a (o:NM)=>(([aK a,aP (o 0)],[.arr 1 [.fn (.func 190) [] [aP (o 0)]]]):TC)
@[simp] noncomputable def jf := fun(r:Bool) (o:NM)=>((aB r,[some (.arr 1 [.fn (.func 190) [] [aP (o 0)]])],[]):TB)
noncomputable def rL : St:=sN 2 (ak (aI 0) none (sN 22 (ak (aB true) none (sN 6 (St.start T0 190 ((gj dd id).1) (oX 1 (mR 0 ((gj dd id).2))))))))
noncomputable def rM := fun(a:Term) b=>fV rL 3 fun o=>([[(0,aT a.Kids),(1,.fn (.func 267) [] [aP (o 2)]),(7,aI (a.Kids.length:Int)),(8,aI b)],[],[],[(7,aB true)]],[((o 2),.arr 1 [.fn (.func 190) [] [aP (o 0)]]),((o 0),.arr 1 [.fn (.func 190) [] [aP (o 0)]])])
mutual
def cD (b:Term)(a:Int):Option Bool:=
 if decide (a<(b.Kids.length:Int)) then(bP b.Kids a>>=fun c=>cY c>>=fun d=>if d then(if cw .i64 (a+1) then(cD b (a+1)) else none) else(if decide (a≥0) then(some false) else(some true))) else(some true)
 partial_fixpoint
def cY (a:Term):Option Bool:=
 if(!decide ((a.Op:Int)=8)) then(cD a 0) else(some false)
 partial_fixpoint
end
theorem pU  : (∀ b c,LJ Tryz.prog (cD b c) 1 jf (rM b c))∧(∀ b,LG Tryz.prog (cY b) 190 1 (gj b) jf):=by
 refine cD.mutual_partial_correctness _ _ ?_ ?_
 · exact fun cD cY a iI b c=>sB 1 (sX 9 fun _=>sV fun e d=>N0 8 (iI _ e d _ 4 [0] wK) (sI 6<|I9 2 [[0,1,7,8],[],[],[7]] [2,0] [] 4 (a _ _))<|sB 9 (mg 11 (aB false) [0])<|mg 11 (aB true) [0])<|mg 17 (aB true) [0]
 · exact fun cD a b=>P8 1 (sB 6 (sL 22 b.Kids<|wa 2 [[0,1,7,8],[],[],[7]] [2,0] (a _ _))<|mg 9 (aB false) [0])
theorem iI {a:Term}:LG Tryz.prog (cY a) 190 1 (gj a) jf:=pU.2 _
def yn (a0:bA)(a1:Term):Option (Bool):=
 kS a0>>=fun WJ=>if decide (WJ=0) then(nv a0.Prog.cy a1>>=fun a=>if decide (a=0) then(cY a1>>=fun b=>if b then(some true) else(some false)) else(some false)) else(some false)
theorem KW {a0:bA}{a1:Term}:LF Tryz.prog (yn a0 a1) 118 [.agg [aM a0.Prog.cy.Cons,aM a0.Prog.cy.bq,.lit (a0.Prog.aO.map ay),.lit (a0.bX.map au)],aK a1] aB:=
 sF<|sC 11 y7 fun _=>sB 0 (sC 5 qz fun _=>sB 0 (sV fun b a=>N0 4 (iI b a _ 3 [2] wK) (sR 4)<|sR 4)<|sR 9)<|sR 16
abbrev LB := List (Int×Bool)
def mK (m:LB):LI:=m.map (·.1)
def DB (l:LI)(m:LB):Prop:=(mK m).Nodup∧∀ k,k∈mK m↔k∈l
theorem OE (k:Int):∀ m:LB,(∀ x,x∈mK (ko m k true)↔x∈mK m∨x=k)∧((mK m).Nodup→(mK (ko m k true)).Nodup)
 | []=>by simp[ko,mK]
 | (a,b)::r=>by
   obtain⟨h1,h2⟩:=OE k r
   simp only[mK] at h1 h2
   simp only[ko,mK]
   split
   · rename_i e
     subst e
     refine⟨fun x=>?_,fun h=>h⟩
     simp only[dF,dE]
     constructor
     · exact .inl
     · rintro(h | h)
       · exact h
       · exact .inl h
   · rename_i e
     refine⟨fun x=>?_,fun h=>?_⟩
     · simp only[dF,dE,h1]
       constructor
       · rintro(h | h | h)<;>simp[h]
       · rintro((h | h) | h)<;>simp[h]
     · simp only[dF,so] at h ⊢
       refine⟨fun q=>?_,h2 h.2⟩
       rcases(h1 a).1 q with q | q
       · exact h.1 q
       · exact e q.symm
def BI : LI→LI
 | []=>[]
 | a::r=>if a∈r then BI r else a::BI r
theorem rp : ∀(l:LI) (x:Int),x∈BI l↔x∈l
 | [],x=>Iff.rfl
 | a::r,x=>by
   simp only[BI]
   split
   · rename_i h
     rw[rp r x,dE]
     exact⟨.inr,fun q=>q.elim (fun e=>e▸h) id⟩
   · rw[dE,dE,rp r x]
theorem u5 : ∀ l:LI,(BI l).Nodup
 | []=>List.nodup_nil
 | a::r=>by
   simp only[BI]
   split
   · exact u5 r
   · rename_i h
     exact so.2 ⟨fun q=>h ((rp r a).1 q),u5 r⟩
theorem pm : ∀(a b:LI),a.Nodup→b.Nodup→(∀ x,x∈a↔x∈b)→a.Perm b
 | [],b,_,_,h=>by
   cases b with
   | nil=>exact .nil
   | cons y r=>exact absurd ((h y).2 (by simp)) (by simp)
 | x::r,b,ha,hb,h=>by
   have hx:x∈b:=(h x).1 (by simp)
   refine .trans (.cons x (pm r (b.erase x) (so.1 ha).2 (hb.erase x) fun y=>?_)) (List.perm_cons_erase hx).symm
   rw[hb.mem_erase_iff,←h y,dE]
   constructor
   · exact fun q=>⟨fun e=>(so.1 ha).1 (e▸q),.inr q⟩
   · rintro⟨c,q2 | q2⟩
     · exact absurd q2 c
     · exact q2
theorem ZF : ∀(a b:LI),a.Perm b→a.Pairwise (· ≤ ·)→b.Pairwise (· ≤ ·)→a=b
 | [],b,h,_,_=>(List.nil_perm.1 h).symm
 | x::r,b,h,ha,hb=>by
   cases b with
   | nil=>exact absurd h.length_eq (by simp)
   | cons y s=>
     have e:x=y:=by
      have h1:x∈y::s:=h.subset (by simp)
      have h2:y∈x::r:=h.symm.subset (by simp)
      rw[List.pairwise_cons] at ha hb
      rcases dE.1 h1 with q | q
      · exact q
      · rcases dE.1 h2 with p | p
        · exact p.symm
        · exact Int.le_antisymm (ha.1 y p) (hb.1 x q)
     subst e
     rw[ZF r s (List.Perm.cons_inv h) (List.pairwise_cons.1 ha).2 (List.pairwise_cons.1 hb).2]
theorem YQ {a b:LI}(h:a.Perm b):ku a=ku b:=by
 have p (l:LI):(ku l).Pairwise (· ≤ ·):=by
  have:=List.pairwise_mergeSort (le:=fun x y:Int=>decide (x≤y)) (fun a b c=>by simp;omega) (fun a b=>by simp;omega) l
  exact this.imp fun h=>by simpa using h
 exact ZF _ _ ((List.mergeSort_perm a _).trans (h.trans (List.mergeSort_perm b _).symm)) (p a) (p b)
mutual
def Aj (t:Term)(i:Int)(l:LI):Option LI:=
 if decide (i<(t.Kids.length:Int)) then(bP t.Kids i>>=fun x=>if decide (t.Op=8) then none else(Zl x []>>=fun s=>if cw .i64 (i+1) then Aj t (i+1) (l++s) else none)) else some l
 partial_fixpoint
def Zl (t:Term)(l:LI):Option LI:=
 if decide (t.Op=1) then some (l++[t.N]) else Aj t 0 l
 partial_fixpoint
end
abbrev oM (m:LB):aL:=.mp (m.map (cg (az .i64) gv))
abbrev Uj (t:Term)(m:LB)(o:NM):TC:=([.cQ (o 0),aK t],[oM m])
abbrev wo (m:LB)(_:NM):TB:=(.bO [],[some (oM m)],[])
noncomputable def aeH : St:=sN 2 (ak (aI 0) none (sN 3 (ak (aB false) none (sN 5 (St.start T0 101 (Uj default [] id).1 (oX 1 (mR 0 (Uj default [] id).2)))))))
noncomputable def OF (t:Term)(i:Int)(m:LB):St:=jN aeH [[(0,.cQ 0),(3,aP 1),(15,aT t.Kids),(16,aI (t.Kids.length:Int)),(17,aI i)]] (oX 2 [(0,oM m),(1,.arr 3 [aK t])])
noncomputable def aeI : St:=sN 8 (ak (aB false) none (sN 3 (N6 (.bO []) (BT 1 (wo []) [3] 4) (sN 10 (ak (.dN [aI 0,aI 0,.lit []]) none (sN 4 (ak (aB true) none (sN 1 (OF default 0 [])))))))))
noncomputable def UN (t:Term)(i:Int)(v m:LB)(k:List Nat):St:=jN aeI [[(0,.cQ 0),(37,aP 4),(3,aP 1),(15,aT t.Kids),(16,aI (t.Kids.length:Int)),(17,aI i)]] (oX 5 [(0,oM m),(4,.mi 3 (v.map (cg (az .i64) gv)).length k),(1,.arr 3 [aK t]),(3,oM v)])
variable {r : LI} {v : LB}
theorem YR {t:Term}{i:Int}{l s:LI}(C:DB s v)(F:cw .i64 (i+1)=true)(G:∀ m,DB (l++s) m→SX Tryz.prog (G9 1 (DB r) wo) (OF t (i+1) m)) :
   ∀(n:Nat) (k:List Nat) (m:LB),n+k.length=v.length→k.Nodup→(∀ j,j∈k→j<v.length)→(mK m).Nodup→(∀ x,x∈mK m→x∈l++s)→(∀ x,x∈l→x∈mK m)→(∀ j y,j∈k→v[j]? = some y→y.1∈mK m)→SX Tryz.prog (G9 1 (DB r) wo) (UN t i v m k):=by
 have D:vk 1 (G9 1 (DB r) wo):=qx fun c=>qk
 have E:∀(k:List Nat) (m:LB),(∀ j,j<v.length→j∈k)→(mK m).Nodup→(∀ x,x∈mK m→x∈l++s)→(∀ x,x∈l→x∈mK m)→(∀ j y,j∈k→v[j]? = some y→y.1∈mK m)→SX Tryz.prog (G9 1 (DB r) wo) (eC (fun S=>.val (.bO [.sc (.bool false)]) S) (sN 1 (UN t i v m k))):=by
   intro k m ha h1 h2 h3 h4
   have hf:DB (l++s) m:=⟨h1,fun x=>⟨h2 x,fun q=>by
    rcases fc.1 q with q | q
    · exact h3 x q
    · obtain⟨y,H,q2⟩:=kJ.1 ((C.2 x).2 q)
      obtain⟨j,q3⟩:=hU H
      rw[←q2]
      exact h4 j y (ha j (mC.1 q3).1) q3⟩⟩
   refine wO EE 4 _ _ (by kernel_rfl) (iR (k:=.i64) F) ?_
   exact asQ EE D 2 [[0,3,15,16,17]] [0,1] [] 2 5 [[(0,.cQ 0),(3,aP 1),(15,aT t.Kids),(16,aI (t.Kids.length:Int)),(17,aI (i+1))]] [(0,oM m),(1,.arr 3 [aK t])] (G m hf)
 intro n
 induction n with
 | zero=>
   intro k m I A hb h1 h2 h3 h4
   refine Ay EE 1 (id:=4) (m:=3) (since:=(v.map (cg (az .i64) gv)).length) (f:=az .i64) (g:=gv) (l:=v) (sn:=k) (by simp) (fun ha=>E k m ha h1 h2 h3 h4) (fun j y o d=>?_)
   have h:=(mC.1 o).1
   have:=afd v.length (j::k) (so.2 ⟨d,A⟩) fun x hx=>(dE.1 hx).elim (fun e=>e▸h) (hb x)
   simp at this;omega
 | succ n B=>
   intro k m I A hb h1 h2 h3 h4
   refine Ay EE 1 (id:=4) (m:=3) (since:=(v.map (cg (az .i64) gv)).length) (f:=az .i64) (g:=gv) (l:=v) (sn:=k) (by simp) (fun ha=>E k m ha h1 h2 h3 h4) (fun j y o d=>?_)
   have h:=(mC.1 o).1
   refine bF EE 4 (fun S=>ZW S (.ptr 4 0 0)) (fun S=>.val (.bO [aI y.1,aB y.2]) S) kr kr (Jz (f:=az .i64) (g:=gv) (m:=3) (sn:=k) (since:=(v.map (cg (az .i64) gv)).length) kr kr (by simp) o) ?_
   refine bF EE 5 (fun S=>SS Tryz.prog S 123 (.cQ 0) (aI y.1) (aB true)) (fun S=>.skip (S.set 0 (oM (ko m y.1 true)))) kr kr (Jy (g:=gv) (l:=m) (x:=y.1) (y:=true) (z:=aB false) kr kr kr) ?_
   have p:=OE y.1 m
   have hy:y.1∈mK v:=kJ.2 ⟨y,vj o,rfl⟩
   exact afB EE D 1 [[0,37,3,15,16,17]] [0,4,1,3] (B (k++[j]) (ko m y.1 true) (by simp;omega) (by
    rw[List.nodup_append]
    exact ⟨A,by simp,fun a ha b u e=>d (by simp at u;exact u▸e▸ha)⟩) (fun x hx=>by
      rcases fc.1 hx with q | q
      · exact hb x q
      · simp at q;exact q▸h) (p.2 h1) (fun x hx=>by
      rcases(p.1 x).1 hx with q | q
      · exact h2 x q
      · exact List.mem_append_right _ ((C.2 x).1 (q▸hy))) (fun x hx=>(p.1 x).2 (.inl (h3 x hx))) (fun a z ha w=>by
      rcases fc.1 ha with q | q
      · exact(p.1 _).2 (.inl (h4 a z q w))
      · simp only[ug] at q
        subst q
        rw[o] at w
        simp only[bj] at w
        exact(p.1 _).2 (.inr (by rw[w]))))
theorem QM : DB [] []:=⟨List.nodup_nil,fun _=>Iff.rfl⟩
theorem YS : (∀ t i l r,Aj t i l=some r→∀ m,DB l m→SX Tryz.prog (G9 1 (DB r) wo) (OF t i m))∧(∀ t l r,Zl t l=some r→∀ m,DB l m→agy Tryz.prog 101 1 (Uj t m) (DB r) wo):=by
 refine Aj.mutual_partial_correctness _ _ ?_ ?_
 · intro Aj Zl b j t i l r h m a
   have d:vk 1 (G9 1 (DB r) wo):=qx fun c=>qk
   refine yB EE 1 h (fun c h=>?_) (fun c h=>?_)
   · refine yX EE 4 52 54 OC h fun x o h=>?_
     cases c8:decide (t.Op=8) with
     | true=>rw[c8] at h;cases h
     | false=>
       rw[c8] at h
       obtain⟨s,es,h⟩:=rZ h
       obtain⟨k,h⟩:=WE h
       refine QK EE 10 (.bO []) (fun c=>BT 1 (wo c) [3] 4) (j x [] s es [] QM _ 4 [3] wK) fun v n=>?_
       refine Tr EE 3 (decide (t.Op=8)) kr (fun e=>by rw[c8] at e;cases e) fun _=>?_
       exact afB EE d 8 [[0,37,3,15,16,17]] [0,4,1,3] (YR n k (fun m=>b t (i+1) (l++s) r h m) v.length [] m rfl List.nodup_nil (by simp) a.1 (fun x hx=>List.mem_append_left _ ((a.2 x).1 hx)) (fun x hx=>(a.2 x).2 hx) (by simp))
   · obtain rfl:=Option.some.inj h
     exact UK EE 3 m a (.bO []) [0] (.pure pv) (us iy) gK
 · intro Aj b t l r h m a
   refine ajD EE 1 ?_ (fun c=>bd) akQ rfl kr
   have d:vk 1 (G9 1 (DB r) wo):=qx fun c=>qk
   refine yB EE 5 h (fun c h=>?_) (fun c h=>?_)
   · refine bF EE 4 (fun S=>SS Tryz.prog S 123 (.cQ 0) (aI t.N) (aB true)) (fun S=>.skip (S.set 0 (oM (ko m t.N true)))) kr kr (Jy (g:=gv) (l:=m) (x:=t.N) (y:=true) (z:=aB false) kr kr kr) ?_
     obtain rfl:=Option.some.inj h
     have f:=OE t.N m
     exact UK EE 2 (ko m t.N true) ⟨f.2 a.1,fun x=>by rw[f.1,a.2,fc,ug]⟩ (.bO []) [0] (.pure pv) (us iy) gK
   · refine wO EE 3 _ _ (by kernel_rfl) (JM cH t.Kids) ?_
     exact afB EE d 2 [[0,3,15,16,17]] [0,1] (b t 0 l r h m a)
noncomputable def ajG : St:=sN 7 (N6 (.bO []) (BT 1 (wo []) [4] 5) (sN 15 (agv (aB true) (sN 9 (St.start T0 32 [aG default,aK default] ag.empty)))))
noncomputable def ZG (v:LB):St:=jN ajG [[(15,aP 5),(6,.an)]] (oX 6 [(5,.mi 4 (v.map (cg (az .i64) gv)).length []),(4,oM v)])
noncomputable def ajH : St:=sN 9 (eC (fun S=>.val (.bO [aI 0,aB false]) S) (sN 4 (eC (fun S=>.val (.bO [aB true,aI 0,aB false]) (S.set 5 (.mi 4 0 []))) (sN 1 (ZG [])))))
noncomputable def ZH (v:LB)(k:List Nat)(l:LI):St:=jN ajH [[(15,aP 5),(6,.ai 7 0 l.length)]] (oX 8 [(5,.mi 4 (v.map (cg (az .i64) gv)).length k),(7,.arr 1 (l.map (az .i64))),(4,oM v)])
theorem UO (a:DB r v)(k:List Nat)(l:LI)(b:0<l.length)(h1:l.length≤1048576)(c:l.Nodup)(h2:∀ x,x∈l→x∈mK v)(h3:∀ x,x∈mK v→x∈l) :
  SX Tryz.prog (RQ (.bO [aN (ku (BI r)),aI 0])) (eC (fun S=>.val (.bO [.sc (.bool false)]) S) (sN 1 (ZH v k l))):=by
 have hs:ku (BI r)=ku l:=YQ (pm _ _ (u5 r) c fun x=>by rw[rp,←a.2];exact⟨h3 x,h2 x⟩)
 rw[hs]
 refine yG EE 4 (g:=65) (A:=[.ai 7 0 l.length]) (v:=.bO []) (r:=fun S=>S.set 7 (.arr 1 ((ku l).map (az .i64)))) (ML Tryz.UM l b (by omega) kr (gw (by kernel_rfl))) ?_
 exact bN EE 6 (v:=.bO [.ai 7 0 l.length,aI 0]) kr (Fz.bw (Fz.lN (sz:=1) (es:=(ku l).map (az .i64)) kr (by simp[ku]) pl) (.pure pv))
theorem aeJ (u:DB r v)(hb:v.length≤1048576):∀(n:Nat) (k:List Nat) (l:LI),n+k.length=v.length→k.Nodup→(∀ j,j∈k→j<v.length)→l.length=k.length→0<l.length→l.Nodup→(∀ x,x∈l→∃(j:Nat) (y:Int×Bool),j∈k∧v[j]? = some y∧y.1=x) →
   (∀ j y,j∈k→v[j]? = some y→y.1∈l)→SX Tryz.prog (RQ (.bO [aN (ku (BI r)),aI 0])) (ZH v k l):=by
 have s:∀(j:Nat) (y:Int×Bool),v[j]? = some y→y.1∈mK v:=fun j y e=>kJ.2 ⟨y,vj e,rfl⟩
 intro n
 induction n with
 | zero=>
   intro k l G w A F B h1 h2 h3
   refine Ay EE 1 (id:=5) (m:=4) (since:=(v.map (cg (az .i64) gv)).length) (f:=az .i64) (g:=gv) (l:=v) (sn:=k) (by simp) (fun ha=>?_) (fun j y o h=>?_)
   · exact UO u k l B (by omega) h1 (fun x hx=>let ⟨j,y,_,e,q⟩:=h2 x hx;q▸s j y e) fun x hx=>by
      obtain⟨y,C,q2⟩:=kJ.1 hx
      obtain⟨j,q3⟩:=hU C
      exact q2▸h3 j y (ha j (mC.1 q3).1) q3
   · have p:=(mC.1 o).1
     have:=afd v.length (j::k) (so.2 ⟨h,w⟩) fun x hx=>(dE.1 hx).elim (fun e=>e▸p) (A x)
     simp at this;omega
 | succ n D=>
   intro k l G w A F B h1 h2 h3
   refine Ay EE 1 (id:=5) (m:=4) (since:=(v.map (cg (az .i64) gv)).length) (f:=az .i64) (g:=gv) (l:=v) (sn:=k) (by simp) (fun ha=>?_) (fun j y o h=>?_)
   · exact UO u k l B (by omega) h1 (fun x hx=>let ⟨j,y,_,e,q⟩:=h2 x hx;q▸s j y e) fun x hx=>by
      obtain⟨y,C,q2⟩:=kJ.1 hx
      obtain⟨j,q3⟩:=hU C
      exact q2▸h3 j y (ha j (mC.1 q3).1) q3
   · have p:=(mC.1 o).1
     refine bF EE 4 (fun S=>ZW S (.ptr 5 0 0)) (fun S=>.val (.bO [aI y.1,aB y.2]) S) kr kr (Jz (f:=az .i64) (g:=gv) (m:=4) (sn:=k) (since:=(v.map (cg (az .i64) gv)).length) kr kr (by simp) o) ?_
     refine bF EE 6 (fun S=>mN Tryz.prog S 45 45 (.ai 7 0 l.length) (.ai 8 0 1)) (fun S=>.val (.ai 9 0 (l++[y.1]).length) ((S.del 7).add (.arr 1 ((l++[y.1]).map (az .i64))))) kr kr (n7 (enc:=(az .i64)) (el:=3) (sz:=1) (xs:=l) (ys:=[y.1]) kr kr (fun _=>rfl) (fun _=>by kernel_rfl) kr (bC _ (.inr ⟨8,1,rfl,by kernel_rfl⟩)) rfl kr kr kr (by simp) (by simp;omega)) ?_
     have E:y.1∉l:=fun q=>by
      obtain⟨i,z,a,b,c⟩:=h2 _ q
      have hi:=(mC.1 b).1
      have e:(mK v)[i]? = (mK v)[j]? := by simp only[mK,sl,b,o,lP,c]
      exact h ((Ju (by simpa [mK] using hi) u.1).1 e▸a)
     exact asQ EE rq 2 [[15,6]] [5,9,4] [(7,9)] 8 10 [[(15,aP 5),(6,.ai 9 0 ((l++[y.1]).length))]] [(5,.mi 4 (v.map (cg (az .i64) gv)).length (k++[j])),(9,.arr 1 ((l++[y.1]).map (az .i64))),(4,oM v)] (D (k++[j]) (l++[y.1]) (by simp;omega) (by
      rw[List.nodup_append]
      exact ⟨w,by simp,fun a ha b d e=>h (by simp at d;exact d▸e▸ha)⟩) (fun x hx=>by
       rcases fc.1 hx with q | q
       · exact A x q
       · simp at q;exact q▸p) (by simp[F]) (by simp) (by
      rw[List.nodup_append]
      exact ⟨h1,by simp,fun a ha b d e=>E (by simp at d;exact d▸e▸ha)⟩) (fun x hx=>by
       rcases fc.1 hx with q | q
       · obtain⟨i,z,a,b,c⟩:=h2 x q
         exact⟨i,z,List.mem_append_left _ a,b,c⟩
       · simp at q
         exact⟨j,y,by simp,o,q.symm⟩) (fun a z ha t=>by
       rcases fc.1 ha with q | q
       · exact List.mem_append_left _ (h3 a z q t)
       · simp only[ug] at q
         subst q
         rw[o] at t
         simp only[bj] at t
         exact List.mem_append_right _ (by rw[t];simp)))
theorem aeK (e:DB r v)(hb:v.length≤1048576):SX Tryz.prog (RQ (.bO [aN (ku (BI r)),aI 0])) (ZG v):=by
 refine Ay EE 1 (id:=5) (m:=4) (since:=(v.map (cg (az .i64) gv)).length) (f:=az .i64) (g:=gv) (l:=v) (sn:=[]) (by simp) (fun ha=>?_) (fun j y b n=>?_)
 · have h:BI r=[]:=by
    cases i:BI r with
    | nil=>rfl
    | cons a t=>
      have h1:a∈mK v:=(e.2 a).2 ((rp r a).1 (by rw[i];simp))
      obtain⟨y,k,q2⟩:=kJ.1 h1
      obtain⟨j,q3⟩:=hU k
      exact absurd (ha j (mC.1 q3).1) (by simp)
   rw[h,show ku []=[] from by simp[ku]]
   refine yG EE 4 (g:=65) (A:=[.an]) (v:=.bO []) (r:=fun S=>S) (Ss Tryz.UM _) ?_
   exact bN EE 6 (v:=.bO [.an,aI 0]) kr (Fz.bw (.an) (.pure pv))
 · have d:=(mC.1 b).1
   refine bF EE 4 (fun S=>ZW S (.ptr 5 0 0)) (fun S=>.val (.bO [aI y.1,aB y.2]) S) kr kr (Jz (f:=az .i64) (g:=gv) (m:=4) (sn:=[]) (since:=(v.map (cg (az .i64) gv)).length) kr kr (by simp) b) ?_
   exact yK EE 9 [[15,6]] [5,7,4] (aeJ e hb (v.length-1) [j] [y.1] (by simp;omega) (by simp) (fun x hx=>by simp at hx;exact hx▸d) rfl (by simp) (by simp) (fun x hx=>⟨j,y,by simp,b,by simp at hx;exact hx.symm⟩) (fun a z ha c=>by
    simp at ha;subst ha
    rw[b] at c;simp at c;simp[c]))
def ml (a0:aE)(a1:Term):Option (LI×Int):=
 pG a0 [a1]>>=fun v=>if v then(Zl a1 []>>=fun r=>if decide ((BI r).length≤1048576) then some (ku (BI r),0) else none) else some ([],2)
theorem vW {a0:aE}{a1:Term}:LF Tryz.prog (ml a0 a1) 32 [aG a0,aK a1] (fun r=>.bO [aN r.1,aI r.2]):=by
 intro r h
 unfold ml at h
 refine yF EE ?_
 obtain⟨a,b,h⟩:=rZ h
 refine EG EE 9 63 [aG a0,.ai 2 0 1] [aG a0,.lit [aK a1]] (aB a) kr (uF.cons (.pure pv) (uF.cons (BM.lN (sz:=3) (es:=[aK a1]) kr rfl pl) uF.nil)) pl rfl (by have q:∀ S,fU Tryz.prog 63 [aG a0,aT [a1]] S fun e f=>e=.ret (aB a)∧f=S:=ur a b;simp only[aT,dF,ud,kM] at q;exact q) ?_
 cases a with
 | true=>
   have h:=Zi rfl h
   obtain⟨l,el,h⟩:=rZ h
   obtain⟨g,h⟩:=WE h
   obtain rfl:=Option.some.inj h
   refine QK EE 15 (.bO []) (fun c=>BT 1 (wo c) [4] 5) (YS.2 a1 [] l el [] QM _ 5 [4] wK) fun v d=>?_
   have hb:v.length≤1048576:=by
    have:=(pm _ _ d.1 (u5 l) fun x=>by rw[d.2,rp]).length_eq
    simp only[mK,sq] at this
    have:=of_decide_eq_true g
    omega
   exact yK EE 7 [[15,6]] [5,4] (aeK d hb)
 | false=>
   have h:=ZS rfl h
   obtain rfl:=Option.some.inj h
   exact bN EE 6 (v:=.bO [.an,aI 2]) kr (Fz.bw (.an) (.pure pv))
@[simp] noncomputable def fl := fun b a82 (a83:LI) (a:(List ad)) (a85:LI) (o:NM)=>(([aP (o 0),aK b,.ai (o 1) 0 a83.length],[.arr 8 [.agg [.ai (o 2) 0 a.length,aI a82,.ai (o 3) 0 a85.length,.an,.an,.an,.an,.sc (.map none)]],.arr 1 (a83.map (az .i64)),.arr 7 (a.map aF),.arr 1 (a85.map (az .i64))]):TC)
@[simp] noncomputable def dR := fun a82 (a83:LI) (a85:LI) (r:((List ad)×Int)) (o:NM)=>((aI r.2,sm [.arr 8 [.agg [.ai (o 2) 0 r.1.length,aI a82,.ai (o 3) 0 a85.length,.an,.an,.an,.an,.sc (.map none)]],.arr 1 (a83.map (az .i64))],[.arr 7 (r.1.map aF),.arr 1 (a85.map (az .i64))]):TB)
@[simp] noncomputable def ir := fun a87 a88 (a89:LI) (o:NM)=>(([aP (o 0),aK a87,.ai (o 1) 0 a89.length],[.arr 8 [.agg [.an,aI a88,.an,.an,.an,.an,.an,.sc (.map none)]],.arr 1 (a89.map (az .i64))]):TC)
@[simp] noncomputable def iu := fun a88 (a89:LI) (r:(Sum Int ((List ad)×Int))) (o:NM)=>(match r with | (Sum.inl y)=>(aI y,sm [.arr 8 [.agg [.an,aI a88,.an,.an,.an,.an,.an,.sc (.map none)]],.arr 1 (a89.map (az .i64))],[]) | (Sum.inr y)=>(aI y.2,sm [.arr 8 [.agg [.ai (o 2) 0 y.1.length,aI a88,.an,.an,.an,.an,.an,.sc (.map none)]],.arr 1 (a89.map (az .i64))],[.arr 7 (y.1.map aF)]):TB)
@[simp] noncomputable def fm := fun a lK (a114:LI) (eg:(List ad)) (o:NM)=>(([aP (o 0),aK a,.ai (o 1) 0 a114.length],[.arr 8 [.agg [.ai (o 2) 0 eg.length,aI lK,.an,.an,.an,.an,.an,.sc (.map none)]],.arr 1 (a114.map (az .i64)),.arr 7 (eg.map aF)]):TC)
@[simp] noncomputable def dm := fun lK (a114:LI) (r:((List ad)×Int)) (o:NM)=>((aI r.2,sm [.arr 8 [.agg [.ai (o 2) 0 r.1.length,aI lK,.an,.an,.an,.an,.an,.sc (.map none)]],.arr 1 (a114.map (az .i64))],[.arr 7 (r.1.map aF)]):TB)
noncomputable def pV : St:=sN 2 (ak (aI 0) none (sN 9 (ak (aI 0) none (sN 11 (eC (fun S=>.val (.ai 6 0 0) ((S.del 2).add (.arr 7 []))) (sN 12 (ak (aB false) none (sN 17 (ak (aB false) none (sN 2 (ak (aB false) none (sN 7 (St.start T0 120 ((dz fl id).1) (oX 4 (mR 0 ((dz fl id).2))))))))))))))))
noncomputable def kg := fun(a:Term) a82 (a83:LI) b (a85:LI)=>fV pV 7 fun o=>([[(2,.ai (o 1) 0 a83.length),(0,aP (o 0)),(49,aT a.Kids),(8,aI (((b++[(ad.mk a.Op a.N ([]:LI) (-1) ([]:LI) 0 ([]:LI))]).length)-1)),(50,aI (a.Kids.length:Int)),(51,aI 0),(9,.an)]],[((o 1),.arr 1 (a83.map (az .i64))),((o 0),.arr 8 [.agg [.ai (o 6) 0 ((b++[(ad.mk a.Op a.N ([]:LI) (-1) ([]:LI) 0 ([]:LI))]).length),aI a82,.ai (o 3) 0 a85.length,.an,.an,.an,.an,.sc (.map none)]]),((o 6),.arr 7 ((b++[(ad.mk a.Op a.N ([]:LI) (-1) ([]:LI) 0 ([]:LI))]).map aF)),((o 3),.arr 1 (a85.map (az .i64)))])
noncomputable def pW : St:=sN 2 (ak (aI 0) none (sN 9 (ak (aI 0) none (sN 11 (eC (fun S=>.val (.ai 4 0 0) (S.add (.arr 7 []))) (sN 30 (ak (aB false) none (sN 2 (ak (aB false) none (sN 7 (St.start T0 120 ((dz ir id).1) (oX 2 (mR 0 ((dz ir id).2))))))))))))))
noncomputable def ki := fun(a87:Term) a88 (a89:LI)=>fV pW 5 fun o=>([[(2,.ai (o 1) 0 a89.length),(0,aP (o 0)),(49,aT a87.Kids),(8,aI ([(ad.mk a87.Op a87.N ([]:LI) (-1) ([]:LI) 0 ([]:LI))].length-1)),(50,aI (a87.Kids.length:Int)),(51,aI 0),(9,.an)]],[((o 1),.arr 1 (a89.map (az .i64))),((o 0),.arr 8 [.agg [.ai (o 4) 0 [(ad.mk a87.Op a87.N ([]:LI) (-1) ([]:LI) 0 ([]:LI))].length,aI a88,.an,.an,.an,.an,.an,.sc (.map none)]]),((o 4),.arr 7 ([(ad.mk a87.Op a87.N ([]:LI) (-1) ([]:LI) 0 ([]:LI))].map aF))])
noncomputable def pX : St:=sN 2 (ak (aI 0) none (sN 9 (ak (aI 0) none (sN 11 (eC (fun S=>.val (.ai 5 0 0) ((S.del 2).add (.arr 7 []))) (sN 12 (ak (aB false) none (sN 17 (ak (aB false) none (sN 2 (ak (aB false) none (sN 7 (St.start T0 120 ((dz fm id).1) (oX 3 (mR 0 ((dz fm id).2))))))))))))))))
noncomputable def kj := fun(a:Term) lK (a114:LI) eg=>fV pX 6 fun o=>([[(2,.ai (o 1) 0 a114.length),(0,aP (o 0)),(49,aT a.Kids),(8,aI (((eg++[(ad.mk a.Op a.N ([]:LI) (-1) ([]:LI) 0 ([]:LI))]).length)-1)),(50,aI (a.Kids.length:Int)),(51,aI 0),(9,.an)]],[((o 1),.arr 1 (a114.map (az .i64))),((o 0),.arr 8 [.agg [.ai (o 5) 0 ((eg++[(ad.mk a.Op a.N ([]:LI) (-1) ([]:LI) 0 ([]:LI))]).length),aI lK,.an,.an,.an,.an,.an,.sc (.map none)]]),((o 5),.arr 7 ((eg++[(ad.mk a.Op a.N ([]:LI) (-1) ([]:LI) 0 ([]:LI))]).map aF))])
noncomputable def NH : St:=sN 2 (ak (aI 0) none (sN 14 (ak (.bO [.lit [],aI 0]) none (sN 6 (ak (aB true) none (sN 8 (St.start T0 78 [.agg [.lit [],.lit [],.lit [],.lit []],.agg [aI 0,aI 0,.lit []]] ag.empty)))))))
noncomputable def Dv := fun a1 (v401:(LI×Int))=>fV NH 5 fun o=>([[(9,.ai (o 4) 0 20),(8,aP (o 3)),(28,aN v401.1),(4,aP (o 2)),(3,aP (o 1)),(29,aI (v401.1.length:Int)),(30,aI 0)]],[((o 4),.arr 1 [aI 0,aI 0,aI 0,aI 0,aI 0,aI 0,aI 0,aI 0,aI 0,aI 0,aI 0,aI 0,aI 0,aI 0,aI 0,aI 0,aI 0,aI 0,aI 0,aI 0]),((o 3),.arr 8 [.agg [.an,aI 0,.an,.an,.an,.an,.an,.sc (.map none)]]),((o 2),.arr 3 [.agg [.an,aI 0,.an]]),((o 1),.arr 3 [aK a1])])
noncomputable def pY : St:=sN 8 (EV (aI 0) (BT 2 (dz dR) [0,1,6,3] 8) (sN 8 (ak (.dN [aI 0,aI 0,.lit []]) none (sN 3 (ak (aB true) none (sN 1 (dz kg)))))))
noncomputable def pZ := fun(a:Term) a82 (a83:LI) e (a85:LI) d (b:LI) (c:(List ad))=>fV pY 12 fun o=>([[(2,.ai (o 1) 0 a83.length),(0,aP (o 0)),(49,aT a.Kids),(8,aI (((e++[(ad.mk a.Op a.N ([]:LI) (-1) ([]:LI) 0 ([]:LI))]).length)-1)),(50,aI (a.Kids.length:Int)),(51,aI d),(9,.ai (o 11) 0 b.length)]],[((o 1),.arr 1 (a83.map (az .i64))),((o 0),.arr 8 [.agg [.ai (o 8) 0 c.length,aI a82,.ai (o 9) 0 a85.length,.an,.an,.an,.an,.sc (.map none)]]),((o 11),.arr 1 (b.map (az .i64))),((o 8),.arr 7 (c.map aF)),((o 9),.arr 1 (a85.map (az .i64)))])
noncomputable def qa : St:=sN 8 (EV (aI 0) (BT 2 (dz dm) [0,1,4] 6) (sN 8 (ak (.dN [aI 0,aI 0,.lit []]) none (sN 3 (ak (aB true) none (sN 1 (dz ki)))))))
noncomputable def qb := fun(a87:Term) a88 (a89:LI) c (a:LI) (b:(List ad))=>fV qa 9 fun o=>([[(2,.ai (o 1) 0 a89.length),(0,aP (o 0)),(49,aT a87.Kids),(8,aI ([(ad.mk a87.Op a87.N ([]:LI) (-1) ([]:LI) 0 ([]:LI))].length-1)),(50,aI (a87.Kids.length:Int)),(51,aI c),(9,.ai (o 8) 0 a.length)]],[((o 1),.arr 1 (a89.map (az .i64))),((o 0),.arr 8 [.agg [.ai (o 6) 0 b.length,aI a88,.an,.an,.an,.an,.an,.sc (.map none)]]),((o 8),.arr 1 (a.map (az .i64))),((o 6),.arr 7 (b.map aF))])
noncomputable def qc : St:=sN 8 (EV (aI 0) (BT 2 (dz dm) [0,1,5] 7) (sN 8 (ak (.dN [aI 0,aI 0,.lit []]) none (sN 3 (ak (aB true) none (sN 1 (dz kj)))))))
noncomputable def qd := fun(a:Term) lK (a114:LI) eg d (b:LI) (c:(List ad))=>fV qc 10 fun o=>([[(2,.ai (o 1) 0 a114.length),(0,aP (o 0)),(49,aT a.Kids),(8,aI (((eg++[(ad.mk a.Op a.N ([]:LI) (-1) ([]:LI) 0 ([]:LI))]).length)-1)),(50,aI (a.Kids.length:Int)),(51,aI d),(9,.ai (o 9) 0 b.length)]],[((o 1),.arr 1 (a114.map (az .i64))),((o 0),.arr 8 [.agg [.ai (o 7) 0 c.length,aI lK,.an,.an,.an,.an,.an,.sc (.map none)]]),((o 9),.arr 1 (b.map (az .i64))),((o 7),.arr 7 (c.map aF))])
noncomputable def NI : St:=sN 12 (LC (fun S=>.val (aI 0) S) (sN 0 (LC (fun S=>.val (aP 4) S) (sN 10 (eC (fun S=>.skip (S.set 4 (.arr 1 []))) (sN 0 (eC (fun S=>.val (aP 4) S) (sN 3 (ak (aI 0) none (sN 11 (eC (fun S=>.val (.ai 6 0 0) (S.add (.arr 7 []))) (sN 29 (ak (.dN [aI 0]) none (sN 3 (ak (aB true) none (sN 1 (dz Dv)))))))))))))))))
noncomputable def Dw := fun a1 (v401:(LI×Int)) d (a:LI) (b:(List ad)) (c:LI)=>fV NI 9 fun o=>([[(9,.ai (o 4) 0 a.length),(8,aP (o 3)),(28,aN v401.1),(4,aP (o 2)),(3,aP (o 1)),(29,aI (v401.1.length:Int)),(30,aI d)]],[((o 4),.arr 1 (a.map (az .i64))),((o 3),.arr 8 [.agg [.ai (o 6) 0 b.length,aI 0,.ai (o 8) 0 c.length,.an,.an,.an,.an,.sc (.map none)]]),((o 2),.arr 3 [.agg [.an,aI 0,.an]]),((o 1),.arr 3 [aK a1]),((o 6),.arr 7 (b.map aF)),((o 8),.arr 1 (c.map (az .i64)))])
mutual
def bU (a:Term)(a82:Int)(a83:LI)(e:(List ad))(a85:LI)(c:Int)(f:LI)(d:(List ad)):Option ((List ad)×Int):=
 if decide (c<(a.Kids.length:Int)) then(bP a.Kids c>>=fun h=>bI h a82 a83 d a85>>=fun g=>if decide (f.length+[g.2].length≤1048576) then(if cw .i64 (c+1) then(bU a a82 a83 e a85 (c+1) (f++[g.2]) g.1) else none) else none) else(bP d (((e++[(ad.mk a.Op a.N ([]:LI) (-1) ([]:LI) 0 ([]:LI))]).length)-1)>>=fun i=>bP d (((e++[(ad.mk a.Op a.N ([]:LI) (-1) ([]:LI) 0 ([]:LI))]).length)-1)>>=fun b=>some ((d.set ((((e++[(ad.mk a.Op a.N ([]:LI) (-1) ([]:LI) 0 ([]:LI))]).length)-1):Int).toNat (ad.mk b.Op b.N f b.To b.iV b.bY b.Env)),(((e++[(ad.mk a.Op a.N ([]:LI) (-1) ([]:LI) 0 ([]:LI))]).length)-1)))
 partial_fixpoint
def bI (a:Term)(a82:Int)(a83:LI)(b:(List ad))(a85:LI):Option ((List ad)×Int):=
 if decide ((a.Op:Int)=1) then(bP a83 a.N>>=fun d=>bP a83 a.N>>=fun c=>some (b,c)) else(if decide ((a.Op:Int)=8) then none else(if decide ((b.length:Int)=200) then none else(if decide (b.length+[(ad.mk a.Op a.N ([]:LI) (-1) ([]:LI) 0 ([]:LI))].length≤1048576) then(if cw .i64 (((b++[(ad.mk a.Op a.N ([]:LI) (-1) ([]:LI) 0 ([]:LI))]).length)-1) then(fo a a82 a83 b a85) else none) else none)))
 partial_fixpoint
def fo (a:Term)(a82:Int)(a83:LI)(c:(List ad))(a85:LI):Option ((List ad)×Int):=
 if decide (0<(a.Kids.length:Int)) then(bP a.Kids 0>>=fun e=>bI e a82 a83 (c++[(ad.mk a.Op a.N ([]:LI) (-1) ([]:LI) 0 ([]:LI))]) a85>>=fun d=>bU a a82 a83 c a85 1 [d.2] d.1) else(bP (c++[(ad.mk a.Op a.N ([]:LI) (-1) ([]:LI) 0 ([]:LI))]) (((c++[(ad.mk a.Op a.N ([]:LI) (-1) ([]:LI) 0 ([]:LI))]).length)-1)>>=fun f=>bP (c++[(ad.mk a.Op a.N ([]:LI) (-1) ([]:LI) 0 ([]:LI))]) (((c++[(ad.mk a.Op a.N ([]:LI) (-1) ([]:LI) 0 ([]:LI))]).length)-1)>>=fun b=>some (((c++[(ad.mk a.Op a.N ([]:LI) (-1) ([]:LI) 0 ([]:LI))]).set ((((c++[(ad.mk a.Op a.N ([]:LI) (-1) ([]:LI) 0 ([]:LI))]).length)-1):Int).toNat (ad.mk b.Op b.N ([]:LI) b.To b.iV b.bY b.Env)),(((c++[(ad.mk a.Op a.N ([]:LI) (-1) ([]:LI) 0 ([]:LI))]).length)-1)))
 partial_fixpoint
end
variable {a82 : Int} {a83 a85 : LI}
theorem nS : (∀ a e j g h,LJ Tryz.prog (bU a a82 a83 e a85 j g h) 2 (dR a82 a83 a85) (pZ a a82 a83 e a85 j g h))∧(∀ a e,LG Tryz.prog (bI a a82 a83 e a85) 120 2 (fl a a82 a83 e a85) (dR a82 a83 a85))∧(∀ a e,LJ Tryz.prog (fo a a82 a83 e a85) 2 (dR a82 a83 a85) (kg a a82 a83 e a85)):=by
 refine bU.mutual_partial_correctness _ _ _ _ _ _ ?_ ?_ ?_
 · exact fun bU bI b dI a e j g h=>sB 1 (sX 3 fun _=>sV fun y l=>sT (fun q=>yG EE 8 (dI _ _ y l _ 13 [0,1,8,9] wK) q)<|sA 1 11 15 16<|sI 3<|I9 2 [[2,0,49,8,50,51,9]] [1,0,16,13,14] [(11,16),(8,13),(9,14)] 17 (b _ _ _ _ _))<|sT (Uf EE 8 (fun S=>some (.val (.ai 11 0 g.length) S)) 11 (sz:=1) (len:=g.length) (es:=g.map (az .i64)) (fun S=>S) kr kr rfl (by simp) kr kr kr)<|sV fun _ o=>sT (bF EE 0 (fun S=>wS Tryz.prog S 148 (.ai 8 0 h.length) (aI (((e++[(ad.mk a.Op a.N ([]:LI) (-1) ([]:LI) 0 ([]:LI))]).length)-1))) (fun S=>.val (.ptr 8 (0+((((e++[(ad.mk a.Op a.N ([]:LI) (-1) ([]:LI) 0 ([]:LI))]).length)-1):Int).toNat) 0) S) kr kr (lD (xs:=h) (es:=h.map aF) (el:=310) (n:=7) o (by first | rfl | (simp;done) | omega | (simp;omega)) kr kr kr))<|sV fun c p=>sT (bF EE 1 (fun S=>Lb Tryz.prog S 45 (.ptr 8 (0+((((e++[(ad.mk a.Op a.N ([]:LI) (-1) ([]:LI) 0 ([]:LI))]).length)-1):Int).toNat) 2) (aN g)) (fun S=>.skip (S.set 8 (.arr 7 ((h.set ((((e++[(ad.mk a.Op a.N ([]:LI) (-1) ([]:LI) 0 ([]:LI))]).length)-1):Int).toNat (ad.mk c.Op c.N g c.To c.iV c.bY c.Env)).map aF)))) kr kr (pq (n:=7) (m:=1) (enc:=aF) (xs:=h) (i:=(((e++[(ad.mk a.Op a.N ([]:LI) (-1) ([]:LI) 0 ([]:LI))]).length)-1)) (x' := (ad.mk c.Op c.N g c.To c.iV c.bY c.Env)) p kr (cs:=(AV.agg [aI c.Op,aI c.N,aN c.Refs,aI c.To,aN c.iV,aI c.bY,aN c.Env]).cells) rfl kr kr rfl))<|mg 5 (aI (((e++[(ad.mk a.Op a.N ([]:LI) (-1) ([]:LI) 0 ([]:LI))]).length)-1)) [0,1,8,9] (hu:=uo (.arr 8 [.agg [.ai 8 0 h.length,aI a82,.ai 9 0 a85.length,.an,.an,.an,.an,.sc (.map none)]]) uT) (ha:=ua (.arr 7 ((h.set ((((e++[(ad.mk a.Op a.N ([]:LI) (-1) ([]:LI) 0 ([]:LI))]).length)-1):Int).toNat (ad.mk c.Op c.N g c.To c.iV c.bY c.Env)).map aF)) (ua (.arr 1 (a85.map (az .i64))) gK))
 · exact fun fo f a e=>P8 4 (sB 7 (sV fun _ s=>sT (bF EE 5 (fun S=>wS Tryz.prog S 45 (.ai 1 0 a83.length) (aI a.N)) (fun S=>.val (.ptr 1 (0+(a.N:Int).toNat) 0) S) kr kr (lD (xs:=a83) (es:=a83.map (az .i64)) (el:=3) (n:=1) s (by first | rfl | (simp;done) | omega | (simp;omega)) kr kr kr))<|sV fun k t=>sT (bF EE 0 (fun S=>WN Tryz.prog S 3 (.ptr 1 (0+(a.N:Int).toNat) 0)) (fun S=>.val (aI k) S) kr kr (zw (n:=1) (enc:=(az .i64)) (xs:=a83) (i:=a.N) t kr (cs:=(AV.agg [aI k]).cells) rfl kr kr))<|mg 3 (aI k) [0,1,2,3] (ha:=ua (.arr 7 (e.map aF)) (ua (.arr 1 (a85.map (az .i64))) gK)))<|sB 2 s0<|sB 17 s0<|sG fun z=>sT (N7 EE 12 (fun S=>mN Tryz.prog S 148 148 (.ai 2 0 e.length) (.ai 5 0 1)) (.ai 6 0 (e++[(ad.mk a.Op a.N ([]:LI) (-1) ([]:LI) 0 ([]:LI))]).length) (fun S=>(S.del 2).add (.arr 7 ((e++[(ad.mk a.Op a.N ([]:LI) (-1) ([]:LI) 0 ([]:LI))]).map aF))) kr kr (AN (enc:=aF) (el:=310) (sz:=7) (xs:=e) (ys:=[(ad.mk a.Op a.N ([]:LI) (-1) ([]:LI) 0 ([]:LI))]) (raw:=[.agg [aI a.Op,aI a.N,.an,aI (-1),.an,aI 0,.an]]) kr kr (fun _=>rfl) (fun _=>by kernel_rfl) kr kr kr kr (by first | rfl | (simp;done) | omega | (simp;omega)) kr kr kr (by simp) z))<|sI 11<|sL 9 a.Kids<|wa 2 [[2,0,49,8,50,51,9]] [1,0,6,3] (f _ _))
 · exact fun bU bI b dI a e=>sB 1 (sX 3 fun _=>sV fun A u=>sT (fun q=>yG EE 8 (dI _ _ A u _ 8 [0,1,6,3] wK) q)<|wa 8 [[2,0,49,8,50,51,9]] [1,0,11,8,9] (b _ _ _ _ _))<|sT (Fu EE 8 (fun S=>some (.val .an S)) [] kr kr kr (.inr ⟨rfl,.an,rfl,OA⟩))<|sV fun _ w=>sT (bF EE 0 (fun S=>wS Tryz.prog S 148 (.ai 6 0 ((e++[(ad.mk a.Op a.N ([]:LI) (-1) ([]:LI) 0 ([]:LI))]).length)) (aI (((e++[(ad.mk a.Op a.N ([]:LI) (-1) ([]:LI) 0 ([]:LI))]).length)-1))) (fun S=>.val (.ptr 6 (0+((((e++[(ad.mk a.Op a.N ([]:LI) (-1) ([]:LI) 0 ([]:LI))]).length)-1):Int).toNat) 0) S) kr kr (lD (xs:=(e++[(ad.mk a.Op a.N ([]:LI) (-1) ([]:LI) 0 ([]:LI))])) (es:=(e++[(ad.mk a.Op a.N ([]:LI) (-1) ([]:LI) 0 ([]:LI))]).map aF) (el:=310) (n:=7) w (by first | rfl | (simp;done) | omega | (simp;omega)) kr kr kr))<|sV fun d x=>sT (bF EE 1 (fun S=>Lb Tryz.prog S 45 (.ptr 6 (0+((((e++[(ad.mk a.Op a.N ([]:LI) (-1) ([]:LI) 0 ([]:LI))]).length)-1):Int).toNat) 2) (aN ([]:LI))) (fun S=>.skip (S.set 6 (.arr 7 (((e++[(ad.mk a.Op a.N ([]:LI) (-1) ([]:LI) 0 ([]:LI))]).set ((((e++[(ad.mk a.Op a.N ([]:LI) (-1) ([]:LI) 0 ([]:LI))]).length)-1):Int).toNat (ad.mk d.Op d.N ([]:LI) d.To d.iV d.bY d.Env)).map aF)))) kr kr (pq (n:=7) (m:=1) (enc:=aF) (xs:=(e++[(ad.mk a.Op a.N ([]:LI) (-1) ([]:LI) 0 ([]:LI))])) (i:=(((e++[(ad.mk a.Op a.N ([]:LI) (-1) ([]:LI) 0 ([]:LI))]).length)-1)) (x' := (ad.mk d.Op d.N ([]:LI) d.To d.iV d.bY d.Env)) x kr (cs:=(AV.agg [aI d.Op,aI d.N,aN d.Refs,aI d.To,aN d.iV,aI d.bY,aN d.Env]).cells) rfl kr kr rfl))<|mg 5 (aI (((e++[(ad.mk a.Op a.N ([]:LI) (-1) ([]:LI) 0 ([]:LI))]).length)-1)) [0,1,6,3] (hu:=uo (.arr 8 [.agg [.ai 6 0 ((e++[(ad.mk a.Op a.N ([]:LI) (-1) ([]:LI) 0 ([]:LI))]).length),aI a82,.ai 3 0 a85.length,.an,.an,.an,.an,.sc (.map none)]]) uT) (ha:=ua (.arr 7 (((e++[(ad.mk a.Op a.N ([]:LI) (-1) ([]:LI) 0 ([]:LI))]).set ((((e++[(ad.mk a.Op a.N ([]:LI) (-1) ([]:LI) 0 ([]:LI))]).length)-1):Int).toNat (ad.mk d.Op d.N ([]:LI) d.To d.iV d.bY d.Env)).map aF)) (ua (.arr 1 (a85.map (az .i64))) gK))
theorem dI {a:Term}{b:(List ad)}:LG Tryz.prog (bI a a82 a83 b a85) 120 2 (fl a a82 a83 b a85) (dR a82 a83 a85):=nS.2.1 _ _
mutual
def bV (a:Term)(lK:Int)(a114:LI)(eg:(List ad))(c:Int)(e:LI)(d:(List ad)):Option ((List ad)×Int):=
 if decide (c<(a.Kids.length:Int)) then(bP a.Kids c>>=fun g=>bp g lK a114 d>>=fun f=>if decide (e.length+[f.2].length≤1048576) then(if cw .i64 (c+1) then(bV a lK a114 eg (c+1) (e++[f.2]) f.1) else none) else none) else(bP d (((eg++[(ad.mk a.Op a.N ([]:LI) (-1) ([]:LI) 0 ([]:LI))]).length)-1)>>=fun h=>bP d (((eg++[(ad.mk a.Op a.N ([]:LI) (-1) ([]:LI) 0 ([]:LI))]).length)-1)>>=fun b=>some ((d.set ((((eg++[(ad.mk a.Op a.N ([]:LI) (-1) ([]:LI) 0 ([]:LI))]).length)-1):Int).toNat (ad.mk b.Op b.N e b.To b.iV b.bY b.Env)),(((eg++[(ad.mk a.Op a.N ([]:LI) (-1) ([]:LI) 0 ([]:LI))]).length)-1)))
 partial_fixpoint
def bp (a:Term)(lK:Int)(a114:LI)(eg:(List ad)):Option ((List ad)×Int):=
 if decide ((a.Op:Int)=1) then(bP a114 a.N>>=fun c=>bP a114 a.N>>=fun b=>some (eg,b)) else(if decide ((a.Op:Int)=8) then none else(if decide ((eg.length:Int)=200) then none else(if decide (eg.length+[(ad.mk a.Op a.N ([]:LI) (-1) ([]:LI) 0 ([]:LI))].length≤1048576) then(if cw .i64 (((eg++[(ad.mk a.Op a.N ([]:LI) (-1) ([]:LI) 0 ([]:LI))]).length)-1) then(fp a lK a114 eg) else none) else none)))
 partial_fixpoint
def fp (a:Term)(lK:Int)(a114:LI)(eg:(List ad)):Option ((List ad)×Int):=
 if decide (0<(a.Kids.length:Int)) then(bP a.Kids 0>>=fun d=>bp d lK a114 (eg++[(ad.mk a.Op a.N ([]:LI) (-1) ([]:LI) 0 ([]:LI))])>>=fun c=>bV a lK a114 eg 1 [c.2] c.1) else(bP (eg++[(ad.mk a.Op a.N ([]:LI) (-1) ([]:LI) 0 ([]:LI))]) (((eg++[(ad.mk a.Op a.N ([]:LI) (-1) ([]:LI) 0 ([]:LI))]).length)-1)>>=fun e=>bP (eg++[(ad.mk a.Op a.N ([]:LI) (-1) ([]:LI) 0 ([]:LI))]) (((eg++[(ad.mk a.Op a.N ([]:LI) (-1) ([]:LI) 0 ([]:LI))]).length)-1)>>=fun b=>some (((eg++[(ad.mk a.Op a.N ([]:LI) (-1) ([]:LI) 0 ([]:LI))]).set ((((eg++[(ad.mk a.Op a.N ([]:LI) (-1) ([]:LI) 0 ([]:LI))]).length)-1):Int).toNat (ad.mk b.Op b.N ([]:LI) b.To b.iV b.bY b.Env)),(((eg++[(ad.mk a.Op a.N ([]:LI) (-1) ([]:LI) 0 ([]:LI))]).length)-1)))
 partial_fixpoint
end
variable {lK : Int} {a114 : LI}
theorem nT : (∀ a eg h f g,LJ Tryz.prog (bV a lK a114 eg h f g) 2 (dm lK a114) (qd a lK a114 eg h f g))∧(∀ a eg,LG Tryz.prog (bp a lK a114 eg) 120 2 (fm a lK a114 eg) (dm lK a114))∧(∀ a eg,LJ Tryz.prog (fp a lK a114 eg) 2 (dm lK a114) (kj a lK a114 eg)):=by
 refine bV.mutual_partial_correctness _ _ _ _ _ ?_ ?_ ?_
 · exact fun bV bp b da a eg h f g=>sB 1 (sX 3 fun _=>sV fun x k=>sT (fun q=>yG EE 8 (da _ _ x k _ 11 [0,1,7] wK) q)<|sA 1 9 12 13<|sI 3<|I9 2 [[2,0,49,8,50,51,9]] [1,0,13,11] [(9,13),(7,11)] 14 (b _ _ _ _ _))<|sT (Uf EE 8 (fun S=>some (.val (.ai 9 0 f.length) S)) 9 (sz:=1) (len:=f.length) (es:=f.map (az .i64)) (fun S=>S) kr kr rfl (by simp) kr kr kr)<|sV fun _ l=>sT (bF EE 0 (fun S=>wS Tryz.prog S 148 (.ai 7 0 g.length) (aI (((eg++[(ad.mk a.Op a.N ([]:LI) (-1) ([]:LI) 0 ([]:LI))]).length)-1))) (fun S=>.val (.ptr 7 (0+((((eg++[(ad.mk a.Op a.N ([]:LI) (-1) ([]:LI) 0 ([]:LI))]).length)-1):Int).toNat) 0) S) kr kr (lD (xs:=g) (es:=g.map aF) (el:=310) (n:=7) l (by first | rfl | (simp;done) | omega | (simp;omega)) kr kr kr))<|sV fun c o=>sT (bF EE 1 (fun S=>Lb Tryz.prog S 45 (.ptr 7 (0+((((eg++[(ad.mk a.Op a.N ([]:LI) (-1) ([]:LI) 0 ([]:LI))]).length)-1):Int).toNat) 2) (aN f)) (fun S=>.skip (S.set 7 (.arr 7 ((g.set ((((eg++[(ad.mk a.Op a.N ([]:LI) (-1) ([]:LI) 0 ([]:LI))]).length)-1):Int).toNat (ad.mk c.Op c.N f c.To c.iV c.bY c.Env)).map aF)))) kr kr (pq (n:=7) (m:=1) (enc:=aF) (xs:=g) (i:=(((eg++[(ad.mk a.Op a.N ([]:LI) (-1) ([]:LI) 0 ([]:LI))]).length)-1)) (x' := (ad.mk c.Op c.N f c.To c.iV c.bY c.Env)) o kr (cs:=(AV.agg [aI c.Op,aI c.N,aN c.Refs,aI c.To,aN c.iV,aI c.bY,aN c.Env]).cells) rfl kr kr rfl))<|mg 5 (aI (((eg++[(ad.mk a.Op a.N ([]:LI) (-1) ([]:LI) 0 ([]:LI))]).length)-1)) [0,1,7] (hu:=uo (.arr 8 [.agg [.ai 7 0 g.length,aI lK,.an,.an,.an,.an,.an,.sc (.map none)]]) uT) (ha:=ua (.arr 7 ((g.set ((((eg++[(ad.mk a.Op a.N ([]:LI) (-1) ([]:LI) 0 ([]:LI))]).length)-1):Int).toNat (ad.mk c.Op c.N f c.To c.iV c.bY c.Env)).map aF)) gK)
 · exact fun fp e a eg=>P8 3 (sB 7 (sV fun _ p=>sT (bF EE 5 (fun S=>wS Tryz.prog S 45 (.ai 1 0 a114.length) (aI a.N)) (fun S=>.val (.ptr 1 (0+(a.N:Int).toNat) 0) S) kr kr (lD (xs:=a114) (es:=a114.map (az .i64)) (el:=3) (n:=1) p (by first | rfl | (simp;done) | omega | (simp;omega)) kr kr kr))<|sV fun j s=>sT (bF EE 0 (fun S=>WN Tryz.prog S 3 (.ptr 1 (0+(a.N:Int).toNat) 0)) (fun S=>.val (aI j) S) kr kr (zw (n:=1) (enc:=(az .i64)) (xs:=a114) (i:=a.N) s kr (cs:=(AV.agg [aI j]).cells) rfl kr kr))<|mg 3 (aI j) [0,1,2] (ha:=ua (.arr 7 (eg.map aF)) gK))<|sB 2 s0<|sB 17 s0<|sG fun y=>sT (N7 EE 12 (fun S=>mN Tryz.prog S 148 148 (.ai 2 0 eg.length) (.ai 4 0 1)) (.ai 5 0 (eg++[(ad.mk a.Op a.N ([]:LI) (-1) ([]:LI) 0 ([]:LI))]).length) (fun S=>(S.del 2).add (.arr 7 ((eg++[(ad.mk a.Op a.N ([]:LI) (-1) ([]:LI) 0 ([]:LI))]).map aF))) kr kr (AN (enc:=aF) (el:=310) (sz:=7) (xs:=eg) (ys:=[(ad.mk a.Op a.N ([]:LI) (-1) ([]:LI) 0 ([]:LI))]) (raw:=[.agg [aI a.Op,aI a.N,.an,aI (-1),.an,aI 0,.an]]) kr kr (fun _=>rfl) (fun _=>by kernel_rfl) kr kr kr kr (by first | rfl | (simp;done) | omega | (simp;omega)) kr kr kr (by simp) y))<|sI 11<|sL 9 a.Kids<|wa 2 [[2,0,49,8,50,51,9]] [1,0,5] (e _ _))
 · exact fun bV bp b da a eg=>sB 1 (sX 3 fun _=>sV fun z t=>sT (fun q=>yG EE 8 (da _ _ z t _ 7 [0,1,5] wK) q)<|wa 8 [[2,0,49,8,50,51,9]] [1,0,9,7] (b _ _ _ _ _))<|sT (Fu EE 8 (fun S=>some (.val .an S)) [] kr kr kr (.inr ⟨rfl,.an,rfl,OA⟩))<|sV fun _ u=>sT (bF EE 0 (fun S=>wS Tryz.prog S 148 (.ai 5 0 ((eg++[(ad.mk a.Op a.N ([]:LI) (-1) ([]:LI) 0 ([]:LI))]).length)) (aI (((eg++[(ad.mk a.Op a.N ([]:LI) (-1) ([]:LI) 0 ([]:LI))]).length)-1))) (fun S=>.val (.ptr 5 (0+((((eg++[(ad.mk a.Op a.N ([]:LI) (-1) ([]:LI) 0 ([]:LI))]).length)-1):Int).toNat) 0) S) kr kr (lD (xs:=(eg++[(ad.mk a.Op a.N ([]:LI) (-1) ([]:LI) 0 ([]:LI))])) (es:=(eg++[(ad.mk a.Op a.N ([]:LI) (-1) ([]:LI) 0 ([]:LI))]).map aF) (el:=310) (n:=7) u (by first | rfl | (simp;done) | omega | (simp;omega)) kr kr kr))<|sV fun d w=>sT (bF EE 1 (fun S=>Lb Tryz.prog S 45 (.ptr 5 (0+((((eg++[(ad.mk a.Op a.N ([]:LI) (-1) ([]:LI) 0 ([]:LI))]).length)-1):Int).toNat) 2) (aN ([]:LI))) (fun S=>.skip (S.set 5 (.arr 7 (((eg++[(ad.mk a.Op a.N ([]:LI) (-1) ([]:LI) 0 ([]:LI))]).set ((((eg++[(ad.mk a.Op a.N ([]:LI) (-1) ([]:LI) 0 ([]:LI))]).length)-1):Int).toNat (ad.mk d.Op d.N ([]:LI) d.To d.iV d.bY d.Env)).map aF)))) kr kr (pq (n:=7) (m:=1) (enc:=aF) (xs:=(eg++[(ad.mk a.Op a.N ([]:LI) (-1) ([]:LI) 0 ([]:LI))])) (i:=(((eg++[(ad.mk a.Op a.N ([]:LI) (-1) ([]:LI) 0 ([]:LI))]).length)-1)) (x' := (ad.mk d.Op d.N ([]:LI) d.To d.iV d.bY d.Env)) w kr (cs:=(AV.agg [aI d.Op,aI d.N,aN d.Refs,aI d.To,aN d.iV,aI d.bY,aN d.Env]).cells) rfl kr kr rfl))<|mg 5 (aI (((eg++[(ad.mk a.Op a.N ([]:LI) (-1) ([]:LI) 0 ([]:LI))]).length)-1)) [0,1,5] (hu:=uo (.arr 8 [.agg [.ai 5 0 ((eg++[(ad.mk a.Op a.N ([]:LI) (-1) ([]:LI) 0 ([]:LI))]).length),aI lK,.an,.an,.an,.an,.an,.sc (.map none)]]) uT) (ha:=ua (.arr 7 (((eg++[(ad.mk a.Op a.N ([]:LI) (-1) ([]:LI) 0 ([]:LI))]).set ((((eg++[(ad.mk a.Op a.N ([]:LI) (-1) ([]:LI) 0 ([]:LI))]).length)-1):Int).toNat (ad.mk d.Op d.N ([]:LI) d.To d.iV d.bY d.Env)).map aF)) gK)
theorem da {a:Term}{eg:(List ad)}:LG Tryz.prog (bp a lK a114 eg) 120 2 (fm a lK a114 eg) (dm lK a114):=nT.2.1 _ _
def lV (a1:Term)(v401:(LI×Int))(d:Int)(c:LI)(a:(List ad))(e:LI):Option (kb×Int):=
 if decide (d<(v401.1.length:Int)) then(bP v401.1 d>>=fun b=>if decide ((a.length:Int)=200) then none else(if decide (a.length+[(ad.mk 1 0 ([]:LI) (-1) ([]:LI) 0 ([]:LI))].length≤1048576) then(if cw .i64 (((a++[(ad.mk 1 0 ([]:LI) (-1) ([]:LI) 0 ([]:LI))]).length)-1) then(bP c b>>=fun h=>bP c b>>=fun i=>bP (c.set (b:Int).toNat (((a++[(ad.mk 1 0 ([]:LI) (-1) ([]:LI) 0 ([]:LI))]).length)-1)) b>>=fun j=>bP (c.set (b:Int).toNat (((a++[(ad.mk 1 0 ([]:LI) (-1) ([]:LI) 0 ([]:LI))]).length)-1)) b>>=fun f=>if decide (e.length+[f].length≤1048576) then(if cw .i64 (d+1) then(lV a1 v401 (d+1) (c.set (b:Int).toNat (((a++[(ad.mk 1 0 ([]:LI) (-1) ([]:LI) 0 ([]:LI))]).length)-1)) (a++[(ad.mk 1 0 ([]:LI) (-1) ([]:LI) 0 ([]:LI))]) (e++[f])) else none) else none) else none) else none)) else(bI a1 0 c a e>>=fun g=>some ((kb.mk g.1 g.2 e),0))
 partial_fixpoint
variable {v401 : (LI × Int)}
theorem GQ {a1:Term}:(∀ g a b e,LH Tryz.prog (lV a1 v401 g a b e) (fun r=>.bO [.agg [.lit (r.1.Qp.map aF),aI r.1.W8,aN r.1.bg],aI r.2]) (Dw a1 v401 g a b e)):=by
 refine lV.partial_correctness _ _ _ ?_
 exact fun lV d g a b e=>sB 1 (sX 3 fun c=>sB 16 s0<|sG fun s=>sT (N7 EE 12 (fun S=>mN Tryz.prog S 148 148 (.ai 6 0 b.length) (.ai 9 0 1)) (.ai 10 0 (b++[(ad.mk 1 0 ([]:LI) (-1) ([]:LI) 0 ([]:LI))]).length) (fun S=>(S.del 6).add (.arr 7 ((b++[(ad.mk 1 0 ([]:LI) (-1) ([]:LI) 0 ([]:LI))]).map aF))) kr kr (AN (enc:=aF) (el:=310) (sz:=7) (xs:=b) (ys:=[(ad.mk 1 0 ([]:LI) (-1) ([]:LI) 0 ([]:LI))]) (raw:=[.agg [aI 1,aI 0,.an,aI (-1),.an,aI 0,.an]]) kr kr (fun _=>rfl) (fun _=>by kernel_rfl) kr kr kr kr (by first | rfl | (simp;done) | omega | (simp;omega)) kr kr kr (by simp) s))<|sI 11<|sV fun _ j=>sT (bF EE 3 (fun S=>wS Tryz.prog S 45 (.ai 4 0 a.length) (aI c)) (fun S=>.val (.ptr 4 (0+(c:Int).toNat) 0) S) kr kr (lD (xs:=a) (es:=a.map (az .i64)) (el:=3) (n:=1) j (by first | rfl | (simp;done) | omega | (simp;omega)) kr kr kr))<|sV fun t k=>sT (bF EE 0 (fun S=>Lb Tryz.prog S 3 (.ptr 4 (0+(c:Int).toNat) 0) (aI (((b++[(ad.mk 1 0 ([]:LI) (-1) ([]:LI) 0 ([]:LI))]).length)-1))) (fun S=>.skip (S.set 4 (.arr 1 ((a.set (c:Int).toNat (((b++[(ad.mk 1 0 ([]:LI) (-1) ([]:LI) 0 ([]:LI))]).length)-1)).map (az .i64))))) kr kr (pq (n:=1) (m:=1) (enc:=(az .i64)) (xs:=a) (i:=c) (x' := (((b++[(ad.mk 1 0 ([]:LI) (-1) ([]:LI) 0 ([]:LI))]).length)-1)) k kr (cs:=(AV.agg [aI t]).cells) rfl kr kr rfl))<|sV fun _ l=>sT (lB EE 10 (fun S=>wS Tryz.prog S 45 (.ai 4 0 a.length) (aI c)) (fun S=>.val (.ptr 4 (0+(c:Int).toNat) 0) S) kr kr (lD (xs:=(a.set (c:Int).toNat (((b++[(ad.mk 1 0 ([]:LI) (-1) ([]:LI) 0 ([]:LI))]).length)-1))) (es:=(a.set (c:Int).toNat (((b++[(ad.mk 1 0 ([]:LI) (-1) ([]:LI) 0 ([]:LI))]).length)-1)).map (az .i64)) (el:=3) (n:=1) l (by first | rfl | (simp;done) | omega | (simp;omega)) kr kr kr))<|sV fun h o=>sT (lB EE 0 (fun S=>WN Tryz.prog S 3 (.ptr 4 (0+(c:Int).toNat) 0)) (fun S=>.val (aI h) S) kr kr (zw (n:=1) (enc:=(az .i64)) (xs:=(a.set (c:Int).toNat (((b++[(ad.mk 1 0 ([]:LI) (-1) ([]:LI) 0 ([]:LI))]).length)-1))) (i:=c) o kr (cs:=(AV.agg [aI h]).cells) rfl kr kr))<|sA 1 8 11 12<|sI 7<|by unfold Dw;rw[show a.length=(a.set (c:Int).toNat (((b++[(ad.mk 1 0 ([]:LI) (-1) ([]:LI) 0 ([]:LI))]).length)-1)).length by simp];exact sM 2 [[9,8,28,4,3,29,30]] [4,3,2,1,10,12] [(6,10),(8,12)] 13 (d _ _ _ _))<|sV fun f p=>sT (fun q=>yG EE 6 (dI f p _ 9 [3,4,6,8] wK) q)<|sE (by exact bN EE 13 (v:=.bO [.agg [.ai 9 0 f.1.length,aI f.2,.ai 10 0 e.length],aI 0]) kr (Fz.bw (Fz.aw (Fz.lN (sz:=7) (es:=(f.1.map aF)) kr (by first | (simp;done) | (simp;omega)) pl) (Fz.aw (.pure pv) (Fz.aw (Fz.lN (sz:=1) (es:=(e.map (az .i64))) kr (by first | (simp;done) | (simp;omega)) pl) (.pure pv)))) (.pure pv)))
def cv (a87:Term)(a88:Int)(a89:LI)(b:Int)(d:LI)(c:(List ad)):Option (Sum Int ((List ad)×Int)):=
 if decide (b<(a87.Kids.length:Int)) then(bP a87.Kids b>>=fun f=>bp f a88 a89 c>>=fun e=>if decide (d.length+[e.2].length≤1048576) then(if cw .i64 (b+1) then(cv a87 a88 a89 (b+1) (d++[e.2]) e.1) else none) else none) else(bP c ([(ad.mk a87.Op a87.N ([]:LI) (-1) ([]:LI) 0 ([]:LI))].length-1)>>=fun g=>bP c ([(ad.mk a87.Op a87.N ([]:LI) (-1) ([]:LI) 0 ([]:LI))].length-1)>>=fun a=>some (Sum.inr ((c.set (([(ad.mk a87.Op a87.N ([]:LI) (-1) ([]:LI) 0 ([]:LI))].length-1):Int).toNat (ad.mk a.Op a.N d a.To a.iV a.bY a.Env)),([(ad.mk a87.Op a87.N ([]:LI) (-1) ([]:LI) 0 ([]:LI))].length-1))))
 partial_fixpoint
variable {a87 : Term} {a88 : Int} {a89 : LI}
theorem nU : (∀ e c d,LJ Tryz.prog (cv a87 a88 a89 e c d) 2 (iu a88 a89) (qb a87 a88 a89 e c d)):=by
 refine cv.partial_correctness _ _ _ _ ?_
 exact fun cv b e c d=>sB 1 (sX 3 fun _=>sV fun j f=>sT (fun q=>yG EE 8 (da j f _ 10 [0,1,6] wK) q)<|sA 1 8 11 12<|sI 3<|I9 2 [[2,0,49,8,50,51,9]] [1,0,12,10] [(8,12),(6,10)] 13 (b _ _ _))<|sT (Uf EE 8 (fun S=>some (.val (.ai 8 0 c.length) S)) 8 (sz:=1) (len:=c.length) (es:=c.map (az .i64)) (fun S=>S) kr kr rfl (by simp) kr kr kr)<|sV fun _ g=>sT (bF EE 0 (fun S=>wS Tryz.prog S 148 (.ai 6 0 d.length) (aI ([(ad.mk a87.Op a87.N ([]:LI) (-1) ([]:LI) 0 ([]:LI))].length-1))) (fun S=>.val (.ptr 6 (0+(([(ad.mk a87.Op a87.N ([]:LI) (-1) ([]:LI) 0 ([]:LI))].length-1):Int).toNat) 0) S) kr kr (lD (xs:=d) (es:=d.map aF) (el:=310) (n:=7) g (by first | rfl | (simp;done) | omega | (simp;omega)) kr kr kr))<|sV fun a h=>sT (bF EE 1 (fun S=>Lb Tryz.prog S 45 (.ptr 6 (0+(([(ad.mk a87.Op a87.N ([]:LI) (-1) ([]:LI) 0 ([]:LI))].length-1):Int).toNat) 2) (aN c)) (fun S=>.skip (S.set 6 (.arr 7 ((d.set (([(ad.mk a87.Op a87.N ([]:LI) (-1) ([]:LI) 0 ([]:LI))].length-1):Int).toNat (ad.mk a.Op a.N c a.To a.iV a.bY a.Env)).map aF)))) kr kr (pq (n:=7) (m:=1) (enc:=aF) (xs:=d) (i:=([(ad.mk a87.Op a87.N ([]:LI) (-1) ([]:LI) 0 ([]:LI))].length-1)) (x' := (ad.mk a.Op a.N c a.To a.iV a.bY a.Env)) h kr (cs:=(AV.agg [aI a.Op,aI a.N,aN a.Refs,aI a.To,aN a.iV,aI a.bY,aN a.Env]).cells) rfl kr kr rfl))<|mg 5 (aI ([(ad.mk a87.Op a87.N ([]:LI) (-1) ([]:LI) 0 ([]:LI))].length-1)) [0,1,6] (hu:=uo (.arr 8 [.agg [.ai 6 0 d.length,aI a88,.an,.an,.an,.an,.an,.sc (.map none)]]) uT) (ha:=ua (.arr 7 ((d.set (([(ad.mk a87.Op a87.N ([]:LI) (-1) ([]:LI) 0 ([]:LI))].length-1):Int).toNat (ad.mk a.Op a.N c a.To a.iV a.bY a.Env)).map aF)) gK)
def iv (a87:Term)(a88:Int)(a89:LI):Option (Sum Int ((List ad)×Int)):=
 if decide (0<(a87.Kids.length:Int)) then(bP a87.Kids 0>>=fun c=>bp c a88 a89 [(ad.mk a87.Op a87.N ([]:LI) (-1) ([]:LI) 0 ([]:LI))]>>=fun b=>cv a87 a88 a89 1 [b.2] b.1) else(bP [(ad.mk a87.Op a87.N ([]:LI) (-1) ([]:LI) 0 ([]:LI))] ([(ad.mk a87.Op a87.N ([]:LI) (-1) ([]:LI) 0 ([]:LI))].length-1)>>=fun d=>bP [(ad.mk a87.Op a87.N ([]:LI) (-1) ([]:LI) 0 ([]:LI))] ([(ad.mk a87.Op a87.N ([]:LI) (-1) ([]:LI) 0 ([]:LI))].length-1)>>=fun a=>some (Sum.inr (([(ad.mk a87.Op a87.N ([]:LI) (-1) ([]:LI) 0 ([]:LI))].set (([(ad.mk a87.Op a87.N ([]:LI) (-1) ([]:LI) 0 ([]:LI))].length-1):Int).toNat (ad.mk a.Op a.N ([]:LI) a.To a.iV a.bY a.Env)),([(ad.mk a87.Op a87.N ([]:LI) (-1) ([]:LI) 0 ([]:LI))].length-1))))
theorem oQ : LJ Tryz.prog (iv a87 a88 a89) 2 (iu a88 a89) (ki a87 a88 a89):=
 sB 1 (sX 3 fun _=>sV fun e b=>sT (fun q=>yG EE 8 (da e b _ 6 [0,1,4] wK) q)<|wa 8 [[2,0,49,8,50,51,9]] [1,0,8,6] (nU _ _ _))<|sT (Fu EE 8 (fun S=>some (.val .an S)) [] kr kr kr (.inr ⟨rfl,.an,rfl,OA⟩))<|sV fun _ c=>sT (bF EE 0 (fun S=>wS Tryz.prog S 148 (.ai 4 0 [(ad.mk a87.Op a87.N ([]:LI) (-1) ([]:LI) 0 ([]:LI))].length) (aI ([(ad.mk a87.Op a87.N ([]:LI) (-1) ([]:LI) 0 ([]:LI))].length-1))) (fun S=>.val (.ptr 4 (0+(([(ad.mk a87.Op a87.N ([]:LI) (-1) ([]:LI) 0 ([]:LI))].length-1):Int).toNat) 0) S) kr kr (lD (xs:=[(ad.mk a87.Op a87.N ([]:LI) (-1) ([]:LI) 0 ([]:LI))]) (es:=[(ad.mk a87.Op a87.N ([]:LI) (-1) ([]:LI) 0 ([]:LI))].map aF) (el:=310) (n:=7) c (by first | rfl | (simp;done) | omega | (simp;omega)) kr kr kr))<|sV fun a d=>sT (bF EE 1 (fun S=>Lb Tryz.prog S 45 (.ptr 4 (0+(([(ad.mk a87.Op a87.N ([]:LI) (-1) ([]:LI) 0 ([]:LI))].length-1):Int).toNat) 2) (aN ([]:LI))) (fun S=>.skip (S.set 4 (.arr 7 (([(ad.mk a87.Op a87.N ([]:LI) (-1) ([]:LI) 0 ([]:LI))].set (([(ad.mk a87.Op a87.N ([]:LI) (-1) ([]:LI) 0 ([]:LI))].length-1):Int).toNat (ad.mk a.Op a.N ([]:LI) a.To a.iV a.bY a.Env)).map aF)))) kr kr (pq (n:=7) (m:=1) (enc:=aF) (xs:=[(ad.mk a87.Op a87.N ([]:LI) (-1) ([]:LI) 0 ([]:LI))]) (i:=([(ad.mk a87.Op a87.N ([]:LI) (-1) ([]:LI) 0 ([]:LI))].length-1)) (x' := (ad.mk a.Op a.N ([]:LI) a.To a.iV a.bY a.Env)) d kr (cs:=(AV.agg [aI a.Op,aI a.N,aN a.Refs,aI a.To,aN a.iV,aI a.bY,aN a.Env]).cells) rfl kr kr rfl))<|mg 5 (aI ([(ad.mk a87.Op a87.N ([]:LI) (-1) ([]:LI) 0 ([]:LI))].length-1)) [0,1,4] (hu:=uo (.arr 8 [.agg [.ai 4 0 [(ad.mk a87.Op a87.N ([]:LI) (-1) ([]:LI) 0 ([]:LI))].length,aI a88,.an,.an,.an,.an,.an,.sc (.map none)]]) uT) (ha:=ua (.arr 7 (([(ad.mk a87.Op a87.N ([]:LI) (-1) ([]:LI) 0 ([]:LI))].set (([(ad.mk a87.Op a87.N ([]:LI) (-1) ([]:LI) 0 ([]:LI))].length-1):Int).toNat (ad.mk a.Op a.N ([]:LI) a.To a.iV a.bY a.Env)).map aF)) gK)
def fR (a87:Term)(a88:Int)(a89:LI):Option (Sum Int ((List ad)×Int)):=
 if decide ((a87.Op:Int)=1) then(bP a89 a87.N>>=fun b=>bP a89 a87.N>>=fun a=>some (Sum.inl a)) else(if decide ((a87.Op:Int)=8) then none else(if decide ([(ad.mk a87.Op a87.N ([]:LI) (-1) ([]:LI) 0 ([]:LI))].length≤1048576) then(if cw .i64 ([(ad.mk a87.Op a87.N ([]:LI) (-1) ([]:LI) 0 ([]:LI))].length-1) then(iv a87 a88 a89) else none) else none))
theorem qe : LG Tryz.prog (fR a87 a88 a89) 120 2 (ir a87 a88 a89) (iu a88 a89):=
 P8 2 (sB 7 (sV fun _ b=>sT (bF EE 5 (fun S=>wS Tryz.prog S 45 (.ai 1 0 a89.length) (aI a87.N)) (fun S=>.val (.ptr 1 (0+(a87.N:Int).toNat) 0) S) kr kr (lD (xs:=a89) (es:=a89.map (az .i64)) (el:=3) (n:=1) b (by first | rfl | (simp;done) | omega | (simp;omega)) kr kr kr))<|sV fun a c=>sT (bF EE 0 (fun S=>WN Tryz.prog S 3 (.ptr 1 (0+(a87.N:Int).toNat) 0)) (fun S=>.val (aI a) S) kr kr (zw (n:=1) (enc:=(az .i64)) (xs:=a89) (i:=a87.N) c kr (cs:=(AV.agg [aI a]).cells) rfl kr kr))<|mg 3 (aI a) [0,1])<|sB 2 s0<|sG fun d=>sT (N7 EE 30 (fun S=>mN Tryz.prog S 148 148 (.an) (.ai 3 0 1)) (.ai 4 0 [(ad.mk a87.Op a87.N ([]:LI) (-1) ([]:LI) 0 ([]:LI))].length) (fun S=>S.add (.arr 7 ([(ad.mk a87.Op a87.N ([]:LI) (-1) ([]:LI) 0 ([]:LI))].map aF))) kr kr (FH (enc:=aF) (el:=310) (sz:=7) (ys:=[(ad.mk a87.Op a87.N ([]:LI) (-1) ([]:LI) 0 ([]:LI))]) (raw:=[.agg [aI a87.Op,aI a87.N,.an,aI (-1),.an,aI 0,.an]]) (.inl rfl) kr kr kr kr kr kr kr (by simp) d))<|sI 11<|sL 9 a87.Kids<|wa 2 [[2,0,49,8,50,51,9]] [1,0,4] oQ) (hb:=by rintro(y | y)<;>exact bd)
def vQ (a1:Term)(v401:(LI×Int)):Option (kb×Int):=
 if decide (0<(v401.1.length:Int)) then(bP v401.1 0>>=fun a=>if decide ([(ad.mk 1 0 ([]:LI) (-1) ([]:LI) 0 ([]:LI))].length≤1048576) then(if cw .i64 ([(ad.mk 1 0 ([]:LI) (-1) ([]:LI) 0 ([]:LI))].length-1) then(bP ([0,0,0,0,0,0,0,0,0,0,0,0,0,0,0,0,0,0,0,0]:LI) a>>=fun f=>bP ([0,0,0,0,0,0,0,0,0,0,0,0,0,0,0,0,0,0,0,0]:LI) a>>=fun g=>bP (([0,0,0,0,0,0,0,0,0,0,0,0,0,0,0,0,0,0,0,0]:LI).set (a:Int).toNat ([(ad.mk 1 0 ([]:LI) (-1) ([]:LI) 0 ([]:LI))].length-1)) a>>=fun h=>bP (([0,0,0,0,0,0,0,0,0,0,0,0,0,0,0,0,0,0,0,0]:LI).set (a:Int).toNat ([(ad.mk 1 0 ([]:LI) (-1) ([]:LI) 0 ([]:LI))].length-1)) a>>=fun c=>lV a1 v401 1 (([0,0,0,0,0,0,0,0,0,0,0,0,0,0,0,0,0,0,0,0]:LI).set (a:Int).toNat ([(ad.mk 1 0 ([]:LI) (-1) ([]:LI) 0 ([]:LI))].length-1)) [(ad.mk 1 0 ([]:LI) (-1) ([]:LI) 0 ([]:LI))] [c]) else none) else none) else(fR a1 0 [0,0,0,0,0,0,0,0,0,0,0,0,0,0,0,0,0,0,0,0]>>=fun d=>(match d with | (Sum.inl e)=>some ((kb.mk ([]:List ad) e ([]:LI)),0) | (Sum.inr b)=>some ((kb.mk b.1 b.2 ([]:LI)),0)))
theorem H9 {a1:Term}:LH Tryz.prog (vQ a1 v401) (fun r=>.bO [.agg [.lit (r.1.Qp.map aF),aI r.1.W8,aN r.1.bg],aI r.2]) (Dv a1 v401):=
 sB 1 (sX 3 fun a=>sG fun j=>sT (N7 EE 29 (fun S=>mN Tryz.prog S 148 148 (.an) (.ai 5 0 1)) (.ai 6 0 [(ad.mk 1 0 ([]:LI) (-1) ([]:LI) 0 ([]:LI))].length) (fun S=>S.add (.arr 7 ([(ad.mk 1 0 ([]:LI) (-1) ([]:LI) 0 ([]:LI))].map aF))) kr kr (FH (enc:=aF) (el:=310) (sz:=7) (ys:=[(ad.mk 1 0 ([]:LI) (-1) ([]:LI) 0 ([]:LI))]) (raw:=[.agg [aI 1,aI 0,.an,aI (-1),.an,aI 0,.an]]) (.inl rfl) kr kr kr kr kr kr kr (by simp) j))<|sI 11<|sV fun _ d=>sT (bF EE 3 (fun S=>wS Tryz.prog S 45 (.ai 4 0 20) (aI a)) (fun S=>.val (.ptr 4 (0+(a:Int).toNat) 0) S) kr kr (lD (xs:=([0,0,0,0,0,0,0,0,0,0,0,0,0,0,0,0,0,0,0,0]:LI)) (es:=([0,0,0,0,0,0,0,0,0,0,0,0,0,0,0,0,0,0,0,0]:LI).map (az .i64)) (el:=3) (n:=1) d (by first | rfl | (simp;done) | omega | (simp;omega)) kr kr kr))<|sV fun k e=>sT (bF EE 0 (fun S=>Lb Tryz.prog S 3 (.ptr 4 (0+(a:Int).toNat) 0) (aI ([(ad.mk 1 0 ([]:LI) (-1) ([]:LI) 0 ([]:LI))].length-1))) (fun S=>.skip (S.set 4 (.arr 1 ((([0,0,0,0,0,0,0,0,0,0,0,0,0,0,0,0,0,0,0,0]:LI).set (a:Int).toNat ([(ad.mk 1 0 ([]:LI) (-1) ([]:LI) 0 ([]:LI))].length-1)).map (az .i64))))) kr kr (pq (n:=1) (m:=1) (enc:=(az .i64)) (xs:=([0,0,0,0,0,0,0,0,0,0,0,0,0,0,0,0,0,0,0,0]:LI)) (i:=a) (x' := ([(ad.mk 1 0 ([]:LI) (-1) ([]:LI) 0 ([]:LI))].length-1)) e kr (cs:=(AV.agg [aI k]).cells) rfl kr kr rfl))<|sV fun _ f=>sT (lB EE 10 (fun S=>wS Tryz.prog S 45 (.ai 4 0 20) (aI a)) (fun S=>.val (.ptr 4 (0+(a:Int).toNat) 0) S) kr kr (lD (xs:=(([0,0,0,0,0,0,0,0,0,0,0,0,0,0,0,0,0,0,0,0]:LI).set (a:Int).toNat ([(ad.mk 1 0 ([]:LI) (-1) ([]:LI) 0 ([]:LI))].length-1))) (es:=(([0,0,0,0,0,0,0,0,0,0,0,0,0,0,0,0,0,0,0,0]:LI).set (a:Int).toNat ([(ad.mk 1 0 ([]:LI) (-1) ([]:LI) 0 ([]:LI))].length-1)).map (az .i64)) (el:=3) (n:=1) f (by first | rfl | (simp;done) | omega | (simp;omega)) kr kr kr))<|sV fun b g=>sT (lB EE 0 (fun S=>WN Tryz.prog S 3 (.ptr 4 (0+(a:Int).toNat) 0)) (fun S=>.val (aI b) S) kr kr (zw (n:=1) (enc:=(az .i64)) (xs:=(([0,0,0,0,0,0,0,0,0,0,0,0,0,0,0,0,0,0,0,0]:LI).set (a:Int).toNat ([(ad.mk 1 0 ([]:LI) (-1) ([]:LI) 0 ([]:LI))].length-1))) (i:=a) g kr (cs:=(AV.agg [aI b]).cells) rfl kr kr)) (fun r h=>by
  exact auq EE rq 12 [[9,8,28,4,3,29,30]] [4,3,2,1,6,8] [] 9 [[(9,.ai 4 0 20),(8,aP 3),(28,aN v401.1),(4,aP 2),(3,aP 1),(29,aI (v401.1.length:Int)),(30,aI 1)]] [(4,.arr 1 ((([0,0,0,0,0,0,0,0,0,0,0,0,0,0,0,0,0,0,0,0]:LI).set (a:Int).toNat ([(ad.mk 1 0 ([]:LI) (-1) ([]:LI) 0 ([]:LI))].length-1)).map (az .i64))),(3,.arr 8 [.agg [.ai 6 0 [(ad.mk 1 0 ([]:LI) (-1) ([]:LI) 0 ([]:LI))].length,aI 0,.ai 8 0 1,.an,.an,.an,.an,.sc (.map none)]]),(2,.arr 3 [.agg [.an,aI 0,.an]]),(1,.arr 3 [aK a1]),(6,.arr 7 ([(ad.mk 1 0 ([]:LI) (-1) ([]:LI) 0 ([]:LI))].map aF)),(8,oI b)] (GQ 1 (([0,0,0,0,0,0,0,0,0,0,0,0,0,0,0,0,0,0,0,0]:LI).set (a:Int).toNat ([(ad.mk 1 0 ([]:LI) (-1) ([]:LI) 0 ([]:LI))].length-1)) [(ad.mk 1 0 ([]:LI) (-1) ([]:LI) 0 ([]:LI))] [b] r h)))<|sQ 6 5 [3,4] qe fun v=>match v with | .inl l=>sE (by exact bN EE 13 (v:=.bO [.agg [.an,aI l,.an],aI 0]) kr (Fz.bw (Fz.aw (.an) (Fz.aw (.pure pv) (Fz.aw (.an) (.pure pv)))) (.pure pv))) | .inr c=>sE (by exact bN EE 13 (v:=.bO [.agg [.ai 5 0 c.1.length,aI c.2,.an],aI 0]) kr (Fz.bw (Fz.aw (Fz.lN (sz:=7) (es:=(c.1.map aF)) kr (by first | (simp;done) | (simp;omega)) pl) (Fz.aw (.pure pv) (Fz.aw (.an) (.pure pv)))) (.pure pv)))
def AZ (a0:bA)(a1:Term):Option (kb×Int):=
 yn a0 a1>>=fun a=>if a then(ml a0.Prog.cy a1>>=fun v401=>vQ a1 v401) else(some ((kb.mk ([]:List ad) 0 ([]:LI)),2))
theorem NJ {a0:bA}{a1:Term}:LF Tryz.prog (AZ a0 a1) 78 [.agg [aM a0.Prog.cy.Cons,aM a0.Prog.cy.bq,.lit (a0.Prog.aO.map ay),.lit (a0.bX.map au)],aK a1] (fun r=>.bO [.agg [.lit (r.1.Qp.map aF),aI r.1.W8,aN r.1.bg],aI r.2]):=
 sF<|fH 8 KW (sC 6 vW fun v401=>sL 14 v401.1<|sK 2 [[9,8,28,4,3,29,30]] [4,3,2,1] H9)<|sE (by exact bN EE 7 (v:=.bO [.agg [.an,aI 0,.an],aI 2]) kr (Fz.bw (Fz.aw (.an) (Fz.aw (.pure pv) (Fz.aw (.an) (.pure pv)))) (.pure pv)))
noncomputable def CO : St:=sN 2 (ak (aI 0) none (sN 8 (St.start T0 35 [.agg [aI 0,aI 0,.lit []]] ag.empty)))
noncomputable def ve := fun a0=>fV CO 2 fun o=>([[(7,aT a0.Kids),(2,aP (o 1)),(1,aP (o 0)),(8,aI (a0.Kids.length:Int)),(9,aI 0),(3,.an)]],[((o 1),.arr 3 [.agg [aI 0,aI 0,.an]]),((o 0),.arr 3 [aK a0])])
noncomputable def CP : St:=sN 6 (eC (fun S=>.val (.ai 4 0 0) (S.add (.arr 3 []))) (sN 1 (ak (.agg [aI 0,aI 0,.lit []]) none (sN 6 (ak (.dN [aI 0,aI 0,.lit []]) none (sN 3 (ak (aB true) none (sN 1 (ve dd)))))))))
noncomputable def CQ := fun a0 a wL=>fV CP 5 fun o=>([[(7,aT a0.Kids),(2,aP (o 1)),(1,aP (o 0)),(8,aI (a0.Kids.length:Int)),(9,aI a),(3,.ai (o 4) 0 wL.length)]],[((o 1),.arr 3 [.agg [aI 0,aI 0,.an]]),((o 0),.arr 3 [aK a0]),((o 4),oT wL)])
mutual
def gC (a0:Term)(a:Int)(wL:LT):Option (Term):=
 if decide (a<(a0.Kids.length:Int)) then(bP a0.Kids a>>=fun c=>cX c>>=fun b=>if decide (wL.length+[b].length≤1048576) then(if cw .i64 (a+1) then(gC a0 (a+1) (wL++[b])) else none) else none) else(some (Term.mk a0.Op a0.N wL))
 partial_fixpoint
def cX (a0:Term):Option (Term):=
 ld a0
 partial_fixpoint
def ld (a0:Term):Option (Term):=
 if decide (0<(a0.Kids.length:Int)) then(bP a0.Kids 0>>=fun b=>cX b>>=fun a=>if decide ([a].length≤1048576) then(gC a0 1 [a]) else none) else(some (Term.mk a0.Op a0.N ([]:LT)))
 partial_fixpoint
end
theorem yN  : (∀ a0 c wL,LH Tryz.prog (gC a0 c wL) aK (CQ a0 c wL))∧(∀ a0,LF Tryz.prog (cX a0) 35 [aK a0] aK)∧(∀ a0,LH Tryz.prog (ld a0) aK (ve a0)):=by
 refine gC.mutual_partial_correctness _ _ _ ?_ ?_ ?_
 · exact fun gC cX a ed a0 c wL=>sB 1 (sX 3 fun _=>sC 6 (ed _) fun _=>sA 1 4 6 7 (hs:=Ll)<|sI 3<|sM 2 [[7,2,1,8,9,3]] [1,0,7] [(4,7)] 8 (a _ _ _))<|sE (by exact bN EE 10 (v:=.agg [aI a0.Op,aI a0.N,.ai 4 0 wL.length]) kr (Fz.aw (.pure pv) (Fz.aw (.pure pv) (Fz.aw (Fz.lN (sz:=3) (es:=(wL.map cH)) kr (by simp) pl) (.pure pv)))))
 · exact fun ld b a0=>sF<|sL 8 a0.Kids<|sK 2 [[7,2,1,8,9,3]] [1,0] (b _)
 · exact fun gC cX a ed a0=>sB 1 (sX 3 fun _=>sC 6 (ed _) fun _=>afE 1 3 4 (hs:=Ll)<|sK 6 [[7,2,1,8,9,3]] [1,0,4] (a _ _ _))<|sE (by exact bN EE 10 (v:=.agg [aI a0.Op,aI a0.N,.an]) kr (Fz.aw (.pure pv) (Fz.aw (.pure pv) (Fz.aw (.an) (.pure pv)))))
theorem ed {a0:Term}:LF Tryz.prog (cX a0) 35 [aK a0] aK:=yN.2.1 _
noncomputable def GR : St:=sN 2 (ak (aI 0) none (sN 12 (ak (aB false) none (sN 0 (ak (aI 0) none (sN 9 (ak (aB true) none (sN 3 (ak (.dN [.sc (.string ⟨#[]⟩),aI 0]) none (sN 18 (ak (aB true) none (sN 0 (ak (aI 0) none (sN 17 (ak (aB true) none (sN 14 (ak (aB true) none (sN 3 (ak (.dN [.sc (.string ⟨#[]⟩),aI 0]) none (sN 18 (ak (aB true) none (sN 0 (ak (aI 0) none (sN 17 (ak (aB true) none (sN 42 (ak (aB false) none (sN 0 (ak (aI 0) none (sN 33 (St.start T0 7 [.agg [.lit [],.lit [],.lit [],.lit []],.agg [aI 0,aI 0,.lit []],aI 0] ag.empty)))))))))))))))))))))))))))))))
noncomputable def xI := fun(a0:bA) (a1:aj) a2 a (b:(List (Int×Bool)))=>fV GR 16 fun o=>([[(2,aP (o 9)),(5,.cQ (o 15)),(30,.lit (a1.Steps.map ar)),(3,aP (o 10)),(31,aI (a1.Steps.length:Int)),(32,aI a)],[(3,aP (o 4)),(1,aP (o 1)),(2,aP (o 2)),(4,aP (o 8))],[(2,aP (o 5))],[(6,aP (o 3)),(8,aP (o 4))]],[((o 9),oP (o 7)),((o 15),.mp (b.map (cg (az .i64) gv))),((o 10),.arr 3 [.agg [aI a1.Nil,aI a1.Cons,.lit (a1.Steps.map ar)]]),((o 4),.arr 3 [.agg [aI a1.Nil,aI a1.Cons,.an]]),((o 1),.arr 3 [.agg [aI a1.Nil,aI a1.Cons,.lit (a1.Steps.map ar)]]),((o 2),oI a2),((o 8),oP (o 7)),((o 5),oI 0),((o 3),.arr 3 [.agg [aI 0,aI 0,.an]]),((o 7),.arr 9 [.agg [aM a0.Prog.cy.Cons,aM a0.Prog.cy.bq,.lit (a0.Prog.aO.map ay),.lit (a0.bX.map au),aI 0,aI 0,.an,aI 0,aI 0]])])
noncomputable def GS : St:=sN 2 (ak (aI 0) none (sN 10 (ak (aB false) none (sN 11 (ak (.bO [.lit [],aI 0]) none (sN 25 (ak (.dN [aI 0,aI 0,aI 0,aI 0,.lit []]) none (sN 4 (ak (.dN [aI 0,aI 0,aI 0,aI 0,.lit []]) none (sN 0 (ak (aI 0) none (sN 13 (ak (aB false) none (sN 11 (ak (.bO [.lit [],aI 0]) none (sN 25 (ak (.dN [aI 0,aI 0,aI 0,aI 0,.lit []]) none (sN 0 (ak (aI 0) none (sN 4 (ak (.dN [aI 0,aI 0,aI 0,aI 0,.lit []]) none (sN 15 (ak (aB false) none (sN 0 (ak (aI 0) none (sN 0 (ak (aI 0) none (sN 4 (ak (aB false) none (sN 11 (ak (aB false) none (sN 1 (dz xI)))))))))))))))))))))))))))))))))
noncomputable def xJ := fun(a1:aj) a2=>fV GS 22 fun o=>([[(3,aP (o 4)),(1,aP (o 1)),(2,aP (o 2)),(54,aI (a1.Steps.length:Int)),(55,aI 0)],[(2,aP (o 5))],[(6,aP (o 3)),(8,aP (o 4))]],[((o 4),.arr 3 [.agg [aI a1.Nil,aI a1.Cons,.an]]),((o 1),.arr 3 [.agg [aI a1.Nil,aI a1.Cons,.lit (a1.Steps.map ar)]]),((o 2),oI a2),((o 5),oI 0),((o 3),.arr 3 [.agg [aI 0,aI 0,.an]])])
noncomputable def GU : St:=sN 15 (ak (.agg [aI 0,aI 0,.lit []]) none (sN 6 (ak (.dN [aI 0,aI 0,aI 0,aI 0,.lit []]) none (sN 5 (ak (aI 0) none (sN 3 (ak (aB true) none (sN 12 (ak (aB true) none (sN 1 (dz xJ)))))))))))
noncomputable def GV := fun(a1:aj) a2 b (a:(List aA))=>fV GU 25 fun o=>([[(3,aP (o 4)),(1,aP (o 1)),(2,aP (o 2)),(54,aI (a1.Steps.length:Int)),(55,aI b)],[(2,aP (o 5))],[(6,aP (o 3)),(8,aP (o 4))]],[((o 4),.arr 3 [.agg [aI a1.Nil,aI a1.Cons,.ai (o 24) 0 a.length]]),((o 1),.arr 3 [.agg [aI a1.Nil,aI a1.Cons,.lit (a1.Steps.map ar)]]),((o 2),oI a2),((o 5),oI 0),((o 3),.arr 3 [.agg [aI 0,aI 0,.an]]),((o 24),.arr 5 (a.map ar))])
def eK (a1:aj)(a2 a:Int)(b:(List aA)):Option (aj×Int):=
 if decide (a<(a1.Steps.length:Int)) then(if decide (a=a2) then(if cw .i64 (a2+1) then(bP a1.Steps (a2+1)>>=fun c=>cX c.Expr>>=fun f=>if decide (b.length+[(aA.mk c.Op c.Var f)].length≤1048576) then(if cw .i64 (a+1) then(eK a1 a2 (a+1) (b++[(aA.mk c.Op c.Var f)])) else none) else none) else none) else(if cw .i64 (a2+1) then(if decide (a=(a2+1)) then(bP a1.Steps a2>>=fun d=>cX d.Expr>>=fun g=>if decide (b.length+[(aA.mk d.Op d.Var g)].length≤1048576) then(if cw .i64 (a+1) then(eK a1 a2 (a+1) (b++[(aA.mk d.Op d.Var g)])) else none) else none) else(bP a1.Steps a>>=fun e=>cX e.Expr>>=fun h=>if decide (b.length+[(aA.mk e.Op e.Var h)].length≤1048576) then(if cw .i64 (a+1) then(eK a1 a2 (a+1) (b++[(aA.mk e.Op e.Var h)])) else none) else none)) else none)) else(some ((aj.mk a1.Nil a1.Cons b),0))
 partial_fixpoint
theorem oE {a1:aj}:(∀ f b,LH Tryz.prog (eK a1 a2 f b) (fun r=>.bO [.agg [aI r.1.Nil,aI r.1.Cons,.lit (r.1.Steps.map ar)],aI r.2]) (GV a1 a2 f b)):=by
 refine eK.partial_correctness _ _ _ ?_
 exact fun eK a f b=>sB 1 (sB 12 (sI 3<|DC 5 31 56 cB fun c _=>sC 6 ed fun g=>sG fun j=>sT (bF EE 7 (fun S=>mN Tryz.prog S 31 31 (.ai 24 0 b.length) (.ai 26 0 1)) (fun S=>.val (.ai 27 0 (b++[(aA.mk c.Op c.Var g)]).length) ((S.del 24).add (.arr 5 ((b++[(aA.mk c.Op c.Var g)]).map ar)))) kr kr (n7 (enc:=ar) (el:=56) (sz:=5) (xs:=b) (ys:=[(aA.mk c.Op c.Var g)]) kr kr (fun _=>rfl) (fun _=>by kernel_rfl) kr (bC _ (.inr ⟨26,5,rfl,by kernel_rfl⟩)) (by first | rfl | (simp;done) | omega | (simp;omega)) kr kr kr (by simp) j))<|sI 4<|sM 2 [[3,1,2,54,55],[2],[6,8]] [4,1,2,5,3,27] [(24,27)] 28 (a _ _))<|sI 3<|sB 0 (DC 8 31 56 cB fun d _=>sC 6 ed fun h=>sG fun k=>sT (bF EE 7 (fun S=>mN Tryz.prog S 31 31 (.ai 24 0 b.length) (.ai 26 0 1)) (fun S=>.val (.ai 27 0 (b++[(aA.mk d.Op d.Var h)]).length) ((S.del 24).add (.arr 5 ((b++[(aA.mk d.Op d.Var h)]).map ar)))) kr kr (n7 (enc:=ar) (el:=56) (sz:=5) (xs:=b) (ys:=[(aA.mk d.Op d.Var h)]) kr kr (fun _=>rfl) (fun _=>by kernel_rfl) kr (bC _ (.inr ⟨26,5,rfl,by kernel_rfl⟩)) (by first | rfl | (simp;done) | omega | (simp;omega)) kr kr kr (by simp) k))<|sI 4<|sM 2 [[3,1,2,54,55],[2],[6,8]] [4,1,2,5,3,27] [(24,27)] 28 (a _ _))<|DC 5 31 56 cB fun e _=>sC 6 ed fun i=>sG fun l=>sT (bF EE 7 (fun S=>mN Tryz.prog S 31 31 (.ai 24 0 b.length) (.ai 26 0 1)) (fun S=>.val (.ai 27 0 (b++[(aA.mk e.Op e.Var i)]).length) ((S.del 24).add (.arr 5 ((b++[(aA.mk e.Op e.Var i)]).map ar)))) kr kr (n7 (enc:=ar) (el:=56) (sz:=5) (xs:=b) (ys:=[(aA.mk e.Op e.Var i)]) kr kr (fun _=>rfl) (fun _=>by kernel_rfl) kr (bC _ (.inr ⟨26,5,rfl,by kernel_rfl⟩)) (by first | rfl | (simp;done) | omega | (simp;omega)) kr kr kr (by simp) l))<|sI 4<|sM 2 [[3,1,2,54,55],[2],[6,8]] [4,1,2,5,3,27] [(24,27)] 28 (a _ _))<|sE (by exact bN EE 26 (v:=.bO [.agg [aI a1.Nil,aI a1.Cons,.ai 24 0 b.length],aI 0]) kr (Fz.bw (Fz.aw (.pure pv) (Fz.aw (.pure pv) (Fz.aw (Fz.lN (sz:=5) (es:=(b.map ar)) kr (by first | (simp;done) | (simp;omega)) pl) (.pure pv)))) (.pure pv)))
def lA (a1:aj)(a2:Int):Option (aj×Int):=
 if decide (0<(a1.Steps.length:Int)) then(if decide (0=a2) then(if cw .i64 (a2+1) then(bP a1.Steps (a2+1)>>=fun a=>cX a.Expr>>=fun d=>eK a1 a2 1 [(aA.mk a.Op a.Var d)]) else none) else(if cw .i64 (a2+1) then(if decide (0=(a2+1)) then(bP a1.Steps a2>>=fun b=>cX b.Expr>>=fun e=>eK a1 a2 1 [(aA.mk b.Op b.Var e)]) else(bP a1.Steps 0>>=fun c=>cX c.Expr>>=fun f=>eK a1 a2 1 [(aA.mk c.Op c.Var f)])) else none)) else(some ((aj.mk a1.Nil a1.Cons ([]:List aA)),0))
theorem CR {a1:aj}:LH Tryz.prog (lA a1 a2) (fun r=>.bO [.agg [aI r.1.Nil,aI r.1.Cons,.lit (r.1.Steps.map ar)],aI r.2]) (xJ a1 a2):=
 sB 1 (sB 12 (sI 3<|DC 5 31 56 cB fun a _=>sC 6 ed fun _=>sK 15 [[3,1,2,54,55],[2],[6,8]] [4,1,2,5,3,24] (oE _ _))<|sI 3<|sB 0 (DC 8 31 56 cB fun b _=>sC 6 ed fun _=>sK 15 [[3,1,2,54,55],[2],[6,8]] [4,1,2,5,3,24] (oE _ _))<|DC 5 31 56 cB fun c _=>sC 6 ed fun _=>sK 15 [[3,1,2,54,55],[2],[6,8]] [4,1,2,5,3,24] (oE _ _))<|sE (by exact bN EE 26 (v:=.bO [.agg [aI a1.Nil,aI a1.Cons,.an],aI 0]) kr (Fz.bw (Fz.aw (.pure pv) (Fz.aw (.pure pv) (Fz.aw (.an) (.pure pv)))) (.pure pv)))
def dM (a0:bA)(a1:aj)(a2 b:Int)(c:(List (Int×Bool))):Option (aj×Int):=
 if decide (b<(a1.Steps.length:Int)) then(bP a1.Steps b>>=fun a=>if decide ((a.Var:Int)<0) then(some ((aj.mk 0 0 ([]:List aA)),2)) else(if decide ((a.Var:Int)≥20) then(some ((aj.mk 0 0 ([]:List aA)),2)) else(if((iO c a.Var).getD false) then(some ((aj.mk 0 0 ([]:List aA)),2)) else(if decide ((a.Op:Int)<1) then(some ((aj.mk 0 0 ([]:List aA)),2)) else(if decide ((a.Op:Int)>5) then(some ((aj.mk 0 0 ([]:List aA)),2)) else(AZ a0 a.Expr>>=fun d=>if(!decide ((d.2:Int)=0)) then(some ((aj.mk 0 0 ([]:List aA)),2)) else(if cw .i64 (b+1) then(dM a0 a1 a2 (b+1) (ko c a.Var true)) else none))))))) else(if decide (a2<0) then(some ((aj.mk 0 0 ([]:List aA)),2)) else(if cw .i64 ((a1.Steps.length:Int)-1) then(if decide (a2≥((a1.Steps.length:Int)-1)) then(some ((aj.mk 0 0 ([]:List aA)),2)) else(bP a1.Steps a2>>=fun e=>if cw .i64 (a2+1) then(bP a1.Steps (a2+1)>>=fun f=>ml a0.Prog.cy f.Expr>>=fun Jl=>cJ Jl.1 e.Var>>=fun g=>if g then(some ((aj.mk 0 0 ([]:List aA)),7)) else(if cw .i64 (a2+1) then(bP a1.Steps (a2+1)>>=fun h=>bP a1.Steps a2>>=fun i=>ml a0.Prog.cy i.Expr>>=fun j=>cJ j.1 h.Var>>=fun k=>if k then(some ((aj.mk 0 0 ([]:List aA)),7)) else(lA a1 a2)) else none)) else none)) else none))
 partial_fixpoint
theorem BF {a0:bA}{a1:aj}:(∀ c b,LH Tryz.prog (dM a0 a1 a2 c b) (fun r=>.bO [.agg [aI r.1.Nil,aI r.1.Cons,.lit (r.1.Steps.map ar)],aI r.2]) (xI a0 a1 a2 c b)):=by
 refine dM.partial_correctness _ _ _ _ ?_
 exact fun dM a c b=>sB 1 (DC 3 31 56 cB fun d _=>sB 6 (sE (by exact bN EE 62 (v:=.bO [.agg [aI 0,aI 0,.an],aI 2]) kr (Fz.bw (Fz.aw (.pure pv) (Fz.aw (.pure pv) (Fz.aw (.an) (.pure pv)))) (.pure pv))))<|sB 3 (sE (by exact bN EE 58 (v:=.bO [.agg [aI 0,aI 0,.an],aI 2]) kr (Fz.bw (Fz.aw (.pure pv) (Fz.aw (.pure pv) (Fz.aw (.an) (.pure pv)))) (.pure pv))))<|akO 5 121 15 (sE (by exact bN EE 52 (v:=.bO [.agg [aI 0,aI 0,.an],aI 2]) kr (Fz.bw (Fz.aw (.pure pv) (Fz.aw (.pure pv) (Fz.aw (.an) (.pure pv)))) (.pure pv))))<|sB 4 (sE (by exact bN EE 47 (v:=.bO [.agg [aI 0,aI 0,.an],aI 2]) kr (Fz.bw (Fz.aw (.pure pv) (Fz.aw (.pure pv) (Fz.aw (.an) (.pure pv)))) (.pure pv))))<|sB 4 (sE (by exact bN EE 42 (v:=.bO [.agg [aI 0,aI 0,.an],aI 2]) kr (Fz.bw (Fz.aw (.pure pv) (Fz.aw (.pure pv) (Fz.aw (.an) (.pure pv)))) (.pure pv))))<|afC 10 121 15 b d.Var true<|sC 14 NJ fun _=>sB 9 (sE (by exact bN EE 42 (v:=.bO [.agg [aI 0,aI 0,.an],aI 2]) kr (Fz.bw (Fz.aw (.pure pv) (Fz.aw (.pure pv) (Fz.aw (.an) (.pure pv)))) (.pure pv))))<|sI 9<|sM 2 [[2,5,30,3,31,32],[3,1,2,4],[2],[6,8]] [9,15,10,4,1,2,8,5,3,7] [] 19 (a _ _))<|sB 11 (sE (by exact bN EE 48 (v:=.bO [.agg [aI 0,aI 0,.an],aI 2]) kr (Fz.bw (Fz.aw (.pure pv) (Fz.aw (.pure pv) (Fz.aw (.an) (.pure pv)))) (.pure pv))))<|sL 4 a1.Steps<|sI 0<|sB 0 (sE (by exact bN EE 41 (v:=.bO [.agg [aI 0,aI 0,.an],aI 2]) kr (Fz.bw (Fz.aw (.pure pv) (Fz.aw (.pure pv) (Fz.aw (.an) (.pure pv)))) (.pure pv))))<|DC 15 31 56 cB fun e _=>sI 4<|DC 0 31 56 cB fun f _=>sC 25 vW fun _=>fH 11 fP (sE (by exact bN EE 41 (v:=.bO [.agg [aI 0,aI 0,.an],aI 7]) kr (Fz.bw (Fz.aw (.pure pv) (Fz.aw (.pure pv) (Fz.aw (.an) (.pure pv)))) (.pure pv))))<|sI 13<|DC 0 31 56 cB fun g _=>DC 4 31 56 cB fun h _=>sC 25 vW fun _=>fH 11 fP (sE (by exact bN EE 41 (v:=.bO [.agg [aI 0,aI 0,.an],aI 7]) kr (Fz.bw (Fz.aw (.pure pv) (Fz.aw (.pure pv) (Fz.aw (.an) (.pure pv)))) (.pure pv))))<|sL 10 a1.Steps<|sK 2 [[3,1,2,54,55],[2],[6,8]] [4,1,2,5,3] CR
def qP (a0:bA)(a1:aj)(a2:Int):Option (aj×Int):=
 kS a0>>=fun a=>if(!decide (a=0)) then(some ((aj.mk 0 0 ([]:List aA)),2)) else(if decide ((a1.Nil:Int)≥0) then(if decide ((a1.Nil:Int)<(a0.Prog.cy.Cons.length:Int)) then(bP a0.Prog.cy.Cons a1.Nil>>=fun b=>if decide ((b.bu:Int)=0) then(if decide ((a1.Cons:Int)≥0) then(if decide ((a1.Cons:Int)<(a0.Prog.cy.Cons.length:Int)) then(bP a0.Prog.cy.Cons a1.Cons>>=fun c=>if decide ((c.bu:Int)=2) then(if decide ((a1.Steps.length:Int)>6) then(some ((aj.mk 0 0 ([]:List aA)),2)) else(dM a0 a1 a2 0 [])) else(some ((aj.mk 0 0 ([]:List aA)),2))) else(some ((aj.mk 0 0 ([]:List aA)),2))) else(some ((aj.mk 0 0 ([]:List aA)),2))) else(some ((aj.mk 0 0 ([]:List aA)),2))) else(some ((aj.mk 0 0 ([]:List aA)),2))) else(some ((aj.mk 0 0 ([]:List aA)),2)))
theorem GW {a0:bA}{a1:aj}:LF Tryz.prog (qP a0 a1 a2) 7 [.agg [aM a0.Prog.cy.Cons,aM a0.Prog.cy.bq,.lit (a0.Prog.aO.map ay),.lit (a0.bX.map au)],.agg [aI a1.Nil,aI a1.Cons,.lit (a1.Steps.map ar)],aI a2] (fun r=>.bO [.agg [aI r.1.Nil,aI r.1.Cons,.lit (r.1.Steps.map ar)],aI r.2]):=
 sF<|sC 33 y7 fun _=>sB 0 (sE (by exact bN EE 49 (v:=.bO [.agg [aI 0,aI 0,.an],aI 2]) kr (Fz.bw (Fz.aw (.pure pv) (Fz.aw (.pure pv) (Fz.aw (.an) (.pure pv)))) (.pure pv))))<|sB 42 (sL 17 a0.Prog.cy.Cons<|sB 0 (sX 18 fun _=>sB 3 (sB 14 (sL 17 a0.Prog.cy.Cons<|sB 0 (sX 18 fun _=>sB 3 (sL 9 a1.Steps<|sB 0 (sE (by exact bN EE 42 (v:=.bO [.agg [aI 0,aI 0,.an],aI 2]) kr (Fz.bw (Fz.aw (.pure pv) (Fz.aw (.pure pv) (Fz.aw (.an) (.pure pv)))) (.pure pv))))<|sL 12 a1.Steps<|sK 2 [[2,5,30,3,31,32],[3,1,2,4],[2],[6,8]] [9,15,10,4,1,2,8,5,3,7] (BF _ _))<|sE (by exact bN EE 53 (v:=.bO [.agg [aI 0,aI 0,.an],aI 2]) kr (Fz.bw (Fz.aw (.pure pv) (Fz.aw (.pure pv) (Fz.aw (.an) (.pure pv)))) (.pure pv))))<|sE (by exact bN EE 64 (v:=.bO [.agg [aI 0,aI 0,.an],aI 2]) kr (Fz.bw (Fz.aw (.pure pv) (Fz.aw (.pure pv) (Fz.aw (.an) (.pure pv)))) (.pure pv))))<|sE (by exact bN EE 71 (v:=.bO [.agg [aI 0,aI 0,.an],aI 2]) kr (Fz.bw (Fz.aw (.pure pv) (Fz.aw (.pure pv) (Fz.aw (.an) (.pure pv)))) (.pure pv))))<|sE (by exact bN EE 59 (v:=.bO [.agg [aI 0,aI 0,.an],aI 2]) kr (Fz.bw (Fz.aw (.pure pv) (Fz.aw (.pure pv) (Fz.aw (.an) (.pure pv)))) (.pure pv))))<|sE (by exact bN EE 70 (v:=.bO [.agg [aI 0,aI 0,.an],aI 2]) kr (Fz.bw (Fz.aw (.pure pv) (Fz.aw (.pure pv) (Fz.aw (.an) (.pure pv)))) (.pure pv))))<|sE (by exact bN EE 77 (v:=.bO [.agg [aI 0,aI 0,.an],aI 2]) kr (Fz.bw (Fz.aw (.pure pv) (Fz.aw (.pure pv) (Fz.aw (.an) (.pure pv)))) (.pure pv)))
end
end Go.Eng

/- Functions of the program lifted to data, each with its contract; no conditions. -/
import Derived.Test.YthplmmeobggkfaaGreatVLcA
import Derived.KernelRfl
set_option linter.all false
namespace Go.Eng
open Go.Proofs
set_option synthInstance.maxSize 100000
set_option synthInstance.maxHeartbeats 400000
set_option maxRecDepth 100000
noncomputable section
noncomputable def Kf : St:=sN 4 (ak (aI 0) none (sN 3 (ak (aB false) none (sN 2 (ak (aB false) none (sN 5 (St.start T0 41 [.agg [aI 0,aI 0,.lit [],.lit [],aI 0,.lit []],aI 0,aI 0] ag.empty)))))))
noncomputable def A6 := fun(a0:af) a2 a b=>fV Kf 1 fun o=>([[(2,aI a2),(3,aP (o 0)),(7,aI a),(1,aI b)]],[((o 0),.arr 6 [.agg [aI a0.Op,aI a0.Var,.lit (a0.bl.map aZ),.lit (a0.Kids.map au),aI a0.bY,aN a0.bg]])])
noncomputable def Kg : St:=sN 4 (ak (aB false) none (sN 2 (ak (aB true) none (sN 0 (ak (aI 0) none (sN 4 (dz A6)))))))
noncomputable def Kh := fun(a0:af) a2 a b=>fV Kg 1 fun o=>([[(2,aI a2),(3,aP (o 0)),(8,aI a),(1,aI b)]],[((o 0),.arr 6 [.agg [aI a0.Op,aI a0.Var,.lit (a0.bl.map aZ),.lit (a0.Kids.map au),aI a0.bY,aN a0.bg]])])
mutual
def gA (a0:af)(a2 a b:Int):Option (Int):=
 if decide (a<(a0.bl.length:Int)) then(if decide (b≥0) then(bP a0.bl a>>=fun c=>if cw .i64 (a2-1) then(ll c.fb b (a2-1)>>=fun d=>if cw .i64 (a+1) then(gA a0 a2 (a+1) d) else none) else none) else(some b)) else(some b)
 partial_fixpoint
def ll (a0:af)(a1 a2:Int):Option (Int):=
 if decide (a1<1) then(some (-1)) else(if decide (a2<1) then(some (-1)) else(if cw .i64 (a1-1) then(jy a0 a2 0 (a1-1)) else none))
 partial_fixpoint
def jy (a0:af)(a2 a b:Int):Option (Int):=
 if decide (a<(a0.Kids.length:Int)) then(if decide (b≥0) then(bP a0.Kids a>>=fun c=>if cw .i64 (a2-1) then(ll c b (a2-1)>>=fun d=>if cw .i64 (a+1) then(jy a0 a2 (a+1) d) else none) else none) else(gA a0 a2 0 b)) else(gA a0 a2 0 b)
 partial_fixpoint
end
theorem DV  : (∀ a0 a2 c d,LH Tryz.prog (gA a0 a2 c d) aI (Kh a0 a2 c d))∧(∀ a0 a1 a2,LF Tryz.prog (ll a0 a1 a2) 41 [.agg [aI a0.Op,aI a0.Var,.lit (a0.bl.map aZ),.lit (a0.Kids.map au),aI a0.bY,aN a0.bg],aI a1,aI a2] aI)∧(∀ a0 a2 e f,LH Tryz.prog (jy a0 a2 e f) aI (A6 a0 a2 e f)):=by
 refine gA.mutual_partial_correctness _ _ _ ?_ ?_ ?_
 · exact fun gA ll a mn a0 a2 c d=>sL 4 a0.bl<|sB 0 (sB 2 (sX 6 fun _=>sI 4<|sC 0 (mn _ _ _) fun _=>sI 4<|sK 2 [[2,3,8,1]] [0] (a _ _ _ _))<|sR 6)<|sR 9
 · exact fun jy b a0 a1 a2=>sF<|sB 5 (sR 8)<|sB 2 (sR 5)<|sI 3<|sK 4 [[2,3,7,1]] [0] (b _ _ _ _)
 · exact fun gA ll jy a mn b a0 a2 e f=>sL 4 a0.Kids<|sB 0 (sB 2 (sX 6 fun _=>sI 3<|sC 0 (mn _ _ _) fun _=>sI 4<|sK 2 [[2,3,7,1]] [0] (b _ _ _ _))<|sK 4 [[2,3,8,1]] [0] (a _ _ _ _))<|sK 7 [[2,3,8,1]] [0] (a _ _ _ _)
variable {a1 a2 : Int}
theorem mn {a0:af}:LF Tryz.prog (ll a0 a1 a2) 41 [.agg [aI a0.Op,aI a0.Var,.lit (a0.bl.map aZ),.lit (a0.Kids.map au),aI a0.bY,aN a0.bg],aI a1,aI a2] aI:=DV.2.1 _ _ _
noncomputable def Ki : St:=sN 3 (ak (aB false) none (sN 0 (ak (aI 0) none (sN 6 (St.start T0 42 [.agg [aI 0,aI 0,.lit [],.lit [],aI 0,.lit []]] ag.empty)))))
noncomputable def A7 := fun(a0:af) a=>fV Ki 1 fun o=>([[(1,aP (o 0)),(3,aI a)]],[((o 0),.arr 6 [.agg [aI a0.Op,aI a0.Var,.lit (a0.bl.map aZ),.lit (a0.Kids.map au),aI a0.bY,aN a0.bg]])])
noncomputable def Kj : St:=sN 3 (ak (aB false) none (sN 0 (ak (aI 0) none (sN 4 (dz A7)))))
noncomputable def Kk := fun(a0:af) a=>fV Kj 1 fun o=>([[(1,aP (o 0)),(4,aI a)]],[((o 0),.arr 6 [.agg [aI a0.Op,aI a0.Var,.lit (a0.bl.map aZ),.lit (a0.Kids.map au),aI a0.bY,aN a0.bg]])])
mutual
def jz (a0:af)(a:Int):Option (Bool):=
 if decide (a<(a0.Kids.length:Int)) then(bP a0.Kids a>>=fun b=>lr b>>=fun v46=>if v46 then(if cw .i64 (a+1) then(jz a0 (a+1)) else none) else(some false)) else(some true)
 partial_fixpoint
def lr (a0:af):Option (Bool):=
 if decide ((a0.bg.length:Int)>30) then(some false) else(jA a0 0)
 partial_fixpoint
def jA (a0:af)(a:Int):Option (Bool):=
 if decide (a<(a0.bl.length:Int)) then(bP a0.bl a>>=fun b=>if decide ((b.bg.length:Int)>10) then(some false) else(bP a0.bl a>>=fun c=>lr c.fb>>=fun d=>if d then(if cw .i64 (a+1) then(jA a0 (a+1)) else none) else(some false))) else(jz a0 0)
 partial_fixpoint
end
theorem DW  : (∀ a0 c,LH Tryz.prog (jz a0 c) aB (Kk a0 c))∧(∀ a0,LF Tryz.prog (lr a0) 42 [.agg [aI a0.Op,aI a0.Var,.lit (a0.bl.map aZ),.lit (a0.Kids.map au),aI a0.bY,aN a0.bg]] aB)∧(∀ a0 d,LH Tryz.prog (jA a0 d) aB (A7 a0 d)):=by
 refine jz.mutual_partial_correctness _ _ _ ?_ ?_ ?_
 · exact fun jz lr a oh a0 c=>sL 4 a0.Kids<|sB 0 (sX 5 fun _=>fH 1 (oh _) (sI 4<|sK 2 [[1,4]] [0] (a _ _))<|sR 5)<|sR 4
 · exact fun jA b a0=>sF<|sL 6 a0.bg<|sB 0 (sR 4)<|sK 3 [[1,3]] [0] (b _ _)
 · exact fun jz lr jA a oh b a0 d=>sL 4 a0.bl<|sB 0 (sX 5 fun e=>sL 2 e.bg<|sB 0 (sR 14)<|sX 4 fun _=>fH 2 (oh _) (sI 5<|sK 2 [[1,3]] [0] (b _ _))<|sR 6)<|sK 3 [[1,4]] [0] (a _ _)
theorem oh {a0:af}:LF Tryz.prog (lr a0) 42 [.agg [aI a0.Op,aI a0.Var,.lit (a0.bl.map aZ),.lit (a0.Kids.map au),aI a0.bY,aN a0.bg]] aB:=DW.2.1 _
def qo (a0:af):Option (Bool):=
 ll a0 130 130>>=fun v0=>if decide (v0≥0) then(lr a0>>=fun v2=>if v2 then(some true) else(some false)) else(some false)
theorem Cq {a0:af}:LF Tryz.prog (qo a0) 10 [.agg [aI a0.Op,aI a0.Var,.lit (a0.bl.map aZ),.lit (a0.Kids.map au),aI a0.bY,aN a0.bg]] aB:=
 sF<|sC 5 mn fun _=>sB 0 (fH 2 oh (sR 4)<|sR 4)<|sR 7
noncomputable def Kl : St:=sN 4 (ak (aI 0) none (sN 3 (ak (aB false) none (sN 2 (ak (aB false) none (sN 5 (St.start T0 44 [.agg [aI 0,aI 0,.lit []],aI 0,aI 0] ag.empty)))))))
noncomputable def Km := fun a0 a2 a b=>fV Kl 1 fun o=>([[(2,aI a2),(3,aP (o 0)),(7,aI a),(1,aI b)]],[((o 0),.arr 3 [aK a0])])
mutual
def iL (a0:Term)(a2 a b:Int):Option (Int):=
 if decide (a<(a0.Kids.length:Int)) then(if decide (b≥0) then(bP a0.Kids a>>=fun c=>if cw .i64 (a2-1) then(lu c b (a2-1)>>=fun d=>if cw .i64 (a+1) then(iL a0 a2 (a+1) d) else none) else none) else(some b)) else(some b)
 partial_fixpoint
def lu (a0:Term)(a1 a2:Int):Option (Int):=
 if decide (a1<1) then(some (-1)) else(if decide (a2<1) then(some (-1)) else(if cw .i64 (a1-1) then(iL a0 a2 0 (a1-1)) else none))
 partial_fixpoint
end
theorem DX  : (∀ a0 a2 b c,LH Tryz.prog (iL a0 a2 b c) aI (Km a0 a2 b c))∧(∀ a0 a1 a2,LF Tryz.prog (lu a0 a1 a2) 44 [aK a0,aI a1,aI a2] aI):=by
 refine iL.mutual_partial_correctness _ _ ?_ ?_
 · exact fun iL lu a rB a0 a2 b c=>sL 4 a0.Kids<|sB 0 (sB 2 (sX 6 fun _=>sI 3<|sC 0 (rB _ _ _) fun _=>sI 4<|sK 2 [[2,3,7,1]] [0] (a _ _ _ _))<|sR 6)<|sR 9
 · exact fun iL a a0 a1 a2=>sF<|sB 5 (sR 8)<|sB 2 (sR 5)<|sI 3<|sK 4 [[2,3,7,1]] [0] (a _ _ _ _)
theorem rB {a0:Term}:LF Tryz.prog (lu a0 a1 a2) 44 [aK a0,aI a1,aI a2] aI:=DX.2 _ _ _
def pA (a0:Term):Option (Bool):=
 lu a0 50 14>>=fun v0=>if decide (v0≥0) then(some true) else(some false)
theorem vT {a0:Term}:LF Tryz.prog (pA a0) 12 [aK a0] aB:=
 sF<|sC 5 rB fun _=>sB 0 (sR 3)<|sR 3
noncomputable def Br : St:=sN 5 (St.start T0 71 [.lit []] ag.empty)
noncomputable def Bs := fun a0 a=>fV Br 0 fun o=>([[(0,aT a0),(3,aI a)]],[])
def eO (a0:LT)(a:Int):Option (Bool):=
 if decide (a<(a0.length:Int)) then(if decide (a≤6) then(bP a0 a>>=fun b=>pA b>>=fun c=>if c then(if cw .i64 (a+1) then(eO a0 (a+1)) else none) else(some false)) else(if decide ((a0.length:Int)≤6) then(some true) else(some false))) else(if decide ((a0.length:Int)≤6) then(some true) else(some false))
 partial_fixpoint
theorem xK {a0:LT}:(∀ b,LH Tryz.prog (eO a0 b) aB (Bs a0 b)):=by
 refine eO.partial_correctness _ _ ?_
 exact fun eO a b=>sL 3 a0<|sB 0 (sB 2 (sX 5 fun _=>fH 1 vT (sI 4<|sK 2 [[0,3]] [] (a _))<|sR 5)<|sL 3 a0<|sB 0 (sR 3)<|sR 3)<|sL 6 a0<|sB 0 (sR 3)<|sR 3
def ow (a0:LT):Option (Bool):=
 eO a0 0
theorem Bt {a0:LT}:LF Tryz.prog (ow a0) 71 [aT a0] aB:=
 sF<|sK 5 [[0,3]] [] (xK _)
noncomputable def DY : St:=sN 4 (ak (aB false) none (sN 0 (ak (aI 0) none (sN 3 (ak (aB false) none (sN 0 (ak (aI 0) none (sN 6 (St.start T0 72 [.agg [.lit [],.lit []]] ag.empty)))))))))
noncomputable def wx := fun a0 a=>fV DY 1 fun o=>([[(1,aP (o 0)),(3,aI a)]],[((o 0),oG a0)])
noncomputable def DZ : St:=sN 3 (ak (aB false) none (sN 0 (ak (aI 0) none (sN 4 (dz wx)))))
noncomputable def D0 := fun a0 a=>fV DZ 1 fun o=>([[(1,aP (o 0)),(4,aI a)]],[((o 0),oG a0)])
def gg (a0:aE)(a:Int):Option (Bool):=
 if decide (a<(a0.bq.length:Int)) then(bP a0.bq a>>=fun b=>if decide (((b.Name.size:Int):Int)>30) then(some false) else(if cw .i64 (a+1) then(gg a0 (a+1)) else none)) else(some true)
 partial_fixpoint
variable {a0 : aE}
theorem zO : (∀ b,LH Tryz.prog (gg a0 b) aB (D0 a0 b)):=by
 refine gg.partial_correctness _ _ ?_
 exact fun gg a b=>sL 4 a0.bq<|sB 0 (sX 5 fun c=>sT (wO EE 2 (some (aI (c.Name.size:Nat))) (aI (c.Name.size:Int)) kr (rfl))<|sB 0 (sR 4)<|sI 3<|sK 2 [[1,4]] [0] (a _))<|sR 4
def ib (a0:aE)(a:Int):Option (Bool):=
 if decide (a<(a0.Cons.length:Int)) then(bP a0.Cons a>>=fun b=>if decide (((b.Name.size:Int):Int)>30) then(some false) else(if cw .i64 (a+1) then(ib a0 (a+1)) else none)) else(gg a0 0)
 partial_fixpoint
theorem zP : (∀ b,LH Tryz.prog (ib a0 b) aB (wx a0 b)):=by
 refine ib.partial_correctness _ _ ?_
 exact fun ib a b=>sL 4 a0.Cons<|sB 0 (sX 5 fun c=>sT (wO EE 2 (some (aI (c.Name.size:Nat))) (aI (c.Name.size:Int)) kr (rfl))<|sB 0 (sR 4)<|sI 3<|sK 2 [[1,3]] [0] (a _))<|sK 3 [[1,4]] [0] (zO _)
def om (a0:aE):Option (Bool):=
 if decide ((a0.Cons.length:Int)>16) then(some false) else(if decide ((a0.bq.length:Int)>12) then(some false) else(ib a0 0))
theorem wy : LF Tryz.prog (om a0) 72 [aG a0] aB:=
 sF<|sL 6 a0.Cons<|sB 0 (sR 10)<|sL 3 a0.bq<|sB 0 (sR 5)<|sK 4 [[1,3]] [0] (zP _)
noncomputable def Cr : St:=sN 6 (St.start T0 43 [.agg [.lit [],.lit [],.lit []]] ag.empty)
noncomputable def Cs := fun(a0:aJ) a=>fV Cr 1 fun o=>([[(1,aP (o 0)),(3,aI a)]],[((o 0),.arr 3 [.agg [aM a0.cy.Cons,aM a0.cy.bq,.lit (a0.aO.map ay)]])])
def fE (a0:aJ)(a:Int):Option (Bool):=
 if decide (a<(a0.aO.length:Int)) then(if decide (a≤20) then(bP a0.aO a>>=fun b=>ow b.cK>>=fun c=>if c then(bP a0.aO a>>=fun d=>pA d.gR>>=fun e=>if e then(if cw .i64 (a+1) then(fE a0 (a+1)) else none) else(some false)) else(some false)) else(om a0.cy>>=fun f=>if f then(if decide ((a0.aO.length:Int)≤20) then(some true) else(some false)) else(some false))) else(om a0.cy>>=fun g=>if g then(if decide ((a0.aO.length:Int)≤20) then(some true) else(some false)) else(some false))
 partial_fixpoint
theorem yw {a0:aJ}:(∀ b,LH Tryz.prog (fE a0 b) aB (Cs a0 b)):=by
 refine fE.partial_correctness _ _ ?_
 exact fun fE a b=>sL 4 a0.aO<|sB 0 (sB 2 (sX 6 fun _=>fH 2 Bt (sX 5 fun _=>fH 2 vT (sI 5<|sK 2 [[1,3]] [0] (a _))<|sR 6)<|sR 15)<|fH 4 wy (sL 3 a0.aO<|sB 0 (sR 4)<|sR 4)<|sR 9)<|fH 7 wy (sL 3 a0.aO<|sB 0 (sR 4)<|sR 4)<|sR 9
def qu (a0:aJ):Option (Bool):=
 fE a0 0
theorem Ct {a0:aJ}:LF Tryz.prog (qu a0) 43 [.agg [aM a0.cy.Cons,aM a0.cy.bq,.lit (a0.aO.map ay)]] aB:=
 sF<|sK 6 [[1,3]] [0] (yw _)
def mW (a0:aJ):Option (Bool):=
 qu a0>>=fun v0=>if v0 then(some true) else(some false)
theorem vc {a0:aJ}:LF Tryz.prog (mW a0) 11 [.agg [aM a0.cy.Cons,aM a0.cy.bq,.lit (a0.aO.map ay)]] aB:=
 sF<|fH 5 Ct (sR 3)<|sR 3
noncomputable def Cu : St:=sN 6 (St.start T0 4 [.agg [.lit [],.lit [],.lit [],.lit []]] ag.empty)
noncomputable def Cv := fun(a0:bA) a=>fV Cu 1 fun o=>([[(1,aP (o 0)),(3,aI a)]],[((o 0),.arr 4 [.agg [aM a0.Prog.cy.Cons,aM a0.Prog.cy.bq,.lit (a0.Prog.aO.map ay),.lit (a0.bX.map au)]])])
def fF (a0:bA)(a:Int):Option (Bool):=
 if decide (a<(a0.bX.length:Int)) then(if decide (a≤12) then(bP a0.bX a>>=fun b=>qo b>>=fun c=>if c then(if cw .i64 (a+1) then(fF a0 (a+1)) else none) else(some false)) else(mW a0.Prog>>=fun d=>if d then(if decide ((a0.bX.length:Int)≤12) then(some true) else(some false)) else(some false))) else(mW a0.Prog>>=fun e=>if e then(if decide ((a0.bX.length:Int)≤12) then(some true) else(some false)) else(some false))
 partial_fixpoint
theorem yx {a0:bA}:(∀ b,LH Tryz.prog (fF a0 b) aB (Cv a0 b)):=by
 refine fF.partial_correctness _ _ ?_
 exact fun fF a b=>sL 4 a0.bX<|sB 0 (sB 2 (sX 6 fun _=>fH 1 Cq (sI 4<|sK 2 [[1,3]] [0] (a _))<|sR 5)<|fH 4 vc (sL 3 a0.bX<|sB 0 (sR 4)<|sR 4)<|sR 9)<|fH 7 vc (sL 3 a0.bX<|sB 0 (sR 4)<|sR 4)<|sR 9
def qw (a0:bA):Option (Bool):=
 fF a0 0
theorem Cw {a0:bA}:LF Tryz.prog (qw a0) 4 [.agg [aM a0.Prog.cy.Cons,aM a0.Prog.cy.bq,.lit (a0.Prog.aO.map ay),.lit (a0.bX.map au)]] aB:=
 sF<|sK 6 [[1,3]] [0] (yx _)
noncomputable def Cx : St:=sN 6 (St.start T0 5 [.agg [aI 0,aI 0,.lit []]] ag.empty)
noncomputable def Cy := fun(a0:aj) a=>fV Cx 1 fun o=>([[(1,aP (o 0)),(3,aI a)]],[((o 0),.arr 3 [.agg [aI a0.Nil,aI a0.Cons,.lit (a0.Steps.map ar)]])])
def iA (a0:aj)(a:Int):Option (Bool):=
 if decide (a<(a0.Steps.length:Int)) then(bP a0.Steps a>>=fun b=>pA b.Expr>>=fun c=>if c then(if cw .i64 (a+1) then(iA a0 (a+1)) else none) else(some false)) else(if decide ((a0.Steps.length:Int)≤8) then(some true) else(some false))
 partial_fixpoint
theorem yy {a0:aj}:(∀ b,LH Tryz.prog (iA a0 b) aB (Cy a0 b)):=by
 refine iA.partial_correctness _ _ ?_
 exact fun iA a b=>sL 4 a0.Steps<|sB 0 (DC 5 31 56 cB fun c _=>fH 2 vT (sI 4<|sK 2 [[1,3]] [0] (a _))<|sR 5)<|sL 3 a0.Steps<|sB 0 (sR 3)<|sR 3
def qy (a0:aj):Option (Bool):=
 iA a0 0
theorem Cz {a0:aj}:LF Tryz.prog (qy a0) 5 [.agg [aI a0.Nil,aI a0.Cons,.lit (a0.Steps.map ar)]] aB:=
 sF<|sK 6 [[1,3]] [0] (yy _)
def nq (a0 a1 a2:Int):Option (Bool):=
 if decide (a0≥a1) then(if decide (a0≤a2) then(some true) else(some false)) else(some false)
theorem jn {a0:Int}:LF Tryz.prog (nq a0 a1 a2) 208 [aI a0,aI a1,aI a2] aB:=
 sF<|sB 5 (sB 3 (sR 4)<|sR 4)<|sR 8
noncomputable def MQ : St:=sN 5 (St.start T0 277 [.sc (.string ⟨#[]⟩)] ag.empty)
noncomputable def MR := fun a0 a=>fV MQ 0 fun o=>([[(0,.sc (.string a0)),(3,aI a)]],[])
def jb (a0:ByteArray)(a:Int):Option (Bool):=
 if decide (a<(a0.size:Int)) then(pt a0 a>>=fun b=>if decide (b<97) then(pt a0 a>>=fun c=>if decide (c<65) then(some false) else(pt a0 a>>=fun d=>if decide (d>90) then(some false) else(if cw .i64 (a+1) then(jb a0 (a+1)) else none))) else(pt a0 a>>=fun e=>if decide (e>122) then(pt a0 a>>=fun f=>if decide (f<65) then(some false) else(pt a0 a>>=fun g=>if decide (g>90) then(some false) else(if cw .i64 (a+1) then(jb a0 (a+1)) else none))) else(if cw .i64 (a+1) then(jb a0 (a+1)) else none))) else(nq (a0.size:Int) 1 8>>=fun h=>if h then(some true) else(some false))
 partial_fixpoint
theorem Gw {a0:ByteArray}:(∀ b,LH Tryz.prog (jb a0 b) aB (MR a0 b)):=by
 refine jb.partial_correctness _ _ ?_
 exact fun jb a b=>sT (wO EE 3 (some (aI (a0.size:Nat))) (aI (a0.size:Int)) kr (rfl))<|sB 0 (sV fun i c=>sT (bF EE 4 (fun S=>Ji Tryz.prog S 9 (.sc (.string a0)) (aI b)) (fun S=>.val (.sc (.int .u8 i)) S) kr kr (vC c kr))<|sB 0 (sV fun j d=>sT (bF EE 9 (fun S=>Ji Tryz.prog S 9 (.sc (.string a0)) (aI b)) (fun S=>.val (.sc (.int .u8 j)) S) kr kr (vC d kr))<|sB 0 (sR 11)<|sV fun k e=>sT (bF EE 3 (fun S=>Ji Tryz.prog S 9 (.sc (.string a0)) (aI b)) (fun S=>.val (.sc (.int .u8 k)) S) kr kr (vC e kr))<|sB 0 (sR 6)<|sI 5<|sK 2 [[0,3]] [] (a _))<|sV fun l f=>sT (bF EE 3 (fun S=>Ji Tryz.prog S 9 (.sc (.string a0)) (aI b)) (fun S=>.val (.sc (.int .u8 l)) S) kr kr (vC f kr))<|sB 0 (sV fun m g=>sT (bF EE 4 (fun S=>Ji Tryz.prog S 9 (.sc (.string a0)) (aI b)) (fun S=>.val (.sc (.int .u8 m)) S) kr kr (vC g kr))<|sB 0 (sR 11)<|sV fun n h=>sT (bF EE 3 (fun S=>Ji Tryz.prog S 9 (.sc (.string a0)) (aI b)) (fun S=>.val (.sc (.int .u8 n)) S) kr kr (vC h kr))<|sB 0 (sR 6)<|sI 5<|sK 2 [[0,3]] [] (a _))<|sI 16<|sK 2 [[0,3]] [] (a _))<|sT (wO EE 2 (some (aI (a0.size:Nat))) (aI (a0.size:Int)) kr (rfl))<|fH 0 jn (sR 3)<|sR 3
def xm (a0:ByteArray):Option (Bool):=
 jb a0 0
theorem Dm {a0:ByteArray}:LF Tryz.prog (xm a0) 277 [.sc (.string a0)] aB:=
 sF<|sK 5 [[0,3]] [] (Gw _)
noncomputable def Kn : St:=sN 6 (St.start T0 209 [.lit [],.lit []] ag.empty)
noncomputable def A8 := fun a0 (a1:(List ByteArray))=>fV Kn 0 fun o=>([[(6,aI 0),(0,aM a0),(1,.lit (a1.map encS))]],[])
noncomputable def Ko : St:=sN 4 (ak (aB true) none (sN 0 (ak (aI 0) none (sN 3 (dz A8)))))
noncomputable def A9 := fun a0 (a1:(List ByteArray)) a=>fV Ko 0 fun o=>([[(6,aI 0),(0,aM a0),(1,.lit (a1.map encS)),(7,aI a)]],[])
noncomputable def Kp : St:=sN 12 (ak (.dN [.sc (.string ⟨#[]⟩),aI 0]) none (sN 2 (eC (fun S=>.val (.an) S) (sN 5 (ak (aB true) none (sN 2 (ak (.dN [.sc (.string ⟨#[]⟩),aI 0]) none (sN 4 (ak (aB true) none (sN 2 (ak (.dN [.sc (.string ⟨#[]⟩),aI 0]) none (sN 3 (ak (aB false) none (sN 0 (ak (aI 0) none (sN 3 (dz A9)))))))))))))))))
noncomputable def Ba := fun a0 a (ji:(List ByteArray))=>fV Kp 2 fun o=>([[(6,aI a),(0,aM a0),(1,.ai (o 1) 0 ji.length)]],[((o 1),.arr 1 (ji.map encS))])
noncomputable def Kq : St:=sN 4 (ak (aB true) none (sN 0 (ak (aI 0) none (sN 3 (dz Ba)))))
noncomputable def Kr := fun a0 a (ji:(List ByteArray)) b=>fV Kq 2 fun o=>([[(6,aI a),(0,aM a0),(1,.ai (o 1) 0 ji.length),(7,aI b)]],[((o 1),.arr 1 (ji.map encS))])
mutual
def jB (a0:(List cf))(a:Int)(ji:(List ByteArray))(b:Int):Option ((List ByteArray)×Bool):=
 if decide (b<ji.length) then(bP ji b>>=fun k=>bP ji b>>=fun d=>bP a0 a>>=fun e=>if(d.data.toList==e.Name.data.toList) then(some (([]:List ByteArray),false)) else(if cw .i64 (b+1) then(jB a0 a ji (b+1)) else none)) else(bP a0 a>>=fun f=>xm f.Name>>=fun g=>if g then(bP a0 a>>=fun h=>nq h.bu 0 4>>=fun i=>if i then(if ji.isEmpty then(bP a0 a>>=fun j=>if cw .i64 (a+1) then(jC a0 (a+1) [j.Name]) else none) else(if decide (ji.length≤1048576) then(bP a0 a>>=fun c=>if decide (ji.length+[c.Name].length≤1048576) then(if cw .i64 (a+1) then(jC a0 (a+1) (ji++[c.Name])) else none) else none) else none)) else(some (([]:List ByteArray),false))) else(some (([]:List ByteArray),false)))
 partial_fixpoint
def jC (a0:(List cf))(a:Int)(ji:(List ByteArray)):Option ((List ByteArray)×Bool):=
 if decide (a<(a0.length:Int)) then(jB a0 a ji 0) else(some (ji,true))
 partial_fixpoint
end
theorem wA {a0:(List cf)}:(∀ c ji d,LH Tryz.prog (jB a0 c ji d) (fun r=>.bO [.lit (r.1.map encS),aB r.2]) (Kr a0 c ji d))∧(∀ c ji,LH Tryz.prog (jC a0 c ji) (fun r=>.bO [.lit (r.1.map encS),aB r.2]) (Ba a0 c ji)):=by
 refine jB.mutual_partial_correctness _ _ _ ?_ ?_
 · exact fun jB jC a b c ji d=>sB 4 (sV fun _ g=>sT (lB EE 5 (fun S=>wS Tryz.prog S 102 (.ai 1 0 ji.length) (aI d)) (fun S=>.val (.ptr 1 (0+(d:Int).toNat) 0) S) kr kr (lD (xs:=ji) (es:=ji.map encS) (el:=9) (n:=1) g (by first | rfl | (simp;done) | omega | (simp;omega)) kr kr kr))<|sV fun f h=>sT (lB EE 0 (fun S=>WN Tryz.prog S 9 (.ptr 1 (0+(d:Int).toNat) 0)) (fun S=>.val (.sc (.string f)) S) kr kr (zw (n:=1) (enc:=encS) (xs:=ji) (i:=d) h kr (cs:=(AV.agg [.sc (.string f)]).cells) rfl kr kr))<|sX 2 fun _=>sB 2 (sE (by exact bN EE 6 (v:=.bO [.an,aB false]) kr (Fz.bw (.an) (.pure pv))))<|sI 4<|sK 2 [[6,0,1,7]] [1] (a _ _ _))<|sX 3 fun _=>fH 2 Dm (sX 4 fun _=>fH 2 jn (sS (fun Hc=>sT (bF EE 5 (fun S=>mN Tryz.prog S 102 102 (.an) (.ai 1 0 ji.length)) (fun S=>.val (.an) S) kr kr (dH (enc:=encS) (el:=9) (sz:=1) (ys:=ji) kr kr (bC _ (.inr ⟨1,1,rfl,by kernel_rfl⟩)) Hc rfl rfl))<|sX 2 fun _=>sI 9<|sM 2 [[6,0,1]] [3] [(1,3)] 4 (b _ _)) fun Hc=>sG fun j=>sT (bF EE 5 (fun S=>mN Tryz.prog S 102 102 (.an) (.ai 1 0 ji.length)) (fun S=>.val (.ai 2 0 ji.length) (S.add (.arr 1 (ji.map encS)))) kr kr (Aw (enc:=encS) (el:=9) (sz:=1) (ys:=ji) (.inl rfl) kr kr (fun _=>rfl) (fun _=>by kernel_rfl) (bC _ (.inr ⟨1,1,rfl,by kernel_rfl⟩)) kr kr (bK Hc) j))<|sX 2 fun e=>sG fun k=>sT (bF EE 3 (fun S=>mN Tryz.prog S 102 102 (.ai 2 0 ji.length) (.ai 3 0 1)) (fun S=>.val (.ai 4 0 (ji++[e.Name]).length) ((S.del 2).add (.arr 1 ((ji++[e.Name]).map encS)))) kr kr (n7 (enc:=encS) (el:=9) (sz:=1) (xs:=ji) (ys:=[e.Name]) kr kr (fun _=>rfl) (fun _=>by kernel_rfl) kr (bC _ (.inr ⟨3,1,rfl,by kernel_rfl⟩)) (by first | rfl | (simp;done) | omega | (simp;omega)) kr kr kr (by simp) k))<|sI 5<|sM 2 [[6,0,1]] [4] [(1,4)] 5 (b _ _))<|sE (by exact bN EE 7 (v:=.bO [.an,aB false]) kr (Fz.bw (.an) (.pure pv))))<|sE (by exact bN EE 15 (v:=.bO [.an,aB false]) kr (Fz.bw (.an) (.pure pv)))
 · exact fun jB a c ji=>sL 3 a0<|sB 0 (sK 4 [[6,0,1,7]] [1] (a _ _ _))<|sE (by exact bN EE 6 (v:=.bO [.ai 1 0 ji.length,aB true]) kr (Fz.bw (Fz.lN (sz:=1) (es:=(ji.map encS)) kr (by simp) pl) (.pure pv)))
def kz (a0:(List cf))(a1:(List ByteArray))(a:Int):Option ((List ByteArray)×Bool):=
 if decide (a<(a1.length:Int)) then(bP a1 a>>=fun c=>bP a0 0>>=fun d=>if(c.data.toList==d.Name.data.toList) then(some (([]:List ByteArray),false)) else(if cw .i64 (a+1) then(kz a0 a1 (a+1)) else none)) else(bP a0 0>>=fun e=>xm e.Name>>=fun f=>if f then(bP a0 0>>=fun g=>nq g.bu 0 4>>=fun h=>if h then(if a1.isEmpty then(bP a0 0>>=fun i=>jC a0 1 [i.Name]) else(if decide (a1.length≤1048576) then(bP a0 0>>=fun b=>if decide (a1.length+[b.Name].length≤1048576) then(jC a0 1 (a1++[b.Name])) else none) else none)) else(some (([]:List ByteArray),false))) else(some (([]:List ByteArray),false)))
 partial_fixpoint
theorem D1 {a0:(List cf)}{a1:(List ByteArray)}:(∀ b,LH Tryz.prog (kz a0 a1 b) (fun r=>.bO [.lit (r.1.map encS),aB r.2]) (A9 a0 a1 b)):=by
 refine kz.partial_correctness _ _ _ ?_
 exact fun kz a b=>sL 3 a1<|sB 0 (DC 5 102 9 asO fun f _=>sX 3 fun _=>sB 2 (sE (by exact bN EE 6 (v:=.bO [.an,aB false]) kr (Fz.bw (.an) (.pure pv))))<|sI 4<|sK 2 [[6,0,1,7]] [] (a _))<|sX 3 fun _=>fH 2 Dm (sX 4 fun _=>fH 2 jn (sS (fun Tu=>sT (bF EE 5 (fun S=>mN Tryz.prog S 102 102 (.an) (.lit (a1.map encS))) (fun S=>.val (.an) S) kr kr (dH (enc:=encS) (el:=9) (sz:=1) (ys:=a1) kr kr (bC _ (.inl rfl)) Tu rfl rfl))<|sX 2 fun _=>sK 12 [[6,0,1]] [1] (wA.2 _ _)) fun Tu=>sG fun d=>sT (bF EE 5 (fun S=>mN Tryz.prog S 102 102 (.an) (.lit (a1.map encS))) (fun S=>.val (.ai 0 0 a1.length) (S.add (.arr 1 (a1.map encS)))) kr kr (Aw (enc:=encS) (el:=9) (sz:=1) (ys:=a1) (.inl rfl) kr kr (fun _=>rfl) (fun _=>by kernel_rfl) (bC _ (.inl rfl)) kr kr (bK Tu) d))<|sX 2 fun c=>sG fun e=>sT (bF EE 3 (fun S=>mN Tryz.prog S 102 102 (.ai 0 0 a1.length) (.ai 1 0 1)) (fun S=>.val (.ai 2 0 (a1++[c.Name]).length) ((S.del 0).add (.arr 1 ((a1++[c.Name]).map encS)))) kr kr (n7 (enc:=encS) (el:=9) (sz:=1) (xs:=a1) (ys:=[c.Name]) kr kr (fun _=>rfl) (fun _=>by kernel_rfl) kr (bC _ (.inr ⟨1,1,rfl,by kernel_rfl⟩)) (by first | rfl | (simp;done) | omega | (simp;omega)) kr kr kr (by simp) e))<|sM 8 [[6,0,1]] [2] [(1,2)] 3 (wA.2 _ _))<|sE (by exact bN EE 7 (v:=.bO [.an,aB false]) kr (Fz.bw (.an) (.pure pv))))<|sE (by exact bN EE 15 (v:=.bO [.an,aB false]) kr (Fz.bw (.an) (.pure pv)))
def xA (a0:(List cf))(a1:(List ByteArray)):Option ((List ByteArray)×Bool):=
 if decide (0<(a0.length:Int)) then(kz a0 a1 0) else(some (a1,true))
theorem Gx {a0:(List cf)}{a1:(List ByteArray)}:LH Tryz.prog (xA a0 a1) (fun r=>.bO [.lit (r.1.map encS),aB r.2]) (A8 a0 a1):=
 sL 3 a0<|sB 0 (sK 4 [[6,0,1,7]] [] (D1 _))<|sR 6
def uY (a0:(List cf))(a1:(List ByteArray)):Option ((List ByteArray)×Bool):=
 xA a0 a1
theorem Bb {a0:(List cf)}{a1:(List ByteArray)}:LF Tryz.prog (uY a0 a1) 209 [aM a0,.lit (a1.map encS)] (fun r=>.bO [.lit (r.1.map encS),aB r.2]):=
 sF<|sK 6 [[6,0,1]] [] Gx
def EI (a0:aE):Option (Bool):=
 nq (a0.Cons.length:Int) 2 12>>=fun v0=>if v0 then(if decide ((a0.bq.length:Int)>8) then(some false) else(bP a0.Cons 0>>=fun a=>if(!([(a.Name.data.toList==(⟨#[70,97,108,115,101]⟩:ByteArray).data.toList),(a.bu==0)].all id)) then(some false) else(bP a0.Cons 1>>=fun b=>if(!([(b.Name.data.toList==(⟨#[84,114,117,101]⟩:ByteArray).data.toList),(b.bu==0)].all id)) then(some false) else(uY a0.Cons ([]:List ByteArray)>>=fun c=>if c.2 then(uY a0.bq c.1>>=fun d=>if d.2 then(some true) else(some false)) else(some false))))) else(some false)
theorem Px : LF Tryz.prog (EI a0) 127 [aG a0] aB:=
 sF<|sL 6 a0.Cons<|fH 0 jn (sL 4 a0.bq<|sB 0 (sR 21)<|sX 4 fun a=>aj2 (Qk EE 2 (uH Tryz.prog .neq 119 (.agg [.sc (.string a.Name),aI a.bu]) (.agg [.sc (.string ⟨#[70,97,108,115,101]⟩),aI 0])) (!([(a.Name.data.toList==(⟨#[70,97,108,115,101]⟩:ByteArray).data.toList),(a.bu==0)].all id)) kr ((Jx kr).2)) (sR 13)<|sX 4 fun b=>aj2 (Qk EE 2 (uH Tryz.prog .neq 119 (.agg [.sc (.string b.Name),aI b.bu]) (.agg [.sc (.string ⟨#[84,114,117,101]⟩),aI 0])) (!([(b.Name.data.toList==(⟨#[84,114,117,101]⟩:ByteArray).data.toList),(b.bu==0)].all id)) kr ((Jx kr).2)) (sR 5)<|sV fun c d=>sT (xX EE 4 209 [aM a0.Cons,.an] [aM a0.Cons,.lit []] (.bO [.lit (c.1.map encS),aB c.2]) kr kr (Bb c d))<|WI 2 (sC 9 Bb fun _=>WI 2 (sR 6)<|sR 6)<|sR 9)<|sR 27
def AR (a0:aE)(a1:Term):Option (Bool):=
 if decide ((a1.Op:Int)=1) then(if decide ((a1.Kids.length:Int)=0) then(nq a1.N 0 19>>=fun v2=>if v2 then(some true) else(some false)) else(some false)) else(if decide ((a1.Op:Int)=2) then(if decide ((a1.Kids.length:Int)=0) then(nq a1.N (-1000000) 1000000>>=fun v5=>if v5 then(some true) else(some false)) else(some false)) else(if decide ((a1.Op:Int)=3) then(if cw .i64 ((a0.Cons.length:Int)-1) then(nq a1.N 0 ((a0.Cons.length:Int)-1)>>=fun f=>if f then(bP a0.Cons a1.N>>=fun g=>if decide ((a1.Kids.length:Int)=g.bu) then(some true) else(some false)) else(some false)) else none) else(if decide ((a1.Op:Int)=4) then(if cw .i64 ((a0.bq.length:Int)-1) then(nq a1.N 0 ((a0.bq.length:Int)-1)>>=fun a=>if a then(bP a0.bq a1.N>>=fun b=>if decide ((a1.Kids.length:Int)=b.bu) then(some true) else(some false)) else(some false)) else none) else(if decide ((a1.Op:Int)=5) then(if cw .i64 ((a0.bq.length:Int)-1) then(nq a1.N 0 ((a0.bq.length:Int)-1)>>=fun c=>if c then(bP a0.bq a1.N>>=fun d=>if decide ((a1.Kids.length:Int)<d.bu) then(some true) else(some false)) else(some false)) else none) else(if decide ((a1.Op:Int)=8) then(if decide ((a1.Kids.length:Int)=2) then(nq a1.N 0 19>>=fun e=>if e then(some true) else(some false)) else(some false)) else(if decide ((a1.Op:Int)=6) then(if decide ((a1.Kids.length:Int)=2) then(if decide ((a1.N:Int)=0) then(some true) else(some false)) else(some false)) else(if decide ((a1.Op:Int)=7) then(if decide ((a1.Kids.length:Int)=2) then(if decide ((a1.N:Int)=0) then(some true) else(some false)) else(some false)) else(if decide ((a1.Op:Int)=9) then(if decide ((a1.Kids.length:Int)=2) then(if decide ((a1.N:Int)=0) then(some true) else(some false)) else(some false)) else(if decide ((a1.Op:Int)=10) then(if decide ((a1.Kids.length:Int)=2) then(if decide ((a1.N:Int)=0) then(some true) else(some false)) else(some false)) else(if decide ((a1.Op:Int)=11) then(if decide ((a1.Kids.length:Int)=2) then(if decide ((a1.N:Int)=0) then(some true) else(some false)) else(some false)) else(if decide ((a1.Op:Int)=12) then(if decide ((a1.Kids.length:Int)=2) then(if decide ((a1.N:Int)=0) then(some true) else(some false)) else(some false)) else(if decide ((a1.Op:Int)=13) then(if decide ((a1.Kids.length:Int)=2) then(if decide ((a1.N:Int)=0) then(some true) else(some false)) else(some false)) else(if decide ((a1.Op:Int)=14) then(if decide ((a1.Kids.length:Int)=2) then(if decide ((a1.N:Int)=0) then(some true) else(some false)) else(some false)) else(if decide ((a1.Op:Int)=15) then(if decide ((a1.Kids.length:Int)=2) then(if decide ((a1.N:Int)=0) then(some true) else(some false)) else(some false)) else(some false)))))))))))))))
theorem MS {a1:Term}:LF Tryz.prog (AR a0 a1) 223 [aG a0,aK a1] aB:=
 sF<|sL 7 a1.Kids<|sB 5 (sB 3 (fH 3 jn (sR 4)<|sR 4)<|sR 8)<|sB 2 (sB 3 (fH 3 jn (sR 4)<|sR 4)<|sR 8)<|sB 2 (sL 6 a0.Cons<|sI 0<|fH 0 jn (sX 6 fun _=>sB 2 (sR 4)<|sR 4)<|sR 14)<|sB 2 (sL 6 a0.bq<|sI 0<|fH 0 jn (sX 6 fun _=>sB 2 (sR 4)<|sR 4)<|sR 14)<|sB 2 (sL 6 a0.bq<|sI 0<|fH 0 jn (sX 6 fun _=>sB 2 (sR 4)<|sR 4)<|sR 14)<|sB 2 (sB 3 (fH 3 jn (sR 4)<|sR 4)<|sR 8)<|sB 2 (sB 3 (sB 3 (sR 4)<|sR 4)<|sR 8)<|sB 2 (sB 3 (sB 3 (sR 4)<|sR 4)<|sR 8)<|sB 2 (sB 3 (sB 3 (sR 4)<|sR 4)<|sR 8)<|sB 2 (sB 3 (sB 3 (sR 4)<|sR 4)<|sR 8)<|sB 2 (sB 3 (sB 3 (sR 4)<|sR 4)<|sR 8)<|sB 2 (sB 3 (sB 3 (sR 4)<|sR 4)<|sR 8)<|sB 2 (sB 3 (sB 3 (sR 4)<|sR 4)<|sR 8)<|sB 2 (sB 3 (sB 3 (sR 4)<|sR 4)<|sR 8)<|sB 2 (sB 3 (sB 3 (sR 4)<|sR 4)<|sR 8)<|sR 5
noncomputable def Ks : St:=sN 4 (ak (aB true) none (sN 7 (St.start T0 142 [.agg [.lit [],.lit []],.agg [aI 0,aI 0,.lit []]] ag.empty)))
noncomputable def Kt := fun a0 a1 a=>fV Ks 2 fun o=>([[(3,aP (o 1)),(2,aP (o 0)),(5,aI a)]],[((o 1),.arr 3 [aK a1]),((o 0),oG a0)])
mutual
def kA (a0:aE)(a1:Term)(a:Int):Option (Bool):=
 if decide (a<(a1.Kids.length:Int)) then(bP a1.Kids a>>=fun b=>nC a0 b>>=fun c=>if c then(if cw .i64 (a+1) then(kA a0 a1 (a+1)) else none) else(some false)) else(some true)
 partial_fixpoint
def nC (a0:aE)(a1:Term):Option (Bool):=
 AR a0 a1>>=fun v0=>if v0 then(kA a0 a1 0) else(some false)
 partial_fixpoint
end
theorem D2 : (∀ a1 b,LH Tryz.prog (kA a0 a1 b) aB (Kt a0 a1 b))∧(∀ a1,LF Tryz.prog (nC a0 a1) 142 [aG a0,aK a1] aB):=by
 refine kA.mutual_partial_correctness _ _ _ ?_ ?_
 · exact fun kA nC a vU a1 b=>sL 4 a1.Kids<|sB 0 (sX 7 fun _=>fH 2 (vU _) (sI 4<|sK 2 [[3,2,5]] [1,0] (a _ _))<|sR 5)<|sR 4
 · exact fun kA a a1=>sF<|fH 7 MS (sK 4 [[3,2,5]] [1,0] (a _ _))<|sR 5
theorem vU {a1:Term}:LF Tryz.prog (nC a0 a1) 142 [aG a0,aK a1] aB:=D2.2 _
def uP (a0:aE)(a1:Term):Option (Bool):=
 lu a1 40 12>>=fun v0=>if decide (v0≥0) then(nC a0 a1>>=fun v2=>if v2 then(some true) else(some false)) else(some false)
theorem xB {a1:Term}:LF Tryz.prog (uP a0 a1) 89 [aG a0,aK a1] aB:=
 sF<|sC 6 rB fun _=>sB 0 (fH 3 vU (sR 4)<|sR 4)<|sR 8
noncomputable def Py : St:=sN 5 (St.start T0 108 [.lit [],aI 0] ag.empty)
noncomputable def Pz := fun a0 a1 a=>fV Py 0 fun o=>([[(0,aN a0),(1,aI a1),(5,aI a)]],[])
def nD (a0:LI)(a1 a:Int):Option (LI):=
 if decide (a<(a0.length:Int)) then(bP a0 a>>=fun b=>if decide (b<a1) then(if cw .i64 (a+1) then(nD a0 a1 (a+1)) else none) else(if decide (a<(a0.length:Int)) then(bP a0 a>>=fun c=>if decide (c=a1) then(some a0) else(if decide (0≤a∧a≤(a0.length:Int)) then(if(a0.take (a:Int).toNat).isEmpty then(if decide (0≤a∧a≤(a0.length:Int)) then(if(a0.drop (a:Int).toNat).isEmpty then(some [a1]) else(if decide ([a1].length+(a0.drop (a:Int).toNat).length≤1048576) then(some ([a1]++(a0.drop (a:Int).toNat))) else none)) else none) else(if decide ((a0.take (a:Int).toNat).length≤1048576) then(if decide ((a0.take (a:Int).toNat).length+[a1].length≤1048576) then(if decide (0≤a∧a≤(a0.length:Int)) then(if(a0.drop (a:Int).toNat).isEmpty then(some ((a0.take (a:Int).toNat)++[a1])) else(if decide (((a0.take (a:Int).toNat)++[a1]).length+(a0.drop (a:Int).toNat).length≤1048576) then(some (((a0.take (a:Int).toNat)++[a1])++(a0.drop (a:Int).toNat))) else none)) else none) else none) else none)) else none)) else(if decide (0≤a∧a≤(a0.length:Int)) then(if(a0.take (a:Int).toNat).isEmpty then(if decide (0≤a∧a≤(a0.length:Int)) then(if(a0.drop (a:Int).toNat).isEmpty then(some [a1]) else(if decide ([a1].length+(a0.drop (a:Int).toNat).length≤1048576) then(some ([a1]++(a0.drop (a:Int).toNat))) else none)) else none) else(if decide ((a0.take (a:Int).toNat).length≤1048576) then(if decide ((a0.take (a:Int).toNat).length+[a1].length≤1048576) then(if decide (0≤a∧a≤(a0.length:Int)) then(if(a0.drop (a:Int).toNat).isEmpty then(some ((a0.take (a:Int).toNat)++[a1])) else(if decide (((a0.take (a:Int).toNat)++[a1]).length+(a0.drop (a:Int).toNat).length≤1048576) then(some (((a0.take (a:Int).toNat)++[a1])++(a0.drop (a:Int).toNat))) else none)) else none) else none) else none)) else none))) else(if decide (a<(a0.length:Int)) then(bP a0 a>>=fun d=>if decide (d=a1) then(some a0) else(if decide (0≤a∧a≤(a0.length:Int)) then(if(a0.take (a:Int).toNat).isEmpty then(if decide (0≤a∧a≤(a0.length:Int)) then(if(a0.drop (a:Int).toNat).isEmpty then(some [a1]) else(if decide ([a1].length+(a0.drop (a:Int).toNat).length≤1048576) then(some ([a1]++(a0.drop (a:Int).toNat))) else none)) else none) else(if decide ((a0.take (a:Int).toNat).length≤1048576) then(if decide ((a0.take (a:Int).toNat).length+[a1].length≤1048576) then(if decide (0≤a∧a≤(a0.length:Int)) then(if(a0.drop (a:Int).toNat).isEmpty then(some ((a0.take (a:Int).toNat)++[a1])) else(if decide (((a0.take (a:Int).toNat)++[a1]).length+(a0.drop (a:Int).toNat).length≤1048576) then(some (((a0.take (a:Int).toNat)++[a1])++(a0.drop (a:Int).toNat))) else none)) else none) else none) else none)) else none)) else(if decide (0≤a∧a≤(a0.length:Int)) then(if(a0.take (a:Int).toNat).isEmpty then(if decide (0≤a∧a≤(a0.length:Int)) then(if(a0.drop (a:Int).toNat).isEmpty then(some [a1]) else(if decide ([a1].length+(a0.drop (a:Int).toNat).length≤1048576) then(some ([a1]++(a0.drop (a:Int).toNat))) else none)) else none) else(if decide ((a0.take (a:Int).toNat).length≤1048576) then(if decide ((a0.take (a:Int).toNat).length+[a1].length≤1048576) then(if decide (0≤a∧a≤(a0.length:Int)) then(if(a0.drop (a:Int).toNat).isEmpty then(some ((a0.take (a:Int).toNat)++[a1])) else(if decide (((a0.take (a:Int).toNat)++[a1]).length+(a0.drop (a:Int).toNat).length≤1048576) then(some (((a0.take (a:Int).toNat)++[a1])++(a0.drop (a:Int).toNat))) else none)) else none) else none) else none)) else none))
 partial_fixpoint
theorem HC {a0:LI}:(∀ a,LH Tryz.prog (nD a0 a1 a) aN (Pz a0 a1 a)):=by
 refine nD.partial_correctness _ _ _ ?_
 exact fun nD b a=>sL 3 a0<|sB 0 (sX 3 fun _=>sB 2 (sI 4<|sK 2 [[0,1,5]] [] (b _))<|sL 4 a0<|sB 0 (sX 3 fun _=>sB 2 (sR 6)<|sG fun c=>sT (lB EE 5 (fun S=>I8 Tryz.prog S 45 (aN a0) none (some (aI a))) (fun S=>.val (aN (a0.take (a:Int).toNat)) S) kr kr (Tq (el:=3) (n:=1) kr kr (fun _=>rfl) c))<|sS (fun afH=>sT (bF EE 0 (fun S=>mN Tryz.prog S 45 45 (.an) (aN (a0.take (a:Int).toNat))) (fun S=>.val (.an) S) kr kr (dH (enc:=(az .i64)) (el:=3) (sz:=1) (ys:=(a0.take (a:Int).toNat)) kr kr (bC _ (.inl rfl)) afH rfl rfl))<|sG fun d=>sT (lB EE 5 (fun S=>I8 Tryz.prog S 45 (aN a0) (some (aI a)) none) (fun S=>.val (aN (a0.drop (a:Int).toNat)) S) kr kr (G7 (el:=3) (n:=1) kr kr (fun _=>rfl) d))<|sS (fun Z0=>sT (bF EE 0 (fun S=>mN Tryz.prog S 45 45 (.ai 1 0 1) (aN (a0.drop (a:Int).toNat))) (fun S=>.val (.ai 1 0 1) S) kr kr (dH (enc:=(az .i64)) (el:=3) (sz:=1) (ys:=(a0.drop (a:Int).toNat)) kr kr (bC _ (.inl rfl)) Z0 (bC (enc:=(az .i64)) (ys:=[a1]) _ (.inr ⟨1,1,rfl,by kernel_rfl⟩)) (dY (enc:=(az .i64)) (fun _=>rfl) (fun _=>by kernel_rfl) _)))<|sE (by exact bN EE 4 (v:=.ai 1 0 1) kr (Fz.yU (sz:=1) (es:=[aI a1]) kr rfl (Er.cons (.pure pv) Er.nil)))) fun Z0=>Re 0 1 2 (bK Z0)<|G4 4 2) fun afH=>ZZ 0 0 (bK afH)<|sA 2 0 1 2<|sG fun e=>sT (lB EE 2 (fun S=>I8 Tryz.prog S 45 (aN a0) (some (aI a)) none) (fun S=>.val (aN (a0.drop (a:Int).toNat)) S) kr kr (G7 (el:=3) (n:=1) kr kr (fun _=>rfl) e))<|sS (fun WR=>sT (bF EE 0 (fun S=>mN Tryz.prog S 45 45 (.ai 2 0 (((a0.take (a:Int).toNat)++[a1]).length)) (aN (a0.drop (a:Int).toNat))) (fun S=>.val (.ai 2 0 (((a0.take (a:Int).toNat)++[a1]).length)) S) kr kr (dH (enc:=(az .i64)) (el:=3) (sz:=1) (ys:=(a0.drop (a:Int).toNat)) kr kr (bC _ (.inl rfl)) WR (bC (enc:=(az .i64)) (ys:=((a0.take (a:Int).toNat)++[a1])) _ (.inr ⟨2,1,rfl,by kernel_rfl⟩)) (dY (enc:=(az .i64)) (fun _=>rfl) (fun _=>by kernel_rfl) _)))<|G4 4 2) fun WR=>Re 0 2 3 (bK WR)<|G4 4 3)<|sG fun f=>sT (lB EE 12 (fun S=>I8 Tryz.prog S 45 (aN a0) none (some (aI a))) (fun S=>.val (aN (a0.take (a:Int).toNat)) S) kr kr (Tq (el:=3) (n:=1) kr kr (fun _=>rfl) f))<|sS (fun afI=>sT (bF EE 0 (fun S=>mN Tryz.prog S 45 45 (.an) (aN (a0.take (a:Int).toNat))) (fun S=>.val (.an) S) kr kr (dH (enc:=(az .i64)) (el:=3) (sz:=1) (ys:=(a0.take (a:Int).toNat)) kr kr (bC _ (.inl rfl)) afI rfl rfl))<|sG fun g=>sT (lB EE 5 (fun S=>I8 Tryz.prog S 45 (aN a0) (some (aI a)) none) (fun S=>.val (aN (a0.drop (a:Int).toNat)) S) kr kr (G7 (el:=3) (n:=1) kr kr (fun _=>rfl) g))<|sS (fun afJ=>sT (bF EE 0 (fun S=>mN Tryz.prog S 45 45 (.ai 1 0 1) (aN (a0.drop (a:Int).toNat))) (fun S=>.val (.ai 1 0 1) S) kr kr (dH (enc:=(az .i64)) (el:=3) (sz:=1) (ys:=(a0.drop (a:Int).toNat)) kr kr (bC _ (.inl rfl)) afJ (bC (enc:=(az .i64)) (ys:=[a1]) _ (.inr ⟨1,1,rfl,by kernel_rfl⟩)) (dY (enc:=(az .i64)) (fun _=>rfl) (fun _=>by kernel_rfl) _)))<|sE (by exact bN EE 4 (v:=.ai 1 0 1) kr (Fz.yU (sz:=1) (es:=[aI a1]) kr rfl (Er.cons (.pure pv) Er.nil)))) fun afJ=>Re 0 1 2 (bK afJ)<|G4 4 2) fun afI=>ZZ 0 0 (bK afI)<|sA 2 0 1 2<|sG fun h=>sT (lB EE 2 (fun S=>I8 Tryz.prog S 45 (aN a0) (some (aI a)) none) (fun S=>.val (aN (a0.drop (a:Int).toNat)) S) kr kr (G7 (el:=3) (n:=1) kr kr (fun _=>rfl) h))<|sS (fun afK=>sT (bF EE 0 (fun S=>mN Tryz.prog S 45 45 (.ai 2 0 (((a0.take (a:Int).toNat)++[a1]).length)) (aN (a0.drop (a:Int).toNat))) (fun S=>.val (.ai 2 0 (((a0.take (a:Int).toNat)++[a1]).length)) S) kr kr (dH (enc:=(az .i64)) (el:=3) (sz:=1) (ys:=(a0.drop (a:Int).toNat)) kr kr (bC _ (.inl rfl)) afK (bC (enc:=(az .i64)) (ys:=((a0.take (a:Int).toNat)++[a1])) _ (.inr ⟨2,1,rfl,by kernel_rfl⟩)) (dY (enc:=(az .i64)) (fun _=>rfl) (fun _=>by kernel_rfl) _)))<|G4 4 2) fun afK=>Re 0 2 3 (bK afK)<|G4 4 3)<|sL 11 a0<|sB 0 (sX 3 fun _=>sB 2 (sR 6)<|sG fun i=>sT (lB EE 5 (fun S=>I8 Tryz.prog S 45 (aN a0) none (some (aI a))) (fun S=>.val (aN (a0.take (a:Int).toNat)) S) kr kr (Tq (el:=3) (n:=1) kr kr (fun _=>rfl) i))<|sS (fun afL=>sT (bF EE 0 (fun S=>mN Tryz.prog S 45 45 (.an) (aN (a0.take (a:Int).toNat))) (fun S=>.val (.an) S) kr kr (dH (enc:=(az .i64)) (el:=3) (sz:=1) (ys:=(a0.take (a:Int).toNat)) kr kr (bC _ (.inl rfl)) afL rfl rfl))<|sG fun j=>sT (lB EE 5 (fun S=>I8 Tryz.prog S 45 (aN a0) (some (aI a)) none) (fun S=>.val (aN (a0.drop (a:Int).toNat)) S) kr kr (G7 (el:=3) (n:=1) kr kr (fun _=>rfl) j))<|sS (fun afM=>sT (bF EE 0 (fun S=>mN Tryz.prog S 45 45 (.ai 1 0 1) (aN (a0.drop (a:Int).toNat))) (fun S=>.val (.ai 1 0 1) S) kr kr (dH (enc:=(az .i64)) (el:=3) (sz:=1) (ys:=(a0.drop (a:Int).toNat)) kr kr (bC _ (.inl rfl)) afM (bC (enc:=(az .i64)) (ys:=[a1]) _ (.inr ⟨1,1,rfl,by kernel_rfl⟩)) (dY (enc:=(az .i64)) (fun _=>rfl) (fun _=>by kernel_rfl) _)))<|sE (by exact bN EE 4 (v:=.ai 1 0 1) kr (Fz.yU (sz:=1) (es:=[aI a1]) kr rfl (Er.cons (.pure pv) Er.nil)))) fun afM=>Re 0 1 2 (bK afM)<|G4 4 2) fun afL=>ZZ 0 0 (bK afL)<|sA 2 0 1 2<|sG fun k=>sT (lB EE 2 (fun S=>I8 Tryz.prog S 45 (aN a0) (some (aI a)) none) (fun S=>.val (aN (a0.drop (a:Int).toNat)) S) kr kr (G7 (el:=3) (n:=1) kr kr (fun _=>rfl) k))<|sS (fun afN=>sT (bF EE 0 (fun S=>mN Tryz.prog S 45 45 (.ai 2 0 (((a0.take (a:Int).toNat)++[a1]).length)) (aN (a0.drop (a:Int).toNat))) (fun S=>.val (.ai 2 0 (((a0.take (a:Int).toNat)++[a1]).length)) S) kr kr (dH (enc:=(az .i64)) (el:=3) (sz:=1) (ys:=(a0.drop (a:Int).toNat)) kr kr (bC _ (.inl rfl)) afN (bC (enc:=(az .i64)) (ys:=((a0.take (a:Int).toNat)++[a1])) _ (.inr ⟨2,1,rfl,by kernel_rfl⟩)) (dY (enc:=(az .i64)) (fun _=>rfl) (fun _=>by kernel_rfl) _)))<|G4 4 2) fun afN=>Re 0 2 3 (bK afN)<|G4 4 3)<|sG fun l=>sT (lB EE 12 (fun S=>I8 Tryz.prog S 45 (aN a0) none (some (aI a))) (fun S=>.val (aN (a0.take (a:Int).toNat)) S) kr kr (Tq (el:=3) (n:=1) kr kr (fun _=>rfl) l))<|sS (fun afO=>sT (bF EE 0 (fun S=>mN Tryz.prog S 45 45 (.an) (aN (a0.take (a:Int).toNat))) (fun S=>.val (.an) S) kr kr (dH (enc:=(az .i64)) (el:=3) (sz:=1) (ys:=(a0.take (a:Int).toNat)) kr kr (bC _ (.inl rfl)) afO rfl rfl))<|sG fun m=>sT (lB EE 5 (fun S=>I8 Tryz.prog S 45 (aN a0) (some (aI a)) none) (fun S=>.val (aN (a0.drop (a:Int).toNat)) S) kr kr (G7 (el:=3) (n:=1) kr kr (fun _=>rfl) m))<|sS (fun afP=>sT (bF EE 0 (fun S=>mN Tryz.prog S 45 45 (.ai 1 0 1) (aN (a0.drop (a:Int).toNat))) (fun S=>.val (.ai 1 0 1) S) kr kr (dH (enc:=(az .i64)) (el:=3) (sz:=1) (ys:=(a0.drop (a:Int).toNat)) kr kr (bC _ (.inl rfl)) afP (bC (enc:=(az .i64)) (ys:=[a1]) _ (.inr ⟨1,1,rfl,by kernel_rfl⟩)) (dY (enc:=(az .i64)) (fun _=>rfl) (fun _=>by kernel_rfl) _)))<|sE (by exact bN EE 4 (v:=.ai 1 0 1) kr (Fz.yU (sz:=1) (es:=[aI a1]) kr rfl (Er.cons (.pure pv) Er.nil)))) fun afP=>Re 0 1 2 (bK afP)<|G4 4 2) fun afO=>ZZ 0 0 (bK afO)<|sA 2 0 1 2<|sG fun o=>sT (lB EE 2 (fun S=>I8 Tryz.prog S 45 (aN a0) (some (aI a)) none) (fun S=>.val (aN (a0.drop (a:Int).toNat)) S) kr kr (G7 (el:=3) (n:=1) kr kr (fun _=>rfl) o))<|sS (fun afQ=>sT (bF EE 0 (fun S=>mN Tryz.prog S 45 45 (.ai 2 0 (((a0.take (a:Int).toNat)++[a1]).length)) (aN (a0.drop (a:Int).toNat))) (fun S=>.val (.ai 2 0 (((a0.take (a:Int).toNat)++[a1]).length)) S) kr kr (dH (enc:=(az .i64)) (el:=3) (sz:=1) (ys:=(a0.drop (a:Int).toNat)) kr kr (bC _ (.inl rfl)) afQ (bC (enc:=(az .i64)) (ys:=((a0.take (a:Int).toNat)++[a1])) _ (.inr ⟨2,1,rfl,by kernel_rfl⟩)) (dY (enc:=(az .i64)) (fun _=>rfl) (fun _=>by kernel_rfl) _)))<|G4 4 2) fun afQ=>Re 0 2 3 (bK afQ)<|G4 4 3
def nb (a0:LI)(a1:Int):Option (LI):=
 nD a0 a1 0
theorem nr {a0:LI}:LF Tryz.prog (nb a0 a1) 108 [aN a0,aI a1] aN:=
 sF<|sK 5 [[0,1,5]] [] (HC _)
noncomputable def PA : St:=sN 5 (St.start T0 282 [.lit [],aI 0] ag.empty)
noncomputable def PB := fun a0 a1 a=>fV PA 0 fun o=>([[(1,aI a1),(0,aN a0),(5,aI a)]],[])
def nE (a0:LI)(a1 a:Int):Option (Bool):=
 if decide (a<(a0.length:Int)) then(bP a0 a>>=fun b=>if decide (b=a1) then(some true) else(if cw .i64 (a+1) then(nE a0 a1 (a+1)) else none)) else(some false)
 partial_fixpoint
theorem HD {a0:LI}:(∀ b,LH Tryz.prog (nE a0 a1 b) aB (PB a0 a1 b)):=by
 refine nE.partial_correctness _ _ _ ?_
 exact fun nE a b=>sL 3 a0<|sB 0 (sX 4 fun _=>sB 2 (sR 4)<|sI 3<|sK 2 [[1,0,5]] [] (a _))<|sR 4
def xZ (a0:LI)(a1:Int):Option (Bool):=
 nE a0 a1 0
theorem zH {a0:LI}:LF Tryz.prog (xZ a0 a1) 282 [aN a0,aI a1] aB:=
 sF<|sK 5 [[1,0,5]] [] (HD _)
noncomputable def MT : St:=sN 5 (ak (aB false) none (sN 7 (St.start T0 278 [.agg [aI 0,aI 0,.lit []],.lit []] ag.empty)))
noncomputable def MU := fun a0 a DD b=>fV MT 1 fun o=>([[(2,aP (o 0)),(7,aI a),(1,aN DD),(6,aB b)]],[((o 0),.arr 3 [aK a0])])
mutual
def jc (a0:Term)(a:Int)(DD:LI)(b:Bool):Option (LI×Bool):=
 if decide (a<(a0.Kids.length:Int)) then(if b then(bP a0.Kids a>>=fun d=>oc d DD>>=fun c=>if c.2 then(if cw .i64 (a+1) then(jc a0 (a+1) c.1 true) else none) else(if cw .i64 (a+1) then(jc a0 (a+1) c.1 false) else none)) else(if b then(some (DD,true)) else(some (DD,false)))) else(if b then(some (DD,true)) else(some (DD,false)))
 partial_fixpoint
def oc (a0:Term)(a1:LI):Option (LI×Bool):=
 if decide ((a0.Op:Int)=1) then(nb a1 a0.N>>=fun v1=>xZ a1 a0.N>>=fun v2=>if v2 then(some (v1,false)) else(some (v1,true))) else(jc a0 0 a1 true)
 partial_fixpoint
end
theorem Gy  : (∀ a0 b DD c,LH Tryz.prog (jc a0 b DD c) (fun r=>.bO [aN r.1,aB r.2]) (MU a0 b DD c))∧(∀ a0 a1,LF Tryz.prog (oc a0 a1) 278 [aK a0,aN a1] (fun r=>.bO [aN r.1,aB r.2])):=by
 refine jc.mutual_partial_correctness _ _ ?_ ?_
 · exact fun jc oc a xC a0 b DD c=>sL 4 a0.Kids<|sB 0 (WI 1 (sX 6 fun _=>sC 2 (xC _ _) fun _=>WI 2 (sI 5<|sK 2 [[2,7,1,6]] [0] (a _ _ _ _))<|sI 5<|sK 2 [[2,7,1,6]] [0] (a _ _ _ _))<|WI 3 (sR 4)<|sR 4)<|WI 5 (sR 4)<|sR 4
 · exact fun jc a a0 a1=>sF<|sB 7 (sC 5 nr fun _=>fH 4 zH (sR 7)<|sR 7)<|sK 5 [[2,7,1,6]] [0] (a _ _ _ _)
theorem xC {a0:Term}{a1:LI}:LF Tryz.prog (oc a0 a1) 278 [aK a0,aN a1] (fun r=>.bO [aN r.1,aB r.2]):=Gy.2 _ _
noncomputable def Ku : St:=sN 6 (St.start T0 279 [.agg [aI 0,aI 0,.lit []]] ag.empty)
noncomputable def Kv := fun a0 a=>fV Ku 1 fun o=>([[(1,aP (o 0)),(3,aI a)]],[((o 0),.arr 3 [aK a0])])
mutual
def kB (a0:Term)(a:Int):Option (Bool):=
 if decide (a<(a0.Kids.length:Int)) then(bP a0.Kids a>>=fun b=>nF b>>=fun c=>if c then(if cw .i64 (a+1) then(kB a0 (a+1)) else none) else(some false)) else(if decide ((a0.Op:Int)=1) then(some true) else(if decide ((a0.Op:Int)=3) then(some true) else(some false)))
 partial_fixpoint
def nF (a0:Term):Option (Bool):=
 kB a0 0
 partial_fixpoint
end
theorem D3  : (∀ a0 b,LH Tryz.prog (kB a0 b) aB (Kv a0 b))∧(∀ a0,LF Tryz.prog (nF a0) 279 [aK a0] aB):=by
 refine kB.mutual_partial_correctness _ _ ?_ ?_
 · exact fun kB nF a vV a0 b=>sL 4 a0.Kids<|sB 0 (sX 5 fun _=>fH 1 (vV _) (sI 4<|sK 2 [[1,3]] [0] (a _ _))<|sR 5)<|sB 3 (sR 8)<|sB 3 (sR 4)<|sR 4
 · exact fun kB a a0=>sF<|sK 6 [[1,3]] [0] (a _ _)
theorem vV {a0:Term}:LF Tryz.prog (nF a0) 279 [aK a0] aB:=D3.2 _
def tG (a0:Term):Option (Bool):=
 oc a0 ([]:LI)>>=fun v0=>if v0.2 then(nF a0>>=fun v2=>if v2 then(some true) else(some false)) else(some false)
theorem Gz {a0:Term}:LF Tryz.prog (tG a0) 210 [aK a0] aB:=
 sF<|sV fun v0 a=>sT (xX EE 5 278 [aK a0,.an] [aK a0,.lit []] (.bO [aN v0.1,aB v0.2]) kr kr (xC v0 a))<|WI 2 (fH 6 vV (sR 4)<|sR 4)<|sR 11
noncomputable def Kw : St:=sN 6 (St.start T0 211 [.agg [aI 0,aI 0,.lit []],aI 0] ag.empty)
noncomputable def Kx := fun a0 a1 a=>fV Kw 1 fun o=>([[(1,aI a1),(2,aP (o 0)),(5,aI a)]],[((o 0),.arr 3 [aK a0])])
mutual
def kC (a0:Term)(a1 a:Int):Option (Bool):=
 if decide (a<(a0.Kids.length:Int)) then(bP a0.Kids a>>=fun b=>mj b a1>>=fun c=>if c then(if cw .i64 (a+1) then(kC a0 a1 (a+1)) else none) else(some false)) else(if(!decide ((a0.Op:Int)=1)) then(if(!decide ((a0.Op:Int)=8)) then(some true) else(if decide ((a0.N:Int)<a1) then(some true) else(some false))) else(if decide ((a0.N:Int)<a1) then(some true) else(some false)))
 partial_fixpoint
def mj (a0:Term)(a1:Int):Option (Bool):=
 kC a0 a1 0
 partial_fixpoint
end
theorem D4 : (∀ a0 b,LH Tryz.prog (kC a0 a1 b) aB (Kx a0 a1 b))∧(∀ a0,LF Tryz.prog (mj a0 a1) 211 [aK a0,aI a1] aB):=by
 refine kC.mutual_partial_correctness _ _ _ ?_ ?_
 · exact fun kC mj a rC a0 b=>sL 4 a0.Kids<|sB 0 (sX 5 fun _=>fH 2 (rC _) (sI 4<|sK 2 [[1,2,5]] [0] (a _ _))<|sR 5)<|sB 3 (sB 3 (sR 10)<|sB 5 (sR 4)<|sR 4)<|sB 9 (sR 4)<|sR 4
 · exact fun kC a a0=>sF<|sK 6 [[1,2,5]] [0] (a _ _)
theorem rC {a0:Term}:LF Tryz.prog (mj a0 a1) 211 [aK a0,aI a1] aB:=D4.2 _
noncomputable def MV : St:=sN 5 (ak (aB false) none (sN 6 (St.start T0 70 [.agg [aI 0,aI 0,.lit []]] ag.empty)))
noncomputable def Dn := fun a0 a=>fV MV 1 fun o=>([[(3,.an),(1,aP (o 0)),(4,aI a)]],[((o 0),.arr 3 [aK a0])])
noncomputable def MW : St:=sN 4 (ak (.lit []) none (sN 1 (ak (.dN [aI 0,aI 0,.lit []]) none (sN 5 (ak (aB true) none (sN 0 (ak (aI 0) none (sN 4 (dz Dn)))))))))
noncomputable def Dp := fun a0 a v229 b=>fV MW 1 fun o=>([[(5,aN v229),(1,aP (o 0)),(4,aI a),(6,aI b),(3,.an)]],[((o 0),.arr 3 [aK a0])])
noncomputable def MX : St:=sN 2 (ak (aI 0) none (sN 4 (ak (.lit []) none (sN 1 (ak (.dN [aI 0]) none (sN 18 (ak (aB true) none (sN 5 (ak (aB true) none (sN 0 (ak (aI 0) none (sN 3 (dz Dp)))))))))))))
noncomputable def Dq := fun a0 a b c d=>fV MX 1 fun o=>([[(5,aN a),(1,aP (o 0)),(4,aI b),(6,aI c),(3,aN d)]],[((o 0),.arr 3 [aK a0])])
noncomputable def MY : St:=sN 2 (ak (aI 0) none (sN 3 (ak (aB false) none (sN 0 (ak (aI 0) none (sN 3 (dz Dq)))))))
noncomputable def MZ := fun a0 a b=>fV MY 1 fun o=>([[(3,aN a),(1,aP (o 0)),(4,aI b)]],[((o 0),.arr 3 [aK a0])])
mutual
def kN (a0:Term)(b:LI)(a:Int):Option (LI):=
 if decide (a<(a0.Kids.length:Int)) then(bP a0.Kids a>>=fun c=>fL c>>=fun d=>eG a0 d a 0 b) else(some b)
 partial_fixpoint
def eG (a0:Term)(b:LI)(c a:Int)(d:LI):Option (LI):=
 if decide (a<(b.length:Int)) then(if(!decide ((a0.Op:Int)=8)) then(bP b a>>=fun e=>nb d e>>=fun f=>if cw .i64 (a+1) then(eG a0 b c (a+1) f) else none) else(if(!decide (c=1)) then(bP b a>>=fun g=>nb d g>>=fun h=>if cw .i64 (a+1) then(eG a0 b c (a+1) h) else none) else(bP b a>>=fun i=>if(!decide (i=a0.N)) then(bP b a>>=fun j=>nb d j>>=fun k=>if cw .i64 (a+1) then(eG a0 b c (a+1) k) else none) else(if cw .i64 (a+1) then(eG a0 b c (a+1) d) else none)))) else(if cw .i64 (c+1) then(kN a0 d (c+1)) else none)
 partial_fixpoint
def fL (a0:Term):Option (LI):=
 if decide ((a0.Op:Int)=1) then(some [a0.N]) else(kO a0 0)
 partial_fixpoint
def kO (a0:Term)(a:Int):Option (LI):=
 if decide (a<(a0.Kids.length:Int)) then(bP a0.Kids a>>=fun b=>fL b>>=fun v229=>lR a0 a v229 0) else(some ([]:LI))
 partial_fixpoint
def lR (a0:Term)(b:Int)(v229:(LI))(a:Int):Option (LI):=
 if decide (a<(v229.length:Int)) then(if(!decide ((a0.Op:Int)=8)) then(bP v229 a>>=fun c=>nb ([]:LI) c>>=fun d=>if cw .i64 (a+1) then(eG a0 v229 b (a+1) d) else none) else(if(!decide (b=1)) then(bP v229 a>>=fun e=>nb ([]:LI) e>>=fun f=>if cw .i64 (a+1) then(eG a0 v229 b (a+1) f) else none) else(bP v229 a>>=fun g=>if(!decide (g=a0.N)) then(bP v229 a>>=fun h=>nb ([]:LI) h>>=fun i=>if cw .i64 (a+1) then(eG a0 v229 b (a+1) i) else none) else(if cw .i64 (a+1) then(lR a0 b v229 (a+1)) else none)))) else(if cw .i64 (b+1) then(kO a0 (b+1)) else none)
 partial_fixpoint
end
theorem GA  : (∀ a0 g h,LH Tryz.prog (kN a0 g h) aN (MZ a0 g h))∧(∀ a0 f i j k,LH Tryz.prog (eG a0 f i j k) aN (Dq a0 f i j k))∧(∀ a0,LF Tryz.prog (fL a0) 70 [aK a0] aN)∧(∀ a0 d,LH Tryz.prog (kO a0 d) aN (Dn a0 d))∧(∀ a0 d v229 l,LH Tryz.prog (lR a0 d v229 l) aN (Dp a0 d v229 l)):=by
 refine kN.mutual_partial_correctness _ _ _ _ _ ?_ ?_ ?_ ?_ ?_
 · exact fun eG fL a iM a0 g h=>sL 4 a0.Kids<|sB 0 (sX 5 fun _=>sC 1 (iM _) fun _=>sK 4 [[5,1,4,6,3]] [0] (a _ _ _ _ _))<|sR 5
 · exact fun kN eG e a a0 f i j k=>sL 3 f<|sB 0 (sB 5 (sX 18 fun _=>sC 1 nr fun _=>sI 4<|sK 2 [[5,1,4,6,3]] [0] (a _ _ _ _ _))<|sB 2 (sX 15 fun _=>sC 1 nr fun _=>sI 4<|sK 2 [[5,1,4,6,3]] [0] (a _ _ _ _ _))<|sX 4 fun _=>sB 3 (sX 6 fun _=>sC 1 nr fun _=>sI 4<|sK 2 [[5,1,4,6,3]] [0] (a _ _ _ _ _))<|sI 5<|sK 2 [[5,1,4,6,3]] [0] (a _ _ _ _ _))<|sI 3<|sK 2 [[3,1,4]] [0] (e _ _ _)
 · exact fun kO b a0=>sF<|sB 6 (sE (by exact bN EE 7 (v:=.ai 1 0 1) kr (Fz.yU (sz:=1) (es:=[aI a0.N]) kr rfl (Er.cons (.pure pv) Er.nil))))<|sK 5 [[3,1,4]] [0] (b _ _)
 · exact fun fL lR iM c a0 d=>sL 4 a0.Kids<|sB 0 (sX 5 fun _=>sC 1 (iM _) fun _=>sK 4 [[5,1,4,6,3]] [0] (c _ _ _ _))<|Ta 5
 · exact fun eG kO lR a b c a0 d v229 l=>sL 3 v229<|sB 0 (sB 5 (sX 18 fun m=>sV fun n s=>sT (xX EE 1 108 [.an,aI m] [.lit [],aI m] (aN n) kr kr (nr n s))<|sI 4<|sK 2 [[5,1,4,6,3]] [0] (a _ _ _ _ _))<|sB 2 (sX 15 fun o=>sV fun p t=>sT (xX EE 1 108 [.an,aI o] [.lit [],aI o] (aN p) kr kr (nr p t))<|sI 4<|sK 2 [[5,1,4,6,3]] [0] (a _ _ _ _ _))<|sX 4 fun _=>sB 3 (sX 6 fun q=>sV fun r u=>sT (xX EE 1 108 [.an,aI q] [.lit [],aI q] (aN r) kr kr (nr r u))<|sI 4<|sK 2 [[5,1,4,6,3]] [0] (a _ _ _ _ _))<|sI 5<|sK 2 [[5,1,4,6,3]] [0] (c _ _ _ _))<|sI 3<|sK 2 [[3,1,4]] [0] (b _ _)
theorem iM {a0:Term}:LF Tryz.prog (fL a0) 70 [aK a0] aN:=GA.2.2.1 _
def rS (a0:LT):Option (Term):=
 some (Term.mk 0 0 a0)
theorem Bc {a0:LT}:LF Tryz.prog (rS a0) 95 [aT a0] aK:=
 sF<|sR 8
noncomputable def HE : St:=sN 7 (St.start T0 212 [.lit []] ag.empty)
noncomputable def HF := fun a0 a b=>fV HE 0 fun o=>([[(0,aT a0),(4,aI a),(3,aI b)]],[])
def jH (a0:LT)(b c:Int):Option (Bool):=
 if decide (b<(a0.length:Int)) then(bP a0 b>>=fun d=>fL d>>=fun a=>if cw .i64 (c+(a.length:Int)) then(if cw .i64 (b+1) then(jH a0 (b+1) (c+(a.length:Int))) else none) else none) else(rS a0>>=fun e=>fL e>>=fun f=>if decide (c=(f.length:Int)) then(some true) else(some false))
 partial_fixpoint
theorem CA {a0:LT}:(∀ b c,LH Tryz.prog (jH a0 b c) aB (HF a0 b c)):=by
 refine jH.partial_correctness _ _ ?_
 exact fun jH a b c=>sL 3 a0<|sB 0 (sX 5 fun _=>sC 1 iM fun d=>sL 0 d<|sI 0<|sI 4<|sK 2 [[0,4,3]] [] (a _ _))<|sC 3 Bc fun _=>sC 0 iM fun e=>sL 0 e<|sB 0 (sR 3)<|sR 3
def vM (a0:LT):Option (Bool):=
 jH a0 0 0
theorem HG {a0:LT}:LF Tryz.prog (vM a0) 212 [aT a0] aB:=
 sF<|sK 7 [[0,4,3]] [] (CA _ _)
noncomputable def M0 : St:=sN 10 (ak (aB true) none (sN 8 (St.start T0 280 [.agg [aI 0,aI 0,.lit []]] ag.empty)))
noncomputable def M1 := fun a0 a (l8:LI)=>fV M0 3 fun o=>([[(1,aP (o 0)),(4,aI a),(3,.ai (o 2) 0 l8.length)]],[((o 0),.arr 3 [aK a0]),((o 2),.arr 1 (l8.map (az .i64)))])
noncomputable def M3 : St:=sN 3 (ak (aB false) none (sN 8 (St.start T0 280 [.agg [aI 0,aI 0,.lit []]] ag.empty)))
noncomputable def M4 := fun a0 a=>fV M3 1 fun o=>([[(1,aP (o 0)),(4,aI a),(3,.an)]],[((o 0),.arr 3 [aK a0])])
mutual
def iz (a0:Term)(b:Int)(l8:LI):Option (LI):=
 if decide (b<(a0.Kids.length:Int)) then(bP a0.Kids b>>=fun c=>kY c>>=fun a=>if a.isEmpty then(if cw .i64 (b+1) then(iz a0 (b+1) l8) else none) else(if decide (l8.length+a.length≤1048576) then(if cw .i64 (b+1) then(iz a0 (b+1) (l8++a)) else none) else none)) else(some l8)
 partial_fixpoint
def kY (a0:Term):Option (LI):=
 if decide ((a0.Op:Int)=8) then(iz a0 0 [a0.N]) else(lS a0 0)
 partial_fixpoint
def lS (a0:Term)(a:Int):Option (LI):=
 if decide (a<(a0.Kids.length:Int)) then(bP a0.Kids a>>=fun c=>kY c>>=fun b=>if b.isEmpty then(if cw .i64 (a+1) then(lS a0 (a+1)) else none) else(if decide (b.length≤1048576) then(if cw .i64 (a+1) then(iz a0 (a+1) b) else none) else none)) else(some ([]:LI))
 partial_fixpoint
end
theorem GB  : (∀ a0 f l8,LH Tryz.prog (iz a0 f l8) aN (M1 a0 f l8))∧(∀ a0,LF Tryz.prog (kY a0) 280 [aK a0] aN)∧(∀ a0 c,LH Tryz.prog (lS a0 c) aN (M4 a0 c)):=by
 refine iz.mutual_partial_correctness _ _ _ ?_ ?_ ?_
 · exact fun iz kY a qO a0 f l8=>sL 4 a0.Kids<|sB 0 (sX 6 fun _=>sC 1 (qO _) fun d=>sS (fun afR=>sT (bF EE 0 (fun S=>mN Tryz.prog S 45 45 (.ai 2 0 l8.length) (aN d)) (fun S=>.val (.ai 2 0 l8.length) S) kr kr (dH (enc:=(az .i64)) (el:=3) (sz:=1) (ys:=d) kr kr (bC _ (.inl rfl)) afR (bC (enc:=(az .i64)) (ys:=l8) _ (.inr ⟨2,1,rfl,by kernel_rfl⟩)) (dY (enc:=(az .i64)) (fun _=>rfl) (fun _=>by kernel_rfl) _)))<|sI 4<|sK 2 [[1,4,3]] [0,2] (a _ _ _)) fun afR=>Re 0 2 3 (bK afR)<|sI 4<|sM 2 [[1,4,3]] [0,3] [(2,3)] 4 (a _ _ _))<|G4 5 2
 · exact fun iz lS a b a0=>sF<|sB 8 (sK 10 [[1,4,3]] [0,2] (a _ _ _))<|sK 3 [[1,4,3]] [0] (b _ _)
 · exact fun iz kY lS a qO b a0 c=>sL 4 a0.Kids<|sB 0 (sX 6 fun _=>sC 1 (qO _) fun e=>sS (fun afS=>sT (bF EE 0 (fun S=>mN Tryz.prog S 45 45 (.an) (aN e)) (fun S=>.val (.an) S) kr kr (dH (enc:=(az .i64)) (el:=3) (sz:=1) (ys:=e) kr kr (bC _ (.inl rfl)) afS rfl rfl))<|sI 4<|sK 2 [[1,4,3]] [0] (b _ _)) fun afS=>ZZ 0 1 (bK afS)<|sI 4<|sT (B9 EE 2 5 kr)<|sM 0 [[1,4,3]] [0,1] [(2,1),(1,3)] 5 (a _ _ _))<|Ta 5
theorem qO {a0:Term}:LF Tryz.prog (kY a0) 280 [aK a0] aN:=GB.2.1 _
noncomputable def Ky : St:=sN 7 (St.start T0 281 [.lit [],aI 0] ag.empty)
noncomputable def Kz := fun a0 a1 a b=>fV Ky 0 fun o=>([[(1,aI a1),(0,aN a0),(6,aI a),(5,aI b)]],[])
def jD (a0:LI)(a1 a b:Int):Option (Int):=
 if decide (a<(a0.length:Int)) then(bP a0 a>>=fun c=>if decide (c=a1) then(if cw .i64 (b+1) then(if cw .i64 (a+1) then(jD a0 a1 (a+1) (b+1)) else none) else none) else(if cw .i64 (a+1) then(jD a0 a1 (a+1) b) else none)) else(some b)
 partial_fixpoint
theorem D5 {a0:LI}:(∀ b c,LH Tryz.prog (jD a0 a1 b c) aI (Kz a0 a1 b c)):=by
 refine jD.partial_correctness _ _ _ ?_
 exact fun jD a b c=>sL 3 a0<|sB 0 (sX 4 fun _=>sB 2 (sI 2<|sI 4<|sK 2 [[1,0,6,5]] [] (a _ _))<|sI 3<|sK 2 [[1,0,6,5]] [] (a _ _))<|sR 5
def yi (a0:LI)(a1:Int):Option (Int):=
 jD a0 a1 0 0
theorem KA {a0:LI}:LF Tryz.prog (yi a0 a1) 281 [aN a0,aI a1] aI:=
 sF<|sK 7 [[1,0,6,5]] [] (D5 _ _)
noncomputable def KB : St:=sN 5 (ak (.lit []) none (sN 2 (ak (.lit []) none (sN 6 (St.start T0 213 [.agg [aI 0,aI 0,.lit []],.lit []] ag.empty)))))
noncomputable def KC := fun a1 v0 v1 a=>fV KB 1 fun o=>([[(5,aN v0),(6,aN v1),(1,aN a1),(7,aI a)]],[])
def kD (a1:LI)(v0:(LI))(v1:(LI))(a:Int):Option (Bool):=
 if decide (a<(v0.length:Int)) then(bP v0 a>>=fun b=>yi v0 b>>=fun c=>if decide (c>1) then(some false) else(bP v0 a>>=fun d=>xZ a1 d>>=fun NS=>if NS then(some false) else(bP v0 a>>=fun e=>xZ v1 e>>=fun v28=>if v28 then(some false) else(if cw .i64 (a+1) then(kD a1 v0 v1 (a+1)) else none)))) else(some true)
 partial_fixpoint
variable {v0 v1 : (LI)}
theorem D6 {a1:LI}:(∀ b,LH Tryz.prog (kD a1 v0 v1 b) aB (KC a1 v0 v1 b)):=by
 refine kD.partial_correctness _ _ _ _ ?_
 exact fun kD a b=>sL 3 v0<|sB 0 (sX 5 fun _=>sC 1 KA fun _=>sB 0 (sR 20)<|sX 4 fun _=>fH 1 zH (sR 13)<|sX 5 fun _=>fH 1 zH (sR 5)<|sI 4<|sK 2 [[5,6,1,7]] [] (a _))<|sR 4
def yj (a0:Term)(a1:LI):Option (Bool):=
 kY a0>>=fun v0=>fL a0>>=fun v1=>kD a1 v0 v1 0
theorem KE {a0:Term}{a1:LI}:LF Tryz.prog (yj a0 a1) 213 [aK a0,aN a1] aB:=
 sF<|sC 6 qO fun _=>sC 2 iM fun _=>sK 5 [[5,6,1,7]] [] (D6 _)
noncomputable def M5 : St:=sN 5 (ak (aB true) none (sN 8 (ak (aB true) none (sN 5 (ak (aB false) none (sN 2 (ak (.dN [.sc (.string ⟨#[]⟩),aI 0]) none (sN 4 (ak (aI 0) none (sN 5 (ak (aB true) none (sN 1 (ak (aI 0) none (sN 0 (ak (aI 0) none (sN 10 (St.start T0 128 [.agg [.lit [],.lit []],.agg [aI 0,.lit [],aI 0,aI 0,.lit [],aI 0]] ag.empty)))))))))))))))))
noncomputable def M6 := fun a0 (a1:bn) a=>fV M5 2 fun o=>([[(3,aP (o 1)),(2,aP (o 0)),(5,aI a)]],[((o 1),.arr 6 [.agg [aI a1.vl,aT a1.cK,aI a1.gR.Op,aI a1.gR.N,aT a1.gR.Kids,aI a1.bg]]),((o 0),oG a0)])
def jQ (a0:aE)(a1:bn)(a:Int):Option (Bool):=
 if decide (a<(a1.cK.length:Int)) then(bP a1.cK a>>=fun b=>uP a0 b>>=fun c=>if c then(bP a1.cK a>>=fun d=>tG d>>=fun NS=>if NS then(bP a1.cK a>>=fun e=>mj e a1.bg>>=fun v28=>if v28 then(if cw .i64 (a+1) then(jQ a0 a1 (a+1)) else none) else(some false)) else(some false)) else(some false)) else(vM a1.cK>>=fun f=>if f then(mj a1.gR a1.bg>>=fun g=>if g then(rS a1.cK>>=fun h=>fL h>>=fun i=>yj a1.gR i>>=fun j=>if j then(some true) else(some false)) else(some false)) else(some false))
 partial_fixpoint
theorem GC {a1:bn}:(∀ b,LH Tryz.prog (jQ a0 a1 b) aB (M6 a0 a1 b)):=by
 refine jQ.partial_correctness _ _ _ ?_
 exact fun jQ a b=>sL 4 a1.cK<|sB 0 (sX 7 fun _=>fH 2 xB (sX 6 fun _=>fH 2 Gz (sX 7 fun _=>fH 4 rC (sI 5<|sK 2 [[3,2,5]] [1,0] (a _) (h:=asR Tryz.f128))<|sR 6)<|sR 19)<|sR 29)<|fH 5 HG (fH 7 rC (sC 7 Bc fun _=>sC 0 iM fun _=>fH 1 KE (sR 4)<|sR 4)<|sR 15)<|sR 23
def AS (a0:aE)(a1:bn):Option (Bool):=
 if cw .i64 ((a0.bq.length:Int)-1) then(nq a1.vl 0 ((a0.bq.length:Int)-1)>>=fun v0=>if v0 then(bP a0.bq a1.vl>>=fun a=>if(!decide ((a1.cK.length:Int)=a.bu)) then(some false) else(nq a1.bg 0 20>>=fun v3=>if v3 then(uP a0 a1.gR>>=fun v4=>if v4 then(jQ a0 a1 0) else(some false)) else(some false))) else(some false)) else none
theorem M7 {a1:bn}:LF Tryz.prog (AS a0 a1) 128 [aG a0,.agg [aI a1.vl,aT a1.cK,aI a1.gR.Op,aI a1.gR.N,aT a1.gR.Kids,aI a1.bg]] aB:=
 sF<|sL 10 a0.bq<|sI 0<|fH 1 jn (sL 5 a1.cK<|sX 4 fun _=>sB 2 (sR 21)<|fH 5 jn (fH 8 xB (sK 5 [[3,2,5]] [1,0] (GC _) (h:=asR Tryz.f128))<|sR 6)<|sR 15)<|sR 35
noncomputable def M8 : St:=sN 4 (ak (aB false) none (sN 0 (ak (aI 0) none (sN 4 (ak (aB true) none (sN 6 (St.start T0 85 [.agg [.lit [],.lit [],.lit []]] ag.empty)))))))
noncomputable def M9 := fun(a0:aJ) a=>fV M8 1 fun o=>([[(1,aP (o 0)),(3,aI a)]],[((o 0),.arr 3 [.agg [aM a0.cy.Cons,aM a0.cy.bq,.lit (a0.aO.map ay)]])])
def nt (a0:aJ)(a:Int):Option (Bool):=
 if decide (a<(a0.aO.length:Int)) then(bP a0.aO a>>=fun b=>AS a0.cy b>>=fun c=>if c then(if cw .i64 (a+1) then(nt a0 (a+1)) else none) else(some false)) else(some true)
 partial_fixpoint
theorem GD {a0:aJ}:(∀ b,LH Tryz.prog (nt a0 b) aB (M9 a0 b)):=by
 refine nt.partial_correctness _ _ ?_
 exact fun nt a b=>sL 4 a0.aO<|sB 0 (sX 8 fun _=>fH 2 M7 (sI 4<|sK 2 [[1,3]] [0] (a _))<|sR 5)<|sR 4
def AT (a0:aJ):Option (Bool):=
 EI a0.cy>>=fun v0=>if v0 then(if decide ((a0.aO.length:Int)>16) then(some false) else(nt a0 0)) else(some false)
theorem Na {a0:aJ}:LF Tryz.prog (AT a0) 85 [.agg [aM a0.cy.Cons,aM a0.cy.bq,.lit (a0.aO.map ay)]] aB:=
 sF<|fH 6 Px (sL 4 a0.aO<|sB 0 (sR 5)<|sK 4 [[1,3]] [0] (GD _))<|sR 11
def AU (a0:aJ):Option (Bool):=
 AT a0>>=fun v0=>if v0 then(some true) else(some false)
theorem Nb {a0:aJ}:LF Tryz.prog (AU a0) 67 [.agg [aM a0.cy.Cons,aM a0.cy.bq,.lit (a0.aO.map ay)]] aB:=
 sF<|fH 5 Na (sR 3)<|sR 3
noncomputable def Nc : St:=sN 7 (St.start T0 113 [aI 0,aI 0] ag.empty)
noncomputable def Dr := fun a0 a1=>fV Nc 0 fun o=>([[(0,aI a0),(1,aI a1),(6,aI 0),(5,.an)]],[])
noncomputable def Nd : St:=sN 9 (ak (aI 0) none (sN 5 (ak (aB true) none (sN 3 (dz Dr)))))
noncomputable def Nf := fun a0 a1 a (wT:LI)=>fV Nd 2 fun o=>([[(0,aI a0),(1,aI a1),(6,aI a),(5,.ai (o 1) 0 wT.length)]],[((o 1),.arr 1 (wT.map (az .i64)))])
def pE (a0 a1 a:Int)(wT:LI):Option (LI):=
 if decide (a<a1) then(if cw .i64 (a0+a) then(if decide (wT.length+[(a0+a)].length≤1048576) then(if cw .i64 (a+1) then(pE a0 a1 (a+1) (wT++[(a0+a)])) else none) else none) else none) else(some wT)
 partial_fixpoint
theorem GF {a0:Int}:(∀ b wT,LH Tryz.prog (pE a0 a1 b wT) aN (Nf a0 a1 b wT)):=by
 refine pE.partial_correctness _ _ _ ?_
 exact fun pE a b wT=>sB 3 (sI 5<|sA 1 1 2 3<|sI 4<|sM 2 [[0,1,6,5]] [3] [(1,3)] 4 (a _ _))<|G4 5 1
def zI (a0 a1:Int):Option (LI):=
 if decide (0<a1) then(if cw .i64 (a0+0) then(pE a0 a1 1 [(a0+0)]) else none) else(some ([]:LI))
theorem HH {a0:Int}:LH Tryz.prog (zI a0 a1) aN (Dr a0 a1):=
 sB 3 (sI 5<|sK 9 [[0,1,6,5]] [1] (GF _ _))<|Ta 5
def qJ (a0 a1:Int):Option (LI):=
 zI a0 a1
theorem tH {a0:Int}:LF Tryz.prog (qJ a0 a1) 113 [aI a0,aI a1] aN:=
 sF<|sK 7 [[0,1,6,5]] [] HH
def EJ (a0:Int):Option (Term):=
 some (Term.mk 1 a0 ([]:LT))
theorem Ga {a0:Int}:LF Tryz.prog (EJ a0) 56 [aI a0] aK:=
 sF<|sE (by exact bN EE 8 (v:=.agg [aI 1,aI a0,.an]) kr (Fz.aw (.pure pv) (Fz.aw (.pure pv) (Fz.aw (.an) (.pure pv)))))
noncomputable def Ng : St:=sN 7 (St.start T0 115 [.lit []] ag.empty)
noncomputable def Ds := fun a0=>fV Ng 0 fun o=>([[(0,aN a0),(4,aI 0),(3,.an)]],[])
noncomputable def Nh : St:=sN 7 (eC (fun S=>.val (.ai 1 0 0) (S.add (.arr 3 []))) (sN 1 (ak (.agg [aI 0,aI 0,.lit []]) none (sN 1 (ak (.dN [aI 0]) none (sN 5 (ak (aB true) none (sN 0 (ak (aI 0) none (sN 3 (Ds dd)))))))))))
noncomputable def Ni := fun a0 a wL=>fV Nh 2 fun o=>([[(0,aN a0),(4,aI a),(3,.ai (o 1) 0 wL.length)]],[((o 1),oT wL)])
def pF (a0:LI)(a:Int)(wL:LT):Option (LT):=
 if decide (a<(a0.length:Int)) then(bP a0 a>>=fun c=>EJ c>>=fun b=>if decide (wL.length+[b].length≤1048576) then(if cw .i64 (a+1) then(pF a0 (a+1) (wL++[b])) else none) else none) else(some wL)
 partial_fixpoint
theorem GG {a0:LI}:(∀ b wL,LH Tryz.prog (pF a0 b wL) aT (Ni a0 b wL)):=by
 refine pF.partial_correctness _ _ ?_
 exact fun pF a b wL=>sL 3 a0<|sB 0 (sX 5 fun _=>sC 1 Ga fun _=>sA 1 1 2 3 (hs:=Ll)<|sI 4<|sM 2 [[0,4,3]] [3] [(1,3)] 4 (a _ _))<|G4 5 1
def zJ (a0:LI):Option (LT):=
 if decide (0<(a0.length:Int)) then(bP a0 0>>=fun b=>EJ b>>=fun a=>if decide ([a].length≤1048576) then(pF a0 1 [a]) else none) else(some ([]:LT))
theorem HI {a0:LI}:LH Tryz.prog (zJ a0) aT (Ds a0):=
 sL 3 a0<|sB 0 (sX 5 fun _=>sC 1 Ga fun _=>afE 1 0 1 (hs:=Ll)<|sK 7 [[0,4,3]] [1] (GG _ _))<|Ta 5
def xn (a0:LI):Option (LT):=
 zJ a0
theorem Dt {a0:LI}:LF Tryz.prog (xn a0) 115 [aN a0] aT:=
 sF<|sK 7 [[0,4,3]] [] HI
def yk (a0:aJ)(a1:Int):Option (bo):=
 bP a0.cy.bq a1>>=fun x0=>qJ 0 x0.bu>>=fun v1=>xn v1>>=fun v2=>some (bo.mk v2 x0.bu)
theorem KF {a0:aJ}:LF Tryz.prog (yk a0 a1) 75 [.agg [aM a0.cy.Cons,aM a0.cy.bq,.lit (a0.aO.map ay)],aI a1] (fun r=>.agg [aT r.args,aI r.next]):=
 sF<|sX 8 fun _=>sC 5 tH fun _=>sC 0 Dt fun _=>sR 5
def yl (a0:af):Option (Bool):=
 if(!decide ((a0.Op:Int)=1)) then(if(!decide ((a0.Var:Int)=0)) then(some false) else(if decide ((a0.bl.length:Int)>0) then(some false) else(if(!decide ((a0.Op:Int)=2)) then(if decide ((a0.Kids.length:Int)>0) then(some false) else(if decide ((a0.Op:Int)=3) then(some true) else(if decide ((a0.bY:Int)=0) then(if decide ((a0.bg.length:Int)=0) then(some true) else(some false)) else(some false)))) else(if decide ((a0.Op:Int)=3) then(some true) else(if decide ((a0.bY:Int)=0) then(if decide ((a0.bg.length:Int)=0) then(some true) else(some false)) else(some false)))))) else(if(!decide ((a0.Op:Int)=2)) then(if decide ((a0.Kids.length:Int)>0) then(some false) else(if decide ((a0.Op:Int)=3) then(some true) else(if decide ((a0.bY:Int)=0) then(if decide ((a0.bg.length:Int)=0) then(some true) else(some false)) else(some false)))) else(if decide ((a0.Op:Int)=3) then(some true) else(if decide ((a0.bY:Int)=0) then(if decide ((a0.bg.length:Int)=0) then(some true) else(some false)) else(some false))))
theorem KG {a0:af}:LF Tryz.prog (yl a0) 180 [.agg [aI a0.Op,aI a0.Var,.lit (a0.bl.map aZ),.lit (a0.Kids.map au),aI a0.bY,aN a0.bg]] aB:=
 sF<|sB 6 (sB 3 (sR 22)<|sL 3 a0.bl<|sB 0 (sR 17)<|sB 5 (sL 3 a0.Kids<|sB 0 (sR 6)<|sB 5 (sR 14)<|sB 3 (sL 3 a0.bg<|sB 0 (sR 5)<|sR 5)<|sR 10)<|sB 10 (sR 14)<|sB 3 (sL 3 a0.bg<|sB 0 (sR 5)<|sR 5)<|sR 10)<|sB 14 (sL 3 a0.Kids<|sB 0 (sR 6)<|sB 5 (sR 14)<|sB 3 (sL 3 a0.bg<|sB 0 (sR 5)<|sR 5)<|sR 10)<|sB 10 (sR 14)<|sB 3 (sL 3 a0.bg<|sB 0 (sR 5)<|sR 5)<|sR 10
noncomputable def PC : St:=sN 5 (St.start T0 106 [.lit [],aI 0] ag.empty)
noncomputable def PD := fun a0 a1 a=>fV PC 0 fun o=>([[(1,aI a1),(0,aN a0),(5,aI a)]],[])
def nG (a0:LI)(a1 a:Int):Option (Bool):=
 if decide (a<(a0.length:Int)) then(bP a0 a>>=fun b=>if decide (b=a1) then(some true) else(if cw .i64 (a+1) then(nG a0 a1 (a+1)) else none)) else(some false)
 partial_fixpoint
theorem HJ {a0:LI}:(∀ b,LH Tryz.prog (nG a0 a1 b) aB (PD a0 a1 b)):=by
 refine nG.partial_correctness _ _ _ ?_
 exact fun nG a b=>sL 3 a0<|sB 0 (sX 4 fun _=>sB 2 (sR 4)<|sI 3<|sK 2 [[1,0,5]] [] (a _))<|sR 4
def x5 (a0:LI)(a1:Int):Option (Bool):=
 nG a0 a1 0
theorem Gb {a0:LI}:LF Tryz.prog (x5 a0 a1) 106 [aN a0,aI a1] aB:=
 sF<|sK 5 [[1,0,5]] [] (HJ _)
def kV (a0:bo)(a1:Int):Option (Bool):=
 fL (Term.mk 0 0 a0.args)>>=fun v0=>x5 v0 a1>>=fun v1=>if v1 then(some true) else(some false)
theorem wQ {a0:bo}:LF Tryz.prog (kV a0 a1) 259 [.agg [aT a0.args,aI a0.next],aI a1] aB:=
 sF<|sC 7 iM fun _=>fH 1 Gb (sR 3)<|sR 3
def Cb (a0 a1 a2:Int):Option (Bool):=
 if decide (a0≥a1) then(if decide (a0≤a2) then(some true) else(some false)) else(some false)
theorem IX {a0:Int}:LF Tryz.prog (Cb a0 a1 a2) 182 [aI a0,aI a1,aI a2] aB:=
 sF<|sB 5 (sB 3 (sR 4)<|sR 4)<|sR 8
noncomputable def D7 : St:=sN 3 (ak (aB false) none (sN 0 (ak (aI 0) none (sN 1 (ak (aI 0) none (sN 4 (St.start T0 184 [.lit [],.lit []] ag.empty)))))))
noncomputable def D8 := fun a0 a1 a=>fV D7 0 fun o=>([[(1,aN a1),(0,aN a0),(5,aI a)]],[])
def kd (a0 a1:LI)(a:Int):Option (Bool):=
 if decide (a<(a0.length:Int)) then(bP a0 a>>=fun b=>bP a1 a>>=fun c=>if(!decide (b=c)) then(some false) else(if cw .i64 (a+1) then(kd a0 a1 (a+1)) else none)) else(some true)
 partial_fixpoint
theorem zQ {a0:LI}{a1:LI}:(∀ b,LH Tryz.prog (kd a0 a1 b) aB (D8 a0 a1 b)):=by
 refine kd.partial_correctness _ _ _ ?_
 exact fun kd a b=>sL 3 a0<|sB 0 (sX 5 fun _=>sX 3 fun _=>sB 1 (sR 5)<|sI 4<|sK 2 [[1,0,5]] [] (a _))<|sR 4
def jI (a0 a1:LI):Option (Bool):=
 if(!decide ((a0.length:Int)=(a1.length:Int))) then(some false) else(kd a0 a1 0)
theorem q7 {a0:LI}{a1:LI}:LF Tryz.prog (jI a0 a1) 184 [aN a0,aN a1] aB:=
 sF<|sL 4 a0<|sL 1 a1<|sB 0 (sR 4)<|sK 3 [[1,0,5]] [] (zQ _)
noncomputable def Nj : St:=sN 5 (St.start T0 257 [.lit [],aI 0] ag.empty)
noncomputable def Nk := fun(a0:(List du)) a1 a=>fV Nj 0 fun o=>([[(5,aI a),(1,aI a1),(0,.lit (a0.map fO))]],[])
def nu (a0:(List du))(a1 a:Int):Option (Int):=
 if decide (a<(a0.length:Int)) then(bP a0 a>>=fun b=>if decide ((b.Var:Int)=a1) then(some a) else(if cw .i64 (a+1) then(nu a0 a1 (a+1)) else none)) else(some (-1))
 partial_fixpoint
theorem GH {a0:(List du)}:(∀ b,LH Tryz.prog (nu a0 a1 b) aI (Nk a0 a1 b)):=by
 refine nu.partial_correctness _ _ _ ?_
 exact fun nu a b=>sL 3 a0<|sB 0 (DC 4 246 249 zG fun c _=>sB 3 (sR 5)<|sI 3<|sK 2 [[5,1,0]] [] (a _))<|sR 4
def AW (a0:(List du))(a1:Int):Option (Int):=
 nu a0 a1 0
theorem Nl {a0:(List du)}:LF Tryz.prog (AW a0 a1) 257 [.lit (a0.map fO),aI a1] aI:=
 sF<|sK 5 [[5,1,0]] [] (GH _)
def QL (a0:Term)(a1:(List du)):Option (Term):=none
theorem PF {a0:Term}{a1:(List du)}:LF Tryz.prog (QL a0 a1) 258 [aK a0,.lit (a1.map fO)] aK:=fun _ h=>by cases h
noncomputable def KH : St:=sN 5 (ak (aB false) none (sN 3 (ak (aB false) none (sN 6 (St.start T0 179 [.agg [aI 0,aI 0,.lit []],.lit []] ag.empty)))))
noncomputable def Bd := fun a0 (a1:(List du))=>fV KH 2 fun o=>([[(1,.lit (a1.map fO)),(2,aP (o 0)),(4,aP (o 1)),(7,aI 0),(6,.an)]],[((o 0),.arr 3 [aK a0]),((o 1),.arr 3 [.agg [aI 0,aI 0,.an]])])
noncomputable def KI : St:=sN 7 (eC (fun S=>.val (.ai 3 0 0) (S.add (.arr 3 []))) (sN 1 (ak (.agg [aI 0,aI 0,.lit []]) none (sN 2 (ak (.dN [aI 0,aI 0,.lit []]) none (sN 6 (ak (aB true) none (sN 0 (ak (aI 0) none (sN 4 (dz Bd)))))))))))
noncomputable def KJ := fun a0 (a1:(List du)) a K8=>fV KI 4 fun o=>([[(1,.lit (a1.map fO)),(2,aP (o 0)),(4,aP (o 1)),(7,aI a),(6,.ai (o 3) 0 K8.length)]],[((o 0),.arr 3 [aK a0]),((o 1),.arr 3 [.agg [aI 0,aI 0,.an]]),((o 3),oT K8)])
mutual
def lZ (a0:Term)(a1:(List du))(a:Int)(K8:LT):Option (Term):=
 if decide (a<(a0.Kids.length:Int)) then(bP a0.Kids a>>=fun c=>iP c a1>>=fun b=>if decide (K8.length+[b].length≤1048576) then(if cw .i64 (a+1) then(lZ a0 a1 (a+1) (K8++[b])) else none) else none) else(some (Term.mk a0.Op a0.N K8))
 partial_fixpoint
def iP (a0:Term)(a1:(List du)):Option (Term):=
 if decide ((a0.Op:Int)=1) then(AW a1 a0.N>>=fun v1=>if decide (v1≥0) then(bP a1 v1>>=fun a=>some a.Term) else(some a0)) else(if decide ((a0.Op:Int)=8) then(QL a0 a1>>=fun v5=>some v5) else(tI a0 a1))
 partial_fixpoint
def tI (a0:Term)(a1:(List du)):Option (Term):=
 if decide (0<(a0.Kids.length:Int)) then(bP a0.Kids 0>>=fun b=>iP b a1>>=fun a=>if decide ([a].length≤1048576) then(lZ a0 a1 1 [a]) else none) else(some (Term.mk a0.Op a0.N ([]:LT)))
 partial_fixpoint
end
theorem D9 {a1:(List du)}:(∀ a0 c K8,LH Tryz.prog (lZ a0 a1 c K8) aK (KJ a0 a1 c K8))∧(∀ a0,LF Tryz.prog (iP a0 a1) 179 [aK a0,.lit (a1.map fO)] aK)∧(∀ a0,LH Tryz.prog (tI a0 a1) aK (Bd a0 a1)):=by
 refine lZ.mutual_partial_correctness _ _ _ _ ?_ ?_ ?_
 · exact fun lZ iP a mo a0 c K8=>sL 4 a0.Kids<|sB 0 (sX 6 fun _=>sC 2 (mo _) fun _=>sA 1 3 4 5 (hs:=Ll)<|sI 4<|sM 2 [[1,2,4,7,6]] [0,1,5] [(3,5)] 6 (a _ _ _))<|sE (by exact bN EE 9 (v:=.agg [aI a0.Op,aI a0.N,.ai 3 0 K8.length]) kr (Fz.aw (.pure pv) (Fz.aw (.pure pv) (Fz.aw (Fz.lN (sz:=3) (es:=(K8.map cH)) kr (by simp) pl) (.pure pv)))))
 · exact fun tI b a0=>sF<|sB 6 (sC 4 Nl fun _=>sB 3 (DC 3 246 249 zG fun d _=>sR 5)<|sR 5)<|sB 3 (sC 3 PF fun _=>sR 3)<|sK 5 [[1,2,4,7,6]] [0,1] (b _)
 · exact fun lZ iP a mo a0=>sL 4 a0.Kids<|sB 0 (sX 6 fun _=>sC 2 (mo _) fun _=>afE 1 2 3 (hs:=Ll)<|sK 7 [[1,2,4,7,6]] [0,1,3] (a _ _ _))<|sE (by exact bN EE 9 (v:=.agg [aI a0.Op,aI a0.N,.an]) kr (Fz.aw (.pure pv) (Fz.aw (.pure pv) (Fz.aw (.an) (.pure pv)))))
theorem mo {a0:Term}{a1:(List du)}:LF Tryz.prog (iP a0 a1) 179 [aK a0,.lit (a1.map fO)] aK:=D9.2.1 _
noncomputable def Bu : St:=sN 6 (ak (aI 0) none (sN 5 (eC (fun S=>.val (.lit [.agg [aI 0,aI 3,aI 0,.lit []]]) (Jj S)) (sN 2 (ak (.lit []) none (sN 0 (ak (.lit []) none (sN 9 (ak (.dN [.sc (.string ⟨#[]⟩),aI 0]) none (sN 8 (St.start T0 114 [.agg [.lit [],aI 0],.agg [.lit [],.lit []],aI 0,aI 0] ag.empty)))))))))))
noncomputable def tM := fun(a0:bo) a2 a3 (x0:cf) v2=>fV Bu 5 fun o=>([[(11,aP (o 4)),(10,.lit [.agg [aI a2,aI 3,aI a3,aT v2]]),(4,aP (o 0)),(8,aP (o 2)),(12,aI 0)]],[((o 4),.arr 2 [.agg [.an,aI (a0.next+x0.bu)]]),((o 0),.arr 2 [.agg [aT a0.args,aI a0.next]]),((o 2),.arr 2 [.agg [.an,aI 0]])])
noncomputable def Bv : St:=sN 9 (eC (fun S=>.val (.ai 6 0 0) (S.add (.arr 3 []))) (sN 1 (ak (.agg [aI 0,aI 0,.lit []]) none (sN 2 (ak (.dN [aI 0,aI 0,.lit []]) none (sN 8 (ak (aB true) none (sN 0 (ak (aI 0) none (sN 4 (dz tM)))))))))))
noncomputable def Bw := fun(a0:bo) a2 a3 (x0:cf) v2 a EO=>fV Bv 7 fun o=>([[(11,aP (o 4)),(10,.lit [.agg [aI a2,aI 3,aI a3,aT v2]]),(4,aP (o 0)),(8,aP (o 2)),(12,aI a)]],[((o 4),.arr 2 [.agg [.ai (o 6) 0 EO.length,aI (a0.next+x0.bu)]]),((o 0),.arr 2 [.agg [aT a0.args,aI a0.next]]),((o 2),.arr 2 [.agg [.an,aI 0]]),((o 6),oT EO)])
def gM (a0:bo)(a2 a3:Int)(x0:cf)(v2:(LT))(a:Int)(EO:LT):Option (bo):=
 if decide (a<(a0.args.length:Int)) then(bP a0.args a>>=fun c=>iP c [(du.mk a2 (Term.mk 3 a3 v2))]>>=fun b=>if decide (EO.length+[b].length≤1048576) then(if cw .i64 (a+1) then(gM a0 a2 a3 x0 v2 (a+1) (EO++[b])) else none) else none) else(some (bo.mk EO (a0.next+x0.bu)))
 partial_fixpoint
variable {a3 : Int} {x0 : cf} {v2 : (LT)}
theorem xL {a0:bo}:(∀ b EO,LH Tryz.prog (gM a0 a2 a3 x0 v2 b EO) (fun r=>.agg [aT r.args,aI r.next]) (Bw a0 a2 a3 x0 v2 b EO)):=by
 refine gM.partial_correctness _ _ _ _ _ _ ?_
 exact fun gM a b EO=>sL 4 a0.args<|sB 0 (sX 8 fun e=>sV fun c d=>sT (Ft EE 2 179 [aK e,.lit [.agg [aI a2,aI 3,aI a3,aT v2]]] (aK c) kr (by have q:=mo c d;simp only[aT,dF,ud,kM] at q;exact q))<|sA 1 6 7 8 (hs:=Ll)<|sI 6<|sM 2 [[11,10,4,8,12]] [4,0,2,8] [(6,8)] 9 (a _ _))<|sE (by exact bN EE 5 (v:=.agg [.ai 6 0 EO.length,aI (a0.next+x0.bu)]) kr (Fz.aw (Fz.lN (sz:=3) (es:=(EO.map cH)) kr (by simp) pl) (.pure pv)))
def pH (a0:bo)(a2 a3:Int)(x0:cf)(v2:(LT)):Option (bo):=
 if decide (0<(a0.args.length:Int)) then(bP a0.args 0>>=fun b=>iP b [(du.mk a2 (Term.mk 3 a3 v2))]>>=fun a=>if decide ([a].length≤1048576) then(gM a0 a2 a3 x0 v2 1 [a]) else none) else(some (bo.mk ([]:LT) (a0.next+x0.bu)))
theorem yz {a0:bo}:LH Tryz.prog (pH a0 a2 a3 x0 v2) (fun r=>.agg [aT r.args,aI r.next]) (tM a0 a2 a3 x0 v2):=
 sL 4 a0.args<|sB 0 (sX 8 fun c=>sV fun a b=>sT (Ft EE 2 179 [aK c,.lit [.agg [aI a2,aI 3,aI a3,aT v2]]] (aK a) kr (by have q:=mo a b;simp only[aT,dF,ud,kM] at q;exact q))<|afE 1 5 6 (hs:=Ll)<|sK 9 [[11,10,4,8,12]] [4,0,2,6] (xL _ _))<|sE (by exact bN EE 5 (v:=.agg [.an,aI (a0.next+x0.bu)]) kr (Fz.aw (.an) (.pure pv)))
def ke (a0:bo)(a1:aE)(a2 a3:Int):Option (bo):=
 bP a1.Cons a3>>=fun x0=>qJ a0.next x0.bu>>=fun v1=>xn v1>>=fun v2=>if cw .i64 (a0.next+x0.bu) then(pH a0 a2 a3 x0 v2) else none
theorem tN {a0:bo}{a1:aE}:LF Tryz.prog (ke a0 a1 a2 a3) 114 [.agg [aT a0.args,aI a0.next],aG a1,aI a2,aI a3] (fun r=>.agg [aT r.args,aI r.next]):=
 sF<|sX 8 fun _=>sC 9 tH fun _=>sC 0 Dt fun v2=>sT (Fu EE 2 (fun S=>asN Tryz.prog S 246 1 [(0,.agg [aI a2,aI 3,aI a3,aT v2])]) [.agg [aI a2,aI 3,aI a3,aT v2]] kr kr kr (.inl ⟨4,by kernel_rfl⟩))<|sI 5<|sK 6 [[11,10,4,8,12]] [4,0,2] yz
def OD (a0 a1 a2:Int):Option (Bool):=
 if decide (a0≥a1) then(if decide (a0≤a2) then(some true) else(some false)) else(some false)
theorem Sw {a0:Int}:LF Tryz.prog (OD a0 a1 a2) 260 [aI a0,aI a1,aI a2] aB:=
 sF<|sB 5 (sB 3 (sR 4)<|sR 4)<|sR 8
def xo (a0:aJ)(a1:Int):Option (Bool):=
 if cw .i64 ((a0.aO.length:Int)-1) then(OD a1 0 ((a0.aO.length:Int)-1)>>=fun v0=>if v0 then(some true) else(some false)) else none
theorem Nn {a0:aJ}:LF Tryz.prog (xo a0 a1) 183 [.agg [aM a0.cy.Cons,aM a0.cy.bq,.lit (a0.aO.map ay)],aI a1] aB:=
 sF<|sL 7 a0.aO<|sI 0<|fH 0 Sw (sR 3)<|sR 3
@[simp] noncomputable def fG := fun mD b (a:LI) (o:NM)=>(([aK mD,aK b,.ai (o 0) 0 a.length],[.arr 1 (a.map (az .i64))]):TC)
@[simp] noncomputable def iB := fun(r:(LI×Bool)) (o:NM)=>((aB r.2,[some (.arr 1 (r.1.map (az .i64)))],[]):TB)
noncomputable def qQ : St:=sN 4 (ak (aB false) none (sN 0 (ak (aI 0) none (sN 2 (ak (aI 0) none (sN 4 (ak (aB false) none (sN 5 (ak (aB false) none (sN 5 (ak (aB false) none (sN 7 (St.start T0 178 ((dz fG id).1) (oX 1 (mR 0 ((dz fG id).2))))))))))))))))
noncomputable def kF := fun mD b (c:LI) a (zg:LI)=>fV qQ 3 fun o=>([[(2,.ai (o 0) 0 zg.length),(4,aP (o 2)),(3,aP (o 1)),(7,aI a)]],[((o 0),.arr 1 (zg.map (az .i64))),((o 2),.arr 3 [aK b]),((o 1),.arr 3 [aK mD])])
noncomputable def Bx : St:=sN 4 (eC (fun S=>.val (.ai 2 0 0) (S.add (.arr 1 []))) (sN 8 (St.start T0 111 [.agg [.lit [],aI 0],.agg [aI 0,.lit [],aI 0,aI 0,.lit [],aI 0]] ag.empty)))
noncomputable def oB := fun(a0:bo) (a1:bn) a (oU:LI)=>fV Bx 3 fun o=>([[(6,.ai (o 2) 0 oU.length),(2,aP (o 0)),(3,aP (o 1)),(7,aI a)]],[((o 2),.arr 1 (oU.map (az .i64))),((o 0),.arr 2 [.agg [aT a0.args,aI a0.next]]),((o 1),.arr 6 [.agg [aI a1.vl,aT a1.cK,aI a1.gR.Op,aI a1.gR.N,aT a1.gR.Kids,aI a1.bg]])])
noncomputable def By : St:=sN 3 (ak (aB false) none (sN 4 (dz oB)))
noncomputable def tO := fun(a0:bo) (a1:bn) a (yu:LI)=>fV By 3 fun o=>([[(6,.ai (o 2) 0 yu.length),(2,aP (o 0)),(3,aP (o 1)),(8,aI a)]],[((o 2),.arr 1 (yu.map (az .i64))),((o 0),.arr 2 [.agg [aT a0.args,aI a0.next]]),((o 1),.arr 6 [.agg [aI a1.vl,aT a1.cK,aI a1.gR.Op,aI a1.gR.N,aT a1.gR.Kids,aI a1.bg]])])
mutual
def bZ (mD c:Term)(f:LI)(a:Int)(zg:LI):Option (LI×Bool):=
 if decide (a<(mD.Kids.length:Int)) then(bP mD.Kids a>>=fun d=>bP c.Kids a>>=fun e=>cC d e zg>>=fun b=>if decide (b.1.length=zg.length) then(if b.2 then(if cw .i64 (a+1) then(bZ mD c f (a+1) b.1) else none) else(some (b.1,false))) else none) else(some (zg,true))
 partial_fixpoint
def cC (mD b:Term)(a:LI):Option (LI×Bool):=
 if decide ((mD.Op:Int)=1) then(bP a mD.N>>=fun c=>bP a mD.N>>=fun d=>if decide ((b.Op:Int)=1) then(some ((a.set (mD.N:Int).toNat b.N),true)) else(some ((a.set (mD.N:Int).toNat b.N),false))) else(if(!decide ((mD.Op:Int)=b.Op)) then(some (a,false)) else(if(!decide ((mD.N:Int)=b.N)) then(some (a,false)) else(if(!decide ((mD.Kids.length:Int)=(b.Kids.length:Int))) then(some (a,false)) else(bZ mD b a 0 a))))
 partial_fixpoint
end
theorem oF  : (∀ mD c b d zg,LJ Tryz.prog (bZ mD c b d zg) 1 iB (kF mD c b d zg))∧(∀ mD c b,LG Tryz.prog (cC mD c b) 178 1 (fG mD c b) iB):=by
 refine bZ.mutual_partial_correctness _ _ ?_ ?_
 · exact fun bZ cC a ie mD c b d zg=>sL 4 mD.Kids<|sB 0 (sX 6 fun _=>sX 4 fun _=>sV fun h e=>sG fun j=>N0 3 (ie _ _ _ h e _ 3 [0] wK) (sI 4<|by unfold kF;rw[←j];exact I9 2 [[2,4,3,7]] [0,2,1] [] 3 (a _ _ _ _ _))<|mg 5 (aB false) [0])<|mg 4 (aB true) [0]
 · exact fun bZ a mD c b=>P8 1 (sB 7 (sV fun _ f=>sT (bF EE 6 (fun S=>wS Tryz.prog S 45 (.ai 0 0 b.length) (aI mD.N)) (fun S=>.val (.ptr 0 (0+(mD.N:Int).toNat) 0) S) kr kr (lD (xs:=b) (es:=b.map (az .i64)) (el:=3) (n:=1) f (by first | rfl | (simp;done) | omega | (simp;omega)) kr kr kr))<|sV fun k g=>sT (bF EE 0 (fun S=>Lb Tryz.prog S 3 (.ptr 0 (0+(mD.N:Int).toNat) 0) (aI c.N)) (fun S=>.skip (S.set 0 (.arr 1 ((b.set (mD.N:Int).toNat c.N).map (az .i64))))) kr kr (pq (n:=1) (m:=1) (enc:=(az .i64)) (xs:=b) (i:=mD.N) (x' := c.N) g kr (cs:=(AV.agg [aI k]).cells) rfl kr kr rfl))<|sB 3 (mg 3 (aB true) [0])<|mg 3 (aB false) [0])<|sB 5 (mg 20 (aB false) [0])<|sB 5 (mg 14 (aB false) [0])<|sL 4 mD.Kids<|sL 2 c.Kids<|sB 0 (mg 5 (aB false) [0])<|wa 4 [[2,4,3,7]] [0,2,1] (a _ _ _ _ _))
theorem ie {mD:Term}{a:Term}{b:LI}:LG Tryz.prog (cC mD a b) 178 1 (fG mD a b) iB:=oF.2 _ _ _
def dZ (a0:bo)(a1:bn)(a:Int)(yu:LI):Option (LI×Bool):=
 if decide (a<(a0.args.length:Int)) then(bP a1.cK a>>=fun c=>bP a0.args a>>=fun d=>cC c d yu>>=fun b=>if decide (b.1.length=yu.length) then(if b.2 then(if cw .i64 (a+1) then(dZ a0 a1 (a+1) b.1) else none) else(some (([]:LI),false))) else none) else(some (yu,true))
 partial_fixpoint
theorem xM {a0:bo}{a1:bn}:(∀ b yu,LH Tryz.prog (dZ a0 a1 b yu) (fun r=>.bO [aN r.1,aB r.2]) (tO a0 a1 b yu)):=by
 refine dZ.partial_correctness _ _ _ ?_
 exact fun dZ a b yu=>sL 4 a0.args<|sB 0 (sX 6 fun _=>sX 4 fun _=>sV fun d c=>sG fun e=>N0 3 (ie d c _ 3 [2] wK) (sI 4<|by unfold tO;rw[←e];exact sM 2 [[6,2,3,8]] [2,0,1] [] 3 (a _ _))<|sE (by exact bN EE 6 (v:=.bO [.an,aB false]) kr (Fz.bw (.an) (.pure pv))))<|sE (by exact bN EE 6 (v:=.bO [.ai 2 0 yu.length,aB true]) kr (Fz.bw (Fz.lN (sz:=1) (es:=(yu.map (az .i64))) kr (by simp) pl) (.pure pv)))
def eP (a0:bo)(a1:bn)(a:Int)(oU:LI):Option (LI×Bool):=
 if decide (a<oU.length) then(bP oU a>>=fun b=>bP oU a>>=fun c=>if cw .i64 (a+1) then(eP a0 a1 (a+1) (oU.set (a:Int).toNat (-1))) else none) else(dZ a0 a1 0 oU)
 partial_fixpoint
theorem xN {a0:bo}{a1:bn}:(∀ b oU,LH Tryz.prog (eP a0 a1 b oU) (fun r=>.bO [aN r.1,aB r.2]) (oB a0 a1 b oU)):=by
 refine eP.partial_correctness _ _ _ ?_
 exact fun eP a b oU=>sB 4 (sV fun _ c=>sT (bF EE 4 (fun S=>wS Tryz.prog S 45 (.ai 2 0 oU.length) (aI b)) (fun S=>.val (.ptr 2 (0+(b:Int).toNat) 0) S) kr kr (lD (xs:=oU) (es:=oU.map (az .i64)) (el:=3) (n:=1) c (by first | rfl | (simp;done) | omega | (simp;omega)) kr kr kr))<|sV fun e d=>sT (bF EE 0 (fun S=>Lb Tryz.prog S 3 (.ptr 2 (0+(b:Int).toNat) 0) (aI (-1))) (fun S=>.skip (S.set 2 (.arr 1 ((oU.set (b:Int).toNat (-1)).map (az .i64))))) kr kr (pq (n:=1) (m:=1) (enc:=(az .i64)) (xs:=oU) (i:=b) (x' := (-1)) d kr (cs:=(AV.agg [aI e]).cells) rfl kr kr rfl))<|sI 3<|by unfold oB;rw[show oU.length=(oU.set (b:Int).toNat (-1)).length by simp];exact sM 2 [[6,2,3,7]] [2,0,1] [] 3 (a _ _))<|sK 3 [[6,2,3,8]] [2,0,1] (xM _ _)
def mc (a0:bo)(a1:bn):Option (LI×Bool):=
 if decide (0≤a1.bg∧(a1.bg:Int).toNat*9≤2 ^ 40) then(eP a0 a1 0 (List.replicate (a1.bg:Int).toNat (0:Int))) else none
theorem Bz {a0:bo}{a1:bn}:LF Tryz.prog (mc a0 a1) 111 [.agg [aT a0.args,aI a0.next],.agg [aI a1.vl,aT a1.cK,aI a1.gR.Op,aI a1.gR.N,aT a1.gR.Kids,aI a1.bg]] (fun r=>.bO [aN r.1,aB r.2]):=
 sF<|sG fun a=>sT (bF EE 8 (fun S=>akF Tryz.prog S 45 (aI a1.bg) (aI a1.bg)) (fun S=>.val (.ai 2 0 (List.replicate (a1.bg:Int).toNat (0:Int)).length) (S.add (.arr 1 ((List.replicate (a1.bg:Int).toNat (0:Int)).map (az .i64))))) kr kr (aes (enc:=(az .i64)) (z0:=0) (el:=3) (bytes:=8) kr kr kr a))<|sK 4 [[6,2,3,7]] [2,0,1] (xN _ _)
noncomputable def KK : St:=sN 4 (ak (aB false) none (sN 0 (ak (aI 0) none (sN 4 (ak (aB true) none (sN 9 (St.start T0 181 [.agg [.lit [],.lit [],.lit []],aI 0,.agg [aI 0,aI 0,.lit [],.lit [],aI 0,.lit []],.agg [.lit [],aI 0]] ag.empty)))))))
noncomputable def KL := fun(a0:aJ) a1 (a2:af) (a3:bo) a=>fV KK 3 fun o=>([[(6,aP (o 1)),(4,aP (o 0)),(7,aP (o 2)),(1,aI a1),(9,aI a)]],[((o 1),.arr 6 [.agg [aI a2.Op,aI a2.Var,.lit (a2.bl.map aZ),.lit (a2.Kids.map au),aI a2.bY,aN a2.bg]]),((o 0),.arr 3 [.agg [aM a0.cy.Cons,aM a0.cy.bq,.lit (a0.aO.map ay)]]),((o 2),.arr 2 [.agg [aT a3.args,aI a3.next]])])
noncomputable def HK : St:=sN 4 (ak (aB true) none (sN 0 (ak (aI 0) none (sN 4 (ak (aB true) none (sN 2 (ak (aB false) none (sN 5 (ak (aB false) none (sN 4 (ak (aB true) none (sN 7 (St.start T0 116 [.agg [.lit [],.lit [],.lit []],aI 0,.agg [aI 0,aI 0,.lit [],.lit [],aI 0,.lit []],.agg [.lit [],aI 0]] ag.empty)))))))))))))
noncomputable def HL := fun(a0:aJ) a1 (a2:af) (a3:bo) a=>fV HK 3 fun o=>([[(7,aP (o 2)),(6,aP (o 1)),(1,aI a1),(4,aP (o 0)),(9,aI a)]],[((o 2),.arr 2 [.agg [aT a3.args,aI a3.next]]),((o 1),.arr 6 [.agg [aI a2.Op,aI a2.Var,.lit (a2.bl.map aZ),.lit (a2.Kids.map au),aI a2.bY,aN a2.bg]]),((o 0),.arr 3 [.agg [aM a0.cy.Cons,aM a0.cy.bq,.lit (a0.aO.map ay)]])])
mutual
def dQ (a0:aJ)(a1:Int)(a2:af)(a3:bo)(b:Int):Option (Bool):=
 if decide (b<(a2.bl.length:Int)) then(bP a2.bl b>>=fun a=>if cw .i64 ((a0.cy.Cons.length:Int)-1) then(Cb a.BH 0 ((a0.cy.Cons.length:Int)-1)>>=fun c=>if c then(if decide (b>0) then(if cw .i64 (b-1) then(bP a2.bl (b-1)>>=fun d=>if decide ((a.BH:Int)≤d.BH) then(some false) else(bP a0.cy.Cons a.BH>>=fun e=>qJ a3.next e.bu>>=fun f=>jI a.bg f>>=fun g=>if g then(ke a3 a0.cy a2.Var a.BH>>=fun h=>dT a0 a1 a.fb h>>=fun i=>if i then(if cw .i64 (b+1) then(dQ a0 a1 a2 a3 (b+1)) else none) else(some false)) else(some false))) else none) else(bP a0.cy.Cons a.BH>>=fun j=>qJ a3.next j.bu>>=fun k=>jI a.bg k>>=fun l=>if l then(ke a3 a0.cy a2.Var a.BH>>=fun m=>dT a0 a1 a.fb m>>=fun v51=>if v51 then(if cw .i64 (b+1) then(dQ a0 a1 a2 a3 (b+1)) else none) else(some false)) else(some false))) else(some false)) else none) else(some true)
 partial_fixpoint
def dT (a0:aJ)(a1:Int)(a2:af)(a3:bo):Option (Bool):=
 yl a2>>=fun v0=>if v0 then(if decide ((a3.next:Int)>60) then(some false) else(if decide ((a2.Op:Int)=1) then(rT a0 a1 a2 a3>>=fun v3=>if v3 then(some true) else(some false)) else(if decide ((a2.Op:Int)=2) then(Cb (a2.Kids.length:Int) 2 16>>=fun v5=>if v5 then(iH a0 a1 a2 a3 0) else(some false)) else(if decide ((a2.Op:Int)=3) then(xo a0 a2.bY>>=fun b=>if b then(bP a0.aO a2.bY>>=fun c=>if(!decide ((c.vl:Int)=a1)) then(some false) else(bP a0.aO a2.bY>>=fun d=>mc a3 d>>=fun a=>if a.2 then(jI a.1 a2.bg>>=fun NS=>if NS then(some true) else(some false)) else(some false))) else(some false)) else(if decide ((a2.Op:Int)=4) then(some true) else(some false)))))) else(some false)
 partial_fixpoint
def iH (a0:aJ)(a1:Int)(a2:af)(a3:bo)(a:Int):Option (Bool):=
 if decide (a<(a2.Kids.length:Int)) then(bP a2.Kids a>>=fun b=>dT a0 a1 b a3>>=fun c=>if c then(if cw .i64 (a+1) then(iH a0 a1 a2 a3 (a+1)) else none) else(some false)) else(some true)
 partial_fixpoint
def rT (a0:aJ)(a1:Int)(a2:af)(a3:bo):Option (Bool):=
 kV a3 a2.Var>>=fun v0=>if v0 then(if decide ((a2.bl.length:Int)=0) then(some false) else(dQ a0 a1 a2 a3 0)) else(some false)
 partial_fixpoint
end
theorem wB {a0:aJ}:(∀ a2 a3 c,LH Tryz.prog (dQ a0 a1 a2 a3 c) aB (KL a0 a1 a2 a3 c))∧(∀ a2 a3,LF Tryz.prog (dT a0 a1 a2 a3) 116 [.agg [aM a0.cy.Cons,aM a0.cy.bq,.lit (a0.aO.map ay)],aI a1,.agg [aI a2.Op,aI a2.Var,.lit (a2.bl.map aZ),.lit (a2.Kids.map au),aI a2.bY,aN a2.bg],.agg [aT a3.args,aI a3.next]] aB)∧(∀ a2 a3 d,LH Tryz.prog (iH a0 a1 a2 a3 d) aB (HL a0 a1 a2 a3 d))∧(∀ a2 a3,LF Tryz.prog (rT a0 a1 a2 a3) 181 [.agg [aM a0.cy.Cons,aM a0.cy.bq,.lit (a0.aO.map ay)],aI a1,.agg [aI a2.Op,aI a2.Var,.lit (a2.bl.map aZ),.lit (a2.Kids.map au),aI a2.bY,aN a2.bg],.agg [aT a3.args,aI a3.next]] aB):=by
 refine dQ.mutual_partial_correctness _ _ _ _ _ _ ?_ ?_ ?_ ?_
 · exact fun dQ dT a ly a2 a3 c=>sL 4 a2.bl<|sB 0 (sX 5 fun _=>sL 10 a0.cy.Cons<|sI 0<|fH 1 IX (sB 4 (sI 6<|sX 0 fun _=>sB 2 (sR 42)<|sX 12 fun _=>sC 2 tH fun _=>fH 1 q7 (sC 15 tN fun _=>fH 1 (ly _ _) (sI 5<|sM 2 [[6,4,7,1,9]] [1,0,2] [] 4 (a _ _ _))<|sR 6)<|sR 24)<|sX 23 fun _=>sC 2 tH fun _=>fH 1 q7 (sC 15 tN fun _=>fH 1 (ly _ _) (sI 5<|sM 2 [[6,4,7,1,9]] [1,0,2] [] 4 (a _ _ _))<|sR 6)<|sR 24)<|sR 58)<|sR 4
 · exact fun iH rT b Be a2 a3=>sF<|fH 7 KG (sB 4 (sR 5)<|sB 5 (fH 6 (Be _ _) (sR 3)<|sR 3)<|sB 2 (sL 4 a2.Kids<|fH 0 IX (sK 4 [[7,6,1,4,9]] [2,1,0] (b _ _ _))<|sR 5)<|sB 2 (fH 5 Nn (sX 6 fun _=>sB 3 (sR 5)<|sX 8 fun _=>sC 2 Bz fun _=>WI 3 (fH 9 q7 (sR 4)<|sR 4)<|sR 14)<|sR 16)<|sB 4 (sR 3)<|sR 3)<|sR 10
 · exact fun dT iH ly b a2 a3 d=>sL 4 a2.Kids<|sB 0 (sX 8 fun _=>fH 3 (ly _ _) (sI 4<|sK 2 [[7,6,1,4,9]] [2,1,0] (b _ _ _))<|sR 5)<|sR 4
 · exact fun dQ a a2 a3=>sF<|fH 9 wQ (sL 4 a2.bl<|sB 0 (sR 5)<|sK 4 [[6,4,7,1,9]] [1,0,2] (a _ _ _))<|sR 11
theorem ly {a0:aJ}{a2:af}{a3:bo}:LF Tryz.prog (dT a0 a1 a2 a3) 116 [.agg [aM a0.cy.Cons,aM a0.cy.bq,.lit (a0.aO.map ay)],aI a1,.agg [aI a2.Op,aI a2.Var,.lit (a2.bl.map aZ),.lit (a2.Kids.map au),aI a2.bY,aN a2.bg],.agg [aT a3.args,aI a3.next]] aB:=wB.2.1 _ _
theorem Be {a0:aJ}{a2:af}{a3:bo}:LF Tryz.prog (rT a0 a1 a2 a3) 181 [.agg [aM a0.cy.Cons,aM a0.cy.bq,.lit (a0.aO.map ay)],aI a1,.agg [aI a2.Op,aI a2.Var,.lit (a2.bl.map aZ),.lit (a2.Kids.map au),aI a2.bY,aN a2.bg],.agg [aT a3.args,aI a3.next]] aB:=wB.2.2.2 _ _
def zK (a0:aJ)(a1:Int)(a2:af):Option (Bool):=
 ll a2 100 100>>=fun v0=>if decide (v0≥0) then(yk a0 a1>>=fun v2=>dT a0 a1 a2 v2>>=fun v3=>if v3 then(some true) else(some false)) else(some false)
theorem HM {a0:aJ}{a2:af}:LF Tryz.prog (zK a0 a1 a2) 76 [.agg [aM a0.cy.Cons,aM a0.cy.bq,.lit (a0.aO.map ay)],aI a1,.agg [aI a2.Op,aI a2.Var,.lit (a2.bl.map aZ),.lit (a2.Kids.map au),aI a2.bY,aN a2.bg]] aB:=
 sF<|sC 8 mn fun _=>sB 1 (sC 6 KF fun _=>fH 1 ly (sR 4)<|sR 4)<|sR 13
noncomputable def PG : St:=sN 10 (ak (aB true) none (sN 8 (St.start T0 104 [.agg [aI 0,aI 0,.lit [],.lit [],aI 0,.lit []]] ag.empty)))
noncomputable def Gc := fun(a0:af) a (Ic:LI)=>fV PG 3 fun o=>([[(1,aP (o 0)),(4,aI a),(3,.ai (o 2) 0 Ic.length)]],[((o 0),.arr 6 [.agg [aI a0.Op,aI a0.Var,.lit (a0.bl.map aZ),.lit (a0.Kids.map au),aI a0.bY,aN a0.bg]]),((o 2),.arr 1 (Ic.map (az .i64)))])
noncomputable def PH : St:=sN 3 (ak (aB false) none (sN 0 (ak (aI 0) none (sN 4 (dz Gc)))))
noncomputable def PI := fun(a0:af) a (vm:LI)=>fV PH 3 fun o=>([[(1,aP (o 0)),(5,aI a),(3,.ai (o 2) 0 vm.length)]],[((o 0),.arr 6 [.agg [aI a0.Op,aI a0.Var,.lit (a0.bl.map aZ),.lit (a0.Kids.map au),aI a0.bY,aN a0.bg]]),((o 2),.arr 1 (vm.map (az .i64)))])
noncomputable def PJ : St:=sN 3 (ak (aB false) none (sN 8 (St.start T0 104 [.agg [aI 0,aI 0,.lit [],.lit [],aI 0,.lit []]] ag.empty)))
noncomputable def Gd := fun(a0:af) a=>fV PJ 1 fun o=>([[(1,aP (o 0)),(4,aI a),(3,.an)]],[((o 0),.arr 6 [.agg [aI a0.Op,aI a0.Var,.lit (a0.bl.map aZ),.lit (a0.Kids.map au),aI a0.bY,aN a0.bg]])])
noncomputable def PK : St:=sN 3 (ak (aB false) none (sN 0 (ak (aI 0) none (sN 4 (dz Gd)))))
noncomputable def PL := fun(a0:af) a=>fV PK 1 fun o=>([[(1,aP (o 0)),(5,aI a),(3,.an)]],[((o 0),.arr 6 [.agg [aI a0.Op,aI a0.Var,.lit (a0.bl.map aZ),.lit (a0.Kids.map au),aI a0.bY,aN a0.bg]])])
mutual
def iQ (a0:af)(a:Int)(vm:LI):Option (LI):=
 if decide (a<(a0.bl.length:Int)) then(bP a0.bl a>>=fun c=>jg c.fb>>=fun b=>if b.isEmpty then(if cw .i64 (a+1) then(iQ a0 (a+1) vm) else none) else(if decide (vm.length+b.length≤1048576) then(if cw .i64 (a+1) then(iQ a0 (a+1) (vm++b)) else none) else none)) else(some vm)
 partial_fixpoint
def jg (a0:af):Option (LI):=
 if decide ((a0.Op:Int)=3) then(jo a0 0 [a0.bY]) else(pB a0 0)
 partial_fixpoint
def pB (a0:af)(a:Int):Option (LI):=
 if decide (a<(a0.Kids.length:Int)) then(bP a0.Kids a>>=fun c=>jg c>>=fun b=>if b.isEmpty then(if cw .i64 (a+1) then(pB a0 (a+1)) else none) else(if decide (b.length≤1048576) then(if cw .i64 (a+1) then(jo a0 (a+1) b) else none) else none)) else(nH a0 0)
 partial_fixpoint
def nH (a0:af)(a:Int):Option (LI):=
 if decide (a<(a0.bl.length:Int)) then(bP a0.bl a>>=fun c=>jg c.fb>>=fun b=>if b.isEmpty then(if cw .i64 (a+1) then(nH a0 (a+1)) else none) else(if decide (b.length≤1048576) then(if cw .i64 (a+1) then(iQ a0 (a+1) b) else none) else none)) else(some ([]:LI))
 partial_fixpoint
def jo (a0:af)(a:Int)(Ic:LI):Option (LI):=
 if decide (a<(a0.Kids.length:Int)) then(bP a0.Kids a>>=fun b=>jg b>>=fun v53=>if v53.isEmpty then(if cw .i64 (a+1) then(jo a0 (a+1) Ic) else none) else(if decide (Ic.length+v53.length≤1048576) then(if cw .i64 (a+1) then(jo a0 (a+1) (Ic++v53)) else none) else none)) else(iQ a0 0 Ic)
 partial_fixpoint
end
theorem HN  : (∀ a0 h vm,LH Tryz.prog (iQ a0 h vm) aN (PI a0 h vm))∧(∀ a0,LF Tryz.prog (jg a0) 104 [.agg [aI a0.Op,aI a0.Var,.lit (a0.bl.map aZ),.lit (a0.Kids.map au),aI a0.bY,aN a0.bg]] aN)∧(∀ a0 i,LH Tryz.prog (pB a0 i) aN (Gd a0 i))∧(∀ a0 e,LH Tryz.prog (nH a0 e) aN (PL a0 e))∧(∀ a0 j Ic,LH Tryz.prog (jo a0 j Ic) aN (Gc a0 j Ic)):=by
 refine iQ.mutual_partial_correctness _ _ _ _ _ ?_ ?_ ?_ ?_ ?_
 · exact fun iQ jg a kP a0 h vm=>sL 4 a0.bl<|sB 0 (sX 6 fun _=>sC 2 (kP _) fun k=>sS (fun afT=>sT (bF EE 0 (fun S=>mN Tryz.prog S 45 45 (.ai 2 0 vm.length) (aN k)) (fun S=>.val (.ai 2 0 vm.length) S) kr kr (dH (enc:=(az .i64)) (el:=3) (sz:=1) (ys:=k) kr kr (bC _ (.inl rfl)) afT (bC (enc:=(az .i64)) (ys:=vm) _ (.inr ⟨2,1,rfl,by kernel_rfl⟩)) (dY (enc:=(az .i64)) (fun _=>rfl) (fun _=>by kernel_rfl) _)))<|sI 4<|sK 2 [[1,5,3]] [0,2] (a _ _ _)) fun afT=>Re 0 2 3 (bK afT)<|sI 4<|sM 2 [[1,5,3]] [0,3] [(2,3)] 4 (a _ _ _))<|G4 5 2
 · exact fun pB jo c b a0=>sF<|sB 8 (sK 10 [[1,4,3]] [0,2] (b _ _ _))<|sK 3 [[1,4,3]] [0] (c _ _)
 · exact fun jg pB nH jo kP c d b a0 i=>sL 4 a0.Kids<|sB 0 (sX 6 fun _=>sC 1 (kP _) fun f=>sS (fun Tv=>sT (bF EE 0 (fun S=>mN Tryz.prog S 45 45 (.an) (aN f)) (fun S=>.val (.an) S) kr kr (dH (enc:=(az .i64)) (el:=3) (sz:=1) (ys:=f) kr kr (bC _ (.inl rfl)) Tv rfl rfl))<|sI 4<|sK 2 [[1,4,3]] [0] (c _ _)) fun Tv=>ZZ 0 1 (bK Tv)<|sI 4<|sT (B9 EE 2 5 kr)<|sM 0 [[1,4,3]] [0,1] [(2,1),(1,3)] 5 (b _ _ _))<|sK 3 [[1,5,3]] [0] (d _ _)
 · exact fun iQ jg nH a kP d a0 e=>sL 4 a0.bl<|sB 0 (sX 6 fun _=>sC 2 (kP _) fun g=>sS (fun Lm=>sT (bF EE 0 (fun S=>mN Tryz.prog S 45 45 (.an) (aN g)) (fun S=>.val (.an) S) kr kr (dH (enc:=(az .i64)) (el:=3) (sz:=1) (ys:=g) kr kr (bC _ (.inl rfl)) Lm rfl rfl))<|sI 4<|sK 2 [[1,5,3]] [0] (d _ _)) fun Lm=>ZZ 0 1 (bK Lm)<|sI 4<|sT (B9 EE 2 5 kr)<|sM 0 [[1,5,3]] [0,1] [(2,1),(1,3)] 5 (a _ _ _))<|Ta 5
 · exact fun iQ jg jo a kP b a0 j Ic=>sL 4 a0.Kids<|sB 0 (sX 6 fun _=>sC 1 (kP _) fun v53=>sS (fun afU=>sT (bF EE 0 (fun S=>mN Tryz.prog S 45 45 (.ai 2 0 Ic.length) (aN v53)) (fun S=>.val (.ai 2 0 Ic.length) S) kr kr (dH (enc:=(az .i64)) (el:=3) (sz:=1) (ys:=v53) kr kr (bC _ (.inl rfl)) afU (bC (enc:=(az .i64)) (ys:=Ic) _ (.inr ⟨2,1,rfl,by kernel_rfl⟩)) (dY (enc:=(az .i64)) (fun _=>rfl) (fun _=>by kernel_rfl) _)))<|sI 4<|sK 2 [[1,4,3]] [0,2] (b _ _ _)) fun afU=>Re 0 2 3 (bK afU)<|sI 4<|sM 2 [[1,4,3]] [0,3] [(2,3)] 4 (b _ _ _))<|sK 3 [[1,5,3]] [0,2] (a _ _ _)
theorem kP {a0:af}:LF Tryz.prog (jg a0) 104 [.agg [aI a0.Op,aI a0.Var,.lit (a0.bl.map aZ),.lit (a0.Kids.map au),aI a0.bY,aN a0.bg]] aN:=HN.2.1 _
noncomputable def KN : St:=sN 8 (St.start T0 105 [.agg [.lit [],.lit [],.lit []],aI 0] ag.empty)
noncomputable def Bf := fun(a0:aJ) a1 a=>fV KN 1 fun o=>([[(1,aI a1),(2,aP (o 0)),(6,aI a),(5,.an)]],[((o 0),.arr 3 [.agg [aM a0.cy.Cons,aM a0.cy.bq,.lit (a0.aO.map ay)]])])
noncomputable def KO : St:=sN 2 (ak (aI 0) none (sN 9 (ak (aB true) none (sN 3 (ak (.dN [aI 0,.lit [],aI 0,aI 0,.lit [],aI 0]) none (sN 5 (ak (aB true) none (sN 0 (ak (aI 0) none (sN 4 (dz Bf)))))))))))
noncomputable def KP := fun(a0:aJ) a1 a (yO:LI)=>fV KO 3 fun o=>([[(1,aI a1),(2,aP (o 0)),(6,aI a),(5,.ai (o 2) 0 yO.length)]],[((o 0),.arr 3 [.agg [aM a0.cy.Cons,aM a0.cy.bq,.lit (a0.aO.map ay)]]),((o 2),.arr 1 (yO.map (az .i64)))])
def kE (a0:aJ)(a1 a:Int)(yO:LI):Option (LI):=
 if decide (a<(a0.aO.length:Int)) then(bP a0.aO a>>=fun b=>if decide ((b.vl:Int)=a1) then(if decide (yO.length+[a].length≤1048576) then(if cw .i64 (a+1) then(kE a0 a1 (a+1) (yO++[a])) else none) else none) else(if cw .i64 (a+1) then(kE a0 a1 (a+1) yO) else none)) else(some yO)
 partial_fixpoint
theorem Ea {a0:aJ}:(∀ b yO,LH Tryz.prog (kE a0 a1 b yO) aN (KP a0 a1 b yO)):=by
 refine kE.partial_correctness _ _ _ ?_
 exact fun kE a b yO=>sL 4 a0.aO<|sB 0 (sX 5 fun _=>sB 3 (sA 4 2 3 4<|sI 4<|sM 2 [[1,2,6,5]] [0,4] [(2,4)] 5 (a _ _))<|sI 3<|sK 2 [[1,2,6,5]] [0,2] (a _ _))<|G4 5 2
def nM (a0:aJ)(a1 a:Int):Option (LI):=
 if decide (a<(a0.aO.length:Int)) then(bP a0.aO a>>=fun b=>if decide ((b.vl:Int)=a1) then(if cw .i64 (a+1) then(kE a0 a1 (a+1) [a]) else none) else(if cw .i64 (a+1) then(nM a0 a1 (a+1)) else none)) else(some ([]:LI))
 partial_fixpoint
theorem Eb {a0:aJ}:(∀ b,LH Tryz.prog (nM a0 a1 b) aN (Bf a0 a1 b)):=by
 refine nM.partial_correctness _ _ _ ?_
 exact fun nM a b=>sL 4 a0.aO<|sB 0 (sX 5 fun _=>sB 3 (sI 9<|sK 2 [[1,2,6,5]] [0,2] (Ea _ _))<|sI 3<|sK 2 [[1,2,6,5]] [0] (a _))<|Ta 5
def ym (a0:aJ)(a1:Int):Option (LI):=
 nM a0 a1 0
theorem KQ {a0:aJ}:LF Tryz.prog (ym a0 a1) 105 [.agg [aM a0.cy.Cons,aM a0.cy.bq,.lit (a0.aO.map ay)],aI a1] aN:=
 sF<|sK 8 [[1,2,6,5]] [0] (Eb _)
noncomputable def No : St:=sN 3 (ak (aB false) none (sN 0 (ak (aI 0) none (sN 1 (ak (aI 0) none (sN 4 (ak (.lit []) none (sN 3 (ak (.lit []) none (sN 4 (ak (aB true) none (sN 8 (St.start T0 68 [.agg [.lit [],.lit [],.lit []],aI 0,.agg [aI 0,aI 0,.lit [],.lit [],aI 0,.lit []]] ag.empty)))))))))))))
noncomputable def Np := fun v1 v2 a=>fV No 2 fun o=>([[(8,aN v2),(7,aN v1),(9,aI a)]],[])
def kQ (v1:(LI))(v2:(LI))(a:Int):Option (Bool):=
 if decide (a<(v2.length:Int)) then(bP v2 a>>=fun b=>x5 v1 b>>=fun c=>if c then(if cw .i64 (a+1) then(kQ v1 v2 (a+1)) else none) else(some false)) else(some true)
 partial_fixpoint
theorem GI {v2:(LI)}:(∀ b,LH Tryz.prog (kQ v1 v2 b) aB (Np v1 v2 b)):=by
 refine kQ.partial_correctness _ _ _ ?_
 exact fun kQ a b=>sL 3 v2<|sB 0 (sX 5 fun _=>fH 1 Gb (sI 4<|sK 2 [[8,7,9]] [] (a _))<|sR 5)<|sR 4
def xp (a0:aJ)(a1:Int)(a2:af):Option (Bool):=
 zK a0 a1 a2>>=fun v0=>if v0 then(jg a2>>=fun v1=>ym a0 a1>>=fun v2=>if(!decide ((v1.length:Int)=(v2.length:Int))) then(some false) else(kQ v1 v2 0)) else(some false)
theorem Nq {a0:aJ}{a2:af}:LF Tryz.prog (xp a0 a1 a2) 68 [.agg [aM a0.cy.Cons,aM a0.cy.bq,.lit (a0.aO.map ay)],aI a1,.agg [aI a2.Op,aI a2.Var,.lit (a2.bl.map aZ),.lit (a2.Kids.map au),aI a2.bY,aN a2.bg]] aB:=
 sF<|fH 8 HM (sC 4 kP fun v1=>sC 3 KQ fun v2=>sL 4 v1<|sL 1 v2<|sB 0 (sR 4)<|sK 3 [[8,7,9]] [] (GI _))<|sR 5
noncomputable def Nr : St:=sN 4 (ak (aB false) none (sN 0 (ak (aI 0) none (sN 4 (ak (aI 0) none (sN 4 (ak (aB true) none (sN 6 (St.start T0 36 [.agg [.lit [],.lit [],.lit [],.lit []]] ag.empty)))))))))
noncomputable def Ns := fun(a0:bA) a=>fV Nr 1 fun o=>([[(1,aP (o 0)),(3,aI a)]],[((o 0),.arr 4 [.agg [aM a0.Prog.cy.Cons,aM a0.Prog.cy.bq,.lit (a0.Prog.aO.map ay),.lit (a0.bX.map au)]])])
def lT (a0:bA)(a:Int):Option (Bool):=
 if decide (a<(a0.bX.length:Int)) then(bP a0.bX a>>=fun b=>xp a0.Prog a b>>=fun c=>if c then(if cw .i64 (a+1) then(lT a0 (a+1)) else none) else(some false)) else(some true)
 partial_fixpoint
theorem GJ {a0:bA}:(∀ b,LH Tryz.prog (lT a0 b) aB (Ns a0 b)):=by
 refine lT.partial_correctness _ _ ?_
 exact fun lT a b=>sL 4 a0.bX<|sB 0 (sX 9 fun _=>fH 2 Nq (sI 4<|sK 2 [[1,3]] [0] (a _))<|sR 5)<|sR 4
def xq (a0:bA):Option (Bool):=
 AU a0.Prog>>=fun v0=>if v0 then(if(!decide ((a0.bX.length:Int)=(a0.Prog.cy.bq.length:Int))) then(some false) else(lT a0 0)) else(some false)
theorem Nt {a0:bA}:LF Tryz.prog (xq a0) 36 [.agg [aM a0.Prog.cy.Cons,aM a0.Prog.cy.bq,.lit (a0.Prog.aO.map ay),.lit (a0.bX.map au)]] aB:=
 sF<|fH 6 Nb (sL 4 a0.bX<|sL 4 a0.Prog.cy.bq<|sB 0 (sR 5)<|sK 4 [[1,3]] [0] (GJ _))<|sR 16
def vz (a0 a1 a2:Int):Option (Bool):=
 if decide (a0≥a1) then(if decide (a0≤a2) then(some true) else(some false)) else(some false)
theorem uZ {a0:Int}:LF Tryz.prog (vz a0 a1 a2) 38 [aI a0,aI a1,aI a2] aB:=
 sF<|sB 5 (sB 3 (sR 4)<|sR 4)<|sR 8
noncomputable def Nu : St:=sN 6 (St.start T0 107 [.agg [aI 0,aI 0,.lit []]] ag.empty)
noncomputable def Nv := fun a0 a=>fV Nu 1 fun o=>([[(1,aP (o 0)),(3,aI a)]],[((o 0),.arr 3 [aK a0])])
mutual
def lU (a0:Term)(a:Int):Option (Bool):=
 if decide (a<(a0.Kids.length:Int)) then(bP a0.Kids a>>=fun b=>qK b>>=fun c=>if c then(if cw .i64 (a+1) then(lU a0 (a+1)) else none) else(some false)) else(if(!decide ((a0.Op:Int)=8)) then(some true) else(some false))
 partial_fixpoint
def qK (a0:Term):Option (Bool):=
 lU a0 0
 partial_fixpoint
end
theorem GL  : (∀ a0 b,LH Tryz.prog (lU a0 b) aB (Nv a0 b))∧(∀ a0,LF Tryz.prog (qK a0) 107 [aK a0] aB):=by
 refine lU.mutual_partial_correctness _ _ ?_ ?_
 · exact fun lU qK a xD a0 b=>sL 4 a0.Kids<|sB 0 (sX 5 fun _=>fH 1 (xD _) (sI 4<|sK 2 [[1,3]] [0] (a _ _))<|sR 5)<|sB 3 (sR 3)<|sR 3
 · exact fun lU a a0=>sF<|sK 6 [[1,3]] [0] (a _ _)
theorem xD {a0:Term}:LF Tryz.prog (qK a0) 107 [aK a0] aB:=GL.2 _
def AX (a0:aE)(a1:Term):Option (Bool):=
 uP a0 a1>>=fun v0=>if v0 then(qK a1>>=fun v1=>if v1 then(some true) else(some false)) else(some false)
theorem Nw {a1:Term}:LF Tryz.prog (AX a0 a1) 69 [aG a0,aK a1] aB:=
 sF<|fH 7 xB (fH 2 xD (sR 4)<|sR 4)<|sR 7
noncomputable def Nx : St:=sN 4 (ak (aB false) none (sN 0 (ak (aI 0) none (sN 4 (ak (aB false) none (sN 2 (ak (.dN [.sc (.string ⟨#[]⟩),aI 0]) none (sN 6 (ak (aB false) none (sN 2 (ak (.dN [.sc (.string ⟨#[]⟩),aI 0]) none (sN 7 (ak (aB true) none (sN 0 (ak (aI 0) none (sN 0 (ak (aI 0) none (sN 6 (ak (aB true) none (sN 0 (ak (aI 0) none (sN 0 (ak (aI 0) none (sN 15 (St.start T0 37 [.agg [.lit [],.lit [],.lit [],.lit []],.agg [aI 0,aI 0,.lit []]] ag.empty)))))))))))))))))))))))))
noncomputable def Du := fun(a0:bA) (a1:aj) a=>fV Nx 3 fun o=>([[(3,aP (o 1)),(5,aP (o 2)),(6,aI a)]],[((o 1),.arr 3 [.agg [aI a1.Nil,aI a1.Cons,.lit (a1.Steps.map ar)]]),((o 2),.arr 2 [.agg [aM a0.Prog.cy.Cons,aM a0.Prog.cy.bq]])])
noncomputable def Ny : St:=sN 5 (ak (aB true) none (sN 6 (ak (aB true) none (sN 4 (ak (aB true) none (sN 6 (ak (.dN [aI 0,aI 0,aI 0,aI 0,.lit []]) none (sN 5 (ak (aB true) none (sN 0 (ak (aI 0) none (sN 4 (dz Du)))))))))))))
noncomputable def Nz := fun(a0:bA) (a1:aj) b (a:aA) c=>fV Ny 4 fun o=>([[(7,aP (o 3)),(3,aP (o 1)),(5,aP (o 2)),(6,aI b),(8,aI c)]],[((o 3),.arr 5 [.agg [aI a.Op,aI a.Var,aI a.Expr.Op,aI a.Expr.N,aT a.Expr.Kids]]),((o 1),.arr 3 [.agg [aI a1.Nil,aI a1.Cons,.lit (a1.Steps.map ar)]]),((o 2),.arr 2 [.agg [aM a0.Prog.cy.Cons,aM a0.Prog.cy.bq]])])
mutual
def jR (a0:bA)(a1:aj)(a:Int)(c:aA)(b:Int):Option (Bool):=
 if decide (b<a) then(bP a1.Steps b>>=fun d=>if decide ((d.Var:Int)=c.Var) then(some false) else(if cw .i64 (b+1) then(jR a0 a1 a c (b+1)) else none)) else(if cw .i64 (a+1) then(ga a0 a1 (a+1)) else none)
 partial_fixpoint
def ga (a0:bA)(a1:aj)(b:Int):Option (Bool):=
 if decide (b<(a1.Steps.length:Int)) then(bP a1.Steps b>>=fun a=>vz a.Op 1 5>>=fun c=>if c then(vz a.Var 0 19>>=fun d=>if d then(AX a0.Prog.cy a.Expr>>=fun e=>if e then(jR a0 a1 b a 0) else(some false)) else(some false)) else(some false)) else(some true)
 partial_fixpoint
end
theorem GM {a0:bA}{a1:aj}:(∀ c d e,LH Tryz.prog (jR a0 a1 c d e) aB (Nz a0 a1 c d e))∧(∀ c,LH Tryz.prog (ga a0 a1 c) aB (Du a0 a1 c)):=by
 refine jR.mutual_partial_correctness _ _ _ _ ?_ ?_
 · exact fun jR ga a b c d e=>sB 3 (DC 6 31 56 cB fun f _=>sB 4 (sR 5)<|sI 4<|sK 2 [[7,3,5,6,8]] [3,1,2] (a _ _ _))<|sI 3<|sM 2 [[3,5,6]] [1,2] [] 4 (b _)
 · exact fun jR a c=>sL 4 a1.Steps<|sB 0 (DC 5 31 56 cB fun d _=>fH 6 uZ (fH 4 uZ (fH 6 Nw (sK 5 [[7,3,5,6,8]] [3,1,2] (a _ _ _))<|sR 6)<|sR 13)<|sR 18)<|sR 4
def AY (a0:bA)(a1:aj):Option (Bool):=
 if cw .i64 ((a0.Prog.cy.Cons.length:Int)-1) then(vz a1.Nil 0 ((a0.Prog.cy.Cons.length:Int)-1)>>=fun v0=>if v0 then(if cw .i64 ((a0.Prog.cy.Cons.length:Int)-1) then(vz a1.Cons 0 ((a0.Prog.cy.Cons.length:Int)-1)>>=fun v1=>if v1 then(bP a0.Prog.cy.Cons a1.Nil>>=fun a=>if(!decide ((a.bu:Int)=0)) then(some false) else(bP a0.Prog.cy.Cons a1.Cons>>=fun b=>if(!decide ((b.bu:Int)=2)) then(some false) else(if decide ((a1.Steps.length:Int)>6) then(some false) else(ga a0 a1 0)))) else(some false)) else none) else(some false)) else none
theorem NA {a0:bA}{a1:aj}:LF Tryz.prog (AY a0 a1) 37 [.agg [aM a0.Prog.cy.Cons,aM a0.Prog.cy.bq,.lit (a0.Prog.aO.map ay),.lit (a0.bX.map au)],.agg [aI a1.Nil,aI a1.Cons,.lit (a1.Steps.map ar)]] aB:=
 sF<|sL 15 a0.Prog.cy.Cons<|sI 0<|fH 0 uZ (sL 6 a0.Prog.cy.Cons<|sI 0<|fH 0 uZ (sX 7 fun _=>sB 2 (sR 21)<|sX 6 fun _=>sB 2 (sR 11)<|sL 4 a1.Steps<|sB 0 (sR 5)<|sK 4 [[3,5,6]] [1,2] (GM.2 _))<|sR 32)<|sR 41
noncomputable def PM : St:=sN 4 (ak (.lit []) none (sN 5 (St.start T0 39 [.agg [aI 0,aI 0,.lit []],aI 0] ag.empty)))
noncomputable def PN := fun a1 v0 a=>fV PM 1 fun o=>([[(1,aI a1),(5,aN v0),(6,aI a)]],[])
def nI (a1:Int)(v0:(LI))(a:Int):Option (Bool):=
 if decide (a<(v0.length:Int)) then(bP v0 a>>=fun b=>if decide (b=a1) then(some true) else(if cw .i64 (a+1) then(nI a1 v0 (a+1)) else none)) else(some false)
 partial_fixpoint
theorem HO : (∀ b,LH Tryz.prog (nI a1 v0 b) aB (PN a1 v0 b)):=by
 refine nI.partial_correctness _ _ _ ?_
 exact fun nI a b=>sL 3 v0<|sB 0 (sX 4 fun _=>sB 2 (sR 4)<|sI 3<|sK 2 [[1,5,6]] [] (a _))<|sR 4
def vF (a0:Term)(a1:Int):Option (Bool):=
 fL a0>>=fun v0=>nI a1 v0 0
theorem Ge {a0:Term}:LF Tryz.prog (vF a0 a1) 39 [aK a0,aI a1] aB:=
 sF<|sC 5 iM fun _=>sK 4 [[1,5,6]] [] (HO _)
def xu (a0:bA)(a1:aj)(a2:Int):Option (aj×Int):=
 xq a0>>=fun v0=>if v0 then(AY a0 a1>>=fun v1=>if v1 then(if cw .i64 ((a1.Steps.length:Int)-2) then(vz a2 0 ((a1.Steps.length:Int)-2)>>=fun v2=>if v2 then(bP a1.Steps a2>>=fun a=>if cw .i64 (a2+1) then(bP a1.Steps (a2+1)>>=fun b=>vF a.Expr b.Var>>=fun v5=>if v5 then(some ((aj.mk 0 0 ([]:List aA)),7)) else(vF b.Expr a.Var>>=fun c=>if c then(some ((aj.mk 0 0 ([]:List aA)),7)) else(if decide (0≤a2∧a2≤(a1.Steps.length:Int)) then(if(a1.Steps.take (a2:Int).toNat).isEmpty then(if cw .i64 (a2+2) then(if decide (0≤(a2+2)∧(a2+2)≤(a1.Steps.length:Int)) then(if(a1.Steps.drop ((a2+2):Int).toNat).isEmpty then(some ((aj.mk a1.Nil a1.Cons [b,a]),0)) else(if decide ([b,a].length+(a1.Steps.drop ((a2+2):Int).toNat).length≤1048576) then(some ((aj.mk a1.Nil a1.Cons ([b,a]++(a1.Steps.drop ((a2+2):Int).toNat))),0)) else none)) else none) else none) else(if decide ((a1.Steps.take (a2:Int).toNat).length≤1048576) then(if decide ((a1.Steps.take (a2:Int).toNat).length+[b,a].length≤1048576) then(if cw .i64 (a2+2) then(if decide (0≤(a2+2)∧(a2+2)≤(a1.Steps.length:Int)) then(if(a1.Steps.drop ((a2+2):Int).toNat).isEmpty then(some ((aj.mk a1.Nil a1.Cons ((a1.Steps.take (a2:Int).toNat)++[b,a])),0)) else(if decide (((a1.Steps.take (a2:Int).toNat)++[b,a]).length+(a1.Steps.drop ((a2+2):Int).toNat).length≤1048576) then(some ((aj.mk a1.Nil a1.Cons (((a1.Steps.take (a2:Int).toNat)++[b,a])++(a1.Steps.drop ((a2+2):Int).toNat))),0)) else none)) else none) else none) else none) else none)) else none))) else none) else(some ((aj.mk 0 0 ([]:List aA)),2))) else none) else(some ((aj.mk 0 0 ([]:List aA)),2))) else(some ((aj.mk 0 0 ([]:List aA)),2))
theorem NB {a0:bA}{a1:aj}:LF Tryz.prog (xu a0 a1 a2) 8 [.agg [aM a0.Prog.cy.Cons,aM a0.Prog.cy.bq,.lit (a0.Prog.aO.map ay),.lit (a0.bX.map au)],.agg [aI a1.Nil,aI a1.Cons,.lit (a1.Steps.map ar)],aI a2] (fun r=>.bO [.agg [aI r.1.Nil,aI r.1.Cons,.lit (r.1.Steps.map ar)],aI r.2]):=
 sF<|fH 7 Nt (fH 4 NA (sL 6 a1.Steps<|sI 0<|fH 0 uZ (DC 7 31 56 cB fun a _=>sI 4<|DC 0 31 56 cB fun b _=>fH 11 Ge (sE (by exact bN EE 13 (v:=.bO [.agg [aI 0,aI 0,.an],aI 7]) kr (Fz.bw (Fz.aw (.pure pv) (Fz.aw (.pure pv) (Fz.aw (.an) (.pure pv)))) (.pure pv))))<|fH 5 Ge (sE (by exact bN EE 7 (v:=.bO [.agg [aI 0,aI 0,.an],aI 7]) kr (Fz.bw (Fz.aw (.pure pv) (Fz.aw (.pure pv) (Fz.aw (.an) (.pure pv)))) (.pure pv))))<|sG fun g=>sT (lB EE 10 (fun S=>I8 Tryz.prog S 31 (.lit (a1.Steps.map ar)) none (some (aI a2))) (fun S=>.val (.lit ((a1.Steps.take (a2:Int).toNat).map ar)) S) kr kr (Tq (el:=56) (n:=5) kr kr (fun _=>rfl) g))<|sS (fun c8=>sT (bF EE 0 (fun S=>mN Tryz.prog S 31 31 (.an) (.lit ((a1.Steps.take (a2:Int).toNat).map ar))) (fun S=>.val (.an) S) kr kr (dH (enc:=ar) (el:=56) (sz:=5) (ys:=(a1.Steps.take (a2:Int).toNat)) kr kr (bC _ (.inl rfl)) c8 rfl rfl))<|sI 7<|sG fun h=>sT (lB EE 0 (fun S=>I8 Tryz.prog S 31 (.lit (a1.Steps.map ar)) (some (aI (a2+2))) none) (fun S=>.val (.lit ((a1.Steps.drop ((a2+2):Int).toNat).map ar)) S) kr kr (G7 (el:=56) (n:=5) kr kr (fun _=>rfl) h))<|sS (fun afV=>sT (bF EE 0 (fun S=>mN Tryz.prog S 31 31 (.ai 7 0 2) (.lit ((a1.Steps.drop ((a2+2):Int).toNat).map ar))) (fun S=>.val (.ai 7 0 2) S) kr kr (dH (enc:=ar) (el:=56) (sz:=5) (ys:=(a1.Steps.drop ((a2+2):Int).toNat)) kr kr (bC _ (.inl rfl)) afV (bC (enc:=ar) (ys:=[b,a]) _ (.inr ⟨7,5,rfl,by kernel_rfl⟩)) (dY (enc:=ar) (fun _=>rfl) (fun _=>by kernel_rfl) _)))<|sE (by exact bN EE 9 (v:=.bO [.agg [aI a1.Nil,aI a1.Cons,.ai 7 0 2],aI 0]) kr (Fz.bw (Fz.aw (.pure pv) (Fz.aw (.pure pv) (Fz.aw (Fz.yU (sz:=5) (es:=[.agg [aI b.Op,aI b.Var,aI b.Expr.Op,aI b.Expr.N,aT b.Expr.Kids],.agg [aI a.Op,aI a.Var,aI a.Expr.Op,aI a.Expr.N,aT a.Expr.Kids]]) kr rfl (Er.cons (.pure pv) (Er.cons (.pure pv) Er.nil))) (.pure pv)))) (.pure pv)))) fun afV=>sG fun c=>sT (bF EE 0 (fun S=>mN Tryz.prog S 31 31 (.ai 7 0 2) (.lit ((a1.Steps.drop ((a2+2):Int).toNat).map ar))) (fun S=>.val (.ai 8 0 ([b,a]++(a1.Steps.drop ((a2+2):Int).toNat)).length) ((S.del 7).add (.arr 5 (([b,a]++(a1.Steps.drop ((a2+2):Int).toNat)).map ar)))) kr kr (n7 (enc:=ar) (el:=56) (sz:=5) (xs:=[b,a]) (ys:=(a1.Steps.drop ((a2+2):Int).toNat)) kr kr (fun _=>rfl) (fun _=>by kernel_rfl) kr (bC _ (.inl rfl)) (by first | rfl | (simp;done) | omega | (simp;omega)) kr kr kr (bK afV) c))<|sE (by exact bN EE 9 (v:=.bO [.agg [aI a1.Nil,aI a1.Cons,.ai 8 0 (([b,a]++(a1.Steps.drop ((a2+2):Int).toNat)).length)],aI 0]) kr (Fz.bw (Fz.aw (.pure pv) (Fz.aw (.pure pv) (Fz.aw (Fz.lN (sz:=5) (es:=(([b,a]++(a1.Steps.drop ((a2+2):Int).toNat)).map ar)) kr (by simp) pl) (.pure pv)))) (.pure pv)))) fun c8=>sG fun i=>sT (bF EE 0 (fun S=>mN Tryz.prog S 31 31 (.an) (.lit ((a1.Steps.take (a2:Int).toNat).map ar))) (fun S=>.val (.ai 6 0 (a1.Steps.take (a2:Int).toNat).length) (S.add (.arr 5 ((a1.Steps.take (a2:Int).toNat).map ar)))) kr kr (Aw (enc:=ar) (el:=56) (sz:=5) (ys:=(a1.Steps.take (a2:Int).toNat)) (.inl rfl) kr kr (fun _=>rfl) (fun _=>by kernel_rfl) (bC _ (.inl rfl)) kr kr (bK c8) i))<|sG fun d=>sT (bF EE 3 (fun S=>mN Tryz.prog S 31 31 (.ai 6 0 ((a1.Steps.take (a2:Int).toNat).length)) (.ai 7 0 2)) (fun S=>.val (.ai 8 0 ((a1.Steps.take (a2:Int).toNat)++[b,a]).length) ((S.del 6).add (.arr 5 (((a1.Steps.take (a2:Int).toNat)++[b,a]).map ar)))) kr kr (n7 (enc:=ar) (el:=56) (sz:=5) (xs:=(a1.Steps.take (a2:Int).toNat)) (ys:=[b,a]) kr kr (fun _=>rfl) (fun _=>by kernel_rfl) kr (bC _ (.inr ⟨7,5,rfl,by kernel_rfl⟩)) (by first | rfl | (simp;done) | omega | (simp;omega)) kr kr kr (by simp) d))<|sI 3<|sG fun e=>sT (lB EE 0 (fun S=>I8 Tryz.prog S 31 (.lit (a1.Steps.map ar)) (some (aI (a2+2))) none) (fun S=>.val (.lit ((a1.Steps.drop ((a2+2):Int).toNat).map ar)) S) kr kr (G7 (el:=56) (n:=5) kr kr (fun _=>rfl) e))<|sS (fun afW=>sT (bF EE 0 (fun S=>mN Tryz.prog S 31 31 (.ai 8 0 (((a1.Steps.take (a2:Int).toNat)++[b,a]).length)) (.lit ((a1.Steps.drop ((a2+2):Int).toNat).map ar))) (fun S=>.val (.ai 8 0 (((a1.Steps.take (a2:Int).toNat)++[b,a]).length)) S) kr kr (dH (enc:=ar) (el:=56) (sz:=5) (ys:=(a1.Steps.drop ((a2+2):Int).toNat)) kr kr (bC _ (.inl rfl)) afW (bC (enc:=ar) (ys:=((a1.Steps.take (a2:Int).toNat)++[b,a])) _ (.inr ⟨8,5,rfl,by kernel_rfl⟩)) (dY (enc:=ar) (fun _=>rfl) (fun _=>by kernel_rfl) _)))<|sE (by exact bN EE 9 (v:=.bO [.agg [aI a1.Nil,aI a1.Cons,.ai 8 0 (((a1.Steps.take (a2:Int).toNat)++[b,a]).length)],aI 0]) kr (Fz.bw (Fz.aw (.pure pv) (Fz.aw (.pure pv) (Fz.aw (Fz.lN (sz:=5) (es:=(((a1.Steps.take (a2:Int).toNat)++[b,a]).map ar)) kr (by simp) pl) (.pure pv)))) (.pure pv)))) fun afW=>sG fun f=>sT (bF EE 0 (fun S=>mN Tryz.prog S 31 31 (.ai 8 0 (((a1.Steps.take (a2:Int).toNat)++[b,a]).length)) (.lit ((a1.Steps.drop ((a2+2):Int).toNat).map ar))) (fun S=>.val (.ai 9 0 (((a1.Steps.take (a2:Int).toNat)++[b,a])++(a1.Steps.drop ((a2+2):Int).toNat)).length) ((S.del 8).add (.arr 5 ((((a1.Steps.take (a2:Int).toNat)++[b,a])++(a1.Steps.drop ((a2+2):Int).toNat)).map ar)))) kr kr (n7 (enc:=ar) (el:=56) (sz:=5) (xs:=((a1.Steps.take (a2:Int).toNat)++[b,a])) (ys:=(a1.Steps.drop ((a2+2):Int).toNat)) kr kr (fun _=>rfl) (fun _=>by kernel_rfl) kr (bC _ (.inl rfl)) (by first | rfl | (simp;done) | omega | (simp;omega)) kr kr kr (bK afW) f))<|sE (by exact bN EE 9 (v:=.bO [.agg [aI a1.Nil,aI a1.Cons,.ai 9 0 ((((a1.Steps.take (a2:Int).toNat)++[b,a])++(a1.Steps.drop ((a2+2):Int).toNat)).length)],aI 0]) kr (Fz.bw (Fz.aw (.pure pv) (Fz.aw (.pure pv) (Fz.aw (Fz.lN (sz:=5) (es:=((((a1.Steps.take (a2:Int).toNat)++[b,a])++(a1.Steps.drop ((a2+2):Int).toNat)).map ar)) kr (by simp) pl) (.pure pv)))) (.pure pv))))<|sE (by exact bN EE 8 (v:=.bO [.agg [aI 0,aI 0,.an],aI 2]) kr (Fz.bw (Fz.aw (.pure pv) (Fz.aw (.pure pv) (Fz.aw (.an) (.pure pv)))) (.pure pv))))<|sE (by exact bN EE 17 (v:=.bO [.agg [aI 0,aI 0,.an],aI 2]) kr (Fz.bw (Fz.aw (.pure pv) (Fz.aw (.pure pv) (Fz.aw (.an) (.pure pv)))) (.pure pv))))<|sE (by exact bN EE 22 (v:=.bO [.agg [aI 0,aI 0,.an],aI 2]) kr (Fz.bw (Fz.aw (.pure pv) (Fz.aw (.pure pv) (Fz.aw (.an) (.pure pv)))) (.pure pv)))
noncomputable def NC : St:=sN 4 (ak (aB false) none (sN 0 (ak (aI 0) none (sN 2 (ak (aI 0) none (sN 4 (ak (aB false) none (sN 5 (ak (aB false) none (sN 9 (St.start T0 40 [.agg [aI 0,aI 0,.lit []],.agg [aI 0,aI 0,.lit []]] ag.empty)))))))))))
noncomputable def ND := fun a0 a1 a=>fV NC 2 fun o=>([[(3,aP (o 1)),(2,aP (o 0)),(5,aI a)]],[((o 1),.arr 3 [aK a1]),((o 0),.arr 3 [aK a0])])
mutual
def kR (a0 a1:Term)(a:Int):Option (Bool):=
 if decide (a<(a0.Kids.length:Int)) then(bP a0.Kids a>>=fun b=>bP a1.Kids a>>=fun c=>qL b c>>=fun d=>if d then(if cw .i64 (a+1) then(kR a0 a1 (a+1)) else none) else(some false)) else(some true)
 partial_fixpoint
def qL (a0 a1:Term):Option (Bool):=
 if(!decide ((a0.Op:Int)=a1.Op)) then(some false) else(if(!decide ((a0.N:Int)=a1.N)) then(some false) else(if(!decide ((a0.Kids.length:Int)=(a1.Kids.length:Int))) then(some false) else(kR a0 a1 0)))
 partial_fixpoint
end
theorem GN  : (∀ a0 a1 b,LH Tryz.prog (kR a0 a1 b) aB (ND a0 a1 b))∧(∀ a0 a1,LF Tryz.prog (qL a0 a1) 40 [aK a0,aK a1] aB):=by
 refine kR.mutual_partial_correctness _ _ ?_ ?_
 · exact fun kR qL a xE a0 a1 b=>sL 4 a0.Kids<|sB 0 (sX 6 fun _=>sX 4 fun _=>fH 2 (xE _ _) (sI 4<|sK 2 [[3,2,5]] [1,0] (a _ _ _))<|sR 5)<|sR 4
 · exact fun kR a a0 a1=>sF<|sB 9 (sR 20)<|sB 5 (sR 14)<|sL 4 a0.Kids<|sL 2 a1.Kids<|sB 0 (sR 5)<|sK 4 [[3,2,5]] [1,0] (a _ _ _)
theorem xE {a0:Term}{a1:Term}:LF Tryz.prog (qL a0 a1) 40 [aK a0,aK a1] aB:=GN.2 _ _
noncomputable def Ed : St:=sN 4 (ak (aB false) none (sN 0 (ak (aI 0) none (sN 2 (ak (aI 0) none (sN 4 (ak (aB false) none (sN 5 (ak (aB false) none (sN 9 (St.start T0 9 [.agg [aI 0,aI 0,.lit []],.agg [aI 0,aI 0,.lit []]] ag.empty)))))))))))
noncomputable def Ee := fun(a0:aj) (a1:aj) a=>fV Ed 2 fun o=>([[(3,aP (o 1)),(2,aP (o 0)),(5,aI a)]],[((o 1),.arr 3 [.agg [aI a1.Nil,aI a1.Cons,.lit (a1.Steps.map ar)]]),((o 0),.arr 3 [.agg [aI a0.Nil,aI a0.Cons,.lit (a0.Steps.map ar)]])])
def ic (a0 a1:aj)(a:Int):Option (Bool):=
 if decide (a<(a0.Steps.length:Int)) then(bP a0.Steps a>>=fun b=>bP a1.Steps a>>=fun c=>if(!decide ((b.Op:Int)=c.Op)) then(some false) else(bP a0.Steps a>>=fun d=>bP a1.Steps a>>=fun e=>if(!decide ((d.Var:Int)=e.Var)) then(some false) else(bP a0.Steps a>>=fun f=>bP a1.Steps a>>=fun g=>qL f.Expr g.Expr>>=fun h=>if h then(if cw .i64 (a+1) then(ic a0 a1 (a+1)) else none) else(some false)))) else(some true)
 partial_fixpoint
theorem zR {a0:aj}{a1:aj}:(∀ b,LH Tryz.prog (ic a0 a1 b) aB (Ee a0 a1 b)):=by
 refine ic.partial_correctness _ _ _ ?_
 exact fun ic a b=>sL 4 a0.Steps<|sB 0 (DC 6 31 56 cB fun c _=>DC 5 31 56 cB fun d _=>sB 2 (sR 36)<|DC 4 31 56 cB fun e _=>DC 5 31 56 cB fun f _=>sB 2 (sR 22)<|DC 5 31 56 cB fun g _=>DC 5 31 56 cB fun h _=>fH 3 xE (sI 5<|sK 2 [[3,2,5]] [1,0] (a _))<|sR 6)<|sR 4
def rD (a0 a1:aj):Option (Bool):=
 if(!decide ((a0.Nil:Int)=a1.Nil)) then(some false) else(if(!decide ((a0.Cons:Int)=a1.Cons)) then(some false) else(if(!decide ((a0.Steps.length:Int)=(a1.Steps.length:Int))) then(some false) else(ic a0 a1 0)))
theorem Ef {a0:aj}{a1:aj}:LF Tryz.prog (rD a0 a1) 9 [.agg [aI a0.Nil,aI a0.Cons,.lit (a0.Steps.map ar)],.agg [aI a1.Nil,aI a1.Cons,.lit (a1.Steps.map ar)]] aB:=
 sF<|sB 9 (sR 20)<|sB 5 (sR 14)<|sL 4 a0.Steps<|sL 2 a1.Steps<|sB 0 (sR 5)<|sK 4 [[3,2,5]] [1,0] (zR _)
def eH (a0 a1 a2:Int):Option (Bool):=
 if decide (a1≤a0) then(if decide (a0≤a2) then(some true) else(some false)) else(some false)
theorem eI {a0:Int}:LF Tryz.prog (eH a0 a1 a2) 156 [aI a0,aI a1,aI a2] aB:=
 sF<|sB 5 (sB 3 (sR 4)<|sR 4)<|sR 8
noncomputable def Eg : St:=sN 1 (eC (fun S=>.val (aP 0) (S.add (.si ⟨#[]⟩ 0))) (sN 4 (St.start T0 155 [.sc (.string ⟨#[]⟩)] ag.empty)))
noncomputable def Eh := fun a0 a=>fV Eg 1 fun o=>([[(0,.sc (.string a0)),(6,aP (o 0))]],[((o 0),.si a0 a)])
def fA (a0:ByteArray)(a:Nat):Option (Bool):=
 if decide (a+1≤a0.size) then(if decide (97≤(((Utf8.decode a0 a).1:Nat):Int)) then(if decide (((((Utf8.decode a0 a).1:Nat):Int):Int)≤122) then(fA a0 (a+(Utf8.decode a0 a).2)) else(if decide (65≤(((Utf8.decode a0 a).1:Nat):Int)) then(if decide (((((Utf8.decode a0 a).1:Nat):Int):Int)≤90) then(fA a0 (a+(Utf8.decode a0 a).2)) else(some false)) else(some false))) else(if decide (65≤(((Utf8.decode a0 a).1:Nat):Int)) then(if decide (((((Utf8.decode a0 a).1:Nat):Int):Int)≤90) then(fA a0 (a+(Utf8.decode a0 a).2)) else(some false)) else(some false))) else(eH (a0.size:Int) 1 8>>=fun b=>if b then(some true) else(some false))
 partial_fixpoint
theorem zS {a0:ByteArray}:(∀ b,LH Tryz.prog (fA a0 b) aB (Eh a0 b)):=by
 refine fA.partial_correctness _ _ ?_
 exact fun fA a b=>sS (fun afX=>sT (bF EE 1 (fun S=>afa S (aP 0)) (fun S=>.val (.bO [aB true,aI ((b:Nat):Int),.sc (.int .i32 (((Utf8.decode a0 b).1:Nat):Int))]) (S.set 0 (.si a0 (b+(Utf8.decode a0 b).2)))) kr kr (aeB kr kr afX))<|sB 8 (sB 2 (sK 11 [[0,6]] [0] (a _))<|sB 3 (sB 2 (sK 4 [[0,6]] [0] (a _))<|sR 7)<|sR 10)<|sB 6 (sB 2 (sK 4 [[0,6]] [0] (a _))<|sR 7)<|sR 10) fun afX=>sT (bF EE 1 (fun S=>afa S (aP 0)) (fun S=>.val (.bO [aB false]) S) kr kr (aeC kr afX))<|sT (wO EE 4 (some (aI (a0.size:Nat))) (aI (a0.size:Int)) kr (rfl))<|fH 0 eI (sR 3)<|sR 3
def mq (a0:ByteArray):Option (Bool):=
 fA a0 0
theorem wC {a0:ByteArray}:LF Tryz.prog (mq a0) 155 [.sc (.string a0)] aB:=
 sF<|sT (bF EE 4 (fun S=>akG Tryz.prog S 9 (.sc (.string a0))) (fun S=>.val (aP 0) (S.add (.si a0 0))) kr kr (aeA kr kr kr))<|sK 1 [[0,6]] [0] (zS _)
noncomputable def CB : St:=sN 2 (ak (aI 0) none (sN 10 (ak (aB false) none (sN 0 (ak (aI 0) none (sN 4 (ak (aB true) none (sN 0 (ak (aI 0) none (sN 13 (St.start T0 97 [.agg [.lit [],.lit []]] ag.empty)))))))))))
noncomputable def vd := fun a0 a (b:(List (ByteArray×Bool)))=>fV CB 3 fun o=>([[(1,.fn (.func 154) [] [aP (o 2)]),(7,aM a0.Cons),(8,aI (a0.Cons.length:Int)),(9,aI a)],[(1,aP (o 0)),(4,.fn (.func 154) [] [aP (o 2)]),(18,aB false)]],[((o 2),.arr 1 [.cQ (o 1)]),((o 0),oG a0),((o 1),.mp (b.map (cg encS gv)))])
noncomputable def CC : St:=sN 2 (ak (aI 0) none (sN 16 (ak (aB false) none (sN 1 (dz vd)))))
noncomputable def CD := fun a0 a (b:(List (ByteArray×Bool)))=>fV CC 3 fun o=>([[(1,.fn (.func 154) [] [aP (o 2)]),(7,aM a0.bq),(8,aI (a0.bq.length:Int)),(9,aI a)],[(1,aP (o 0)),(25,aB false)]],[((o 2),.arr 1 [.cQ (o 1)]),((o 0),oG a0),((o 1),.mp (b.map (cg encS gv)))])
def dW (a0:aE)(a:Int)(c:(List (ByteArray×Bool))):Option (Int):=
 if decide (a<(a0.bq.length:Int)) then(bP a0.bq a>>=fun b=>if((tn c b.Name).getD false) then(some 2) else(mq b.Name>>=fun f=>if f then(eH b.bu 0 4>>=fun g=>if g then(if cw .i64 (a+1) then(dW a0 (a+1) (r9 c b.Name true)) else none) else(some 2)) else(some 2))) else(bP a0.Cons 0>>=fun d=>if(!([(d.Name.data.toList==(⟨#[70,97,108,115,101]⟩:ByteArray).data.toList),(d.bu==0)].all id)) then(some 2) else(bP a0.Cons 1>>=fun e=>if(!([(e.Name.data.toList==(⟨#[84,114,117,101]⟩:ByteArray).data.toList),(e.bu==0)].all id)) then(some 2) else(some 0)))
 partial_fixpoint
theorem yA : (∀ e b,LH Tryz.prog (dW a0 e b) aI (CD a0 e b)):=by
 refine dW.partial_correctness _ _ ?_
 exact fun dW a e b=>sB 1 (sX 3 fun f=>asS 14 259 1 (aj4 5 259 1 b f.Name true<|sR 27)<|aj4 5 259 1 b f.Name true<|fH 6 wC (fH 4 eI (sI 7<|sM 2 [[1,7,8,9],[1,25]] [2,0,1] [] 5 (a _ _))<|sR 15)<|sR 20)<|sX 10 fun c=>aj2 (Qk EE 2 (uH Tryz.prog .neq 119 (.agg [.sc (.string c.Name),aI c.bu]) (.agg [.sc (.string ⟨#[70,97,108,115,101]⟩),aI 0])) (!([(c.Name.data.toList==(⟨#[70,97,108,115,101]⟩:ByteArray).data.toList),(c.bu==0)].all id)) kr ((Jx kr).2)) (sR 12)<|sX 3 fun d=>aj2 (Qk EE 2 (uH Tryz.prog .neq 119 (.agg [.sc (.string d.Name),aI d.bu]) (.agg [.sc (.string ⟨#[84,114,117,101]⟩),aI 0])) (!([(d.Name.data.toList==(⟨#[84,114,117,101]⟩:ByteArray).data.toList),(d.bu==0)].all id)) kr ((Jx kr).2)) (sR 5)<|sR 5
def gB (a0:aE)(a:Int)(c:(List (ByteArray×Bool))):Option (Int):=
 if decide (a<(a0.Cons.length:Int)) then(bP a0.Cons a>>=fun b=>if((tn c b.Name).getD false) then(some 2) else(mq b.Name>>=fun afe=>if afe then(eH b.bu 0 4>>=fun d=>if d then(if cw .i64 (a+1) then(gB a0 (a+1) (r9 c b.Name true)) else none) else(some 2)) else(some 2))) else(dW a0 0 c)
 partial_fixpoint
theorem yD : (∀ c b,LH Tryz.prog (gB a0 c b) aI (vd a0 c b)):=by
 refine gB.partial_correctness _ _ ?_
 exact fun gB a c b=>sB 1 (sX 3 fun d=>asS 14 259 1 (aj4 5 259 1 b d.Name true<|sR 34)<|aj4 5 259 1 b d.Name true<|fH 6 wC (fH 4 eI (sI 7<|sM 2 [[1,7,8,9],[1,4,18]] [2,0,1] [] 5 (a _ _))<|sR 22)<|sR 27)<|sL 16 a0.bq<|sK 2 [[1,7,8,9],[1,25]] [2,0,1] (yA _ _)
def cW (a0:aE):Option (Int):=
 eH (a0.Cons.length:Int) 2 12>>=fun a=>if a then(if decide ((a0.bq.length:Int)>8) then(some 2) else(gB a0 0 [])) else(some 2)
theorem pI : LF Tryz.prog (cW a0) 97 [aG a0] aI:=
 sF<|sL 13 a0.Cons<|fH 0 eI (sL 4 a0.bq<|sB 0 (sR 19)<|sL 10 a0.Cons<|sK 2 [[1,7,8,9],[1,4,18]] [2,0,1] (yD _ _))<|sR 25
def jh (a0:bk)(a1:Term):Option (Bool):=
 eH a1.N 0 19>>=fun v0=>if v0 then(if decide ((a1.Kids.length:Int)=0) then(some true) else(some false)) else(some false)
theorem uv {a0:bk}{a1:Term}:LF Tryz.prog (jh a0 a1) 238 [.agg [aM a0.aE.Cons,aM a0.aE.bq],aK a1] aB:=
 sF<|fH 7 eI (sL 3 a1.Kids<|sB 0 (sR 4)<|sR 4)<|sR 9
def jL (a0:bk)(a1:Term):Option (Bool):=
 eH a1.N (-1000000) 1000000>>=fun v0=>if v0 then(if decide ((a1.Kids.length:Int)=0) then(some true) else(some false)) else(some false)
theorem vg {a0:bk}{a1:Term}:LF Tryz.prog (jL a0 a1) 239 [.agg [aM a0.aE.Cons,aM a0.aE.bq],aK a1] aB:=
 sF<|fH 7 eI (sL 3 a1.Kids<|sB 0 (sR 4)<|sR 4)<|sR 9
def mu (a0:bk)(a1:Term):Option (Bool):=
 if cw .i64 ((a0.aE.Cons.length:Int)-1) then(eH a1.N 0 ((a0.aE.Cons.length:Int)-1)>>=fun v0=>if v0 then(bP a0.aE.Cons a1.N>>=fun a=>if decide ((a1.Kids.length:Int)=a.bu) then(some true) else(some false)) else(some false)) else none
theorem yE {a0:bk}{a1:Term}:LF Tryz.prog (mu a0 a1) 240 [.agg [aM a0.aE.Cons,aM a0.aE.bq],aK a1] aB:=
 sF<|sL 11 a0.aE.Cons<|sI 0<|fH 1 eI (sL 4 a1.Kids<|sX 5 fun _=>sB 2 (sR 5)<|sR 5)<|sR 19
def mw (a0:bk)(a1:Term):Option (Bool):=
 if cw .i64 ((a0.aE.bq.length:Int)-1) then(eH a1.N 0 ((a0.aE.bq.length:Int)-1)>>=fun v0=>if v0 then(bP a0.aE.bq a1.N>>=fun a=>if decide ((a1.Kids.length:Int)=a.bu) then(some true) else(some false)) else(some false)) else none
theorem yH {a0:bk}{a1:Term}:LF Tryz.prog (mw a0 a1) 241 [.agg [aM a0.aE.Cons,aM a0.aE.bq],aK a1] aB:=
 sF<|sL 11 a0.aE.bq<|sI 0<|fH 1 eI (sL 4 a1.Kids<|sX 5 fun _=>sB 2 (sR 5)<|sR 5)<|sR 19
def lI (a0:bk)(a1:Term):Option (Bool):=
 if cw .i64 ((a0.aE.bq.length:Int)-1) then(eH a1.N 0 ((a0.aE.bq.length:Int)-1)>>=fun v0=>if v0 then(bP a0.aE.bq a1.N>>=fun a=>if decide ((a1.Kids.length:Int)<a.bu) then(some true) else(some false)) else(some false)) else none
theorem xO {a0:bk}{a1:Term}:LF Tryz.prog (lI a0 a1) 242 [.agg [aM a0.aE.Cons,aM a0.aE.bq],aK a1] aB:=
 sF<|sL 11 a0.aE.bq<|sI 0<|fH 1 eI (sL 4 a1.Kids<|sX 5 fun _=>sB 2 (sR 5)<|sR 5)<|sR 19
def my (a0:bk)(a1:Term):Option (Bool):=
 eH a1.N 0 19>>=fun v0=>if v0 then(if decide ((a1.Kids.length:Int)=2) then(some true) else(some false)) else(some false)
theorem yJ {a0:bk}{a1:Term}:LF Tryz.prog (my a0 a1) 243 [.agg [aM a0.aE.Cons,aM a0.aE.bq],aK a1] aB:=
 sF<|fH 7 eI (sL 3 a1.Kids<|sB 0 (sR 4)<|sR 4)<|sR 9
def dc (a0:bk)(a1:Term):Option (Bool):=
 if decide ((a1.N:Int)=0) then(if decide ((a1.Kids.length:Int)=2) then(some true) else(some false)) else(some false)
theorem dw {a0:bk}{a1:Term}:LF Tryz.prog (dc a0 a1) 244 [.agg [aM a0.aE.Cons,aM a0.aE.bq],aK a1] aB:=
 sF<|sB 7 (sL 3 a1.Kids<|sB 0 (sR 4)<|sR 4)<|sR 9
@[simp] noncomputable def eA := fun iF gp a12 a13 a14 (o:NM)=>(([aK iF,aI gp,aP (o 0),aP (o 1)],[oY (o 2),.arr 1 [.fn (.func 196) [] [aP (o 0),aP (o 1)]],qU Tryz.prog .ready 100 0 39 274877921791 [(2,aP (o 3)),(4,aP (o 4)),(5,aP (o 5)),(6,aP (o 6))],oG a12,.arr 1 [aB a13],.arr 16 [.agg [.sc .nilFunc,.fn (.func 238) [] [],.fn (.func 239) [] [],.fn (.func 240) [] [],.fn (.func 241) [] [],.fn (.func 242) [] [],.fn (.func 244) [] [],.fn (.func 244) [] [],.fn (.func 243) [] [],.fn (.func 244) [] [],.fn (.func 244) [] [],.fn (.func 244) [] [],.fn (.func 244) [] [],.fn (.func 244) [] [],.fn (.func 244) [] [],.fn (.func 244) [] []]],oI a14]):TC)
@[simp] noncomputable def gE := fun a12 a13 (r:(Sum Int Int)) (o:NM)=>(match r with | (Sum.inl y)=>(aB false,sm [oY (o 2),.arr 1 [.fn (.func 196) [] [aP (o 0),aP (o 1)]],xY (some .ret) (qU Tryz.prog .done 100 0 39 274877921791 [(2,aP (o 3)),(4,aP (o 4)),(5,aP (o 5)),(6,aP (o 6))]),oG a12,.arr 1 [aB false],.arr 16 [.agg [.sc .nilFunc,.fn (.func 238) [] [],.fn (.func 239) [] [],.fn (.func 240) [] [],.fn (.func 241) [] [],.fn (.func 242) [] [],.fn (.func 244) [] [],.fn (.func 244) [] [],.fn (.func 243) [] [],.fn (.func 244) [] [],.fn (.func 244) [] [],.fn (.func 244) [] [],.fn (.func 244) [] [],.fn (.func 244) [] [],.fn (.func 244) [] [],.fn (.func 244) [] []]],oI y],[]) | (Sum.inr y)=>(aB true,sm [oY (o 2),.arr 1 [.fn (.func 196) [] [aP (o 0),aP (o 1)]],qU Tryz.prog .ready 100 0 39 274877921791 [(2,aP (o 3)),(4,aP (o 4)),(5,aP (o 5)),(6,aP (o 6))],oG a12,.arr 1 [aB a13],.arr 16 [.agg [.sc .nilFunc,.fn (.func 238) [] [],.fn (.func 239) [] [],.fn (.func 240) [] [],.fn (.func 241) [] [],.fn (.func 242) [] [],.fn (.func 244) [] [],.fn (.func 244) [] [],.fn (.func 243) [] [],.fn (.func 244) [] [],.fn (.func 244) [] [],.fn (.func 244) [] [],.fn (.func 244) [] [],.fn (.func 244) [] [],.fn (.func 244) [] [],.fn (.func 244) [] []]],oI y],[]):TB)
noncomputable def oH : St:=sN 2 (ak (aI 0) none (sN 13 (ak (aB true) none (sN 5 (LC (fun S=>.val (.ptr 5 0 15) S) (sN 6 (ak (aB true) none (sN 5 (ak (aB false) none (sN 2 (ak (aB false) none (sN 4 (ak (aI 0) none (sN 18 (St.start T0 196 ((dz eA id).1) (oX 7 (mR 0 ((dz eA id).2))))))))))))))))))
noncomputable def oJ := fun(iF:Term) gp a12 a13 (a14:Int) a b=>fV oH 10 fun o=>([[(1,.fn (.func 197) [] [aP (o 1),aP (o 8)]),(7,aT iF.Kids),(8,aI (iF.Kids.length:Int)),(9,aI a)],[(11,aB true)]],[((o 1),.arr 1 [.fn (.func 196) [] [aP (o 0),aP (o 1)]]),((o 8),oI gp),((o 0),oY (o 2)),((o 2),qU Tryz.prog .ready 100 0 39 274877921791 [(2,aP (o 3)),(4,aP (o 4)),(5,aP (o 5)),(6,aP (o 6))]),((o 3),oG a12),((o 4),.arr 1 [aB a13]),((o 5),.arr 16 [.agg [.sc .nilFunc,.fn (.func 238) [] [],.fn (.func 239) [] [],.fn (.func 240) [] [],.fn (.func 241) [] [],.fn (.func 242) [] [],.fn (.func 244) [] [],.fn (.func 244) [] [],.fn (.func 243) [] [],.fn (.func 244) [] [],.fn (.func 244) [] [],.fn (.func 244) [] [],.fn (.func 244) [] [],.fn (.func 244) [] [],.fn (.func 244) [] [],.fn (.func 244) [] []]]),((o 6),oI b)])
mutual
def aq (iF:Term)(gp:Int)(a12:aE)(a13:Bool)(a14 a b:Int):Option (Sum Int Int):=
 if decide (a<(iF.Kids.length:Int)) then(bP iF.Kids a>>=fun c=>if cw .i64 (gp+1) then(bT c (gp+1) a12 a13 b>>=fun d=>(match d with | (Sum.inl e)=>some (Sum.inl e) | (Sum.inr f)=>if cw .i64 (a+1) then(aq iF gp a12 a13 a14 (a+1) f) else none)) else none) else(some (Sum.inr b))
 partial_fixpoint
def bT (iF:Term)(gp:Int)(a12:aE)(a13:Bool)(a14:Int):Option (Sum Int Int):=
 if cw .i64 (a14+1) then(if decide (((a14+1):Int)>40) then(some (Sum.inl (a14+1))) else(if decide (gp>12) then(some (Sum.inl (a14+1))) else(eH iF.Op 1 15>>=fun a=>if a then(if decide (iF.Op=1) then(jh (bk.mk a12) iF>>=fun b=>if b then(aq iF gp a12 a13 a14 0 (a14+1)) else(some (Sum.inl (a14+1)))) else(if decide (iF.Op=2) then(jL (bk.mk a12) iF>>=fun c=>if c then(aq iF gp a12 a13 a14 0 (a14+1)) else(some (Sum.inl (a14+1)))) else(if decide (iF.Op=3) then(mu (bk.mk a12) iF>>=fun d=>if d then(aq iF gp a12 a13 a14 0 (a14+1)) else(some (Sum.inl (a14+1)))) else(if decide (iF.Op=4) then(mw (bk.mk a12) iF>>=fun e=>if e then(aq iF gp a12 a13 a14 0 (a14+1)) else(some (Sum.inl (a14+1)))) else(if decide (iF.Op=5) then(lI (bk.mk a12) iF>>=fun f=>if f then(aq iF gp a12 a13 a14 0 (a14+1)) else(some (Sum.inl (a14+1)))) else(if decide (iF.Op=6) then(dc (bk.mk a12) iF>>=fun g=>if g then(aq iF gp a12 a13 a14 0 (a14+1)) else(some (Sum.inl (a14+1)))) else(if decide (iF.Op=7) then(dc (bk.mk a12) iF>>=fun h=>if h then(aq iF gp a12 a13 a14 0 (a14+1)) else(some (Sum.inl (a14+1)))) else(if decide (iF.Op=8) then(my (bk.mk a12) iF>>=fun i=>if i then(aq iF gp a12 a13 a14 0 (a14+1)) else(some (Sum.inl (a14+1)))) else(if decide (iF.Op=9) then(dc (bk.mk a12) iF>>=fun j=>if j then(aq iF gp a12 a13 a14 0 (a14+1)) else(some (Sum.inl (a14+1)))) else(if decide (iF.Op=10) then(dc (bk.mk a12) iF>>=fun k=>if k then(aq iF gp a12 a13 a14 0 (a14+1)) else(some (Sum.inl (a14+1)))) else(if decide (iF.Op=11) then(dc (bk.mk a12) iF>>=fun l=>if l then(aq iF gp a12 a13 a14 0 (a14+1)) else(some (Sum.inl (a14+1)))) else(if decide (iF.Op=12) then(dc (bk.mk a12) iF>>=fun m=>if m then(aq iF gp a12 a13 a14 0 (a14+1)) else(some (Sum.inl (a14+1)))) else(if decide (iF.Op=13) then(dc (bk.mk a12) iF>>=fun n=>if n then(aq iF gp a12 a13 a14 0 (a14+1)) else(some (Sum.inl (a14+1)))) else(if decide (iF.Op=14) then(dc (bk.mk a12) iF>>=fun o=>if o then(aq iF gp a12 a13 a14 0 (a14+1)) else(some (Sum.inl (a14+1)))) else(if decide (iF.Op=15) then(dc (bk.mk a12) iF>>=fun v130=>if v130 then(aq iF gp a12 a13 a14 0 (a14+1)) else(some (Sum.inl (a14+1)))) else none))))))))))))))) else(some (Sum.inl (a14+1)))))) else none
 partial_fixpoint
end
variable {a12 : aE} {a13 : Bool}
theorem mZ : (∀ iF gp a14 b c,LJ Tryz.prog (aq iF gp a12 a13 a14 b c) 7 (gE a12 a13) (oJ iF gp a12 a13 a14 b c))∧(∀ iF gp a14,LG Tryz.prog (bT iF gp a12 a13 a14) 196 7 (eA iF gp a12 a13 a14) (gE a12 a13)):=by
 refine aq.mutual_partial_correctness _ _ _ _ ?_ ?_
 · exact fun aq bT a gm iF gp a14 b c=>sB 1 (sX 3 fun _=>sI 14<|sQ 0 12 [0,1,2,3,4,5,6] (gm _ _ _) fun v=>match v with | .inl _=>mg 12 (aB false) [0,1,2,3,4,5,6] | .inr _=>sI 6<|I9 2 [[1,7,8,9],[11]] [1,8,0,2,3,4,5,6] [] 12 (a _ _ _ _ _))<|mg 9 (aB true) [0,1,2,3,4,5,6]
 · exact fun aq a iF gp a14=>P8 7 (sI 18<|sB 4 (mg 37 (aB false) [0,1,2,3,4,5,6])<|sB 2 (mg 34 (aB false) [0,1,2,3,4,5,6])<|fH 5 eI (sS (fun N8=>sT (lB EE 6 (fun S=>wS Tryz.prog S 263 (aP 5) (aI iF.Op)) (fun S=>.val (.ptr 5 0 1) S) kr kr (by rw[of_decide_eq_true N8];kernel_rfl))<|fH 5 uv (sL 13 iF.Kids<|wa 2 [[1,7,8,9],[11]] [1,8,0,2,3,4,5,6] (a _ _ _ _ _))<|mg 15 (aB false) [0,1,2,3,4,5,6]) fun _=>sS (fun W9=>sT (lB EE 6 (fun S=>wS Tryz.prog S 263 (aP 5) (aI iF.Op)) (fun S=>.val (.ptr 5 0 2) S) kr kr (by rw[of_decide_eq_true W9];kernel_rfl))<|fH 5 vg (sL 13 iF.Kids<|wa 2 [[1,7,8,9],[11]] [1,8,0,2,3,4,5,6] (a _ _ _ _ _))<|mg 15 (aB false) [0,1,2,3,4,5,6]) fun _=>sS (fun Xa=>sT (lB EE 6 (fun S=>wS Tryz.prog S 263 (aP 5) (aI iF.Op)) (fun S=>.val (.ptr 5 0 3) S) kr kr (by rw[of_decide_eq_true Xa];kernel_rfl))<|fH 5 yE (sL 13 iF.Kids<|wa 2 [[1,7,8,9],[11]] [1,8,0,2,3,4,5,6] (a _ _ _ _ _))<|mg 15 (aB false) [0,1,2,3,4,5,6]) fun _=>sS (fun Rq=>sT (lB EE 6 (fun S=>wS Tryz.prog S 263 (aP 5) (aI iF.Op)) (fun S=>.val (.ptr 5 0 4) S) kr kr (by rw[of_decide_eq_true Rq];kernel_rfl))<|fH 5 yH (sL 13 iF.Kids<|wa 2 [[1,7,8,9],[11]] [1,8,0,2,3,4,5,6] (a _ _ _ _ _))<|mg 15 (aB false) [0,1,2,3,4,5,6]) fun _=>sS (fun Hc=>sT (lB EE 6 (fun S=>wS Tryz.prog S 263 (aP 5) (aI iF.Op)) (fun S=>.val (.ptr 5 0 5) S) kr kr (by rw[of_decide_eq_true Hc];kernel_rfl))<|fH 5 xO (sL 13 iF.Kids<|wa 2 [[1,7,8,9],[11]] [1,8,0,2,3,4,5,6] (a _ _ _ _ _))<|mg 15 (aB false) [0,1,2,3,4,5,6]) fun _=>sS (fun aan=>sT (lB EE 6 (fun S=>wS Tryz.prog S 263 (aP 5) (aI iF.Op)) (fun S=>.val (.ptr 5 0 6) S) kr kr (by rw[of_decide_eq_true aan];kernel_rfl))<|fH 5 dw (sL 13 iF.Kids<|wa 2 [[1,7,8,9],[11]] [1,8,0,2,3,4,5,6] (a _ _ _ _ _))<|mg 15 (aB false) [0,1,2,3,4,5,6]) fun _=>sS (fun aao=>sT (lB EE 6 (fun S=>wS Tryz.prog S 263 (aP 5) (aI iF.Op)) (fun S=>.val (.ptr 5 0 7) S) kr kr (by rw[of_decide_eq_true aao];kernel_rfl))<|fH 5 dw (sL 13 iF.Kids<|wa 2 [[1,7,8,9],[11]] [1,8,0,2,3,4,5,6] (a _ _ _ _ _))<|mg 15 (aB false) [0,1,2,3,4,5,6]) fun _=>sS (fun aap=>sT (lB EE 6 (fun S=>wS Tryz.prog S 263 (aP 5) (aI iF.Op)) (fun S=>.val (.ptr 5 0 8) S) kr kr (by rw[of_decide_eq_true aap];kernel_rfl))<|fH 5 yJ (sL 13 iF.Kids<|wa 2 [[1,7,8,9],[11]] [1,8,0,2,3,4,5,6] (a _ _ _ _ _))<|mg 15 (aB false) [0,1,2,3,4,5,6]) fun _=>sS (fun aaq=>sT (lB EE 6 (fun S=>wS Tryz.prog S 263 (aP 5) (aI iF.Op)) (fun S=>.val (.ptr 5 0 9) S) kr kr (by rw[of_decide_eq_true aaq];kernel_rfl))<|fH 5 dw (sL 13 iF.Kids<|wa 2 [[1,7,8,9],[11]] [1,8,0,2,3,4,5,6] (a _ _ _ _ _))<|mg 15 (aB false) [0,1,2,3,4,5,6]) fun _=>sS (fun aar=>sT (lB EE 6 (fun S=>wS Tryz.prog S 263 (aP 5) (aI iF.Op)) (fun S=>.val (.ptr 5 0 10) S) kr kr (by rw[of_decide_eq_true aar];kernel_rfl))<|fH 5 dw (sL 13 iF.Kids<|wa 2 [[1,7,8,9],[11]] [1,8,0,2,3,4,5,6] (a _ _ _ _ _))<|mg 15 (aB false) [0,1,2,3,4,5,6]) fun _=>sS (fun aas=>sT (lB EE 6 (fun S=>wS Tryz.prog S 263 (aP 5) (aI iF.Op)) (fun S=>.val (.ptr 5 0 11) S) kr kr (by rw[of_decide_eq_true aas];kernel_rfl))<|fH 5 dw (sL 13 iF.Kids<|wa 2 [[1,7,8,9],[11]] [1,8,0,2,3,4,5,6] (a _ _ _ _ _))<|mg 15 (aB false) [0,1,2,3,4,5,6]) fun _=>sS (fun aat=>sT (lB EE 6 (fun S=>wS Tryz.prog S 263 (aP 5) (aI iF.Op)) (fun S=>.val (.ptr 5 0 12) S) kr kr (by rw[of_decide_eq_true aat];kernel_rfl))<|fH 5 dw (sL 13 iF.Kids<|wa 2 [[1,7,8,9],[11]] [1,8,0,2,3,4,5,6] (a _ _ _ _ _))<|mg 15 (aB false) [0,1,2,3,4,5,6]) fun _=>sS (fun aau=>sT (lB EE 6 (fun S=>wS Tryz.prog S 263 (aP 5) (aI iF.Op)) (fun S=>.val (.ptr 5 0 13) S) kr kr (by rw[of_decide_eq_true aau];kernel_rfl))<|fH 5 dw (sL 13 iF.Kids<|wa 2 [[1,7,8,9],[11]] [1,8,0,2,3,4,5,6] (a _ _ _ _ _))<|mg 15 (aB false) [0,1,2,3,4,5,6]) fun _=>sS (fun aav=>sT (lB EE 6 (fun S=>wS Tryz.prog S 263 (aP 5) (aI iF.Op)) (fun S=>.val (.ptr 5 0 14) S) kr kr (by rw[of_decide_eq_true aav];kernel_rfl))<|fH 5 dw (sL 13 iF.Kids<|wa 2 [[1,7,8,9],[11]] [1,8,0,2,3,4,5,6] (a _ _ _ _ _))<|mg 15 (aB false) [0,1,2,3,4,5,6]) fun _=>sS (fun Lm=>sT (lB EE 6 (fun S=>wS Tryz.prog S 263 (aP 5) (aI iF.Op)) (fun S=>.val (.ptr 5 0 15) S) kr kr (by rw[of_decide_eq_true Lm];kernel_rfl))<|fH 5 dw (sL 13 iF.Kids<|wa 2 [[1,7,8,9],[11]] [1,8,0,2,3,4,5,6] (a _ _ _ _ _))<|mg 15 (aB false) [0,1,2,3,4,5,6]) fun _=>s0)<|mg 28 (aB false) [0,1,2,3,4,5,6]) (hb:=by rintro(y | y)<;>exact bd)
variable {a14 : Int}
theorem gm {iF:Term}{gp:Int}:LG Tryz.prog (bT iF gp a12 a13 a14) 196 7 (eA iF gp a12 a13 a14) (gE a12 a13):=mZ.2 _ _ _
def tJ (a0:aE)(a1:Term):Option (Bool):=
 bT a1 1 a0 false 0>>=fun v182=>(match v182 with | (Sum.inl a)=>some false | (Sum.inr b)=>some true)
theorem GO {a1:Term}:LF Tryz.prog (tJ a0 a1) 100 [aG a0,aK a1] aB:=
 sF<|sT (Ax EE 412 9 [2,4,5,6,12,13] kr)<|sQ 10 12 [10,11,9,0,2,5,6] gm fun v=>match v with | .inl _=>sR 6 | .inr _=>sR 8
noncomputable def HP : St:=sN 2 (ak (aI 0) none (sN 8 (ak (aB true) none (sN 0 (ak (aI 0) none (sN 5 (St.start T0 63 [.agg [.lit [],.lit []],.lit []] ag.empty)))))))
noncomputable def HQ := fun a0 a1 a=>fV HP 1 fun o=>([[(1,.fn (.func 99) [] [aP (o 0)]),(7,aT a1),(8,aI (a1.length:Int)),(9,aI a)],[(8,aB true)]],[((o 0),oG a0)])
def kU (a0:aE)(a1:LT)(a:Int):Option (Bool):=
 if decide (a<(a1.length:Int)) then(bP a1 a>>=fun b=>tJ a0 b>>=fun c=>if c then(if cw .i64 (a+1) then(kU a0 a1 (a+1)) else none) else(some false)) else(some true)
 partial_fixpoint
theorem CE {a1:LT}:(∀ b,LH Tryz.prog (kU a0 a1 b) aB (HQ a0 a1 b)):=by
 refine kU.partial_correctness _ _ _ ?_
 exact fun kU a b=>sB 1 (sX 3 fun _=>fH 13 GO (sI 6<|sM 2 [[1,7,8,9],[8]] [0] [] 3 (a _))<|sR 12)<|sR 9
def pG (a0:aE)(a1:LT):Option (Bool):=
 cW a0>>=fun a=>if decide (a=0) then(kU a0 a1 0) else(some false)
theorem ur {a1:LT}:LF Tryz.prog (pG a0 a1) 63 [aG a0,aT a1] aB:=
 sF<|sC 5 pI fun _=>sB 0 (sL 8 a1<|sK 2 [[1,7,8,9],[8]] [0] (CE _))<|sR 8
@[simp] noncomputable def dU := fun gp a12 a13 a14 (a:(List (Int×Bool))) (o:NM)=>(([aK gp,aI a12,aP (o 0),aP (o 1)],[oY (o 2),.arr 1 [.fn (.func 196) [] [aP (o 0),aP (o 1)]],qU Tryz.prog .ready 328 0 43 618475524351 [(4,aP (o 3)),(5,aP (o 4)),(6,aP (o 5))],.arr 1 [aB a13],oI a14,.arr 1 [.cQ (o 6)],.mp (a.map (cg (az .i64) gv))]):TC)
@[simp] noncomputable def fJ := fun a13 a14 (r:(Sum (List (Int×Bool)) (List (Int×Bool)))) (o:NM)=>(match r with | (Sum.inl y)=>(aB false,sm [oY (o 2),.arr 1 [.fn (.func 196) [] [aP (o 0),aP (o 1)]],xY (some .ret) (qU Tryz.prog .done 328 0 43 618475524351 [(4,aP (o 3)),(5,aP (o 4)),(6,aP (o 5))]),.arr 1 [aB false],oI 0,.arr 1 [.cQ (o 6)],.mp (y.map (cg (az .i64) gv))],[]) | (Sum.inr y)=>(aB true,sm [oY (o 2),.arr 1 [.fn (.func 196) [] [aP (o 0),aP (o 1)]],qU Tryz.prog .ready 328 0 43 618475524351 [(4,aP (o 3)),(5,aP (o 4)),(6,aP (o 5))],.arr 1 [aB a13],oI a14,.arr 1 [.cQ (o 6)],.mp (y.map (cg (az .i64) gv))],[]):TB)
noncomputable def m3 : St:=sN 2 (ak (aI 0) none (sN 11 (eC (fun S=>.skip (S.set 6 (.mp []))) (sN 4 (ak (aB true) none (sN 5 (eC (fun S=>.val (aB false) S) (sN 4 (ak (aB true) none (sN 4 (ak (aB false) none (sN 3 (ak (aB true) none (sN 17 (St.start T0 196 ((dz dU id).1) (oX 7 (mR 0 ((dz dU id).2))))))))))))))))))
noncomputable def m4 := fun(gp:Term) a12 a13 a14 (c:(List (Int×Bool))) a (b:(List (Int×Bool)))=>fV m3 10 fun o=>([[(1,.fn (.func 197) [] [aP (o 1),aP (o 8)]),(7,aT gp.Kids),(8,aI (gp.Kids.length:Int)),(9,aI a)],[(11,aB true)]],[((o 1),.arr 1 [.fn (.func 196) [] [aP (o 0),aP (o 1)]]),((o 8),oI a12),((o 0),oY (o 2)),((o 2),qU Tryz.prog .ready 328 0 43 618475524351 [(4,aP (o 3)),(5,aP (o 4)),(6,aP (o 5))]),((o 3),.arr 1 [aB a13]),((o 4),oI a14),((o 5),.arr 1 [.cQ (o 6)]),((o 6),.mp (b.map (cg (az .i64) gv)))])
mutual
def aC (gp:Term)(a12:Int)(a13:Bool)(a14:Int)(f:(List (Int×Bool)))(a:Int)(b:(List (Int×Bool))):Option (Sum (List (Int×Bool)) (List (Int×Bool))):=
 if decide (a<(gp.Kids.length:Int)) then(bP gp.Kids a>>=fun c=>if cw .i64 (a12+1) then(bJ c (a12+1) a13 a14 b>>=fun v131=>(match v131 with | (Sum.inl d)=>some (Sum.inl d) | (Sum.inr e)=>if cw .i64 (a+1) then(aC gp a12 a13 a14 f (a+1) e) else none)) else none) else(some (Sum.inr b))
 partial_fixpoint
def bJ (gp:Term)(a12:Int)(a13:Bool)(a14:Int)(a:(List (Int×Bool))):Option (Sum (List (Int×Bool)) (List (Int×Bool))):=
 if(!decide ((gp.Op:Int)=1)) then(if(!decide ((gp.Op:Int)=3)) then(some (Sum.inl a)) else(if decide ((gp.Op:Int)=1) then(if((iO a gp.N).getD false) then(some (Sum.inl a)) else(if decide ((gp.Op:Int)=1) then(aC gp a12 a13 a14 a 0 (ko a gp.N true)) else(aC gp a12 a13 a14 a 0 a))) else(if decide ((gp.Op:Int)=1) then(aC gp a12 a13 a14 a 0 (ko a gp.N true)) else(aC gp a12 a13 a14 a 0 a)))) else(if decide ((gp.Op:Int)=1) then(if((iO a gp.N).getD false) then(some (Sum.inl a)) else(if decide ((gp.Op:Int)=1) then(aC gp a12 a13 a14 a 0 (ko a gp.N true)) else(aC gp a12 a13 a14 a 0 a))) else(if decide ((gp.Op:Int)=1) then(aC gp a12 a13 a14 a 0 (ko a gp.N true)) else(aC gp a12 a13 a14 a 0 a)))
 partial_fixpoint
end
theorem mf : (∀ gp a12 b c d,LJ Tryz.prog (aC gp a12 a13 a14 b c d) 7 (fJ a13 a14) (m4 gp a12 a13 a14 b c d))∧(∀ gp a12 b,LG Tryz.prog (bJ gp a12 a13 a14 b) 196 7 (dU gp a12 a13 a14 b) (fJ a13 a14)):=by
 refine aC.mutual_partial_correctness _ _ _ _ ?_ ?_
 · exact fun aC bJ a fB gp a12 b c d=>sB 1 (sX 3 fun _=>sI 14<|sQ 0 12 [0,1,2,3,4,5,6] (fB _ _ _) fun v=>match v with | .inl _=>mg 12 (aB false) [0,1,2,3,4,5,6] | .inr _=>sI 6<|I9 2 [[1,7,8,9],[11]] [1,8,0,2,3,4,5,6] [] 12 (a _ _ _ _ _))<|mg 9 (aB true) [0,1,2,3,4,5,6]
 · exact fun aC a gp a12 b=>P8 7 (sB 17 (sB 3 (mg 26 (aB false) [0,1,2,3,4,5,6])<|sB 4 (akO 4 121 6 (mg 16 (aB false) [0,1,2,3,4,5,6])<|sB 5 (afC 4 121 6 b gp.N true<|sL 11 gp.Kids<|wa 2 [[1,7,8,9],[11]] [1,8,0,2,3,4,5,6] (a _ _ _ _ _))<|sL 11 gp.Kids<|wa 2 [[1,7,8,9],[11]] [1,8,0,2,3,4,5,6] (a _ _ _ _ _))<|sB 10 (afC 4 121 6 b gp.N true<|sL 11 gp.Kids<|wa 2 [[1,7,8,9],[11]] [1,8,0,2,3,4,5,6] (a _ _ _ _ _))<|sL 11 gp.Kids<|wa 2 [[1,7,8,9],[11]] [1,8,0,2,3,4,5,6] (a _ _ _ _ _))<|sB 8 (akO 4 121 6 (mg 16 (aB false) [0,1,2,3,4,5,6])<|sB 5 (afC 4 121 6 b gp.N true<|sL 11 gp.Kids<|wa 2 [[1,7,8,9],[11]] [1,8,0,2,3,4,5,6] (a _ _ _ _ _))<|sL 11 gp.Kids<|wa 2 [[1,7,8,9],[11]] [1,8,0,2,3,4,5,6] (a _ _ _ _ _))<|sB 10 (afC 4 121 6 b gp.N true<|sL 11 gp.Kids<|wa 2 [[1,7,8,9],[11]] [1,8,0,2,3,4,5,6] (a _ _ _ _ _))<|sL 11 gp.Kids<|wa 2 [[1,7,8,9],[11]] [1,8,0,2,3,4,5,6] (a _ _ _ _ _)) (hb:=by rintro(y | y)<;>exact bd)
theorem fB {gp:Term}{a12:Int}{a:(List (Int×Bool))}:LG Tryz.prog (bJ gp a12 a13 a14 a) 196 7 (dU gp a12 a13 a14 a) (fJ a13 a14):=mf.2 _ _ _
def oz (a0:aE)(a1:Term):Option (Bool×Int):=
 pG a0 [a1]>>=fun a=>if a then(bJ a1 1 false 0 ([]:(List (Int×Bool)))>>=fun b=>(match b with | (Sum.inl c)=>some (false,0) | (Sum.inr d)=>some (true,0))) else(some (false,2))
theorem BA {a1:Term}:LF Tryz.prog (oz a0 a1) 328 [aG a0,aK a1] (fun r=>.bO [aB r.1,aI r.2]):=
 sF<|sV fun a b=>sT (EG EE 9 63 [aG a0,.ai 4 0 1] [aG a0,.lit [aK a1]] (aB a) kr (uF.cons (.pure pv) (uF.cons (BM.lN (sz:=3) (es:=[aK a1]) kr (by first | rfl | (simp;done) | omega | (simp;omega)) pl) uF.nil)) pl rfl (by have q:=ur a b;simp only[aT,dF,ud,kM] at q;exact q))<|match a with | true=>(aj3<|sT (Ax EE 18 9 [4,5,6,16] kr)<|sQ 10 12 [10,11,9,2,3,6,5] fB fun v=>match v with | .inl _=>sR 6 | .inr _=>sR 9) | false=>sf<|sR 6
def nv (a0:aE)(a1:Term):Option (Int):=
 pG a0 [a1]>>=fun v0=>if v0 then(some 0) else(some 2)
theorem qz {a1:Term}:LF Tryz.prog (nv a0 a1) 54 [aG a0,aK a1] aI:=
 sF<|sV fun v0 a=>sT (EG EE 8 63 [aG a0,.ai 2 0 1] [aG a0,.lit [aK a1]] (aB v0) kr (uF.cons (.pure pv) (uF.cons (BM.lN (sz:=3) (es:=[aK a1]) kr (by first | rfl | (simp;done) | omega | (simp;omega)) pl) uF.nil)) pl rfl (by have q:=ur v0 a;simp only[aT,dF,ud,kM] at q;exact q))<|match v0 with | true=>aj3<|sR 5 | false=>sf<|sR 5
noncomputable def uw : St:=sN 2 (ak (aI 0) none (sN 4 (St.start T0 66 [.lit [],aI 0] ag.empty)))
noncomputable def ux := fun a0 a1 a=>fV uw 0 fun o=>([[(0,aN a0),(1,aI a1),(7,aI (a0.length:Int)),(8,aI a)]],[])
def dj (a0:LI)(a1 a:Int):Option (Int):=
 if decide (a<(a0.length:Int)) then(bP a0 a>>=fun b=>if decide (a1=b) then(some a) else(if cw .i64 (a+1) then(dj a0 a1 (a+1)) else none)) else(some (-1))
 partial_fixpoint
theorem rF {a0:LI}:(∀ b,LH Tryz.prog (dj a0 a1 b) aI (ux a0 a1 b)):=by
 refine dj.partial_correctness _ _ _ ?_
 exact fun dj a b=>sB 1 (sX 9 fun _=>sB 1 (sR 5)<|sI 2<|sK 2 [[0,1,7,8]] [] (a _))<|sR 5
def lG (a0:LI)(a1:Int):Option (Int):=
 dj a0 a1 0
theorem uy {a0:LI}:LF Tryz.prog (lG a0 a1) 66 [aN a0,aI a1] aI:=
 sF<|sL 4 a0<|sK 2 [[0,1,7,8]] [] (rF _)
def cJ (a0:LI)(a1:Int):Option (Bool):=
 lG a0 a1>>=fun v0=>if decide (v0≥0) then(some true) else(some false)
theorem fP {a0:LI}:LF Tryz.prog (cJ a0 a1) 34 [aN a0,aI a1] aB:=
 sF<|sC 5 uy fun _=>sB 0 (sR 3)<|sR 3
@[simp] noncomputable def ig := fun EP (o:NM)=>(([aT EP],[]):TC)
@[simp] noncomputable def dk := fun(r:(List (Int×Int))) (o:NM)=>((.cQ (o 0),[],[.mp (r.map (cg (az .i64) (az .i64)))]):TB)
@[simp] noncomputable def fi := fun a a49 a50 a51 (b:(List (Int×Int))) (o:NM)=>(([aK a,aP (o 0),aP (o 1)],[oY (o 2),.arr 1 [.fn (.func 370) [] [aP (o 0),aP (o 1)]],qU Tryz.prog .ready 330 0 27 626541 [(3,aP (o 3)),(8,aT a49),(9,aI a50),(10,aI a51)],.arr 1 [.cQ (o 4)],.mp (b.map (cg (az .i64) (az .i64)))]):TC)
@[simp] noncomputable def ij := fun a49 a50 a51 (r:(List (Int×Int))) (o:NM)=>((aB true,sm [oY (o 2),.arr 1 [.fn (.func 370) [] [aP (o 0),aP (o 1)]],qU Tryz.prog .ready 330 0 27 626541 [(3,aP (o 3)),(8,aT a49),(9,aI a50),(10,aI a51)],.arr 1 [.cQ (o 4)],.mp (r.map (cg (az .i64) (az .i64)))],[]):TB)
@[simp] noncomputable def uz := fun Jk (o:NM)=>(([aK Jk],[]):TC)
@[simp] noncomputable def mX := fun(r:(List (Int×Int))) (o:NM)=>((.cQ (o 0),[],[.mp (r.map (cg (az .i64) (az .i64)))]):TB)
@[simp] noncomputable def fj := fun a145 (a:(List (Int×Int))) (o:NM)=>(([aK a145,aP (o 0),aP (o 1)],[oY (o 2),.arr 1 [.fn (.func 370) [] [aP (o 0),aP (o 1)]],qU Tryz.prog .ready 331 0 18 2463 [(3,aP (o 3))],.arr 1 [.cQ (o 4)],.mp (a.map (cg (az .i64) (az .i64)))]):TC)
@[simp] noncomputable def im := fun(r:(List (Int×Int))) (o:NM)=>((aB true,sm [oY (o 2),.arr 1 [.fn (.func 370) [] [aP (o 0),aP (o 1)]],qU Tryz.prog .ready 331 0 18 2463 [(3,aP (o 3))],.arr 1 [.cQ (o 4)],.mp (r.map (cg (az .i64) (az .i64)))],[]):TB)
@[simp] noncomputable def gh := fun a (a282:(List (Int×Int))) (o:NM)=>(([aK a,.cQ (o 0),.an],[.mp (a282.map (cg (az .i64) (az .i64)))]):TC)
@[simp] noncomputable def jd := fun(a282:(List (Int×Int))) (r:Bool) (o:NM)=>((aB r,[some (.mp (a282.map (cg (az .i64) (az .i64))))],[]):TB)
@[simp] noncomputable def gi := fun b (a419:(List (Int×Int))) (a:LI) (o:NM)=>(([aK b,.cQ (o 0),.ai (o 1) 0 a.length],[.mp (a419.map (cg (az .i64) (az .i64))),.arr 1 (a.map (az .i64))]):TC)
@[simp] noncomputable def je := fun(a419:(List (Int×Int))) (a:LI) (r:Bool) (o:NM)=>((aB r,sm [.mp (a419.map (cg (az .i64) (az .i64))),.arr 1 (a.map (az .i64))],[]):TB)
noncomputable def pL (bs:List Nat)  (r:(List (Int×Int))):St:=auh Tryz.prog (Ad 0 (dk r)) bs (sN 2 (ak (aI 0) none (sN 8 (UI Tryz.prog (Ad 0 (dk r)) (sN 0 (St.start T0 330 ((ig dd id).1) (oX 0 (mR 0 ((ig dd id).2)))))))))
noncomputable def pM := fun(bs:List Nat) (r:(List (Int×Int))) EP a (b:(List (Int×Int)))=>fV (pL bs r) 2 fun o=>([[(3,aP (o 1)),(8,aT EP),(9,aI (EP.length:Int)),(10,aI a)]],[((o 1),.arr 1 [.cQ (o 0)]),((o 0),.mp (b.map (cg (az .i64) (az .i64))))])
noncomputable def pN : St:=sN 2 (ak (aI 0) none (sN 24 (eC (fun S=>.skip (S.set 4 (.mp []))) (sN 0 (ak (aI 0) none (sN 0 (eC (fun S=>.val (aI 0) S) (sN 4 (ak (aB true) none (sN 15 (St.start T0 370 ((dz fi id).1) (oX 5 (mR 0 ((dz fi id).2))))))))))))))
noncomputable def pO := fun(a:Term) a49 a50 a51 (d:(List (Int×Int))) b (c:(List (Int×Int)))=>fV pN 8 fun o=>([[(0,aT a.Kids),(1,.fn (.func 350) [] [aP (o 7)]),(7,aI (a.Kids.length:Int)),(8,aI b)],[],[],[(8,aB true)]],[((o 7),.arr 1 [.fn (.func 370) [] [aP (o 0),aP (o 1)]]),((o 0),oY (o 2)),((o 1),.arr 1 [.fn (.func 370) [] [aP (o 0),aP (o 1)]]),((o 2),qU Tryz.prog .ready 330 0 27 626541 [(3,aP (o 3)),(8,aT a49),(9,aI a50),(10,aI a51)]),((o 3),.arr 1 [.cQ (o 4)]),((o 4),.mp (c.map (cg (az .i64) (az .i64))))])
noncomputable def pP : St:=sN 2 (ak (aI 0) none (sN 24 (eC (fun S=>.skip (S.set 4 (.mp []))) (sN 0 (ak (aI 0) none (sN 0 (eC (fun S=>.val (aI 0) S) (sN 4 (ak (aB true) none (sN 15 (St.start T0 370 ((dz fj id).1) (oX 5 (mR 0 ((dz fj id).2))))))))))))))
noncomputable def pQ := fun(a145:Term) (c:(List (Int×Int))) a (b:(List (Int×Int)))=>fV pP 8 fun o=>([[(0,aT a145.Kids),(1,.fn (.func 350) [] [aP (o 7)]),(7,aI (a145.Kids.length:Int)),(8,aI a)],[],[],[(8,aB true)]],[((o 7),.arr 1 [.fn (.func 370) [] [aP (o 0),aP (o 1)]]),((o 0),oY (o 2)),((o 1),.arr 1 [.fn (.func 370) [] [aP (o 0),aP (o 1)]]),((o 2),qU Tryz.prog .ready 331 0 18 2463 [(3,aP (o 3))]),((o 3),.arr 1 [.cQ (o 4)]),((o 4),.mp (b.map (cg (az .i64) (az .i64))))])
noncomputable def rG : St:=sN 2 (ak (aI 0) none (sN 3 (ak (aB false) none (sN 6 (St.start T0 332 ((dz gh id).1) (oX 1 (mR 0 ((dz gh id).2))))))))
noncomputable def rH := fun a (a282:(List (Int×Int))) b=>fV rG 2 fun o=>([[(1,.cQ (o 0)),(3,aP (o 1)),(2,.an),(25,aT a.Kids),(26,aI (a.Kids.length:Int)),(27,aI b)]],[((o 0),.mp (a282.map (cg (az .i64) (az .i64)))),((o 1),.arr 3 [aK a])])
noncomputable def rI : St:=sN 2 (ak (aI 0) none (sN 3 (ak (aB false) none (sN 6 (St.start T0 332 ((dz gi id).1) (oX 2 (mR 0 ((dz gi id).2))))))))
noncomputable def rJ := fun a (a419:(List (Int×Int))) (b:LI) c=>fV rI 3 fun o=>([[(1,.cQ (o 0)),(3,aP (o 2)),(2,.ai (o 1) 0 b.length),(25,aT a.Kids),(26,aI (a.Kids.length:Int)),(27,aI c)]],[((o 0),.mp (a419.map (cg (az .i64) (az .i64)))),((o 2),.arr 3 [aK a]),((o 1),.arr 1 (b.map (az .i64)))])
noncomputable def KR : St:=sN 2 (ak (aI 0) none (sN 24 (ak (aB false) none (sN 4 (ak (aB false) none (sN 4 (ak (aB false) none (sN 2 (ak (.dN [.sc (.string ⟨#[]⟩),aI 0]) none (sN 4 (ak (aI 0) none (sN 4 (ak (aB false) none (sN 0 (ak (aI 0) none (sN 5 (ak (aB false) none (sN 11 (St.start T0 291 [.agg [.lit [],.lit []],.agg [aI 0,.lit [],aI 0,aI 0,.lit [],aI 0]] ag.empty)))))))))))))))))))
noncomputable def Bg := fun a0 (a1:bn) a=>fV KR 3 fun o=>([[(0,aT a1.cK),(1,.fn (.func 350) [] [aP (o 2)]),(7,aI (a1.cK.length:Int)),(8,aI a)],[],[],[(3,aP (o 1)),(2,aP (o 0)),(48,aB false)]],[((o 2),.arr 1 [.fn (.func 327) [] [aP (o 0)]]),((o 1),.arr 6 [.agg [aI a1.vl,aT a1.cK,aI a1.gR.Op,aI a1.gR.N,aT a1.gR.Kids,aI a1.bg]]),((o 0),oG a0)])
noncomputable def KS : St:=sN 6 (Ts (.cQ 6) (BT 0 (mX dd) [] 6) (sN 3 (Ts (.cQ 5) (BT 0 (dk dd) [] 5) (sN 5 (ak (aB false) none (sN 0 (ak (aI 0) none (sN 15 (ak (aB false) none (sN 13 (ak (aB false) none (sN 7 (eC (fun S=>.val (aB true) S) (sN 1 (ak (.bO [aB false,aI 0]) none (sN 15 (ak (.dN [aI 0,aI 0,.lit []]) none (sN 9 (ak (aB true) none (sN 1 (dz Bg)))))))))))))))))))))
noncomputable def Bh := fun(a1:bn) b (a:(List (Int×Int))) (c:(List (Int×Int)))=>fV KS 8 fun o=>([[(3,aP (o 1)),(69,aP (o 7)),(6,.cQ (o 5)),(7,.cQ (o 6))]],[((o 1),.arr 6 [.agg [aI a1.vl,aT a1.cK,aI a1.gR.Op,aI a1.gR.N,aT a1.gR.Kids,aI a1.bg]]),((o 7),.mi (o 5) (mL a) b),((o 5),.mp (a.map (cg (az .i64) (az .i64)))),((o 6),.mp (c.map (cg (az .i64) (az .i64))))])
noncomputable def KT : St:=sN 2 (Ts (.cQ 9) (BT 0 (dk dd) [] 9) (sN 0 (eC (fun S=>.val (.lit [.agg [aI 0,aI 0,.lit []]]) (Jj S)) (sN 5 (eC (fun S=>.val (.bO [aB false]) S) (sN 1 (dz Bh)))))))
noncomputable def Bi := fun(a1:bn) b (c:(List (Int×Int))) (d:(List (Int×Int))) (a:(List (Int×Int)))=>fV KT 11 fun o=>([[(3,aP (o 1)),(87,aP (o 10)),(6,.cQ (o 5)),(7,.cQ (o 6))]],[((o 1),.arr 6 [.agg [aI a1.vl,aT a1.cK,aI a1.gR.Op,aI a1.gR.N,aT a1.gR.Kids,aI a1.bg]]),((o 10),.mi (o 9) (mL a) b),((o 5),.mp (c.map (cg (az .i64) (az .i64)))),((o 6),.mp (d.map (cg (az .i64) (az .i64)))),((o 9),.mp (a.map (cg (az .i64) (az .i64))))])
noncomputable def KU : St:=sN 6 (eC (fun S=>.val (.bO [aB false]) S) (sN 1 (dz Bi)))
noncomputable def KV := fun(a1:bn) (b:(List (Int×Int))) c (a:(List (Int×Int)))=>fV KU 12 fun o=>([[(6,.cQ (o 5)),(3,aP (o 1)),(97,aP (o 11)),(7,.cQ (o 6))]],[((o 5),.mp (b.map (cg (az .i64) (az .i64)))),((o 1),.arr 6 [.agg [aI a1.vl,aT a1.cK,aI a1.gR.Op,aI a1.gR.N,aT a1.gR.Kids,aI a1.bg]]),((o 11),.mi (o 6) (mL a) c),((o 6),.mp (a.map (cg (az .i64) (az .i64))))])
mutual
def bL (c:Term)(a49:LT)(a50 a51:Int)(f:(List (Int×Int)))(a:Int)(b:(List (Int×Int))):Option (List (Int×Int)):=
 if decide (a<(c.Kids.length:Int)) then(bP c.Kids a>>=fun d=>cj d a49 a50 a51 b>>=fun e=>if cw .i64 (a+1) then(bL c a49 a50 a51 f (a+1) e) else none) else(some b)
 partial_fixpoint
def cj (a:Term)(a49:LT)(a50 a51:Int)(b:(List (Int×Int))):Option (List (Int×Int)):=
 if decide ((a.Op:Int)=1) then(if cw .i64 (((iO b a.N).getD 0)+1) then(bL a a49 a50 a51 b 0 (ko b a.N (((iO b a.N).getD 0)+1))) else none) else(bL a a49 a50 a51 b 0 b)
 partial_fixpoint
end
variable {a49 : LT} {a50 a51 : Int}
theorem nO : (∀ b c d e,LJ Tryz.prog (bL b a49 a50 a51 c d e) 5 (ij a49 a50 a51) (pO b a49 a50 a51 c d e))∧(∀ b c,LG Tryz.prog (cj b a49 a50 a51 c) 370 5 (fi b a49 a50 a51 c) (ij a49 a50 a51)):=by
 refine bL.mutual_partial_correctness _ _ _ _ _ ?_ ?_
 · exact fun bL cj a gO b c d e=>sB 1 (sX 9 fun _=>sV fun g f=>sT (fun q=>yG EE 8 (v:=aB true) (gO _ _ g f _ 9 [0,1,2,3,4] wK) q)<|sI 6<|I9 2 [[0,1,7,8],[],[],[8]] [7,0,1,2,3,4] [] 9 (a _ _ _ _))<|mg 17 (aB true) [0,1,2,3,4]
 · exact fun bL a b c=>P8 5 (sB 15 (afc 4 253 4 c b.N<|sI 0<|akP 0 253 4 c b.N (((iO c b.N).getD 0)+1)<|sL 24 b.Kids<|wa 2 [[0,1,7,8],[],[],[8]] [7,0,1,2,3,4] (a _ _ _ _))<|sL 24 b.Kids<|wa 2 [[0,1,7,8],[],[],[8]] [7,0,1,2,3,4] (a _ _ _ _))
theorem gO {a:Term}{b:(List (Int×Int))}:LG Tryz.prog (cj a a49 a50 a51 b) 370 5 (fi a a49 a50 a51 b) (ij a49 a50 a51):=nO.2 _ _
mutual
def bM (a145:Term)(c:(List (Int×Int)))(a:Int)(b:(List (Int×Int))):Option (List (Int×Int)):=
 if decide (a<(a145.Kids.length:Int)) then(bP a145.Kids a>>=fun d=>cq d b>>=fun e=>if cw .i64 (a+1) then(bM a145 c (a+1) e) else none) else(some b)
 partial_fixpoint
def cq (a145:Term)(a:(List (Int×Int))):Option (List (Int×Int)):=
 if decide ((a145.Op:Int)=8) then(if cw .i64 (((iO a a145.N).getD 0)+1) then(bM a145 a 0 (ko a a145.N (((iO a a145.N).getD 0)+1))) else none) else(bM a145 a 0 a)
 partial_fixpoint
end
theorem nP  : (∀ a145 b c d,LJ Tryz.prog (bM a145 b c d) 5 im (pQ a145 b c d))∧(∀ a145 b,LG Tryz.prog (cq a145 b) 370 5 (fj a145 b) im):=by
 refine bM.mutual_partial_correctness _ _ ?_ ?_
 · exact fun bM cq a gP a145 b c d=>sB 1 (sX 9 fun _=>sV fun f e=>sT (fun q=>yG EE 8 (v:=aB true) (gP _ _ f e _ 9 [0,1,2,3,4] wK) q)<|sI 6<|I9 2 [[0,1,7,8],[],[],[8]] [7,0,1,2,3,4] [] 9 (a _ _ _ _))<|mg 17 (aB true) [0,1,2,3,4]
 · exact fun bM a a145 b=>P8 5 (sB 15 (afc 4 253 4 b a145.N<|sI 0<|akP 0 253 4 b a145.N (((iO b a145.N).getD 0)+1)<|sL 24 a145.Kids<|wa 2 [[0,1,7,8],[],[],[8]] [7,0,1,2,3,4] (a _ _ _ _))<|sL 24 a145.Kids<|wa 2 [[0,1,7,8],[],[],[8]] [7,0,1,2,3,4] (a _ _ _ _))
theorem gP {a145:Term}{a:(List (Int×Int))}:LG Tryz.prog (cq a145 a) 370 5 (fj a145 a) im:=nP.2 _ _
mutual
def bx (b:Term)(a419:(List (Int×Int)))(c:LI)(a:Int):Option Bool:=
 if decide (a<(b.Kids.length:Int)) then(bP b.Kids a>>=fun d=>if decide ((b.Op:Int)=8) then(if decide (a=1) then(if c.isEmpty then(bQ d a419 [b.N]>>=fun e=>if e then(if cw .i64 (a+1) then(bx b a419 c (a+1)) else none) else(some false)) else(if decide (([]:LI).length+c.length≤1048576) then(if decide ((([]:LI)++c).length+[b.N].length≤1048576) then(bQ d a419 ((([]:LI)++c)++[b.N])>>=fun f=>if f then(if cw .i64 (a+1) then(bx b a419 c (a+1)) else none) else(some false)) else none) else none)) else(bQ d a419 c>>=fun g=>if g then(if cw .i64 (a+1) then(bx b a419 c (a+1)) else none) else(some false))) else(bQ d a419 c>>=fun h=>if h then(if cw .i64 (a+1) then(bx b a419 c (a+1)) else none) else(some false))) else(some true)
 partial_fixpoint
def bQ (a:Term)(a419:(List (Int×Int)))(b:LI):Option Bool:=
 if decide ((a.Op:Int)=1) then(if decide ((((iO a419 a.N).getD 0):Int)=0) then(some true) else(cJ b a.N>>=fun c=>if c then(some true) else(some false))) else(bx a a419 b 0)
 partial_fixpoint
end
variable {a419 : (List (Int × Int))}
theorem pR : (∀ c b d,LJ Tryz.prog (bx c a419 b d) 2 (je a419 b) (rJ c a419 b d))∧(∀ c b,LG Tryz.prog (bQ c a419 b) 332 2 (gi c a419 b) (je a419 b)):=by
 refine bx.mutual_partial_correctness _ _ _ ?_ ?_
 · exact fun bx bQ a dA c b d=>sB 1 (sX 4 fun _=>sB 10 (sB 2 (sS (fun e=>sT (bF EE 13 (fun S=>mN Tryz.prog S 45 45 (.ai 4 0 0) (.ai 1 0 b.length)) (fun S=>.val (.ai 4 0 0) S) kr kr (dH (enc:=(az .i64)) (el:=3) (sz:=1) (ys:=b) kr kr (bC _ (.inr ⟨1,1,rfl,by kernel_rfl⟩)) e (bC (enc:=(az .i64)) (ys:=([]:LI)) _ (.inr ⟨4,1,rfl,by kernel_rfl⟩)) (dY (enc:=(az .i64)) (fun _=>rfl) (fun _=>by kernel_rfl) _)))<|sV fun l g=>N0 13 (dA _ _ l g _ 7 [0,6] wK) (sI 3<|I9 2 [[1,3,2,25,26,27]] [0,2,1] [] 7 (a _ _ _))<|mg 5 (aB false) [0,1]) fun e=>sA 13 4 1 5 (hs:=alU) (hy:=bK e)<|sA 6 5 6 7<|sV fun m h=>N0 6 (dA _ _ m h _ 8 [0,7] wK) (sI 3<|I9 2 [[1,3,2,25,26,27]] [0,2,1] [] 8 (a _ _ _))<|mg 5 (aB false) [0,1])<|sV fun n i=>N0 5 (dA _ _ n i _ 4 [0,1] wK) (sI 3<|I9 2 [[1,3,2,25,26,27]] [0,2,1] [] 4 (a _ _ _))<|mg 5 (aB false) [0,1])<|sV fun o j=>N0 8 (dA _ _ o j _ 4 [0,1] wK) (sI 3<|I9 2 [[1,3,2,25,26,27]] [0,2,1] [] 4 (a _ _ _))<|mg 5 (aB false) [0,1])<|mg 5 (aB true) [0,1]
 · exact fun bx a c b=>P8 2 (sB 6 (afc 4 253 0 a419 c.N<|sB 0 (mg 9 (aB true) [0,1])<|sV fun f k=>sT (EG EE 4 34 [.ai 1 0 b.length,aI c.N] [aN b,aI c.N] (aB f) kr (uF.cons (BM.lN (sz:=1) (es:=(b.map (az .i64))) kr (by first | rfl | (simp;done) | omega | (simp;omega)) pl) (uF.cons (.pure pv) uF.nil)) pl rfl (fP f k))<|match f with | true=>aj3<|mg 4 (aB true) [0,1] | false=>sf<|mg 4 (aB false) [0,1])<|sL 3 c.Kids<|wa 2 [[1,3,2,25,26,27]] [0,2,1] (a _ _ _))
theorem dA {b:Term}{a:LI}:LG Tryz.prog (bQ b a419 a) 332 2 (gi b a419 a) (je a419 a):=pR.2 _ _
def cu (EP:LT)(a:Int)(b:(List (Int×Int))):Option (List (Int×Int)):=
 if decide (a<(EP.length:Int)) then(bP EP a>>=fun c=>cj c EP (EP.length:Int) a b>>=fun d=>if cw .i64 (a+1) then(cu EP (a+1) d) else none) else(some b)
 partial_fixpoint
theorem nQ (EP:LT):(∀ b c r,cu EP b c=some r→∀ bs:List Nat,SX Tryz.prog (Ad 0 (dk r)) (pM bs  r EP b c)):=by
 refine cu.partial_correctness _ _ ?_
 intro cu a b c r h
 intro d
 refine yB EE 1 h (fun i h=>?_) (fun i h=>?_)
 · refine yX EE 3 52 54 OC h fun l k h=>?_
   refine Ax EE 16 5 [3,6,6,6,8,9,10,16,17,18,19,20,20,21,22,22,23,24] (by kernel_rfl) ?_
   obtain⟨e,g,h⟩:=rZ h
   refine yG EE 10 (v:=aB true) (gO e g _ 8 [6,7,5,1,0] wK) ?_
   refine YI EE qk 2 4 (bs:=d) (by kernel_rfl) (by kernel_rfl) (by kernel_rfl) (by kernel_rfl) (fun f=>?_)
   refine yI EE 3 h fun m h=>?_
   exact aur EE qk 2 [[3,8,9,10]] [1,0] [] 8 (f::d) (a (b+1) e r h (f::d))
 · cases h
   exact auo EE 5 d (.cQ 0) [0] (lJ.C3 (j:=0) rfl) iy (ua (.mp (c.map (cg (az .i64) (az .i64)))) gK)
def cS (EP:LT):Option (List (Int×Int)):=
 cu EP 0 []
theorem eU {EP:LT}:LG Tryz.prog (cS EP) 330 0 (ig EP) dk:=
 P8 0 (fun r h=>by
  refine VO EE 0 ?_
  refine zL 8 cH EP ?_
  exact aup EE qk 2 [[3,8,9,10]] [1,0] [] ((nQ EP) 0 [] r h []))
def eQ (Jk:Term):Option (List (Int×Int)):=
 cq Jk ([]:(List (Int×Int)))>>=fun a=>some a
theorem jk {Jk:Term}:LG Tryz.prog (eQ Jk) 331 0 (uz Jk) mX:=
 P8 0 (sT (Ax EE 20 5 [3,8] kr)<|sV fun a b=>sT (fun q=>yG EE 10 (v:=aB true) (gP a b _ 8 [6,7,5,2,1] wK) q)<|mg 9 (.cQ 1) [1] (hu:=iy) (ha:=ua (.mp (a.map (cg (az .i64) (az .i64)))) gK) (hf:=lJ.C3 (j:=0) rfl))
mutual
def bD (b:Term)(a282:(List (Int×Int)))(a:Int):Option Bool:=
 if decide (a<(b.Kids.length:Int)) then(bP b.Kids a>>=fun c=>if decide ((b.Op:Int)=8) then(if decide (a=1) then(bQ c a282 [b.N]>>=fun d=>if d then(if cw .i64 (a+1) then(bD b a282 (a+1)) else none) else(some false)) else(cx c a282>>=fun e=>if e then(if cw .i64 (a+1) then(bD b a282 (a+1)) else none) else(some false))) else(cx c a282>>=fun f=>if f then(if cw .i64 (a+1) then(bD b a282 (a+1)) else none) else(some false))) else(some true)
 partial_fixpoint
def cx (a:Term)(a282:(List (Int×Int))):Option Bool:=
 if decide ((a.Op:Int)=1) then(if decide ((((iO a282 a.N).getD 0):Int)=0) then(some true) else(cJ ([]:LI) a.N>>=fun b=>if b then(some true) else(some false))) else(bD a a282 0)
 partial_fixpoint
end
variable {a282 : (List (Int × Int))}
theorem pS : (∀ b c,LJ Tryz.prog (bD b a282 c) 1 (jd a282) (rH b a282 c))∧(∀ b,LG Tryz.prog (cx b a282) 332 1 (gh b a282) (jd a282)):=by
 refine bD.mutual_partial_correctness _ _ _ ?_ ?_
 · exact fun bD cx a fQ b c=>sB 1 (sX 4 fun _=>sB 10 (sB 2 (sV fun i e=>N0 24 (dA i e _ 5 [0,4] wK) (sI 3<|I9 2 [[1,3,2,25,26,27]] [0,1] [] 5 (a _ _))<|mg 5 (aB false) [0])<|sV fun j f=>N0 5 (fQ _ j f _ 3 [0] wK) (sI 3<|I9 2 [[1,3,2,25,26,27]] [0,1] [] 3 (a _ _))<|mg 5 (aB false) [0])<|sV fun k g=>N0 8 (fQ _ k g _ 3 [0] wK) (sI 3<|I9 2 [[1,3,2,25,26,27]] [0,1] [] 3 (a _ _))<|mg 5 (aB false) [0])<|mg 5 (aB true) [0]
 · exact fun bD a b=>P8 1 (sB 6 (afc 4 253 0 a282 b.N<|sB 0 (mg 9 (aB true) [0])<|sV fun d h=>sT (xX EE 4 34 [.an,aI b.N] [.lit [],aI b.N] (aB d) kr kr (fP d h))<|match d with | true=>aj3<|mg 4 (aB true) [0] | false=>sf<|mg 4 (aB false) [0])<|sL 3 b.Kids<|wa 2 [[1,3,2,25,26,27]] [0,1] (a _ _))
theorem fQ {a:Term}:LG Tryz.prog (cx a a282) 332 1 (gh a a282) (jd a282):=pS.2 _
def ma (a1:bn)(c:(List (Int×Int)))(a:(List (Int×Int))):Nat→List Nat→Option Bool
 | 0,_=>none
 | n+1,d=>BS a d (cx a1.gR a>>=fun e=>if e then(some true) else(some false)) (fun f b=>if decide ((b.2:Int)>1) then(some false) else(if decide ((b.1:Int)≥a1.bg) then(some false) else(if decide ((((iO c b.1).getD 0):Int)>0) then(some false) else(ma a1 c a n (d++[f])))))
theorem wD {a1:bn}{c:(List (Int×Int))}{a:(List (Int×Int))}:∀ n b,LH Tryz.prog (ma a1 c a n b) aB (KV a1 c b a)
 | 0,_=>fun _ h=>by rw[ma] at h;cases h
 | n+1,b=>akM 1 11 6 (mL a) (sV fun f d=>N0 6 (fQ f d _ 12 [6] wK) (sR 3)<|sR 3) fun g i e=>akN 4 11 6 (mL a) b g e<|sB 6 (sR 16)<|sB 4 (sR 11)<|afc 4 253 5 c i.1<|sB 0 (sR 5)<|sK 2 [[6,3,97,7]] [5,1,11,6] (wD n _)
def mb (a1:bn)(b:(List (Int×Int)))(a:(List (Int×Int)))(c:(List (Int×Int))):Nat→List Nat→Option Bool
 | 0,_=>none
 | n+1,d=>BS c d (ma a1 b a (a.length+1) []) (fun e f=>if decide ((f.1:Int)≥a1.bg) then(some false) else(mb a1 b a c n (d++[e])))
theorem wE {a1:bn}{c:(List (Int×Int))}{d:(List (Int×Int))}{a:(List (Int×Int))}:∀ n b,LH Tryz.prog (mb a1 c d a n b) aB (Bi a1 b c d a)
 | 0,_=>fun _ h=>by rw[mb] at h;cases h
 | n+1,b=>akM 1 10 9 (mL a) (sK 6 [[6,3,97,7]] [5,1,11,6] (wD _ _)) fun f _ e=>akN 4 10 9 (mL a) b f e<|sB 6 (sR 4)<|sK 1 [[3,87,6,7]] [1,10,5,6,9] (wE n _)
def jE (a1:bn)(a:(List (Int×Int)))(b:(List (Int×Int))):Nat→List Nat→Option Bool
 | 0,_=>none
 | n+1,c=>BS a c (cS [a1.gR]>>=fun d=>mb a1 a b d (d.length+1) []) (fun f e=>if decide ((e.2:Int)>1) then(some false) else(if decide ((e.1:Int)≥a1.bg) then(some false) else(jE a1 a b n (c++[f]))))
theorem nh {a1:bn}{a:(List (Int×Int))}{c:(List (Int×Int))}:∀ n b,LH Tryz.prog (jE a1 a c n b) aB (Bh a1 b a c)
 | 0,_=>fun _ h=>by rw[jE] at h;cases h
 | n+1,b=>akM 1 7 5 (mL a) (sT (Fu EE 5 (fun S=>asN Tryz.prog S 52 1 [(0,.agg [aI a1.gR.Op,aI a1.gR.N,aT a1.gR.Kids])]) [cH a1.gR] kr kr kr (.inl ⟨3,by rw[kM a1.gR];kernel_rfl⟩))<|sV fun f d=>sT (fun q=>ZX EE 0 (eU f d _ 9 [] wK) q)<|sK 2 [[3,87,6,7]] [1,10,5,6,9] (wE _ _)) fun g _ e=>akN 4 7 5 (mL a) b g e<|sB 6 (sR 10)<|sB 4 (sR 5)<|sK 2 [[3,69,6,7]] [1,7,5,6] (nh n _)
def iN (a0:aE)(a1:bn)(a:Int):Option (Bool):=
 if decide (a<(a1.cK.length:Int)) then(bP a1.cK a>>=fun f=>oz a0 f>>=fun b=>if b.1 then(if decide ((b.2:Int)=0) then(if cw .i64 (a+1) then(iN a0 a1 (a+1)) else none) else(if decide (a≥0) then(some false) else(nv a0 a1.gR>>=fun g=>if(!decide (g=0)) then(some false) else(cS a1.cK>>=fun c=>eQ a1.gR>>=fun h=>jE a1 c h (c.length+1) [])))) else(if decide (a≥0) then(some false) else(nv a0 a1.gR>>=fun i=>if(!decide (i=0)) then(some false) else(cS a1.cK>>=fun d=>eQ a1.gR>>=fun j=>jE a1 d j (d.length+1) [])))) else(nv a0 a1.gR>>=fun k=>if(!decide (k=0)) then(some false) else(cS a1.cK>>=fun e=>eQ a1.gR>>=fun l=>jE a1 e l (e.length+1) []))
 partial_fixpoint
theorem Ei {a1:bn}:(∀ b,LH Tryz.prog (iN a0 a1 b) aB (Bg a0 a1 b)):=by
 refine iN.partial_correctness _ _ _ ?_
 exact fun iN a b=>sB 1 (sX 9 fun _=>sC 15 BA fun _=>WI 1 (sB 7 (sI 10<|sM 2 [[0,1,7,8],[],[],[3,2,48]] [2,1,0] [] 5 (a _))<|sB 13 (sR 22)<|sC 15 qz fun _=>sB 0 (sR 5)<|sV fun i c=>sT (fun q=>ZX EE 5 (eU i c _ 5 [] wK) q)<|sV fun j d=>sT (fun q=>ZX EE 3 (jk j d _ 6 [] wK) q)<|sK 6 [[3,69,6,7]] [1,7,5,6] (nh _ _))<|sB 21 (sR 22)<|sC 15 qz fun _=>sB 0 (sR 5)<|sV fun k e=>sT (fun q=>ZX EE 5 (eU k e _ 5 [] wK) q)<|sV fun l f=>sT (fun q=>ZX EE 3 (jk l f _ 6 [] wK) q)<|sK 6 [[3,69,6,7]] [1,7,5,6] (nh _ _))<|sC 21 qz fun _=>sB 0 (sR 5)<|sV fun m g=>sT (fun q=>ZX EE 5 (eU m g _ 3 [] wK) q)<|sV fun n h=>sT (fun q=>ZX EE 3 (jk n h _ 4 [] wK) q)<|sT (B9 EE 6 14 kr)<|sM 0 [[3,69,6,7]] [1,5,3,4] [(7,5),(5,3),(6,4),(3,9),(4,10)] 14 (nh _ _)
def u4 (a0:aE)(a1:bn):Option (Bool):=
 if decide ((a1.vl:Int)<0) then(some false) else(if decide ((a1.vl:Int)≥(a0.bq.length:Int)) then(some false) else(bP a0.bq a1.vl>>=fun a=>if(!decide ((a1.cK.length:Int)=a.bu)) then(some false) else(if decide ((a1.bg:Int)<0) then(some false) else(if decide ((a1.bg:Int)>20) then(some false) else(iN a0 a1 0)))))
theorem Bj {a1:bn}:LF Tryz.prog (u4 a0 a1) 291 [aG a0,.agg [aI a1.vl,aT a1.cK,aI a1.gR.Op,aI a1.gR.N,aT a1.gR.Kids,aI a1.bg]] aB:=
 sF<|sB 11 (sR 52)<|sL 5 a0.bq<|sB 0 (sR 45)<|sL 4 a1.cK<|sX 4 fun _=>sB 2 (sR 32)<|sB 4 (sR 27)<|sB 4 (sR 22)<|sL 24 a1.cK<|sK 2 [[0,1,7,8],[],[],[3,2,48]] [2,1,0] (Ei _)
end
end Go.Eng

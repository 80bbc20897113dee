/- Functions of the program lifted to data, each with its contract; no conditions. -/
import Derived.Test.YthplmmeobggkfaaGreatVLcA
import Derived.KernelRfl
set_option linter.all false
namespace Go.Eng
open Go.Proofs
set_option synthInstance.maxSize 100000
set_option synthInstance.maxHeartbeats 400000
set_option maxRecDepth 100000
noncomputable section
noncomputable def Kn : St:=sN 4 (ak (aI 0) none (sN 3 (ak (aB false) none (sN 2 (ak (aB false) none (sN 5 (St.start T0 41 [.agg [aI 0,aI 0,.lit [],.lit [],aI 0,.lit []],aI 0,aI 0] ag.empty)))))))
noncomputable def Bh := fun(a0:af) a2 a b=>fZ Kn 1 fun o=>([[(2,aI a2),(3,aP (o 0)),(7,aI a),(1,aI b)]],[((o 0),.arr 6 [.agg [aI a0.Op,aI a0.Var,.lit (a0.bk.map aZ),.lit (a0.Kids.map au),aI a0.bY,aN a0.bf]])])
noncomputable def Ko : St:=sN 4 (ak (aB false) none (sN 2 (ak (aB true) none (sN 0 (ak (aI 0) none (sN 4 (dz Bh)))))))
noncomputable def Kp := fun(a0:af) a2 a b=>fZ Ko 1 fun o=>([[(2,aI a2),(3,aP (o 0)),(8,aI a),(1,aI b)]],[((o 0),.arr 6 [.agg [aI a0.Op,aI a0.Var,.lit (a0.bk.map aZ),.lit (a0.Kids.map au),aI a0.bY,aN a0.bf]])])
mutual
def gD (a0:af)(a2 a b:Int):Option (Int):=
 if decide (a<(a0.bk.length:Int)) then(if decide (b≥0) then(bQ a0.bk a>>=fun c=>if cy .i64 (a2-1) then(ly c.fh b (a2-1)>>=fun d=>if cy .i64 (a+1) then(gD a0 a2 (a+1) d) else none) else none) else(some b)) else(some b)
 partial_fixpoint
def ly (a0:af)(a1 a2:Int):Option (Int):=
 if decide (a1<1) then(some (-1)) else(if decide (a2<1) then(some (-1)) else(if cy .i64 (a1-1) then(jF a0 a2 0 (a1-1)) else none))
 partial_fixpoint
def jF (a0:af)(a2 a b:Int):Option (Int):=
 if decide (a<(a0.Kids.length:Int)) then(if decide (b≥0) then(bQ a0.Kids a>>=fun c=>if cy .i64 (a2-1) then(ly c b (a2-1)>>=fun d=>if cy .i64 (a+1) then(jF a0 a2 (a+1) d) else none) else none) else(gD a0 a2 0 b)) else(gD a0 a2 0 b)
 partial_fixpoint
end
theorem D4  : (∀ a0 a2 c d,LH Tryz.prog (gD a0 a2 c d) aI (Kp a0 a2 c d))∧(∀ a0 a1 a2,LF Tryz.prog (ly a0 a1 a2) 41 [.agg [aI a0.Op,aI a0.Var,.lit (a0.bk.map aZ),.lit (a0.Kids.map au),aI a0.bY,aN a0.bf],aI a1,aI a2] aI)∧(∀ a0 a2 e f,LH Tryz.prog (jF a0 a2 e f) aI (Bh a0 a2 e f)):=by
 refine gD.mutual_partial_correctness _ _ _ ?_ ?_ ?_
 · exact fun gD ly a mw a0 a2 c d=>sL 4 a0.bk<|sB 0 (sB 2 (sX 6 fun _=>sI 4<|sC 0 (mw _ _ _) fun _=>sI 4<|sK 2 [[2,3,8,1]] [0] (a _ _ _ _))<|sR 6)<|sR 9
 · exact fun jF b a0 a1 a2=>sF<|sB 5 (sR 8)<|sB 2 (sR 5)<|sI 3<|sK 4 [[2,3,7,1]] [0] (b _ _ _ _)
 · exact fun gD ly jF a mw b a0 a2 e f=>sL 4 a0.Kids<|sB 0 (sB 2 (sX 6 fun _=>sI 3<|sC 0 (mw _ _ _) fun _=>sI 4<|sK 2 [[2,3,7,1]] [0] (b _ _ _ _))<|sK 4 [[2,3,8,1]] [0] (a _ _ _ _))<|sK 7 [[2,3,8,1]] [0] (a _ _ _ _)
variable {a1 a2 : Int}
theorem mw {a0:af}:LF Tryz.prog (ly a0 a1 a2) 41 [.agg [aI a0.Op,aI a0.Var,.lit (a0.bk.map aZ),.lit (a0.Kids.map au),aI a0.bY,aN a0.bf],aI a1,aI a2] aI:=D4.2.1 _ _ _
noncomputable def Kq : St:=sN 3 (ak (aB false) none (sN 0 (ak (aI 0) none (sN 6 (St.start T0 42 [.agg [aI 0,aI 0,.lit [],.lit [],aI 0,.lit []]] ag.empty)))))
noncomputable def Bi := fun(a0:af) a=>fZ Kq 1 fun o=>([[(1,aP (o 0)),(3,aI a)]],[((o 0),.arr 6 [.agg [aI a0.Op,aI a0.Var,.lit (a0.bk.map aZ),.lit (a0.Kids.map au),aI a0.bY,aN a0.bf]])])
noncomputable def Kr : St:=sN 3 (ak (aB false) none (sN 0 (ak (aI 0) none (sN 4 (dz Bi)))))
noncomputable def Ks := fun(a0:af) a=>fZ Kr 1 fun o=>([[(1,aP (o 0)),(4,aI a)]],[((o 0),.arr 6 [.agg [aI a0.Op,aI a0.Var,.lit (a0.bk.map aZ),.lit (a0.Kids.map au),aI a0.bY,aN a0.bf]])])
mutual
def jG (a0:af)(a:Int):Option (Bool):=
 if decide (a<(a0.Kids.length:Int)) then(bQ a0.Kids a>>=fun b=>lA b>>=fun v46=>if v46 then(if cy .i64 (a+1) then(jG a0 (a+1)) else none) else(some false)) else(some true)
 partial_fixpoint
def lA (a0:af):Option (Bool):=
 if decide ((a0.bf.length:Int)>30) then(some false) else(jH a0 0)
 partial_fixpoint
def jH (a0:af)(a:Int):Option (Bool):=
 if decide (a<(a0.bk.length:Int)) then(bQ a0.bk a>>=fun b=>if decide ((b.bf.length:Int)>10) then(some false) else(bQ a0.bk a>>=fun c=>lA c.fh>>=fun d=>if d then(if cy .i64 (a+1) then(jH a0 (a+1)) else none) else(some false))) else(jG a0 0)
 partial_fixpoint
end
theorem D5  : (∀ a0 c,LH Tryz.prog (jG a0 c) aB (Ks a0 c))∧(∀ a0,LF Tryz.prog (lA a0) 42 [.agg [aI a0.Op,aI a0.Var,.lit (a0.bk.map aZ),.lit (a0.Kids.map au),aI a0.bY,aN a0.bf]] aB)∧(∀ a0 d,LH Tryz.prog (jH a0 d) aB (Bi a0 d)):=by
 refine jG.mutual_partial_correctness _ _ _ ?_ ?_ ?_
 · exact fun jG lA a oA a0 c=>sL 4 a0.Kids<|sB 0 (sX 5 fun _=>fI 1 (oA _) (sI 4<|sK 2 [[1,4]] [0] (a _ _))<|sR 5)<|sR 4
 · exact fun jH b a0=>sF<|sL 6 a0.bf<|sB 0 (sR 4)<|sK 3 [[1,3]] [0] (b _ _)
 · exact fun jG lA jH a oA b a0 d=>sL 4 a0.bk<|sB 0 (sX 5 fun e=>sL 2 e.bf<|sB 0 (sR 14)<|sX 4 fun _=>fI 2 (oA _) (sI 5<|sK 2 [[1,3]] [0] (b _ _))<|sR 6)<|sK 3 [[1,4]] [0] (a _ _)
theorem oA {a0:af}:LF Tryz.prog (lA a0) 42 [.agg [aI a0.Op,aI a0.Var,.lit (a0.bk.map aZ),.lit (a0.Kids.map au),aI a0.bY,aN a0.bf]] aB:=D5.2.1 _
def qB (a0:af):Option (Bool):=
 ly a0 130 130>>=fun v0=>if decide (v0≥0) then(lA a0>>=fun v2=>if v2 then(some true) else(some false)) else(some false)
theorem Cy {a0:af}:LF Tryz.prog (qB a0) 10 [.agg [aI a0.Op,aI a0.Var,.lit (a0.bk.map aZ),.lit (a0.Kids.map au),aI a0.bY,aN a0.bf]] aB:=
 sF<|sC 5 mw fun _=>sB 0 (fI 2 oA (sR 4)<|sR 4)<|sR 7
noncomputable def Kt : St:=sN 4 (ak (aI 0) none (sN 3 (ak (aB false) none (sN 2 (ak (aB false) none (sN 5 (St.start T0 44 [.agg [aI 0,aI 0,.lit []],aI 0,aI 0] ag.empty)))))))
noncomputable def Ku := fun a0 a2 a b=>fZ Kt 1 fun o=>([[(2,aI a2),(3,aP (o 0)),(7,aI a),(1,aI b)]],[((o 0),.arr 3 [aK a0])])
mutual
def iP (a0:Term)(a2 a b:Int):Option (Int):=
 if decide (a<(a0.Kids.length:Int)) then(if decide (b≥0) then(bQ a0.Kids a>>=fun c=>if cy .i64 (a2-1) then(lB c b (a2-1)>>=fun d=>if cy .i64 (a+1) then(iP a0 a2 (a+1) d) else none) else none) else(some b)) else(some b)
 partial_fixpoint
def lB (a0:Term)(a1 a2:Int):Option (Int):=
 if decide (a1<1) then(some (-1)) else(if decide (a2<1) then(some (-1)) else(if cy .i64 (a1-1) then(iP a0 a2 0 (a1-1)) else none))
 partial_fixpoint
end
theorem D6  : (∀ a0 a2 b c,LH Tryz.prog (iP a0 a2 b c) aI (Ku a0 a2 b c))∧(∀ a0 a1 a2,LF Tryz.prog (lB a0 a1 a2) 44 [aK a0,aI a1,aI a2] aI):=by
 refine iP.mutual_partial_correctness _ _ ?_ ?_
 · exact fun iP lB a rK a0 a2 b c=>sL 4 a0.Kids<|sB 0 (sB 2 (sX 6 fun _=>sI 3<|sC 0 (rK _ _ _) fun _=>sI 4<|sK 2 [[2,3,7,1]] [0] (a _ _ _ _))<|sR 6)<|sR 9
 · exact fun iP a a0 a1 a2=>sF<|sB 5 (sR 8)<|sB 2 (sR 5)<|sI 3<|sK 4 [[2,3,7,1]] [0] (a _ _ _ _)
theorem rK {a0:Term}:LF Tryz.prog (lB a0 a1 a2) 44 [aK a0,aI a1,aI a2] aI:=D6.2 _ _ _
def pF (a0:Term):Option (Bool):=
 lB a0 50 14>>=fun v0=>if decide (v0≥0) then(some true) else(some false)
theorem vZ {a0:Term}:LF Tryz.prog (pF a0) 12 [aK a0] aB:=
 sF<|sC 5 rK fun _=>sB 0 (sR 3)<|sR 3
noncomputable def BB : St:=sN 5 (St.start T0 71 [.lit []] ag.empty)
noncomputable def BC := fun a0 a=>fZ BB 0 fun o=>([[(0,aT a0),(3,aI a)]],[])
def eV (a0:LT)(a:Int):Option (Bool):=
 if decide (a<(a0.length:Int)) then(if decide (a≤6) then(bQ a0 a>>=fun b=>pF b>>=fun c=>if c then(if cy .i64 (a+1) then(eV a0 (a+1)) else none) else(some false)) else(if decide ((a0.length:Int)≤6) then(some true) else(some false))) else(if decide ((a0.length:Int)≤6) then(some true) else(some false))
 partial_fixpoint
theorem xS {a0:LT}:(∀ b,LH Tryz.prog (eV a0 b) aB (BC a0 b)):=by
 refine eV.partial_correctness _ _ ?_
 exact fun eV a b=>sL 3 a0<|sB 0 (sB 2 (sX 5 fun _=>fI 1 vZ (sI 4<|sK 2 [[0,3]] [] (a _))<|sR 5)<|sL 3 a0<|sB 0 (sR 3)<|sR 3)<|sL 6 a0<|sB 0 (sR 3)<|sR 3
def oF (a0:LT):Option (Bool):=
 eV a0 0
theorem BD {a0:LT}:LF Tryz.prog (oF a0) 71 [aT a0] aB:=
 sF<|sK 5 [[0,3]] [] (xS _)
noncomputable def D7 : St:=sN 4 (ak (aB false) none (sN 0 (ak (aI 0) none (sN 3 (ak (aB false) none (sN 0 (ak (aI 0) none (sN 6 (St.start T0 72 [.agg [.lit [],.lit []]] ag.empty)))))))))
noncomputable def wE := fun a0 a=>fZ D7 1 fun o=>([[(1,aP (o 0)),(3,aI a)]],[((o 0),oG a0)])
noncomputable def D8 : St:=sN 3 (ak (aB false) none (sN 0 (ak (aI 0) none (sN 4 (dz wE)))))
noncomputable def D9 := fun a0 a=>fZ D8 1 fun o=>([[(1,aP (o 0)),(4,aI a)]],[((o 0),oG a0)])
def gj (a0:aH)(a:Int):Option (Bool):=
 if decide (a<(a0.bp.length:Int)) then(bQ a0.bp a>>=fun b=>if decide (((b.Name.size:Int):Int)>30) then(some false) else(if cy .i64 (a+1) then(gj a0 (a+1)) else none)) else(some true)
 partial_fixpoint
variable {a0 : aH}
theorem zX : (∀ b,LH Tryz.prog (gj a0 b) aB (D9 a0 b)):=by
 refine gj.partial_correctness _ _ ?_
 exact fun gj a b=>sL 4 a0.bp<|sB 0 (sX 5 fun c=>sT (wT EE 2 (some (aI (c.Name.size:Nat))) (aI (c.Name.size:Int)) kr (rfl))<|sB 0 (sR 4)<|sI 3<|sK 2 [[1,4]] [0] (a _))<|sR 4
def ic (a0:aH)(a:Int):Option (Bool):=
 if decide (a<(a0.Cons.length:Int)) then(bQ a0.Cons a>>=fun b=>if decide (((b.Name.size:Int):Int)>30) then(some false) else(if cy .i64 (a+1) then(ic a0 (a+1)) else none)) else(gj a0 0)
 partial_fixpoint
theorem zY : (∀ b,LH Tryz.prog (ic a0 b) aB (wE a0 b)):=by
 refine ic.partial_correctness _ _ ?_
 exact fun ic a b=>sL 4 a0.Cons<|sB 0 (sX 5 fun c=>sT (wT EE 2 (some (aI (c.Name.size:Nat))) (aI (c.Name.size:Int)) kr (rfl))<|sB 0 (sR 4)<|sI 3<|sK 2 [[1,3]] [0] (a _))<|sK 3 [[1,4]] [0] (zX _)
def oB (a0:aH):Option (Bool):=
 if decide ((a0.Cons.length:Int)>16) then(some false) else(if decide ((a0.bp.length:Int)>12) then(some false) else(ic a0 0))
theorem wF : LF Tryz.prog (oB a0) 72 [aG a0] aB:=
 sF<|sL 6 a0.Cons<|sB 0 (sR 10)<|sL 3 a0.bp<|sB 0 (sR 5)<|sK 4 [[1,3]] [0] (zY _)
noncomputable def Cz : St:=sN 6 (St.start T0 43 [.agg [.lit [],.lit [],.lit []]] ag.empty)
noncomputable def CA := fun(a0:aL) a=>fZ Cz 1 fun o=>([[(1,aP (o 0)),(3,aI a)]],[((o 0),.arr 3 [.agg [aM a0.cv.Cons,aM a0.cv.bp,.lit (a0.aF.map az)]])])
def fF (a0:aL)(a:Int):Option (Bool):=
 if decide (a<(a0.aF.length:Int)) then(if decide (a≤20) then(bQ a0.aF a>>=fun b=>oF b.cJ>>=fun c=>if c then(bQ a0.aF a>>=fun d=>pF d.gU>>=fun e=>if e then(if cy .i64 (a+1) then(fF a0 (a+1)) else none) else(some false)) else(some false)) else(oB a0.cv>>=fun f=>if f then(if decide ((a0.aF.length:Int)≤20) then(some true) else(some false)) else(some false))) else(oB a0.cv>>=fun g=>if g then(if decide ((a0.aF.length:Int)≤20) then(some true) else(some false)) else(some false))
 partial_fixpoint
theorem yN {a0:aL}:(∀ b,LH Tryz.prog (fF a0 b) aB (CA a0 b)):=by
 refine fF.partial_correctness _ _ ?_
 exact fun fF a b=>sL 4 a0.aF<|sB 0 (sB 2 (sX 6 fun _=>fI 2 BD (sX 5 fun _=>fI 2 vZ (sI 5<|sK 2 [[1,3]] [0] (a _))<|sR 6)<|sR 15)<|fI 4 wF (sL 3 a0.aF<|sB 0 (sR 4)<|sR 4)<|sR 9)<|fI 7 wF (sL 3 a0.aF<|sB 0 (sR 4)<|sR 4)<|sR 9
def qC (a0:aL):Option (Bool):=
 fF a0 0
theorem CB {a0:aL}:LF Tryz.prog (qC a0) 43 [.agg [aM a0.cv.Cons,aM a0.cv.bp,.lit (a0.aF.map az)]] aB:=
 sF<|sK 6 [[1,3]] [0] (yN _)
def mY (a0:aL):Option (Bool):=
 qC a0>>=fun v0=>if v0 then(some true) else(some false)
theorem vj {a0:aL}:LF Tryz.prog (mY a0) 11 [.agg [aM a0.cv.Cons,aM a0.cv.bp,.lit (a0.aF.map az)]] aB:=
 sF<|fI 5 CB (sR 3)<|sR 3
noncomputable def CC : St:=sN 6 (St.start T0 4 [.agg [.lit [],.lit [],.lit [],.lit []]] ag.empty)
noncomputable def CD := fun(a0:bA) a=>fZ CC 1 fun o=>([[(1,aP (o 0)),(3,aI a)]],[((o 0),.arr 4 [.agg [aM a0.Prog.cv.Cons,aM a0.Prog.cv.bp,.lit (a0.Prog.aF.map az),.lit (a0.bP.map au)]])])
def fG (a0:bA)(a:Int):Option (Bool):=
 if decide (a<(a0.bP.length:Int)) then(if decide (a≤12) then(bQ a0.bP a>>=fun b=>qB b>>=fun c=>if c then(if cy .i64 (a+1) then(fG a0 (a+1)) else none) else(some false)) else(mY a0.Prog>>=fun d=>if d then(if decide ((a0.bP.length:Int)≤12) then(some true) else(some false)) else(some false))) else(mY a0.Prog>>=fun e=>if e then(if decide ((a0.bP.length:Int)≤12) then(some true) else(some false)) else(some false))
 partial_fixpoint
theorem yO {a0:bA}:(∀ b,LH Tryz.prog (fG a0 b) aB (CD a0 b)):=by
 refine fG.partial_correctness _ _ ?_
 exact fun fG a b=>sL 4 a0.bP<|sB 0 (sB 2 (sX 6 fun _=>fI 1 Cy (sI 4<|sK 2 [[1,3]] [0] (a _))<|sR 5)<|fI 4 vj (sL 3 a0.bP<|sB 0 (sR 4)<|sR 4)<|sR 9)<|fI 7 vj (sL 3 a0.bP<|sB 0 (sR 4)<|sR 4)<|sR 9
def qD (a0:bA):Option (Bool):=
 fG a0 0
theorem CE {a0:bA}:LF Tryz.prog (qD a0) 4 [.agg [aM a0.Prog.cv.Cons,aM a0.Prog.cv.bp,.lit (a0.Prog.aF.map az),.lit (a0.bP.map au)]] aB:=
 sF<|sK 6 [[1,3]] [0] (yO _)
noncomputable def CF : St:=sN 6 (St.start T0 5 [.agg [aI 0,aI 0,.lit []]] ag.empty)
noncomputable def CG := fun(a0:aj) a=>fZ CF 1 fun o=>([[(1,aP (o 0)),(3,aI a)]],[((o 0),.arr 3 [.agg [aI a0.Nil,aI a0.Cons,.lit (a0.Steps.map ar)]])])
def iE (a0:aj)(a:Int):Option (Bool):=
 if decide (a<(a0.Steps.length:Int)) then(bQ a0.Steps a>>=fun b=>pF b.Expr>>=fun c=>if c then(if cy .i64 (a+1) then(iE a0 (a+1)) else none) else(some false)) else(if decide ((a0.Steps.length:Int)≤8) then(some true) else(some false))
 partial_fixpoint
theorem yP {a0:aj}:(∀ b,LH Tryz.prog (iE a0 b) aB (CG a0 b)):=by
 refine iE.partial_correctness _ _ ?_
 exact fun iE a b=>sL 4 a0.Steps<|sB 0 (DN 5 31 56 cB fun c _=>fI 2 vZ (sI 4<|sK 2 [[1,3]] [0] (a _))<|sR 5)<|sL 3 a0.Steps<|sB 0 (sR 3)<|sR 3
def qE (a0:aj):Option (Bool):=
 iE a0 0
theorem CH {a0:aj}:LF Tryz.prog (qE a0) 5 [.agg [aI a0.Nil,aI a0.Cons,.lit (a0.Steps.map ar)]] aB:=
 sF<|sK 6 [[1,3]] [0] (yP _)
def nC (a0 a1 a2:Int):Option (Bool):=
 if decide (a0≥a1) then(if decide (a0≤a2) then(some true) else(some false)) else(some false)
theorem jw {a0:Int}:LF Tryz.prog (nC a0 a1 a2) 208 [aI a0,aI a1,aI a2] aB:=
 sF<|sB 5 (sB 3 (sR 4)<|sR 4)<|sR 8
noncomputable def MT : St:=sN 5 (St.start T0 277 [.sc (.string ⟨#[]⟩)] ag.empty)
noncomputable def MU := fun a0 a=>fZ MT 0 fun o=>([[(0,.sc (.string a0)),(3,aI a)]],[])
def jg (a0:ByteArray)(a:Int):Option (Bool):=
 if decide (a<(a0.size:Int)) then(pz a0 a>>=fun b=>if decide (b<97) then(pz a0 a>>=fun c=>if decide (c<65) then(some false) else(pz a0 a>>=fun d=>if decide (d>90) then(some false) else(if cy .i64 (a+1) then(jg a0 (a+1)) else none))) else(pz a0 a>>=fun e=>if decide (e>122) then(pz a0 a>>=fun f=>if decide (f<65) then(some false) else(pz a0 a>>=fun g=>if decide (g>90) then(some false) else(if cy .i64 (a+1) then(jg a0 (a+1)) else none))) else(if cy .i64 (a+1) then(jg a0 (a+1)) else none))) else(nC (a0.size:Int) 1 8>>=fun h=>if h then(some true) else(some false))
 partial_fixpoint
theorem GF {a0:ByteArray}:(∀ b,LH Tryz.prog (jg a0 b) aB (MU a0 b)):=by
 refine jg.partial_correctness _ _ ?_
 exact fun jg a b=>sT (wT EE 3 (some (aI (a0.size:Nat))) (aI (a0.size:Int)) kr (rfl))<|sB 0 (sV fun i c=>sT (bF EE 4 (fun S=>Jq Tryz.prog S 9 (.sc (.string a0)) (aI b)) (fun S=>.val (.sc (.int .u8 i)) S) kr kr (vI c kr))<|sB 0 (sV fun j d=>sT (bF EE 9 (fun S=>Jq Tryz.prog S 9 (.sc (.string a0)) (aI b)) (fun S=>.val (.sc (.int .u8 j)) S) kr kr (vI d kr))<|sB 0 (sR 11)<|sV fun k e=>sT (bF EE 3 (fun S=>Jq Tryz.prog S 9 (.sc (.string a0)) (aI b)) (fun S=>.val (.sc (.int .u8 k)) S) kr kr (vI e kr))<|sB 0 (sR 6)<|sI 5<|sK 2 [[0,3]] [] (a _))<|sV fun l f=>sT (bF EE 3 (fun S=>Jq Tryz.prog S 9 (.sc (.string a0)) (aI b)) (fun S=>.val (.sc (.int .u8 l)) S) kr kr (vI f kr))<|sB 0 (sV fun m g=>sT (bF EE 4 (fun S=>Jq Tryz.prog S 9 (.sc (.string a0)) (aI b)) (fun S=>.val (.sc (.int .u8 m)) S) kr kr (vI g kr))<|sB 0 (sR 11)<|sV fun n h=>sT (bF EE 3 (fun S=>Jq Tryz.prog S 9 (.sc (.string a0)) (aI b)) (fun S=>.val (.sc (.int .u8 n)) S) kr kr (vI h kr))<|sB 0 (sR 6)<|sI 5<|sK 2 [[0,3]] [] (a _))<|sI 16<|sK 2 [[0,3]] [] (a _))<|sT (wT EE 2 (some (aI (a0.size:Nat))) (aI (a0.size:Int)) kr (rfl))<|fI 0 jw (sR 3)<|sR 3
def xy (a0:ByteArray):Option (Bool):=
 jg a0 0
theorem Dw {a0:ByteArray}:LF Tryz.prog (xy a0) 277 [.sc (.string a0)] aB:=
 sF<|sK 5 [[0,3]] [] (GF _)
noncomputable def Kv : St:=sN 6 (St.start T0 209 [.lit [],.lit []] ag.empty)
noncomputable def Bj := fun a0 (a1:(List ByteArray))=>fZ Kv 0 fun o=>([[(6,aI 0),(0,aM a0),(1,.lit (a1.map encS))]],[])
noncomputable def Kw : St:=sN 4 (ak (aB true) none (sN 0 (ak (aI 0) none (sN 3 (dz Bj)))))
noncomputable def Bk := fun a0 (a1:(List ByteArray)) a=>fZ Kw 0 fun o=>([[(6,aI 0),(0,aM a0),(1,.lit (a1.map encS)),(7,aI a)]],[])
noncomputable def Kx : St:=sN 12 (ak (.dO [.sc (.string ⟨#[]⟩),aI 0]) none (sN 2 (eH (fun S=>.val (.an) S) (sN 5 (ak (aB true) none (sN 2 (ak (.dO [.sc (.string ⟨#[]⟩),aI 0]) none (sN 4 (ak (aB true) none (sN 2 (ak (.dO [.sc (.string ⟨#[]⟩),aI 0]) none (sN 3 (ak (aB false) none (sN 0 (ak (aI 0) none (sN 3 (dz Bk)))))))))))))))))
noncomputable def Bl := fun a0 a (js:(List ByteArray))=>fZ Kx 2 fun o=>([[(6,aI a),(0,aM a0),(1,.ai (o 1) 0 js.length)]],[((o 1),.arr 1 (js.map encS))])
noncomputable def Ky : St:=sN 4 (ak (aB true) none (sN 0 (ak (aI 0) none (sN 3 (dz Bl)))))
noncomputable def Kz := fun a0 a (js:(List ByteArray)) b=>fZ Ky 2 fun o=>([[(6,aI a),(0,aM a0),(1,.ai (o 1) 0 js.length),(7,aI b)]],[((o 1),.arr 1 (js.map encS))])
mutual
def jI (a0:(List cf))(a:Int)(js:(List ByteArray))(b:Int):Option ((List ByteArray)×Bool):=
 if decide (b<js.length) then(bQ js b>>=fun k=>bQ js b>>=fun d=>bQ a0 a>>=fun e=>if(d.data.toList==e.Name.data.toList) then(some (([]:List ByteArray),false)) else(if cy .i64 (b+1) then(jI a0 a js (b+1)) else none)) else(bQ a0 a>>=fun f=>xy f.Name>>=fun g=>if g then(bQ a0 a>>=fun h=>nC h.bu 0 4>>=fun i=>if i then(if js.isEmpty then(bQ a0 a>>=fun j=>if cy .i64 (a+1) then(jJ a0 (a+1) [j.Name]) else none) else(if decide (js.length≤1048576) then(bQ a0 a>>=fun c=>if decide (js.length+[c.Name].length≤1048576) then(if cy .i64 (a+1) then(jJ a0 (a+1) (js++[c.Name])) else none) else none) else none)) else(some (([]:List ByteArray),false))) else(some (([]:List ByteArray),false)))
 partial_fixpoint
def jJ (a0:(List cf))(a:Int)(js:(List ByteArray)):Option ((List ByteArray)×Bool):=
 if decide (a<(a0.length:Int)) then(jI a0 a js 0) else(some (js,true))
 partial_fixpoint
end
theorem wG {a0:(List cf)}:(∀ c js d,LH Tryz.prog (jI a0 c js d) (fun r=>.bO [.lit (r.1.map encS),aB r.2]) (Kz a0 c js d))∧(∀ c js,LH Tryz.prog (jJ a0 c js) (fun r=>.bO [.lit (r.1.map encS),aB r.2]) (Bl a0 c js)):=by
 refine jI.mutual_partial_correctness _ _ _ ?_ ?_
 · exact fun jI jJ a b c js d=>sB 4 (sV fun _ g=>sT (lF EE 5 (fun S=>w4 Tryz.prog S 102 (.ai 1 0 js.length) (aI d)) (fun S=>.val (.ptr 1 (0+(d:Int).toNat) 0) S) kr kr (lK (xs:=js) (es:=js.map encS) (el:=9) (n:=1) g (by first | rfl | (simp;done) | omega | (simp;omega)) kr kr kr))<|sV fun f h=>sT (lF EE 0 (fun S=>WS Tryz.prog S 9 (.ptr 1 (0+(d:Int).toNat) 0)) (fun S=>.val (.sc (.string f)) S) kr kr (zG (n:=1) (enc:=encS) (xs:=js) (i:=d) h kr (cs:=(AV.agg [.sc (.string f)]).cells) rfl kr kr))<|sX 2 fun _=>sB 2 (sE (by exact bN EE 6 (v:=.bO [.an,aB false]) kr (Fz.bw (.an) (.pure pv))))<|sI 4<|sK 2 [[6,0,1,7]] [1] (a _ _ _))<|sX 3 fun _=>fI 2 Dw (sX 4 fun _=>fI 2 jw (sS (fun Hi=>sT (bF EE 5 (fun S=>mQ Tryz.prog S 102 102 (.an) (.ai 1 0 js.length)) (fun S=>.val (.an) S) kr kr (dJ (enc:=encS) (el:=9) (sz:=1) (ys:=js) kr kr (bC _ (.inr ⟨1,1,rfl,by kernel_rfl⟩)) Hi rfl rfl))<|sX 2 fun _=>sI 9<|sM 2 [[6,0,1]] [3] [(1,3)] 4 (b _ _)) fun Hi=>sG fun j=>sT (bF EE 5 (fun S=>mQ Tryz.prog S 102 102 (.an) (.ai 1 0 js.length)) (fun S=>.val (.ai 2 0 js.length) (S.add (.arr 1 (js.map encS)))) kr kr (AI (enc:=encS) (el:=9) (sz:=1) (ys:=js) (.inl rfl) kr kr (fun _=>rfl) (fun _=>by kernel_rfl) (bC _ (.inr ⟨1,1,rfl,by kernel_rfl⟩)) kr kr (bK Hi) j))<|sX 2 fun e=>sG fun k=>sT (bF EE 3 (fun S=>mQ Tryz.prog S 102 102 (.ai 2 0 js.length) (.ai 3 0 1)) (fun S=>.val (.ai 4 0 (js++[e.Name]).length) ((S.del 2).add (.arr 1 ((js++[e.Name]).map encS)))) kr kr (oh (enc:=encS) (el:=9) (sz:=1) (xs:=js) (ys:=[e.Name]) kr kr (fun _=>rfl) (fun _=>by kernel_rfl) kr (bC _ (.inr ⟨3,1,rfl,by kernel_rfl⟩)) (by first | rfl | (simp;done) | omega | (simp;omega)) kr kr kr (by simp) k))<|sI 5<|sM 2 [[6,0,1]] [4] [(1,4)] 5 (b _ _))<|sE (by exact bN EE 7 (v:=.bO [.an,aB false]) kr (Fz.bw (.an) (.pure pv))))<|sE (by exact bN EE 15 (v:=.bO [.an,aB false]) kr (Fz.bw (.an) (.pure pv)))
 · exact fun jI a c js=>sL 3 a0<|sB 0 (sK 4 [[6,0,1,7]] [1] (a _ _ _))<|sE (by exact bN EE 6 (v:=.bO [.ai 1 0 js.length,aB true]) kr (Fz.bw (Fz.lT (sz:=1) (es:=(js.map encS)) kr (by simp) pl) (.pure pv)))
def kD (a0:(List cf))(a1:(List ByteArray))(a:Int):Option ((List ByteArray)×Bool):=
 if decide (a<(a1.length:Int)) then(bQ a1 a>>=fun c=>bQ a0 0>>=fun d=>if(c.data.toList==d.Name.data.toList) then(some (([]:List ByteArray),false)) else(if cy .i64 (a+1) then(kD a0 a1 (a+1)) else none)) else(bQ a0 0>>=fun e=>xy e.Name>>=fun f=>if f then(bQ a0 0>>=fun g=>nC g.bu 0 4>>=fun h=>if h then(if a1.isEmpty then(bQ a0 0>>=fun i=>jJ a0 1 [i.Name]) else(if decide (a1.length≤1048576) then(bQ a0 0>>=fun b=>if decide (a1.length+[b.Name].length≤1048576) then(jJ a0 1 (a1++[b.Name])) else none) else none)) else(some (([]:List ByteArray),false))) else(some (([]:List ByteArray),false)))
 partial_fixpoint
theorem Ea {a0:(List cf)}{a1:(List ByteArray)}:(∀ b,LH Tryz.prog (kD a0 a1 b) (fun r=>.bO [.lit (r.1.map encS),aB r.2]) (Bk a0 a1 b)):=by
 refine kD.partial_correctness _ _ _ ?_
 exact fun kD a b=>sL 3 a1<|sB 0 (DN 5 102 9 asP fun f _=>sX 3 fun _=>sB 2 (sE (by exact bN EE 6 (v:=.bO [.an,aB false]) kr (Fz.bw (.an) (.pure pv))))<|sI 4<|sK 2 [[6,0,1,7]] [] (a _))<|sX 3 fun _=>fI 2 Dw (sX 4 fun _=>fI 2 jw (sS (fun Ty=>sT (bF EE 5 (fun S=>mQ Tryz.prog S 102 102 (.an) (.lit (a1.map encS))) (fun S=>.val (.an) S) kr kr (dJ (enc:=encS) (el:=9) (sz:=1) (ys:=a1) kr kr (bC _ (.inl rfl)) Ty rfl rfl))<|sX 2 fun _=>sK 12 [[6,0,1]] [1] (wG.2 _ _)) fun Ty=>sG fun d=>sT (bF EE 5 (fun S=>mQ Tryz.prog S 102 102 (.an) (.lit (a1.map encS))) (fun S=>.val (.ai 0 0 a1.length) (S.add (.arr 1 (a1.map encS)))) kr kr (AI (enc:=encS) (el:=9) (sz:=1) (ys:=a1) (.inl rfl) kr kr (fun _=>rfl) (fun _=>by kernel_rfl) (bC _ (.inl rfl)) kr kr (bK Ty) d))<|sX 2 fun c=>sG fun e=>sT (bF EE 3 (fun S=>mQ Tryz.prog S 102 102 (.ai 0 0 a1.length) (.ai 1 0 1)) (fun S=>.val (.ai 2 0 (a1++[c.Name]).length) ((S.del 0).add (.arr 1 ((a1++[c.Name]).map encS)))) kr kr (oh (enc:=encS) (el:=9) (sz:=1) (xs:=a1) (ys:=[c.Name]) kr kr (fun _=>rfl) (fun _=>by kernel_rfl) kr (bC _ (.inr ⟨1,1,rfl,by kernel_rfl⟩)) (by first | rfl | (simp;done) | omega | (simp;omega)) kr kr kr (by simp) e))<|sM 8 [[6,0,1]] [2] [(1,2)] 3 (wG.2 _ _))<|sE (by exact bN EE 7 (v:=.bO [.an,aB false]) kr (Fz.bw (.an) (.pure pv))))<|sE (by exact bN EE 15 (v:=.bO [.an,aB false]) kr (Fz.bw (.an) (.pure pv)))
def xI (a0:(List cf))(a1:(List ByteArray)):Option ((List ByteArray)×Bool):=
 if decide (0<(a0.length:Int)) then(kD a0 a1 0) else(some (a1,true))
theorem GG {a0:(List cf)}{a1:(List ByteArray)}:LH Tryz.prog (xI a0 a1) (fun r=>.bO [.lit (r.1.map encS),aB r.2]) (Bj a0 a1):=
 sL 3 a0<|sB 0 (sK 4 [[6,0,1,7]] [] (Ea _))<|sR 6
def va (a0:(List cf))(a1:(List ByteArray)):Option ((List ByteArray)×Bool):=
 xI a0 a1
theorem Bm {a0:(List cf)}{a1:(List ByteArray)}:LF Tryz.prog (va a0 a1) 209 [aM a0,.lit (a1.map encS)] (fun r=>.bO [.lit (r.1.map encS),aB r.2]):=
 sF<|sK 6 [[6,0,1]] [] GG
def ET (a0:aH):Option (Bool):=
 nC (a0.Cons.length:Int) 2 12>>=fun v0=>if v0 then(if decide ((a0.bp.length:Int)>8) then(some false) else(bQ a0.Cons 0>>=fun a=>if(!([(a.Name.data.toList==(⟨#[70,97,108,115,101]⟩:ByteArray).data.toList),(a.bu==0)].all id)) then(some false) else(bQ a0.Cons 1>>=fun b=>if(!([(b.Name.data.toList==(⟨#[84,114,117,101]⟩:ByteArray).data.toList),(b.bu==0)].all id)) then(some false) else(va a0.Cons ([]:List ByteArray)>>=fun c=>if c.2 then(va a0.bp c.1>>=fun d=>if d.2 then(some true) else(some false)) else(some false))))) else(some false)
theorem Pz : LF Tryz.prog (ET a0) 127 [aG a0] aB:=
 sF<|sL 6 a0.Cons<|fI 0 jw (sL 4 a0.bp<|sB 0 (sR 21)<|sX 4 fun a=>aj3 (Qm EE 2 (uP Tryz.prog .neq 119 (.agg [.sc (.string a.Name),aI a.bu]) (.agg [.sc (.string ⟨#[70,97,108,115,101]⟩),aI 0])) (!([(a.Name.data.toList==(⟨#[70,97,108,115,101]⟩:ByteArray).data.toList),(a.bu==0)].all id)) kr ((JF kr).2)) (sR 13)<|sX 4 fun b=>aj3 (Qm EE 2 (uP Tryz.prog .neq 119 (.agg [.sc (.string b.Name),aI b.bu]) (.agg [.sc (.string ⟨#[84,114,117,101]⟩),aI 0])) (!([(b.Name.data.toList==(⟨#[84,114,117,101]⟩:ByteArray).data.toList),(b.bu==0)].all id)) kr ((JF kr).2)) (sR 5)<|sV fun c d=>sT (yf EE 4 209 [aM a0.Cons,.an] [aM a0.Cons,.lit []] (.bO [.lit (c.1.map encS),aB c.2]) kr kr (Bm c d))<|WL 2 (sC 9 Bm fun _=>WL 2 (sR 6)<|sR 6)<|sR 9)<|sR 27
def A4 (a0:aH)(a1:Term):Option (Bool):=
 if decide ((a1.Op:Int)=1) then(if decide ((a1.Kids.length:Int)=0) then(nC a1.N 0 19>>=fun v2=>if v2 then(some true) else(some false)) else(some false)) else(if decide ((a1.Op:Int)=2) then(if decide ((a1.Kids.length:Int)=0) then(nC a1.N (-1000000) 1000000>>=fun v5=>if v5 then(some true) else(some false)) else(some false)) else(if decide ((a1.Op:Int)=3) then(if cy .i64 ((a0.Cons.length:Int)-1) then(nC a1.N 0 ((a0.Cons.length:Int)-1)>>=fun f=>if f then(bQ a0.Cons a1.N>>=fun g=>if decide ((a1.Kids.length:Int)=g.bu) then(some true) else(some false)) else(some false)) else none) else(if decide ((a1.Op:Int)=4) then(if cy .i64 ((a0.bp.length:Int)-1) then(nC a1.N 0 ((a0.bp.length:Int)-1)>>=fun a=>if a then(bQ a0.bp a1.N>>=fun b=>if decide ((a1.Kids.length:Int)=b.bu) then(some true) else(some false)) else(some false)) else none) else(if decide ((a1.Op:Int)=5) then(if cy .i64 ((a0.bp.length:Int)-1) then(nC a1.N 0 ((a0.bp.length:Int)-1)>>=fun c=>if c then(bQ a0.bp a1.N>>=fun d=>if decide ((a1.Kids.length:Int)<d.bu) then(some true) else(some false)) else(some false)) else none) else(if decide ((a1.Op:Int)=8) then(if decide ((a1.Kids.length:Int)=2) then(nC a1.N 0 19>>=fun e=>if e then(some true) else(some false)) else(some false)) else(if decide ((a1.Op:Int)=6) then(if decide ((a1.Kids.length:Int)=2) then(if decide ((a1.N:Int)=0) then(some true) else(some false)) else(some false)) else(if decide ((a1.Op:Int)=7) then(if decide ((a1.Kids.length:Int)=2) then(if decide ((a1.N:Int)=0) then(some true) else(some false)) else(some false)) else(if decide ((a1.Op:Int)=9) then(if decide ((a1.Kids.length:Int)=2) then(if decide ((a1.N:Int)=0) then(some true) else(some false)) else(some false)) else(if decide ((a1.Op:Int)=10) then(if decide ((a1.Kids.length:Int)=2) then(if decide ((a1.N:Int)=0) then(some true) else(some false)) else(some false)) else(if decide ((a1.Op:Int)=11) then(if decide ((a1.Kids.length:Int)=2) then(if decide ((a1.N:Int)=0) then(some true) else(some false)) else(some false)) else(if decide ((a1.Op:Int)=12) then(if decide ((a1.Kids.length:Int)=2) then(if decide ((a1.N:Int)=0) then(some true) else(some false)) else(some false)) else(if decide ((a1.Op:Int)=13) then(if decide ((a1.Kids.length:Int)=2) then(if decide ((a1.N:Int)=0) then(some true) else(some false)) else(some false)) else(if decide ((a1.Op:Int)=14) then(if decide ((a1.Kids.length:Int)=2) then(if decide ((a1.N:Int)=0) then(some true) else(some false)) else(some false)) else(if decide ((a1.Op:Int)=15) then(if decide ((a1.Kids.length:Int)=2) then(if decide ((a1.N:Int)=0) then(some true) else(some false)) else(some false)) else(some false)))))))))))))))
theorem MV {a1:Term}:LF Tryz.prog (A4 a0 a1) 223 [aG a0,aK a1] aB:=
 sF<|sL 7 a1.Kids<|sB 5 (sB 3 (fI 3 jw (sR 4)<|sR 4)<|sR 8)<|sB 2 (sB 3 (fI 3 jw (sR 4)<|sR 4)<|sR 8)<|sB 2 (sL 6 a0.Cons<|sI 0<|fI 0 jw (sX 6 fun _=>sB 2 (sR 4)<|sR 4)<|sR 14)<|sB 2 (sL 6 a0.bp<|sI 0<|fI 0 jw (sX 6 fun _=>sB 2 (sR 4)<|sR 4)<|sR 14)<|sB 2 (sL 6 a0.bp<|sI 0<|fI 0 jw (sX 6 fun _=>sB 2 (sR 4)<|sR 4)<|sR 14)<|sB 2 (sB 3 (fI 3 jw (sR 4)<|sR 4)<|sR 8)<|sB 2 (sB 3 (sB 3 (sR 4)<|sR 4)<|sR 8)<|sB 2 (sB 3 (sB 3 (sR 4)<|sR 4)<|sR 8)<|sB 2 (sB 3 (sB 3 (sR 4)<|sR 4)<|sR 8)<|sB 2 (sB 3 (sB 3 (sR 4)<|sR 4)<|sR 8)<|sB 2 (sB 3 (sB 3 (sR 4)<|sR 4)<|sR 8)<|sB 2 (sB 3 (sB 3 (sR 4)<|sR 4)<|sR 8)<|sB 2 (sB 3 (sB 3 (sR 4)<|sR 4)<|sR 8)<|sB 2 (sB 3 (sB 3 (sR 4)<|sR 4)<|sR 8)<|sB 2 (sB 3 (sB 3 (sR 4)<|sR 4)<|sR 8)<|sR 5
noncomputable def KA : St:=sN 4 (ak (aB true) none (sN 7 (St.start T0 142 [.agg [.lit [],.lit []],.agg [aI 0,aI 0,.lit []]] ag.empty)))
noncomputable def KB := fun a0 a1 a=>fZ KA 2 fun o=>([[(3,aP (o 1)),(2,aP (o 0)),(5,aI a)]],[((o 1),.arr 3 [aK a1]),((o 0),oG a0)])
mutual
def kE (a0:aH)(a1:Term)(a:Int):Option (Bool):=
 if decide (a<(a1.Kids.length:Int)) then(bQ a1.Kids a>>=fun b=>nL a0 b>>=fun c=>if c then(if cy .i64 (a+1) then(kE a0 a1 (a+1)) else none) else(some false)) else(some true)
 partial_fixpoint
def nL (a0:aH)(a1:Term):Option (Bool):=
 A4 a0 a1>>=fun v0=>if v0 then(kE a0 a1 0) else(some false)
 partial_fixpoint
end
theorem Eb : (∀ a1 b,LH Tryz.prog (kE a0 a1 b) aB (KB a0 a1 b))∧(∀ a1,LF Tryz.prog (nL a0 a1) 142 [aG a0,aK a1] aB):=by
 refine kE.mutual_partial_correctness _ _ _ ?_ ?_
 · exact fun kE nL a wa a1 b=>sL 4 a1.Kids<|sB 0 (sX 7 fun _=>fI 2 (wa _) (sI 4<|sK 2 [[3,2,5]] [1,0] (a _ _))<|sR 5)<|sR 4
 · exact fun kE a a1=>sF<|fI 7 MV (sK 4 [[3,2,5]] [1,0] (a _ _))<|sR 5
theorem wa {a1:Term}:LF Tryz.prog (nL a0 a1) 142 [aG a0,aK a1] aB:=Eb.2 _
def uX (a0:aH)(a1:Term):Option (Bool):=
 lB a1 40 12>>=fun v0=>if decide (v0≥0) then(nL a0 a1>>=fun v2=>if v2 then(some true) else(some false)) else(some false)
theorem xJ {a1:Term}:LF Tryz.prog (uX a0 a1) 89 [aG a0,aK a1] aB:=
 sF<|sC 6 rK fun _=>sB 0 (fI 3 wa (sR 4)<|sR 4)<|sR 8
noncomputable def PA : St:=sN 5 (St.start T0 108 [.lit [],aI 0] ag.empty)
noncomputable def PB := fun a0 a1 a=>fZ PA 0 fun o=>([[(0,aN a0),(1,aI a1),(5,aI a)]],[])
def nM (a0:LI)(a1 a:Int):Option (LI):=
 if decide (a<(a0.length:Int)) then(bQ a0 a>>=fun b=>if decide (b<a1) then(if cy .i64 (a+1) then(nM a0 a1 (a+1)) else none) else(if decide (a<(a0.length:Int)) then(bQ a0 a>>=fun c=>if decide (c=a1) then(some a0) else(if decide (0≤a∧a≤(a0.length:Int)) then(if(a0.take (a:Int).toNat).isEmpty then(if decide (0≤a∧a≤(a0.length:Int)) then(if(a0.drop (a:Int).toNat).isEmpty then(some [a1]) else(if decide ([a1].length+(a0.drop (a:Int).toNat).length≤1048576) then(some ([a1]++(a0.drop (a:Int).toNat))) else none)) else none) else(if decide ((a0.take (a:Int).toNat).length≤1048576) then(if decide ((a0.take (a:Int).toNat).length+[a1].length≤1048576) then(if decide (0≤a∧a≤(a0.length:Int)) then(if(a0.drop (a:Int).toNat).isEmpty then(some ((a0.take (a:Int).toNat)++[a1])) else(if decide (((a0.take (a:Int).toNat)++[a1]).length+(a0.drop (a:Int).toNat).length≤1048576) then(some (((a0.take (a:Int).toNat)++[a1])++(a0.drop (a:Int).toNat))) else none)) else none) else none) else none)) else none)) else(if decide (0≤a∧a≤(a0.length:Int)) then(if(a0.take (a:Int).toNat).isEmpty then(if decide (0≤a∧a≤(a0.length:Int)) then(if(a0.drop (a:Int).toNat).isEmpty then(some [a1]) else(if decide ([a1].length+(a0.drop (a:Int).toNat).length≤1048576) then(some ([a1]++(a0.drop (a:Int).toNat))) else none)) else none) else(if decide ((a0.take (a:Int).toNat).length≤1048576) then(if decide ((a0.take (a:Int).toNat).length+[a1].length≤1048576) then(if decide (0≤a∧a≤(a0.length:Int)) then(if(a0.drop (a:Int).toNat).isEmpty then(some ((a0.take (a:Int).toNat)++[a1])) else(if decide (((a0.take (a:Int).toNat)++[a1]).length+(a0.drop (a:Int).toNat).length≤1048576) then(some (((a0.take (a:Int).toNat)++[a1])++(a0.drop (a:Int).toNat))) else none)) else none) else none) else none)) else none))) else(if decide (a<(a0.length:Int)) then(bQ a0 a>>=fun d=>if decide (d=a1) then(some a0) else(if decide (0≤a∧a≤(a0.length:Int)) then(if(a0.take (a:Int).toNat).isEmpty then(if decide (0≤a∧a≤(a0.length:Int)) then(if(a0.drop (a:Int).toNat).isEmpty then(some [a1]) else(if decide ([a1].length+(a0.drop (a:Int).toNat).length≤1048576) then(some ([a1]++(a0.drop (a:Int).toNat))) else none)) else none) else(if decide ((a0.take (a:Int).toNat).length≤1048576) then(if decide ((a0.take (a:Int).toNat).length+[a1].length≤1048576) then(if decide (0≤a∧a≤(a0.length:Int)) then(if(a0.drop (a:Int).toNat).isEmpty then(some ((a0.take (a:Int).toNat)++[a1])) else(if decide (((a0.take (a:Int).toNat)++[a1]).length+(a0.drop (a:Int).toNat).length≤1048576) then(some (((a0.take (a:Int).toNat)++[a1])++(a0.drop (a:Int).toNat))) else none)) else none) else none) else none)) else none)) else(if decide (0≤a∧a≤(a0.length:Int)) then(if(a0.take (a:Int).toNat).isEmpty then(if decide (0≤a∧a≤(a0.length:Int)) then(if(a0.drop (a:Int).toNat).isEmpty then(some [a1]) else(if decide ([a1].length+(a0.drop (a:Int).toNat).length≤1048576) then(some ([a1]++(a0.drop (a:Int).toNat))) else none)) else none) else(if decide ((a0.take (a:Int).toNat).length≤1048576) then(if decide ((a0.take (a:Int).toNat).length+[a1].length≤1048576) then(if decide (0≤a∧a≤(a0.length:Int)) then(if(a0.drop (a:Int).toNat).isEmpty then(some ((a0.take (a:Int).toNat)++[a1])) else(if decide (((a0.take (a:Int).toNat)++[a1]).length+(a0.drop (a:Int).toNat).length≤1048576) then(some (((a0.take (a:Int).toNat)++[a1])++(a0.drop (a:Int).toNat))) else none)) else none) else none) else none)) else none))
 partial_fixpoint
theorem HI {a0:LI}:(∀ a,LH Tryz.prog (nM a0 a1 a) aN (PB a0 a1 a)):=by
 refine nM.partial_correctness _ _ _ ?_
 exact fun nM b a=>sL 3 a0<|sB 0 (sX 3 fun _=>sB 2 (sI 4<|sK 2 [[0,1,5]] [] (b _))<|sL 4 a0<|sB 0 (sX 3 fun _=>sB 2 (sR 6)<|sG fun c=>sT (lF EE 5 (fun S=>Je Tryz.prog S 45 (aN a0) none (some (aI a))) (fun S=>.val (aN (a0.take (a:Int).toNat)) S) kr kr (Tu (el:=3) (n:=1) kr kr (fun _=>rfl) c))<|sS (fun afJ=>sT (bF EE 0 (fun S=>mQ Tryz.prog S 45 45 (.an) (aN (a0.take (a:Int).toNat))) (fun S=>.val (.an) S) kr kr (dJ (enc:=(aA .i64)) (el:=3) (sz:=1) (ys:=(a0.take (a:Int).toNat)) kr kr (bC _ (.inl rfl)) afJ rfl rfl))<|sG fun d=>sT (lF EE 5 (fun S=>Je Tryz.prog S 45 (aN a0) (some (aI a)) none) (fun S=>.val (aN (a0.drop (a:Int).toNat)) S) kr kr (Hd (el:=3) (n:=1) kr kr (fun _=>rfl) d))<|sS (fun Z2=>sT (bF EE 0 (fun S=>mQ Tryz.prog S 45 45 (.ai 1 0 1) (aN (a0.drop (a:Int).toNat))) (fun S=>.val (.ai 1 0 1) S) kr kr (dJ (enc:=(aA .i64)) (el:=3) (sz:=1) (ys:=(a0.drop (a:Int).toNat)) kr kr (bC _ (.inl rfl)) Z2 (bC (enc:=(aA .i64)) (ys:=[a1]) _ (.inr ⟨1,1,rfl,by kernel_rfl⟩)) (ed (enc:=(aA .i64)) (fun _=>rfl) (fun _=>by kernel_rfl) _)))<|sE (by exact bN EE 4 (v:=.ai 1 0 1) kr (Fz.zf (sz:=1) (es:=[aI a1]) kr rfl (EB.cons (.pure pv) EB.nil)))) fun Z2=>Rh 0 1 2 (bK Z2)<|Hb 4 2) fun afJ=>Z1 0 0 (bK afJ)<|sA 2 0 1 2<|sG fun e=>sT (lF EE 2 (fun S=>Je Tryz.prog S 45 (aN a0) (some (aI a)) none) (fun S=>.val (aN (a0.drop (a:Int).toNat)) S) kr kr (Hd (el:=3) (n:=1) kr kr (fun _=>rfl) e))<|sS (fun WU=>sT (bF EE 0 (fun S=>mQ Tryz.prog S 45 45 (.ai 2 0 (((a0.take (a:Int).toNat)++[a1]).length)) (aN (a0.drop (a:Int).toNat))) (fun S=>.val (.ai 2 0 (((a0.take (a:Int).toNat)++[a1]).length)) S) kr kr (dJ (enc:=(aA .i64)) (el:=3) (sz:=1) (ys:=(a0.drop (a:Int).toNat)) kr kr (bC _ (.inl rfl)) WU (bC (enc:=(aA .i64)) (ys:=((a0.take (a:Int).toNat)++[a1])) _ (.inr ⟨2,1,rfl,by kernel_rfl⟩)) (ed (enc:=(aA .i64)) (fun _=>rfl) (fun _=>by kernel_rfl) _)))<|Hb 4 2) fun WU=>Rh 0 2 3 (bK WU)<|Hb 4 3)<|sG fun f=>sT (lF EE 12 (fun S=>Je Tryz.prog S 45 (aN a0) none (some (aI a))) (fun S=>.val (aN (a0.take (a:Int).toNat)) S) kr kr (Tu (el:=3) (n:=1) kr kr (fun _=>rfl) f))<|sS (fun afK=>sT (bF EE 0 (fun S=>mQ Tryz.prog S 45 45 (.an) (aN (a0.take (a:Int).toNat))) (fun S=>.val (.an) S) kr kr (dJ (enc:=(aA .i64)) (el:=3) (sz:=1) (ys:=(a0.take (a:Int).toNat)) kr kr (bC _ (.inl rfl)) afK rfl rfl))<|sG fun g=>sT (lF EE 5 (fun S=>Je Tryz.prog S 45 (aN a0) (some (aI a)) none) (fun S=>.val (aN (a0.drop (a:Int).toNat)) S) kr kr (Hd (el:=3) (n:=1) kr kr (fun _=>rfl) g))<|sS (fun afL=>sT (bF EE 0 (fun S=>mQ Tryz.prog S 45 45 (.ai 1 0 1) (aN (a0.drop (a:Int).toNat))) (fun S=>.val (.ai 1 0 1) S) kr kr (dJ (enc:=(aA .i64)) (el:=3) (sz:=1) (ys:=(a0.drop (a:Int).toNat)) kr kr (bC _ (.inl rfl)) afL (bC (enc:=(aA .i64)) (ys:=[a1]) _ (.inr ⟨1,1,rfl,by kernel_rfl⟩)) (ed (enc:=(aA .i64)) (fun _=>rfl) (fun _=>by kernel_rfl) _)))<|sE (by exact bN EE 4 (v:=.ai 1 0 1) kr (Fz.zf (sz:=1) (es:=[aI a1]) kr rfl (EB.cons (.pure pv) EB.nil)))) fun afL=>Rh 0 1 2 (bK afL)<|Hb 4 2) fun afK=>Z1 0 0 (bK afK)<|sA 2 0 1 2<|sG fun h=>sT (lF EE 2 (fun S=>Je Tryz.prog S 45 (aN a0) (some (aI a)) none) (fun S=>.val (aN (a0.drop (a:Int).toNat)) S) kr kr (Hd (el:=3) (n:=1) kr kr (fun _=>rfl) h))<|sS (fun afM=>sT (bF EE 0 (fun S=>mQ Tryz.prog S 45 45 (.ai 2 0 (((a0.take (a:Int).toNat)++[a1]).length)) (aN (a0.drop (a:Int).toNat))) (fun S=>.val (.ai 2 0 (((a0.take (a:Int).toNat)++[a1]).length)) S) kr kr (dJ (enc:=(aA .i64)) (el:=3) (sz:=1) (ys:=(a0.drop (a:Int).toNat)) kr kr (bC _ (.inl rfl)) afM (bC (enc:=(aA .i64)) (ys:=((a0.take (a:Int).toNat)++[a1])) _ (.inr ⟨2,1,rfl,by kernel_rfl⟩)) (ed (enc:=(aA .i64)) (fun _=>rfl) (fun _=>by kernel_rfl) _)))<|Hb 4 2) fun afM=>Rh 0 2 3 (bK afM)<|Hb 4 3)<|sL 11 a0<|sB 0 (sX 3 fun _=>sB 2 (sR 6)<|sG fun i=>sT (lF EE 5 (fun S=>Je Tryz.prog S 45 (aN a0) none (some (aI a))) (fun S=>.val (aN (a0.take (a:Int).toNat)) S) kr kr (Tu (el:=3) (n:=1) kr kr (fun _=>rfl) i))<|sS (fun afN=>sT (bF EE 0 (fun S=>mQ Tryz.prog S 45 45 (.an) (aN (a0.take (a:Int).toNat))) (fun S=>.val (.an) S) kr kr (dJ (enc:=(aA .i64)) (el:=3) (sz:=1) (ys:=(a0.take (a:Int).toNat)) kr kr (bC _ (.inl rfl)) afN rfl rfl))<|sG fun j=>sT (lF EE 5 (fun S=>Je Tryz.prog S 45 (aN a0) (some (aI a)) none) (fun S=>.val (aN (a0.drop (a:Int).toNat)) S) kr kr (Hd (el:=3) (n:=1) kr kr (fun _=>rfl) j))<|sS (fun afO=>sT (bF EE 0 (fun S=>mQ Tryz.prog S 45 45 (.ai 1 0 1) (aN (a0.drop (a:Int).toNat))) (fun S=>.val (.ai 1 0 1) S) kr kr (dJ (enc:=(aA .i64)) (el:=3) (sz:=1) (ys:=(a0.drop (a:Int).toNat)) kr kr (bC _ (.inl rfl)) afO (bC (enc:=(aA .i64)) (ys:=[a1]) _ (.inr ⟨1,1,rfl,by kernel_rfl⟩)) (ed (enc:=(aA .i64)) (fun _=>rfl) (fun _=>by kernel_rfl) _)))<|sE (by exact bN EE 4 (v:=.ai 1 0 1) kr (Fz.zf (sz:=1) (es:=[aI a1]) kr rfl (EB.cons (.pure pv) EB.nil)))) fun afO=>Rh 0 1 2 (bK afO)<|Hb 4 2) fun afN=>Z1 0 0 (bK afN)<|sA 2 0 1 2<|sG fun k=>sT (lF EE 2 (fun S=>Je Tryz.prog S 45 (aN a0) (some (aI a)) none) (fun S=>.val (aN (a0.drop (a:Int).toNat)) S) kr kr (Hd (el:=3) (n:=1) kr kr (fun _=>rfl) k))<|sS (fun afP=>sT (bF EE 0 (fun S=>mQ Tryz.prog S 45 45 (.ai 2 0 (((a0.take (a:Int).toNat)++[a1]).length)) (aN (a0.drop (a:Int).toNat))) (fun S=>.val (.ai 2 0 (((a0.take (a:Int).toNat)++[a1]).length)) S) kr kr (dJ (enc:=(aA .i64)) (el:=3) (sz:=1) (ys:=(a0.drop (a:Int).toNat)) kr kr (bC _ (.inl rfl)) afP (bC (enc:=(aA .i64)) (ys:=((a0.take (a:Int).toNat)++[a1])) _ (.inr ⟨2,1,rfl,by kernel_rfl⟩)) (ed (enc:=(aA .i64)) (fun _=>rfl) (fun _=>by kernel_rfl) _)))<|Hb 4 2) fun afP=>Rh 0 2 3 (bK afP)<|Hb 4 3)<|sG fun l=>sT (lF EE 12 (fun S=>Je Tryz.prog S 45 (aN a0) none (some (aI a))) (fun S=>.val (aN (a0.take (a:Int).toNat)) S) kr kr (Tu (el:=3) (n:=1) kr kr (fun _=>rfl) l))<|sS (fun afQ=>sT (bF EE 0 (fun S=>mQ Tryz.prog S 45 45 (.an) (aN (a0.take (a:Int).toNat))) (fun S=>.val (.an) S) kr kr (dJ (enc:=(aA .i64)) (el:=3) (sz:=1) (ys:=(a0.take (a:Int).toNat)) kr kr (bC _ (.inl rfl)) afQ rfl rfl))<|sG fun m=>sT (lF EE 5 (fun S=>Je Tryz.prog S 45 (aN a0) (some (aI a)) none) (fun S=>.val (aN (a0.drop (a:Int).toNat)) S) kr kr (Hd (el:=3) (n:=1) kr kr (fun _=>rfl) m))<|sS (fun afR=>sT (bF EE 0 (fun S=>mQ Tryz.prog S 45 45 (.ai 1 0 1) (aN (a0.drop (a:Int).toNat))) (fun S=>.val (.ai 1 0 1) S) kr kr (dJ (enc:=(aA .i64)) (el:=3) (sz:=1) (ys:=(a0.drop (a:Int).toNat)) kr kr (bC _ (.inl rfl)) afR (bC (enc:=(aA .i64)) (ys:=[a1]) _ (.inr ⟨1,1,rfl,by kernel_rfl⟩)) (ed (enc:=(aA .i64)) (fun _=>rfl) (fun _=>by kernel_rfl) _)))<|sE (by exact bN EE 4 (v:=.ai 1 0 1) kr (Fz.zf (sz:=1) (es:=[aI a1]) kr rfl (EB.cons (.pure pv) EB.nil)))) fun afR=>Rh 0 1 2 (bK afR)<|Hb 4 2) fun afQ=>Z1 0 0 (bK afQ)<|sA 2 0 1 2<|sG fun o=>sT (lF EE 2 (fun S=>Je Tryz.prog S 45 (aN a0) (some (aI a)) none) (fun S=>.val (aN (a0.drop (a:Int).toNat)) S) kr kr (Hd (el:=3) (n:=1) kr kr (fun _=>rfl) o))<|sS (fun afS=>sT (bF EE 0 (fun S=>mQ Tryz.prog S 45 45 (.ai 2 0 (((a0.take (a:Int).toNat)++[a1]).length)) (aN (a0.drop (a:Int).toNat))) (fun S=>.val (.ai 2 0 (((a0.take (a:Int).toNat)++[a1]).length)) S) kr kr (dJ (enc:=(aA .i64)) (el:=3) (sz:=1) (ys:=(a0.drop (a:Int).toNat)) kr kr (bC _ (.inl rfl)) afS (bC (enc:=(aA .i64)) (ys:=((a0.take (a:Int).toNat)++[a1])) _ (.inr ⟨2,1,rfl,by kernel_rfl⟩)) (ed (enc:=(aA .i64)) (fun _=>rfl) (fun _=>by kernel_rfl) _)))<|Hb 4 2) fun afS=>Rh 0 2 3 (bK afS)<|Hb 4 3
def nh (a0:LI)(a1:Int):Option (LI):=
 nM a0 a1 0
theorem nE {a0:LI}:LF Tryz.prog (nh a0 a1) 108 [aN a0,aI a1] aN:=
 sF<|sK 5 [[0,1,5]] [] (HI _)
noncomputable def PC : St:=sN 5 (St.start T0 282 [.lit [],aI 0] ag.empty)
noncomputable def PD := fun a0 a1 a=>fZ PC 0 fun o=>([[(1,aI a1),(0,aN a0),(5,aI a)]],[])
def nN (a0:LI)(a1 a:Int):Option (Bool):=
 if decide (a<(a0.length:Int)) then(bQ a0 a>>=fun b=>if decide (b=a1) then(some true) else(if cy .i64 (a+1) then(nN a0 a1 (a+1)) else none)) else(some false)
 partial_fixpoint
theorem HJ {a0:LI}:(∀ b,LH Tryz.prog (nN a0 a1 b) aB (PD a0 a1 b)):=by
 refine nN.partial_correctness _ _ _ ?_
 exact fun nN a b=>sL 3 a0<|sB 0 (sX 4 fun _=>sB 2 (sR 4)<|sI 3<|sK 2 [[1,0,5]] [] (a _))<|sR 4
def yh (a0:LI)(a1:Int):Option (Bool):=
 nN a0 a1 0
theorem zR {a0:LI}:LF Tryz.prog (yh a0 a1) 282 [aN a0,aI a1] aB:=
 sF<|sK 5 [[1,0,5]] [] (HJ _)
noncomputable def MW : St:=sN 5 (ak (aB false) none (sN 7 (St.start T0 278 [.agg [aI 0,aI 0,.lit []],.lit []] ag.empty)))
noncomputable def MX := fun a0 a DO b=>fZ MW 1 fun o=>([[(2,aP (o 0)),(7,aI a),(1,aN DO),(6,aB b)]],[((o 0),.arr 3 [aK a0])])
mutual
def jh (a0:Term)(a:Int)(DO:LI)(b:Bool):Option (LI×Bool):=
 if decide (a<(a0.Kids.length:Int)) then(if b then(bQ a0.Kids a>>=fun d=>ot d DO>>=fun c=>if c.2 then(if cy .i64 (a+1) then(jh a0 (a+1) c.1 true) else none) else(if cy .i64 (a+1) then(jh a0 (a+1) c.1 false) else none)) else(if b then(some (DO,true)) else(some (DO,false)))) else(if b then(some (DO,true)) else(some (DO,false)))
 partial_fixpoint
def ot (a0:Term)(a1:LI):Option (LI×Bool):=
 if decide ((a0.Op:Int)=1) then(nh a1 a0.N>>=fun v1=>yh a1 a0.N>>=fun v2=>if v2 then(some (v1,false)) else(some (v1,true))) else(jh a0 0 a1 true)
 partial_fixpoint
end
theorem GH  : (∀ a0 b DO c,LH Tryz.prog (jh a0 b DO c) (fun r=>.bO [aN r.1,aB r.2]) (MX a0 b DO c))∧(∀ a0 a1,LF Tryz.prog (ot a0 a1) 278 [aK a0,aN a1] (fun r=>.bO [aN r.1,aB r.2])):=by
 refine jh.mutual_partial_correctness _ _ ?_ ?_
 · exact fun jh ot a xK a0 b DO c=>sL 4 a0.Kids<|sB 0 (WL 1 (sX 6 fun _=>sC 2 (xK _ _) fun _=>WL 2 (sI 5<|sK 2 [[2,7,1,6]] [0] (a _ _ _ _))<|sI 5<|sK 2 [[2,7,1,6]] [0] (a _ _ _ _))<|WL 3 (sR 4)<|sR 4)<|WL 5 (sR 4)<|sR 4
 · exact fun jh a a0 a1=>sF<|sB 7 (sC 5 nE fun _=>fI 4 zR (sR 7)<|sR 7)<|sK 5 [[2,7,1,6]] [0] (a _ _ _ _)
theorem xK {a0:Term}{a1:LI}:LF Tryz.prog (ot a0 a1) 278 [aK a0,aN a1] (fun r=>.bO [aN r.1,aB r.2]):=GH.2 _ _
noncomputable def KC : St:=sN 6 (St.start T0 279 [.agg [aI 0,aI 0,.lit []]] ag.empty)
noncomputable def KE := fun a0 a=>fZ KC 1 fun o=>([[(1,aP (o 0)),(3,aI a)]],[((o 0),.arr 3 [aK a0])])
mutual
def kF (a0:Term)(a:Int):Option (Bool):=
 if decide (a<(a0.Kids.length:Int)) then(bQ a0.Kids a>>=fun b=>nO b>>=fun c=>if c then(if cy .i64 (a+1) then(kF a0 (a+1)) else none) else(some false)) else(if decide ((a0.Op:Int)=1) then(some true) else(if decide ((a0.Op:Int)=3) then(some true) else(some false)))
 partial_fixpoint
def nO (a0:Term):Option (Bool):=
 kF a0 0
 partial_fixpoint
end
theorem Ed  : (∀ a0 b,LH Tryz.prog (kF a0 b) aB (KE a0 b))∧(∀ a0,LF Tryz.prog (nO a0) 279 [aK a0] aB):=by
 refine kF.mutual_partial_correctness _ _ ?_ ?_
 · exact fun kF nO a wb a0 b=>sL 4 a0.Kids<|sB 0 (sX 5 fun _=>fI 1 (wb _) (sI 4<|sK 2 [[1,3]] [0] (a _ _))<|sR 5)<|sB 3 (sR 8)<|sB 3 (sR 4)<|sR 4
 · exact fun kF a a0=>sF<|sK 6 [[1,3]] [0] (a _ _)
theorem wb {a0:Term}:LF Tryz.prog (nO a0) 279 [aK a0] aB:=Ed.2 _
def tU (a0:Term):Option (Bool):=
 ot a0 ([]:LI)>>=fun v0=>if v0.2 then(nO a0>>=fun v2=>if v2 then(some true) else(some false)) else(some false)
theorem GI {a0:Term}:LF Tryz.prog (tU a0) 210 [aK a0] aB:=
 sF<|sV fun v0 a=>sT (yf EE 5 278 [aK a0,.an] [aK a0,.lit []] (.bO [aN v0.1,aB v0.2]) kr kr (xK v0 a))<|WL 2 (fI 6 wb (sR 4)<|sR 4)<|sR 11
noncomputable def KF : St:=sN 6 (St.start T0 211 [.agg [aI 0,aI 0,.lit []],aI 0] ag.empty)
noncomputable def KG := fun a0 a1 a=>fZ KF 1 fun o=>([[(1,aI a1),(2,aP (o 0)),(5,aI a)]],[((o 0),.arr 3 [aK a0])])
mutual
def kG (a0:Term)(a1 a:Int):Option (Bool):=
 if decide (a<(a0.Kids.length:Int)) then(bQ a0.Kids a>>=fun b=>mr b a1>>=fun c=>if c then(if cy .i64 (a+1) then(kG a0 a1 (a+1)) else none) else(some false)) else(if(!decide ((a0.Op:Int)=1)) then(if(!decide ((a0.Op:Int)=8)) then(some true) else(if decide ((a0.N:Int)<a1) then(some true) else(some false))) else(if decide ((a0.N:Int)<a1) then(some true) else(some false)))
 partial_fixpoint
def mr (a0:Term)(a1:Int):Option (Bool):=
 kG a0 a1 0
 partial_fixpoint
end
theorem Ee : (∀ a0 b,LH Tryz.prog (kG a0 a1 b) aB (KG a0 a1 b))∧(∀ a0,LF Tryz.prog (mr a0 a1) 211 [aK a0,aI a1] aB):=by
 refine kG.mutual_partial_correctness _ _ _ ?_ ?_
 · exact fun kG mr a rL a0 b=>sL 4 a0.Kids<|sB 0 (sX 5 fun _=>fI 2 (rL _) (sI 4<|sK 2 [[1,2,5]] [0] (a _ _))<|sR 5)<|sB 3 (sB 3 (sR 10)<|sB 5 (sR 4)<|sR 4)<|sB 9 (sR 4)<|sR 4
 · exact fun kG a a0=>sF<|sK 6 [[1,2,5]] [0] (a _ _)
theorem rL {a0:Term}:LF Tryz.prog (mr a0 a1) 211 [aK a0,aI a1] aB:=Ee.2 _
noncomputable def MY : St:=sN 5 (ak (aB false) none (sN 6 (St.start T0 70 [.agg [aI 0,aI 0,.lit []]] ag.empty)))
noncomputable def Dx := fun a0 a=>fZ MY 1 fun o=>([[(3,.an),(1,aP (o 0)),(4,aI a)]],[((o 0),.arr 3 [aK a0])])
noncomputable def MZ : St:=sN 4 (ak (.lit []) none (sN 1 (ak (.dO [aI 0,aI 0,.lit []]) none (sN 5 (ak (aB true) none (sN 0 (ak (aI 0) none (sN 4 (dz Dx)))))))))
noncomputable def Dy := fun a0 a v229 b=>fZ MZ 1 fun o=>([[(5,aN v229),(1,aP (o 0)),(4,aI a),(6,aI b),(3,.an)]],[((o 0),.arr 3 [aK a0])])
noncomputable def M0 : St:=sN 2 (ak (aI 0) none (sN 4 (ak (.lit []) none (sN 1 (ak (.dO [aI 0]) none (sN 18 (ak (aB true) none (sN 5 (ak (aB true) none (sN 0 (ak (aI 0) none (sN 3 (dz Dy)))))))))))))
noncomputable def Dz := fun a0 a b c d=>fZ M0 1 fun o=>([[(5,aN a),(1,aP (o 0)),(4,aI b),(6,aI c),(3,aN d)]],[((o 0),.arr 3 [aK a0])])
noncomputable def M1 : St:=sN 2 (ak (aI 0) none (sN 3 (ak (aB false) none (sN 0 (ak (aI 0) none (sN 3 (dz Dz)))))))
noncomputable def M3 := fun a0 a b=>fZ M1 1 fun o=>([[(3,aN a),(1,aP (o 0)),(4,aI b)]],[((o 0),.arr 3 [aK a0])])
mutual
def kQ (a0:Term)(b:LI)(a:Int):Option (LI):=
 if decide (a<(a0.Kids.length:Int)) then(bQ a0.Kids a>>=fun c=>fM c>>=fun d=>eK a0 d a 0 b) else(some b)
 partial_fixpoint
def eK (a0:Term)(b:LI)(c a:Int)(d:LI):Option (LI):=
 if decide (a<(b.length:Int)) then(if(!decide ((a0.Op:Int)=8)) then(bQ b a>>=fun e=>nh d e>>=fun f=>if cy .i64 (a+1) then(eK a0 b c (a+1) f) else none) else(if(!decide (c=1)) then(bQ b a>>=fun g=>nh d g>>=fun h=>if cy .i64 (a+1) then(eK a0 b c (a+1) h) else none) else(bQ b a>>=fun i=>if(!decide (i=a0.N)) then(bQ b a>>=fun j=>nh d j>>=fun k=>if cy .i64 (a+1) then(eK a0 b c (a+1) k) else none) else(if cy .i64 (a+1) then(eK a0 b c (a+1) d) else none)))) else(if cy .i64 (c+1) then(kQ a0 d (c+1)) else none)
 partial_fixpoint
def fM (a0:Term):Option (LI):=
 if decide ((a0.Op:Int)=1) then(some [a0.N]) else(kR a0 0)
 partial_fixpoint
def kR (a0:Term)(a:Int):Option (LI):=
 if decide (a<(a0.Kids.length:Int)) then(bQ a0.Kids a>>=fun b=>fM b>>=fun v229=>lW a0 a v229 0) else(some ([]:LI))
 partial_fixpoint
def lW (a0:Term)(b:Int)(v229:(LI))(a:Int):Option (LI):=
 if decide (a<(v229.length:Int)) then(if(!decide ((a0.Op:Int)=8)) then(bQ v229 a>>=fun c=>nh ([]:LI) c>>=fun d=>if cy .i64 (a+1) then(eK a0 v229 b (a+1) d) else none) else(if(!decide (b=1)) then(bQ v229 a>>=fun e=>nh ([]:LI) e>>=fun f=>if cy .i64 (a+1) then(eK a0 v229 b (a+1) f) else none) else(bQ v229 a>>=fun g=>if(!decide (g=a0.N)) then(bQ v229 a>>=fun h=>nh ([]:LI) h>>=fun i=>if cy .i64 (a+1) then(eK a0 v229 b (a+1) i) else none) else(if cy .i64 (a+1) then(lW a0 b v229 (a+1)) else none)))) else(if cy .i64 (b+1) then(kR a0 (b+1)) else none)
 partial_fixpoint
end
theorem GJ  : (∀ a0 g h,LH Tryz.prog (kQ a0 g h) aN (M3 a0 g h))∧(∀ a0 f i j k,LH Tryz.prog (eK a0 f i j k) aN (Dz a0 f i j k))∧(∀ a0,LF Tryz.prog (fM a0) 70 [aK a0] aN)∧(∀ a0 d,LH Tryz.prog (kR a0 d) aN (Dx a0 d))∧(∀ a0 d v229 l,LH Tryz.prog (lW a0 d v229 l) aN (Dy a0 d v229 l)):=by
 refine kQ.mutual_partial_correctness _ _ _ _ _ ?_ ?_ ?_ ?_ ?_
 · exact fun eK fM a iQ a0 g h=>sL 4 a0.Kids<|sB 0 (sX 5 fun _=>sC 1 (iQ _) fun _=>sK 4 [[5,1,4,6,3]] [0] (a _ _ _ _ _))<|sR 5
 · exact fun kQ eK e a a0 f i j k=>sL 3 f<|sB 0 (sB 5 (sX 18 fun _=>sC 1 nE fun _=>sI 4<|sK 2 [[5,1,4,6,3]] [0] (a _ _ _ _ _))<|sB 2 (sX 15 fun _=>sC 1 nE fun _=>sI 4<|sK 2 [[5,1,4,6,3]] [0] (a _ _ _ _ _))<|sX 4 fun _=>sB 3 (sX 6 fun _=>sC 1 nE fun _=>sI 4<|sK 2 [[5,1,4,6,3]] [0] (a _ _ _ _ _))<|sI 5<|sK 2 [[5,1,4,6,3]] [0] (a _ _ _ _ _))<|sI 3<|sK 2 [[3,1,4]] [0] (e _ _ _)
 · exact fun kR b a0=>sF<|sB 6 (sE (by exact bN EE 7 (v:=.ai 1 0 1) kr (Fz.zf (sz:=1) (es:=[aI a0.N]) kr rfl (EB.cons (.pure pv) EB.nil))))<|sK 5 [[3,1,4]] [0] (b _ _)
 · exact fun fM lW iQ c a0 d=>sL 4 a0.Kids<|sB 0 (sX 5 fun _=>sC 1 (iQ _) fun _=>sK 4 [[5,1,4,6,3]] [0] (c _ _ _ _))<|Td 5
 · exact fun eK kR lW a b c a0 d v229 l=>sL 3 v229<|sB 0 (sB 5 (sX 18 fun m=>sV fun n s=>sT (yf EE 1 108 [.an,aI m] [.lit [],aI m] (aN n) kr kr (nE n s))<|sI 4<|sK 2 [[5,1,4,6,3]] [0] (a _ _ _ _ _))<|sB 2 (sX 15 fun o=>sV fun p t=>sT (yf EE 1 108 [.an,aI o] [.lit [],aI o] (aN p) kr kr (nE p t))<|sI 4<|sK 2 [[5,1,4,6,3]] [0] (a _ _ _ _ _))<|sX 4 fun _=>sB 3 (sX 6 fun q=>sV fun r u=>sT (yf EE 1 108 [.an,aI q] [.lit [],aI q] (aN r) kr kr (nE r u))<|sI 4<|sK 2 [[5,1,4,6,3]] [0] (a _ _ _ _ _))<|sI 5<|sK 2 [[5,1,4,6,3]] [0] (c _ _ _ _))<|sI 3<|sK 2 [[3,1,4]] [0] (b _ _)
theorem iQ {a0:Term}:LF Tryz.prog (fM a0) 70 [aK a0] aN:=GJ.2.2.1 _
def sd (a0:LT):Option (Term):=
 some (Term.mk 0 0 a0)
theorem Bn {a0:LT}:LF Tryz.prog (sd a0) 95 [aT a0] aK:=
 sF<|sR 8
noncomputable def HK : St:=sN 7 (St.start T0 212 [.lit []] ag.empty)
noncomputable def HL := fun a0 a b=>fZ HK 0 fun o=>([[(0,aT a0),(4,aI a),(3,aI b)]],[])
def jO (a0:LT)(b c:Int):Option (Bool):=
 if decide (b<(a0.length:Int)) then(bQ a0 b>>=fun d=>fM d>>=fun a=>if cy .i64 (c+(a.length:Int)) then(if cy .i64 (b+1) then(jO a0 (b+1) (c+(a.length:Int))) else none) else none) else(sd a0>>=fun e=>fM e>>=fun f=>if decide (c=(f.length:Int)) then(some true) else(some false))
 partial_fixpoint
theorem CI {a0:LT}:(∀ b c,LH Tryz.prog (jO a0 b c) aB (HL a0 b c)):=by
 refine jO.partial_correctness _ _ ?_
 exact fun jO a b c=>sL 3 a0<|sB 0 (sX 5 fun _=>sC 1 iQ fun d=>sL 0 d<|sI 0<|sI 4<|sK 2 [[0,4,3]] [] (a _ _))<|sC 3 Bn fun _=>sC 0 iQ fun e=>sL 0 e<|sB 0 (sR 3)<|sR 3
def vS (a0:LT):Option (Bool):=
 jO a0 0 0
theorem HM {a0:LT}:LF Tryz.prog (vS a0) 212 [aT a0] aB:=
 sF<|sK 7 [[0,4,3]] [] (CI _ _)
noncomputable def M4 : St:=sN 10 (ak (aB true) none (sN 8 (St.start T0 280 [.agg [aI 0,aI 0,.lit []]] ag.empty)))
noncomputable def M5 := fun a0 a (l8:LI)=>fZ M4 3 fun o=>([[(1,aP (o 0)),(4,aI a),(3,.ai (o 2) 0 l8.length)]],[((o 0),.arr 3 [aK a0]),((o 2),.arr 1 (l8.map (aA .i64)))])
noncomputable def M6 : St:=sN 3 (ak (aB false) none (sN 8 (St.start T0 280 [.agg [aI 0,aI 0,.lit []]] ag.empty)))
noncomputable def M7 := fun a0 a=>fZ M6 1 fun o=>([[(1,aP (o 0)),(4,aI a),(3,.an)]],[((o 0),.arr 3 [aK a0])])
mutual
def iD (a0:Term)(b:Int)(l8:LI):Option (LI):=
 if decide (b<(a0.Kids.length:Int)) then(bQ a0.Kids b>>=fun c=>lh c>>=fun a=>if a.isEmpty then(if cy .i64 (b+1) then(iD a0 (b+1) l8) else none) else(if decide (l8.length+a.length≤1048576) then(if cy .i64 (b+1) then(iD a0 (b+1) (l8++a)) else none) else none)) else(some l8)
 partial_fixpoint
def lh (a0:Term):Option (LI):=
 if decide ((a0.Op:Int)=8) then(iD a0 0 [a0.N]) else(lX a0 0)
 partial_fixpoint
def lX (a0:Term)(a:Int):Option (LI):=
 if decide (a<(a0.Kids.length:Int)) then(bQ a0.Kids a>>=fun c=>lh c>>=fun b=>if b.isEmpty then(if cy .i64 (a+1) then(lX a0 (a+1)) else none) else(if decide (b.length≤1048576) then(if cy .i64 (a+1) then(iD a0 (a+1) b) else none) else none)) else(some ([]:LI))
 partial_fixpoint
end
theorem GL  : (∀ a0 f l8,LH Tryz.prog (iD a0 f l8) aN (M5 a0 f l8))∧(∀ a0,LF Tryz.prog (lh a0) 280 [aK a0] aN)∧(∀ a0 c,LH Tryz.prog (lX a0 c) aN (M7 a0 c)):=by
 refine iD.mutual_partial_correctness _ _ _ ?_ ?_ ?_
 · exact fun iD lh a qT a0 f l8=>sL 4 a0.Kids<|sB 0 (sX 6 fun _=>sC 1 (qT _) fun d=>sS (fun afT=>sT (bF EE 0 (fun S=>mQ Tryz.prog S 45 45 (.ai 2 0 l8.length) (aN d)) (fun S=>.val (.ai 2 0 l8.length) S) kr kr (dJ (enc:=(aA .i64)) (el:=3) (sz:=1) (ys:=d) kr kr (bC _ (.inl rfl)) afT (bC (enc:=(aA .i64)) (ys:=l8) _ (.inr ⟨2,1,rfl,by kernel_rfl⟩)) (ed (enc:=(aA .i64)) (fun _=>rfl) (fun _=>by kernel_rfl) _)))<|sI 4<|sK 2 [[1,4,3]] [0,2] (a _ _ _)) fun afT=>Rh 0 2 3 (bK afT)<|sI 4<|sM 2 [[1,4,3]] [0,3] [(2,3)] 4 (a _ _ _))<|Hb 5 2
 · exact fun iD lX a b a0=>sF<|sB 8 (sK 10 [[1,4,3]] [0,2] (a _ _ _))<|sK 3 [[1,4,3]] [0] (b _ _)
 · exact fun iD lh lX a qT b a0 c=>sL 4 a0.Kids<|sB 0 (sX 6 fun _=>sC 1 (qT _) fun e=>sS (fun afU=>sT (bF EE 0 (fun S=>mQ Tryz.prog S 45 45 (.an) (aN e)) (fun S=>.val (.an) S) kr kr (dJ (enc:=(aA .i64)) (el:=3) (sz:=1) (ys:=e) kr kr (bC _ (.inl rfl)) afU rfl rfl))<|sI 4<|sK 2 [[1,4,3]] [0] (b _ _)) fun afU=>Z1 0 1 (bK afU)<|sI 4<|sT (Cg EE 2 5 kr)<|sM 0 [[1,4,3]] [0,1] [(2,1),(1,3)] 5 (a _ _ _))<|Td 5
theorem qT {a0:Term}:LF Tryz.prog (lh a0) 280 [aK a0] aN:=GL.2.1 _
noncomputable def KH : St:=sN 7 (St.start T0 281 [.lit [],aI 0] ag.empty)
noncomputable def KI := fun a0 a1 a b=>fZ KH 0 fun o=>([[(1,aI a1),(0,aN a0),(6,aI a),(5,aI b)]],[])
def jK (a0:LI)(a1 a b:Int):Option (Int):=
 if decide (a<(a0.length:Int)) then(bQ a0 a>>=fun c=>if decide (c=a1) then(if cy .i64 (b+1) then(if cy .i64 (a+1) then(jK a0 a1 (a+1) (b+1)) else none) else none) else(if cy .i64 (a+1) then(jK a0 a1 (a+1) b) else none)) else(some b)
 partial_fixpoint
theorem Ef {a0:LI}:(∀ b c,LH Tryz.prog (jK a0 a1 b c) aI (KI a0 a1 b c)):=by
 refine jK.partial_correctness _ _ _ ?_
 exact fun jK a b c=>sL 3 a0<|sB 0 (sX 4 fun _=>sB 2 (sI 2<|sI 4<|sK 2 [[1,0,6,5]] [] (a _ _))<|sI 3<|sK 2 [[1,0,6,5]] [] (a _ _))<|sR 5
def yw (a0:LI)(a1:Int):Option (Int):=
 jK a0 a1 0 0
theorem KJ {a0:LI}:LF Tryz.prog (yw a0 a1) 281 [aN a0,aI a1] aI:=
 sF<|sK 7 [[1,0,6,5]] [] (Ef _ _)
noncomputable def KK : St:=sN 5 (ak (.lit []) none (sN 2 (ak (.lit []) none (sN 6 (St.start T0 213 [.agg [aI 0,aI 0,.lit []],.lit []] ag.empty)))))
noncomputable def KL := fun a1 v0 v1 a=>fZ KK 1 fun o=>([[(5,aN v0),(6,aN v1),(1,aN a1),(7,aI a)]],[])
def kH (a1:LI)(v0:(LI))(v1:(LI))(a:Int):Option (Bool):=
 if decide (a<(v0.length:Int)) then(bQ v0 a>>=fun b=>yw v0 b>>=fun c=>if decide (c>1) then(some false) else(bQ v0 a>>=fun d=>yh a1 d>>=fun NV=>if NV then(some false) else(bQ v0 a>>=fun e=>yh v1 e>>=fun v28=>if v28 then(some false) else(if cy .i64 (a+1) then(kH a1 v0 v1 (a+1)) else none)))) else(some true)
 partial_fixpoint
variable {v0 v1 : (LI)}
theorem Eg {a1:LI}:(∀ b,LH Tryz.prog (kH a1 v0 v1 b) aB (KL a1 v0 v1 b)):=by
 refine kH.partial_correctness _ _ _ _ ?_
 exact fun kH a b=>sL 3 v0<|sB 0 (sX 5 fun _=>sC 1 KJ fun _=>sB 0 (sR 20)<|sX 4 fun _=>fI 1 zR (sR 13)<|sX 5 fun _=>fI 1 zR (sR 5)<|sI 4<|sK 2 [[5,6,1,7]] [] (a _))<|sR 4
def yx (a0:Term)(a1:LI):Option (Bool):=
 lh a0>>=fun v0=>fM a0>>=fun v1=>kH a1 v0 v1 0
theorem KN {a0:Term}{a1:LI}:LF Tryz.prog (yx a0 a1) 213 [aK a0,aN a1] aB:=
 sF<|sC 6 qT fun _=>sC 2 iQ fun _=>sK 5 [[5,6,1,7]] [] (Eg _)
noncomputable def M8 : St:=sN 5 (ak (aB true) none (sN 8 (ak (aB true) none (sN 5 (ak (aB false) none (sN 2 (ak (.dO [.sc (.string ⟨#[]⟩),aI 0]) none (sN 4 (ak (aI 0) none (sN 5 (ak (aB true) none (sN 1 (ak (aI 0) none (sN 0 (ak (aI 0) none (sN 10 (St.start T0 128 [.agg [.lit [],.lit []],.agg [aI 0,.lit [],aI 0,aI 0,.lit [],aI 0]] ag.empty)))))))))))))))))
noncomputable def M9 := fun a0 (a1:bn) a=>fZ M8 2 fun o=>([[(3,aP (o 1)),(2,aP (o 0)),(5,aI a)]],[((o 1),.arr 6 [.agg [aI a1.vt,aT a1.cJ,aI a1.gU.Op,aI a1.gU.N,aT a1.gU.Kids,aI a1.bf]]),((o 0),oG a0)])
def jV (a0:aH)(a1:bn)(a:Int):Option (Bool):=
 if decide (a<(a1.cJ.length:Int)) then(bQ a1.cJ a>>=fun b=>uX a0 b>>=fun c=>if c then(bQ a1.cJ a>>=fun d=>tU d>>=fun NV=>if NV then(bQ a1.cJ a>>=fun e=>mr e a1.bf>>=fun v28=>if v28 then(if cy .i64 (a+1) then(jV a0 a1 (a+1)) else none) else(some false)) else(some false)) else(some false)) else(vS a1.cJ>>=fun f=>if f then(mr a1.gU a1.bf>>=fun g=>if g then(sd a1.cJ>>=fun h=>fM h>>=fun i=>yx a1.gU i>>=fun j=>if j then(some true) else(some false)) else(some false)) else(some false))
 partial_fixpoint
theorem GM {a1:bn}:(∀ b,LH Tryz.prog (jV a0 a1 b) aB (M9 a0 a1 b)):=by
 refine jV.partial_correctness _ _ _ ?_
 exact fun jV a b=>sL 4 a1.cJ<|sB 0 (sX 7 fun _=>fI 2 xJ (sX 6 fun _=>fI 2 GI (sX 7 fun _=>fI 4 rL (sI 5<|sK 2 [[3,2,5]] [1,0] (a _) (h:=asS Tryz.f128))<|sR 6)<|sR 19)<|sR 29)<|fI 5 HM (fI 7 rL (sC 7 Bn fun _=>sC 0 iQ fun _=>fI 1 KN (sR 4)<|sR 4)<|sR 15)<|sR 23
def A5 (a0:aH)(a1:bn):Option (Bool):=
 if cy .i64 ((a0.bp.length:Int)-1) then(nC a1.vt 0 ((a0.bp.length:Int)-1)>>=fun v0=>if v0 then(bQ a0.bp a1.vt>>=fun a=>if(!decide ((a1.cJ.length:Int)=a.bu)) then(some false) else(nC a1.bf 0 20>>=fun v3=>if v3 then(uX a0 a1.gU>>=fun v4=>if v4 then(jV a0 a1 0) else(some false)) else(some false))) else(some false)) else none
theorem Na {a1:bn}:LF Tryz.prog (A5 a0 a1) 128 [aG a0,.agg [aI a1.vt,aT a1.cJ,aI a1.gU.Op,aI a1.gU.N,aT a1.gU.Kids,aI a1.bf]] aB:=
 sF<|sL 10 a0.bp<|sI 0<|fI 1 jw (sL 5 a1.cJ<|sX 4 fun _=>sB 2 (sR 21)<|fI 5 jw (fI 8 xJ (sK 5 [[3,2,5]] [1,0] (GM _) (h:=asS Tryz.f128))<|sR 6)<|sR 15)<|sR 35
noncomputable def Nb : St:=sN 4 (ak (aB false) none (sN 0 (ak (aI 0) none (sN 4 (ak (aB true) none (sN 6 (St.start T0 85 [.agg [.lit [],.lit [],.lit []]] ag.empty)))))))
noncomputable def Nc := fun(a0:aL) a=>fZ Nb 1 fun o=>([[(1,aP (o 0)),(3,aI a)]],[((o 0),.arr 3 [.agg [aM a0.cv.Cons,aM a0.cv.bp,.lit (a0.aF.map az)]])])
def nF (a0:aL)(a:Int):Option (Bool):=
 if decide (a<(a0.aF.length:Int)) then(bQ a0.aF a>>=fun b=>A5 a0.cv b>>=fun c=>if c then(if cy .i64 (a+1) then(nF a0 (a+1)) else none) else(some false)) else(some true)
 partial_fixpoint
theorem GN {a0:aL}:(∀ b,LH Tryz.prog (nF a0 b) aB (Nc a0 b)):=by
 refine nF.partial_correctness _ _ ?_
 exact fun nF a b=>sL 4 a0.aF<|sB 0 (sX 8 fun _=>fI 2 Na (sI 4<|sK 2 [[1,3]] [0] (a _))<|sR 5)<|sR 4
def A6 (a0:aL):Option (Bool):=
 ET a0.cv>>=fun v0=>if v0 then(if decide ((a0.aF.length:Int)>16) then(some false) else(nF a0 0)) else(some false)
theorem Nd {a0:aL}:LF Tryz.prog (A6 a0) 85 [.agg [aM a0.cv.Cons,aM a0.cv.bp,.lit (a0.aF.map az)]] aB:=
 sF<|fI 6 Pz (sL 4 a0.aF<|sB 0 (sR 5)<|sK 4 [[1,3]] [0] (GN _))<|sR 11
def A7 (a0:aL):Option (Bool):=
 A6 a0>>=fun v0=>if v0 then(some true) else(some false)
theorem Nf {a0:aL}:LF Tryz.prog (A7 a0) 67 [.agg [aM a0.cv.Cons,aM a0.cv.bp,.lit (a0.aF.map az)]] aB:=
 sF<|fI 5 Nd (sR 3)<|sR 3
noncomputable def Ng : St:=sN 7 (St.start T0 113 [aI 0,aI 0] ag.empty)
noncomputable def DA := fun a0 a1=>fZ Ng 0 fun o=>([[(0,aI a0),(1,aI a1),(6,aI 0),(5,.an)]],[])
noncomputable def Nh : St:=sN 9 (ak (aI 0) none (sN 5 (ak (aB true) none (sN 3 (dz DA)))))
noncomputable def Ni := fun a0 a1 a (w5:LI)=>fZ Nh 2 fun o=>([[(0,aI a0),(1,aI a1),(6,aI a),(5,.ai (o 1) 0 w5.length)]],[((o 1),.arr 1 (w5.map (aA .i64)))])
def pJ (a0 a1 a:Int)(w5:LI):Option (LI):=
 if decide (a<a1) then(if cy .i64 (a0+a) then(if decide (w5.length+[(a0+a)].length≤1048576) then(if cy .i64 (a+1) then(pJ a0 a1 (a+1) (w5++[(a0+a)])) else none) else none) else none) else(some w5)
 partial_fixpoint
theorem GO {a0:Int}:(∀ b w5,LH Tryz.prog (pJ a0 a1 b w5) aN (Ni a0 a1 b w5)):=by
 refine pJ.partial_correctness _ _ _ ?_
 exact fun pJ a b w5=>sB 3 (sI 5<|sA 1 1 2 3<|sI 4<|sM 2 [[0,1,6,5]] [3] [(1,3)] 4 (a _ _))<|Hb 5 1
def zS (a0 a1:Int):Option (LI):=
 if decide (0<a1) then(if cy .i64 (a0+0) then(pJ a0 a1 1 [(a0+0)]) else none) else(some ([]:LI))
theorem HN {a0:Int}:LH Tryz.prog (zS a0 a1) aN (DA a0 a1):=
 sB 3 (sI 5<|sK 9 [[0,1,6,5]] [1] (GO _ _))<|Td 5
def qO (a0 a1:Int):Option (LI):=
 zS a0 a1
theorem tV {a0:Int}:LF Tryz.prog (qO a0 a1) 113 [aI a0,aI a1] aN:=
 sF<|sK 7 [[0,1,6,5]] [] HN
def EU (a0:Int):Option (Term):=
 some (Term.mk 1 a0 ([]:LT))
theorem Gj {a0:Int}:LF Tryz.prog (EU a0) 56 [aI a0] aK:=
 sF<|sE (by exact bN EE 8 (v:=.agg [aI 1,aI a0,.an]) kr (Fz.aw (.pure pv) (Fz.aw (.pure pv) (Fz.aw (.an) (.pure pv)))))
noncomputable def Nj : St:=sN 7 (St.start T0 115 [.lit []] ag.empty)
noncomputable def DB := fun a0=>fZ Nj 0 fun o=>([[(0,aN a0),(4,aI 0),(3,.an)]],[])
noncomputable def Nk : St:=sN 7 (eH (fun S=>.val (.ai 1 0 0) (S.add (.arr 3 []))) (sN 1 (ak (.agg [aI 0,aI 0,.lit []]) none (sN 1 (ak (.dO [aI 0]) none (sN 5 (ak (aB true) none (sN 0 (ak (aI 0) none (sN 3 (DB dd)))))))))))
noncomputable def Nl := fun a0 a wP=>fZ Nk 2 fun o=>([[(0,aN a0),(4,aI a),(3,.ai (o 1) 0 wP.length)]],[((o 1),oT wP)])
def pK (a0:LI)(a:Int)(wP:LT):Option (LT):=
 if decide (a<(a0.length:Int)) then(bQ a0 a>>=fun c=>EU c>>=fun b=>if decide (wP.length+[b].length≤1048576) then(if cy .i64 (a+1) then(pK a0 (a+1) (wP++[b])) else none) else none) else(some wP)
 partial_fixpoint
theorem GP {a0:LI}:(∀ b wP,LH Tryz.prog (pK a0 b wP) aT (Nl a0 b wP)):=by
 refine pK.partial_correctness _ _ ?_
 exact fun pK a b wP=>sL 3 a0<|sB 0 (sX 5 fun _=>sC 1 Gj fun _=>sA 1 1 2 3 (hs:=Lr)<|sI 4<|sM 2 [[0,4,3]] [3] [(1,3)] 4 (a _ _))<|Hb 5 1
def zT (a0:LI):Option (LT):=
 if decide (0<(a0.length:Int)) then(bQ a0 0>>=fun b=>EU b>>=fun a=>if decide ([a].length≤1048576) then(pK a0 1 [a]) else none) else(some ([]:LT))
theorem HO {a0:LI}:LH Tryz.prog (zT a0) aT (DB a0):=
 sL 3 a0<|sB 0 (sX 5 fun _=>sC 1 Gj fun _=>afG 1 0 1 (hs:=Lr)<|sK 7 [[0,4,3]] [1] (GP _ _))<|Td 5
def xz (a0:LI):Option (LT):=
 zT a0
theorem DC {a0:LI}:LF Tryz.prog (xz a0) 115 [aN a0] aT:=
 sF<|sK 7 [[0,4,3]] [] HO
def yy (a0:aL)(a1:Int):Option (bo):=
 bQ a0.cv.bp a1>>=fun x0=>qO 0 x0.bu>>=fun v1=>xz v1>>=fun v2=>some (bo.mk v2 x0.bu)
theorem KO {a0:aL}:LF Tryz.prog (yy a0 a1) 75 [.agg [aM a0.cv.Cons,aM a0.cv.bp,.lit (a0.aF.map az)],aI a1] (fun r=>.agg [aT r.args,aI r.next]):=
 sF<|sX 8 fun _=>sC 5 tV fun _=>sC 0 DC fun _=>sR 5
def yz (a0:af):Option (Bool):=
 if(!decide ((a0.Op:Int)=1)) then(if(!decide ((a0.Var:Int)=0)) then(some false) else(if decide ((a0.bk.length:Int)>0) then(some false) else(if(!decide ((a0.Op:Int)=2)) then(if decide ((a0.Kids.length:Int)>0) then(some false) else(if decide ((a0.Op:Int)=3) then(some true) else(if decide ((a0.bY:Int)=0) then(if decide ((a0.bf.length:Int)=0) then(some true) else(some false)) else(some false)))) else(if decide ((a0.Op:Int)=3) then(some true) else(if decide ((a0.bY:Int)=0) then(if decide ((a0.bf.length:Int)=0) then(some true) else(some false)) else(some false)))))) else(if(!decide ((a0.Op:Int)=2)) then(if decide ((a0.Kids.length:Int)>0) then(some false) else(if decide ((a0.Op:Int)=3) then(some true) else(if decide ((a0.bY:Int)=0) then(if decide ((a0.bf.length:Int)=0) then(some true) else(some false)) else(some false)))) else(if decide ((a0.Op:Int)=3) then(some true) else(if decide ((a0.bY:Int)=0) then(if decide ((a0.bf.length:Int)=0) then(some true) else(some false)) else(some false))))
theorem KP {a0:af}:LF Tryz.prog (yz a0) 180 [.agg [aI a0.Op,aI a0.Var,.lit (a0.bk.map aZ),.lit (a0.Kids.map au),aI a0.bY,aN a0.bf]] aB:=
 sF<|sB 6 (sB 3 (sR 22)<|sL 3 a0.bk<|sB 0 (sR 17)<|sB 5 (sL 3 a0.Kids<|sB 0 (sR 6)<|sB 5 (sR 14)<|sB 3 (sL 3 a0.bf<|sB 0 (sR 5)<|sR 5)<|sR 10)<|sB 10 (sR 14)<|sB 3 (sL 3 a0.bf<|sB 0 (sR 5)<|sR 5)<|sR 10)<|sB 14 (sL 3 a0.Kids<|sB 0 (sR 6)<|sB 5 (sR 14)<|sB 3 (sL 3 a0.bf<|sB 0 (sR 5)<|sR 5)<|sR 10)<|sB 10 (sR 14)<|sB 3 (sL 3 a0.bf<|sB 0 (sR 5)<|sR 5)<|sR 10
noncomputable def PF : St:=sN 5 (St.start T0 106 [.lit [],aI 0] ag.empty)
noncomputable def PG := fun a0 a1 a=>fZ PF 0 fun o=>([[(1,aI a1),(0,aN a0),(5,aI a)]],[])
def nP (a0:LI)(a1 a:Int):Option (Bool):=
 if decide (a<(a0.length:Int)) then(bQ a0 a>>=fun b=>if decide (b=a1) then(some true) else(if cy .i64 (a+1) then(nP a0 a1 (a+1)) else none)) else(some false)
 partial_fixpoint
theorem HP {a0:LI}:(∀ b,LH Tryz.prog (nP a0 a1 b) aB (PG a0 a1 b)):=by
 refine nP.partial_correctness _ _ _ ?_
 exact fun nP a b=>sL 3 a0<|sB 0 (sX 4 fun _=>sB 2 (sR 4)<|sI 3<|sK 2 [[1,0,5]] [] (a _))<|sR 4
def yi (a0:LI)(a1:Int):Option (Bool):=
 nP a0 a1 0
theorem Gk {a0:LI}:LF Tryz.prog (yi a0 a1) 106 [aN a0,aI a1] aB:=
 sF<|sK 5 [[1,0,5]] [] (HP _)
def kY (a0:bo)(a1:Int):Option (Bool):=
 fM (Term.mk 0 0 a0.args)>>=fun v0=>yi v0 a1>>=fun v1=>if v1 then(some true) else(some false)
theorem wW {a0:bo}:LF Tryz.prog (kY a0 a1) 259 [.agg [aT a0.args,aI a0.next],aI a1] aB:=
 sF<|sC 7 iQ fun _=>fI 1 Gk (sR 3)<|sR 3
def Ci (a0 a1 a2:Int):Option (Bool):=
 if decide (a0≥a1) then(if decide (a0≤a2) then(some true) else(some false)) else(some false)
theorem I3 {a0:Int}:LF Tryz.prog (Ci a0 a1 a2) 182 [aI a0,aI a1,aI a2] aB:=
 sF<|sB 5 (sB 3 (sR 4)<|sR 4)<|sR 8
noncomputable def Eh : St:=sN 3 (ak (aB false) none (sN 0 (ak (aI 0) none (sN 1 (ak (aI 0) none (sN 4 (St.start T0 184 [.lit [],.lit []] ag.empty)))))))
noncomputable def Ei := fun a0 a1 a=>fZ Eh 0 fun o=>([[(1,aN a1),(0,aN a0),(5,aI a)]],[])
def ki (a0 a1:LI)(a:Int):Option (Bool):=
 if decide (a<(a0.length:Int)) then(bQ a0 a>>=fun b=>bQ a1 a>>=fun c=>if(!decide (b=c)) then(some false) else(if cy .i64 (a+1) then(ki a0 a1 (a+1)) else none)) else(some true)
 partial_fixpoint
theorem zZ {a0:LI}{a1:LI}:(∀ b,LH Tryz.prog (ki a0 a1 b) aB (Ei a0 a1 b)):=by
 refine ki.partial_correctness _ _ _ ?_
 exact fun ki a b=>sL 3 a0<|sB 0 (sX 5 fun _=>sX 3 fun _=>sB 1 (sR 5)<|sI 4<|sK 2 [[1,0,5]] [] (a _))<|sR 4
def jP (a0 a1:LI):Option (Bool):=
 if(!decide ((a0.length:Int)=(a1.length:Int))) then(some false) else(ki a0 a1 0)
theorem rp {a0:LI}{a1:LI}:LF Tryz.prog (jP a0 a1) 184 [aN a0,aN a1] aB:=
 sF<|sL 4 a0<|sL 1 a1<|sB 0 (sR 4)<|sK 3 [[1,0,5]] [] (zZ _)
noncomputable def Nn : St:=sN 5 (St.start T0 257 [.lit [],aI 0] ag.empty)
noncomputable def No := fun(a0:(List dw)) a1 a=>fZ Nn 0 fun o=>([[(5,aI a),(1,aI a1),(0,.lit (a0.map fP))]],[])
def nG (a0:(List dw))(a1 a:Int):Option (Int):=
 if decide (a<(a0.length:Int)) then(bQ a0 a>>=fun b=>if decide ((b.Var:Int)=a1) then(some a) else(if cy .i64 (a+1) then(nG a0 a1 (a+1)) else none)) else(some (-1))
 partial_fixpoint
theorem GQ {a0:(List dw)}:(∀ b,LH Tryz.prog (nG a0 a1 b) aI (No a0 a1 b)):=by
 refine nG.partial_correctness _ _ _ ?_
 exact fun nG a b=>sL 3 a0<|sB 0 (DN 4 246 249 zQ fun c _=>sB 3 (sR 5)<|sI 3<|sK 2 [[5,1,0]] [] (a _))<|sR 4
def A8 (a0:(List dw))(a1:Int):Option (Int):=
 nG a0 a1 0
theorem Np {a0:(List dw)}:LF Tryz.prog (A8 a0 a1) 257 [.lit (a0.map fP),aI a1] aI:=
 sF<|sK 5 [[5,1,0]] [] (GQ _)
def QO (a0:Term)(a1:(List dw)):Option (Term):=none
theorem PH {a0:Term}{a1:(List dw)}:LF Tryz.prog (QO a0 a1) 258 [aK a0,.lit (a1.map fP)] aK:=fun _ h=>by cases h
noncomputable def KQ : St:=sN 5 (ak (aB false) none (sN 3 (ak (aB false) none (sN 6 (St.start T0 179 [.agg [aI 0,aI 0,.lit []],.lit []] ag.empty)))))
noncomputable def Bo := fun a0 (a1:(List dw))=>fZ KQ 2 fun o=>([[(1,.lit (a1.map fP)),(2,aP (o 0)),(4,aP (o 1)),(7,aI 0),(6,.an)]],[((o 0),.arr 3 [aK a0]),((o 1),.arr 3 [.agg [aI 0,aI 0,.an]])])
noncomputable def KR : St:=sN 7 (eH (fun S=>.val (.ai 3 0 0) (S.add (.arr 3 []))) (sN 1 (ak (.agg [aI 0,aI 0,.lit []]) none (sN 2 (ak (.dO [aI 0,aI 0,.lit []]) none (sN 6 (ak (aB true) none (sN 0 (ak (aI 0) none (sN 4 (dz Bo)))))))))))
noncomputable def KS := fun a0 (a1:(List dw)) a Lf=>fZ KR 4 fun o=>([[(1,.lit (a1.map fP)),(2,aP (o 0)),(4,aP (o 1)),(7,aI a),(6,.ai (o 3) 0 Lf.length)]],[((o 0),.arr 3 [aK a0]),((o 1),.arr 3 [.agg [aI 0,aI 0,.an]]),((o 3),oT Lf)])
mutual
def mf (a0:Term)(a1:(List dw))(a:Int)(Lf:LT):Option (Term):=
 if decide (a<(a0.Kids.length:Int)) then(bQ a0.Kids a>>=fun c=>iU c a1>>=fun b=>if decide (Lf.length+[b].length≤1048576) then(if cy .i64 (a+1) then(mf a0 a1 (a+1) (Lf++[b])) else none) else none) else(some (Term.mk a0.Op a0.N Lf))
 partial_fixpoint
def iU (a0:Term)(a1:(List dw)):Option (Term):=
 if decide ((a0.Op:Int)=1) then(A8 a1 a0.N>>=fun v1=>if decide (v1≥0) then(bQ a1 v1>>=fun a=>some a.Term) else(some a0)) else(if decide ((a0.Op:Int)=8) then(QO a0 a1>>=fun v5=>some v5) else(tW a0 a1))
 partial_fixpoint
def tW (a0:Term)(a1:(List dw)):Option (Term):=
 if decide (0<(a0.Kids.length:Int)) then(bQ a0.Kids 0>>=fun b=>iU b a1>>=fun a=>if decide ([a].length≤1048576) then(mf a0 a1 1 [a]) else none) else(some (Term.mk a0.Op a0.N ([]:LT)))
 partial_fixpoint
end
theorem Ej {a1:(List dw)}:(∀ a0 c Lf,LH Tryz.prog (mf a0 a1 c Lf) aK (KS a0 a1 c Lf))∧(∀ a0,LF Tryz.prog (iU a0 a1) 179 [aK a0,.lit (a1.map fP)] aK)∧(∀ a0,LH Tryz.prog (tW a0 a1) aK (Bo a0 a1)):=by
 refine mf.mutual_partial_correctness _ _ _ _ ?_ ?_ ?_
 · exact fun mf iU a my a0 c Lf=>sL 4 a0.Kids<|sB 0 (sX 6 fun _=>sC 2 (my _) fun _=>sA 1 3 4 5 (hs:=Lr)<|sI 4<|sM 2 [[1,2,4,7,6]] [0,1,5] [(3,5)] 6 (a _ _ _))<|sE (by exact bN EE 9 (v:=.agg [aI a0.Op,aI a0.N,.ai 3 0 Lf.length]) kr (Fz.aw (.pure pv) (Fz.aw (.pure pv) (Fz.aw (Fz.lT (sz:=3) (es:=(Lf.map cI)) kr (by simp) pl) (.pure pv)))))
 · exact fun tW b a0=>sF<|sB 6 (sC 4 Np fun _=>sB 3 (DN 3 246 249 zQ fun d _=>sR 5)<|sR 5)<|sB 3 (sC 3 PH fun _=>sR 3)<|sK 5 [[1,2,4,7,6]] [0,1] (b _)
 · exact fun mf iU a my a0=>sL 4 a0.Kids<|sB 0 (sX 6 fun _=>sC 2 (my _) fun _=>afG 1 2 3 (hs:=Lr)<|sK 7 [[1,2,4,7,6]] [0,1,3] (a _ _ _))<|sE (by exact bN EE 9 (v:=.agg [aI a0.Op,aI a0.N,.an]) kr (Fz.aw (.pure pv) (Fz.aw (.pure pv) (Fz.aw (.an) (.pure pv)))))
theorem my {a0:Term}{a1:(List dw)}:LF Tryz.prog (iU a0 a1) 179 [aK a0,.lit (a1.map fP)] aK:=Ej.2.1 _
noncomputable def BE : St:=sN 6 (ak (aI 0) none (sN 5 (eH (fun S=>.val (.lit [.agg [aI 0,aI 3,aI 0,.lit []]]) (Jr S)) (sN 2 (ak (.lit []) none (sN 0 (ak (.lit []) none (sN 9 (ak (.dO [.sc (.string ⟨#[]⟩),aI 0]) none (sN 8 (St.start T0 114 [.agg [.lit [],aI 0],.agg [.lit [],.lit []],aI 0,aI 0] ag.empty)))))))))))
noncomputable def uc := fun(a0:bo) a2 a3 (x0:cf) v2=>fZ BE 5 fun o=>([[(11,aP (o 4)),(10,.lit [.agg [aI a2,aI 3,aI a3,aT v2]]),(4,aP (o 0)),(8,aP (o 2)),(12,aI 0)]],[((o 4),.arr 2 [.agg [.an,aI (a0.next+x0.bu)]]),((o 0),.arr 2 [.agg [aT a0.args,aI a0.next]]),((o 2),.arr 2 [.agg [.an,aI 0]])])
noncomputable def BF : St:=sN 9 (eH (fun S=>.val (.ai 6 0 0) (S.add (.arr 3 []))) (sN 1 (ak (.agg [aI 0,aI 0,.lit []]) none (sN 2 (ak (.dO [aI 0,aI 0,.lit []]) none (sN 8 (ak (aB true) none (sN 0 (ak (aI 0) none (sN 4 (dz uc)))))))))))
noncomputable def BG := fun(a0:bo) a2 a3 (x0:cf) v2 a EZ=>fZ BF 7 fun o=>([[(11,aP (o 4)),(10,.lit [.agg [aI a2,aI 3,aI a3,aT v2]]),(4,aP (o 0)),(8,aP (o 2)),(12,aI a)]],[((o 4),.arr 2 [.agg [.ai (o 6) 0 EZ.length,aI (a0.next+x0.bu)]]),((o 0),.arr 2 [.agg [aT a0.args,aI a0.next]]),((o 2),.arr 2 [.agg [.an,aI 0]]),((o 6),oT EZ)])
def gR (a0:bo)(a2 a3:Int)(x0:cf)(v2:(LT))(a:Int)(EZ:LT):Option (bo):=
 if decide (a<(a0.args.length:Int)) then(bQ a0.args a>>=fun c=>iU c [(dw.mk a2 (Term.mk 3 a3 v2))]>>=fun b=>if decide (EZ.length+[b].length≤1048576) then(if cy .i64 (a+1) then(gR a0 a2 a3 x0 v2 (a+1) (EZ++[b])) else none) else none) else(some (bo.mk EZ (a0.next+x0.bu)))
 partial_fixpoint
variable {a3 : Int} {x0 : cf} {v2 : (LT)}
theorem xT {a0:bo}:(∀ b EZ,LH Tryz.prog (gR a0 a2 a3 x0 v2 b EZ) (fun r=>.agg [aT r.args,aI r.next]) (BG a0 a2 a3 x0 v2 b EZ)):=by
 refine gR.partial_correctness _ _ _ _ _ _ ?_
 exact fun gR a b EZ=>sL 4 a0.args<|sB 0 (sX 8 fun e=>sV fun c d=>sT (FE EE 2 179 [aK e,.lit [.agg [aI a2,aI 3,aI a3,aT v2]]] (aK c) kr (by have q:=my c d;simp only[aT,dH,sH,kP] at q;exact q))<|sA 1 6 7 8 (hs:=Lr)<|sI 6<|sM 2 [[11,10,4,8,12]] [4,0,2,8] [(6,8)] 9 (a _ _))<|sE (by exact bN EE 5 (v:=.agg [.ai 6 0 EZ.length,aI (a0.next+x0.bu)]) kr (Fz.aw (Fz.lT (sz:=3) (es:=(EZ.map cI)) kr (by simp) pl) (.pure pv)))
def pM (a0:bo)(a2 a3:Int)(x0:cf)(v2:(LT)):Option (bo):=
 if decide (0<(a0.args.length:Int)) then(bQ a0.args 0>>=fun b=>iU b [(dw.mk a2 (Term.mk 3 a3 v2))]>>=fun a=>if decide ([a].length≤1048576) then(gR a0 a2 a3 x0 v2 1 [a]) else none) else(some (bo.mk ([]:LT) (a0.next+x0.bu)))
theorem yQ {a0:bo}:LH Tryz.prog (pM a0 a2 a3 x0 v2) (fun r=>.agg [aT r.args,aI r.next]) (uc a0 a2 a3 x0 v2):=
 sL 4 a0.args<|sB 0 (sX 8 fun c=>sV fun a b=>sT (FE EE 2 179 [aK c,.lit [.agg [aI a2,aI 3,aI a3,aT v2]]] (aK a) kr (by have q:=my a b;simp only[aT,dH,sH,kP] at q;exact q))<|afG 1 5 6 (hs:=Lr)<|sK 9 [[11,10,4,8,12]] [4,0,2,6] (xT _ _))<|sE (by exact bN EE 5 (v:=.agg [.an,aI (a0.next+x0.bu)]) kr (Fz.aw (.an) (.pure pv)))
def kj (a0:bo)(a1:aH)(a2 a3:Int):Option (bo):=
 bQ a1.Cons a3>>=fun x0=>qO a0.next x0.bu>>=fun v1=>xz v1>>=fun v2=>if cy .i64 (a0.next+x0.bu) then(pM a0 a2 a3 x0 v2) else none
theorem ud {a0:bo}{a1:aH}:LF Tryz.prog (kj a0 a1 a2 a3) 114 [.agg [aT a0.args,aI a0.next],aG a1,aI a2,aI a3] (fun r=>.agg [aT r.args,aI r.next]):=
 sF<|sX 8 fun _=>sC 9 tV fun _=>sC 0 DC fun v2=>sT (FF EE 2 (fun S=>asO Tryz.prog S 246 1 [(0,.agg [aI a2,aI 3,aI a3,aT v2])]) [.agg [aI a2,aI 3,aI a3,aT v2]] kr kr kr (.inl ⟨4,by kernel_rfl⟩))<|sI 5<|sK 6 [[11,10,4,8,12]] [4,0,2] yQ
def OG (a0 a1 a2:Int):Option (Bool):=
 if decide (a0≥a1) then(if decide (a0≤a2) then(some true) else(some false)) else(some false)
theorem Sz {a0:Int}:LF Tryz.prog (OG a0 a1 a2) 260 [aI a0,aI a1,aI a2] aB:=
 sF<|sB 5 (sB 3 (sR 4)<|sR 4)<|sR 8
def xA (a0:aL)(a1:Int):Option (Bool):=
 if cy .i64 ((a0.aF.length:Int)-1) then(OG a1 0 ((a0.aF.length:Int)-1)>>=fun v0=>if v0 then(some true) else(some false)) else none
theorem Nq {a0:aL}:LF Tryz.prog (xA a0 a1) 183 [.agg [aM a0.cv.Cons,aM a0.cv.bp,.lit (a0.aF.map az)],aI a1] aB:=
 sF<|sL 7 a0.aF<|sI 0<|fI 0 Sz (sR 3)<|sR 3
@[simp] noncomputable def fH := fun mH b (a:LI) (o:NM)=>(([aK mH,aK b,.ai (o 0) 0 a.length],[.arr 1 (a.map (aA .i64))]):TC)
@[simp] noncomputable def iF := fun(r:(LI×Bool)) (o:NM)=>((aB r.2,[some (.arr 1 (r.1.map (aA .i64)))],[]):TB)
noncomputable def qV : St:=sN 4 (ak (aB false) none (sN 0 (ak (aI 0) none (sN 2 (ak (aI 0) none (sN 4 (ak (aB false) none (sN 5 (ak (aB false) none (sN 5 (ak (aB false) none (sN 7 (St.start T0 178 ((dz fH id).1) (pg 1 (nr 0 ((dz fH id).2))))))))))))))))
noncomputable def kJ := fun mH b (c:LI) a (zt:LI)=>fZ qV 3 fun o=>([[(2,.ai (o 0) 0 zt.length),(4,aP (o 2)),(3,aP (o 1)),(7,aI a)]],[((o 0),.arr 1 (zt.map (aA .i64))),((o 2),.arr 3 [aK b]),((o 1),.arr 3 [aK mH])])
noncomputable def BH : St:=sN 4 (eH (fun S=>.val (.ai 2 0 0) (S.add (.arr 1 []))) (sN 8 (St.start T0 111 [.agg [.lit [],aI 0],.agg [aI 0,.lit [],aI 0,aI 0,.lit [],aI 0]] ag.empty)))
noncomputable def oK := fun(a0:bo) (a1:bn) a (pd:LI)=>fZ BH 3 fun o=>([[(6,.ai (o 2) 0 pd.length),(2,aP (o 0)),(3,aP (o 1)),(7,aI a)]],[((o 2),.arr 1 (pd.map (aA .i64))),((o 0),.arr 2 [.agg [aT a0.args,aI a0.next]]),((o 1),.arr 6 [.agg [aI a1.vt,aT a1.cJ,aI a1.gU.Op,aI a1.gU.N,aT a1.gU.Kids,aI a1.bf]])])
noncomputable def BI : St:=sN 3 (ak (aB false) none (sN 4 (dz oK)))
noncomputable def ue := fun(a0:bo) (a1:bn) a (yL:LI)=>fZ BI 3 fun o=>([[(6,.ai (o 2) 0 yL.length),(2,aP (o 0)),(3,aP (o 1)),(8,aI a)]],[((o 2),.arr 1 (yL.map (aA .i64))),((o 0),.arr 2 [.agg [aT a0.args,aI a0.next]]),((o 1),.arr 6 [.agg [aI a1.vt,aT a1.cJ,aI a1.gU.Op,aI a1.gU.N,aT a1.gU.Kids,aI a1.bf]])])
mutual
def bZ (mH c:Term)(f:LI)(a:Int)(zt:LI):Option (LI×Bool):=
 if decide (a<(mH.Kids.length:Int)) then(bQ mH.Kids a>>=fun d=>bQ c.Kids a>>=fun e=>cC d e zt>>=fun b=>if decide (b.1.length=zt.length) then(if b.2 then(if cy .i64 (a+1) then(bZ mH c f (a+1) b.1) else none) else(some (b.1,false))) else none) else(some (zt,true))
 partial_fixpoint
def cC (mH b:Term)(a:LI):Option (LI×Bool):=
 if decide ((mH.Op:Int)=1) then(bQ a mH.N>>=fun c=>bQ a mH.N>>=fun d=>if decide ((b.Op:Int)=1) then(some ((a.set (mH.N:Int).toNat b.N),true)) else(some ((a.set (mH.N:Int).toNat b.N),false))) else(if(!decide ((mH.Op:Int)=b.Op)) then(some (a,false)) else(if(!decide ((mH.N:Int)=b.N)) then(some (a,false)) else(if(!decide ((mH.Kids.length:Int)=(b.Kids.length:Int))) then(some (a,false)) else(bZ mH b a 0 a))))
 partial_fixpoint
end
theorem oQ  : (∀ mH c b d zt,LJ Tryz.prog (bZ mH c b d zt) 1 iF (kJ mH c b d zt))∧(∀ mH c b,LG Tryz.prog (cC mH c b) 178 1 (fH mH c b) iF):=by
 refine bZ.mutual_partial_correctness _ _ ?_ ?_
 · exact fun bZ cC a ig mH c b d zt=>sL 4 mH.Kids<|sB 0 (sX 6 fun _=>sX 4 fun _=>sV fun h e=>sG fun j=>N2 3 (ig _ _ _ h e _ 3 [0] wO) (sI 4<|by unfold kJ;rw[←j];exact Jf 2 [[2,4,3,7]] [0,2,1] [] 3 (a _ _ _ _ _))<|mo 5 (aB false) [0])<|mo 4 (aB true) [0]
 · exact fun bZ a mH c b=>Qa 1 (sB 7 (sV fun _ f=>sT (bF EE 6 (fun S=>w4 Tryz.prog S 45 (.ai 0 0 b.length) (aI mH.N)) (fun S=>.val (.ptr 0 (0+(mH.N:Int).toNat) 0) S) kr kr (lK (xs:=b) (es:=b.map (aA .i64)) (el:=3) (n:=1) f (by first | rfl | (simp;done) | omega | (simp;omega)) kr kr kr))<|sV fun k g=>sT (bF EE 0 (fun S=>Lh Tryz.prog S 3 (.ptr 0 (0+(mH.N:Int).toNat) 0) (aI c.N)) (fun S=>.skip (S.set 0 (.arr 1 ((b.set (mH.N:Int).toNat c.N).map (aA .i64))))) kr kr (py (n:=1) (m:=1) (enc:=(aA .i64)) (xs:=b) (i:=mH.N) (x' := c.N) g kr (cs:=(AV.agg [aI k]).cells) rfl kr kr rfl))<|sB 3 (mo 3 (aB true) [0])<|mo 3 (aB false) [0])<|sB 5 (mo 20 (aB false) [0])<|sB 5 (mo 14 (aB false) [0])<|sL 4 mH.Kids<|sL 2 c.Kids<|sB 0 (mo 5 (aB false) [0])<|wi 4 [[2,4,3,7]] [0,2,1] (a _ _ _ _ _))
theorem ig {mH:Term}{a:Term}{b:LI}:LG Tryz.prog (cC mH a b) 178 1 (fH mH a b) iF:=oQ.2 _ _ _
def ef (a0:bo)(a1:bn)(a:Int)(yL:LI):Option (LI×Bool):=
 if decide (a<(a0.args.length:Int)) then(bQ a1.cJ a>>=fun c=>bQ a0.args a>>=fun d=>cC c d yL>>=fun b=>if decide (b.1.length=yL.length) then(if b.2 then(if cy .i64 (a+1) then(ef a0 a1 (a+1) b.1) else none) else(some (([]:LI),false))) else none) else(some (yL,true))
 partial_fixpoint
theorem xU {a0:bo}{a1:bn}:(∀ b yL,LH Tryz.prog (ef a0 a1 b yL) (fun r=>.bO [aN r.1,aB r.2]) (ue a0 a1 b yL)):=by
 refine ef.partial_correctness _ _ _ ?_
 exact fun ef a b yL=>sL 4 a0.args<|sB 0 (sX 6 fun _=>sX 4 fun _=>sV fun d c=>sG fun e=>N2 3 (ig d c _ 3 [2] wO) (sI 4<|by unfold ue;rw[←e];exact sM 2 [[6,2,3,8]] [2,0,1] [] 3 (a _ _))<|sE (by exact bN EE 6 (v:=.bO [.an,aB false]) kr (Fz.bw (.an) (.pure pv))))<|sE (by exact bN EE 6 (v:=.bO [.ai 2 0 yL.length,aB true]) kr (Fz.bw (Fz.lT (sz:=1) (es:=(yL.map (aA .i64))) kr (by simp) pl) (.pure pv)))
def eX (a0:bo)(a1:bn)(a:Int)(pd:LI):Option (LI×Bool):=
 if decide (a<pd.length) then(bQ pd a>>=fun b=>bQ pd a>>=fun c=>if cy .i64 (a+1) then(eX a0 a1 (a+1) (pd.set (a:Int).toNat (-1))) else none) else(ef a0 a1 0 pd)
 partial_fixpoint
theorem xV {a0:bo}{a1:bn}:(∀ b pd,LH Tryz.prog (eX a0 a1 b pd) (fun r=>.bO [aN r.1,aB r.2]) (oK a0 a1 b pd)):=by
 refine eX.partial_correctness _ _ _ ?_
 exact fun eX a b pd=>sB 4 (sV fun _ c=>sT (bF EE 4 (fun S=>w4 Tryz.prog S 45 (.ai 2 0 pd.length) (aI b)) (fun S=>.val (.ptr 2 (0+(b:Int).toNat) 0) S) kr kr (lK (xs:=pd) (es:=pd.map (aA .i64)) (el:=3) (n:=1) c (by first | rfl | (simp;done) | omega | (simp;omega)) kr kr kr))<|sV fun e d=>sT (bF EE 0 (fun S=>Lh Tryz.prog S 3 (.ptr 2 (0+(b:Int).toNat) 0) (aI (-1))) (fun S=>.skip (S.set 2 (.arr 1 ((pd.set (b:Int).toNat (-1)).map (aA .i64))))) kr kr (py (n:=1) (m:=1) (enc:=(aA .i64)) (xs:=pd) (i:=b) (x' := (-1)) d kr (cs:=(AV.agg [aI e]).cells) rfl kr kr rfl))<|sI 3<|by unfold oK;rw[show pd.length=(pd.set (b:Int).toNat (-1)).length by simp];exact sM 2 [[6,2,3,7]] [2,0,1] [] 3 (a _ _))<|sK 3 [[6,2,3,8]] [2,0,1] (xU _ _)
def mj (a0:bo)(a1:bn):Option (LI×Bool):=
 if decide (0≤a1.bf∧(a1.bf:Int).toNat*9≤2 ^ 40) then(eX a0 a1 0 (List.replicate (a1.bf:Int).toNat (0:Int))) else none
theorem BJ {a0:bo}{a1:bn}:LF Tryz.prog (mj a0 a1) 111 [.agg [aT a0.args,aI a0.next],.agg [aI a1.vt,aT a1.cJ,aI a1.gU.Op,aI a1.gU.N,aT a1.gU.Kids,aI a1.bf]] (fun r=>.bO [aN r.1,aB r.2]):=
 sF<|sG fun a=>sT (bF EE 8 (fun S=>akG Tryz.prog S 45 (aI a1.bf) (aI a1.bf)) (fun S=>.val (.ai 2 0 (List.replicate (a1.bf:Int).toNat (0:Int)).length) (S.add (.arr 1 ((List.replicate (a1.bf:Int).toNat (0:Int)).map (aA .i64))))) kr kr (aeu (enc:=(aA .i64)) (z0:=0) (el:=3) (bytes:=8) kr kr kr a))<|sK 4 [[6,2,3,7]] [2,0,1] (xV _ _)
noncomputable def KT : St:=sN 4 (ak (aB false) none (sN 0 (ak (aI 0) none (sN 4 (ak (aB true) none (sN 9 (St.start T0 181 [.agg [.lit [],.lit [],.lit []],aI 0,.agg [aI 0,aI 0,.lit [],.lit [],aI 0,.lit []],.agg [.lit [],aI 0]] ag.empty)))))))
noncomputable def KU := fun(a0:aL) a1 (a2:af) (a3:bo) a=>fZ KT 3 fun o=>([[(6,aP (o 1)),(4,aP (o 0)),(7,aP (o 2)),(1,aI a1),(9,aI a)]],[((o 1),.arr 6 [.agg [aI a2.Op,aI a2.Var,.lit (a2.bk.map aZ),.lit (a2.Kids.map au),aI a2.bY,aN a2.bf]]),((o 0),.arr 3 [.agg [aM a0.cv.Cons,aM a0.cv.bp,.lit (a0.aF.map az)]]),((o 2),.arr 2 [.agg [aT a3.args,aI a3.next]])])
noncomputable def HQ : St:=sN 4 (ak (aB true) none (sN 0 (ak (aI 0) none (sN 4 (ak (aB true) none (sN 2 (ak (aB false) none (sN 5 (ak (aB false) none (sN 4 (ak (aB true) none (sN 7 (St.start T0 116 [.agg [.lit [],.lit [],.lit []],aI 0,.agg [aI 0,aI 0,.lit [],.lit [],aI 0,.lit []],.agg [.lit [],aI 0]] ag.empty)))))))))))))
noncomputable def HR := fun(a0:aL) a1 (a2:af) (a3:bo) a=>fZ HQ 3 fun o=>([[(7,aP (o 2)),(6,aP (o 1)),(1,aI a1),(4,aP (o 0)),(9,aI a)]],[((o 2),.arr 2 [.agg [aT a3.args,aI a3.next]]),((o 1),.arr 6 [.agg [aI a2.Op,aI a2.Var,.lit (a2.bk.map aZ),.lit (a2.Kids.map au),aI a2.bY,aN a2.bf]]),((o 0),.arr 3 [.agg [aM a0.cv.Cons,aM a0.cv.bp,.lit (a0.aF.map az)]])])
mutual
def dR (a0:aL)(a1:Int)(a2:af)(a3:bo)(b:Int):Option (Bool):=
 if decide (b<(a2.bk.length:Int)) then(bQ a2.bk b>>=fun a=>if cy .i64 ((a0.cv.Cons.length:Int)-1) then(Ci a.BQ 0 ((a0.cv.Cons.length:Int)-1)>>=fun c=>if c then(if decide (b>0) then(if cy .i64 (b-1) then(bQ a2.bk (b-1)>>=fun d=>if decide ((a.BQ:Int)≤d.BQ) then(some false) else(bQ a0.cv.Cons a.BQ>>=fun e=>qO a3.next e.bu>>=fun f=>jP a.bf f>>=fun g=>if g then(kj a3 a0.cv a2.Var a.BQ>>=fun h=>dU a0 a1 a.fh h>>=fun i=>if i then(if cy .i64 (b+1) then(dR a0 a1 a2 a3 (b+1)) else none) else(some false)) else(some false))) else none) else(bQ a0.cv.Cons a.BQ>>=fun j=>qO a3.next j.bu>>=fun k=>jP a.bf k>>=fun l=>if l then(kj a3 a0.cv a2.Var a.BQ>>=fun m=>dU a0 a1 a.fh m>>=fun v51=>if v51 then(if cy .i64 (b+1) then(dR a0 a1 a2 a3 (b+1)) else none) else(some false)) else(some false))) else(some false)) else none) else(some true)
 partial_fixpoint
def dU (a0:aL)(a1:Int)(a2:af)(a3:bo):Option (Bool):=
 yz a2>>=fun v0=>if v0 then(if decide ((a3.next:Int)>60) then(some false) else(if decide ((a2.Op:Int)=1) then(se a0 a1 a2 a3>>=fun v3=>if v3 then(some true) else(some false)) else(if decide ((a2.Op:Int)=2) then(Ci (a2.Kids.length:Int) 2 16>>=fun v5=>if v5 then(iL a0 a1 a2 a3 0) else(some false)) else(if decide ((a2.Op:Int)=3) then(xA a0 a2.bY>>=fun b=>if b then(bQ a0.aF a2.bY>>=fun c=>if(!decide ((c.vt:Int)=a1)) then(some false) else(bQ a0.aF a2.bY>>=fun d=>mj a3 d>>=fun a=>if a.2 then(jP a.1 a2.bf>>=fun NV=>if NV then(some true) else(some false)) else(some false))) else(some false)) else(if decide ((a2.Op:Int)=4) then(some true) else(some false)))))) else(some false)
 partial_fixpoint
def iL (a0:aL)(a1:Int)(a2:af)(a3:bo)(a:Int):Option (Bool):=
 if decide (a<(a2.Kids.length:Int)) then(bQ a2.Kids a>>=fun b=>dU a0 a1 b a3>>=fun c=>if c then(if cy .i64 (a+1) then(iL a0 a1 a2 a3 (a+1)) else none) else(some false)) else(some true)
 partial_fixpoint
def se (a0:aL)(a1:Int)(a2:af)(a3:bo):Option (Bool):=
 kY a3 a2.Var>>=fun v0=>if v0 then(if decide ((a2.bk.length:Int)=0) then(some false) else(dR a0 a1 a2 a3 0)) else(some false)
 partial_fixpoint
end
theorem wH {a0:aL}:(∀ a2 a3 c,LH Tryz.prog (dR a0 a1 a2 a3 c) aB (KU a0 a1 a2 a3 c))∧(∀ a2 a3,LF Tryz.prog (dU a0 a1 a2 a3) 116 [.agg [aM a0.cv.Cons,aM a0.cv.bp,.lit (a0.aF.map az)],aI a1,.agg [aI a2.Op,aI a2.Var,.lit (a2.bk.map aZ),.lit (a2.Kids.map au),aI a2.bY,aN a2.bf],.agg [aT a3.args,aI a3.next]] aB)∧(∀ a2 a3 d,LH Tryz.prog (iL a0 a1 a2 a3 d) aB (HR a0 a1 a2 a3 d))∧(∀ a2 a3,LF Tryz.prog (se a0 a1 a2 a3) 181 [.agg [aM a0.cv.Cons,aM a0.cv.bp,.lit (a0.aF.map az)],aI a1,.agg [aI a2.Op,aI a2.Var,.lit (a2.bk.map aZ),.lit (a2.Kids.map au),aI a2.bY,aN a2.bf],.agg [aT a3.args,aI a3.next]] aB):=by
 refine dR.mutual_partial_correctness _ _ _ _ _ _ ?_ ?_ ?_ ?_
 · exact fun dR dU a lD a2 a3 c=>sL 4 a2.bk<|sB 0 (sX 5 fun _=>sL 10 a0.cv.Cons<|sI 0<|fI 1 I3 (sB 4 (sI 6<|sX 0 fun _=>sB 2 (sR 42)<|sX 12 fun _=>sC 2 tV fun _=>fI 1 rp (sC 15 ud fun _=>fI 1 (lD _ _) (sI 5<|sM 2 [[6,4,7,1,9]] [1,0,2] [] 4 (a _ _ _))<|sR 6)<|sR 24)<|sX 23 fun _=>sC 2 tV fun _=>fI 1 rp (sC 15 ud fun _=>fI 1 (lD _ _) (sI 5<|sM 2 [[6,4,7,1,9]] [1,0,2] [] 4 (a _ _ _))<|sR 6)<|sR 24)<|sR 58)<|sR 4
 · exact fun iL se b Bp a2 a3=>sF<|fI 7 KP (sB 4 (sR 5)<|sB 5 (fI 6 (Bp _ _) (sR 3)<|sR 3)<|sB 2 (sL 4 a2.Kids<|fI 0 I3 (sK 4 [[7,6,1,4,9]] [2,1,0] (b _ _ _))<|sR 5)<|sB 2 (fI 5 Nq (sX 6 fun _=>sB 3 (sR 5)<|sX 8 fun _=>sC 2 BJ fun _=>WL 3 (fI 9 rp (sR 4)<|sR 4)<|sR 14)<|sR 16)<|sB 4 (sR 3)<|sR 3)<|sR 10
 · exact fun dU iL lD b a2 a3 d=>sL 4 a2.Kids<|sB 0 (sX 8 fun _=>fI 3 (lD _ _) (sI 4<|sK 2 [[7,6,1,4,9]] [2,1,0] (b _ _ _))<|sR 5)<|sR 4
 · exact fun dR a a2 a3=>sF<|fI 9 wW (sL 4 a2.bk<|sB 0 (sR 5)<|sK 4 [[6,4,7,1,9]] [1,0,2] (a _ _ _))<|sR 11
theorem lD {a0:aL}{a2:af}{a3:bo}:LF Tryz.prog (dU a0 a1 a2 a3) 116 [.agg [aM a0.cv.Cons,aM a0.cv.bp,.lit (a0.aF.map az)],aI a1,.agg [aI a2.Op,aI a2.Var,.lit (a2.bk.map aZ),.lit (a2.Kids.map au),aI a2.bY,aN a2.bf],.agg [aT a3.args,aI a3.next]] aB:=wH.2.1 _ _
theorem Bp {a0:aL}{a2:af}{a3:bo}:LF Tryz.prog (se a0 a1 a2 a3) 181 [.agg [aM a0.cv.Cons,aM a0.cv.bp,.lit (a0.aF.map az)],aI a1,.agg [aI a2.Op,aI a2.Var,.lit (a2.bk.map aZ),.lit (a2.Kids.map au),aI a2.bY,aN a2.bf],.agg [aT a3.args,aI a3.next]] aB:=wH.2.2.2 _ _
def zU (a0:aL)(a1:Int)(a2:af):Option (Bool):=
 ly a2 100 100>>=fun v0=>if decide (v0≥0) then(yy a0 a1>>=fun v2=>dU a0 a1 a2 v2>>=fun v3=>if v3 then(some true) else(some false)) else(some false)
theorem HS {a0:aL}{a2:af}:LF Tryz.prog (zU a0 a1 a2) 76 [.agg [aM a0.cv.Cons,aM a0.cv.bp,.lit (a0.aF.map az)],aI a1,.agg [aI a2.Op,aI a2.Var,.lit (a2.bk.map aZ),.lit (a2.Kids.map au),aI a2.bY,aN a2.bf]] aB:=
 sF<|sC 8 mw fun _=>sB 1 (sC 6 KO fun _=>fI 1 lD (sR 4)<|sR 4)<|sR 13
noncomputable def PI : St:=sN 10 (ak (aB true) none (sN 8 (St.start T0 104 [.agg [aI 0,aI 0,.lit [],.lit [],aI 0,.lit []]] ag.empty)))
noncomputable def Gl := fun(a0:af) a (Ik:LI)=>fZ PI 3 fun o=>([[(1,aP (o 0)),(4,aI a),(3,.ai (o 2) 0 Ik.length)]],[((o 0),.arr 6 [.agg [aI a0.Op,aI a0.Var,.lit (a0.bk.map aZ),.lit (a0.Kids.map au),aI a0.bY,aN a0.bf]]),((o 2),.arr 1 (Ik.map (aA .i64)))])
noncomputable def PJ : St:=sN 3 (ak (aB false) none (sN 0 (ak (aI 0) none (sN 4 (dz Gl)))))
noncomputable def PK := fun(a0:af) a (vu:LI)=>fZ PJ 3 fun o=>([[(1,aP (o 0)),(5,aI a),(3,.ai (o 2) 0 vu.length)]],[((o 0),.arr 6 [.agg [aI a0.Op,aI a0.Var,.lit (a0.bk.map aZ),.lit (a0.Kids.map au),aI a0.bY,aN a0.bf]]),((o 2),.arr 1 (vu.map (aA .i64)))])
noncomputable def PL : St:=sN 3 (ak (aB false) none (sN 8 (St.start T0 104 [.agg [aI 0,aI 0,.lit [],.lit [],aI 0,.lit []]] ag.empty)))
noncomputable def Gm := fun(a0:af) a=>fZ PL 1 fun o=>([[(1,aP (o 0)),(4,aI a),(3,.an)]],[((o 0),.arr 6 [.agg [aI a0.Op,aI a0.Var,.lit (a0.bk.map aZ),.lit (a0.Kids.map au),aI a0.bY,aN a0.bf]])])
noncomputable def PM : St:=sN 3 (ak (aB false) none (sN 0 (ak (aI 0) none (sN 4 (dz Gm)))))
noncomputable def PN := fun(a0:af) a=>fZ PM 1 fun o=>([[(1,aP (o 0)),(5,aI a),(3,.an)]],[((o 0),.arr 6 [.agg [aI a0.Op,aI a0.Var,.lit (a0.bk.map aZ),.lit (a0.Kids.map au),aI a0.bY,aN a0.bf]])])
mutual
def iV (a0:af)(a:Int)(vu:LI):Option (LI):=
 if decide (a<(a0.bk.length:Int)) then(bQ a0.bk a>>=fun c=>jn c.fh>>=fun b=>if b.isEmpty then(if cy .i64 (a+1) then(iV a0 (a+1) vu) else none) else(if decide (vu.length+b.length≤1048576) then(if cy .i64 (a+1) then(iV a0 (a+1) (vu++b)) else none) else none)) else(some vu)
 partial_fixpoint
def jn (a0:af):Option (LI):=
 if decide ((a0.Op:Int)=3) then(jx a0 0 [a0.bY]) else(pG a0 0)
 partial_fixpoint
def pG (a0:af)(a:Int):Option (LI):=
 if decide (a<(a0.Kids.length:Int)) then(bQ a0.Kids a>>=fun c=>jn c>>=fun b=>if b.isEmpty then(if cy .i64 (a+1) then(pG a0 (a+1)) else none) else(if decide (b.length≤1048576) then(if cy .i64 (a+1) then(jx a0 (a+1) b) else none) else none)) else(nQ a0 0)
 partial_fixpoint
def nQ (a0:af)(a:Int):Option (LI):=
 if decide (a<(a0.bk.length:Int)) then(bQ a0.bk a>>=fun c=>jn c.fh>>=fun b=>if b.isEmpty then(if cy .i64 (a+1) then(nQ a0 (a+1)) else none) else(if decide (b.length≤1048576) then(if cy .i64 (a+1) then(iV a0 (a+1) b) else none) else none)) else(some ([]:LI))
 partial_fixpoint
def jx (a0:af)(a:Int)(Ik:LI):Option (LI):=
 if decide (a<(a0.Kids.length:Int)) then(bQ a0.Kids a>>=fun b=>jn b>>=fun v53=>if v53.isEmpty then(if cy .i64 (a+1) then(jx a0 (a+1) Ik) else none) else(if decide (Ik.length+v53.length≤1048576) then(if cy .i64 (a+1) then(jx a0 (a+1) (Ik++v53)) else none) else none)) else(iV a0 0 Ik)
 partial_fixpoint
end
theorem HT  : (∀ a0 h vu,LH Tryz.prog (iV a0 h vu) aN (PK a0 h vu))∧(∀ a0,LF Tryz.prog (jn a0) 104 [.agg [aI a0.Op,aI a0.Var,.lit (a0.bk.map aZ),.lit (a0.Kids.map au),aI a0.bY,aN a0.bf]] aN)∧(∀ a0 i,LH Tryz.prog (pG a0 i) aN (Gm a0 i))∧(∀ a0 e,LH Tryz.prog (nQ a0 e) aN (PN a0 e))∧(∀ a0 j Ik,LH Tryz.prog (jx a0 j Ik) aN (Gl a0 j Ik)):=by
 refine iV.mutual_partial_correctness _ _ _ _ _ ?_ ?_ ?_ ?_ ?_
 · exact fun iV jn a kS a0 h vu=>sL 4 a0.bk<|sB 0 (sX 6 fun _=>sC 2 (kS _) fun k=>sS (fun afV=>sT (bF EE 0 (fun S=>mQ Tryz.prog S 45 45 (.ai 2 0 vu.length) (aN k)) (fun S=>.val (.ai 2 0 vu.length) S) kr kr (dJ (enc:=(aA .i64)) (el:=3) (sz:=1) (ys:=k) kr kr (bC _ (.inl rfl)) afV (bC (enc:=(aA .i64)) (ys:=vu) _ (.inr ⟨2,1,rfl,by kernel_rfl⟩)) (ed (enc:=(aA .i64)) (fun _=>rfl) (fun _=>by kernel_rfl) _)))<|sI 4<|sK 2 [[1,5,3]] [0,2] (a _ _ _)) fun afV=>Rh 0 2 3 (bK afV)<|sI 4<|sM 2 [[1,5,3]] [0,3] [(2,3)] 4 (a _ _ _))<|Hb 5 2
 · exact fun pG jx c b a0=>sF<|sB 8 (sK 10 [[1,4,3]] [0,2] (b _ _ _))<|sK 3 [[1,4,3]] [0] (c _ _)
 · exact fun jn pG nQ jx kS c d b a0 i=>sL 4 a0.Kids<|sB 0 (sX 6 fun _=>sC 1 (kS _) fun f=>sS (fun Tz=>sT (bF EE 0 (fun S=>mQ Tryz.prog S 45 45 (.an) (aN f)) (fun S=>.val (.an) S) kr kr (dJ (enc:=(aA .i64)) (el:=3) (sz:=1) (ys:=f) kr kr (bC _ (.inl rfl)) Tz rfl rfl))<|sI 4<|sK 2 [[1,4,3]] [0] (c _ _)) fun Tz=>Z1 0 1 (bK Tz)<|sI 4<|sT (Cg EE 2 5 kr)<|sM 0 [[1,4,3]] [0,1] [(2,1),(1,3)] 5 (b _ _ _))<|sK 3 [[1,5,3]] [0] (d _ _)
 · exact fun iV jn nQ a kS d a0 e=>sL 4 a0.bk<|sB 0 (sX 6 fun _=>sC 2 (kS _) fun g=>sS (fun Ls=>sT (bF EE 0 (fun S=>mQ Tryz.prog S 45 45 (.an) (aN g)) (fun S=>.val (.an) S) kr kr (dJ (enc:=(aA .i64)) (el:=3) (sz:=1) (ys:=g) kr kr (bC _ (.inl rfl)) Ls rfl rfl))<|sI 4<|sK 2 [[1,5,3]] [0] (d _ _)) fun Ls=>Z1 0 1 (bK Ls)<|sI 4<|sT (Cg EE 2 5 kr)<|sM 0 [[1,5,3]] [0,1] [(2,1),(1,3)] 5 (a _ _ _))<|Td 5
 · exact fun iV jn jx a kS b a0 j Ik=>sL 4 a0.Kids<|sB 0 (sX 6 fun _=>sC 1 (kS _) fun v53=>sS (fun afW=>sT (bF EE 0 (fun S=>mQ Tryz.prog S 45 45 (.ai 2 0 Ik.length) (aN v53)) (fun S=>.val (.ai 2 0 Ik.length) S) kr kr (dJ (enc:=(aA .i64)) (el:=3) (sz:=1) (ys:=v53) kr kr (bC _ (.inl rfl)) afW (bC (enc:=(aA .i64)) (ys:=Ik) _ (.inr ⟨2,1,rfl,by kernel_rfl⟩)) (ed (enc:=(aA .i64)) (fun _=>rfl) (fun _=>by kernel_rfl) _)))<|sI 4<|sK 2 [[1,4,3]] [0,2] (b _ _ _)) fun afW=>Rh 0 2 3 (bK afW)<|sI 4<|sM 2 [[1,4,3]] [0,3] [(2,3)] 4 (b _ _ _))<|sK 3 [[1,5,3]] [0,2] (a _ _ _)
theorem kS {a0:af}:LF Tryz.prog (jn a0) 104 [.agg [aI a0.Op,aI a0.Var,.lit (a0.bk.map aZ),.lit (a0.Kids.map au),aI a0.bY,aN a0.bf]] aN:=HT.2.1 _
noncomputable def KV : St:=sN 8 (St.start T0 105 [.agg [.lit [],.lit [],.lit []],aI 0] ag.empty)
noncomputable def Bq := fun(a0:aL) a1 a=>fZ KV 1 fun o=>([[(1,aI a1),(2,aP (o 0)),(6,aI a),(5,.an)]],[((o 0),.arr 3 [.agg [aM a0.cv.Cons,aM a0.cv.bp,.lit (a0.aF.map az)]])])
noncomputable def KW : St:=sN 2 (ak (aI 0) none (sN 9 (ak (aB true) none (sN 3 (ak (.dO [aI 0,.lit [],aI 0,aI 0,.lit [],aI 0]) none (sN 5 (ak (aB true) none (sN 0 (ak (aI 0) none (sN 4 (dz Bq)))))))))))
noncomputable def KX := fun(a0:aL) a1 a (y9:LI)=>fZ KW 3 fun o=>([[(1,aI a1),(2,aP (o 0)),(6,aI a),(5,.ai (o 2) 0 y9.length)]],[((o 0),.arr 3 [.agg [aM a0.cv.Cons,aM a0.cv.bp,.lit (a0.aF.map az)]]),((o 2),.arr 1 (y9.map (aA .i64)))])
def kI (a0:aL)(a1 a:Int)(y9:LI):Option (LI):=
 if decide (a<(a0.aF.length:Int)) then(bQ a0.aF a>>=fun b=>if decide ((b.vt:Int)=a1) then(if decide (y9.length+[a].length≤1048576) then(if cy .i64 (a+1) then(kI a0 a1 (a+1) (y9++[a])) else none) else none) else(if cy .i64 (a+1) then(kI a0 a1 (a+1) y9) else none)) else(some y9)
 partial_fixpoint
theorem Ek {a0:aL}:(∀ b y9,LH Tryz.prog (kI a0 a1 b y9) aN (KX a0 a1 b y9)):=by
 refine kI.partial_correctness _ _ _ ?_
 exact fun kI a b y9=>sL 4 a0.aF<|sB 0 (sX 5 fun _=>sB 3 (sA 4 2 3 4<|sI 4<|sM 2 [[1,2,6,5]] [0,4] [(2,4)] 5 (a _ _))<|sI 3<|sK 2 [[1,2,6,5]] [0,2] (a _ _))<|Hb 5 2
def nV (a0:aL)(a1 a:Int):Option (LI):=
 if decide (a<(a0.aF.length:Int)) then(bQ a0.aF a>>=fun b=>if decide ((b.vt:Int)=a1) then(if cy .i64 (a+1) then(kI a0 a1 (a+1) [a]) else none) else(if cy .i64 (a+1) then(nV a0 a1 (a+1)) else none)) else(some ([]:LI))
 partial_fixpoint
theorem El {a0:aL}:(∀ b,LH Tryz.prog (nV a0 a1 b) aN (Bq a0 a1 b)):=by
 refine nV.partial_correctness _ _ _ ?_
 exact fun nV a b=>sL 4 a0.aF<|sB 0 (sX 5 fun _=>sB 3 (sI 9<|sK 2 [[1,2,6,5]] [0,2] (Ek _ _))<|sI 3<|sK 2 [[1,2,6,5]] [0] (a _))<|Td 5
def yA (a0:aL)(a1:Int):Option (LI):=
 nV a0 a1 0
theorem KY {a0:aL}:LF Tryz.prog (yA a0 a1) 105 [.agg [aM a0.cv.Cons,aM a0.cv.bp,.lit (a0.aF.map az)],aI a1] aN:=
 sF<|sK 8 [[1,2,6,5]] [0] (El _)
noncomputable def Nr : St:=sN 3 (ak (aB false) none (sN 0 (ak (aI 0) none (sN 1 (ak (aI 0) none (sN 4 (ak (.lit []) none (sN 3 (ak (.lit []) none (sN 4 (ak (aB true) none (sN 8 (St.start T0 68 [.agg [.lit [],.lit [],.lit []],aI 0,.agg [aI 0,aI 0,.lit [],.lit [],aI 0,.lit []]] ag.empty)))))))))))))
noncomputable def Ns := fun v1 v2 a=>fZ Nr 2 fun o=>([[(8,aN v2),(7,aN v1),(9,aI a)]],[])
def kT (v1:(LI))(v2:(LI))(a:Int):Option (Bool):=
 if decide (a<(v2.length:Int)) then(bQ v2 a>>=fun b=>yi v1 b>>=fun c=>if c then(if cy .i64 (a+1) then(kT v1 v2 (a+1)) else none) else(some false)) else(some true)
 partial_fixpoint
theorem GR {v2:(LI)}:(∀ b,LH Tryz.prog (kT v1 v2 b) aB (Ns v1 v2 b)):=by
 refine kT.partial_correctness _ _ _ ?_
 exact fun kT a b=>sL 3 v2<|sB 0 (sX 5 fun _=>fI 1 Gk (sI 4<|sK 2 [[8,7,9]] [] (a _))<|sR 5)<|sR 4
def xB (a0:aL)(a1:Int)(a2:af):Option (Bool):=
 zU a0 a1 a2>>=fun v0=>if v0 then(jn a2>>=fun v1=>yA a0 a1>>=fun v2=>if(!decide ((v1.length:Int)=(v2.length:Int))) then(some false) else(kT v1 v2 0)) else(some false)
theorem Nt {a0:aL}{a2:af}:LF Tryz.prog (xB a0 a1 a2) 68 [.agg [aM a0.cv.Cons,aM a0.cv.bp,.lit (a0.aF.map az)],aI a1,.agg [aI a2.Op,aI a2.Var,.lit (a2.bk.map aZ),.lit (a2.Kids.map au),aI a2.bY,aN a2.bf]] aB:=
 sF<|fI 8 HS (sC 4 kS fun v1=>sC 3 KY fun v2=>sL 4 v1<|sL 1 v2<|sB 0 (sR 4)<|sK 3 [[8,7,9]] [] (GR _))<|sR 5
noncomputable def Nu : St:=sN 4 (ak (aB false) none (sN 0 (ak (aI 0) none (sN 4 (ak (aI 0) none (sN 4 (ak (aB true) none (sN 6 (St.start T0 36 [.agg [.lit [],.lit [],.lit [],.lit []]] ag.empty)))))))))
noncomputable def Nv := fun(a0:bA) a=>fZ Nu 1 fun o=>([[(1,aP (o 0)),(3,aI a)]],[((o 0),.arr 4 [.agg [aM a0.Prog.cv.Cons,aM a0.Prog.cv.bp,.lit (a0.Prog.aF.map az),.lit (a0.bP.map au)]])])
def lY (a0:bA)(a:Int):Option (Bool):=
 if decide (a<(a0.bP.length:Int)) then(bQ a0.bP a>>=fun b=>xB a0.Prog a b>>=fun c=>if c then(if cy .i64 (a+1) then(lY a0 (a+1)) else none) else(some false)) else(some true)
 partial_fixpoint
theorem GS {a0:bA}:(∀ b,LH Tryz.prog (lY a0 b) aB (Nv a0 b)):=by
 refine lY.partial_correctness _ _ ?_
 exact fun lY a b=>sL 4 a0.bP<|sB 0 (sX 9 fun _=>fI 2 Nt (sI 4<|sK 2 [[1,3]] [0] (a _))<|sR 5)<|sR 4
def xC (a0:bA):Option (Bool):=
 A7 a0.Prog>>=fun v0=>if v0 then(if(!decide ((a0.bP.length:Int)=(a0.Prog.cv.bp.length:Int))) then(some false) else(lY a0 0)) else(some false)
theorem Nw {a0:bA}:LF Tryz.prog (xC a0) 36 [.agg [aM a0.Prog.cv.Cons,aM a0.Prog.cv.bp,.lit (a0.Prog.aF.map az),.lit (a0.bP.map au)]] aB:=
 sF<|fI 6 Nf (sL 4 a0.bP<|sL 4 a0.Prog.cv.bp<|sB 0 (sR 5)<|sK 4 [[1,3]] [0] (GS _))<|sR 16
def vE (a0 a1 a2:Int):Option (Bool):=
 if decide (a0≥a1) then(if decide (a0≤a2) then(some true) else(some false)) else(some false)
theorem vc {a0:Int}:LF Tryz.prog (vE a0 a1 a2) 38 [aI a0,aI a1,aI a2] aB:=
 sF<|sB 5 (sB 3 (sR 4)<|sR 4)<|sR 8
noncomputable def Nx : St:=sN 6 (St.start T0 107 [.agg [aI 0,aI 0,.lit []]] ag.empty)
noncomputable def Ny := fun a0 a=>fZ Nx 1 fun o=>([[(1,aP (o 0)),(3,aI a)]],[((o 0),.arr 3 [aK a0])])
mutual
def lZ (a0:Term)(a:Int):Option (Bool):=
 if decide (a<(a0.Kids.length:Int)) then(bQ a0.Kids a>>=fun b=>qP b>>=fun c=>if c then(if cy .i64 (a+1) then(lZ a0 (a+1)) else none) else(some false)) else(if(!decide ((a0.Op:Int)=8)) then(some true) else(some false))
 partial_fixpoint
def qP (a0:Term):Option (Bool):=
 lZ a0 0
 partial_fixpoint
end
theorem GU  : (∀ a0 b,LH Tryz.prog (lZ a0 b) aB (Ny a0 b))∧(∀ a0,LF Tryz.prog (qP a0) 107 [aK a0] aB):=by
 refine lZ.mutual_partial_correctness _ _ ?_ ?_
 · exact fun lZ qP a xL a0 b=>sL 4 a0.Kids<|sB 0 (sX 5 fun _=>fI 1 (xL _) (sI 4<|sK 2 [[1,3]] [0] (a _ _))<|sR 5)<|sB 3 (sR 3)<|sR 3
 · exact fun lZ a a0=>sF<|sK 6 [[1,3]] [0] (a _ _)
theorem xL {a0:Term}:LF Tryz.prog (qP a0) 107 [aK a0] aB:=GU.2 _
def A9 (a0:aH)(a1:Term):Option (Bool):=
 uX a0 a1>>=fun v0=>if v0 then(qP a1>>=fun v1=>if v1 then(some true) else(some false)) else(some false)
theorem Nz {a1:Term}:LF Tryz.prog (A9 a0 a1) 69 [aG a0,aK a1] aB:=
 sF<|fI 7 xJ (fI 2 xL (sR 4)<|sR 4)<|sR 7
noncomputable def NA : St:=sN 4 (ak (aB false) none (sN 0 (ak (aI 0) none (sN 4 (ak (aB false) none (sN 2 (ak (.dO [.sc (.string ⟨#[]⟩),aI 0]) none (sN 6 (ak (aB false) none (sN 2 (ak (.dO [.sc (.string ⟨#[]⟩),aI 0]) none (sN 7 (ak (aB true) none (sN 0 (ak (aI 0) none (sN 0 (ak (aI 0) none (sN 6 (ak (aB true) none (sN 0 (ak (aI 0) none (sN 0 (ak (aI 0) none (sN 15 (St.start T0 37 [.agg [.lit [],.lit [],.lit [],.lit []],.agg [aI 0,aI 0,.lit []]] ag.empty)))))))))))))))))))))))))
noncomputable def DD := fun(a0:bA) (a1:aj) a=>fZ NA 3 fun o=>([[(3,aP (o 1)),(5,aP (o 2)),(6,aI a)]],[((o 1),.arr 3 [.agg [aI a1.Nil,aI a1.Cons,.lit (a1.Steps.map ar)]]),((o 2),.arr 2 [.agg [aM a0.Prog.cv.Cons,aM a0.Prog.cv.bp]])])
noncomputable def NB : St:=sN 5 (ak (aB true) none (sN 6 (ak (aB true) none (sN 4 (ak (aB true) none (sN 6 (ak (.dO [aI 0,aI 0,aI 0,aI 0,.lit []]) none (sN 5 (ak (aB true) none (sN 0 (ak (aI 0) none (sN 4 (dz DD)))))))))))))
noncomputable def NC := fun(a0:bA) (a1:aj) b (a:aC) c=>fZ NB 4 fun o=>([[(7,aP (o 3)),(3,aP (o 1)),(5,aP (o 2)),(6,aI b),(8,aI c)]],[((o 3),.arr 5 [.agg [aI a.Op,aI a.Var,aI a.Expr.Op,aI a.Expr.N,aT a.Expr.Kids]]),((o 1),.arr 3 [.agg [aI a1.Nil,aI a1.Cons,.lit (a1.Steps.map ar)]]),((o 2),.arr 2 [.agg [aM a0.Prog.cv.Cons,aM a0.Prog.cv.bp]])])
mutual
def jW (a0:bA)(a1:aj)(a:Int)(c:aC)(b:Int):Option (Bool):=
 if decide (b<a) then(bQ a1.Steps b>>=fun d=>if decide ((d.Var:Int)=c.Var) then(some false) else(if cy .i64 (b+1) then(jW a0 a1 a c (b+1)) else none)) else(if cy .i64 (a+1) then(gh a0 a1 (a+1)) else none)
 partial_fixpoint
def gh (a0:bA)(a1:aj)(b:Int):Option (Bool):=
 if decide (b<(a1.Steps.length:Int)) then(bQ a1.Steps b>>=fun a=>vE a.Op 1 5>>=fun c=>if c then(vE a.Var 0 19>>=fun d=>if d then(A9 a0.Prog.cv a.Expr>>=fun e=>if e then(jW a0 a1 b a 0) else(some false)) else(some false)) else(some false)) else(some true)
 partial_fixpoint
end
theorem GV {a0:bA}{a1:aj}:(∀ c d e,LH Tryz.prog (jW a0 a1 c d e) aB (NC a0 a1 c d e))∧(∀ c,LH Tryz.prog (gh a0 a1 c) aB (DD a0 a1 c)):=by
 refine jW.mutual_partial_correctness _ _ _ _ ?_ ?_
 · exact fun jW gh a b c d e=>sB 3 (DN 6 31 56 cB fun f _=>sB 4 (sR 5)<|sI 4<|sK 2 [[7,3,5,6,8]] [3,1,2] (a _ _ _))<|sI 3<|sM 2 [[3,5,6]] [1,2] [] 4 (b _)
 · exact fun jW a c=>sL 4 a1.Steps<|sB 0 (DN 5 31 56 cB fun d _=>fI 6 vc (fI 4 vc (fI 6 Nz (sK 5 [[7,3,5,6,8]] [3,1,2] (a _ _ _))<|sR 6)<|sR 13)<|sR 18)<|sR 4
def Ba (a0:bA)(a1:aj):Option (Bool):=
 if cy .i64 ((a0.Prog.cv.Cons.length:Int)-1) then(vE a1.Nil 0 ((a0.Prog.cv.Cons.length:Int)-1)>>=fun v0=>if v0 then(if cy .i64 ((a0.Prog.cv.Cons.length:Int)-1) then(vE a1.Cons 0 ((a0.Prog.cv.Cons.length:Int)-1)>>=fun v1=>if v1 then(bQ a0.Prog.cv.Cons a1.Nil>>=fun a=>if(!decide ((a.bu:Int)=0)) then(some false) else(bQ a0.Prog.cv.Cons a1.Cons>>=fun b=>if(!decide ((b.bu:Int)=2)) then(some false) else(if decide ((a1.Steps.length:Int)>6) then(some false) else(gh a0 a1 0)))) else(some false)) else none) else(some false)) else none
theorem ND {a0:bA}{a1:aj}:LF Tryz.prog (Ba a0 a1) 37 [.agg [aM a0.Prog.cv.Cons,aM a0.Prog.cv.bp,.lit (a0.Prog.aF.map az),.lit (a0.bP.map au)],.agg [aI a1.Nil,aI a1.Cons,.lit (a1.Steps.map ar)]] aB:=
 sF<|sL 15 a0.Prog.cv.Cons<|sI 0<|fI 0 vc (sL 6 a0.Prog.cv.Cons<|sI 0<|fI 0 vc (sX 7 fun _=>sB 2 (sR 21)<|sX 6 fun _=>sB 2 (sR 11)<|sL 4 a1.Steps<|sB 0 (sR 5)<|sK 4 [[3,5,6]] [1,2] (GV.2 _))<|sR 32)<|sR 41
noncomputable def PO : St:=sN 4 (ak (.lit []) none (sN 5 (St.start T0 39 [.agg [aI 0,aI 0,.lit []],aI 0] ag.empty)))
noncomputable def PQ := fun a1 v0 a=>fZ PO 1 fun o=>([[(1,aI a1),(5,aN v0),(6,aI a)]],[])
def nR (a1:Int)(v0:(LI))(a:Int):Option (Bool):=
 if decide (a<(v0.length:Int)) then(bQ v0 a>>=fun b=>if decide (b=a1) then(some true) else(if cy .i64 (a+1) then(nR a1 v0 (a+1)) else none)) else(some false)
 partial_fixpoint
theorem HU : (∀ b,LH Tryz.prog (nR a1 v0 b) aB (PQ a1 v0 b)):=by
 refine nR.partial_correctness _ _ _ ?_
 exact fun nR a b=>sL 3 v0<|sB 0 (sX 4 fun _=>sB 2 (sR 4)<|sI 3<|sK 2 [[1,5,6]] [] (a _))<|sR 4
def vL (a0:Term)(a1:Int):Option (Bool):=
 fM a0>>=fun v0=>nR a1 v0 0
theorem Gn {a0:Term}:LF Tryz.prog (vL a0 a1) 39 [aK a0,aI a1] aB:=
 sF<|sC 5 iQ fun _=>sK 4 [[1,5,6]] [] (HU _)
def xD (a0:bA)(a1:aj)(a2:Int):Option (aj×Int):=
 xC a0>>=fun v0=>if v0 then(Ba a0 a1>>=fun v1=>if v1 then(if cy .i64 ((a1.Steps.length:Int)-2) then(vE a2 0 ((a1.Steps.length:Int)-2)>>=fun v2=>if v2 then(bQ a1.Steps a2>>=fun a=>if cy .i64 (a2+1) then(bQ a1.Steps (a2+1)>>=fun b=>vL a.Expr b.Var>>=fun v5=>if v5 then(some ((aj.mk 0 0 ([]:List aC)),7)) else(vL b.Expr a.Var>>=fun c=>if c then(some ((aj.mk 0 0 ([]:List aC)),7)) else(if decide (0≤a2∧a2≤(a1.Steps.length:Int)) then(if(a1.Steps.take (a2:Int).toNat).isEmpty then(if cy .i64 (a2+2) then(if decide (0≤(a2+2)∧(a2+2)≤(a1.Steps.length:Int)) then(if(a1.Steps.drop ((a2+2):Int).toNat).isEmpty then(some ((aj.mk a1.Nil a1.Cons [b,a]),0)) else(if decide ([b,a].length+(a1.Steps.drop ((a2+2):Int).toNat).length≤1048576) then(some ((aj.mk a1.Nil a1.Cons ([b,a]++(a1.Steps.drop ((a2+2):Int).toNat))),0)) else none)) else none) else none) else(if decide ((a1.Steps.take (a2:Int).toNat).length≤1048576) then(if decide ((a1.Steps.take (a2:Int).toNat).length+[b,a].length≤1048576) then(if cy .i64 (a2+2) then(if decide (0≤(a2+2)∧(a2+2)≤(a1.Steps.length:Int)) then(if(a1.Steps.drop ((a2+2):Int).toNat).isEmpty then(some ((aj.mk a1.Nil a1.Cons ((a1.Steps.take (a2:Int).toNat)++[b,a])),0)) else(if decide (((a1.Steps.take (a2:Int).toNat)++[b,a]).length+(a1.Steps.drop ((a2+2):Int).toNat).length≤1048576) then(some ((aj.mk a1.Nil a1.Cons (((a1.Steps.take (a2:Int).toNat)++[b,a])++(a1.Steps.drop ((a2+2):Int).toNat))),0)) else none)) else none) else none) else none) else none)) else none))) else none) else(some ((aj.mk 0 0 ([]:List aC)),2))) else none) else(some ((aj.mk 0 0 ([]:List aC)),2))) else(some ((aj.mk 0 0 ([]:List aC)),2))
theorem NF {a0:bA}{a1:aj}:LF Tryz.prog (xD a0 a1 a2) 8 [.agg [aM a0.Prog.cv.Cons,aM a0.Prog.cv.bp,.lit (a0.Prog.aF.map az),.lit (a0.bP.map au)],.agg [aI a1.Nil,aI a1.Cons,.lit (a1.Steps.map ar)],aI a2] (fun r=>.bO [.agg [aI r.1.Nil,aI r.1.Cons,.lit (r.1.Steps.map ar)],aI r.2]):=
 sF<|fI 7 Nw (fI 4 ND (sL 6 a1.Steps<|sI 0<|fI 0 vc (DN 7 31 56 cB fun a _=>sI 4<|DN 0 31 56 cB fun b _=>fI 11 Gn (sE (by exact bN EE 13 (v:=.bO [.agg [aI 0,aI 0,.an],aI 7]) kr (Fz.bw (Fz.aw (.pure pv) (Fz.aw (.pure pv) (Fz.aw (.an) (.pure pv)))) (.pure pv))))<|fI 5 Gn (sE (by exact bN EE 7 (v:=.bO [.agg [aI 0,aI 0,.an],aI 7]) kr (Fz.bw (Fz.aw (.pure pv) (Fz.aw (.pure pv) (Fz.aw (.an) (.pure pv)))) (.pure pv))))<|sG fun g=>sT (lF EE 10 (fun S=>Je Tryz.prog S 31 (.lit (a1.Steps.map ar)) none (some (aI a2))) (fun S=>.val (.lit ((a1.Steps.take (a2:Int).toNat).map ar)) S) kr kr (Tu (el:=56) (n:=5) kr kr (fun _=>rfl) g))<|sS (fun c8=>sT (bF EE 0 (fun S=>mQ Tryz.prog S 31 31 (.an) (.lit ((a1.Steps.take (a2:Int).toNat).map ar))) (fun S=>.val (.an) S) kr kr (dJ (enc:=ar) (el:=56) (sz:=5) (ys:=(a1.Steps.take (a2:Int).toNat)) kr kr (bC _ (.inl rfl)) c8 rfl rfl))<|sI 7<|sG fun h=>sT (lF EE 0 (fun S=>Je Tryz.prog S 31 (.lit (a1.Steps.map ar)) (some (aI (a2+2))) none) (fun S=>.val (.lit ((a1.Steps.drop ((a2+2):Int).toNat).map ar)) S) kr kr (Hd (el:=56) (n:=5) kr kr (fun _=>rfl) h))<|sS (fun afX=>sT (bF EE 0 (fun S=>mQ Tryz.prog S 31 31 (.ai 7 0 2) (.lit ((a1.Steps.drop ((a2+2):Int).toNat).map ar))) (fun S=>.val (.ai 7 0 2) S) kr kr (dJ (enc:=ar) (el:=56) (sz:=5) (ys:=(a1.Steps.drop ((a2+2):Int).toNat)) kr kr (bC _ (.inl rfl)) afX (bC (enc:=ar) (ys:=[b,a]) _ (.inr ⟨7,5,rfl,by kernel_rfl⟩)) (ed (enc:=ar) (fun _=>rfl) (fun _=>by kernel_rfl) _)))<|sE (by exact bN EE 9 (v:=.bO [.agg [aI a1.Nil,aI a1.Cons,.ai 7 0 2],aI 0]) kr (Fz.bw (Fz.aw (.pure pv) (Fz.aw (.pure pv) (Fz.aw (Fz.zf (sz:=5) (es:=[.agg [aI b.Op,aI b.Var,aI b.Expr.Op,aI b.Expr.N,aT b.Expr.Kids],.agg [aI a.Op,aI a.Var,aI a.Expr.Op,aI a.Expr.N,aT a.Expr.Kids]]) kr rfl (EB.cons (.pure pv) (EB.cons (.pure pv) EB.nil))) (.pure pv)))) (.pure pv)))) fun afX=>sG fun c=>sT (bF EE 0 (fun S=>mQ Tryz.prog S 31 31 (.ai 7 0 2) (.lit ((a1.Steps.drop ((a2+2):Int).toNat).map ar))) (fun S=>.val (.ai 8 0 ([b,a]++(a1.Steps.drop ((a2+2):Int).toNat)).length) ((S.del 7).add (.arr 5 (([b,a]++(a1.Steps.drop ((a2+2):Int).toNat)).map ar)))) kr kr (oh (enc:=ar) (el:=56) (sz:=5) (xs:=[b,a]) (ys:=(a1.Steps.drop ((a2+2):Int).toNat)) kr kr (fun _=>rfl) (fun _=>by kernel_rfl) kr (bC _ (.inl rfl)) (by first | rfl | (simp;done) | omega | (simp;omega)) kr kr kr (bK afX) c))<|sE (by exact bN EE 9 (v:=.bO [.agg [aI a1.Nil,aI a1.Cons,.ai 8 0 (([b,a]++(a1.Steps.drop ((a2+2):Int).toNat)).length)],aI 0]) kr (Fz.bw (Fz.aw (.pure pv) (Fz.aw (.pure pv) (Fz.aw (Fz.lT (sz:=5) (es:=(([b,a]++(a1.Steps.drop ((a2+2):Int).toNat)).map ar)) kr (by simp) pl) (.pure pv)))) (.pure pv)))) fun c8=>sG fun i=>sT (bF EE 0 (fun S=>mQ Tryz.prog S 31 31 (.an) (.lit ((a1.Steps.take (a2:Int).toNat).map ar))) (fun S=>.val (.ai 6 0 (a1.Steps.take (a2:Int).toNat).length) (S.add (.arr 5 ((a1.Steps.take (a2:Int).toNat).map ar)))) kr kr (AI (enc:=ar) (el:=56) (sz:=5) (ys:=(a1.Steps.take (a2:Int).toNat)) (.inl rfl) kr kr (fun _=>rfl) (fun _=>by kernel_rfl) (bC _ (.inl rfl)) kr kr (bK c8) i))<|sG fun d=>sT (bF EE 3 (fun S=>mQ Tryz.prog S 31 31 (.ai 6 0 ((a1.Steps.take (a2:Int).toNat).length)) (.ai 7 0 2)) (fun S=>.val (.ai 8 0 ((a1.Steps.take (a2:Int).toNat)++[b,a]).length) ((S.del 6).add (.arr 5 (((a1.Steps.take (a2:Int).toNat)++[b,a]).map ar)))) kr kr (oh (enc:=ar) (el:=56) (sz:=5) (xs:=(a1.Steps.take (a2:Int).toNat)) (ys:=[b,a]) kr kr (fun _=>rfl) (fun _=>by kernel_rfl) kr (bC _ (.inr ⟨7,5,rfl,by kernel_rfl⟩)) (by first | rfl | (simp;done) | omega | (simp;omega)) kr kr kr (by simp) d))<|sI 3<|sG fun e=>sT (lF EE 0 (fun S=>Je Tryz.prog S 31 (.lit (a1.Steps.map ar)) (some (aI (a2+2))) none) (fun S=>.val (.lit ((a1.Steps.drop ((a2+2):Int).toNat).map ar)) S) kr kr (Hd (el:=56) (n:=5) kr kr (fun _=>rfl) e))<|sS (fun afY=>sT (bF EE 0 (fun S=>mQ Tryz.prog S 31 31 (.ai 8 0 (((a1.Steps.take (a2:Int).toNat)++[b,a]).length)) (.lit ((a1.Steps.drop ((a2+2):Int).toNat).map ar))) (fun S=>.val (.ai 8 0 (((a1.Steps.take (a2:Int).toNat)++[b,a]).length)) S) kr kr (dJ (enc:=ar) (el:=56) (sz:=5) (ys:=(a1.Steps.drop ((a2+2):Int).toNat)) kr kr (bC _ (.inl rfl)) afY (bC (enc:=ar) (ys:=((a1.Steps.take (a2:Int).toNat)++[b,a])) _ (.inr ⟨8,5,rfl,by kernel_rfl⟩)) (ed (enc:=ar) (fun _=>rfl) (fun _=>by kernel_rfl) _)))<|sE (by exact bN EE 9 (v:=.bO [.agg [aI a1.Nil,aI a1.Cons,.ai 8 0 (((a1.Steps.take (a2:Int).toNat)++[b,a]).length)],aI 0]) kr (Fz.bw (Fz.aw (.pure pv) (Fz.aw (.pure pv) (Fz.aw (Fz.lT (sz:=5) (es:=(((a1.Steps.take (a2:Int).toNat)++[b,a]).map ar)) kr (by simp) pl) (.pure pv)))) (.pure pv)))) fun afY=>sG fun f=>sT (bF EE 0 (fun S=>mQ Tryz.prog S 31 31 (.ai 8 0 (((a1.Steps.take (a2:Int).toNat)++[b,a]).length)) (.lit ((a1.Steps.drop ((a2+2):Int).toNat).map ar))) (fun S=>.val (.ai 9 0 (((a1.Steps.take (a2:Int).toNat)++[b,a])++(a1.Steps.drop ((a2+2):Int).toNat)).length) ((S.del 8).add (.arr 5 ((((a1.Steps.take (a2:Int).toNat)++[b,a])++(a1.Steps.drop ((a2+2):Int).toNat)).map ar)))) kr kr (oh (enc:=ar) (el:=56) (sz:=5) (xs:=((a1.Steps.take (a2:Int).toNat)++[b,a])) (ys:=(a1.Steps.drop ((a2+2):Int).toNat)) kr kr (fun _=>rfl) (fun _=>by kernel_rfl) kr (bC _ (.inl rfl)) (by first | rfl | (simp;done) | omega | (simp;omega)) kr kr kr (bK afY) f))<|sE (by exact bN EE 9 (v:=.bO [.agg [aI a1.Nil,aI a1.Cons,.ai 9 0 ((((a1.Steps.take (a2:Int).toNat)++[b,a])++(a1.Steps.drop ((a2+2):Int).toNat)).length)],aI 0]) kr (Fz.bw (Fz.aw (.pure pv) (Fz.aw (.pure pv) (Fz.aw (Fz.lT (sz:=5) (es:=((((a1.Steps.take (a2:Int).toNat)++[b,a])++(a1.Steps.drop ((a2+2):Int).toNat)).map ar)) kr (by simp) pl) (.pure pv)))) (.pure pv))))<|sE (by exact bN EE 8 (v:=.bO [.agg [aI 0,aI 0,.an],aI 2]) kr (Fz.bw (Fz.aw (.pure pv) (Fz.aw (.pure pv) (Fz.aw (.an) (.pure pv)))) (.pure pv))))<|sE (by exact bN EE 17 (v:=.bO [.agg [aI 0,aI 0,.an],aI 2]) kr (Fz.bw (Fz.aw (.pure pv) (Fz.aw (.pure pv) (Fz.aw (.an) (.pure pv)))) (.pure pv))))<|sE (by exact bN EE 22 (v:=.bO [.agg [aI 0,aI 0,.an],aI 2]) kr (Fz.bw (Fz.aw (.pure pv) (Fz.aw (.pure pv) (Fz.aw (.an) (.pure pv)))) (.pure pv)))
noncomputable def NG : St:=sN 4 (ak (aB false) none (sN 0 (ak (aI 0) none (sN 2 (ak (aI 0) none (sN 4 (ak (aB false) none (sN 5 (ak (aB false) none (sN 9 (St.start T0 40 [.agg [aI 0,aI 0,.lit []],.agg [aI 0,aI 0,.lit []]] ag.empty)))))))))))
noncomputable def NH := fun a0 a1 a=>fZ NG 2 fun o=>([[(3,aP (o 1)),(2,aP (o 0)),(5,aI a)]],[((o 1),.arr 3 [aK a1]),((o 0),.arr 3 [aK a0])])
mutual
def kU (a0 a1:Term)(a:Int):Option (Bool):=
 if decide (a<(a0.Kids.length:Int)) then(bQ a0.Kids a>>=fun b=>bQ a1.Kids a>>=fun c=>qQ b c>>=fun d=>if d then(if cy .i64 (a+1) then(kU a0 a1 (a+1)) else none) else(some false)) else(some true)
 partial_fixpoint
def qQ (a0 a1:Term):Option (Bool):=
 if(!decide ((a0.Op:Int)=a1.Op)) then(some false) else(if(!decide ((a0.N:Int)=a1.N)) then(some false) else(if(!decide ((a0.Kids.length:Int)=(a1.Kids.length:Int))) then(some false) else(kU a0 a1 0)))
 partial_fixpoint
end
theorem GW  : (∀ a0 a1 b,LH Tryz.prog (kU a0 a1 b) aB (NH a0 a1 b))∧(∀ a0 a1,LF Tryz.prog (qQ a0 a1) 40 [aK a0,aK a1] aB):=by
 refine kU.mutual_partial_correctness _ _ ?_ ?_
 · exact fun kU qQ a xM a0 a1 b=>sL 4 a0.Kids<|sB 0 (sX 6 fun _=>sX 4 fun _=>fI 2 (xM _ _) (sI 4<|sK 2 [[3,2,5]] [1,0] (a _ _ _))<|sR 5)<|sR 4
 · exact fun kU a a0 a1=>sF<|sB 9 (sR 20)<|sB 5 (sR 14)<|sL 4 a0.Kids<|sL 2 a1.Kids<|sB 0 (sR 5)<|sK 4 [[3,2,5]] [1,0] (a _ _ _)
theorem xM {a0:Term}{a1:Term}:LF Tryz.prog (qQ a0 a1) 40 [aK a0,aK a1] aB:=GW.2 _ _
noncomputable def Em : St:=sN 4 (ak (aB false) none (sN 0 (ak (aI 0) none (sN 2 (ak (aI 0) none (sN 4 (ak (aB false) none (sN 5 (ak (aB false) none (sN 9 (St.start T0 9 [.agg [aI 0,aI 0,.lit []],.agg [aI 0,aI 0,.lit []]] ag.empty)))))))))))
noncomputable def Ep := fun(a0:aj) (a1:aj) a=>fZ Em 2 fun o=>([[(3,aP (o 1)),(2,aP (o 0)),(5,aI a)]],[((o 1),.arr 3 [.agg [aI a1.Nil,aI a1.Cons,.lit (a1.Steps.map ar)]]),((o 0),.arr 3 [.agg [aI a0.Nil,aI a0.Cons,.lit (a0.Steps.map ar)]])])
def ie (a0 a1:aj)(a:Int):Option (Bool):=
 if decide (a<(a0.Steps.length:Int)) then(bQ a0.Steps a>>=fun b=>bQ a1.Steps a>>=fun c=>if(!decide ((b.Op:Int)=c.Op)) then(some false) else(bQ a0.Steps a>>=fun d=>bQ a1.Steps a>>=fun e=>if(!decide ((d.Var:Int)=e.Var)) then(some false) else(bQ a0.Steps a>>=fun f=>bQ a1.Steps a>>=fun g=>qQ f.Expr g.Expr>>=fun h=>if h then(if cy .i64 (a+1) then(ie a0 a1 (a+1)) else none) else(some false)))) else(some true)
 partial_fixpoint
theorem Aa {a0:aj}{a1:aj}:(∀ b,LH Tryz.prog (ie a0 a1 b) aB (Ep a0 a1 b)):=by
 refine ie.partial_correctness _ _ _ ?_
 exact fun ie a b=>sL 4 a0.Steps<|sB 0 (DN 6 31 56 cB fun c _=>DN 5 31 56 cB fun d _=>sB 2 (sR 36)<|DN 4 31 56 cB fun e _=>DN 5 31 56 cB fun f _=>sB 2 (sR 22)<|DN 5 31 56 cB fun g _=>DN 5 31 56 cB fun h _=>fI 3 xM (sI 5<|sK 2 [[3,2,5]] [1,0] (a _))<|sR 6)<|sR 4
def rM (a0 a1:aj):Option (Bool):=
 if(!decide ((a0.Nil:Int)=a1.Nil)) then(some false) else(if(!decide ((a0.Cons:Int)=a1.Cons)) then(some false) else(if(!decide ((a0.Steps.length:Int)=(a1.Steps.length:Int))) then(some false) else(ie a0 a1 0)))
theorem Er {a0:aj}{a1:aj}:LF Tryz.prog (rM a0 a1) 9 [.agg [aI a0.Nil,aI a0.Cons,.lit (a0.Steps.map ar)],.agg [aI a1.Nil,aI a1.Cons,.lit (a1.Steps.map ar)]] aB:=
 sF<|sB 9 (sR 20)<|sB 5 (sR 14)<|sL 4 a0.Steps<|sL 2 a1.Steps<|sB 0 (sR 5)<|sK 4 [[3,2,5]] [1,0] (Aa _)
def eM (a0 a1 a2:Int):Option (Bool):=
 if decide (a1≤a0) then(if decide (a0≤a2) then(some true) else(some false)) else(some false)
theorem eO {a0:Int}:LF Tryz.prog (eM a0 a1 a2) 156 [aI a0,aI a1,aI a2] aB:=
 sF<|sB 5 (sB 3 (sR 4)<|sR 4)<|sR 8
noncomputable def Es : St:=sN 1 (eH (fun S=>.val (aP 0) (S.add (.si ⟨#[]⟩ 0))) (sN 4 (St.start T0 155 [.sc (.string ⟨#[]⟩)] ag.empty)))
noncomputable def Et := fun a0 a=>fZ Es 1 fun o=>([[(0,.sc (.string a0)),(6,aP (o 0))]],[((o 0),.si a0 a)])
def eP (a0:ByteArray)(a:Nat):Option (Bool):=
 if decide (a+1≤a0.size) then(if decide (97≤(((Utf8.decode a0 a).1:Nat):Int)) then(if decide (((((Utf8.decode a0 a).1:Nat):Int):Int)≤122) then(eP a0 (a+(Utf8.decode a0 a).2)) else(if decide (65≤(((Utf8.decode a0 a).1:Nat):Int)) then(if decide (((((Utf8.decode a0 a).1:Nat):Int):Int)≤90) then(eP a0 (a+(Utf8.decode a0 a).2)) else(some false)) else(some false))) else(if decide (65≤(((Utf8.decode a0 a).1:Nat):Int)) then(if decide (((((Utf8.decode a0 a).1:Nat):Int):Int)≤90) then(eP a0 (a+(Utf8.decode a0 a).2)) else(some false)) else(some false))) else(eM (a0.size:Int) 1 8>>=fun b=>if b then(some true) else(some false))
 partial_fixpoint
theorem Ab {a0:ByteArray}:(∀ b,LH Tryz.prog (eP a0 b) aB (Et a0 b)):=by
 refine eP.partial_correctness _ _ ?_
 exact fun eP a b=>sS (fun afZ=>sT (bF EE 1 (fun S=>afc S (aP 0)) (fun S=>.val (.bO [aB true,aI ((b:Nat):Int),.sc (.int .i32 (((Utf8.decode a0 b).1:Nat):Int))]) (S.set 0 (.si a0 (b+(Utf8.decode a0 b).2)))) kr kr (aeD kr kr afZ))<|sB 8 (sB 2 (sK 11 [[0,6]] [0] (a _))<|sB 3 (sB 2 (sK 4 [[0,6]] [0] (a _))<|sR 7)<|sR 10)<|sB 6 (sB 2 (sK 4 [[0,6]] [0] (a _))<|sR 7)<|sR 10) fun afZ=>sT (bF EE 1 (fun S=>afc S (aP 0)) (fun S=>.val (.bO [aB false]) S) kr kr (aeE kr afZ))<|sT (wT EE 4 (some (aI (a0.size:Nat))) (aI (a0.size:Int)) kr (rfl))<|fI 0 eO (sR 3)<|sR 3
def mA (a0:ByteArray):Option (Bool):=
 eP a0 0
theorem wI {a0:ByteArray}:LF Tryz.prog (mA a0) 155 [.sc (.string a0)] aB:=
 sF<|sT (bF EE 4 (fun S=>akH Tryz.prog S 9 (.sc (.string a0))) (fun S=>.val (aP 0) (S.add (.si a0 0))) kr kr (aeC kr kr kr))<|sK 1 [[0,6]] [0] (Ab _)
noncomputable def CJ : St:=sN 2 (ak (aI 0) none (sN 10 (ak (aB false) none (sN 0 (ak (aI 0) none (sN 4 (ak (aB true) none (sN 0 (ak (aI 0) none (sN 13 (St.start T0 97 [.agg [.lit [],.lit []]] ag.empty)))))))))))
noncomputable def vk := fun a0 a (b:(List (ByteArray×Bool)))=>fZ CJ 3 fun o=>([[(1,.fn (.func 154) [] [aP (o 2)]),(7,aM a0.Cons),(8,aI (a0.Cons.length:Int)),(9,aI a)],[(1,aP (o 0)),(4,.fn (.func 154) [] [aP (o 2)]),(18,aB false)]],[((o 2),.arr 1 [.cR (o 1)]),((o 0),oG a0),((o 1),.mp (b.map (cg encS gB)))])
noncomputable def CK : St:=sN 2 (ak (aI 0) none (sN 16 (ak (aB false) none (sN 1 (dz vk)))))
noncomputable def CL := fun a0 a (b:(List (ByteArray×Bool)))=>fZ CK 3 fun o=>([[(1,.fn (.func 154) [] [aP (o 2)]),(7,aM a0.bp),(8,aI (a0.bp.length:Int)),(9,aI a)],[(1,aP (o 0)),(25,aB false)]],[((o 2),.arr 1 [.cR (o 1)]),((o 0),oG a0),((o 1),.mp (b.map (cg encS gB)))])
def dY (a0:aH)(a:Int)(c:(List (ByteArray×Bool))):Option (Int):=
 if decide (a<(a0.bp.length:Int)) then(bQ a0.bp a>>=fun b=>if((tH c b.Name).getD false) then(some 2) else(mA b.Name>>=fun f=>if f then(eM b.bu 0 4>>=fun g=>if g then(if cy .i64 (a+1) then(dY a0 (a+1) (ss c b.Name true)) else none) else(some 2)) else(some 2))) else(bQ a0.Cons 0>>=fun d=>if(!([(d.Name.data.toList==(⟨#[70,97,108,115,101]⟩:ByteArray).data.toList),(d.bu==0)].all id)) then(some 2) else(bQ a0.Cons 1>>=fun e=>if(!([(e.Name.data.toList==(⟨#[84,114,117,101]⟩:ByteArray).data.toList),(e.bu==0)].all id)) then(some 2) else(some 0)))
 partial_fixpoint
theorem yS : (∀ e b,LH Tryz.prog (dY a0 e b) aI (CL a0 e b)):=by
 refine dY.partial_correctness _ _ ?_
 exact fun dY a e b=>sB 1 (sX 3 fun f=>asT 14 259 1 (aj5 5 259 1 b f.Name true<|sR 27)<|aj5 5 259 1 b f.Name true<|fI 6 wI (fI 4 eO (sI 7<|sM 2 [[1,7,8,9],[1,25]] [2,0,1] [] 5 (a _ _))<|sR 15)<|sR 20)<|sX 10 fun c=>aj3 (Qm EE 2 (uP Tryz.prog .neq 119 (.agg [.sc (.string c.Name),aI c.bu]) (.agg [.sc (.string ⟨#[70,97,108,115,101]⟩),aI 0])) (!([(c.Name.data.toList==(⟨#[70,97,108,115,101]⟩:ByteArray).data.toList),(c.bu==0)].all id)) kr ((JF kr).2)) (sR 12)<|sX 3 fun d=>aj3 (Qm EE 2 (uP Tryz.prog .neq 119 (.agg [.sc (.string d.Name),aI d.bu]) (.agg [.sc (.string ⟨#[84,114,117,101]⟩),aI 0])) (!([(d.Name.data.toList==(⟨#[84,114,117,101]⟩:ByteArray).data.toList),(d.bu==0)].all id)) kr ((JF kr).2)) (sR 5)<|sR 5
def gE (a0:aH)(a:Int)(c:(List (ByteArray×Bool))):Option (Int):=
 if decide (a<(a0.Cons.length:Int)) then(bQ a0.Cons a>>=fun b=>if((tH c b.Name).getD false) then(some 2) else(mA b.Name>>=fun afg=>if afg then(eM b.bu 0 4>>=fun d=>if d then(if cy .i64 (a+1) then(gE a0 (a+1) (ss c b.Name true)) else none) else(some 2)) else(some 2))) else(dY a0 0 c)
 partial_fixpoint
theorem yT : (∀ c b,LH Tryz.prog (gE a0 c b) aI (vk a0 c b)):=by
 refine gE.partial_correctness _ _ ?_
 exact fun gE a c b=>sB 1 (sX 3 fun d=>asT 14 259 1 (aj5 5 259 1 b d.Name true<|sR 34)<|aj5 5 259 1 b d.Name true<|fI 6 wI (fI 4 eO (sI 7<|sM 2 [[1,7,8,9],[1,4,18]] [2,0,1] [] 5 (a _ _))<|sR 22)<|sR 27)<|sL 16 a0.bp<|sK 2 [[1,7,8,9],[1,25]] [2,0,1] (yS _ _)
def cZ (a0:aH):Option (Int):=
 eM (a0.Cons.length:Int) 2 12>>=fun a=>if a then(if decide ((a0.bp.length:Int)>8) then(some 2) else(gE a0 0 [])) else(some 2)
theorem pN : LF Tryz.prog (cZ a0) 97 [aG a0] aI:=
 sF<|sL 13 a0.Cons<|fI 0 eO (sL 4 a0.bp<|sB 0 (sR 19)<|sL 10 a0.Cons<|sK 2 [[1,7,8,9],[1,4,18]] [2,0,1] (yT _ _))<|sR 25
def jo (a0:bl)(a1:Term):Option (Bool):=
 eM a1.N 0 19>>=fun v0=>if v0 then(if decide ((a1.Kids.length:Int)=0) then(some true) else(some false)) else(some false)
theorem uB {a0:bl}{a1:Term}:LF Tryz.prog (jo a0 a1) 238 [.agg [aM a0.aH.Cons,aM a0.aH.bp],aK a1] aB:=
 sF<|fI 7 eO (sL 3 a1.Kids<|sB 0 (sR 4)<|sR 4)<|sR 9
def jS (a0:bl)(a1:Term):Option (Bool):=
 eM a1.N (-1000000) 1000000>>=fun v0=>if v0 then(if decide ((a1.Kids.length:Int)=0) then(some true) else(some false)) else(some false)
theorem vo {a0:bl}{a1:Term}:LF Tryz.prog (jS a0 a1) 239 [.agg [aM a0.aH.Cons,aM a0.aH.bp],aK a1] aB:=
 sF<|fI 7 eO (sL 3 a1.Kids<|sB 0 (sR 4)<|sR 4)<|sR 9
def mC (a0:bl)(a1:Term):Option (Bool):=
 if cy .i64 ((a0.aH.Cons.length:Int)-1) then(eM a1.N 0 ((a0.aH.Cons.length:Int)-1)>>=fun v0=>if v0 then(bQ a0.aH.Cons a1.N>>=fun a=>if decide ((a1.Kids.length:Int)=a.bu) then(some true) else(some false)) else(some false)) else none
theorem yU {a0:bl}{a1:Term}:LF Tryz.prog (mC a0 a1) 240 [.agg [aM a0.aH.Cons,aM a0.aH.bp],aK a1] aB:=
 sF<|sL 11 a0.aH.Cons<|sI 0<|fI 1 eO (sL 4 a1.Kids<|sX 5 fun _=>sB 2 (sR 5)<|sR 5)<|sR 19
def mD (a0:bl)(a1:Term):Option (Bool):=
 if cy .i64 ((a0.aH.bp.length:Int)-1) then(eM a1.N 0 ((a0.aH.bp.length:Int)-1)>>=fun v0=>if v0 then(bQ a0.aH.bp a1.N>>=fun a=>if decide ((a1.Kids.length:Int)=a.bu) then(some true) else(some false)) else(some false)) else none
theorem yV {a0:bl}{a1:Term}:LF Tryz.prog (mD a0 a1) 241 [.agg [aM a0.aH.Cons,aM a0.aH.bp],aK a1] aB:=
 sF<|sL 11 a0.aH.bp<|sI 0<|fI 1 eO (sL 4 a1.Kids<|sX 5 fun _=>sB 2 (sR 5)<|sR 5)<|sR 19
def lO (a0:bl)(a1:Term):Option (Bool):=
 if cy .i64 ((a0.aH.bp.length:Int)-1) then(eM a1.N 0 ((a0.aH.bp.length:Int)-1)>>=fun v0=>if v0 then(bQ a0.aH.bp a1.N>>=fun a=>if decide ((a1.Kids.length:Int)<a.bu) then(some true) else(some false)) else(some false)) else none
theorem xW {a0:bl}{a1:Term}:LF Tryz.prog (lO a0 a1) 242 [.agg [aM a0.aH.Cons,aM a0.aH.bp],aK a1] aB:=
 sF<|sL 11 a0.aH.bp<|sI 0<|fI 1 eO (sL 4 a1.Kids<|sX 5 fun _=>sB 2 (sR 5)<|sR 5)<|sR 19
def mE (a0:bl)(a1:Term):Option (Bool):=
 eM a1.N 0 19>>=fun v0=>if v0 then(if decide ((a1.Kids.length:Int)=2) then(some true) else(some false)) else(some false)
theorem yW {a0:bl}{a1:Term}:LF Tryz.prog (mE a0 a1) 243 [.agg [aM a0.aH.Cons,aM a0.aH.bp],aK a1] aB:=
 sF<|fI 7 eO (sL 3 a1.Kids<|sB 0 (sR 4)<|sR 4)<|sR 9
def de (a0:bl)(a1:Term):Option (Bool):=
 if decide ((a1.N:Int)=0) then(if decide ((a1.Kids.length:Int)=2) then(some true) else(some false)) else(some false)
theorem dx {a0:bl}{a1:Term}:LF Tryz.prog (de a0 a1) 244 [.agg [aM a0.aH.Cons,aM a0.aH.bp],aK a1] aB:=
 sF<|sB 7 (sL 3 a1.Kids<|sB 0 (sR 4)<|sR 4)<|sR 9
@[simp] noncomputable def eE := fun iI gu a12 a13 a14 (o:NM)=>(([aK iI,aI gu,aP (o 0),aP (o 1)],[oY (o 2),.arr 1 [.fn (.func 196) [] [aP (o 0),aP (o 1)]],qZ Tryz.prog .ready 100 0 39 274877921791 [(2,aP (o 3)),(4,aP (o 4)),(5,aP (o 5)),(6,aP (o 6))],oG a12,.arr 1 [aB a13],.arr 16 [.agg [.sc .nilFunc,.fn (.func 238) [] [],.fn (.func 239) [] [],.fn (.func 240) [] [],.fn (.func 241) [] [],.fn (.func 242) [] [],.fn (.func 244) [] [],.fn (.func 244) [] [],.fn (.func 243) [] [],.fn (.func 244) [] [],.fn (.func 244) [] [],.fn (.func 244) [] [],.fn (.func 244) [] [],.fn (.func 244) [] [],.fn (.func 244) [] [],.fn (.func 244) [] []]],oI a14]):TC)
@[simp] noncomputable def gG := fun a12 a13 (r:(Sum Int Int)) (o:NM)=>(match r with | (Sum.inl y)=>(aB false,sm [oY (o 2),.arr 1 [.fn (.func 196) [] [aP (o 0),aP (o 1)]],yg (some .ret) (qZ Tryz.prog .done 100 0 39 274877921791 [(2,aP (o 3)),(4,aP (o 4)),(5,aP (o 5)),(6,aP (o 6))]),oG a12,.arr 1 [aB false],.arr 16 [.agg [.sc .nilFunc,.fn (.func 238) [] [],.fn (.func 239) [] [],.fn (.func 240) [] [],.fn (.func 241) [] [],.fn (.func 242) [] [],.fn (.func 244) [] [],.fn (.func 244) [] [],.fn (.func 243) [] [],.fn (.func 244) [] [],.fn (.func 244) [] [],.fn (.func 244) [] [],.fn (.func 244) [] [],.fn (.func 244) [] [],.fn (.func 244) [] [],.fn (.func 244) [] []]],oI y],[]) | (Sum.inr y)=>(aB true,sm [oY (o 2),.arr 1 [.fn (.func 196) [] [aP (o 0),aP (o 1)]],qZ Tryz.prog .ready 100 0 39 274877921791 [(2,aP (o 3)),(4,aP (o 4)),(5,aP (o 5)),(6,aP (o 6))],oG a12,.arr 1 [aB a13],.arr 16 [.agg [.sc .nilFunc,.fn (.func 238) [] [],.fn (.func 239) [] [],.fn (.func 240) [] [],.fn (.func 241) [] [],.fn (.func 242) [] [],.fn (.func 244) [] [],.fn (.func 244) [] [],.fn (.func 243) [] [],.fn (.func 244) [] [],.fn (.func 244) [] [],.fn (.func 244) [] [],.fn (.func 244) [] [],.fn (.func 244) [] [],.fn (.func 244) [] [],.fn (.func 244) [] []]],oI y],[]):TB)
noncomputable def oR : St:=sN 2 (ak (aI 0) none (sN 13 (ak (aB true) none (sN 5 (LN (fun S=>.val (.ptr 5 0 15) S) (sN 6 (ak (aB true) none (sN 5 (ak (aB false) none (sN 2 (ak (aB false) none (sN 4 (ak (aI 0) none (sN 18 (St.start T0 196 ((dz eE id).1) (pg 7 (nr 0 ((dz eE id).2))))))))))))))))))
noncomputable def oS := fun(iI:Term) gu a12 a13 (a14:Int) a b=>fZ oR 10 fun o=>([[(1,.fn (.func 197) [] [aP (o 1),aP (o 8)]),(7,aT iI.Kids),(8,aI (iI.Kids.length:Int)),(9,aI a)],[(11,aB true)]],[((o 1),.arr 1 [.fn (.func 196) [] [aP (o 0),aP (o 1)]]),((o 8),oI gu),((o 0),oY (o 2)),((o 2),qZ Tryz.prog .ready 100 0 39 274877921791 [(2,aP (o 3)),(4,aP (o 4)),(5,aP (o 5)),(6,aP (o 6))]),((o 3),oG a12),((o 4),.arr 1 [aB a13]),((o 5),.arr 16 [.agg [.sc .nilFunc,.fn (.func 238) [] [],.fn (.func 239) [] [],.fn (.func 240) [] [],.fn (.func 241) [] [],.fn (.func 242) [] [],.fn (.func 244) [] [],.fn (.func 244) [] [],.fn (.func 243) [] [],.fn (.func 244) [] [],.fn (.func 244) [] [],.fn (.func 244) [] [],.fn (.func 244) [] [],.fn (.func 244) [] [],.fn (.func 244) [] [],.fn (.func 244) [] []]]),((o 6),oI b)])
mutual
def aq (iI:Term)(gu:Int)(a12:aH)(a13:Bool)(a14 a b:Int):Option (Sum Int Int):=
 if decide (a<(iI.Kids.length:Int)) then(bQ iI.Kids a>>=fun c=>if cy .i64 (gu+1) then(bV c (gu+1) a12 a13 b>>=fun d=>(match d with | (Sum.inl e)=>some (Sum.inl e) | (Sum.inr f)=>if cy .i64 (a+1) then(aq iI gu a12 a13 a14 (a+1) f) else none)) else none) else(some (Sum.inr b))
 partial_fixpoint
def bV (iI:Term)(gu:Int)(a12:aH)(a13:Bool)(a14:Int):Option (Sum Int Int):=
 if cy .i64 (a14+1) then(if decide (((a14+1):Int)>40) then(some (Sum.inl (a14+1))) else(if decide (gu>12) then(some (Sum.inl (a14+1))) else(eM iI.Op 1 15>>=fun a=>if a then(if decide (iI.Op=1) then(jo (bl.mk a12) iI>>=fun b=>if b then(aq iI gu a12 a13 a14 0 (a14+1)) else(some (Sum.inl (a14+1)))) else(if decide (iI.Op=2) then(jS (bl.mk a12) iI>>=fun c=>if c then(aq iI gu a12 a13 a14 0 (a14+1)) else(some (Sum.inl (a14+1)))) else(if decide (iI.Op=3) then(mC (bl.mk a12) iI>>=fun d=>if d then(aq iI gu a12 a13 a14 0 (a14+1)) else(some (Sum.inl (a14+1)))) else(if decide (iI.Op=4) then(mD (bl.mk a12) iI>>=fun e=>if e then(aq iI gu a12 a13 a14 0 (a14+1)) else(some (Sum.inl (a14+1)))) else(if decide (iI.Op=5) then(lO (bl.mk a12) iI>>=fun f=>if f then(aq iI gu a12 a13 a14 0 (a14+1)) else(some (Sum.inl (a14+1)))) else(if decide (iI.Op=6) then(de (bl.mk a12) iI>>=fun g=>if g then(aq iI gu a12 a13 a14 0 (a14+1)) else(some (Sum.inl (a14+1)))) else(if decide (iI.Op=7) then(de (bl.mk a12) iI>>=fun h=>if h then(aq iI gu a12 a13 a14 0 (a14+1)) else(some (Sum.inl (a14+1)))) else(if decide (iI.Op=8) then(mE (bl.mk a12) iI>>=fun i=>if i then(aq iI gu a12 a13 a14 0 (a14+1)) else(some (Sum.inl (a14+1)))) else(if decide (iI.Op=9) then(de (bl.mk a12) iI>>=fun j=>if j then(aq iI gu a12 a13 a14 0 (a14+1)) else(some (Sum.inl (a14+1)))) else(if decide (iI.Op=10) then(de (bl.mk a12) iI>>=fun k=>if k then(aq iI gu a12 a13 a14 0 (a14+1)) else(some (Sum.inl (a14+1)))) else(if decide (iI.Op=11) then(de (bl.mk a12) iI>>=fun l=>if l then(aq iI gu a12 a13 a14 0 (a14+1)) else(some (Sum.inl (a14+1)))) else(if decide (iI.Op=12) then(de (bl.mk a12) iI>>=fun m=>if m then(aq iI gu a12 a13 a14 0 (a14+1)) else(some (Sum.inl (a14+1)))) else(if decide (iI.Op=13) then(de (bl.mk a12) iI>>=fun n=>if n then(aq iI gu a12 a13 a14 0 (a14+1)) else(some (Sum.inl (a14+1)))) else(if decide (iI.Op=14) then(de (bl.mk a12) iI>>=fun o=>if o then(aq iI gu a12 a13 a14 0 (a14+1)) else(some (Sum.inl (a14+1)))) else(if decide (iI.Op=15) then(de (bl.mk a12) iI>>=fun v130=>if v130 then(aq iI gu a12 a13 a14 0 (a14+1)) else(some (Sum.inl (a14+1)))) else none))))))))))))))) else(some (Sum.inl (a14+1)))))) else none
 partial_fixpoint
end
variable {a12 : aH} {a13 : Bool}
theorem m4 : (∀ iI gu a14 b c,LJ Tryz.prog (aq iI gu a12 a13 a14 b c) 7 (gG a12 a13) (oS iI gu a12 a13 a14 b c))∧(∀ iI gu a14,LG Tryz.prog (bV iI gu a12 a13 a14) 196 7 (eE iI gu a12 a13 a14) (gG a12 a13)):=by
 refine aq.mutual_partial_correctness _ _ _ _ ?_ ?_
 · exact fun aq bV a gr iI gu a14 b c=>sB 1 (sX 3 fun _=>sI 14<|sQ 0 12 [0,1,2,3,4,5,6] (gr _ _ _) fun v=>match v with | .inl _=>mo 12 (aB false) [0,1,2,3,4,5,6] | .inr _=>sI 6<|Jf 2 [[1,7,8,9],[11]] [1,8,0,2,3,4,5,6] [] 12 (a _ _ _ _ _))<|mo 9 (aB true) [0,1,2,3,4,5,6]
 · exact fun aq a iI gu a14=>Qa 7 (sI 18<|sB 4 (mo 37 (aB false) [0,1,2,3,4,5,6])<|sB 2 (mo 34 (aB false) [0,1,2,3,4,5,6])<|fI 5 eO (sS (fun Ob=>sT (lF EE 6 (fun S=>w4 Tryz.prog S 263 (aP 5) (aI iI.Op)) (fun S=>.val (.ptr 5 0 1) S) kr kr (by rw[of_decide_eq_true Ob];kernel_rfl))<|fI 5 uB (sL 13 iI.Kids<|wi 2 [[1,7,8,9],[11]] [1,8,0,2,3,4,5,6] (a _ _ _ _ _))<|mo 15 (aB false) [0,1,2,3,4,5,6]) fun _=>sS (fun Xb=>sT (lF EE 6 (fun S=>w4 Tryz.prog S 263 (aP 5) (aI iI.Op)) (fun S=>.val (.ptr 5 0 2) S) kr kr (by rw[of_decide_eq_true Xb];kernel_rfl))<|fI 5 vo (sL 13 iI.Kids<|wi 2 [[1,7,8,9],[11]] [1,8,0,2,3,4,5,6] (a _ _ _ _ _))<|mo 15 (aB false) [0,1,2,3,4,5,6]) fun _=>sS (fun Xc=>sT (lF EE 6 (fun S=>w4 Tryz.prog S 263 (aP 5) (aI iI.Op)) (fun S=>.val (.ptr 5 0 3) S) kr kr (by rw[of_decide_eq_true Xc];kernel_rfl))<|fI 5 yU (sL 13 iI.Kids<|wi 2 [[1,7,8,9],[11]] [1,8,0,2,3,4,5,6] (a _ _ _ _ _))<|mo 15 (aB false) [0,1,2,3,4,5,6]) fun _=>sS (fun Rt=>sT (lF EE 6 (fun S=>w4 Tryz.prog S 263 (aP 5) (aI iI.Op)) (fun S=>.val (.ptr 5 0 4) S) kr kr (by rw[of_decide_eq_true Rt];kernel_rfl))<|fI 5 yV (sL 13 iI.Kids<|wi 2 [[1,7,8,9],[11]] [1,8,0,2,3,4,5,6] (a _ _ _ _ _))<|mo 15 (aB false) [0,1,2,3,4,5,6]) fun _=>sS (fun Hi=>sT (lF EE 6 (fun S=>w4 Tryz.prog S 263 (aP 5) (aI iI.Op)) (fun S=>.val (.ptr 5 0 5) S) kr kr (by rw[of_decide_eq_true Hi];kernel_rfl))<|fI 5 xW (sL 13 iI.Kids<|wi 2 [[1,7,8,9],[11]] [1,8,0,2,3,4,5,6] (a _ _ _ _ _))<|mo 15 (aB false) [0,1,2,3,4,5,6]) fun _=>sS (fun aap=>sT (lF EE 6 (fun S=>w4 Tryz.prog S 263 (aP 5) (aI iI.Op)) (fun S=>.val (.ptr 5 0 6) S) kr kr (by rw[of_decide_eq_true aap];kernel_rfl))<|fI 5 dx (sL 13 iI.Kids<|wi 2 [[1,7,8,9],[11]] [1,8,0,2,3,4,5,6] (a _ _ _ _ _))<|mo 15 (aB false) [0,1,2,3,4,5,6]) fun _=>sS (fun aaq=>sT (lF EE 6 (fun S=>w4 Tryz.prog S 263 (aP 5) (aI iI.Op)) (fun S=>.val (.ptr 5 0 7) S) kr kr (by rw[of_decide_eq_true aaq];kernel_rfl))<|fI 5 dx (sL 13 iI.Kids<|wi 2 [[1,7,8,9],[11]] [1,8,0,2,3,4,5,6] (a _ _ _ _ _))<|mo 15 (aB false) [0,1,2,3,4,5,6]) fun _=>sS (fun aar=>sT (lF EE 6 (fun S=>w4 Tryz.prog S 263 (aP 5) (aI iI.Op)) (fun S=>.val (.ptr 5 0 8) S) kr kr (by rw[of_decide_eq_true aar];kernel_rfl))<|fI 5 yW (sL 13 iI.Kids<|wi 2 [[1,7,8,9],[11]] [1,8,0,2,3,4,5,6] (a _ _ _ _ _))<|mo 15 (aB false) [0,1,2,3,4,5,6]) fun _=>sS (fun aas=>sT (lF EE 6 (fun S=>w4 Tryz.prog S 263 (aP 5) (aI iI.Op)) (fun S=>.val (.ptr 5 0 9) S) kr kr (by rw[of_decide_eq_true aas];kernel_rfl))<|fI 5 dx (sL 13 iI.Kids<|wi 2 [[1,7,8,9],[11]] [1,8,0,2,3,4,5,6] (a _ _ _ _ _))<|mo 15 (aB false) [0,1,2,3,4,5,6]) fun _=>sS (fun aat=>sT (lF EE 6 (fun S=>w4 Tryz.prog S 263 (aP 5) (aI iI.Op)) (fun S=>.val (.ptr 5 0 10) S) kr kr (by rw[of_decide_eq_true aat];kernel_rfl))<|fI 5 dx (sL 13 iI.Kids<|wi 2 [[1,7,8,9],[11]] [1,8,0,2,3,4,5,6] (a _ _ _ _ _))<|mo 15 (aB false) [0,1,2,3,4,5,6]) fun _=>sS (fun aau=>sT (lF EE 6 (fun S=>w4 Tryz.prog S 263 (aP 5) (aI iI.Op)) (fun S=>.val (.ptr 5 0 11) S) kr kr (by rw[of_decide_eq_true aau];kernel_rfl))<|fI 5 dx (sL 13 iI.Kids<|wi 2 [[1,7,8,9],[11]] [1,8,0,2,3,4,5,6] (a _ _ _ _ _))<|mo 15 (aB false) [0,1,2,3,4,5,6]) fun _=>sS (fun aav=>sT (lF EE 6 (fun S=>w4 Tryz.prog S 263 (aP 5) (aI iI.Op)) (fun S=>.val (.ptr 5 0 12) S) kr kr (by rw[of_decide_eq_true aav];kernel_rfl))<|fI 5 dx (sL 13 iI.Kids<|wi 2 [[1,7,8,9],[11]] [1,8,0,2,3,4,5,6] (a _ _ _ _ _))<|mo 15 (aB false) [0,1,2,3,4,5,6]) fun _=>sS (fun aaw=>sT (lF EE 6 (fun S=>w4 Tryz.prog S 263 (aP 5) (aI iI.Op)) (fun S=>.val (.ptr 5 0 13) S) kr kr (by rw[of_decide_eq_true aaw];kernel_rfl))<|fI 5 dx (sL 13 iI.Kids<|wi 2 [[1,7,8,9],[11]] [1,8,0,2,3,4,5,6] (a _ _ _ _ _))<|mo 15 (aB false) [0,1,2,3,4,5,6]) fun _=>sS (fun aax=>sT (lF EE 6 (fun S=>w4 Tryz.prog S 263 (aP 5) (aI iI.Op)) (fun S=>.val (.ptr 5 0 14) S) kr kr (by rw[of_decide_eq_true aax];kernel_rfl))<|fI 5 dx (sL 13 iI.Kids<|wi 2 [[1,7,8,9],[11]] [1,8,0,2,3,4,5,6] (a _ _ _ _ _))<|mo 15 (aB false) [0,1,2,3,4,5,6]) fun _=>sS (fun Ls=>sT (lF EE 6 (fun S=>w4 Tryz.prog S 263 (aP 5) (aI iI.Op)) (fun S=>.val (.ptr 5 0 15) S) kr kr (by rw[of_decide_eq_true Ls];kernel_rfl))<|fI 5 dx (sL 13 iI.Kids<|wi 2 [[1,7,8,9],[11]] [1,8,0,2,3,4,5,6] (a _ _ _ _ _))<|mo 15 (aB false) [0,1,2,3,4,5,6]) fun _=>s0)<|mo 28 (aB false) [0,1,2,3,4,5,6]) (hb:=by rintro(y | y)<;>exact bd)
variable {a14 : Int}
theorem gr {iI:Term}{gu:Int}:LG Tryz.prog (bV iI gu a12 a13 a14) 196 7 (eE iI gu a12 a13 a14) (gG a12 a13):=m4.2 _ _ _
def tX (a0:aH)(a1:Term):Option (Bool):=
 bV a1 1 a0 false 0>>=fun v182=>(match v182 with | (Sum.inl a)=>some false | (Sum.inr b)=>some true)
theorem GX {a1:Term}:LF Tryz.prog (tX a0 a1) 100 [aG a0,aK a1] aB:=
 sF<|sT (AJ EE 412 9 [2,4,5,6,12,13] kr)<|sQ 10 12 [10,11,9,0,2,5,6] gr fun v=>match v with | .inl _=>sR 6 | .inr _=>sR 8
noncomputable def HV : St:=sN 2 (ak (aI 0) none (sN 8 (ak (aB true) none (sN 0 (ak (aI 0) none (sN 5 (St.start T0 63 [.agg [.lit [],.lit []],.lit []] ag.empty)))))))
noncomputable def HW := fun a0 a1 a=>fZ HV 1 fun o=>([[(1,.fn (.func 99) [] [aP (o 0)]),(7,aT a1),(8,aI (a1.length:Int)),(9,aI a)],[(8,aB true)]],[((o 0),oG a0)])
def kX (a0:aH)(a1:LT)(a:Int):Option (Bool):=
 if decide (a<(a1.length:Int)) then(bQ a1 a>>=fun b=>tX a0 b>>=fun c=>if c then(if cy .i64 (a+1) then(kX a0 a1 (a+1)) else none) else(some false)) else(some true)
 partial_fixpoint
theorem CN {a1:LT}:(∀ b,LH Tryz.prog (kX a0 a1 b) aB (HW a0 a1 b)):=by
 refine kX.partial_correctness _ _ _ ?_
 exact fun kX a b=>sB 1 (sX 3 fun _=>fI 13 GX (sI 6<|sM 2 [[1,7,8,9],[8]] [0] [] 3 (a _))<|sR 12)<|sR 9
def pL (a0:aH)(a1:LT):Option (Bool):=
 cZ a0>>=fun a=>if decide (a=0) then(kX a0 a1 0) else(some false)
theorem uz {a1:LT}:LF Tryz.prog (pL a0 a1) 63 [aG a0,aT a1] aB:=
 sF<|sC 5 pN fun _=>sB 0 (sL 8 a1<|sK 2 [[1,7,8,9],[8]] [0] (CN _))<|sR 8
@[simp] noncomputable def dV := fun gu a12 a13 a14 (a:(List (Int×Bool))) (o:NM)=>(([aK gu,aI a12,aP (o 0),aP (o 1)],[oY (o 2),.arr 1 [.fn (.func 196) [] [aP (o 0),aP (o 1)]],qZ Tryz.prog .ready 328 0 43 618475524351 [(4,aP (o 3)),(5,aP (o 4)),(6,aP (o 5))],.arr 1 [aB a13],oI a14,.arr 1 [.cR (o 6)],.mp (a.map (cg (aA .i64) gB))]):TC)
@[simp] noncomputable def fL := fun a13 a14 (r:(Sum (List (Int×Bool)) (List (Int×Bool)))) (o:NM)=>(match r with | (Sum.inl y)=>(aB false,sm [oY (o 2),.arr 1 [.fn (.func 196) [] [aP (o 0),aP (o 1)]],yg (some .ret) (qZ Tryz.prog .done 328 0 43 618475524351 [(4,aP (o 3)),(5,aP (o 4)),(6,aP (o 5))]),.arr 1 [aB false],oI 0,.arr 1 [.cR (o 6)],.mp (y.map (cg (aA .i64) gB))],[]) | (Sum.inr y)=>(aB true,sm [oY (o 2),.arr 1 [.fn (.func 196) [] [aP (o 0),aP (o 1)]],qZ Tryz.prog .ready 328 0 43 618475524351 [(4,aP (o 3)),(5,aP (o 4)),(6,aP (o 5))],.arr 1 [aB a13],oI a14,.arr 1 [.cR (o 6)],.mp (y.map (cg (aA .i64) gB))],[]):TB)
noncomputable def m5 : St:=sN 2 (ak (aI 0) none (sN 11 (eH (fun S=>.skip (S.set 6 (.mp []))) (sN 4 (ak (aB true) none (sN 5 (eH (fun S=>.val (aB false) S) (sN 4 (ak (aB true) none (sN 4 (ak (aB false) none (sN 3 (ak (aB true) none (sN 17 (St.start T0 196 ((dz dV id).1) (pg 7 (nr 0 ((dz dV id).2))))))))))))))))))
noncomputable def m6 := fun(gu:Term) a12 a13 a14 (c:(List (Int×Bool))) a (b:(List (Int×Bool)))=>fZ m5 10 fun o=>([[(1,.fn (.func 197) [] [aP (o 1),aP (o 8)]),(7,aT gu.Kids),(8,aI (gu.Kids.length:Int)),(9,aI a)],[(11,aB true)]],[((o 1),.arr 1 [.fn (.func 196) [] [aP (o 0),aP (o 1)]]),((o 8),oI a12),((o 0),oY (o 2)),((o 2),qZ Tryz.prog .ready 328 0 43 618475524351 [(4,aP (o 3)),(5,aP (o 4)),(6,aP (o 5))]),((o 3),.arr 1 [aB a13]),((o 4),oI a14),((o 5),.arr 1 [.cR (o 6)]),((o 6),.mp (b.map (cg (aA .i64) gB)))])
mutual
def aD (gu:Term)(a12:Int)(a13:Bool)(a14:Int)(f:(List (Int×Bool)))(a:Int)(b:(List (Int×Bool))):Option (Sum (List (Int×Bool)) (List (Int×Bool))):=
 if decide (a<(gu.Kids.length:Int)) then(bQ gu.Kids a>>=fun c=>if cy .i64 (a12+1) then(bI c (a12+1) a13 a14 b>>=fun v131=>(match v131 with | (Sum.inl d)=>some (Sum.inl d) | (Sum.inr e)=>if cy .i64 (a+1) then(aD gu a12 a13 a14 f (a+1) e) else none)) else none) else(some (Sum.inr b))
 partial_fixpoint
def bI (gu:Term)(a12:Int)(a13:Bool)(a14:Int)(a:(List (Int×Bool))):Option (Sum (List (Int×Bool)) (List (Int×Bool))):=
 if(!decide ((gu.Op:Int)=1)) then(if(!decide ((gu.Op:Int)=3)) then(some (Sum.inl a)) else(if decide ((gu.Op:Int)=1) then(if((iJ a gu.N).getD false) then(some (Sum.inl a)) else(if decide ((gu.Op:Int)=1) then(aD gu a12 a13 a14 a 0 (ky a gu.N true)) else(aD gu a12 a13 a14 a 0 a))) else(if decide ((gu.Op:Int)=1) then(aD gu a12 a13 a14 a 0 (ky a gu.N true)) else(aD gu a12 a13 a14 a 0 a)))) else(if decide ((gu.Op:Int)=1) then(if((iJ a gu.N).getD false) then(some (Sum.inl a)) else(if decide ((gu.Op:Int)=1) then(aD gu a12 a13 a14 a 0 (ky a gu.N true)) else(aD gu a12 a13 a14 a 0 a))) else(if decide ((gu.Op:Int)=1) then(aD gu a12 a13 a14 a 0 (ky a gu.N true)) else(aD gu a12 a13 a14 a 0 a)))
 partial_fixpoint
end
theorem mn : (∀ gu a12 b c d,LJ Tryz.prog (aD gu a12 a13 a14 b c d) 7 (fL a13 a14) (m6 gu a12 a13 a14 b c d))∧(∀ gu a12 b,LG Tryz.prog (bI gu a12 a13 a14 b) 196 7 (dV gu a12 a13 a14 b) (fL a13 a14)):=by
 refine aD.mutual_partial_correctness _ _ _ _ ?_ ?_
 · exact fun aD bI a fC gu a12 b c d=>sB 1 (sX 3 fun _=>sI 14<|sQ 0 12 [0,1,2,3,4,5,6] (fC _ _ _) fun v=>match v with | .inl _=>mo 12 (aB false) [0,1,2,3,4,5,6] | .inr _=>sI 6<|Jf 2 [[1,7,8,9],[11]] [1,8,0,2,3,4,5,6] [] 12 (a _ _ _ _ _))<|mo 9 (aB true) [0,1,2,3,4,5,6]
 · exact fun aD a gu a12 b=>Qa 7 (sB 17 (sB 3 (mo 26 (aB false) [0,1,2,3,4,5,6])<|sB 4 (akP 4 121 6 (mo 16 (aB false) [0,1,2,3,4,5,6])<|sB 5 (afE 4 121 6 b gu.N true<|sL 11 gu.Kids<|wi 2 [[1,7,8,9],[11]] [1,8,0,2,3,4,5,6] (a _ _ _ _ _))<|sL 11 gu.Kids<|wi 2 [[1,7,8,9],[11]] [1,8,0,2,3,4,5,6] (a _ _ _ _ _))<|sB 10 (afE 4 121 6 b gu.N true<|sL 11 gu.Kids<|wi 2 [[1,7,8,9],[11]] [1,8,0,2,3,4,5,6] (a _ _ _ _ _))<|sL 11 gu.Kids<|wi 2 [[1,7,8,9],[11]] [1,8,0,2,3,4,5,6] (a _ _ _ _ _))<|sB 8 (akP 4 121 6 (mo 16 (aB false) [0,1,2,3,4,5,6])<|sB 5 (afE 4 121 6 b gu.N true<|sL 11 gu.Kids<|wi 2 [[1,7,8,9],[11]] [1,8,0,2,3,4,5,6] (a _ _ _ _ _))<|sL 11 gu.Kids<|wi 2 [[1,7,8,9],[11]] [1,8,0,2,3,4,5,6] (a _ _ _ _ _))<|sB 10 (afE 4 121 6 b gu.N true<|sL 11 gu.Kids<|wi 2 [[1,7,8,9],[11]] [1,8,0,2,3,4,5,6] (a _ _ _ _ _))<|sL 11 gu.Kids<|wi 2 [[1,7,8,9],[11]] [1,8,0,2,3,4,5,6] (a _ _ _ _ _)) (hb:=by rintro(y | y)<;>exact bd)
theorem fC {gu:Term}{a12:Int}{a:(List (Int×Bool))}:LG Tryz.prog (bI gu a12 a13 a14 a) 196 7 (dV gu a12 a13 a14 a) (fL a13 a14):=mn.2 _ _ _
def oH (a0:aH)(a1:Term):Option (Bool×Int):=
 pL a0 [a1]>>=fun a=>if a then(bI a1 1 false 0 ([]:(List (Int×Bool)))>>=fun b=>(match b with | (Sum.inl c)=>some (false,0) | (Sum.inr d)=>some (true,0))) else(some (false,2))
theorem BK {a1:Term}:LF Tryz.prog (oH a0 a1) 328 [aG a0,aK a1] (fun r=>.bO [aB r.1,aI r.2]):=
 sF<|sV fun a b=>sT (ER EE 9 63 [aG a0,.ai 4 0 1] [aG a0,.lit [aK a1]] (aB a) kr (uL.cons (.pure pv) (uL.cons (BU.lT (sz:=3) (es:=[aK a1]) kr (by first | rfl | (simp;done) | omega | (simp;omega)) pl) uL.nil)) pl rfl (by have q:=uz a b;simp only[aT,dH,sH,kP] at q;exact q))<|match a with | true=>(aj4<|sT (AJ EE 18 9 [4,5,6,16] kr)<|sQ 10 12 [10,11,9,2,3,6,5] fC fun v=>match v with | .inl _=>sR 6 | .inr _=>sR 9) | false=>sf<|sR 6
def nH (a0:aH)(a1:Term):Option (Int):=
 pL a0 [a1]>>=fun v0=>if v0 then(some 0) else(some 2)
theorem qF {a1:Term}:LF Tryz.prog (nH a0 a1) 54 [aG a0,aK a1] aI:=
 sF<|sV fun v0 a=>sT (ER EE 8 63 [aG a0,.ai 2 0 1] [aG a0,.lit [aK a1]] (aB v0) kr (uL.cons (.pure pv) (uL.cons (BU.lT (sz:=3) (es:=[aK a1]) kr (by first | rfl | (simp;done) | omega | (simp;omega)) pl) uL.nil)) pl rfl (by have q:=uz v0 a;simp only[aT,dH,sH,kP] at q;exact q))<|match v0 with | true=>aj4<|sR 5 | false=>sf<|sR 5
noncomputable def uC : St:=sN 2 (ak (aI 0) none (sN 4 (St.start T0 66 [.lit [],aI 0] ag.empty)))
noncomputable def uD := fun a0 a1 a=>fZ uC 0 fun o=>([[(0,aN a0),(1,aI a1),(7,aI (a0.length:Int)),(8,aI a)]],[])
def dk (a0:LI)(a1 a:Int):Option (Int):=
 if decide (a<(a0.length:Int)) then(bQ a0 a>>=fun b=>if decide (a1=b) then(some a) else(if cy .i64 (a+1) then(dk a0 a1 (a+1)) else none)) else(some (-1))
 partial_fixpoint
theorem rO {a0:LI}:(∀ b,LH Tryz.prog (dk a0 a1 b) aI (uD a0 a1 b)):=by
 refine dk.partial_correctness _ _ _ ?_
 exact fun dk a b=>sB 1 (sX 9 fun _=>sB 1 (sR 5)<|sI 2<|sK 2 [[0,1,7,8]] [] (a _))<|sR 5
def lM (a0:LI)(a1:Int):Option (Int):=
 dk a0 a1 0
theorem uE {a0:LI}:LF Tryz.prog (lM a0 a1) 66 [aN a0,aI a1] aI:=
 sF<|sL 4 a0<|sK 2 [[0,1,7,8]] [] (rO _)
def cL (a0:LI)(a1:Int):Option (Bool):=
 lM a0 a1>>=fun v0=>if decide (v0≥0) then(some true) else(some false)
theorem fR {a0:LI}:LF Tryz.prog (cL a0 a1) 34 [aN a0,aI a1] aB:=
 sF<|sC 5 uE fun _=>sB 0 (sR 3)<|sR 3
@[simp] noncomputable def ij := fun Fa (o:NM)=>(([aT Fa],[]):TC)
@[simp] noncomputable def dm := fun(r:(List (Int×Int))) (o:NM)=>((.cR (o 0),[],[.mp (r.map (cg (aA .i64) (aA .i64)))]):TB)
@[simp] noncomputable def fk := fun a a49 a50 a51 (b:(List (Int×Int))) (o:NM)=>(([aK a,aP (o 0),aP (o 1)],[oY (o 2),.arr 1 [.fn (.func 370) [] [aP (o 0),aP (o 1)]],qZ Tryz.prog .ready 330 0 27 626541 [(3,aP (o 3)),(8,aT a49),(9,aI a50),(10,aI a51)],.arr 1 [.cR (o 4)],.mp (b.map (cg (aA .i64) (aA .i64)))]):TC)
@[simp] noncomputable def im := fun a49 a50 a51 (r:(List (Int×Int))) (o:NM)=>((aB true,sm [oY (o 2),.arr 1 [.fn (.func 370) [] [aP (o 0),aP (o 1)]],qZ Tryz.prog .ready 330 0 27 626541 [(3,aP (o 3)),(8,aT a49),(9,aI a50),(10,aI a51)],.arr 1 [.cR (o 4)],.mp (r.map (cg (aA .i64) (aA .i64)))],[]):TB)
@[simp] noncomputable def uF := fun Js (o:NM)=>(([aK Js],[]):TC)
@[simp] noncomputable def mZ := fun(r:(List (Int×Int))) (o:NM)=>((.cR (o 0),[],[.mp (r.map (cg (aA .i64) (aA .i64)))]):TB)
@[simp] noncomputable def fl := fun a145 (a:(List (Int×Int))) (o:NM)=>(([aK a145,aP (o 0),aP (o 1)],[oY (o 2),.arr 1 [.fn (.func 370) [] [aP (o 0),aP (o 1)]],qZ Tryz.prog .ready 331 0 18 2463 [(3,aP (o 3))],.arr 1 [.cR (o 4)],.mp (a.map (cg (aA .i64) (aA .i64)))]):TC)
@[simp] noncomputable def iq := fun(r:(List (Int×Int))) (o:NM)=>((aB true,sm [oY (o 2),.arr 1 [.fn (.func 370) [] [aP (o 0),aP (o 1)]],qZ Tryz.prog .ready 331 0 18 2463 [(3,aP (o 3))],.arr 1 [.cR (o 4)],.mp (r.map (cg (aA .i64) (aA .i64)))],[]):TB)
@[simp] noncomputable def gm := fun a (a282:(List (Int×Int))) (o:NM)=>(([aK a,.cR (o 0),.an],[.mp (a282.map (cg (aA .i64) (aA .i64)))]):TC)
@[simp] noncomputable def ji := fun(a282:(List (Int×Int))) (r:Bool) (o:NM)=>((aB r,[some (.mp (a282.map (cg (aA .i64) (aA .i64))))],[]):TB)
@[simp] noncomputable def gp := fun b (a419:(List (Int×Int))) (a:LI) (o:NM)=>(([aK b,.cR (o 0),.ai (o 1) 0 a.length],[.mp (a419.map (cg (aA .i64) (aA .i64))),.arr 1 (a.map (aA .i64))]):TC)
@[simp] noncomputable def jj := fun(a419:(List (Int×Int))) (a:LI) (r:Bool) (o:NM)=>((aB r,sm [.mp (a419.map (cg (aA .i64) (aA .i64))),.arr 1 (a.map (aA .i64))],[]):TB)
noncomputable def pQ (bs:List Nat)  (r:(List (Int×Int))):St:=aui Tryz.prog (Ao 0 (dm r)) bs (sN 2 (ak (aI 0) none (sN 8 (UL Tryz.prog (Ao 0 (dm r)) (sN 0 (St.start T0 330 ((ij dd id).1) (pg 0 (nr 0 ((ij dd id).2)))))))))
noncomputable def pR := fun(bs:List Nat) (r:(List (Int×Int))) Fa a (b:(List (Int×Int)))=>fZ (pQ bs r) 2 fun o=>([[(3,aP (o 1)),(8,aT Fa),(9,aI (Fa.length:Int)),(10,aI a)]],[((o 1),.arr 1 [.cR (o 0)]),((o 0),.mp (b.map (cg (aA .i64) (aA .i64))))])
noncomputable def pS : St:=sN 2 (ak (aI 0) none (sN 24 (eH (fun S=>.skip (S.set 4 (.mp []))) (sN 0 (ak (aI 0) none (sN 0 (eH (fun S=>.val (aI 0) S) (sN 4 (ak (aB true) none (sN 15 (St.start T0 370 ((dz fk id).1) (pg 5 (nr 0 ((dz fk id).2))))))))))))))
noncomputable def pT := fun(a:Term) a49 a50 a51 (d:(List (Int×Int))) b (c:(List (Int×Int)))=>fZ pS 8 fun o=>([[(0,aT a.Kids),(1,.fn (.func 350) [] [aP (o 7)]),(7,aI (a.Kids.length:Int)),(8,aI b)],[],[],[(8,aB true)]],[((o 7),.arr 1 [.fn (.func 370) [] [aP (o 0),aP (o 1)]]),((o 0),oY (o 2)),((o 1),.arr 1 [.fn (.func 370) [] [aP (o 0),aP (o 1)]]),((o 2),qZ Tryz.prog .ready 330 0 27 626541 [(3,aP (o 3)),(8,aT a49),(9,aI a50),(10,aI a51)]),((o 3),.arr 1 [.cR (o 4)]),((o 4),.mp (c.map (cg (aA .i64) (aA .i64))))])
noncomputable def pU : St:=sN 2 (ak (aI 0) none (sN 24 (eH (fun S=>.skip (S.set 4 (.mp []))) (sN 0 (ak (aI 0) none (sN 0 (eH (fun S=>.val (aI 0) S) (sN 4 (ak (aB true) none (sN 15 (St.start T0 370 ((dz fl id).1) (pg 5 (nr 0 ((dz fl id).2))))))))))))))
noncomputable def pV := fun(a145:Term) (c:(List (Int×Int))) a (b:(List (Int×Int)))=>fZ pU 8 fun o=>([[(0,aT a145.Kids),(1,.fn (.func 350) [] [aP (o 7)]),(7,aI (a145.Kids.length:Int)),(8,aI a)],[],[],[(8,aB true)]],[((o 7),.arr 1 [.fn (.func 370) [] [aP (o 0),aP (o 1)]]),((o 0),oY (o 2)),((o 1),.arr 1 [.fn (.func 370) [] [aP (o 0),aP (o 1)]]),((o 2),qZ Tryz.prog .ready 331 0 18 2463 [(3,aP (o 3))]),((o 3),.arr 1 [.cR (o 4)]),((o 4),.mp (b.map (cg (aA .i64) (aA .i64))))])
noncomputable def rP : St:=sN 2 (ak (aI 0) none (sN 3 (ak (aB false) none (sN 6 (St.start T0 332 ((dz gm id).1) (pg 1 (nr 0 ((dz gm id).2))))))))
noncomputable def rQ := fun a (a282:(List (Int×Int))) b=>fZ rP 2 fun o=>([[(1,.cR (o 0)),(3,aP (o 1)),(2,.an),(25,aT a.Kids),(26,aI (a.Kids.length:Int)),(27,aI b)]],[((o 0),.mp (a282.map (cg (aA .i64) (aA .i64)))),((o 1),.arr 3 [aK a])])
noncomputable def rR : St:=sN 2 (ak (aI 0) none (sN 3 (ak (aB false) none (sN 6 (St.start T0 332 ((dz gp id).1) (pg 2 (nr 0 ((dz gp id).2))))))))
noncomputable def rS := fun a (a419:(List (Int×Int))) (b:LI) c=>fZ rR 3 fun o=>([[(1,.cR (o 0)),(3,aP (o 2)),(2,.ai (o 1) 0 b.length),(25,aT a.Kids),(26,aI (a.Kids.length:Int)),(27,aI c)]],[((o 0),.mp (a419.map (cg (aA .i64) (aA .i64)))),((o 2),.arr 3 [aK a]),((o 1),.arr 1 (b.map (aA .i64)))])
noncomputable def K0 : St:=sN 2 (ak (aI 0) none (sN 24 (ak (aB false) none (sN 4 (ak (aB false) none (sN 4 (ak (aB false) none (sN 2 (ak (.dO [.sc (.string ⟨#[]⟩),aI 0]) none (sN 4 (ak (aI 0) none (sN 4 (ak (aB false) none (sN 0 (ak (aI 0) none (sN 5 (ak (aB false) none (sN 11 (St.start T0 291 [.agg [.lit [],.lit []],.agg [aI 0,.lit [],aI 0,aI 0,.lit [],aI 0]] ag.empty)))))))))))))))))))
noncomputable def Br := fun a0 (a1:bn) a=>fZ K0 3 fun o=>([[(0,aT a1.cJ),(1,.fn (.func 350) [] [aP (o 2)]),(7,aI (a1.cJ.length:Int)),(8,aI a)],[],[],[(3,aP (o 1)),(2,aP (o 0)),(48,aB false)]],[((o 2),.arr 1 [.fn (.func 327) [] [aP (o 0)]]),((o 1),.arr 6 [.agg [aI a1.vt,aT a1.cJ,aI a1.gU.Op,aI a1.gU.N,aT a1.gU.Kids,aI a1.bf]]),((o 0),oG a0)])
noncomputable def K1 : St:=sN 6 (Tw (.cR 6) (B2 0 (mZ dd) [] 6) (sN 3 (Tw (.cR 5) (B2 0 (dm dd) [] 5) (sN 5 (ak (aB false) none (sN 0 (ak (aI 0) none (sN 15 (ak (aB false) none (sN 13 (ak (aB false) none (sN 7 (eH (fun S=>.val (aB true) S) (sN 1 (ak (.bO [aB false,aI 0]) none (sN 15 (ak (.dO [aI 0,aI 0,.lit []]) none (sN 9 (ak (aB true) none (sN 1 (dz Br)))))))))))))))))))))
noncomputable def Bs := fun(a1:bn) b (a:(List (Int×Int))) (c:(List (Int×Int)))=>fZ K1 8 fun o=>([[(3,aP (o 1)),(69,aP (o 7)),(6,.cR (o 5)),(7,.cR (o 6))]],[((o 1),.arr 6 [.agg [aI a1.vt,aT a1.cJ,aI a1.gU.Op,aI a1.gU.N,aT a1.gU.Kids,aI a1.bf]]),((o 7),.mi (o 5) (mL a) b),((o 5),.mp (a.map (cg (aA .i64) (aA .i64)))),((o 6),.mp (c.map (cg (aA .i64) (aA .i64))))])
noncomputable def K2 : St:=sN 2 (Tw (.cR 9) (B2 0 (dm dd) [] 9) (sN 0 (eH (fun S=>.val (.lit [.agg [aI 0,aI 0,.lit []]]) (Jr S)) (sN 5 (eH (fun S=>.val (.bO [aB false]) S) (sN 1 (dz Bs)))))))
noncomputable def Bt := fun(a1:bn) b (c:(List (Int×Int))) (d:(List (Int×Int))) (a:(List (Int×Int)))=>fZ K2 11 fun o=>([[(3,aP (o 1)),(87,aP (o 10)),(6,.cR (o 5)),(7,.cR (o 6))]],[((o 1),.arr 6 [.agg [aI a1.vt,aT a1.cJ,aI a1.gU.Op,aI a1.gU.N,aT a1.gU.Kids,aI a1.bf]]),((o 10),.mi (o 9) (mL a) b),((o 5),.mp (c.map (cg (aA .i64) (aA .i64)))),((o 6),.mp (d.map (cg (aA .i64) (aA .i64)))),((o 9),.mp (a.map (cg (aA .i64) (aA .i64))))])
noncomputable def K3 : St:=sN 6 (eH (fun S=>.val (.bO [aB false]) S) (sN 1 (dz Bt)))
noncomputable def K4 := fun(a1:bn) (b:(List (Int×Int))) c (a:(List (Int×Int)))=>fZ K3 12 fun o=>([[(6,.cR (o 5)),(3,aP (o 1)),(97,aP (o 11)),(7,.cR (o 6))]],[((o 5),.mp (b.map (cg (aA .i64) (aA .i64)))),((o 1),.arr 6 [.agg [aI a1.vt,aT a1.cJ,aI a1.gU.Op,aI a1.gU.N,aT a1.gU.Kids,aI a1.bf]]),((o 11),.mi (o 6) (mL a) c),((o 6),.mp (a.map (cg (aA .i64) (aA .i64))))])
mutual
def bL (c:Term)(a49:LT)(a50 a51:Int)(f:(List (Int×Int)))(a:Int)(b:(List (Int×Int))):Option (List (Int×Int)):=
 if decide (a<(c.Kids.length:Int)) then(bQ c.Kids a>>=fun d=>cq d a49 a50 a51 b>>=fun e=>if cy .i64 (a+1) then(bL c a49 a50 a51 f (a+1) e) else none) else(some b)
 partial_fixpoint
def cq (a:Term)(a49:LT)(a50 a51:Int)(b:(List (Int×Int))):Option (List (Int×Int)):=
 if decide ((a.Op:Int)=1) then(if cy .i64 (((iJ b a.N).getD 0)+1) then(bL a a49 a50 a51 b 0 (ky b a.N (((iJ b a.N).getD 0)+1))) else none) else(bL a a49 a50 a51 b 0 b)
 partial_fixpoint
end
variable {a49 : LT} {a50 a51 : Int}
theorem nW : (∀ b c d e,LJ Tryz.prog (bL b a49 a50 a51 c d e) 5 (im a49 a50 a51) (pT b a49 a50 a51 c d e))∧(∀ b c,LG Tryz.prog (cq b a49 a50 a51 c) 370 5 (fk b a49 a50 a51 c) (im a49 a50 a51)):=by
 refine bL.mutual_partial_correctness _ _ _ _ _ ?_ ?_
 · exact fun bL cq a gS b c d e=>sB 1 (sX 9 fun _=>sV fun g f=>sT (fun q=>yG EE 8 (v:=aB true) (gS _ _ g f _ 9 [0,1,2,3,4] wO) q)<|sI 6<|Jf 2 [[0,1,7,8],[],[],[8]] [7,0,1,2,3,4] [] 9 (a _ _ _ _))<|mo 17 (aB true) [0,1,2,3,4]
 · exact fun bL a b c=>Qa 5 (sB 15 (afe 4 253 4 c b.N<|sI 0<|akQ 0 253 4 c b.N (((iJ c b.N).getD 0)+1)<|sL 24 b.Kids<|wi 2 [[0,1,7,8],[],[],[8]] [7,0,1,2,3,4] (a _ _ _ _))<|sL 24 b.Kids<|wi 2 [[0,1,7,8],[],[],[8]] [7,0,1,2,3,4] (a _ _ _ _))
theorem gS {a:Term}{b:(List (Int×Int))}:LG Tryz.prog (cq a a49 a50 a51 b) 370 5 (fk a a49 a50 a51 b) (im a49 a50 a51):=nW.2 _ _
mutual
def bM (a145:Term)(c:(List (Int×Int)))(a:Int)(b:(List (Int×Int))):Option (List (Int×Int)):=
 if decide (a<(a145.Kids.length:Int)) then(bQ a145.Kids a>>=fun d=>cr d b>>=fun e=>if cy .i64 (a+1) then(bM a145 c (a+1) e) else none) else(some b)
 partial_fixpoint
def cr (a145:Term)(a:(List (Int×Int))):Option (List (Int×Int)):=
 if decide ((a145.Op:Int)=8) then(if cy .i64 (((iJ a a145.N).getD 0)+1) then(bM a145 a 0 (ky a a145.N (((iJ a a145.N).getD 0)+1))) else none) else(bM a145 a 0 a)
 partial_fixpoint
end
theorem nX  : (∀ a145 b c d,LJ Tryz.prog (bM a145 b c d) 5 iq (pV a145 b c d))∧(∀ a145 b,LG Tryz.prog (cr a145 b) 370 5 (fl a145 b) iq):=by
 refine bM.mutual_partial_correctness _ _ ?_ ?_
 · exact fun bM cr a gT a145 b c d=>sB 1 (sX 9 fun _=>sV fun f e=>sT (fun q=>yG EE 8 (v:=aB true) (gT _ _ f e _ 9 [0,1,2,3,4] wO) q)<|sI 6<|Jf 2 [[0,1,7,8],[],[],[8]] [7,0,1,2,3,4] [] 9 (a _ _ _ _))<|mo 17 (aB true) [0,1,2,3,4]
 · exact fun bM a a145 b=>Qa 5 (sB 15 (afe 4 253 4 b a145.N<|sI 0<|akQ 0 253 4 b a145.N (((iJ b a145.N).getD 0)+1)<|sL 24 a145.Kids<|wi 2 [[0,1,7,8],[],[],[8]] [7,0,1,2,3,4] (a _ _ _ _))<|sL 24 a145.Kids<|wi 2 [[0,1,7,8],[],[],[8]] [7,0,1,2,3,4] (a _ _ _ _))
theorem gT {a145:Term}{a:(List (Int×Int))}:LG Tryz.prog (cr a145 a) 370 5 (fl a145 a) iq:=nX.2 _ _
mutual
def bx (b:Term)(a419:(List (Int×Int)))(c:LI)(a:Int):Option Bool:=
 if decide (a<(b.Kids.length:Int)) then(bQ b.Kids a>>=fun d=>if decide ((b.Op:Int)=8) then(if decide (a=1) then(if c.isEmpty then(bR d a419 [b.N]>>=fun e=>if e then(if cy .i64 (a+1) then(bx b a419 c (a+1)) else none) else(some false)) else(if decide (([]:LI).length+c.length≤1048576) then(if decide ((([]:LI)++c).length+[b.N].length≤1048576) then(bR d a419 ((([]:LI)++c)++[b.N])>>=fun f=>if f then(if cy .i64 (a+1) then(bx b a419 c (a+1)) else none) else(some false)) else none) else none)) else(bR d a419 c>>=fun g=>if g then(if cy .i64 (a+1) then(bx b a419 c (a+1)) else none) else(some false))) else(bR d a419 c>>=fun h=>if h then(if cy .i64 (a+1) then(bx b a419 c (a+1)) else none) else(some false))) else(some true)
 partial_fixpoint
def bR (a:Term)(a419:(List (Int×Int)))(b:LI):Option Bool:=
 if decide ((a.Op:Int)=1) then(if decide ((((iJ a419 a.N).getD 0):Int)=0) then(some true) else(cL b a.N>>=fun c=>if c then(some true) else(some false))) else(bx a a419 b 0)
 partial_fixpoint
end
variable {a419 : (List (Int × Int))}
theorem pW : (∀ c b d,LJ Tryz.prog (bx c a419 b d) 2 (jj a419 b) (rS c a419 b d))∧(∀ c b,LG Tryz.prog (bR c a419 b) 332 2 (gp c a419 b) (jj a419 b)):=by
 refine bx.mutual_partial_correctness _ _ _ ?_ ?_
 · exact fun bx bR a dB c b d=>sB 1 (sX 4 fun _=>sB 10 (sB 2 (sS (fun e=>sT (bF EE 13 (fun S=>mQ Tryz.prog S 45 45 (.ai 4 0 0) (.ai 1 0 b.length)) (fun S=>.val (.ai 4 0 0) S) kr kr (dJ (enc:=(aA .i64)) (el:=3) (sz:=1) (ys:=b) kr kr (bC _ (.inr ⟨1,1,rfl,by kernel_rfl⟩)) e (bC (enc:=(aA .i64)) (ys:=([]:LI)) _ (.inr ⟨4,1,rfl,by kernel_rfl⟩)) (ed (enc:=(aA .i64)) (fun _=>rfl) (fun _=>by kernel_rfl) _)))<|sV fun l g=>N2 13 (dB _ _ l g _ 7 [0,6] wO) (sI 3<|Jf 2 [[1,3,2,25,26,27]] [0,2,1] [] 7 (a _ _ _))<|mo 5 (aB false) [0,1]) fun e=>sA 13 4 1 5 (hs:=alV) (hy:=bK e)<|sA 6 5 6 7<|sV fun m h=>N2 6 (dB _ _ m h _ 8 [0,7] wO) (sI 3<|Jf 2 [[1,3,2,25,26,27]] [0,2,1] [] 8 (a _ _ _))<|mo 5 (aB false) [0,1])<|sV fun n i=>N2 5 (dB _ _ n i _ 4 [0,1] wO) (sI 3<|Jf 2 [[1,3,2,25,26,27]] [0,2,1] [] 4 (a _ _ _))<|mo 5 (aB false) [0,1])<|sV fun o j=>N2 8 (dB _ _ o j _ 4 [0,1] wO) (sI 3<|Jf 2 [[1,3,2,25,26,27]] [0,2,1] [] 4 (a _ _ _))<|mo 5 (aB false) [0,1])<|mo 5 (aB true) [0,1]
 · exact fun bx a c b=>Qa 2 (sB 6 (afe 4 253 0 a419 c.N<|sB 0 (mo 9 (aB true) [0,1])<|sV fun f k=>sT (ER EE 4 34 [.ai 1 0 b.length,aI c.N] [aN b,aI c.N] (aB f) kr (uL.cons (BU.lT (sz:=1) (es:=(b.map (aA .i64))) kr (by first | rfl | (simp;done) | omega | (simp;omega)) pl) (uL.cons (.pure pv) uL.nil)) pl rfl (fR f k))<|match f with | true=>aj4<|mo 4 (aB true) [0,1] | false=>sf<|mo 4 (aB false) [0,1])<|sL 3 c.Kids<|wi 2 [[1,3,2,25,26,27]] [0,2,1] (a _ _ _))
theorem dB {b:Term}{a:LI}:LG Tryz.prog (bR b a419 a) 332 2 (gp b a419 a) (jj a419 a):=pW.2 _ _
def cw (Fa:LT)(a:Int)(b:(List (Int×Int))):Option (List (Int×Int)):=
 if decide (a<(Fa.length:Int)) then(bQ Fa a>>=fun c=>cq c Fa (Fa.length:Int) a b>>=fun d=>if cy .i64 (a+1) then(cw Fa (a+1) d) else none) else(some b)
 partial_fixpoint
theorem nY (Fa:LT):(∀ b c r,cw Fa b c=some r→∀ bs:List Nat,SX Tryz.prog (Ao 0 (dm r)) (pR bs  r Fa b c)):=by
 refine cw.partial_correctness _ _ ?_
 intro cw a b c r h
 intro d
 refine yB EE 1 h (fun i h=>?_) (fun i h=>?_)
 · refine yX EE 3 52 54 OF h fun l k h=>?_
   refine AJ EE 16 5 [3,6,6,6,8,9,10,16,17,18,19,20,20,21,22,22,23,24] (by kernel_rfl) ?_
   obtain⟨e,g,h⟩:=sq h
   refine yG EE 10 (v:=aB true) (gS e g _ 8 [6,7,5,1,0] wO) ?_
   refine YJ EE qk 2 4 (bs:=d) (by kernel_rfl) (by kernel_rfl) (by kernel_rfl) (by kernel_rfl) (fun f=>?_)
   refine yI EE 3 h fun m h=>?_
   exact aus EE qk 2 [[3,8,9,10]] [1,0] [] 8 (f::d) (a (b+1) e r h (f::d))
 · cases h
   exact aup EE 5 d (.cR 0) [0] (lP.Da (j:=0) rfl) iA (ua (.mp (c.map (cg (aA .i64) (aA .i64)))) gP)
def cV (Fa:LT):Option (List (Int×Int)):=
 cw Fa 0 []
theorem eZ {Fa:LT}:LG Tryz.prog (cV Fa) 330 0 (ij Fa) dm:=
 Qa 0 (fun r h=>by
  refine VS EE 0 ?_
  refine zL 8 cI Fa ?_
  exact auq EE qk 2 [[3,8,9,10]] [1,0] [] ((nY Fa) 0 [] r h []))
def eY (Js:Term):Option (List (Int×Int)):=
 cr Js ([]:(List (Int×Int)))>>=fun a=>some a
theorem jt {Js:Term}:LG Tryz.prog (eY Js) 331 0 (uF Js) mZ:=
 Qa 0 (sT (AJ EE 20 5 [3,8] kr)<|sV fun a b=>sT (fun q=>yG EE 10 (v:=aB true) (gT a b _ 8 [6,7,5,2,1] wO) q)<|mo 9 (.cR 1) [1] (hu:=iA) (ha:=ua (.mp (a.map (cg (aA .i64) (aA .i64)))) gP) (hf:=lP.Da (j:=0) rfl))
mutual
def bD (b:Term)(a282:(List (Int×Int)))(a:Int):Option Bool:=
 if decide (a<(b.Kids.length:Int)) then(bQ b.Kids a>>=fun c=>if decide ((b.Op:Int)=8) then(if decide (a=1) then(bR c a282 [b.N]>>=fun d=>if d then(if cy .i64 (a+1) then(bD b a282 (a+1)) else none) else(some false)) else(cA c a282>>=fun e=>if e then(if cy .i64 (a+1) then(bD b a282 (a+1)) else none) else(some false))) else(cA c a282>>=fun f=>if f then(if cy .i64 (a+1) then(bD b a282 (a+1)) else none) else(some false))) else(some true)
 partial_fixpoint
def cA (a:Term)(a282:(List (Int×Int))):Option Bool:=
 if decide ((a.Op:Int)=1) then(if decide ((((iJ a282 a.N).getD 0):Int)=0) then(some true) else(cL ([]:LI) a.N>>=fun b=>if b then(some true) else(some false))) else(bD a a282 0)
 partial_fixpoint
end
variable {a282 : (List (Int × Int))}
theorem pX : (∀ b c,LJ Tryz.prog (bD b a282 c) 1 (ji a282) (rQ b a282 c))∧(∀ b,LG Tryz.prog (cA b a282) 332 1 (gm b a282) (ji a282)):=by
 refine bD.mutual_partial_correctness _ _ _ ?_ ?_
 · exact fun bD cA a fS b c=>sB 1 (sX 4 fun _=>sB 10 (sB 2 (sV fun i e=>N2 24 (dB i e _ 5 [0,4] wO) (sI 3<|Jf 2 [[1,3,2,25,26,27]] [0,1] [] 5 (a _ _))<|mo 5 (aB false) [0])<|sV fun j f=>N2 5 (fS _ j f _ 3 [0] wO) (sI 3<|Jf 2 [[1,3,2,25,26,27]] [0,1] [] 3 (a _ _))<|mo 5 (aB false) [0])<|sV fun k g=>N2 8 (fS _ k g _ 3 [0] wO) (sI 3<|Jf 2 [[1,3,2,25,26,27]] [0,1] [] 3 (a _ _))<|mo 5 (aB false) [0])<|mo 5 (aB true) [0]
 · exact fun bD a b=>Qa 1 (sB 6 (afe 4 253 0 a282 b.N<|sB 0 (mo 9 (aB true) [0])<|sV fun d h=>sT (yf EE 4 34 [.an,aI b.N] [.lit [],aI b.N] (aB d) kr kr (fR d h))<|match d with | true=>aj4<|mo 4 (aB true) [0] | false=>sf<|mo 4 (aB false) [0])<|sL 3 b.Kids<|wi 2 [[1,3,2,25,26,27]] [0,1] (a _ _))
theorem fS {a:Term}:LG Tryz.prog (cA a a282) 332 1 (gm a a282) (ji a282):=pX.2 _
def mg (a1:bn)(c:(List (Int×Int)))(a:(List (Int×Int))):Nat→List Nat→Option Bool
 | 0,_=>none
 | n+1,d=>B1 a d (cA a1.gU a>>=fun e=>if e then(some true) else(some false)) (fun f b=>if decide ((b.2:Int)>1) then(some false) else(if decide ((b.1:Int)≥a1.bf) then(some false) else(if decide ((((iJ c b.1).getD 0):Int)>0) then(some false) else(mg a1 c a n (d++[f])))))
theorem wJ {a1:bn}{c:(List (Int×Int))}{a:(List (Int×Int))}:∀ n b,LH Tryz.prog (mg a1 c a n b) aB (K4 a1 c b a)
 | 0,_=>fun _ h=>by rw[mg] at h;cases h
 | n+1,b=>akN 1 11 6 (mL a) (sV fun f d=>N2 6 (fS f d _ 12 [6] wO) (sR 3)<|sR 3) fun g i e=>akO 4 11 6 (mL a) b g e<|sB 6 (sR 16)<|sB 4 (sR 11)<|afe 4 253 5 c i.1<|sB 0 (sR 5)<|sK 2 [[6,3,97,7]] [5,1,11,6] (wJ n _)
def mh (a1:bn)(b:(List (Int×Int)))(a:(List (Int×Int)))(c:(List (Int×Int))):Nat→List Nat→Option Bool
 | 0,_=>none
 | n+1,d=>B1 c d (mg a1 b a (a.length+1) []) (fun e f=>if decide ((f.1:Int)≥a1.bf) then(some false) else(mh a1 b a c n (d++[e])))
theorem wK {a1:bn}{c:(List (Int×Int))}{d:(List (Int×Int))}{a:(List (Int×Int))}:∀ n b,LH Tryz.prog (mh a1 c d a n b) aB (Bt a1 b c d a)
 | 0,_=>fun _ h=>by rw[mh] at h;cases h
 | n+1,b=>akN 1 10 9 (mL a) (sK 6 [[6,3,97,7]] [5,1,11,6] (wJ _ _)) fun f _ e=>akO 4 10 9 (mL a) b f e<|sB 6 (sR 4)<|sK 1 [[3,87,6,7]] [1,10,5,6,9] (wK n _)
def jL (a1:bn)(a:(List (Int×Int)))(b:(List (Int×Int))):Nat→List Nat→Option Bool
 | 0,_=>none
 | n+1,c=>B1 a c (cV [a1.gU]>>=fun d=>mh a1 a b d (d.length+1) []) (fun f e=>if decide ((e.2:Int)>1) then(some false) else(if decide ((e.1:Int)≥a1.bf) then(some false) else(jL a1 a b n (c++[f]))))
theorem nk {a1:bn}{a:(List (Int×Int))}{c:(List (Int×Int))}:∀ n b,LH Tryz.prog (jL a1 a c n b) aB (Bs a1 b a c)
 | 0,_=>fun _ h=>by rw[jL] at h;cases h
 | n+1,b=>akN 1 7 5 (mL a) (sT (FF EE 5 (fun S=>asO Tryz.prog S 52 1 [(0,.agg [aI a1.gU.Op,aI a1.gU.N,aT a1.gU.Kids])]) [cI a1.gU] kr kr kr (.inl ⟨3,by rw[kP a1.gU];kernel_rfl⟩))<|sV fun f d=>sT (fun q=>ZZ EE 0 (eZ f d _ 9 [] wO) q)<|sK 2 [[3,87,6,7]] [1,10,5,6,9] (wK _ _)) fun g _ e=>akO 4 7 5 (mL a) b g e<|sB 6 (sR 10)<|sB 4 (sR 5)<|sK 2 [[3,69,6,7]] [1,7,5,6] (nk n _)
def iS (a0:aH)(a1:bn)(a:Int):Option (Bool):=
 if decide (a<(a1.cJ.length:Int)) then(bQ a1.cJ a>>=fun f=>oH a0 f>>=fun b=>if b.1 then(if decide ((b.2:Int)=0) then(if cy .i64 (a+1) then(iS a0 a1 (a+1)) else none) else(if decide (a≥0) then(some false) else(nH a0 a1.gU>>=fun g=>if(!decide (g=0)) then(some false) else(cV a1.cJ>>=fun c=>eY a1.gU>>=fun h=>jL a1 c h (c.length+1) [])))) else(if decide (a≥0) then(some false) else(nH a0 a1.gU>>=fun i=>if(!decide (i=0)) then(some false) else(cV a1.cJ>>=fun d=>eY a1.gU>>=fun j=>jL a1 d j (d.length+1) [])))) else(nH a0 a1.gU>>=fun k=>if(!decide (k=0)) then(some false) else(cV a1.cJ>>=fun e=>eY a1.gU>>=fun l=>jL a1 e l (e.length+1) []))
 partial_fixpoint
theorem Eu {a1:bn}:(∀ b,LH Tryz.prog (iS a0 a1 b) aB (Br a0 a1 b)):=by
 refine iS.partial_correctness _ _ _ ?_
 exact fun iS a b=>sB 1 (sX 9 fun _=>sC 15 BK fun _=>WL 1 (sB 7 (sI 10<|sM 2 [[0,1,7,8],[],[],[3,2,48]] [2,1,0] [] 5 (a _))<|sB 13 (sR 22)<|sC 15 qF fun _=>sB 0 (sR 5)<|sV fun i c=>sT (fun q=>ZZ EE 5 (eZ i c _ 5 [] wO) q)<|sV fun j d=>sT (fun q=>ZZ EE 3 (jt j d _ 6 [] wO) q)<|sK 6 [[3,69,6,7]] [1,7,5,6] (nk _ _))<|sB 21 (sR 22)<|sC 15 qF fun _=>sB 0 (sR 5)<|sV fun k e=>sT (fun q=>ZZ EE 5 (eZ k e _ 5 [] wO) q)<|sV fun l f=>sT (fun q=>ZZ EE 3 (jt l f _ 6 [] wO) q)<|sK 6 [[3,69,6,7]] [1,7,5,6] (nk _ _))<|sC 21 qF fun _=>sB 0 (sR 5)<|sV fun m g=>sT (fun q=>ZZ EE 5 (eZ m g _ 3 [] wO) q)<|sV fun n h=>sT (fun q=>ZZ EE 3 (jt n h _ 4 [] wO) q)<|sT (Cg EE 6 14 kr)<|sM 0 [[3,69,6,7]] [1,5,3,4] [(7,5),(5,3),(6,4),(3,9),(4,10)] 14 (nk _ _)
def vd (a0:aH)(a1:bn):Option (Bool):=
 if decide ((a1.vt:Int)<0) then(some false) else(if decide ((a1.vt:Int)≥(a0.bp.length:Int)) then(some false) else(bQ a0.bp a1.vt>>=fun a=>if(!decide ((a1.cJ.length:Int)=a.bu)) then(some false) else(if decide ((a1.bf:Int)<0) then(some false) else(if decide ((a1.bf:Int)>20) then(some false) else(iS a0 a1 0)))))
theorem Bu {a1:bn}:LF Tryz.prog (vd a0 a1) 291 [aG a0,.agg [aI a1.vt,aT a1.cJ,aI a1.gU.Op,aI a1.gU.N,aT a1.gU.Kids,aI a1.bf]] aB:=
 sF<|sB 11 (sR 52)<|sL 5 a0.bp<|sB 0 (sR 45)<|sL 4 a1.cJ<|sX 4 fun _=>sB 2 (sR 32)<|sB 4 (sR 27)<|sB 4 (sR 22)<|sL 24 a1.cJ<|sK 2 [[0,1,7,8],[],[],[3,2,48]] [2,1,0] (Eu _)
end
end Go.Eng

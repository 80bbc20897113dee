/- The structures of the data and how they are laid; no conditions. -/
import Derived.Test.YthplmmeobggkfaaGreatVChkTab
import Derived.Test.YthplmmeobggkfaaGreatVEngD
import Derived.Test.YthplmmeobggkfaaGreatVEngF
set_option linter.all false
namespace Go.Eng
open Go.Proofs
theorem EE : cX T0 Tryz.prog:=⟨T0.ok,mixed⟩
end Go.Eng
namespace Go.Eng
mutual
inductive af where
 | mk (Op : Int) (Var : Int) (bk : (List bT)) (Kids : (List af)) (bY : Int) (bf : (List Int))
inductive bT where
 | mk (BQ : Int) (bf : (List Int)) (fh : af)
end
def af.Op : af→Int
 | .mk x _ _ _ _ _=>x
def af.Var : af→Int
 | .mk _ x _ _ _ _=>x
def af.bk : af→(List bT)
 | .mk _ _ x _ _ _=>x
def af.Kids : af→(List af)
 | .mk _ _ _ x _ _=>x
def af.bY : af→Int
 | .mk _ _ _ _ x _=>x
def af.bf : af→(List Int)
 | .mk _ _ _ _ _ x=>x
def bT.BQ : bT→Int
 | .mk x _ _=>x
def bT.bf : bT→(List Int)
 | .mk _ x _=>x
def bT.fh : bT→af
 | .mk _ _ x=>x
mutual
def kW : af→List AV
 | .mk Op Var bk Kids bY bf=>[.sc (.int .i64 Op),.sc (.int .i64 Var),.lit (kC bk),.lit (jN Kids),.sc (.int .i64 bY),.lit (bf.map (aA .i64))]
def jN : List af→List AV
 | []=>[]
 | t::l=>.agg (kW t)::jN l
def qS : bT→List AV
 | .mk BQ bf fh=>.sc (.int .i64 BQ) :: .lit (bf.map (aA .i64))::kW fh
def kC : List bT→List AV
 | []=>[]
 | t::l=>.agg (qS t)::kC l
end
def au (x:af):AV:=.agg (kW x)
def aZ (x:bT):AV:=.agg (qS x)
theorem D2 (l:List af):jN l=l.map au:=by
 induction l with
 | nil=>simp[jN]
 | cons a l b=>simp[jN,au,b]
theorem GB (l:List bT):kC l=l.map aZ:=by
 induction l with
 | nil=>simp[kC]
 | cons a l b=>simp[kC,aZ,b]
def pE (x:af):List AV:=[.sc (.int .i64 x.Op),.sc (.int .i64 x.Var),.lit (x.bk.map aZ),.lit (x.Kids.map au),.sc (.int .i64 x.bY),.lit (x.bf.map (aA .i64))]
def FQ (x:bT):List AV:=[.sc (.int .i64 x.BQ),.lit (x.bf.map (aA .i64)),.sc (.int .i64 x.fh.Op),.sc (.int .i64 x.fh.Var),.lit (x.fh.bk.map aZ),.lit (x.fh.Kids.map au),.sc (.int .i64 x.fh.bY),.lit (x.fh.bf.map (aA .i64))]
theorem rn (x:af):kW x=pE x:=by
 cases x
 simp only[kW,GB,D2,pE]
 rfl
theorem fj (x:af):(au x).cells=pE x:=by
 simp only[au,AV.cells,rn]
theorem GC (x:af):au x=.agg [.sc (.int .i64 x.Op),.sc (.int .i64 x.Var),.lit (x.bk.map aZ),.lit (x.Kids.map au),.sc (.int .i64 x.bY),.lit (x.bf.map (aA .i64))]:=by
 simp only[au,rn,pE]
theorem mB (x:bT):(aZ x).cells=FQ x:=by
 cases x
 simp only[aZ,AV.cells,qS,rn]
 rfl
mutual
theorem oJ : ∀ x,cG (kW x)=true
 | .mk Op Var bk Kids bY bf=>by simp[kW,aV,cG,vh bk,ub Kids,dA,cu]
theorem ub : ∀ l,cG (jN l)=true
 | []=>by simp[jN,cG]
 | t::l=>by simp[jN,aV,cG,oJ t,ub l]
theorem vi : ∀ x,cG (qS x)=true
 | .mk BQ bf fh=>by simp[qS,aV,cG,oJ fh,dA,cu]
theorem vh : ∀ l,cG (kC l)=true
 | []=>by simp[kC,cG]
 | t::l=>by simp[kC,aV,cG,vi t,vh l]
end
@[simp] theorem Cu (x:af):aV (au x)=true:=by simp[au,aV,oJ]
@[simp] theorem D3 (x:bT):aV (aZ x)=true:=by simp[aZ,aV,vi]
@[simp] theorem S4 (σ:Nat→Nat)(x:af):(au x).aX σ=au x:=AV.dX (by simp)
@[simp] theorem WG (σ:Nat→Nat)(x:bT):(aZ x).aX σ=aZ x:=AV.dX (by simp)
theorem Pv : CS au pE 6:=⟨fj,fun _=>rfl⟩
theorem Sy : CS aZ FQ 8:=⟨mB,fun _=>rfl⟩
instance : Inhabited af := ⟨.mk default default [] [] default default⟩
instance : Inhabited bT := ⟨.mk default default default⟩
inductive Term where
 | mk (Op : Int) (N : Int) (Kids : (List Term))
def Term.Op : Term→Int
 | .mk x _ _=>x
def Term.N : Term→Int
 | .mk _ x _=>x
def Term.Kids : Term→(List Term)
 | .mk _ _ x=>x
mutual
def cI : Term→AV
 | .mk Op N Kids=>.agg [.sc (.int .i64 Op),.sc (.int .i64 N),.lit (qN Kids)]
def qN : List Term→List AV
 | []=>[]
 | t::l=>cI t::qN l
end
theorem Dv (l:List Term):qN l=l.map cI:=by
 induction l with
 | nil=>simp[qN]
 | cons a l b=>simp[qN,b]
theorem ga (x:Term):(cI x).cells=[.sc (.int .i64 x.Op),.sc (.int .i64 x.N),.lit (x.Kids.map cI)]:=by
 cases x
 simp only[cI,Dv,AV.cells]
 rfl
theorem kP (x:Term):cI x=.agg [.sc (.int .i64 x.Op),.sc (.int .i64 x.N),.lit (x.Kids.map cI)]:=by
 cases x
 simp only[cI,Dv]
 rfl
mutual
@[simp] theorem Bg : ∀ x,aV (cI x)=true
 | .mk Op N Kids=>by simp[cI,aV,cG,zi,dA,cu]
theorem zi : ∀ l,cG (qN l)=true
 | []=>by simp[qN,cG]
 | t::l=>by simp[qN,cG,Bg t,zi l]
end
@[simp] theorem ZT (σ:Nat→Nat)(x:Term):(cI x).aX σ=cI x:=AV.dX (by simp)
def Uk (x:Term):List AV:=[.sc (.int .i64 x.Op),.sc (.int .i64 x.N),.lit (x.Kids.map cI)]
theorem OF : CS cI Uk 3:=⟨ga,fun _=>rfl⟩
instance : Inhabited Term := ⟨.mk default default default⟩
structure cf where
 Name : ByteArray
 bu : Int
def ep (x:cf):AV:=.agg [.sc (.string x.Name),.sc (.int .i64 x.bu)]
@[simp] theorem Cv (x:cf):aV (ep x)=true:=by simp[ep,aV,cG,dA,cu]
@[simp] theorem S5 (σ:Nat→Nat)(x:cf):(ep x).aX σ=ep x:=AV.dX (by simp)
def I0 (x:cf):List AV:=[.sc (.string x.Name),.sc (.int .i64 x.bu)]
theorem Pw : CS ep I0 2:=⟨fun _=>rfl,fun _=>rfl⟩
instance : Inhabited cf := ⟨.mk default default⟩
structure aH where
 Cons : (List cf)
 bp : (List cf)
def vR (x:aH):AV:=.agg [.lit (x.Cons.map ep),.lit (x.bp.map ep)]
@[simp] theorem S6 (x:aH):aV (vR x)=true:=by simp[vR,aV,cG,dA,cu]
@[simp] theorem WH (σ:Nat→Nat)(x:aH):(vR x).aX σ=vR x:=AV.dX (by simp)
instance : Inhabited aH := ⟨.mk default default⟩
structure bn where
 vt : Int
 cJ : (List Term)
 gU : Term
 bf : Int
def az (x:bn):AV:=.agg [.sc (.int .i64 x.vt),.lit (x.cJ.map cI),.sc (.int .i64 x.gU.Op),.sc (.int .i64 x.gU.N),.lit (x.gU.Kids.map cI),.sc (.int .i64 x.bf)]
@[simp] theorem Cw (x:bn):aV (az x)=true:=by simp[az,aV,cG,dA,cu]
@[simp] theorem S7 (σ:Nat→Nat)(x:bn):(az x).aX σ=az x:=AV.dX (by simp)
def Cq (x:bn):List AV:=[.sc (.int .i64 x.vt),.lit (x.cJ.map cI),.sc (.int .i64 x.gU.Op),.sc (.int .i64 x.gU.N),.lit (x.gU.Kids.map cI),.sc (.int .i64 x.bf)]
theorem Px : CS az Cq 6:=⟨fun _=>rfl,fun _=>rfl⟩
instance : Inhabited bn := ⟨.mk default default default default⟩
structure aL where
 cv : aH
 aF : (List bn)
def tS (x:aL):AV:=.agg [.lit (x.cv.Cons.map ep),.lit (x.cv.bp.map ep),.lit (x.aF.map az)]
@[simp] theorem SR (x:aL):aV (tS x)=true:=by simp[tS,aV,cG,dA,cu]
@[simp] theorem S8 (σ:Nat→Nat)(x:aL):(tS x).aX σ=tS x:=AV.dX (by simp)
instance : Inhabited aL := ⟨.mk default default⟩
structure bA where
 Prog : aL
 bP : (List af)
def tT (x:bA):AV:=.agg [.lit (x.Prog.cv.Cons.map ep),.lit (x.Prog.cv.bp.map ep),.lit (x.Prog.aF.map az),.lit (x.bP.map au)]
@[simp] theorem SS (x:bA):aV (tT x)=true:=by simp[tT,aV,cG,dA,cu]
@[simp] theorem S9 (σ:Nat→Nat)(x:bA):(tT x).aX σ=tT x:=AV.dX (by simp)
instance : Inhabited bA := ⟨.mk default default⟩
structure aC where
 Op : Int
 Var : Int
 Expr : Term
def ar (x:aC):AV:=.agg [.sc (.int .i64 x.Op),.sc (.int .i64 x.Var),.sc (.int .i64 x.Expr.Op),.sc (.int .i64 x.Expr.N),.lit (x.Expr.Kids.map cI)]
@[simp] theorem zW (x:aC):aV (ar x)=true:=by simp[ar,aV,cG,dA,cu]
@[simp] theorem Q9 (σ:Nat→Nat)(x:aC):(ar x).aX σ=ar x:=AV.dX (by simp)
def xH (x:aC):List AV:=[.sc (.int .i64 x.Op),.sc (.int .i64 x.Var),.sc (.int .i64 x.Expr.Op),.sc (.int .i64 x.Expr.N),.lit (x.Expr.Kids.map cI)]
theorem cB : CS ar xH 5:=⟨fun _=>rfl,fun _=>rfl⟩
instance : Inhabited aC := ⟨.mk default default default⟩
structure aj where
 Nil : Int
 Cons : Int
 Steps : (List aC)
def qz (x:aj):AV:=.agg [.sc (.int .i64 x.Nil),.sc (.int .i64 x.Cons),.lit (x.Steps.map ar)]
@[simp] theorem P7 (x:aj):aV (qz x)=true:=by simp[qz,aV,cG,dA,cu]
@[simp] theorem Ra (σ:Nat→Nat)(x:aj):(qz x).aX σ=qz x:=AV.dX (by simp)
instance : Inhabited aj := ⟨.mk default default default⟩
structure bo where
 args : (List Term)
 next : Int
def oE (x:bo):AV:=.agg [.lit (x.args.map cI),.sc (.int .i64 x.next)]
@[simp] theorem NY (x:bo):aV (oE x)=true:=by simp[oE,aV,cG,dA,cu]
@[simp] theorem P8 (σ:Nat→Nat)(x:bo):(oE x).aX σ=oE x:=AV.dX (by simp)
instance : Inhabited bo := ⟨.mk default default⟩
structure dw where
 Var : Int
 Term : Term
def fP (x:dw):AV:=.agg [.sc (.int .i64 x.Var),.sc (.int .i64 x.Term.Op),.sc (.int .i64 x.Term.N),.lit (x.Term.Kids.map cI)]
@[simp] theorem Cx (x:dw):aV (fP x)=true:=by simp[fP,aV,cG,dA,cu]
@[simp] theorem Ta (σ:Nat→Nat)(x:dw):(fP x).aX σ=fP x:=AV.dX (by simp)
def I1 (x:dw):List AV:=[.sc (.int .i64 x.Var),.sc (.int .i64 x.Term.Op),.sc (.int .i64 x.Term.N),.lit (x.Term.Kids.map cI)]
theorem zQ : CS fP I1 4:=⟨fun _=>rfl,fun _=>rfl⟩
instance : Inhabited dw := ⟨.mk default default⟩
structure bl where
 aH : aH
def nj (x:bl):AV:=.agg [.lit (x.aH.Cons.map ep),.lit (x.aH.bp.map ep)]
@[simp] theorem NS (x:bl):aV (nj x)=true:=by simp[nj,aV,cG,dA,cu]
@[simp] theorem NZ (σ:Nat→Nat)(x:bl):(nj x).aX σ=nj x:=AV.dX (by simp)
instance : Inhabited bl := ⟨.mk default⟩
structure dj where
 args : (List Term)
 next : Int
def qA (x:dj):AV:=.agg [.lit (x.args.map cI),.sc (.int .i64 x.next)]
@[simp] theorem P9 (x:dj):aV (qA x)=true:=by simp[qA,aV,cG,dA,cu]
@[simp] theorem Rb (σ:Nat→Nat)(x:dj):(qA x).aX σ=qA x:=AV.dX (by simp)
instance : Inhabited dj := ⟨.mk default default⟩
structure ad where
 Op : Int
 N : Int
 Refs : (List Int)
 To : Int
 iZ : (List Int)
 bY : Int
 Env : (List Int)
def aJ (x:ad):AV:=.agg [.sc (.int .i64 x.Op),.sc (.int .i64 x.N),.lit (x.Refs.map (aA .i64)),.sc (.int .i64 x.To),.lit (x.iZ.map (aA .i64)),.sc (.int .i64 x.bY),.lit (x.Env.map (aA .i64))]
@[simp] theorem SU (x:ad):aV (aJ x)=true:=by simp[aJ,aV,cG,dA,cu]
@[simp] theorem Tb (σ:Nat→Nat)(x:ad):(aJ x).aX σ=aJ x:=AV.dX (by simp)
instance : Inhabited ad := ⟨.mk default default default default default default default⟩
structure kf where
 Qr : (List ad)
 Xa : Int
 bf : (List Int)
def rJ (x:kf):AV:=.agg [.lit (x.Qr.map aJ),.sc (.int .i64 x.Xa),.lit (x.bf.map (aA .i64))]
@[simp] theorem Rc (x:kf):aV (rJ x)=true:=by simp[rJ,aV,cG,dA,cu]
@[simp] theorem SV (σ:Nat→Nat)(x:kf):(rJ x).aX σ=rJ x:=AV.dX (by simp)
instance : Inhabited kf := ⟨.mk default default default⟩
end Go.Eng
namespace Go.Eng
open Go.Proofs
noncomputable abbrev sN := ab T0 Tryz.prog
end Go.Eng
namespace Go.Eng
open Go.Proofs
noncomputable section
abbrev LI := List Int
abbrev LT := List Term
@[simp] abbrev aI (x:Int):AV:=.sc (.int .i64 x)
@[simp] abbrev aB (x:Bool):AV:=.sc (.bool x)
@[simp] abbrev aP (n:Nat):AV:=.ptr n 0 0
@[simp] abbrev aT (l:LT):AV:=.lit (l.map cI)
@[simp] abbrev aN (l:LI):AV:=.lit (l.map (aA .i64))
@[simp] abbrev aM (l:List cf):AV:=.lit (l.map ep)
@[simp] abbrev aG (t:aH):AV:=.agg [aM t.Cons,aM t.bp]
@[simp] abbrev aK (t:Term):AV:=.agg [aI t.Op,aI t.N,aT t.Kids]
@[simp] abbrev oI (x:Int):aO:=.arr 1 [aI x]
@[simp] abbrev oP (n:Nat):aO:=.arr 1 [aP n]
@[simp] abbrev oY (n:Nat):aO:=.arr 1 [.sj n]
@[simp] abbrev oT (l:LT):aO:=.arr 3 (l.map cI)
@[simp] abbrev oG (t:aH):aO:=.arr 2 [aG t]
abbrev mL (l:List (Int×Int)):Nat:=(l.map (cg (aA .i64) (aA .i64))).length
variable {α : Type}
theorem kr {a b:α}(h:a=b:=by kernel_rfl):a=b:=h
instance : EK Tryz.prog T0 := ⟨EE⟩
theorem cT (x:Term):(cI x).cells.length=3:=by rw[ga];rfl
variable {S : ag}
theorem Lr {i:Nat}{x:Term}(h:S.get i=some (.arr 3 [aK x]):=by kernel_rfl):iX S (.ai i 0 1)=some ([x].map cI):=Mb (es:=[aK x]) (z:=3) (by simp[kP]) rfl h
theorem agB {i:Nat}{x:af}(h:S.get i=some (.arr 6 [.agg [aI x.Op,aI x.Var,.lit (x.bk.map aZ),.lit (x.Kids.map au),aI x.bY,aN x.bf]]):=by kernel_rfl):iX S (.ai i 0 1)=some ([x].map au):=Mb (es:=[.agg [aI x.Op,aI x.Var,.lit (x.bk.map aZ),.lit (x.Kids.map au),aI x.bY,aN x.bf]]) (z:=6) (by simp[GC]) rfl h
instance : Ec Tryz.prog Int := ⟨aA .i64, fun n => [aI n], 45, 3, 1, auk .i64, fun _ => rfl, by kernel_rfl, by kernel_rfl, by kernel_rfl, by kernel_rfl, fun _ => rfl⟩
instance : Ec Tryz.prog ByteArray := ⟨encS, fun n => [.sc (.string n)], 102, 9, 1, asP, fun _ => rfl, by kernel_rfl, by kernel_rfl, by kernel_rfl, by kernel_rfl, fun _ => rfl⟩
instance : Ec Tryz.prog Term := ⟨cI, Uk, 52, 54, 3, OF, fun x => by rw [ga]; rfl, by kernel_rfl, by kernel_rfl, by kernel_rfl, by kernel_rfl, Bg⟩
instance : Ec Tryz.prog cf := ⟨ep, I0, 22, 119, 2, Pw, fun _ => rfl, by kernel_rfl, by kernel_rfl, by kernel_rfl, by kernel_rfl, Cv⟩
instance : Ec Tryz.prog bn := ⟨az, Cq, 25, 134, 6, Px, fun _ => rfl, by kernel_rfl, by kernel_rfl, by kernel_rfl, by kernel_rfl, Cw⟩
instance : Ec Tryz.prog af := ⟨au, pE, 28, 47, 6, Pv, fun x => by rw [fj]; rfl, by kernel_rfl, by kernel_rfl, by kernel_rfl, by kernel_rfl, Cu⟩
instance : Ec Tryz.prog bT := ⟨aZ, FQ, 44, 131, 8, Sy, fun x => by rw [mB]; rfl, by kernel_rfl, by kernel_rfl, by kernel_rfl, by kernel_rfl, D3⟩
instance : Ec Tryz.prog aC := ⟨ar, xH, 31, 56, 5, cB, fun _ => rfl, by kernel_rfl, by kernel_rfl, by kernel_rfl, by kernel_rfl, zW⟩
instance : Ec Tryz.prog dw := ⟨fP, I1, 246, 249, 4, zQ, fun _ => rfl, by kernel_rfl, by kernel_rfl, by kernel_rfl, by kernel_rfl, Cx⟩
theorem zL {Q:gL→ag→Prop}{s:St}(n:Nat)(enc:α→AV)(l:List α)(q:SX Tryz.prog Q (ak (aI (l.length:Int)) none (ab T0 Tryz.prog n s)))(h:NU Tryz.prog (ab T0 Tryz.prog n s)=some (aI ((l.map enc).length:Nat)):=by kernel_rfl):SX Tryz.prog Q s:=
 wT EE n _ _ h (JU enc l) q
section
variable {s : St} {R α : Type} {Q : R → gL → ag → Prop} {f : Option R}
variable {i : Int} {xs : LT}
theorem aj6 (n id:Nat){F:Term→Option R}(q:∀ x,bQ xs i=some x→SY T0 Tryz.prog Q (eH (fun S=>.val (.ptr id (0+i.toNat) 0) S) (ab T0 Tryz.prog n s)) (F x))(b:yH Tryz.prog (ab T0 Tryz.prog n s)=w4 Tryz.prog (fe (ab T0 Tryz.prog n s)) 52 (.ai id 0 xs.length) (aI i):=by kernel_rfl)(c:j7 (.val (.ptr id (0+i.toNat) 0) (fe (ab T0 Tryz.prog n s))) (ab T0 Tryz.prog n s)=true:=by kernel_rfl)(d:(fe (ab T0 Tryz.prog n s)).get id=some (oT xs):=by kernel_rfl):SY T0 Tryz.prog Q s (bQ xs i>>=F):=fun r h=>by
 obtain⟨x,a,h⟩:=sq h
 exact bF EE n (fun S=>w4 Tryz.prog S 52 (.ai id 0 xs.length) (aI i)) (fun S=>.val (.ptr id (0+i.toNat) 0) S) b c (lK (xs:=xs) (es:=xs.map cI) (el:=54) (n:=3) a rfl (by kernel_rfl) (by kernel_rfl) d) (q x a r h)
theorem auw (n id:Nat)(x' : Term){F:Term→Option R}(q:∀ x,SY T0 Tryz.prog Q (eH (fun S=>.skip (S.set id (oT (xs.set i.toNat x')))) (ab T0 Tryz.prog n s)) (F x))(a:yH Tryz.prog (ab T0 Tryz.prog n s)=Lh Tryz.prog (fe (ab T0 Tryz.prog n s)) 54 (.ptr id (0+i.toNat) 0) (aK x'):=by kernel_rfl)(b:j7 (.skip ((fe (ab T0 Tryz.prog n s)).set id (oT (xs.set i.toNat x')))) (ab T0 Tryz.prog n s)=true:=by kernel_rfl)(c:(fe (ab T0 Tryz.prog n s)).get id=some (oT xs):=by kernel_rfl)(d:Nat.ble (fe (ab T0 Tryz.prog n s)).lim id=true:=by kernel_rfl):SY T0 Tryz.prog Q s (bQ xs i>>=F):=fun r h=>by
 obtain⟨x,e,h⟩:=sq h
 exact bF EE n (fun S=>Lh Tryz.prog S 54 (.ptr id (0+i.toNat) 0) (aK x')) (fun S=>.skip (S.set id (oT (xs.set i.toNat x')))) a b (py (n:=3) (m:=3) (enc:=cI) (xs:=xs) (i:=i) (x' := x') e c (ga x) (by kernel_rfl) (by simp only[aY];exact⟨⟨⟨by kernel_rfl,by kernel_rfl⟩,by kernel_rfl⟩,d⟩) (by rw[kP];rfl)) (q x r h)
theorem asV (n id:Nat)(v:LT){F:Term→Option R}(q:∀ x:Term,SY T0 Tryz.prog Q (eH (fun S=>.skip (S.set id (oT (xs.set i.toNat (.mk x.Op x.N v))))) (ab T0 Tryz.prog n s)) (F x))(a:yH Tryz.prog (ab T0 Tryz.prog n s)=Lh Tryz.prog (fe (ab T0 Tryz.prog n s)) 52 (.ptr id (0+i.toNat) 2) (aT v):=by kernel_rfl)(b:∀ x:Term,j7 (.skip ((fe (ab T0 Tryz.prog n s)).set id (oT (xs.set i.toNat (.mk x.Op x.N v))))) (ab T0 Tryz.prog n s)=true:=by intro x;kernel_rfl)(c:(fe (ab T0 Tryz.prog n s)).get id=some (oT xs):=by kernel_rfl)(d:Nat.ble (fe (ab T0 Tryz.prog n s)).lim id=true:=by kernel_rfl):SY T0 Tryz.prog Q s (bQ xs i>>=F):=fun r h=>by
 obtain⟨x,e,h⟩:=sq h
 exact bF EE n (fun S=>Lh Tryz.prog S 52 (.ptr id (0+i.toNat) 2) (aT v)) (fun S=>.skip (S.set id (oT (xs.set i.toNat (.mk x.Op x.N v))))) a (b x) (py (n:=3) (m:=1) (enc:=cI) (xs:=xs) (i:=i) (x' := .mk x.Op x.N v) e c (ga x) (by kernel_rfl) (by simp only[aY];exact⟨⟨⟨by kernel_rfl,by kernel_rfl⟩,by kernel_rfl⟩,d⟩) (by rw[kP];rfl)) (q x r h)
end
end
end Go.Eng
namespace Go.Proofs
open Go.Shelf
def Tryz.Py : Go.Shelf.Ren:=⟨fun | 189=>65 | 125=>103 | 257=>102 | 128=>168 | 129=>169 | 294=>159 | 295=>160 | 296=>161 | 297=>162 | 298=>163 | 299=>164 | 216=>165 | 300=>166 | 301=>167 | 328=>245 | 329=>246 | 330=>247 | 331=>248 | 332=>249 | 215=>250 | 343=>300 | n=>n,fun | 28=>45 | 3=>3 | 46=>197 | 0=>0 | 51=>276 | 53=>278 | 4=>4 | 183=>269 | 182=>268 | 131=>273 | 5=>5 | 9=>9 | 218=>357 | 222=>361 | 228=>407 | 229=>408 | n=>n,fun | n=>n⟩
theorem Tryz.UP : Go.Proofs.Lays.n189 Tryz.prog Tryz.Py:={
 mixed:=by kernel_rfl
 f125:=Tryz.func103.trans (congrArg some (by kernel_rfl))
 f128:=Tryz.func168.trans (congrArg some (by kernel_rfl))
 f129:=Tryz.func169.trans (congrArg some (by kernel_rfl))
 f189:=Tryz.func65.trans (congrArg some (by kernel_rfl))
 f215:=Tryz.func250.trans (congrArg some (by kernel_rfl))
 f216:=Tryz.func165.trans (congrArg some (by kernel_rfl))
 f257:=Tryz.func102.trans (congrArg some (by kernel_rfl))
 f294:=Tryz.func159.trans (congrArg some (by kernel_rfl))
 f295:=Tryz.func160.trans (congrArg some (by kernel_rfl))
 f296:=Tryz.func161.trans (congrArg some (by kernel_rfl))
 f297:=Tryz.func162.trans (congrArg some (by kernel_rfl))
 f298:=Tryz.func163.trans (congrArg some (by kernel_rfl))
 f299:=Tryz.func164.trans (congrArg some (by kernel_rfl))
 f300:=Tryz.func166.trans (congrArg some (by kernel_rfl))
 f301:=Tryz.func167.trans (congrArg some (by kernel_rfl))
 f328:=Tryz.func245.trans (congrArg some (by kernel_rfl))
 f329:=Tryz.func246.trans (congrArg some (by kernel_rfl))
 f330:=Tryz.func247.trans (congrArg some (by kernel_rfl))
 f331:=Tryz.func248.trans (congrArg some (by kernel_rfl))
 f332:=Tryz.func249.trans (congrArg some (by kernel_rfl))
 f343:=Tryz.func300.trans (congrArg some (by kernel_rfl))
 t0:=Tryz.underlying0
 a0:=Tryz.isAgg0
 z0:=Tryz.sizeOf0
 v0:=Tryz.zeroValue0
 t3:=Tryz.underlying3
 a3:=Tryz.isAgg3
 z3:=Tryz.sizeOf3
 v3:=Tryz.zeroValue3
 t4:=Tryz.underlying4
 a4:=Tryz.isAgg4
 z4:=Tryz.sizeOf4
 v4:=Tryz.zeroValue4
 t5:=Tryz.underlying5
 a5:=Tryz.isAgg5
 z5:=Tryz.sizeOf5
 v5:=Tryz.zeroValue5
 t9:=Tryz.underlying9
 a9:=Tryz.isAgg9
 z9:=Tryz.sizeOf9
 v9:=Tryz.zeroValue9
 t28:=Tryz.underlying45
 a28:=Tryz.isAgg45
 z28:=Tryz.sizeOf45
 v28:=Tryz.zeroValue45
 t46:=Tryz.underlying197
 a46:=Tryz.isAgg197
 z46:=Tryz.sizeOf197
 v46:=Tryz.zeroValue197
 t51:=Tryz.underlying276
 a51:=Tryz.isAgg276
 z51:=Tryz.sizeOf276
 v51:=Tryz.zeroValue276
 t53:=Tryz.underlying278
 a53:=Tryz.isAgg278
 z53:=Tryz.sizeOf278
 v53:=Tryz.zeroValue278
 t131:=Tryz.underlying273
 a131:=Tryz.isAgg273
 z131:=Tryz.sizeOf273
 v131:=Tryz.zeroValue273
 t182:=Tryz.underlying268
 a182:=Tryz.isAgg268
 z182:=Tryz.sizeOf268
 v182:=Tryz.zeroValue268
 t183:=Tryz.underlying269
 a183:=Tryz.isAgg269
 z183:=Tryz.sizeOf269
 v183:=Tryz.zeroValue269
 t218:=Tryz.underlying357
 a218:=Tryz.isAgg357
 z218:=Tryz.sizeOf357
 v218:=Tryz.zeroValue357
 t222:=Tryz.underlying361
 a222:=Tryz.isAgg361
 z222:=Tryz.sizeOf361
 v222:=Tryz.zeroValue361
 t228:=Tryz.underlying407
 a228:=Tryz.isAgg407
 z228:=Tryz.sizeOf407
 v228:=Tryz.zeroValue407
 t229:=Tryz.underlying408
 a229:=Tryz.isAgg408
 z229:=Tryz.sizeOf408
 v229:=Tryz.zeroValue408 }
end Go.Proofs

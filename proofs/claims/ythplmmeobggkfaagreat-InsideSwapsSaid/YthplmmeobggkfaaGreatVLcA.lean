/- The structures of the data and how they are laid; no conditions. -/
import Derived.Test.YthplmmeobggkfaaGreatVChkTab
import Derived.Test.YthplmmeobggkfaaGreatVEngD
import Derived.Test.YthplmmeobggkfaaGreatVEngF
set_option linter.all false
namespace Go.Eng
open Go.Proofs
theorem EE : cU T0 Tryz.prog:=⟨T0.ok,mixed⟩
end Go.Eng
namespace Go.Eng
mutual
inductive af where
 | mk (Op : Int) (Var : Int) (bl : (List bS)) (Kids : (List af)) (bY : Int) (bg : (List Int))
inductive bS where
 | mk (BH : Int) (bg : (List Int)) (fb : af)
end
def af.Op : af→Int
 | .mk x _ _ _ _ _=>x
def af.Var : af→Int
 | .mk _ x _ _ _ _=>x
def af.bl : af→(List bS)
 | .mk _ _ x _ _ _=>x
def af.Kids : af→(List af)
 | .mk _ _ _ x _ _=>x
def af.bY : af→Int
 | .mk _ _ _ _ x _=>x
def af.bg : af→(List Int)
 | .mk _ _ _ _ _ x=>x
def bS.BH : bS→Int
 | .mk x _ _=>x
def bS.bg : bS→(List Int)
 | .mk _ x _=>x
def bS.fb : bS→af
 | .mk _ _ x=>x
mutual
def kT : af→List AV
 | .mk Op Var bl Kids bY bg=>[.sc (.int .i64 Op),.sc (.int .i64 Var),.lit (ky bl),.lit (jG Kids),.sc (.int .i64 bY),.lit (bg.map (az .i64))]
def jG : List af→List AV
 | []=>[]
 | t::l=>.agg (kT t)::jG l
def qN : bS→List AV
 | .mk BH bg fb=>.sc (.int .i64 BH) :: .lit (bg.map (az .i64))::kT fb
def ky : List bS→List AV
 | []=>[]
 | t::l=>.agg (qN t)::ky l
end
def au (x:af):AV:=.agg (kT x)
def aZ (x:bS):AV:=.agg (qN x)
theorem DT (l:List af):jG l=l.map au:=by
 induction l with
 | nil=>simp[jG]
 | cons a l b=>simp[jG,au,b]
theorem Gt (l:List bS):ky l=l.map aZ:=by
 induction l with
 | nil=>simp[ky]
 | cons a l b=>simp[ky,aZ,b]
def pz (x:af):List AV:=[.sc (.int .i64 x.Op),.sc (.int .i64 x.Var),.lit (x.bl.map aZ),.lit (x.Kids.map au),.sc (.int .i64 x.bY),.lit (x.bg.map (az .i64))]
def FI (x:bS):List AV:=[.sc (.int .i64 x.BH),.lit (x.bg.map (az .i64)),.sc (.int .i64 x.fb.Op),.sc (.int .i64 x.fb.Var),.lit (x.fb.bl.map aZ),.lit (x.fb.Kids.map au),.sc (.int .i64 x.fb.bY),.lit (x.fb.bg.map (az .i64))]
theorem q6 (x:af):kT x=pz x:=by
 cases x
 simp only[kT,Gt,DT,pz]
 rfl
theorem fh (x:af):(au x).cells=pz x:=by
 simp only[au,AV.cells,q6]
theorem Gu (x:af):au x=.agg [.sc (.int .i64 x.Op),.sc (.int .i64 x.Var),.lit (x.bl.map aZ),.lit (x.Kids.map au),.sc (.int .i64 x.bY),.lit (x.bg.map (az .i64))]:=by
 simp only[au,q6,pz]
theorem mr (x:bS):(aZ x).cells=FI x:=by
 cases x
 simp only[aZ,AV.cells,qN,q6]
 rfl
mutual
theorem oA : ∀ x,cF (kT x)=true
 | .mk Op Var bl Kids bY bg=>by simp[kT,aV,cF,u9 bl,tL Kids,dy,ct]
theorem tL : ∀ l,cF (jG l)=true
 | []=>by simp[jG,cF]
 | t::l=>by simp[jG,aV,cF,oA t,tL l]
theorem va : ∀ x,cF (qN x)=true
 | .mk BH bg fb=>by simp[qN,aV,cF,oA fb,dy,ct]
theorem u9 : ∀ l,cF (ky l)=true
 | []=>by simp[ky,cF]
 | t::l=>by simp[ky,aV,cF,va t,u9 l]
end
@[simp] theorem Cm (x:af):aV (au x)=true:=by simp[au,aV,oA]
@[simp] theorem DU (x:bS):aV (aZ x)=true:=by simp[aZ,aV,va]
@[simp] theorem SW (σ:Nat→Nat)(x:af):(au x).aY σ=au x:=AV.dO (by simp)
@[simp] theorem WC (σ:Nat→Nat)(x:bS):(aZ x).aY σ=aZ x:=AV.dO (by simp)
theorem Pt : CS au pz 6:=⟨fh,fun _=>rfl⟩
theorem Sv : CS aZ FI 8:=⟨mr,fun _=>rfl⟩
instance : Inhabited af := ⟨.mk default default [] [] default default⟩
instance : Inhabited bS := ⟨.mk default default default⟩
inductive Term where
 | mk (Op : Int) (N : Int) (Kids : (List Term))
def Term.Op : Term→Int
 | .mk x _ _=>x
def Term.N : Term→Int
 | .mk _ x _=>x
def Term.Kids : Term→(List Term)
 | .mk _ _ x=>x
mutual
def cH : Term→AV
 | .mk Op N Kids=>.agg [.sc (.int .i64 Op),.sc (.int .i64 N),.lit (qI Kids)]
def qI : List Term→List AV
 | []=>[]
 | t::l=>cH t::qI l
end
theorem Dl (l:List Term):qI l=l.map cH:=by
 induction l with
 | nil=>simp[qI]
 | cons a l b=>simp[qI,b]
theorem fX (x:Term):(cH x).cells=[.sc (.int .i64 x.Op),.sc (.int .i64 x.N),.lit (x.Kids.map cH)]:=by
 cases x
 simp only[cH,Dl,AV.cells]
 rfl
theorem kM (x:Term):cH x=.agg [.sc (.int .i64 x.Op),.sc (.int .i64 x.N),.lit (x.Kids.map cH)]:=by
 cases x
 simp only[cH,Dl]
 rfl
mutual
@[simp] theorem A5 : ∀ x,aV (cH x)=true
 | .mk Op N Kids=>by simp[cH,aV,cF,yY,dy,ct]
theorem yY : ∀ l,cF (qI l)=true
 | []=>by simp[qI,cF]
 | t::l=>by simp[qI,cF,A5 t,yY l]
end
@[simp] theorem ZR (σ:Nat→Nat)(x:Term):(cH x).aY σ=cH x:=AV.dO (by simp)
def Ug (x:Term):List AV:=[.sc (.int .i64 x.Op),.sc (.int .i64 x.N),.lit (x.Kids.map cH)]
theorem OC : CS cH Ug 3:=⟨fX,fun _=>rfl⟩
instance : Inhabited Term := ⟨.mk default default default⟩
structure cf where
 Name : ByteArray
 bu : Int
def ef (x:cf):AV:=.agg [.sc (.string x.Name),.sc (.int .i64 x.bu)]
@[simp] theorem Cn (x:cf):aV (ef x)=true:=by simp[ef,aV,cF,dy,ct]
@[simp] theorem SZ (σ:Nat→Nat)(x:cf):(ef x).aY σ=ef x:=AV.dO (by simp)
def IU (x:cf):List AV:=[.sc (.string x.Name),.sc (.int .i64 x.bu)]
theorem Pu : CS ef IU 2:=⟨fun _=>rfl,fun _=>rfl⟩
instance : Inhabited cf := ⟨.mk default default⟩
structure aE where
 Cons : (List cf)
 bq : (List cf)
def vL (x:aE):AV:=.agg [.lit (x.Cons.map ef),.lit (x.bq.map ef)]
@[simp] theorem S3 (x:aE):aV (vL x)=true:=by simp[vL,aV,cF,dy,ct]
@[simp] theorem WD (σ:Nat→Nat)(x:aE):(vL x).aY σ=vL x:=AV.dO (by simp)
instance : Inhabited aE := ⟨.mk default default⟩
structure bn where
 vl : Int
 cK : (List Term)
 gR : Term
 bg : Int
def ay (x:bn):AV:=.agg [.sc (.int .i64 x.vl),.lit (x.cK.map cH),.sc (.int .i64 x.gR.Op),.sc (.int .i64 x.gR.N),.lit (x.gR.Kids.map cH),.sc (.int .i64 x.bg)]
@[simp] theorem Co (x:bn):aV (ay x)=true:=by simp[ay,aV,cF,dy,ct]
@[simp] theorem S4 (σ:Nat→Nat)(x:bn):(ay x).aY σ=ay x:=AV.dO (by simp)
def Ci (x:bn):List AV:=[.sc (.int .i64 x.vl),.lit (x.cK.map cH),.sc (.int .i64 x.gR.Op),.sc (.int .i64 x.gR.N),.lit (x.gR.Kids.map cH),.sc (.int .i64 x.bg)]
theorem Pv : CS ay Ci 6:=⟨fun _=>rfl,fun _=>rfl⟩
instance : Inhabited bn := ⟨.mk default default default default⟩
structure aJ where
 cy : aE
 aO : (List bn)
def tE (x:aJ):AV:=.agg [.lit (x.cy.Cons.map ef),.lit (x.cy.bq.map ef),.lit (x.aO.map ay)]
@[simp] theorem SO (x:aJ):aV (tE x)=true:=by simp[tE,aV,cF,dy,ct]
@[simp] theorem S5 (σ:Nat→Nat)(x:aJ):(tE x).aY σ=tE x:=AV.dO (by simp)
instance : Inhabited aJ := ⟨.mk default default⟩
structure bA where
 Prog : aJ
 bX : (List af)
def tF (x:bA):AV:=.agg [.lit (x.Prog.cy.Cons.map ef),.lit (x.Prog.cy.bq.map ef),.lit (x.Prog.aO.map ay),.lit (x.bX.map au)]
@[simp] theorem SP (x:bA):aV (tF x)=true:=by simp[tF,aV,cF,dy,ct]
@[simp] theorem S6 (σ:Nat→Nat)(x:bA):(tF x).aY σ=tF x:=AV.dO (by simp)
instance : Inhabited bA := ⟨.mk default default⟩
structure aA where
 Op : Int
 Var : Int
 Expr : Term
def ar (x:aA):AV:=.agg [.sc (.int .i64 x.Op),.sc (.int .i64 x.Var),.sc (.int .i64 x.Expr.Op),.sc (.int .i64 x.Expr.N),.lit (x.Expr.Kids.map cH)]
@[simp] theorem zN (x:aA):aV (ar x)=true:=by simp[ar,aV,cF,dy,ct]
@[simp] theorem Q6 (σ:Nat→Nat)(x:aA):(ar x).aY σ=ar x:=AV.dO (by simp)
def xz (x:aA):List AV:=[.sc (.int .i64 x.Op),.sc (.int .i64 x.Var),.sc (.int .i64 x.Expr.Op),.sc (.int .i64 x.Expr.N),.lit (x.Expr.Kids.map cH)]
theorem cB : CS ar xz 5:=⟨fun _=>rfl,fun _=>rfl⟩
instance : Inhabited aA := ⟨.mk default default default⟩
structure aj where
 Nil : Int
 Cons : Int
 Steps : (List aA)
def qm (x:aj):AV:=.agg [.sc (.int .i64 x.Nil),.sc (.int .i64 x.Cons),.lit (x.Steps.map ar)]
@[simp] theorem P5 (x:aj):aV (qm x)=true:=by simp[qm,aV,cF,dy,ct]
@[simp] theorem Q7 (σ:Nat→Nat)(x:aj):(qm x).aY σ=qm x:=AV.dO (by simp)
instance : Inhabited aj := ⟨.mk default default default⟩
structure bo where
 args : (List Term)
 next : Int
def ou (x:bo):AV:=.agg [.lit (x.args.map cH),.sc (.int .i64 x.next)]
@[simp] theorem NW (x:bo):aV (ou x)=true:=by simp[ou,aV,cF,dy,ct]
@[simp] theorem P6 (σ:Nat→Nat)(x:bo):(ou x).aY σ=ou x:=AV.dO (by simp)
instance : Inhabited bo := ⟨.mk default default⟩
structure du where
 Var : Int
 Term : Term
def fO (x:du):AV:=.agg [.sc (.int .i64 x.Var),.sc (.int .i64 x.Term.Op),.sc (.int .i64 x.Term.N),.lit (x.Term.Kids.map cH)]
@[simp] theorem Cp (x:du):aV (fO x)=true:=by simp[fO,aV,cF,dy,ct]
@[simp] theorem S7 (σ:Nat→Nat)(x:du):(fO x).aY σ=fO x:=AV.dO (by simp)
def IV (x:du):List AV:=[.sc (.int .i64 x.Var),.sc (.int .i64 x.Term.Op),.sc (.int .i64 x.Term.N),.lit (x.Term.Kids.map cH)]
theorem zG : CS fO IV 4:=⟨fun _=>rfl,fun _=>rfl⟩
instance : Inhabited du := ⟨.mk default default⟩
structure bk where
 aE : aE
def nf (x:bk):AV:=.agg [.lit (x.aE.Cons.map ef),.lit (x.aE.bq.map ef)]
@[simp] theorem NP (x:bk):aV (nf x)=true:=by simp[nf,aV,cF,dy,ct]
@[simp] theorem NX (σ:Nat→Nat)(x:bk):(nf x).aY σ=nf x:=AV.dO (by simp)
instance : Inhabited bk := ⟨.mk default⟩
structure di where
 args : (List Term)
 next : Int
def qn (x:di):AV:=.agg [.lit (x.args.map cH),.sc (.int .i64 x.next)]
@[simp] theorem P7 (x:di):aV (qn x)=true:=by simp[qn,aV,cF,dy,ct]
@[simp] theorem Q8 (σ:Nat→Nat)(x:di):(qn x).aY σ=qn x:=AV.dO (by simp)
instance : Inhabited di := ⟨.mk default default⟩
structure ad where
 Op : Int
 N : Int
 Refs : (List Int)
 To : Int
 iV : (List Int)
 bY : Int
 Env : (List Int)
def aF (x:ad):AV:=.agg [.sc (.int .i64 x.Op),.sc (.int .i64 x.N),.lit (x.Refs.map (az .i64)),.sc (.int .i64 x.To),.lit (x.iV.map (az .i64)),.sc (.int .i64 x.bY),.lit (x.Env.map (az .i64))]
@[simp] theorem SQ (x:ad):aV (aF x)=true:=by simp[aF,aV,cF,dy,ct]
@[simp] theorem S8 (σ:Nat→Nat)(x:ad):(aF x).aY σ=aF x:=AV.dO (by simp)
instance : Inhabited ad := ⟨.mk default default default default default default default⟩
structure kb where
 Qp : (List ad)
 W8 : Int
 bg : (List Int)
def rA (x:kb):AV:=.agg [.lit (x.Qp.map aF),.sc (.int .i64 x.W8),.lit (x.bg.map (az .i64))]
@[simp] theorem Q9 (x:kb):aV (rA x)=true:=by simp[rA,aV,cF,dy,ct]
@[simp] theorem SR (σ:Nat→Nat)(x:kb):(rA x).aY σ=rA x:=AV.dO (by simp)
instance : Inhabited kb := ⟨.mk default default default⟩
end Go.Eng
namespace Go.Eng
open Go.Proofs
noncomputable abbrev sN := ab T0 Tryz.prog
end Go.Eng
namespace Go.Eng
open Go.Proofs
noncomputable section
abbrev LI := List Int
abbrev LT := List Term
@[simp] abbrev aI (x:Int):AV:=.sc (.int .i64 x)
@[simp] abbrev aB (x:Bool):AV:=.sc (.bool x)
@[simp] abbrev aP (n:Nat):AV:=.ptr n 0 0
@[simp] abbrev aT (l:LT):AV:=.lit (l.map cH)
@[simp] abbrev aN (l:LI):AV:=.lit (l.map (az .i64))
@[simp] abbrev aM (l:List cf):AV:=.lit (l.map ef)
@[simp] abbrev aG (t:aE):AV:=.agg [aM t.Cons,aM t.bq]
@[simp] abbrev aK (t:Term):AV:=.agg [aI t.Op,aI t.N,aT t.Kids]
@[simp] abbrev oI (x:Int):aL:=.arr 1 [aI x]
@[simp] abbrev oP (n:Nat):aL:=.arr 1 [aP n]
@[simp] abbrev oY (n:Nat):aL:=.arr 1 [.rV n]
@[simp] abbrev oT (l:LT):aL:=.arr 3 (l.map cH)
@[simp] abbrev oG (t:aE):aL:=.arr 2 [aG t]
abbrev mL (l:List (Int×Int)):Nat:=(l.map (cg (az .i64) (az .i64))).length
variable {α : Type}
theorem kr {a b:α}(h:a=b:=by kernel_rfl):a=b:=h
instance : EK Tryz.prog T0 := ⟨EE⟩
theorem cT (x:Term):(cH x).cells.length=3:=by rw[fX];rfl
variable {S : ag}
theorem Ll {i:Nat}{x:Term}(h:S.get i=some (.arr 3 [aK x]):=by kernel_rfl):iT S (.ai i 0 1)=some ([x].map cH):=L6 (es:=[aK x]) (z:=3) (by simp[kM]) rfl h
theorem agz {i:Nat}{x:af}(h:S.get i=some (.arr 6 [.agg [aI x.Op,aI x.Var,.lit (x.bl.map aZ),.lit (x.Kids.map au),aI x.bY,aN x.bg]]):=by kernel_rfl):iT S (.ai i 0 1)=some ([x].map au):=L6 (es:=[.agg [aI x.Op,aI x.Var,.lit (x.bl.map aZ),.lit (x.Kids.map au),aI x.bY,aN x.bg]]) (z:=6) (by simp[Gu]) rfl h
instance : Ec Tryz.prog Int := ⟨az .i64, fun n => [aI n], 45, 3, 1, auj .i64, fun _ => rfl, by kernel_rfl, by kernel_rfl, by kernel_rfl, by kernel_rfl, fun _ => rfl⟩
instance : Ec Tryz.prog ByteArray := ⟨encS, fun n => [.sc (.string n)], 102, 9, 1, asO, fun _ => rfl, by kernel_rfl, by kernel_rfl, by kernel_rfl, by kernel_rfl, fun _ => rfl⟩
instance : Ec Tryz.prog Term := ⟨cH, Ug, 52, 54, 3, OC, fun x => by rw [fX]; rfl, by kernel_rfl, by kernel_rfl, by kernel_rfl, by kernel_rfl, A5⟩
instance : Ec Tryz.prog cf := ⟨ef, IU, 22, 119, 2, Pu, fun _ => rfl, by kernel_rfl, by kernel_rfl, by kernel_rfl, by kernel_rfl, Cn⟩
instance : Ec Tryz.prog bn := ⟨ay, Ci, 25, 134, 6, Pv, fun _ => rfl, by kernel_rfl, by kernel_rfl, by kernel_rfl, by kernel_rfl, Co⟩
instance : Ec Tryz.prog af := ⟨au, pz, 28, 47, 6, Pt, fun x => by rw [fh]; rfl, by kernel_rfl, by kernel_rfl, by kernel_rfl, by kernel_rfl, Cm⟩
instance : Ec Tryz.prog bS := ⟨aZ, FI, 44, 131, 8, Sv, fun x => by rw [mr]; rfl, by kernel_rfl, by kernel_rfl, by kernel_rfl, by kernel_rfl, DU⟩
instance : Ec Tryz.prog aA := ⟨ar, xz, 31, 56, 5, cB, fun _ => rfl, by kernel_rfl, by kernel_rfl, by kernel_rfl, by kernel_rfl, zN⟩
instance : Ec Tryz.prog du := ⟨fO, IV, 246, 249, 4, zG, fun _ => rfl, by kernel_rfl, by kernel_rfl, by kernel_rfl, by kernel_rfl, Cp⟩
theorem zL {Q:gQ→ag→Prop}{s:St}(n:Nat)(enc:α→AV)(l:List α)(q:SX Tryz.prog Q (ak (aI (l.length:Int)) none (ab T0 Tryz.prog n s)))(h:NR Tryz.prog (ab T0 Tryz.prog n s)=some (aI ((l.map enc).length:Nat)):=by kernel_rfl):SX Tryz.prog Q s:=
 wO EE n _ _ h (JM enc l) q
section
variable {s : St} {R α : Type} {Q : R → gQ → ag → Prop} {f : Option R}
variable {i : Int} {xs : LT}
theorem aj5 (n id:Nat){F:Term→Option R}(q:∀ x,bP xs i=some x→SY T0 Tryz.prog Q (eC (fun S=>.val (.ptr id (0+i.toNat) 0) S) (ab T0 Tryz.prog n s)) (F x))(b:yq Tryz.prog (ab T0 Tryz.prog n s)=wS Tryz.prog (e8 (ab T0 Tryz.prog n s)) 52 (.ai id 0 xs.length) (aI i):=by kernel_rfl)(c:j3 (.val (.ptr id (0+i.toNat) 0) (e8 (ab T0 Tryz.prog n s))) (ab T0 Tryz.prog n s)=true:=by kernel_rfl)(d:(e8 (ab T0 Tryz.prog n s)).get id=some (oT xs):=by kernel_rfl):SY T0 Tryz.prog Q s (bP xs i>>=F):=fun r h=>by
 obtain⟨x,a,h⟩:=rZ h
 exact bF EE n (fun S=>wS Tryz.prog S 52 (.ai id 0 xs.length) (aI i)) (fun S=>.val (.ptr id (0+i.toNat) 0) S) b c (lD (xs:=xs) (es:=xs.map cH) (el:=54) (n:=3) a rfl (by kernel_rfl) (by kernel_rfl) d) (q x a r h)
theorem auv (n id:Nat)(x' : Term){F:Term→Option R}(q:∀ x,SY T0 Tryz.prog Q (eC (fun S=>.skip (S.set id (oT (xs.set i.toNat x')))) (ab T0 Tryz.prog n s)) (F x))(a:yq Tryz.prog (ab T0 Tryz.prog n s)=Lb Tryz.prog (e8 (ab T0 Tryz.prog n s)) 54 (.ptr id (0+i.toNat) 0) (aK x'):=by kernel_rfl)(b:j3 (.skip ((e8 (ab T0 Tryz.prog n s)).set id (oT (xs.set i.toNat x')))) (ab T0 Tryz.prog n s)=true:=by kernel_rfl)(c:(e8 (ab T0 Tryz.prog n s)).get id=some (oT xs):=by kernel_rfl)(d:Nat.ble (e8 (ab T0 Tryz.prog n s)).lim id=true:=by kernel_rfl):SY T0 Tryz.prog Q s (bP xs i>>=F):=fun r h=>by
 obtain⟨x,e,h⟩:=rZ h
 exact bF EE n (fun S=>Lb Tryz.prog S 54 (.ptr id (0+i.toNat) 0) (aK x')) (fun S=>.skip (S.set id (oT (xs.set i.toNat x')))) a b (pq (n:=3) (m:=3) (enc:=cH) (xs:=xs) (i:=i) (x' := x') e c (fX x) (by kernel_rfl) (by simp only[aS];exact⟨⟨⟨by kernel_rfl,by kernel_rfl⟩,by kernel_rfl⟩,d⟩) (by rw[kM];rfl)) (q x r h)
theorem asU (n id:Nat)(v:LT){F:Term→Option R}(q:∀ x:Term,SY T0 Tryz.prog Q (eC (fun S=>.skip (S.set id (oT (xs.set i.toNat (.mk x.Op x.N v))))) (ab T0 Tryz.prog n s)) (F x))(a:yq Tryz.prog (ab T0 Tryz.prog n s)=Lb Tryz.prog (e8 (ab T0 Tryz.prog n s)) 52 (.ptr id (0+i.toNat) 2) (aT v):=by kernel_rfl)(b:∀ x:Term,j3 (.skip ((e8 (ab T0 Tryz.prog n s)).set id (oT (xs.set i.toNat (.mk x.Op x.N v))))) (ab T0 Tryz.prog n s)=true:=by intro x;kernel_rfl)(c:(e8 (ab T0 Tryz.prog n s)).get id=some (oT xs):=by kernel_rfl)(d:Nat.ble (e8 (ab T0 Tryz.prog n s)).lim id=true:=by kernel_rfl):SY T0 Tryz.prog Q s (bP xs i>>=F):=fun r h=>by
 obtain⟨x,e,h⟩:=rZ h
 exact bF EE n (fun S=>Lb Tryz.prog S 52 (.ptr id (0+i.toNat) 2) (aT v)) (fun S=>.skip (S.set id (oT (xs.set i.toNat (.mk x.Op x.N v))))) a (b x) (pq (n:=3) (m:=1) (enc:=cH) (xs:=xs) (i:=i) (x' := .mk x.Op x.N v) e c (fX x) (by kernel_rfl) (by simp only[aS];exact⟨⟨⟨by kernel_rfl,by kernel_rfl⟩,by kernel_rfl⟩,d⟩) (by rw[kM];rfl)) (q x r h)
end
end
end Go.Eng
namespace Go.Proofs
open Go.Shelf
def Tryz.Pw : Go.Shelf.Ren:=⟨fun | 189=>65 | 125=>103 | 257=>102 | 128=>168 | 129=>169 | 294=>159 | 295=>160 | 296=>161 | 297=>162 | 298=>163 | 299=>164 | 216=>165 | 300=>166 | 301=>167 | 328=>245 | 329=>246 | 330=>247 | 331=>248 | 332=>249 | 215=>250 | 343=>300 | n=>n,fun | 28=>45 | 3=>3 | 46=>197 | 0=>0 | 51=>276 | 53=>278 | 4=>4 | 183=>269 | 182=>268 | 131=>273 | 5=>5 | 9=>9 | 218=>357 | 222=>361 | 228=>407 | 229=>408 | n=>n,fun | n=>n⟩
theorem Tryz.UM : Go.Proofs.Lays.n189 Tryz.prog Tryz.Pw:={
 mixed:=by kernel_rfl
 f125:=Tryz.func103.trans (congrArg some (by kernel_rfl))
 f128:=Tryz.func168.trans (congrArg some (by kernel_rfl))
 f129:=Tryz.func169.trans (congrArg some (by kernel_rfl))
 f189:=Tryz.func65.trans (congrArg some (by kernel_rfl))
 f215:=Tryz.func250.trans (congrArg some (by kernel_rfl))
 f216:=Tryz.func165.trans (congrArg some (by kernel_rfl))
 f257:=Tryz.func102.trans (congrArg some (by kernel_rfl))
 f294:=Tryz.func159.trans (congrArg some (by kernel_rfl))
 f295:=Tryz.func160.trans (congrArg some (by kernel_rfl))
 f296:=Tryz.func161.trans (congrArg some (by kernel_rfl))
 f297:=Tryz.func162.trans (congrArg some (by kernel_rfl))
 f298:=Tryz.func163.trans (congrArg some (by kernel_rfl))
 f299:=Tryz.func164.trans (congrArg some (by kernel_rfl))
 f300:=Tryz.func166.trans (congrArg some (by kernel_rfl))
 f301:=Tryz.func167.trans (congrArg some (by kernel_rfl))
 f328:=Tryz.func245.trans (congrArg some (by kernel_rfl))
 f329:=Tryz.func246.trans (congrArg some (by kernel_rfl))
 f330:=Tryz.func247.trans (congrArg some (by kernel_rfl))
 f331:=Tryz.func248.trans (congrArg some (by kernel_rfl))
 f332:=Tryz.func249.trans (congrArg some (by kernel_rfl))
 f343:=Tryz.func300.trans (congrArg some (by kernel_rfl))
 t0:=Tryz.underlying0
 a0:=Tryz.isAgg0
 z0:=Tryz.sizeOf0
 v0:=Tryz.zeroValue0
 t3:=Tryz.underlying3
 a3:=Tryz.isAgg3
 z3:=Tryz.sizeOf3
 v3:=Tryz.zeroValue3
 t4:=Tryz.underlying4
 a4:=Tryz.isAgg4
 z4:=Tryz.sizeOf4
 v4:=Tryz.zeroValue4
 t5:=Tryz.underlying5
 a5:=Tryz.isAgg5
 z5:=Tryz.sizeOf5
 v5:=Tryz.zeroValue5
 t9:=Tryz.underlying9
 a9:=Tryz.isAgg9
 z9:=Tryz.sizeOf9
 v9:=Tryz.zeroValue9
 t28:=Tryz.underlying45
 a28:=Tryz.isAgg45
 z28:=Tryz.sizeOf45
 v28:=Tryz.zeroValue45
 t46:=Tryz.underlying197
 a46:=Tryz.isAgg197
 z46:=Tryz.sizeOf197
 v46:=Tryz.zeroValue197
 t51:=Tryz.underlying276
 a51:=Tryz.isAgg276
 z51:=Tryz.sizeOf276
 v51:=Tryz.zeroValue276
 t53:=Tryz.underlying278
 a53:=Tryz.isAgg278
 z53:=Tryz.sizeOf278
 v53:=Tryz.zeroValue278
 t131:=Tryz.underlying273
 a131:=Tryz.isAgg273
 z131:=Tryz.sizeOf273
 v131:=Tryz.zeroValue273
 t182:=Tryz.underlying268
 a182:=Tryz.isAgg268
 z182:=Tryz.sizeOf268
 v182:=Tryz.zeroValue268
 t183:=Tryz.underlying269
 a183:=Tryz.isAgg269
 z183:=Tryz.sizeOf269
 v183:=Tryz.zeroValue269
 t218:=Tryz.underlying357
 a218:=Tryz.isAgg357
 z218:=Tryz.sizeOf357
 v218:=Tryz.zeroValue357
 t222:=Tryz.underlying361
 a222:=Tryz.isAgg361
 z222:=Tryz.sizeOf361
 v222:=Tryz.zeroValue361
 t228:=Tryz.underlying407
 a228:=Tryz.isAgg407
 z228:=Tryz.sizeOf407
 v228:=Tryz.zeroValue407
 t229:=Tryz.underlying408
 a229:=Tryz.isAgg408
 z229:=Tryz.sizeOf408
 v229:=Tryz.zeroValue408 }
end Go.Proofs

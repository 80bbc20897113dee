/- The law holds of the lifted functions on all data; no conditions. -/
import Derived.Test.YthplmmeobggkfaaGreatVLawA
import Derived.KernelRfl
set_option linter.all false
namespace Go.Eng
open Go.Proofs
set_option synthInstance.maxSize 100000
set_option synthInstance.maxHeartbeats 400000
set_option maxRecDepth 100000
noncomputable section
mutual
def qC : af→Int
 | .mk _ _ al a _ _=>1+lL a+nN al
def lL : List af→Int
 | []=>0
 | t::l=>qC t+lL l
def nN : List bS→Int
 | []=>0
 | a::l=>TT a+nN l
def TT : bS→Int
 | .mk _ _ t=>qC t
end
mutual
def NV : af→Int
 | .mk _ _ al a _ _=>1+max (DN a) (BW al)
def DN : List af→Int
 | []=>0
 | t::l=>max (NV t) (DN l)
def BW : List bS→Int
 | []=>0
 | a::l=>max (TU a) (BW l)
def TU : bS→Int
 | .mk _ _ t=>NV t
end
theorem zy (t:af):qC t=1+lL t.Kids+nN t.bl:=by cases t;rw[qC];rfl
theorem UR (t:af):NV t=1+max (DN t.Kids) (BW t.bl):=by cases t;rw[NV];rfl
theorem tw (a:bS):TT a=qC a.fb:=by cases a;rw[TT];rfl
theorem QV (a:bS):TU a=NV a.fb:=by cases a;rw[TU];rfl
mutual
theorem nc : ∀ t:af,1≤qC t∧1≤NV t
 | .mk _ _ al a _ _=>by have:=jw a;have:=jx al;simp only[qC,NV];omega
theorem jw : ∀ l:List af,0≤lL l∧0≤DN l∧(l.length:Int)≤lL l
 | []=>by simp[lL,DN]
 | t::l=>by have:=nc t;have:=jw l;simp only[lL,DN,pk];omega
theorem jx : ∀ l:List bS,0≤nN l∧0≤BW l∧(l.length:Int)≤nN l
 | []=>by simp[nN,BW]
 | a::l=>by have:=Mf a;have:=jx l;simp only[nN,BW,pk];omega
theorem Mf : ∀ a:bS,1≤TT a∧1≤TU a
 | .mk _ _ t=>by have:=nc t;simp only[TT,TU];omega
end
mutual
theorem Ak {P:af→Prop}(h:∀ t:af,(∀ x,x∈t.Kids→P x)→(∀ a,a∈t.bl→P a.fb)→P t):∀ t,P t
 | .mk _ _ al b _ _=>h _ (US h b) (UT h al)
theorem US {P:af→Prop}(h:∀ t:af,(∀ x,x∈t.Kids→P x)→(∀ a,a∈t.bl→P a.fb)→P t):∀(l:List af) (x:af),x∈l→P x
 | t::l,x,hx=>(dE.1 hx).elim (fun e=>e▸Ak h t) (US h l x)
theorem UT {P:af→Prop}(h:∀ t:af,(∀ x,x∈t.Kids→P x)→(∀ a,a∈t.bl→P a.fb)→P t):∀(l:List bS) (a:bS),a∈l→P a.fb
 | .mk _ _ t::l,a,ha=>(dE.1 ha).elim (fun e=>e▸Ak h t) (UT h l a)
end
def fW (t:af):Prop:=∀ n d:Int,n≤1000000→0≤d→d≤1000000→ll t n d=some (if qC t≤n∧NV t≤d then n-qC t else -1)
theorem JU (t:af)(d:Int)(i:Int):gA t d i (-1)=some (-1):=by
 rw[gA]
 split
 · grind
 · rfl
theorem av0 (t:af)(d:Int)(h1:1≤d)(h2:d≤1000000)(m:∀ a,a∈t.bl→fW a.fb) :
   ∀(k i:Nat) (b:Int),t.bl.length-i=k→i≤t.bl.length→0≤b→i+b≤1000000→gA t d i b=some (if nN (t.bl.drop i)≤b∧BW (t.bl.drop i)≤d-1 then b-nN (t.bl.drop i) else -1):=by
 intro k
 induction k with
 | zero=>
   intro i b o hi hb g
   rw[gA,jM,show i=t.bl.length by omega,fu,nN,BW,if_pos ⟨hb,by omega⟩]
   simp
 | succ k j=>
   intro i b o hi hb g
   have h:i<t.bl.length:=by omega
   rw[gA,e9,if_pos (by simpa using hb),aU h]
   simp only[aW,aD]
   rw[if_pos fK,m _ (cM h) _ _ (by omega) (by omega) (by omega)]
   simp only[aD]
   rw[if_pos fK,db h,nN,BW,tw,QV,tj]
   have q:=nc t.bl[i].fb
   have r:=jx (t.bl.drop (i+1))
   split
   · rename_i c
     rw[j (i+1) _ (by omega) (by omega) (by omega) (by omega)]
     congr 1
     split<;>split<;>omega
   · rename_i c
     rw[if_neg (by omega),JU]
theorem av1 (t:af)(d:Int)(h1:1≤d)(h2:d≤1000000)(o:∀ x,x∈t.Kids→fW x)(g:∀ a,a∈t.bl→fW a.fb) :
   ∀(k i:Nat) (b:Int),t.Kids.length-i=k→i≤t.Kids.length→0≤b→i+b≤1000000→jy t d i b=some (if lL (t.Kids.drop i)+nN t.bl≤b∧max (DN (t.Kids.drop i)) (BW t.bl)≤d-1 then b-(lL (t.Kids.drop i)+nN t.bl) else -1):=by
 have ha:=jx t.bl
 intro k
 induction k with
 | zero=>
   intro i b q hi hb j
   have:=av0 t d h1 h2 g t.bl.length 0 b rfl (bW _) hb (by omega)
   rw[jj] at this
   rw[jy,jM,show i=t.Kids.length by omega,fu,lL,DN]
   grind
 | succ k m=>
   intro i b q hi hb j
   have h:i<t.Kids.length:=by omega
   rw[jy,e9,if_pos (by simpa using hb),aU h]
   simp only[aW,aD]
   rw[if_pos fK,o _ (cM h) _ _ (by omega) (by omega) (by omega)]
   simp only[aD]
   rw[if_pos fK,db h,lL,DN,tj]
   have r:=nc t.Kids[i]
   have u:=jw (t.Kids.drop (i+1))
   split
   · rename_i c
     rw[m (i+1) _ (by omega) (by omega) (by omega) (by omega)]
     congr 1
     split<;>split<;>omega
   · rename_i c
     rw[if_neg (by omega),jy]
     split
     · rw[if_neg (by simp),JU]
     · rw[JU]
theorem I3 (t:af):fW t:=by
 refine Ak (P:=fW) (fun t g a=>?_) t
 intro n d i h b
 have j:=nc t
 rw[ll]
 split
 · grind
 · rename_i c
   split
   · grind
   · rename_i c2
     simp at c c2
     have:=av1 t d (by omega) b g a t.Kids.length 0 (n-1) rfl (bW _) (by omega) (by omega)
     rw[jj] at this
     rw[if_pos fK,zy,UR]
     grind
mutual
def vt (p:af→Bool)(q:bS→Bool):af→Bool
 | .mk o v al a r b=>p (.mk o v al a r b)&&(Ir p q al&&Is p q a)
def Is (p:af→Bool)(q:bS→Bool):List af→Bool
 | []=>true
 | t::l=>vt p q t&&Is p q l
def Ir (p:af→Bool)(q:bS→Bool):List bS→Bool
 | []=>true
 | a::l=>Ul p q a&&Ir p q l
def Ul (p:af→Bool)(q:bS→Bool):bS→Bool
 | .mk c a t=>q (.mk c a t)&&vt p q t
end
theorem QW (p:af→Bool)(q:bS→Bool)(t:af):vt p q t=(p t&&(Ir p q t.bl&&Is p q t.Kids)):=by cases t;rw[vt];rfl
theorem Wg (p:af→Bool)(q:bS→Bool)(a:bS):Ul p q a=(q a&&vt p q a.fb):=by cases a;rw[Ul];rfl
theorem FM (p:af→Bool)(q:bS→Bool):∀ l,Is p q l=l.all (vt p q)
 | []=>by simp[Is]
 | t::l=>by simp[Is,FM p q l]
theorem FN (p:af→Bool)(q:bS→Bool):∀ l,Ir p q l=l.all fun a=>q a&&vt p q a.fb
 | []=>by simp[Ir]
 | t::l=>by simp[Ir,FN p q l,Wg]
def wX (t:af):Bool:=decide ((t.bg.length:Int)≤30)
def wY (a:bS):Bool:=decide ((a.bg.length:Int)≤10)
theorem uQ : ∀(l:List af) (x:af),x∈l→qC x≤lL l
 | t::l,x,hx=>by
   have:=nc t
   have:=jw l
   simp only[lL]
   rcases dE.1 hx with rfl | hx
   · omega
   · have:=uQ l x hx;omega
theorem uR : ∀(l:List bS) (a:bS),a∈l→qC a.fb≤nN l
 | t::l,a,hx=>by
   have:=Mf t
   have:=jx l
   simp only[nN]
   rcases dE.1 hx with rfl | hx
   · rw[tw];omega
   · have:=uR l a hx;omega
theorem Wh (t:af):qC t≤1000→lr t=some (vt wX wY t):=by
 refine Ak (P:=fun t=>qC t≤1000→lr t=some (vt wX wY t)) (fun t d b g=>?_) t
 have m:=jw t.Kids
 have o:=jx t.bl
 rw[zy] at g
 have h:jz t 0=some (t.Kids.all (vt wX wY)):=
   (od (vt wX wY) (jz t) (fun i=>by rw[jz]) (fun x hx=>d x hx (by have:=uQ _ x hx;omega)) (by omega)).trans (BV _)
 have j:jA t 0=some ((t.bl.all fun a=>wY a&&vt wX wY a.fb)&&t.Kids.all (vt wX wY)):=by
   refine(pc (l:=t.bl) (q:=fun a=>wY a&&vt wX wY a.fb) (e:=some (t.Kids.all (vt wX wY))) (f:=some false) (jA t) (fun i hi=>?_) (by rw[jA,if_neg (by simp),h])).trans ?_
   · have hx:=cM hi
     rw[jA,e9,aU hi]
     simp only[aW,aD,b _ hx (by have:=uR _ _ hx;omega)]
     rw[if_pos fK]
     by_cases c:(t.bl[i].bg.length:Int)≤10
     · rw[jM]
       by_cases c2:vt wX wY t.bl[i].fb=true
       · simp only[c2,if_true,wY,c,decide_true,j6]
       · simp[c2]
     · rw[e9]
       have:wY t.bl[i]=false:=by simpa [wY] using c
       simp[this]
   all_goals grind
 rw[lr,QW,FN,FM,j]
 by_cases c:(t.bg.length:Int)≤30
 · rw[jM]
   have:wX t=true:=by simpa [wX] using c
   rw[this,j6]
 · rw[e9]
   have:wX t=false:=by simpa [wX] using c
   rw[this,Bool.false_and]
def Fy (t:af):Bool:=decide (qC t≤130)&&decide (NV t≤130)&&vt wX wY t
theorem K1 (t:af):qo t=some (Fy t):=by
 rw[qo,I3 t 130 130 (by omega) (by omega) (by omega)]
 simp only[aW,aD,Fy]
 by_cases h:qC t≤130∧NV t≤130
 · rw[if_pos h,e9,Wh t (by omega)]
   grind
 all_goals grind
def ru (p:bA):Bool:=decide (p.bX.length≤12)&&p.bX.all Fy&&uj p.Prog
theorem K2 (p:bA):qw p=some (ru p):=by
 rw[qw]
 refine(Uk (l:=p.bX) (q:=Fy) (e:=uj p.Prog&&decide ((p.bX.length:Int)≤12)) 12 (fF p) (fun i hi a=>?_) ?_ (fun i hi a=>?_) (fun h=>by simp;omega)).trans ?_
 · rw[fF,e9,e9,aU hi]
   simp only[aW,aD,K1]
   rw[if_pos fK]
 · rw[fF,if_neg (by simp),vf]
   grind
 · rw[fF,e9,jM,vf]
   grind
 all_goals grind[ru]
def x6 (p:aj):Bool:=(p.Steps.all fun s=>ui s.Expr)&&decide (p.Steps.length≤8)
theorem K3 (p:aj)(a:p.Steps.length≤9223372036854775807):qy p=some (x6 p):=by
 rw[qy]
 refine(od (l:=p.Steps) (p:=fun s=>pA s.Expr) (fun s=>ui s.Expr) (e:=some (decide (p.Steps.length≤8))) (iA p) (fun i=>?_) (fun x _=>FK x.Expr) (by omega)).trans ?_
 · rw[iA]
   grind
 · simp only[x6]
   grind
def nB (t:Term):Bool := !decide (t.Op=8)
theorem Y4 (t:Term):dJ t≤1000000→qK t=some (cA nB t):=by
 refine fT (P:=fun t=>dJ t≤1000000→qK t=some (cA nB t)) (fun t a b=>?_) t
 have c:=dX t.Kids
 rw[eE] at b
 rw[qK,od (cA nB) (lU t) (fun i=>by rw[lU]) (fun x hx=>a x hx (by grind)) (by omega),dS,fe]
 simp only[nB]
 grind
def lF (s:aE)(t:Term):Bool:=eM s t&&cA nB t
theorem Y5 (s:aE)(h1:s.Cons.length≤1000000)(h2:s.bq.length≤1000000)(t:Term):AX s t=some (lF s t):=by
 rw[AX,xF s h1 h2]
 simp only[aW,aD,lF]
 by_cases g:eM s t=true
 · have a:dJ t≤40:=by simp only[eM,aS,decide_eq_true_eq] at g;exact g.1.1
   rw[if_pos g,Y4 t (by omega),g]
   simp[BV]
 · grind
theorem SD (t:Term):dJ t≤1000000→qL t t=some true:=by
 refine fT (P:=fun t=>dJ t≤1000000→qL t t=some true) (fun t a b=>?_) t
 have c:=dX t.Kids
 rw[eE] at b
 rw[qL,if_neg (by simp),if_neg (by simp),if_neg (by simp)]
 refine(pc (l:=t.Kids) (q:=fun _=>true) (e:=some true) (f:=some false) (kR t t) (fun i hi=>?_) (by rw[kR,if_neg (by simp)])).trans (by simp)
 have hx:=cM hi
 rw[kR,e9,aU hi]
 simp only[aW,aD,a _ hx (by grind)]
 rw[if_pos trivial,if_pos fK,if_pos trivial]
theorem Ib (p:aj)(a:p.Steps.length≤1000000)(hs:∀ x,x∈p.Steps→dJ x.Expr≤1000000):rD p p=some true:=by
 rw[rD,if_neg (by simp),if_neg (by simp),if_neg (by simp)]
 refine(pc (l:=p.Steps) (q:=fun _=>true) (e:=some true) (f:=some false) (ic p p) (fun i hi=>?_) (by rw[ic,if_neg (by simp)])).trans (by simp)
 have hx:=cM hi
 rw[ic,e9,aU hi]
 simp only[aW,aD,SD _ (hs _ hx)]
 rw[if_neg (by simp),if_neg (by simp),if_pos trivial,if_pos fK,if_pos trivial]
theorem Wi (t:Term):dJ t≤1000000→cY t=some (cA nB t):=by
 refine fT (P:=fun t=>dJ t≤1000000→cY t=some (cA nB t)) (fun t a b=>?_) t
 have d:=dX t.Kids
 rw[eE] at b
 rw[cY,dS,fe]
 by_cases c:t.Op=8
 · rw[if_neg (by simp[c])];simp[nB,c]
 · rw[if_pos (by simp[c]),show nB t=true by simp[nB,c],j6]
   refine(pc (l:=t.Kids) (q:=cA nB) (e:=some true) (f:=some false) (cD t) (fun i hi=>?_) (by rw[cD,if_neg (by simp)])).trans (BV _)
   have hx:=cM hi
   rw[cD,e9,aU hi]
   simp only[aW,aD,a _ hx (by grind)]
   rw[if_pos fK]
   grind
theorem Wj (t:Term)(b:¬ t.Op=8)(g:t.Kids.length≤1000000)(c:∀ x,x∈t.Kids→∀ l:LI,Zl x l=some (l++fr x)) :
   ∀(k i:Nat) (l:LI),t.Kids.length-i=k→i≤t.Kids.length→Aj t i l=some (l++tR t.Op t.N i (t.Kids.drop i)):=by
 intro k
 induction k with
 | zero=>
   intro i l d hi
   rw[Aj,jM,show i=t.Kids.length by omega,fu,tR,n5]
 | succ k a=>
   intro i l d hi
   have h:i<t.Kids.length:=by omega
   rw[Aj,e9,aU h,db h,tR,u7 (fun q=>b q.1)]
   simp only[aW,aD,c _ (cM h)]
   rw[if_neg (by simpa using b)]
   simp only[aD,lE]
   rw[if_pos fK,tj,a (i+1) _ (by omega) (by omega),pj]
theorem aeR (t:Term):dJ t≤1000000→cA nB t=true→∀ l:LI,Zl t l=some (l++fr t):=by
 refine fT (P:=fun t=>dJ t≤1000000→cA nB t=true→∀ l:LI,Zl t l=some (l++fr t)) (fun t b d a l=>?_) t
 have h:=dX t.Kids
 rw[eE] at d
 rw[dS,fe,aS,dg] at a
 have g:¬ t.Op=8:=by grind[nB]
 rw[Zl,Fj]
 by_cases c:t.Op=1
 · grind
 · rw[if_neg (by simpa using c),if_neg c]
   have:=Wj t g (by omega) (fun x hx l=>b x hx (by grind) (a.2 x hx) l) t.Kids.length 0 l rfl (bW _)
   grind
theorem QX (o n:Int):∀(l:List Term) (i:Nat),(∀ x,x∈l→((fr x).length:Int)≤dJ x)→((tR o n i l).length:Int)≤gI l
 | [],_,_=>by simp[tR,gI]
 | a::l,i,h=>by
   have h1:=h a (by simp)
   have h2:=QX o n l (i+1) fun x hx=>h x (by simp[hx])
   grind[tR,gI]
theorem OQ (t:Term):((fr t).length:Int)≤dJ t:=by
 refine fT (P:=fun t=>((fr t).length:Int)≤dJ t) (fun t a=>?_) t
 have:=QX t.Op t.N t.Kids 0 a
 have:=dt t.Kids
 grind[Fj,eE]
variable {s : aE}
theorem vY (hs:cW s=some 0)(t:Term)(g:lF s t=true):ml s t=some (ku (BI (fr t)),0):=by
 simp only[lF,aS] at g
 have a:dJ t≤40:=by have:=g.1;simp only[eM,aS,decide_eq_true_eq] at this;exact this.1.1
 have b:=OQ t
 have c:=(EL (fr t)).1
 rw[ml,uu hs [t] (by simp) (fun x hx=>by grind),aeR t (by omega) g.2]
 grind
theorem I4 (l:LI)(x:Int):x∈ku l↔x∈l:=by
 grind[ku,List.mergeSort_perm]
def wZ (t:Term):Bool:=nB t&&(!decide (t.Op=1)||(decide (0≤t.N)&&decide (t.N≤19)))
theorem aeS (s:aE)(t:Term)(g:lF s t=true):cA wZ t=true:=by
 simp only[lF,aS,eM] at g
 have h:∀ t:Term,cA (fZ s) t=true→cA nB t=true→cA wZ t=true:=by
  intro t
  refine fT (P:=fun t=>cA (fZ s) t=true→cA nB t=true→cA wZ t=true) (fun t a h1 h2=>?_) t
  rw[dS,fe,aS,dg] at h1 h2 ⊢
  refine⟨?_,fun x hx=>a x hx (h1.2 x hx) (h2.2 x hx)⟩
  simp only[wZ,h2.1,j6]
  by_cases c:t.Op=1
  · have:=h1.1
    simp only[fZ,c,if_true,aS] at this
    simp[c,this.2]
  · simp[c]
 grind
theorem SE (t:Term)(c:Int)(e:LI)(b:List ad)(v:LI)(C:t.Kids.length≤1000)
   (m:∀ x,x∈t.Kids→∀ ns:List ad,ns.length+dJ x≤200→∃ r z,bI x c e ns v=some (r,z)∧ns.length≤r.length∧(r.length:Int)≤ns.length+dJ x) :
   ∀(k i:Nat) (a:LI) (ns:List ad),t.Kids.length-i=k→i≤t.Kids.length→a.length≤i→b.length+1≤ns.length→ns.length+gI (t.Kids.drop i)≤200→∃ r z,bU t c e b v i a ns=some (r,z)∧ns.length≤r.length∧(r.length:Int)≤ns.length+gI (t.Kids.drop i):=by
 intro k
 induction k with
 | zero=>
   intro i a ns o hi q u g
   have j:((b++[ad.mk t.Op t.N [] (-1) [] 0 []]).length:Int)-1=(b.length:Nat):=by simp
   rw[bU,jM,j,aU (show b.length<ns.length by omega)]
   simp only[aW,aD]
   refine⟨_,_,rfl,by simp,?_⟩
   have:=dt (t.Kids.drop i)
   grind
 | succ k d=>
   intro i a ns o hi q u g
   have h:i<t.Kids.length:=by omega
   rw[db h,gI] at g ⊢
   have j:=dt (t.Kids.drop (i+1))
   obtain⟨r,z,w,D,E⟩:=m _ (cM h) ns (by omega)
   obtain⟨y,A,B,G,H⟩:=d (i+1) (a++[z]) r (by omega) (by omega) (by simp;omega) (by omega) (by omega)
   rw[bU,e9,aU h]
   simp only[aW,aD,w]
   rw[e9,if_pos fK,tj]
   exact⟨y,A,B,by omega,by omega⟩
theorem asB (c:Int)(e v:LI)(D:e.length=20)(t:Term):cA wZ t=true→∀ ns:List ad,ns.length+dJ t≤200→∃ r z,bI t c e ns v=some (r,z)∧ns.length≤r.length∧(r.length:Int)≤ns.length+dJ t:=by
 refine fT (P:=fun t=>cA wZ t=true→∀ ns:List ad,ns.length+dJ t≤200→∃ r z,bI t c e ns v=some (r,z)∧ns.length≤r.length∧(r.length:Int)≤ns.length+dJ t) (fun t i hf ns j=>?_) t
 have E:=dX t.Kids
 have G:=dt t.Kids
 rw[dS,fe,aS,dg] at hf
 have d:=hf.1
 simp only[wZ,nB,aS,xg,decide_eq_false_iff_not,xe,decide_eq_true_eq] at d
 rw[eE] at j ⊢
 rw[bI]
 by_cases c1:t.Op=1
 · have H:=d.2.resolve_left (by simp[c1])
   obtain⟨m,w⟩:∃ m:Nat,t.N=m:=⟨t.N.toNat,by omega⟩
   rw[if_pos (by simpa using c1),w,aU (show m<e.length by omega)]
   simp only[aW,aD]
   grind
 · rw[if_neg (by simpa using c1),if_neg (by simpa using d.1),jM,e9,if_pos (w9 (by first | (simp;done) | (simp;omega)) (by first | (simp;done) | (simp;omega))),fo]
   have g:((ns++[ad.mk t.Op t.N [] (-1) [] 0 []]).length:Int)-1=(ns.length:Nat):=by simp
   have loop:=SE t c e ns v (by omega) (fun x hx ns a=>i x hx (hf.2 x hx) ns a)
   cases b:t.Kids with
   | nil=>
     rw[if_neg (by simp),g,aU (show ns.length<(ns++[ad.mk t.Op t.N [] (-1) [] 0 []]).length by simp)]
     simp only[aW,aD]
     exact⟨_,_,rfl,by simp,by simp[gI]⟩
   | cons a l=>
     have h:0<t.Kids.length:=by rw[b];simp
     have hx:a∈t.Kids:=by rw[b];simp
     rw[b,gI] at j
     have I:=kK a
     have J:=dt l
     obtain⟨r,z,y,o,q⟩:=i a hx (hf.2 a hx) (ns++[ad.mk t.Op t.N [] (-1) [] 0 []]) (by simp;omega)
     obtain⟨A,B,C,K,u⟩:=loop (t.Kids.length-1) 1 [z] r rfl (by omega) (by simp) (by simp at o;omega) (by rw[b];simp at q ⊢;omega)
     rw[if_pos (by first | (simp;done) | (simp;omega)),show bP (a::l) 0=some a from rfl]
     simp only[aW,aD,y]
     rw[b] at u
     simp at o q u
     refine⟨A,B,C,by omega,?_⟩
     rw[gI];omega
theorem SF (t:Term)(c:Int)(e:LI)(b:List ad)(C:t.Kids.length≤1000)
   (m:∀ x,x∈t.Kids→∀ ns:List ad,ns.length+dJ x≤200→∃ r z,bp x c e ns=some (r,z)∧ns.length≤r.length∧(r.length:Int)≤ns.length+dJ x) :
   ∀(k i:Nat) (a:LI) (ns:List ad),t.Kids.length-i=k→i≤t.Kids.length→a.length≤i→b.length+1≤ns.length→ns.length+gI (t.Kids.drop i)≤200→∃ r z,bV t c e b i a ns=some (r,z)∧ns.length≤r.length∧(r.length:Int)≤ns.length+gI (t.Kids.drop i):=by
 intro k
 induction k with
 | zero=>
   intro i a ns o hi q u g
   have j:((b++[ad.mk t.Op t.N [] (-1) [] 0 []]).length:Int)-1=(b.length:Nat):=by simp
   rw[bV,jM,j,aU (show b.length<ns.length by omega)]
   simp only[aW,aD]
   refine⟨_,_,rfl,by simp,?_⟩
   have:=dt (t.Kids.drop i)
   grind
 | succ k d=>
   intro i a ns o hi q u g
   have h:i<t.Kids.length:=by omega
   rw[db h,gI] at g ⊢
   have j:=dt (t.Kids.drop (i+1))
   obtain⟨r,z,w,D,E⟩:=m _ (cM h) ns (by omega)
   obtain⟨y,A,B,G,H⟩:=d (i+1) (a++[z]) r (by omega) (by omega) (by simp;omega) (by omega) (by omega)
   rw[bV,e9,aU h]
   simp only[aW,aD,w]
   rw[e9,if_pos fK,tj]
   exact⟨y,A,B,by omega,by omega⟩
theorem ajp (c:Int)(e:LI)(D:e.length=20)(t:Term):cA wZ t=true→∀ ns:List ad,ns.length+dJ t≤200→∃ r z,bp t c e ns=some (r,z)∧ns.length≤r.length∧(r.length:Int)≤ns.length+dJ t:=by
 refine fT (P:=fun t=>cA wZ t=true→∀ ns:List ad,ns.length+dJ t≤200→∃ r z,bp t c e ns=some (r,z)∧ns.length≤r.length∧(r.length:Int)≤ns.length+dJ t) (fun t i hf ns j=>?_) t
 have E:=dX t.Kids
 have G:=dt t.Kids
 rw[dS,fe,aS,dg] at hf
 have d:=hf.1
 simp only[wZ,nB,aS,xg,decide_eq_false_iff_not,xe,decide_eq_true_eq] at d
 rw[eE] at j ⊢
 rw[bp]
 by_cases c1:t.Op=1
 · have H:=d.2.resolve_left (by simp[c1])
   obtain⟨m,w⟩:∃ m:Nat,t.N=m:=⟨t.N.toNat,by omega⟩
   rw[if_pos (by simpa using c1),w,aU (show m<e.length by omega)]
   simp only[aW,aD]
   grind
 · rw[if_neg (by simpa using c1),if_neg (by simpa using d.1),jM,e9,if_pos (w9 (by first | (simp;done) | (simp;omega)) (by first | (simp;done) | (simp;omega))),fp]
   have g:((ns++[ad.mk t.Op t.N [] (-1) [] 0 []]).length:Int)-1=(ns.length:Nat):=by simp
   have loop:=SF t c e ns (by omega) (fun x hx ns a=>i x hx (hf.2 x hx) ns a)
   cases b:t.Kids with
   | nil=>
     rw[if_neg (by simp),g,aU (show ns.length<(ns++[ad.mk t.Op t.N [] (-1) [] 0 []]).length by simp)]
     simp only[aW,aD]
     exact⟨_,_,rfl,by simp,by simp[gI]⟩
   | cons a l=>
     have h:0<t.Kids.length:=by rw[b];simp
     have hx:a∈t.Kids:=by rw[b];simp
     rw[b,gI] at j
     have I:=kK a
     have J:=dt l
     obtain⟨r,z,y,o,q⟩:=i a hx (hf.2 a hx) (ns++[ad.mk t.Op t.N [] (-1) [] 0 []]) (by simp;omega)
     obtain⟨A,B,C,K,u⟩:=loop (t.Kids.length-1) 1 [z] r rfl (by omega) (by simp) (by simp at o;omega) (by rw[b];simp at q ⊢;omega)
     rw[if_pos (by first | (simp;done) | (simp;omega)),show bP (a::l) 0=some a from rfl]
     simp only[aW,aD,y]
     rw[b] at u
     simp at o q u
     refine⟨A,B,C,by omega,?_⟩
     rw[gI];omega
theorem SG (t:Term)(c:Int)(e:LI)(A:t.Kids.length≤1000)
   (j:∀ x,x∈t.Kids→∀ ns:List ad,ns.length+dJ x≤200→∃ r z,bp x c e ns=some (r,z)∧ns.length≤r.length∧(r.length:Int)≤ns.length+dJ x) :
   ∀(k i:Nat) (a:LI) (ns:List ad),t.Kids.length-i=k→i≤t.Kids.length→a.length≤i→1≤ns.length→ns.length+gI (t.Kids.drop i)≤200→∃ r,cv t c e i a ns=some r:=by
 intro k
 induction k with
 | zero=>
   intro i a ns m hi o q d
   have g:(([ad.mk t.Op t.N [] (-1) [] 0 []]:List ad).length:Int)-1=((0:Nat):Int):=by simp
   rw[cv,jM,g,aU (show 0<ns.length by omega)]
   simp_all
 | succ k b=>
   intro i a ns m hi o q d
   have h:i<t.Kids.length:=by omega
   rw[db h,gI] at d
   have g:=dt (t.Kids.drop (i+1))
   obtain⟨r,z,u,B,C⟩:=j _ (cM h) ns (by omega)
   obtain⟨w,y⟩:=b (i+1) (a++[z]) r (by omega) (by omega) (by simp;omega) (by omega) (by omega)
   rw[cv,e9,aU h]
   simp only[aW,aD,u]
   rw[e9,if_pos fK,tj]
   exact⟨w,y⟩
theorem asC (c:Int)(e:LI)(i:e.length=20)(t:Term)(hf:cA wZ t=true)(j:dJ t≤150):∃ r,fR t c e=some r:=by
 have B:=dX t.Kids
 have C:=dt t.Kids
 rw[dS,fe,aS,dg] at hf
 have g:=hf.1
 simp only[wZ,nB,aS,xg,decide_eq_false_iff_not,xe,decide_eq_true_eq] at g
 rw[eE] at j
 rw[fR]
 by_cases c1:t.Op=1
 · have D:=g.2.resolve_left (by simp[c1])
   obtain⟨m,o⟩:∃ m:Nat,t.N=m:=⟨t.N.toNat,by omega⟩
   rw[if_pos (by simpa using c1),o,aU (show m<e.length by omega)]
   simp_all
 · have b:(([ad.mk t.Op t.N [] (-1) [] 0 []]:List ad).length:Int)-1=((0:Nat):Int):=by simp
   rw[if_neg (by simpa using c1),if_neg (by simpa using g.1),if_pos (by simp),b,if_pos fK,iv]
   have loop:=SG t c e (by omega) (fun x hx ns a=>ajp c e i x (hf.2 x hx) ns a)
   cases d:t.Kids with
   | nil=>
     rw[if_neg (by simp),b,aU (show 0<([ad.mk t.Op t.N [] (-1) [] 0 []]:List ad).length by simp)]
     simp_all
   | cons a l=>
     have h:0<t.Kids.length:=by rw[d];simp
     have hx:a∈t.Kids:=by rw[d];simp
     rw[d,gI] at j
     have E:=kK a
     have G:=dt l
     obtain⟨r,z,q,u,w⟩:=ajp c e i a (hf.2 a hx) [ad.mk t.Op t.N [] (-1) [] 0 []] (by simp;omega)
     obtain⟨y,A⟩:=loop (t.Kids.length-1) 1 [z] r rfl (by omega) (by simp) (by simpa using u) (by rw[d];simp at w ⊢;omega)
     rw[if_pos (by first | (simp;done) | (simp;omega)),show bP (a::l) 0=some a from rfl]
     simp only[aW,aD,q]
     exact⟨y,A⟩
theorem ajQ (t:Term)(hf:cA wZ t=true)(y:dJ t≤40)(v:LI×Int)(c:∀ x,x∈v.1→0≤x∧x≤19)(A:v.1.length≤100) :
   ∀(k i:Nat) (e:LI) (ns:List ad) (w:LI),v.1.length-i=k→i≤v.1.length→e.length=20→ns.length≤i→w.length≤i→∃ r,lV t v i e ns w=some (r,0):=by
 intro k
 induction k with
 | zero=>
   intro i e ns w d hi a g j
   obtain⟨r,z,o,_,_⟩:=asB 0 e w a t hf ns (by omega)
   rw[lV,jM,o]
   exact⟨_,rfl⟩
 | succ k b=>
   intro i e ns w d hi a g j
   have h:i<v.1.length:=by omega
   have hx:=c _ (cM h)
   obtain⟨m,q⟩:∃ m:Nat,v.1[i]=m:=⟨v.1[i].toNat,by omega⟩
   have u:((ns++[ad.mk 1 0 [] (-1) [] 0 []]).length:Int)-1=(ns.length:Nat):=by simp
   rw[lV,e9,aU h]
   simp only[aW,aD,q]
   rw[jM,e9,u,if_pos fK,aU (show m<e.length by omega)]
   simp only[aD,ub]
   rw[aU (show m<(e.set m ((ns.length:Nat):Int)).length by simp;omega)]
   simp only[aD]
   rw[e9,if_pos fK,tj]
   exact b (i+1) _ _ _ (by omega) (by omega) (by simp[a]) (by simp;omega) (by simp;omega)
theorem Wl (t:Term):cA wZ t=true→∀ x,x∈fr t→0≤x∧x≤19:=by
 refine fT (P:=fun t=>cA wZ t=true→∀ x,x∈fr t→0≤x∧x≤19) (fun t j hf x hx=>?_) t
 rw[dS,fe,aS,dg] at hf
 have g:∀(l:List Term) (i:Nat),(∀ x,x∈l→x∈t.Kids)→∀ x,x∈tR t.Op t.N i l→0≤x∧x≤19:=by
   intro l
   induction l with
   | nil=>grind[tR]
   | cons a l b=>
     intro i h x hx
     rw[tR,fc,List.mem_filter] at hx
     rcases hx with hx | hx
     · grind
     · exact b (i+1) (fun y hy=>h y (by simp[hy])) x hx
 rw[Fj] at hx
 by_cases c:t.Op=1
 · rw[if_pos c] at hx
   simp only[ug] at hx
   have d:=hf.1
   simp only[wZ,c,decide_true,Bool.not_true,Bool.false_or,aS,decide_eq_true_eq] at d
   exact hx▸d.2
 · rw[if_neg c] at hx
   exact g t.Kids 0 (fun _ h=>h) x hx
theorem ajR (t:Term)(hf:cA wZ t=true)(b:dJ t≤40)(v:LI×Int)(a:∀ x,x∈v.1→0≤x∧x≤19)(c:v.1.length≤100):∃ r,vQ t v=some (r,0):=by
 rw[vQ]
 by_cases h:0<v.1.length
 · have hx:=a _ (cM h)
   obtain⟨m,d⟩:∃ m:Nat,v.1[0]=m:=⟨v.1[0].toNat,by omega⟩
   have g:(([ad.mk 1 0 [] (-1) [] 0 []]:List ad).length:Int)-1=((0:Nat):Int):=by simp
   rw[e9,show bP v.1 0=some v.1[0] from aU (i:=0) h]
   simp only[aW,aD,d]
   rw[if_pos (by simp),g,if_pos fK,aU (show m<([0,0,0,0,0,0,0,0,0,0,0,0,0,0,0,0,0,0,0,0]:LI).length by simp;omega)]
   simp only[aD,ub]
   rw[aU (show m<(([0,0,0,0,0,0,0,0,0,0,0,0,0,0,0,0,0,0,0,0]:LI).set m ((0:Nat):Int)).length by simp;omega)]
   simp only[aD]
   exact ajQ t hf b v a c (v.1.length-1) 1 _ _ _ rfl (by omega) (by simp) (by simp) (by simp)
 · obtain⟨r,e⟩:=asC 0 [0,0,0,0,0,0,0,0,0,0,0,0,0,0,0,0,0,0,0,0] (by simp) t hf (by omega)
   rw[if_neg (by simpa using h),e]
   cases r<;>simp_all
variable {α β γ : Type} {L : List α} {F : Int → List β → Option γ} {e : List β → Option γ}
theorem asD {f:α→β}(hs:∀(i:Nat) (h:i<L.length) (l:List β),l.length=i→F (i:Int) l=F ((i:Int)+1) (l++[f L[i]]))(c:∀ l,l.length=L.length→F (L.length:Int) l=e l) :
   ∀(d i:Nat) (l:List β),L.length-i=d→i≤L.length→l.length=i→F (i:Int) l=e (l++(L.drop i).map f):=by
 intro d
 induction d with
 | zero=>
   grind
 | succ d a=>
   intro i l g hi b
   have h:i<L.length:=by omega
   rw[hs i h l b,db h,dF,tj,a (i+1) _ (by omega) (by omega) (by simp;omega),pj,Fs]
theorem Um (f:α→β)(h:0<L.length)(hs:∀(i:Nat) (h:i<L.length) (l:List β),l.length=i→F (i:Int) l=F ((i:Int)+1) (l++[f L[i]]))(a:∀ l,l.length=L.length→F (L.length:Int) l=e l):F 1 [f L[0]]=e (L.map f):=by
 have:=asD hs a (L.length-1) 1 [f L[0]] rfl (by omega) rfl
 refine this.trans (congrArg e ?_)
 cases L<;>grind
theorem RC (L:List α)(f:α→β)(g:α→Option β)(a:∀ x,x∈L→g x=some (f x))(d:L.length≤1000000){F1:Option γ}{F2:Int→List β→Option γ}(h1:F1=if decide (0<(L.length:Int)) then(bP L 0>>=fun x=>g x>>=fun v=>if decide ([v].length≤1048576) then F2 1 [v] else none) else e [])(h2:∀(i:Int) (l:List β),F2 i l=if decide (i<(L.length:Int)) then(bP L i>>=fun x=>g x>>=fun v=>if decide (l.length+[v].length≤1048576) then(if cw .i64 (i+1) then F2 (i+1) (l++[v]) else none) else none) else e l):F1=e (L.map f):=by
 rw[h1]
 by_cases c:0<L.length
 · have k:=Um (L:=L) f (F:=F2) (e:=e) c (fun i h l b=>by
    rw[h2,e9,aU h]
    simp only[aW,aD,a _ (cM h)]
    rw[e9,if_pos fK]) (fun l b=>by grind)
   rw[e9,show bP L 0=some L[0] from aU (i:=0) c]
   grind
 all_goals grind
def qg (n k:Int):LI:=(List.range k.toNat).map fun(i:Nat)=>n+(i:Int)
variable {F2 : Int → LI → Option LI}
theorem Mg (n k:Int)(g:0≤n)(d:n≤1000)(j:k≤1000){F1:Option LI}(h1:F1=if decide (0<k) then(if cw .i64 (n+0) then F2 1 [n+0] else none) else some [])(h2:∀(i:Int) (l:LI),F2 i l=if decide (i<k) then(if cw .i64 (n+i) then(if decide (l.length+[n+i].length≤1048576) then(if cw .i64 (i+1) then F2 (i+1) (l++[n+i]) else none) else none) else none) else some l):F1=some (qg n k):=by
 rw[h1]
 by_cases c:0<k
 · have a:(List.range k.toNat).length=k.toNat:=List.length_range
   have q:=Um (L:=List.range k.toNat) (fun i=>n+(i:Int)) (F:=F2) (e:=some) (by omega) (fun i h l b=>by
    rw[a] at h
    rw[h2,e9,if_pos fK,e9,if_pos fK,List.getElem_range]) (fun l b=>by
    grind)
   rw[if_pos (by simpa using c),if_pos fK]
   simp only[List.getElem_range] at q
   exact q
 · rw[if_neg (by simpa using c)]
   have:k.toNat=0:=by omega
   rw[qg,this];rfl
theorem JV (n k:Int)(b:0≤n)(a:n≤1000)(c:k≤1000):qJ n k=some (qg n k):=
 Mg n k b a c (by rw[qJ,zI]) (fun i l=>by rw[pE])
theorem Gj (n k:Int)(b:0≤n)(a:n≤1000)(c:k≤1000):oq n k=some (qg n k):=
 Mg n k b a c (by rw[oq,ta]) (fun i l=>by rw[kf])
theorem AB (n k:Int)(a:0≤k):((qg n k).length:Int)=k:=by
 simp only[qg,sq,List.length_range];omega
theorem JW (n k x:Int):x∈qg n k↔n≤x∧x<n+k:=by
 simp only[qg,kJ,List.mem_range]
 constructor
 · grind
 · rintro⟨a,b⟩;exact⟨(x-n).toNat,by omega,by omega⟩
theorem I5 (n k:Int):(qg n k).Nodup:=by
 refine List.pairwise_map.2 (List.Pairwise.imp (fun h=>?_) (List.pairwise_lt_range (n:=k.toNat)))
 omega
def ti (l:LI):LT:=l.map fun n=>Term.mk 1 n []
theorem Mh (l:LI)(h:l.length≤1000):xn l=some (ti l):=
 RC l (fun n=>Term.mk 1 n []) EJ (fun _ _=>rfl) (by omega) (e:=some) (by rw[xn,zJ]) (fun i a=>by rw[pF])
theorem Mi (l:LI)(h:l.length≤1000):me l=some (ti l):=
 RC l (fun n=>Term.mk 1 n []) (fun n=>some (Term.mk 1 n [])) (fun _ _=>rfl) (by omega) (e:=some) (by rw[me,pJ];rfl) (fun i a=>by rw[iS];rfl)
theorem EN (n:Int):∀ l:List Term,n∈iC l↔∃ x,x∈l∧n∈tv x
 | []=>by simp[iC]
 | a::l=>by simp[iC,EN n l]
theorem JX : ∀ l:LI,iC (ti l)=l∧gI (ti l)=l.length
 | []=>by simp[ti,iC,gI]
 | a::l=>by
   have:=JX l
   simp only[ti] at this
   simp only[ti,dF,iC,tv,gI,dJ,this.1,this.2,pk,if_true]
   grind
theorem JY (l:List α)(q:α→Bool)(p:Prop) [Decidable p] (h:p↔∃ x,x∈l∧q x=true):(if(l.all fun x => !q x)=true then some false else some true)=some (decide p):=by
 grind
theorem QY (l:LI)(a:Int)(b:l.length≤1000000):x5 l a=some (decide (a∈l)):=by
 rw[x5]
 refine(pc (l:=l) (q:=fun x => !decide (x=a)) (e:=some false) (f:=some true) (nG l a) (fun i hi=>?_) (by rw[nG,if_neg (by simp)])).trans (JY l (fun x=>decide (x=a)) _ (by simp))
 rw[nG,e9,aU hi]
 simp only[aW,aD]
 rw[if_pos fK]
 by_cases c:l[i]=a
 · simp[c]
 · simp[c]
theorem Y6 (n:Int)(t:Term):dJ t≤1000000→lQ t.Kids n=some (decide (n∈iC t.Kids)):=by
 refine fT (P:=fun t=>dJ t≤1000000→lQ t.Kids n=some (decide (n∈iC t.Kids))) (fun t a b=>?_) t
 have c:=dX t.Kids
 rw[eE] at b
 rw[lQ]
 refine(pc (l:=t.Kids) (q:=fun x => !decide (n∈tv x)) (e:=some false) (f:=some true) (jS t.Kids n) (fun i hi=>?_) (by rw[jS,if_neg (by simp)])).trans (JY t.Kids (fun x=>decide (n∈tv x)) _ (by simp[EN]))
 have hx:=cM hi
 rw[jS,e9,aU hi]
 simp only[aW,aD,a _ hx (by grind),rj t.Kids[i]]
 rw[if_pos fK]
 grind
def pn (s:aE)(t:Term):Bool:=if t.Op=1 then t.Kids.isEmpty else decide (t.Op=3)&&pd s.Cons t.N fun k=>decide ((t.Kids.length:Int)=k)
theorem UU (s:aE)(t:Term)(h:cA (pn s) t=true):cA BJ t=true∧cA leaf t=true:=by
 refine⟨Cj (fun t h=>?_) t h,Cj (fun t h=>?_) t h⟩
 · simp only[pn] at h
   by_cases c:t.Op=1
   · simp[BJ,c]
   · rw[if_neg c,aS] at h;simp only[BJ,h.1,Bool.or_true]
 · simp only[pn] at h
   by_cases c:t.Op=1
   · rw[if_pos c] at h;simp[leaf,h]
   · simp[leaf,c]
theorem Y7 (s:aE)(l:List Term)(k n:Int)(c:gI l≤800)(a:∀ x,x∈l→cA (pn s) x=true):kV ⟨l,k⟩ n=some (decide (n∈iC l))∧lQ l n=some (decide (n∈iC l)):=by
 have hs:dJ (Term.mk 0 0 l)=1+gI l:=by simp[dJ]
 obtain⟨w,e,d,b,g⟩:=AA (Term.mk 0 0 l) (by omega)
 refine⟨?_,Y6 n (Term.mk 0 0 l) (by omega)⟩
 have h:(n∈w)=(n∈iC l):=by
  rw[b,fr,if_neg (by decide),yo (by decide) l 0 fun x hx=>OK x (UU s x (a x hx)).1 (UU s x (a x hx)).2]
 grind[kV,QY]
mutual
def sub (n:Int)(c:Term):Term→Term
 | .mk o m l=>if o=1 then(if m=n then c else .mk o m l) else .mk o m (kW n c l)
def kW (n:Int)(c:Term):List Term→List Term
 | []=>[]
 | t::l=>sub n c t::kW n c l
end
theorem tx (n:Int)(c:Term):∀ l:List Term,kW n c l=l.map (sub n c)
 | []=>by simp[kW]
 | t::l=>by simp[kW,tx n c l]
theorem sub_eq (n:Int)(c t:Term):sub n c t=if t.Op=1 then(if t.N=n then c else t) else Term.mk t.Op t.N (kW n c t.Kids):=by cases t;rw[sub];rfl
theorem find_eq (n m:Int)(c:Term):AW [du.mk n c] m=some (if n=m then 0 else -1):=by
 rw[AW,nu,if_pos (by simp),show bP [du.mk n c] 0=some (du.mk n c) from rfl]
 simp only[aW,aD]
 by_cases h:n=m
 · grind
 · rw[if_neg (by simpa using h),if_neg h,if_pos fK,nu,if_neg (by simp)]
theorem Wm (s:aE)(n:Int)(c t:Term):dJ t≤1000000→cA (pn s) t=true→iP t [du.mk n c]=some (sub n c t):=by
 refine fT (P:=fun t=>dJ t≤1000000→cA (pn s) t=true→iP t [du.mk n c]=some (sub n c t)) (fun t b d a=>?_) t
 have g:=dX t.Kids
 rw[eE] at d
 rw[dS,fe,aS,dg] at a
 rw[iP,sub_eq]
 by_cases c1:t.Op=1
 · rw[if_pos (by simpa using c1),if_pos c1,find_eq]
   simp only[aW,aD]
   by_cases h:n=t.N
   · rw[if_pos h,if_pos (by simp),if_pos h.symm];rfl
   all_goals grind
 · have c3:t.Op=3:=by have:=a.1;simp only[pn,if_neg c1,aS,decide_eq_true_eq] at this;exact this.1
   rw[if_neg (by simpa using c1),if_neg (by simp[c3]),if_neg c1,tx]
   exact RC t.Kids (sub n c) (fun x=>iP x [du.mk n c]) (fun x hx=>b x hx (by grind) (a.2 x hx)) (by omega) (e:=fun l=>some (Term.mk t.Op t.N l)) (by rw[tI]) (fun i l=>by rw[lZ])
theorem UW (l:List α)(i:Nat):bP l (i:Int)=l[i]? := by simp[bP]
theorem asE {f:α→α}{F:Int→List α→Option γ}{e:List α→Option γ}(hs:∀(i:Nat) (h:i<L.length) (l:List α),l.length=L.length→l[i]? = some L[i]→F (i:Int) l=F ((i:Int)+1) (l.set i (f L[i])))(g:∀ l,l.length=L.length→F (L.length:Int) l=e l) :
   ∀(d i:Nat),L.length-i=d→i≤L.length→F (i:Int) ((L.take i).map f++L.drop i)=e (L.map f):=by
 intro d
 induction d with
 | zero=>
   grind
 | succ d c=>
   intro i j hi
   have h:i<L.length:=by omega
   have b:((L.take i).map f).length=i:=by simp;omega
   have a:L.drop i=L[i]::L.drop (i+1):=db h
   have:=c (i+1) (by omega) (by omega)
   rw[Cc h,Oy,pj] at this
   rw[hs i h _ (by simp;omega) (by rw[zj (by omega),b,Nat.sub_self,a];rfl),List.set_append_right _ _ (by omega),b,Nat.sub_self,a,List.set_cons_zero,tj]
   exact this
theorem ZO (f:α→α){F:Int→List α→Option γ}{e:List α→Option γ}(hs:∀(i:Nat) (h:i<L.length) (l:List α),l.length=L.length→l[i]? = some L[i]→F (i:Int) l=F ((i:Int)+1) (l.set i (f L[i])))(a:∀ l,l.length=L.length→F (L.length:Int) l=e l):F 0 L=e (L.map f):=
 asE hs a L.length 0 rfl (bW _)
theorem Y8 (s:aE)(n:Int)(c t:Term):dJ t≤1000000→cA (pn s) t=true∨t.Op=0∧(∀ x,x∈t.Kids→cA (pn s) x=true)→gZ t.Kids n c=some (kW n c t.Kids):=by
 refine fT (P:=fun t=>dJ t≤1000000→cA (pn s) t=true∨t.Op=0∧(∀ x,x∈t.Kids→cA (pn s) x=true)→gZ t.Kids n c=some (kW n c t.Kids)) (fun t g j a=>?_) t
 have m:=dX t.Kids
 rw[eE] at j
 have a:∀ x,x∈t.Kids→cA (pn s) x=true:=by
   rcases a with a | a
   · rw[dS,fe,aS,dg] at a;exact a.2
   · exact a.2
 rw[gZ]
 by_cases o:t.Kids=[]
 · rw[o]
   simp[q9,q8,ZY,kW]
 · have u:t.Kids.isEmpty=false:=by grind
   have key:dD n c (t.Kids.length:Int) 0 t.Kids=some (kW n c t.Kids):=by
    rw[tx]
    refine ZO (L:=t.Kids) (sub n c) (F:=dD n c (t.Kids.length:Int)) (e:=some) (fun i h l q r=>?_) (fun l q=>by rw[dD,if_neg (by simp)])
    have hx:=cM h
    have b:=a _ hx
    rw[dD,e9,UW,r]
    simp only[aW,aD,ub,g _ hx (by have:=m.2 _ hx;omega) (.inl b)]
    rw[if_pos fK,sub_eq]
    by_cases c1:t.Kids[i].Op=1
    · rw[if_pos (by simpa using c1),if_pos c1]
      by_cases c2:t.Kids[i].N=n
      · rw[if_pos (by simpa using c2),if_pos c2]
      · have d:t.Kids[i].Kids=[]:=by
         rw[dS,aS] at b
         have:=b.1;simp only[pn,if_pos c1] at this;exact List.isEmpty_iff.1 this
        have:Term.mk t.Kids[i].Op t.Kids[i].N (kW n c t.Kids[i].Kids)=t.Kids[i]:=by
         rw[d,kW]
         generalize t.Kids[i]=y at d
         cases y;simp only[Term.Kids] at d;subst d;rfl
        rw[if_neg (by simpa using c2),if_neg c2,this,if_pos fK]
    · rw[if_neg (by simpa using c1),if_neg c1,if_pos fK]
   grind
theorem Y9 (n x:Int)(c:Term)(a:¬ c.Op=1)(t:Term):(tv (sub n c t)).count x≤(tv t).count x+(tv t).count n*(iC c.Kids).count x:=by
 refine fT (P:=fun t=>(tv (sub n c t)).count x≤(tv t).count x+(tv t).count n*(iC c.Kids).count x) (fun t d=>?_) t
 have b:∀ l:List Term,(∀ y,y∈l→y∈t.Kids)→(iC (kW n c l)).count x≤(iC l).count x+(iC l).count n*(iC c.Kids).count x:=by
   intro l
   induction l<;>grind[kW,iC,Nat.add_mul]
 rw[sub_eq]
 by_cases c1:t.Op=1
 · by_cases c2:t.N=n
   · rw[if_pos c1,if_pos c2,rj c,if_neg a,lE]
     have:1≤(tv t).count n:=by rw[rj,if_pos c1,c2];simp
     have:=yp ((iC c.Kids).count x) this
     omega
   all_goals grind
 · rw[if_neg c1,rj (Term.mk _ _ _),rj t,if_neg c1,show(Term.mk t.Op t.N (kW n c t.Kids)).Op=t.Op from rfl,if_neg c1]
   exact b t.Kids fun _ h=>h
theorem aeT (n:Int)(c:Term)(K:Nat)(i:gI c.Kids≤K)(t:Term):dJ (sub n c t)≤dJ t+(((tv t).count n*K:Nat):Int):=by
 refine fT (P:=fun t=>dJ (sub n c t)≤dJ t+(((tv t).count n*K:Nat):Int)) (fun t d=>?_) t
 have g:∀ l:List Term,(∀ y,y∈l→y∈t.Kids)→gI (kW n c l)≤gI l+(((iC l).count n*K:Nat):Int):=by
   intro l
   induction l with
   | nil=>intro _;simp[kW,gI,iC]
   | cons a l b=>
     intro h
     have h1:=d a (h a (by simp))
     have h2:=b fun y hy=>h y (by simp[hy])
     simp only[kW,gI,iC,List.count_append,gD]
     omega
 rw[sub_eq]
 by_cases c1:t.Op=1
 · by_cases c2:t.N=n
   · rw[if_pos c1,if_pos c2,eE c]
     have:1≤(tv t).count n:=by rw[rj,if_pos c1,c2];simp
     have:=yp K this
     have:=kK t
     omega
   all_goals grind
 · have:=g t.Kids fun _ h=>h
   rw[if_neg c1,eE (Term.mk _ _ _),eE t,rj t,if_neg c1,lE]
   simp only[show(Term.mk t.Op t.N (kW n c t.Kids)).Kids=kW n c t.Kids from rfl]
   omega
theorem aeU (s:aE)(n:Int)(c:Term)(a:cA (pn s) c=true)(t:Term):cA (pn s) t=true→cA (pn s) (sub n c t)=true:=by
 refine fT (P:=fun t=>cA (pn s) t=true→cA (pn s) (sub n c t)=true) (fun t b h=>?_) t
 rw[sub_eq]
 by_cases c1:t.Op=1
 · grind
 · rw[if_neg c1]
   rw[dS,fe,aS,dg] at h ⊢
   refine⟨?_,fun x hx=>?_⟩
   · have:=h.1
     simp only[pn,if_neg c1] at this
     have e:pn s (Term.mk t.Op t.N (kW n c t.Kids))=if t.Op=1 then(kW n c t.Kids).isEmpty else decide (t.Op=3)&&pd s.Cons t.N fun k=>decide (((kW n c t.Kids).length:Int)=k):=rfl
     rw[e,if_neg c1,tx,sq]
     exact this
   · simp only[show(Term.mk t.Op t.N (kW n c t.Kids)).Kids=kW n c t.Kids from rfl,tx] at hx
     obtain⟨y,hy,rfl⟩:=kJ.1 hx
     grind
structure Sh (s : aE) (k : Int) (l : List Term) (n : Int) : Prop where
 p : ∀ x, x ∈ l → cA (pn s) x = true
 len : (l.length : Int) = k
 b : 0 ≤ n ∧ n ≤ 64
 z : gI l ≤ n
 lt : ∀ x, x ∈ iC l → x < n
 nd : ∀ x, (iC l).count x ≤ 1
theorem aeV (s:aE)(n:Int):cA (pn s) (Term.mk 1 n [])=true:=by
 rw[dS];rfl
theorem UX (s:aE)(l:LI):∀ x,x∈ti l→cA (pn s) x=true:=by
 intro x hx
 obtain⟨n,_,rfl⟩:=kJ.1 hx
 exact aeV s n
theorem Wn (s:aE)(k:Int)(h:0≤k∧k≤4):Sh s k (ti (qg 0 k)) k:=by
 have b:=JX (qg 0 k)
 have a:=AB 0 k h.1
 refine⟨UX s _,by simp[ti,a],by omega,by omega,fun x hx=>?_,fun x=>?_⟩
 all_goals grind[JW,I5]
variable {k : Int} {l : List Term} {n : Int}
theorem Za (h:Sh s k l n)(t:n≤60)(v g:Int)(d:cf)(hx:bP s.Cons g=some d)(ha:0≤d.bu∧d.bu≤4) :
   Sh s k (kW v (Term.mk 3 g (ti (qg n d.bu))) l) (n+d.bu):=by
 have j:=JX (qg n d.bu)
 have m:=AB n d.bu ha.1
 have o:cA (pn s) (Term.mk 3 g (ti (qg n d.bu)))=true:=by
   rw[dS,fe,aS,dg]
   refine⟨?_,UX s _⟩
   simp only[pn,show(Term.mk 3 g (ti (qg n d.bu))).Op=3 from rfl,show(Term.mk 3 g (ti (qg n d.bu))).N=g from rfl,show(Term.mk 3 g (ti (qg n d.bu))).Kids=ti (qg n d.bu) from rfl,pd,hx]
   simp[ti,m]
 have Ja:∀ x,(iC (kW v (Term.mk 3 g (ti (qg n d.bu))) l)).count x≤(iC l).count x+(iC l).count v*(qg n d.bu).count x:=by
   intro x
   have:∀ l:List Term,(iC (kW v (Term.mk 3 g (ti (qg n d.bu))) l)).count x≤(iC l).count x+(iC l).count v*(qg n d.bu).count x:=by
     intro l
     induction l with
     | nil=>simp[kW,iC]
     | cons a l r=>
       have h1:=Y9 v x (Term.mk 3 g (ti (qg n d.bu))) (show ¬ (3:Int)=1 by decide) a
       rw[show(Term.mk 3 g (ti (qg n d.bu))).Kids=ti (qg n d.bu) from rfl,j.1] at h1
       simp only[kW,iC,List.count_append,gD]
       omega
   exact this l
 have size:gI (kW v (Term.mk 3 g (ti (qg n d.bu))) l)≤gI l+(((iC l).count v*d.bu.toNat:Nat):Int):=by
   have:∀ l:List Term,gI (kW v (Term.mk 3 g (ti (qg n d.bu))) l)≤gI l+(((iC l).count v*d.bu.toNat:Nat):Int):=by
     intro l
     induction l with
     | nil=>simp[kW,gI,iC]
     | cons a l r=>
       have h1:=aeT v (Term.mk 3 g (ti (qg n d.bu))) d.bu.toNat (by rw[show(Term.mk 3 g (ti (qg n d.bu))).Kids=ti (qg n d.bu) from rfl,j.2];omega) a
       simp only[kW,gI,iC,List.count_append,gD]
       omega
   exact this l
 have u:=yp d.bu.toNat (h.nd v)
 refine⟨fun x i=>?_,by rw[tx,sq];exact h.len,by have:=h.b;omega,by have:=h.z;omega,fun x i=>?_,fun x=>?_⟩
 · rw[tx] at i
   obtain⟨y,hy,rfl⟩:=kJ.1 i
   exact aeU s v _ o y (h.p y hy)
 · have c0:=List.count_pos_iff.2 i
   have c1:=Ja x
   by_cases c:x∈iC l
   · have:=h.lt x c;omega
   · by_cases c2:x∈qg n d.bu
     all_goals grind[JW]
 · have c1:=Ja x
   by_cases c2:x∈qg n d.bu
   · have:x∉iC l:=fun q=>by have:=h.lt x q;rw[JW] at c2;omega
     rw[OP.2 this] at c1
     have:=Nat.mul_le_mul (h.nd v) (List.nodup_iff_count.1 (I5 n d.bu) x)
     omega
   · rw[OP.2 c2] at c1
     have:=h.nd x
     omega
theorem Zb (h:Sh s k l n)(g:n≤60)(v c:Int)(a:cf)(hx:bP s.Cons c=some a)(ha:0≤a.bu∧a.bu≤4) :
   ke ⟨l,n⟩ s v c=some ⟨kW v (Term.mk 3 c (ti (qg n a.bu))) l,n+a.bu⟩∧ni ⟨l,n⟩ s v c=some (⟨kW v (Term.mk 3 c (ti (qg n a.bu))) l,n+a.bu⟩,qg n a.bu):=by
 have hb:=h.b
 have j:=h.z
 have d:=AB n a.bu ha.1
 have m:=dX l
 constructor
 · rw[ke,hx]
   simp only[aW,aD,JV n a.bu hb.1 (by omega) (by omega),Mh (qg n a.bu) (by omega)]
   rw[if_pos fK,tx]
   exact RC l (sub v (Term.mk 3 c (ti (qg n a.bu)))) (fun x=>iP x [du.mk v (Term.mk 3 c (ti (qg n a.bu)))]) (fun x hx=>Wm s v _ x (by grind) (h.p x hx)) (by omega) (F2:=gM ⟨l,n⟩ v c a (ti (qg n a.bu))) (e:=fun l=>some (bo.mk l (n+a.bu))) (by rw[pH]) (fun i l=>by rw[gM])
 · rw[ni,hx]
   simp only[aW,aD,Gj n a.bu hb.1 (by omega) (by omega),Mi (qg n a.bu) (by omega)]
   have:=Y8 s v (Term.mk 3 c (ti (qg n a.bu))) (Term.mk 0 0 l) (by simp only[dJ];omega) (.inr ⟨rfl,h.p⟩)
   rw[show(Term.mk 0 0 l).Kids=l from rfl] at this
   rw[this]
   simp only[aD]
   rw[if_pos fK,d]
theorem Wo (p:aJ)(fn:Int)(a:cf)(hx:bP p.cy.bq fn=some a)(ha:0≤a.bu∧a.bu≤4):yk p fn=some ⟨ti (qg 0 a.bu),a.bu⟩∧vO p fn=some ⟨ti (qg 0 a.bu),a.bu⟩:=by
 have b:=AB 0 a.bu ha.1
 constructor
 · rw[yk,hx]
   simp only[aW,aD,JV 0 a.bu (by omega) (by omega) (by omega),Mh (qg 0 a.bu) (by omega)]
 · rw[vO,hx]
   simp only[aW,aD,Gj 0 a.bu (by omega) (by omega) (by omega),Mi (qg 0 a.bu) (by omega)]
mutual
def RE : Term→Term→LI→Option LI
 | .mk o n l,q,out=>if o=1 then(if q.Op=1 then some (out.set n.toNat q.N) else none) else if o=q.Op∧n=q.N then w4 l q.Kids out else none
def w4 : List Term→List Term→LI→Option LI
 | [],_,out=>some out
 | _::_,[],_=>none
 | p::l,q::r,out=>(RE p q out).bind (w4 l r)
end
theorem QZ (p q:Term)(out:LI):RE p q out=if p.Op=1 then(if q.Op=1 then some (out.set p.N.toNat q.N) else none) else if p.Op=q.Op∧p.N=q.N then w4 p.Kids q.Kids out else none:=by cases p;rw[RE];rfl
def WK (s:aE)(v:Nat)(p:Term):Prop:=cA (pn s) p=true∧∀ x,x∈tv p→0≤x∧x<v
variable {v : Nat} {p : Term}
theorem Q0 (h:WK s v p):∀ x,x∈p.Kids→WK s v x:=by
 intro x hx
 have h1:=h.1
 rw[dS,fe,aS,dg] at h1
 refine⟨h1.2 x hx,fun y hy=>h.2 y ?_⟩
 grind[rj,EN]
theorem Q1 (h:WK s v p)(c:p.Op=1):0≤p.N∧p.N<v:=h.2 p.N (by rw[rj,if_pos c];simp)
theorem UY {q:Term}(a:cA (pn s) p=true)(b:cA (pn s) q=true)(c:¬ p.Op=1)(e:p.Op=q.Op)(f:p.N=q.N):p.Kids.length=q.Kids.length:=by
 rw[dS,aS] at a b
 have h1:=a.1
 have h2:=b.1
 have c2:¬ q.Op=1:=by omega
 simp only[pn,if_neg c,if_neg c2,aS,pd,f] at h1 h2
 have h1:=h1.2
 have h2:=h2.2
 cases g:bP s.Cons q.N<;>grind
def Zm (r:Option (LI×Bool))(n:Nat)(o:Option LI):Prop:=∃ l b,r=some (l,b)∧l.length=n∧(if b=true then some l else none)=o
theorem SH (s:aE)(p q:Term)(out:LI)(z:p.Kids.length≤1000)(j:p.Kids.length=q.Kids.length)(m:∀ x,x∈q.Kids→cA (pn s) x=true)
   (t:∀ x,x∈p.Kids→∀ y o,o.length=out.length→cA (pn s) y=true→Zm (cC x y o) out.length (RE x y o)) :
   ∀(d i:Nat) (l:LI),p.Kids.length-i=d→i≤p.Kids.length→l.length=out.length→Zm (bZ p q out i l) out.length (w4 (p.Kids.drop i) (q.Kids.drop i) l):=by
 intro d
 induction d with
 | zero=>
   intro i l u hi a
   rw[bZ,jM,show i=p.Kids.length by omega,fu,w4]
   exact⟨l,true,rfl,a,rfl⟩
 | succ d c=>
   intro i l u hi a
   have h:i<p.Kids.length:=by omega
   have h2:i<q.Kids.length:=by omega
   obtain⟨r,b,e,g,w⟩:=t _ (cM h) q.Kids[i] l a (m _ (cM h2))
   rw[bZ,e9,aU h,aU h2,db h,db h2,w4,←w]
   simp only[aW,aD,e]
   rw[e9]
   cases b with
   | false=>exact⟨r,false,rfl,g,rfl⟩
   | true=>
     rw[if_pos rfl,if_pos rfl,if_pos fK,tj]
     exact c (i+1) r (by omega) (by omega) g
theorem Zc (s:aE)(v:Nat)(p:Term):dJ p≤1000→WK s v p→∀ q out,out.length=v→cA (pn s) q=true→Zm (cC p q out) v (RE p q out):=by
 refine fT (P:=fun p=>dJ p≤1000→WK s v p→∀ q out,out.length=v→cA (pn s) q=true→Zm (cC p q out) v (RE p q out)) (fun p j m g q out a i=>?_) p
 have r:=dX p.Kids
 rw[eE] at m
 rw[cC,QZ]
 by_cases c:p.Op=1
 · have hb:=Q1 g c
   obtain⟨n,t⟩:∃ n:Nat,p.N=n:=⟨p.N.toNat,by omega⟩
   rw[if_pos (by simpa using c),if_pos c,t,aU (show n<out.length by omega)]
   simp only[aW,aD,ub]
   by_cases c2:q.Op=1
   · rw[if_pos (by simpa using c2),if_pos c2];exact⟨_,true,rfl,by simpa using a,rfl⟩
   · rw[if_neg (by simpa using c2),if_neg c2];exact⟨_,false,rfl,by simpa using a,rfl⟩
 · rw[if_neg (by simpa using c),if_neg c]
   by_cases c1:p.Op=q.Op
   · by_cases c2:p.N=q.N
     · have d:=UY g.1 i c c1 c2
       have b:=i
       rw[dS,fe,aS,dg] at b
       rw[if_neg (by simpa using c1),if_neg (by simpa using c2),jM,if_pos ⟨c1,c2⟩]
       have:=SH s p q out (by omega) d b.2 (fun x hx y o h1 h2=>by rw[a];exact j x hx (by have:=r.2 x hx;omega) (Q0 g x hx) y o (by omega) h2) p.Kids.length 0 out rfl (bW _) rfl
       rw[a] at this
       exact this
     · rw[if_neg (by simpa using c1),if_pos (by simpa using c2),if_neg fun h=>c2 h.2];exact⟨out,false,rfl,a,rfl⟩
   · rw[if_pos (by simpa using c1),if_neg fun h=>c1 h.1];exact⟨out,false,rfl,a,rfl⟩
theorem SI (s:aE)(a g:List Term)(o0:LI)(v:Nat)(H:a.length≤1000)(z:a.length=g.length)(A:∀ x,x∈a→WK s v x)(B:∀ x,x∈g→cA (pn s) x=true)
   (C:∀ x,x∈a→∀ r o,o.length=v→x.Kids.length=r.length→(∀ y,y∈r→cA (pn s) y=true)→Zm (bH x.Kids r o) v (w4 x.Kids r o)) :
   ∀(d i:Nat) (l:LI),a.length-i=d→i≤a.length→l.length=v→Zm (bB a g o0 i l) v (w4 (a.drop i) (g.drop i) l):=by
 intro d
 induction d with
 | zero=>
   intro i l D hi j
   rw[bB,jM,show i=a.length by omega,fu,w4]
   exact⟨l,true,rfl,j,rfl⟩
 | succ d m=>
   intro i l D hi j
   have h:i<a.length:=by omega
   have h2:i<g.length:=by omega
   have q:=A _ (cM h)
   have t:=B _ (cM h2)
   rw[bB,e9,aU h,aU h2,db h,db h2,w4,QZ]
   simp only[aW,aD]
   by_cases c:a[i].Op=1
   · rw[if_pos (by simpa using c),if_pos c]
     by_cases c2:g[i].Op=1
     · have hb:=Q1 q c
       obtain⟨n,E⟩:∃ n:Nat,a[i].N=n:=⟨a[i].N.toNat,by omega⟩
       rw[if_pos (by simpa using c2),if_pos c2,E,aU (show n<l.length by omega)]
       simp only[aD,ub]
       rw[if_pos fK,tj]
       exact m (i+1) _ (by omega) (by omega) (by simpa using j)
     · have c3:¬ a[i].Op=g[i].Op:=by omega
       rw[if_neg (by simpa using c2),if_neg c2,if_pos (by simpa using c3)]
       exact⟨l,false,rfl,j,rfl⟩
   · rw[if_neg (by simpa using c),if_neg c]
     by_cases c1:a[i].Op=g[i].Op
     · by_cases c2:a[i].N=g[i].N
       · have u:=t
         rw[dS,fe,aS,dg] at u
         obtain⟨r,b,e,w,G⟩:=C _ (cM h) g[i].Kids l j (UY q.1 t c c1 c2) u.2
         rw[if_neg (by simpa using c1),if_neg (by simpa using c2),if_pos ⟨c1,c2⟩,←G,e]
         simp only[aD]
         rw[e9]
         cases b with
         | false=>exact⟨r,false,rfl,w,rfl⟩
         | true=>
           rw[if_pos rfl,if_pos rfl,if_pos fK,tj]
           exact m (i+1) r (by omega) (by omega) w
       · rw[if_neg (by simpa using c1),if_pos (by simpa using c2),if_neg fun h=>c2 h.2];exact⟨l,false,rfl,j,rfl⟩
     · rw[if_pos (by simpa using c1),if_neg fun h=>c1 h.1];exact⟨l,false,rfl,j,rfl⟩
theorem Zd (s:aE)(v:Nat)(p:Term):dJ p≤1000→(∀ x,x∈p.Kids→WK s v x)→∀ r o,o.length=v→p.Kids.length=r.length→(∀ y,y∈r→cA (pn s) y=true)→Zm (bH p.Kids r o) v (w4 p.Kids r o):=by
 refine fT (P:=fun p=>dJ p≤1000→(∀ x,x∈p.Kids→WK s v x)→∀ r o,o.length=v→p.Kids.length=r.length→(∀ y,y∈r→cA (pn s) y=true)→Zm (bH p.Kids r o) v (w4 p.Kids r o)) (fun p c d b r o g a h=>?_) p
 have i:=dX p.Kids
 rw[eE] at d
 rw[bH]
 exact SI s p.Kids r o v (by omega) a b h (fun x hx r o h1 h2 h3=>c x hx (by grind) (Q0 (b x hx)) r o h1 h2 h3) p.Kids.length 0 o rfl (bW _) g
theorem P1 (s:aE)(k v:Int)(c:List Term)(r:bn)(n:Nat)(m:∀ x,x∈r.cK→WK s n x)(o:∀ x,x∈r.cK→dJ x≤1000)(q:∀ x,x∈c→cA (pn s) x=true)(j:r.cK.length=c.length)(y:c.length≤1000) :
   ∀(d i:Nat) (l:LI),c.length-i=d→i≤c.length→l.length=n→∃ a b,dZ ⟨c,k⟩ r i l=some (a,b)∧(if b=true then some a else none)=w4 (r.cK.drop i) (c.drop i) l:=by
 intro d
 induction d with
 | zero=>
   intro i l t hi g
   rw[dZ,jM,show i=r.cK.length by omega,fu,w4]
   grind
 | succ d w=>
   intro i l t hi g
   have h:i<r.cK.length:=by omega
   have h2:i<c.length:=by omega
   obtain⟨a,b,e,z,u⟩:=Zc s n _ (o _ (cM h)) (m _ (cM h)) c[i] l g (q _ (cM h2))
   rw[dZ,e9,aU h,aU h2,db h,db h2,w4,←u]
   simp only[aW,aD,e]
   rw[e9]
   cases b with
   | false=>grind
   | true=>
     rw[if_pos rfl,if_pos rfl,if_pos fK,tj]
     grind
theorem Wp (h:Sh s k l n)(r:bn)(C:uK s r=true)(hf:pd s.bq r.vl (fun a=>decide (a=k))=true)(J:k≤4) :
   ∃ a b c,mc ⟨l,n⟩ r=some (a,b)∧jq ⟨l,n⟩ r=some (c,b)∧(b=true→a=c):=by
 simp only[uK,aS,decide_eq_true_eq,dg] at C
 obtain⟨⟨⟨⟨⟨⟨h1,h2,h3⟩,h4⟩,G⟩,M⟩,N⟩,O⟩:=C
 have d:r.cK.length=l.length:=by
   simp only[pd] at h1 hf
   cases g:bP s.bq r.vl with
   | none=>grind
   | some x=>rw[g] at h1 hf;simp only[decide_eq_true_eq] at h1 hf;have:=h.len;omega
 have t:∀ x,x∈r.cK→WK s r.bg.toNat x∧dJ x≤40:=by
   intro x hx
   have:=G x hx
   simp only[pe,eM,tV,aS,decide_eq_true_eq] at this
   obtain⟨⟨⟨⟨z,_⟩,a⟩,b,_⟩,c⟩:=this
   have e:∀ x:Term,fZ s x=true→BJ x=true→pn s x=true:=fun x ha hb=>by
    simp only[BJ,xe,decide_eq_true_eq] at hb
    rcases hb with q | q
    · simp only[fZ,if_pos q,aS,decide_eq_true_eq] at ha
      simp only[pn,if_pos q,List.isEmpty_iff_length_eq_zero];exact ha.1
    · have D:¬ x.Op=1:=by omega
      have q2:¬ x.Op=2:=by omega
      simp only[fZ,if_neg D,if_neg q2,if_pos q] at ha
      simp only[pn,if_neg D,q,decide_true,j6];exact ha
   have m:∀ x:Term,cA (fZ s) x=true→cA BJ x=true→cA (pn s) x=true∧∀ y,y∈tv x→0≤y:=by
    refine fT (fun x u ha hb=>?_)
    rw[dS,fe,aS,dg] at ha hb
    refine⟨?_,fun y hy=>?_⟩
    · rw[dS,fe,aS,dg]
      exact⟨e x ha.1 hb.1,fun y hy=>(u y hy (ha.2 y hy) (hb.2 y hy)).1⟩
    · rw[rj,fc,EN] at hy
      rcases hy with hy | ⟨z,w,hy⟩
      · by_cases q:x.Op=1
        · have:=ha.1
          simp only[fZ,if_pos q,aS,decide_eq_true_eq] at this
          rw[if_pos q,ug] at hy
          omega
        · rw[if_neg q] at hy;simp at hy
      · exact(u z w (ha.2 z w) (hb.2 z w)).2 y hy
   have E:=m x a b
   refine⟨⟨E.1,fun y hy=>⟨E.2 y hy,?_⟩⟩,z⟩
   have:=((JT r.bg x).1 c).1 y hy
   omega
 have K:=h.len
 have j:=P1 s n n l r r.bg.toNat (fun x hx=>(t x hx).1) (fun x hx=>by have:=(t x hx).2;omega) h.p d (by omega) l.length 0 (List.replicate r.bg.toNat (-1)) rfl (bW _) (by simp)
 obtain⟨a,b,H,j⟩:=j
 have w:gI r.cK≤40*r.cK.length:=by
   have:∀ l:List Term,(∀ x,x∈l→dJ x≤40)→gI l≤40*l.length:=by
    intro l
    induction l with
    | nil=>intro _;simp[gI]
    | cons a l u=>
      intro q
      have h1:=q a (by simp)
      have h2:=u fun x hx=>q x (by simp[hx])
      simp only[gI,pk];omega
   exact this r.cK fun x hx=>(t x hx).2
 obtain⟨c,o,A,P,m⟩:=Zd s r.bg.toNat (Term.mk 0 0 r.cK) (by simp only[dJ];omega) (fun x hx=>(t x hx).1) l (List.replicate r.bg.toNat (-1)) (by simp) d h.p
 have A:bH r.cK l (List.replicate r.bg.toNat (-1))=some (c,o):=A
 have m:(if o=true then some c else none)=w4 r.cK l (List.replicate r.bg.toNat (-1)):=m
 have j:(if b=true then some a else none)=w4 r.cK l (List.replicate r.bg.toNat (-1)):=j
 have hb:b=o∧(b=true→a=c):=by
   rw[←m] at j
   cases b<;>cases o<;>simp at j ⊢
   exact j
 refine⟨a,b,c,?_,?_,hb.2⟩
 · rw[mc,e9]
   have:eP ⟨l,n⟩ r 0 (List.replicate r.bg.toNat 0)=dZ ⟨l,n⟩ r 0 ((List.replicate r.bg.toNat (0:Int)).map fun _=>(-1:Int)):=
    ZO (L:=List.replicate r.bg.toNat (0:Int)) (fun _ => -1) (F:=eP ⟨l,n⟩ r) (e:=fun l2=>dZ ⟨l,n⟩ r 0 l2) (fun i hi l2 B I=>by
      rw[List.length_replicate] at hi B
      rw[eP,e9,UW,I]
      simp only[aW,aD,ub]
      rw[if_pos fK]) (fun l2 B=>by rw[List.length_replicate] at B;rw[eP,jM])
   rw[this,asJ]
   exact H
 · rw[jq,e9,oD,oC]
   simp only[A,aW,aD,hb.1]
   rw[e9]
   cases o<;>rfl
theorem ajS (L:List α)(f:α→β)(j:L.length≤1000000)(F2:Int→List β→Option γ)(e:List β→Option γ)(a:List β)(ha:a.length≤40000)(h2:∀(i:Int) (l:List β),F2 i l=if decide (i<(L.length:Int)) then(bP L i>>=fun x=>if decide (l.length+[f x].length≤1048576) then(if cw .i64 (i+1) then F2 (i+1) (l++[f x]) else none) else none) else e l):F2 0 a=e (a++L.map f):=by
 suffices q:∀(d i:Nat) (l:List β),L.length-i=d→i≤L.length→l.length≤40000+i→F2 (i:Int) l=e (l++(L.drop i).map f) by
   exact q L.length 0 a rfl (bW _) (by omega)
 intro d
 induction d with
 | zero=>
   intro i l b hi c
   rw[h2,jM,show i=L.length by omega,fu,ud,n5]
 | succ d g=>
   intro i l b hi c
   have h:i<L.length:=by omega
   rw[h2,e9,aU h,db h,dF]
   simp only[aW,aD]
   rw[e9,if_pos fK,tj,g (i+1) _ (by omega) (by omega) (by simp;omega),pj,Fs]
theorem Wq (t:af)(b:t.Kids.length≤1000)(ha:t.bl.length≤1000):vP t=some (t.Kids++t.bl.map bS.fb):=by
 have h2:=fun(a:List af) (h:a.length≤40000)=>ajS t.bl bS.fb (by omega) (gY t) some a h (fun i l=>by rw[gY])
 rw[vP]
 by_cases c:t.Kids=[]
 · have h1:rE t=some (t.bl.map bS.fb):=
    RC t.bl bS.fb (fun x=>some x.fb) (fun _ _=>rfl) (by omega) (e:=some) (by rw[rE];rfl) (fun i l=>by rw[gY];rfl)
   grind[ZY]
 all_goals grind
theorem FO : ∀(a:List af) (b:List bS),lL (a++b.map bS.fb)=lL a+nN b
 | [],[]=>by simp[lL,nN]
 | [],x::b=>by have:=FO [] b;grind[lL,nN,tw]
 | x::a,b=>by simp only[B4,lL,FO a b];omega
def zi (c:Int):Sum Int Unit:=if c≤100 then .inl c else .inr ()
theorem P2 (t:af)(a:Int)(p:aJ)(u:af)(b:Bool)(c0:Int)(L:List af)(r:L.length≤1000)(o:∀ x,x∈L→∀ c:Int,0≤c→c≤100→cd x a p u b c=some (zi (c+qC x))) :
   ∀(d i:Nat) (c:Int),L.length-i=d→i≤L.length→0≤c→c≤100→bR t a p u b c0 L i c=some (zi (c+lL (L.drop i))):=by
 intro d
 induction d with
 | zero=>
   intro i c q hi m h1
   rw[bR,jM,show i=L.length by omega,fu,lL,zi,if_pos (by omega),Int.add_zero]
 | succ d j=>
   intro i c q hi m h1
   have h:i<L.length:=by omega
   have w:=nc L[i]
   have y:=jw (L.drop (i+1))
   rw[bR,e9,aU h,db h,lL]
   simp only[aW,aD,o _ (cM h) c m h1]
   by_cases g:c+qC L[i]≤100
   · rw[show zi (c+qC L[i])=.inl (c+qC L[i]) by rw[zi,if_pos g]]
     simp only[]
     rw[if_pos fK,tj,j (i+1) _ (by omega) (by omega) (by omega) g,Int.add_assoc]
   · rw[show zi (c+qC L[i])=.inr () by rw[zi,if_neg g]]
     simp only[]
     rw[zi,if_neg (by omega)]
theorem SJ (a:Int)(p:aJ)(u:af)(b:Bool)(t:af):qC t≤1000→∀ c:Int,0≤c→c≤100→cd t a p u b c=some (zi (c+qC t)):=by
 refine Ak (P:=fun t=>qC t≤1000→∀ c:Int,0≤c→c≤100→cd t a p u b c=some (zi (c+qC t))) (fun t i h j c d h1=>?_) t
 have m:=jw t.Kids
 have o:=jx t.bl
 rw[zy] at j ⊢
 rw[cd,if_pos fK]
 by_cases g:c+1≤100
 · have:=P2 t a p u b c (t.Kids++t.bl.map bS.fb) (by simp;omega) (fun x hx c d h1=>by
    rcases fc.1 hx with hx | hx
    · exact i x hx (by have:=uQ _ x hx;omega) c d h1
    · obtain⟨y,hy,rfl⟩:=kJ.1 hx
      exact h y hy (by have:=uR _ y hy;omega) c d h1) _ 0 (c+1) rfl (bW _) (by omega) g
   rw[if_pos (by simpa using g),Wq t (by omega) (by omega)]
   grind[FO]
 · rw[if_neg (by simpa using g),zi,if_neg (by omega)]
theorem aeW (t:af):NV t≤qC t:=by
 refine Ak (P:=fun t=>NV t≤qC t) (fun t d c=>?_) t
 have h1:∀ l:List af,(∀ x,x∈l→NV x≤qC x)→DN l≤lL l:=by
  intro l
  induction l with
  | nil=>intro _;simp[DN,lL]
  | cons a l b=>
    intro h
    have:=h a (by simp)
    have:=b fun x hx=>h x (by simp[hx])
    have:=nc a
    have:=jw l
    simp only[DN,lL];omega
 have h2:∀ l:List bS,(∀ x,x∈l→NV x.fb≤qC x.fb)→BW l≤nN l:=by
  intro l
  induction l with
  | nil=>intro _;simp[BW,nN]
  | cons a l b=>
    intro h
    have:=h a (by simp)
    have:=b fun x hx=>h x (by simp[hx])
    have:=nc a.fb
    have:=jx l
    simp only[BW,nN,QV,tw];omega
 have:=h1 t.Kids d
 have:=h2 t.bl c
 have:=jw t.Kids
 have:=jx t.bl
 rw[UR,zy];omega
mutual
def al : af→LI
 | .mk o _ a b r _=>(if o=3 then [r] else [])++G1 b++G5 a
def G1 : List af→LI
 | []=>[]
 | t::l=>al t++G1 l
def G5 : List bS→LI
 | []=>[]
 | a::l=>alI a++G5 l
def alI : bS→LI
 | .mk _ _ t=>al t
end
theorem It (t:af):al t=(if t.Op=3 then [t.bY] else [])++G1 t.Kids++G5 t.bl:=by cases t;rw[al];rfl
theorem JC (a:bS):alI a=al a.fb:=by cases a;rw[alI];rfl
theorem xj (t:af):((al t).length:Int)≤qC t:=by
 refine Ak (P:=fun t=>((al t).length:Int)≤qC t) (fun t b a=>?_) t
 have h1:∀ l:List af,(∀ x,x∈l→((al x).length:Int)≤qC x)→((G1 l).length:Int)≤lL l:=by
  intro l
  induction l<;>grind[G1,lL,List.length_append]
 have h2:∀ l:List bS,(∀ x,x∈l→((al x.fb).length:Int)≤qC x.fb)→((G5 l).length:Int)≤nN l:=by
  intro l
  induction l<;>grind[G5,nN,JC,tw,List.length_append]
 grind[It,zy]
theorem ajq (L:List α)(f:α→LI)(w:α→Int)(o:∀ x,x∈L→((f x).length:Int)≤w x)(W:List α→Int)(q:∀ x l,W (x::l)=w x+W l)(a:∀ l,0≤W l)(g:α→Option LI)(r:∀ x,x∈L→g x=some (f x))(C:List α→LI)(t:∀ x l,C (x::l)=f x++C l)(b:C []=[])(y:L.length≤1000000)(F:Int→LI→Option LI)(e:LI→Option LI)(c:∀(i:Int) (l:LI),F i l=if decide (i<(L.length:Int)) then(bP L i>>=fun x=>g x>>=fun v=>if v.isEmpty then(if cw .i64 (i+1) then F (i+1) l else none) else(if decide (l.length+v.length≤1048576) then(if cw .i64 (i+1) then F (i+1) (l++v) else none) else none)) else e l) :
   ∀(d i:Nat) (l:LI),L.length-i=d→i≤L.length→l.length+W (L.drop i)≤1000000→F (i:Int) l=e (l++C (L.drop i)):=by
 intro d
 induction d with
 | zero=>
   intro i l u hi j
   rw[c,jM,show i=L.length by omega,fu,b,n5]
 | succ d z=>
   intro i l u hi j
   have h:i<L.length:=by omega
   have m:=cM h
   have h1:=o _ m
   have h2:=a (L.drop (i+1))
   rw[db h,q] at j
   rw[c,e9,aU h,db h,t]
   simp only[aW,aD,r _ m]
   rw[if_pos fK,if_pos fK,tj]
   grind
theorem ZP (L:List α)(f:α→LI)(w:α→Int)(q:∀ x,x∈L→((f x).length:Int)≤w x)(W:List α→Int)(r:∀ x l,W (x::l)=w x+W l)(a:∀ l,0≤W l)(g:α→Option LI)(t:∀ x,x∈L→g x=some (f x))(C:List α→LI)(u:∀ x l,C (x::l)=f x++C l)(b:C []=[])(E:L.length≤1000000)(F:Int→LI→Option LI)(e:LI→Option LI)(y:∀(i:Nat) (l:LI),i≤L.length→l.length+W (L.drop i)≤10000→F i l=e (l++C (L.drop i)))(G:Int→Option LI)(z:Option LI)(A:z=e [])(j:∀(i:Int),G i=if decide (i<(L.length:Int)) then(bP L i>>=fun x=>g x>>=fun v=>if v.isEmpty then(if cw .i64 (i+1) then G (i+1) else none) else(if decide (v.length≤1048576) then(if cw .i64 (i+1) then F (i+1) v else none) else none)) else z) :
   ∀(d i:Nat),L.length-i=d→i≤L.length→W (L.drop i)≤10000→G (i:Int)=e (C (L.drop i)):=by
 intro d
 induction d with
 | zero=>
   intro i B hi m
   rw[j,jM,show i=L.length by omega,fu,b,A]
 | succ d D=>
   intro i B hi m
   have h:i<L.length:=by omega
   have o:=cM h
   have h1:=q _ o
   have h2:=a (L.drop (i+1))
   rw[db h,r] at m
   rw[j,e9,aU h,db h,u]
   simp only[aW,aD,t _ o]
   rw[if_pos fK,if_pos fK,tj]
   by_cases c:f L[i]=[]
   · rw[c,if_pos (show([]:LI).isEmpty=true from rfl),D (i+1) (by omega) (by omega) (by omega),lE]
   · rw[if_neg (by simpa using c),e9,y (i+1) _ (by omega) (by omega)]
theorem Q3 : ∀ l:List af,((G1 l).length:Int)≤lL l
 | []=>by simp[G1,lL]
 | a::l=>by have:=Q3 l;have:=xj a;simp only[G1,lL,sg];omega
theorem all_eq (t:af):qC t≤1000→jg t=some (al t):=by
 refine Ak (P:=fun t=>qC t≤1000→jg t=some (al t)) (fun t d b m=>?_) t
 have q:=jw t.Kids
 have r:=jx t.bl
 rw[zy] at m
 have g:=ajq t.bl (fun a=>al a.fb) (fun a=>qC a.fb) (fun a _=>xj a.fb) nN (fun x l=>by rw[nN,tw]) (fun l=>(jx l).1) (fun a=>jg a.fb) (fun a ha=>b a ha (by have:=uR _ a ha;omega)) G5 (fun x l=>by rw[G5,JC]) (by rw[G5]) (by omega) (iQ t) some (fun i l=>by rw[iQ])
 have h:=ZP t.bl (fun a=>al a.fb) (fun a=>qC a.fb) (fun a _=>xj a.fb) nN (fun x l=>by rw[nN,tw]) (fun l=>(jx l).1) (fun a=>jg a.fb) (fun a ha=>b a ha (by have:=uR _ a ha;omega)) G5 (fun x l=>by rw[G5,JC]) (by rw[G5]) (by omega) (iQ t) some (fun i l h1 h2=>g _ i l rfl h1 (by omega)) (nH t) _ rfl (fun i=>by rw[nH]) t.bl.length 0 rfl (bW _) (by grind)
 have j:∀(i:Nat) (l:LI),i≤t.Kids.length→l.length+lL (t.Kids.drop i)≤10000→jo t i l=some ((l++G1 (t.Kids.drop i))++G5 t.bl):=fun i l h1 h2=>by
   rw[ajq t.Kids al qC (fun a _=>xj a) lL (fun x l=>by rw[lL]) (fun l=>(jw l).1) jg (fun a ha=>d a ha (by have:=uQ _ a ha;omega)) G1 (fun x l=>by rw[G1]) (by rw[G1]) (by omega) (jo t) (iQ t 0) (fun i l=>by rw[jo]) _ i l rfl h1 (by omega)]
   have h3:=Q3 (t.Kids.drop i)
   exact(g _ 0 _ rfl (bW _) (by simp only[jj,sg];omega)).trans (by rw[jj])
 rw[jj] at h
 have o:=ZP t.Kids al qC (fun a _=>xj a) lL (fun x l=>by rw[lL]) (fun l=>(jw l).1) jg (fun a ha=>d a ha (by have:=uQ _ a ha;omega)) G1 (fun x l=>by rw[G1]) (by rw[G1]) (by omega) (jo t) (fun l=>some (l++G5 t.bl)) j (pB t) (nH t 0) (h.trans (by rw[lE])) (fun i=>by rw[pB]) t.Kids.length 0 rfl (bW _) (by rw[jj];omega)
 rw[jj] at o
 rw[jg,It]
 by_cases c:t.Op=3
 · rw[if_pos (by simpa using c),if_pos c]
   have:=j 0 [t.bY] (bW _) (by simp;omega)
   rw[jj] at this
   exact this
 all_goals grind
theorem I6 (a b:LI)(r:b.length≤1000000){g:Option Bool}{F:Int→Option Bool}(j:g=if(!decide ((a.length:Int)=(b.length:Int))) then(some false) else F 0)
   (h:∀ i:Int,F i=if decide (i<(a.length:Int)) then(bP a i>>=fun x=>bP b i>>=fun y=>if(!decide (x=y)) then(some false) else(if cw .i64 (i+1) then F (i+1) else none)) else(some true)):g=some (decide (a=b)):=by
 rw[j]
 by_cases c:a.length=b.length
 · rw[jM]
   suffices q:∀(d i:Nat),a.length-i=d→i≤a.length→F (i:Int)=some (decide (a.drop i=b.drop i)) by grind
   intro d
   induction d with
   | zero=>
     intro i m hi
     rw[h,jM,show i=a.length by omega,fu,c,fu];rfl
   | succ d o=>
     intro i m hi
     have h1:i<a.length:=by omega
     have h2:i<b.length:=by omega
     rw[h,e9,aU h1,aU h2,db h1,db h2]
     simp only[aW,aD,List.cons.injEq]
     by_cases e:a[i]=b[i]
     · rw[if_neg (by simp[e]),if_pos fK,tj,o (i+1) (by omega) (by omega)]
       simp[e]
     · rw[if_pos (by simp[e])];simp[e]
 · rw[e9]
   have:¬ a=b:=fun q=>c (by rw[q])
   simp[this]
theorem Dy (a b:LI)(c:b.length≤1000000):jI a b=some (decide (a=b)):=I6 a b c (by rw[jI]) (fun i=>by rw[kd])
theorem Mj (a b:LI)(c:b.length≤1000000):dC a b=some (decide (a=b)):=I6 a b c (by rw[dC]) (fun i=>by rw[ew])
def su (t:af):Bool:=
 (decide (t.Op=1)||(decide (t.Var=0)&&decide (t.bl.length=0)))&&(decide (t.Op=2)||decide (t.Kids.length=0))&&(decide (t.Op=3)||(decide (t.bY=0)&&decide (t.bg.length=0)))
theorem Wr (t:af):yl t=some (su t):=by
 have len:∀ n:Nat,decide ((n:Int)>0) = !decide (n=0):=fun n=>by grind
 have a:decide ((t.bg.length:Int)=0)=decide (t.bg.length=0):=by simp
 rw[yl,su,len,len,a]
 grind
structure Good (p : aJ) : Prop where
 c : p.cy.Cons.length ≤ 12
 f : p.cy.bq.length ≤ 8
 r : p.aO.length ≤ 16
 ca : ∀ x, x ∈ p.cy.Cons → 0 ≤ x.bu ∧ x.bu ≤ 4
 fa : ∀ x, x ∈ p.cy.bq → 0 ≤ x.bu ∧ x.bu ≤ 4
 rb : ∀ r, r ∈ p.aO → uK p.cy r = true
 cs : cW p.cy = some 0
abbrev MC := List (Int×Int)
noncomputable abbrev wk (t:af)(l:List Term)(n:Int)(p:aJ)(fn:Int)(m:MC):=aR t ⟨l,n⟩ p fn m
def Rel (b:Bool)(W:MC→Option (Sum MC (Sum Unit Unit)))(z:Int)(a:LI):Prop:=∀ m k,CM m k→k.length+z≤1000→if b=true then ∃ c,W m=some (.inl c)∧CM c (k++a) else ∃ y,W m=some (.inr y)
theorem x7 {l:List α}(a:0≤n)(h1:n<l.length):∃ x,bP l n=some x∧x∈l:=by
 obtain⟨m,rfl⟩:∃ m:Nat,n=m:=⟨n.toNat,by omega⟩
 exact⟨_,aU (by omega),cM _⟩
theorem JD (a b c:Int):Cb a b c=some (decide (b≤a)&&decide (a≤c)):=by
 grind[Cb]
theorem Ws (p:aJ)(n:Int)(h:p.aO.length≤1000):xo p n=some (decide (0≤n)&&decide (n<p.aO.length)):=by
 rw[xo,if_pos fK,OD]
 grind
theorem Wt (p:aJ)(fn:Int)(t:af)(l:List Term)(n:Int)(D:t.Kids.length≤1000)
   (r:∀ x,x∈t.Kids→∃ b,dT p fn x ⟨l,n⟩=some b∧Rel b (wk x l n p fn) (qC x) (al x)) :
   ∀(d i:Nat),t.Kids.length-i=d→i≤t.Kids.length→∃ b,iH p fn t ⟨l,n⟩ i=some b∧∀ c,Rel b (fun m=>ba t ⟨l,n⟩ p fn c i m) (lL (t.Kids.drop i)) (G1 (t.Kids.drop i)):=by
 intro d
 induction d with
 | zero=>
   intro i u hi
   refine⟨true,by rw[iH,jM],fun c m k o _=>?_⟩
   rw[if_pos rfl]
   dsimp only
   rw[ba,jM,show i=t.Kids.length by omega,fu,G1,n5]
   grind
 | succ d j=>
   intro i u hi
   have h:i<t.Kids.length:=by omega
   obtain⟨b,w,a⟩:=r _ (cM h)
   obtain⟨z,A,g⟩:=j (i+1) (by omega) (by omega)
   have E:=jw (t.Kids.drop (i+1))
   have G:=nc t.Kids[i]
   refine⟨b&&z,?_,fun c m k o hs=>?_⟩
   · rw[iH,e9,aU h]
     simp only[aW,aD,w]
     cases b with
     | false=>rfl
     | true=>rw[if_pos rfl,if_pos fK,tj,A];rfl
   · rw[db h,lL] at hs
     have a:=a m k o (by omega)
     have q:ba t ⟨l,n⟩ p fn c i m=((wk t.Kids[i] l n p fn m)>>=fun v=>match v with | (Sum.inl y)=>ba t ⟨l,n⟩ p fn c ((i+1:Nat):Int) y | (Sum.inr _)=>some (Sum.inr (Sum.inr ()))):=by
       rw[ba,e9,aU h]
       simp only[aW,aD,wk]
       cases aR t.Kids[i] ⟨l,n⟩ p fn m with
       | none=>rfl
       | some v=>
         simp only[aD]
         rcases v with v | v | v
         · simp only[];rw[if_pos fK];rfl
         · rfl
         · rfl
     cases b with
     | false=>
       rw[if_neg (by decide)] at a
       obtain⟨y,a⟩:=a
       rw[if_neg (by simp)]
       dsimp only
       rw[q,a]
       exact⟨_,rfl⟩
     | true=>
       rw[if_pos rfl] at a
       obtain⟨B,a,C⟩:=a
       have H:=xj t.Kids[i]
       have g:=g c B _ C (by simp only[sg];omega)
       rw[j6,db h,G1,←pj]
       dsimp only
       rw[q,a]
       exact g
theorem P3 (p:aJ)(V:Good p)(fn:Int)(t:af)(k:Int)(l:List Term)(n:Int)(B:Sh p.cy k l n)(W:n≤60)(hl:t.bl.length≤1000)
   (Y:∀ a,a∈t.bl→∀ l n,Sh p.cy k l n→∃ b,dT p fn a.fb ⟨l,n⟩=some b∧Rel b (wk a.fb l n p fn) (qC a.fb) (al a.fb)) :
   ∀(d i:Nat) (g:Int),t.bl.length-i=d→i≤t.bl.length → -1≤g→(i=0→g = -1)→(∀ j,i=j+1→∃ a,bP t.bl (j:Int)=some a∧a.BH=g)→∃ b,dQ p fn t ⟨l,n⟩ i=some b∧∀ o,Rel b (fun m=>aQ t ⟨l,n⟩ p fn o i g m) (nN (t.bl.drop i)) (G5 (t.bl.drop i)):=by
 have M:=B.b
 intro d
 induction d with
 | zero=>
   intro i g Z hi _ _ _
   refine⟨true,by rw[dQ,jM],fun o m k C _=>?_⟩
   rw[if_pos rfl]
   dsimp only
   rw[aQ,jM,show i=t.bl.length by omega,fu,G5,n5]
   exact⟨m,rfl,C⟩
 | succ d N=>
   intro i g Z hi h1 h0 D
   have h:i<t.bl.length:=by omega
   have hx:=cM h
   have hC:=V.c
   have E:(dQ p fn t ⟨l,n⟩ i=some false)→(∀ o m,∃ y,aQ t ⟨l,n⟩ p fn o i g m=some (.inr y))→∃ b,dQ p fn t ⟨l,n⟩ i=some b∧∀ o,Rel b (fun m=>aQ t ⟨l,n⟩ p fn o i g m) (nN (t.bl.drop i)) (G5 (t.bl.drop i)):=
     fun a b=>⟨false,a,fun o m _ _ _=>by rw[if_neg (by decide)];exact b o m⟩
   by_cases G:g<t.bl[i].BH
   · by_cases H:t.bl[i].BH<p.cy.Cons.length
     · have gc:0≤t.bl[i].BH:=by omega
       obtain⟨q,w,O⟩:=x7 gc H
       have ha:=V.ca q O
       have X:=Zb B W t.Var t.bl[i].BH q w ha
       have x:(qg n q.bu).length≤1000000:=by have:=AB n q.bu ha.1;omega
       have P:=Za B W t.Var t.bl[i].BH q w ha
       have key:(bP p.cy.Cons t.bl[i].BH>>=fun Q=>qJ n Q.bu>>=fun R=>jI t.bl[i].bg R>>=fun S=>if S then(ke ⟨l,n⟩ p.cy t.Var t.bl[i].BH>>=fun T=>dT p fn t.bl[i].fb T>>=fun U=>if U then(if cw .i64 ((i:Int)+1) then(dQ p fn t ⟨l,n⟩ ((i:Int)+1)) else none) else(some false)) else(some false))=dQ p fn t ⟨l,n⟩ i:=by
         refine Eq.symm ?_
         rw[dQ,e9,aU h]
         simp only[aW,aD]
         rw[if_pos fK,JD]
         simp only[aD]
         rw[e9]
         by_cases z:i=0
         · rw[jM]
         · obtain⟨j,rfl⟩:∃ j,i=j+1:=⟨i-1,by omega⟩
           obtain⟨a,I,eb⟩:=D j rfl
           rw[uG,if_pos fK,show(((j+1:Nat):Int)-1)=(j:Int) by omega,I]
           simp only[aD]
           rw[jM]
       have u:∀ o m,aQ t ⟨l,n⟩ p fn o i g m=if decide (t.bl[i].bg=qg n q.bu) then(wk t.bl[i].fb (kW t.Var (Term.mk 3 t.bl[i].BH (ti (qg n q.bu))) l) (n+q.bu) p fn m>>=fun v=>match v with | (Sum.inl y)=>aQ t ⟨l,n⟩ p fn o ((i+1:Nat):Int) t.bl[i].BH y | (Sum.inr _)=>some (Sum.inr (Sum.inr ()))) else some (.inr (.inr ())):=by
         intro o m
         rw[aQ,e9,aU h]
         simp only[aW,aD]
         rw[if_pos (by simpa using G),if_pos (by simpa using H),X.2]
         simp only[aD,Mj _ _ x,wk]
         congr 1
         cases aR t.bl[i].fb ⟨kW t.Var (Term.mk 3 t.bl[i].BH (ti (qg n q.bu))) l,n+q.bu⟩ p fn m with
         | none=>rfl
         | some v=>
           simp only[aD]
           rcases v with v | v | v
           · simp only[];rw[if_pos fK];rfl
           · rfl
           · rfl
       rw[w] at key
       simp only[aW,aD,JV n q.bu M.1 (by omega) (by omega),Dy _ _ x,X.1] at key
       by_cases A:t.bl[i].bg=qg n q.bu
       · obtain⟨b,e1,r⟩:=Y _ hx _ _ P
         obtain ⟨b2,f1,J⟩:=N (i+1) t.bl[i].BH (by omega) (by omega) (by omega) (by omega) (fun j D=>by
           have:j=i:=by omega
           subst this;exact⟨_,aU h,rfl⟩)
         have hp:=jx (t.bl.drop (i+1))
         have hz:=nc t.bl[i].fb
         refine⟨b&&b2,?_,fun o m k C hs=>?_⟩
         · rw[←key,if_pos (by simpa using A),e1]
           simp only[aD]
           cases b with
           | false=>rfl
           | true=>rw[if_pos rfl,if_pos fK,tj,f1];rfl
         · rw[db h,nN,tw] at hs
           have r:=r m k C (by omega)
           have K:=u o m
           rw[if_pos (by simpa using A)] at K
           cases b with
           | false=>
             rw[if_neg (by decide)] at r
             obtain⟨y,r⟩:=r
             rw[if_neg (by simp)]
             dsimp only
             rw[K,r]
             exact⟨_,rfl⟩
           | true=>
             rw[if_pos rfl] at r
             obtain⟨m1,r,e3⟩:=r
             have hk:=xj t.bl[i].fb
             have J:=J o m1 _ e3 (by simp only[sg];omega)
             rw[j6,db h,G5,JC,←pj]
             dsimp only
             rw[K,r]
             exact J
       · refine E ?_ fun o m=>?_
         · rw[←key,if_neg (by simpa using A)]
         · rw[u,if_neg (by simpa using A)];exact⟨_,rfl⟩
     · refine E ?_ fun o m=>?_
       · rw[dQ,e9,aU h]
         simp only[aW,aD]
         rw[if_pos fK,JD]
         simp only[aD]
         rw[jM]
       · rw[aQ,e9,aU h]
         simp only[aW,aD]
         rw[if_pos (by simpa using G),if_neg (by simpa using H)];exact⟨_,rfl⟩
   · refine E ?_ fun o m=>?_
     · rw[dQ,e9,aU h]
       simp only[aW,aD]
       rw[if_pos fK,JD]
       simp only[aD]
       by_cases z:i=0
       · rw[if_neg (by have:=h0 z;simp;omega)]
       · split
         · obtain⟨j,rfl⟩:∃ j,i=j+1:=⟨i-1,by omega⟩
           obtain⟨a,I,eb⟩:=D j rfl
           rw[uG,if_pos fK,show(((j+1:Nat):Int)-1)=(j:Int) by omega,I]
           simp only[aD]
           rw[e9]
         · rfl
     · rw[aQ,e9,aU h]
       simp only[aW,aD]
       rw[if_neg (by simpa using G)];exact⟨_,rfl⟩
theorem P4 (p:aJ)(R:Good p)(fn:Int)(J:cf)(hx:bP p.cy.bq fn=some J)(t:af):qC t≤200→vt wX wY t=true→∀ l n,Sh p.cy J.bu l n→∃ b,dT p fn t ⟨l,n⟩=some b∧Rel b (wk t l n p fn) (qC t) (al t):=by
 refine Ak (P:=fun t=>qC t≤200→vt wX wY t=true→∀ l n,Sh p.cy J.bu l n→∃ b,dT p fn t ⟨l,n⟩=some b∧Rel b (wk t l n p fn) (qC t) (al t)) (fun t ih U hz hs l n K=>?_) t
 have hK:=jw t.Kids
 have hA:=jx t.bl
 have hft:=zy t
 have hR:=R.r
 rw[QW,FN,FM,aS,aS,dg,dg] at hs
 obtain⟨V,W,X⟩:=hs
 have hV:t.bg.length≤30:=by simp only[wX,decide_eq_true_eq] at V;omega
 have d:dT p fn t ⟨l,n⟩=if su t=true then(if decide (n>60)=true then some false else(if decide (t.Op=1) then(rT p fn t ⟨l,n⟩>>=fun v3=>if v3 then(some true) else(some false)) else(if decide (t.Op=2) then(Cb (t.Kids.length:Int) 2 16>>=fun v5=>if v5 then(iH p fn t ⟨l,n⟩ 0) else(some false)) else(if decide (t.Op=3) then(xo p t.bY>>=fun Y=>if Y then(bP p.aO t.bY>>=fun Z=>if(!decide (Z.vl=fn)) then(some false) else(bP p.aO t.bY>>=fun x23=>mc ⟨l,n⟩ x23>>=fun M=>if M.2 then(jI M.1 t.bg>>=fun NS=>if NS then(some true) else(some false)) else(some false))) else(some false)) else(if decide (t.Op=4) then(some true) else(some false)))))) else some false:=by
   rw[dT,Wr];rfl
 have o:dT p fn t ⟨l,n⟩=some false→(∀ m,∃ y,wk t l n p fn m=some (.inr y))→∃ b,dT p fn t ⟨l,n⟩=some b∧Rel b (wk t l n p fn) (qC t) (al t):=
   fun a b=>⟨false,a,fun m _ _ _=>by rw[if_neg (by decide)];exact b m⟩
 by_cases G:n≤60
 rotate_left
 · refine o ?_ fun m=>?_
   · rw[d,if_pos (show decide (n>60)=true by simp;omega)];split<;>rfl
   · rw[wk,aR,if_neg (by simpa using G)];exact⟨_,rfl⟩
 rw[if_neg (show ¬ decide (n>60)=true by simp;omega)] at d
 by_cases c1:t.Op=1
 · have i:su t=(decide (t.Kids.length=0)&&(decide (t.bY=0)&&decide (t.bg.length=0))):=by simp[su,c1]
   have g:∀ m,wk t l n p fn m=if decide (t.Kids.length+t.bg.length=0)=true then(if decide (t.bY=0) then(lQ l t.Var>>=fun N=>if N then(if decide ((t.bl.length:Int)>0) then(aQ t ⟨l,n⟩ p fn m 0 (-1) m) else(some (Sum.inr (Sum.inl ())))) else(some (Sum.inr (Sum.inl ())))) else(some (Sum.inr (Sum.inl ())))) else(some (Sum.inr (Sum.inl ()))):=fun m=>by
     rw[wk,aR,if_pos (by simpa using G),if_pos (by simp[c1]),if_pos (by simp[c1]),if_pos (by simpa using c1),if_pos fK]
     have:decide ((t.Kids.length:Int)+(t.bg.length:Int)=0)=decide (t.Kids.length+t.bg.length=0):=by simp only[decide_eq_decide];omega
     rw[this]
   rw[if_pos (show decide (t.Op=1)=true by simpa using c1)] at d
   by_cases B:t.Kids.length=0∧t.bg.length=0
   rotate_left
   · refine o ?_ fun m=>?_
     · rw[d,if_neg (by rw[i];simp only[aS,decide_eq_true_eq];omega)]
     · rw[g,Lr];exact⟨_,rfl⟩
   by_cases A:t.bY=0
   rotate_left
   · refine o ?_ fun m=>?_
     · rw[d,if_neg (by rw[i];simp[A])]
     · rw[g,uG,if_neg (by simpa using A)];exact⟨_,rfl⟩
   have hv:=Y7 p.cy l n t.Var (by have:=K.z;omega) K.p
   rw[if_pos (by rw[i];simp[B,A]),rT,hv.1] at d
   simp only[aW,aD] at d
   have g:∀ m,wk t l n p fn m=if decide (t.Var∈iC l)=true then(if decide ((t.bl.length:Int)>0) then(aQ t ⟨l,n⟩ p fn m 0 (-1) m) else(some (Sum.inr (Sum.inl ())))) else(some (Sum.inr (Sum.inl ()))):=fun m=>by
     rw[g,uG,if_pos (by simpa using A),hv.2];rfl
   by_cases v0:t.Var∈iC l
   rotate_left
   · refine o ?_ fun m=>?_
     · rw[d,if_neg (by simpa using v0)];rfl
     · rw[g,if_neg (by simpa using v0)];exact⟨_,rfl⟩
   by_cases a0:t.bl.length=0
   · refine o ?_ fun m=>?_
     · rw[d,if_pos (by simpa using v0),if_pos (by simp[a0])];rfl
     · rw[g,if_pos (by simpa using v0),if_neg (by simp[a0])];exact⟨_,rfl⟩
   obtain⟨b,S,T⟩:=P3 p R fn t J.bu l n K G (by omega) (fun a ha l n h=>U a ha (by have:=uR _ a ha;omega) (by have:=W a ha;rw[aS] at this;exact this.2) l n h) t.bl.length 0 (-1) rfl (bW _) (by omega) (fun _=>rfl) (fun j hj=>by omega)
   refine⟨b,?_,fun m k D hs=>?_⟩
   · rw[d,if_pos (by simpa using v0),Lr]
     rw[show dQ p fn t ⟨l,n⟩ 0=some b from S]
     cases b<;>rfl
   · have:=T m m k D (by rw[jj];omega)
     rw[jj] at this
     have C:=g m
     rw[if_pos (by simpa using v0),uG] at C
     have H:al t=G5 t.bl:=by rw[It,if_neg (by omega),tY B.1,G1,n5,lE]
     rw[C,H]
     exact this
 rw[if_neg (show ¬ decide (t.Op=1)=true by simpa using c1)] at d
 by_cases c2:t.Op=2
 · have i:su t=((decide (t.Var=0)&&decide (t.bl.length=0))&&(decide (t.bY=0)&&decide (t.bg.length=0))):=by simp[su,c2]
   have g:∀ m,wk t l n p fn m=if decide (t.bl.length+t.bg.length=0)=true then(if decide (t.Var=0) then(if decide (t.bY=0) then(if decide (2≤(t.Kids.length:Int)) then(if decide ((t.Kids.length:Int)≤16) then(ba t ⟨l,n⟩ p fn m 0 m) else(some (Sum.inr (Sum.inl ())))) else(some (Sum.inr (Sum.inl ())))) else(some (Sum.inr (Sum.inl ())))) else(some (Sum.inr (Sum.inl ())))) else(some (Sum.inr (Sum.inl ()))):=fun m=>by
     rw[wk,aR,if_pos (by simpa using G),if_pos (by simp[c2]),if_pos (by simp[c2]),if_neg (by simpa using c1),if_pos (by simpa using c2),if_pos fK]
     have:decide ((t.bl.length:Int)+(t.bg.length:Int)=0)=decide (t.bl.length+t.bg.length=0):=by simp only[decide_eq_decide];omega
     rw[this]
   rw[if_pos (show decide (t.Op=2)=true by simpa using c2),JD] at d
   simp only[aW,aD] at d
   by_cases B:t.bl.length=0∧t.bg.length=0
   rotate_left
   · refine o ?_ fun m=>?_
     · rw[d,if_neg (by rw[i];simp only[aS,decide_eq_true_eq];omega)]
     · rw[g,Lr];exact⟨_,rfl⟩
   by_cases v0:t.Var=0
   rotate_left
   · refine o ?_ fun m=>?_
     · rw[d,if_neg (by rw[i];simp[v0])]
     · rw[g,uG,if_neg (by simpa using v0)];exact⟨_,rfl⟩
   by_cases A:t.bY=0
   rotate_left
   · refine o ?_ fun m=>?_
     · rw[d,if_neg (by rw[i];simp[A])]
     · rw[g,uG,if_pos (by simpa using v0),if_neg (by simpa using A)];exact⟨_,rfl⟩
   rw[if_pos (by rw[i];simp[B,A,v0])] at d
   have g:∀ m,wk t l n p fn m=(if decide (2≤(t.Kids.length:Int)) then(if decide ((t.Kids.length:Int)≤16) then(ba t ⟨l,n⟩ p fn m 0 m) else(some (Sum.inr (Sum.inl ())))) else(some (Sum.inr (Sum.inl ())))):=fun m=>by
     rw[g,uG,if_pos (by simpa using v0),if_pos (by simpa using A)]
   by_cases E:2≤(t.Kids.length:Int)
   rotate_left
   · refine o ?_ fun m=>?_
     · rw[d,Ls]
     · rw[g,if_neg (by simpa using E)];exact⟨_,rfl⟩
   by_cases I:(t.Kids.length:Int)≤16
   rotate_left
   · refine o ?_ fun m=>?_
     · rw[d,Ls]
     · rw[g,if_pos (by simpa using E),if_neg (by simpa using I)];exact⟨_,rfl⟩
   obtain⟨b,S,T⟩:=Wt p fn t l n (by omega) (fun x hx=>ih x hx (by have:=uQ _ x hx;omega) (X x hx) l n K) t.Kids.length 0 rfl (bW _)
   refine⟨b,?_,fun m k D hs=>?_⟩
   · rw[d,ad7]
     exact S
   · have:=T m m k D (by rw[jj];omega)
     rw[jj] at this
     have C:=g m
     rw[if_pos (by simpa using E),if_pos (by simpa using I)] at C
     have H:al t=G1 t.Kids:=by rw[It,if_neg (by omega),tY B.1,G5,n5,lE]
     rw[C,H]
     exact this
 rw[if_neg (show ¬ decide (t.Op=2)=true by simpa using c2)] at d
 by_cases c3:t.Op=3
 · have i:su t=((decide (t.Var=0)&&decide (t.bl.length=0))&&decide (t.Kids.length=0)):=by simp[su,c3]
   have g:∀ m,wk t l n p fn m=if decide (t.bl.length+t.Kids.length=0)=true then(if decide (t.Var=0) then(if decide (0≤t.bY) then(if decide ((t.bY:Int)<(p.aO.length:Int)) then(bP p.aO t.bY>>=fun O=>if decide ((O.vl:Int)=fn) then(bP p.aO t.bY>>=fun Q=>jq ⟨l,n⟩ Q>>=fun u=>if u.2 then(dC u.1 t.bg>>=fun w=>if w then(if cw .i64 (((iO m t.bY).getD 0)+1) then(some (Sum.inl (ko m t.bY (((iO m t.bY).getD 0)+1)))) else none) else(some (Sum.inr (Sum.inl ())))) else(some (Sum.inr (Sum.inl ())))) else(some (Sum.inr (Sum.inl ())))) else(some (Sum.inr (Sum.inl ())))) else(some (Sum.inr (Sum.inl ())))) else(some (Sum.inr (Sum.inl ())))) else(some (Sum.inr (Sum.inl ()))):=fun m=>by
     rw[wk,aR,if_pos (by simpa using G),if_pos (by simp[c3]),if_pos (by simp[c3]),if_neg (by simpa using c1),if_neg (by simpa using c2),if_pos (by simpa using c3),if_pos fK]
     have:decide ((t.bl.length:Int)+(t.Kids.length:Int)=0)=decide (t.bl.length+t.Kids.length=0):=by simp only[decide_eq_decide];omega
     rw[this]
   rw[if_pos (show decide (t.Op=3)=true by simpa using c3),Ws p t.bY (by omega)] at d
   simp only[aW,aD] at d g
   by_cases B:t.bl.length=0∧t.Kids.length=0
   rotate_left
   · refine o ?_ fun m=>?_
     · rw[d,if_neg (by rw[i];simp only[aS,decide_eq_true_eq];omega)]
     · rw[g,Lr];exact⟨_,rfl⟩
   by_cases v0:t.Var=0
   rotate_left
   · refine o ?_ fun m=>?_
     · rw[d,if_neg (by rw[i];simp[v0])]
     · rw[g,uG,if_neg (by simpa using v0)];exact⟨_,rfl⟩
   rw[if_pos (by rw[i];simp[B,v0])] at d
   by_cases E:0≤t.bY
   rotate_left
   · refine o ?_ fun m=>?_
     · rw[d,Ls]
     · rw[g,uG,if_pos (by simpa using v0),if_neg (by simpa using E)];exact⟨_,rfl⟩
   by_cases I:t.bY<(p.aO.length:Int)
   rotate_left
   · refine o ?_ fun m=>?_
     · rw[d,Ls]
     · rw[g,uG,if_pos (by simpa using v0),if_pos (by simpa using E),if_neg (by simpa using I)];exact⟨_,rfl⟩
   obtain⟨r,hr,hrm⟩:=x7 E I
   rw[ad7,hr] at d
   simp only[aD] at d
   have g:∀ m,wk t l n p fn m=if decide (r.vl=fn)=true then(jq ⟨l,n⟩ r).bind fun u=>if u.2 then((dC u.1 t.bg).bind fun w=>if w then(if cw .i64 (((iO m t.bY).getD 0)+1) then(some (Sum.inl (ko m t.bY (((iO m t.bY).getD 0)+1)))) else none) else(some (Sum.inr (Sum.inl ())))) else(some (Sum.inr (Sum.inl ()))) else(some (Sum.inr (Sum.inl ()))):=fun m=>by
     rw[g,uG,if_pos (by simpa using v0),if_pos (by simpa using E),if_pos (by simpa using I),hr];rfl
   by_cases hf:r.vl=fn
   rotate_left
   · refine o ?_ fun m=>?_
     · rw[d,if_pos (by simpa using hf)]
     · rw[g,if_neg (by simpa using hf)];exact⟨_,rfl⟩
   have h4:J.bu≤4:=by
     rcases FL p.cy.bq fn with⟨q1,q2,_⟩ | ⟨_,q⟩
     · obtain⟨y,e,hy⟩:=x7 q1 q2
       rw[hx] at e
       simp only[bj] at e
       exact e▸(R.fa y hy).2
     · rw[hx] at q;cases q
   obtain⟨a,b,c,ea,eb,ec⟩:=Wp K r (R.rb r hrm) (by rw[pd,hf,hx];simp) h4
   rw[if_neg (by simpa using hf),ea] at d
   simp only[aD] at d
   have g:∀ m,wk t l n p fn m=if b=true then((dC c t.bg).bind fun w=>if w then(if cw .i64 (((iO m t.bY).getD 0)+1) then(some (Sum.inl (ko m t.bY (((iO m t.bY).getD 0)+1)))) else none) else(some (Sum.inr (Sum.inl ())))) else(some (Sum.inr (Sum.inl ()))):=fun m=>by
     rw[g,if_pos (by simpa using hf),eb];rfl
   cases b with
   | false=>exact o (by rw[d];rfl) fun m=>by rw[g];exact⟨_,rfl⟩
   | true=>
     have hac:a=c:=ec rfl
     subst hac
     simp only[if_true,Dy a t.bg (by omega),Mj a t.bg (by omega),aD] at d g
     by_cases e:a=t.bg
     rotate_left
     · exact o (by rw[d];simp[e]) fun m=>by rw[g,if_neg (by simpa using e)];exact⟨_,rfl⟩
     refine⟨true,by rw[d];simp[e],fun m k D hs=>?_⟩
     have hc:=kZ D t.bY
     have:=List.count_le_length (a:=t.bY) (l:=k)
     rw[if_pos rfl,g,if_pos (by simpa using e),if_pos fK,It,if_pos c3,tY B.1,tY B.2,G5,G1,n5,n5]
     exact⟨_,rfl,ON D t.bY⟩
 rw[if_neg (show ¬ decide (t.Op=3)=true by simpa using c3)] at d
 by_cases c4:t.Op=4
 · have i:su t=((decide (t.Var=0)&&decide (t.bl.length=0))&&decide (t.Kids.length=0)&&(decide (t.bY=0)&&decide (t.bg.length=0))):=by simp[su,c4]
   have g:∀ m,wk t l n p fn m=if decide (t.bl.length+t.Kids.length+t.bg.length=0)=true then(if decide (t.Var=0) then(if decide (t.bY=0) then(some (Sum.inl m)) else(some (Sum.inr (Sum.inl ())))) else(some (Sum.inr (Sum.inl ())))) else(some (Sum.inr (Sum.inl ()))):=fun m=>by
     rw[wk,aR,if_pos (by simpa using G),if_pos (by simp[c4]),if_pos (by simp[c4]),if_neg (by simpa using c1),if_neg (by simpa using c2),if_neg (by simpa using c3),if_pos (by simpa using c4),if_pos fK,if_pos fK]
     have:decide ((t.bl.length:Int)+(t.Kids.length:Int)+(t.bg.length:Int)=0)=decide (t.bl.length+t.Kids.length+t.bg.length=0):=by simp only[decide_eq_decide];omega
     rw[this]
   by_cases B:t.bl.length=0∧t.Kids.length=0∧t.bg.length=0
   rotate_left
   · refine o ?_ fun m=>?_
     · rw[d,if_neg (by rw[i];simp only[aS,decide_eq_true_eq];omega)]
     · rw[g,Lr];exact⟨_,rfl⟩
   by_cases v0:t.Var=0
   rotate_left
   · refine o ?_ fun m=>?_
     · rw[d,if_neg (by rw[i];simp[v0])]
     · rw[g,uG,if_neg (by simpa using v0)];exact⟨_,rfl⟩
   by_cases A:t.bY=0
   rotate_left
   · refine o ?_ fun m=>?_
     · rw[d,if_neg (by rw[i];simp[A])]
     · rw[g,uG,if_pos (by simpa using v0),if_neg (by simpa using A)];exact⟨_,rfl⟩
   refine⟨true,by rw[d,if_pos (by rw[i];simp[B,A,v0]),if_pos (by simpa using c4)],fun m k D hs=>?_⟩
   rw[if_pos rfl,g,uG,if_pos (by simpa using v0),if_pos (by simpa using A),It,if_neg c3,tY B.1,tY B.2.1,G5,G1]
   exact⟨m,rfl,by simpa using D⟩
 rw[if_neg (show ¬ decide (t.Op=4)=true by simpa using c4)] at d
 refine o (by rw[d];split<;>rfl) fun m=>?_
 rw[wk,aR,if_pos (by simpa using G)]
 by_cases q:1≤t.Op
 · rw[if_pos (by simpa using q),Lr];exact⟨_,rfl⟩
 · rw[if_neg (by simpa using q)];exact⟨_,rfl⟩
def jX (f:Int):List bn→Int→LI
 | [],_=>[]
 | r::l,i=>(if r.vl=f then [i] else [])++jX f l (i+1)
theorem Mk (f:Int):∀(l:List bn) (i x:Int),x∈jX f l i→i≤x∧x<i+l.length
 | [],_,_,h=>by simp[jX] at h
 | r::l,i,x,h=>by
   simp only[jX,fc] at h
   simp only[pk]
   rcases h with h | h
   · grind
   · have:=Mk f l (i+1) x h;omega
theorem Gk (f:Int):∀(l:List bn) (i:Int),(jX f l i).Nodup
 | [],_=>List.nodup_nil
 | r::l,i=>by
   have h:=Gk f l (i+1)
   simp only[jX]
   split
   · exact so.2 ⟨fun q=>by have:=Mk f l (i+1) i q;omega,h⟩
   · exact h
theorem Ml (f:Int):∀(l:List bn) (i:Int),(jX f l i).length≤l.length
 | [],_=>bG _
 | r::l,i=>by
   have h:=Ml f l (i+1)
   grind[jX]
theorem Q4 (L:List bn)(f:Int)(g:L.length≤1000){F1:Int→Option LI}(h1:∀ i:Int,F1 i=if decide (i<(L.length:Int)) then(bP L i>>=fun x=>if decide ((x.vl:Int)=f) then(if cw .i64 (i+1) then F2 (i+1) [i] else none) else(if cw .i64 (i+1) then F1 (i+1) else none)) else some [])(h2:∀(i:Int) (l:LI),F2 i l=if decide (i<(L.length:Int)) then(bP L i>>=fun x=>if decide ((x.vl:Int)=f) then(if decide (l.length+[i].length≤1048576) then(if cw .i64 (i+1) then F2 (i+1) (l++[i]) else none) else none) else(if cw .i64 (i+1) then F2 (i+1) l else none)) else some l):F1 0=some (jX f L 0):=by
 have k2:∀(d i:Nat) (l:LI),L.length-i=d→i≤L.length→l.length≤i→F2 (i:Int) l=some (l++jX f (L.drop i) i):=by
   intro d
   induction d with
   | zero=>
     intro i l b hi g
     rw[h2,jM,show i=L.length by omega,fu,jX,n5]
   | succ d a=>
     intro i l b hi j
     have h:i<L.length:=by omega
     rw[h2,e9,aU h,db h,jX]
     simp only[aW,aD]
     rw[if_pos fK,if_pos fK,tj]
     by_cases c:L[i].vl=f
     · rw[if_pos (by simpa using c),e9,if_pos c,a (i+1) _ (by omega) (by omega) (by simp;omega),pj]
     · rw[if_neg (by simpa using c),if_neg c,a (i+1) _ (by omega) (by omega) (by omega),lE]
 suffices q:∀(d i:Nat),L.length-i=d→i≤L.length→F1 (i:Int)=some (jX f (L.drop i) i) by exact q L.length 0 rfl (bW _)
 intro d
 induction d with
 | zero=>
   intro i b hi
   rw[h1,jM,show i=L.length by omega,fu,jX]
 | succ d a=>
   intro i b hi
   have h:i<L.length:=by omega
   rw[h1,e9,aU h,db h,jX]
   simp only[aW,aD]
   rw[if_pos fK,if_pos fK,tj]
   by_cases c:L[i].vl=f
   · rw[if_pos (by simpa using c),if_pos c,k2 _ (i+1) _ rfl (by omega) (by simp)]
   · rw[if_neg (by simpa using c),if_neg c,a (i+1) (by omega) (by omega),lE]
theorem SK (p:aJ)(f:Int)(a:p.aO.length≤1000):ym p f=some (jX f p.aO 0):=by
 rw[ym];exact Q4 p.aO f a (F2:=kE p f) (fun i=>by rw[nM]) (fun i l=>by rw[kE])
theorem SL {p:aJ}(hs:uj p=true)(a:Good p)(f:Int)(c:0≤f)(h1:f<p.cy.bq.length):ny p f=some (jX f p.aO 0,0):=by
 have b:=(Bm hs).2.2.2
 have g:=a.r
 have d:Az p f=some (jX f p.aO 0):=by
   rw[Az];exact Q4 p.aO f (by omega) (F2:=nJ p f) (fun i=>by rw[rU]) (fun i l=>by rw[nJ])
 rw[ny,e9,a.cs]
 simp only[aW,aD]
 rw[if_pos (by decide)]
 refine(pc (l:=p.aO) (q:=fun _=>true) (e:=some (jX f p.aO 0,0)) (f:=none) (jK p f) (fun i hi=>?_) ?_).trans (by simp)
 · have hx:=cM hi
   rw[jK,e9,aU hi]
   simp only[aW,aD,QU a.cs _ (b _ hx).1 (b _ hx).2,a.rb _ hx]
   rw[if_pos trivial,if_pos fK,if_pos trivial]
 · rw[jK,if_neg (by simp),if_pos (by simpa using c),if_pos (by simpa using h1),d];rfl
theorem Mm {a b:LI}(ha:a.Nodup)(h:∀ x,x∈a→x∈b):a.length≤b.length:=by
 have:=(EM (r:=a) (l:=b.filter fun x=>decide (x∈a)) ha fun x=>by grind).1
 grind
theorem Ze {m:MC}{l own:LI}(h:CM m l)(g:own.Nodup):(l.length=own.length∧∀ x,x∈own→x∈l)↔(m.length=own.length∧∀ x,x∈own→(iO m x).getD 0=1):=by
 have d:∀ x,x∈m.map (·.1)↔x∈l:=fun x=>by
   simp only[kJ]
   constructor
   · rintro⟨⟨y,c⟩,q,rfl⟩;exact((h.2 y c).1 q).1
   · exact fun q=>⟨(x,(l.count x:Int)),(h.2 x _).2 ⟨q,rfl⟩,rfl⟩
 have i:=EM h.1 d
 rw[sq] at i
 constructor
 · rintro⟨e,s⟩
   have h1:=Mm g fun x hx=>(d x).2 (s x hx)
   rw[sq] at h1
   have j:l.Nodup:=i.2.1 (by omega)
   refine⟨by omega,fun x hx=>?_⟩
   rw[kZ h,j.count,if_pos (s x hx)];rfl
 · rintro⟨e,s⟩
   have s2:∀ x,x∈own→x∈l:=fun x hx=>by
    have:=s x hx
    rw[kZ h] at this
    grind
   have j:l.Nodup:=List.nodup_iff_count.2 fun x=>by
    by_cases c:x∈l
    · by_cases c2:x∈own
      · have:=s x c2;rw[kZ h] at this;omega
      · have:=Mm (a:=x::own) (b:=m.map (·.1)) (so.2 ⟨c2,g⟩) fun y hy=>(d y).2 (by
         rcases dE.1 hy with rfl | hy
         · exact c
         · exact s2 y hy)
        simp at this;omega
    all_goals grind
   grind
theorem Wu (f:bA)(hs:ru f=true)(u:Good f.Prog)(D:f.bX.length=f.Prog.cy.bq.length)(i:Nat)(hi:i<f.bX.length) :
   ∃ b,xp f.Prog i f.bX[i]=some b∧fD f i=if b=true then fD f ((i+1:Nat):Int) else some false:=by
 simp only[ru,aS,decide_eq_true_eq,dg] at hs
 obtain⟨⟨P,w⟩,E⟩:=hs
 have o:=w _ (cM hi)
 simp only[Fy,aS,decide_eq_true_eq] at o
 obtain⟨a,t,A⟩:=x7 (l:=f.Prog.cy.bq) (n:=(i:Int)) (by omega) (by omega)
 have ha:=u.fa a A
 have hb:=Wo f.Prog i a t ha
 have Q:=u.r
 have R:=nc f.bX[i]
 have B:=SL E u (i:Int) (by omega) (by omega)
 have S:=aeW f.bX[i]
 have G:fD f i=(match zi (qC f.bX[i]) with
     | .inl _=>(wk f.bX[i] (ti (qg 0 a.bu)) a.bu f.Prog i []>>=fun v=>match v with
       | (Sum.inl y)=>if(!decide ((y.length:Int)=((jX i f.Prog.aO 0).length:Int))) then(some false) else(gb f (jX i f.Prog.aO 0) ((jX i f.Prog.aO 0).length:Int) 0 i y)
       | (Sum.inr _)=>some false)
     | .inr _=>some false):=by
   rw[fD,e9,aU hi]
   simp only[aW,aD,SJ (i:Int) f.Prog f.bX[i] false f.bX[i] (by omega) 0 (by omega) (by omega),Int.zero_add,hb.2,B,wk]
   cases zi (qC f.bX[i]) with
   | inr _=>rfl
   | inl c=>
     simp only[]
     cases aR f.bX[i] ⟨ti (qg 0 a.bu),a.bu⟩ f.Prog i [] with
     | none=>rfl
     | some v=>rcases v with v | v | v<;>rfl
 have H:xp f.Prog i f.bX[i]=if qC f.bX[i]≤100 then(dT f.Prog i f.bX[i] ⟨ti (qg 0 a.bu),a.bu⟩>>=fun v=>if v=true then(if(!decide (((al f.bX[i]).length:Int)=((jX i f.Prog.aO 0).length:Int))) then(some false) else(kQ (al f.bX[i]) (jX i f.Prog.aO 0) 0)) else some false) else some false:=by
   rw[xp,zK,I3 f.bX[i] 100 100 (by omega) (by omega) (by omega)]
   simp only[aW,aD,all_eq f.bX[i] (show qC f.bX[i]≤1000 by omega),SK f.Prog (i:Int) (show f.Prog.aO.length≤1000 by omega),hb.1]
   by_cases z:qC f.bX[i]≤100
   · rw[if_pos z,if_pos (show qC f.bX[i]≤100∧NV f.bX[i]≤100 by omega),uG]
     cases dT f.Prog i f.bX[i] ⟨ti (qg 0 a.bu),a.bu⟩ with
     | none=>rfl
     | some v=>cases v<;>rfl
   · rw[if_neg z,if_neg (show ¬ (qC f.bX[i]≤100∧NV f.bX[i]≤100) by omega),if_neg (by decide)];rfl
 rw[G,H]
 by_cases z:qC f.bX[i]≤100
 rotate_left
 · rw[if_neg z,zi,if_neg z]
   exact⟨false,rfl,rfl⟩
 rw[if_pos z,zi,if_pos z]
 simp only[]
 obtain⟨b,I,g⟩:=P4 f.Prog u i a t f.bX[i] (by omega) o.2 _ _ (Wn f.Prog.cy a.bu ha)
 have g:=g [] [] OM (by simp;omega)
 rw[I]
 simp only[aW,aD]
 cases b with
 | false=>
   rw[if_neg (by decide)] at g
   obtain⟨y,g⟩:=g
   rw[g]
   exact⟨false,rfl,rfl⟩
 | true=>
   rw[if_pos rfl] at g
   obtain⟨m,g,C⟩:=g
   rw[lE] at C
   rw[g]
   simp only[aD,if_true]
   have N:=xj f.bX[i]
   have O:=Ml (i:Int) f.Prog.aO 0
   have h:=Ze C (Gk (i:Int) f.Prog.aO 0)
   have t1:kQ (al f.bX[i]) (jX i f.Prog.aO 0) 0=some ((jX i f.Prog.aO 0).all fun x=>decide (x∈al f.bX[i])):=
     (od (l:=jX i f.Prog.aO 0) (p:=fun x=>x5 (al f.bX[i]) x) (fun x=>decide (x∈al f.bX[i])) (e:=some true) (kQ (al f.bX[i]) (jX i f.Prog.aO 0)) (fun j=>by rw[kQ]) (fun x _=>QY _ x (by omega)) (by omega)).trans (BV _)
   have t2:gb f (jX i f.Prog.aO 0) ((jX i f.Prog.aO 0).length:Int) 0 i m=if((jX i f.Prog.aO 0).all fun x=>decide ((iO m x).getD 0=1))=true then fD f ((i+1:Nat):Int) else some false:=by
     refine pc (l:=jX i f.Prog.aO 0) (q:=fun x=>decide ((iO m x).getD 0=1)) (fun j=>gb f (jX i f.Prog.aO 0) ((jX i f.Prog.aO 0).length:Int) j i m) (fun j J=>?_) ?_
     · rw[gb,e9,aU J]
       simp only[aW,aD]
       rw[if_pos fK,if_pos (show decide ((j:Int)≥0)=true by simp)]
     · rw[gb,if_neg (by simp),if_pos fK];rfl
   rw[t1,t2]
   refine⟨decide ((al f.bX[i]).length=(jX i f.Prog.aO 0).length)&&(jX i f.Prog.aO 0).all fun x=>decide (x∈al f.bX[i]),?_,?_⟩
   · by_cases c:(al f.bX[i]).length=(jX i f.Prog.aO 0).length
     · rw[jM];simp[c]
     · rw[e9];simp[c]
   · by_cases c:m.length=(jX i f.Prog.aO 0).length∧∀ x,x∈jX i f.Prog.aO 0→(iO m x).getD 0=1
     · obtain⟨K,M⟩:=h.2 c
       rw[jM,if_pos (dg.2 fun x hx=>by simpa using c.2 x hx),if_pos (by rw[aS,dg];exact⟨by simpa using K,fun x hx=>by simpa using M x hx⟩)]
     · have d:¬ (decide ((al f.bX[i]).length=(jX i f.Prog.aO 0).length)&&(jX i f.Prog.aO 0).all fun x=>decide (x∈al f.bX[i]))=true:=fun q=>c (h.1 (by
        rw[aS,dg] at q
        exact⟨by simpa using q.1,fun x hx=>by simpa using q.2 x hx⟩))
       rw[if_neg d]
       by_cases c1:m.length=(jX i f.Prog.aO 0).length
       · rw[jM,if_neg fun q=>c ⟨c1,fun x hx=>by simpa using dg.1 q x hx⟩]
       · rw[e9]
theorem Wv (f:bA)(hs:ru f=true):∃ b,xq f=some b∧s9 f=some b∧kS f=some (if b=true then 0 else 2)∧(b=true→Good f.Prog):=by
 have g:uj f.Prog=true:=by simp only[ru,aS] at hs;exact hs.2
 obtain⟨j,m,_,a2,a3⟩:=Y3 g
 suffices q:∃ b,xq f=some b∧s9 f=some b∧(b=true→Good f.Prog) by
   grind[kS]
 rw[xq,s9,m,a2]
 simp only[aW,aD]
 cases j with
 | false=>grind
 | true=>
   obtain⟨o,r,t,u,w,x,y⟩:=a3 rfl
   have c:Good f.Prog:=⟨r,t,u,w,x,y,o⟩
   rw[if_pos (show true=true from rfl)]
   simp only[if_true,show(!decide ((0:Int)=0))=false from rfl,dK,if_false]
   by_cases a:f.bX.length=f.Prog.cy.bq.length
   · have z:(!decide ((f.bX.length:Int)=(f.Prog.cy.bq.length:Int)))=false:=by simp;omega
     simp only[z,dK,if_false]
     suffices q:∀ d i:Nat,f.bX.length-i=d→i≤f.bX.length→∃ b,lT f i=some b∧fD f i=some b by
       obtain⟨b,A,q2⟩:=q f.bX.length 0 rfl (bW _)
       exact⟨b,A,q2,fun _=>c⟩
     intro d
     induction d with
     | zero=>
       intro i B hi
       exact⟨true,by rw[lT,jM],by rw[fD,jM]⟩
     | succ d C=>
       intro i B hi
       have h:i<f.bX.length:=by omega
       have J:f.bX.length≤12:=by simp only[ru,aS,decide_eq_true_eq] at hs;exact hs.1.1
       obtain⟨b,D,E⟩:=Wu f hs c a i h
       obtain⟨G,H,I⟩:=C (i+1) (by omega) (by omega)
       refine⟨b&&G,?_,?_⟩
       · rw[lT,e9,aU h]
         simp only[aW,aD,D]
         rw[if_pos fK,tj,H]
         cases b<;>rfl
       · rw[E,I];cases b<;>rfl
   all_goals grind
variable {f : bA}
theorem Zf (a:kS f=some 0)(b:Good f.Prog)(t:Term)(c:dJ t≤1000):yn f t=some (lF f.Prog.cy t):=by
 rw[yn,a]
 simp only[aW,aD]
 rw[if_pos (by decide),y9 b.cs t (by omega)]
 simp only[aD,lF]
 by_cases g:eM f.Prog.cy t=true
 · rw[if_pos g,if_pos (by decide),Wi t (by omega),g]
   grind
 all_goals grind
theorem Mn (l:LI):(BI l).length≤l.length:=(EL l).1
theorem aeX (c:kS f=some 0)(a:Good f.Prog)(t:Term)(d:dJ t≤1000):∃ r,AZ f t=some (r,if lF f.Prog.cy t=true then 0 else 2):=by
 rw[AZ,Zf c a t d]
 simp only[aW,aD]
 by_cases g:lF f.Prog.cy t=true
 · have b:=aeS _ t g
   have h:dJ t≤40:=by simp only[lF,eM,aS,decide_eq_true_eq] at g;exact g.1.1.1
   obtain ⟨r,e⟩:=ajR t b h (ku (BI (fr t)),0) (fun x hx=>Wl t b x ((rp _ x).1 ((I4 _ x).1 hx))) (by
    have h1:=(List.mergeSort_perm (BI (fr t)) (fun x y=>decide (x≤y))).length_eq
    have h2:=Mn (fr t)
    have h3:=OQ t
    grind[ku])
   rw[if_pos g,if_pos g,vY a.cs t g]
   exact⟨r,e⟩
 all_goals simp_all
theorem SM (t:Term):dJ t≤1000000→cX t=some t:=by
 refine fT (P:=fun t=>dJ t≤1000000→cX t=some t) (fun t a b=>?_) t
 have c:=dX t.Kids
 rw[eE] at b
 rw[cX]
 have:=RC t.Kids id cX (fun x hx=>a x hx (by grind)) (by omega) (F1:=ld t) (F2:=gC t) (e:=fun l=>some (Term.mk t.Op t.N l)) (by rw[ld]) (fun i l=>by rw[gC])
 rw[this,List.map_id]
 cases t;rfl
theorem x9 (a b c:Int):vz a b c=some (decide (b≤a)&&decide (a≤c)):=by
 grind[vz]
theorem Mo (t:Term)(a:Int)(b:dJ t≤900):vF t a=some (decide (a∈fr t)):=by
 obtain⟨w,e,d,c,g⟩:=AA t b
 rw[vF,e]
 simp only[aW,aD]
 refine(pc (l:=w) (q:=fun x => !decide (x=a)) (e:=some false) (f:=some true) (nI a w) (fun i hi=>?_) (by rw[nI,if_neg (by simp)])).trans (JY w (fun x=>decide (x=a)) _ (by simp[c]))
 rw[nI,e9,aU hi]
 simp only[aW,aD]
 rw[if_pos fK]
 grind
def tk : aj:=aj.mk 0 0 ([]:List aA)
noncomputable def C7 (a0:bA)(a:aj)(a2:Int):Option (aj×Int):=
 if decide (a2<0) then(some (tk,2)) else(if cw .i64 ((a.Steps.length:Int)-1) then(if decide (a2≥((a.Steps.length:Int)-1)) then(some (tk,2)) else(bP a.Steps a2>>=fun b=>if cw .i64 (a2+1) then(bP a.Steps (a2+1)>>=fun c=>ml a0.Prog.cy c.Expr>>=fun Jl=>cJ Jl.1 b.Var>>=fun d=>if d then(some (tk,7)) else(if cw .i64 (a2+1) then(bP a.Steps (a2+1)>>=fun g=>bP a.Steps a2>>=fun h=>ml a0.Prog.cy h.Expr>>=fun i=>cJ i.1 g.Var>>=fun j=>if j then(some (tk,7)) else(lA a a2)) else none)) else none)) else none)
theorem Ww (f:bA)(p:aj)(i:Nat)(x:aA)(hi:i≤p.Steps.length)(g:p.Steps.length≤1000):jR f p i x 0=if decide (x.Var∈(p.Steps.take i).map aA.Var)=true then some false else ga f p ((i+1:Nat):Int):=by
 have:=pc (l:=p.Steps.take i) (q:=fun y => !decide (y.Var=x.Var)) (e:=ga f p ((i+1:Nat):Int)) (f:=some false) (fun j=>jR f p i x j) (fun j d=>by
  have a:j<i:=by simp at d;omega
  have b:j<p.Steps.length:=by omega
  rw[jR,if_pos (by simpa using a),aU b]
  simp only[aW,aD,List.getElem_take]
  rw[if_pos fK]
  by_cases c:p.Steps[j].Var=x.Var
  · simp[c]
  · simp[c]) (by
  rw[jR,jM,if_pos fK];rfl)
 grind
theorem SN (A:kS f=some 0)(w:Good f.Prog)(p:aj)(k:Int)(O:p.Steps.length≤6)(B:∀ x,x∈p.Steps→dJ x.Expr≤50) :
   ∀ d i:Nat,p.Steps.length-i=d→i≤p.Steps.length→∃ b,ga f p i=some b∧dM f p k i (mp ((p.Steps.take i).map aA.Var))=(if b=true then C7 f p k else some (tk,2))∧(b=true→∀ x,x∈p.Steps.drop i→lF f.Prog.cy x.Expr=true):=by
 intro d
 induction d with
 | zero=>
   intro i C hi
   refine⟨true,by rw[ga,jM],?_,fun _ x hx=>?_⟩
   · rw[dM,jM,if_pos rfl];rfl
   all_goals grind[List.drop_length]
 | succ d D=>
   intro i C hi
   have h:i<p.Steps.length:=by omega
   have hx:=cM h
   have P:=w.c
   have Q:=w.f
   obtain⟨y,E,G,H⟩:=D (i+1) (by omega) (by omega)
   obtain⟨r,I⟩:=aeX A w p.Steps[i].Expr (by have:=B _ hx;omega)
   have m:ga f p i=if((decide (1≤p.Steps[i].Op)&&decide (p.Steps[i].Op≤5))&&(decide (0≤p.Steps[i].Var)&&decide (p.Steps[i].Var≤19))&&lF f.Prog.cy p.Steps[i].Expr && !decide (p.Steps[i].Var∈(p.Steps.take i).map aA.Var))=true then some y else some false:=by
    rw[ga,e9,aU h]
    simp only[aW,aD,x9,Y5 f.Prog.cy (show f.Prog.cy.Cons.length≤1000000 by omega) (show f.Prog.cy.bq.length≤1000000 by omega),Ww f p i p.Steps[i] hi (show p.Steps.length≤1000 by omega),E]
    cases (decide (1≤p.Steps[i].Op)&&decide (p.Steps[i].Op≤5))<;>cases (decide (0≤p.Steps[i].Var)&&decide (p.Steps[i].Var≤19))<;>cases lF f.Prog.cy p.Steps[i].Expr<;>cases decide (p.Steps[i].Var∈(p.Steps.take i).map aA.Var)<;>rfl
   have g:dM f p k i (mp ((p.Steps.take i).map aA.Var))=if decide (p.Steps[i].Var<0) then some (tk,2) else(if decide (p.Steps[i].Var≥20) then some (tk,2) else(if decide (p.Steps[i].Var∈(p.Steps.take i).map aA.Var)=true then some (tk,2) else(if decide (p.Steps[i].Op<1) then some (tk,2) else(if decide (p.Steps[i].Op>5) then some (tk,2) else(if(!decide ((if lF f.Prog.cy p.Steps[i].Expr=true then(0:Int) else 2)=0))=true then some (tk,2) else dM f p k ((i+1:Nat):Int) (ko (mp ((p.Steps.take i).map aA.Var)) p.Steps[i].Var true)))))):=by
    rw[dM,e9,aU h]
    simp only[aW,aD,I,OH]
    rw[if_pos fK]
    rfl
   have j:True→(ga f p i=some false)→(dM f p k i (mp ((p.Steps.take i).map aA.Var))=some (tk,2))→∃ b,ga f p i=some b∧dM f p k i (mp ((p.Steps.take i).map aA.Var))=(if b=true then C7 f p k else some (tk,2))∧(b=true→∀ x,x∈p.Steps.drop i→lF f.Prog.cy x.Expr=true):=
    fun _ a b=>⟨false,a,by rw[b,if_neg (by decide)],fun q=>by cases q⟩
   have u:(¬ (1≤p.Steps[i].Op∧p.Steps[i].Op≤5∧0≤p.Steps[i].Var∧p.Steps[i].Var≤19))→ga f p i=some false:=fun z=>by
    rw[m,if_neg fun q=>?_]
    simp only[aS,decide_eq_true_eq] at q
    exact z ⟨q.1.1.1.1,q.1.1.1.2,q.1.1.2.1,q.1.1.2.2⟩
   by_cases J:0≤p.Steps[i].Var
   rotate_left
   · exact j trivial (u (by omega)) (by rw[g,uG])
   by_cases K:p.Steps[i].Var≤19
   rotate_left
   · exact j trivial (u (by omega)) (by rw[g,Lr,uG])
   rw[if_neg (show ¬ decide (p.Steps[i].Var<0)=true by simp only[decide_eq_true_eq];omega),if_neg (show ¬ decide (p.Steps[i].Var≥20)=true by simp only[decide_eq_true_eq];omega)] at g
   by_cases o:p.Steps[i].Var∈(p.Steps.take i).map aA.Var
   · exact j trivial (by rw[m,if_neg fun q=>by simp only[aS,o,decide_true,Bool.not_true,dK,and_false] at q]) (by rw[g,if_pos (by simpa only[decide_eq_true_eq] using o)])
   rw[if_neg (by simpa only[decide_eq_true_eq] using o)] at g
   by_cases M:1≤p.Steps[i].Op
   rotate_left
   · exact j trivial (u (by omega)) (by rw[g,uG])
   by_cases N:p.Steps[i].Op≤5
   rotate_left
   · exact j trivial (u (by omega)) (by rw[g,Lr,uG])
   rw[if_neg (show ¬ decide (p.Steps[i].Op<1)=true by simp only[decide_eq_true_eq];omega),if_neg (show ¬ decide (p.Steps[i].Op>5)=true by simp only[decide_eq_true_eq];omega)] at g
   by_cases t:lF f.Prog.cy p.Steps[i].Expr=true
   rotate_left
   · exact j trivial (by rw[m,if_neg fun q=>by simp only[aS] at q;exact t q.1.2]) (by rw[g,if_neg t,if_pos (by decide)])
   rw[if_pos (by simp only[aS,decide_eq_true_eq,xg,decide_eq_false_iff_not];exact⟨⟨⟨⟨M,N⟩,J,K⟩,t⟩,o⟩)] at m
   rw[if_pos t,if_neg (by decide),OI _ _ o,show(p.Steps.take i).map aA.Var++[p.Steps[i].Var]=(p.Steps.take (i+1)).map aA.Var by rw[Cc h,Oy];rfl] at g
   refine⟨y,m,g.trans G,fun q x hx=>?_⟩
   rw[db h] at hx
   rcases dE.1 hx with rfl | hx
   · exact t
   · exact H q x hx
theorem Wx (T D:List aA)(y x:aA)(a b:Int)(c d:Bool)(h1:c=true)(h2:d=true)(g:T.length≤1000)(h:D.length≤1000):(if T.isEmpty=true then(if c=true then(if d=true then(if D.isEmpty=true then(some ((aj.mk a b [y,x]),(0:Int))) else(if decide ([y,x].length+D.length≤1048576)=true then(some ((aj.mk a b ([y,x]++D)),0)) else none)) else none) else none) else(if decide (T.length≤1048576)=true then(if decide (T.length+[y,x].length≤1048576)=true then(if c=true then(if d=true then(if D.isEmpty=true then(some ((aj.mk a b (T++[y,x])),0)) else(if decide ((T++[y,x]).length+D.length≤1048576)=true then(some ((aj.mk a b ((T++[y,x])++D)),0)) else none)) else none) else none) else none) else none))=some (aj.mk a b (T++y::x::D),0):=by
 grind
def Iu (a:aj)(a2:Int):Option (aj×Int):=
 if cw .i64 ((a.Steps.length:Int)-2) then(vz a2 0 ((a.Steps.length:Int)-2)>>=fun d=>if d then(bP a.Steps a2>>=fun b=>if cw .i64 (a2+1) then(bP a.Steps (a2+1)>>=fun c=>vF b.Expr c.Var>>=fun v5=>if v5 then(some ((aj.mk 0 0 ([]:List aA)),7)) else(vF c.Expr b.Var>>=fun g=>if g then(some ((aj.mk 0 0 ([]:List aA)),7)) else(if decide (0≤a2∧a2≤(a.Steps.length:Int)) then(if(a.Steps.take (a2:Int).toNat).isEmpty then(if cw .i64 (a2+2) then(if decide (0≤(a2+2)∧(a2+2)≤(a.Steps.length:Int)) then(if(a.Steps.drop ((a2+2):Int).toNat).isEmpty then(some ((aj.mk a.Nil a.Cons [c,b]),0)) else(if decide ([c,b].length+(a.Steps.drop ((a2+2):Int).toNat).length≤1048576) then(some ((aj.mk a.Nil a.Cons ([c,b]++(a.Steps.drop ((a2+2):Int).toNat))),0)) else none)) else none) else none) else(if decide ((a.Steps.take (a2:Int).toNat).length≤1048576) then(if decide ((a.Steps.take (a2:Int).toNat).length+[c,b].length≤1048576) then(if cw .i64 (a2+2) then(if decide (0≤(a2+2)∧(a2+2)≤(a.Steps.length:Int)) then(if(a.Steps.drop ((a2+2):Int).toNat).isEmpty then(some ((aj.mk a.Nil a.Cons ((a.Steps.take (a2:Int).toNat)++[c,b])),0)) else(if decide (((a.Steps.take (a2:Int).toNat)++[c,b]).length+(a.Steps.drop ((a2+2):Int).toNat).length≤1048576) then(some ((aj.mk a.Nil a.Cons (((a.Steps.take (a2:Int).toNat)++[c,b])++(a.Steps.drop ((a2+2):Int).toNat))),0)) else none)) else none) else none) else none) else none)) else none))) else none) else(some ((aj.mk 0 0 ([]:List aA)),2))) else none
theorem Wy (p:aj)(k:Nat)(x y:aA)(h:k+1<p.Steps.length)(hx:p.Steps[k]=x)(hy:p.Steps[k+1]=y)(D:p.Steps.length≤6)(r:∀ x,x∈p.Steps→dJ x.Expr≤50):lA p k=some (⟨p.Nil,p.Cons,p.Steps.take k++y::x::p.Steps.drop (k+2)⟩,0):=by
 have t:p.Steps.take k++y::x::p.Steps.drop (k+2)=(p.Steps.set k y).set (k+1) x:=by
   have hs:p.Steps=p.Steps.take k++x::y::p.Steps.drop (k+2):=by
     rw[←hx,←hy,←db,←db,List.take_append_drop]
   have m:(p.Steps.take k).length=k:=by simp;omega
   generalize p.Steps.take k=A at hs m
   generalize p.Steps.drop (k+2)=B at hs
   rw[hs,List.set_append_right _ _ (by omega),List.set_append_right _ _ (by omega),m,Nat.sub_self,show k+1-k=1 by omega]
   rfl
 rw[t]
 have d:((p.Steps.set k y).set (k+1) x).length=p.Steps.length:=by simp
 have a:∀ z,z∈p.Steps→cX z.Expr=some z.Expr:=fun z g=>SM z.Expr (by have:=r z g;omega)
 have b:x∈p.Steps:=hx▸cM _
 have c:y∈p.Steps:=hy▸cM _
 have o:bP p.Steps (k:Int)=some x:=hx▸aU (by omega)
 have q:bP p.Steps ((k:Int)+1)=some y:=by rw[show(k:Int)+1=((k+1:Nat):Int) by omega];exact hy▸aU h
 have key:=Um (L:=(p.Steps.set k y).set (k+1) x) id (F:=eK p k) (e:=fun l=>some (⟨p.Nil,p.Cons,l⟩,0)) (by omega) (fun i hi l j=>by
   rw[d] at hi
   rw[eK,e9,o,q]
   simp only[aW,aD,a x b,a y c,id]
   have k1:cw .i64 ((k:Int)+1)=true:=w9 (by omega) (by omega)
   have u:cw .i64 ((i:Int)+1)=true:=w9 (by omega) (by omega)
   have w:decide (l.length+[(⟨y.Op,y.Var,y.Expr⟩:aA)].length≤1048576)=true:=by simp;omega
   have C:decide (l.length+[(⟨x.Op,x.Var,x.Expr⟩:aA)].length≤1048576)=true:=by simp;omega
   simp only[k1,u,w,C,if_true]
   by_cases c1:i=k
   · subst c1
     rw[if_pos (by simp),List.getElem_set_ne (by omega),List.getElem_set_self]
   · rw[jM]
     by_cases c2:i=k+1
     · subst c2
       rw[if_pos (by simp),List.getElem_set_self]
     · rw[jM,aU hi,List.getElem_set_ne (by omega),List.getElem_set_ne (by omega)]
       simp only[aD,a _ (cM hi)]
       rw[e9]) (fun l j=>by rw[eK,if_neg (by simp)])
 rw[List.map_id] at key
 rw[lA,e9,o,q,show bP p.Steps 0=some p.Steps[0] from aU (i:=0) (by omega)]
 simp only[aW,aD,a x b,a y c,a _ (cM (show 0<p.Steps.length by omega))]
 rw[if_pos fK,if_pos fK,←key]
 by_cases c1:k=0
 · subst c1
   rw[if_pos (by simp)]
   congr 2
   simp
 · rw[jM,jM]
   congr 2
   simp only[id]
   rw[List.getElem_set_ne (by omega),List.getElem_set_ne (by omega)]
theorem Wz (q:Good f.Prog)(p:aj)(a:Int)(C:p.Steps.length≤6)(b:∀ x,x∈p.Steps→dJ x.Expr≤50)(d:∀ x,x∈p.Steps→lF f.Prog.cy x.Expr=true) :
   ∃ o c,C7 f p a=some (o,c)∧Iu p a=some (o,c)∧o.Steps.length≤6∧∀ x,x∈o.Steps→dJ x.Expr≤50:=by
 have r:cw .i64 ((p.Steps.length:Int)-1)=true:=w9 (by omega) (by omega)
 have i:cw .i64 ((p.Steps.length:Int)-2)=true:=w9 (by omega) (by omega)
 by_cases j:a<0
 · refine⟨tk,2,by rw[C7,if_pos (by simpa using j)],?_,by simp[tk],by simp[tk]⟩
   rw[Iu,if_pos i,x9]
   simp only[aW,aD]
   rw[Ls];rfl
 by_cases h1:a≥(p.Steps.length:Int)-1
 · refine⟨tk,2,by rw[C7,if_neg (by simpa using j),if_pos r,if_pos (by simpa using h1)],?_,by simp[tk],by simp[tk]⟩
   rw[Iu,if_pos i,x9]
   simp only[aW,aD]
   rw[Ls];rfl
 obtain⟨k,rfl⟩:∃ k:Nat,a=k:=⟨a.toNat,by omega⟩
 have h:k+1<p.Steps.length:=by omega
 have u:k<p.Steps.length:=by omega
 have w:bP p.Steps (k:Int)=some p.Steps[k]:=aU u
 have A:bP p.Steps ((k:Int)+1)=some p.Steps[k+1]:=by rw[show(k:Int)+1=((k+1:Nat):Int) by omega];exact aU h
 have hx:=cM u
 have hy:=cM h
 have k1:cw .i64 ((k:Int)+1)=true:=w9 (by omega) (by omega)
 have B:∀ t:Term,dJ t≤50→(ku (BI (fr t))).length≤1000000:=fun t H=>by
   have h1:(ku (BI (fr t))).length=(BI (fr t)).length:=(List.mergeSort_perm (BI (fr t)) (fun x y=>decide (x≤y))).length_eq
   have h2:=Mn (fr t)
   have h3:=OQ t
   omega
 have D:∀(t:Term) (v:Int),(v∈ku (BI (fr t)))=(v∈fr t):=fun t v=>by rw[I4,rp]
 have eS:C7 f p k=if decide (p.Steps[k].Var∈fr p.Steps[k+1].Expr)=true then some (tk,7) else if decide (p.Steps[k+1].Var∈fr p.Steps[k].Expr)=true then some (tk,7) else lA p k:=by
   rw[C7,if_neg (by simpa using j),if_pos r,if_neg (by simpa using h1),w,A]
   simp only[aW,aD,k1,if_true,vY q.cs _ (d _ hx),vY q.cs _ (d _ hy),contains_eq _ _ (B _ (b _ hx)),contains_eq _ _ (B _ (b _ hy)),D]
 have E:Iu p k=if decide (p.Steps[k+1].Var∈fr p.Steps[k].Expr)=true then some (tk,7) else if decide (p.Steps[k].Var∈fr p.Steps[k+1].Expr)=true then some (tk,7) else some (⟨p.Nil,p.Cons,p.Steps.take k++p.Steps[k+1]::p.Steps[k]::p.Steps.drop (k+2)⟩,0):=by
   rw[Iu,if_pos i,x9]
   simp only[aW,aD]
   rw[ad7,w,A]
   simp only[aD,k1,if_true,Mo p.Steps[k].Expr _ (show dJ p.Steps[k].Expr≤900 by have:=b _ hx;omega),Mo p.Steps[k+1].Expr _ (show dJ p.Steps[k+1].Expr≤900 by have:=b _ hy;omega)]
   rw[←Wx (p.Steps.take k) (p.Steps.drop (k+2)) p.Steps[k+1] p.Steps[k] p.Nil p.Cons (cw .i64 ((k:Int)+2)) (decide (0≤(k:Int)+2∧(k:Int)+2≤(p.Steps.length:Int))) fK (by simp only[decide_eq_true_eq];omega) (by simp;omega) (by simp;omega),if_pos (show decide (0≤(k:Int)∧(k:Int)≤(p.Steps.length:Int))=true by simp only[decide_eq_true_eq];omega),show((k:Int)+2).toNat=k+2 by omega,ub]
   rfl
 rw[eS,E]
 by_cases c1:p.Steps[k].Var∈fr p.Steps[k+1].Expr
 · have g:decide (p.Steps[k].Var∈fr p.Steps[k+1].Expr)=true:=by simpa only[decide_eq_true_eq] using c1
   simp only[g,if_true]
   refine⟨tk,7,rfl,?_,by simp[tk],by simp[tk]⟩
   split<;>rfl
 have g:decide (p.Steps[k].Var∈fr p.Steps[k+1].Expr)=false:=by simpa only[decide_eq_false_iff_not] using c1
 by_cases c2:p.Steps[k+1].Var∈fr p.Steps[k].Expr
 · have m:decide (p.Steps[k+1].Var∈fr p.Steps[k].Expr)=true:=by simpa only[decide_eq_true_eq] using c2
   simp only[g,m,if_true,dK,if_false]
   exact⟨tk,7,rfl,rfl,by simp[tk],by simp[tk]⟩
 have m:decide (p.Steps[k+1].Var∈fr p.Steps[k].Expr)=false:=by simpa only[decide_eq_false_iff_not] using c2
 simp only[g,m,dK,if_false]
 refine⟨_,_,Wy p k _ _ h rfl rfl C b,rfl,by simp;omega,fun z G=>?_⟩
 grind
theorem WA (f:bA)(p:aj)(a:Int)(hf:ru f=true)(i:x6 p=true):∃ o c,qP f p a=some (o,c)∧xu f p a=some (o,c)∧o.Steps.length≤6∧∀ x,x∈o.Steps→dJ x.Expr≤50:=by
 have z:∀ x,x∈p.Steps→dJ x.Expr≤50:=fun x hx=>by
   simp only[x6,aS,dg,ui,decide_eq_true_eq] at i;grind
 have S:p.Steps.length≤8:=by simp only[x6,aS,decide_eq_true_eq] at i;exact i.2
 obtain⟨b,H,T,C,I⟩:=Wv f hf
 have d:∀ A B:Option (aj×Int),A=some (tk,2)→B=some (tk,2)→∃ o c,A=some (o,c)∧B=some (o,c)∧o.Steps.length≤6∧∀ x,x∈o.Steps→dJ x.Expr≤50:=
   fun A B ha hb=>⟨_,_,ha,hb,by simp[tk],by simp[tk]⟩
 have eS:qP f p a=(if(!decide ((if b=true then(0:Int) else 2)=0))=true then(some (tk,2)) else(if decide ((p.Nil:Int)≥0) then(if decide ((p.Nil:Int)<(f.Prog.cy.Cons.length:Int)) then(bP f.Prog.cy.Cons p.Nil>>=fun g=>if decide ((g.bu:Int)=0) then(if decide ((p.Cons:Int)≥0) then(if decide ((p.Cons:Int)<(f.Prog.cy.Cons.length:Int)) then(bP f.Prog.cy.Cons p.Cons>>=fun h=>if decide ((h.bu:Int)=2) then(if decide ((p.Steps.length:Int)>6) then(some (tk,2)) else(dM f p a 0 [])) else(some (tk,2))) else(some (tk,2))) else(some (tk,2))) else(some (tk,2))) else(some (tk,2))) else(some (tk,2)))):=by
   rw[qP,C];rfl
 have J:xu f p a=if b=true then(AY f p>>=fun K=>if K then Iu p a else(some (tk,2))) else(some (tk,2)):=by
   rw[xu,H];rfl
 rw[eS,J]
 cases b with
 | false=>exact d _ _ (by rw[if_neg (show ¬ false=true by decide),if_pos (by decide)]) (by rw[if_neg (by decide)])
 | true=>
 have j:=I rfl
 have M:kS f=some 0:=by rw[C];rfl
 have U:=j.c
 rw[if_pos (show true=true from rfl),if_neg (by decide),if_pos (show true=true from rfl),AY,if_pos fK,x9]
 simp only[aW,aD]
 rw[if_pos fK,x9]
 simp only[aD]
 by_cases N:0≤p.Nil
 rotate_left
 · rw[jM,Ls]
   exact d _ _ rfl rfl
 by_cases m:p.Nil<(f.Prog.cy.Cons.length:Int)
 rotate_left
 · rw[e9,if_neg (by simpa using m),Ls]
   exact d _ _ rfl rfl
 obtain⟨D,w,_⟩:=x7 N m
 rw[if_pos (show decide (p.Nil≥0)=true by simp;omega),if_pos (show decide (p.Nil<(f.Prog.cy.Cons.length:Int))=true by simpa using m),if_pos (show(decide (0≤p.Nil)&&decide (p.Nil≤(f.Prog.cy.Cons.length:Int)-1))=true by simp only[aS,decide_eq_true_eq];omega),w]
 simp only[aD]
 by_cases O:0≤p.Cons
 rotate_left
 · rw[if_neg (show ¬ decide (p.Cons≥0)=true by simp;omega),if_neg (show ¬ (decide (0≤p.Cons)&&decide (p.Cons≤(f.Prog.cy.Cons.length:Int)-1))=true by simp only[aS,decide_eq_true_eq];omega)]
   exact d _ _ (by split<;>rfl) rfl
 by_cases q:p.Cons<(f.Prog.cy.Cons.length:Int)
 rotate_left
 · rw[if_neg (show ¬ decide (p.Cons<(f.Prog.cy.Cons.length:Int))=true by simpa using q),if_neg (show ¬ (decide (0≤p.Cons)&&decide (p.Cons≤(f.Prog.cy.Cons.length:Int)-1))=true by simp only[aS,decide_eq_true_eq];omega)]
   exact d _ _ (by split<;>(try split)<;>rfl) rfl
 obtain⟨E,y,_⟩:=x7 O q
 rw[if_pos (show decide (p.Cons≥0)=true by simp;omega),if_pos (show decide (p.Cons<(f.Prog.cy.Cons.length:Int))=true by simpa using q),if_pos (show(decide (0≤p.Cons)&&decide (p.Cons≤(f.Prog.cy.Cons.length:Int)-1))=true by simp only[aS,decide_eq_true_eq];omega),y]
 simp only[aD]
 by_cases a0:D.bu=0
 rotate_left
 · rw[if_neg (by simpa using a0),if_pos (by simpa using a0)]
   exact d _ _ rfl rfl
 by_cases r:E.bu=2
 rotate_left
 · rw[if_pos (by simpa using a0),if_neg (by simpa using r),if_neg (by simpa using a0),if_pos (by simpa using r)]
   exact d _ _ rfl rfl
 have P:decide (D.bu=0)=true:=by simpa using a0
 have Q:decide (E.bu=2)=true:=by simpa using r
 simp only[P,Q,Bool.not_true,dK,if_true,if_false]
 by_cases G:(p.Steps.length:Int)>6
 · have q2:decide ((p.Steps.length:Int)>6)=true:=by simpa only[decide_eq_true_eq] using G
   simp only[q2,if_true]
   exact d _ _ rfl rfl
 have q2:decide ((p.Steps.length:Int)>6)=false:=by simpa only[decide_eq_false_iff_not] using G
 simp only[q2,dK,if_false]
 obtain⟨b,t,u,R⟩:=SN M j p a (by omega) z p.Steps.length 0 rfl (bW _)
 have t:ga f p 0=some b:=t
 have u:dM f p a 0 []=(if b=true then C7 f p a else some (tk,2)):=u
 rw[t,u]
 simp only[aD]
 cases b with
 | false=>exact d _ _ rfl rfl
 | true=>
   rw[if_pos rfl,if_pos rfl]
   exact Wz j p a (by omega) z (R rfl)
theorem WB (a0:bA)(a:aj)(a2:Int)(h:a.Steps.length≤9223372036854775807)(g:u6=some true):ra a0 a a2=some true:=by
 rw[ra,K2,K3 a h,g]
 simp only[aW,aD]
 by_cases b:ru a0=true
 rotate_left
 · grind
 by_cases d:x6 a=true
 rotate_left
 · grind
 obtain⟨o,c,i,j,m,q⟩:=WA a0 a a2 b d
 rw[if_pos b,if_pos d,i,j]
 simp only[aD]
 rw[if_pos (by simp),Ib o (by omega) (fun x hx=>by grind)]
 rfl
end
end Go.Eng

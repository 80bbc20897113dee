/- The law holds of the lifted functions on all data; no conditions. -/
import Derived.Test.YthplmmeobggkfaaGreatVLawA
import Derived.KernelRfl
set_option linter.all false
namespace Go.Eng
open Go.Proofs
set_option synthInstance.maxSize 100000
set_option synthInstance.maxHeartbeats 400000
set_option maxRecDepth 100000
noncomputable section
mutual
def qn : af→Int
 | .mk _ _ al a _ _=>1+lG a+nt al
def lG : List af→Int
 | []=>0
 | t::l=>qn t+lG l
def nt : List bT→Int
 | []=>0
 | a::l=>TX a+nt l
def TX : bT→Int
 | .mk _ _ t=>qn t
end
mutual
def Lj : af→Int
 | .mk _ _ al a _ _=>1+max (DX a) (B4 al)
def DX : List af→Int
 | []=>0
 | t::l=>max (Lj t) (DX l)
def B4 : List bT→Int
 | []=>0
 | a::l=>max (TY a) (B4 l)
def TY : bT→Int
 | .mk _ _ t=>Lj t
end
theorem zH (t:af):qn t=1+lG t.Kids+nt t.bk:=by cases t;rw[qn];rfl
theorem UU (t:af):Lj t=1+max (DX t.Kids) (B4 t.bk):=by cases t;rw[Lj];rfl
theorem tL (a:bT):TX a=qn a.fh:=by cases a;rw[TX];rfl
theorem QY (a:bT):TY a=Lj a.fh:=by cases a;rw[TY];rfl
mutual
theorem ni : ∀ t:af,1≤qn t∧1≤Lj t
 | .mk _ _ al a _ _=>by have:=jD a;have:=jE al;simp only[qn,Lj];omega
theorem jD : ∀ l:List af,0≤lG l∧0≤DX l∧(l.length:Int)≤lG l
 | []=>by simp[lG,DX]
 | t::l=>by have:=ni t;have:=jD l;simp only[lG,DX,lI];omega
theorem jE : ∀ l:List bT,0≤nt l∧0≤B4 l∧(l.length:Int)≤nt l
 | []=>by simp[nt,B4]
 | a::l=>by have:=Mk a;have:=jE l;simp only[nt,B4,lI];omega
theorem Mk : ∀ a:bT,1≤TX a∧1≤TY a
 | .mk _ _ t=>by have:=ni t;simp only[TX,TY];omega
end
mutual
theorem Aw {P:af→Prop}(h:∀ t:af,(∀ x,x∈t.Kids→P x)→(∀ a,a∈t.bk→P a.fh)→P t):∀ t,P t
 | .mk _ _ al b _ _=>h _ (UW h b) (UX h al)
theorem UW {P:af→Prop}(h:∀ t:af,(∀ x,x∈t.Kids→P x)→(∀ a,a∈t.bk→P a.fh)→P t):∀(l:List af) (x:af),x∈l→P x
 | t::l,x,hx=>(cF.1 hx).elim (fun e=>e▸Aw h t) (UW h l x)
theorem UX {P:af→Prop}(h:∀ t:af,(∀ x,x∈t.Kids→P x)→(∀ a,a∈t.bk→P a.fh)→P t):∀(l:List bT) (a:bT),a∈l→P a.fh
 | .mk _ _ t::l,a,ha=>(cF.1 ha).elim (fun e=>e▸Aw h t) (UX h l a)
end
def fW (t:af):Prop:=∀ n d:Int,n≤1000000→0≤d→d≤1000000→ly t n d=some (if qn t≤n∧Lj t≤d then n-qn t else -1)
theorem J2 (t:af)(d:Int)(i:Int):gD t d i (-1)=some (-1):=by
 simp_all[gD]
theorem av1 (t:af)(d:Int)(h1:1≤d)(h2:d≤1000000)(m:∀ a,a∈t.bk→fW a.fh) :
   ∀(k i:Nat) (b:Int),t.bk.length-i=k→i≤t.bk.length→0≤b→i+b≤1000000→gD t d i b=some (if nt (t.bk.drop i)≤b∧B4 (t.bk.drop i)≤d-1 then b-nt (t.bk.drop i) else -1):=by
 intro k
 induction k with
 | zero=>
   intro i b o hi hb g
   rw[gD,iT,show i=t.bk.length by omega,dP,nt,B4,if_pos ⟨hb,by omega⟩]
   simp
 | succ k j=>
   intro i b o hi hb g
   have h:i<t.bk.length:=by omega
   rw[gD,eu,if_pos (by simpa using hb),aU h]
   simp only[aQ,ax]
   rw[if_pos fQ,m _ (cM h) _ _ (by omega) (by omega) (by omega)]
   simp only[ax]
   rw[if_pos fQ,cW h,nt,B4,tL,QY,tA]
   have q:=ni t.bk[i].fh
   have r:=jE (t.bk.drop (i+1))
   split
   · rename_i c
     rw[j (i+1) _ (by omega) (by omega) (by omega) (by omega)]
     congr 1
     split<;>split<;>omega
   · rename_i c
     rw[if_neg (by omega),J2]
theorem av2 (t:af)(d:Int)(h1:1≤d)(h2:d≤1000000)(o:∀ x,x∈t.Kids→fW x)(g:∀ a,a∈t.bk→fW a.fh) :
   ∀(k i:Nat) (b:Int),t.Kids.length-i=k→i≤t.Kids.length→0≤b→i+b≤1000000→jF t d i b=some (if lG (t.Kids.drop i)+nt t.bk≤b∧max (DX (t.Kids.drop i)) (B4 t.bk)≤d-1 then b-(lG (t.Kids.drop i)+nt t.bk) else -1):=by
 have ha:=jE t.bk
 intro k
 induction k with
 | zero=>
   intro i b q hi hb j
   have:=av1 t d h1 h2 g t.bk.length 0 b rfl (bU _) hb (by omega)
   rw[fy] at this
   rw[jF,iT,show i=t.Kids.length by omega,dP,lG,DX]
   refine this.trans ?_
   congr 1
   split<;>split<;>omega
 | succ k m=>
   intro i b q hi hb j
   have h:i<t.Kids.length:=by omega
   rw[jF,eu,if_pos (by simpa using hb),aU h]
   simp only[aQ,ax]
   rw[if_pos fQ,o _ (cM h) _ _ (by omega) (by omega) (by omega)]
   simp only[ax]
   rw[if_pos fQ,cW h,lG,DX,tA]
   have r:=ni t.Kids[i]
   have u:=jD (t.Kids.drop (i+1))
   split
   · rename_i c
     rw[m (i+1) _ (by omega) (by omega) (by omega) (by omega)]
     congr 1
     split<;>split<;>omega
   · rename_i c
     rw[if_neg (by omega),jF]
     split
     · rw[if_neg (by simp),J2]
     · rw[J2]
theorem I9 (t:af):fW t:=by
 refine Aw (P:=fW) (fun t g a=>?_) t
 intro n d i h b
 have j:=ni t
 rw[ly]
 split
 · rename_i c
   rw[if_neg (by simp at c;omega)]
 · rename_i c
   split
   · rename_i c2
     rw[if_neg (by simp at c2;omega)]
   · rename_i c2
     simp at c c2
     have:=av2 t d (by omega) b g a t.Kids.length 0 (n-1) rfl (bU _) (by omega) (by omega)
     rw[fy] at this
     rw[if_pos fQ,zH,UU]
     refine this.trans ?_
     congr 1
     omega
mutual
def uO (p:af→Bool)(q:bT→Bool):af→Bool
 | .mk o v al a r b=>p (.mk o v al a r b)&&(Iy p q al&&Iz p q a)
def Iz (p:af→Bool)(q:bT→Bool):List af→Bool
 | []=>true
 | t::l=>uO p q t&&Iz p q l
def Iy (p:af→Bool)(q:bT→Bool):List bT→Bool
 | []=>true
 | a::l=>Up p q a&&Iy p q l
def Up (p:af→Bool)(q:bT→Bool):bT→Bool
 | .mk c a t=>q (.mk c a t)&&uO p q t
end
theorem QZ (p:af→Bool)(q:bT→Bool)(t:af):uO p q t=(p t&&(Iy p q t.bk&&Iz p q t.Kids)):=by cases t;rw[uO];rfl
theorem Wj (p:af→Bool)(q:bT→Bool)(a:bT):Up p q a=(q a&&uO p q a.fh):=by cases a;rw[Up];rfl
theorem FW (p:af→Bool)(q:bT→Bool):∀ l,Iz p q l=l.all (uO p q)
 | []=>by simp[Iz]
 | t::l=>by simp[Iz,FW p q l]
theorem FX (p:af→Bool)(q:bT→Bool):∀ l,Iy p q l=l.all fun a=>q a&&uO p q a.fh
 | []=>by simp[Iy]
 | t::l=>by simp[Iy,FX p q l,Wj]
def wV (t:af):Bool:=decide ((t.bf.length:Int)≤30)
def vz (a:bT):Bool:=decide ((a.bf.length:Int)≤10)
theorem uY : ∀(l:List af) (x:af),x∈l→qn x≤lG l
 | t::l,x,hx=>by
   have:=ni t
   have:=jD l
   simp only[lG]
   rcases cF.1 hx with rfl | hx
   · omega
   · have:=uY l x hx;omega
theorem uZ : ∀(l:List bT) (a:bT),a∈l→qn a.fh≤nt l
 | t::l,a,hx=>by
   have:=Mk t
   have:=jE l
   simp only[nt]
   rcases cF.1 hx with rfl | hx
   · rw[tL];omega
   · have:=uZ l a hx;omega
theorem Wl (t:af):qn t≤1000→lA t=some (uO wV vz t):=by
 refine Aw (P:=fun t=>qn t≤1000→lA t=some (uO wV vz t)) (fun t d b g=>?_) t
 have m:=jD t.Kids
 have o:=jE t.bk
 rw[zH] at g
 have h:jG t 0=some (t.Kids.all (uO wV vz)):=
   (ou (uO wV vz) (jG t) (fun i=>by rw[jG]) (fun x hx=>d x hx (by have:=uY _ x hx;omega)) (by omega)).trans (yM _)
 have j:jH t 0=some ((t.bk.all fun a=>vz a&&uO wV vz a.fh)&&t.Kids.all (uO wV vz)):=by
   refine(pk (l:=t.bk) (q:=fun a=>vz a&&uO wV vz a.fh) (e:=some (t.Kids.all (uO wV vz))) (f:=some false) (jH t) (fun i hi=>?_) (by rw[jH,if_neg (by simp),h])).trans ?_
   · have hx:=cM hi
     rw[jH,eu,aU hi]
     simp only[aQ,ax,b _ hx (by have:=uZ _ _ hx;omega)]
     rw[if_pos fQ]
     by_cases c:(t.bk[i].bf.length:Int)≤10
     · rw[iT]
       by_cases c2:uO wV vz t.bk[i].fh=true
       · simp only[c2,if_true,vz,c,decide_true,iC]
       · simp[c2]
     · rw[eu]
       have:vz t.bk[i]=false:=by simpa [vz] using c
       simp[this]
   · cases t.bk.all (fun a=>vz a&&uO wV vz a.fh)<;>simp
 rw[lA,QZ,FX,FW,j]
 by_cases c:(t.bf.length:Int)≤30
 · rw[iT]
   have:wV t=true:=by simpa [wV] using c
   rw[this,iC]
 · rw[eu]
   have:wV t=false:=by simpa [wV] using c
   rw[this,Bool.false_and]
def FI (t:af):Bool:=decide (qn t≤130)&&decide (Lj t≤130)&&uO wV vz t
theorem K9 (t:af):qB t=some (FI t):=by
 rw[qB,I9 t 130 130 (by omega) (by omega) (by omega)]
 simp only[aQ,ax,FI]
 by_cases h:qn t≤130∧Lj t≤130
 · rw[if_pos h,eu,Wl t (by omega)]
   simp only[ax,h.1,h.2,decide_true,iC,yM]
 · rw[if_neg h,if_neg (by simp)]
   congr 1
   by_cases h1:qn t≤130
   · have:¬ Lj t≤130:=fun q=>h ⟨h1,q⟩
     simp[this]
   · simp[h1]
def rG (p:bA):Bool:=decide (p.bP.length≤12)&&p.bP.all FI&&pA p.Prog
theorem La (p:bA):qD p=some (rG p):=by
 rw[qD]
 refine(Uo (l:=p.bP) (q:=FI) (e:=pA p.Prog&&decide ((p.bP.length:Int)≤12)) 12 (fG p) (fun i hi a=>?_) ?_ (fun i hi a=>?_) (fun h=>by simp;omega)).trans ?_
 · rw[fG,eu,eu,aU hi]
   simp only[aQ,ax,K9]
   rw[if_pos fQ]
 · rw[fG,if_neg (by simp),vm]
   simp only[aQ,ax]
   cases pA p.Prog<;>cases decide ((p.bP.length:Int)≤12)<;>rfl
 · rw[fG,eu,iT,vm]
   simp only[aQ,ax]
   cases pA p.Prog<;>cases decide ((p.bP.length:Int)≤12)<;>rfl
 · simp only[rG]
   by_cases h:p.bP.length≤12
   · have h2:(p.bP.length:Int)≤12:=by omega
     have h3:p.bP.length≤13:=by omega
     simp[h,h2,h3]
   · have h2:¬ (p.bP.length:Int)≤12:=by omega
     simp[h,h2]
def yj (p:aj):Bool:=(p.Steps.all fun s=>rk s.Expr)&&decide (p.Steps.length≤8)
theorem Lb (p:aj)(a:p.Steps.length≤9223372036854775807):qE p=some (yj p):=by
 rw[qE]
 refine(ou (l:=p.Steps) (p:=fun s=>pF s.Expr) (fun s=>rk s.Expr) (e:=some (decide (p.Steps.length≤8))) (iE p) (fun i=>?_) (fun x _=>FU x.Expr) (by omega)).trans ?_
 · rw[iE]
   have:(if decide ((p.Steps.length:Int)≤8)=true then some true else some false)=some (decide (p.Steps.length≤8)):=by
    rw[zw];congr 1;simp only[decide_eq_decide];omega
   rw[this]
 · simp only[yj]
   cases p.Steps.all (fun s=>rk s.Expr)<;>rfl
def mU (t:Term):Bool := !decide (t.Op=8)
theorem Y6 (t:Term):dE t≤1000000→qP t=some (cj mU t):=by
 refine fX (P:=fun t=>dE t≤1000000→qP t=some (cj mU t)) (fun t a b=>?_) t
 have c:=dZ t.Kids
 rw[eJ] at b
 rw[qP,ou (cj mU) (lZ t) (fun i=>by rw[lZ]) (fun x hx=>a x hx (by have:=c.2 x hx;omega)) (by omega),dT,fi]
 simp only[mU]
 cases t.Kids.all (cj mU)<;>cases decide (t.Op=8)<;>rfl
def lL (s:aH)(t:Term):Bool:=eC s t&&cj mU t
theorem Y7 (s:aH)(h1:s.Cons.length≤1000000)(h2:s.bp.length≤1000000)(t:Term):A9 s t=some (lL s t):=by
 rw[A9,xN s h1 h2]
 simp only[aQ,ax,lL]
 by_cases g:eC s t=true
 · have a:dE t≤40:=by simp_all[eC]
   rw[if_pos g,Y6 t (by omega),g]
   simp[yM]
 · simp_all
theorem SG (t:Term):dE t≤1000000→qQ t t=some true:=by
 refine fX (P:=fun t=>dE t≤1000000→qQ t t=some true) (fun t a b=>?_) t
 have c:=dZ t.Kids
 rw[eJ] at b
 rw[qQ,if_neg (by simp),if_neg (by simp),if_neg (by simp)]
 refine(pk (l:=t.Kids) (q:=fun _=>true) (e:=some true) (f:=some false) (kU t t) (fun i hi=>?_) (by rw[kU,if_neg (by simp)])).trans (by simp)
 have hx:=cM hi
 rw[kU,eu,aU hi]
 simp only[aQ,ax,a _ hx (by have:=c.2 _ hx;omega)]
 rw[if_pos trivial,if_pos fQ,if_pos trivial]
theorem Ij (p:aj)(a:p.Steps.length≤1000000)(hs:∀ x,x∈p.Steps→dE x.Expr≤1000000):rM p p=some true:=by
 rw[rM,if_neg (by simp),if_neg (by simp),if_neg (by simp)]
 refine(pk (l:=p.Steps) (q:=fun _=>true) (e:=some true) (f:=some false) (ie p p) (fun i hi=>?_) (by rw[ie,if_neg (by simp)])).trans (by simp)
 have hx:=cM hi
 rw[ie,eu,aU hi]
 simp only[aQ,ax,SG _ (hs _ hx)]
 rw[if_neg (by simp),if_neg (by simp),if_pos trivial,if_pos fQ,if_pos trivial]
theorem Wm (t:Term):dE t≤1000000→db t=some (cj mU t):=by
 refine fX (P:=fun t=>dE t≤1000000→db t=some (cj mU t)) (fun t a b=>?_) t
 have d:=dZ t.Kids
 rw[eJ] at b
 rw[db,dT,fi]
 by_cases c:t.Op=8
 · simp_all[mU]
 · rw[if_pos (by simp[c]),show mU t=true by simp[mU,c],iC]
   refine(pk (l:=t.Kids) (q:=cj mU) (e:=some true) (f:=some false) (cD t) (fun i hi=>?_) (by rw[cD,if_neg (by simp)])).trans (yM _)
   have hx:=cM hi
   rw[cD,eu,aU hi]
   simp only[aQ,ax,a _ hx (by have:=d.2 _ hx;omega)]
   rw[if_pos fQ]
   simp_all
theorem Wn (t:Term)(b:¬ t.Op=8)(g:t.Kids.length≤1000000)(c:∀ x,x∈t.Kids→∀ l:LI,Zn x l=some (l++fr x)) :
   ∀(k i:Nat) (l:LI),t.Kids.length-i=k→i≤t.Kids.length→Av t i l=some (l++uh t.Op t.N i (t.Kids.drop i)):=by
 intro k
 induction k with
 | zero=>
   intro i l d hi
   rw[Av,iT,show i=t.Kids.length by omega,dP,uh,nD]
 | succ k a=>
   intro i l d hi
   have h:i<t.Kids.length:=by omega
   rw[Av,eu,aU h,cW h,uh,vg (fun q=>b q.1)]
   simp only[aQ,ax,c _ (cM h)]
   rw[if_neg (by simpa using b)]
   simp only[ax,jU]
   rw[if_pos fQ,tA,a (i+1) _ (by omega) (by omega),nu]
theorem aeT (t:Term):dE t≤1000000→cj mU t=true→∀ l:LI,Zn t l=some (l++fr t):=by
 refine fX (P:=fun t=>dE t≤1000000→cj mU t=true→∀ l:LI,Zn t l=some (l++fr t)) (fun t b d a l=>?_) t
 have g:=dZ t.Kids
 rw[eJ] at d
 rw[dT,fi,aY,dh] at a
 have h:¬ t.Op=8:=by simp_all[mU]
 rw[Zn,Fu]
 by_cases c:t.Op=1
 · simp_all
 · rw[if_neg (by simpa using c),if_neg c]
   have:=Wn t h (by omega) (fun x hx l=>b x hx (by have:=g.2 x hx;omega) (a.2 x hx) l) t.Kids.length 0 l rfl (bU _)
   simp_all
theorem Q0 (o n:Int):∀(l:List Term) (i:Nat),(∀ x,x∈l→((fr x).length:Int)≤dE x)→((uh o n i l).length:Int)≤gK l
 | [],_,_=>by simp[uh,gK]
 | a::l,i,h=>by
   have h1:=h a (by simp)
   have h2:=Q0 o n l (i+1) fun x hx=>h x (by simp[hx])
   have h3:=List.length_filter_le (EC o n i) (fr a)
   simp only[uh,gK,nv];omega
theorem OS (t:Term):((fr t).length:Int)≤dE t:=by
 refine fX (P:=fun t=>((fr t).length:Int)≤dE t) (fun t a=>?_) t
 have:=Q0 t.Op t.N t.Kids 0 a
 have:=du t.Kids
 rw[Fu,eJ]
 split
 · simp;omega
 · omega
variable {s : aH}
theorem wg (hs:cZ s=some 0)(t:Term)(g:lL s t=true):mu s t=some (kA (Al (fr t)),0):=by
 simp only[lL,aY] at g
 have a:dE t≤40:=by simp_all[eC]
 have b:=OS t
 have c:=(EV (fr t)).1
 rw[mu,uA hs [t] (by simp) (fun x hx=>by simp at hx;subst hx;omega),aeT t (by omega) g.2]
 simp only[nB,List.all_nil,g.1,ri,aQ,ax,if_true,jU]
 rw[eu]
theorem Ja (l:LI)(x:Int):x∈kA l↔x∈l:=by
 simp_all[kA]
def w9 (t:Term):Bool:=mU t&&(!decide (t.Op=1)||(decide (0≤t.N)&&decide (t.N≤19)))
theorem aeU (s:aH)(t:Term)(g:lL s t=true):cj w9 t=true:=by
 simp only[lL,aY,eC] at g
 have h:∀ t:Term,cj (fK s) t=true→cj mU t=true→cj w9 t=true:=by
  intro t
  refine fX (P:=fun t=>cj (fK s) t=true→cj mU t=true→cj w9 t=true) (fun t a h1 h2=>?_) t
  rw[dT,fi,aY,dh] at h1 h2 ⊢
  refine⟨?_,fun x hx=>a x hx (h1.2 x hx) (h2.2 x hx)⟩
  simp only[w9,h2.1,iC]
  by_cases c:t.Op=1
  · simp_all[fK]
  · simp[c]
 exact h t g.1.2 g.2
theorem SH (t:Term)(c:Int)(e:LI)(b:List ad)(v:LI)(C:t.Kids.length≤1000)
   (m:∀ x,x∈t.Kids→∀ ns:List ad,ns.length+dE x≤200→∃ r z,bH x c e ns v=some (r,z)∧ns.length≤r.length∧(r.length:Int)≤ns.length+dE x) :
   ∀(k i:Nat) (a:LI) (ns:List ad),t.Kids.length-i=k→i≤t.Kids.length→a.length≤i→b.length+1≤ns.length→ns.length+gK (t.Kids.drop i)≤200→∃ r z,bW t c e b v i a ns=some (r,z)∧ns.length≤r.length∧(r.length:Int)≤ns.length+gK (t.Kids.drop i):=by
 intro k
 induction k with
 | zero=>
   intro i a ns o hi q u g
   have j:((b++[ad.mk t.Op t.N [] (-1) [] 0 []]).length:Int)-1=(b.length:Nat):=by simp
   rw[bW,iT,j,aU (show b.length<ns.length by omega)]
   simp only[aQ,ax]
   refine⟨_,_,rfl,by simp,?_⟩
   have:=du (t.Kids.drop i)
   simp only[List.length_set];omega
 | succ k d=>
   intro i a ns o hi q u g
   have h:i<t.Kids.length:=by omega
   rw[cW h,gK] at g ⊢
   have j:=du (t.Kids.drop (i+1))
   obtain⟨r,z,w,D,E⟩:=m _ (cM h) ns (by omega)
   obtain⟨y,A,B,G,H⟩:=d (i+1) (a++[z]) r (by omega) (by omega) (by simp;omega) (by omega) (by omega)
   rw[bW,eu,aU h]
   simp only[aQ,ax,w]
   rw[eu,if_pos fQ,tA]
   exact⟨y,A,B,by omega,by omega⟩
theorem asC (c:Int)(e v:LI)(D:e.length=20)(t:Term):cj w9 t=true→∀ ns:List ad,ns.length+dE t≤200→∃ r z,bH t c e ns v=some (r,z)∧ns.length≤r.length∧(r.length:Int)≤ns.length+dE t:=by
 refine fX (P:=fun t=>cj w9 t=true→∀ ns:List ad,ns.length+dE t≤200→∃ r z,bH t c e ns v=some (r,z)∧ns.length≤r.length∧(r.length:Int)≤ns.length+dE t) (fun t i hf ns j=>?_) t
 have E:=dZ t.Kids
 have G:=du t.Kids
 rw[dT,fi,aY,dh] at hf
 have d:=hf.1
 simp only[w9,mU,aY,xn,decide_eq_false_iff_not,xl,decide_eq_true_eq] at d
 rw[eJ] at j ⊢
 rw[bH]
 by_cases c1:t.Op=1
 · have H:=d.2.resolve_left (by simp[c1])
   obtain⟨m,w⟩:∃ m:Nat,t.N=m:=⟨t.N.toNat,by omega⟩
   rw[if_pos (by simpa using c1),w,aU (show m<e.length by omega)]
   simp only[aQ,ax]
   exact⟨_,_,rfl,by omega,by omega⟩
 · rw[if_neg (by simpa using c1),if_neg (by simpa using d.1),iT,eu,if_pos (wA (by first | (simp;done) | (simp;omega)) (by first | (simp;done) | (simp;omega))),fq]
   have g:((ns++[ad.mk t.Op t.N [] (-1) [] 0 []]).length:Int)-1=(ns.length:Nat):=by simp
   have loop:=SH t c e ns v (by omega) (fun x hx ns a=>i x hx (hf.2 x hx) ns a)
   cases b:t.Kids with
   | nil=>
     rw[if_neg (by simp),g,aU (show ns.length<(ns++[ad.mk t.Op t.N [] (-1) [] 0 []]).length by simp)]
     simp only[aQ,ax]
     exact⟨_,_,rfl,by simp,by simp[gK]⟩
   | cons a l=>
     have h:0<t.Kids.length:=by rw[b];simp
     have hx:a∈t.Kids:=by rw[b];simp
     rw[b,gK] at j
     have I:=j4 a
     have J:=du l
     obtain⟨r,z,y,o,q⟩:=i a hx (hf.2 a hx) (ns++[ad.mk t.Op t.N [] (-1) [] 0 []]) (by simp;omega)
     obtain⟨A,B,C,K,u⟩:=loop (t.Kids.length-1) 1 [z] r rfl (by omega) (by simp) (by simp at o;omega) (by rw[b];simp at q ⊢;omega)
     rw[if_pos (by first | (simp;done) | (simp;omega)),show bQ (a::l) 0=some a from rfl]
     simp only[aQ,ax,y]
     rw[b] at u
     simp at o q u
     refine⟨A,B,C,by omega,?_⟩
     rw[gK];omega
theorem SI (t:Term)(c:Int)(e:LI)(b:List ad)(C:t.Kids.length≤1000)
   (m:∀ x,x∈t.Kids→∀ ns:List ad,ns.length+dE x≤200→∃ r z,bq x c e ns=some (r,z)∧ns.length≤r.length∧(r.length:Int)≤ns.length+dE x) :
   ∀(k i:Nat) (a:LI) (ns:List ad),t.Kids.length-i=k→i≤t.Kids.length→a.length≤i→b.length+1≤ns.length→ns.length+gK (t.Kids.drop i)≤200→∃ r z,bX t c e b i a ns=some (r,z)∧ns.length≤r.length∧(r.length:Int)≤ns.length+gK (t.Kids.drop i):=by
 intro k
 induction k with
 | zero=>
   intro i a ns o hi q u g
   have j:((b++[ad.mk t.Op t.N [] (-1) [] 0 []]).length:Int)-1=(b.length:Nat):=by simp
   rw[bX,iT,j,aU (show b.length<ns.length by omega)]
   simp only[aQ,ax]
   refine⟨_,_,rfl,by simp,?_⟩
   have:=du (t.Kids.drop i)
   simp only[List.length_set];omega
 | succ k d=>
   intro i a ns o hi q u g
   have h:i<t.Kids.length:=by omega
   rw[cW h,gK] at g ⊢
   have j:=du (t.Kids.drop (i+1))
   obtain⟨r,z,w,D,E⟩:=m _ (cM h) ns (by omega)
   obtain⟨y,A,B,G,H⟩:=d (i+1) (a++[z]) r (by omega) (by omega) (by simp;omega) (by omega) (by omega)
   rw[bX,eu,aU h]
   simp only[aQ,ax,w]
   rw[eu,if_pos fQ,tA]
   exact⟨y,A,B,by omega,by omega⟩
theorem ajr (c:Int)(e:LI)(D:e.length=20)(t:Term):cj w9 t=true→∀ ns:List ad,ns.length+dE t≤200→∃ r z,bq t c e ns=some (r,z)∧ns.length≤r.length∧(r.length:Int)≤ns.length+dE t:=by
 refine fX (P:=fun t=>cj w9 t=true→∀ ns:List ad,ns.length+dE t≤200→∃ r z,bq t c e ns=some (r,z)∧ns.length≤r.length∧(r.length:Int)≤ns.length+dE t) (fun t i hf ns j=>?_) t
 have E:=dZ t.Kids
 have G:=du t.Kids
 rw[dT,fi,aY,dh] at hf
 have d:=hf.1
 simp only[w9,mU,aY,xn,decide_eq_false_iff_not,xl,decide_eq_true_eq] at d
 rw[eJ] at j ⊢
 rw[bq]
 by_cases c1:t.Op=1
 · have H:=d.2.resolve_left (by simp[c1])
   obtain⟨m,w⟩:∃ m:Nat,t.N=m:=⟨t.N.toNat,by omega⟩
   rw[if_pos (by simpa using c1),w,aU (show m<e.length by omega)]
   simp only[aQ,ax]
   exact⟨_,_,rfl,by omega,by omega⟩
 · rw[if_neg (by simpa using c1),if_neg (by simpa using d.1),iT,eu,if_pos (wA (by first | (simp;done) | (simp;omega)) (by first | (simp;done) | (simp;omega))),ft]
   have g:((ns++[ad.mk t.Op t.N [] (-1) [] 0 []]).length:Int)-1=(ns.length:Nat):=by simp
   have loop:=SI t c e ns (by omega) (fun x hx ns a=>i x hx (hf.2 x hx) ns a)
   cases b:t.Kids with
   | nil=>
     rw[if_neg (by simp),g,aU (show ns.length<(ns++[ad.mk t.Op t.N [] (-1) [] 0 []]).length by simp)]
     simp only[aQ,ax]
     exact⟨_,_,rfl,by simp,by simp[gK]⟩
   | cons a l=>
     have h:0<t.Kids.length:=by rw[b];simp
     have hx:a∈t.Kids:=by rw[b];simp
     rw[b,gK] at j
     have I:=j4 a
     have J:=du l
     obtain⟨r,z,y,o,q⟩:=i a hx (hf.2 a hx) (ns++[ad.mk t.Op t.N [] (-1) [] 0 []]) (by simp;omega)
     obtain⟨A,B,C,K,u⟩:=loop (t.Kids.length-1) 1 [z] r rfl (by omega) (by simp) (by simp at o;omega) (by rw[b];simp at q ⊢;omega)
     rw[if_pos (by first | (simp;done) | (simp;omega)),show bQ (a::l) 0=some a from rfl]
     simp only[aQ,ax,y]
     rw[b] at u
     simp at o q u
     refine⟨A,B,C,by omega,?_⟩
     rw[gK];omega
theorem SJ (t:Term)(c:Int)(e:LI)(A:t.Kids.length≤1000)
   (j:∀ x,x∈t.Kids→∀ ns:List ad,ns.length+dE x≤200→∃ r z,bq x c e ns=some (r,z)∧ns.length≤r.length∧(r.length:Int)≤ns.length+dE x) :
   ∀(k i:Nat) (a:LI) (ns:List ad),t.Kids.length-i=k→i≤t.Kids.length→a.length≤i→1≤ns.length→ns.length+gK (t.Kids.drop i)≤200→∃ r,cx t c e i a ns=some r:=by
 intro k
 induction k with
 | zero=>
   intro i a ns m hi o q d
   have g:(([ad.mk t.Op t.N [] (-1) [] 0 []]:List ad).length:Int)-1=((0:Nat):Int):=by simp
   rw[cx,iT,g,aU (show 0<ns.length by omega)]
   simp_all
 | succ k b=>
   intro i a ns m hi o q d
   have h:i<t.Kids.length:=by omega
   rw[cW h,gK] at d
   have g:=du (t.Kids.drop (i+1))
   obtain⟨r,z,u,B,C⟩:=j _ (cM h) ns (by omega)
   obtain⟨w,y⟩:=b (i+1) (a++[z]) r (by omega) (by omega) (by simp;omega) (by omega) (by omega)
   rw[cx,eu,aU h]
   simp only[aQ,ax,u]
   rw[eu,if_pos fQ,tA]
   exact⟨w,y⟩
theorem asD (c:Int)(e:LI)(i:e.length=20)(t:Term)(hf:cj w9 t=true)(j:dE t≤150):∃ r,fT t c e=some r:=by
 have B:=dZ t.Kids
 have C:=du t.Kids
 rw[dT,fi,aY,dh] at hf
 have g:=hf.1
 simp only[w9,mU,aY,xn,decide_eq_false_iff_not,xl,decide_eq_true_eq] at g
 rw[eJ] at j
 rw[fT]
 by_cases c1:t.Op=1
 · have D:=g.2.resolve_left (by simp[c1])
   obtain⟨m,o⟩:∃ m:Nat,t.N=m:=⟨t.N.toNat,by omega⟩
   rw[if_pos (by simpa using c1),o,aU (show m<e.length by omega)]
   simp_all
 · have b:(([ad.mk t.Op t.N [] (-1) [] 0 []]:List ad).length:Int)-1=((0:Nat):Int):=by simp
   rw[if_neg (by simpa using c1),if_neg (by simpa using g.1),if_pos (by simp),b,if_pos fQ,iw]
   have loop:=SJ t c e (by omega) (fun x hx ns a=>ajr c e i x (hf.2 x hx) ns a)
   cases d:t.Kids with
   | nil=>
     rw[if_neg (by simp),b,aU (show 0<([ad.mk t.Op t.N [] (-1) [] 0 []]:List ad).length by simp)]
     simp_all
   | cons a l=>
     have h:0<t.Kids.length:=by rw[d];simp
     have hx:a∈t.Kids:=by rw[d];simp
     rw[d,gK] at j
     have E:=j4 a
     have G:=du l
     obtain⟨r,z,q,u,w⟩:=ajr c e i a (hf.2 a hx) [ad.mk t.Op t.N [] (-1) [] 0 []] (by simp;omega)
     obtain⟨y,A⟩:=loop (t.Kids.length-1) 1 [z] r rfl (by omega) (by simp) (by simpa using u) (by rw[d];simp at w ⊢;omega)
     rw[if_pos (by first | (simp;done) | (simp;omega)),show bQ (a::l) 0=some a from rfl]
     simp only[aQ,ax,q]
     exact⟨y,A⟩
theorem ajS (t:Term)(hf:cj w9 t=true)(y:dE t≤40)(v:LI×Int)(c:∀ x,x∈v.1→0≤x∧x≤19)(A:v.1.length≤100) :
   ∀(k i:Nat) (e:LI) (ns:List ad) (w:LI),v.1.length-i=k→i≤v.1.length→e.length=20→ns.length≤i→w.length≤i→∃ r,ma t v i e ns w=some (r,0):=by
 intro k
 induction k with
 | zero=>
   intro i e ns w d hi a g j
   obtain⟨r,z,o,_,_⟩:=asC 0 e w a t hf ns (by omega)
   rw[ma,iT,o]
   exact⟨_,rfl⟩
 | succ k b=>
   intro i e ns w d hi a g j
   have h:i<v.1.length:=by omega
   have hx:=c _ (cM h)
   obtain⟨m,q⟩:∃ m:Nat,v.1[i]=m:=⟨v.1[i].toNat,by omega⟩
   have u:((ns++[ad.mk 1 0 [] (-1) [] 0 []]).length:Int)-1=(ns.length:Nat):=by simp
   rw[ma,eu,aU h]
   simp only[aQ,ax,q]
   rw[iT,eu,u,if_pos fQ,aU (show m<e.length by omega)]
   simp only[ax,sy]
   rw[aU (show m<(e.set m ((ns.length:Nat):Int)).length by simp;omega)]
   simp only[ax]
   rw[eu,if_pos fQ,tA]
   exact b (i+1) _ _ _ (by omega) (by omega) (by simp[a]) (by simp;omega) (by simp;omega)
theorem Wo (t:Term):cj w9 t=true→∀ x,x∈fr t→0≤x∧x≤19:=by
 refine fX (P:=fun t=>cj w9 t=true→∀ x,x∈fr t→0≤x∧x≤19) (fun t d hf x hx=>?_) t
 rw[dT,fi,aY,dh] at hf
 have g:∀(l:List Term) (i:Nat),(∀ x,x∈l→x∈t.Kids)→∀ x,x∈uh t.Op t.N i l→0≤x∧x≤19:=by
   intro l
   induction l with
   | nil=>simp_all[uh]
   | cons a l b=>
     intro i h x hx
     rw[uh,dG,List.mem_filter] at hx
     rcases hx with hx | hx
     · exact d a (h a (by simp)) (hf.2 a (h a (by simp))) x hx.1
     · exact b (i+1) (fun y hy=>h y (by simp[hy])) x hx
 rw[Fu] at hx
 by_cases c:t.Op=1
 · simp_all[w9]
 · rw[if_neg c] at hx
   exact g t.Kids 0 (fun _ h=>h) x hx
theorem ajT (t:Term)(hf:cj w9 t=true)(b:dE t≤40)(v:LI×Int)(a:∀ x,x∈v.1→0≤x∧x≤19)(c:v.1.length≤100):∃ r,vW t v=some (r,0):=by
 rw[vW]
 by_cases h:0<v.1.length
 · have hx:=a _ (cM h)
   obtain⟨m,d⟩:∃ m:Nat,v.1[0]=m:=⟨v.1[0].toNat,by omega⟩
   have g:(([ad.mk 1 0 [] (-1) [] 0 []]:List ad).length:Int)-1=((0:Nat):Int):=by simp
   rw[eu,show bQ v.1 0=some v.1[0] from aU (i:=0) h]
   simp only[aQ,ax,d]
   rw[if_pos (by simp),g,if_pos fQ,aU (show m<([0,0,0,0,0,0,0,0,0,0,0,0,0,0,0,0,0,0,0,0]:LI).length by simp;omega)]
   simp only[ax,sy]
   rw[aU (show m<(([0,0,0,0,0,0,0,0,0,0,0,0,0,0,0,0,0,0,0,0]:LI).set m ((0:Nat):Int)).length by simp;omega)]
   simp only[ax]
   exact ajS t hf b v a c (v.1.length-1) 1 _ _ _ rfl (by omega) (by simp) (by simp) (by simp)
 · obtain⟨r,e⟩:=asD 0 [0,0,0,0,0,0,0,0,0,0,0,0,0,0,0,0,0,0,0,0] (by simp) t hf (by omega)
   rw[if_neg (by simpa using h),e]
   cases r<;>simp_all
variable {α β γ : Type} {L : List α} {F : Int → List β → Option γ} {e : List β → Option γ}
theorem asE {f:α→β}(hs:∀(i:Nat) (h:i<L.length) (l:List β),l.length=i→F (i:Int) l=F ((i:Int)+1) (l++[f L[i]]))(b:∀ l,l.length=L.length→F (L.length:Int) l=e l) :
   ∀(d i:Nat) (l:List β),L.length-i=d→i≤L.length→l.length=i→F (i:Int) l=e (l++(L.drop i).map f):=by
 intro d
 induction d with
 | zero=>
   intro i l c hi a
   rw[show i=L.length by omega,b l (by omega),dP,sH,nD]
 | succ d g=>
   intro i l c hi a
   have h:i<L.length:=by omega
   rw[hs i h l a,cW h,dH,tA,g (i+1) _ (by omega) (by omega) (by simp;omega),nu,FC]
theorem Uq (f:α→β)(h:0<L.length)(hs:∀(i:Nat) (h:i<L.length) (l:List β),l.length=i→F (i:Int) l=F ((i:Int)+1) (l++[f L[i]]))(b:∀ l,l.length=L.length→F (L.length:Int) l=e l):F 1 [f L[0]]=e (L.map f):=by
 have:=asE hs b (L.length-1) 1 [f L[0]] rfl (by omega) rfl
 refine this.trans (congrArg e ?_)
 cases L with
 | nil=>simp at h
 | cons a l=>rfl
theorem RF (L:List α)(f:α→β)(g:α→Option β)(a:∀ x,x∈L→g x=some (f x))(d:L.length≤1000000){F1:Option γ}{F2:Int→List β→Option γ}(h1:F1=if decide (0<(L.length:Int)) then(bQ L 0>>=fun x=>g x>>=fun v=>if decide ([v].length≤1048576) then F2 1 [v] else none) else e [])(h2:∀(i:Int) (l:List β),F2 i l=if decide (i<(L.length:Int)) then(bQ L i>>=fun x=>g x>>=fun v=>if decide (l.length+[v].length≤1048576) then(if cy .i64 (i+1) then F2 (i+1) (l++[v]) else none) else none) else e l):F1=e (L.map f):=by
 rw[h1]
 by_cases c:0<L.length
 · have k:=Uq (L:=L) f (F:=F2) (e:=e) c (fun i h l b=>by
    rw[h2,eu,aU h]
    simp only[aQ,ax,a _ (cM h)]
    rw[eu,if_pos fQ]) (fun l b=>by rw[h2,if_neg (by simp)])
   rw[eu,show bQ L 0=some L[0] from aU (i:=0) c]
   simp only[aQ,ax,a _ (cM c)]
   rw[if_pos (by simp),k]
 all_goals simp_all
def qo (n k:Int):LI:=(List.range k.toNat).map fun(i:Nat)=>n+(i:Int)
variable {F2 : Int → LI → Option LI}
theorem Ml (n k:Int)(g:0≤n)(d:n≤1000)(j:k≤1000){F1:Option LI}(h1:F1=if decide (0<k) then(if cy .i64 (n+0) then F2 1 [n+0] else none) else some [])(h2:∀(i:Int) (l:LI),F2 i l=if decide (i<k) then(if cy .i64 (n+i) then(if decide (l.length+[n+i].length≤1048576) then(if cy .i64 (i+1) then F2 (i+1) (l++[n+i]) else none) else none) else none) else some l):F1=some (qo n k):=by
 rw[h1]
 by_cases c:0<k
 · have a:(List.range k.toNat).length=k.toNat:=List.length_range
   have q:=Uq (L:=List.range k.toNat) (fun i=>n+(i:Int)) (F:=F2) (e:=some) (by omega) (fun i h l b=>by
    rw[a] at h
    rw[h2,eu,if_pos fQ,eu,if_pos fQ,List.getElem_range]) (fun l b=>by
    rw[h2,iT])
   rw[if_pos (by simpa using c),if_pos fQ]
   simp only[List.getElem_range] at q
   exact q
 · rw[if_neg (by simpa using c)]
   have:k.toNat=0:=by omega
   rw[qo,this];rfl
theorem J3 (n k:Int)(b:0≤n)(a:n≤1000)(c:k≤1000):qO n k=some (qo n k):=
 Ml n k b a c (by rw[qO,zS]) (fun i l=>by rw[pJ])
theorem Gs (n k:Int)(b:0≤n)(a:n≤1000)(c:k≤1000):oC n k=some (qo n k):=
 Ml n k b a c (by rw[oC,tq]) (fun i l=>by rw[km])
theorem AN (n k:Int)(a:0≤k):((qo n k).length:Int)=k:=by
 simp only[qo,rf,List.length_range];omega
theorem J4 (n k x:Int):x∈qo n k↔n≤x∧x<n+k:=by
 simp only[qo,iB,List.mem_range]
 constructor
 · omega
 · rintro⟨a,b⟩;exact⟨(x-n).toNat,by omega,by omega⟩
theorem Jb (n k:Int):(qo n k).Nodup:=by
 refine List.pairwise_map.2 (List.Pairwise.imp (fun h=>?_) (List.pairwise_lt_range (n:=k.toNat)))
 omega
def tC (l:LI):LT:=l.map fun n=>Term.mk 1 n []
theorem Mm (l:LI)(h:l.length≤1000):xz l=some (tC l):=
 RF l (fun n=>Term.mk 1 n []) EU (fun _ _=>rfl) (by omega) (e:=some) (by rw[xz,zT]) (fun i a=>by rw[pK])
theorem Mn (l:LI)(h:l.length≤1000):ml l=some (tC l):=
 RF l (fun n=>Term.mk 1 n []) (fun n=>some (Term.mk 1 n [])) (fun _ _=>rfl) (by omega) (e:=some) (by rw[ml,pO];rfl) (fun i a=>by rw[iW];rfl)
theorem EX (n:Int):∀ l:List Term,n∈iy l↔∃ x,x∈l∧n∈tv x
 | []=>by simp[iy]
 | a::l=>by simp[iy,EX n l]
theorem J5 : ∀ l:LI,iy (tC l)=l∧gK (tC l)=l.length
 | []=>by simp[tC,iy,gK]
 | a::l=>by
   have:=J5 l
   simp only[tC] at this
   simp only[tC,dH,iy,tv,gK,dE,this.1,this.2,lI,if_true]
   refine⟨rfl,by omega⟩
theorem J6 (l:List α)(q:α→Bool)(p:Prop) [Decidable p] (h:p↔∃ x,x∈l∧q x=true):(if(l.all fun x => !q x)=true then some false else some true)=some (decide p):=by
 by_cases c:p
 all_goals simp_all
theorem Q1 (l:LI)(a:Int)(b:l.length≤1000000):yi l a=some (decide (a∈l)):=by
 rw[yi]
 refine(pk (l:=l) (q:=fun x => !decide (x=a)) (e:=some false) (f:=some true) (nP l a) (fun i hi=>?_) (by rw[nP,if_neg (by simp)])).trans (J6 l (fun x=>decide (x=a)) _ (by simp))
 rw[nP,eu,aU hi]
 simp only[aQ,ax]
 rw[if_pos fQ]
 by_cases c:l[i]=a
 · simp[c]
 · simp[c]
theorem Y8 (n:Int)(t:Term):dE t≤1000000→lV t.Kids n=some (decide (n∈iy t.Kids)):=by
 refine fX (P:=fun t=>dE t≤1000000→lV t.Kids n=some (decide (n∈iy t.Kids))) (fun t a b=>?_) t
 have d:=dZ t.Kids
 rw[eJ] at b
 rw[lV]
 refine(pk (l:=t.Kids) (q:=fun x => !decide (n∈tv x)) (e:=some false) (f:=some true) (jX t.Kids n) (fun i hi=>?_) (by rw[jX,if_neg (by simp)])).trans (J6 t.Kids (fun x=>decide (n∈tv x)) _ (by simp[EX]))
 have hx:=cM hi
 rw[jX,eu,aU hi]
 simp only[aQ,ax,a _ hx (by have:=d.2 _ hx;omega),rB t.Kids[i]]
 rw[if_pos fQ]
 by_cases c3:n∈iy t.Kids[i].Kids
 · simp_all
 · by_cases c:t.Kids[i].Op=1
   · by_cases c2:t.Kids[i].N=n
     · simp[c,c2]
     · have c4:¬ n=t.Kids[i].N:=fun q=>c2 q.symm
       simp[c,c2,c3,c4]
   · simp[c,c3]
def pn (s:aH)(t:Term):Bool:=if t.Op=1 then t.Kids.isEmpty else decide (t.Op=3)&&po s.Cons t.N fun k=>decide ((t.Kids.length:Int)=k)
theorem UY (s:aH)(t:Term)(h:cj (pn s) t=true):cj BR t=true∧cj leaf t=true:=by
 refine⟨Cr (fun t h=>?_) t h,Cr (fun t h=>?_) t h⟩
 · simp only[pn] at h
   by_cases c:t.Op=1
   all_goals simp_all[BR]
 · simp only[pn] at h
   by_cases c:t.Op=1
   all_goals simp_all[leaf]
theorem Y9 (s:aH)(l:List Term)(k n:Int)(d:gK l≤800)(a:∀ x,x∈l→cj (pn s) x=true):kY ⟨l,k⟩ n=some (decide (n∈iy l))∧lV l n=some (decide (n∈iy l)):=by
 have hs:dE (Term.mk 0 0 l)=1+gK l:=by simp[dE]
 obtain⟨w,e,g,b,h⟩:=AM (Term.mk 0 0 l) (by omega)
 refine⟨?_,Y8 n (Term.mk 0 0 l) (by omega)⟩
 have c:(n∈w)=(n∈iy l):=by
  rw[b,fr,if_neg (by decide),yE (by decide) l 0 fun x hx=>ON x (UY s x (a x hx)).1 (UY s x (a x hx)).2]
 rw[kY]
 simp only[e,aQ,ax]
 rw[Q1 w n (by omega)]
 simp only[ax,c]
 exact zw
mutual
def sub (n:Int)(c:Term):Term→Term
 | .mk o m l=>if o=1 then(if m=n then c else .mk o m l) else .mk o m (kM n c l)
def kM (n:Int)(c:Term):List Term→List Term
 | []=>[]
 | t::l=>sub n c t::kM n c l
end
theorem tM (n:Int)(c:Term):∀ l:List Term,kM n c l=l.map (sub n c)
 | []=>by simp[kM]
 | t::l=>by simp[kM,tM n c l]
theorem sub_eq (n:Int)(c t:Term):sub n c t=if t.Op=1 then(if t.N=n then c else t) else Term.mk t.Op t.N (kM n c t.Kids):=by cases t;rw[sub];rfl
theorem find_eq (n m:Int)(c:Term):A8 [dw.mk n c] m=some (if n=m then 0 else -1):=by
 rw[A8,nG,if_pos (by simp),show bQ [dw.mk n c] 0=some (dw.mk n c) from rfl]
 simp only[aQ,ax]
 by_cases h:n=m
 all_goals simp_all[wA,nG]
theorem Wp (s:aH)(n:Int)(c t:Term):dE t≤1000000→cj (pn s) t=true→iU t [dw.mk n c]=some (sub n c t):=by
 refine fX (P:=fun t=>dE t≤1000000→cj (pn s) t=true→iU t [dw.mk n c]=some (sub n c t)) (fun t b d a=>?_) t
 have g:=dZ t.Kids
 rw[eJ] at d
 rw[dT,fi,aY,dh] at a
 rw[iU,sub_eq]
 by_cases c1:t.Op=1
 · rw[if_pos (by simpa using c1),if_pos c1,find_eq]
   simp only[aQ,ax]
   by_cases h:n=t.N
   · rw[if_pos h,if_pos (by simp),if_pos h.symm];rfl
   · rw[if_neg h,if_neg (by simp),if_neg (fun q=>h q.symm)]
 · have c3:t.Op=3:=by have:=a.1;simp only[pn,if_neg c1,aY,decide_eq_true_eq] at this;exact this.1
   rw[if_neg (by simpa using c1),if_neg (by simp[c3]),if_neg c1,tM]
   exact RF t.Kids (sub n c) (fun x=>iU x [dw.mk n c]) (fun x hx=>b x hx (by have:=g.2 x hx;omega) (a.2 x hx)) (by omega) (e:=fun l=>some (Term.mk t.Op t.N l)) (by rw[tW]) (fun i l=>by rw[mf])
theorem UZ (l:List α)(i:Nat):bQ l (i:Int)=l[i]? := by simp[bQ]
theorem asF {f:α→α}{F:Int→List α→Option γ}{e:List α→Option γ}(hs:∀(i:Nat) (h:i<L.length) (l:List α),l.length=L.length→l[i]? = some L[i]→F (i:Int) l=F ((i:Int)+1) (l.set i (f L[i])))(b:∀ l,l.length=L.length→F (L.length:Int) l=e l) :
   ∀(d i:Nat),L.length-i=d→i≤L.length→F (i:Int) ((L.take i).map f++L.drop i)=e (L.map f):=by
 intro d
 induction d with
 | zero=>
   intro i c hi
   rw[show i=L.length by omega,List.take_length,dP,nD,b _ (by simp)]
 | succ d g=>
   intro i c hi
   have h:i<L.length:=by omega
   have j:((L.take i).map f).length=i:=by simp;omega
   have a:L.drop i=L[i]::L.drop (i+1):=cW h
   have:=g (i+1) (by omega) (by omega)
   rw[Ck h,OB,nu] at this
   rw[hs i h _ (by simp;omega) (by simp_all),List.set_append_right _ _ (by omega),j,Nat.sub_self,a,List.set_cons_zero,tA]
   exact this
theorem ZQ (f:α→α){F:Int→List α→Option γ}{e:List α→Option γ}(hs:∀(i:Nat) (h:i<L.length) (l:List α),l.length=L.length→l[i]? = some L[i]→F (i:Int) l=F ((i:Int)+1) (l.set i (f L[i])))(a:∀ l,l.length=L.length→F (L.length:Int) l=e l):F 0 L=e (L.map f):=
 asF hs a L.length 0 rfl (bU _)
theorem Za (s:aH)(n:Int)(c t:Term):dE t≤1000000→cj (pn s) t=true∨t.Op=0∧(∀ x,x∈t.Kids→cj (pn s) x=true)→hJ t.Kids n c=some (kM n c t.Kids):=by
 refine fX (P:=fun t=>dE t≤1000000→cj (pn s) t=true∨t.Op=0∧(∀ x,x∈t.Kids→cj (pn s) x=true)→hJ t.Kids n c=some (kM n c t.Kids)) (fun t m o b=>?_) t
 have q:=dZ t.Kids
 rw[eJ] at o
 have b:∀ x,x∈t.Kids→cj (pn s) x=true:=by
   rcases b with b | b
   · rw[dT,fi,aY,dh] at b;exact b.2
   · exact b.2
 rw[hJ]
 by_cases j:t.Kids=[]
 · rw[j]
   simp[ry,ru,Z0,kM]
 · have r:t.Kids.isEmpty=false:=by cases h:t.Kids with | nil=>exact absurd h j | cons a l=>rfl
   have key:dF n c (t.Kids.length:Int) 0 t.Kids=some (kM n c t.Kids):=by
    rw[tM]
    refine ZQ (L:=t.Kids) (sub n c) (F:=dF n c (t.Kids.length:Int)) (e:=some) (fun i h l u w=>?_) (fun l u=>by rw[dF,if_neg (by simp)])
    have hx:=cM h
    have d:=b _ hx
    rw[dF,eu,UZ,w]
    simp only[aQ,ax,sy,m _ hx (by have:=q.2 _ hx;omega) (.inl d)]
    rw[if_pos fQ,sub_eq]
    by_cases c1:t.Kids[i].Op=1
    · rw[if_pos (by simpa using c1),if_pos c1]
      by_cases c2:t.Kids[i].N=n
      · rw[if_pos (by simpa using c2),if_pos c2]
      · have g:t.Kids[i].Kids=[]:=by
         rw[dT,aY] at d
         have:=d.1;simp only[pn,if_pos c1] at this;exact List.isEmpty_iff.1 this
        have:Term.mk t.Kids[i].Op t.Kids[i].N (kM n c t.Kids[i].Kids)=t.Kids[i]:=by
         rw[g,kM]
         generalize t.Kids[i]=y at g
         cases y;simp only[Term.Kids] at g;subst g;rfl
        rw[if_neg (by simpa using c2),if_neg c2,this,if_pos fQ]
    · rw[if_neg (by simpa using c1),if_neg c1,if_pos fQ]
   rw[r]
   simp only[jU,Oh,uu,dL,if_false]
   rw[eu,key]
   rfl
theorem Zb (n x:Int)(c:Term)(d:¬ c.Op=1)(t:Term):(tv (sub n c t)).count x≤(tv t).count x+(tv t).count n*(iy c.Kids).count x:=by
 refine fX (P:=fun t=>(tv (sub n c t)).count x≤(tv t).count x+(tv t).count n*(iy c.Kids).count x) (fun t g=>?_) t
 have i:∀ l:List Term,(∀ y,y∈l→y∈t.Kids)→(iy (kM n c l)).count x≤(iy l).count x+(iy l).count n*(iy c.Kids).count x:=by
   intro l
   induction l with
   | nil=>intro _;simp[kM,iy]
   | cons a l b=>
     intro h
     have h1:=g a (h a (by simp))
     have h2:=b fun y hy=>h y (by simp[hy])
     simp only[kM,iy,List.count_append,fV]
     omega
 rw[sub_eq]
 by_cases c1:t.Op=1
 · by_cases c2:t.N=n
   · rw[if_pos c1,if_pos c2,rB c,if_neg d,jU]
     have:1≤(tv t).count n:=by rw[rB,if_pos c1,c2];simp
     have:=xY ((iy c.Kids).count x) this
     omega
   all_goals simp_all
 · rw[if_neg c1,rB (Term.mk _ _ _),rB t,if_neg c1,show(Term.mk t.Op t.N (kM n c t.Kids)).Op=t.Op from rfl,if_neg c1]
   exact i t.Kids fun _ h=>h
theorem aeV (n:Int)(c:Term)(K:Nat)(i:gK c.Kids≤K)(t:Term):dE (sub n c t)≤dE t+(((tv t).count n*K:Nat):Int):=by
 refine fX (P:=fun t=>dE (sub n c t)≤dE t+(((tv t).count n*K:Nat):Int)) (fun t d=>?_) t
 have g:∀ l:List Term,(∀ y,y∈l→y∈t.Kids)→gK (kM n c l)≤gK l+(((iy l).count n*K:Nat):Int):=by
   intro l
   induction l with
   | nil=>intro _;simp[kM,gK,iy]
   | cons a l b=>
     intro h
     have h1:=d a (h a (by simp))
     have h2:=b fun y hy=>h y (by simp[hy])
     simp only[kM,gK,iy,List.count_append,fV]
     omega
 rw[sub_eq]
 by_cases c1:t.Op=1
 · by_cases c2:t.N=n
   · rw[if_pos c1,if_pos c2,eJ c]
     have:1≤(tv t).count n:=by rw[rB,if_pos c1,c2];simp
     have:=xY K this
     have:=j4 t
     omega
   · rw[if_pos c1,if_neg c2];omega
 · have:=g t.Kids fun _ h=>h
   rw[if_neg c1,eJ (Term.mk _ _ _),eJ t,rB t,if_neg c1,jU]
   simp only[show(Term.mk t.Op t.N (kM n c t.Kids)).Kids=kM n c t.Kids from rfl]
   omega
theorem aeW (s:aH)(n:Int)(c:Term)(a:cj (pn s) c=true)(t:Term):cj (pn s) t=true→cj (pn s) (sub n c t)=true:=by
 refine fX (P:=fun t=>cj (pn s) t=true→cj (pn s) (sub n c t)=true) (fun t b h=>?_) t
 rw[sub_eq]
 by_cases c1:t.Op=1
 · rw[if_pos c1];split
   · exact a
   · exact h
 · rw[if_neg c1]
   rw[dT,fi,aY,dh] at h ⊢
   refine⟨?_,fun x hx=>?_⟩
   · have:=h.1
     simp only[pn,if_neg c1] at this
     have e:pn s (Term.mk t.Op t.N (kM n c t.Kids))=if t.Op=1 then(kM n c t.Kids).isEmpty else decide (t.Op=3)&&po s.Cons t.N fun k=>decide (((kM n c t.Kids).length:Int)=k):=rfl
     rw[e,if_neg c1,tM,rf]
     exact this
   · simp only[show(Term.mk t.Op t.N (kM n c t.Kids)).Kids=kM n c t.Kids from rfl,tM] at hx
     obtain⟨y,hy,rfl⟩:=iB.1 hx
     simp_all
structure Sh (s : aH) (k : Int) (l : List Term) (n : Int) : Prop where
 p : ∀ x, x ∈ l → cj (pn s) x = true
 len : (l.length : Int) = k
 b : 0 ≤ n ∧ n ≤ 64
 z : gK l ≤ n
 lt : ∀ x, x ∈ iy l → x < n
 nd : ∀ x, (iy l).count x ≤ 1
theorem aeX (s:aH)(n:Int):cj (pn s) (Term.mk 1 n [])=true:=by
 rw[dT];rfl
theorem U0 (s:aH)(l:LI):∀ x,x∈tC l→cj (pn s) x=true:=by
 intro x hx
 obtain⟨n,_,rfl⟩:=iB.1 hx
 exact aeX s n
theorem Wq (s:aH)(k:Int)(h:0≤k∧k≤4):Sh s k (tC (qo 0 k)) k:=by
 have a:=J5 (qo 0 k)
 have b:=AN 0 k h.1
 refine⟨U0 s _,by simp[tC,b],by omega,by omega,fun x hx=>?_,fun x=>?_⟩
 · rw[a.1,J4] at hx;omega
 · rw[a.1];exact List.nodup_iff_count.1 (Jb 0 k) x
variable {k : Int} {l : List Term} {n : Int}
theorem Zc (h:Sh s k l n)(t:n≤60)(v g:Int)(d:cf)(hx:bQ s.Cons g=some d)(ha:0≤d.bu∧d.bu≤4) :
   Sh s k (kM v (Term.mk 3 g (tC (qo n d.bu))) l) (n+d.bu):=by
 have j:=J5 (qo n d.bu)
 have m:=AN n d.bu ha.1
 have o:cj (pn s) (Term.mk 3 g (tC (qo n d.bu)))=true:=by
   rw[dT,fi,aY,dh]
   refine⟨?_,U0 s _⟩
   simp only[pn,show(Term.mk 3 g (tC (qo n d.bu))).Op=3 from rfl,show(Term.mk 3 g (tC (qo n d.bu))).N=g from rfl,show(Term.mk 3 g (tC (qo n d.bu))).Kids=tC (qo n d.bu) from rfl,po,hx]
   simp[tC,m]
 have Jg:∀ x,(iy (kM v (Term.mk 3 g (tC (qo n d.bu))) l)).count x≤(iy l).count x+(iy l).count v*(qo n d.bu).count x:=by
   intro x
   have:∀ l:List Term,(iy (kM v (Term.mk 3 g (tC (qo n d.bu))) l)).count x≤(iy l).count x+(iy l).count v*(qo n d.bu).count x:=by
     intro l
     induction l with
     | nil=>simp[kM,iy]
     | cons a l r=>
       have h1:=Zb v x (Term.mk 3 g (tC (qo n d.bu))) (show ¬ (3:Int)=1 by decide) a
       rw[show(Term.mk 3 g (tC (qo n d.bu))).Kids=tC (qo n d.bu) from rfl,j.1] at h1
       simp only[kM,iy,List.count_append,fV]
       omega
   exact this l
 have size:gK (kM v (Term.mk 3 g (tC (qo n d.bu))) l)≤gK l+(((iy l).count v*d.bu.toNat:Nat):Int):=by
   have:∀ l:List Term,gK (kM v (Term.mk 3 g (tC (qo n d.bu))) l)≤gK l+(((iy l).count v*d.bu.toNat:Nat):Int):=by
     intro l
     induction l with
     | nil=>simp[kM,gK,iy]
     | cons a l r=>
       have h1:=aeV v (Term.mk 3 g (tC (qo n d.bu))) d.bu.toNat (by rw[show(Term.mk 3 g (tC (qo n d.bu))).Kids=tC (qo n d.bu) from rfl,j.2];omega) a
       simp only[kM,gK,iy,List.count_append,fV]
       omega
   exact this l
 have u:=xY d.bu.toNat (h.nd v)
 refine⟨fun x i=>?_,by rw[tM,rf];exact h.len,by have:=h.b;omega,by have:=h.z;omega,fun x i=>?_,fun x=>?_⟩
 · rw[tM] at i
   obtain⟨y,hy,rfl⟩:=iB.1 i
   exact aeW s v _ o y (h.p y hy)
 · have c0:=List.count_pos_iff.2 i
   have c1:=Jg x
   by_cases c:x∈iy l
   · have:=h.lt x c;omega
   · by_cases c2:x∈qo n d.bu
     · rw[J4] at c2;omega
     · rw[vG.2 c,vG.2 c2] at c1;omega
 · have c1:=Jg x
   by_cases c2:x∈qo n d.bu
   · have:x∉iy l:=fun q=>by have:=h.lt x q;rw[J4] at c2;omega
     rw[vG.2 this] at c1
     have:=Nat.mul_le_mul (h.nd v) (List.nodup_iff_count.1 (Jb n d.bu) x)
     omega
   · rw[vG.2 c2] at c1
     have:=h.nd x
     omega
theorem Zd (h:Sh s k l n)(j:n≤60)(v c:Int)(a:cf)(hx:bQ s.Cons c=some a)(ha:0≤a.bu∧a.bu≤4) :
   kj ⟨l,n⟩ s v c=some ⟨kM v (Term.mk 3 c (tC (qo n a.bu))) l,n+a.bu⟩∧nm ⟨l,n⟩ s v c=some (⟨kM v (Term.mk 3 c (tC (qo n a.bu))) l,n+a.bu⟩,qo n a.bu):=by
 have hb:=h.b
 have m:=h.z
 have d:=AN n a.bu ha.1
 have g:=dZ l
 constructor
 · rw[kj,hx]
   simp only[aQ,ax,J3 n a.bu hb.1 (by omega) (by omega),Mm (qo n a.bu) (by omega)]
   rw[if_pos fQ,tM]
   exact RF l (sub v (Term.mk 3 c (tC (qo n a.bu)))) (fun x=>iU x [dw.mk v (Term.mk 3 c (tC (qo n a.bu)))]) (fun x hx=>Wp s v _ x (by have:=g.2 x hx;omega) (h.p x hx)) (by omega) (F2:=gR ⟨l,n⟩ v c a (tC (qo n a.bu))) (e:=fun l=>some (bo.mk l (n+a.bu))) (by rw[pM]) (fun i l=>by rw[gR])
 · rw[nm,hx]
   simp only[aQ,ax,Gs n a.bu hb.1 (by omega) (by omega),Mn (qo n a.bu) (by omega)]
   have:=Za s v (Term.mk 3 c (tC (qo n a.bu))) (Term.mk 0 0 l) (by simp only[dE];omega) (.inr ⟨rfl,h.p⟩)
   rw[show(Term.mk 0 0 l).Kids=l from rfl] at this
   rw[this]
   simp only[ax]
   rw[if_pos fQ,d]
theorem Wr (p:aL)(fn:Int)(a:cf)(hx:bQ p.cv.bp fn=some a)(ha:0≤a.bu∧a.bu≤4):yy p fn=some ⟨tC (qo 0 a.bu),a.bu⟩∧vU p fn=some ⟨tC (qo 0 a.bu),a.bu⟩:=by
 have b:=AN 0 a.bu ha.1
 constructor
 · rw[yy,hx]
   simp only[aQ,ax,J3 0 a.bu (by omega) (by omega) (by omega),Mm (qo 0 a.bu) (by omega)]
 · rw[vU,hx]
   simp only[aQ,ax,Gs 0 a.bu (by omega) (by omega) (by omega),Mn (qo 0 a.bu) (by omega)]
mutual
def RH : Term→Term→LI→Option LI
 | .mk o n l,q,out=>if o=1 then(if q.Op=1 then some (out.set n.toNat q.N) else none) else if o=q.Op∧n=q.N then xb l q.Kids out else none
def xb : List Term→List Term→LI→Option LI
 | [],_,out=>some out
 | _::_,[],_=>none
 | p::l,q::r,out=>(RH p q out).bind (xb l r)
end
theorem Q3 (p q:Term)(out:LI):RH p q out=if p.Op=1 then(if q.Op=1 then some (out.set p.N.toNat q.N) else none) else if p.Op=q.Op∧p.N=q.N then xb p.Kids q.Kids out else none:=by cases p;rw[RH];rfl
def WN (s:aH)(v:Nat)(p:Term):Prop:=cj (pn s) p=true∧∀ x,x∈tv p→0≤x∧x<v
variable {v : Nat} {p : Term}
theorem Q4 (h:WN s v p):∀ x,x∈p.Kids→WN s v x:=by
 intro x hx
 have h1:=h.1
 rw[dT,fi,aY,dh] at h1
 refine⟨h1.2 x hx,fun y hy=>h.2 y ?_⟩
 rw[rB,dG,EX]
 exact .inr ⟨x,hx,hy⟩
theorem Q5 (h:WN s v p)(c:p.Op=1):0≤p.N∧p.N<v:=h.2 p.N (by rw[rB,if_pos c];simp)
theorem U1 {q:Term}(a:cj (pn s) p=true)(b:cj (pn s) q=true)(c:¬ p.Op=1)(e:p.Op=q.Op)(f:p.N=q.N):p.Kids.length=q.Kids.length:=by
 rw[dT,aY] at a b
 have h1:=a.1
 have h2:=b.1
 have c2:¬ q.Op=1:=by omega
 simp only[pn,if_neg c,if_neg c2,aY,po,f] at h1 h2
 have h1:=h1.2
 have h2:=h2.2
 cases g:bQ s.Cons q.N with
 | none=>rw[g] at h1;cases h1
 | some x=>rw[g] at h1 h2;simp only[decide_eq_true_eq] at h1 h2;omega
def Zo (r:Option (LI×Bool))(n:Nat)(o:Option LI):Prop:=∃ l b,r=some (l,b)∧l.length=n∧(if b=true then some l else none)=o
theorem SK (s:aH)(p q:Term)(out:LI)(z:p.Kids.length≤1000)(j:p.Kids.length=q.Kids.length)(m:∀ x,x∈q.Kids→cj (pn s) x=true)
   (t:∀ x,x∈p.Kids→∀ y o,o.length=out.length→cj (pn s) y=true→Zo (cC x y o) out.length (RH x y o)) :
   ∀(d i:Nat) (l:LI),p.Kids.length-i=d→i≤p.Kids.length→l.length=out.length→Zo (bZ p q out i l) out.length (xb (p.Kids.drop i) (q.Kids.drop i) l):=by
 intro d
 induction d with
 | zero=>
   intro i l u hi a
   rw[bZ,iT,show i=p.Kids.length by omega,dP,xb]
   exact⟨l,true,rfl,a,rfl⟩
 | succ d c=>
   intro i l u hi a
   have h:i<p.Kids.length:=by omega
   have h2:i<q.Kids.length:=by omega
   obtain⟨r,b,e,g,w⟩:=t _ (cM h) q.Kids[i] l a (m _ (cM h2))
   rw[bZ,eu,aU h,aU h2,cW h,cW h2,xb,←w]
   simp only[aQ,ax,e]
   rw[eu]
   cases b with
   | false=>exact⟨r,false,rfl,g,rfl⟩
   | true=>
     rw[if_pos rfl,if_pos rfl,if_pos fQ,tA]
     exact c (i+1) r (by omega) (by omega) g
theorem Ze (s:aH)(v:Nat)(p:Term):dE p≤1000→WN s v p→∀ q out,out.length=v→cj (pn s) q=true→Zo (cC p q out) v (RH p q out):=by
 refine fX (P:=fun p=>dE p≤1000→WN s v p→∀ q out,out.length=v→cj (pn s) q=true→Zo (cC p q out) v (RH p q out)) (fun p j m g q out a i=>?_) p
 have r:=dZ p.Kids
 rw[eJ] at m
 rw[cC,Q3]
 by_cases c:p.Op=1
 · have hb:=Q5 g c
   obtain⟨n,t⟩:∃ n:Nat,p.N=n:=⟨p.N.toNat,by omega⟩
   rw[if_pos (by simpa using c),if_pos c,t,aU (show n<out.length by omega)]
   simp only[aQ,ax,sy]
   by_cases c2:q.Op=1
   · rw[if_pos (by simpa using c2),if_pos c2];exact⟨_,true,rfl,by simpa using a,rfl⟩
   · rw[if_neg (by simpa using c2),if_neg c2];exact⟨_,false,rfl,by simpa using a,rfl⟩
 · rw[if_neg (by simpa using c),if_neg c]
   by_cases c1:p.Op=q.Op
   · by_cases c2:p.N=q.N
     · have d:=U1 g.1 i c c1 c2
       have b:=i
       rw[dT,fi,aY,dh] at b
       rw[if_neg (by simpa using c1),if_neg (by simpa using c2),iT,if_pos ⟨c1,c2⟩]
       have:=SK s p q out (by omega) d b.2 (fun x hx y o h1 h2=>by rw[a];exact j x hx (by have:=r.2 x hx;omega) (Q4 g x hx) y o (by omega) h2) p.Kids.length 0 out rfl (bU _) rfl
       rw[a] at this
       exact this
     · rw[if_neg (by simpa using c1),if_pos (by simpa using c2),if_neg fun h=>c2 h.2];exact⟨out,false,rfl,a,rfl⟩
   · rw[if_pos (by simpa using c1),if_neg fun h=>c1 h.1];exact⟨out,false,rfl,a,rfl⟩
theorem SL (s:aH)(a g:List Term)(o0:LI)(v:Nat)(H:a.length≤1000)(z:a.length=g.length)(A:∀ x,x∈a→WN s v x)(B:∀ x,x∈g→cj (pn s) x=true)
   (C:∀ x,x∈a→∀ r o,o.length=v→x.Kids.length=r.length→(∀ y,y∈r→cj (pn s) y=true)→Zo (bG x.Kids r o) v (xb x.Kids r o)) :
   ∀(d i:Nat) (l:LI),a.length-i=d→i≤a.length→l.length=v→Zo (bB a g o0 i l) v (xb (a.drop i) (g.drop i) l):=by
 intro d
 induction d with
 | zero=>
   intro i l D hi j
   rw[bB,iT,show i=a.length by omega,dP,xb]
   exact⟨l,true,rfl,j,rfl⟩
 | succ d m=>
   intro i l D hi j
   have h:i<a.length:=by omega
   have h2:i<g.length:=by omega
   have q:=A _ (cM h)
   have t:=B _ (cM h2)
   rw[bB,eu,aU h,aU h2,cW h,cW h2,xb,Q3]
   simp only[aQ,ax]
   by_cases c:a[i].Op=1
   · rw[if_pos (by simpa using c),if_pos c]
     by_cases c2:g[i].Op=1
     · have hb:=Q5 q c
       obtain⟨n,E⟩:∃ n:Nat,a[i].N=n:=⟨a[i].N.toNat,by omega⟩
       rw[if_pos (by simpa using c2),if_pos c2,E,aU (show n<l.length by omega)]
       simp only[ax,sy]
       rw[if_pos fQ,tA]
       exact m (i+1) _ (by omega) (by omega) (by simpa using j)
     · have c3:¬ a[i].Op=g[i].Op:=by omega
       rw[if_neg (by simpa using c2),if_neg c2,if_pos (by simpa using c3)]
       exact⟨l,false,rfl,j,rfl⟩
   · rw[if_neg (by simpa using c),if_neg c]
     by_cases c1:a[i].Op=g[i].Op
     · by_cases c2:a[i].N=g[i].N
       · have u:=t
         rw[dT,fi,aY,dh] at u
         obtain⟨r,b,e,w,G⟩:=C _ (cM h) g[i].Kids l j (U1 q.1 t c c1 c2) u.2
         rw[if_neg (by simpa using c1),if_neg (by simpa using c2),if_pos ⟨c1,c2⟩,←G,e]
         simp only[ax]
         rw[eu]
         cases b with
         | false=>exact⟨r,false,rfl,w,rfl⟩
         | true=>
           rw[if_pos rfl,if_pos rfl,if_pos fQ,tA]
           exact m (i+1) r (by omega) (by omega) w
       · rw[if_neg (by simpa using c1),if_pos (by simpa using c2),if_neg fun h=>c2 h.2];exact⟨l,false,rfl,j,rfl⟩
     · rw[if_pos (by simpa using c1),if_neg fun h=>c1 h.1];exact⟨l,false,rfl,j,rfl⟩
theorem Zf (s:aH)(v:Nat)(p:Term):dE p≤1000→(∀ x,x∈p.Kids→WN s v x)→∀ r o,o.length=v→p.Kids.length=r.length→(∀ y,y∈r→cj (pn s) y=true)→Zo (bG p.Kids r o) v (xb p.Kids r o):=by
 refine fX (P:=fun p=>dE p≤1000→(∀ x,x∈p.Kids→WN s v x)→∀ r o,o.length=v→p.Kids.length=r.length→(∀ y,y∈r→cj (pn s) y=true)→Zo (bG p.Kids r o) v (xb p.Kids r o)) (fun p c d b r o g a h=>?_) p
 have i:=dZ p.Kids
 rw[eJ] at d
 rw[bG]
 exact SL s p.Kids r o v (by omega) a b h (fun x hx r o h1 h2 h3=>c x hx (by have:=i.2 x hx;omega) (Q4 (b x hx)) r o h1 h2 h3) p.Kids.length 0 o rfl (bU _) g
theorem P3 (s:aH)(k v:Int)(c:List Term)(r:bn)(n:Nat)(o:∀ x,x∈r.cJ→WN s n x)(q:∀ x,x∈r.cJ→dE x≤1000)(t:∀ x,x∈c→cj (pn s) x=true)(m:r.cJ.length=c.length)(z:c.length≤1000) :
   ∀(d i:Nat) (l:LI),c.length-i=d→i≤c.length→l.length=n→∃ a b,ef ⟨c,k⟩ r i l=some (a,b)∧(if b=true then some a else none)=xb (r.cJ.drop i) (c.drop i) l:=by
 intro d
 induction d with
 | zero=>
   intro i l u hi j
   rw[ef,iT,show i=r.cJ.length by omega,dP,xb]
   simp_all
 | succ d g=>
   intro i l u hi j
   have h:i<r.cJ.length:=by omega
   have h2:i<c.length:=by omega
   obtain⟨a,b,e,w,y⟩:=Ze s n _ (q _ (cM h)) (o _ (cM h)) c[i] l j (t _ (cM h2))
   rw[ef,eu,aU h,aU h2,cW h,cW h2,xb,←y]
   simp only[aQ,ax,e]
   rw[eu]
   cases b with
   | false=>exact⟨[],false,rfl,rfl⟩
   | true=>
     rw[if_pos rfl,if_pos rfl,if_pos fQ,tA]
     exact g (i+1) a (by omega) (by omega) w
theorem Ws (h:Sh s k l n)(r:bn)(C:uR s r=true)(hf:po s.bp r.vt (fun a=>decide (a=k))=true)(J:k≤4) :
   ∃ a b c,mj ⟨l,n⟩ r=some (a,b)∧jy ⟨l,n⟩ r=some (c,b)∧(b=true→a=c):=by
 simp only[uR,aY,decide_eq_true_eq,dh] at C
 obtain⟨⟨⟨⟨⟨⟨h1,h2,h3⟩,h4⟩,G⟩,M⟩,N⟩,O⟩:=C
 have d:r.cJ.length=l.length:=by
   simp only[po] at h1 hf
   cases g:bQ s.bp r.vt with
   | none=>rw[g] at h1;cases h1
   | some x=>rw[g] at h1 hf;simp only[decide_eq_true_eq] at h1 hf;have:=h.len;omega
 have t:∀ x,x∈r.cJ→WN s r.bf.toNat x∧dE x≤40:=by
   intro x hx
   have:=G x hx
   simp only[pq,eC,uN,aY,decide_eq_true_eq] at this
   obtain⟨⟨⟨⟨z,_⟩,a⟩,b,_⟩,c⟩:=this
   have e:∀ x:Term,fK s x=true→BR x=true→pn s x=true:=fun x ha hb=>by
    simp only[BR,xl,decide_eq_true_eq] at hb
    rcases hb with q | q
    · simp only[fK,if_pos q,aY,decide_eq_true_eq] at ha
      simp only[pn,if_pos q,List.isEmpty_iff_length_eq_zero];exact ha.1
    · have D:¬ x.Op=1:=by omega
      have q2:¬ x.Op=2:=by omega
      simp only[fK,if_neg D,if_neg q2,if_pos q] at ha
      simp only[pn,if_neg D,q,decide_true,iC];exact ha
   have m:∀ x:Term,cj (fK s) x=true→cj BR x=true→cj (pn s) x=true∧∀ y,y∈tv x→0≤y:=by
    refine fX (fun x u ha hb=>?_)
    rw[dT,fi,aY,dh] at ha hb
    refine⟨?_,fun y hy=>?_⟩
    · rw[dT,fi,aY,dh]
      exact⟨e x ha.1 hb.1,fun y hy=>(u y hy (ha.2 y hy) (hb.2 y hy)).1⟩
    · rw[rB,dG,EX] at hy
      rcases hy with hy | ⟨z,w,hy⟩
      · by_cases q:x.Op=1
        · have:=ha.1
          simp only[fK,if_pos q,aY,decide_eq_true_eq] at this
          rw[if_pos q,px] at hy
          omega
        · rw[if_neg q] at hy;simp at hy
      · exact(u z w (ha.2 z w) (hb.2 z w)).2 y hy
   have E:=m x a b
   refine⟨⟨E.1,fun y hy=>⟨E.2 y hy,?_⟩⟩,z⟩
   have:=((J1 r.bf x).1 c).1 y hy
   omega
 have K:=h.len
 have j:=P3 s n n l r r.bf.toNat (fun x hx=>(t x hx).1) (fun x hx=>by have:=(t x hx).2;omega) h.p d (by omega) l.length 0 (List.replicate r.bf.toNat (-1)) rfl (bU _) (by simp)
 obtain⟨a,b,H,j⟩:=j
 have w:gK r.cJ≤40*r.cJ.length:=by
   have:∀ l:List Term,(∀ x,x∈l→dE x≤40)→gK l≤40*l.length:=by
    intro l
    induction l with
    | nil=>intro _;simp[gK]
    | cons a l u=>
      intro q
      have h1:=q a (by simp)
      have h2:=u fun x hx=>q x (by simp[hx])
      simp only[gK,lI];omega
   exact this r.cJ fun x hx=>(t x hx).2
 obtain⟨c,o,A,P,m⟩:=Zf s r.bf.toNat (Term.mk 0 0 r.cJ) (by simp only[dE];omega) (fun x hx=>(t x hx).1) l (List.replicate r.bf.toNat (-1)) (by simp) d h.p
 have A:bG r.cJ l (List.replicate r.bf.toNat (-1))=some (c,o):=A
 have m:(if o=true then some c else none)=xb r.cJ l (List.replicate r.bf.toNat (-1)):=m
 have j:(if b=true then some a else none)=xb r.cJ l (List.replicate r.bf.toNat (-1)):=j
 have hb:b=o∧(b=true→a=c):=by
   rw[←m] at j
   cases b<;>cases o<;>simp at j ⊢
   exact j
 refine⟨a,b,c,?_,?_,hb.2⟩
 · rw[mj,eu]
   have:eX ⟨l,n⟩ r 0 (List.replicate r.bf.toNat 0)=ef ⟨l,n⟩ r 0 ((List.replicate r.bf.toNat (0:Int)).map fun _=>(-1:Int)):=
    ZQ (L:=List.replicate r.bf.toNat (0:Int)) (fun _ => -1) (F:=eX ⟨l,n⟩ r) (e:=fun l2=>ef ⟨l,n⟩ r 0 l2) (fun i hi l2 B I=>by
      rw[List.length_replicate] at hi B
      rw[eX,eu,UZ,I]
      simp only[aQ,ax,sy]
      rw[if_pos fQ]) (fun l2 B=>by rw[List.length_replicate] at B;rw[eX,iT])
   rw[this,asK]
   exact H
 · rw[jy,eu,oN,oL]
   simp only[A,aQ,ax,hb.1]
   rw[eu]
   cases o<;>rfl
theorem ajU (L:List α)(f:α→β)(j:L.length≤1000000)(F2:Int→List β→Option γ)(e:List β→Option γ)(a:List β)(ha:a.length≤40000)(h2:∀(i:Int) (l:List β),F2 i l=if decide (i<(L.length:Int)) then(bQ L i>>=fun x=>if decide (l.length+[f x].length≤1048576) then(if cy .i64 (i+1) then F2 (i+1) (l++[f x]) else none) else none) else e l):F2 0 a=e (a++L.map f):=by
 suffices q:∀(d i:Nat) (l:List β),L.length-i=d→i≤L.length→l.length≤40000+i→F2 (i:Int) l=e (l++(L.drop i).map f) by
   exact q L.length 0 a rfl (bU _) (by omega)
 intro d
 induction d with
 | zero=>
   intro i l b hi c
   rw[h2,iT,show i=L.length by omega,dP,sH,nD]
 | succ d g=>
   intro i l b hi c
   have h:i<L.length:=by omega
   rw[h2,eu,aU h,cW h,dH]
   simp only[aQ,ax]
   rw[eu,if_pos fQ,tA,g (i+1) _ (by omega) (by omega) (by simp;omega),nu,FC]
theorem Wt (t:af)(d:t.Kids.length≤1000)(ha:t.bk.length≤1000):vV t=some (t.Kids++t.bk.map bT.fh):=by
 have h2:=fun(a:List af) (h:a.length≤40000)=>ajU t.bk bT.fh (by omega) (gZ t) some a h (fun i l=>by rw[gZ])
 rw[vV]
 by_cases c:t.Kids=[]
 · have h1:rN t=some (t.bk.map bT.fh):=
    RF t.bk bT.fh (fun x=>some x.fh) (fun _ _=>rfl) (by omega) (e:=some) (by rw[rN];rfl) (fun i l=>by rw[gZ];rfl)
   simp_all[Z0]
 · have b:t.Kids.isEmpty=false:=by simp_all
   rw[b]
   simp only[jU,Oh,uu,dL,if_false]
   rw[eu,h2 t.Kids (by omega)]
   rfl
theorem FY : ∀(a:List af) (b:List bT),lG (a++b.map bT.fh)=lG a+nt b
 | [],[]=>by simp[lG,nt]
 | [],x::b=>by have:=FY [] b;simp_all[lG,nt,tL]
 | x::a,b=>by simp only[zD,lG,FY a b];omega
def zx (c:Int):Sum Int Unit:=if c≤100 then .inl c else .inr ()
theorem P4 (t:af)(a:Int)(p:aL)(u:af)(b:Bool)(c0:Int)(L:List af)(r:L.length≤1000)(o:∀ x,x∈L→∀ c:Int,0≤c→c≤100→cd x a p u b c=some (zx (c+qn x))) :
   ∀(d i:Nat) (c:Int),L.length-i=d→i≤L.length→0≤c→c≤100→bS t a p u b c0 L i c=some (zx (c+lG (L.drop i))):=by
 intro d
 induction d with
 | zero=>
   intro i c q hi m h1
   rw[bS,iT,show i=L.length by omega,dP,lG,zx,if_pos (by omega),Int.add_zero]
 | succ d j=>
   intro i c q hi m h1
   have h:i<L.length:=by omega
   have w:=ni L[i]
   have y:=jD (L.drop (i+1))
   rw[bS,eu,aU h,cW h,lG]
   simp only[aQ,ax,o _ (cM h) c m h1]
   by_cases g:c+qn L[i]≤100
   · rw[show zx (c+qn L[i])=.inl (c+qn L[i]) by rw[zx,if_pos g]]
     simp only[]
     rw[if_pos fQ,tA,j (i+1) _ (by omega) (by omega) (by omega) g,Int.add_assoc]
   · rw[show zx (c+qn L[i])=.inr () by rw[zx,if_neg g]]
     simp only[]
     rw[zx,if_neg (by omega)]
theorem SM (a:Int)(p:aL)(u:af)(b:Bool)(t:af):qn t≤1000→∀ c:Int,0≤c→c≤100→cd t a p u b c=some (zx (c+qn t)):=by
 refine Aw (P:=fun t=>qn t≤1000→∀ c:Int,0≤c→c≤100→cd t a p u b c=some (zx (c+qn t))) (fun t i h j c d h1=>?_) t
 have m:=jD t.Kids
 have o:=jE t.bk
 rw[zH] at j ⊢
 rw[cd,if_pos fQ]
 by_cases g:c+1≤100
 · have:=P4 t a p u b c (t.Kids++t.bk.map bT.fh) (by simp;omega) (fun x hx c d h1=>by
    rcases dG.1 hx with hx | hx
    · exact i x hx (by have:=uY _ x hx;omega) c d h1
    · obtain⟨y,hy,rfl⟩:=iB.1 hx
      exact h y hy (by have:=uZ _ y hy;omega) c d h1) _ 0 (c+1) rfl (bU _) (by omega) g
   rw[if_pos (by simpa using g),Wt t (by omega) (by omega)]
   simp only[aQ,ax]
   rw[fy,FY] at this
   refine this.trans ?_
   congr 2;omega
 · rw[if_neg (by simpa using g),zx,if_neg (by omega)]
theorem aeY (t:af):Lj t≤qn t:=by
 refine Aw (P:=fun t=>Lj t≤qn t) (fun t d c=>?_) t
 have h1:∀ l:List af,(∀ x,x∈l→Lj x≤qn x)→DX l≤lG l:=by
  intro l
  induction l with
  | nil=>intro _;simp[DX,lG]
  | cons a l b=>
    intro h
    have:=h a (by simp)
    have:=b fun x hx=>h x (by simp[hx])
    have:=ni a
    have:=jD l
    simp only[DX,lG];omega
 have h2:∀ l:List bT,(∀ x,x∈l→Lj x.fh≤qn x.fh)→B4 l≤nt l:=by
  intro l
  induction l with
  | nil=>intro _;simp[B4,nt]
  | cons a l b=>
    intro h
    have:=h a (by simp)
    have:=b fun x hx=>h x (by simp[hx])
    have:=ni a.fh
    have:=jE l
    simp only[B4,nt,QY,tL];omega
 have:=h1 t.Kids d
 have:=h2 t.bk c
 have:=jD t.Kids
 have:=jE t.bk
 rw[UU,zH];omega
mutual
def al : af→LI
 | .mk o _ a b r _=>(if o=3 then [r] else [])++Fb b++G9 a
def Fb : List af→LI
 | []=>[]
 | t::l=>al t++Fb l
def G9 : List bT→LI
 | []=>[]
 | a::l=>alJ a++G9 l
def alJ : bT→LI
 | .mk _ _ t=>al t
end
theorem IA (t:af):al t=(if t.Op=3 then [t.bY] else [])++Fb t.Kids++G9 t.bk:=by cases t;rw[al];rfl
theorem JK (a:bT):alJ a=al a.fh:=by cases a;rw[alJ];rfl
theorem xu (t:af):((al t).length:Int)≤qn t:=by
 refine Aw (P:=fun t=>((al t).length:Int)≤qn t) (fun t d c=>?_) t
 have h1:∀ l:List af,(∀ x,x∈l→((al x).length:Int)≤qn x)→((Fb l).length:Int)≤lG l:=by
  intro l
  induction l with
  | nil=>intro _;simp[Fb,lG]
  | cons a l b=>
    intro h
    have:=h a (by simp)
    have:=b fun x hx=>h x (by simp[hx])
    simp only[Fb,lG,nv];omega
 have h2:∀ l:List bT,(∀ x,x∈l→((al x.fh).length:Int)≤qn x.fh)→((G9 l).length:Int)≤nt l:=by
  intro l
  induction l with
  | nil=>intro _;simp[G9,nt]
  | cons a l b=>
    intro h
    have:=h a (by simp)
    have:=b fun x hx=>h x (by simp[hx])
    simp only[G9,nt,JK,tL,nv];omega
 have:=h1 t.Kids d
 have:=h2 t.bk c
 rw[IA,zH]
 split<;>simp<;>omega
theorem ajs (L:List α)(f:α→LI)(w:α→Int)(r:∀ x,x∈L→((f x).length:Int)≤w x)(W:List α→Int)(t:∀ x l,W (x::l)=w x+W l)(a:∀ l,0≤W l)(g:α→Option LI)(u:∀ x,x∈L→g x=some (f x))(C:List α→LI)(y:∀ x l,C (x::l)=f x++C l)(b:C []=[])(A:L.length≤1000000)(F:Int→LI→Option LI)(e:LI→Option LI)(j:∀(i:Int) (l:LI),F i l=if decide (i<(L.length:Int)) then(bQ L i>>=fun x=>g x>>=fun v=>if v.isEmpty then(if cy .i64 (i+1) then F (i+1) l else none) else(if decide (l.length+v.length≤1048576) then(if cy .i64 (i+1) then F (i+1) (l++v) else none) else none)) else e l) :
   ∀(d i:Nat) (l:LI),L.length-i=d→i≤L.length→l.length+W (L.drop i)≤1000000→F (i:Int) l=e (l++C (L.drop i)):=by
 intro d
 induction d with
 | zero=>
   intro i l z hi m
   rw[j,iT,show i=L.length by omega,dP,b,nD]
 | succ d o=>
   intro i l z hi m
   have h:i<L.length:=by omega
   have q:=cM h
   have h1:=r _ q
   have h2:=a (L.drop (i+1))
   rw[cW h,t] at m
   rw[j,eu,aU h,cW h,y]
   simp only[aQ,ax,u _ q]
   rw[if_pos fQ,if_pos fQ,tA]
   by_cases c:f L[i]=[]
   · rw[c,if_pos (show([]:LI).isEmpty=true from rfl),o (i+1) l (by omega) (by omega) (by omega),jU]
   · rw[if_neg (by simpa using c),eu,o (i+1) _ (by omega) (by omega) (by simp;omega),nu]
theorem ZR (L:List α)(f:α→LI)(w:α→Int)(q:∀ x,x∈L→((f x).length:Int)≤w x)(W:List α→Int)(r:∀ x l,W (x::l)=w x+W l)(a:∀ l,0≤W l)(g:α→Option LI)(t:∀ x,x∈L→g x=some (f x))(C:List α→LI)(u:∀ x l,C (x::l)=f x++C l)(b:C []=[])(E:L.length≤1000000)(F:Int→LI→Option LI)(e:LI→Option LI)(y:∀(i:Nat) (l:LI),i≤L.length→l.length+W (L.drop i)≤10000→F i l=e (l++C (L.drop i)))(G:Int→Option LI)(z:Option LI)(A:z=e [])(j:∀(i:Int),G i=if decide (i<(L.length:Int)) then(bQ L i>>=fun x=>g x>>=fun v=>if v.isEmpty then(if cy .i64 (i+1) then G (i+1) else none) else(if decide (v.length≤1048576) then(if cy .i64 (i+1) then F (i+1) v else none) else none)) else z) :
   ∀(d i:Nat),L.length-i=d→i≤L.length→W (L.drop i)≤10000→G (i:Int)=e (C (L.drop i)):=by
 intro d
 induction d with
 | zero=>
   intro i B hi m
   rw[j,iT,show i=L.length by omega,dP,b,A]
 | succ d D=>
   intro i B hi m
   have h:i<L.length:=by omega
   have o:=cM h
   have h1:=q _ o
   have h2:=a (L.drop (i+1))
   rw[cW h,r] at m
   rw[j,eu,aU h,cW h,u]
   simp only[aQ,ax,t _ o]
   rw[if_pos fQ,if_pos fQ,tA]
   by_cases c:f L[i]=[]
   · rw[c,if_pos (show([]:LI).isEmpty=true from rfl),D (i+1) (by omega) (by omega) (by omega),jU]
   · rw[if_neg (by simpa using c),eu,y (i+1) _ (by omega) (by omega)]
theorem Q6 : ∀ l:List af,((Fb l).length:Int)≤lG l
 | []=>by simp[Fb,lG]
 | a::l=>by have:=Q6 l;have:=xu a;simp only[Fb,lG,nv];omega
theorem all_eq (t:af):qn t≤1000→jn t=some (al t):=by
 refine Aw (P:=fun t=>qn t≤1000→jn t=some (al t)) (fun t d b m=>?_) t
 have q:=jD t.Kids
 have r:=jE t.bk
 rw[zH] at m
 have g:=ajs t.bk (fun a=>al a.fh) (fun a=>qn a.fh) (fun a _=>xu a.fh) nt (fun x l=>by rw[nt,tL]) (fun l=>(jE l).1) (fun a=>jn a.fh) (fun a ha=>b a ha (by have:=uZ _ a ha;omega)) G9 (fun x l=>by rw[G9,JK]) (by rw[G9]) (by omega) (iV t) some (fun i l=>by rw[iV])
 have h:=ZR t.bk (fun a=>al a.fh) (fun a=>qn a.fh) (fun a _=>xu a.fh) nt (fun x l=>by rw[nt,tL]) (fun l=>(jE l).1) (fun a=>jn a.fh) (fun a ha=>b a ha (by have:=uZ _ a ha;omega)) G9 (fun x l=>by rw[G9,JK]) (by rw[G9]) (by omega) (iV t) some (fun i l h1 h2=>g _ i l rfl h1 (by omega)) (nQ t) _ rfl (fun i=>by rw[nQ]) t.bk.length 0 rfl (bU _) (by rw[fy];omega)
 have j:∀(i:Nat) (l:LI),i≤t.Kids.length→l.length+lG (t.Kids.drop i)≤10000→jx t i l=some ((l++Fb (t.Kids.drop i))++G9 t.bk):=fun i l h1 h2=>by
   rw[ajs t.Kids al qn (fun a _=>xu a) lG (fun x l=>by rw[lG]) (fun l=>(jD l).1) jn (fun a ha=>d a ha (by have:=uY _ a ha;omega)) Fb (fun x l=>by rw[Fb]) (by rw[Fb]) (by omega) (jx t) (iV t 0) (fun i l=>by rw[jx]) _ i l rfl h1 (by omega)]
   have h3:=Q6 (t.Kids.drop i)
   exact(g _ 0 _ rfl (bU _) (by simp only[fy,nv];omega)).trans (by rw[fy])
 rw[fy] at h
 have o:=ZR t.Kids al qn (fun a _=>xu a) lG (fun x l=>by rw[lG]) (fun l=>(jD l).1) jn (fun a ha=>d a ha (by have:=uY _ a ha;omega)) Fb (fun x l=>by rw[Fb]) (by rw[Fb]) (by omega) (jx t) (fun l=>some (l++G9 t.bk)) j (pG t) (nQ t 0) (h.trans (by rw[jU])) (fun i=>by rw[pG]) t.Kids.length 0 rfl (bU _) (by rw[fy];omega)
 rw[fy] at o
 rw[jn,IA]
 by_cases c:t.Op=3
 · rw[if_pos (by simpa using c),if_pos c]
   have:=j 0 [t.bY] (bU _) (by simp;omega)
   rw[fy] at this
   exact this
 all_goals simp_all
theorem Jc (a b:LI)(r:b.length≤1000000){g:Option Bool}{F:Int→Option Bool}(j:g=if(!decide ((a.length:Int)=(b.length:Int))) then(some false) else F 0)
   (h:∀ i:Int,F i=if decide (i<(a.length:Int)) then(bQ a i>>=fun x=>bQ b i>>=fun y=>if(!decide (x=y)) then(some false) else(if cy .i64 (i+1) then F (i+1) else none)) else(some true)):g=some (decide (a=b)):=by
 rw[j]
 by_cases c:a.length=b.length
 · rw[iT]
   suffices q:∀(d i:Nat),a.length-i=d→i≤a.length→F (i:Int)=some (decide (a.drop i=b.drop i)) by exact q a.length 0 rfl (bU _)
   intro d
   induction d with
   | zero=>
     intro i m hi
     rw[h,iT,show i=a.length by omega,dP,c,dP];rfl
   | succ d o=>
     intro i m hi
     have h1:i<a.length:=by omega
     have h2:i<b.length:=by omega
     rw[h,eu,aU h1,aU h2,cW h1,cW h2]
     simp only[aQ,ax,List.cons.injEq]
     by_cases e:a[i]=b[i]
     · rw[if_neg (by simp[e]),if_pos fQ,tA,o (i+1) (by omega) (by omega)]
       simp[e]
     · rw[if_pos (by simp[e])];simp[e]
 · rw[eu]
   have:¬ a=b:=fun q=>c (by rw[q])
   simp[this]
theorem DH (a b:LI)(c:b.length≤1000000):jP a b=some (decide (a=b)):=Jc a b c (by rw[jP]) (fun i=>by rw[ki])
theorem Mo (a b:LI)(c:b.length≤1000000):dD a b=some (decide (a=b)):=Jc a b c (by rw[dD]) (fun i=>by rw[eD])
def s7 (t:af):Bool:=
 (decide (t.Op=1)||(decide (t.Var=0)&&decide (t.bk.length=0)))&&(decide (t.Op=2)||decide (t.Kids.length=0))&&(decide (t.Op=3)||(decide (t.bY=0)&&decide (t.bf.length=0)))
theorem Wu (t:af):yz t=some (s7 t):=by
 have len:∀ n:Nat,decide ((n:Int)>0) = !decide (n=0):=fun n=>by by_cases h:n=0<;>simp[h]<;>omega
 have a:decide ((t.bf.length:Int)=0)=decide (t.bf.length=0):=by simp
 rw[yz,s7,len,len,a]
 generalize decide (t.Op=1)=b
 generalize decide (t.Op=2)=c
 generalize decide (t.Op=3)=d
 generalize decide (t.Var=0)=g
 generalize decide (t.bk.length=0)=i
 generalize decide (t.Kids.length=0)=j
 generalize decide (t.bY=0)=m
 generalize decide (t.bf.length=0)=o
 cases b<;>cases c<;>cases d<;>cases g<;>cases i<;>cases j<;>cases m<;>cases o<;>rfl
structure Good (p : aL) : Prop where
 c : p.cv.Cons.length ≤ 12
 f : p.cv.bp.length ≤ 8
 r : p.aF.length ≤ 16
 ca : ∀ x, x ∈ p.cv.Cons → 0 ≤ x.bu ∧ x.bu ≤ 4
 fa : ∀ x, x ∈ p.cv.bp → 0 ≤ x.bu ∧ x.bu ≤ 4
 rb : ∀ r, r ∈ p.aF → uR p.cv r = true
 cs : cZ p.cv = some 0
abbrev MC := List (Int×Int)
noncomputable abbrev wk (t:af)(l:List Term)(n:Int)(p:aL)(fn:Int)(m:MC):=aS t ⟨l,n⟩ p fn m
def Rel (b:Bool)(W:MC→Option (Sum MC (Sum Unit Unit)))(z:Int)(a:LI):Prop:=∀ m k,CM m k→k.length+z≤1000→if b=true then ∃ c,W m=some (.inl c)∧CM c (k++a) else ∃ y,W m=some (.inr y)
theorem yk {l:List α}(a:0≤n)(h1:n<l.length):∃ x,bQ l n=some x∧x∈l:=by
 obtain⟨m,rfl⟩:∃ m:Nat,n=m:=⟨n.toNat,by omega⟩
 exact⟨_,aU (by omega),cM _⟩
theorem JL (a b c:Int):Ci a b c=some (decide (b≤a)&&decide (a≤c)):=by
 simp only[Ci]
 by_cases h:b≤a
 · by_cases h2:a≤c<;>simp[h,h2]
 · simp[h]
theorem Wv (p:aL)(n:Int)(h:p.aF.length≤1000):xA p n=some (decide (0≤n)&&decide (n<p.aF.length)):=by
 rw[xA,if_pos fQ,OG]
 by_cases h1:0≤n
 · by_cases h2:n<p.aF.length
   · have:n≤(p.aF.length:Int)-1:=by omega
     simp[h1,h2,this]
   · have:¬ n≤(p.aF.length:Int)-1:=by omega
     simp[h1,h2,this]
 · simp[h1]
theorem Ww (p:aL)(fn:Int)(t:af)(l:List Term)(n:Int)(D:t.Kids.length≤1000)
   (r:∀ x,x∈t.Kids→∃ b,dU p fn x ⟨l,n⟩=some b∧Rel b (wk x l n p fn) (qn x) (al x)) :
   ∀(d i:Nat),t.Kids.length-i=d→i≤t.Kids.length→∃ b,iL p fn t ⟨l,n⟩ i=some b∧∀ c,Rel b (fun m=>bh t ⟨l,n⟩ p fn c i m) (lG (t.Kids.drop i)) (Fb (t.Kids.drop i)):=by
 intro d
 induction d with
 | zero=>
   intro i u hi
   refine⟨true,by rw[iL,iT],fun c m k g _=>?_⟩
   rw[if_pos rfl]
   dsimp only
   rw[bh,iT,show i=t.Kids.length by omega,dP,Fb,nD]
   exact⟨m,rfl,g⟩
 | succ d o=>
   intro i u hi
   have h:i<t.Kids.length:=by omega
   obtain⟨b,w,a⟩:=r _ (cM h)
   obtain⟨z,A,j⟩:=o (i+1) (by omega) (by omega)
   have E:=jD (t.Kids.drop (i+1))
   have G:=ni t.Kids[i]
   refine⟨b&&z,?_,fun c m k g hs=>?_⟩
   · rw[iL,eu,aU h]
     simp only[aQ,ax,w]
     cases b with
     | false=>rfl
     | true=>rw[if_pos rfl,if_pos fQ,tA,A];rfl
   · rw[cW h,lG] at hs
     have a:=a m k g (by omega)
     have q:bh t ⟨l,n⟩ p fn c i m=((wk t.Kids[i] l n p fn m)>>=fun v=>match v with | (Sum.inl y)=>bh t ⟨l,n⟩ p fn c ((i+1:Nat):Int) y | (Sum.inr _)=>some (Sum.inr (Sum.inr ()))):=by
       rw[bh,eu,aU h]
       simp only[aQ,ax,wk]
       cases aS t.Kids[i] ⟨l,n⟩ p fn m with
       | none=>rfl
       | some v=>
         simp only[ax]
         rcases v with v | v | v
         · simp only[];rw[if_pos fQ];rfl
         · rfl
         · rfl
     cases b with
     | false=>
       rw[if_neg (by decide)] at a
       obtain⟨y,a⟩:=a
       rw[if_neg (by simp)]
       dsimp only
       rw[q,a]
       exact⟨_,rfl⟩
     | true=>
       rw[if_pos rfl] at a
       obtain⟨B,a,C⟩:=a
       have H:=xu t.Kids[i]
       have j:=j c B _ C (by simp only[nv];omega)
       rw[iC,cW h,Fb,←nu]
       dsimp only
       rw[q,a]
       exact j
theorem P5 (p:aL)(V:Good p)(fn:Int)(t:af)(k:Int)(l:List Term)(n:Int)(B:Sh p.cv k l n)(W:n≤60)(hl:t.bk.length≤1000)
   (Y:∀ a,a∈t.bk→∀ l n,Sh p.cv k l n→∃ b,dU p fn a.fh ⟨l,n⟩=some b∧Rel b (wk a.fh l n p fn) (qn a.fh) (al a.fh)) :
   ∀(d i:Nat) (g:Int),t.bk.length-i=d→i≤t.bk.length → -1≤g→(i=0→g = -1)→(∀ j,i=j+1→∃ a,bQ t.bk (j:Int)=some a∧a.BQ=g)→∃ b,dR p fn t ⟨l,n⟩ i=some b∧∀ o,Rel b (fun m=>aR t ⟨l,n⟩ p fn o i g m) (nt (t.bk.drop i)) (G9 (t.bk.drop i)):=by
 have M:=B.b
 intro d
 induction d with
 | zero=>
   intro i g Z hi _ _ _
   refine⟨true,by rw[dR,iT],fun o m k C _=>?_⟩
   rw[if_pos rfl]
   dsimp only
   rw[aR,iT,show i=t.bk.length by omega,dP,G9,nD]
   exact⟨m,rfl,C⟩
 | succ d N=>
   intro i g Z hi h1 h0 D
   have h:i<t.bk.length:=by omega
   have hx:=cM h
   have hC:=V.c
   have E:(dR p fn t ⟨l,n⟩ i=some false)→(∀ o m,∃ y,aR t ⟨l,n⟩ p fn o i g m=some (.inr y))→∃ b,dR p fn t ⟨l,n⟩ i=some b∧∀ o,Rel b (fun m=>aR t ⟨l,n⟩ p fn o i g m) (nt (t.bk.drop i)) (G9 (t.bk.drop i)):=
     fun a b=>⟨false,a,fun o m _ _ _=>by rw[if_neg (by decide)];exact b o m⟩
   by_cases G:g<t.bk[i].BQ
   · by_cases H:t.bk[i].BQ<p.cv.Cons.length
     · have gc:0≤t.bk[i].BQ:=by omega
       obtain⟨q,w,O⟩:=yk gc H
       have ha:=V.ca q O
       have X:=Zd B W t.Var t.bk[i].BQ q w ha
       have x:(qo n q.bu).length≤1000000:=by have:=AN n q.bu ha.1;omega
       have P:=Zc B W t.Var t.bk[i].BQ q w ha
       have key:(bQ p.cv.Cons t.bk[i].BQ>>=fun Q=>qO n Q.bu>>=fun R=>jP t.bk[i].bf R>>=fun S=>if S then(kj ⟨l,n⟩ p.cv t.Var t.bk[i].BQ>>=fun T=>dU p fn t.bk[i].fh T>>=fun U=>if U then(if cy .i64 ((i:Int)+1) then(dR p fn t ⟨l,n⟩ ((i:Int)+1)) else none) else(some false)) else(some false))=dR p fn t ⟨l,n⟩ i:=by
         refine Eq.symm ?_
         rw[dR,eu,aU h]
         simp only[aQ,ax]
         rw[if_pos fQ,JL]
         simp only[ax]
         rw[eu]
         by_cases z:i=0
         · rw[iT]
         · obtain⟨j,rfl⟩:∃ j,i=j+1:=⟨i-1,by omega⟩
           obtain⟨a,I,eb⟩:=D j rfl
           rw[uM,if_pos fQ,show(((j+1:Nat):Int)-1)=(j:Int) by omega,I]
           simp only[ax]
           rw[iT]
       have u:∀ o m,aR t ⟨l,n⟩ p fn o i g m=if decide (t.bk[i].bf=qo n q.bu) then(wk t.bk[i].fh (kM t.Var (Term.mk 3 t.bk[i].BQ (tC (qo n q.bu))) l) (n+q.bu) p fn m>>=fun v=>match v with | (Sum.inl y)=>aR t ⟨l,n⟩ p fn o ((i+1:Nat):Int) t.bk[i].BQ y | (Sum.inr _)=>some (Sum.inr (Sum.inr ()))) else some (.inr (.inr ())):=by
         intro o m
         rw[aR,eu,aU h]
         simp only[aQ,ax]
         rw[if_pos (by simpa using G),if_pos (by simpa using H),X.2]
         simp only[ax,Mo _ _ x,wk]
         congr 1
         cases aS t.bk[i].fh ⟨kM t.Var (Term.mk 3 t.bk[i].BQ (tC (qo n q.bu))) l,n+q.bu⟩ p fn m with
         | none=>rfl
         | some v=>
           simp only[ax]
           rcases v with v | v | v
           · simp only[];rw[if_pos fQ];rfl
           · rfl
           · rfl
       rw[w] at key
       simp only[aQ,ax,J3 n q.bu M.1 (by omega) (by omega),DH _ _ x,X.1] at key
       by_cases A:t.bk[i].bf=qo n q.bu
       · obtain⟨b,e1,r⟩:=Y _ hx _ _ P
         obtain ⟨b2,f1,J⟩:=N (i+1) t.bk[i].BQ (by omega) (by omega) (by omega) (by omega) (fun j D=>by
           have:j=i:=by omega
           subst this;exact⟨_,aU h,rfl⟩)
         have hp:=jE (t.bk.drop (i+1))
         have hz:=ni t.bk[i].fh
         refine⟨b&&b2,?_,fun o m k C hs=>?_⟩
         · rw[←key,if_pos (by simpa using A),e1]
           simp only[ax]
           cases b with
           | false=>rfl
           | true=>rw[if_pos rfl,if_pos fQ,tA,f1];rfl
         · rw[cW h,nt,tL] at hs
           have r:=r m k C (by omega)
           have K:=u o m
           rw[if_pos (by simpa using A)] at K
           cases b with
           | false=>
             rw[if_neg (by decide)] at r
             obtain⟨y,r⟩:=r
             rw[if_neg (by simp)]
             dsimp only
             rw[K,r]
             exact⟨_,rfl⟩
           | true=>
             rw[if_pos rfl] at r
             obtain⟨m1,r,e3⟩:=r
             have hk:=xu t.bk[i].fh
             have J:=J o m1 _ e3 (by simp only[nv];omega)
             rw[iC,cW h,G9,JK,←nu]
             dsimp only
             rw[K,r]
             exact J
       · refine E ?_ fun o m=>?_
         · rw[←key,if_neg (by simpa using A)]
         · rw[u,if_neg (by simpa using A)];exact⟨_,rfl⟩
     · refine E ?_ fun o m=>?_
       · rw[dR,eu,aU h]
         simp only[aQ,ax]
         rw[if_pos fQ,JL]
         simp only[ax]
         rw[iT]
       · rw[aR,eu,aU h]
         simp only[aQ,ax]
         rw[if_pos (by simpa using G),if_neg (by simpa using H)];exact⟨_,rfl⟩
   · refine E ?_ fun o m=>?_
     · rw[dR,eu,aU h]
       simp only[aQ,ax]
       rw[if_pos fQ,JL]
       simp only[ax]
       by_cases z:i=0
       · rw[if_neg (by have:=h0 z;simp;omega)]
       · split
         · obtain⟨j,rfl⟩:∃ j,i=j+1:=⟨i-1,by omega⟩
           obtain⟨a,I,eb⟩:=D j rfl
           rw[uM,if_pos fQ,show(((j+1:Nat):Int)-1)=(j:Int) by omega,I]
           simp only[ax]
           rw[eu]
         · rfl
     · rw[aR,eu,aU h]
       simp only[aQ,ax]
       rw[if_neg (by simpa using G)];exact⟨_,rfl⟩
theorem P6 (p:aL)(R:Good p)(fn:Int)(J:cf)(hx:bQ p.cv.bp fn=some J)(t:af):qn t≤200→uO wV vz t=true→∀ l n,Sh p.cv J.bu l n→∃ b,dU p fn t ⟨l,n⟩=some b∧Rel b (wk t l n p fn) (qn t) (al t):=by
 refine Aw (P:=fun t=>qn t≤200→uO wV vz t=true→∀ l n,Sh p.cv J.bu l n→∃ b,dU p fn t ⟨l,n⟩=some b∧Rel b (wk t l n p fn) (qn t) (al t)) (fun t ih U hz hs l n K=>?_) t
 have hK:=jD t.Kids
 have hA:=jE t.bk
 have hft:=zH t
 have hR:=R.r
 rw[QZ,FX,FW,aY,aY,dh,dh] at hs
 obtain⟨V,W,X⟩:=hs
 have hV:t.bf.length≤30:=by simp only[wV,decide_eq_true_eq] at V;omega
 have d:dU p fn t ⟨l,n⟩=if s7 t=true then(if decide (n>60)=true then some false else(if decide (t.Op=1) then(se p fn t ⟨l,n⟩>>=fun v3=>if v3 then(some true) else(some false)) else(if decide (t.Op=2) then(Ci (t.Kids.length:Int) 2 16>>=fun v5=>if v5 then(iL p fn t ⟨l,n⟩ 0) else(some false)) else(if decide (t.Op=3) then(xA p t.bY>>=fun Y=>if Y then(bQ p.aF t.bY>>=fun Z=>if(!decide (Z.vt=fn)) then(some false) else(bQ p.aF t.bY>>=fun x23=>mj ⟨l,n⟩ x23>>=fun M=>if M.2 then(jP M.1 t.bf>>=fun NV=>if NV then(some true) else(some false)) else(some false))) else(some false)) else(if decide (t.Op=4) then(some true) else(some false)))))) else some false:=by
   rw[dU,Wu];rfl
 have o:dU p fn t ⟨l,n⟩=some false→(∀ m,∃ y,wk t l n p fn m=some (.inr y))→∃ b,dU p fn t ⟨l,n⟩=some b∧Rel b (wk t l n p fn) (qn t) (al t):=
   fun a b=>⟨false,a,fun m _ _ _=>by rw[if_neg (by decide)];exact b m⟩
 by_cases G:n≤60
 rotate_left
 · refine o ?_ fun m=>?_
   · rw[d,if_pos (show decide (n>60)=true by simp;omega)];split<;>rfl
   · rw[wk,aS,if_neg (by simpa using G)];exact⟨_,rfl⟩
 rw[if_neg (show ¬ decide (n>60)=true by simp;omega)] at d
 by_cases c1:t.Op=1
 · have i:s7 t=(decide (t.Kids.length=0)&&(decide (t.bY=0)&&decide (t.bf.length=0))):=by simp[s7,c1]
   have g:∀ m,wk t l n p fn m=if decide (t.Kids.length+t.bf.length=0)=true then(if decide (t.bY=0) then(lV l t.Var>>=fun N=>if N then(if decide ((t.bk.length:Int)>0) then(aR t ⟨l,n⟩ p fn m 0 (-1) m) else(some (Sum.inr (Sum.inl ())))) else(some (Sum.inr (Sum.inl ())))) else(some (Sum.inr (Sum.inl ())))) else(some (Sum.inr (Sum.inl ()))):=fun m=>by
     rw[wk,aS,if_pos (by simpa using G),if_pos (by simp[c1]),if_pos (by simp[c1]),if_pos (by simpa using c1),if_pos fQ]
     have:decide ((t.Kids.length:Int)+(t.bf.length:Int)=0)=decide (t.Kids.length+t.bf.length=0):=by simp only[decide_eq_decide];omega
     rw[this]
   rw[if_pos (show decide (t.Op=1)=true by simpa using c1)] at d
   by_cases B:t.Kids.length=0∧t.bf.length=0
   rotate_left
   · refine o ?_ fun m=>?_
     · rw[d,if_neg (by rw[i];simp only[aY,decide_eq_true_eq];omega)]
     · rw[g,Lw];exact⟨_,rfl⟩
   by_cases A:t.bY=0
   rotate_left
   · refine o ?_ fun m=>?_
     · rw[d,if_neg (by rw[i];simp[A])]
     · rw[g,uM,if_neg (by simpa using A)];exact⟨_,rfl⟩
   have hv:=Y9 p.cv l n t.Var (by have:=K.z;omega) K.p
   rw[if_pos (by rw[i];simp[B,A]),se,hv.1] at d
   simp only[aQ,ax] at d
   have g:∀ m,wk t l n p fn m=if decide (t.Var∈iy l)=true then(if decide ((t.bk.length:Int)>0) then(aR t ⟨l,n⟩ p fn m 0 (-1) m) else(some (Sum.inr (Sum.inl ())))) else(some (Sum.inr (Sum.inl ()))):=fun m=>by
     rw[g,uM,if_pos (by simpa using A),hv.2];rfl
   by_cases v0:t.Var∈iy l
   rotate_left
   · refine o ?_ fun m=>?_
     · rw[d,if_neg (by simpa using v0)];rfl
     · rw[g,if_neg (by simpa using v0)];exact⟨_,rfl⟩
   by_cases a0:t.bk.length=0
   · refine o ?_ fun m=>?_
     · rw[d,if_pos (by simpa using v0),if_pos (by simp[a0])];rfl
     · rw[g,if_pos (by simpa using v0),if_neg (by simp[a0])];exact⟨_,rfl⟩
   obtain⟨b,S,T⟩:=P5 p R fn t J.bu l n K G (by omega) (fun a ha l n h=>U a ha (by have:=uZ _ a ha;omega) (by have:=W a ha;rw[aY] at this;exact this.2) l n h) t.bk.length 0 (-1) rfl (bU _) (by omega) (fun _=>rfl) (fun j hj=>by omega)
   refine⟨b,?_,fun m k D hs=>?_⟩
   · rw[d,if_pos (by simpa using v0),Lw]
     rw[show dR p fn t ⟨l,n⟩ 0=some b from S]
     cases b<;>rfl
   · have:=T m m k D (by rw[fy];omega)
     rw[fy] at this
     have C:=g m
     rw[if_pos (by simpa using v0),uM] at C
     have H:al t=G9 t.bk:=by rw[IA,if_neg (by omega),vA B.1,Fb,nD,jU]
     rw[C,H]
     exact this
 rw[if_neg (show ¬ decide (t.Op=1)=true by simpa using c1)] at d
 by_cases c2:t.Op=2
 · have i:s7 t=((decide (t.Var=0)&&decide (t.bk.length=0))&&(decide (t.bY=0)&&decide (t.bf.length=0))):=by simp[s7,c2]
   have g:∀ m,wk t l n p fn m=if decide (t.bk.length+t.bf.length=0)=true then(if decide (t.Var=0) then(if decide (t.bY=0) then(if decide (2≤(t.Kids.length:Int)) then(if decide ((t.Kids.length:Int)≤16) then(bh t ⟨l,n⟩ p fn m 0 m) else(some (Sum.inr (Sum.inl ())))) else(some (Sum.inr (Sum.inl ())))) else(some (Sum.inr (Sum.inl ())))) else(some (Sum.inr (Sum.inl ())))) else(some (Sum.inr (Sum.inl ()))):=fun m=>by
     rw[wk,aS,if_pos (by simpa using G),if_pos (by simp[c2]),if_pos (by simp[c2]),if_neg (by simpa using c1),if_pos (by simpa using c2),if_pos fQ]
     have:decide ((t.bk.length:Int)+(t.bf.length:Int)=0)=decide (t.bk.length+t.bf.length=0):=by simp only[decide_eq_decide];omega
     rw[this]
   rw[if_pos (show decide (t.Op=2)=true by simpa using c2),JL] at d
   simp only[aQ,ax] at d
   by_cases B:t.bk.length=0∧t.bf.length=0
   rotate_left
   · refine o ?_ fun m=>?_
     · rw[d,if_neg (by rw[i];simp only[aY,decide_eq_true_eq];omega)]
     · rw[g,Lw];exact⟨_,rfl⟩
   by_cases v0:t.Var=0
   rotate_left
   · refine o ?_ fun m=>?_
     · rw[d,if_neg (by rw[i];simp[v0])]
     · rw[g,uM,if_neg (by simpa using v0)];exact⟨_,rfl⟩
   by_cases A:t.bY=0
   rotate_left
   · refine o ?_ fun m=>?_
     · rw[d,if_neg (by rw[i];simp[A])]
     · rw[g,uM,if_pos (by simpa using v0),if_neg (by simpa using A)];exact⟨_,rfl⟩
   rw[if_pos (by rw[i];simp[B,A,v0])] at d
   have g:∀ m,wk t l n p fn m=(if decide (2≤(t.Kids.length:Int)) then(if decide ((t.Kids.length:Int)≤16) then(bh t ⟨l,n⟩ p fn m 0 m) else(some (Sum.inr (Sum.inl ())))) else(some (Sum.inr (Sum.inl ())))):=fun m=>by
     rw[g,uM,if_pos (by simpa using v0),if_pos (by simpa using A)]
   by_cases E:2≤(t.Kids.length:Int)
   rotate_left
   · refine o ?_ fun m=>?_
     · rw[d,Lx]
     · rw[g,if_neg (by simpa using E)];exact⟨_,rfl⟩
   by_cases I:(t.Kids.length:Int)≤16
   rotate_left
   · refine o ?_ fun m=>?_
     · rw[d,Lx]
     · rw[g,if_pos (by simpa using E),if_neg (by simpa using I)];exact⟨_,rfl⟩
   obtain⟨b,S,T⟩:=Ww p fn t l n (by omega) (fun x hx=>ih x hx (by have:=uY _ x hx;omega) (X x hx) l n K) t.Kids.length 0 rfl (bU _)
   refine⟨b,?_,fun m k D hs=>?_⟩
   · rw[d,ad9]
     exact S
   · have:=T m m k D (by rw[fy];omega)
     rw[fy] at this
     have C:=g m
     rw[if_pos (by simpa using E),if_pos (by simpa using I)] at C
     have H:al t=Fb t.Kids:=by rw[IA,if_neg (by omega),vA B.1,G9,nD,jU]
     rw[C,H]
     exact this
 rw[if_neg (show ¬ decide (t.Op=2)=true by simpa using c2)] at d
 by_cases c3:t.Op=3
 · have i:s7 t=((decide (t.Var=0)&&decide (t.bk.length=0))&&decide (t.Kids.length=0)):=by simp[s7,c3]
   have g:∀ m,wk t l n p fn m=if decide (t.bk.length+t.Kids.length=0)=true then(if decide (t.Var=0) then(if decide (0≤t.bY) then(if decide ((t.bY:Int)<(p.aF.length:Int)) then(bQ p.aF t.bY>>=fun O=>if decide ((O.vt:Int)=fn) then(bQ p.aF t.bY>>=fun Q=>jy ⟨l,n⟩ Q>>=fun u=>if u.2 then(dD u.1 t.bf>>=fun w=>if w then(if cy .i64 (((iJ m t.bY).getD 0)+1) then(some (Sum.inl (ky m t.bY (((iJ m t.bY).getD 0)+1)))) else none) else(some (Sum.inr (Sum.inl ())))) else(some (Sum.inr (Sum.inl ())))) else(some (Sum.inr (Sum.inl ())))) else(some (Sum.inr (Sum.inl ())))) else(some (Sum.inr (Sum.inl ())))) else(some (Sum.inr (Sum.inl ())))) else(some (Sum.inr (Sum.inl ()))):=fun m=>by
     rw[wk,aS,if_pos (by simpa using G),if_pos (by simp[c3]),if_pos (by simp[c3]),if_neg (by simpa using c1),if_neg (by simpa using c2),if_pos (by simpa using c3),if_pos fQ]
     have:decide ((t.bk.length:Int)+(t.Kids.length:Int)=0)=decide (t.bk.length+t.Kids.length=0):=by simp only[decide_eq_decide];omega
     rw[this]
   rw[if_pos (show decide (t.Op=3)=true by simpa using c3),Wv p t.bY (by omega)] at d
   simp only[aQ,ax] at d g
   by_cases B:t.bk.length=0∧t.Kids.length=0
   rotate_left
   · refine o ?_ fun m=>?_
     · rw[d,if_neg (by rw[i];simp only[aY,decide_eq_true_eq];omega)]
     · rw[g,Lw];exact⟨_,rfl⟩
   by_cases v0:t.Var=0
   rotate_left
   · refine o ?_ fun m=>?_
     · rw[d,if_neg (by rw[i];simp[v0])]
     · rw[g,uM,if_neg (by simpa using v0)];exact⟨_,rfl⟩
   rw[if_pos (by rw[i];simp[B,v0])] at d
   by_cases E:0≤t.bY
   rotate_left
   · refine o ?_ fun m=>?_
     · rw[d,Lx]
     · rw[g,uM,if_pos (by simpa using v0),if_neg (by simpa using E)];exact⟨_,rfl⟩
   by_cases I:t.bY<(p.aF.length:Int)
   rotate_left
   · refine o ?_ fun m=>?_
     · rw[d,Lx]
     · rw[g,uM,if_pos (by simpa using v0),if_pos (by simpa using E),if_neg (by simpa using I)];exact⟨_,rfl⟩
   obtain⟨r,hr,hrm⟩:=yk E I
   rw[ad9,hr] at d
   simp only[ax] at d
   have g:∀ m,wk t l n p fn m=if decide (r.vt=fn)=true then(jy ⟨l,n⟩ r).bind fun u=>if u.2 then((dD u.1 t.bf).bind fun w=>if w then(if cy .i64 (((iJ m t.bY).getD 0)+1) then(some (Sum.inl (ky m t.bY (((iJ m t.bY).getD 0)+1)))) else none) else(some (Sum.inr (Sum.inl ())))) else(some (Sum.inr (Sum.inl ()))) else(some (Sum.inr (Sum.inl ()))):=fun m=>by
     rw[g,uM,if_pos (by simpa using v0),if_pos (by simpa using E),if_pos (by simpa using I),hr];rfl
   by_cases hf:r.vt=fn
   rotate_left
   · refine o ?_ fun m=>?_
     · rw[d,if_pos (by simpa using hf)]
     · rw[g,if_neg (by simpa using hf)];exact⟨_,rfl⟩
   have h4:J.bu≤4:=by
     rcases FV p.cv.bp fn with⟨q1,q2,_⟩ | ⟨_,q⟩
     · obtain⟨y,e,hy⟩:=yk q1 q2
       rw[hx] at e
       simp only[ba] at e
       exact e▸(R.fa y hy).2
     · rw[hx] at q;cases q
   obtain⟨a,b,c,ea,eb,ec⟩:=Ws K r (R.rb r hrm) (by rw[po,hf,hx];simp) h4
   rw[if_neg (by simpa using hf),ea] at d
   simp only[ax] at d
   have g:∀ m,wk t l n p fn m=if b=true then((dD c t.bf).bind fun w=>if w then(if cy .i64 (((iJ m t.bY).getD 0)+1) then(some (Sum.inl (ky m t.bY (((iJ m t.bY).getD 0)+1)))) else none) else(some (Sum.inr (Sum.inl ())))) else(some (Sum.inr (Sum.inl ()))):=fun m=>by
     rw[g,if_pos (by simpa using hf),eb];rfl
   cases b with
   | false=>exact o (by rw[d];rfl) fun m=>by rw[g];exact⟨_,rfl⟩
   | true=>
     have hac:a=c:=ec rfl
     subst hac
     simp only[if_true,DH a t.bf (by omega),Mo a t.bf (by omega),ax] at d g
     by_cases e:a=t.bf
     rotate_left
     · exact o (by rw[d];simp[e]) fun m=>by rw[g,if_neg (by simpa using e)];exact⟨_,rfl⟩
     refine⟨true,by rw[d];simp[e],fun m k D hs=>?_⟩
     have hc:=lj D t.bY
     have:=List.count_le_length (a:=t.bY) (l:=k)
     rw[if_pos rfl,g,if_pos (by simpa using e),if_pos fQ,IA,if_pos c3,vA B.1,vA B.2,G9,Fb,nD,nD]
     exact⟨_,rfl,OQ D t.bY⟩
 rw[if_neg (show ¬ decide (t.Op=3)=true by simpa using c3)] at d
 by_cases c4:t.Op=4
 · have i:s7 t=((decide (t.Var=0)&&decide (t.bk.length=0))&&decide (t.Kids.length=0)&&(decide (t.bY=0)&&decide (t.bf.length=0))):=by simp[s7,c4]
   have g:∀ m,wk t l n p fn m=if decide (t.bk.length+t.Kids.length+t.bf.length=0)=true then(if decide (t.Var=0) then(if decide (t.bY=0) then(some (Sum.inl m)) else(some (Sum.inr (Sum.inl ())))) else(some (Sum.inr (Sum.inl ())))) else(some (Sum.inr (Sum.inl ()))):=fun m=>by
     rw[wk,aS,if_pos (by simpa using G),if_pos (by simp[c4]),if_pos (by simp[c4]),if_neg (by simpa using c1),if_neg (by simpa using c2),if_neg (by simpa using c3),if_pos (by simpa using c4),if_pos fQ,if_pos fQ]
     have:decide ((t.bk.length:Int)+(t.Kids.length:Int)+(t.bf.length:Int)=0)=decide (t.bk.length+t.Kids.length+t.bf.length=0):=by simp only[decide_eq_decide];omega
     rw[this]
   by_cases B:t.bk.length=0∧t.Kids.length=0∧t.bf.length=0
   rotate_left
   · refine o ?_ fun m=>?_
     · rw[d,if_neg (by rw[i];simp only[aY,decide_eq_true_eq];omega)]
     · rw[g,Lw];exact⟨_,rfl⟩
   by_cases v0:t.Var=0
   rotate_left
   · refine o ?_ fun m=>?_
     · rw[d,if_neg (by rw[i];simp[v0])]
     · rw[g,uM,if_neg (by simpa using v0)];exact⟨_,rfl⟩
   by_cases A:t.bY=0
   rotate_left
   · refine o ?_ fun m=>?_
     · rw[d,if_neg (by rw[i];simp[A])]
     · rw[g,uM,if_pos (by simpa using v0),if_neg (by simpa using A)];exact⟨_,rfl⟩
   refine⟨true,by rw[d,if_pos (by rw[i];simp[B,A,v0]),if_pos (by simpa using c4)],fun m k D hs=>?_⟩
   rw[if_pos rfl,g,uM,if_pos (by simpa using v0),if_pos (by simpa using A),IA,if_neg c3,vA B.1,vA B.2.1,G9,Fb]
   exact⟨m,rfl,by simpa using D⟩
 rw[if_neg (show ¬ decide (t.Op=4)=true by simpa using c4)] at d
 refine o (by rw[d];split<;>rfl) fun m=>?_
 rw[wk,aS,if_pos (by simpa using G)]
 by_cases q:1≤t.Op
 · rw[if_pos (by simpa using q),Lw];exact⟨_,rfl⟩
 · rw[if_neg (by simpa using q)];exact⟨_,rfl⟩
def j3 (f:Int):List bn→Int→LI
 | [],_=>[]
 | r::l,i=>(if r.vt=f then [i] else [])++j3 f l (i+1)
theorem Mp (f:Int):∀(l:List bn) (i x:Int),x∈j3 f l i→i≤x∧x<i+l.length
 | [],_,_,h=>by simp[j3] at h
 | r::l,i,x,h=>by
   simp only[j3,dG] at h
   simp only[lI]
   rcases h with h | h
   · split at h
     · simp at h;omega
     · simp at h
   · have:=Mp f l (i+1) x h;omega
theorem Gt (f:Int):∀(l:List bn) (i:Int),(j3 f l i).Nodup
 | [],_=>List.nodup_nil
 | r::l,i=>by
   have h:=Gt f l (i+1)
   simp only[j3]
   split
   · exact rj.2 ⟨fun q=>by have:=Mp f l (i+1) i q;omega,h⟩
   · exact h
theorem Mq (f:Int):∀(l:List bn) (i:Int),(j3 f l i).length≤l.length
 | [],_=>bJ _
 | r::l,i=>by
   have h:=Mq f l (i+1)
   simp only[j3,nv,lI]
   split<;>simp<;>omega
theorem Q7 (L:List bn)(f:Int)(g:L.length≤1000){F1:Int→Option LI}(h1:∀ i:Int,F1 i=if decide (i<(L.length:Int)) then(bQ L i>>=fun x=>if decide ((x.vt:Int)=f) then(if cy .i64 (i+1) then F2 (i+1) [i] else none) else(if cy .i64 (i+1) then F1 (i+1) else none)) else some [])(h2:∀(i:Int) (l:LI),F2 i l=if decide (i<(L.length:Int)) then(bQ L i>>=fun x=>if decide ((x.vt:Int)=f) then(if decide (l.length+[i].length≤1048576) then(if cy .i64 (i+1) then F2 (i+1) (l++[i]) else none) else none) else(if cy .i64 (i+1) then F2 (i+1) l else none)) else some l):F1 0=some (j3 f L 0):=by
 have k2:∀(d i:Nat) (l:LI),L.length-i=d→i≤L.length→l.length≤i→F2 (i:Int) l=some (l++j3 f (L.drop i) i):=by
   intro d
   induction d with
   | zero=>
     intro i l b hi g
     rw[h2,iT,show i=L.length by omega,dP,j3,nD]
   | succ d a=>
     intro i l b hi j
     have h:i<L.length:=by omega
     rw[h2,eu,aU h,cW h,j3]
     simp only[aQ,ax]
     rw[if_pos fQ,if_pos fQ,tA]
     by_cases c:L[i].vt=f
     · rw[if_pos (by simpa using c),eu,if_pos c,a (i+1) _ (by omega) (by omega) (by simp;omega),nu]
     · rw[if_neg (by simpa using c),if_neg c,a (i+1) _ (by omega) (by omega) (by omega),jU]
 suffices q:∀(d i:Nat),L.length-i=d→i≤L.length→F1 (i:Int)=some (j3 f (L.drop i) i) by exact q L.length 0 rfl (bU _)
 intro d
 induction d with
 | zero=>
   intro i b hi
   rw[h1,iT,show i=L.length by omega,dP,j3]
 | succ d a=>
   intro i b hi
   have h:i<L.length:=by omega
   rw[h1,eu,aU h,cW h,j3]
   simp only[aQ,ax]
   rw[if_pos fQ,if_pos fQ,tA]
   by_cases c:L[i].vt=f
   · rw[if_pos (by simpa using c),if_pos c,k2 _ (i+1) _ rfl (by omega) (by simp)]
   · rw[if_neg (by simpa using c),if_neg c,a (i+1) (by omega) (by omega),jU]
theorem SN (p:aL)(f:Int)(a:p.aF.length≤1000):yA p f=some (j3 f p.aF 0):=by
 rw[yA];exact Q7 p.aF f a (F2:=kI p f) (fun i=>by rw[nV]) (fun i l=>by rw[kI])
theorem SO {p:aL}(hs:pA p=true)(a:Good p)(f:Int)(c:0≤f)(h1:f<p.cv.bp.length):nI p f=some (j3 f p.aF 0,0):=by
 have b:=(Bx hs).2.2.2
 have d:=a.r
 have g:AL p f=some (j3 f p.aF 0):=by
   rw[AL];exact Q7 p.aF f (by omega) (F2:=nS p f) (fun i=>by rw[sg]) (fun i l=>by rw[nS])
 rw[nI,eu,a.cs]
 simp only[aQ,ax]
 rw[if_pos (by decide)]
 refine(pk (l:=p.aF) (q:=fun _=>true) (e:=some (j3 f p.aF 0,0)) (f:=none) (jR p f) (fun i hi=>?_) ?_).trans (by simp)
 · have hx:=cM hi
   rw[jR,eu,aU hi]
   simp only[aQ,ax,QX a.cs _ (b _ hx).1 (b _ hx).2,a.rb _ hx]
   rw[if_pos trivial,if_pos fQ,if_pos trivial]
 all_goals simp_all[jR]
theorem Mr {a b:LI}(ha:a.Nodup)(h:∀ x,x∈a→x∈b):a.length≤b.length:=by
 have:=(EW (r:=a) (l:=b.filter fun x=>decide (x∈a)) ha fun x=>by simp_all).1
 exact lH this (List.length_filter_le _ _)
theorem Zg {m:MC}{l own:LI}(h:CM m l)(g:own.Nodup):(l.length=own.length∧∀ x,x∈own→x∈l)↔(m.length=own.length∧∀ x,x∈own→(iJ m x).getD 0=1):=by
 have d:∀ x,x∈m.map (·.1)↔x∈l:=fun x=>by
   simp only[iB]
   constructor
   · rintro⟨⟨y,c⟩,q,rfl⟩;exact((h.2 y c).1 q).1
   · exact fun q=>⟨(x,(l.count x:Int)),(h.2 x _).2 ⟨q,rfl⟩,rfl⟩
 have i:=EW h.1 d
 rw[rf] at i
 constructor
 · rintro⟨e,s⟩
   have h1:=Mr g fun x hx=>(d x).2 (s x hx)
   rw[rf] at h1
   have j:l.Nodup:=i.2.1 (by omega)
   refine⟨by omega,fun x hx=>?_⟩
   rw[lj h,j.count,if_pos (s x hx)];rfl
 · rintro⟨e,s⟩
   have s2:∀ x,x∈own→x∈l:=fun x hx=>by
    have:=s x hx
    rw[lj h] at this
    exact List.count_pos_iff.1 (by omega)
   have j:l.Nodup:=List.nodup_iff_count.2 fun x=>by
    by_cases c:x∈l
    · by_cases c2:x∈own
      · have:=s x c2;rw[lj h] at this;omega
      · have:=Mr (a:=x::own) (b:=m.map (·.1)) (rj.2 ⟨c2,g⟩) fun y hy=>(d y).2 (by
         rcases cF.1 hy with rfl | hy
         · exact c
         · exact s2 y hy)
        simp at this;omega
    · rw[vG.2 c];omega
   simp_all
theorem Wx (f:bA)(hs:rG f=true)(u:Good f.Prog)(D:f.bP.length=f.Prog.cv.bp.length)(i:Nat)(hi:i<f.bP.length) :
   ∃ b,xB f.Prog i f.bP[i]=some b∧fE f i=if b=true then fE f ((i+1:Nat):Int) else some false:=by
 simp only[rG,aY,decide_eq_true_eq,dh] at hs
 obtain⟨⟨P,w⟩,E⟩:=hs
 have o:=w _ (cM hi)
 simp only[FI,aY,decide_eq_true_eq] at o
 obtain⟨a,t,A⟩:=yk (l:=f.Prog.cv.bp) (n:=(i:Int)) (by omega) (by omega)
 have ha:=u.fa a A
 have hb:=Wr f.Prog i a t ha
 have Q:=u.r
 have R:=ni f.bP[i]
 have B:=SO E u (i:Int) (by omega) (by omega)
 have S:=aeY f.bP[i]
 have G:fE f i=(match zx (qn f.bP[i]) with
     | .inl _=>(wk f.bP[i] (tC (qo 0 a.bu)) a.bu f.Prog i []>>=fun v=>match v with
       | (Sum.inl y)=>if(!decide ((y.length:Int)=((j3 i f.Prog.aF 0).length:Int))) then(some false) else(gi f (j3 i f.Prog.aF 0) ((j3 i f.Prog.aF 0).length:Int) 0 i y)
       | (Sum.inr _)=>some false)
     | .inr _=>some false):=by
   rw[fE,eu,aU hi]
   simp only[aQ,ax,SM (i:Int) f.Prog f.bP[i] false f.bP[i] (by omega) 0 (by omega) (by omega),Int.zero_add,hb.2,B,wk]
   cases zx (qn f.bP[i]) with
   | inr _=>rfl
   | inl c=>
     simp only[]
     cases aS f.bP[i] ⟨tC (qo 0 a.bu),a.bu⟩ f.Prog i [] with
     | none=>rfl
     | some v=>rcases v with v | v | v<;>rfl
 have H:xB f.Prog i f.bP[i]=if qn f.bP[i]≤100 then(dU f.Prog i f.bP[i] ⟨tC (qo 0 a.bu),a.bu⟩>>=fun v=>if v=true then(if(!decide (((al f.bP[i]).length:Int)=((j3 i f.Prog.aF 0).length:Int))) then(some false) else(kT (al f.bP[i]) (j3 i f.Prog.aF 0) 0)) else some false) else some false:=by
   rw[xB,zU,I9 f.bP[i] 100 100 (by omega) (by omega) (by omega)]
   simp only[aQ,ax,all_eq f.bP[i] (show qn f.bP[i]≤1000 by omega),SN f.Prog (i:Int) (show f.Prog.aF.length≤1000 by omega),hb.1]
   by_cases z:qn f.bP[i]≤100
   · rw[if_pos z,if_pos (show qn f.bP[i]≤100∧Lj f.bP[i]≤100 by omega),uM]
     cases dU f.Prog i f.bP[i] ⟨tC (qo 0 a.bu),a.bu⟩ with
     | none=>rfl
     | some v=>cases v<;>rfl
   · rw[if_neg z,if_neg (show ¬ (qn f.bP[i]≤100∧Lj f.bP[i]≤100) by omega),if_neg (by decide)];rfl
 rw[G,H]
 by_cases z:qn f.bP[i]≤100
 rotate_left
 · rw[if_neg z,zx,if_neg z]
   exact⟨false,rfl,rfl⟩
 rw[if_pos z,zx,if_pos z]
 simp only[]
 obtain⟨b,I,g⟩:=P6 f.Prog u i a t f.bP[i] (by omega) o.2 _ _ (Wq f.Prog.cv a.bu ha)
 have g:=g [] [] OP (by simp;omega)
 rw[I]
 simp only[aQ,ax]
 cases b with
 | false=>
   rw[if_neg (by decide)] at g
   obtain⟨y,g⟩:=g
   rw[g]
   exact⟨false,rfl,rfl⟩
 | true=>
   rw[if_pos rfl] at g
   obtain⟨m,g,C⟩:=g
   rw[jU] at C
   rw[g]
   simp only[ax,if_true]
   have N:=xu f.bP[i]
   have O:=Mq (i:Int) f.Prog.aF 0
   have h:=Zg C (Gt (i:Int) f.Prog.aF 0)
   have t1:kT (al f.bP[i]) (j3 i f.Prog.aF 0) 0=some ((j3 i f.Prog.aF 0).all fun x=>decide (x∈al f.bP[i])):=
     (ou (l:=j3 i f.Prog.aF 0) (p:=fun x=>yi (al f.bP[i]) x) (fun x=>decide (x∈al f.bP[i])) (e:=some true) (kT (al f.bP[i]) (j3 i f.Prog.aF 0)) (fun j=>by rw[kT]) (fun x _=>Q1 _ x (by omega)) (by omega)).trans (yM _)
   have t2:gi f (j3 i f.Prog.aF 0) ((j3 i f.Prog.aF 0).length:Int) 0 i m=if((j3 i f.Prog.aF 0).all fun x=>decide ((iJ m x).getD 0=1))=true then fE f ((i+1:Nat):Int) else some false:=by
     refine pk (l:=j3 i f.Prog.aF 0) (q:=fun x=>decide ((iJ m x).getD 0=1)) (fun j=>gi f (j3 i f.Prog.aF 0) ((j3 i f.Prog.aF 0).length:Int) j i m) (fun j J=>?_) ?_
     · rw[gi,eu,aU J]
       simp only[aQ,ax]
       rw[if_pos fQ,if_pos (show decide ((j:Int)≥0)=true by simp)]
     · rw[gi,if_neg (by simp),if_pos fQ];rfl
   rw[t1,t2]
   refine⟨decide ((al f.bP[i]).length=(j3 i f.Prog.aF 0).length)&&(j3 i f.Prog.aF 0).all fun x=>decide (x∈al f.bP[i]),?_,?_⟩
   · by_cases c:(al f.bP[i]).length=(j3 i f.Prog.aF 0).length
     · rw[iT];simp[c]
     · rw[eu];simp[c]
   · by_cases c:m.length=(j3 i f.Prog.aF 0).length∧∀ x,x∈j3 i f.Prog.aF 0→(iJ m x).getD 0=1
     · obtain⟨K,M⟩:=h.2 c
       rw[iT,if_pos (dh.2 fun x hx=>by simpa using c.2 x hx),if_pos (by rw[aY,dh];exact⟨by simpa using K,fun x hx=>by simpa using M x hx⟩)]
     · have d:¬ (decide ((al f.bP[i]).length=(j3 i f.Prog.aF 0).length)&&(j3 i f.Prog.aF 0).all fun x=>decide (x∈al f.bP[i]))=true:=fun q=>c (h.1 (by
        rw[aY,dh] at q
        exact⟨by simpa using q.1,fun x hx=>by simpa using q.2 x hx⟩))
       rw[if_neg d]
       by_cases c1:m.length=(j3 i f.Prog.aF 0).length
       · rw[iT,if_neg fun q=>c ⟨c1,fun x hx=>by simpa using dh.1 q x hx⟩]
       · rw[eu]
theorem Wy (f:bA)(hs:rG f=true):∃ b,xC f=some b∧tp f=some b∧kV f=some (if b=true then 0 else 2)∧(b=true→Good f.Prog):=by
 have m:pA f.Prog=true:=by simp_all[rG]
 obtain⟨o,r,_,a2,a3⟩:=Y5 m
 suffices q:∃ b,xC f=some b∧tp f=some b∧(b=true→Good f.Prog) by
   obtain⟨b,c,q2,q3⟩:=q
   refine⟨b,c,q2,?_,q3⟩
   rw[kV,q2];cases b<;>rfl
 rw[xC,tp,r,a2]
 simp only[aQ,ax]
 cases o with
 | false=>simp_all
 | true=>
   obtain⟨t,u,w,x,y,z,A⟩:=a3 rfl
   have j:Good f.Prog:=⟨u,w,x,y,z,A,t⟩
   rw[if_pos (show true=true from rfl)]
   simp only[if_true,show(!decide ((0:Int)=0))=false from rfl,dL,if_false]
   by_cases a:f.bP.length=f.Prog.cv.bp.length
   · have g:(!decide ((f.bP.length:Int)=(f.Prog.cv.bp.length:Int)))=false:=by simp;omega
     simp only[g,dL,if_false]
     suffices q:∀ d i:Nat,f.bP.length-i=d→i≤f.bP.length→∃ b,lY f i=some b∧fE f i=some b by
       obtain⟨b,c,q2⟩:=q f.bP.length 0 rfl (bU _)
       exact⟨b,c,q2,fun _=>j⟩
     intro d
     induction d with
     | zero=>
       intro i B hi
       exact⟨true,by rw[lY,iT],by rw[fE,iT]⟩
     | succ d C=>
       intro i B hi
       have h:i<f.bP.length:=by omega
       have J:f.bP.length≤12:=by simp only[rG,aY,decide_eq_true_eq] at hs;exact hs.1.1
       obtain⟨b,D,E⟩:=Wx f hs j a i h
       obtain⟨G,H,I⟩:=C (i+1) (by omega) (by omega)
       refine⟨b&&G,?_,?_⟩
       · rw[lY,eu,aU h]
         simp only[aQ,ax,D]
         rw[if_pos fQ,tA,H]
         cases b<;>rfl
       · rw[E,I];cases b<;>rfl
   · have g:(!decide ((f.bP.length:Int)=(f.Prog.cv.bp.length:Int)))=true:=by simp;omega
     simp only[g,if_true]
     exact⟨false,rfl,rfl,fun q=>(by cases q)⟩
variable {f : bA}
theorem Zh (a:kV f=some 0)(b:Good f.Prog)(t:Term)(c:dE t≤1000):yD f t=some (lL f.Prog.cv t):=by
 rw[yD,a]
 simp only[aQ,ax]
 rw[if_pos (by decide),zn b.cs t (by omega)]
 simp only[ax,lL]
 by_cases g:eC f.Prog.cv t=true
 · rw[if_pos g,if_pos (by decide),Wm t (by omega),g]
   simp only[ax,iC]
   exact yM _
 all_goals simp_all
theorem Ms (l:LI):(Al l).length≤l.length:=(EV l).1
theorem aeZ (c:kV f=some 0)(a:Good f.Prog)(t:Term)(d:dE t≤1000):∃ r,Bb f t=some (r,if lL f.Prog.cv t=true then 0 else 2):=by
 rw[Bb,Zh c a t d]
 simp only[aQ,ax]
 by_cases g:lL f.Prog.cv t=true
 · have b:=aeU _ t g
   have h:dE t≤40:=by simp_all[lL,eC]
   obtain ⟨r,e⟩:=ajT t b h (kA (Al (fr t)),0) (fun x hx=>Wo t b x ((rF _ x).1 ((Ja _ x).1 hx))) (by
    have h1:=(List.mergeSort_perm (Al (fr t)) (fun x y=>decide (x≤y))).length_eq
    have h2:=Ms (fr t)
    have h3:=OS t
    have h4:(kA (Al (fr t))).length=(Al (fr t)).length:=h1
    simp only[h4];omega)
   rw[if_pos g,if_pos g,wg a.cs t g]
   exact⟨r,e⟩
 all_goals simp_all
theorem SP (t:Term):dE t≤1000000→da t=some t:=by
 refine fX (P:=fun t=>dE t≤1000000→da t=some t) (fun t a b=>?_) t
 have c:=dZ t.Kids
 rw[eJ] at b
 rw[da]
 have:=RF t.Kids id da (fun x hx=>a x hx (by have:=c.2 x hx;omega)) (by omega) (F1:=ll t) (F2:=gF t) (e:=fun l=>some (Term.mk t.Op t.N l)) (by rw[ll]) (fun i l=>by rw[gF])
 rw[this,List.map_id]
 cases t;rfl
theorem yl (a b c:Int):vE a b c=some (decide (b≤a)&&decide (a≤c)):=by
 simp only[vE]
 by_cases h:b≤a
 · by_cases h2:a≤c<;>simp[h,h2]
 · simp[h]
theorem Mt (t:Term)(a:Int)(b:dE t≤900):vL t a=some (decide (a∈fr t)):=by
 obtain⟨w,e,d,c,g⟩:=AM t b
 rw[vL,e]
 simp only[aQ,ax]
 refine(pk (l:=w) (q:=fun x => !decide (x=a)) (e:=some false) (f:=some true) (nR a w) (fun i hi=>?_) (by rw[nR,if_neg (by simp)])).trans (J6 w (fun x=>decide (x=a)) _ (by simp[c]))
 rw[nR,eu,aU hi]
 simp only[aQ,ax]
 rw[if_pos fQ]
 simp_all
def tD : aj:=aj.mk 0 0 ([]:List aC)
noncomputable def De (a0:bA)(a:aj)(a2:Int):Option (aj×Int):=
 if decide (a2<0) then(some (tD,2)) else(if cy .i64 ((a.Steps.length:Int)-1) then(if decide (a2≥((a.Steps.length:Int)-1)) then(some (tD,2)) else(bQ a.Steps a2>>=fun b=>if cy .i64 (a2+1) then(bQ a.Steps (a2+1)>>=fun c=>mu a0.Prog.cv c.Expr>>=fun Jt=>cL Jt.1 b.Var>>=fun d=>if d then(some (tD,7)) else(if cy .i64 (a2+1) then(bQ a.Steps (a2+1)>>=fun g=>bQ a.Steps a2>>=fun h=>mu a0.Prog.cv h.Expr>>=fun i=>cL i.1 g.Var>>=fun j=>if j then(some (tD,7)) else(lE a a2)) else none)) else none)) else none)
theorem Wz (f:bA)(p:aj)(i:Nat)(x:aC)(hi:i≤p.Steps.length)(h:p.Steps.length≤1000):jW f p i x 0=if decide (x.Var∈(p.Steps.take i).map aC.Var)=true then some false else gh f p ((i+1:Nat):Int):=by
 have:=pk (l:=p.Steps.take i) (q:=fun y => !decide (y.Var=x.Var)) (e:=gh f p ((i+1:Nat):Int)) (f:=some false) (fun j=>jW f p i x j) (fun j g=>by
   have a:j<i:=by simp at g;omega
   have b:j<p.Steps.length:=by omega
   rw[jW,if_pos (by simpa using a),aU b]
   simp only[aQ,ax,List.getElem_take]
   rw[if_pos fQ]
   by_cases c:p.Steps[j].Var=x.Var
   · simp[c]
   · simp[c]) (by
   rw[jW,iT,if_pos fQ];rfl)
 rw[this]
 by_cases c:x.Var∈(p.Steps.take i).map aC.Var
 · obtain⟨y,hy,e⟩:=iB.1 c
   have d:¬ ((p.Steps.take i).all fun y => !decide (y.Var=x.Var))=true:=fun q=>by
    simp_all
   simp_all[if_neg]
 · have d:((p.Steps.take i).all fun y => !decide (y.Var=x.Var))=true:=dh.2 fun y hy=>by
    have:¬ y.Var=x.Var:=fun e=>c (iB.2 ⟨y,hy,e⟩)
    simp[this]
   rw[if_pos d,if_neg (by simpa only[decide_eq_true_eq] using c)]
theorem SQ (A:kV f=some 0)(w:Good f.Prog)(p:aj)(k:Int)(O:p.Steps.length≤6)(B:∀ x,x∈p.Steps→dE x.Expr≤50) :
   ∀ d i:Nat,p.Steps.length-i=d→i≤p.Steps.length→∃ b,gh f p i=some b∧dN f p k i (mp ((p.Steps.take i).map aC.Var))=(if b=true then De f p k else some (tD,2))∧(b=true→∀ x,x∈p.Steps.drop i→lL f.Prog.cv x.Expr=true):=by
 intro d
 induction d with
 | zero=>
   intro i C hi
   refine⟨true,by rw[gh,iT],?_,fun _ x hx=>?_⟩
   · rw[dN,iT,if_pos rfl];rfl
   · rw[show i=p.Steps.length by omega,dP] at hx;simp at hx
 | succ d D=>
   intro i C hi
   have h:i<p.Steps.length:=by omega
   have hx:=cM h
   have P:=w.c
   have Q:=w.f
   obtain⟨y,E,G,H⟩:=D (i+1) (by omega) (by omega)
   obtain⟨r,I⟩:=aeZ A w p.Steps[i].Expr (by have:=B _ hx;omega)
   have m:gh f p i=if((decide (1≤p.Steps[i].Op)&&decide (p.Steps[i].Op≤5))&&(decide (0≤p.Steps[i].Var)&&decide (p.Steps[i].Var≤19))&&lL f.Prog.cv p.Steps[i].Expr && !decide (p.Steps[i].Var∈(p.Steps.take i).map aC.Var))=true then some y else some false:=by
    rw[gh,eu,aU h]
    simp only[aQ,ax,yl,Y7 f.Prog.cv (show f.Prog.cv.Cons.length≤1000000 by omega) (show f.Prog.cv.bp.length≤1000000 by omega),Wz f p i p.Steps[i] hi (show p.Steps.length≤1000 by omega),E]
    cases (decide (1≤p.Steps[i].Op)&&decide (p.Steps[i].Op≤5))<;>cases (decide (0≤p.Steps[i].Var)&&decide (p.Steps[i].Var≤19))<;>cases lL f.Prog.cv p.Steps[i].Expr<;>cases decide (p.Steps[i].Var∈(p.Steps.take i).map aC.Var)<;>rfl
   have g:dN f p k i (mp ((p.Steps.take i).map aC.Var))=if decide (p.Steps[i].Var<0) then some (tD,2) else(if decide (p.Steps[i].Var≥20) then some (tD,2) else(if decide (p.Steps[i].Var∈(p.Steps.take i).map aC.Var)=true then some (tD,2) else(if decide (p.Steps[i].Op<1) then some (tD,2) else(if decide (p.Steps[i].Op>5) then some (tD,2) else(if(!decide ((if lL f.Prog.cv p.Steps[i].Expr=true then(0:Int) else 2)=0))=true then some (tD,2) else dN f p k ((i+1:Nat):Int) (ky (mp ((p.Steps.take i).map aC.Var)) p.Steps[i].Var true)))))):=by
    rw[dN,eu,aU h]
    simp only[aQ,ax,I,OK]
    rw[if_pos fQ]
    rfl
   have j:True→(gh f p i=some false)→(dN f p k i (mp ((p.Steps.take i).map aC.Var))=some (tD,2))→∃ b,gh f p i=some b∧dN f p k i (mp ((p.Steps.take i).map aC.Var))=(if b=true then De f p k else some (tD,2))∧(b=true→∀ x,x∈p.Steps.drop i→lL f.Prog.cv x.Expr=true):=
    fun _ a b=>⟨false,a,by rw[b,if_neg (by decide)],fun q=>by cases q⟩
   have u:(¬ (1≤p.Steps[i].Op∧p.Steps[i].Op≤5∧0≤p.Steps[i].Var∧p.Steps[i].Var≤19))→gh f p i=some false:=fun z=>by
    rw[m,if_neg fun q=>?_]
    simp only[aY,decide_eq_true_eq] at q
    exact z ⟨q.1.1.1.1,q.1.1.1.2,q.1.1.2.1,q.1.1.2.2⟩
   by_cases J:0≤p.Steps[i].Var
   rotate_left
   · exact j trivial (u (by omega)) (by rw[g,uM])
   by_cases K:p.Steps[i].Var≤19
   rotate_left
   · exact j trivial (u (by omega)) (by rw[g,Lw,uM])
   rw[if_neg (show ¬ decide (p.Steps[i].Var<0)=true by simp only[decide_eq_true_eq];omega),if_neg (show ¬ decide (p.Steps[i].Var≥20)=true by simp only[decide_eq_true_eq];omega)] at g
   by_cases o:p.Steps[i].Var∈(p.Steps.take i).map aC.Var
   · exact j trivial (by rw[m,if_neg fun q=>by simp only[aY,o,decide_true,Bool.not_true,dL,and_false] at q]) (by rw[g,if_pos (by simpa only[decide_eq_true_eq] using o)])
   rw[if_neg (by simpa only[decide_eq_true_eq] using o)] at g
   by_cases M:1≤p.Steps[i].Op
   rotate_left
   · exact j trivial (u (by omega)) (by rw[g,uM])
   by_cases N:p.Steps[i].Op≤5
   rotate_left
   · exact j trivial (u (by omega)) (by rw[g,Lw,uM])
   rw[if_neg (show ¬ decide (p.Steps[i].Op<1)=true by simp only[decide_eq_true_eq];omega),if_neg (show ¬ decide (p.Steps[i].Op>5)=true by simp only[decide_eq_true_eq];omega)] at g
   by_cases t:lL f.Prog.cv p.Steps[i].Expr=true
   rotate_left
   · exact j trivial (by rw[m,if_neg fun q=>by simp only[aY] at q;exact t q.1.2]) (by rw[g,if_neg t,if_pos (by decide)])
   rw[if_pos (by simp only[aY,decide_eq_true_eq,xn,decide_eq_false_iff_not];exact⟨⟨⟨⟨M,N⟩,J,K⟩,t⟩,o⟩)] at m
   rw[if_pos t,if_neg (by decide),OL _ _ o,show(p.Steps.take i).map aC.Var++[p.Steps[i].Var]=(p.Steps.take (i+1)).map aC.Var by rw[Ck h,OB];rfl] at g
   refine⟨y,m,g.trans G,fun q x hx=>?_⟩
   rw[cW h] at hx
   rcases cF.1 hx with rfl | hx
   · exact t
   · exact H q x hx
theorem WA (T D:List aC)(y x:aC)(a b:Int)(c d:Bool)(h1:c=true)(h2:d=true)(m:T.length≤1000)(o:D.length≤1000):(if T.isEmpty=true then(if c=true then(if d=true then(if D.isEmpty=true then(some ((aj.mk a b [y,x]),(0:Int))) else(if decide ([y,x].length+D.length≤1048576)=true then(some ((aj.mk a b ([y,x]++D)),0)) else none)) else none) else none) else(if decide (T.length≤1048576)=true then(if decide (T.length+[y,x].length≤1048576)=true then(if c=true then(if d=true then(if D.isEmpty=true then(some ((aj.mk a b (T++[y,x])),0)) else(if decide ((T++[y,x]).length+D.length≤1048576)=true then(some ((aj.mk a b ((T++[y,x])++D)),0)) else none)) else none) else none) else none) else none))=some (aj.mk a b (T++y::x::D),0):=by
 rw[if_pos h1,if_pos h1,if_pos h2,if_pos h2]
 have g:decide ([y,x].length+D.length≤1048576)=true:=by simp;omega
 have h:decide (T.length≤1048576)=true:=by simp;omega
 have i:decide (T.length+[y,x].length≤1048576)=true:=by simp;omega
 have j:decide ((T++[y,x]).length+D.length≤1048576)=true:=by simp;omega
 rw[if_pos g,if_pos h,if_pos i,if_pos j]
 cases T<;>simp_all
def IB (a:aj)(a2:Int):Option (aj×Int):=
 if cy .i64 ((a.Steps.length:Int)-2) then(vE a2 0 ((a.Steps.length:Int)-2)>>=fun d=>if d then(bQ a.Steps a2>>=fun b=>if cy .i64 (a2+1) then(bQ a.Steps (a2+1)>>=fun c=>vL b.Expr c.Var>>=fun v5=>if v5 then(some ((aj.mk 0 0 ([]:List aC)),7)) else(vL c.Expr b.Var>>=fun g=>if g then(some ((aj.mk 0 0 ([]:List aC)),7)) else(if decide (0≤a2∧a2≤(a.Steps.length:Int)) then(if(a.Steps.take (a2:Int).toNat).isEmpty then(if cy .i64 (a2+2) then(if decide (0≤(a2+2)∧(a2+2)≤(a.Steps.length:Int)) then(if(a.Steps.drop ((a2+2):Int).toNat).isEmpty then(some ((aj.mk a.Nil a.Cons [c,b]),0)) else(if decide ([c,b].length+(a.Steps.drop ((a2+2):Int).toNat).length≤1048576) then(some ((aj.mk a.Nil a.Cons ([c,b]++(a.Steps.drop ((a2+2):Int).toNat))),0)) else none)) else none) else none) else(if decide ((a.Steps.take (a2:Int).toNat).length≤1048576) then(if decide ((a.Steps.take (a2:Int).toNat).length+[c,b].length≤1048576) then(if cy .i64 (a2+2) then(if decide (0≤(a2+2)∧(a2+2)≤(a.Steps.length:Int)) then(if(a.Steps.drop ((a2+2):Int).toNat).isEmpty then(some ((aj.mk a.Nil a.Cons ((a.Steps.take (a2:Int).toNat)++[c,b])),0)) else(if decide (((a.Steps.take (a2:Int).toNat)++[c,b]).length+(a.Steps.drop ((a2+2):Int).toNat).length≤1048576) then(some ((aj.mk a.Nil a.Cons (((a.Steps.take (a2:Int).toNat)++[c,b])++(a.Steps.drop ((a2+2):Int).toNat))),0)) else none)) else none) else none) else none) else none)) else none))) else none) else(some ((aj.mk 0 0 ([]:List aC)),2))) else none
theorem WB (p:aj)(k:Nat)(x y:aC)(h:k+1<p.Steps.length)(hx:p.Steps[k]=x)(hy:p.Steps[k+1]=y)(D:p.Steps.length≤6)(r:∀ x,x∈p.Steps→dE x.Expr≤50):lE p k=some (⟨p.Nil,p.Cons,p.Steps.take k++y::x::p.Steps.drop (k+2)⟩,0):=by
 have t:p.Steps.take k++y::x::p.Steps.drop (k+2)=(p.Steps.set k y).set (k+1) x:=by
   have hs:p.Steps=p.Steps.take k++x::y::p.Steps.drop (k+2):=by
     rw[←hx,←hy,←cW,←cW,List.take_append_drop]
   have m:(p.Steps.take k).length=k:=by simp;omega
   generalize p.Steps.take k=A at hs m
   generalize p.Steps.drop (k+2)=B at hs
   rw[hs,List.set_append_right _ _ (by omega),List.set_append_right _ _ (by omega),m,Nat.sub_self,show k+1-k=1 by omega]
   rfl
 rw[t]
 have d:((p.Steps.set k y).set (k+1) x).length=p.Steps.length:=by simp
 have a:∀ z,z∈p.Steps→da z.Expr=some z.Expr:=fun z g=>SP z.Expr (by have:=r z g;omega)
 have b:x∈p.Steps:=hx▸cM _
 have c:y∈p.Steps:=hy▸cM _
 have o:bQ p.Steps (k:Int)=some x:=hx▸aU (by omega)
 have q:bQ p.Steps ((k:Int)+1)=some y:=by rw[show(k:Int)+1=((k+1:Nat):Int) by omega];exact hy▸aU h
 have key:=Uq (L:=(p.Steps.set k y).set (k+1) x) id (F:=eU p k) (e:=fun l=>some (⟨p.Nil,p.Cons,l⟩,0)) (by omega) (fun i hi l j=>by
   rw[d] at hi
   rw[eU,eu,o,q]
   simp only[aQ,ax,a x b,a y c,id]
   have k1:cy .i64 ((k:Int)+1)=true:=wA (by omega) (by omega)
   have u:cy .i64 ((i:Int)+1)=true:=wA (by omega) (by omega)
   have w:decide (l.length+[(⟨y.Op,y.Var,y.Expr⟩:aC)].length≤1048576)=true:=by simp;omega
   have C:decide (l.length+[(⟨x.Op,x.Var,x.Expr⟩:aC)].length≤1048576)=true:=by simp;omega
   simp only[k1,u,w,C,if_true]
   by_cases c1:i=k
   · subst c1
     rw[if_pos (by simp),List.getElem_set_ne (by omega),List.getElem_set_self]
   · rw[iT]
     by_cases c2:i=k+1
     · subst c2
       rw[if_pos (by simp),List.getElem_set_self]
     · rw[iT,aU hi,List.getElem_set_ne (by omega),List.getElem_set_ne (by omega)]
       simp only[ax,a _ (cM hi)]
       rw[eu]) (fun l j=>by rw[eU,if_neg (by simp)])
 rw[List.map_id] at key
 rw[lE,eu,o,q,show bQ p.Steps 0=some p.Steps[0] from aU (i:=0) (by omega)]
 simp only[aQ,ax,a x b,a y c,a _ (cM (show 0<p.Steps.length by omega))]
 rw[if_pos fQ,if_pos fQ,←key]
 by_cases c1:k=0
 · subst c1
   rw[if_pos (by simp)]
   congr 2
   simp
 · rw[iT,iT]
   congr 2
   simp only[id]
   rw[List.getElem_set_ne (by omega),List.getElem_set_ne (by omega)]
theorem WC (u:Good f.Prog)(p:aj)(a:Int)(E:p.Steps.length≤6)(b:∀ x,x∈p.Steps→dE x.Expr≤50)(d:∀ x,x∈p.Steps→lL f.Prog.cv x.Expr=true) :
   ∃ o c,De f p a=some (o,c)∧IB p a=some (o,c)∧o.Steps.length≤6∧∀ x,x∈o.Steps→dE x.Expr≤50:=by
 have w:cy .i64 ((p.Steps.length:Int)-1)=true:=wA (by omega) (by omega)
 have i:cy .i64 ((p.Steps.length:Int)-2)=true:=wA (by omega) (by omega)
 by_cases j:a<0
 · refine⟨tD,2,by rw[De,if_pos (by simpa using j)],?_,by simp[tD],by simp[tD]⟩
   rw[IB,if_pos i,yl]
   simp only[aQ,ax]
   rw[Lx];rfl
 by_cases h1:a≥(p.Steps.length:Int)-1
 · refine⟨tD,2,by rw[De,if_neg (by simpa using j),if_pos w,if_pos (by simpa using h1)],?_,by simp[tD],by simp[tD]⟩
   rw[IB,if_pos i,yl]
   simp only[aQ,ax]
   rw[Lx];rfl
 obtain⟨k,rfl⟩:∃ k:Nat,a=k:=⟨a.toNat,by omega⟩
 have h:k+1<p.Steps.length:=by omega
 have A:k<p.Steps.length:=by omega
 have B:bQ p.Steps (k:Int)=some p.Steps[k]:=aU A
 have C:bQ p.Steps ((k:Int)+1)=some p.Steps[k+1]:=by rw[show(k:Int)+1=((k+1:Nat):Int) by omega];exact aU h
 have hx:=cM A
 have hy:=cM h
 have k1:cy .i64 ((k:Int)+1)=true:=wA (by omega) (by omega)
 have D:∀ t:Term,dE t≤50→(kA (Al (fr t))).length≤1000000:=fun t I=>by
   have h1:(kA (Al (fr t))).length=(Al (fr t)).length:=(List.mergeSort_perm (Al (fr t)) (fun x y=>decide (x≤y))).length_eq
   have h2:=Ms (fr t)
   have h3:=OS t
   omega
 have G:∀(t:Term) (v:Int),(v∈kA (Al (fr t)))=(v∈fr t):=fun t v=>by rw[Ja,rF]
 have eS:De f p k=if decide (p.Steps[k].Var∈fr p.Steps[k+1].Expr)=true then some (tD,7) else if decide (p.Steps[k+1].Var∈fr p.Steps[k].Expr)=true then some (tD,7) else lE p k:=by
   rw[De,if_neg (by simpa using j),if_pos w,if_neg (by simpa using h1),B,C]
   simp only[aQ,ax,k1,if_true,wg u.cs _ (d _ hx),wg u.cs _ (d _ hy),contains_eq _ _ (D _ (b _ hx)),contains_eq _ _ (D _ (b _ hy)),G]
 have H:IB p k=if decide (p.Steps[k+1].Var∈fr p.Steps[k].Expr)=true then some (tD,7) else if decide (p.Steps[k].Var∈fr p.Steps[k+1].Expr)=true then some (tD,7) else some (⟨p.Nil,p.Cons,p.Steps.take k++p.Steps[k+1]::p.Steps[k]::p.Steps.drop (k+2)⟩,0):=by
   rw[IB,if_pos i,yl]
   simp only[aQ,ax]
   rw[ad9,B,C]
   simp only[ax,k1,if_true,Mt p.Steps[k].Expr _ (show dE p.Steps[k].Expr≤900 by have:=b _ hx;omega),Mt p.Steps[k+1].Expr _ (show dE p.Steps[k+1].Expr≤900 by have:=b _ hy;omega)]
   rw[←WA (p.Steps.take k) (p.Steps.drop (k+2)) p.Steps[k+1] p.Steps[k] p.Nil p.Cons (cy .i64 ((k:Int)+2)) (decide (0≤(k:Int)+2∧(k:Int)+2≤(p.Steps.length:Int))) fQ (by simp only[decide_eq_true_eq];omega) (by simp;omega) (by simp;omega),if_pos (show decide (0≤(k:Int)∧(k:Int)≤(p.Steps.length:Int))=true by simp only[decide_eq_true_eq];omega),show((k:Int)+2).toNat=k+2 by omega,sy]
   rfl
 rw[eS,H]
 by_cases c1:p.Steps[k].Var∈fr p.Steps[k+1].Expr
 · have g:decide (p.Steps[k].Var∈fr p.Steps[k+1].Expr)=true:=by simpa only[decide_eq_true_eq] using c1
   simp only[g,if_true]
   refine⟨tD,7,rfl,?_,by simp[tD],by simp[tD]⟩
   split<;>rfl
 have g:decide (p.Steps[k].Var∈fr p.Steps[k+1].Expr)=false:=by simpa only[decide_eq_false_iff_not] using c1
 by_cases c2:p.Steps[k+1].Var∈fr p.Steps[k].Expr
 · have m:decide (p.Steps[k+1].Var∈fr p.Steps[k].Expr)=true:=by simpa only[decide_eq_true_eq] using c2
   simp only[g,m,if_true,dL,if_false]
   exact⟨tD,7,rfl,rfl,by simp[tD],by simp[tD]⟩
 have m:decide (p.Steps[k+1].Var∈fr p.Steps[k].Expr)=false:=by simpa only[decide_eq_false_iff_not] using c2
 simp only[g,m,dL,if_false]
 refine⟨_,_,WB p k _ _ h rfl rfl E b,rfl,by simp;omega,fun z r=>?_⟩
 rcases dG.1 r with q | q
 · exact b z (uq q)
 · rcases cF.1 q with rfl | q
   · exact b _ hy
   · rcases cF.1 q with rfl | q
     · exact b _ hx
     · exact b z (FA q)
theorem WD (f:bA)(p:aj)(a:Int)(hf:rG f=true)(y:yj p=true):∃ o c,qU f p a=some (o,c)∧xD f p a=some (o,c)∧o.Steps.length≤6∧∀ x,x∈o.Steps→dE x.Expr≤50:=by
 have z:∀ x,x∈p.Steps→dE x.Expr≤50:=fun x hx=>by
   simp_all[yj,aY,dh,rk,decide_eq_true_eq]
 have S:p.Steps.length≤8:=by simp only[yj,aY,decide_eq_true_eq] at y;exact y.2
 obtain⟨b,H,T,C,I⟩:=Wy f hf
 have d:∀ A B:Option (aj×Int),A=some (tD,2)→B=some (tD,2)→∃ o c,A=some (o,c)∧B=some (o,c)∧o.Steps.length≤6∧∀ x,x∈o.Steps→dE x.Expr≤50:=
   fun A B ha hb=>⟨_,_,ha,hb,by simp[tD],by simp[tD]⟩
 have eS:qU f p a=(if(!decide ((if b=true then(0:Int) else 2)=0))=true then(some (tD,2)) else(if decide ((p.Nil:Int)≥0) then(if decide ((p.Nil:Int)<(f.Prog.cv.Cons.length:Int)) then(bQ f.Prog.cv.Cons p.Nil>>=fun g=>if decide ((g.bu:Int)=0) then(if decide ((p.Cons:Int)≥0) then(if decide ((p.Cons:Int)<(f.Prog.cv.Cons.length:Int)) then(bQ f.Prog.cv.Cons p.Cons>>=fun h=>if decide ((h.bu:Int)=2) then(if decide ((p.Steps.length:Int)>6) then(some (tD,2)) else(dN f p a 0 [])) else(some (tD,2))) else(some (tD,2))) else(some (tD,2))) else(some (tD,2))) else(some (tD,2))) else(some (tD,2)))):=by
   rw[qU,C];rfl
 have J:xD f p a=if b=true then(Ba f p>>=fun K=>if K then IB p a else(some (tD,2))) else(some (tD,2)):=by
   rw[xD,H];rfl
 rw[eS,J]
 cases b with
 | false=>exact d _ _ (by rw[if_neg (show ¬ false=true by decide),if_pos (by decide)]) (by rw[if_neg (by decide)])
 | true=>
 have i:=I rfl
 have M:kV f=some 0:=by rw[C];rfl
 have U:=i.c
 rw[if_pos (show true=true from rfl),if_neg (by decide),if_pos (show true=true from rfl),Ba,if_pos fQ,yl]
 simp only[aQ,ax]
 rw[if_pos fQ,yl]
 simp only[ax]
 by_cases N:0≤p.Nil
 rotate_left
 · rw[iT,Lx]
   exact d _ _ rfl rfl
 by_cases j:p.Nil<(f.Prog.cv.Cons.length:Int)
 rotate_left
 · rw[eu,if_neg (by simpa using j),Lx]
   exact d _ _ rfl rfl
 obtain⟨D,u,_⟩:=yk N j
 rw[if_pos (show decide (p.Nil≥0)=true by simp;omega),if_pos (show decide (p.Nil<(f.Prog.cv.Cons.length:Int))=true by simpa using j),if_pos (show(decide (0≤p.Nil)&&decide (p.Nil≤(f.Prog.cv.Cons.length:Int)-1))=true by simp only[aY,decide_eq_true_eq];omega),u]
 simp only[ax]
 by_cases O:0≤p.Cons
 rotate_left
 · rw[if_neg (show ¬ decide (p.Cons≥0)=true by simp;omega),if_neg (show ¬ (decide (0≤p.Cons)&&decide (p.Cons≤(f.Prog.cv.Cons.length:Int)-1))=true by simp only[aY,decide_eq_true_eq];omega)]
   exact d _ _ (by split<;>rfl) rfl
 by_cases m:p.Cons<(f.Prog.cv.Cons.length:Int)
 rotate_left
 · rw[if_neg (show ¬ decide (p.Cons<(f.Prog.cv.Cons.length:Int))=true by simpa using m),if_neg (show ¬ (decide (0≤p.Cons)&&decide (p.Cons≤(f.Prog.cv.Cons.length:Int)-1))=true by simp only[aY,decide_eq_true_eq];omega)]
   exact d _ _ (by split<;>(try split)<;>rfl) rfl
 obtain⟨E,w,_⟩:=yk O m
 rw[if_pos (show decide (p.Cons≥0)=true by simp;omega),if_pos (show decide (p.Cons<(f.Prog.cv.Cons.length:Int))=true by simpa using m),if_pos (show(decide (0≤p.Cons)&&decide (p.Cons≤(f.Prog.cv.Cons.length:Int)-1))=true by simp only[aY,decide_eq_true_eq];omega),w]
 simp only[ax]
 by_cases a0:D.bu=0
 rotate_left
 · rw[if_neg (by simpa using a0),if_pos (by simpa using a0)]
   exact d _ _ rfl rfl
 by_cases q:E.bu=2
 rotate_left
 · rw[if_pos (by simpa using a0),if_neg (by simpa using q),if_neg (by simpa using a0),if_pos (by simpa using q)]
   exact d _ _ rfl rfl
 have P:decide (D.bu=0)=true:=by simpa using a0
 have Q:decide (E.bu=2)=true:=by simpa using q
 simp only[P,Q,Bool.not_true,dL,if_true,if_false]
 by_cases G:(p.Steps.length:Int)>6
 · have q2:decide ((p.Steps.length:Int)>6)=true:=by simpa only[decide_eq_true_eq] using G
   simp only[q2,if_true]
   exact d _ _ rfl rfl
 have q2:decide ((p.Steps.length:Int)>6)=false:=by simpa only[decide_eq_false_iff_not] using G
 simp only[q2,dL,if_false]
 obtain⟨b,r,t,R⟩:=SQ M i p a (by omega) z p.Steps.length 0 rfl (bU _)
 have r:gh f p 0=some b:=r
 have t:dN f p a 0 []=(if b=true then De f p a else some (tD,2)):=t
 rw[r,t]
 simp only[ax]
 cases b with
 | false=>exact d _ _ rfl rfl
 | true=>
   rw[if_pos rfl,if_pos rfl]
   exact WC i p a (by omega) z (R rfl)
theorem WE (a0:bA)(a:aj)(a2:Int)(h:a.Steps.length≤9223372036854775807)(g:vf=some true):rz a0 a a2=some true:=by
 rw[rz,La,Lb a h,g]
 simp only[aQ,ax]
 by_cases b:rG a0=true
 rotate_left
 · rw[if_neg b];rfl
 by_cases d:yj a=true
 rotate_left
 · simp_all
 obtain⟨o,c,i,j,q,m⟩:=WD a0 a a2 b d
 rw[if_pos b,if_pos d,i,j]
 simp only[ax]
 rw[if_pos (by simp),Ij o (by omega) (fun x hx=>by have:=m x hx;omega)]
 rfl
end
end Go.Eng

/- The law on data, its first part: signatures, terms and rules; no conditions. -/
import Derived.Test.YthplmmeobggkfaaGreatVLfD
import Derived.KernelRfl
set_option linter.all false
namespace Go.Eng
open Go.Proofs
set_option synthInstance.maxSize 100000
set_option synthInstance.maxHeartbeats 400000
set_option maxRecDepth 100000
noncomputable section
variable {n : Int}
theorem wA (h1 : -9223372036854775808≤n)(h2:n≤9223372036854775807):cy .i64 n=true:=by
 simp only[cy,IntKind.wrap,IntKind.bits,IntKind.signed,decide_eq_true_eq]
 simp
 omega
theorem fQ (h1 : -9223372036854775808≤n:=by omega)(h2:n≤9223372036854775807:=by omega):cy .i64 n=true:=wA h1 h2
section
variable {α : Type} {c : Prop} [Decidable c] {a b : α}
theorem eu (h:c:=by simp;omega):(if c then a else b)=a:=if_pos h
theorem iT (h:¬ c:=by simp;omega):(if c then a else b)=b:=if_neg h
theorem uM (h:c:=by simp only[decide_eq_true_eq];omega):(if c then a else b)=a:=if_pos h
theorem Lw (h:¬ c:=by simp only[decide_eq_true_eq];omega):(if c then a else b)=b:=if_neg h
theorem ad9 (h:c:=by simp only[aY,decide_eq_true_eq];omega):(if c then a else b)=a:=if_pos h
theorem Lx (h:¬ c:=by simp only[aY,decide_eq_true_eq];omega):(if c then a else b)=b:=if_neg h
end
variable {i : Nat}
theorem tA : (i:Int)+1=((i+1:Nat):Int):=by omega
variable {α : Type} {l : List α}
theorem aU (h:i<l.length):bQ l (i:Int)=some l[i]:=by
 simp[bQ,h]
theorem YU (l:List α)(p:α→Option Bool)(q:α→Bool)(e:Option Bool)(F:Int→Option Bool)(g:∀ i:Int,F i=if decide (i<(l.length:Int)) then(bQ l i>>=fun x=>p x>>=fun v=>if v then(if cy .i64 (i+1) then F (i+1) else none) else some false) else e)(j:∀ x,x∈l→p x=some (q x))(r:l.length≤9223372036854775807):∀(d i:Nat),l.length-i=d→i≤l.length→F i=if(l.drop i).all q then e else some false:=by
 intro d
 induction d with
 | zero=>
   intro i k hi
   rw[g,iT,show i=l.length by omega,dP]
   rfl
 | succ d o=>
   intro i k hi
   have h:i<l.length:=by omega
   rw[g,eu,aU h]
   simp only[aQ,ax]
   rw[j _ (cM h),cW h,nB]
   simp only[ax]
   cases q l[i] with
   | false=>rfl
   | true=>
     rw[if_pos rfl,if_pos fQ,tA,o (i+1) (by omega) (by omega)]
     rfl
theorem ou {p:α→Option Bool}(q:α→Bool){e:Option Bool}(F:Int→Option Bool)(d:∀ i:Int,F i=if decide (i<(l.length:Int)) then(bQ l i>>=fun x=>p x>>=fun v=>if v then(if cy .i64 (i+1) then F (i+1) else none) else some false) else e)(g:∀ x,x∈l→p x=some (q x))(h:l.length≤9223372036854775807):F 0=if l.all q then e else some false:=by
 have:=YU l p q e F d g h l.length 0 rfl (bU _)
 simpa using this
mutual
def dE : Term→Int
 | .mk _ _ l=>1+gK l
def gK : List Term→Int
 | []=>0
 | t::l=>dE t+gK l
end
mutual
def BV : Term→Int
 | .mk _ _ l=>1+Il l
def Il : List Term→Int
 | []=>0
 | t::l=>max (BV t) (Il l)
end
mutual
def cj (p:Term→Bool):Term→Bool
 | .mk o n l=>p (.mk o n l)&&wU p l
def wU (p:Term→Bool):List Term→Bool
 | []=>true
 | t::l=>cj p t&&wU p l
end
theorem eJ (t:Term):dE t=1+gK t.Kids:=by cases t;rw[dE];rfl
theorem JI (t:Term):BV t=1+Il t.Kids:=by cases t;rw[BV];rfl
theorem dT (p:Term→Bool)(t:Term):cj p t=(p t&&wU p t.Kids):=by cases t;rw[cj];rfl
theorem fi (p:Term→Bool):∀ l:List Term,wU p l=l.all (cj p)
 | []=>by simp[wU]
 | t::l=>by simp[wU,fi p l]
mutual
theorem j4 : ∀ t:Term,1≤dE t∧1≤BV t
 | .mk o n l=>by have:=du l;simp only[dE,BV];omega
theorem du : ∀ l:List Term,0≤gK l∧0≤Il l
 | []=>by simp[gK,Il]
 | t::l=>by have:=j4 t;have:=du l;simp only[gK,Il];omega
end
mutual
theorem fX {P:Term→Prop}(h:∀ t:Term,(∀ x,x∈t.Kids→P x)→P t):∀ t,P t
 | .mk o n l=>h _ (ZN h l)
theorem ZN {P:Term→Prop}(h:∀ t:Term,(∀ x,x∈t.Kids→P x)→P t):∀(l:List Term) (x:Term),x∈l→P x
 | t::l,x,hx=>(cF.1 hx).elim (fun e=>e▸fX h t) (ZN h l x)
end
theorem PV (t:Term)(d:Int)(h1:1≤d)(h2:d≤1000000)(o:∀ x,x∈t.Kids→∀ n d:Int,n≤1000000→0≤d→d≤1000000→lB x n d=some (if dE x≤n∧BV x≤d then n-dE x else -1)) :
   ∀(k i:Nat) (b:Int),t.Kids.length-i=k→i≤t.Kids.length→0≤b→i+b≤1000000→iP t d i b=some (if gK (t.Kids.drop i)≤b∧Il (t.Kids.drop i)≤d-1 then b-gK (t.Kids.drop i) else -1):=by
 intro k
 induction k with
 | zero=>
   intro i b r hi hb g
   rw[iP,iT,show i=t.Kids.length by omega,dP,gK,Il,if_pos ⟨hb,by omega⟩]
   simp
 | succ k j=>
   intro i b r hi hb g
   have h:i<t.Kids.length:=by omega
   rw[iP,eu,if_pos (by simpa using hb),aU h]
   simp only[aQ,ax]
   rw[if_pos fQ,o _ (cM h) _ _ (by omega) (by omega) (by omega)]
   simp only[ax]
   rw[if_pos fQ,cW h,gK,Il,tA]
   have u:=j4 t.Kids[i]
   have v:=du (t.Kids.drop (i+1))
   split
   · rename_i c
     rw[j (i+1) _ (by omega) (by omega) (by omega) (by omega)]
     congr 1
     split<;>split<;>omega
   · rename_i c
     rw[if_neg (by omega)]
     rw[iP]
     split
     · rw[if_neg (by simp)]
     · rfl
theorem Mf (t:Term):∀ n d:Int,n≤1000000→0≤d→d≤1000000→lB t n d=some (if dE t≤n∧BV t≤d then n-dE t else -1):=by
 refine fX (P:=fun t=>∀ n d:Int,n≤1000000→0≤d→d≤1000000→lB t n d=some (if dE t≤n∧BV t≤d then n-dE t else -1)) (fun t h=>?_) t
 intro n d k j g
 have o:=j4 t
 rw[lB]
 split
 · rename_i c
   rw[if_neg (by simp at c;omega)]
 · rename_i c
   split
   · rename_i c2
     rw[if_neg (by simp at c2;omega)]
   · rename_i c2
     simp at c c2
     rw[if_pos fQ,show(0:Int)=((0:Nat):Int) from rfl,PV t d (by omega) g h _ 0 _ rfl (bU _) (by omega) (by omega),fy,eJ,JI]
     congr 1
     omega
def rk (t:Term):Bool:=decide (dE t≤50)&&decide (BV t≤14)
theorem FU (t:Term):pF t=some (rk t):=by
 rw[pF,Mf t 50 14 (by omega) (by omega) (by omega)]
 simp only[aQ,ax,rk]
 have:=j4 t
 by_cases h:dE t≤50∧BV t≤14
 all_goals simp_all[if_neg]
variable {β : Type} {q : α → Bool} {f : Option β}
theorem asB {e:Option β}(F:Int→Option β)(hs:∀(i:Nat) (h:i<l.length),F (i:Int)=if q l[i] then F ((i:Int)+1) else f)(g:F (l.length:Int)=e) :
   ∀(d i:Nat),l.length-i=d→i≤l.length→F (i:Int)=if(l.drop i).all q then e else f:=by
 intro d
 induction d with
 | zero=>
   intro i j hi
   rw[show i=l.length by omega,g,dP];rfl
 | succ d k=>
   intro i j hi
   have h:i<l.length:=by omega
   rw[hs i h,cW h,nB]
   cases q l[i] with
   | false=>rfl
   | true=>rw[if_pos rfl,tA,k (i+1) (by omega) (by omega)];rfl
theorem pk {e:Option β}(F:Int→Option β)(hs:∀(i:Nat) (h:i<l.length),F (i:Int)=if q l[i] then F ((i:Int)+1) else f)(d:F (l.length:Int)=e) :
  F 0=if l.all q then e else f:=by
 have:=asB F hs d l.length 0 rfl (bU _)
 simpa using this
variable {e : Bool}
theorem Uo (c:Nat)(F:Int→Option Bool)(hs:∀(i:Nat) (h:i<l.length),i≤c→F (i:Int)=if q l[i] then F ((i:Int)+1) else some false)(j:F (l.length:Int)=some e)(k:∀ i:Nat,i<l.length→c<i→F (i:Int)=some e)(g:c+1<l.length→e=false):F 0=some (decide (l.length≤c+1)&&l.all q&&e):=by
 by_cases o:l.length≤c+1
 · rw[pk (q:=q) (e:=some e) (f:=some false) F (fun i h=>hs i h (by omega)) j]
   cases l.all q<;>simp[o]
 · have g:=g (by omega)
   subst g
   have:∀ d i:Nat,c+1-i=d→i≤c+1→F (i:Int)=some false:=by
    intro d
    induction d with
    | zero=>intro i r hi;exact k i (by omega) (by omega)
    | succ d t=>
      intro i r hi
      rw[hs i (by omega) (by omega)]
      split
      · rw[tA,t (i+1) (by omega) (by omega)]
      · rfl
   rw[show(0:Int)=((0:Nat):Int) from rfl,this (c+1) 0 (by omega) (by omega)]
   simp
def Cj (l:List Term):Bool:=decide (l.length≤6)&&l.all rk
theorem Ii (l:List Term):oF l=some (Cj l):=by
 rw[oF,Uo (l:=l) (q:=rk) (e:=decide ((l.length:Int)≤6)) 6 (eV l) (fun i h hi=>?_) ?_ (fun i h hi=>?_) (fun h=>by simp;omega)]
 · simp only[Cj]
   by_cases h:l.length≤6
   · have h2:(l.length:Int)≤6:=by omega
     have h3:l.length≤7:=by omega
     simp[h,h2,h3]
   · have h2:¬ (l.length:Int)≤6:=by omega
     simp[h,h2]
 · rw[eV,if_neg (by simp)]
   cases decide ((l.length:Int)≤6)<;>rfl
 · rw[eV,eu,eu,aU h]
   simp only[aQ,ax,FU]
   rw[if_pos fQ]
 · rw[eV,eu,iT]
   cases decide ((l.length:Int)≤6)<;>rfl
def qK (x:cf):Bool:=decide ((x.Name.size:Int)≤30)
def vF (s:aH):Bool:=decide (s.Cons.length≤16)&&decide (s.bp.length≤12)&&s.Cons.all qK&&s.bp.all qK
theorem DG (s:aH):oB s=some (vF s):=by
 have h2:s.bp.length≤12→gj s 0=some (s.bp.all qK):=fun g=>by
   rw[pk (l:=s.bp) (q:=qK) (e:=some true) (f:=some false) (gj s) (fun i h=>?_) ?_]
   · cases s.bp.all qK<;>rfl
   · rw[gj,if_neg (by simp)]
   · rw[gj,eu,aU h]
     simp only[aQ,ax]
     by_cases c:((s.bp[i].Name.size:Int))≤30
     · have d:qK s.bp[i]=true:=by simpa [qK] using c
       rw[iT,if_pos fQ,d,if_pos rfl]
     · have d:qK s.bp[i]=false:=by simp[qK];omega
       rw[eu,d];rfl
 rw[oB]
 by_cases c1:s.Cons.length≤16
 · rw[iT]
   by_cases c2:s.bp.length≤12
   · rw[iT,pk (l:=s.Cons) (q:=qK) (e:=some (s.bp.all qK)) (f:=some false) (ic s) (fun i h=>?_) ?_]
     · simp only[vF,c1,c2]
       cases s.Cons.all qK<;>simp
     · rw[ic,if_neg (by simp),h2 c2]
     · rw[ic,eu,aU h]
       simp only[aQ,ax]
       by_cases c:((s.Cons[i].Name.size:Int))≤30
       · have d:qK s.Cons[i]=true:=by simpa [qK] using c
         rw[iT,if_pos fQ,d,if_pos rfl]
       · have d:qK s.Cons[i]=false:=by simp[qK];omega
         rw[eu,d];rfl
   · rw[eu];simp[vF,c2]
 · rw[eu];simp[vF,c1]
def JJ (r:bn):Bool:=Cj r.cJ&&rk r.gU
def pA (p:aL):Bool:=decide (p.aF.length≤20)&&p.aF.all JJ&&vF p.cv
theorem C1 (p:aL):qC p=some (pA p):=by
 rw[qC,Uo (l:=p.aF) (q:=JJ) (e:=vF p.cv&&decide ((p.aF.length:Int)≤20)) 20 (fF p) (fun i h hi=>?_) ?_ (fun i h hi=>?_) (fun h=>by simp;omega)]
 · simp only[pA]
   by_cases h:p.aF.length≤20
   · have h2:(p.aF.length:Int)≤20:=by omega
     have h3:p.aF.length≤21:=by omega
     simp[h,h2,h3]
   · have h2:¬ (p.aF.length:Int)≤20:=by omega
     simp[h,h2]
 · rw[fF,if_neg (by simp),DG]
   simp only[aQ,ax]
   cases vF p.cv<;>cases decide ((p.aF.length:Int)≤20)<;>rfl
 · rw[fF,eu,eu,aU h]
   simp only[aQ,ax,FU,Ii]
   rw[if_pos fQ,show JJ p.aF[i]=(Cj p.aF[i].cJ&&rk p.aF[i].gU) from rfl]
   cases Cj p.aF[i].cJ<;>cases rk p.aF[i].gU<;>rfl
 · rw[fF,eu,iT,DG]
   simp only[aQ,ax]
   cases vF p.cv<;>cases decide ((p.aF.length:Int)≤20)<;>rfl
theorem vm (p:aL):mY p=some (pA p):=by
 rw[mY,C1]
 simp only[aQ,ax]
 cases pA p<;>rfl
theorem wB (a b c:Int):nC a b c=some (decide (b≤a)&&decide (a≤c)):=by
 simp only[nC]
 by_cases h:b≤a
 · by_cases h2:a≤c<;>simp[h,h2]
 · simp[h]
theorem kg (a b c:Int):eM a b c=some (decide (b≤a)&&decide (a≤c)):=by
 simp only[eM]
 by_cases h:b≤a
 · by_cases h2:a≤c<;>simp[h,h2]
 · simp[h]
theorem FV (l:List α)(n:Int):(0≤n∧n<l.length∧∃ x,bQ l n=some x)∨(¬ (0≤n∧n<l.length)∧bQ l n=none):=by
 by_cases h:0≤n∧n<l.length
 · obtain⟨m,rfl⟩:∃ m:Nat,n=m:=⟨n.toNat,by omega⟩
   simp_all[aU]
 · refine .inr ⟨h,?_⟩
   cases e:bQ l n with
   | none=>rfl
   | some x=>
     obtain⟨m,rfl,d⟩:=AG e
     simp_all
def po (l:List cf)(n:Int)(k:Int→Bool):Bool:=match bQ l n with
 | some x=>k x.bu
 | none=>false
theorem tk {l:List cf}{k:Int→Bool}(g:l.length≤1000000){w:Int→Int→Int→Option Bool}(d:∀ a b c,w a b c=some (decide (b≤a)&&decide (a≤c))){f:cf→Option Bool}(hf:∀ x,f x=some (k x.bu)) :
   (if cy .i64 ((l.length:Int)-1) then(w n 0 ((l.length:Int)-1)>>=fun v=>if v then(bQ l n>>=f) else(some false)) else none)=some (po l n k):=by
 rw[if_pos fQ,d]
 simp only[aQ,ax,po]
 rcases FV l n with⟨h1,h2,x,h3⟩ | ⟨h1,h3⟩
 · rw[eu,h3]
   simp[hf]
 · rw[iT,h3]
def fK (s:aH)(t:Term):Bool:=
 if t.Op=1 then decide (t.Kids.length=0)&&(decide (0≤t.N)&&decide (t.N≤19))
 else if t.Op=2 then decide (t.Kids.length=0)&&(decide (-1000000≤t.N)&&decide (t.N≤1000000))
 else if t.Op=3 then po s.Cons t.N fun k=>decide ((t.Kids.length:Int)=k)
 else if t.Op=4 then po s.bp t.N fun k=>decide ((t.Kids.length:Int)=k)
 else if t.Op=5 then po s.bp t.N fun k=>decide ((t.Kids.length:Int)<k)
 else if t.Op=8 then decide (t.Kids.length=2)&&(decide (0≤t.N)&&decide (t.N≤19))
 else if 6≤t.Op∧t.Op≤15 then decide (t.Kids.length=2)&&decide (t.N=0)
 else false
theorem yM (b:Bool):(if b=true then some true else some false)=some b:=by cases b<;>rfl
theorem zw {p:Prop} [Decidable p]:(if decide p=true then some true else some false)=some (decide p):=yM _
theorem YV (s:aH)(t:Term)(h1:s.Cons.length≤1000000)(h2:s.bp.length≤1000000):A4 s t=some (fK s t):=by
 have d:((t.Kids.length:Int)=0)=(t.Kids.length=0):=by simp
 have g:((t.Kids.length:Int)=2)=(t.Kids.length=2):=by simp;omega
 have j:(if decide ((t.Kids.length:Int)=2)=true then(if decide (t.N=0)=true then some true else some false) else some false)=some (decide (t.Kids.length=2)&&decide (t.N=0)):=by
   simp only[g,zw]
   cases decide (t.Kids.length=2)<;>rfl
 rw[A4]
 simp only[fK]
 by_cases c1:t.Op=1
 · simp only[c1,wB,d,aQ,ax,decide_true,if_true,yM]
   cases decide (t.Kids.length=0)<;>rfl
 simp only[c1,decide_false,dL,if_false]
 by_cases c2:t.Op=2
 · simp only[c2,wB,d,aQ,ax,decide_true,if_true,yM]
   cases decide (t.Kids.length=0)<;>rfl
 simp only[c2,decide_false,dL,if_false]
 by_cases c3:t.Op=3
 · simp only[c3,if_true,decide_true]
   exact tk (k:=fun k=>decide ((t.Kids.length:Int)=k)) h1 wB fun x=>zw
 simp only[c3,decide_false,dL,if_false]
 by_cases c4:t.Op=4
 · simp only[c4,if_true,decide_true]
   exact tk (k:=fun k=>decide ((t.Kids.length:Int)=k)) h2 wB fun x=>zw
 simp only[c4,decide_false,dL,if_false]
 by_cases c5:t.Op=5
 · simp only[c5,if_true,decide_true]
   exact tk (k:=fun k=>decide ((t.Kids.length:Int)<k)) h2 wB fun x=>zw
 simp only[c5,decide_false,if_false,dL,j]
 by_cases c8:t.Op=8
 · simp only[c8,wB,g,aQ,ax,decide_true,if_true,yM]
   cases decide (t.Kids.length=2)<;>rfl
 simp only[c8,decide_false,if_false,dL]
 by_cases c:6≤t.Op∧t.Op≤15
 · rw[if_pos c]
   have:t.Op=6∨t.Op=7∨t.Op=9∨t.Op=10∨t.Op=11∨t.Op=12∨t.Op=13∨t.Op=14∨t.Op=15:=by omega
   rcases this with h | h | h | h | h | h | h | h | h<;>simp[h]
 · rw[if_neg c]
   have:t.Op≠6∧t.Op≠7∧t.Op≠9∧t.Op≠10∧t.Op≠11∧t.Op≠12∧t.Op≠13∧t.Op≠14∧t.Op≠15:=by omega
   simp[this]
theorem V1 (s:aH)(h1:s.Cons.length≤1000000)(h2:s.bp.length≤1000000)(t:Term):dE t≤1000000→nL s t=some (cj (fK s) t):=by
 refine fX (P:=fun t=>dE t≤1000000→nL s t=some (cj (fK s) t)) (fun t g h=>?_) t
 have j:∀ l:List Term,(l.length:Int)≤gK l∧∀ x,x∈l→dE x≤gK l:=by
   intro l
   induction l with
   | nil=>simp[gK]
   | cons a l d=>
     have:=j4 a
     have:=du l
     simp only[gK,lI,cF]
     refine⟨by omega,fun x hx=>?_⟩
     rcases hx with rfl | hx
     · omega
     · have:=d.2 x hx;omega
 have k:=j t.Kids
 rw[eJ] at h
 rw[nL,YV s t h1 h2,dT,fi]
 simp only[aQ,ax]
 cases fK s t with
 | false=>rfl
 | true=>
   rw[if_pos rfl,ou (cj (fK s)) (kE s t) (fun i=>by rw[kE]) (fun x hx=>g x hx (by have:=k.2 x hx;omega)) (by omega)]
   cases t.Kids.all (cj (fK s))<;>rfl
def eC (s:aH)(t:Term):Bool:=decide (dE t≤40)&&decide (BV t≤12)&&cj (fK s) t
theorem xN (s:aH)(h1:s.Cons.length≤1000000)(h2:s.bp.length≤1000000)(t:Term):uX s t=some (eC s t):=by
 rw[uX,Mf t 40 12 (by omega) (by omega) (by omega)]
 simp only[aQ,ax,eC]
 by_cases h:dE t≤40∧BV t≤12
 · rw[if_pos h,eu,V1 s h1 h2 t (by omega)]
   simp only[ax,h.1,h.2,decide_true,iC]
   cases cj (fK s) t<;>rfl
 · rw[if_neg h,if_neg (by simp)]
   congr 1
   by_cases h3:dE t≤40
   · have:¬ BV t≤12:=fun q=>h ⟨h3,q⟩
     simp[this]
   · simp[h3]
theorem YW (a:bl)(t:Term):jo a t=some ((decide (0≤t.N)&&decide (t.N≤19))&&decide ((t.Kids.length:Int)=0)):=by
 simp only[jo,kg,aQ,ax,zw]
 cases decide (0≤t.N)&&decide (t.N≤19)<;>rfl
theorem YX (a:bl)(t:Term):jS a t=some ((decide (-1000000≤t.N)&&decide (t.N≤1000000))&&decide ((t.Kids.length:Int)=0)):=by
 simp only[jS,kg,aQ,ax,zw]
 cases decide (-1000000≤t.N)&&decide (t.N≤1000000)<;>rfl
theorem YY (a:bl)(t:Term):mE a t=some ((decide (0≤t.N)&&decide (t.N≤19))&&decide ((t.Kids.length:Int)=2)):=by
 simp only[mE,kg,aQ,ax,zw]
 cases decide (0≤t.N)&&decide (t.N≤19)<;>rfl
theorem V2 (a:bl)(t:Term):de a t=some (decide (t.N=0)&&decide ((t.Kids.length:Int)=2)):=by
 simp only[de,zw]
 cases decide (t.N=0)<;>rfl
theorem YZ (s:aH)(h:s.Cons.length≤1000000)(t:Term):mC ⟨s⟩ t=some (po s.Cons t.N fun k=>decide ((t.Kids.length:Int)=k)):=by
 rw[mC]
 exact tk (k:=fun k=>decide ((t.Kids.length:Int)=k)) h kg fun x=>zw
theorem Y0 (s:aH)(h:s.bp.length≤1000000)(t:Term):mD ⟨s⟩ t=some (po s.bp t.N fun k=>decide ((t.Kids.length:Int)=k)):=by
 rw[mD]
 exact tk (k:=fun k=>decide ((t.Kids.length:Int)=k)) h kg fun x=>zw
theorem V3 (s:aH)(h:s.bp.length≤1000000)(t:Term):lO ⟨s⟩ t=some (po s.bp t.N fun k=>decide ((t.Kids.length:Int)<k)):=by
 rw[lO]
 exact tk (k:=fun k=>decide ((t.Kids.length:Int)<k)) h kg fun x=>zw
theorem NO (s:aH)(t:Term)(d c0:Int)(z:0≤d∧d≤12)(A:t.Kids.length≤4611686018427387000)
   (r:∀ x,x∈t.Kids→∀ d c:Int,0≤c→c≤40→0≤d→d≤13→∃ y,bV x d s false c=some (if c+dE x≤40∧d-1+BV x≤12∧cj (fK s) x=true then .inr (c+dE x) else .inl y)) :
   ∀(k i:Nat) (c:Int),t.Kids.length-i=k→i≤t.Kids.length→0≤c→c≤40→∃ y,aq t d s false c0 i c=some (if c+gK (t.Kids.drop i)≤40∧d+Il (t.Kids.drop i)≤12∧wU (fK s) (t.Kids.drop i)=true then .inr (c+gK (t.Kids.drop i)) else .inl y):=by
 intro k
 induction k with
 | zero=>
   intro i c u hi h1 h2
   refine⟨0,?_⟩
   rw[aq,iT,show i=t.Kids.length by omega,dP,if_pos ⟨by simp only[gK];omega,by simp only[Il];omega,by simp only[wU]⟩]
   simp[gK]
 | succ k o=>
   intro i c u hi h1 h2
   have h:i<t.Kids.length:=by omega
   have B:=j4 t.Kids[i]
   have C:=du (t.Kids.drop (i+1))
   obtain⟨y,e⟩:=r _ (cM h) (d+1) c h1 h2 (by omega) (by omega)
   rw[aq,eu,aU h,cW h,gK,Il,wU]
   simp only[aQ,ax]
   rw[if_pos fQ,e]
   simp only[ax]
   by_cases g:c+dE t.Kids[i]≤40∧d+1-1+BV t.Kids[i]≤12∧cj (fK s) t.Kids[i]=true
   · obtain⟨v,w⟩:=o (i+1) (c+dE t.Kids[i]) (by omega) (by omega) (by omega) g.1
     refine⟨v,?_⟩
     rw[if_pos g]
     show(if cy .i64 ((i:Int)+1) then aq t d s false c0 ((i:Int)+1) (c+dE t.Kids[i]) else none)=_
     rw[if_pos fQ,tA,w,g.2.2,iC]
     congr 1
     by_cases j:c+dE t.Kids[i]+gK (t.Kids.drop (i+1))≤40∧d+Il (t.Kids.drop (i+1))≤12∧wU (fK s) (t.Kids.drop (i+1))=true
     · rw[if_pos j,if_pos ⟨by omega,by omega,j.2.2⟩]
       congr 1;omega
     · rw[if_neg j,if_neg fun q=>j ⟨by omega,by omega,q.2.2⟩]
   · refine⟨y,?_⟩
     rw[if_neg g,if_neg fun q=>g ⟨by omega,by omega,by have:=q.2.2;simp only[aY] at this;exact this.1⟩]
theorem SA (s:aH)(h1:s.Cons.length≤1000000)(h2:s.bp.length≤1000000)(t:Term):dE t≤1000000→∀ d c:Int,0≤c→c≤40→0≤d→d≤13→∃ y,bV t d s false c=some (if c+dE t≤40∧d-1+BV t≤12∧cj (fK s) t=true then .inr (c+dE t) else .inl y):=by
 refine fX (P:=fun t=>dE t≤1000000→∀ d c:Int,0≤c→c≤40→0≤d→d≤13→∃ y,bV t d s false c=some (if c+dE t≤40∧d-1+BV t≤12∧cj (fK s) t=true then .inr (c+dE t) else .inl y)) (fun t u v d c c1 c2 z F=>?_) t
 have A:∀ l:List Term,(l.length:Int)≤gK l∧∀ x,x∈l→dE x≤gK l:=by
   intro l
   induction l with
   | nil=>simp[gK]
   | cons a l o=>
     have:=j4 a
     have:=du l
     simp only[gK,lI,cF]
     refine⟨by omega,fun x hx=>?_⟩
     rcases hx with rfl | hx
     · omega
     · have:=o.2 x hx;omega
 have B:=A t.Kids
 rw[eJ] at v
 have G:=j4 t
 have H:=du t.Kids
 rw[bV,if_pos fQ]
 by_cases r:c+1>40
 · exact⟨c+1,by rw[if_pos (by simpa using r),if_neg fun q=>by omega]⟩
 rw[if_neg (by simpa using r)]
 by_cases k:d>12
 · exact⟨c+1,by rw[if_pos (by simpa using k),if_neg fun q=>by omega]⟩
 rw[if_neg (by simpa using k)]
 obtain⟨y,e⟩:=NO s t d c ⟨z,by omega⟩ (by omega) (fun x hx d c a b a2 C=>u x hx (by have:=B.2 x hx;omega) d c a b a2 C) t.Kids.length 0 (c+1) rfl (bU _) (by omega) (by omega)
 rw[fy] at e
 have j:∀ L:Option (Int ⊕ Int),aq t d s false c 0 (c+1)=L→∃ y,(if fK s t=true then L else some (.inl (c+1)))=some (if c+dE t≤40∧d-1+BV t≤12∧cj (fK s) t=true then .inr (c+dE t) else .inl y):=by
   rintro L rfl
   rw[show(0:Int)=((0:Nat):Int) from rfl,e,eJ,JI,dT]
   cases fK s t with
   | false=>exact⟨c+1,by rw[if_neg (by simp),if_neg (by simp)]⟩
   | true=>
     refine⟨y,?_⟩
     rw[if_pos rfl,iC]
     congr 1
     by_cases g:c+1+gK t.Kids≤40∧d+Il t.Kids≤12∧wU (fK s) t.Kids=true
     · rw[if_pos g,if_pos ⟨by omega,by omega,g.2.2⟩];congr 1;omega
     · rw[if_neg g,if_neg fun q=>g ⟨by omega,by omega,q.2.2⟩]
 generalize D:aq t d s false c 0 (c+1)=L
 obtain⟨y,hy⟩:=j L D
 refine⟨y,?_⟩
 rw[←hy]
 have E:((t.Kids.length:Int)=0)=(t.Kids.length=0):=by simp
 have k:((t.Kids.length:Int)=2)=(t.Kids.length=2):=by simp;omega
 simp only[fK,kg,YW,YX,YY,V2,YZ s h1,Y0 s h2,V3 s h2,aQ,ax,E,k]
 by_cases w:1≤t.Op∧t.Op≤15
 · rw[if_pos (by simp[w])]
   by_cases c1:t.Op=1
   · simp only[c1,decide_true,if_true];cases decide (t.Kids.length=0)<;>cases decide (0≤t.N)&&decide (t.N≤19)<;>rfl
   simp only[c1,decide_false,dL,if_false]
   by_cases c2:t.Op=2
   · simp only[c2,decide_true,if_true];cases decide (t.Kids.length=0)<;>cases decide (-1000000≤t.N)&&decide (t.N≤1000000)<;>rfl
   simp only[c2,decide_false,dL,if_false]
   by_cases c3:t.Op=3
   · simp only[c3,decide_true,if_true]
   simp only[c3,decide_false,dL,if_false]
   by_cases c4:t.Op=4
   · simp only[c4,decide_true,if_true]
   simp only[c4,decide_false,dL,if_false]
   by_cases c5:t.Op=5
   · simp only[c5,decide_true,if_true]
   simp only[c5,decide_false,dL,if_false]
   by_cases c8:t.Op=8
   · simp only[c8,decide_true,if_true]
     rw[if_neg (by decide),if_neg (by decide)]
     cases decide (t.Kids.length=2)<;>cases decide (0≤t.N)&&decide (t.N≤19)<;>rfl
   simp only[c8,decide_false,dL,if_false]
   rw[if_pos (show 6≤t.Op∧t.Op≤15 by omega)]
   have:t.Op=6∨t.Op=7∨t.Op=9∨t.Op=10∨t.Op=11∨t.Op=12∨t.Op=13∨t.Op=14∨t.Op=15:=by omega
   rcases this with h | h | h | h | h | h | h | h | h<;>simp only[h]<;>cases decide (t.Kids.length=2)<;>cases decide (t.N=0)<;>simp
 · rw[iT]
   have:t.Op≠1∧t.Op≠2∧t.Op≠3∧t.Op≠4∧t.Op≠5∧t.Op≠8∧¬ (6≤t.Op∧t.Op≤15):=by omega
   simp only[this,if_false,dL]
def Ly (b:UInt8):Bool:=(decide (97≤b.toNat)&&decide (b.toNat≤122))||(decide (65≤b.toNat)&&decide (b.toNat≤90))
def sZ (s:ByteArray):Bool:=s.data.toList.all Ly&&(decide (1≤s.size)&&decide (s.size≤8))
theorem I4 (s:ByteArray):s.size=s.data.toList.length:=by simp_all
theorem Y1 {s:ByteArray}(h:i<s.data.toList.length):pz s (i:Int)=some ((s.data.toList[i].toNat:Nat):Int):=by
 have h2:i<s.size:=by simp_all
 simp only[pz,show(0:Int)≤i by omega,if_true,sy]
 rw[getElem?_pos s i h2]
 simp[ByteArray.get,ByteArray.getElem_eq_getElem_data]
theorem SB (s:ByteArray)(hs:s.size≤30):∀(d i:Nat),s.data.toList.length-i=d→i≤s.data.toList.length→jg s i=some ((s.data.toList.drop i).all Ly&&(decide (1≤s.size)&&decide (s.size≤8))):=by
 have u:=I4 s
 intro d
 induction d with
 | zero=>
   intro i k hi
   rw[jg,iT,wB,List.drop_eq_nil_of_le (by omega)]
   simp only[aQ,ax,List.all_nil,iC]
   have o:decide ((1:Int)≤(s.size:Int))=decide (1≤s.size):=by simp;omega
   have r:decide ((s.size:Int)≤8)=decide (s.size≤8):=by simp;omega
   rw[o,r]
   cases (decide (1≤s.size)&&decide (s.size≤8))<;>rfl
 | succ d t=>
   intro i k hi
   have g:i<s.data.toList.length:=by omega
   have nx:=t (i+1) (by omega) (by omega)
   rw[jg,eu,Y1 g]
   simp only[aQ,ax]
   rw[cW g,nB]
   have h:cy .i64 ((i:Int)+1)=true:=wA (by omega) (by omega)
   have j:((i:Int)+1)=((i+1:Nat):Int):=by omega
   generalize s.data.toList[i]=b at *
   have hb:Ly b=((decide (97≤b.toNat)&&decide (b.toNat≤122))||(decide (65≤b.toNat)&&decide (b.toNat≤90))):=rfl
   have key:∀(x:Option Bool),(if decide (((b.toNat:Nat):Int)<65) then some false else(if decide (((b.toNat:Nat):Int)>90) then some false else(if cy .i64 ((i:Int)+1) then jg s ((i:Int)+1) else none)))=some ((decide (65≤b.toNat)&&decide (b.toNat≤90))&&((s.data.toList.drop (i+1)).all Ly&&(decide (1≤s.size)&&decide (s.size≤8)))):=by
     intro _
     by_cases h1:b.toNat<65
     · rw[eu,show decide (65≤b.toNat)=false by simp;omega];rfl
     · rw[iT,show decide (65≤b.toNat)=true by simp;omega]
       by_cases h2:b.toNat>90
       · rw[eu,show decide (b.toNat≤90)=false by simp;omega];rfl
       · rw[iT,show decide (b.toNat≤90)=true by simp;omega,if_pos h,j,nx];rfl
   by_cases h1:b.toNat<97
   · rw[eu,key none,hb,show decide (97≤b.toNat)=false by simp;omega];simp[Bool.and_assoc]
   · rw[iT]
     by_cases h2:b.toNat>122
     · rw[eu,key none,hb,show decide (b.toNat≤122)=false by simp;omega];simp[Bool.and_assoc]
     · rw[iT,if_pos h,j,nx,hb,show decide (b.toNat≤122)=true by simp;omega,show decide (97≤b.toNat)=true by simp;omega];simp
theorem QQ (s:ByteArray)(hs:s.size≤30):xy s=some (sZ s):=by
 rw[xy]
 exact SB s hs _ 0 rfl (bU _)
theorem SC (s:ByteArray)(p:Nat)(h:p<s.data.toList.length):(s.data.toList[p].toNat<128∧Utf8.decode s p=(s.data.toList[p].toNat,1))∨(128≤s.data.toList[p].toNat∧128≤(Utf8.decode s p).1):=by
 have e:(s.get! (p+0)).toNat=s.data.toList[p].toNat:=by
   have d:p<s.data.size:=by simpa using h
   show(s.data[p]!).toNat=_
   simp_all
 by_cases h1:s.data.toList[p].toNat<128
 · simp_all[Utf8.decode]
 · right
   refine⟨by omega,?_⟩
   unfold Utf8.decode
   simp only[e]
   rw[if_neg h1]
   simp only[Utf8.runeError,ge_iff_le,aY,decide_eq_true_eq]
   split
   · split<;>simp_all
   · split
     · split
       · rename_i h2;simp only;omega
       · simp
     · split
       · split
         · rename_i h2;simp only;omega
         · simp
       · simp
theorem K6 (s:ByteArray)(hs:s.size≤30):∀(d i:Nat),s.data.toList.length-i=d→i≤s.data.toList.length→eP s i=some ((s.data.toList.drop i).all Ly&&(decide (1≤s.size)&&decide (s.size≤8))):=by
 have t:=I4 s
 intro d
 induction d with
 | zero=>
   intro i h hi
   rw[eP,iT,kg,List.drop_eq_nil_of_le (by omega)]
   simp only[aQ,ax,List.all_nil,iC]
   have j:decide ((1:Int)≤(s.size:Int))=decide (1≤s.size):=by simp;omega
   have k:decide ((s.size:Int)≤8)=decide (s.size≤8):=by simp;omega
   rw[j,k]
   cases (decide (1≤s.size)&&decide (s.size≤8))<;>rfl
 | succ d o=>
   intro i h hi
   have g:i<s.data.toList.length:=by omega
   have nx:=o (i+1) (by omega) (by omega)
   rw[eP,eu,cW g,nB]
   have h:=SC s i g
   generalize u:s.data.toList[i]=b at *
   have hb:Ly b=((decide (97≤b.toNat)&&decide (b.toNat≤122))||(decide (65≤b.toNat)&&decide (b.toNat≤90))):=rfl
   rcases h with⟨h1,h2⟩ | ⟨h1,h2⟩
   · rw[h2]
     simp only
     have key:(if decide ((65:Int)≤((b.toNat:Nat):Int)) then(if decide (((b.toNat:Nat):Int)≤90) then(eP s (i+1)) else(some false)) else(some false))=some ((decide (65≤b.toNat)&&decide (b.toNat≤90))&&((s.data.toList.drop (i+1)).all Ly&&(decide (1≤s.size)&&decide (s.size≤8)))):=by
       by_cases h1:65≤b.toNat
       · rw[eu,show decide (65≤b.toNat)=true by simp;omega]
         by_cases h2:b.toNat≤90
         · rw[eu,show decide (b.toNat≤90)=true by simp;omega,nx];rfl
         · rw[iT,show decide (b.toNat≤90)=false by simp;omega];rfl
       · rw[iT,show decide (65≤b.toNat)=false by simp;omega];rfl
     rw[key,hb]
     by_cases h1:97≤b.toNat
     · rw[eu,show decide (97≤b.toNat)=true by simp;omega]
       by_cases h2:b.toNat≤122
       · rw[eu,show decide (b.toNat≤122)=true by simp;omega,nx];simp
       · rw[iT,show decide (b.toNat≤122)=false by simp;omega];simp[Bool.and_assoc]
     · rw[iT,show decide (97≤b.toNat)=false by simp;omega];simp[Bool.and_assoc]
   · have e:Ly b=false:=by rw[hb];simp;omega
     rw[e]
     generalize (Utf8.decode s i).1=r at h2
     rw[eu,iT,eu,iT]
     rfl
theorem PW (s:ByteArray)(hs:s.size≤30):mA s=some (sZ s):=by
 rw[mA]
 exact K6 s hs _ 0 rfl (bU _)
def seenIn (seen:List ByteArray)(k:ByteArray):Bool:=seen.any fun a=>a.data.toList==k.data.toList
def s5 (n:Int):Bool:=decide (0≤n)&&decide (n≤4)
theorem JW (n:Int):(decide (0≤n)&&decide (n≤4))=s5 n:=rfl
def lN : List cf→List ByteArray→Bool
 | [],_=>true
 | x::l,seen => !seenIn seen x.Name&&(sZ x.Name&&(s5 x.bu&&lN l (seen++[x.Name])))
theorem Mg (k a:ByteArray):afC k a=(a.data.toList==k.data.toList):=BEq.comm
theorem PX (k:ByteArray):∀ seen:List ByteArray,tH (seen.map fun a=>(a,true)) k=if seenIn seen k then some true else none:=by
 intro seen
 induction seen with
 | nil=>rfl
 | cons a l d=>
   simp only[dH,tH,seenIn,List.any_cons,Mg]
   by_cases h:(a.data.toList==k.data.toList)=true
   · simp[h]
   · simp only[h,dL,if_false,Bool.false_or]
     exact d
theorem PY (k:ByteArray):∀ seen:List ByteArray,seenIn seen k=false→ss (seen.map fun a=>(a,true)) k true=(seen++[k]).map fun a=>(a,true):=by
 intro seen
 induction seen<;>simp_all[seen,seenIn,List.any_cons,Bool.or_eq_false_iff,dH,ss,Mg,zD,dL,if_false,List.cons.injEq,true_and]
theorem zm {F:Int→List (ByteArray×Bool)→Option Int}{e:List (ByteArray×Bool)→Option Int}(l:List cf)(g:∀ x∈l,x.Name.size≤30)
   (hs:∀(i:Nat) (h:i<l.length) m,F (i:Int) m=if((tH m l[i].Name).getD false) then(some 2) else(mA l[i].Name>>=fun v=>if v then(eM l[i].bu 0 4>>=fun v=>if v then F ((i:Int)+1) (ss m l[i].Name true) else(some 2)) else(some 2))) (j:∀ m,F (l.length:Int) m=e m) :
   ∀(d i:Nat) (seen:List ByteArray),l.length-i=d→i≤l.length→F (i:Int) (seen.map fun a=>(a,true))=if lN (l.drop i) seen then e ((seen++(l.drop i).map (·.Name)).map fun a=>(a,true)) else some 2:=by
 intro d
 induction d with
 | zero=>
   intro i seen k hi
   rw[show i=l.length by omega,j,dP]
   simp[lN]
 | succ d o=>
   intro i seen k hi
   have h:i<l.length:=by omega
   rw[hs i h,PX,cW h,lN]
   by_cases c:seenIn seen l[i].Name=true
   · simp[c]
   · have c' : seenIn seen l[i].Name=false:=by simpa using c
     rw[PY _ _ c', tA,o (i+1) (seen++[l[i].Name]) (by omega) (by omega)]
     simp only[c', dL,if_false,Option.getD_none,PW l[i].Name (g _ (cM h)),kg,aQ,ax,Bool.not_false,iC]
     by_cases h2:sZ l[i].Name=true
     · simp only[h2,if_true,iC,JW]
       by_cases c3:s5 l[i].bu=true
       · simp only[c3,iC,if_true,nu,OB,dH,sH,zD,jU]
       · simp[c3]
     · simp[h2]
theorem I5 (a:ByteArray)(l:List ByteArray)(k:ByteArray):seenIn (a::l) k=((a.data.toList==k.data.toList)||seenIn l k):=rfl
def Hl (l:List cf)(seen:List ByteArray):List ByteArray×Bool:=if lN l seen then(seen++l.map (·.Name),true) else([],false)
theorem I6 (x:cf)(l:List cf)(seen:List ByteArray):Hl (x::l) seen=if seenIn seen x.Name then([],false) else if sZ x.Name&&s5 x.bu then Hl l (seen++[x.Name]) else([],false):=by
 have e:lN (x::l) seen=(!seenIn seen x.Name&&(sZ x.Name&&(s5 x.bu&&lN l (seen++[x.Name])))):=rfl
 unfold Hl
 by_cases h1:seenIn seen x.Name=true
 · simp[h1,e]
 · by_cases h2:sZ x.Name=true
   · by_cases h3:s5 x.bu=true
     all_goals simp_all
   · simp[h1,h2,e]
theorem NP (l:List cf)(r:∀ x∈l,x.Name.size≤30)(y:l.length≤20):∀(d i:Nat),l.length-i=d→i≤l.length→∀ seen:List ByteArray,seen.length+d≤50→jJ l i seen=some (Hl (l.drop i) seen):=by
 intro d
 induction d with
 | zero=>
   intro i t hi seen hs
   rw[jJ,iT,List.drop_eq_nil_of_le (by omega)]
   simp[Hl,lN]
 | succ d u=>
   intro i t hi seen hs
   have g:i<l.length:=by omega
   have hx:=r _ (cM g)
   rw[jJ,if_pos (by simpa using g),cW g]
   have J:∀(e j:Nat),seen.length-j=e→j≤seen.length→jI l i seen j=some (if seenIn (seen.drop j) l[i].Name then([],false) else if sZ l[i].Name&&s5 l[i].bu then Hl (l.drop (i+1)) (seen++[l[i].Name]) else([],false)):=by
    intro e
    induction e with
    | zero=>
      intro j v w
      rw[jI,iT,List.drop_eq_nil_of_le (by omega),aU g]
      simp only[aQ,ax,QQ _ hx,wB,seenIn,List.any_nil,dL,if_false]
      by_cases h1:sZ l[i].Name=true
      · simp only[h1,if_true,iC]
        rw[JW]
        by_cases h2:s5 l[i].bu=true
        · simp only[h2,if_true]
          have nx:=u (i+1) (by omega) (by omega) (seen++[l[i].Name]) (by simp;omega)
          by_cases h3:seen=[]
          · subst h3
            rw[if_pos (by rfl),if_pos fQ,show((i:Int)+1)=((i+1:Nat):Int) by omega]
            exact nx
          · rw[if_neg (by simpa using h3),eu,eu,if_pos fQ,show((i:Int)+1)=((i+1:Nat):Int) by omega]
            exact nx
        · simp[h2]
      · simp[h1]
    | succ e o=>
      intro j v w
      have k:j<seen.length:=by omega
      rw[jI,if_pos (by simpa using k),aU k,aU g]
      simp only[aQ,ax]
      rw[cW k,I5]
      by_cases h:(seen[j].data.toList==l[i].Name.data.toList)=true
      · rw[if_pos h];simp[h]
      · rw[if_neg h,if_pos fQ,show((j:Int)+1)=((j+1:Nat):Int) by omega,o (j+1) (by omega) (by omega)]
        simp only[h,Bool.false_or]
   have:=J _ 0 rfl (bU _)
   rw[show((0:Nat):Int)=0 from rfl] at this
   rw[this,fy,I6]
theorem I7 (l:List cf)(t:∀ x∈l,x.Name.size≤30)(o:l.length≤20)(seen:List ByteArray)(hs:seen.length≤20):va l seen=some (Hl l seen):=by
 rw[va,xI]
 by_cases g:0<l.length
 · rw[if_pos (by simpa using g)]
   have hx:=t _ (cM g)
   have k:=aU g
   rw[show((0:Nat):Int)=0 from rfl] at k
   have J:∀(e j:Nat),seen.length-j=e→j≤seen.length→kD l seen j=some (if seenIn (seen.drop j) l[0].Name then([],false) else if sZ l[0].Name&&s5 l[0].bu then Hl (l.drop 1) (seen++[l[0].Name]) else([],false)):=by
    intro e
    induction e with
    | zero=>
      intro j u v
      rw[kD,iT,List.drop_eq_nil_of_le (by omega),k]
      simp only[aQ,ax,QQ _ hx,wB,seenIn,List.any_nil,dL,if_false]
      by_cases h1:sZ l[0].Name=true
      · simp only[h1,if_true,iC]
        rw[JW]
        by_cases h2:s5 l[0].bu=true
        · simp only[h2,if_true]
          have nx:=NP l t o _ 1 rfl (by omega) (seen++[l[0].Name]) (by simp;omega)
          rw[show((1:Nat):Int)=1 from rfl] at nx
          by_cases h3:seen=[]
          · subst h3
            rw[if_pos (by rfl)]
            exact nx
          · rw[if_neg (by simpa using h3),eu,eu]
            exact nx
        · simp[h2]
      · simp[h1]
    | succ e r=>
      intro j u v
      have d:j<seen.length:=by omega
      rw[kD,if_pos (by simpa using d),aU d,k]
      simp only[aQ,ax]
      rw[cW d,I5]
      by_cases h:(seen[j].data.toList==l[0].Name.data.toList)=true
      · rw[if_pos h];simp[h]
      · rw[if_neg h,if_pos fQ,show((j:Int)+1)=((j+1:Nat):Int) by omega,r (j+1) (by omega) (by omega)]
        simp only[h,Bool.false_or]
   have:=J _ 0 rfl (bU _)
   rw[show((0:Nat):Int)=0 from rfl] at this
   have el:l=l[0]::l.drop 1:=by
    have:=cW g
    simpa using this
   rw[this,fy]
   conv=>rhs;rw[el]
   rw[I6]
 all_goals simp_all[Hl,lN]
def NX (x:cf)(s:ByteArray):Bool:=[(x.Name.data.toList==s.data.toList),(x.bu==0)].all id
theorem Bv : ∀(l:List cf) (seen:List ByteArray),lN l seen=true→∀ x∈l,0≤x.bu∧x.bu≤4:=by
 intro l
 induction l with
 | nil=>simp_all
 | cons a l d=>
   intro seen h x hx
   simp only[lN,aY,s5,decide_eq_true_eq] at h
   rcases cF.1 hx with e | hx
   · simp_all
   · exact d _ h.2.2.2 x hx
theorem aeN (s:aH)(h1:∀ x∈s.Cons,x.Name.size≤30)(h2:∀ x∈s.bp,x.Name.size≤30):∃ b,ET s=some b∧cZ s=some (if b=true then 0 else 2)∧(b=true→s.Cons.length≤12∧s.bp.length≤8∧(∀ x∈s.Cons,0≤x.bu∧x.bu≤4)∧∀ x∈s.bp,0≤x.bu∧x.bu≤4):=by
 rw[ET,cZ,wB,kg]
 simp only[aQ,ax]
 by_cases o:2≤s.Cons.length∧s.Cons.length≤12
 · rw[show(decide ((2:Int)≤(s.Cons.length:Int))&&decide ((s.Cons.length:Int)≤12))=true by simp;omega]
   simp only[if_true]
   by_cases hf:s.bp.length≤8
   · rw[iT,iT]
     have d:bQ s.Cons 0=some (s.Cons[0]'(by omega)):=aU (i:=0) (by omega)
     have a2:bQ s.Cons 1=some (s.Cons[1]'(by omega)):=aU (i:=1) (by omega)
     have g:=zm (F:=fun i m=>gE s i m) (e:=fun m=>dY s 0 m) s.Cons h1 (fun i h m=>by
       rw[gE,eu,aU h]
       simp only[aQ,ax]
       rw[if_pos fQ]) (fun m=>by rw[gE,if_neg (by simp)]) _ 0 [] rfl (bU _)
     have j:=fun seen=>zm (F:=fun i m=>dY s i m) (e:=fun m=>dY s s.bp.length m) s.bp h2 (fun i h m=>by
       rw[dY,eu,aU h]
       simp only[aQ,ax]
       rw[if_pos fQ]) (fun m=>rfl) _ 0 seen rfl (bU _)
     have r:∀ m,dY s s.bp.length m=some (if(NX s.Cons[0] ⟨#[70,97,108,115,101]⟩&&NX s.Cons[1] ⟨#[84,114,117,101]⟩)=true then 0 else 2):=fun m=>by
       rw[dY,if_neg (by simp),d,a2]
       simp only[aQ,ax]
       rw[show [(s.Cons[0].Name.data.toList==(⟨#[70,97,108,115,101]⟩:ByteArray).data.toList),(s.Cons[0].bu==0)].all id=NX s.Cons[0] ⟨#[70,97,108,115,101]⟩ from rfl,show [(s.Cons[1].Name.data.toList==(⟨#[84,114,117,101]⟩:ByteArray).data.toList),(s.Cons[1].bu==0)].all id=NX s.Cons[1] ⟨#[84,114,117,101]⟩ from rfl]
       cases NX s.Cons[0] ⟨#[70,97,108,115,101]⟩<;>cases NX s.Cons[1] ⟨#[84,114,117,101]⟩<;>rfl
     simp only[fy,sH,jU,show((0:Nat):Int)=0 from rfl] at g j
     simp only[g,d,a2,ax,I7 s.Cons h1 (by omega) [] (by simp)]
     rw[show [(s.Cons[0].Name.data.toList==(⟨#[70,97,108,115,101]⟩:ByteArray).data.toList),(s.Cons[0].bu==0)].all id=NX s.Cons[0] ⟨#[70,97,108,115,101]⟩ from rfl,show [(s.Cons[1].Name.data.toList==(⟨#[84,114,117,101]⟩:ByteArray).data.toList),(s.Cons[1].bu==0)].all id=NX s.Cons[1] ⟨#[84,114,117,101]⟩ from rfl]
     have k:∀(l:List cf) (seen:List ByteArray),Hl l seen=if lN l seen=true then(seen++l.map (·.Name),true) else([],false):=fun l seen=>rfl
     rw[k]
     cases t:lN s.Cons [] with
     | false=>
       refine⟨false,?_,by simp,by simp⟩
       cases NX s.Cons[0] ⟨#[70,97,108,115,101]⟩<;>cases NX s.Cons[1] ⟨#[84,114,117,101]⟩<;>rfl
     | true=>
       simp only[if_true,jU,j,r]
       rw[I7 s.bp h2 (by omega) _ (by simp;omega),k]
       simp only[ax]
       cases u:lN s.bp (s.Cons.map (·.Name)) with
       | false=>
         refine⟨false,?_,by simp,by simp⟩
         cases NX s.Cons[0] ⟨#[70,97,108,115,101]⟩<;>cases NX s.Cons[1] ⟨#[84,114,117,101]⟩<;>rfl
       | true=>
         refine⟨NX s.Cons[0] ⟨#[70,97,108,115,101]⟩&&NX s.Cons[1] ⟨#[84,114,117,101]⟩,?_,?_,fun _=>⟨o.2,hf,Bv _ _ t,Bv _ _ u⟩⟩
         · cases NX s.Cons[0] ⟨#[70,97,108,115,101]⟩<;>cases NX s.Cons[1] ⟨#[84,114,117,101]⟩<;>rfl
         · simp
   · rw[eu,eu]
     exact⟨false,rfl,rfl,by simp⟩
 · rw[show(decide ((2:Int)≤(s.Cons.length:Int))&&decide ((s.Cons.length:Int)≤12))=false by simp;omega]
   exact⟨false,rfl,rfl,by simp⟩
theorem G6 (s:aH)(h1:s.Cons.length≤1000000)(h2:s.bp.length≤1000000)(t:Term)(d:dE t≤1000000):tX s t=some (eC s t):=by
 obtain⟨y,e⟩:=SA s h1 h2 t d 1 0 (by omega) (by omega) (by omega) (by omega)
 rw[tX,e]
 simp only[aQ,ax,eC]
 by_cases g:0+dE t≤40∧1-1+BV t≤12∧cj (fK s) t=true
 all_goals simp_all[if_neg]
variable {s : aH}
theorem I8 (hs:cZ s=some 0):s.Cons.length≤1000000∧s.bp.length≤1000000:=by
 rw[cZ,kg] at hs
 simp only[aQ,ax] at hs
 by_cases d:2≤s.Cons.length∧s.Cons.length≤12
 · rw[eu] at hs
   by_cases hf:s.bp.length≤8
   · omega
   · rw[eu] at hs;cases hs
 · rw[iT] at hs;cases hs
theorem uA (hs:cZ s=some 0)(l:List Term)(h:l.length≤1000000)(g:∀ x,x∈l→dE x≤1000000):pL s l=some (l.all (eC s)):=by
 have d:=I8 hs
 rw[pL,hs]
 simp only[aQ,ax,decide_true,if_true]
 rw[ou (eC s) (kX s l) (fun i=>by rw[kX]) (fun x hx=>G6 s d.1 d.2 x (g x hx)) (by omega)]
 cases l.all (eC s)<;>rfl
theorem zn (hs:cZ s=some 0)(t:Term)(d:dE t≤1000000):nH s t=some (if eC s t=true then 0 else 2):=by
 rw[nH,uA hs [t] (by simp) (fun x hx=>by simp_all)]
 simp only[aQ,ax,nB,List.all_nil,ri]
 cases eC s t<;>rfl
abbrev pt (l:LI):Prop:=l.Pairwise (· < ·)
theorem Y2 (x y:LI)(a:Int)(t1:x.length≤1000)(t2:y.length≤1000):(if x.isEmpty=true then(if y.isEmpty=true then(some [a]) else(if decide ([a].length+y.length≤1048576)=true then(some ([a]++y)) else none)) else(if decide (x.length≤1048576)=true then(if decide (x.length+[a].length≤1048576)=true then(if y.isEmpty=true then(some (x++[a])) else(if decide ((x++[a]).length+y.length≤1048576)=true then(some ((x++[a])++y)) else none)) else none) else none))=some (x++a::y):=by
 by_cases hx:x=[]
 · subst hx
   by_cases hy:y=[]
   · subst hy;rfl
   · have d:y.isEmpty=false:=by simpa using hy
     have g:[a].length+y.length≤1048576:=by simp;omega
     simp_all
 · have h:x.isEmpty=false:=by simpa using hx
   have j:x.length≤1048576:=by omega
   have k:x.length+[a].length≤1048576:=by simp;omega
   have o:(x++[a]).length+y.length≤1048576:=by simp;omega
   simp_all
theorem QR (l:LI)(a:Int)(i:Nat)(hi:i≤l.length)(g:l.length≤1000):(if decide (0≤(i:Int)∧(i:Int)≤(l.length:Int)) then(if(l.take (i:Int).toNat).isEmpty then(if decide (0≤(i:Int)∧(i:Int)≤(l.length:Int)) then(if(l.drop (i:Int).toNat).isEmpty then(some [a]) else(if decide ([a].length+(l.drop (i:Int).toNat).length≤1048576) then(some ([a]++(l.drop (i:Int).toNat))) else none)) else none) else(if decide ((l.take (i:Int).toNat).length≤1048576) then(if decide ((l.take (i:Int).toNat).length+[a].length≤1048576) then(if decide (0≤(i:Int)∧(i:Int)≤(l.length:Int)) then(if(l.drop (i:Int).toNat).isEmpty then(some ((l.take (i:Int).toNat)++[a])) else(if decide (((l.take (i:Int).toNat)++[a]).length+(l.drop (i:Int).toNat).length≤1048576) then(some (((l.take (i:Int).toNat)++[a])++(l.drop (i:Int).toNat))) else none)) else none) else none) else none)) else none)=some (l.take i++a::l.drop i):=by
 have d:(0≤(i:Int)∧(i:Int)≤(l.length:Int)):=by omega
 have t1:(l.take i).length≤1000:=by simp;omega
 have t2:(l.drop i).length≤1000:=by simp;omega
 simp only[d,and_self,decide_true,if_true,sy]
 exact Y2 _ _ a t1 t2
theorem V4 (l:LI)(a:Int)(hs:pt l)(j:l.length≤1000):∀(d i:Nat),l.length-i=d→i≤l.length→(∀ x,x∈l.take i→x<a)→∃ r,nM l a i=some r∧pt r∧(∀ x,x∈r↔x∈l∨x=a)∧r.length≤l.length+1:=by
 have key:∀ i:Nat,i≤l.length→(∀ x,x∈l.take i→x<a)→(∀ x,x∈l.drop i→a<x)→pt (l.take i++a::l.drop i)∧(∀ x,x∈l.take i++a::l.drop i↔x∈l∨x=a)∧(l.take i++a::l.drop i).length≤l.length+1:=by
   intro i hi h1 h2
   have e:=List.take_append_drop i l
   have g:pt (l.take i++l.drop i):=by rw[e];exact hs
   rw[pt,List.pairwise_append] at g
   refine⟨?_,fun x=>?_,by simp;omega⟩
   · rw[pt,List.pairwise_append,List.pairwise_cons]
     refine⟨g.1,⟨h2,g.2.1⟩,fun x hx y hy=>?_⟩
     rcases cF.1 hy with rfl | hy
     · exact h1 x hx
     · exact g.2.2 x hx y hy
   · conv=>rhs;rw[←e]
     simp only[dG,cF]
     constructor
     · rintro(h | h | h)<;>simp[h]
     · rintro((h | h) | h)<;>simp[h]
 intro d
 induction d with
 | zero=>
   intro i k hi h1
   have e:i=l.length:=by omega
   refine⟨_,?_,key i hi h1 (by rw[e,dP];simp)⟩
   rw[nM,iT,iT]
   exact QR l a i hi j
 | succ d o=>
   intro i k hi h1
   have h:i<l.length:=by omega
   rw[nM,eu,aU h]
   simp only[aQ,ax]
   by_cases c:l[i]<a
   · rw[if_pos (by simpa using c),if_pos fQ,tA]
     refine o (i+1) (by omega) (by omega) fun x hx=>?_
     rw[Ck h,dG] at hx
     rcases hx with hx | hx
     · exact h1 x hx
     · simp at hx;omega
   · rw[if_neg (by simpa using c),eu]
     by_cases c2:l[i]=a
     · rw[if_pos (by simpa using c2)]
       refine⟨l,rfl,hs,fun x=>⟨.inl,fun q=>q.elim id fun e=>?_⟩,by omega⟩
       rw[e,←c2];exact cM h
     · rw[if_neg (by simpa using c2)]
       refine⟨_,QR l a i hi j,key i hi h1 fun x hx=>?_⟩
       have g:pt (l.drop i):=hs.sublist (List.drop_sublist i l)
       rw[cW h] at g hx
       rw[pt,List.pairwise_cons] at g
       rcases cF.1 hx with rfl | hx
       · omega
       · have:=g.1 x hx;omega
theorem put_eq (l:LI)(a:Int)(hs:pt l)(d:l.length≤1000):∃ r,nh l a=some r∧pt r∧(∀ x,x∈r↔x∈l∨x=a)∧r.length≤l.length+1:=by
 rw[nh]
 exact V4 l a hs d l.length 0 rfl (bU _) (by simp)
theorem OJ (l:LI)(a:Int)(d:l.length≤1000000):yh l a=some (decide (a∈l)):=by
 have:=pk (l:=l) (q:=fun x => !decide (x=a)) (e:=some false) (f:=some true) (nN l a) (fun i h=>by
  rw[nN,eu,aU h]
  simp only[aQ,ax]
  by_cases c:l[i]=a
  · simp[c]
  · rw[if_neg (by simpa using c),if_pos fQ];simp[c]) (by rw[nN,if_neg (by simp)])
 rw[yh,this]
 by_cases c:a∈l
 all_goals simp_all
mutual
def tv : Term→LI
 | .mk o n l=>(if o=1 then [n] else [])++iy l
def iy : List Term→LI
 | []=>[]
 | t::l=>tv t++iy l
end
theorem rB (t:Term):tv t=(if t.Op=1 then [t.N] else [])++iy t.Kids:=by cases t;rw[tv];rfl
def BR (t:Term):Bool:=decide (t.Op=1)||decide (t.Op=3)
def Jl (v:Int)(t:Term):Bool := !(decide (t.Op=1)||decide (t.Op=8))||decide (t.N<v)
theorem dZ : ∀ l:List Term,(l.length:Int)≤gK l∧∀ x,x∈l→dE x≤gK l
 | []=>by simp[gK]
 | a::l=>by
   have:=j4 a
   have:=du l
   have h:=dZ l
   simp only[gK,lI,cF]
   refine⟨by omega,fun x hx=>?_⟩
   rcases hx with rfl | hx
   · omega
   · have:=h.2 x hx;omega
theorem QS : ∀(l:List Term) (x:Term),x∈l→BV x≤Il l
 | a::l,x,hx=>by
   simp only[Il]
   rcases cF.1 hx with rfl | hx
   · omega
   · have:=QS l x hx;omega
theorem ajN : ∀ t:Term,BV t≤dE t:=by
 intro t
 refine fX (P:=fun t=>BV t≤dE t) (fun t g=>?_) t
 have:∀ l:List Term,(∀ x,x∈l→BV x≤dE x)→Il l≤gK l:=by
  intro l
  induction l with
  | nil=>intro _;simp[Il,gK]
  | cons a l d=>
    intro h
    have h1:=h a (by simp)
    have h2:=d fun x hx=>h x (by simp[hx])
    have:=du l
    have:=j4 a
    simp only[Il,gK];omega
 rw[eJ,JI]
 simp_all
theorem V5 (t:Term):dE t≤1000000→nO t=some (cj BR t):=by
 refine fX (P:=fun t=>dE t≤1000000→nO t=some (cj BR t)) (fun t d g=>?_) t
 have h:=dZ t.Kids
 rw[eJ] at g
 rw[nO,ou (cj BR) (kF t) (fun i=>by rw[kF]) (fun x hx=>d x hx (by have:=h.2 x hx;omega)) (by omega),dT,fi]
 simp only[BR]
 cases t.Kids.all (cj BR)<;>cases decide (t.Op=1)<;>cases decide (t.Op=3)<;>rfl
theorem US (v:Int)(t:Term):dE t≤1000000→mr t v=some (cj (Jl v) t):=by
 refine fX (P:=fun t=>dE t≤1000000→mr t v=some (cj (Jl v) t)) (fun t d g=>?_) t
 have h:=dZ t.Kids
 rw[eJ] at g
 rw[mr,ou (cj (Jl v)) (fun i=>kG t v i) (fun i=>by rw[kG]) (fun x hx=>d x hx (by have:=h.2 x hx;omega)) (by omega),dT,fi]
 simp only[Jl]
 cases t.Kids.all (cj (Jl v))<;>cases decide (t.Op=1)<;>cases decide (t.Op=8)<;>cases decide (t.N<v)<;>rfl
abbrev mp (l:LI):List (Int×Bool):=l.map fun a=>(a,true)
theorem OK (k:Int):∀ l:LI,(iJ (mp l) k).getD false=decide (k∈l)
 | []=>by simp[iJ]
 | a::l=>by
   have:=OK k l
   simp only[mp] at this
   simp only[mp,dH,iJ,cF]
   by_cases c:k=a
   · simp[c]
   · simp[c,this]
theorem OL (k:Int):∀ l:LI,k∉l→ky (mp l) k true=mp (l++[k])
 | [],_=>rfl
 | a::l,h=>by
   have:=OL k l fun q=>h (by simp[q])
   simp_all[ky]
def BW (t:LI)(seen:LI):Prop:=t.Nodup∧∀ x,x∈t→x∉seen
variable {a b seen : LI}
theorem JX : BW (a++b) seen↔BW a seen∧BW b (seen++a):=by
 simp only[BW,List.nodup_append,dG]
 constructor
 · rintro⟨⟨h1,h2,h3⟩,h4⟩
   exact⟨⟨h1,fun x hx=>h4 x (.inl hx)⟩,h2,fun x hx q=>q.elim (h4 x (.inr hx)) fun q=>h3 x q x hx rfl⟩
 · rintro⟨⟨h1,h2⟩,h3,h4⟩
   exact⟨⟨h1,h3,fun a ha b hb e=>h4 b hb (.inr (e▸ha))⟩,fun x hx=>hx.elim (h2 x) fun q r=>h4 x q (.inl r)⟩
theorem QT : BW [] seen:=⟨List.nodup_nil,by simp⟩
theorem QU : BW [n] seen↔n∉seen:=by simp[BW]
theorem V6 (t:Term)(d c:Int)(b:Bool)(o:List (Int×Bool))(F:0≤d∧d+1+Il t.Kids≤1000000)(G:t.Kids.length≤1000000)
   (u:∀ x,x∈t.Kids→∀(d:Int) (seen:LI),0≤d→d+BV x≤1000000→∃ y,bI x d b c (mp seen)=some y∧(cj BR x=true∧BW (tv x) seen→y=.inr (mp (seen++tv x)))∧(¬ (cj BR x=true∧BW (tv x) seen)→∃ z,y=.inl z)) :
   ∀(k i:Nat) (seen:LI),t.Kids.length-i=k→i≤t.Kids.length→∃ y,aD t d b c o i (mp seen)=some y∧(wU BR (t.Kids.drop i)=true∧BW (iy (t.Kids.drop i)) seen→y=.inr (mp (seen++iy (t.Kids.drop i))))∧(¬ (wU BR (t.Kids.drop i)=true∧BW (iy (t.Kids.drop i)) seen)→∃ z,y=.inl z):=by
 intro k
 induction k with
 | zero=>
   intro i seen v hi
   refine⟨.inr (mp seen),?_,?_,fun q=>?_⟩
   · rw[aD,iT]
   · rw[show i=t.Kids.length by omega,dP];simp[iy]
   · rw[show i=t.Kids.length by omega,dP] at q
     exact absurd ⟨by simp[wU],by simp only[iy];exact QT⟩ q
 | succ k j=>
   intro i seen v hi
   have h:i<t.Kids.length:=by omega
   have H:=QS t.Kids _ (cM h)
   obtain⟨y,e,w,A⟩:=u _ (cM h) (d+1) seen (by omega) (by omega)
   have I:=(du t.Kids).2
   rw[aD,eu,aU h,cW h,wU,iy]
   simp only[aQ,ax]
   rw[if_pos fQ,e]
   simp only[ax,JX,aY]
   by_cases g:cj BR t.Kids[i]=true∧BW (tv t.Kids[i]) seen
   · rw[w g]
     obtain⟨B,f,C,D⟩:=j (i+1) (seen++tv t.Kids[i]) (by omega) (by omega)
     refine⟨B,?_,fun q=>?_,fun q=>D fun r=>q ⟨⟨g.1,r.1⟩,g.2,r.2⟩⟩
     · show(if cy .i64 ((i:Int)+1) then aD t d b c o ((i:Int)+1) (mp (seen++tv t.Kids[i])) else none)=_
       rw[if_pos fQ,tA,f]
     · rw[C ⟨q.1.2,q.2.2⟩,nu]
   · obtain⟨z,E⟩:=A g
     subst E
     exact⟨.inl z,rfl,fun q=>absurd ⟨q.1.1,q.2.1⟩ g,fun _=>⟨z,rfl⟩⟩
theorem aeO (b:Bool)(c:Int)(t:Term):dE t≤1000000→∀(d:Int) (seen:LI),0≤d→d+BV t≤1000000→∃ y,bI t d b c (mp seen)=some y∧(cj BR t=true∧BW (tv t) seen→y=.inr (mp (seen++tv t)))∧(¬ (cj BR t=true∧BW (tv t) seen)→∃ z,y=.inl z):=by
 refine fX (P:=fun t=>dE t≤1000000→∀(d:Int) (seen:LI),0≤d→d+BV t≤1000000→∃ y,bI t d b c (mp seen)=some y∧(cj BR t=true∧BW (tv t) seen→y=.inr (mp (seen++tv t)))∧(¬ (cj BR t=true∧BW (tv t) seen)→∃ z,y=.inl z)) (fun t g h d seen h1 h2=>?_) t
 have j:=dZ t.Kids
 rw[eJ] at h
 rw[JI] at h2
 have loop:=fun k seen=>V6 t d c b k ⟨h1,by omega⟩ (by omega) (fun x hx d seen a b=>g x hx (by have:=j.2 x hx;omega) d seen a b) t.Kids.length 0 seen rfl (bU _)
 simp only[fy,show((0:Nat):Int)=0 from rfl] at loop
 rw[bI,dT,rB,BR]
 by_cases c1:t.Op=1
 · simp only[c1,decide_true,Bool.not_true,dL,if_false,if_true,Bool.true_or,iC,OK,JX,QU]
   by_cases hs:t.N∈seen
   · rw[if_pos (by simpa using hs)]
     exact⟨_,rfl,fun q=>absurd hs q.2.1,fun _=>⟨_,rfl⟩⟩
   · rw[if_neg (by simpa using hs),OL _ _ hs]
     obtain⟨y,e,o,u⟩:=loop (mp seen) (seen++[t.N])
     exact⟨y,e,fun q=>by rw[o ⟨q.1,q.2.2⟩,nu],fun q=>u fun r=>q ⟨r.1,hs,r.2⟩⟩
 · simp only[c1,decide_false,Bool.not_false,if_true,dL,if_false,Bool.false_or,jU]
   by_cases c3:t.Op=3
   · simp only[c3,decide_true,Bool.not_true,dL,if_false,iC]
     exact loop (mp seen) seen
   · simp only[c3,decide_false,Bool.not_false,if_true,Bool.false_and,dL,false_and]
     exact⟨_,rfl,fun q=>q.elim,fun _=>⟨_,rfl⟩⟩
def uN (t:Term):Bool:=cj BR t&&decide (tv t).Nodup
theorem K7 (hs:cZ s=some 0)(t:Term)(k:dE t≤100000):oH s t=some (if eC s t=true then(uN t,0) else(false,2)):=by
 rw[oH,uA hs [t] (by simp) (fun x hx=>by simp at hx;subst hx;omega)]
 simp only[aQ,ax,nB,List.all_nil,ri]
 cases eC s t with
 | false=>rfl
 | true=>
   have:=ajN t
   obtain⟨y,e,h,d⟩:=aeO false 0 t (by omega) 1 [] (by omega) (by omega)
   simp only[if_true,show([]:List (Int×Bool))=mp [] from rfl,e,ax]
   have j:BW (tv t) []↔(tv t).Nodup:=by simp[BW]
   rw[j] at h d
   by_cases g:cj BR t=true∧(tv t).Nodup
   · simp_all[uN]
   · obtain⟨z,rfl⟩:=d g
     simp_all[uN]
def leaf (t:Term):Bool := !decide (t.Op=1)||t.Kids.isEmpty
theorem Cr {p q:Term→Bool}(h:∀ t,p t=true→q t=true)(t:Term):cj p t=true→cj q t=true:=by
 refine fX (P:=fun t=>cj p t=true→cj q t=true) (fun t d=>?_) t
 rw[dT,dT,fi,fi,aY,aY,dh,dh]
 simp_all
theorem QV (s:aH)(t:Term)(h:cj (fK s) t=true):cj leaf t=true:=by
 refine Cr (fun t h=>?_) t h
 simp only[leaf]
 by_cases c:t.Op=1
 · simp_all[fK]
 · simp[c]
theorem SD (t:Term)(G:t.Kids.length≤1000)(v:∀ x,x∈t.Kids→∀ l:LI,pt l→l.length+dE x≤900→∃ r b,ot x l=some (r,b)∧(b=true↔BW (tv x) l)∧(b=true→pt r∧(∀ z,z∈r↔z∈l∨z∈tv x)∧r.length≤l.length+dE x)) :
   ∀(k i:Nat) (l:LI),t.Kids.length-i=k→i≤t.Kids.length→pt l→l.length+gK (t.Kids.drop i)≤900→∃ r b,jh t i l true=some (r,b)∧(b=true↔BW (iy (t.Kids.drop i)) l)∧(b=true→pt r∧(∀ z,z∈r↔z∈l∨z∈iy (t.Kids.drop i))∧r.length≤l.length+gK (t.Kids.drop i)):=by
 intro k
 induction k with
 | zero=>
   intro i l w hi hs g
   refine⟨l,true,?_,?_,fun _=>?_⟩
   · rw[jh,iT];rfl
   · rw[show i=t.Kids.length by omega,dP,iy];exact⟨fun _=>QT,fun _=>rfl⟩
   · rw[show i=t.Kids.length by omega,dP,iy,gK];exact⟨hs,by simp,by omega⟩
 | succ k d=>
   intro i l w hi hs g
   have h:i<t.Kids.length:=by omega
   rw[cW h,gK] at g
   have H:=du (t.Kids.drop (i+1))
   obtain⟨r,b,e,j,y⟩:=v _ (cM h) l hs (by omega)
   rw[jh,eu,if_pos rfl,aU h,cW h,iy,gK]
   simp only[aQ,ax,e,JX]
   rw[if_pos fQ,if_pos fQ,tA]
   cases b with
   | false=>
     refine⟨r,false,?_,⟨fun q=>(by cases q),fun q=>j.2 q.1⟩,fun q=>(by cases q)⟩
     rw[if_neg (by simp),jh]
     split<;>rfl
   | true=>
     obtain⟨s1,s2,s3⟩:=y rfl
     have A:=j.1 rfl
     obtain⟨B,C,f,o,D⟩:=d (i+1) r (by omega) (by omega) s1 (by omega)
     have u:BW (iy (t.Kids.drop (i+1))) r↔BW (iy (t.Kids.drop (i+1))) (l++tv t.Kids[i]):=by
      simp only[BW,s2,dG]
     refine⟨B,C,by rw[if_pos rfl,f],⟨fun q=>⟨A,u.1 (o.1 q)⟩,fun q=>o.2 (u.2 q.2)⟩,fun q=>?_⟩
     obtain⟨E,F,I⟩:=D q
     refine⟨E,fun z=>?_,by omega⟩
     rw[F,s2,dG,or_assoc]
theorem Y3 (t:Term):cj leaf t=true→∀ l:LI,pt l→l.length+dE t≤900→∃ r b,ot t l=some (r,b)∧(b=true↔BW (tv t) l)∧(b=true→pt r∧(∀ z,z∈r↔z∈l∨z∈tv t)∧r.length≤l.length+dE t):=by
 refine fX (P:=fun t=>cj leaf t=true→∀ l:LI,pt l→l.length+dE t≤900→∃ r b,ot t l=some (r,b)∧(b=true↔BW (tv t) l)∧(b=true→pt r∧(∀ z,z∈r↔z∈l∨z∈tv t)∧r.length≤l.length+dE t)) (fun t j hf l hs k=>?_) t
 rw[dT,fi,aY,dh] at hf
 have u:=dZ t.Kids
 have v:=du t.Kids
 rw[eJ] at k ⊢
 rw[ot,rB]
 by_cases c:t.Op=1
 · have o:t.Kids=[]:=by have:=hf.1;simp[leaf,c] at this;exact this
   obtain⟨r,e,s1,s2,s3⟩:=put_eq l t.N hs (by omega)
   rw[if_pos (by simpa using c),e]
   simp only[aQ,ax,OJ l t.N (by omega),c,if_true,o,iy,nD,QU,gK]
   refine⟨r,!decide (t.N∈l),?_,by simp,fun _=>⟨s1,fun z=>by rw[s2];simp,by omega⟩⟩
   by_cases g:t.N∈l<;>simp[g]
 · rw[if_neg (by simpa using c),if_neg c,jU]
   obtain⟨r,b,e,h,d⟩:=SD t (by omega) (fun x hx l a b=>j x hx (hf.2 x hx) l a b) t.Kids.length 0 l rfl (bU _) hs (by rw[fy];omega)
   simp only[fy] at h d
   exact⟨r,b,e,h,fun q=>⟨(d q).1,(d q).2.1,by have:=(d q).2.2;omega⟩⟩
theorem PZ (t:Term)(hf:cj leaf t=true)(h:dE t≤900):tU t=some (uN t):=by
 obtain⟨r,b,e,d,_⟩:=Y3 t hf [] List.Pairwise.nil (by simp;omega)
 have g:BW (tv t) []↔(tv t).Nodup:=by simp[BW]
 rw[g] at d
 rw[tU,e]
 simp only[aQ,ax,V5 t (by omega),uN]
 cases b with
 | true=>simp[d.1 rfl,yM]
 | false=>
   simp_all
def EC (o n:Int)(i:Nat)(x:Int):Bool := !(decide (o=8)&&decide ((i:Int)=1)&&decide (x=n))
mutual
def fr : Term→LI
 | .mk o n l=>if o=1 then [n] else uh o n 0 l
def uh (o n:Int):Nat→List Term→LI
 | _,[]=>[]
 | i,t::l=>(fr t).filter (EC o n i)++uh o n (i+1) l
end
theorem Fu (t:Term):fr t=if t.Op=1 then [t.N] else uh t.Op t.N 0 t.Kids:=by cases t;rw[fr];rfl
variable {W : LI → Prop}
theorem ZO (t:Term)(v:LI)(i:Nat)(g:LI)(hi:i≤1000000)(E:g.length+v.length≤1000)(w:∀ d,pt d→d.length≤g.length+v.length→(∀ x,x∈d↔x∈g∨(x∈v∧EC t.Op t.N i x=true))→∃ r,kQ t d ((i:Int)+1)=some r∧W r) :
   ∀(k j:Nat) (d:LI),v.length-j=k→j≤v.length→pt d→d.length≤g.length+j→(∀ x,x∈d↔x∈g∨(x∈v.take j∧EC t.Op t.N i x=true))→∃ r,eK t v i j d=some r∧W r:=by
 intro k
 induction k with
 | zero=>
   intro j d A B hs C o
   rw[eK,iT,if_pos fQ]
   exact w d hs (by omega) (by rw[show j=v.length by omega,List.take_length] at o;exact o)
 | succ k u=>
   intro j d A B hs C o
   have h:j<v.length:=by omega
   have put:EC t.Op t.N i v[j]=true→∃ r,(bQ v (j:Int)>>=fun x=>nh d x>>=fun z=>if cy .i64 ((j:Int)+1) then eK t v i ((j:Int)+1) z else none)=some r∧W r:=fun D=>by
     obtain⟨r,e,s1,s2,s3⟩:=put_eq d v[j] hs (by omega)
     rw[aU h]
     simp only[aQ,ax,e]
     rw[if_pos fQ,show(j:Int)+1=((j+1:Nat):Int) by omega]
     refine u (j+1) r (by omega) (by omega) s1 (by omega) fun x=>?_
     rw[s2,o,Ck h,dG,px]
     constructor
     · rintro((a | a) | a)
       · exact .inl a
       · exact .inr ⟨.inl a.1,a.2⟩
       · exact .inr ⟨.inr a,a▸D⟩
     · rintro(a | ⟨a | a,b⟩)
       · exact .inl (.inl a)
       · exact .inl (.inr ⟨a,b⟩)
       · exact .inr a
   rw[eK,eu]
   by_cases c8:t.Op=8
   · rw[if_neg (by simp[c8])]
     by_cases c1:(i:Int)=1
     · rw[if_neg (by simp[c1]),aU h]
       simp only[aQ,ax]
       by_cases y:v[j]=t.N
       · rw[if_neg (by simp[y]),if_pos fQ,show(j:Int)+1=((j+1:Nat):Int) by omega]
         refine u (j+1) d (by omega) (by omega) hs (by omega) fun x=>?_
         rw[o,Ck h,dG,px]
         constructor
         · rintro(a | a)
           · exact .inl a
           · exact .inr ⟨.inl a.1,a.2⟩
         · rintro(a | ⟨a | a,b⟩)
           · exact .inl a
           · exact .inr ⟨a,b⟩
           · subst a;simp[EC,c8,c1,y] at b
       · rw[if_pos (by simp[y])]
         have:=put (by simp[EC,y])
         rw[aU h] at this
         simpa only[aQ,ax,aU h] using this
     · rw[if_pos (by simp[c1])]
       exact put (by simp[EC,c1])
   · rw[if_pos (by simp[c8])]
     exact put (by simp[EC,c8])
theorem ajO (t:Term)(v:LI)(i:Nat)(hi:i≤1000000)(D:v.length≤1000)(u:∀ d,pt d→d.length≤v.length→(∀ x,x∈d↔(x∈v∧EC t.Op t.N i x=true))→∃ r,kQ t d ((i:Int)+1)=some r∧W r)(g:(∀ x,x∈v→EC t.Op t.N i x=false)→∃ r,kR t ((i:Int)+1)=some r∧W r) :
   ∀(k j:Nat),v.length-j=k→j≤v.length→(∀ x,x∈v.take j→EC t.Op t.N i x=false)→∃ r,lW t i v j=some r∧W r:=by
 intro k
 induction k with
 | zero=>
   intro j A B o
   rw[lW,iT,if_pos fQ]
   exact g (by rw[show j=v.length by omega,List.take_length] at o;exact o)
 | succ k y=>
   intro j A B o
   have h:j<v.length:=by omega
   have put:EC t.Op t.N i v[j]=true→∃ r,(bQ v (j:Int)>>=fun x=>nh ([]:LI) x>>=fun z=>if cy .i64 ((j:Int)+1) then eK t v i ((j:Int)+1) z else none)=some r∧W r:=fun C=>by
     obtain⟨r,e,s1,s2,s3⟩:=put_eq [] v[j] List.Pairwise.nil (by simp)
     rw[aU h]
     simp only[aQ,ax,e]
     rw[if_pos fQ,show(j:Int)+1=((j+1:Nat):Int) by omega]
     refine ZO t v i [] hi (by simp;omega) (fun d a b c=>u d a (by simpa using b) (fun x=>by rw[c];simp)) (v.length-(j+1)) (j+1) r rfl (by omega) s1 (by simp at s3 ⊢;omega) fun x=>?_
     rw[s2,Ck h,dG,px]
     simp only[List.not_mem_nil,false_or]
     constructor
     · rintro rfl;exact⟨.inr rfl,C⟩
     · rintro⟨a | a,b⟩
       · rw[o x a] at b;cases b
       · exact a
   rw[lW,eu]
   by_cases c8:t.Op=8
   · rw[if_neg (by simp[c8])]
     by_cases c1:(i:Int)=1
     · rw[if_neg (by simp[c1]),aU h]
       simp only[aQ,ax]
       by_cases w:v[j]=t.N
       · rw[if_neg (by simp[w]),if_pos fQ,show(j:Int)+1=((j+1:Nat):Int) by omega]
         refine y (j+1) (by omega) (by omega) fun x hx=>?_
         rw[Ck h,dG,px] at hx
         rcases hx with hx | hx
         · exact o x hx
         · subst hx;simp[EC,c8,c1,w]
       · rw[if_pos (by simp[w])]
         have:=put (by simp[EC,w])
         rw[aU h] at this
         simpa only[aQ,ax,aU h] using this
     · rw[if_pos (by simp[c1])]
       exact put (by simp[EC,c1])
   · rw[if_pos (by simp[c8])]
     exact put (by simp[EC,c8])
def af6 (t:Term)(r:LI):Prop:=pt r∧(∀ x,x∈r↔x∈fr t)∧(r.length:Int)≤dE t
theorem ajP (t:Term)(B:t.Kids.length≤1000)(u:∀ x,x∈t.Kids→dE x≤900→∃ r,fM x=some r∧af6 x r) :
   ∀(k i:Nat) (d:LI),t.Kids.length-i=k→i≤t.Kids.length→pt d→d.length+gK (t.Kids.drop i)≤900→∃ r,kQ t d i=some r∧pt r∧(∀ x,x∈r↔x∈d∨x∈uh t.Op t.N i (t.Kids.drop i))∧(r.length:Int)≤d.length+gK (t.Kids.drop i):=by
 intro k
 induction k with
 | zero=>
   intro i d w hi hs o
   rw[kQ,iT,show i=t.Kids.length by omega,dP]
   exact⟨d,rfl,hs,by simp[uh],by simp[gK]⟩
 | succ k j=>
   intro i d w hi hs o
   have h:i<t.Kids.length:=by omega
   rw[cW h,gK] at o
   have C:=du (t.Kids.drop (i+1))
   have D:=j4 t.Kids[i]
   obtain⟨v,e,E,y,v3⟩:=u _ (cM h) (by omega)
   rw[kQ,eu,aU h,cW h]
   simp only[aQ,ax,e]
   refine ZO t v i d (by omega) (by omega) (fun g s1 s2 s3=>?_) v.length 0 d rfl (bU _) hs (by omega) (by simp)
   obtain⟨r,f,z,A,F⟩:=j (i+1) g (by omega) (by omega) s1 (by omega)
   refine⟨r,f,z,fun x=>?_,by rw[gK];omega⟩
   rw[A,s3,uh,dG,List.mem_filter,y,or_assoc]
theorem ajQ (t:Term)(z:t.Kids.length≤1000)(u:∀ x,x∈t.Kids→dE x≤900→∃ r,fM x=some r∧af6 x r) :
   ∀(k i:Nat),t.Kids.length-i=k→i≤t.Kids.length→gK (t.Kids.drop i)≤900→∃ r,kR t i=some r∧pt r∧(∀ x,x∈r↔x∈uh t.Op t.N i (t.Kids.drop i))∧(r.length:Int)≤gK (t.Kids.drop i):=by
 intro k
 induction k with
 | zero=>
   intro i A hi w
   rw[kR,iT,show i=t.Kids.length by omega,dP]
   exact⟨[],rfl,List.Pairwise.nil,by simp[uh],by simp[gK]⟩
 | succ k o=>
   intro i A hi w
   have h:i<t.Kids.length:=by omega
   rw[cW h,gK] at w
   have C:=du (t.Kids.drop (i+1))
   have D:=j4 t.Kids[i]
   obtain⟨v,e,E,y,v3⟩:=u _ (cM h) (by omega)
   rw[kR,eu,aU h,cW h]
   simp only[aQ,ax,e]
   refine ajO t v i (by omega) (by omega) (fun d s1 s2 s3=>?_) (fun s3=>?_) v.length 0 rfl (bU _) (by simp)
   · obtain⟨r,f,g,j,B⟩:=ajP t z u (t.Kids.length-(i+1)) (i+1) d rfl (by omega) s1 (by omega)
     refine⟨r,f,g,fun x=>?_,by rw[gK];omega⟩
     rw[j,s3,uh,dG,List.mem_filter,y]
   · obtain⟨r,f,g,j,B⟩:=o (i+1) (by omega) (by omega) (by omega)
     refine⟨r,f,g,fun x=>?_,by rw[gK];omega⟩
     rw[j,uh,dG,List.mem_filter]
     constructor
     · exact .inr
     · rintro(⟨a,b⟩ | a)
       · rw[s3 x ((y x).2 a)] at b;cases b
       · exact a
theorem AM (t:Term):dE t≤900→∃ r,fM t=some r∧af6 t r:=by
 refine fX (P:=fun t=>dE t≤900→∃ r,fM t=some r∧af6 t r) (fun t g h=>?_) t
 have o:=dZ t.Kids
 have u:=du t.Kids
 rw[eJ] at h
 rw[fM]
 simp only[af6]
 rw[Fu,eJ]
 by_cases c:t.Op=1
 · rw[if_pos (by simpa using c),if_pos c]
   exact⟨_,rfl,by simp,by simp,by simp;omega⟩
 · rw[if_neg (by simpa using c),if_neg c]
   obtain⟨r,e,j,d,k⟩:=ajQ t (by omega) g t.Kids.length 0 rfl (bU _) (by rw[fy];omega)
   rw[fy] at d k
   exact⟨r,e,j,d,by omega⟩
mutual
def lt : Term→LI
 | .mk o n l=>(if o=8 then [n] else [])++DQ l
def DQ : List Term→LI
 | []=>[]
 | t::l=>lt t++DQ l
end
theorem lt_eq (t:Term):lt t=(if t.Op=8 then [t.N] else [])++DQ t.Kids:=by cases t;rw[lt];rfl
theorem JY : ∀ l:List Term,(∀ x,x∈l→((lt x).length:Int)≤dE x)→((DQ l).length:Int)≤gK l
 | [],_=>by simp[DQ,gK]
 | a::l,h=>by
   have h1:=h a (by simp)
   have h2:=JY l fun x hx=>h x (by simp[hx])
   simp only[DQ,gK,nv];omega
theorem OM (t:Term):((lt t).length:Int)≤dE t:=by
 refine fX (P:=fun t=>((lt t).length:Int)≤dE t) (fun t d=>?_) t
 have:=JY t.Kids d
 rw[lt_eq,eJ]
 split<;>simp<;>omega
theorem ZP (t:Term)(u:t.Kids.length≤1000)(o:∀ x,x∈t.Kids→lh x=some (lt x)) :
   ∀(k i:Nat) (d:LI),t.Kids.length-i=k→i≤t.Kids.length→d.length+(DQ (t.Kids.drop i)).length≤1000000→iD t i d=some (d++DQ (t.Kids.drop i)):=by
 intro k
 induction k with
 | zero=>
   intro i d r hi j
   rw[iD,iT,show i=t.Kids.length by omega,dP]
   simp[DQ]
 | succ k g=>
   intro i d r hi j
   have h:i<t.Kids.length:=by omega
   rw[cW h,DQ,nv] at j
   rw[iD,eu,aU h,cW h,DQ]
   simp only[aQ,ax,o _ (cM h)]
   by_cases c:lt t.Kids[i]=[]
   · rw[c,if_pos (show([]:LI).isEmpty=true from rfl),if_pos fQ,tA,g (i+1) d (by omega) (by omega) (by omega)];simp
   · rw[if_neg (by simpa using c),eu,if_pos fQ,tA,g (i+1) _ (by omega) (by omega) (by simp;omega),nu]
theorem ajR (t:Term)(o:t.Kids.length≤1000)(d:(DQ t.Kids).length≤1000000)(j:∀ x,x∈t.Kids→lh x=some (lt x)) :
   ∀(k i:Nat),t.Kids.length-i=k→i≤t.Kids.length→(DQ (t.Kids.drop i)).length≤1000000→lX t i=some (DQ (t.Kids.drop i)):=by
 intro k
 induction k with
 | zero=>
   intro i r hi d
   rw[lX,iT,show i=t.Kids.length by omega,dP]
   simp[DQ]
 | succ k g=>
   intro i r hi d
   have h:i<t.Kids.length:=by omega
   rw[cW h,DQ,nv] at d
   rw[lX,eu,aU h,cW h,DQ]
   simp only[aQ,ax,j _ (cM h)]
   by_cases c:lt t.Kids[i]=[]
   · rw[c,if_pos (show([]:LI).isEmpty=true from rfl),if_pos fQ,tA,g (i+1) (by omega) (by omega) (by omega)];simp
   · rw[if_neg (by simpa using c),eu,if_pos fQ,tA,ZP t o j (t.Kids.length-(i+1)) (i+1) _ rfl (by omega) (by omega)]
theorem Y4 (t:Term):dE t≤900→lh t=some (lt t):=by
 refine fX (P:=fun t=>dE t≤900→lh t=some (lt t)) (fun t g h=>?_) t
 have j:=dZ t.Kids
 have k:=du t.Kids
 have o:=JY t.Kids fun x _=>OM x
 rw[eJ] at h
 have d:=fun x hx=>g x hx (by have:=j.2 x hx;omega)
 rw[lh,lt_eq]
 by_cases c:t.Op=8
 · rw[if_pos (by simpa using c),if_pos c]
   have:=ZP t (by omega) d t.Kids.length 0 [t.N] rfl (bU _) (by rw[fy];simp;omega)
   simp_all
 · rw[if_neg (by simpa using c),if_neg c]
   have:=ajR t (by omega) (by omega) d t.Kids.length 0 rfl (bU _) (by rw[fy];omega)
   simp_all
theorem P0 (l:LI)(a:Int)(j:l.length≤1000000):∀(k i:Nat) (c:Int),l.length-i=k→i≤l.length→0≤c→c≤i→jK l a i c=some (c+(l.drop i).count a):=by
 intro k
 induction k with
 | zero=>
   intro i c g hi h1 h2
   rw[jK,iT,show i=l.length by omega,dP];simp
 | succ k d=>
   intro i c g hi h1 h2
   have h:i<l.length:=by omega
   rw[jK,eu,aU h,cW h,List.count_cons]
   simp only[aQ,ax]
   by_cases e:l[i]=a
   · rw[if_pos (by simpa using e),if_pos fQ,if_pos fQ,tA,d (i+1) _ (by omega) (by omega) (by omega) (by omega)]
     simp[e];omega
   · rw[if_neg (by simpa using e),if_pos fQ,tA,d (i+1) _ (by omega) (by omega) (by omega) (by omega)]
     simp[e]
theorem count_eq (l:LI)(a:Int)(d:l.length≤1000000):yw l a=some (l.count a:Int):=by
 rw[yw]
 have:=P0 l a d l.length 0 0 rfl (bU _) (by omega) (by omega)
 simpa using this
def s6 (t:Term)(l:LI):Bool:=(lt t).all fun x=>decide ((lt t).count x≤1) && !decide (x∈l) && !decide (x∈fr t)
theorem V7 (t:Term)(l:LI)(d:dE t≤900)(g:l.length≤1000000):yx t l=some (s6 t l):=by
 obtain⟨v,e,k,j,v3⟩:=AM t d
 have o:=OM t
 rw[yx,Y4 t d]
 simp only[aQ,ax,e]
 rw[pk (l:=lt t) (q:=fun x=>decide ((lt t).count x≤1) && !decide (x∈l) && !decide (x∈fr t)) (e:=some true) (f:=some false) (kH l (lt t) v) (fun i h=>?_) ?_]
 · simp only[s6,yM]
 · rw[kH,if_neg (by simp)]
 · rw[kH,eu,aU h]
   simp only[aQ,ax,count_eq (lt t) _ (by omega),OJ l _ g,OJ v _ (by omega),j]
   rw[if_pos fQ]
   by_cases c:(lt t).count (lt t)[i]≤1
   · rw[iT]
     by_cases c2:(lt t)[i]∈l
     all_goals simp_all
   · rw[eu];simp[c]
theorem yE {o n:Int}(d:o≠8):∀(l:List Term) (i:Nat),(∀ x,x∈l→fr x=tv x)→uh o n i l=iy l
 | [],_,_=>by simp[uh,iy]
 | a::l,i,h=>by
   rw[uh,iy,yE d l (i+1) fun x hx=>h x (by simp[hx]),h a (by simp)]
   simp_all[EC]
theorem ON (t:Term):cj BR t=true→cj leaf t=true→fr t=tv t:=by
 refine fX (P:=fun t=>cj BR t=true→cj leaf t=true→fr t=tv t) (fun t d h1 h2=>?_) t
 rw[dT,fi,aY,dh] at h1 h2
 rw[Fu,rB]
 by_cases c:t.Op=1
 all_goals simp_all[leaf,iy,BR,yE]
theorem Gr {l:LI}(h:pt l):l.Nodup:=List.Pairwise.imp (fun h=>by omega) h
theorem EV : ∀ l:LI,(Al l).length≤l.length∧((Al l).length=l.length→l.Nodup)
 | []=>by simp[Al]
 | a::l=>by
   obtain⟨h1,h2⟩:=EV l
   simp only[Al]
   split
   · rename_i c
     exact⟨by simp;omega,fun e=>by simp at e;omega⟩
   all_goals simp_all
theorem EW {r l:LI}(d:r.Nodup)(g:∀ x,x∈r↔x∈l):r.length≤l.length∧(r.length=l.length↔l.Nodup):=by
 have h:=(pm r (Al l) d (ve l) fun x=>by rw[g,rF]).length_eq
 obtain⟨h1,h2⟩:=EV l
 exact⟨by omega,fun e=>h2 (by omega),fun e=>(pm r l d e g).length_eq⟩
theorem NQ (l:List Term)(w:LI)(d:(sd l>>=fun v=>fM v)=some w)(y:l.length≤1000)(z:(iy l).length≤100000)(j:∀ x,x∈l→∃ r,fM x=some r∧r.length=(tv x).length) :
   ∀(k i:Nat) (c:Int),l.length-i=k→i≤l.length→0≤c→c+(iy (l.drop i)).length≤200000→jO l i c=some (decide (c+(iy (l.drop i)).length=w.length)):=by
 intro k
 induction k with
 | zero=>
   intro i c o hi h1 h2
   rw[jO,iT,show i=l.length by omega,dP,iy]
   cases t:sd l with
   | none=>simp_all
   | some v=>
     rw[t] at d
     simp only[aQ,ax] at d ⊢
     rw[d]
     simp only[ax,zw]
     simp
 | succ k g=>
   intro i c o hi h1 h2
   have h:i<l.length:=by omega
   obtain⟨r,e,u⟩:=j _ (cM h)
   rw[cW h,iy,nv] at h2 ⊢
   rw[jO,eu,aU h]
   simp only[aQ,ax,e,u]
   rw[if_pos fQ,if_pos fQ,tA,g (i+1) _ (by omega) (by omega) (by omega) (by omega)]
   congr 2
   simp only[eq_iff_iff]
   omega
theorem JZ : ∀ l:List Term,(∀ x,x∈l→((tv x).length:Int)≤dE x)→((iy l).length:Int)≤gK l
 | [],_=>by simp[iy,gK]
 | a::l,h=>by
   have h1:=h a (by simp)
   have h2:=JZ l fun x hx=>h x (by simp[hx])
   simp only[iy,gK,nv];omega
theorem OO (t:Term):((tv t).length:Int)≤dE t:=by
 refine fX (P:=fun t=>((tv t).length:Int)≤dE t) (fun t d=>?_) t
 have:=JZ t.Kids d
 rw[rB,eJ]
 split<;>simp<;>omega
theorem Mh (l:List Term)(h:gK l≤800)(j:∀ x,x∈l→uN x=true∧cj leaf x=true):∃ w,sd l=some (Term.mk 0 0 l)∧fM (Term.mk 0 0 l)=some w∧pt w∧(∀ x,x∈w↔x∈iy l)∧w.length≤900:=by
 have hs:dE (Term.mk 0 0 l)=1+gK l:=by simp[dE]
 obtain⟨w,e,d,g,k⟩:=AM (Term.mk 0 0 l) (by omega)
 refine⟨w,rfl,e,d,fun x=>?_,by omega⟩
 rw [g,fr,if_neg (by decide),yE (by decide) l 0 fun x hx=>by
  simp_all[uN,ON]]
theorem SE (l:List Term)(k:gK l≤800)(j:∀ x,x∈l→uN x=true∧cj leaf x=true):vS l=some (decide (iy l).Nodup):=by
 obtain⟨w,o,e,t,u,_⟩:=Mh l k j
 have v:=dZ l
 have y:=JZ l fun x _=>OO x
 have:=NQ l w (by rw[o];exact e) (by omega) (by omega) (fun x hx=>by
  have d:=j x hx
  have g:=d.1
  simp only[uN,aY,decide_eq_true_eq] at g
  obtain⟨r,f,z,A,_⟩:=AM x (by have:=v.2 x hx;omega)
  simp_all[ON,EW,Gr]) l.length 0 0 rfl (bU _) (by omega) (by rw[fy];omega)
 rw[fy] at this
 rw[vS]
 refine this.trans ?_
 have h:=EW (Gr t) u
 congr 2
 simp only[eq_iff_iff,←h.2]
 omega
def pq (s:aH)(v:Int)(t:Term):Bool:=eC s t&&uN t&&cj (Jl v) t
def uR (s:aH)(r:bn):Bool:=
 po s.bp r.vt (fun k=>decide ((r.cJ.length:Int)=k))&&(decide (0≤r.bf)&&decide (r.bf≤20))&&eC s r.gU&&r.cJ.all (pq s r.bf)&&decide (iy r.cJ).Nodup&&cj (Jl r.bf) r.gU&&s6 r.gU (iy r.cJ)
theorem K8 (t:Term)(h:∀ x,x∈a↔x∈b):s6 t a=s6 t b:=by
 simp only[s6,h]
theorem NR (s:aH)(h1:s.Cons.length≤1000000)(h2:s.bp.length≤1000000)(r:bn)(t:gK r.cJ≤800):A5 s r=some (uR s r):=by
 have u:=dZ r.cJ
 have key:eC s r.gU=true→jV s r 0=some (r.cJ.all (pq s r.bf)&&decide (iy r.cJ).Nodup&&cj (Jl r.bf) r.gU&&s6 r.gU (iy r.cJ)):=fun B=>by
   have A:dE r.gU≤40:=by simp_all[eC]
   rw[pk (l:=r.cJ) (q:=pq s r.bf) (e:=jV s r r.cJ.length) (f:=some false) (jV s r) (fun i h=>?_) rfl]
   · cases v:r.cJ.all (pq s r.bf) with
     | false=>rfl
     | true=>
       have o:∀ x,x∈r.cJ→uN x=true∧cj leaf x=true:=fun x hx=>by
         have:=dh.1 v x hx
         simp only[pq,eC,aY] at this
         exact⟨this.1.2,QV s x this.1.1.2⟩
       obtain⟨w,y,e,C,z,D⟩:=Mh r.cJ t o
       rw[if_pos rfl,jV,if_neg (by simp),SE r.cJ t o,y]
       simp only[aQ,ax,e,US r.bf r.gU (by omega),V7 r.gU w (by omega) (by omega),K8 r.gU z,iC]
       by_cases g:(iy r.cJ).Nodup
       · by_cases d:cj (Jl r.bf) r.gU=true
         · simp[g,d,yM]
         · simp[g,d]
       · simp[g]
   · have hx:=cM h
     have hs:=u.2 _ hx
     rw[jV,eu,aU h]
     simp only[aQ,ax,xN s h1 h2,US r.bf _ (show dE r.cJ[i]≤1000000 by omega)]
     rw[if_pos fQ]
     by_cases g:eC s r.cJ[i]=true
     · have g' := g
       simp only[eC,aY] at g'
       rw[if_pos g,PZ _ (QV s _ g'.2) (by omega)]
       simp only[ax]
       by_cases d:uN r.cJ[i]=true
       · by_cases j:cj (Jl r.bf) r.cJ[i]=true
         · simp[pq,g,d,j]
         · simp[pq,g,d,j]
       · simp[pq,g,d]
     · simp[pq,g]
 rw[A5,uR]
 rw[tk (k:=fun k=>decide ((r.cJ.length:Int)=k)&&((decide (0≤r.bf)&&decide (r.bf≤20))&&eC s r.gU&&(r.cJ.all (pq s r.bf)&&decide (iy r.cJ).Nodup&&cj (Jl r.bf) r.gU&&s6 r.gU (iy r.cJ)))) h2 wB fun x=>?_]
 · congr 1
   simp only[po]
   cases bQ s.bp r.vt with
   | none=>simp
   | some x=>simp only[Bool.and_assoc]
 · by_cases g:(r.cJ.length:Int)=x.bu
   · rw[if_neg (by simp[g]),wB]
     simp only[aQ,ax,xN s h1 h2]
     by_cases d:(decide (0≤r.bf)&&decide (r.bf≤20))=true
     · by_cases j:eC s r.gU=true
       · rw[if_pos d,if_pos j,key j];simp[g,d,j]
       · rw[if_pos d,if_neg j];simp[j]
     · rw[if_neg d]
       have:(decide (0≤r.bf)&&decide (r.bf≤20))=false:=by simpa using d
       rw[this];simp
   · rw[if_pos (by simp[g])];simp[g]
variable {R : Type} {sn : List Nat}
theorem V8 {e:Option R}{f:Nat→α→Option R}(h:∀ i,i<l.length→i∈sn):B1 l sn e f=e:=by
 unfold B1;rw[if_pos h]
theorem V9 {e:Option R}{f:Nat→α→Option R}{r:R}(h:¬ ∀ i,i<l.length→i∈sn)(hf:∀ i x,l[i]? = some x→i∉sn→f i x=some r):B1 l sn e f=some r:=by
 unfold B1
 rw[if_neg h,dif_pos ⟨r,hf⟩]
 have d:=(show ∃ r,∀ i x,l[i]? = some x→i∉sn→f i x=some r from⟨r,hf⟩).choose_spec
 obtain⟨i,hi⟩:=Classical.not_forall.1 h
 obtain⟨h1,h2⟩:=Classical.not_imp.1 hi
 have a:=d i l[i] (qm h1) h2
 have b:=hf i l[i] (qm h1) h2
 rw[b] at a
 simp only[ba] at a
 rw[←a]
open Classical in
theorem rounds (F:Nat→List Nat→Option Bool)(w:∀ n k,F (n+1) k=B1 l k (some e) (fun j x=>if q x=true then F n (k++[j]) else some false)) :
   ∀(n:Nat) (k:List Nat),n+k.length=l.length→k.Nodup→(∀ j,j∈k→j<l.length)→F (n+1) k=some (decide (∀ i x,l[i]? = some x→i∉k→q x=true)&&e):=by
 intro n
 induction n with
 | zero=>
   intro k z g o
   have h:∀ i,i<l.length→i∈k:=fun i hi=>by
     refine Classical.byContradiction fun c=>?_
     have:=aff l.length (i::k) (rj.2 ⟨c,g⟩) fun x hx=>(cF.1 hx).elim (fun e=>e▸hi) (o x)
     simp at this;omega
   rw[w,V8 h]
   have:∀ i x,l[i]? = some x→i∉k→q x=true:=fun i x a b=>absurd (h i (lr.1 a).1) b
   rw[decide_eq_true this,iC]
 | succ n A=>
   intro k z g o
   rw[w]
   refine V9 (fun h=>?_) fun i x hx hi=>?_
   · have:l.length≤k.length:=by
       have h2:=aff k.length ((List.range l.length).map fun i=>k.idxOf i) ?_ ?_
       · simpa using h2
       · rw[List.nodup_iff_pairwise_ne,List.pairwise_map]
         refine List.Pairwise.imp_of_mem (R:=fun a b=>a≠b) (fun {a b} ha hb r e=>r ?_) (List.nodup_iff_pairwise_ne.1 List.nodup_range)
         have t:=h a (by simpa using ha)
         have u:=h b (by simpa using hb)
         have B:=List.getElem_idxOf (List.idxOf_lt_length_of_mem t)
         have C:=List.getElem_idxOf (List.idxOf_lt_length_of_mem u)
         rw[←B,←C]
         simp only[e]
       · intro j d
         obtain⟨i,h1,rfl⟩:=iB.1 d
         exact List.idxOf_lt_length_of_mem (h i (by simpa using h1))
     omega
   · have v:=(lr.1 hx).1
     by_cases c:q x=true
     · rw [if_pos c,A (k++[i]) (by simp;omega) (by
         rw[List.nodup_append]
         exact⟨g,by simp,fun a ha b hb e=>hi (by simp at hb;exact hb▸e▸ha)⟩) (fun j d=>by
         rcases dG.1 d with q | q
         · exact o j q
         · simp at q;exact q▸v)]
       congr 2
       simp only[decide_eq_decide]
       constructor
       · intro h j y hy d
         by_cases e:j=i
         · subst e;rw[hx] at hy;simp only[ba] at hy;exact hy▸c
         · exact h j y hy (by simp[d,e])
       · exact fun h j y hy d=>h j y hy fun q=>d (by simp[q])
     · rw[if_neg c]
       have:¬ ∀ i x,l[i]? = some x→i∉k→q x=true:=fun h=>c (h i x hx hi)
       simp[this]
theorem J0 (F:Nat→List Nat→Option Bool)(d:∀ n k,F (n+1) k=B1 l k (some e) (fun j x=>if q x=true then F n (k++[j]) else some false)):F (l.length+1) []=some (l.all q&&e):=by
 rw[rounds F d l.length [] (by simp) List.nodup_nil (by simp)]
 congr 2
 rw[Bool.eq_iff_iff]
 simp only[decide_eq_true_eq,dh]
 constructor
 · intro h x hx
   obtain⟨i,hi⟩:=gM hx
   exact h i x hi (by simp)
 · exact fun h i x hx _=>h x (uI hx)
def CM (m:List (Int×Int))(l:LI):Prop:=(m.map (·.1)).Nodup∧∀ x c,(x,c)∈m↔x∈l∧c=l.count x
theorem OP : CM [] []:=⟨List.nodup_nil,by simp⟩
theorem UT : ∀(m:List (Int×Int)) (x:Int),(∃ c,iJ m x=some c∧(x,c)∈m)∨(iJ m x=none∧∀ c,(x,c)∉m)
 | [],x=>.inr ⟨rfl,by simp⟩
 | (a,b)::m,x=>by
   simp only[iJ]
   by_cases e:x=a
   · simp_all
   · rw[if_neg e]
     rcases UT m x with⟨c,h1,h2⟩ | ⟨h1,h2⟩
     all_goals simp_all
variable {m : List (Int × Int)}
theorem lj {l:LI}(h:CM m l)(x:Int):(iJ m x).getD 0=l.count x:=by
 rcases UT m x with⟨c,h1,h2⟩ | ⟨h1,h2⟩
 · rw[h1];exact((h.2 x c).1 h2).2
 · rw[h1]
   have:x∉l:=fun q=>h2 _ ((h.2 x (l.count x)).2 ⟨q,rfl⟩)
   simp[vG.2 this]
theorem Mi (n v:Int):∀ m:List (Int×Int),(m.map (·.1)).Nodup→(∀ x c,(x,c)∈ky m n v↔(x=n∧c=v)∨(x≠n∧(x,c)∈m))∧((ky m n v).map (·.1)).Nodup
 | [],_=>by
   simp_all[ky]
 | (a,b)::m,h=>by
   simp only[dH,rj] at h
   obtain⟨h1,h2⟩:=Mi n v m h.2
   simp only[ky]
   by_cases e:n=a
   · subst e
     rw[if_pos rfl]
     refine⟨fun x c=>?_,by simpa using h⟩
     simp only[cF,lR]
     constructor
     · rintro(q | q)
       · exact .inl q
       · exact .inr ⟨fun e=>h.1 (e▸iB.2 ⟨_,q,rfl⟩),.inr q⟩
     · rintro(q | ⟨d,q | q⟩)
       all_goals simp_all
   · rw[if_neg e]
     refine⟨fun x c=>?_,?_⟩
     · simp only[cF,lR,h1]
       constructor
       · rintro(q | q | q)
         · exact .inr ⟨fun r=>e (r▸q.1),.inl q⟩
         · exact .inl q
         · exact .inr ⟨q.1,.inr q.2⟩
       · rintro(q | ⟨d,q | q⟩)
         · exact .inr (.inl q)
         · exact .inl q
         · exact .inr (.inr ⟨d,q⟩)
     · simp only[dH,rj]
       refine⟨fun q=>?_,h2⟩
       obtain⟨⟨y,c⟩,d,q2⟩:=iB.1 q
       simp only at q2
       subst q2
       rcases(h1 y c).1 d with r | r
       · exact e r.1.symm
       · exact h.1 (iB.2 ⟨_,r.2,rfl⟩)
theorem OQ {l:LI}(h:CM m l)(n:Int):CM (ky m n (((iJ m n).getD 0)+1)) (l++[n]):=by
 rw[lj h]
 obtain⟨h1,h2⟩:=Mi n ((l.count n:Int)+1) m h.1
 refine⟨h2,fun x c=>?_⟩
 rw[h1,h.2,List.count_append]
 simp only[dG,px]
 by_cases e:x=n
 · subst e;simp
 · have:[n].count x=0:=vG.2 (by simpa using e)
   simp[e,this]
theorem Wa (t:Term)(d:LT)(g a51:Int)(v:List (Int×Int))(A:t.Kids.length≤1000)
   (w:∀ x,x∈t.Kids→∀(m:List (Int×Int)) (l:LI),CM m l→l.length+dE x≤100000→∃ r,cq x d g a51 m=some r∧CM r (l++tv x)) :
   ∀(k i:Nat) (m:List (Int×Int)) (l:LI),t.Kids.length-i=k→i≤t.Kids.length→CM m l→l.length+gK (t.Kids.drop i)≤100000→∃ r,bL t d g a51 v i m=some r∧CM r (l++iy (t.Kids.drop i)):=by
 intro k
 induction k with
 | zero=>
   intro i m l y hi j u
   rw[bL,iT,show i=t.Kids.length by omega,dP,iy,nD]
   exact⟨m,rfl,j⟩
 | succ k o=>
   intro i m l y hi j u
   have h:i<t.Kids.length:=by omega
   rw[cW h,gK] at u
   have B:=du (t.Kids.drop (i+1))
   have C:=OO t.Kids[i]
   obtain⟨r,e,z⟩:=w _ (cM h) m l j (by omega)
   obtain⟨D,f,E⟩:=o (i+1) r (l++tv t.Kids[i]) (by omega) (by omega) z (by simp;omega)
   rw[bL,eu,aU h,cW h,iy]
   simp only[aQ,ax,e]
   rw[if_pos fQ,tA]
   simp_all
theorem aeP (d:LT)(g a51:Int)(t:Term):∀(m:List (Int×Int)) (l:LI),CM m l→l.length+dE t≤100000→dE t≤900→∃ r,cq t d g a51 m=some r∧CM r (l++tv t):=by
 refine fX (P:=fun t=>∀(m:List (Int×Int)) (l:LI),CM m l→l.length+dE t≤100000→dE t≤900→∃ r,cq t d g a51 m=some r∧CM r (l++tv t)) (fun t k m l h j hs=>?_) t
 have o:=dZ t.Kids
 have v:=du t.Kids
 rw[eJ] at j hs
 have loop:=fun u m l h j=>Wa t d g a51 u (by omega) (fun x hx m l a b=>k x hx m l a b (by have:=o.2 x hx;omega)) t.Kids.length 0 m l rfl (bU _) h j
 simp only[fy,show((0:Nat):Int)=0 from rfl] at loop
 rw[cq,rB]
 by_cases c:t.Op=1
 · rw[if_pos (by simpa using c),if_pos c,if_pos (wA (by rw[lj h];omega) (by rw[lj h];have:=List.count_le_length (a:=t.N) (l:=l);omega)),←nu]
   exact loop m _ (l++[t.N]) (OQ h t.N) (by simp;omega)
 · rw[if_neg (by simpa using c),if_neg c,jU]
   exact loop m m l h (by omega)
theorem Wb (l:List Term)(y:l.length≤1000)(t:gK l≤900):∀(k i:Nat) (m:List (Int×Int)) (a:LI),l.length-i=k→i≤l.length→CM m a→a.length+gK (l.drop i)≤90000→∃ r,cw l i m=some r∧CM r (a++iy (l.drop i)):=by
 have g:=dZ l
 intro k
 induction k with
 | zero=>
   intro i m a u hi d t
   rw[cw,iT,show i=l.length by omega,dP,iy,nD]
   exact⟨m,rfl,d⟩
 | succ k j=>
   intro i m a u hi d o
   have h:i<l.length:=by omega
   rw[cW h,gK] at o
   have z:=du (l.drop (i+1))
   have A:=OO l[i]
   have hs:=g.2 _ (cM h)
   obtain⟨r,e,v⟩:=aeP l l.length i l[i] m a d (by omega) (by omega)
   obtain⟨w,f,x⟩:=j (i+1) r (a++tv l[i]) (by omega) (by omega) v (by simp;omega)
   rw[cw,eu,aU h,cW h,iy]
   simp only[aQ,ax,e]
   rw[if_pos fQ,tA]
   exact⟨w,f,by rw[←nu];exact x⟩
theorem Bw (l:List Term)(g:gK l≤900):∃ r,cV l=some r∧CM r (iy l):=by
 have h:=dZ l
 obtain⟨r,e,d⟩:=Wb l (by omega) g l.length 0 [] [] rfl (bU _) OP (by rw[fy];simp;omega)
 rw[fy] at d
 exact⟨r,e,by simpa using d⟩
theorem SF (t:Term)(o:List (Int×Int))(y:t.Kids.length≤1000)
   (u:∀ x,x∈t.Kids→∀(m:List (Int×Int)) (l:LI),CM m l→l.length+dE x≤100000→∃ r,cr x m=some r∧CM r (l++lt x)) :
   ∀(k i:Nat) (m:List (Int×Int)) (l:LI),t.Kids.length-i=k→i≤t.Kids.length→CM m l→l.length+gK (t.Kids.drop i)≤100000→∃ r,bM t o i m=some r∧CM r (l++DQ (t.Kids.drop i)):=by
 intro k
 induction k with
 | zero=>
   intro i m l v hi d j
   rw[bM,iT,show i=t.Kids.length by omega,dP,DQ,nD]
   exact⟨m,rfl,d⟩
 | succ k g=>
   intro i m l v hi d j
   have h:i<t.Kids.length:=by omega
   rw[cW h,gK] at j
   have z:=du (t.Kids.drop (i+1))
   have A:=OM t.Kids[i]
   obtain⟨r,e,w⟩:=u _ (cM h) m l d (by omega)
   obtain⟨B,f,C⟩:=g (i+1) r (l++lt t.Kids[i]) (by omega) (by omega) w (by simp;omega)
   rw[bM,eu,aU h,cW h,DQ]
   simp only[aQ,ax,e]
   rw[if_pos fQ,tA]
   simp_all
theorem Wc (t:Term):∀(m:List (Int×Int)) (l:LI),CM m l→l.length+dE t≤100000→dE t≤900→∃ r,cr t m=some r∧CM r (l++lt t):=by
 refine fX (P:=fun t=>∀(m:List (Int×Int)) (l:LI),CM m l→l.length+dE t≤100000→dE t≤900→∃ r,cr t m=some r∧CM r (l++lt t)) (fun t h m l d g hs=>?_) t
 have j:=dZ t.Kids
 have o:=du t.Kids
 rw[eJ] at g hs
 have loop:=fun k m l d g=>SF t k (by omega) (fun x hx m l a b=>h x hx m l a b (by have:=j.2 x hx;omega)) t.Kids.length 0 m l rfl (bU _) d g
 simp only[fy,show((0:Nat):Int)=0 from rfl] at loop
 rw[cr,lt_eq]
 by_cases c:t.Op=8
 · rw[if_pos (by simpa using c),if_pos c,if_pos (wA (by rw[lj d];omega) (by rw[lj d];have:=List.count_le_length (a:=t.N) (l:=l);omega)),←nu]
   exact loop m _ (l++[t.N]) (OQ d t.N) (by simp;omega)
 · rw[if_neg (by simpa using c),if_neg c,jU]
   exact loop m m l d (by omega)
theorem P1 (t:Term)(d:dE t≤900):∃ r,eY t=some r∧CM r (lt t):=by
 obtain⟨r,e,g⟩:=Wc t [] [] OP (by simp;omega) d
 rw[eY,e]
 simp_all
theorem P2 (l:LI)(a:Int)(o:l.length≤1000000):∀(k i:Nat),l.length-i=k→i≤l.length→∃ n,dk l a i=some n∧(n≥0↔a∈l.drop i):=by
 intro k
 induction k with
 | zero=>
   intro i g hi
   rw[dk,iT,show i=l.length by omega,dP]
   simp_all
 | succ k d=>
   intro i g hi
   have h:i<l.length:=by omega
   rw[dk,eu,aU h,cW h]
   simp only[aQ,ax]
   by_cases c:a=l[i]
   · rw[if_pos (by simpa using c)]
     exact⟨i,rfl,fun _=>c▸jq .., fun _=>by omega⟩
   · obtain⟨n,e,j⟩:=d (i+1) (by omega) (by omega)
     rw[if_neg (by simpa using c),if_pos fQ,tA]
     exact⟨n,e,by rw[j,cF];simp[c]⟩
theorem contains_eq (l:LI)(a:Int)(d:l.length≤1000000):cL l a=some (decide (a∈l)):=by
 obtain⟨n,e,g⟩:=P2 l a d l.length 0 rfl (bU _)
 rw[fy] at g
 rw[cL,lM]
 simp only[show(0:Int)=((0:Nat):Int) from rfl,e,aQ,ax]
 by_cases c:a∈l
 all_goals simp_all
def DR (L o:LI)(x:Int):Bool:=decide ((L.count x:Int)=0)||decide (x∈o)
theorem vg {o:Int}(h:¬ (o=8∧(i:Int)=1))(l:LI):l.filter (EC o n i)=l:=
 List.filter_eq_self.2 fun x _=>by
  simp only[EC]
  by_cases a:o=8
  all_goals simp_all
theorem QW (n:Int)(L o:LI)(l:LI):(l.filter (EC 8 n 1)).all (DR L o)=l.all (DR L (o++[n])):=by
 induction l with
 | nil=>rfl
 | cons x l d=>
   by_cases c:x=n
   all_goals simp_all[EC,DR]
theorem Wd (t:Term)(m:List (Int×Int))(L o:LI)(v:t.Kids.length≤1000)(w:o.length≤100000)
   (d:∀ x,x∈t.Kids→∀ o2:LI,o2.length≤o.length+1→bR x m o2=some ((fr x).all (DR L o2))) :
   ∀(k i:Nat),t.Kids.length-i=k→i≤t.Kids.length→bx t m o i=some ((uh t.Op t.N i (t.Kids.drop i)).all (DR L o)):=by
 intro k
 induction k with
 | zero=>
   intro i u hi
   rw[bx,iT,show i=t.Kids.length by omega,dP,uh];rfl
 | succ k j=>
   intro i u hi
   have h:i<t.Kids.length:=by omega
   have hx:=cM h
   have g:∀ b:Bool,(if b=true then(if cy .i64 ((i:Int)+1) then bx t m o ((i:Int)+1) else none) else some false)=some (b&&(uh t.Op t.N (i+1) (t.Kids.drop (i+1))).all (DR L o)):=fun b=>by
     rw[if_pos fQ,tA,j (i+1) (by omega) (by omega)]
     cases b<;>rfl
   rw[bx,eu,aU h,cW h,uh,List.all_append]
   simp only[aQ,ax]
   by_cases c8:t.Op=8
   · by_cases c1:(i:Int)=1
     · have e:∀ l:LI,(List.filter (EC t.Op t.N i) l).all (DR L o)=l.all (DR L (o++[t.N])):=fun l=>by
         rw[c8,show i=1 by omega];exact QW t.N L o l
       rw[if_pos (by simpa using c8),if_pos (by simpa using c1),e]
       by_cases r:o=[]
       · subst r
         rw[if_pos (show([]:LI).isEmpty=true from rfl),d _ hx [t.N] (by simp)]
         exact g _
       · rw[if_neg (by simpa using r),eu,eu,jU,d _ hx (o++[t.N]) (by simp)]
         exact g _
     · rw[if_pos (by simpa using c8),if_neg (by simpa using c1),vg (fun q=>c1 q.2),d _ hx o (by omega)]
       exact g _
   · rw[if_neg (by simpa using c8),vg (fun q=>c8 q.1),d _ hx o (by omega)]
     exact g _
theorem aeQ (m:List (Int×Int))(L:LI)(g:CM m L)(t:Term):dE t≤900→∀ o:LI,o.length+dE t≤90000→bR t m o=some ((fr t).all (DR L o)):=by
 refine fX (P:=fun t=>dE t≤900→∀ o:LI,o.length+dE t≤90000→bR t m o=some ((fr t).all (DR L o))) (fun t j k o r=>?_) t
 have d:=dZ t.Kids
 have u:=du t.Kids
 rw[eJ] at k r
 rw[bR,Fu,lj g]
 by_cases c:t.Op=1
 · rw[if_pos (by simpa using c),if_pos c]
   simp only[nB,List.all_nil,ri,DR]
   by_cases c2:(L.count t.N:Int)=0
   · simp_all
   · rw[if_neg (by simpa using c2),contains_eq o t.N (by omega)]
     simp only[aQ,ax,zw]
     simp_all
 · rw[if_neg (by simpa using c),if_neg c]
   have:=Wd t m L o (by omega) (by omega) (fun x hx o2 h=>j x hx (by have:=d.2 x hx;omega) o2 (by have:=d.2 x hx;omega)) t.Kids.length 0 rfl (bU _)
   simp_all
theorem We (t:Term)(m:List (Int×Int))(L:LI)(o:CM m L)(u:t.Kids.length≤1000)(hs:∀ x,x∈t.Kids→dE x≤900)
   (j:∀ x,x∈t.Kids→cA x m=some ((fr x).all (DR L []))) :
   ∀(k i:Nat),t.Kids.length-i=k→i≤t.Kids.length→bD t m i=some ((uh t.Op t.N i (t.Kids.drop i)).all (DR L [])):=by
 intro k
 induction k with
 | zero=>
   intro i r hi
   rw[bD,iT,show i=t.Kids.length by omega,dP,uh];rfl
 | succ k g=>
   intro i r hi
   have h:i<t.Kids.length:=by omega
   have hx:=cM h
   have d:∀ b:Bool,(if b=true then(if cy .i64 ((i:Int)+1) then bD t m ((i:Int)+1) else none) else some false)=some (b&&(uh t.Op t.N (i+1) (t.Kids.drop (i+1))).all (DR L [])):=fun b=>by
     rw[if_pos fQ,tA,g (i+1) (by omega) (by omega)]
     cases b<;>rfl
   rw[bD,eu,aU h,cW h,uh,List.all_append]
   simp only[aQ,ax]
   by_cases c8:t.Op=8
   · by_cases c1:(i:Int)=1
     · have e:∀ l:LI,(List.filter (EC t.Op t.N i) l).all (DR L [])=l.all (DR L [t.N]):=fun l=>by
        rw[c8,show i=1 by omega];exact QW t.N L [] l
       rw[if_pos (by simpa using c8),if_pos (by simpa using c1),e,aeQ m L o _ (hs _ hx) [t.N] (by have:=hs _ hx;simp;omega)]
       exact d _
     · rw[if_pos (by simpa using c8),if_neg (by simpa using c1),vg (fun q=>c1 q.2),j _ hx]
       exact d _
   · rw[if_neg (by simpa using c8),vg (fun q=>c8 q.1),j _ hx]
     exact d _
theorem aeR (m:List (Int×Int))(L:LI)(d:CM m L)(t:Term):dE t≤900→cA t m=some ((fr t).all (DR L [])):=by
 refine fX (P:=fun t=>dE t≤900→cA t m=some ((fr t).all (DR L []))) (fun t h j=>?_) t
 have g:=dZ t.Kids
 have k:=du t.Kids
 rw[eJ] at j
 rw[cA,Fu,lj d]
 by_cases c:t.Op=1
 · rw[if_pos (by simpa using c),if_pos c]
   simp only[nB,List.all_nil,ri,DR]
   by_cases c2:(L.count t.N:Int)=0
   all_goals simp_all[contains_eq]
 · rw[if_neg (by simpa using c),if_neg c]
   have:=We t m L d (by omega) (fun x hx=>by have:=g.2 x hx;omega) (fun x hx=>h x hx (by have:=g.2 x hx;omega)) t.Kids.length 0 rfl (bU _)
   simp_all
theorem J1 (v:Int)(t:Term):cj (Jl v) t=true↔(∀ x,x∈tv t→x<v)∧∀ x,x∈lt t→x<v:=by
 refine fX (P:=fun t=>cj (Jl v) t=true↔(∀ x,x∈tv t→x<v)∧∀ x,x∈lt t→x<v) (fun t g=>?_) t
 have j:∀ l:List Term,(∀ x,x∈l→(cj (Jl v) x=true↔(∀ z,z∈tv x→z<v)∧∀ z,z∈lt x→z<v))→(wU (Jl v) l=true↔(∀ x,x∈iy l→x<v)∧∀ x,x∈DQ l→x<v):=by
   intro l
   induction l with
   | nil=>intro _;simp[wU,iy,DQ]
   | cons a l d=>
     intro h
     have h1:=h a (by simp)
     have h2:=d fun x hx=>h x (by simp[hx])
     simp only[wU,aY,h1,h2,iy,DQ,dG]
     constructor
     · rintro⟨⟨k,a2⟩,o,r⟩
       exact⟨fun x hx=>hx.elim (k x) (o x),fun x hx=>hx.elim (a2 x) (r x)⟩
     all_goals simp_all
 rw[dT,aY,j t.Kids g,rB,lt_eq]
 simp only[Jl,dG]
 by_cases c1:t.Op=1
 · have c8:¬ t.Op=8:=by omega
   simp only[c1,c8,if_true,if_false,decide_true,decide_false,Bool.true_or,Bool.not_true,Bool.false_or,decide_eq_true_eq,px,List.not_mem_nil,false_or]
   constructor
   all_goals simp_all
 · by_cases c8:t.Op=8
   · simp only[c1,c8,if_true,if_false,decide_true,decide_false,Bool.or_true,Bool.not_true,Bool.false_or,decide_eq_true_eq,px,List.not_mem_nil,false_or]
     constructor
     · rintro⟨a,b,c⟩;exact⟨fun x hx=>by simp at hx;exact b x hx,fun x hx=>hx.elim (fun e=>e▸a) (c x)⟩
     · rintro⟨a,b⟩;exact⟨b _ (.inl rfl),fun x hx=>a x (by simp[hx]),fun x hx=>b x (.inr hx)⟩
   · simp[c1,c8]
theorem OR {l:LI}(h:CM m l)(p:Int→Int→Prop):(∀ x,x∈m→p x.1 x.2)↔∀ x,x∈l→p x (l.count x):=by
 constructor
 · exact fun a x hx=>a (x,(l.count x:Int)) ((h.2 x _).2 ⟨hx,rfl⟩)
 · rintro a ⟨x,c⟩ hx
   obtain⟨h1,h2⟩:=(h.2 x c).1 hx
   simp_all
def q4 (r:bn)(own:List (Int×Int))(x:Int×Int):Bool := !decide (x.2>1) && !decide (x.1≥r.bf) && !decide (((iJ own x.1).getD 0:Int)>0)
def q3 (r:bn)(x:Int×Int):Bool := !decide (x.1≥r.bf)
def q2 (r:bn)(x:Int×Int):Bool := !decide (x.2>1) && !decide (x.1≥r.bf)
theorem Wf (r:bn)(own d:List (Int×Int))(L:LI)(g:CM d L)(h:dE r.gU≤900):mg r own d (d.length+1) []=some (d.all (q4 r own)&&(fr r.gU).all (DR L [])):=by
 refine J0 (fun n k=>mg r own d n k) fun n k=>?_
 rw[mg,aeR d L g r.gU h]
 simp only[aQ,ax,yM]
 congr 1
 funext j x
 simp only[q4]
 by_cases a:x.2>1
 · simp[a]
 · by_cases b:x.1≥r.bf
   · simp[a,b]
   · by_cases c:((iJ own x.1).getD 0:Int)>0
     · simp[a,b,c]
     · simp[a,b,c]
theorem Wg (r:bn)(own d g:List (Int×Int))(L:LI)(h:CM d L)(o:dE r.gU≤900):mh r own d g (g.length+1) []=some (g.all (q3 r)&&(d.all (q4 r own)&&(fr r.gU).all (DR L []))):=by
 refine J0 (fun n k=>mh r own d g n k) fun n k=>?_
 rw[mh,Wf r own d L h o]
 congr 1
 funext j x
 simp only[q3]
 by_cases b:x.1≥r.bf<;>simp[b]
theorem Wh (r:bn)(own d g:List (Int×Int))(L:LI)(h:CM d L)(t:dE r.gU≤800)(o:cV [r.gU]=some g):jL r own d (own.length+1) []=some (own.all (q2 r)&&(g.all (q3 r)&&(d.all (q4 r own)&&(fr r.gU).all (DR L [])))):=by
 refine J0 (fun n k=>jL r own d n k) fun n k=>?_
 rw[jL,o]
 simp only[aQ,ax,Wg r own d g L h (by omega)]
 congr 1
 funext j x
 simp only[q2]
 by_cases a:x.2>1
 · simp[a]
 · by_cases b:x.1≥r.bf<;>simp[a,b]
theorem count_pos_iff (L:LI)(x:Int):¬ ((L.count x:Int)>0)↔x∉L:=by
 simp_all
theorem Mj (v:Int):∀ l:List Term,(∀ x,x∈l→lt x=[])→((∀ x,x∈iy l→x<v)↔l.all (cj (Jl v))=true)
 | [],_=>by simp[iy]
 | a::l,h=>by
   have h1:=J1 v a
   rw[h a (by simp)] at h1
   have h2:=Mj v l fun x hx=>h x (by simp[hx])
   rw[nB,aY,←h2,h1,iy]
   simp only[dG,List.not_mem_nil,false_implies,implies_true,and_true]
   exact⟨fun q=>⟨fun x hx=>q x (.inl hx),fun x hx=>q x (.inr hx)⟩,fun q x hx=>hx.elim (q.1 x) (q.2 x)⟩
theorem aeS (t:Term):cj BR t=true→lt t=[]:=by
 refine fX (P:=fun t=>cj BR t=true→lt t=[]) (fun t d h=>?_) t
 rw[dT,fi,aY,dh] at h
 have g:∀ l:List Term,(∀ x,x∈l→lt x=[])→DQ l=[]:=by
  intro l
  induction l<;>simp_all[DQ]
 rw[lt_eq,g t.Kids fun x hx=>d x hx (h.2 x hx),if_neg (fun q=>by simp_all[BR])]
 rfl
theorem Wi (s:aH)(r:bn)(own g j:List (Int×Int))(k:CM own (iy r.cJ))(t:CM g (lt r.gU))(u:CM j (tv r.gU))(o:∀ x,x∈r.cJ→eC s x=true∧uN x=true) :
   (own.all (q2 r)&&(j.all (q3 r)&&(g.all (q4 r own)&&(fr r.gU).all (DR (lt r.gU) []))))=(r.cJ.all (pq s r.bf)&&decide (iy r.cJ).Nodup&&cj (Jl r.bf) r.gU&&s6 r.gU (iy r.cJ)):=by
 have v:own.all (q2 r)=true↔(iy r.cJ).Nodup∧∀ x,x∈iy r.cJ→x<r.bf:=by
   rw[dh]
   refine Iff.trans ?_ ((OR k (fun x c=>¬ c>1∧¬ x≥r.bf)).trans ?_)
   · simp only[q2,aY,xn,decide_eq_false_iff_not]
   · rw[List.nodup_iff_count]
     constructor
     · exact fun h=>⟨fun x=>by
      by_cases c:x∈iy r.cJ
      · have:=(h x c).1;omega
      · rw[vG.2 c];omega,fun x hx=>by have:=(h x hx).2;omega⟩
     · exact fun h x hx=>⟨by have:=h.1 x;omega,by have:=h.2 x hx;omega⟩
 have w:j.all (q3 r)=true↔∀ x,x∈tv r.gU→x<r.bf:=by
   rw[dh]
   refine Iff.trans ?_ ((OR u (fun x _=>¬ x≥r.bf)).trans ?_)
   · simp only[q3,xn,decide_eq_false_iff_not]
   · exact⟨fun h x hx=>by have:=h x hx;omega,fun h x hx=>by have:=h x hx;omega⟩
 have y:g.all (q4 r own)=true↔∀ x,x∈lt r.gU→(lt r.gU).count x≤1∧x<r.bf∧x∉iy r.cJ:=by
   rw[dh]
   refine Iff.trans ?_ ((OR t (fun x c=>¬ c>1∧¬ x≥r.bf∧x∉iy r.cJ)).trans ?_)
   · simp only[q4,aY,xn,decide_eq_false_iff_not,lj k,count_pos_iff,and_assoc]
   · exact⟨fun h x hx=>⟨by have:=(h x hx).1;omega,by have:=(h x hx).2.1;omega,(h x hx).2.2⟩,fun h x hx=>⟨by have:=(h x hx).1;omega,by have:=(h x hx).2.1;omega,(h x hx).2.2⟩⟩
 have z:(fr r.gU).all (DR (lt r.gU) [])=true↔∀ x,x∈fr r.gU→x∉lt r.gU:=by
   rw[dh]
   simp only[DR,List.not_mem_nil,decide_false,Bool.or_false,decide_eq_true_eq]
   exact⟨fun h x hx=>vG.1 (by have:=h x hx;omega),fun h x hx=>by have:=vG.2 (h x hx);omega⟩
 have A:r.cJ.all (pq s r.bf)=true↔∀ x,x∈iy r.cJ→x<r.bf:=by
   rw [Mj r.bf r.cJ fun x hx=>by
     have:=(o x hx).2
     simp only[uN,aY] at this
     exact aeS x this.1]
   simp only[dh,pq,aY]
   exact⟨fun h x hx=>(h x hx).2,fun h x hx=>⟨o x hx,h x hx⟩⟩
 have B:=J1 r.bf r.gU
 rw[Bool.eq_iff_iff]
 simp only[aY,v,w,y,z,A,B,decide_eq_true_eq,s6,dh,xn,decide_eq_false_iff_not]
 constructor
 · rintro⟨⟨a,b⟩,c,d,e⟩
   exact⟨⟨⟨b,a⟩,c,fun x hx=>(d x hx).2.1⟩,fun x hx=>⟨⟨(d x hx).1,(d x hx).2.2⟩,fun q=>e x q hx⟩⟩
 · rintro⟨⟨⟨a,b⟩,c,d⟩,e⟩
   exact⟨⟨b,a⟩,c,fun x hx=>⟨(e x hx).1.1,d x hx,(e x hx).1.2⟩,fun x hx q=>(e x q).2 hx⟩
theorem QX (hs:cZ s=some 0)(r:bn)(H:gK r.cJ≤800)(I:dE r.gU≤700):vd s r=some (uR s r):=by
 have z:=dZ r.cJ
 have J:=I8 hs
 have key:iS s r 0=some (eC s r.gU&&(r.cJ.all (pq s r.bf)&&decide (iy r.cJ).Nodup&&cj (Jl r.bf) r.gU&&s6 r.gU (iy r.cJ))):=by
   rw[pk (l:=r.cJ) (q:=fun p=>eC s p&&uN p) (e:=iS s r r.cJ.length) (f:=some false) (iS s r) (fun i h=>?_) rfl]
   · cases t:r.cJ.all (fun p=>eC s p&&uN p) with
     | false=>
       have:r.cJ.all (pq s r.bf)=false:=by
         cases A:r.cJ.all (pq s r.bf) with
         | false=>rfl
         | true=>
           have:r.cJ.all (fun p=>eC s p&&uN p)=true:=dh.2 fun x hx=>by
            have:=dh.1 A x hx
            simp only[pq,aY] at this ⊢
            exact this.1
           rw[t] at this;cases this
       rw[this];simp
     | true=>
       have k:∀ x,x∈r.cJ→eC s x=true∧uN x=true:=fun x hx=>by
         have:=dh.1 t x hx
         simpa using this
       obtain⟨own,B,C⟩:=Bw r.cJ (by omega)
       obtain⟨d,el,u⟩:=P1 r.gU (by omega)
       obtain⟨j,D,E⟩:=Bw [r.gU] (by simp only[gK];omega)
       have o:CM j (tv r.gU):=by simpa [iy] using E
       rw[if_pos rfl,iS,if_neg (by simp),zn hs r.gU (by omega)]
       simp only[aQ,ax]
       by_cases g:eC s r.gU=true
       · rw[if_pos g,if_neg (by decide),B]
         simp only[ax,el]
         rw[Wh r own d j (lt r.gU) u (by omega) D,Wi s r own d j C u o k,g,iC]
       · rw[if_neg g,if_pos (by decide)];simp[g]
   · have hx:=cM h
     have G:=z.2 _ hx
     rw[iS,eu,aU h]
     simp only[aQ,ax,K7 hs _ (show dE r.cJ[i]≤100000 by omega)]
     rw[if_pos fQ]
     by_cases g:eC s r.cJ[i]=true
     · rw[if_pos g]
       by_cases v:uN r.cJ[i]=true
       · simp[g,v]
       · simp[g,v]
     · rw[if_neg g];simp[g]
 rw[vd,uR]
 simp only[po]
 rcases FV s.bp r.vt with⟨h1,h2,x,h3⟩ | ⟨h1,h3⟩
 · rw[iT,iT,h3]
   simp only[aQ,ax]
   by_cases g:(r.cJ.length:Int)=x.bu
   · rw[if_neg (by simp[g])]
     by_cases w:r.bf<0
     · rw[if_pos (by simpa using w)]
       have:¬ 0≤r.bf:=by omega
       simp[this]
     · rw[if_neg (by simpa using w)]
       by_cases y:r.bf>20
       · rw[if_pos (by simpa using y)]
         have:¬ r.bf≤20:=by omega
         simp[this]
       · have F:0≤r.bf:=by omega
         have a2:r.bf≤20:=by omega
         rw[if_neg (by simpa using y),key]
         simp[g,F,a2,Bool.and_assoc]
   · rw[if_pos (by simp[g])];simp[g]
 all_goals simp_all
variable {p : aL}
theorem Bx (h:pA p=true):(∀ x∈p.cv.Cons,x.Name.size≤30)∧(∀ x∈p.cv.bp,x.Name.size≤30)∧p.aF.length≤20∧∀ r,r∈p.aF→gK r.cJ≤800∧dE r.gU≤700:=by
 simp only[pA,vF,aY,decide_eq_true_eq,dh,JJ,Cj,rk,qK] at h
 obtain⟨⟨h1,h2⟩,⟨⟨_,_⟩,h3⟩,h4⟩:=h
 refine⟨fun x hx=>by have:=h3 x hx;omega,fun x hx=>by have:=h4 x hx;omega,h1,fun r d=>?_⟩
 obtain⟨⟨a,b⟩,c,_⟩:=h2 r d
 refine⟨?_,by omega⟩
 have:∀ l:List Term,(∀ x,x∈l→dE x≤50∧BV x≤14)→gK l≤50*l.length:=by
  intro l
  induction l with
  | nil=>intro _;simp[gK]
  | cons a l g=>
    intro q
    have h1:=q a (by simp)
    have h2:=g fun x hx=>q x (by simp[hx])
    simp only[gK,lI];omega
 have:=this r.cJ b
 omega
theorem Y5 (h:pA p=true):∃ b,A7 p=some b∧tn p=some b∧vT p=some (if b=true then 0 else 2)∧(b=true→cZ p.cv=some 0∧p.cv.Cons.length≤12∧p.cv.bp.length≤8∧p.aF.length≤16∧(∀ x∈p.cv.Cons,0≤x.bu∧x.bu≤4)∧(∀ x∈p.cv.bp,0≤x.bu∧x.bu≤4)∧∀ r,r∈p.aF→uR p.cv r=true):=by
 obtain⟨k,o,B,d⟩:=Bx h
 obtain⟨b,t,j,u⟩:=aeN p.cv k o
 suffices q:∃ b,A6 p=some b∧tn p=some b∧(b=true→cZ p.cv=some 0∧p.cv.Cons.length≤12∧p.cv.bp.length≤8∧p.aF.length≤16∧(∀ x∈p.cv.Cons,0≤x.bu∧x.bu≤4)∧(∀ x∈p.cv.bp,0≤x.bu∧x.bu≤4)∧∀ r,r∈p.aF→uR p.cv r=true) by
   obtain⟨b,v,a2,a3⟩:=q
   refine⟨b,?_,a2,?_,a3⟩
   · rw[A7,v];cases b<;>rfl
   · rw[vT,a2];cases b<;>rfl
 rw[A6,tn,t,j]
 simp only[aQ,ax]
 cases b with
 | false=>
   refine⟨false,rfl,?_,fun q=>(by cases q)⟩
   by_cases g:(p.aF.length:Int)≤16
   · rw[if_pos (by simpa using g)];rfl
   · rw[if_neg (by simpa using g)]
 | true=>
   obtain⟨w,y,z,A⟩:=u rfl
   have hs:cZ p.cv=some 0:=j
   by_cases g:(p.aF.length:Int)≤16
   · rw[if_pos rfl,if_neg (by simpa using g),if_pos (by simpa using g),if_pos rfl]
     refine⟨p.aF.all (uR p.cv),?_,?_,fun q=>⟨rfl,w,y,by omega,z,A,fun r d=>dh.1 q r d⟩⟩
     · rw[ou (uR p.cv) (nF p) (fun i=>by rw[nF]) (fun r hx=>NR p.cv (by omega) (by omega) r (d r hx).1) (by omega),yM]
     · refine(pk (l:=p.aF) (q:=uR p.cv) (e:=some true) (f:=some false) (jQ p) (fun i hi=>?_) (by rw[jQ,if_neg (by simp)])).trans (yM _)
       have hx:=d _ (cM hi)
       rw[jQ,eu,aU hi]
       simp only[aQ,ax,QX hs _ hx.1 hx.2]
       rw[if_pos fQ]
       by_cases c:uR p.cv p.aF[i]=true
       · simp[c]
       · simp[c]
   · rw[if_pos rfl,eu,if_neg (by simpa using g)]
     exact⟨false,rfl,rfl,fun q=>(by cases q)⟩
end
end Go.Eng

/- The law on data, its first part: signatures, terms and rules; no conditions. -/
import Derived.Test.YthplmmeobggkfaaGreatVLfD
import Derived.KernelRfl
set_option linter.all false
namespace Go.Eng
open Go.Proofs
set_option synthInstance.maxSize 100000
set_option synthInstance.maxHeartbeats 400000
set_option maxRecDepth 100000
noncomputable section
variable {n : Int}
theorem w9 (h1 : -9223372036854775808≤n)(h2:n≤9223372036854775807):cw .i64 n=true:=by
 simp only[cw,IntKind.wrap,IntKind.bits,IntKind.signed,decide_eq_true_eq]
 simp
 omega
theorem fK (h1 : -9223372036854775808≤n:=by omega)(h2:n≤9223372036854775807:=by omega):cw .i64 n=true:=w9 h1 h2
section
variable {α : Type} {c : Prop} [Decidable c] {a b : α}
theorem e9 (h:c:=by simp;omega):(if c then a else b)=a:=if_pos h
theorem jM (h:¬ c:=by simp;omega):(if c then a else b)=b:=if_neg h
theorem uG (h:c:=by simp only[decide_eq_true_eq];omega):(if c then a else b)=a:=if_pos h
theorem Lr (h:¬ c:=by simp only[decide_eq_true_eq];omega):(if c then a else b)=b:=if_neg h
theorem ad7 (h:c:=by simp only[aS,decide_eq_true_eq];omega):(if c then a else b)=a:=if_pos h
theorem Ls (h:¬ c:=by simp only[aS,decide_eq_true_eq];omega):(if c then a else b)=b:=if_neg h
end
variable {i : Nat}
theorem tj : (i:Int)+1=((i+1:Nat):Int):=by omega
variable {α : Type} {l : List α}
theorem aU (h:i<l.length):bP l (i:Int)=some l[i]:=by
 simp[bP,h]
theorem YT (l:List α)(p:α→Option Bool)(q:α→Bool)(e:Option Bool)(F:Int→Option Bool)(g:∀ i:Int,F i=if decide (i<(l.length:Int)) then(bP l i>>=fun x=>p x>>=fun v=>if v then(if cw .i64 (i+1) then F (i+1) else none) else some false) else e)(j:∀ x,x∈l→p x=some (q x))(r:l.length≤9223372036854775807):∀(d i:Nat),l.length-i=d→i≤l.length→F i=if(l.drop i).all q then e else some false:=by
 intro d
 induction d with
 | zero=>
   intro i k hi
   rw[g,jM,show i=l.length by omega,fu]
   rfl
 | succ d o=>
   intro i k hi
   have h:i<l.length:=by omega
   rw[g,e9,aU h]
   simp only[aW,aD]
   rw[j _ (cM h),db h,mI]
   simp only[aD]
   cases q l[i] with
   | false=>rfl
   | true=>
     rw[if_pos rfl,if_pos fK,tj,o (i+1) (by omega) (by omega)]
     rfl
theorem od {p:α→Option Bool}(q:α→Bool){e:Option Bool}(F:Int→Option Bool)(d:∀ i:Int,F i=if decide (i<(l.length:Int)) then(bP l i>>=fun x=>p x>>=fun v=>if v then(if cw .i64 (i+1) then F (i+1) else none) else some false) else e)(g:∀ x,x∈l→p x=some (q x))(h:l.length≤9223372036854775807):F 0=if l.all q then e else some false:=by
 have:=YT l p q e F d g h l.length 0 rfl (bW _)
 simpa using this
mutual
def dJ : Term→Int
 | .mk _ _ l=>1+gI l
def gI : List Term→Int
 | []=>0
 | t::l=>dJ t+gI l
end
mutual
def Es : Term→Int
 | .mk _ _ l=>1+Ie l
def Ie : List Term→Int
 | []=>0
 | t::l=>max (Es t) (Ie l)
end
mutual
def cA (p:Term→Bool):Term→Bool
 | .mk o n l=>p (.mk o n l)&&wP p l
def wP (p:Term→Bool):List Term→Bool
 | []=>true
 | t::l=>cA p t&&wP p l
end
theorem eE (t:Term):dJ t=1+gI t.Kids:=by cases t;rw[dJ];rfl
theorem JA (t:Term):Es t=1+Ie t.Kids:=by cases t;rw[Es];rfl
theorem dS (p:Term→Bool)(t:Term):cA p t=(p t&&wP p t.Kids):=by cases t;rw[cA];rfl
theorem fe (p:Term→Bool):∀ l:List Term,wP p l=l.all (cA p)
 | []=>by simp[wP]
 | t::l=>by simp[wP,fe p l]
mutual
theorem kK : ∀ t:Term,1≤dJ t∧1≤Es t
 | .mk o n l=>by have:=dt l;simp only[dJ,Es];omega
theorem dt : ∀ l:List Term,0≤gI l∧0≤Ie l
 | []=>by simp[gI,Ie]
 | t::l=>by have:=kK t;have:=dt l;simp only[gI,Ie];omega
end
mutual
theorem fT {P:Term→Prop}(h:∀ t:Term,(∀ x,x∈t.Kids→P x)→P t):∀ t,P t
 | .mk o n l=>h _ (ZL h l)
theorem ZL {P:Term→Prop}(h:∀ t:Term,(∀ x,x∈t.Kids→P x)→P t):∀(l:List Term) (x:Term),x∈l→P x
 | t::l,x,hx=>(dE.1 hx).elim (fun e=>e▸fT h t) (ZL h l x)
end
theorem PS (t:Term)(d:Int)(h1:1≤d)(h2:d≤1000000)(o:∀ x,x∈t.Kids→∀ n d:Int,n≤1000000→0≤d→d≤1000000→lu x n d=some (if dJ x≤n∧Es x≤d then n-dJ x else -1)) :
   ∀(k i:Nat) (b:Int),t.Kids.length-i=k→i≤t.Kids.length→0≤b→i+b≤1000000→iL t d i b=some (if gI (t.Kids.drop i)≤b∧Ie (t.Kids.drop i)≤d-1 then b-gI (t.Kids.drop i) else -1):=by
 intro k
 induction k with
 | zero=>
   intro i b r hi hb g
   rw[iL,jM,show i=t.Kids.length by omega,fu,gI,Ie,if_pos ⟨hb,by omega⟩]
   simp
 | succ k j=>
   intro i b r hi hb g
   have h:i<t.Kids.length:=by omega
   rw[iL,e9,if_pos (by simpa using hb),aU h]
   simp only[aW,aD]
   rw[if_pos fK,o _ (cM h) _ _ (by omega) (by omega) (by omega)]
   simp only[aD]
   rw[if_pos fK,db h,gI,Ie,tj]
   have u:=kK t.Kids[i]
   have v:=dt (t.Kids.drop (i+1))
   split
   · rename_i c
     rw[j (i+1) _ (by omega) (by omega) (by omega) (by omega)]
     congr 1
     split<;>split<;>omega
   · rename_i c
     rw[if_neg (by omega)]
     rw[iL]
     split
     · rw[if_neg (by simp)]
     · rfl
theorem Ma (t:Term):∀ n d:Int,n≤1000000→0≤d→d≤1000000→lu t n d=some (if dJ t≤n∧Es t≤d then n-dJ t else -1):=by
 refine fT (P:=fun t=>∀ n d:Int,n≤1000000→0≤d→d≤1000000→lu t n d=some (if dJ t≤n∧Es t≤d then n-dJ t else -1)) (fun t h=>?_) t
 intro n d k j g
 have o:=kK t
 rw[lu]
 split
 · grind
 · rename_i c
   split
   · grind
   · rename_i c2
     simp at c c2
     rw[if_pos fK,show(0:Int)=((0:Nat):Int) from rfl,PS t d (by omega) g h _ 0 _ rfl (bW _) (by omega) (by omega),jj,eE,JA]
     grind
def ui (t:Term):Bool:=decide (dJ t≤50)&&decide (Es t≤14)
theorem FK (t:Term):pA t=some (ui t):=by
 rw[pA,Ma t 50 14 (by omega) (by omega) (by omega)]
 simp only[aW,aD,ui]
 grind
variable {β : Type} {q : α → Bool} {f : Option β}
theorem asA {e:Option β}(F:Int→Option β)(hs:∀(i:Nat) (h:i<l.length),F (i:Int)=if q l[i] then F ((i:Int)+1) else f)(g:F (l.length:Int)=e) :
   ∀(d i:Nat),l.length-i=d→i≤l.length→F (i:Int)=if(l.drop i).all q then e else f:=by
 intro d
 induction d with
 | zero=>
   grind[List.drop_length]
 | succ d j=>
   intro i k hi
   have h:i<l.length:=by omega
   rw[hs i h,db h,mI]
   cases q l[i]<;>grind
theorem pc {e:Option β}(F:Int→Option β)(hs:∀(i:Nat) (h:i<l.length),F (i:Int)=if q l[i] then F ((i:Int)+1) else f)(d:F (l.length:Int)=e) :
  F 0=if l.all q then e else f:=by
 have:=asA F hs d l.length 0 rfl (bW _)
 simpa using this
variable {e : Bool}
theorem Uk (c:Nat)(F:Int→Option Bool)(hs:∀(i:Nat) (h:i<l.length),i≤c→F (i:Int)=if q l[i] then F ((i:Int)+1) else some false)(j:F (l.length:Int)=some e)(o:∀ i:Nat,i<l.length→c<i→F (i:Int)=some e)(g:c+1<l.length→e=false):F 0=some (decide (l.length≤c+1)&&l.all q&&e):=by
 by_cases r:l.length≤c+1
 · rw[pc (q:=q) (e:=some e) (f:=some false) F (fun i h=>hs i h (by omega)) j]
   grind
 · have g:=g (by omega)
   subst g
   have:∀ d i:Nat,c+1-i=d→i≤c+1→F (i:Int)=some false:=by
    intro d
    induction d with
    | zero=>grind
    | succ d k=>
      intro i t hi
      rw[hs i (by omega) (by omega)]
      split
      · rw[tj,k (i+1) (by omega) (by omega)]
      · rfl
   grind
def Fx (l:List Term):Bool:=decide (l.length≤6)&&l.all ui
theorem Ia (l:List Term):ow l=some (Fx l):=by
 rw[ow,Uk (l:=l) (q:=ui) (e:=decide ((l.length:Int)≤6)) 6 (eO l) (fun i h hi=>?_) ?_ (fun i h hi=>?_) (fun h=>by simp;omega)]
 · grind[Fx]
 · rw[eO,if_neg (by simp)]
   grind
 · rw[eO,e9,e9,aU h]
   simp only[aW,aD,FK]
   rw[if_pos fK]
 · rw[eO,e9,jM]
   grind
def ri (x:cf):Bool:=decide ((x.Name.size:Int)≤30)
def zx (s:aE):Bool:=decide (s.Cons.length≤16)&&decide (s.bq.length≤12)&&s.Cons.all ri&&s.bq.all ri
theorem Dx (s:aE):om s=some (zx s):=by
 have h2:s.bq.length≤12→gg s 0=some (s.bq.all ri):=fun g=>by
   rw[pc (l:=s.bq) (q:=ri) (e:=some true) (f:=some false) (gg s) (fun i h=>?_) ?_]
   · grind
   · rw[gg,if_neg (by simp)]
   · rw[gg,e9,aU h]
     simp only[aW,aD]
     by_cases c:((s.bq[i].Name.size:Int))≤30
     · have d:ri s.bq[i]=true:=by simpa [ri] using c
       rw[jM,if_pos fK,d,if_pos rfl]
     · have d:ri s.bq[i]=false:=by simp[ri];omega
       grind
 rw[om]
 by_cases c1:s.Cons.length≤16
 · rw[jM]
   by_cases c2:s.bq.length≤12
   · rw[jM,pc (l:=s.Cons) (q:=ri) (e:=some (s.bq.all ri)) (f:=some false) (ib s) (fun i h=>?_) ?_]
     · simp only[zx,c1,c2]
       cases s.Cons.all ri<;>simp
     · rw[ib,if_neg (by simp),h2 c2]
     · rw[ib,e9,aU h]
       simp only[aW,aD]
       by_cases c:((s.Cons[i].Name.size:Int))≤30
       · have d:ri s.Cons[i]=true:=by simpa [ri] using c
         rw[jM,if_pos fK,d,if_pos rfl]
       · have d:ri s.Cons[i]=false:=by simp[ri];omega
         rw[e9,d];rfl
   · rw[e9];simp[zx,c2]
 · rw[e9];simp[zx,c1]
def JB (r:bn):Bool:=Fx r.cK&&ui r.gR
def uj (p:aJ):Bool:=decide (p.aO.length≤20)&&p.aO.all JB&&zx p.cy
theorem CT (p:aJ):qu p=some (uj p):=by
 rw[qu,Uk (l:=p.aO) (q:=JB) (e:=zx p.cy&&decide ((p.aO.length:Int)≤20)) 20 (fE p) (fun i h hi=>?_) ?_ (fun i h hi=>?_) (fun h=>by simp;omega)]
 · grind[uj]
 · rw[fE,if_neg (by simp),Dx]
   grind
 · rw[fE,e9,e9,aU h]
   simp only[aW,aD,FK,Ia]
   rw[if_pos fK,show JB p.aO[i]=(Fx p.aO[i].cK&&ui p.aO[i].gR) from rfl]
   grind
 · rw[fE,e9,jM,Dx]
   grind
theorem vf (p:aJ):mW p=some (uj p):=by
 grind[mW,CT]
theorem wq (a b c:Int):nq a b c=some (decide (b≤a)&&decide (a≤c)):=by
 grind[nq]
theorem kc (a b c:Int):eH a b c=some (decide (b≤a)&&decide (a≤c)):=by
 grind[eH]
theorem FL (l:List α)(n:Int):(0≤n∧n<l.length∧∃ x,bP l n=some x)∨(¬ (0≤n∧n<l.length)∧bP l n=none):=by
 by_cases h:0≤n∧n<l.length
 · obtain⟨m,rfl⟩:∃ m:Nat,n=m:=⟨n.toNat,by omega⟩
   grind[aU]
 · refine .inr ⟨h,?_⟩
   cases e:bP l n with
   | none=>rfl
   | some x=>
     obtain⟨m,rfl,d⟩:=Au e
     grind
def pd (l:List cf)(n:Int)(k:Int→Bool):Bool:=match bP l n with
 | some x=>k x.bu
 | none=>false
theorem s6 {l:List cf}{k:Int→Bool}(g:l.length≤1000000){w:Int→Int→Int→Option Bool}(d:∀ a b c,w a b c=some (decide (b≤a)&&decide (a≤c))){f:cf→Option Bool}(hf:∀ x,f x=some (k x.bu)) :
  (if cw .i64 ((l.length:Int)-1) then(w n 0 ((l.length:Int)-1)>>=fun v=>if v then(bP l n>>=f) else(some false)) else none)=some (pd l n k):=by
 rw[if_pos fK,d]
 simp only[aW,aD,pd]
 rcases FL l n with⟨h1,h2,x,h3⟩ | ⟨h1,h3⟩
 all_goals grind
def fZ (s:aE)(t:Term):Bool:=
 if t.Op=1 then decide (t.Kids.length=0)&&(decide (0≤t.N)&&decide (t.N≤19))
 else if t.Op=2 then decide (t.Kids.length=0)&&(decide (-1000000≤t.N)&&decide (t.N≤1000000))
 else if t.Op=3 then pd s.Cons t.N fun k=>decide ((t.Kids.length:Int)=k)
 else if t.Op=4 then pd s.bq t.N fun k=>decide ((t.Kids.length:Int)=k)
 else if t.Op=5 then pd s.bq t.N fun k=>decide ((t.Kids.length:Int)<k)
 else if t.Op=8 then decide (t.Kids.length=2)&&(decide (0≤t.N)&&decide (t.N≤19))
 else if 6≤t.Op∧t.Op≤15 then decide (t.Kids.length=2)&&decide (t.N=0)
 else false
theorem BV (b:Bool):(if b=true then some true else some false)=some b:=by cases b<;>rfl
theorem Fa {p:Prop} [Decidable p]:(if decide p=true then some true else some false)=some (decide p):=BV _
theorem YU (s:aE)(t:Term)(h1:s.Cons.length≤1000000)(h2:s.bq.length≤1000000):AR s t=some (fZ s t):=by
 have d:((t.Kids.length:Int)=0)=(t.Kids.length=0):=by simp
 have g:((t.Kids.length:Int)=2)=(t.Kids.length=2):=by simp;omega
 have j:(if decide ((t.Kids.length:Int)=2)=true then(if decide (t.N=0)=true then some true else some false) else some false)=some (decide (t.Kids.length=2)&&decide (t.N=0)):=by
   grind
 rw[AR]
 simp only[fZ]
 by_cases c1:t.Op=1
 · simp only[c1,wq,d,aW,aD,decide_true,if_true,BV]
   cases decide (t.Kids.length=0)<;>rfl
 simp only[c1,decide_false,dK,if_false]
 by_cases c2:t.Op=2
 · simp only[c2,wq,d,aW,aD,decide_true,if_true,BV]
   cases decide (t.Kids.length=0)<;>rfl
 simp only[c2,decide_false,dK,if_false]
 by_cases c3:t.Op=3
 · simp only[c3,if_true,decide_true]
   exact s6 (k:=fun k=>decide ((t.Kids.length:Int)=k)) h1 wq fun x=>Fa
 simp only[c3,decide_false,dK,if_false]
 by_cases c4:t.Op=4
 · simp only[c4,if_true,decide_true]
   exact s6 (k:=fun k=>decide ((t.Kids.length:Int)=k)) h2 wq fun x=>Fa
 simp only[c4,decide_false,dK,if_false]
 by_cases c5:t.Op=5
 · simp only[c5,if_true,decide_true]
   exact s6 (k:=fun k=>decide ((t.Kids.length:Int)<k)) h2 wq fun x=>Fa
 simp only[c5,decide_false,if_false,dK,j]
 by_cases c8:t.Op=8
 · simp only[c8,wq,g,aW,aD,decide_true,if_true,BV]
   cases decide (t.Kids.length=2)<;>rfl
 simp only[c8,decide_false,if_false,dK]
 by_cases c:6≤t.Op∧t.Op≤15
 · rw[if_pos c]
   have:t.Op=6∨t.Op=7∨t.Op=9∨t.Op=10∨t.Op=11∨t.Op=12∨t.Op=13∨t.Op=14∨t.Op=15:=by omega
   rcases this with h | h | h | h | h | h | h | h | h<;>simp[h]
 · rw[if_neg c]
   have:t.Op≠6∧t.Op≠7∧t.Op≠9∧t.Op≠10∧t.Op≠11∧t.Op≠12∧t.Op≠13∧t.Op≠14∧t.Op≠15:=by omega
   simp[this]
theorem VX (s:aE)(h1:s.Cons.length≤1000000)(h2:s.bq.length≤1000000)(t:Term):dJ t≤1000000→nC s t=some (cA (fZ s) t):=by
 refine fT (P:=fun t=>dJ t≤1000000→nC s t=some (cA (fZ s) t)) (fun t g h=>?_) t
 have j:∀ l:List Term,(l.length:Int)≤gI l∧∀ x,x∈l→dJ x≤gI l:=by
   intro l
   induction l with
   | nil=>simp[gI]
   | cons a l d=>
     have:=kK a
     have:=dt l
     simp only[gI,pk,dE]
     refine⟨by omega,fun x hx=>?_⟩
     rcases hx with rfl | hx
     · omega
     · have:=d.2 x hx;omega
 have k:=j t.Kids
 rw[eE] at h
 rw[nC,YU s t h1 h2,dS,fe]
 simp only[aW,aD]
 cases fZ s t with
 | false=>rfl
 | true=>
   rw[if_pos rfl,od (cA (fZ s)) (kA s t) (fun i=>by rw[kA]) (fun x hx=>g x hx (by have:=k.2 x hx;omega)) (by omega)]
   cases t.Kids.all (cA (fZ s))<;>rfl
def eM (s:aE)(t:Term):Bool:=decide (dJ t≤40)&&decide (Es t≤12)&&cA (fZ s) t
theorem xF (s:aE)(h1:s.Cons.length≤1000000)(h2:s.bq.length≤1000000)(t:Term):uP s t=some (eM s t):=by
 rw[uP,Ma t 40 12 (by omega) (by omega) (by omega)]
 simp only[aW,aD,eM]
 by_cases h:dJ t≤40∧Es t≤12
 · rw[if_pos h,e9,VX s h1 h2 t (by omega)]
   grind
 all_goals grind
theorem YV (a:bk)(t:Term):jh a t=some ((decide (0≤t.N)&&decide (t.N≤19))&&decide ((t.Kids.length:Int)=0)):=by
 simp only[jh,kc,aW,aD,Fa]
 grind
theorem YW (a:bk)(t:Term):jL a t=some ((decide (-1000000≤t.N)&&decide (t.N≤1000000))&&decide ((t.Kids.length:Int)=0)):=by
 simp only[jL,kc,aW,aD,Fa]
 grind
theorem YX (a:bk)(t:Term):my a t=some ((decide (0≤t.N)&&decide (t.N≤19))&&decide ((t.Kids.length:Int)=2)):=by
 simp only[my,kc,aW,aD,Fa]
 grind
theorem VY (a:bk)(t:Term):dc a t=some (decide (t.N=0)&&decide ((t.Kids.length:Int)=2)):=by
 simp only[dc,Fa]
 grind
theorem YY (s:aE)(h:s.Cons.length≤1000000)(t:Term):mu ⟨s⟩ t=some (pd s.Cons t.N fun k=>decide ((t.Kids.length:Int)=k)):=by
 rw[mu]
 exact s6 (k:=fun k=>decide ((t.Kids.length:Int)=k)) h kc fun x=>Fa
theorem YZ (s:aE)(h:s.bq.length≤1000000)(t:Term):mw ⟨s⟩ t=some (pd s.bq t.N fun k=>decide ((t.Kids.length:Int)=k)):=by
 rw[mw]
 exact s6 (k:=fun k=>decide ((t.Kids.length:Int)=k)) h kc fun x=>Fa
theorem VZ (s:aE)(h:s.bq.length≤1000000)(t:Term):lI ⟨s⟩ t=some (pd s.bq t.N fun k=>decide ((t.Kids.length:Int)<k)):=by
 rw[lI]
 exact s6 (k:=fun k=>decide ((t.Kids.length:Int)<k)) h kc fun x=>Fa
theorem NK (s:aE)(t:Term)(d c0:Int)(z:0≤d∧d≤12)(A:t.Kids.length≤4611686018427387000)
   (r:∀ x,x∈t.Kids→∀ d c:Int,0≤c→c≤40→0≤d→d≤13→∃ y,bT x d s false c=some (if c+dJ x≤40∧d-1+Es x≤12∧cA (fZ s) x=true then .inr (c+dJ x) else .inl y)) :
   ∀(k i:Nat) (c:Int),t.Kids.length-i=k→i≤t.Kids.length→0≤c→c≤40→∃ y,aq t d s false c0 i c=some (if c+gI (t.Kids.drop i)≤40∧d+Ie (t.Kids.drop i)≤12∧wP (fZ s) (t.Kids.drop i)=true then .inr (c+gI (t.Kids.drop i)) else .inl y):=by
 intro k
 induction k with
 | zero=>
   intro i c u hi h1 h2
   refine⟨0,?_⟩
   rw[aq,jM,show i=t.Kids.length by omega,fu,if_pos ⟨by simp only[gI];omega,by simp only[Ie];omega,by simp only[wP]⟩]
   simp[gI]
 | succ k o=>
   intro i c u hi h1 h2
   have h:i<t.Kids.length:=by omega
   have B:=kK t.Kids[i]
   have C:=dt (t.Kids.drop (i+1))
   obtain⟨y,e⟩:=r _ (cM h) (d+1) c h1 h2 (by omega) (by omega)
   rw[aq,e9,aU h,db h,gI,Ie,wP]
   simp only[aW,aD]
   rw[if_pos fK,e]
   simp only[aD]
   by_cases g:c+dJ t.Kids[i]≤40∧d+1-1+Es t.Kids[i]≤12∧cA (fZ s) t.Kids[i]=true
   · obtain⟨v,w⟩:=o (i+1) (c+dJ t.Kids[i]) (by omega) (by omega) (by omega) g.1
     refine⟨v,?_⟩
     rw[if_pos g]
     show(if cw .i64 ((i:Int)+1) then aq t d s false c0 ((i:Int)+1) (c+dJ t.Kids[i]) else none)=_
     rw[if_pos fK,tj,w,g.2.2,j6]
     congr 1
     by_cases j:c+dJ t.Kids[i]+gI (t.Kids.drop (i+1))≤40∧d+Ie (t.Kids.drop (i+1))≤12∧wP (fZ s) (t.Kids.drop (i+1))=true
     · rw[if_pos j,if_pos ⟨by omega,by omega,j.2.2⟩]
       congr 1;omega
     · rw[if_neg j,if_neg fun q=>j ⟨by omega,by omega,q.2.2⟩]
   · refine⟨y,?_⟩
     rw[if_neg g,if_neg fun q=>g ⟨by omega,by omega,by have:=q.2.2;simp only[aS] at this;exact this.1⟩]
theorem Sx (s:aE)(h1:s.Cons.length≤1000000)(h2:s.bq.length≤1000000)(t:Term):dJ t≤1000000→∀ d c:Int,0≤c→c≤40→0≤d→d≤13→∃ y,bT t d s false c=some (if c+dJ t≤40∧d-1+Es t≤12∧cA (fZ s) t=true then .inr (c+dJ t) else .inl y):=by
 refine fT (P:=fun t=>dJ t≤1000000→∀ d c:Int,0≤c→c≤40→0≤d→d≤13→∃ y,bT t d s false c=some (if c+dJ t≤40∧d-1+Es t≤12∧cA (fZ s) t=true then .inr (c+dJ t) else .inl y)) (fun t u v d c c1 c2 z F=>?_) t
 have A:∀ l:List Term,(l.length:Int)≤gI l∧∀ x,x∈l→dJ x≤gI l:=by
   intro l
   induction l with
   | nil=>simp[gI]
   | cons a l o=>
     have:=kK a
     have:=dt l
     simp only[gI,pk,dE]
     refine⟨by omega,fun x hx=>?_⟩
     rcases hx with rfl | hx
     · omega
     · have:=o.2 x hx;omega
 have B:=A t.Kids
 rw[eE] at v
 have G:=kK t
 have H:=dt t.Kids
 rw[bT,if_pos fK]
 by_cases r:c+1>40
 · exact⟨c+1,by rw[if_pos (by simpa using r),if_neg fun q=>by omega]⟩
 rw[if_neg (by simpa using r)]
 by_cases k:d>12
 · exact⟨c+1,by rw[if_pos (by simpa using k),if_neg fun q=>by omega]⟩
 rw[if_neg (by simpa using k)]
 obtain⟨y,e⟩:=NK s t d c ⟨z,by omega⟩ (by omega) (fun x hx d c a b a2 C=>u x hx (by have:=B.2 x hx;omega) d c a b a2 C) t.Kids.length 0 (c+1) rfl (bW _) (by omega) (by omega)
 rw[jj] at e
 have j:∀ L:Option (Int ⊕ Int),aq t d s false c 0 (c+1)=L→∃ y,(if fZ s t=true then L else some (.inl (c+1)))=some (if c+dJ t≤40∧d-1+Es t≤12∧cA (fZ s) t=true then .inr (c+dJ t) else .inl y):=by
   rintro L rfl
   rw[show(0:Int)=((0:Nat):Int) from rfl,e,eE,JA,dS]
   cases fZ s t with
   | false=>exact⟨c+1,by rw[if_neg (by simp),if_neg (by simp)]⟩
   | true=>
     refine⟨y,?_⟩
     rw[if_pos rfl,j6]
     congr 1
     by_cases g:c+1+gI t.Kids≤40∧d+Ie t.Kids≤12∧wP (fZ s) t.Kids=true
     · rw[if_pos g,if_pos ⟨by omega,by omega,g.2.2⟩];congr 1;omega
     · rw[if_neg g,if_neg fun q=>g ⟨by omega,by omega,q.2.2⟩]
 generalize D:aq t d s false c 0 (c+1)=L
 obtain⟨y,hy⟩:=j L D
 refine⟨y,?_⟩
 rw[←hy]
 have E:((t.Kids.length:Int)=0)=(t.Kids.length=0):=by simp
 have k:((t.Kids.length:Int)=2)=(t.Kids.length=2):=by simp;omega
 simp only[fZ,kc,YV,YW,YX,VY,YY s h1,YZ s h2,VZ s h2,aW,aD,E,k]
 by_cases w:1≤t.Op∧t.Op≤15
 · rw[if_pos (by simp[w])]
   by_cases c1:t.Op=1
   · simp only[c1,decide_true,if_true];cases decide (t.Kids.length=0)<;>cases decide (0≤t.N)&&decide (t.N≤19)<;>rfl
   simp only[c1,decide_false,dK,if_false]
   by_cases c2:t.Op=2
   · simp only[c2,decide_true,if_true];cases decide (t.Kids.length=0)<;>cases decide (-1000000≤t.N)&&decide (t.N≤1000000)<;>rfl
   simp only[c2,decide_false,dK,if_false]
   by_cases c3:t.Op=3
   · simp only[c3,decide_true,if_true]
   simp only[c3,decide_false,dK,if_false]
   by_cases c4:t.Op=4
   · simp only[c4,decide_true,if_true]
   simp only[c4,decide_false,dK,if_false]
   by_cases c5:t.Op=5
   · simp only[c5,decide_true,if_true]
   simp only[c5,decide_false,dK,if_false]
   by_cases c8:t.Op=8
   · simp only[c8,decide_true,if_true]
     rw[if_neg (by decide),if_neg (by decide)]
     cases decide (t.Kids.length=2)<;>cases decide (0≤t.N)&&decide (t.N≤19)<;>rfl
   simp only[c8,decide_false,dK,if_false]
   rw[if_pos (show 6≤t.Op∧t.Op≤15 by omega)]
   have:t.Op=6∨t.Op=7∨t.Op=9∨t.Op=10∨t.Op=11∨t.Op=12∨t.Op=13∨t.Op=14∨t.Op=15:=by omega
   rcases this with h | h | h | h | h | h | h | h | h<;>simp only[h]<;>cases decide (t.Kids.length=2)<;>cases decide (t.N=0)<;>simp
 · rw[jM]
   have:t.Op≠1∧t.Op≠2∧t.Op≠3∧t.Op≠4∧t.Op≠5∧t.Op≠8∧¬ (6≤t.Op∧t.Op≤15):=by omega
   simp only[this,if_false,dK]
def RB (b:UInt8):Bool:=(decide (97≤b.toNat)&&decide (b.toNat≤122))||(decide (65≤b.toNat)&&decide (b.toNat≤90))
def uk (s:ByteArray):Bool:=s.data.toList.all RB&&(decide (1≤s.size)&&decide (s.size≤8))
theorem IY (s:ByteArray):s.size=s.data.toList.length:=by simp_all
theorem Y0 {s:ByteArray}(h:i<s.data.toList.length):pt s (i:Int)=some ((s.data.toList[i].toNat:Nat):Int):=by
 have h2:i<s.size:=by simp_all
 simp only[pt,show(0:Int)≤i by omega,if_true,ub]
 rw[getElem?_pos s i h2]
 simp[ByteArray.get,ByteArray.getElem_eq_getElem_data]
theorem Sy (s:ByteArray)(hs:s.size≤30):∀(d i:Nat),s.data.toList.length-i=d→i≤s.data.toList.length→jb s i=some ((s.data.toList.drop i).all RB&&(decide (1≤s.size)&&decide (s.size≤8))):=by
 have r:=IY s
 intro d
 induction d with
 | zero=>
   intro i k hi
   rw[jb,jM,wq,List.drop_eq_nil_of_le (by omega)]
   grind
 | succ d o=>
   intro i k hi
   have g:i<s.data.toList.length:=by omega
   have nx:=o (i+1) (by omega) (by omega)
   rw[jb,e9,Y0 g]
   simp only[aW,aD]
   rw[db g,mI]
   have h:cw .i64 ((i:Int)+1)=true:=w9 (by omega) (by omega)
   have j:((i:Int)+1)=((i+1:Nat):Int):=by omega
   generalize s.data.toList[i]=b at *
   have hb:RB b=((decide (97≤b.toNat)&&decide (b.toNat≤122))||(decide (65≤b.toNat)&&decide (b.toNat≤90))):=rfl
   have key:∀(x:Option Bool),(if decide (((b.toNat:Nat):Int)<65) then some false else(if decide (((b.toNat:Nat):Int)>90) then some false else(if cw .i64 ((i:Int)+1) then jb s ((i:Int)+1) else none)))=some ((decide (65≤b.toNat)&&decide (b.toNat≤90))&&((s.data.toList.drop (i+1)).all RB&&(decide (1≤s.size)&&decide (s.size≤8)))):=by
     intro _
     by_cases h1:b.toNat<65
     · rw[e9,show decide (65≤b.toNat)=false by simp;omega];rfl
     · rw[jM,show decide (65≤b.toNat)=true by simp;omega]
       by_cases h2:b.toNat>90
       · rw[e9,show decide (b.toNat≤90)=false by simp;omega];rfl
       · rw[jM,show decide (b.toNat≤90)=true by simp;omega,if_pos h,j,nx];rfl
   by_cases h1:b.toNat<97
   · rw[e9,key none,hb,show decide (97≤b.toNat)=false by simp;omega];simp[Bool.and_assoc]
   · rw[jM]
     by_cases h2:b.toNat>122
     · rw[e9,key none,hb,show decide (b.toNat≤122)=false by simp;omega];simp[Bool.and_assoc]
     · rw[jM,if_pos h,j,nx,hb,show decide (b.toNat≤122)=true by simp;omega,show decide (97≤b.toNat)=true by simp;omega];simp
theorem QN (s:ByteArray)(hs:s.size≤30):xm s=some (uk s):=by
 rw[xm]
 exact Sy s hs _ 0 rfl (bW _)
theorem Sz (s:ByteArray)(p:Nat)(h:p<s.data.toList.length):(s.data.toList[p].toNat<128∧Utf8.decode s p=(s.data.toList[p].toNat,1))∨(128≤s.data.toList[p].toNat∧128≤(Utf8.decode s p).1):=by
 have e:(s.get! (p+0)).toNat=s.data.toList[p].toNat:=by
   have d:p<s.data.size:=by simpa using h
   show(s.data[p]!).toNat=_
   grind
 by_cases h1:s.data.toList[p].toNat<128
 · left
   refine⟨h1,?_⟩
   unfold Utf8.decode
   grind
 · right
   refine⟨by omega,?_⟩
   unfold Utf8.decode
   simp only[e]
   rw[if_neg h1]
   simp only[Utf8.runeError,ge_iff_le,aS,decide_eq_true_eq]
   grind
theorem KX (s:ByteArray)(hs:s.size≤30):∀(d i:Nat),s.data.toList.length-i=d→i≤s.data.toList.length→fA s i=some ((s.data.toList.drop i).all RB&&(decide (1≤s.size)&&decide (s.size≤8))):=by
 have k:=IY s
 intro d
 induction d with
 | zero=>
   intro i h hi
   rw[fA,jM,kc,List.drop_eq_nil_of_le (by omega)]
   grind
 | succ d j=>
   intro i h hi
   have g:i<s.data.toList.length:=by omega
   have nx:=j (i+1) (by omega) (by omega)
   rw[fA,e9,db g,mI]
   have h:=Sz s i g
   generalize o:s.data.toList[i]=b at *
   have hb:RB b=((decide (97≤b.toNat)&&decide (b.toNat≤122))||(decide (65≤b.toNat)&&decide (b.toNat≤90))):=rfl
   grind
theorem PU (s:ByteArray)(hs:s.size≤30):mq s=some (uk s):=by
 rw[mq]
 exact KX s hs _ 0 rfl (bW _)
def seenIn (seen:List ByteArray)(k:ByteArray):Bool:=seen.any fun a=>a.data.toList==k.data.toList
def um (n:Int):Bool:=decide (0≤n)&&decide (n≤4)
theorem JO (n:Int):(decide (0≤n)&&decide (n≤4))=um n:=rfl
def lH : List cf→List ByteArray→Bool
 | [],_=>true
 | x::l,seen => !seenIn seen x.Name&&(uk x.Name&&(um x.bu&&lH l (seen++[x.Name])))
theorem Mb (k a:ByteArray):afA k a=(a.data.toList==k.data.toList):=BEq.comm
theorem PV (k:ByteArray):∀ seen:List ByteArray,tn (seen.map fun a=>(a,true)) k=if seenIn seen k then some true else none:=by
 intro seen
 induction seen with
 | nil=>rfl
 | cons a l d=>
   simp only[dF,tn,seenIn,List.any_cons,Mb]
   by_cases h:(a.data.toList==k.data.toList)=true
   · simp[h]
   · simp only[h,dK,if_false,Bool.false_or]
     exact d
theorem PW (k:ByteArray):∀ seen:List ByteArray,seenIn seen k=false→r9 (seen.map fun a=>(a,true)) k true=(seen++[k]).map fun a=>(a,true):=by
 intro seen
 induction seen with
 | nil=>intro _;rfl
 | cons a l d=>
   intro h
   simp only[seenIn,List.any_cons,Bool.or_eq_false_iff] at h
   simp only[dF,r9,Mb,B4,h.1]
   simp only[dK,if_false,List.cons.injEq,true_and]
   exact d h.2
theorem y8 {F:Int→List (ByteArray×Bool)→Option Int}{e:List (ByteArray×Bool)→Option Int}(l:List cf)(j:∀ x∈l,x.Name.size≤30)
   (hs:∀(i:Nat) (h:i<l.length) m,F (i:Int) m=if((tn m l[i].Name).getD false) then(some 2) else(mq l[i].Name>>=fun v=>if v then(eH l[i].bu 0 4>>=fun v=>if v then F ((i:Int)+1) (r9 m l[i].Name true) else(some 2)) else(some 2))) (o:∀ m,F (l.length:Int) m=e m) :
   ∀(d i:Nat) (seen:List ByteArray),l.length-i=d→i≤l.length→F (i:Int) (seen.map fun a=>(a,true))=if lH (l.drop i) seen then e ((seen++(l.drop i).map (·.Name)).map fun a=>(a,true)) else some 2:=by
 intro d
 induction d with
 | zero=>
   grind[List.drop_length,lH]
 | succ d k=>
   intro i seen r hi
   have h:i<l.length:=by omega
   rw[hs i h,PV,db h,lH]
   by_cases c:seenIn seen l[i].Name=true
   · simp[c]
   · have g:seenIn seen l[i].Name=false:=by simpa using c
     rw[PW _ _ g,tj,k (i+1) (seen++[l[i].Name]) (by omega) (by omega)]
     simp only[g,dK,if_false,Option.getD_none,PU l[i].Name (j _ (cM h)),kc,aW,aD,Bool.not_false,j6]
     by_cases h2:uk l[i].Name=true
     · simp only[h2,if_true,j6,JO]
       by_cases c3:um l[i].bu=true
       · simp only[c3,j6,if_true,pj,Oy,dF,ud,B4,lE]
       · simp[c3]
     · simp[h2]
theorem IZ (a:ByteArray)(l:List ByteArray)(k:ByteArray):seenIn (a::l) k=((a.data.toList==k.data.toList)||seenIn l k):=rfl
def Hf (l:List cf)(seen:List ByteArray):List ByteArray×Bool:=if lH l seen then(seen++l.map (·.Name),true) else([],false)
theorem I0 (x:cf)(l:List cf)(seen:List ByteArray):Hf (x::l) seen=if seenIn seen x.Name then([],false) else if uk x.Name&&um x.bu then Hf l (seen++[x.Name]) else([],false):=by
 have e:lH (x::l) seen=(!seenIn seen x.Name&&(uk x.Name&&(um x.bu&&lH l (seen++[x.Name])))):=rfl
 unfold Hf
 grind
theorem NL (l:List cf)(r:∀ x∈l,x.Name.size≤30)(y:l.length≤20):∀(d i:Nat),l.length-i=d→i≤l.length→∀ seen:List ByteArray,seen.length+d≤50→jC l i seen=some (Hf (l.drop i) seen):=by
 intro d
 induction d with
 | zero=>
   intro i t hi seen hs
   rw[jC,jM,List.drop_eq_nil_of_le (by omega)]
   simp[Hf,lH]
 | succ d u=>
   intro i t hi seen hs
   have g:i<l.length:=by omega
   have hx:=r _ (cM g)
   rw[jC,if_pos (by simpa using g),db g]
   have J:∀(e j:Nat),seen.length-j=e→j≤seen.length→jB l i seen j=some (if seenIn (seen.drop j) l[i].Name then([],false) else if uk l[i].Name&&um l[i].bu then Hf (l.drop (i+1)) (seen++[l[i].Name]) else([],false)):=by
    intro e
    induction e with
    | zero=>
      intro j v w
      rw[jB,jM,List.drop_eq_nil_of_le (by omega),aU g]
      simp only[aW,aD,QN _ hx,wq,seenIn,List.any_nil,dK,if_false]
      by_cases h1:uk l[i].Name=true
      · simp only[h1,if_true,j6]
        rw[JO]
        by_cases h2:um l[i].bu=true
        · simp only[h2,if_true]
          have nx:=u (i+1) (by omega) (by omega) (seen++[l[i].Name]) (by simp;omega)
          by_cases h3:seen=[]
          · subst h3
            rw[if_pos (by rfl),if_pos fK,show((i:Int)+1)=((i+1:Nat):Int) by omega]
            exact nx
          · rw[if_neg (by simpa using h3),e9,e9,if_pos fK,show((i:Int)+1)=((i+1:Nat):Int) by omega]
            exact nx
        · simp[h2]
      · simp[h1]
    | succ e o=>
      intro j v w
      have k:j<seen.length:=by omega
      rw[jB,if_pos (by simpa using k),aU k,aU g]
      simp only[aW,aD]
      rw[db k,IZ]
      by_cases h:(seen[j].data.toList==l[i].Name.data.toList)=true
      · rw[if_pos h];simp[h]
      · rw[if_neg h,if_pos fK,show((j:Int)+1)=((j+1:Nat):Int) by omega,o (j+1) (by omega) (by omega)]
        simp only[h,Bool.false_or]
   have:=J _ 0 rfl (bW _)
   rw[show((0:Nat):Int)=0 from rfl] at this
   rw[this,jj,I0]
theorem I1 (l:List cf)(t:∀ x∈l,x.Name.size≤30)(o:l.length≤20)(seen:List ByteArray)(hs:seen.length≤20):uY l seen=some (Hf l seen):=by
 rw[uY,xA]
 by_cases g:0<l.length
 · rw[if_pos (by simpa using g)]
   have hx:=t _ (cM g)
   have k:=aU g
   rw[show((0:Nat):Int)=0 from rfl] at k
   have J:∀(e j:Nat),seen.length-j=e→j≤seen.length→kz l seen j=some (if seenIn (seen.drop j) l[0].Name then([],false) else if uk l[0].Name&&um l[0].bu then Hf (l.drop 1) (seen++[l[0].Name]) else([],false)):=by
    intro e
    induction e with
    | zero=>
      intro j u v
      rw[kz,jM,List.drop_eq_nil_of_le (by omega),k]
      simp only[aW,aD,QN _ hx,wq,seenIn,List.any_nil,dK,if_false]
      by_cases h1:uk l[0].Name=true
      · simp only[h1,if_true,j6]
        rw[JO]
        by_cases h2:um l[0].bu=true
        · simp only[h2,if_true]
          have nx:=NL l t o _ 1 rfl (by omega) (seen++[l[0].Name]) (by simp;omega)
          rw[show((1:Nat):Int)=1 from rfl] at nx
          by_cases h3:seen=[]
          · subst h3
            rw[if_pos (by rfl)]
            exact nx
          · rw[if_neg (by simpa using h3),e9,e9]
            exact nx
        · simp[h2]
      · simp[h1]
    | succ e r=>
      intro j u v
      have d:j<seen.length:=by omega
      rw[kz,if_pos (by simpa using d),aU d,k]
      simp only[aW,aD]
      rw[db d,IZ]
      by_cases h:(seen[j].data.toList==l[0].Name.data.toList)=true
      · rw[if_pos h];simp[h]
      · rw[if_neg h,if_pos fK,show((j:Int)+1)=((j+1:Nat):Int) by omega,r (j+1) (by omega) (by omega)]
        simp only[h,Bool.false_or]
   have:=J _ 0 rfl (bW _)
   rw[show((0:Nat):Int)=0 from rfl] at this
   have el:l=l[0]::l.drop 1:=by
    have:=db g
    simpa using this
   grind[I0]
 · have:l=[]:=tY (by omega)
   subst this
   rw[if_neg (by simp)]
   simp[Hf,lH]
def NU (x:cf)(s:ByteArray):Bool:=[(x.Name.data.toList==s.data.toList),(x.bu==0)].all id
theorem Bk : ∀(l:List cf) (seen:List ByteArray),lH l seen=true→∀ x∈l,0≤x.bu∧x.bu≤4:=by
 intro l
 induction l with
 | nil=>grind
 | cons a l d=>
   intro seen h x hx
   simp only[lH,aS,um,decide_eq_true_eq] at h
   grind
theorem aeL (s:aE)(h1:∀ x∈s.Cons,x.Name.size≤30)(h2:∀ x∈s.bq,x.Name.size≤30):∃ b,EI s=some b∧cW s=some (if b=true then 0 else 2)∧(b=true→s.Cons.length≤12∧s.bq.length≤8∧(∀ x∈s.Cons,0≤x.bu∧x.bu≤4)∧∀ x∈s.bq,0≤x.bu∧x.bu≤4):=by
 rw[EI,cW,wq,kc]
 simp only[aW,aD]
 by_cases o:2≤s.Cons.length∧s.Cons.length≤12
 · rw[show(decide ((2:Int)≤(s.Cons.length:Int))&&decide ((s.Cons.length:Int)≤12))=true by simp;omega]
   simp only[if_true]
   by_cases hf:s.bq.length≤8
   · rw[jM,jM]
     have d:bP s.Cons 0=some (s.Cons[0]'(by omega)):=aU (i:=0) (by omega)
     have a2:bP s.Cons 1=some (s.Cons[1]'(by omega)):=aU (i:=1) (by omega)
     have g:=y8 (F:=fun i m=>gB s i m) (e:=fun m=>dW s 0 m) s.Cons h1 (fun i h m=>by
       rw[gB,e9,aU h]
       simp only[aW,aD]
       rw[if_pos fK]) (fun m=>by rw[gB,if_neg (by simp)]) _ 0 [] rfl (bW _)
     have j:=fun seen=>y8 (F:=fun i m=>dW s i m) (e:=fun m=>dW s s.bq.length m) s.bq h2 (fun i h m=>by
       rw[dW,e9,aU h]
       simp only[aW,aD]
       rw[if_pos fK]) (fun m=>rfl) _ 0 seen rfl (bW _)
     have r:∀ m,dW s s.bq.length m=some (if(NU s.Cons[0] ⟨#[70,97,108,115,101]⟩&&NU s.Cons[1] ⟨#[84,114,117,101]⟩)=true then 0 else 2):=fun m=>by
       rw[dW,if_neg (by simp),d,a2]
       simp only[aW,aD]
       rw[show [(s.Cons[0].Name.data.toList==(⟨#[70,97,108,115,101]⟩:ByteArray).data.toList),(s.Cons[0].bu==0)].all id=NU s.Cons[0] ⟨#[70,97,108,115,101]⟩ from rfl,show [(s.Cons[1].Name.data.toList==(⟨#[84,114,117,101]⟩:ByteArray).data.toList),(s.Cons[1].bu==0)].all id=NU s.Cons[1] ⟨#[84,114,117,101]⟩ from rfl]
       cases NU s.Cons[0] ⟨#[70,97,108,115,101]⟩<;>cases NU s.Cons[1] ⟨#[84,114,117,101]⟩<;>rfl
     simp only[jj,ud,lE,show((0:Nat):Int)=0 from rfl] at g j
     simp only[g,d,a2,aD,I1 s.Cons h1 (by omega) [] (by simp)]
     rw[show [(s.Cons[0].Name.data.toList==(⟨#[70,97,108,115,101]⟩:ByteArray).data.toList),(s.Cons[0].bu==0)].all id=NU s.Cons[0] ⟨#[70,97,108,115,101]⟩ from rfl,show [(s.Cons[1].Name.data.toList==(⟨#[84,114,117,101]⟩:ByteArray).data.toList),(s.Cons[1].bu==0)].all id=NU s.Cons[1] ⟨#[84,114,117,101]⟩ from rfl]
     have k:∀(l:List cf) (seen:List ByteArray),Hf l seen=if lH l seen=true then(seen++l.map (·.Name),true) else([],false):=fun l seen=>rfl
     rw[k]
     cases t:lH s.Cons [] with
     | false=>
       refine⟨false,?_,by simp,by simp⟩
       cases NU s.Cons[0] ⟨#[70,97,108,115,101]⟩<;>cases NU s.Cons[1] ⟨#[84,114,117,101]⟩<;>rfl
     | true=>
       simp only[if_true,lE,j,r]
       rw[I1 s.bq h2 (by omega) _ (by simp;omega),k]
       simp only[aD]
       cases u:lH s.bq (s.Cons.map (·.Name)) with
       | false=>
         refine⟨false,?_,by simp,by simp⟩
         cases NU s.Cons[0] ⟨#[70,97,108,115,101]⟩<;>cases NU s.Cons[1] ⟨#[84,114,117,101]⟩<;>rfl
       | true=>
         refine⟨NU s.Cons[0] ⟨#[70,97,108,115,101]⟩&&NU s.Cons[1] ⟨#[84,114,117,101]⟩,?_,?_,fun _=>⟨o.2,hf,Bk _ _ t,Bk _ _ u⟩⟩
         · cases NU s.Cons[0] ⟨#[70,97,108,115,101]⟩<;>cases NU s.Cons[1] ⟨#[84,114,117,101]⟩<;>rfl
         · simp
   · rw[e9,e9]
     exact⟨false,rfl,rfl,by simp⟩
 · rw[show(decide ((2:Int)≤(s.Cons.length:Int))&&decide ((s.Cons.length:Int)≤12))=false by simp;omega]
   exact⟨false,rfl,rfl,by simp⟩
theorem GX (s:aE)(h1:s.Cons.length≤1000000)(h2:s.bq.length≤1000000)(t:Term)(d:dJ t≤1000000):tJ s t=some (eM s t):=by
 obtain⟨y,e⟩:=Sx s h1 h2 t d 1 0 (by omega) (by omega) (by omega) (by omega)
 rw[tJ,e]
 simp only[aW,aD,eM]
 grind
variable {s : aE}
theorem I2 (hs:cW s=some 0):s.Cons.length≤1000000∧s.bq.length≤1000000:=by
 rw[cW,kc] at hs
 grind
theorem uu (hs:cW s=some 0)(l:List Term)(h:l.length≤1000000)(g:∀ x,x∈l→dJ x≤1000000):pG s l=some (l.all (eM s)):=by
 have d:=I2 hs
 rw[pG,hs]
 simp only[aW,aD,decide_true,if_true]
 rw[od (eM s) (kU s l) (fun i=>by rw[kU]) (fun x hx=>GX s d.1 d.2 x (g x hx)) (by omega)]
 grind
theorem y9 (hs:cW s=some 0)(t:Term)(d:dJ t≤1000000):nv s t=some (if eM s t=true then 0 else 2):=by
 rw[nv,uu hs [t] (by simp) (fun x hx=>by grind)]
 grind
abbrev pf (l:LI):Prop:=l.Pairwise (· < ·)
theorem akw (x y:LI)(a:Int)(t1:x.length≤1000)(t2:y.length≤1000):(if x.isEmpty=true then(if y.isEmpty=true then(some [a]) else(if decide ([a].length+y.length≤1048576)=true then(some ([a]++y)) else none)) else(if decide (x.length≤1048576)=true then(if decide (x.length+[a].length≤1048576)=true then(if y.isEmpty=true then(some (x++[a])) else(if decide ((x++[a]).length+y.length≤1048576)=true then(some ((x++[a])++y)) else none)) else none) else none))=some (x++a::y):=by
 grind
theorem QO (l:LI)(a:Int)(i:Nat)(hi:i≤l.length)(d:l.length≤1000):(if decide (0≤(i:Int)∧(i:Int)≤(l.length:Int)) then(if(l.take (i:Int).toNat).isEmpty then(if decide (0≤(i:Int)∧(i:Int)≤(l.length:Int)) then(if(l.drop (i:Int).toNat).isEmpty then(some [a]) else(if decide ([a].length+(l.drop (i:Int).toNat).length≤1048576) then(some ([a]++(l.drop (i:Int).toNat))) else none)) else none) else(if decide ((l.take (i:Int).toNat).length≤1048576) then(if decide ((l.take (i:Int).toNat).length+[a].length≤1048576) then(if decide (0≤(i:Int)∧(i:Int)≤(l.length:Int)) then(if(l.drop (i:Int).toNat).isEmpty then(some ((l.take (i:Int).toNat)++[a])) else(if decide (((l.take (i:Int).toNat)++[a]).length+(l.drop (i:Int).toNat).length≤1048576) then(some (((l.take (i:Int).toNat)++[a])++(l.drop (i:Int).toNat))) else none)) else none) else none) else none)) else none)=some (l.take i++a::l.drop i):=by
 grind
theorem V1 (l:LI)(a:Int)(hs:pf l)(j:l.length≤1000):∀(d i:Nat),l.length-i=d→i≤l.length→(∀ x,x∈l.take i→x<a)→∃ r,nD l a i=some r∧pf r∧(∀ x,x∈r↔x∈l∨x=a)∧r.length≤l.length+1:=by
 have key:∀ i:Nat,i≤l.length→(∀ x,x∈l.take i→x<a)→(∀ x,x∈l.drop i→a<x)→pf (l.take i++a::l.drop i)∧(∀ x,x∈l.take i++a::l.drop i↔x∈l∨x=a)∧(l.take i++a::l.drop i).length≤l.length+1:=by
   intro i hi h1 h2
   have e:=List.take_append_drop i l
   have g:pf (l.take i++l.drop i):=by rw[e];exact hs
   rw[pf,List.pairwise_append] at g
   refine⟨?_,fun x=>?_,by simp;omega⟩
   · rw[pf,List.pairwise_append,List.pairwise_cons]
     refine⟨g.1,⟨h2,g.2.1⟩,fun x hx y hy=>?_⟩
     rcases dE.1 hy with rfl | hy
     · exact h1 x hx
     · exact g.2.2 x hx y hy
   · conv=>rhs;rw[←e]
     simp only[fc,dE]
     constructor
     · rintro(h | h | h)<;>simp[h]
     · rintro((h | h) | h)<;>simp[h]
 intro d
 induction d with
 | zero=>
   intro i k hi h1
   have e:i=l.length:=by omega
   refine⟨_,?_,key i hi h1 (by rw[e,fu];simp)⟩
   rw[nD,jM,jM]
   exact QO l a i hi j
 | succ d o=>
   intro i k hi h1
   have h:i<l.length:=by omega
   rw[nD,e9,aU h]
   simp only[aW,aD]
   by_cases c:l[i]<a
   · rw[if_pos (by simpa using c),if_pos fK,tj]
     refine o (i+1) (by omega) (by omega) fun x hx=>?_
     rw[Cc h,fc] at hx
     rcases hx with hx | hx
     · exact h1 x hx
     · simp at hx;omega
   · rw[if_neg (by simpa using c),e9]
     by_cases c2:l[i]=a
     · rw[if_pos (by simpa using c2)]
       refine⟨l,rfl,hs,fun x=>⟨.inl,fun q=>q.elim id fun e=>?_⟩,by omega⟩
       rw[e,←c2];exact cM h
     · rw[if_neg (by simpa using c2)]
       refine⟨_,QO l a i hi j,key i hi h1 fun x hx=>?_⟩
       have g:pf (l.drop i):=hs.sublist (List.drop_sublist i l)
       rw[db h] at g hx
       rw[pf,List.pairwise_cons] at g
       rcases dE.1 hx with rfl | hx
       · omega
       · have:=g.1 x hx;omega
theorem put_eq (l:LI)(a:Int)(hs:pf l)(d:l.length≤1000):∃ r,nb l a=some r∧pf r∧(∀ x,x∈r↔x∈l∨x=a)∧r.length≤l.length+1:=by
 rw[nb]
 exact V1 l a hs d l.length 0 rfl (bW _) (by simp)
theorem OG (l:LI)(a:Int)(d:l.length≤1000000):xZ l a=some (decide (a∈l)):=by
 have:=pc (l:=l) (q:=fun x => !decide (x=a)) (e:=some false) (f:=some true) (nE l a) (fun i h=>by
  rw[nE,e9,aU h]
  simp only[aW,aD]
  by_cases c:l[i]=a
  · simp[c]
  · rw[if_neg (by simpa using c),if_pos fK];simp[c]) (by rw[nE,if_neg (by simp)])
 rw[xZ,this]
 grind
mutual
def tv : Term→LI
 | .mk o n l=>(if o=1 then [n] else [])++iC l
def iC : List Term→LI
 | []=>[]
 | t::l=>tv t++iC l
end
theorem rj (t:Term):tv t=(if t.Op=1 then [t.N] else [])++iC t.Kids:=by cases t;rw[tv];rfl
def BJ (t:Term):Bool:=decide (t.Op=1)||decide (t.Op=3)
def K9 (v:Int)(t:Term):Bool := !(decide (t.Op=1)||decide (t.Op=8))||decide (t.N<v)
theorem dX : ∀ l:List Term,(l.length:Int)≤gI l∧∀ x,x∈l→dJ x≤gI l
 | []=>by simp[gI]
 | a::l=>by
   have:=kK a
   have:=dt l
   have h:=dX l
   simp only[gI,pk,dE]
   grind
theorem QP : ∀(l:List Term) (x:Term),x∈l→Es x≤Ie l
 | a::l,x,hx=>by
   simp only[Ie]
   rcases dE.1 hx with rfl | hx
   · omega
   · have:=QP l x hx;omega
theorem ajL : ∀ t:Term,Es t≤dJ t:=by
 intro t
 refine fT (P:=fun t=>Es t≤dJ t) (fun t g=>?_) t
 have:∀ l:List Term,(∀ x,x∈l→Es x≤dJ x)→Ie l≤gI l:=by
  intro l
  induction l with
  | nil=>intro _;simp[Ie,gI]
  | cons a l d=>
    intro h
    have h1:=h a (by simp)
    have h2:=d fun x hx=>h x (by simp[hx])
    have:=dt l
    have:=kK a
    simp only[Ie,gI];omega
 rw[eE,JA]
 grind
theorem V2 (t:Term):dJ t≤1000000→nF t=some (cA BJ t):=by
 refine fT (P:=fun t=>dJ t≤1000000→nF t=some (cA BJ t)) (fun t d g=>?_) t
 have h:=dX t.Kids
 rw[eE] at g
 rw[nF,od (cA BJ) (kB t) (fun i=>by rw[kB]) (fun x hx=>d x hx (by grind)) (by omega),dS,fe]
 simp only[BJ]
 grind
theorem UP (v:Int)(t:Term):dJ t≤1000000→mj t v=some (cA (K9 v) t):=by
 refine fT (P:=fun t=>dJ t≤1000000→mj t v=some (cA (K9 v) t)) (fun t d g=>?_) t
 have h:=dX t.Kids
 rw[eE] at g
 rw[mj,od (cA (K9 v)) (fun i=>kC t v i) (fun i=>by rw[kC]) (fun x hx=>d x hx (by grind)) (by omega),dS,fe]
 simp only[K9]
 grind
abbrev mp (l:LI):List (Int×Bool):=l.map fun a=>(a,true)
theorem OH (k:Int):∀ l:LI,(iO (mp l) k).getD false=decide (k∈l)
 | []=>by simp[iO]
 | a::l=>by
   have:=OH k l
   simp only[mp] at this
   simp only[mp,dF,iO,dE]
   grind
theorem OI (k:Int):∀ l:LI,k∉l→ko (mp l) k true=mp (l++[k])
 | [],_=>rfl
 | a::l,h=>by
   have:=OI k l fun q=>h (by simp[q])
   simp only[mp] at this
   simp only[mp,dF,ko,B4]
   grind
def BN (t:LI)(seen:LI):Prop:=t.Nodup∧∀ x,x∈t→x∉seen
variable {a b seen : LI}
theorem JP : BN (a++b) seen↔BN a seen∧BN b (seen++a):=by
 simp only[BN,List.nodup_append,fc]
 grind
theorem QQ : BN [] seen:=⟨List.nodup_nil,by simp⟩
theorem QR : BN [n] seen↔n∉seen:=by simp[BN]
theorem V3 (t:Term)(d c:Int)(b:Bool)(o:List (Int×Bool))(F:0≤d∧d+1+Ie t.Kids≤1000000)(G:t.Kids.length≤1000000)
   (u:∀ x,x∈t.Kids→∀(d:Int) (seen:LI),0≤d→d+Es x≤1000000→∃ y,bJ x d b c (mp seen)=some y∧(cA BJ x=true∧BN (tv x) seen→y=.inr (mp (seen++tv x)))∧(¬ (cA BJ x=true∧BN (tv x) seen)→∃ z,y=.inl z)) :
   ∀(k i:Nat) (seen:LI),t.Kids.length-i=k→i≤t.Kids.length→∃ y,aC t d b c o i (mp seen)=some y∧(wP BJ (t.Kids.drop i)=true∧BN (iC (t.Kids.drop i)) seen→y=.inr (mp (seen++iC (t.Kids.drop i))))∧(¬ (wP BJ (t.Kids.drop i)=true∧BN (iC (t.Kids.drop i)) seen)→∃ z,y=.inl z):=by
 intro k
 induction k with
 | zero=>
   intro i seen v hi
   refine⟨.inr (mp seen),?_,?_,fun q=>?_⟩
   · rw[aC,jM]
   all_goals grind[List.drop_length,iC,wP,QQ]
 | succ k j=>
   intro i seen v hi
   have h:i<t.Kids.length:=by omega
   have H:=QP t.Kids _ (cM h)
   obtain⟨y,e,w,A⟩:=u _ (cM h) (d+1) seen (by omega) (by omega)
   have I:=(dt t.Kids).2
   rw[aC,e9,aU h,db h,wP,iC]
   simp only[aW,aD]
   rw[if_pos fK,e]
   simp only[aD,JP,aS]
   by_cases g:cA BJ t.Kids[i]=true∧BN (tv t.Kids[i]) seen
   · rw[w g]
     obtain⟨B,f,C,D⟩:=j (i+1) (seen++tv t.Kids[i]) (by omega) (by omega)
     refine⟨B,?_,fun q=>?_,fun q=>D fun r=>q ⟨⟨g.1,r.1⟩,g.2,r.2⟩⟩
     · show(if cw .i64 ((i:Int)+1) then aC t d b c o ((i:Int)+1) (mp (seen++tv t.Kids[i])) else none)=_
       rw[if_pos fK,tj,f]
     · rw[C ⟨q.1.2,q.2.2⟩,pj]
   · obtain⟨z,E⟩:=A g
     subst E
     exact⟨.inl z,rfl,fun q=>absurd ⟨q.1.1,q.2.1⟩ g,fun _=>⟨z,rfl⟩⟩
theorem aeM (b:Bool)(c:Int)(t:Term):dJ t≤1000000→∀(d:Int) (seen:LI),0≤d→d+Es t≤1000000→∃ y,bJ t d b c (mp seen)=some y∧(cA BJ t=true∧BN (tv t) seen→y=.inr (mp (seen++tv t)))∧(¬ (cA BJ t=true∧BN (tv t) seen)→∃ z,y=.inl z):=by
 refine fT (P:=fun t=>dJ t≤1000000→∀(d:Int) (seen:LI),0≤d→d+Es t≤1000000→∃ y,bJ t d b c (mp seen)=some y∧(cA BJ t=true∧BN (tv t) seen→y=.inr (mp (seen++tv t)))∧(¬ (cA BJ t=true∧BN (tv t) seen)→∃ z,y=.inl z)) (fun t g h d seen h1 h2=>?_) t
 have u:=dX t.Kids
 rw[eE] at h
 rw[JA] at h2
 have loop:=fun j seen=>V3 t d c b j ⟨h1,by omega⟩ (by omega) (fun x hx d seen a b=>g x hx (by grind) d seen a b) t.Kids.length 0 seen rfl (bW _)
 simp only[jj,show((0:Nat):Int)=0 from rfl] at loop
 rw[bJ,dS,rj,BJ]
 by_cases c1:t.Op=1
 · simp only[c1,decide_true,Bool.not_true,dK,if_false,if_true,Bool.true_or,j6,OH,JP,QR]
   by_cases hs:t.N∈seen
   · simp_all
   · rw[if_neg (by simpa using hs),OI _ _ hs]
     obtain⟨y,e,k,o⟩:=loop (mp seen) (seen++[t.N])
     exact⟨y,e,fun q=>by rw[k ⟨q.1,q.2.2⟩,pj],fun q=>o fun r=>q ⟨r.1,hs,r.2⟩⟩
 · simp only[c1,decide_false,Bool.not_false,if_true,dK,if_false,Bool.false_or,lE]
   by_cases c3:t.Op=3
   · simp only[c3,decide_true,Bool.not_true,dK,if_false,j6]
     exact loop (mp seen) seen
   · simp only[c3,decide_false,Bool.not_false,if_true,Bool.false_and,dK,false_and]
     exact⟨_,rfl,fun q=>q.elim,fun _=>⟨_,rfl⟩⟩
def tV (t:Term):Bool:=cA BJ t&&decide (tv t).Nodup
theorem KY (hs:cW s=some 0)(t:Term)(k:dJ t≤100000):oz s t=some (if eM s t=true then(tV t,0) else(false,2)):=by
 rw[oz,uu hs [t] (by simp) (fun x hx=>by grind)]
 simp only[aW,aD,mI,List.all_nil,uh]
 cases eM s t with
 | false=>rfl
 | true=>
   have:=ajL t
   obtain⟨y,e,h,d⟩:=aeM false 0 t (by omega) 1 [] (by omega) (by omega)
   simp only[if_true,show([]:List (Int×Bool))=mp [] from rfl,e,aD]
   have j:BN (tv t) []↔(tv t).Nodup:=by simp[BN]
   rw[j] at h d
   by_cases g:cA BJ t=true∧(tv t).Nodup
   · grind[tV]
   · obtain⟨z,rfl⟩:=d g
     have:tV t=false:=by
      simp only[tV]
      grind
     rw[this]
def leaf (t:Term):Bool := !decide (t.Op=1)||t.Kids.isEmpty
theorem Cj {p q:Term→Bool}(h:∀ t,p t=true→q t=true)(t:Term):cA p t=true→cA q t=true:=by
 refine fT (P:=fun t=>cA p t=true→cA q t=true) (fun t d=>?_) t
 rw[dS,dS,fe,fe,aS,aS,dg,dg]
 grind
theorem QS (s:aE)(t:Term)(h:cA (fZ s) t=true):cA leaf t=true:=by
 refine Cj (fun t h=>?_) t h
 simp only[leaf]
 by_cases c:t.Op=1
 · simp only[fZ,c,if_true,aS,decide_eq_true_eq] at h
   grind
 · simp[c]
theorem SA (t:Term)(G:t.Kids.length≤1000)(v:∀ x,x∈t.Kids→∀ l:LI,pf l→l.length+dJ x≤900→∃ r b,oc x l=some (r,b)∧(b=true↔BN (tv x) l)∧(b=true→pf r∧(∀ z,z∈r↔z∈l∨z∈tv x)∧r.length≤l.length+dJ x)) :
   ∀(k i:Nat) (l:LI),t.Kids.length-i=k→i≤t.Kids.length→pf l→l.length+gI (t.Kids.drop i)≤900→∃ r b,jc t i l true=some (r,b)∧(b=true↔BN (iC (t.Kids.drop i)) l)∧(b=true→pf r∧(∀ z,z∈r↔z∈l∨z∈iC (t.Kids.drop i))∧r.length≤l.length+gI (t.Kids.drop i)):=by
 intro k
 induction k with
 | zero=>
   intro i l w hi hs g
   refine⟨l,true,?_,?_,fun _=>?_⟩
   · rw[jc,jM];rfl
   · rw[show i=t.Kids.length by omega,fu,iC];exact⟨fun _=>QQ,fun _=>rfl⟩
   all_goals grind[List.drop_length,iC,gI]
 | succ k d=>
   intro i l w hi hs g
   have h:i<t.Kids.length:=by omega
   rw[db h,gI] at g
   have H:=dt (t.Kids.drop (i+1))
   obtain⟨r,b,e,j,y⟩:=v _ (cM h) l hs (by omega)
   rw[jc,e9,if_pos rfl,aU h,db h,iC,gI]
   simp only[aW,aD,e,JP]
   rw[if_pos fK,if_pos fK,tj]
   cases b with
   | false=>
     refine⟨r,false,?_,⟨fun q=>(by cases q),fun q=>j.2 q.1⟩,fun q=>(by cases q)⟩
     rw[if_neg (by simp),jc]
     split<;>rfl
   | true=>
     obtain⟨s1,s2,s3⟩:=y rfl
     have A:=j.1 rfl
     obtain⟨B,C,f,o,D⟩:=d (i+1) r (by omega) (by omega) s1 (by omega)
     have u:BN (iC (t.Kids.drop (i+1))) r↔BN (iC (t.Kids.drop (i+1))) (l++tv t.Kids[i]):=by
      simp only[BN,s2,fc]
     refine⟨B,C,by rw[if_pos rfl,f],⟨fun q=>⟨A,u.1 (o.1 q)⟩,fun q=>o.2 (u.2 q.2)⟩,fun q=>?_⟩
     obtain⟨E,F,I⟩:=D q
     refine⟨E,fun z=>?_,by omega⟩
     rw[F,s2,fc,or_assoc]
theorem Y1 (t:Term):cA leaf t=true→∀ l:LI,pf l→l.length+dJ t≤900→∃ r b,oc t l=some (r,b)∧(b=true↔BN (tv t) l)∧(b=true→pf r∧(∀ z,z∈r↔z∈l∨z∈tv t)∧r.length≤l.length+dJ t):=by
 refine fT (P:=fun t=>cA leaf t=true→∀ l:LI,pf l→l.length+dJ t≤900→∃ r b,oc t l=some (r,b)∧(b=true↔BN (tv t) l)∧(b=true→pf r∧(∀ z,z∈r↔z∈l∨z∈tv t)∧r.length≤l.length+dJ t)) (fun t d hf l hs g=>?_) t
 rw[dS,fe,aS,dg] at hf
 have j:=dX t.Kids
 have k:=dt t.Kids
 rw[eE] at g ⊢
 rw[oc,rj]
 by_cases c:t.Op=1
 · have h:t.Kids=[]:=by grind[leaf]
   obtain⟨r,e,s1,s2,s3⟩:=put_eq l t.N hs (by omega)
   rw[if_pos (by simpa using c),e]
   simp only[aW,aD,OG l t.N (by omega),c,if_true,h,iC,n5,QR,gI]
   refine⟨r,!decide (t.N∈l),?_,by simp,fun _=>⟨s1,fun z=>by rw[s2];simp,by omega⟩⟩
   grind
 · rw[if_neg (by simpa using c),if_neg c,lE]
   obtain⟨r,b,e,o,u⟩:=SA t (by omega) (fun x hx l a b=>d x hx (hf.2 x hx) l a b) t.Kids.length 0 l rfl (bW _) hs (by rw[jj];omega)
   grind
theorem PX (t:Term)(hf:cA leaf t=true)(h:dJ t≤900):tG t=some (tV t):=by
 obtain⟨r,b,e,d,_⟩:=Y1 t hf [] List.Pairwise.nil (by simp;omega)
 have g:BN (tv t) []↔(tv t).Nodup:=by simp[BN]
 rw[g] at d
 rw[tG,e]
 simp only[aW,aD,V2 t (by omega),tV]
 grind
def CV (o n:Int)(i:Nat)(x:Int):Bool := !(decide (o=8)&&decide ((i:Int)=1)&&decide (x=n))
mutual
def fr : Term→LI
 | .mk o n l=>if o=1 then [n] else tR o n 0 l
def tR (o n:Int):Nat→List Term→LI
 | _,[]=>[]
 | i,t::l=>(fr t).filter (CV o n i)++tR o n (i+1) l
end
theorem Fj (t:Term):fr t=if t.Op=1 then [t.N] else tR t.Op t.N 0 t.Kids:=by cases t;rw[fr];rfl
variable {W : LI → Prop}
theorem ZM (t:Term)(v:LI)(i:Nat)(g:LI)(hi:i≤1000000)(E:g.length+v.length≤1000)(y:∀ d,pf d→d.length≤g.length+v.length→(∀ x,x∈d↔x∈g∨(x∈v∧CV t.Op t.N i x=true))→∃ r,kN t d ((i:Int)+1)=some r∧W r) :
   ∀(k j:Nat) (d:LI),v.length-j=k→j≤v.length→pf d→d.length≤g.length+j→(∀ x,x∈d↔x∈g∨(x∈v.take j∧CV t.Op t.N i x=true))→∃ r,eG t v i j d=some r∧W r:=by
 intro k
 induction k with
 | zero=>
   intro j d A B hs C w
   rw[eG,jM,if_pos fK]
   grind[List.take_length]
 | succ k o=>
   intro j d A B hs C w
   have h:j<v.length:=by omega
   have put:CV t.Op t.N i v[j]=true→∃ r,(bP v (j:Int)>>=fun x=>nb d x>>=fun z=>if cw .i64 ((j:Int)+1) then eG t v i ((j:Int)+1) z else none)=some r∧W r:=fun D=>by
     obtain⟨r,e,s1,s2,s3⟩:=put_eq d v[j] hs (by omega)
     rw[aU h]
     simp only[aW,aD,e]
     rw[if_pos fK,show(j:Int)+1=((j+1:Nat):Int) by omega]
     refine o (j+1) r (by omega) (by omega) s1 (by omega) fun x=>?_
     rw[s2,w,Cc h,fc,ug]
     constructor
     · rintro((a | a) | a)
       · exact .inl a
       · exact .inr ⟨.inl a.1,a.2⟩
       · exact .inr ⟨.inr a,a▸D⟩
     · rintro(a | ⟨a | a,b⟩)
       · exact .inl (.inl a)
       · exact .inl (.inr ⟨a,b⟩)
       · exact .inr a
   rw[eG,e9]
   by_cases c8:t.Op=8
   · rw[if_neg (by simp[c8])]
     by_cases c1:(i:Int)=1
     · rw[if_neg (by simp[c1]),aU h]
       simp only[aW,aD]
       by_cases u:v[j]=t.N
       · rw[if_neg (by simp[u]),if_pos fK,show(j:Int)+1=((j+1:Nat):Int) by omega]
         refine o (j+1) d (by omega) (by omega) hs (by omega) fun x=>?_
         rw[w,Cc h,fc,ug]
         constructor
         · rintro(a | a)
           · exact .inl a
           · exact .inr ⟨.inl a.1,a.2⟩
         · rintro(a | ⟨a | a,b⟩)
           · exact .inl a
           · exact .inr ⟨a,b⟩
           · subst a;simp[CV,c8,c1,u] at b
       · rw[if_pos (by simp[u])]
         have:=put (by simp[CV,u])
         rw[aU h] at this
         simpa only[aW,aD,aU h] using this
     · rw[if_pos (by simp[c1])]
       exact put (by simp[CV,c1])
   · rw[if_pos (by simp[c8])]
     exact put (by simp[CV,c8])
theorem ajM (t:Term)(v:LI)(i:Nat)(hi:i≤1000000)(D:v.length≤1000)(g:∀ d,pf d→d.length≤v.length→(∀ x,x∈d↔(x∈v∧CV t.Op t.N i x=true))→∃ r,kN t d ((i:Int)+1)=some r∧W r)(y:(∀ x,x∈v→CV t.Op t.N i x=false)→∃ r,kO t ((i:Int)+1)=some r∧W r) :
   ∀(k j:Nat),v.length-j=k→j≤v.length→(∀ x,x∈v.take j→CV t.Op t.N i x=false)→∃ r,lR t i v j=some r∧W r:=by
 intro k
 induction k with
 | zero=>
   intro j A B u
   rw[lR,jM,if_pos fK]
   grind[List.take_length]
 | succ k w=>
   intro j A B u
   have h:j<v.length:=by omega
   have put:CV t.Op t.N i v[j]=true→∃ r,(bP v (j:Int)>>=fun x=>nb ([]:LI) x>>=fun z=>if cw .i64 ((j:Int)+1) then eG t v i ((j:Int)+1) z else none)=some r∧W r:=fun C=>by
     obtain⟨r,e,s1,s2,s3⟩:=put_eq [] v[j] List.Pairwise.nil (by simp)
     rw[aU h]
     simp only[aW,aD,e]
     rw[if_pos fK,show(j:Int)+1=((j+1:Nat):Int) by omega]
     refine ZM t v i [] hi (by simp;omega) (fun d a b c=>g d a (by simpa using b) (fun x=>by rw[c];simp)) (v.length-(j+1)) (j+1) r rfl (by omega) s1 (by simp at s3 ⊢;omega) fun x=>?_
     rw[s2,Cc h,fc,ug]
     simp only[List.not_mem_nil,false_or]
     constructor
     · rintro rfl;exact⟨.inr rfl,C⟩
     · rintro⟨a | a,b⟩
       · rw[u x a] at b;cases b
       · exact a
   rw[lR,e9]
   by_cases c8:t.Op=8
   · rw[if_neg (by simp[c8])]
     by_cases c1:(i:Int)=1
     · rw[if_neg (by simp[c1]),aU h]
       simp only[aW,aD]
       by_cases o:v[j]=t.N
       · rw[if_neg (by simp[o]),if_pos fK,show(j:Int)+1=((j+1:Nat):Int) by omega]
         refine w (j+1) (by omega) (by omega) fun x hx=>?_
         rw[Cc h,fc,ug] at hx
         rcases hx with hx | hx
         · exact u x hx
         · subst hx;simp[CV,c8,c1,o]
       · rw[if_pos (by simp[o])]
         have:=put (by simp[CV,o])
         rw[aU h] at this
         simpa only[aW,aD,aU h] using this
     · rw[if_pos (by simp[c1])]
       exact put (by simp[CV,c1])
   · rw[if_pos (by simp[c8])]
     exact put (by simp[CV,c8])
def af4 (t:Term)(r:LI):Prop:=pf r∧(∀ x,x∈r↔x∈fr t)∧(r.length:Int)≤dJ t
theorem ajN (t:Term)(B:t.Kids.length≤1000)(u:∀ x,x∈t.Kids→dJ x≤900→∃ r,fL x=some r∧af4 x r) :
   ∀(k i:Nat) (d:LI),t.Kids.length-i=k→i≤t.Kids.length→pf d→d.length+gI (t.Kids.drop i)≤900→∃ r,kN t d i=some r∧pf r∧(∀ x,x∈r↔x∈d∨x∈tR t.Op t.N i (t.Kids.drop i))∧(r.length:Int)≤d.length+gI (t.Kids.drop i):=by
 intro k
 induction k with
 | zero=>
   intro i d w hi hs o
   rw[kN,jM,show i=t.Kids.length by omega,fu]
   exact⟨d,rfl,hs,by simp[tR],by simp[gI]⟩
 | succ k j=>
   intro i d w hi hs o
   have h:i<t.Kids.length:=by omega
   rw[db h,gI] at o
   have C:=dt (t.Kids.drop (i+1))
   have D:=kK t.Kids[i]
   obtain⟨v,e,E,y,v3⟩:=u _ (cM h) (by omega)
   rw[kN,e9,aU h,db h]
   simp only[aW,aD,e]
   refine ZM t v i d (by omega) (by omega) (fun g s1 s2 s3=>?_) v.length 0 d rfl (bW _) hs (by omega) (by simp)
   obtain⟨r,f,z,A,F⟩:=j (i+1) g (by omega) (by omega) s1 (by omega)
   refine⟨r,f,z,fun x=>?_,by rw[gI];omega⟩
   rw[A,s3,tR,fc,List.mem_filter,y,or_assoc]
theorem ajO (t:Term)(o:t.Kids.length≤1000)(g:∀ x,x∈t.Kids→dJ x≤900→∃ r,fL x=some r∧af4 x r) :
   ∀(k i:Nat),t.Kids.length-i=k→i≤t.Kids.length→gI (t.Kids.drop i)≤900→∃ r,kO t i=some r∧pf r∧(∀ x,x∈r↔x∈tR t.Op t.N i (t.Kids.drop i))∧(r.length:Int)≤gI (t.Kids.drop i):=by
 intro k
 induction k with
 | zero=>
   intro i u hi j
   rw[kO,jM,show i=t.Kids.length by omega,fu]
   exact⟨[],rfl,List.Pairwise.nil,by simp[tR],by simp[gI]⟩
 | succ k A=>
   intro i u hi j
   have h:i<t.Kids.length:=by omega
   rw[db h,gI] at j
   have B:=dt (t.Kids.drop (i+1))
   have C:=kK t.Kids[i]
   obtain⟨v,e,D,w,v3⟩:=g _ (cM h) (by omega)
   rw[kO,e9,aU h,db h]
   simp only[aW,aD,e]
   refine ajM t v i (by omega) (by omega) (fun d s1 s2 s3=>?_) (fun s3=>?_) v.length 0 rfl (bW _) (by simp)
   · obtain⟨r,f,y,z,E⟩:=ajN t o g (t.Kids.length-(i+1)) (i+1) d rfl (by omega) s1 (by omega)
     refine⟨r,f,y,fun x=>?_,by rw[gI];omega⟩
     rw[z,s3,tR,fc,List.mem_filter,w]
   all_goals grind[gI,tR]
theorem AA (t:Term):dJ t≤900→∃ r,fL t=some r∧af4 t r:=by
 refine fT (P:=fun t=>dJ t≤900→∃ r,fL t=some r∧af4 t r) (fun t d g=>?_) t
 have h:=dX t.Kids
 have j:=dt t.Kids
 rw[eE] at g
 rw[fL]
 simp only[af4]
 rw[Fj,eE]
 by_cases c:t.Op=1
 · rw[if_pos (by simpa using c),if_pos c]
   grind
 · rw[if_neg (by simpa using c),if_neg c]
   obtain⟨r,e,k,o,u⟩:=ajO t (by omega) d t.Kids.length 0 rfl (bW _) (by grind)
   grind
mutual
def lt : Term→LI
 | .mk o n l=>(if o=8 then [n] else [])++DE l
def DE : List Term→LI
 | []=>[]
 | t::l=>lt t++DE l
end
theorem lt_eq (t:Term):lt t=(if t.Op=8 then [t.N] else [])++DE t.Kids:=by cases t;rw[lt];rfl
theorem JQ : ∀ l:List Term,(∀ x,x∈l→((lt x).length:Int)≤dJ x)→((DE l).length:Int)≤gI l
 | [],_=>by simp[DE,gI]
 | a::l,h=>by
   have h1:=h a (by simp)
   have h2:=JQ l fun x hx=>h x (by simp[hx])
   simp only[DE,gI,sg];omega
theorem OJ (t:Term):((lt t).length:Int)≤dJ t:=by
 refine fT (P:=fun t=>((lt t).length:Int)≤dJ t) (fun t d=>?_) t
 have:=JQ t.Kids d
 grind[lt_eq,eE]
theorem ZN (t:Term)(u:t.Kids.length≤1000)(o:∀ x,x∈t.Kids→kY x=some (lt x)) :
   ∀(k i:Nat) (d:LI),t.Kids.length-i=k→i≤t.Kids.length→d.length+(DE (t.Kids.drop i)).length≤1000000→iz t i d=some (d++DE (t.Kids.drop i)):=by
 intro k
 induction k with
 | zero=>
   intro i d r hi j
   rw[iz,jM,show i=t.Kids.length by omega,fu]
   simp[DE]
 | succ k g=>
   intro i d r hi j
   have h:i<t.Kids.length:=by omega
   rw[db h,DE,sg] at j
   rw[iz,e9,aU h,db h,DE]
   simp only[aW,aD,o _ (cM h)]
   by_cases c:lt t.Kids[i]=[]
   · rw[c,if_pos (show([]:LI).isEmpty=true from rfl),if_pos fK,tj,g (i+1) d (by omega) (by omega) (by omega)];simp
   · rw[if_neg (by simpa using c),e9,if_pos fK,tj,g (i+1) _ (by omega) (by omega) (by simp;omega),pj]
theorem ajP (t:Term)(o:t.Kids.length≤1000)(d:(DE t.Kids).length≤1000000)(j:∀ x,x∈t.Kids→kY x=some (lt x)) :
   ∀(k i:Nat),t.Kids.length-i=k→i≤t.Kids.length→(DE (t.Kids.drop i)).length≤1000000→lS t i=some (DE (t.Kids.drop i)):=by
 intro k
 induction k with
 | zero=>
   intro i r hi d
   rw[lS,jM,show i=t.Kids.length by omega,fu]
   simp[DE]
 | succ k g=>
   intro i r hi d
   have h:i<t.Kids.length:=by omega
   rw[db h,DE,sg] at d
   rw[lS,e9,aU h,db h,DE]
   simp only[aW,aD,j _ (cM h)]
   by_cases c:lt t.Kids[i]=[]
   · rw[c,if_pos (show([]:LI).isEmpty=true from rfl),if_pos fK,tj,g (i+1) (by omega) (by omega) (by omega)];simp
   · rw[if_neg (by simpa using c),e9,if_pos fK,tj,ZN t o j (t.Kids.length-(i+1)) (i+1) _ rfl (by omega) (by omega)]
theorem Y2 (t:Term):dJ t≤900→kY t=some (lt t):=by
 refine fT (P:=fun t=>dJ t≤900→kY t=some (lt t)) (fun t g h=>?_) t
 have j:=dX t.Kids
 have k:=dt t.Kids
 have o:=JQ t.Kids fun x _=>OJ x
 rw[eE] at h
 have d:=fun x hx=>g x hx (by grind)
 rw[kY,lt_eq]
 by_cases c:t.Op=8
 · rw[if_pos (by simpa using c),if_pos c]
   have:=ZN t (by omega) d t.Kids.length 0 [t.N] rfl (bW _) (by grind)
   grind
 · rw[if_neg (by simpa using c),if_neg c]
   have:=ajP t (by omega) (by omega) d t.Kids.length 0 rfl (bW _) (by grind)
   grind
theorem PY (l:LI)(a:Int)(j:l.length≤1000000):∀(k i:Nat) (c:Int),l.length-i=k→i≤l.length→0≤c→c≤i→jD l a i c=some (c+(l.drop i).count a):=by
 intro k
 induction k with
 | zero=>
   intro i c g hi h1 h2
   rw[jD,jM,show i=l.length by omega,fu];simp
 | succ k d=>
   intro i c g hi h1 h2
   have h:i<l.length:=by omega
   rw[jD,e9,aU h,db h,List.count_cons]
   simp only[aW,aD]
   by_cases e:l[i]=a
   · rw[if_pos (by simpa using e),if_pos fK,if_pos fK,tj,d (i+1) _ (by omega) (by omega) (by omega) (by omega)]
     simp[e];omega
   · rw[if_neg (by simpa using e),if_pos fK,tj,d (i+1) _ (by omega) (by omega) (by omega) (by omega)]
     simp[e]
theorem count_eq (l:LI)(a:Int)(d:l.length≤1000000):yi l a=some (l.count a:Int):=by
 rw[yi]
 have:=PY l a d l.length 0 0 rfl (bW _) (by omega) (by omega)
 simpa using this
def ss (t:Term)(l:LI):Bool:=(lt t).all fun x=>decide ((lt t).count x≤1) && !decide (x∈l) && !decide (x∈fr t)
theorem V4 (t:Term)(l:LI)(d:dJ t≤900)(g:l.length≤1000000):yj t l=some (ss t l):=by
 obtain⟨v,e,k,j,v3⟩:=AA t d
 have o:=OJ t
 rw[yj,Y2 t d]
 simp only[aW,aD,e]
 rw[pc (l:=lt t) (q:=fun x=>decide ((lt t).count x≤1) && !decide (x∈l) && !decide (x∈fr t)) (e:=some true) (f:=some false) (kD l (lt t) v) (fun i h=>?_) ?_]
 · simp only[ss,BV]
 · rw[kD,if_neg (by simp)]
 · rw[kD,e9,aU h]
   simp only[aW,aD,count_eq (lt t) _ (by omega),OG l _ g,OG v _ (by omega),j]
   rw[if_pos fK]
   grind
theorem yo {o n:Int}(d:o≠8):∀(l:List Term) (i:Nat),(∀ x,x∈l→fr x=tv x)→tR o n i l=iC l
 | [],_,_=>by simp[tR,iC]
 | a::l,i,h=>by
   rw[tR,iC,yo d l (i+1) fun x hx=>h x (by simp[hx]),h a (by simp)]
   grind[List.filter_eq_self,CV]
theorem OK (t:Term):cA BJ t=true→cA leaf t=true→fr t=tv t:=by
 refine fT (P:=fun t=>cA BJ t=true→cA leaf t=true→fr t=tv t) (fun t g h1 h2=>?_) t
 rw[dS,fe,aS,dg] at h1 h2
 rw[Fj,rj]
 by_cases c:t.Op=1
 · have d:t.Kids=[]:=by grind[leaf]
   rw[if_pos c,if_pos c,d,iC,n5]
 · have c3:t.Op=3:=by grind[BJ]
   rw[if_neg c,if_neg c,lE]
   grind[yo]
theorem Gi {l:LI}(h:pf l):l.Nodup:=List.Pairwise.imp (fun h=>by omega) h
theorem EL : ∀ l:LI,(BI l).length≤l.length∧((BI l).length=l.length→l.Nodup)
 | []=>by simp[BI]
 | a::l=>by
   obtain⟨h1,h2⟩:=EL l
   grind[BI]
theorem EM {r l:LI}(d:r.Nodup)(g:∀ x,x∈r↔x∈l):r.length≤l.length∧(r.length=l.length↔l.Nodup):=by
 have h:=(pm r (BI l) d (u5 l) fun x=>by rw[g,rp]).length_eq
 obtain⟨h1,h2⟩:=EL l
 exact⟨by omega,fun e=>h2 (by omega),fun e=>(pm r l d e g).length_eq⟩
theorem NN (l:List Term)(w:LI)(t:(rS l>>=fun v=>fL v)=some w)(u:l.length≤1000)(y:(iC l).length≤100000)(g:∀ x,x∈l→∃ r,fL x=some r∧r.length=(tv x).length) :
   ∀(k i:Nat) (c:Int),l.length-i=k→i≤l.length→0≤c→c+(iC (l.drop i)).length≤200000→jH l i c=some (decide (c+(iC (l.drop i)).length=w.length)):=by
 intro k
 induction k with
 | zero=>
   intro i c j hi h1 h2
   rw[jH,jM,show i=l.length by omega,fu,iC]
   cases z:rS l with
   | none=>grind
   | some v=>
     grind[Fa]
 | succ k d=>
   intro i c j hi h1 h2
   have h:i<l.length:=by omega
   obtain⟨r,e,o⟩:=g _ (cM h)
   rw[db h,iC,sg] at h2 ⊢
   rw[jH,e9,aU h]
   simp only[aW,aD,e,o]
   rw[if_pos fK,if_pos fK,tj,d (i+1) _ (by omega) (by omega) (by omega) (by omega)]
   grind
theorem JR : ∀ l:List Term,(∀ x,x∈l→((tv x).length:Int)≤dJ x)→((iC l).length:Int)≤gI l
 | [],_=>by simp[iC,gI]
 | a::l,h=>by
   have h1:=h a (by simp)
   have h2:=JR l fun x hx=>h x (by simp[hx])
   simp only[iC,gI,sg];omega
theorem OL (t:Term):((tv t).length:Int)≤dJ t:=by
 refine fT (P:=fun t=>((tv t).length:Int)≤dJ t) (fun t d=>?_) t
 have:=JR t.Kids d
 grind[rj,eE]
theorem Mc (l:List Term)(j:gI l≤800)(d:∀ x,x∈l→tV x=true∧cA leaf x=true):∃ w,rS l=some (Term.mk 0 0 l)∧fL (Term.mk 0 0 l)=some w∧pf w∧(∀ x,x∈w↔x∈iC l)∧w.length≤900:=by
 have hs:dJ (Term.mk 0 0 l)=1+gI l:=by simp[dJ]
 obtain⟨w,e,g,h,k⟩:=AA (Term.mk 0 0 l) (by omega)
 refine⟨w,rfl,e,g,fun x=>?_,by omega⟩
 rw [h,fr,if_neg (by decide),yo (by decide) l 0 fun x hx=>by
  have:=(d x hx).1
  simp only[tV,aS] at this
  grind[OK]]
theorem SB (l:List Term)(o:gI l≤800)(j:∀ x,x∈l→tV x=true∧cA leaf x=true):vM l=some (decide (iC l).Nodup):=by
 obtain⟨w,t,e,u,v,_⟩:=Mc l o j
 have z:=dX l
 have A:=JR l fun x _=>OL x
 have:=NN l w (by rw[t];exact e) (by omega) (by omega) (fun x hx=>by
  have g:=j x hx
  have d:=g.1
  simp only[tV,aS,decide_eq_true_eq] at d
  obtain⟨r,f,y,k,_⟩:=AA x (by grind)
  rw[OK x d.1 g.2] at k
  exact⟨r,f,((EM (Gi y) k).2).2 d.2⟩) l.length 0 0 rfl (bW _) (by omega) (by grind)
 rw[jj] at this
 rw[vM]
 refine this.trans ?_
 have h:=EM (Gi u) v
 congr 2
 grind
def pe (s:aE)(v:Int)(t:Term):Bool:=eM s t&&tV t&&cA (K9 v) t
def uK (s:aE)(r:bn):Bool:=
 pd s.bq r.vl (fun k=>decide ((r.cK.length:Int)=k))&&(decide (0≤r.bg)&&decide (r.bg≤20))&&eM s r.gR&&r.cK.all (pe s r.bg)&&decide (iC r.cK).Nodup&&cA (K9 r.bg) r.gR&&ss r.gR (iC r.cK)
theorem K0 (t:Term)(h:∀ x,x∈a↔x∈b):ss t a=ss t b:=by
 simp only[ss,h]
theorem NO (s:aE)(h1:s.Cons.length≤1000000)(h2:s.bq.length≤1000000)(r:bn)(t:gI r.cK≤800):AS s r=some (uK s r):=by
 have v:=dX r.cK
 have key:eM s r.gR=true→jQ s r 0=some (r.cK.all (pe s r.bg)&&decide (iC r.cK).Nodup&&cA (K9 r.bg) r.gR&&ss r.gR (iC r.cK)):=fun u=>by
   have B:dJ r.gR≤40:=by simp only[eM,aS,decide_eq_true_eq] at u;exact u.1.1
   rw[pc (l:=r.cK) (q:=pe s r.bg) (e:=jQ s r r.cK.length) (f:=some false) (jQ s r) (fun i h=>?_) rfl]
   · cases y:r.cK.all (pe s r.bg) with
     | false=>rfl
     | true=>
       have o:∀ x,x∈r.cK→tV x=true∧cA leaf x=true:=fun x hx=>by
         have:=dg.1 y x hx
         simp only[pe,eM,aS] at this
         exact⟨this.1.2,QS s x this.1.1.2⟩
       obtain⟨w,z,e,C,A,D⟩:=Mc r.cK t o
       rw[if_pos rfl,jQ,if_neg (by simp),SB r.cK t o,z]
       simp only[aW,aD,e,UP r.bg r.gR (by omega),V4 r.gR w (by omega) (by omega),K0 r.gR A,j6]
       by_cases g:(iC r.cK).Nodup
       · by_cases d:cA (K9 r.bg) r.gR=true
         · simp[g,d,BV]
         · simp[g,d]
       · simp[g]
   · have hx:=cM h
     have hs:=v.2 _ hx
     rw[jQ,e9,aU h]
     simp only[aW,aD,xF s h1 h2,UP r.bg _ (show dJ r.cK[i]≤1000000 by omega)]
     rw[if_pos fK]
     by_cases g:eM s r.cK[i]=true
     · have g' := g
       simp only[eM,aS] at g'
       rw[if_pos g,PX _ (QS s _ g'.2) (by omega)]
       simp only[aD]
       by_cases d:tV r.cK[i]=true
       · by_cases j:cA (K9 r.bg) r.cK[i]=true
         · simp[pe,g,d,j]
         · simp[pe,g,d,j]
       · simp[pe,g,d]
     · simp[pe,g]
 rw[AS,uK]
 rw[s6 (k:=fun k=>decide ((r.cK.length:Int)=k)&&((decide (0≤r.bg)&&decide (r.bg≤20))&&eM s r.gR&&(r.cK.all (pe s r.bg)&&decide (iC r.cK).Nodup&&cA (K9 r.bg) r.gR&&ss r.gR (iC r.cK)))) h2 wq fun x=>?_]
 · congr 1
   simp only[pd]
   cases bP s.bq r.vl with
   | none=>simp
   | some x=>simp only[Bool.and_assoc]
 · by_cases g:(r.cK.length:Int)=x.bu
   · rw[if_neg (by simp[g]),wq]
     simp only[aW,aD,xF s h1 h2]
     by_cases d:(decide (0≤r.bg)&&decide (r.bg≤20))=true
     · by_cases j:eM s r.gR=true
       · rw[if_pos d,if_pos j,key j];simp[g,d,j]
       · rw[if_pos d,if_neg j];simp[j]
     · rw[if_neg d]
       have:(decide (0≤r.bg)&&decide (r.bg≤20))=false:=by simpa using d
       rw[this];simp
   · rw[if_pos (by simp[g])];simp[g]
variable {R : Type} {sn : List Nat}
theorem V5 {e:Option R}{f:Nat→α→Option R}(h:∀ i,i<l.length→i∈sn):BS l sn e f=e:=by
 unfold BS;rw[if_pos h]
theorem V6 {e:Option R}{f:Nat→α→Option R}{r:R}(h:¬ ∀ i,i<l.length→i∈sn)(hf:∀ i x,l[i]? = some x→i∉sn→f i x=some r):BS l sn e f=some r:=by
 unfold BS
 rw[if_neg h,dif_pos ⟨r,hf⟩]
 have d:=(show ∃ r,∀ i x,l[i]? = some x→i∉sn→f i x=some r from⟨r,hf⟩).choose_spec
 obtain⟨i,hi⟩:=Classical.not_forall.1 h
 obtain⟨h1,h2⟩:=Classical.not_imp.1 hi
 have a:=d i l[i] (qB h1) h2
 grind
open Classical in
theorem rounds (F:Nat→List Nat→Option Bool)(w:∀ n k,F (n+1) k=BS l k (some e) (fun j x=>if q x=true then F n (k++[j]) else some false)) :
   ∀(n:Nat) (k:List Nat),n+k.length=l.length→k.Nodup→(∀ j,j∈k→j<l.length)→F (n+1) k=some (decide (∀ i x,l[i]? = some x→i∉k→q x=true)&&e):=by
 intro n
 induction n with
 | zero=>
   intro k z g o
   have h:∀ i,i<l.length→i∈k:=fun i hi=>by
     refine Classical.byContradiction fun c=>?_
     have:=afd l.length (i::k) (so.2 ⟨c,g⟩) fun x hx=>(dE.1 hx).elim (fun e=>e▸hi) (o x)
     simp at this;omega
   rw[w,V5 h]
   have:∀ i x,l[i]? = some x→i∉k→q x=true:=fun i x a b=>absurd (h i (mC.1 a).1) b
   rw[decide_eq_true this,j6]
 | succ n A=>
   intro k z g o
   rw[w]
   refine V6 (fun h=>?_) fun i x hx hi=>?_
   · have:l.length≤k.length:=by
       have h2:=afd k.length ((List.range l.length).map fun i=>k.idxOf i) ?_ ?_
       · simpa using h2
       · rw[List.nodup_iff_pairwise_ne,List.pairwise_map]
         refine List.Pairwise.imp_of_mem (R:=fun a b=>a≠b) (fun {a b} ha hb r e=>r ?_) (List.nodup_iff_pairwise_ne.1 List.nodup_range)
         have t:=h a (by simpa using ha)
         have u:=h b (by simpa using hb)
         have B:=List.getElem_idxOf (List.idxOf_lt_length_of_mem t)
         have C:=List.getElem_idxOf (List.idxOf_lt_length_of_mem u)
         rw[←B,←C]
         simp only[e]
       · intro j d
         obtain⟨i,h1,rfl⟩:=kJ.1 d
         exact List.idxOf_lt_length_of_mem (h i (by simpa using h1))
     omega
   · have v:=(mC.1 hx).1
     by_cases c:q x=true
     · rw [if_pos c,A (k++[i]) (by simp;omega) (by
         rw[List.nodup_append]
         exact⟨g,by simp,fun a ha b hb e=>hi (by simp at hb;exact hb▸e▸ha)⟩) (fun j d=>by
         rcases fc.1 d with q | q
         · exact o j q
         · simp at q;exact q▸v)]
       congr 2
       simp only[decide_eq_decide]
       constructor
       · intro h j y hy d
         by_cases e:j=i
         · subst e;rw[hx] at hy;simp only[bj] at hy;exact hy▸c
         · exact h j y hy (by simp[d,e])
       · exact fun h j y hy d=>h j y hy fun q=>d (by simp[q])
     · rw[if_neg c]
       have:¬ ∀ i x,l[i]? = some x→i∉k→q x=true:=fun h=>c (h i x hx hi)
       simp[this]
theorem JS (F:Nat→List Nat→Option Bool)(d:∀ n k,F (n+1) k=BS l k (some e) (fun j x=>if q x=true then F n (k++[j]) else some false)):F (l.length+1) []=some (l.all q&&e):=by
 rw[rounds F d l.length [] (by simp) List.nodup_nil (by simp)]
 congr 2
 rw[Bool.eq_iff_iff]
 simp only[decide_eq_true_eq,dg]
 grind[List.getElem?_of_mem]
def CM (m:List (Int×Int))(l:LI):Prop:=(m.map (·.1)).Nodup∧∀ x c,(x,c)∈m↔x∈l∧c=l.count x
theorem OM : CM [] []:=⟨List.nodup_nil,by simp⟩
theorem UQ : ∀(m:List (Int×Int)) (x:Int),(∃ c,iO m x=some c∧(x,c)∈m)∨(iO m x=none∧∀ c,(x,c)∉m)
 | [],x=>.inr ⟨rfl,by simp⟩
 | (a,b)::m,x=>by
   simp only[iO]
   by_cases e:x=a
   · grind
   · rw[if_neg e]
     rcases UQ m x with⟨c,h1,h2⟩ | ⟨h1,h2⟩
     all_goals grind
variable {m : List (Int × Int)}
theorem kZ {l:LI}(h:CM m l)(x:Int):(iO m x).getD 0=l.count x:=by
 rcases UQ m x with⟨c,h1,h2⟩ | ⟨h1,h2⟩
 · rw[h1];exact((h.2 x c).1 h2).2
 · rw[h1]
   have:x∉l:=fun q=>h2 _ ((h.2 x (l.count x)).2 ⟨q,rfl⟩)
   grind
theorem Md (n v:Int):∀ m:List (Int×Int),(m.map (·.1)).Nodup→(∀ x c,(x,c)∈ko m n v↔(x=n∧c=v)∨(x≠n∧(x,c)∈m))∧((ko m n v).map (·.1)).Nodup
 | [],_=>by
   grind[ko]
 | (a,b)::m,h=>by
   simp only[dF,so] at h
   obtain⟨h1,h2⟩:=Md n v m h.2
   simp only[ko]
   grind
theorem ON {l:LI}(h:CM m l)(n:Int):CM (ko m n (((iO m n).getD 0)+1)) (l++[n]):=by
 rw[kZ h]
 obtain⟨h1,h2⟩:=Md n ((l.count n:Int)+1) m h.1
 refine⟨h2,fun x c=>?_⟩
 rw[h1,h.2,List.count_append]
 grind
theorem V7 (t:Term)(d:LT)(g a51:Int)(v:List (Int×Int))(A:t.Kids.length≤1000)
   (w:∀ x,x∈t.Kids→∀(m:List (Int×Int)) (l:LI),CM m l→l.length+dJ x≤100000→∃ r,cj x d g a51 m=some r∧CM r (l++tv x)) :
   ∀(k i:Nat) (m:List (Int×Int)) (l:LI),t.Kids.length-i=k→i≤t.Kids.length→CM m l→l.length+gI (t.Kids.drop i)≤100000→∃ r,bL t d g a51 v i m=some r∧CM r (l++iC (t.Kids.drop i)):=by
 intro k
 induction k with
 | zero=>
   intro i m l y hi o u
   rw[bL,jM,show i=t.Kids.length by omega,fu,iC,n5]
   grind
 | succ k j=>
   intro i m l y hi o u
   have h:i<t.Kids.length:=by omega
   rw[db h,gI] at u
   have B:=dt (t.Kids.drop (i+1))
   have C:=OL t.Kids[i]
   obtain⟨r,e,z⟩:=w _ (cM h) m l o (by omega)
   obtain⟨D,f,E⟩:=j (i+1) r (l++tv t.Kids[i]) (by omega) (by omega) z (by simp;omega)
   rw[bL,e9,aU h,db h,iC]
   simp only[aW,aD,e]
   rw[if_pos fK,tj]
   grind
theorem aeN (d:LT)(g a51:Int)(t:Term):∀(m:List (Int×Int)) (l:LI),CM m l→l.length+dJ t≤100000→dJ t≤900→∃ r,cj t d g a51 m=some r∧CM r (l++tv t):=by
 refine fT (P:=fun t=>∀(m:List (Int×Int)) (l:LI),CM m l→l.length+dJ t≤100000→dJ t≤900→∃ r,cj t d g a51 m=some r∧CM r (l++tv t)) (fun t k m l h j hs=>?_) t
 have u:=dX t.Kids
 have v:=dt t.Kids
 rw[eE] at j hs
 have loop:=fun o m l h j=>V7 t d g a51 o (by omega) (fun x hx m l a b=>k x hx m l a b (by grind)) t.Kids.length 0 m l rfl (bW _) h j
 simp only[jj,show((0:Nat):Int)=0 from rfl] at loop
 rw[cj,rj]
 by_cases c:t.Op=1
 · rw[if_pos (by simpa using c),if_pos c,if_pos (w9 (by rw[kZ h];omega) (by rw[kZ h];grind)),←pj]
   exact loop m _ (l++[t.N]) (ON h t.N) (by simp;omega)
 · rw[if_neg (by simpa using c),if_neg c,lE]
   exact loop m m l h (by omega)
theorem V8 (l:List Term)(w:l.length≤1000)(t:gI l≤900):∀(k i:Nat) (m:List (Int×Int)) (a:LI),l.length-i=k→i≤l.length→CM m a→a.length+gI (l.drop i)≤90000→∃ r,cu l i m=some r∧CM r (a++iC (l.drop i)):=by
 have d:=dX l
 intro k
 induction k with
 | zero=>
   intro i m a u hi o t
   rw[cu,jM,show i=l.length by omega,fu,iC,n5]
   grind
 | succ k g=>
   intro i m a u hi o j
   have h:i<l.length:=by omega
   rw[db h,gI] at j
   have x:=dt (l.drop (i+1))
   have y:=OL l[i]
   have hs:=d.2 _ (cM h)
   obtain⟨r,e,v⟩:=aeN l l.length i l[i] m a o (by omega) (by omega)
   obtain⟨z,f,A⟩:=g (i+1) r (a++tv l[i]) (by omega) (by omega) v (by simp;omega)
   rw[cu,e9,aU h,db h,iC]
   simp only[aW,aD,e]
   rw[if_pos fK,tj]
   grind
theorem Bl (l:List Term)(g:gI l≤900):∃ r,cS l=some r∧CM r (iC l):=by
 have h:=dX l
 obtain⟨r,e,d⟩:=V8 l (by omega) g l.length 0 [] [] rfl (bW _) OM (by grind)
 rw[jj] at d
 exact⟨r,e,by simpa using d⟩
theorem SC (t:Term)(o:List (Int×Int))(y:t.Kids.length≤1000)
   (u:∀ x,x∈t.Kids→∀(m:List (Int×Int)) (l:LI),CM m l→l.length+dJ x≤100000→∃ r,cq x m=some r∧CM r (l++lt x)) :
   ∀(k i:Nat) (m:List (Int×Int)) (l:LI),t.Kids.length-i=k→i≤t.Kids.length→CM m l→l.length+gI (t.Kids.drop i)≤100000→∃ r,bM t o i m=some r∧CM r (l++DE (t.Kids.drop i)):=by
 intro k
 induction k with
 | zero=>
   intro i m l v hi g j
   rw[bM,jM,show i=t.Kids.length by omega,fu,DE,n5]
   grind
 | succ k d=>
   intro i m l v hi g j
   have h:i<t.Kids.length:=by omega
   rw[db h,gI] at j
   have z:=dt (t.Kids.drop (i+1))
   have A:=OJ t.Kids[i]
   obtain⟨r,e,w⟩:=u _ (cM h) m l g (by omega)
   obtain⟨B,f,C⟩:=d (i+1) r (l++lt t.Kids[i]) (by omega) (by omega) w (by simp;omega)
   rw[bM,e9,aU h,db h,DE]
   simp only[aW,aD,e]
   rw[if_pos fK,tj]
   grind
theorem V9 (t:Term):∀(m:List (Int×Int)) (l:LI),CM m l→l.length+dJ t≤100000→dJ t≤900→∃ r,cq t m=some r∧CM r (l++lt t):=by
 refine fT (P:=fun t=>∀(m:List (Int×Int)) (l:LI),CM m l→l.length+dJ t≤100000→dJ t≤900→∃ r,cq t m=some r∧CM r (l++lt t)) (fun t h m l d g hs=>?_) t
 have k:=dX t.Kids
 have o:=dt t.Kids
 rw[eE] at g hs
 have loop:=fun j m l d g=>SC t j (by omega) (fun x hx m l a b=>h x hx m l a b (by grind)) t.Kids.length 0 m l rfl (bW _) d g
 simp only[jj,show((0:Nat):Int)=0 from rfl] at loop
 rw[cq,lt_eq]
 by_cases c:t.Op=8
 · rw[if_pos (by simpa using c),if_pos c,if_pos (w9 (by rw[kZ d];omega) (by rw[kZ d];grind)),←pj]
   exact loop m _ (l++[t.N]) (ON d t.N) (by simp;omega)
 · rw[if_neg (by simpa using c),if_neg c,lE]
   exact loop m m l d (by omega)
theorem PZ (t:Term)(d:dJ t≤900):∃ r,eQ t=some r∧CM r (lt t):=by
 obtain⟨r,e,g⟩:=V9 t [] [] OM (by simp;omega) d
 rw[eQ,e]
 grind
theorem P0 (l:LI)(a:Int)(j:l.length≤1000000):∀(k i:Nat),l.length-i=k→i≤l.length→∃ n,dj l a i=some n∧(n≥0↔a∈l.drop i):=by
 intro k
 induction k with
 | zero=>
   intro i g hi
   rw[dj,jM,show i=l.length by omega,fu]
   grind
 | succ k d=>
   intro i g hi
   have h:i<l.length:=by omega
   rw[dj,e9,aU h,db h]
   simp only[aW,aD]
   by_cases c:a=l[i]
   · grind
   · obtain⟨n,e,o⟩:=d (i+1) (by omega) (by omega)
     rw[if_neg (by simpa using c),if_pos fK,tj]
     grind
theorem contains_eq (l:LI)(a:Int)(d:l.length≤1000000):cJ l a=some (decide (a∈l)):=by
 obtain⟨n,e,g⟩:=P0 l a d l.length 0 rfl (bW _)
 rw[jj] at g
 rw[cJ,lG]
 grind
def BO (L o:LI)(x:Int):Bool:=decide ((L.count x:Int)=0)||decide (x∈o)
theorem u7 {o:Int}(h:¬ (o=8∧(i:Int)=1))(l:LI):l.filter (CV o n i)=l:=
 by grind[List.filter_eq_self,CV]
theorem QT (n:Int)(L o:LI)(l:LI):(l.filter (CV 8 n 1)).all (BO L o)=l.all (BO L (o++[n])):=by
 induction l with
 | nil=>rfl
 | cons x l d=>
   by_cases c:x=n
   · have h:CV 8 n 1 x=false:=by simp[CV,c]
     rw[List.filter_cons_of_neg (by simp[h]),d,mI]
     have:BO L (o++[n]) x=true:=by simp[BO,c]
     grind
   · have h:CV 8 n 1 x=true:=by simp[CV,c]
     rw[List.filter_cons_of_pos h,mI,mI,d]
     congr 1
     simp[BO,c]
theorem Wa (t:Term)(m:List (Int×Int))(L o:LI)(v:t.Kids.length≤1000)(w:o.length≤100000)
   (d:∀ x,x∈t.Kids→∀ o2:LI,o2.length≤o.length+1→bQ x m o2=some ((fr x).all (BO L o2))) :
   ∀(k i:Nat),t.Kids.length-i=k→i≤t.Kids.length→bx t m o i=some ((tR t.Op t.N i (t.Kids.drop i)).all (BO L o)):=by
 intro k
 induction k with
 | zero=>
   intro i u hi
   rw[bx,jM,show i=t.Kids.length by omega,fu,tR];rfl
 | succ k j=>
   intro i u hi
   have h:i<t.Kids.length:=by omega
   have hx:=cM h
   have g:∀ b:Bool,(if b=true then(if cw .i64 ((i:Int)+1) then bx t m o ((i:Int)+1) else none) else some false)=some (b&&(tR t.Op t.N (i+1) (t.Kids.drop (i+1))).all (BO L o)):=fun b=>by
     rw[if_pos fK,tj,j (i+1) (by omega) (by omega)]
     cases b<;>rfl
   rw[bx,e9,aU h,db h,tR,List.all_append]
   simp only[aW,aD]
   by_cases c8:t.Op=8
   · by_cases c1:(i:Int)=1
     · have e:∀ l:LI,(List.filter (CV t.Op t.N i) l).all (BO L o)=l.all (BO L (o++[t.N])):=fun l=>by
         rw[c8,show i=1 by omega];exact QT t.N L o l
       rw[if_pos (by simpa using c8),if_pos (by simpa using c1),e]
       by_cases r:o=[]
       · subst r
         rw[if_pos (show([]:LI).isEmpty=true from rfl),d _ hx [t.N] (by simp)]
         exact g _
       · rw[if_neg (by simpa using r),e9,e9,lE,d _ hx (o++[t.N]) (by simp)]
         exact g _
     · rw[if_pos (by simpa using c8),if_neg (by simpa using c1),u7 (fun q=>c1 q.2),d _ hx o (by omega)]
       exact g _
   · rw[if_neg (by simpa using c8),u7 (fun q=>c8 q.1),d _ hx o (by omega)]
     exact g _
theorem aeO (m:List (Int×Int))(L:LI)(d:CM m L)(t:Term):dJ t≤900→∀ o:LI,o.length+dJ t≤90000→bQ t m o=some ((fr t).all (BO L o)):=by
 refine fT (P:=fun t=>dJ t≤900→∀ o:LI,o.length+dJ t≤90000→bQ t m o=some ((fr t).all (BO L o))) (fun t g j o k=>?_) t
 have r:=dX t.Kids
 have u:=dt t.Kids
 rw[eE] at j k
 rw[bQ,Fj,kZ d]
 by_cases c:t.Op=1
 · rw[if_pos (by simpa using c),if_pos c]
   simp only[mI,List.all_nil,uh,BO]
   by_cases c2:(L.count t.N:Int)=0
   · grind
   · rw[if_neg (by simpa using c2),contains_eq o t.N (by omega)]
     grind
 · rw[if_neg (by simpa using c),if_neg c]
   have:=Wa t m L o (by omega) (by omega) (fun x hx o2 h=>g x hx (by grind) o2 (by grind)) t.Kids.length 0 rfl (bW _)
   grind
theorem Wb (t:Term)(m:List (Int×Int))(L:LI)(o:CM m L)(u:t.Kids.length≤1000)(hs:∀ x,x∈t.Kids→dJ x≤900)
   (j:∀ x,x∈t.Kids→cx x m=some ((fr x).all (BO L []))) :
   ∀(k i:Nat),t.Kids.length-i=k→i≤t.Kids.length→bD t m i=some ((tR t.Op t.N i (t.Kids.drop i)).all (BO L [])):=by
 intro k
 induction k with
 | zero=>
   intro i r hi
   rw[bD,jM,show i=t.Kids.length by omega,fu,tR];rfl
 | succ k g=>
   intro i r hi
   have h:i<t.Kids.length:=by omega
   have hx:=cM h
   have d:∀ b:Bool,(if b=true then(if cw .i64 ((i:Int)+1) then bD t m ((i:Int)+1) else none) else some false)=some (b&&(tR t.Op t.N (i+1) (t.Kids.drop (i+1))).all (BO L [])):=fun b=>by
     rw[if_pos fK,tj,g (i+1) (by omega) (by omega)]
     cases b<;>rfl
   rw[bD,e9,aU h,db h,tR,List.all_append]
   simp only[aW,aD]
   by_cases c8:t.Op=8
   · by_cases c1:(i:Int)=1
     · have e:∀ l:LI,(List.filter (CV t.Op t.N i) l).all (BO L [])=l.all (BO L [t.N]):=fun l=>by
        rw[c8,show i=1 by omega];exact QT t.N L [] l
       rw[if_pos (by simpa using c8),if_pos (by simpa using c1),e,aeO m L o _ (hs _ hx) [t.N] (by have:=hs _ hx;simp;omega)]
       exact d _
     · rw[if_pos (by simpa using c8),if_neg (by simpa using c1),u7 (fun q=>c1 q.2),j _ hx]
       exact d _
   · rw[if_neg (by simpa using c8),u7 (fun q=>c8 q.1),j _ hx]
     exact d _
theorem aeP (m:List (Int×Int))(L:LI)(d:CM m L)(t:Term):dJ t≤900→cx t m=some ((fr t).all (BO L [])):=by
 refine fT (P:=fun t=>dJ t≤900→cx t m=some ((fr t).all (BO L []))) (fun t g h=>?_) t
 have j:=dX t.Kids
 have k:=dt t.Kids
 rw[eE] at h
 rw[cx,Fj,kZ d]
 by_cases c:t.Op=1
 · rw[if_pos (by simpa using c),if_pos c]
   simp only[mI,List.all_nil,uh,BO]
   by_cases c2:(L.count t.N:Int)=0
   · grind
   · rw[if_neg (by simpa using c2),contains_eq [] t.N (by simp)]
     grind
 · rw[if_neg (by simpa using c),if_neg c]
   have:=Wb t m L d (by omega) (fun x hx=>by grind) (fun x hx=>g x hx (by grind)) t.Kids.length 0 rfl (bW _)
   grind
theorem JT (v:Int)(t:Term):cA (K9 v) t=true↔(∀ x,x∈tv t→x<v)∧∀ x,x∈lt t→x<v:=by
 refine fT (P:=fun t=>cA (K9 v) t=true↔(∀ x,x∈tv t→x<v)∧∀ x,x∈lt t→x<v) (fun t g=>?_) t
 have j:∀ l:List Term,(∀ x,x∈l→(cA (K9 v) x=true↔(∀ z,z∈tv x→z<v)∧∀ z,z∈lt x→z<v))→(wP (K9 v) l=true↔(∀ x,x∈iC l→x<v)∧∀ x,x∈DE l→x<v):=by
  intro l
  induction l with
  | nil=>intro _;simp[wP,iC,DE]
  | cons a l d=>
    intro h
    have h1:=h a (by simp)
    have h2:=d fun x hx=>h x (by simp[hx])
    simp only[wP,aS,h1,h2,iC,DE,fc]
    grind
 rw[dS,aS,j t.Kids g,rj,lt_eq]
 simp only[K9,fc]
 grind
theorem OO {l:LI}(h:CM m l)(p:Int→Int→Prop):(∀ x,x∈m→p x.1 x.2)↔∀ x,x∈l→p x (l.count x):=by
 constructor
 · exact fun a x hx=>a (x,(l.count x:Int)) ((h.2 x _).2 ⟨hx,rfl⟩)
 · rintro a ⟨x,c⟩ hx
   obtain⟨h1,h2⟩:=(h.2 x c).1 hx
   grind
def q4 (r:bn)(own:List (Int×Int))(x:Int×Int):Bool := !decide (x.2>1) && !decide (x.1≥r.bg) && !decide (((iO own x.1).getD 0:Int)>0)
def q3 (r:bn)(x:Int×Int):Bool := !decide (x.1≥r.bg)
def q2 (r:bn)(x:Int×Int):Bool := !decide (x.2>1) && !decide (x.1≥r.bg)
theorem Wc (r:bn)(own d:List (Int×Int))(L:LI)(g:CM d L)(h:dJ r.gR≤900):ma r own d (d.length+1) []=some (d.all (q4 r own)&&(fr r.gR).all (BO L [])):=by
 refine JS (fun n k=>ma r own d n k) fun n k=>?_
 rw[ma,aeP d L g r.gR h]
 simp only[aW,aD,BV]
 congr 1
 grind[q4]
theorem Wd (r:bn)(own d g:List (Int×Int))(L:LI)(h:CM d L)(j:dJ r.gR≤900):mb r own d g (g.length+1) []=some (g.all (q3 r)&&(d.all (q4 r own)&&(fr r.gR).all (BO L []))):=by
 refine JS (fun n k=>mb r own d g n k) fun n k=>?_
 rw[mb,Wc r own d L h j]
 congr 1
 grind[q3]
theorem We (r:bn)(own d g:List (Int×Int))(L:LI)(h:CM d L)(o:dJ r.gR≤800)(j:cS [r.gR]=some g):jE r own d (own.length+1) []=some (own.all (q2 r)&&(g.all (q3 r)&&(d.all (q4 r own)&&(fr r.gR).all (BO L [])))):=by
 refine JS (fun n k=>jE r own d n k) fun n k=>?_
 rw[jE,j]
 simp only[aW,aD,Wd r own d g L h (by omega)]
 congr 1
 grind[q2]
theorem count_pos_iff (L:LI)(x:Int):¬ ((L.count x:Int)>0)↔x∉L:=by
 grind
theorem Me (v:Int):∀ l:List Term,(∀ x,x∈l→lt x=[])→((∀ x,x∈iC l→x<v)↔l.all (cA (K9 v))=true)
 | [],_=>by simp[iC]
 | a::l,h=>by
   have h1:=JT v a
   rw[h a (by simp)] at h1
   have h2:=Me v l fun x hx=>h x (by simp[hx])
   rw[mI,aS,←h2,h1,iC]
   grind
theorem aeQ (t:Term):cA BJ t=true→lt t=[]:=by
 refine fT (P:=fun t=>cA BJ t=true→lt t=[]) (fun t d h=>?_) t
 rw[dS,fe,aS,dg] at h
 have g:∀ l:List Term,(∀ x,x∈l→lt x=[])→DE l=[]:=by
  intro l
  induction l<;>grind[DE]
 rw[lt_eq,g t.Kids fun x hx=>d x hx (h.2 x hx),if_neg (fun q=>by grind[BJ])]
 rfl
theorem Wf (s:aE)(r:bn)(own d g:List (Int×Int))(j:CM own (iC r.cK))(o:CM d (lt r.gR))(t:CM g (tv r.gR))(k:∀ x,x∈r.cK→eM s x=true∧tV x=true) :
  (own.all (q2 r)&&(g.all (q3 r)&&(d.all (q4 r own)&&(fr r.gR).all (BO (lt r.gR) []))))=(r.cK.all (pe s r.bg)&&decide (iC r.cK).Nodup&&cA (K9 r.bg) r.gR&&ss r.gR (iC r.cK)):=by
 have u:own.all (q2 r)=true↔(iC r.cK).Nodup∧∀ x,x∈iC r.cK→x<r.bg:=by
  rw[dg]
  refine Iff.trans ?_ ((OO j (fun x c=>¬ c>1∧¬ x≥r.bg)).trans ?_)
  · simp only[q2,aS,xg,decide_eq_false_iff_not]
  all_goals grind
 have v:g.all (q3 r)=true↔∀ x,x∈tv r.gR→x<r.bg:=by
  rw[dg]
  refine Iff.trans ?_ ((OO t (fun x _=>¬ x≥r.bg)).trans ?_)
  all_goals grind[q3]
 have w:d.all (q4 r own)=true↔∀ x,x∈lt r.gR→(lt r.gR).count x≤1∧x<r.bg∧x∉iC r.cK:=by
  rw[dg]
  refine Iff.trans ?_ ((OO o (fun x c=>¬ c>1∧¬ x≥r.bg∧x∉iC r.cK)).trans ?_)
  · simp only[q4,aS,xg,decide_eq_false_iff_not,kZ j,count_pos_iff,and_assoc]
  · exact⟨fun h x hx=>⟨by have:=(h x hx).1;omega,by have:=(h x hx).2.1;omega,(h x hx).2.2⟩,fun h x hx=>⟨by have:=(h x hx).1;omega,by have:=(h x hx).2.1;omega,(h x hx).2.2⟩⟩
 have y:(fr r.gR).all (BO (lt r.gR) [])=true↔∀ x,x∈fr r.gR→x∉lt r.gR:=by
  rw[dg]
  simp only[BO,List.not_mem_nil,decide_false,Bool.or_false,decide_eq_true_eq]
  exact⟨fun h x hx=>OP.1 (by have:=h x hx;omega),fun h x hx=>by have:=OP.2 (h x hx);omega⟩
 have z:r.cK.all (pe s r.bg)=true↔∀ x,x∈iC r.cK→x<r.bg:=by
  rw [Me r.bg r.cK fun x hx=>by
   have:=(k x hx).2
   simp only[tV,aS] at this
   exact aeQ x this.1]
  simp only[dg,pe,aS]
  exact⟨fun h x hx=>(h x hx).2,fun h x hx=>⟨k x hx,h x hx⟩⟩
 have A:=JT r.bg r.gR
 rw[Bool.eq_iff_iff]
 simp only[aS,u,v,w,y,z,A,decide_eq_true_eq,ss,dg,xg,decide_eq_false_iff_not]
 grind
theorem QU (hs:cW s=some 0)(r:bn)(H:gI r.cK≤800)(I:dJ r.gR≤700):u4 s r=some (uK s r):=by
 have z:=dX r.cK
 have J:=I2 hs
 have key:iN s r 0=some (eM s r.gR&&(r.cK.all (pe s r.bg)&&decide (iC r.cK).Nodup&&cA (K9 r.bg) r.gR&&ss r.gR (iC r.cK))):=by
   rw[pc (l:=r.cK) (q:=fun p=>eM s p&&tV p) (e:=iN s r r.cK.length) (f:=some false) (iN s r) (fun i h=>?_) rfl]
   · cases t:r.cK.all (fun p=>eM s p&&tV p) with
     | false=>
       have:r.cK.all (pe s r.bg)=false:=by
         cases A:r.cK.all (pe s r.bg) with
         | false=>rfl
         | true=>
           have:r.cK.all (fun p=>eM s p&&tV p)=true:=dg.2 fun x hx=>by
            have:=dg.1 A x hx
            simp only[pe,aS] at this ⊢
            exact this.1
           rw[t] at this;cases this
       rw[this];simp
     | true=>
       have k:∀ x,x∈r.cK→eM s x=true∧tV x=true:=fun x hx=>by
         have:=dg.1 t x hx
         simpa using this
       obtain⟨own,B,C⟩:=Bl r.cK (by omega)
       obtain⟨d,el,u⟩:=PZ r.gR (by omega)
       obtain⟨j,D,E⟩:=Bl [r.gR] (by simp only[gI];omega)
       have o:CM j (tv r.gR):=by simpa [iC] using E
       rw[if_pos rfl,iN,if_neg (by simp),y9 hs r.gR (by omega)]
       simp only[aW,aD]
       by_cases g:eM s r.gR=true
       · rw[if_pos g,if_neg (by decide),B]
         simp only[aD,el]
         rw[We r own d j (lt r.gR) u (by omega) D,Wf s r own d j C u o k,g,j6]
       · rw[if_neg g,if_pos (by decide)];simp[g]
   · have hx:=cM h
     have G:=z.2 _ hx
     rw[iN,e9,aU h]
     simp only[aW,aD,KY hs _ (show dJ r.cK[i]≤100000 by omega)]
     rw[if_pos fK]
     by_cases g:eM s r.cK[i]=true
     · rw[if_pos g]
       by_cases v:tV r.cK[i]=true
       · simp[g,v]
       · simp[g,v]
     · rw[if_neg g];simp[g]
 rw[u4,uK]
 simp only[pd]
 rcases FL s.bq r.vl with⟨h1,h2,x,h3⟩ | ⟨h1,h3⟩
 · rw[jM,jM,h3]
   simp only[aW,aD]
   by_cases g:(r.cK.length:Int)=x.bu
   · rw[if_neg (by simp[g])]
     by_cases w:r.bg<0
     · rw[if_pos (by simpa using w)]
       have:¬ 0≤r.bg:=by omega
       simp[this]
     · rw[if_neg (by simpa using w)]
       by_cases y:r.bg>20
       · rw[if_pos (by simpa using y)]
         have:¬ r.bg≤20:=by omega
         simp[this]
       · have F:0≤r.bg:=by omega
         have a2:r.bg≤20:=by omega
         rw[if_neg (by simpa using y),key]
         simp[g,F,a2,Bool.and_assoc]
   · rw[if_pos (by simp[g])];simp[g]
 all_goals grind
variable {p : aJ}
theorem Bm (h:uj p=true):(∀ x∈p.cy.Cons,x.Name.size≤30)∧(∀ x∈p.cy.bq,x.Name.size≤30)∧p.aO.length≤20∧∀ r,r∈p.aO→gI r.cK≤800∧dJ r.gR≤700:=by
 simp only[uj,zx,aS,decide_eq_true_eq,dg,JB,Fx,ui,ri] at h
 obtain⟨⟨h1,h2⟩,⟨⟨_,_⟩,h3⟩,h4⟩:=h
 refine⟨fun x hx=>by grind,fun x hx=>by grind,h1,fun r d=>?_⟩
 obtain⟨⟨a,b⟩,c,_⟩:=h2 r d
 refine⟨?_,by omega⟩
 have:∀ l:List Term,(∀ x,x∈l→dJ x≤50∧Es x≤14)→gI l≤50*l.length:=by
  intro l
  induction l with
  | nil=>intro _;simp[gI]
  | cons a l g=>
    intro q
    have h1:=q a (by simp)
    have h2:=g fun x hx=>q x (by simp[hx])
    simp only[gI,pk];omega
 grind
theorem Y3 (h:uj p=true):∃ b,AU p=some b∧s8 p=some b∧vN p=some (if b=true then 0 else 2)∧(b=true→cW p.cy=some 0∧p.cy.Cons.length≤12∧p.cy.bq.length≤8∧p.aO.length≤16∧(∀ x∈p.cy.Cons,0≤x.bu∧x.bu≤4)∧(∀ x∈p.cy.bq,0≤x.bu∧x.bu≤4)∧∀ r,r∈p.aO→uK p.cy r=true):=by
 obtain⟨k,o,A,d⟩:=Bm h
 obtain⟨b,t,j,u⟩:=aeL p.cy k o
 suffices q:∃ b,AT p=some b∧s8 p=some b∧(b=true→cW p.cy=some 0∧p.cy.Cons.length≤12∧p.cy.bq.length≤8∧p.aO.length≤16∧(∀ x∈p.cy.Cons,0≤x.bu∧x.bu≤4)∧(∀ x∈p.cy.bq,0≤x.bu∧x.bu≤4)∧∀ r,r∈p.aO→uK p.cy r=true) by
   grind[AU,vN]
 rw[AT,s8,t,j]
 simp only[aW,aD]
 cases b with
 | false=>
   grind
 | true=>
   obtain⟨v,w,y,z⟩:=u rfl
   have hs:cW p.cy=some 0:=j
   by_cases g:(p.aO.length:Int)≤16
   · rw[if_pos rfl,if_neg (by simpa using g),if_pos (by simpa using g),if_pos rfl]
     refine⟨p.aO.all (uK p.cy),?_,?_,fun q=>⟨rfl,v,w,by omega,y,z,fun r d=>dg.1 q r d⟩⟩
     · rw[od (uK p.cy) (nt p) (fun i=>by rw[nt]) (fun r hx=>NO p.cy (by omega) (by omega) r (d r hx).1) (by omega),BV]
     · refine(pc (l:=p.aO) (q:=uK p.cy) (e:=some true) (f:=some false) (jJ p) (fun i hi=>?_) (by rw[jJ,if_neg (by simp)])).trans (BV _)
       have hx:=d _ (cM hi)
       rw[jJ,e9,aU hi]
       simp only[aW,aD,QU hs _ hx.1 hx.2]
       rw[if_pos fK]
       by_cases c:uK p.cy p.aO[i]=true
       · simp[c]
       · simp[c]
   · rw[if_pos rfl,e9,if_neg (by simpa using g)]
     exact⟨false,rfl,rfl,fun q=>(by cases q)⟩
end
end Go.Eng

/- The law holds of the lifted functions on all data; no conditions. -/
import Derived.Test.YtnangdjonghnaaaGreatVLfD
import Derived.KernelRfl
set_option linter.unusedVariables false
set_option linter.unusedSimpArgs false
namespace Go.Eng
open Go.Proofs Go.Shelf
set_option synthInstance.maxSize 100000
set_option synthInstance.maxHeartbeats 400000
noncomputable section
mutual
def key : Term→List Int
 | .mk o n l=>(1+mc l:Int)::o::n::keys l
def keys : List Term→List Int
 | []=>[]
 | t::l=>key t++keys l
def km : Term→Int
 | .mk _ _ l=>1+mc l
def mc : List Term→Int
 | []=>0
 | t::l=>km t+mc l
end
def NZ (a b:Int):Int:=if a<b then -1 else if a>b then 1 else 0
def gj : List Int→List Int→Int
 | a::x,b::y=>if a<b then -1 else if a>b then 1 else gj x y
 | [],[]=>0
 | [],_::_ => -1
 | _::_,[]=>1
theorem wX : ∀(x y:List Int),gj x y=0↔x=y:=by
 intro x
 induction x with
 | nil=>intro y;cases y<;>simp[gj]
 | cons a x d=>
   intro y
   cases y with
   | nil=>simp[gj]
   | cons b y=>
     simp only[gj]
     split
     · simp;omega
     · split
       · simp;omega
       · rw[d];simp;omega
theorem Ye : ∀(x y:List Int),gj x y = -1∨gj x y=0∨gj x y=1:=by
 intro x
 induction x with
 | nil=>intro y;cases y<;>simp[gj]
 | cons a x d=>
   intro y
   cases y with
   | nil=>simp[gj]
   | cons b y=>
     simp only[gj]
     split
     · simp
     · split
       · simp
       · exact d y
theorem u5 : ∀(x y:List Int),gj x y = - gj y x:=by
 intro x
 induction x with
 | nil=>intro y;cases y<;>simp[gj]
 | cons a x d=>
   intro y
   cases y with
   | nil=>simp[gj]
   | cons b y=>
     simp only[gj]
     by_cases h1:a<b
     · simp[h1,show ¬ b<a by omega]
     · by_cases h2:b<a
       · simp[h1,h2]
       · simp[h1,h2,d y]
theorem A6 : ∀(x y z:List Int),gj x y<0→gj y z<0→gj x z<0:=by
 intro x
 induction x with
 | nil=>intro y z;cases y<;>cases z<;>simp[gj]
 | cons a x d=>
   intro y z
   cases y with
   | nil=>simp[gj]
   | cons b y=>
     cases z with
     | nil=>simp[gj]
     | cons c z=>
       simp only[gj]
       have:=d y z
       split<;>split<;>split<;>(try split)<;>(try split)<;>(try split)<;>intros<;>(first | omega | (apply this<;>assumption) | skip)
theorem Nt : ∀(p q x y:List Int),p.length=q.length→gj (p++x) (q++y)=if gj p q=0 then gj x y else gj p q:=by
 intro p
 induction p with
 | nil=>intro q x y h;cases q<;>simp_all [gj]
 | cons a p d=>
   intro q x y h
   cases q with
   | nil=>simp at h
   | cons b q=>
     simp only[List.cons_append,gj]
     split
     · simp
     · split
       · simp
       · exact d q x y (by simpa using h)
mutual
theorem eO : ∀ t:Term,((key t).length:Int)=3*km t∧1≤km t
 | .mk o n l=>by
   have h:=gI l
   simp only[key,km,List.length_cons]
   omega
theorem gI : ∀ l:List Term,((keys l).length:Int)=3*mc l∧0≤mc l
 | []=>by simp[keys,mc]
 | t::l=>by
   have h:=eO t
   have k:=gI l
   simp only[keys,mc,List.length_append]
   omega
end
theorem I9 (a b:Term)(x y:List Int):gj (key a++x) (key b++y)=if gj (key a) (key b)=0 then gj x y else gj (key a) (key b):=by
 by_cases h:km a=km b
 · exact Nt _ _ _ _ (by have:=eO a;have:=eO b;omega)
 · cases a with
   | mk o n l=>cases b with
     | mk o' d l' =>
       simp only[km] at h
       simp only[key,List.cons_append,gj]
       split
       · simp
       · split
         · simp
         · omega
theorem az {n:Int}(h1 : -4611686018427387904≤n)(h2:n≤4611686018427387904):du .i64 n=true:=by
 simp only[du,IntKind.wrap,IntKind.bits,IntKind.signed,decide_eq_true_eq]
 simp
 omega
variable {α : Type} {i : Nat}
theorem bS {l:List α}(h:i<l.length):dA l (i:Int)=some l[i]:=by
 simp[dA,h]
theorem nB (l:List Term)(i:Nat)(h:i<l.length):mc (l.drop i)=km l[i]+mc (l.drop (i+1)):=by
 rw[List.drop_eq_getElem_cons h,mc]
theorem Cs (a:Term)(d:∀ x∈a.Kids,mh x=some (km x))(g:a.Kids.length<4611686018427387904):∀(n i:Nat) (s:Int),a.Kids.length-i=n→i≤a.Kids.length→0≤s→s+mc (a.Kids.drop i)<4611686018427387904→kx a i s=some (s+mc (a.Kids.drop i)):=by
 intro n
 induction n with
 | zero=>
   intro i s h1 h2 h3 h4
   have:i=a.Kids.length:=by omega
   subst this
   rw[kx]
   simp[mc]
 | succ n f=>
   intro i s h1 h2 h3 h4
   have hi:i<a.Kids.length:=by omega
   have e:=nB a.Kids i hi
   have k1:=(eO a.Kids[i]).2
   have k2:=(gI (a.Kids.drop (i+1))).2
   rw[kx,if_pos (by simpa using hi),bS hi]
   simp only[Option.bind_eq_bind,Option.bind_some,d _ (List.getElem_mem hi)]
   rw[if_pos (az (by omega) (by omega)),if_pos (az (by omega) (by omega))]
   have:=f (i+1) (s+km a.Kids[i]) (by omega) (by omega) (by omega) (by omega)
   rw[show((i:Int)+1)=((i+1:Nat):Int) by omega,this,e]
   congr 1
   omega
theorem pf : ∀ l:List Term,(l.length:Int)≤mc l
 | []=>by simp[mc]
 | t::l=>by
   have:=pf l
   have:=(eO t).2
   simp only[mc,List.length_cons]
   omega
theorem pg : ∀(l:List Term) (x:Term),x∈l→km x≤mc l
 | [],x,h=>by simp at h
 | t::l,x,h=>by
   have k1:=(eO t).2
   have k2:=(gI l).2
   simp only[mc]
   rcases List.mem_cons.1 h with rfl | h
   · omega
   · have:=pg l x h;omega
mutual
theorem uG : ∀ t:Term,km t<4611686018427387904→mh t=some (km t)
 | .mk o n l,h=>by
   simp only[km] at h
   have d:=xw l (by omega)
   have e:=pf l
   rw[mh]
   have:=Cs (.mk o n l) d (by simp only[Term.Kids];omega) l.length 0 1 rfl (Nat.zero_le _) (by omega) (by simpa [Term.Kids] using h)
   simpa [km,Term.Kids] using this
theorem xw : ∀ l:List Term,mc l<4611686018427387904→∀ x∈l,mh x=some (km x)
 | [],_,x,hx=>by simp at hx
 | t::l,h,x,hx=>by
   have k1:=(eO t).2
   have k2:=(gI l).2
   simp only[mc] at h
   rcases List.mem_cons.1 hx with e | hx
   · rw[e];exact uG t (by omega)
   · exact xw l (by omega) x hx
end
theorem Ic (l:List Term)(d:Int)(g:∀ x∈l,∀ c:Int,0≤c→c+km x<4611686018427387904→bo x (d+1) c=some (c+km x))(k:0≤d)(j:d<4611686018427387904)(m:l.length<4611686018427387904):∀(n i:Nat) (s:Int),l.length-i=n→i≤l.length→0≤s→s+mc (l.drop i)<4611686018427387904→bg d l i s=some (s+mc (l.drop i)):=by
 intro n
 induction n with
 | zero=>
   intro i s h1 h2 h3 h4
   have:i=l.length:=by omega
   subst this
   rw[bg]
   simp[mc]
 | succ n h=>
   intro i s h1 h2 h3 h4
   have hi:i<l.length:=by omega
   have e:=nB l i hi
   have k1:=(eO l[i]).2
   have k2:=(gI (l.drop (i+1))).2
   have f:=pf (l.drop i)
   rw[List.length_drop] at f
   rw[bg,if_pos (by simpa using hi),bS hi]
   simp only[Option.bind_eq_bind,Option.bind_some]
   rw[dP,if_pos (az (by omega) (by omega)),g _ (List.getElem_mem hi) s h3 (by omega)]
   simp only[Option.bind_eq_bind,Option.bind_some]
   rw[if_pos (az (by omega) (by omega)),show((i:Int)+1)=((i+1:Nat):Int) by omega,h (i+1) (s+km l[i]) (by omega) (by omega) (by omega) (by omega),e]
   congr 1
   omega
mutual
theorem FV : ∀(t:Term) (d c:Int),0≤d→d+km t<4611686018427387904→0≤c→c+km t<4611686018427387904→bo t d c=some (c+km t)
 | .mk o n l,d,c,h1,h2,h3,h4=>by
   simp only[km] at h2 h4 ⊢
   have k2:=(gI l).2
   have g:=pf l
   rw[bo,if_pos (az (by omega) (by omega)),dn]
   have:=Ic l d (fun x hx c f e=>Dj l x hx (d+1) c (by omega) (by have:=pg l x hx;omega) f e) h1 (by omega) (by omega) l.length 0 (c+1) rfl (Nat.zero_le _) (by omega) (by simp only[List.drop_zero];omega)
   simp only[List.drop_zero] at this
   simp only[Term.Kids]
   rw[show((0:Nat):Int)=0 from rfl] at this
   rw[this]
   simp only[Option.bind_eq_bind,Option.bind_some]
   congr 1
   omega
theorem Dj : ∀(l:List Term) (x:Term),x∈l→∀(d c:Int),0≤d→d+km x<4611686018427387904→0≤c→c+km x<4611686018427387904→bo x d c=some (c+km x)
 | [],x,h,d,c,h1,h2,h3,h4=>by simp at h
 | t::l,x,h,d,c,h1,h2,h3,h4=>by
   rcases List.mem_cons.1 h with e | h
   · rw[e];rw[e] at h2 h4;exact FV t d c h1 h2 h3 h4
   · exact Dj l x h d c h1 h2 h3 h4
end
theorem EC (t:Term)(h:km t<4611686018427387903):s9 t=some (km t):=by
 have k:=(eO t).2
 rw[s9,gX,FV t 1 0 (by omega) (by omega) (by omega) (by omega)]
 simp
theorem y5 (a b:Int):nz a b=some (NZ a b):=by
 unfold nz NZ
 by_cases h1:a<b
 · simp[h1]
 · by_cases h2:a>b<;>simp[h1,h2]
theorem u6 (l:List Term)(i:Nat)(h:i<l.length):keys (l.drop i)=key l[i]++keys (l.drop (i+1)):=by
 rw[List.drop_eq_getElem_cons h,keys]
theorem yk (a b:Term)(k:∀ x∈a.Kids,∀ y∈b.Kids,kd x y=some (gj (key x) (key y)))(s:a.Kids.length<4611686018427387904):∀(n i:Nat),a.Kids.length-i=n→i≤a.Kids.length→i≤b.Kids.length→mc (a.Kids.drop i)=mc (b.Kids.drop i)→(∀ j,j<i→∀(p:j<a.Kids.length) (q:j<b.Kids.length),key a.Kids[j]=key b.Kids[j])→gD a b i=some (gj (keys (a.Kids.drop i)) (keys (b.Kids.drop i))):=by
 intro n
 induction n with
 | zero=>
   intro i h1 h2 h3 h4 _
   have e:a.Kids.length=i:=by omega
   have f:b.Kids.length=i:=by
     rcases Nat.lt_or_ge i b.Kids.length with h | h
     · have:=nB b.Kids i h
       have:=(eO b.Kids[i]).2
       have:=(gI (b.Kids.drop (i+1))).2
       rw[List.drop_eq_nil_of_le (by omega:a.Kids.length≤i),mc] at h4
       omega
     · omega
   rw[gD,if_neg (by simp;omega),y5]
   rw[List.drop_eq_nil_of_le (by omega:a.Kids.length≤i),List.drop_eq_nil_of_le (by omega:b.Kids.length≤i)]
   simp[keys,gj,NZ,e,f]
 | succ n m=>
   intro i h1 h2 h3 h4 h5
   have hi:i<a.Kids.length:=by omega
   have k1:=(eO a.Kids[i]).2
   have k2:=(gI (a.Kids.drop (i+1))).2
   have e:=nB a.Kids i hi
   have d:i<b.Kids.length:=by
     rcases Nat.lt_or_ge i b.Kids.length with h | h
     · exact h
     · rw[List.drop_eq_nil_of_le h,mc] at h4;omega
   have f:=nB b.Kids i d
   rw[gD,if_pos (by simpa using hi),if_pos (by simpa using d),bS hi,bS d]
   simp only[Option.bind_eq_bind,Option.bind_some,k _ (List.getElem_mem hi) _ (List.getElem_mem d)]
   rw[u6 _ _ hi,u6 _ _ d,I9]
   by_cases h0:gj (key a.Kids[i]) (key b.Kids[i])=0
   · have g:=(wX _ _).1 h0
     have es:km a.Kids[i]=km b.Kids[i]:=by
       have:=eO a.Kids[i];have:=eO b.Kids[i];rw[g] at *;omega
     rw[if_pos h0,if_neg (by simp[h0]),if_pos (az (by omega) (by omega)),show((i:Int)+1)=((i+1:Nat):Int) by omega]
     exact m (i+1) (by omega) (by omega) (by omega) (by omega) fun j r p q=>by
       rcases Nat.lt_or_ge j i with h | h
       · exact h5 j h p q
       · have:j=i:=by omega
         subst this;exact g
   · rw[if_neg h0,if_pos (by simp[h0])]
theorem Bv : ∀(n:Nat) (a b:Term),km a≤n→km a<4611686018427387904→km b<4611686018427387904→kd a b=some (gj (key a) (key b)):=by
 intro n
 induction n with
 | zero=>intro a b h _ _;have:=(eO a).2;omega
 | succ n g=>
   intro a b h e f
   cases a with
   | mk o m l=>cases b with
     | mk o' d l' =>
       rw[kd,uG _ e,uG _ f]
       simp only[Option.bind_eq_bind,Option.bind_some,y5]
       simp only[km] at h e f ⊢
       simp only[key,gj,Term.Op,Term.N,NZ]
       by_cases h1:1+mc l<1+mc l'
       · simp[h1]
       · by_cases h2:1+mc l>1+mc l'
         · simp[h1,h2]
         · simp only[h1,h2,if_false]
           by_cases h3:o<o'
           · simp[h3]
           · by_cases h4:o>o'
             · simp[h3,h4]
             · simp only[h3,h4,if_false]
               by_cases h5:m<d
               · simp[h5]
               · by_cases h6:m>d
                 · simp[h5,h6]
                 · simp only[h5,h6,if_false]
                   simp only[decide_true,Bool.not_true,Bool.false_eq_true,if_false]
                   have:=yk (.mk o m l) (.mk o' d l') (fun x hx y k=>g x y (by have:=pg l x hx;omega) (by have:=pg l x hx;omega) (by have:=pg l' y k;omega)) (by have:=pf l;simp only[Term.Kids];omega) l.length 0 rfl (Nat.zero_le _) (Nat.zero_le _) (by simp only[Term.Kids,List.drop_zero];omega) (fun j r=>by omega)
                   simpa [Term.Kids] using this
theorem rC (a b:Int):pI a b=some (NZ a b):=by
 unfold pI qY NZ
 by_cases h1:a<b
 · simp[h1]
 · by_cases h2:a>b<;>simp[h1,h2]
theorem xD (a b:Term)(f:∀ x∈a.Kids,∀ y∈b.Kids,jl x y=some (gj (key x) (key y)))(k:a.Kids.length<4611686018427387904):∀(n i:Nat),a.Kids.length-i=n→i≤a.Kids.length→mc (a.Kids.drop i)=mc (b.Kids.drop i)→fL a b i 0=some (gj (keys (a.Kids.drop i)) (keys (b.Kids.drop i))):=by
 intro n
 induction n with
 | zero=>
   intro i h1 h2 h4
   have e:b.Kids.length≤i:=by
     rcases Nat.lt_or_ge i b.Kids.length with h | h
     · have:=nB b.Kids i h
       have:=(eO b.Kids[i]).2
       have:=(gI (b.Kids.drop (i+1))).2
       rw[List.drop_eq_nil_of_le (by omega:a.Kids.length≤i),mc] at h4
       omega
     · omega
   rw[fL,if_neg (by simp;omega)]
   rw[List.drop_eq_nil_of_le (by omega:a.Kids.length≤i),List.drop_eq_nil_of_le e]
   simp[keys,gj]
 | succ n g=>
   intro i h1 h2 h4
   have hi:i<a.Kids.length:=by omega
   have k1:=(eO a.Kids[i]).2
   have k2:=(gI (a.Kids.drop (i+1))).2
   have m:=nB a.Kids i hi
   have d:i<b.Kids.length:=by
     rcases Nat.lt_or_ge i b.Kids.length with h | h
     · exact h
     · rw[List.drop_eq_nil_of_le h,mc] at h4;omega
   have e:=nB b.Kids i d
   rw[fL,if_pos (by simpa using hi),if_pos (by simpa using d),bS hi,bS d]
   simp only[Option.bind_eq_bind,Option.bind_some,f _ (List.getElem_mem hi) _ (List.getElem_mem d)]
   rw[u6 _ _ hi,u6 _ _ d,I9]
   by_cases h0:gj (key a.Kids[i]) (key b.Kids[i])=0
   · have j:=(wX _ _).1 h0
     have es:km a.Kids[i]=km b.Kids[i]:=by
       have:=eO a.Kids[i];have:=eO b.Kids[i];rw[j] at *;omega
     rw[if_pos h0,if_neg (by simp[h0]),if_pos (az (by omega) (by omega)),show((i:Int)+1)=((i+1:Nat):Int) by omega,h0]
     exact g (i+1) (by omega) (by omega) (by omega)
   · rw[if_neg h0,if_pos (by simp[h0])]
theorem zJ : ∀(n:Nat) (a b:Term),km a≤n→km a<4611686018427387903→km b<4611686018427387903→jl a b=some (gj (key a) (key b)):=by
 intro n
 induction n with
 | zero=>intro a b h _ _;have:=(eO a).2;omega
 | succ n r=>
   intro a b h e f
   cases a with
   | mk o m l=>cases b with
     | mk o' d l' =>
       have g:∀ t:Term,km t<4611686018427387903→kN t 0=some (km t):=fun t s=>by simp[kN,EC t s]
       have j:∀ t:Term,kN t 1=some t.Op:=fun t=>by simp[kN]
       have k:∀ t:Term,kN t 2=some t.N:=fun t=>by simp[kN]
       rw[jl,nK,fM,g _ e,g _ f]
       simp only[km] at h e f ⊢
       simp only[Option.bind_eq_bind,Option.bind_some,rC,key,gj,NZ]
       by_cases h1:1+mc l<1+mc l'
       · simp[h1]
       · by_cases h2:1+mc l>1+mc l'
         · simp[h1,h2]
         · simp only[h1,h2,if_false]
           rw[if_pos (by decide),if_neg (by decide),if_pos (by decide),show(0:Int)+1=1 from rfl,fM,j,j]
           simp only[Option.bind_eq_bind,Option.bind_some,rC,NZ,Term.Op]
           by_cases h3:o<o'
           · simp[h3]
           · by_cases h4:o>o'
             · simp[h3,h4]
             · simp only[h3,h4,if_false]
               rw[if_pos (by decide),if_neg (by decide),if_pos (by decide),show(1:Int)+1=2 from rfl,fM,k,k]
               simp only[Option.bind_eq_bind,Option.bind_some,rC,NZ,Term.N]
               by_cases h5:m<d
               · simp[h5]
               · by_cases h6:m>d
                 · simp[h5,h6]
                 · simp only[h5,h6,if_false]
                   rw[if_pos (by decide),if_neg (by decide),if_pos (by decide),show(2:Int)+1=3 from rfl,fM,if_neg (by decide)]
                   have:=xD (.mk o m l) (.mk o' d l') (fun x hx y u=>r x y (by have:=pg l x hx;omega) (by have:=pg l x hx;omega) (by have:=pg l' y u;omega)) (by have:=pf l;simp only[Term.Kids];omega) l.length 0 rfl (Nat.zero_le _) (by simp only[Term.Kids,List.drop_zero];omega)
                   simpa [Term.Kids] using this
def dg (T:Nat→List Term):Nat→Nat→List (List Term)
 | 0,s=>if s=0 then [[]] else []
 | m+1,s=>(List.range' 1 s).flatMap fun k=>(T k).flatMap fun t=>(dg T m (s-k)).map (t :: ·)
def gv (T:Nat→List Term)(m s k:Nat):List (List Term):=(List.range' k (s+1-k)).flatMap fun k=>(T k).flatMap fun t=>(dg T m (s-k)).map (t :: ·)
theorem oD (T:Nat→List Term)(m s:Nat):dg T (m+1) s=gv T m s 1:=by simp[dg,gv]
theorem lA (T:Nat→List Term)(m s k:Nat)(h:k≤s):gv T m s k=((T k).flatMap fun t=>(dg T m (s-k)).map (t :: ·))++gv T m s (k+1):=by
 unfold gv
 rw[show s+1-k=(s+1-(k+1))+1 by omega,List.range'_succ]
 simp
theorem Kt (T:Nat→List Term):∀ m s,s<m→dg T m s=[]:=by
 intro m
 induction m with
 | zero=>intro s h;omega
 | succ m d=>
   intro s h
   rw[oD,gv]
   simp only[List.flatMap_eq_nil_iff,List.mem_range'_1,List.map_eq_nil_iff]
   intro k e t _
   exact d _ (by omega)
theorem kO (T:Nat→List Term)(m s k:Nat)(h0:1≤k)(h:s<k+m):gv T m s k=[]:=by
 rw[gv]
 simp only[List.flatMap_eq_nil_iff,List.mem_range'_1,List.map_eq_nil_iff]
 intro j d t _
 exact Kt T m _ (by omega)
def j6 (p:Bool×List Term×List Term)(t:Term):Bool×List Term×List Term:=
 if p.1 then p else if p.2.2.length=100 then(true,p.2) else(false,p.2.1++[t],p.2.2++[t])
def aX (p:Bool×List Term×List Term)(l:List Term):Bool×List Term×List Term:=l.foldl j6 p
theorem gm (p:Bool×List Term×List Term):aX p []=p:=rfl
theorem gV (p:Bool×List Term×List Term)(l k:List Term):aX p (l++k)=aX (aX p l) k:=by simp[aX]
theorem eI (p:Bool×List Term×List Term)(t:Term)(l:List Term):aX p (t::l)=aX (j6 p t) l:=rfl
theorem bU (p:Bool×List Term×List Term)(h:p.1=true):∀ l,aX p l=p:=by
 intro l
 induction l with
 | nil=>rfl
 | cons t l d=>rw[eI,show j6 p t=p by simp[j6,h],d]
def rO (p:Bool×List Term×List Term):Prop:=p.2.1.length≤p.2.2.length∧p.2.2.length≤100
variable {p : Bool × List Term × List Term}
theorem uV (h:rO p)(t:Term):rO (j6 p t):=by
 unfold rO j6 at *
 split
 · exact h
 · split
   · exact h
   · simp;omega
theorem iI (h:rO p):∀ l,rO (aX p l):=by
 intro l
 induction l generalizing p with
 | nil=>exact h
 | cons t l d=>exact d (uV h t)
theorem mN (p:Bool×List Term×List Term)(l:List Term):∃ z,(aX p l).2.1=p.2.1++z∧(aX p l).2.2=p.2.2++z:=by
 induction l generalizing p with
 | nil=>exact⟨[],by simp[aX],by simp[aX]⟩
 | cons t l d=>
   obtain⟨z,h1,h2⟩:=d (j6 p t)
   rw[eI,h1,h2]
   unfold j6
   split
   · exact⟨z,rfl,rfl⟩
   · split
     · exact⟨z,rfl,rfl⟩
     · exact⟨t::z,by simp,by simp⟩
theorem Dk (p:Bool×List Term×List Term)(l:List Term)(h:(aX p l).1=false):aX p l=(false,p.2.1++l,p.2.2++l):=by
 induction l generalizing p with
 | nil=>simp only[gm] at h ⊢;obtain⟨b,x,y⟩:=p;simp_all
 | cons t l e=>
   rw[eI] at h ⊢
   rw[e _ h]
   unfold j6
   split
   · rename_i d
     rw[bU _ (by simp[j6,d])] at h
     simp[j6,d] at h
   · split
     · rename_i h1 h2
       rw[bU _ (by simp[j6,h1,h2])] at h
       simp[j6,h1,h2] at h
     · simp
def lT (p:Bool×List Term×List Term):Sum (List Term×List Term) (List Term×List Term):=if p.1 then Sum.inr p.2 else Sum.inl p.2
def wL (p:Bool×List Term×List Term):Sum Unit (Sum (List Term×List Term) (List Term×List Term)):=if p.2.1=[] then Sum.inl () else Sum.inr (lT p)
def vk (p:Bool×List Term×List Term):Sum Unit (Sum Unit (Sum (List Term×List Term) (List Term×List Term))):=if p.2.1=[] then(if p.1 then Sum.inr (Sum.inl ()) else Sum.inl ()) else Sum.inr (Sum.inr (lT p))
theorem xY (l:List α)(d:α):dA (l++[d]) (l.length:Int)=some d:=by simp[dA]
theorem Ad (l:List α)(d x:α):(l++[d]).set (l.length:Int).toNat x=l++[x]:=by simp
theorem Ct (a:List Term)(d:∀ x∈a,bt x=some x)(g:a.length≤100):∀(e i:Nat),a.length-i=e→i≤a.length→bh a i (a.take i)=some a:=by
 intro e
 induction e with
 | zero=>
   intro i h1 h2
   have:i=a.length:=by omega
   subst this
   rw[bh]
   simp
 | succ e f=>
   intro i h1 h2
   have hi:i<a.length:=by omega
   rw[bh,if_pos (by simpa using hi),bS hi]
   simp only[Option.bind_eq_bind,Option.bind_some,d _ (List.getElem_mem hi)]
   rw[if_pos (by simp;omega),if_pos (az (by omega) (by omega)),show((i:Int)+1)=((i+1:Nat):Int) by omega]
   have:=f (i+1) (by omega) (by omega)
   rwa [List.take_succ_eq_append_getElem hi] at this
theorem uH (a:List Term)(d:∀ x∈a,bt x=some x)(e:a.length≤100):bX a=some a:=by
 rw[bX,dT]
 by_cases h:0<a.length
 · rw[if_pos (by simpa using h)]
   have h0:=bS h
   rw[show((0:Nat):Int)=0 from rfl] at h0
   rw[h0]
   simp only[Option.bind_eq_bind,Option.bind_some,d _ (List.getElem_mem h)]
   rw[if_pos (by simp)]
   have:=Ct a d e (a.length-1) 1 rfl (by omega)
   rwa [List.take_succ_eq_append_getElem h] at this
 · have:a=[]:=List.eq_nil_of_length_eq_zero (by omega)
   subst this
   simp
section
variable (T : Nat → List Term) (a562 : List Int) (a563 a564 : Int) (a565 : ae) (a566 a567 : List Int) (a568 c : Int) (M : List (Int × List Term)) (n : Int) (a572 a574 : Int) (a576 : ae)
theorem DW (G:∀ k:Nat,1≤k→(k:Int)<n→(cS M k).getD []=T k)(F:cS M n=none)(I:∀ k t,t∈T k→bt t=some t)(A:∀ k,(T k).length≤100):∀(m s:Nat) (g f out:List Term),g.length+m≤4→s≤5→(s:Int)<n→(∀ x∈g,bt x=some x)→rO (false,f,out) →
   bJ g m s a562 a563 a564 a565 a566 a567 a568 c M n a572 f a574 n a576 out=some (lT (aX (false,f,out) ((dg T m s).map fun l=>Term.mk 3 c (g++l)))):=by
 intro m
 induction m with
 | zero=>
   intro s g f out K N B u j
   rw[bJ,if_pos (by simp)]
   simp only[dg]
   by_cases h:s=0
   · subst h
     have C:=j;simp only[rO] at C
     rw[if_neg (by simp),uH g u (by omega)]
     simp only[Option.bind_eq_bind,Option.bind_some,if_true,List.map_cons,List.map_nil,List.append_nil,eI,gm,j6,Bool.false_eq_true,if_false]
     by_cases h1:out.length=100
     · simp[h1,lT]
     · simp[h1,lT,F,xY]
       rw[if_neg (by omega),if_pos (by omega),if_pos (by omega)]
   · rw[if_pos (by simp;omega)]
     simp[h,aX,lT]
 | succ m O=>
   intro s g f out K N B u j
   rw[bJ,if_neg (by simp;omega),oD]
   have H:∀(d k:Nat),s+1-k=d→1≤k→k≤s+1→∀ c0 o0 f out,rO (false,f,out)→ct g (m+1:Nat) s a562 a563 a564 a565 a566 a567 a568 c M n a572 c0 a574 n a576 o0 k f out=some (lT (aX (false,f,out) ((gv T m s k).map fun l=>Term.mk 3 c (g++l)))):=by
     intro d
     induction d with
     | zero=>
       intro k P h1 Q c0 o0 f out j
       rw[ct,if_pos (az (by omega) (by omega)),if_pos (az (by omega) (by omega)),if_neg (by simp;omega),kO T m s k h1 (by omega)]
       rfl
     | succ d D=>
       intro k P h1 Q c0 o0 f out j
       rw[ct,if_pos (az (by omega) (by omega)),if_pos (az (by omega) (by omega))]
       by_cases S:k+m≤s
       · rw[if_pos (by simp;omega),if_pos (by simp[F];omega),G k h1 (by omega),lA T m s k (by omega)]
         have J:∀(e i:Nat),(T k).length-i=e→i≤(T k).length→∀ f out,rO (false,f,out)→bP g (m+1:Nat) s a562 a563 a564 a565 a566 a567 a568 c M n a572 c0 a574 n a576 o0 k (T k) ((T k).length:Int) i f out=some (lT (aX (false,f,out) (((((T k).drop i).flatMap fun t=>(dg T m (s-k)).map (t :: ·))++gv T m s (k+1)).map fun l=>Term.mk 3 c (g++l)))):=by
          intro e
          induction e with
          | zero=>
            intro i R hi f out j
            rw[bP,if_neg (by simp;omega),if_pos (az (by omega) (by omega)),List.drop_eq_nil_of_le (by omega),show((k:Int)+1)=((k+1:Nat):Int) by omega]
            exact D (k+1) (by omega) (by omega) (by omega) _ _ _ _ j
          | succ e E=>
            intro i R hi f out j
            have r:i<(T k).length:=by omega
            have U:=A k
            rw[bP,if_pos (by simpa using r),bS r]
            simp only[Option.bind_eq_bind,Option.bind_some]
            rw[if_pos (by simp;omega),if_pos (az (by omega) (by omega)),if_pos (az (by omega) (by omega)),show((m+1:Nat):Int)-1=(m:Int) by omega,show(s:Int)-(k:Int)=((s-k:Nat):Int) by omega]
            rw [O (s-k) (g++[(T k)[i]]) f out (by simp;omega) (by omega) (by omega) (by
              intro x hx
              rcases List.mem_append.1 hx with hx | hx
              · exact u x hx
              · rw[List.mem_singleton.1 hx];exact I k _ (List.getElem_mem r)) j]
            simp only[Option.bind_some]
            rw[List.drop_eq_getElem_cons r,List.flatMap_cons,List.append_assoc,List.map_append,gV,List.map_map]
            rw[show(((fun l=>Term.mk 3 c (g++l))∘fun x=>(T k)[i]::x):List Term→Term)=fun l=>Term.mk 3 c (g++[(T k)[i]]++l) from funext fun l=>by simp]
            have v:=iI j ((dg T m (s-k)).map fun l=>Term.mk 3 c (g++[(T k)[i]]++l))
            generalize aX (false,f,out) ((dg T m (s-k)).map fun l=>Term.mk 3 c (g++[(T k)[i]]++l))=p at v
            obtain⟨b,x,y⟩:=p
            cases b with
            | true=>rw[bU _ rfl];rfl
            | false=>
              show(if du .i64 ((i:Int)+1) then _ else none)=_
              rw[if_pos (az (by omega) (by omega)),show((i:Int)+1)=((i+1:Nat):Int) by omega]
              exact E (i+1) (by omega) (by omega) _ _ v
         have:=J _ 0 rfl (Nat.zero_le _) _ _ j
         simpa using this
       · rw[if_neg (by simp;omega),kO T m s k h1 (by omega)]
         rfl
   exact H _ 1 rfl (by omega) (by omega) _ _ _ _ j
end
section
variable (T : Nat → List Term) (a581 : List Int) (a582 a583 : Int) (a584 : ae) (a585 a586 : List Int) (a587 c : Int) (M : List (Int × List Term)) (a590 a591 n : Int) (a593 : ae)
theorem Ie (p:Bool×List Term×List Term)(d:p.1=false)(l:List Term)(h:(aX p l).1=true):(aX p l).2.2.length=100:=by
 induction l generalizing p with
 | nil=>simp[gm,d] at h
 | cons t l e=>
   rw[eI] at h ⊢
   by_cases h1:(j6 p t).1=true
   · rw[bU _ h1]
     unfold j6 at h1 ⊢
     simp only[d,Bool.false_eq_true,if_false] at h1 ⊢
     split
     · rename_i h2;exact h2
     · rename_i h2;simp[h2] at h1
   · exact e _ (by simpa using h1) h
theorem Ku (h:p.2.1≠[])(l:List Term):wL (aX p l)=Sum.inr (lT (aX p l)):=by
 obtain⟨z,h1,_⟩:=mN p l
 rw[wL,if_neg (by rw[h1];simp[h])]
theorem Kv (h:p.2.1≠[])(l:List Term):vk (aX p l)=Sum.inr (Sum.inr (lT (aX p l))):=by
 obtain⟨z,h1,_⟩:=mN p l
 rw[vk,if_neg (by rw[h1];simp[h])]
variable {o l : List Term}
theorem uB (h:(aX (false,[],o) l).2.1=[])(d:(aX (false,[],o) l).1=false):l=[]:=by
 have:=Dk _ _ d
 rw[this] at h
 simpa using h
theorem ta (h:(aX (false,[],o) l).2.1=[])(d:(aX (false,[],o) l).1=true):o.length=100:=by
 have:=Ie _ rfl _ d
 obtain⟨z,h1,h2⟩:=mN (false,[],o) l
 rw[h1] at h
 rw[h2] at this
 simp only[List.nil_append] at h
 subst h
 simpa using this
theorem PL (D:∀ k:Nat,1≤k→(k:Int)<n→(cS M k).getD []=T k)(E:cS M n=none)(F:∀ k t,t∈T k→bt t=some t)(u:∀ k,(T k).length≤100)(m s:Nat)(g:List Term)(Q:g.length+(m+1)≤4)(R:s≤5)(K:(s:Int)<n)(A:∀ x∈g,bt x=some x):∀(d k:Nat),s+1-k=d→1≤k→k≤s+1 →
   (∀ f out,rO (false,f,out)→cW g (m+1:Nat) s a581 a582 a583 a584 a585 a586 a587 c M a590 a591 n a593 k f out=some (Sum.inr (lT (aX (false,f,out) ((gv T m s k).map fun l=>Term.mk 3 c (g++l)))))) ∧
   (k≤s→∀(e i:Nat),(T k).length-i=e→i≤(T k).length→∀ f out,rO (false,f,out)→bp g (m+1:Nat) s a581 a582 a583 a584 a585 a586 a587 c M a590 a591 n a593 k (T k) ((T k).length:Int) i f out=some (Sum.inr (lT (aX (false,f,out) (((((T k).drop i).flatMap fun t=>(dg T m (s-k)).map (t :: ·))++gv T m s (k+1)).map fun l=>Term.mk 3 c (g++l)))))):=by
 intro d
 induction d with
 | zero=>
   intro k G h1 H
   refine⟨fun f out r=>?_,fun h=>by omega⟩
   rw[cW,if_pos (az (by omega) (by omega)),if_pos (az (by omega) (by omega)),if_neg (by simp;omega),kO T m s k h1 (by omega)]
   rfl
 | succ d B=>
   intro k G h1 H
   have J:k≤s→∀(e i:Nat),(T k).length-i=e→i≤(T k).length→∀ f out,rO (false,f,out)→bp g (m+1:Nat) s a581 a582 a583 a584 a585 a586 a587 c M a590 a591 n a593 k (T k) ((T k).length:Int) i f out=some (Sum.inr (lT (aX (false,f,out) (((((T k).drop i).flatMap fun t=>(dg T m (s-k)).map (t :: ·))++gv T m s (k+1)).map fun l=>Term.mk 3 c (g++l))))):=by
     intro N e
     induction e with
     | zero=>
       intro i I hi f out r
       rw[bp,if_neg (by simp;omega),if_pos (az (by omega) (by omega)),List.drop_eq_nil_of_le (by omega),show((k:Int)+1)=((k+1:Nat):Int) by omega]
       exact(B (k+1) (by omega) (by omega) (by omega)).1 _ _ r
     | succ e C=>
       intro i I hi f out r
       have j:i<(T k).length:=by omega
       have O:=u k
       rw[bp,if_pos (by simpa using j),bS j]
       simp only[Option.bind_eq_bind,Option.bind_some]
       rw[if_pos (by simp;omega),if_pos (az (by omega) (by omega)),if_pos (az (by omega) (by omega)),show((m+1:Nat):Int)-1=(m:Int) by omega,show(s:Int)-(k:Int)=((s-k:Nat):Int) by omega]
       rw [DW T a581 a582 a583 a584 a585 a586 a587 c M n a590 a591 a593 D E F u m (s-k) (g++[(T k)[i]]) f out (by simp;omega) (by omega) (by omega) (by
         intro x hx
         rcases List.mem_append.1 hx with hx | hx
         · exact A x hx
         · rw[List.mem_singleton.1 hx];exact F k _ (List.getElem_mem j)) r]
       simp only[Option.bind_some]
       rw[List.drop_eq_getElem_cons j,List.flatMap_cons,List.append_assoc,List.map_append,gV,List.map_map]
       rw[show(((fun l=>Term.mk 3 c (g++l))∘fun x=>(T k)[i]::x):List Term→Term)=fun l=>Term.mk 3 c (g++[(T k)[i]]++l) from funext fun l=>by simp]
       have v:=iI r ((dg T m (s-k)).map fun l=>Term.mk 3 c (g++[(T k)[i]]++l))
       generalize aX (false,f,out) ((dg T m (s-k)).map fun l=>Term.mk 3 c (g++[(T k)[i]]++l))=p at v
       obtain⟨b,x,y⟩:=p
       cases b with
       | true=>rw[bU _ rfl];rfl
       | false=>
         show(if du .i64 ((i:Int)+1) then _ else none)=_
         rw[if_pos (az (by omega) (by omega)),show((i:Int)+1)=((i+1:Nat):Int) by omega]
         exact C (i+1) (by omega) (by omega) _ _ v
   refine⟨fun f out r=>?_,J⟩
   rw[cW,if_pos (az (by omega) (by omega)),if_pos (az (by omega) (by omega))]
   by_cases P:k+m≤s
   · rw[if_pos (by simp;omega),if_pos (by simp[E];omega),D k h1 (by omega),lA T m s k (by omega)]
     have:=J (by omega) _ 0 rfl (Nat.zero_le _) _ _ r
     simpa using this
   · rw[if_neg (by simp;omega),kO T m s k h1 (by omega)]
     rfl
theorem XU (B:∀ k:Nat,1≤k→(k:Int)<n→(cS M k).getD []=T k)(F:cS M n=none)(G:∀ k t,t∈T k→bt t=some t)(v:∀ k,(T k).length≤100):∀(m s:Nat) (f:List Term),f.length+m≤4→s≤5→(s:Int)<n→(∀ x∈f,bt x=some x) →
   cK f m s a581 a582 a583 a584 a585 a586 a587 c M a590 a591 n a593=some (wL (aX (false,[],[]) ((dg T m s).map fun l=>Term.mk 3 c (f++l)))):=by
 intro m
 induction m with
 | zero=>
   intro s f I u A g
   rw[cK,if_pos (by simp)]
   simp only[dg]
   by_cases h:s=0
   · subst h
     rw[if_neg (by simp),uH f g (by omega)]
     simp only[Option.bind_eq_bind,Option.bind_some,if_true,List.map_cons,List.map_nil,List.append_nil,eI,gm,j6,Bool.false_eq_true,if_false]
     simp[wL,lT,F,dA]
   · rw[if_pos (by simp;omega)]
     simp[h,aX,wL]
 | succ m P=>
   intro s f I u A g
   rw[cK,if_neg (by simp;omega),oD]
   have H:∀(d k:Nat),s+1-k=d→1≤k→k≤s+1→cu f (m+1:Nat) s a581 a582 a583 a584 a585 a586 a587 c M a590 a591 n a593 k=some (wL (aX (false,[],[]) ((gv T m s k).map fun l=>Term.mk 3 c (f++l)))):=by
     intro d
     induction d with
     | zero=>
       intro k K h1 N
       rw[cu,if_pos (az (by omega) (by omega)),if_pos (az (by omega) (by omega)),if_neg (by simp;omega),kO T m s k h1 (by omega)]
       rfl
     | succ d D=>
       intro k K h1 N
       rw[cu,if_pos (az (by omega) (by omega)),if_pos (az (by omega) (by omega))]
       by_cases U:k+m≤s
       · rw[if_pos (by simp;omega),lA T m s k (by omega)]
         have J:∀(e i:Nat),(T k).length-i=e→i≤(T k).length→bQ f (m+1:Nat) s a581 a582 a583 a584 a585 a586 a587 c M a590 a591 n a593 k i=some (wL (aX (false,[],[]) (((((T k).drop i).flatMap fun t=>(dg T m (s-k)).map (t :: ·))++gv T m s (k+1)).map fun l=>Term.mk 3 c (f++l)))):=by
          intro e
          induction e with
          | zero=>
            intro i Q hi
            rw[bQ,B k h1 (by omega),if_neg (by simp;omega),if_pos (az (by omega) (by omega)),List.drop_eq_nil_of_le (by omega),show((k:Int)+1)=((k+1:Nat):Int) by omega]
            exact D (k+1) (by omega) (by omega) (by omega)
          | succ e E=>
            intro i Q hi
            have j:i<(T k).length:=by omega
            have V:=v k
            rw[bQ,B k h1 (by omega),if_pos (by simpa using j),bS j]
            simp only[Option.bind_eq_bind,Option.bind_some]
            rw[if_pos (by simp;omega),if_pos (az (by omega) (by omega)),if_pos (az (by omega) (by omega)),show((m+1:Nat):Int)-1=(m:Int) by omega,show(s:Int)-(k:Int)=((s-k:Nat):Int) by omega]
            rw [P (s-k) (f++[(T k)[i]]) (by simp;omega) (by omega) (by omega) (by
              intro x hx
              rcases List.mem_append.1 hx with hx | hx
              · exact g x hx
              · rw[List.mem_singleton.1 hx];exact G k _ (List.getElem_mem j))]
            simp only[Option.bind_some]
            rw[List.drop_eq_getElem_cons j,List.flatMap_cons,List.append_assoc,List.map_append,gV,List.map_map]
            rw[show(((fun l=>Term.mk 3 c (f++l))∘fun x=>(T k)[i]::x):List Term→Term)=fun l=>Term.mk 3 c (f++[(T k)[i]]++l) from funext fun l=>by simp]
            have r:=iI (p:=(false,[],[])) (by simp only[rO,List.length_nil];omega) ((dg T m (s-k)).map fun l=>Term.mk 3 c (f++[(T k)[i]]++l))
            have C:=@uB [] ((dg T m (s-k)).map fun l=>Term.mk 3 c (f++[(T k)[i]]++l))
            have u:=@ta [] ((dg T m (s-k)).map fun l=>Term.mk 3 c (f++[(T k)[i]]++l))
            generalize (dg T m (s-k)).map (fun l=>Term.mk 3 c (f++[(T k)[i]]++l))=R at r C u
            generalize O:aX (false,[],[]) R=p at r C u
            have own:=fun(p:Bool×List Term×List Term) S=>((PL T a581 a582 a583 a584 a585 a586 a587 c M a590 a591 n a593 B F G v m s f I (by omega) A g (d+1) k K h1 N).2 (by omega) (e) (i+1) (by omega) (by omega) p.2.1 p.2.2 S)
            obtain⟨b,x,y⟩:=p
            by_cases hx:x=[]
            · subst hx
              cases b with
              | true=>
                rw[bU _ rfl]
                exact absurd (u rfl rfl) (by simp)
              | false=>
                have:=C rfl rfl
                subst this
                simp only[gm,iy,true_and] at O
                subst O
                show(if du .i64 ((i:Int)+1) then _ else none)=_
                rw[if_pos (az (by omega) (by omega)),show((i:Int)+1)=((i+1:Nat):Int) by omega]
                exact E (i+1) (by omega) (by omega)
            · rw[Ku (by exact hx),show wL (b,x,y)=Sum.inr (lT (b,x,y)) from if_neg hx]
              cases b with
              | true=>rw[bU _ rfl];rfl
              | false=>
                show(if du .i64 ((i:Int)+1) then _ else none)=_
                rw[if_pos (az (by omega) (by omega)),show((i:Int)+1)=((i+1:Nat):Int) by omega]
                have:=own (false,x,y) r
                rw[←B k h1 (by omega)] at this ⊢
                exact this
         have:=J _ 0 rfl (Nat.zero_le _)
         simpa using this
       · rw[if_neg (by simp;omega),kO T m s k h1 (by omega)]
         rfl
   exact H _ 1 rfl (by omega) (by omega)
theorem PM (D:∀ k:Nat,1≤k→(k:Int)<n→(cS M k).getD []=T k)(E:cS M n=none)(F:∀ k t,t∈T k→bt t=some t)(u:∀ k,(T k).length≤100)(m s:Nat)(g o1:List Term)(Q:g.length+(m+1)≤4)(R:s≤5)(K:(s:Int)<n)(A:∀ x∈g,bt x=some x):∀(d k:Nat),s+1-k=d→1≤k→k≤s+1 →
   (∀ f out,rO (false,f,out)→cX g (m+1:Nat) s a581 a582 a583 a584 a585 a586 a587 c M a590 a591 n a593 o1 k f out=some (Sum.inr<|Sum.inr<|(lT (aX (false,f,out) ((gv T m s k).map fun l=>Term.mk 3 c (g++l)))))) ∧
   (k≤s→∀(e i:Nat),(T k).length-i=e→i≤(T k).length→∀ f out,rO (false,f,out)→bq g (m+1:Nat) s a581 a582 a583 a584 a585 a586 a587 c M a590 a591 n a593 o1 k (T k) ((T k).length:Int) i f out=some (Sum.inr<|Sum.inr<|(lT (aX (false,f,out) (((((T k).drop i).flatMap fun t=>(dg T m (s-k)).map (t :: ·))++gv T m s (k+1)).map fun l=>Term.mk 3 c (g++l)))))):=by
 intro d
 induction d with
 | zero=>
   intro k G h1 H
   refine⟨fun f out r=>?_,fun h=>by omega⟩
   rw[cX,if_pos (az (by omega) (by omega)),if_pos (az (by omega) (by omega)),if_neg (by simp;omega),kO T m s k h1 (by omega)]
   rfl
 | succ d B=>
   intro k G h1 H
   have J:k≤s→∀(e i:Nat),(T k).length-i=e→i≤(T k).length→∀ f out,rO (false,f,out)→bq g (m+1:Nat) s a581 a582 a583 a584 a585 a586 a587 c M a590 a591 n a593 o1 k (T k) ((T k).length:Int) i f out=some (Sum.inr<|Sum.inr<|(lT (aX (false,f,out) (((((T k).drop i).flatMap fun t=>(dg T m (s-k)).map (t :: ·))++gv T m s (k+1)).map fun l=>Term.mk 3 c (g++l))))):=by
     intro N e
     induction e with
     | zero=>
       intro i I hi f out r
       rw[bq,if_neg (by simp;omega),if_pos (az (by omega) (by omega)),List.drop_eq_nil_of_le (by omega),show((k:Int)+1)=((k+1:Nat):Int) by omega]
       exact(B (k+1) (by omega) (by omega) (by omega)).1 _ _ r
     | succ e C=>
       intro i I hi f out r
       have j:i<(T k).length:=by omega
       have O:=u k
       rw[bq,if_pos (by simpa using j),bS j]
       simp only[Option.bind_eq_bind,Option.bind_some]
       rw[if_pos (by simp;omega),if_pos (az (by omega) (by omega)),if_pos (az (by omega) (by omega)),show((m+1:Nat):Int)-1=(m:Int) by omega,show(s:Int)-(k:Int)=((s-k:Nat):Int) by omega]
       rw [DW T a581 a582 a583 a584 a585 a586 a587 c M n a590 a591 a593 D E F u m (s-k) (g++[(T k)[i]]) f out (by simp;omega) (by omega) (by omega) (by
         intro x hx
         rcases List.mem_append.1 hx with hx | hx
         · exact A x hx
         · rw[List.mem_singleton.1 hx];exact F k _ (List.getElem_mem j)) r]
       simp only[Option.bind_some]
       rw[List.drop_eq_getElem_cons j,List.flatMap_cons,List.append_assoc,List.map_append,gV,List.map_map]
       rw[show(((fun l=>Term.mk 3 c (g++l))∘fun x=>(T k)[i]::x):List Term→Term)=fun l=>Term.mk 3 c (g++[(T k)[i]]++l) from funext fun l=>by simp]
       have v:=iI r ((dg T m (s-k)).map fun l=>Term.mk 3 c (g++[(T k)[i]]++l))
       generalize aX (false,f,out) ((dg T m (s-k)).map fun l=>Term.mk 3 c (g++[(T k)[i]]++l))=p at v
       obtain⟨b,x,y⟩:=p
       cases b with
       | true=>rw[bU _ rfl];rfl
       | false=>
         show(if du .i64 ((i:Int)+1) then _ else none)=_
         rw[if_pos (az (by omega) (by omega)),show((i:Int)+1)=((i+1:Nat):Int) by omega]
         exact C (i+1) (by omega) (by omega) _ _ v
   refine⟨fun f out r=>?_,J⟩
   rw[cX,if_pos (az (by omega) (by omega)),if_pos (az (by omega) (by omega))]
   by_cases P:k+m≤s
   · rw[if_pos (by simp;omega),if_pos (by simp[E];omega),D k h1 (by omega),lA T m s k (by omega)]
     have:=J (by omega) _ 0 rfl (Nat.zero_le _) _ _ r
     simpa using this
   · rw[if_neg (by simp;omega),kO T m s k h1 (by omega)]
     rfl
theorem XV (A:∀ k:Nat,1≤k→(k:Int)<n→(cS M k).getD []=T k)(F:cS M n=none)(G:∀ k t,t∈T k→bt t=some t)(u:∀ k,(T k).length≤100)(o1:List Term)(U:o1.length≤100):∀(m s:Nat) (f:List Term),f.length+m≤4→s≤5→(s:Int)<n→(∀ x∈f,bt x=some x) →
   cL f m s a581 a582 a583 a584 a585 a586 a587 c M a590 a591 n a593 o1=some (vk (aX (false,[],o1) ((dg T m s).map fun l=>Term.mk 3 c (f++l)))):=by
 intro m
 induction m with
 | zero=>
   intro s f I B v g
   rw[cL,if_pos (by simp)]
   simp only[dg]
   by_cases h:s=0
   · subst h
     rw[if_neg (by simp),uH f g (by omega)]
     simp only[Option.bind_eq_bind,Option.bind_some,if_true,List.map_cons,List.map_nil,List.append_nil,eI,gm,j6,Bool.false_eq_true,if_false]
     by_cases h1:o1.length=100
     · simp[h1,vk]
     · simp[h1,vk,lT,F,xY]
       rw[if_neg (by omega),if_pos (by omega)]
   · rw[if_pos (by simp;omega)]
     simp[h,aX,vk]
 | succ m P=>
   intro s f I B v g
   rw[cL,if_neg (by simp;omega),oD]
   have H:∀(d k:Nat),s+1-k=d→1≤k→k≤s+1→cw f (m+1:Nat) s a581 a582 a583 a584 a585 a586 a587 c M a590 a591 n a593 o1 k=some (vk (aX (false,[],o1) ((gv T m s k).map fun l=>Term.mk 3 c (f++l)))):=by
     intro d
     induction d with
     | zero=>
       intro k K h1 N
       rw[cw,if_pos (az (by omega) (by omega)),if_pos (az (by omega) (by omega)),if_neg (by simp;omega),kO T m s k h1 (by omega)]
       rfl
     | succ d D=>
       intro k K h1 N
       rw[cw,if_pos (az (by omega) (by omega)),if_pos (az (by omega) (by omega))]
       by_cases V:k+m≤s
       · rw[if_pos (by simp;omega),lA T m s k (by omega)]
         have J:∀(e i:Nat),(T k).length-i=e→i≤(T k).length→bR f (m+1:Nat) s a581 a582 a583 a584 a585 a586 a587 c M a590 a591 n a593 o1 k i=some (vk (aX (false,[],o1) (((((T k).drop i).flatMap fun t=>(dg T m (s-k)).map (t :: ·))++gv T m s (k+1)).map fun l=>Term.mk 3 c (f++l)))):=by
          intro e
          induction e with
          | zero=>
            intro i Q hi
            rw[bR,A k h1 (by omega),if_neg (by simp;omega),if_pos (az (by omega) (by omega)),List.drop_eq_nil_of_le (by omega),show((k:Int)+1)=((k+1:Nat):Int) by omega]
            exact D (k+1) (by omega) (by omega) (by omega)
          | succ e E=>
            intro i Q hi
            have j:i<(T k).length:=by omega
            have W:=u k
            rw[bR,A k h1 (by omega),if_pos (by simpa using j),bS j]
            simp only[Option.bind_eq_bind,Option.bind_some]
            rw[if_pos (by simp;omega),if_pos (az (by omega) (by omega)),if_pos (az (by omega) (by omega)),show((m+1:Nat):Int)-1=(m:Int) by omega,show(s:Int)-(k:Int)=((s-k:Nat):Int) by omega]
            rw [P (s-k) (f++[(T k)[i]]) (by simp;omega) (by omega) (by omega) (by
              intro x hx
              rcases List.mem_append.1 hx with hx | hx
              · exact g x hx
              · rw[List.mem_singleton.1 hx];exact G k _ (List.getElem_mem j))]
            simp only[Option.bind_some]
            rw[List.drop_eq_getElem_cons j,List.flatMap_cons,List.append_assoc,List.map_append,gV,List.map_map]
            rw[show(((fun l=>Term.mk 3 c (f++l))∘fun x=>(T k)[i]::x):List Term→Term)=fun l=>Term.mk 3 c (f++[(T k)[i]]++l) from funext fun l=>by simp]
            have r:=iI (p:=(false,[],o1)) (by simp only[rO,List.length_nil];omega) ((dg T m (s-k)).map fun l=>Term.mk 3 c (f++[(T k)[i]]++l))
            have C:=@uB o1 ((dg T m (s-k)).map fun l=>Term.mk 3 c (f++[(T k)[i]]++l))
            have B:=@ta o1 ((dg T m (s-k)).map fun l=>Term.mk 3 c (f++[(T k)[i]]++l))
            generalize (dg T m (s-k)).map (fun l=>Term.mk 3 c (f++[(T k)[i]]++l))=R at r C B
            generalize O:aX (false,[],o1) R=p at r C B
            have own:=fun(p:Bool×List Term×List Term) S=>((PM T a581 a582 a583 a584 a585 a586 a587 c M a590 a591 n a593 A F G u m s f o1 I (by omega) v g (d+1) k K h1 N).2 (by omega) (e) (i+1) (by omega) (by omega) p.2.1 p.2.2 S)
            obtain⟨b,x,y⟩:=p
            by_cases hx:x=[]
            · subst hx
              cases b with
              | true=>
                rw[bU _ rfl]
                rfl
              | false=>
                have:=C rfl rfl
                subst this
                simp only[gm,iy,true_and] at O
                subst O
                show(if du .i64 ((i:Int)+1) then _ else none)=_
                rw[if_pos (az (by omega) (by omega)),show((i:Int)+1)=((i+1:Nat):Int) by omega]
                exact E (i+1) (by omega) (by omega)
            · rw[Kv (by exact hx),show vk (b,x,y)=Sum.inr (Sum.inr (lT (b,x,y))) from if_neg hx]
              cases b with
              | true=>rw[bU _ rfl];rfl
              | false=>
                show(if du .i64 ((i:Int)+1) then _ else none)=_
                rw[if_pos (az (by omega) (by omega)),show((i:Int)+1)=((i+1:Nat):Int) by omega]
                have:=own (false,x,y) r
                rw[←A k h1 (by omega)] at this ⊢
                exact this
         have:=J _ 0 rfl (Nat.zero_le _)
         simpa using this
       · rw[if_neg (by simp;omega),kO T m s k h1 (by omega)]
         rfl
   exact H _ 1 rfl (by omega) (by omega)
end
def vJ (p:Bool×List Term×List Term)(q:Nat):Int×Bool×Nat×List Term:=((p.2.2.length:Int),p.1,q,p.2.1)
def sT (p:Bool×List Term×List Term)(q:Nat):Sum Bool (Int×Bool×Nat×List Term):=if p.2.1=[] then Sum.inl p.1 else Sum.inr (vJ p (q-1))
theorem A7 (a:α):CL true (some a) (some a)=some a:=by simp[CL]
theorem Dl (n:Nat)(t:Term)(sig:ae)(cons:List Int)(d out:List Term)(L:List (List Term))(q:Nat)(f:L.length=n)(e:rO (false,d,out)) :
   dx n t sig cons (out.length:Int) false L q d=some (((j6 (false,d,out) t).2.2.length:Int),(j6 (false,d,out) t).1,(j6 (false,d,out) t).2.1):=by
 simp only[rO] at e
 unfold dx j6
 by_cases h:out.length=100
 · simp[h]
 · rw[if_neg (by simp;omega),if_pos (az (by omega) (by omega))]
   rw[if_pos (by simp;omega),if_pos (by simp;omega),if_pos (by simp;omega),if_pos (by simp;omega),if_pos (by simp;omega),if_pos (by simp;omega),if_pos (by simp;omega),if_pos (by simp;omega),if_pos (by simp;omega),if_pos (by simp;omega)]
   simp only[xY,Option.bind_eq_bind,Option.bind_some,Ad,A7,h,Bool.false_eq_true,if_false]
   simp
theorem Dm (n:Nat)(t:Term)(sig:ae)(cons:List Int)(out:List Term)(L:List (List Term))(q:Nat)(e:L.length=n)(f:1≤q)(b:Bool)(d:rO (false,[],out)) :
   dw n t sig cons (out.length:Int) b L q=some (if out.length=100 then Sum.inl () else Sum.inr (((out.length+1:Nat):Int),q-1,[t])):=by
 simp only[rO] at d
 unfold dw
 by_cases h:out.length=100
 · simp[h]
 · rw[if_neg (by simp;omega),if_pos (az (by omega) (by omega))]
   rw[if_pos (by simp;omega),if_pos (by simp;omega),if_pos (by simp),if_pos (by simp;omega),if_pos (by simp;omega),if_pos (by simp;omega),if_pos (by simp;omega),if_pos (by simp),if_pos (by simp;omega),if_pos (by simp;omega)]
   simp[dA,A7,h]
section
variable (T : Nat → List Term) (sig : ae) (cons : List Int) (n : Nat) (oM : Int) (nm : bK) (L : List (List Term))
theorem FW (N:L.length=n)(W:n≤6)(C:∀ k:Nat,1≤k→k<n→dA L (k:Int)=some (T k))(K:dA sig.Cons oM=some nm)(G:∀ k,(T k).length≤100):∀(m s:Nat) (g:List Term),nm.dF=(g.length+m:Nat)→g.length+m≤4→s<n→∀(b:Bool) (f out:List Term) (q:Nat),rO (b,f,out) →
   aH n oM g s sig cons (out.length:Int) b L q f=some (vJ (aX (b,f,out) ((dg T m s).map fun l=>Term.mk 3 oM (g++l))) q):=by
 intro m
 induction m with
 | zero=>
   intro s g O P Q b f out q j
   rw[aH,K]
   simp only[Option.bind_eq_bind,Option.bind_some]
   rw[if_pos (az (by omega) (by omega))]
   cases b with
   | true=>rw[if_pos rfl,bU _ rfl];rfl
   | false=>
     rw[if_neg (by simp),if_pos (by simp;omega)]
     by_cases h:s=0
     · subst h
       rw[if_pos (by simp),Dl n _ sig cons f out L q N j]
       simp[dg,eI,gm,vJ]
     · rw[if_neg (by simp;omega)]
       simp[dg,h,gm,vJ]
 | succ m R=>
   intro s g O P Q b f out q j
   rw[aH,K]
   simp only[Option.bind_eq_bind,Option.bind_some]
   rw[if_pos (az (by omega) (by omega))]
   cases b with
   | true=>rw[if_pos rfl,bU _ rfl];rfl
   | false=>
     rw[if_neg (by simp),if_neg (by simp;omega),oD]
     have H:∀(d k:Nat),s+1-k=d→1≤k→k≤s+1→∀(u:Int) y A B b f out q,rO (b,f,out)→bk n oM g s sig cons u y L A B k (out.length:Int) b q f=some (vJ (aX (b,f,out) ((gv T m s k).map fun l=>Term.mk 3 oM (g++l))) q):=by
       intro d
       induction d with
       | zero=>
         intro k S h1 U u y A B b f out q j
         rw[bk,if_neg (by simp;omega),show gv T m s k=[] by rw[gv,show s+1-k=0 by omega];rfl]
         rfl
       | succ d D=>
         intro k S h1 U u y A B b f out q j
         rw[bk,if_pos (by simp;omega),lA T m s k (by omega)]
         have J:∀(e i:Nat),(T k).length-i=e→i≤(T k).length→∀ b f out q,rO (b,f,out)→aU n oM g s sig cons u y L A B k i (out.length:Int) b q f=some (vJ (aX (b,f,out) (((((T k).drop i).flatMap fun t=>(dg T m (s-k)).map (t :: ·))++gv T m s (k+1)).map fun l=>Term.mk 3 oM (g++l))) q):=by
          intro e
          induction e with
          | zero=>
            intro i V hi b f out q j
            rw[aU,if_pos (by simp;omega),C k h1 (by omega)]
            simp only[Option.bind_eq_bind,Option.bind_some]
            rw[if_neg (by simp;omega),if_pos (az (by omega) (by omega)),List.drop_eq_nil_of_le (by omega),show((k:Int)+1)=((k+1:Nat):Int) by omega]
            exact D (k+1) (by omega) (by omega) (by omega) _ _ _ _ _ _ _ _ j
          | succ e I=>
            intro i V hi b f out q j
            have r:i<(T k).length:=by omega
            have Y:=G k
            rw[aU,if_pos (by simp;omega),C k h1 (by omega)]
            simp only[Option.bind_eq_bind,Option.bind_some]
            rw[if_pos (by simpa using r)]
            cases b with
            | true=>
              rw[if_pos rfl,if_pos (az (by omega) (by omega)),show((k:Int)+1)=((k+1:Nat):Int) by omega,D (k+1) (by omega) (by omega) (by omega) u y A B true f out q j,bU _ rfl,bU _ rfl]
            | false=>
              rw[if_neg (by simp)]
              have X:aH n oM (g++[(T k)[i]]) ((s:Int)-k) sig cons (out.length:Int) false L q f>>=(fun v=>if du .i64 ((i:Int)+1) then aU n oM g s sig cons u y L A B k ((i:Int)+1) v.1 v.2.1 v.2.2.1 v.2.2.2 else none)=some (vJ (aX (false,f,out) (((((T k).drop i).flatMap fun t=>(dg T m (s-k)).map (t :: ·))++gv T m s (k+1)).map fun l=>Term.mk 3 oM (g++l))) q):=by
                rw[show(s:Int)-(k:Int)=((s-k:Nat):Int) by omega,R (s-k) (g++[(T k)[i]]) (by simp;omega) (by simp;omega) (by omega) _ _ _ _ j]
                simp only[Option.bind_eq_bind,Option.bind_some]
                rw[List.drop_eq_getElem_cons r,List.flatMap_cons,List.append_assoc,List.map_append,gV,List.map_map]
                rw[show(((fun l=>Term.mk 3 oM (g++l))∘fun x=>(T k)[i]::x):List Term→Term)=fun l=>Term.mk 3 oM (g++[(T k)[i]]++l) from funext fun l=>by simp]
                have E:=iI j ((dg T m (s-k)).map fun l=>Term.mk 3 oM (g++[(T k)[i]]++l))
                generalize aX (false,f,out) ((dg T m (s-k)).map fun l=>Term.mk 3 oM (g++[(T k)[i]]++l))=p at E
                rw[if_pos (az (by omega) (by omega)),show((i:Int)+1)=((i+1:Nat):Int) by omega]
                exact I (i+1) (by omega) (by omega) _ _ _ _ E
              by_cases F:g=[]
              · subst F
                rw[if_pos (by rfl),if_pos (by simp;omega)]
                simp only[bS r,Option.bind_some,Option.bind_eq_bind] at X ⊢
                rw[if_pos (by simp),if_pos (az (by omega) (by omega))]
                exact X
              · rw[if_neg (by simpa using F),if_pos (by simp;omega),if_pos (by simp;omega)]
                simp only[bS r,Option.bind_some,Option.bind_eq_bind] at X ⊢
                rw[if_pos (by simp;omega),if_pos (az (by omega) (by omega))]
                exact X
         have:=J _ 0 rfl (Nat.zero_le _) b f out q j
         simpa using this
     exact H _ 1 rfl (by omega) (by omega) _ _ _ _ _ _ _ _ j
theorem Kw (h:p.2.1≠[])(l:List Term)(q:Nat):sT (aX p l) q=Sum.inr (vJ (aX p l) (q-1)):=by
 obtain⟨z,h1,_⟩:=mN p l
 rw[sT,if_neg (by rw[h1];simp[h])]
theorem Kx (I:L.length=n)(G:n≤6)(u:∀ k:Nat,1≤k→k<n→dA L (k:Int)=some (T k))(K:dA sig.Cons oM=some nm)(y:∀ k,(T k).length≤100)(m s:Nat)(g:List Term)(S:nm.dF=(g.length+(m+1):Nat))(U:g.length+(m+1)≤4)(V:s<n)(D:Int)(E:Bool)(F:Nat):∀(d k:Nat),s+1-k=d→1≤k→k≤s+1 →
   (∀ b f out q,rO (b,f,out)→bL n oM g s sig cons D E L F k (out.length:Int) b q f=some (Sum.inr (vJ (aX (b,f,out) ((gv T m s k).map fun l=>Term.mk 3 oM (g++l))) q))) ∧
   (k≤s→∀(e i:Nat),(T k).length-i=e→i≤(T k).length→∀ b f out q,rO (b,f,out)→ay n oM g s sig cons D E L F k i (out.length:Int) b q f=some (Sum.inr (vJ (aX (b,f,out) (((((T k).drop i).flatMap fun t=>(dg T m (s-k)).map (t :: ·))++gv T m s (k+1)).map fun l=>Term.mk 3 oM (g++l))) q))):=by
 intro d
 induction d with
 | zero=>
   intro k N h1 O
   refine⟨fun b f out q r=>?_,fun h=>by omega⟩
   rw[bL,if_neg (by simp;omega),show gv T m s k=[] by rw[gv,show s+1-k=0 by omega];rfl]
   rfl
 | succ d A=>
   intro k N h1 O
   have J:k≤s→∀(e i:Nat),(T k).length-i=e→i≤(T k).length→∀ b f out q,rO (b,f,out)→ay n oM g s sig cons D E L F k i (out.length:Int) b q f=some (Sum.inr (vJ (aX (b,f,out) (((((T k).drop i).flatMap fun t=>(dg T m (s-k)).map (t :: ·))++gv T m s (k+1)).map fun l=>Term.mk 3 oM (g++l))) q)):=by
    intro Q e
    induction e with
    | zero=>
      intro i P hi b f out q r
      rw[ay,if_pos (by simp;omega),u k h1 (by omega)]
      simp only[Option.bind_eq_bind,Option.bind_some]
      rw[if_neg (by simp;omega),if_pos (az (by omega) (by omega)),List.drop_eq_nil_of_le (by omega),show((k:Int)+1)=((k+1:Nat):Int) by omega]
      exact(A (k+1) (by omega) (by omega) (by omega)).1 _ _ _ _ r
    | succ e H=>
      intro i P hi b f out q r
      have j:i<(T k).length:=by omega
      have R:=y k
      rw[ay,if_pos (by simp;omega),u k h1 (by omega)]
      simp only[Option.bind_eq_bind,Option.bind_some]
      rw[if_pos (by simpa using j)]
      cases b with
      | true=>
        rw[if_pos rfl,if_pos (az (by omega) (by omega)),show((k:Int)+1)=((k+1:Nat):Int) by omega,(A (k+1) (by omega) (by omega) (by omega)).1 true f out q r,bU _ rfl,bU _ rfl]
      | false=>
        rw[if_neg (by simp)]
        have X:aH n oM (g++[(T k)[i]]) ((s:Int)-k) sig cons (out.length:Int) false L q f>>=(fun v=>if du .i64 ((i:Int)+1) then ay n oM g s sig cons D E L F k ((i:Int)+1) v.1 v.2.1 v.2.2.1 v.2.2.2 else none)=some (Sum.inr (vJ (aX (false,f,out) (((((T k).drop i).flatMap fun t=>(dg T m (s-k)).map (t :: ·))++gv T m s (k+1)).map fun l=>Term.mk 3 oM (g++l))) q)):=by
          rw[show(s:Int)-(k:Int)=((s-k:Nat):Int) by omega,FW T sig cons n oM nm L I G u K y m (s-k) (g++[(T k)[i]]) (by simp;omega) (by simp;omega) (by omega) _ _ _ _ r]
          simp only[Option.bind_eq_bind,Option.bind_some]
          rw[List.drop_eq_getElem_cons j,List.flatMap_cons,List.append_assoc,List.map_append,gV,List.map_map]
          rw[show(((fun l=>Term.mk 3 oM (g++l))∘fun x=>(T k)[i]::x):List Term→Term)=fun l=>Term.mk 3 oM (g++[(T k)[i]]++l) from funext fun l=>by simp]
          have B:=iI r ((dg T m (s-k)).map fun l=>Term.mk 3 oM (g++[(T k)[i]]++l))
          generalize aX (false,f,out) ((dg T m (s-k)).map fun l=>Term.mk 3 oM (g++[(T k)[i]]++l))=p at B
          rw[if_pos (az (by omega) (by omega)),show((i:Int)+1)=((i+1:Nat):Int) by omega]
          exact H (i+1) (by omega) (by omega) _ _ _ _ B
        by_cases C:g=[]
        · subst C
          rw[if_pos (by rfl),if_pos (by simp;omega)]
          simp only[bS j,Option.bind_some,Option.bind_eq_bind] at X ⊢
          rw[if_pos (by simp),if_pos (az (by omega) (by omega))]
          exact X
        · rw[if_neg (by simpa using C),if_pos (by simp;omega),if_pos (by simp;omega)]
          simp only[bS j,Option.bind_some,Option.bind_eq_bind] at X ⊢
          rw[if_pos (by simp;omega),if_pos (az (by omega) (by omega))]
          exact X
   refine⟨fun b f out q r=>?_,J⟩
   rw[bL,if_pos (by simp;omega),lA T m s k (by omega)]
   have:=J (by omega) _ 0 rfl (Nat.zero_le _) b f out q r
   simpa using this
end
variable {o l : List Term}
theorem x9 {b:Bool}(h:(aX (b,[],o) l).2.1=[]):aX (b,[],o) l=((aX (b,[],o) l).1,[],o):=by
 obtain⟨z,h1,h2⟩:=mN (b,[],o) l
 rw[h1] at h
 simp only[List.nil_append] at h
 subst h
 generalize aX (b,[],o) l=p at h1 h2
 obtain⟨x,y,w⟩:=p
 simp_all
section
variable (T : Nat → List Term) (sig : ae) (cons : List Int) (n : Nat) (oM : Int) (nm : bK) (L : List (List Term))
theorem Nu (I:L.length=n)(F:n≤6)(j:∀ k:Nat,1≤k→k<n→dA L (k:Int)=some (T k))(E:dA sig.Cons oM=some nm)(r:∀ k,(T k).length≤100)(out:List Term)(W:out.length≤100)(q:Nat)(R:1≤q):∀(m s:Nat) (f:List Term),nm.dF=(f.length+m:Nat)→f.length+m≤4→s<n→∀(b:Bool),
   aS n oM f s sig cons (out.length:Int) b L q=some (sT (aX (b,[],out) ((dg T m s).map fun l=>Term.mk 3 oM (f++l))) q):=by
 have u:∀ b,rO (b,[],out):=fun b=>by simp only[rO,List.length_nil];omega
 intro m
 induction m with
 | zero=>
   intro s f K N O b
   rw[aS,E]
   simp only[Option.bind_eq_bind,Option.bind_some]
   rw[if_pos (az (by omega) (by omega))]
   cases b with
   | true=>rw[if_pos rfl,bU _ rfl];rfl
   | false=>
     rw[if_neg (by simp),if_pos (by simp;omega)]
     by_cases h:s=0
     · subst h
       rw[if_pos (by simp),Dm n _ sig cons out L q I R _ (u _)]
       by_cases h1:out.length=100
       · simp[dg,eI,gm,sT,j6,h1]
       · simp[dg,eI,gm,sT,vJ,j6,h1]
     · rw[if_neg (by simp;omega)]
       simp[dg,h,gm,sT]
 | succ m S=>
   intro s f K N O b
   rw[aS,E]
   simp only[Option.bind_eq_bind,Option.bind_some]
   rw[if_pos (az (by omega) (by omega))]
   cases b with
   | true=>rw[if_pos rfl,bU _ rfl];rfl
   | false=>
     rw[if_neg (by simp),if_neg (by simp;omega),oD]
     have H:∀(d k:Nat),s+1-k=d→1≤k→k≤s+1→∀ b,bl n oM f s sig cons (out.length:Int) false L q k b=some (sT (aX (b,[],out) ((gv T m s k).map fun l=>Term.mk 3 oM (f++l))) q):=by
       intro d
       induction d with
       | zero=>
         intro k P h1 Q b
         rw[bl,if_neg (by simp;omega),show gv T m s k=[] by rw[gv,show s+1-k=0 by omega];rfl]
         rfl
       | succ d A=>
         intro k P h1 Q b
         rw[bl,if_pos (by simp;omega),lA T m s k (by omega)]
         have J:∀(e i:Nat),(T k).length-i=e→i≤(T k).length→∀ b,aV n oM f s sig cons (out.length:Int) false L q k i b=some (sT (aX (b,[],out) (((((T k).drop i).flatMap fun t=>(dg T m (s-k)).map (t :: ·))++gv T m s (k+1)).map fun l=>Term.mk 3 oM (f++l))) q):=by
          intro e
          induction e with
          | zero=>
            intro i U hi b
            rw[aV,if_pos (by simp;omega),j k h1 (by omega)]
            simp only[Option.bind_eq_bind,Option.bind_some]
            rw[if_neg (by simp;omega),if_pos (az (by omega) (by omega)),List.drop_eq_nil_of_le (by omega),show((k:Int)+1)=((k+1:Nat):Int) by omega]
            exact A (k+1) (by omega) (by omega) (by omega) _
          | succ e G=>
            intro i U hi b
            have g:i<(T k).length:=by omega
            have V:=r k
            rw[aV,if_pos (by simp;omega),j k h1 (by omega)]
            simp only[Option.bind_eq_bind,Option.bind_some]
            rw[if_pos (by simpa using g)]
            cases b with
            | true=>
              rw[if_pos rfl,if_pos (az (by omega) (by omega)),show((k:Int)+1)=((k+1:Nat):Int) by omega,A (k+1) (by omega) (by omega) (by omega) _,bU _ rfl,bU _ rfl]
            | false=>
              rw[if_neg (by simp)]
              have X:aS n oM (f++[(T k)[i]]) ((s:Int)-k) sig cons (out.length:Int) false L q>>=(fun v=>match v with
                  | Sum.inl y=>if du .i64 ((i:Int)+1) then aV n oM f s sig cons (out.length:Int) false L q k ((i:Int)+1) y else none
                  | Sum.inr y=>if du .i64 ((i:Int)+1) then ay n oM f s sig cons (out.length:Int) false L q k ((i:Int)+1) y.1 y.2.1 y.2.2.1 y.2.2.2 else none)=some (sT (aX (false,[],out) (((((T k).drop i).flatMap fun t=>(dg T m (s-k)).map (t :: ·))++gv T m s (k+1)).map fun l=>Term.mk 3 oM (f++l))) q):=by
                rw[show(s:Int)-(k:Int)=((s-k:Nat):Int) by omega,S (s-k) (f++[(T k)[i]]) (by simp;omega) (by simp;omega) (by omega) _]
                simp only[Option.bind_eq_bind,Option.bind_some]
                rw[List.drop_eq_getElem_cons g,List.flatMap_cons,List.append_assoc,List.map_append,gV,List.map_map]
                rw[show(((fun l=>Term.mk 3 oM (f++l))∘fun x=>(T k)[i]::x):List Term→Term)=fun l=>Term.mk 3 oM (f++[(T k)[i]]++l) from funext fun l=>by simp]
                have B:=iI (u false) ((dg T m (s-k)).map fun l=>Term.mk 3 oM (f++[(T k)[i]]++l))
                have C:=x9 (b:=false) (o:=out) (l:=(dg T m (s-k)).map fun l=>Term.mk 3 oM (f++[(T k)[i]]++l))
                generalize aX (false,[],out) ((dg T m (s-k)).map fun l=>Term.mk 3 oM (f++[(T k)[i]]++l))=p at B C
                by_cases hx:p.2.1=[]
                · rw[C hx,show sT (p.1,[],out) q=Sum.inl p.1 from if_pos rfl]
                  dsimp only
                  rw[if_pos (az (by omega) (by omega)),show((i:Int)+1)=((i+1:Nat):Int) by omega]
                  exact G (i+1) (by omega) (by omega) _
                · rw[Kw hx,show sT p q=Sum.inr (vJ p (q-1)) from if_neg hx]
                  dsimp only
                  rw[if_pos (az (by omega) (by omega)),show((i:Int)+1)=((i+1:Nat):Int) by omega]
                  exact(Kx T sig cons n oM nm L I F j E r m s f K N O (out.length:Int) false q (d+1) k P h1 Q).2 (by omega) e (i+1) (by omega) (by omega) _ _ _ _ B
              by_cases D:f=[]
              · subst D
                rw[if_pos (by rfl),if_pos (by simp;omega)]
                simp only[bS g,Option.bind_some,Option.bind_eq_bind] at X ⊢
                rw[if_pos (by simp),if_pos (az (by omega) (by omega))]
                exact X
              · rw[if_neg (by simpa using D),if_pos (by simp;omega),if_pos (by simp;omega)]
                simp only[bS g,Option.bind_some,Option.bind_eq_bind] at X ⊢
                rw[if_pos (by simp;omega),if_pos (az (by omega) (by omega))]
                exact X
         have:=J _ 0 rfl (Nat.zero_le _) b
         simpa using this
     exact H _ 1 rfl (by omega) (by omega) _
end
def nt (sig:ae)(c:Int):Nat:=match dA sig.Cons c with
 | some nm=>nm.dF.toNat
 | none=>0
def mH (T:Nat→List Term)(sig:ae)(n:Nat)(c:Int):List Term:=(dg T (nt sig c) (n-1)).map fun l=>Term.mk 3 c l
def iz (ints:List Int)(n:Nat)(i:Nat):List Term:=if n=1 then(ints.drop i).map fun x=>Term.mk 2 x [] else []
def lU (T:Nat→List Term)(sig:ae)(cons ints:List Int)(n:Nat):List Term:=iz ints n 0++cons.flatMap (mH T sig n)
def Ar (p:Bool×List Term×List Term):Sum (List Term×List Term) (Sum (List Term×List Term) Unit):=if p.1 then Sum.inl (p.2.2,p.2.1) else Sum.inr (Sum.inl (p.2.2,p.2.1))
def N0 (p:Bool×List Term×List Term):Sum (List Term×List Term) (Sum (List Term×List Term) Unit):=if p.2.1=[] then Sum.inr (Sum.inr ()) else Ar p
def vS (p:Bool×List Term×List Term):Sum Unit (Sum (List Term×List Term) (Sum (List Term×List Term) Unit)):=if p.1 then Sum.inr (Sum.inl (p.2.2,p.2.1)) else Sum.inr (Sum.inr (Sum.inl (p.2.2,p.2.1)))
def BP (p:Bool×List Term×List Term):Sum Unit (Sum (List Term×List Term) (Sum (List Term×List Term) Unit)):=if p.2.1=[] then(if p.1 then Sum.inl () else Sum.inr (Sum.inr (Sum.inr ()))) else vS p
theorem Mq (h:p.2.1≠[])(l:List Term):N0 (aX p l)=Ar (aX p l):=by
 obtain⟨z,h1,_⟩:=mN p l
 rw[N0,if_neg (by rw[h1];simp[h])]
theorem Ja (h:p.2.1≠[])(l:List Term):BP (aX p l)=vS (aX p l):=by
 obtain⟨z,h1,_⟩:=mN p l
 rw[BP,if_neg (by rw[h1];simp[h])]
theorem Ig (h:(aX (false,[],[]) l).2.1=[]):l=[]:=by
 by_cases d:(aX (false,[],[]) l).1=true
 · exact absurd (ta h d) (by simp)
 · exact uB h (by simpa using d)
structure K1 (T : Nat → List Term) (M : List (Int × List Term)) (n : Nat) : Prop where
 get : ∀ k : Nat, 1 ≤ k → (k : Int) < n → (cS M k).getD [] = T k
 none : cS M n = none
 cp : ∀ k t, t ∈ T k → bt t = some t
 len : ∀ k, (T k).length ≤ 100
def zN (sig:ae)(cons:List Int):Prop:=∀ c∈cons,∃ nm,dA sig.Cons c=some nm∧0≤nm.dF∧nm.dF≤4
section
variable (T : Nat → List Term) (sig : ae) (cons ints : List Int) (M : List (Int × List Term)) (n : Nat) (w z : Int) (s2 : ae)
theorem s4 (d:zN sig cons)(i:Nat)(hi:i<cons.length):∃ nm,dA sig.Cons cons[i]=some nm∧nm.dF=(nt sig cons[i]:Nat)∧nt sig cons[i]≤4:=by
 obtain⟨nm,h1,h2,h3⟩:=d _ (List.getElem_mem hi)
 refine⟨nm,h1,?_,?_⟩<;>simp only[nt,h1]<;>omega
theorem y6 (h:K1 T M n)(s:1≤n)(u:n≤6)(k:zN sig cons)(v:cons.length≤20):∀(d i:Nat),cons.length-i=d→i≤cons.length→∀ out e,rO (false,e,out) →
   cq w n z n s2 sig cons ints M i out e=some (Ar (aX (false,e,out) ((cons.drop i).flatMap (mH T sig n)))):=by
 intro d
 induction d with
 | zero=>
   intro i m hi out e j
   rw[cq,if_neg (by simp;omega),List.drop_eq_nil_of_le (by omega)]
   rfl
 | succ d r=>
   intro i m hi out e j
   have f:i<cons.length:=by omega
   obtain⟨nm,h1,h2,h3⟩:=s4 sig cons k i f
   rw[cq,if_pos (by simpa using f),bS f]
   simp only[Option.bind_eq_bind,Option.bind_some,h1]
   rw[if_pos (az (by omega) (by omega))]
   simp only[eT,Option.bind_some,ep]
   rw[h2,show(n:Int)-1=((n-1:Nat):Int) by omega,DW T cons (cons.length:Int) i sig cons ints n cons[i] M n w z s2 h.get h.none h.cp h.len (nt sig cons[i]) (n-1) [] e out (by simpa using h3) (by omega) (by omega) (by simp) j]
   simp only[List.nil_append]
   rw[List.drop_eq_getElem_cons f,List.flatMap_cons,gV]
   have g:=iI j (mH T sig n cons[i])
   rw[mH] at g ⊢
   generalize aX (false,e,out) ((dg T (nt sig cons[i]) (n-1)).map fun l=>Term.mk 3 cons[i] l)=p at g
   obtain⟨b,x,y⟩:=p
   cases b with
   | true=>rw[bU _ rfl];rfl
   | false=>
     show(if du .i64 ((i:Int)+1) then _ else none)=_
     rw[if_pos (az (by omega) (by omega)),show((i:Int)+1)=((i+1:Nat):Int) by omega]
     exact r (i+1) (by omega) (by omega) _ _ g
theorem PN (g:K1 T M n)(k:1≤n)(m:n≤6)(s:zN sig cons)(r:cons.length≤20):∀(d i:Nat),cons.length-i=d→i≤cons.length →
   cM w n z n s2 sig cons ints M i=some (N0 (aX (false,[],[]) ((cons.drop i).flatMap (mH T sig n)))):=by
 intro d
 induction d with
 | zero=>
   intro i A hi
   rw[cM,if_neg (by simp;omega),List.drop_eq_nil_of_le (by omega)]
   rfl
 | succ d B=>
   intro i A hi
   have e:i<cons.length:=by omega
   obtain⟨nm,h1,h2,h3⟩:=s4 sig cons s i e
   rw[cM,if_pos (by simpa using e),bS e]
   simp only[Option.bind_eq_bind,Option.bind_some,h1]
   rw[if_pos (az (by omega) (by omega))]
   simp only[eU,Option.bind_some,gY]
   rw[h2,show(n:Int)-1=((n-1:Nat):Int) by omega,XU T cons (cons.length:Int) i sig cons ints n cons[i] M w z n s2 g.get g.none g.cp g.len (nt sig cons[i]) (n-1) [] (by simpa using h3) (by omega) (by omega) (by simp)]
   simp only[List.nil_append]
   rw[List.drop_eq_getElem_cons e,List.flatMap_cons,gV]
   have f:=iI (p:=(false,[],[])) (by simp only[rO,List.length_nil];omega) (mH T sig n cons[i])
   have h:=@uB [] (mH T sig n cons[i])
   have j:=@ta [] (mH T sig n cons[i])
   generalize u:mH T sig n cons[i]=C at f h j
   rw[mH] at u
   rw[u]
   generalize v:aX (false,[],[]) C=p at f h j
   obtain⟨b,x,y⟩:=p
   by_cases hx:x=[]
   · subst hx
     cases b with
     | true=>
       rw[bU _ rfl]
       exact absurd (j rfl rfl) (by simp)
     | false=>
       have:=h rfl rfl
       subst this
       simp only[gm,iy,true_and] at v
       subst v
       show(if du .i64 ((i:Int)+1) then _ else none)=_
       rw[if_pos (az (by omega) (by omega)),show((i:Int)+1)=((i+1:Nat):Int) by omega]
       exact B (i+1) (by omega) (by omega)
   · rw[Mq (by exact hx),show wL (b,x,y)=Sum.inr (lT (b,x,y)) from if_neg hx]
     cases b with
     | true=>rw[bU _ rfl];rfl
     | false=>
       show(if du .i64 ((i:Int)+1) then _ else none)=_
       rw[if_pos (az (by omega) (by omega)),show((i:Int)+1)=((i+1:Nat):Int) by omega]
       exact y6 T sig cons ints M n w z s2 g k m s r d (i+1) (by omega) (by omega) _ _ f
theorem GC (k:K1 T M n)(m:1≤n)(r:n≤6)(y:zN sig cons)(s:cons.length≤20)(B:ints.length≤20):∀(d i:Nat),ints.length-i=d→i≤ints.length→∀ out f,rO (false,f,out) →
   cr w n z n s2 sig cons ints M i out f=some (Ar (aX (false,f,out) (iz ints n i++cons.flatMap (mH T sig n)))):=by
 intro d
 induction d with
 | zero=>
   intro i A hi out f h
   rw[cr,if_neg (by simp;omega),show iz ints n i=[] by simp[iz,List.drop_eq_nil_of_le (show ints.length≤i by omega)]]
   simpa using y6 T sig cons ints M n w z s2 k m r y s _ 0 rfl (Nat.zero_le _) out f h
 | succ d v=>
   intro i A hi out f h
   have g:i<ints.length:=by omega
   have u:=h;simp only[rO] at u
   rw[cr,if_pos (by simpa using g),bS g]
   simp only[Option.bind_eq_bind,Option.bind_some]
   by_cases x:n=1
   · subst x
     rw[if_pos (by rfl),show iz ints 1 i=Term.mk 2 ints[i] []::iz ints 1 (i+1) by rw[iz,iz,if_pos rfl,if_pos rfl,List.drop_eq_getElem_cons g];rfl,List.cons_append,eI]
     have j:=uV h (Term.mk 2 ints[i] [])
     by_cases h1:out.length=100
     · rw[if_pos (by simp[h1]),bU _ (by simp[j6,h1])]
       simp[j6,h1,Ar]
     · rw[if_neg (by simp;omega),if_pos (by simpa using k.none),if_pos (by simp;omega),if_pos (by simpa using k.none),if_pos (by simp;omega),xY]
       simp only[Option.bind_some,Ad]
       rw[if_pos (az (by omega) (by omega)),show((i:Int)+1)=((i+1:Nat):Int) by omega]
       have e:j6 (false,f,out) (Term.mk 2 ints[i] [])=(false,f++[Term.mk 2 ints[i] []],out++[Term.mk 2 ints[i] []]):=by simp[j6,h1]
       rw[e] at j ⊢
       exact v (i+1) (by omega) (by omega) _ _ j
   · rw[if_neg (by simp;omega),if_pos (az (by omega) (by omega)),show((i:Int)+1)=((i+1:Nat):Int) by omega,v (i+1) (by omega) (by omega) _ _ h]
     simp[iz,x]
theorem PO (j:K1 T M n)(f:1≤n)(g:n≤6)(m:zN sig cons)(h:cons.length≤20)(k:ints.length≤20):∀(d i:Nat),ints.length-i=d→i≤ints.length →
   cO w n z n s2 sig cons ints M i=some (N0 (aX (false,[],[]) (iz ints n i++cons.flatMap (mH T sig n)))):=by
 intro d
 induction d with
 | zero=>
   intro i s hi
   rw[cO,if_neg (by simp;omega),show iz ints n i=[] by simp[iz,List.drop_eq_nil_of_le (show ints.length≤i by omega)]]
   simpa using PN T sig cons ints M n w z s2 j f g m h _ 0 rfl (Nat.zero_le _)
 | succ d u=>
   intro i s hi
   have e:i<ints.length:=by omega
   rw[cO,if_pos (by simpa using e),bS e]
   simp only[Option.bind_eq_bind,Option.bind_some]
   by_cases r:n=1
   · subst r
     rw[if_pos (by rfl),show iz ints 1 i=Term.mk 2 ints[i] []::iz ints 1 (i+1) by rw[iz,iz,if_pos rfl,if_pos rfl,List.drop_eq_getElem_cons e];rfl,List.cons_append,eI]
     rw[if_pos (by simpa using j.none),if_pos (by simp),if_pos (by simpa using j.none),if_pos (by simp)]
     simp only[show dA [Term.mk 0 0 []] 0=some (Term.mk 0 0 []) from rfl,Option.bind_some]
     rw[if_pos (az (by omega) (by omega)),show((i:Int)+1)=((i+1:Nat):Int) by omega]
     rw[show j6 (false,[],[]) (Term.mk 2 ints[i] [])=(false,[Term.mk 2 ints[i] []],[Term.mk 2 ints[i] []]) from rfl,Mq (by simp)]
     exact GC T sig cons ints M 1 w z s2 j f g m h k d (i+1) (by omega) (by omega) _ _ (by simp[rO])
   · rw[if_neg (by simp;omega),if_pos (az (by omega) (by omega)),show((i:Int)+1)=((i+1:Nat):Int) by omega,u (i+1) (by omega) (by omega)]
     simp[iz,r]
theorem aby (h:K1 T M n)(d:1≤n)(e:n≤6)(j:zN sig cons)(f:cons.length≤20)(g:ints.length≤20) :
  fp w n z n s2 sig cons ints M=some (N0 (aX (false,[],[]) (lU T sig cons ints n))):=by
 rw[fp,lU]
 exact PO T sig cons ints M n w z s2 h d e j f g _ 0 rfl (Nat.zero_le _)
theorem xx (h:K1 T M n)(s:1≤n)(u:n≤6)(k:zN sig cons)(v:cons.length≤20)(o1:List Term):∀(d i:Nat),cons.length-i=d→i≤cons.length→∀ out e,rO (false,e,out) →
   bV w n z n s2 sig cons ints o1 M i out e=some (vS (aX (false,e,out) ((cons.drop i).flatMap (mH T sig n)))):=by
 intro d
 induction d with
 | zero=>
   intro i m hi out e j
   rw[bV,if_neg (by simp;omega),List.drop_eq_nil_of_le (by omega)]
   rfl
 | succ d r=>
   intro i m hi out e j
   have f:i<cons.length:=by omega
   obtain⟨nm,h1,h2,h3⟩:=s4 sig cons k i f
   rw[bV,if_pos (by simpa using f),bS f]
   simp only[Option.bind_eq_bind,Option.bind_some,h1]
   rw[if_pos (az (by omega) (by omega))]
   simp only[eT,Option.bind_some,ep]
   rw[h2,show(n:Int)-1=((n-1:Nat):Int) by omega,DW T cons (cons.length:Int) i sig cons ints n cons[i] M n w z s2 h.get h.none h.cp h.len (nt sig cons[i]) (n-1) [] e out (by simpa using h3) (by omega) (by omega) (by simp) j]
   simp only[List.nil_append]
   rw[List.drop_eq_getElem_cons f,List.flatMap_cons,gV]
   have g:=iI j (mH T sig n cons[i])
   rw[mH] at g ⊢
   generalize aX (false,e,out) ((dg T (nt sig cons[i]) (n-1)).map fun l=>Term.mk 3 cons[i] l)=p at g
   obtain⟨b,x,y⟩:=p
   cases b with
   | true=>rw[bU _ rfl];rfl
   | false=>
     show(if du .i64 ((i:Int)+1) then _ else none)=_
     rw[if_pos (az (by omega) (by omega)),show((i:Int)+1)=((i+1:Nat):Int) by omega]
     exact r (i+1) (by omega) (by omega) _ _ g
theorem Nv (g:K1 T M n)(j:1≤n)(k:n≤6)(s:zN sig cons)(m:cons.length≤20)(o1:List Term)(r:o1.length≤100):∀(d i:Nat),cons.length-i=d→i≤cons.length →
   cC w n z n s2 sig cons ints o1 M i=some (BP (aX (false,[],o1) ((cons.drop i).flatMap (mH T sig n)))):=by
 intro d
 induction d with
 | zero=>
   intro i B hi
   rw[cC,if_neg (by simp;omega),List.drop_eq_nil_of_le (by omega)]
   rfl
 | succ d C=>
   intro i B hi
   have e:i<cons.length:=by omega
   obtain⟨nm,h1,h2,h3⟩:=s4 sig cons s i e
   rw[cC,if_pos (by simpa using e),bS e]
   simp only[Option.bind_eq_bind,Option.bind_some,h1]
   rw[if_pos (az (by omega) (by omega))]
   simp only[eU,Option.bind_some,gZ]
   rw[h2,show(n:Int)-1=((n-1:Nat):Int) by omega,XV T cons (cons.length:Int) i sig cons ints n cons[i] M w z n s2 g.get g.none g.cp g.len o1 r (nt sig cons[i]) (n-1) [] (by simpa using h3) (by omega) (by omega) (by simp)]
   simp only[List.nil_append]
   rw[List.drop_eq_getElem_cons e,List.flatMap_cons,gV]
   have f:=iI (p:=(false,[],o1)) (by simp only[rO,List.length_nil];omega) (mH T sig n cons[i])
   have h:=@uB o1 (mH T sig n cons[i])
   have u:=@ta o1 (mH T sig n cons[i])
   generalize v:mH T sig n cons[i]=D at f h u
   rw[mH] at v
   rw[v]
   generalize A:aX (false,[],o1) D=p at f h u
   obtain⟨b,x,y⟩:=p
   by_cases hx:x=[]
   · subst hx
     cases b with
     | true=>
       rw[bU _ rfl]
       rfl
     | false=>
       have:=h rfl rfl
       subst this
       simp only[gm,iy,true_and] at A
       subst A
       show(if du .i64 ((i:Int)+1) then _ else none)=_
       rw[if_pos (az (by omega) (by omega)),show((i:Int)+1)=((i+1:Nat):Int) by omega]
       exact C (i+1) (by omega) (by omega)
   · rw[Ja (by exact hx),show vk (b,x,y)=Sum.inr (Sum.inr (lT (b,x,y))) from if_neg hx]
     cases b with
     | true=>rw[bU _ rfl];rfl
     | false=>
       show(if du .i64 ((i:Int)+1) then _ else none)=_
       rw[if_pos (az (by omega) (by omega)),show((i:Int)+1)=((i+1:Nat):Int) by omega]
       exact xx T sig cons ints M n w z s2 g j k s m o1 d (i+1) (by omega) (by omega) _ _ f
theorem ED (k:K1 T M n)(m:1≤n)(r:n≤6)(y:zN sig cons)(s:cons.length≤20)(B:ints.length≤20)(o1:List Term):∀(d i:Nat),ints.length-i=d→i≤ints.length→∀ out f,rO (false,f,out) →
   bW w n z n s2 sig cons ints o1 M i out f=some (vS (aX (false,f,out) (iz ints n i++cons.flatMap (mH T sig n)))):=by
 intro d
 induction d with
 | zero=>
   intro i A hi out f h
   rw[bW,if_neg (by simp;omega),show iz ints n i=[] by simp[iz,List.drop_eq_nil_of_le (show ints.length≤i by omega)]]
   simpa using xx T sig cons ints M n w z s2 k m r y s o1 _ 0 rfl (Nat.zero_le _) out f h
 | succ d v=>
   intro i A hi out f h
   have g:i<ints.length:=by omega
   have u:=h;simp only[rO] at u
   rw[bW,if_pos (by simpa using g),bS g]
   simp only[Option.bind_eq_bind,Option.bind_some]
   by_cases x:n=1
   · subst x
     rw[if_pos (by rfl),show iz ints 1 i=Term.mk 2 ints[i] []::iz ints 1 (i+1) by rw[iz,iz,if_pos rfl,if_pos rfl,List.drop_eq_getElem_cons g];rfl,List.cons_append,eI]
     have j:=uV h (Term.mk 2 ints[i] [])
     by_cases h1:out.length=100
     · rw[if_pos (by simp[h1]),bU _ (by simp[j6,h1])]
       simp[j6,h1,vS]
     · rw[if_neg (by simp;omega),if_pos (by simpa using k.none),if_pos (by simp;omega),if_pos (by simpa using k.none),if_pos (by simp;omega),xY]
       simp only[Option.bind_some,Ad]
       rw[if_pos (az (by omega) (by omega)),show((i:Int)+1)=((i+1:Nat):Int) by omega]
       have e:j6 (false,f,out) (Term.mk 2 ints[i] [])=(false,f++[Term.mk 2 ints[i] []],out++[Term.mk 2 ints[i] []]):=by simp[j6,h1]
       rw[e] at j ⊢
       exact v (i+1) (by omega) (by omega) _ _ j
   · rw[if_neg (by simp;omega),if_pos (az (by omega) (by omega)),show((i:Int)+1)=((i+1:Nat):Int) by omega,v (i+1) (by omega) (by omega) _ _ h]
     simp[iz,x]
theorem Nw (m:K1 T M n)(g:1≤n)(h:n≤6)(u:zN sig cons)(j:cons.length≤20)(r:ints.length≤20)(o1:List Term)(s:o1.length≤100):∀(d i:Nat),ints.length-i=d→i≤ints.length →
   cD w n z n s2 sig cons ints o1 M i=some (BP (aX (false,[],o1) (iz ints n i++cons.flatMap (mH T sig n)))):=by
 intro d
 induction d with
 | zero=>
   intro i x hi
   rw[cD,if_neg (by simp;omega),show iz ints n i=[] by simp[iz,List.drop_eq_nil_of_le (show ints.length≤i by omega)]]
   simpa using Nv T sig cons ints M n w z s2 m g h u j o1 s _ 0 rfl (Nat.zero_le _)
 | succ d y=>
   intro i x hi
   have f:i<ints.length:=by omega
   rw[cD,if_pos (by simpa using f),bS f]
   simp only[Option.bind_eq_bind,Option.bind_some]
   by_cases v:n=1
   · subst v
     rw[if_pos (by rfl),show iz ints 1 i=Term.mk 2 ints[i] []::iz ints 1 (i+1) by rw[iz,iz,if_pos rfl,if_pos rfl,List.drop_eq_getElem_cons f];rfl,List.cons_append,eI]
     have k:=uV (p:=(false,[],o1)) (by simp only[rO,List.length_nil];omega) (Term.mk 2 ints[i] [])
     by_cases h1:o1.length=100
     · rw[if_pos (by simp[h1]),bU _ (by simp[j6,h1])]
       simp[j6,h1,BP]
     · rw[if_neg (by simp;omega),if_pos (by simpa using m.none),if_pos (by simp),if_pos (by simpa using m.none),if_pos (by simp;omega),xY]
       simp only[Option.bind_some,Ad]
       rw[if_pos (az (by omega) (by omega)),show((i:Int)+1)=((i+1:Nat):Int) by omega]
       have e:j6 (false,[],o1) (Term.mk 2 ints[i] [])=(false,[Term.mk 2 ints[i] []],o1++[Term.mk 2 ints[i] []]):=by simp[j6,h1]
       rw[e] at k ⊢
       rw[Ja (by simp)]
       exact ED T sig cons ints M 1 w z s2 m g h u j r o1 d (i+1) (by omega) (by omega) _ _ k
   · rw[if_neg (by simp;omega),if_pos (az (by omega) (by omega)),show((i:Int)+1)=((i+1:Nat):Int) by omega,y (i+1) (by omega) (by omega)]
     simp[iz,v]
theorem XW (j:K1 T M n)(d:1≤n)(e:n≤6)(k:zN sig cons)(f:cons.length≤20)(g:ints.length≤20)(o1:List Term)(h:o1.length≤100) :
  eY w n z n s2 sig cons ints o1 M=some (BP (aX (false,[],o1) (lU T sig cons ints n))):=by
 rw[eY,lU]
 exact Nw T sig cons ints M n w z s2 j d e k f g o1 h _ 0 rfl (Nat.zero_le _)
end
theorem GD (a:List Term)(d:∀ x∈a,bt x=some x)(g:a.length≤100):∀(e i:Nat),a.length-i=e→i≤a.length→aw a i (a.take i)=some a:=by
 intro e
 induction e with
 | zero=>
   intro i h1 h2
   have:i=a.length:=by omega
   subst this
   rw[aw]
   simp
 | succ e f=>
   intro i h1 h2
   have hi:i<a.length:=by omega
   rw[aw,if_pos (by simpa using hi),bS hi]
   simp only[Option.bind_eq_bind,Option.bind_some,d _ (List.getElem_mem hi)]
   rw[if_pos (by simp;omega),if_pos (az (by omega) (by omega)),show((i:Int)+1)=((i+1:Nat):Int) by omega]
   have:=f (i+1) (by omega) (by omega)
   rwa [List.take_succ_eq_append_getElem hi] at this
theorem GF (l:List Term)(d:∀ x∈l,bt x=some x)(f:l.length≤100):bB l=some l:=by
 rw[bB]
 by_cases h0:0<l.length
 · rw[if_pos (by simpa using h0)]
   have e:=bS h0
   rw[show((0:Nat):Int)=0 from rfl] at e
   rw[e]
   simp only[Option.bind_eq_bind,Option.bind_some,d _ (List.getElem_mem h0)]
   rw[if_pos (by simp)]
   have:=GD l d (by omega) (l.length-1) 1 rfl (by omega)
   rw[List.take_succ_eq_append_getElem h0] at this
   simp only[List.take_zero,List.nil_append] at this
   rw[show((1:Nat):Int)=1 from rfl] at this
   rw[this]
 · have:l=[]:=List.eq_nil_of_length_eq_zero (by omega)
   subst this
   rfl
mutual
theorem Dn : ∀ t:Term,km t≤100→bt t=some t
 | .mk o n l,h=>by
   simp only[km] at h
   have d:=A8 l (by omega)
   have e:=pf l
   rw[bt,bO,show(Term.mk o n l).Kids=l from rfl,GF _ d (by omega)]
   rfl
theorem A8 : ∀ l:List Term,mc l≤100→∀ x∈l,bt x=some x
 | [],_,x,hx=>by simp at hx
 | t::l,h,x,hx=>by
   have k1:=(eO t).2
   have k2:=(gI l).2
   simp only[mc] at h
   rcases List.mem_cons.1 hx with e | hx
   · rw[e];exact Dn t (by omega)
   · exact A8 l (by omega) x hx
end
inductive Made (sig : ae) (cons ints : List Int) : Term → Prop
 | int (x : Int) (h : x ∈ ints) : Made sig cons ints (.mk 2 x [])
 | oM (c : Int) (nm : bK) (l : List Term) (h1 : c ∈ cons) (h2 : dA sig.Cons c = some nm) (h3 : nm.dF = l.length) (h4 : ∀ t ∈ l, Made sig cons ints t) : Made sig cons ints (.mk 3 c l)
def wG (sig:ae)(cons ints:List Int):Nat→Nat→(Nat→List Term)→List Term→Option (List Term)
 | 0,_,_,out=>some out
 | d+1,n,T,out=>if(aX (false,[],out) (lU T sig cons ints n)).1 then none else wG sig cons ints d (n+1) (fun k=>if k=n then(aX (false,[],out) (lU T sig cons ints n)).2.1 else T k) (aX (false,[],out) (lU T sig cons ints n)).2.2
section
variable (sig : ae) (cons ints : List Int)
theorem Ih (T:Nat→List Term)(e:∀ k t,t∈T k→km t=k∧Made sig cons ints t):∀ m s l,l∈dg T m s→l.length=m∧mc l=s∧∀ t∈l,Made sig cons ints t:=by
 intro m
 induction m with
 | zero=>
   intro s l h
   simp only[dg] at h
   split at h
   · simp only[List.mem_singleton] at h
     subst h
     rename_i h0
     exact⟨rfl,by simp[mc,h0],by simp⟩
   · simp at h
 | succ m f=>
   intro s l h
   simp only[dg,List.mem_flatMap,List.mem_range'_1,List.mem_map] at h
   obtain⟨k,r,t,g,l', d,rfl⟩:=h
   obtain⟨h1,h2,h3⟩:=f _ _ d
   obtain⟨u,j⟩:=e _ _ g
   refine⟨by simp[h1],by simp only[mc];omega,?_⟩
   intro x hx
   rcases List.mem_cons.1 hx with rfl | hx
   · exact j
   · exact h3 x hx
theorem Ii (T:Nat→List Term)(f:∀ k t,t∈T k→km t=k∧Made sig cons ints t)(g:zN sig cons)(n:Nat)(m:1≤n)(t:Term)(h:t∈lU T sig cons ints n):km t=n∧Made sig cons ints t:=by
 simp only[lU,List.mem_append,List.mem_flatMap] at h
 rcases h with h | ⟨c,d,h⟩
 · simp only[iz,List.drop_zero] at h
   split at h
   · simp only[List.mem_map] at h
     obtain⟨x,hx,rfl⟩:=h
     exact⟨by simp[km,mc];omega,.int x hx⟩
   · simp at h
 · simp only[mH,List.mem_map] at h
   obtain⟨l,j,rfl⟩:=h
   obtain⟨h1,h2,h3⟩:=Ih sig cons ints T f _ _ _ j
   obtain⟨nm,e,r,s⟩:=g c d
   refine⟨by simp only[km];omega,.oM c nm l d e ?_ h3⟩
   simp only[nt,e] at h1
   omega
structure Inv2 (T : Nat → List Term) (n : Nat) (out : List Term) : Prop where
 Dx : ∀ k t, t ∈ T k → km t = k ∧ Made sig cons ints t
 low : ∀ k, n ≤ k → T k = []
 Xl : T 0 = []
 len : ∀ k, (T k).length ≤ 100
 LD : out.length ≤ 100
 abb : ∀ t ∈ out, km t < n ∧ Made sig cons ints t
 flat : out = (List.range n).flatMap T
variable {T : Nat → List Term} {n : Nat} {out : List Term}
theorem xh (h:Inv2 sig cons ints T n out)(m:1≤n)(r:zN sig cons)(s:(aX (false,[],out) (lU T sig cons ints n)).1=false) :
   Inv2 sig cons ints (fun k=>if k=n then(aX (false,[],out) (lU T sig cons ints n)).2.1 else T k) (n+1) (aX (false,[],out) (lU T sig cons ints n)).2.2:=by
 have f:=iI (p:=(false,[],out)) (by have:=h.LD;simp only[rO,List.length_nil];omega) (lU T sig cons ints n)
 have e:=Dk _ _ s
 have j:=Ii sig cons ints T h.Dx r n m
 rw[e] at f ⊢
 simp only[List.nil_append,rO] at f ⊢
 refine⟨?_,?_,?_,?_,f.2,?_,?_⟩
 · intro k t d
   split at d
   · rename_i g;subst g;exact j t d
   · exact h.Dx k t d
 · intro k g
   rw[if_neg (by omega)];exact h.low k (by omega)
 · rw[if_neg (by omega)];exact h.Xl
 · intro k
   split
   · omega
   · exact h.len k
 · intro t d
   rcases List.mem_append.1 d with d | d
   · have:=h.abb t d;exact⟨by omega,this.2⟩
   · have:=j t d;exact⟨by omega,this.2⟩
 · rw[List.range_succ,List.flatMap_append,List.flatMap_singleton,if_pos rfl,h.flat]
   congr 1
   rw[List.flatMap,List.flatMap]
   congr 1
   refine List.map_congr_left fun k g=>?_
   rw[if_neg (by have:=List.mem_range.1 g;omega)]
theorem Ky (g:zN sig cons):∀ d T n out l,Inv2 sig cons ints T n out→1≤n→wG sig cons ints d n T out=some l→l.length≤100∧∀ t∈l,km t<n+d∧Made sig cons ints t:=by
 intro d
 induction d with
 | zero=>intro T n out l h f e;simp only[wG,ar] at e;subst e;exact⟨h.LD,h.abb⟩
 | succ d j=>
   intro T n out l h f e
   simp only[wG] at e
   split at e
   · simp at e
   · rename_i k
     have:=j _ _ _ _ (xh sig cons ints h f g (by simpa using k)) (by omega) e
     exact⟨this.1,fun t m=>by have:=this.2 t m;exact⟨by omega,this.2⟩⟩
theorem FX {β:Type}(M:List (Int×β))(a:Int)(v:β)(k:Int):cS (M++[(a,v)]) k=(cS M k).or (if k=a then some v else none):=by
 induction M with
 | nil=>simp only[List.nil_append,cS];split<;>rfl
 | cons p M d=>
   obtain⟨x,y⟩:=p
   simp only[List.cons_append,cS]
   split
   · rfl
   · exact d
structure Fg (T : Nat → List Term) (M : List (Int × List Term)) (n : Nat) : Prop where
 get : ∀ k : Nat, 1 ≤ k → (k : Int) < n → (cS M k).getD [] = T k
 none : ∀ k : Nat, n ≤ k → cS M (k : Int) = none
variable {M : List (Int × List Term)}
theorem Dp (h:Fg T M n)(c:List Term):Fg (fun k=>if k=n then c else T k) (M++[((n:Int),c)]) (n+1):=by
 refine⟨fun k h1 h2=>?_,fun k h1=>?_⟩
 · rw[FX]
   by_cases d:k=n
   · subst d;simp[h.none k (Nat.le_refl _)]
   · simp only[if_neg d,if_neg (show ¬ (k:Int)=n by omega),Option.or_none]
     exact h.get k h1 (by omega)
 · rw[FX,h.none k (by omega),if_neg (by omega)];rfl
theorem Dq (h:Fg T M n):Fg (fun k=>if k=n then [] else T k) M (n+1):=by
 refine⟨fun k h1 h2=>?_,fun k h1=>h.none k (by omega)⟩
 by_cases d:k=n
 · subst d;simp[h.none k (Nat.le_refl _)]
 · simp only[if_neg d];exact h.get k h1 (by omega)
def JH (l:List Term):Option (List Term×Int):=ry l sig>>=fun v=>if decide (v.length=l.length) then some (v,0) else none
def JI (f:List Term→Option (List Term×Int))(r:Option (List Term)):Option (List Term×Int):=match r with
 | some l=>f l
 | none=>some ([],3)
theorem Mr (h:Inv2 sig cons ints T n out)(e:Fg T M n)(f:n≤7):K1 T M n:=
 ⟨e.get,e.none n (Nat.le_refl _),fun k t d=>Dn t (by
  have:=(h.Dx k t d).1
  rcases Nat.lt_or_ge k n with hk | hk
  · omega
  · rw[h.low k hk] at d;simp at d),h.len⟩
theorem XX (m:zN sig cons)(j:cons.length≤20)(k:ints.length≤20)(size:Nat)(u:size≤6):∀(d n:Nat) (T:Nat→List Term) (M:List (Int×List Term)) (out:List Term),size+1-n=d→1≤n→n≤size+1→Inv2 sig cons ints T n out→Fg T M n →
   ec sig cons ints size n out M=JI (JH sig) (wG sig cons ints d n T out):=by
 intro d
 induction d with
 | zero=>
   intro n T M out s h1 h2 h g
   rw[ec,if_neg (by simp;omega)]
   simp only[wG,JI,JH,AL]
 | succ d r=>
   intro n T M out s h1 h2 h g
   have e:=XW T sig cons ints M n size 0 sig (Mr sig cons ints h g (by omega)) h1 (by omega) m j k out h.LD
   rw[ec,if_pos (by simp;omega)]
   simp only[eS,Option.bind_eq_bind,Option.bind_some]
   rw[e]
   simp only[Option.bind_some,wG]
   have st:=xh sig cons ints h h1 m
   have f:=x9 (b:=false) (o:=out) (l:=lU T sig cons ints n)
   generalize aX (false,[],out) (lU T sig cons ints n)=p at st f
   obtain⟨b,x,y⟩:=p
   cases b with
   | true=>
     rw[if_pos rfl]
     by_cases hx:x=[]
     · subst hx;rfl
     · rw[show BP (true,x,y)=Sum.inr (Sum.inl (y,x)) by simp[BP,vS,hx]];rfl
   | false=>
     rw[if_neg (show ¬ (false,x,y).1=true by simp)]
     by_cases hx:x=[]
     · subst hx
       have:=f rfl
       simp only[iy,true_and] at this
       subst this
       show(if du .i64 ((n:Int)+1) then _ else none)=_
       rw[if_pos (az (by omega) (by omega)),show((n:Int)+1)=((n+1:Nat):Int) by omega]
       exact r (n+1) _ _ _ (by omega) (by omega) (by omega) (st rfl) (Dq g)
     · rw[show BP (false,x,y)=Sum.inr (Sum.inr (Sum.inl (y,x))) by simp[BP,vS,hx]]
       show(if du .i64 ((n:Int)+1) then _ else none)=_
       rw[if_pos (az (by omega) (by omega)),show((n:Int)+1)=((n+1:Nat):Int) by omega]
       exact r (n+1) _ _ _ (by omega) (by omega) (by omega) (st rfl) (Dp g x)
theorem XY (r:zN sig cons)(g:cons.length≤20)(j:ints.length≤20)(size:Nat)(u:size≤6):∀(d n:Nat) (T:Nat→List Term) (M:List (Int×List Term)),size+1-n=d→1≤n→n≤size+1→Inv2 sig cons ints T n []→Fg T M n →
   ed sig cons ints size n M=JI (JH sig) (wG sig cons ints d n T []):=by
 intro d
 induction d with
 | zero=>
   intro n T M v h1 h2 h m
   rw[ed,if_neg (by simp;omega)]
   simp[wG,JI,JH,Eb,ry]
 | succ d A=>
   intro n T M v h1 h2 h m
   have e:=aby T sig cons ints M n size 0 sig (Mr sig cons ints h m (by omega)) h1 (by omega) r g j
   rw[ed,if_pos (by simp;omega)]
   simp only[eS,Option.bind_eq_bind,Option.bind_some]
   rw[e]
   simp only[Option.bind_some,wG]
   have st:=xh sig cons ints h h1 r
   have f:=@Ig (lU T sig cons ints n)
   have k:=gm (false,[],[])
   generalize B:lU T sig cons ints n=l at f st
   generalize s:aX (false,[],[]) l=p at st f
   obtain⟨b,x,y⟩:=p
   by_cases hx:x=[]
   · subst hx
     have:=f rfl
     subst this
     rw[k] at s
     simp only[iy,true_and] at s
     obtain⟨rfl,rfl⟩:=s
     rw[if_neg (show ¬ (false,([]:List Term),([]:List Term)).1=true by simp)]
     show(if du .i64 ((n:Int)+1) then _ else none)=_
     rw[if_pos (az (by omega) (by omega)),show((n:Int)+1)=((n+1:Nat):Int) by omega]
     exact A (n+1) _ _ (by omega) (by omega) (by omega) (st rfl) (Dq m)
   · cases b with
     | true=>
       rw[if_pos rfl,show N0 (true,x,y)=Sum.inl (y,x) by simp[N0,Ar,hx]];rfl
     | false=>
       rw[if_neg (show ¬ (false,x,y).1=true by simp),show N0 (false,x,y)=Sum.inr (Sum.inl (y,x)) by simp[N0,Ar,hx]]
       show(if du .i64 ((n:Int)+1) then _ else none)=_
       rw[if_pos (az (by omega) (by omega)),show((n:Int)+1)=((n+1:Nat):Int) by omega]
       exact XX sig cons ints r g j size u d (n+1) _ _ _ (by omega) (by omega) (by omega) (st rfl) (Dp m x)
theorem Kz : Inv2 sig cons ints (fun _=>[]) 1 []:=⟨by simp,by simp,rfl,by simp,by simp,by simp,by simp⟩
theorem Ij : Fg (fun _=>[]) [] 1:=⟨by simp[cS],by simp[cS]⟩
end
def P8 (x y:Term):Bool:=decide (gj (key y) (key x)<0)
def sP (x:Term):List Term→List Term
 | []=>[x]
 | y::l=>if P8 x y then y::sP x l else x::y::l
def oq (o l:List Term):List Term:=l.foldl (fun o x=>sP x o) o
theorem Nx (x:Term)(e:List Term):∀ d:List Term,(∀ y∈d,P8 x y=true)→sP x (d++e)=d++sP x e:=by
 intro d
 induction d with
 | nil=>intro _;rfl
 | cons y d f=>
   intro h
   rw[List.cons_append,sP,if_pos (h y (by simp)),f fun z g=>h z (by simp[g])]
   rfl
theorem Ny (x:Term):∀ l,(sP x l).length=l.length+1:=by
 intro l
 induction l with
 | nil=>rfl
 | cons y l d=>rw[sP];split<;>simp[d]
theorem FY (x:Term):∀ l z,z∈sP x l→z=x∨z∈l:=by
 intro l
 induction l with
 | nil=>intro z h;simpa [sP] using h
 | cons y l d=>
   intro z h
   rw[sP] at h
   split at h
   · rcases List.mem_cons.1 h with h | h
     · right;simp[h]
     · rcases d z h with h | h
       · left;exact h
       · right;simp[h]
   · simpa using h
section
variable (sig : ae) (cons ints : List Int) (size : Nat) (L : List (List Term)) (q : Nat) (many : Int) (b : Bool)
theorem XZ (i j:Nat)(hi:i<L.length)(x:Term)(hx:dA L[i] (j:Int)=some x)(G:km x≤100)(H:j<1000):∀(e d:List Term),(∀ y∈d,P8 x y=true)→(∀ y∈d++e,km y≤100)→(d++e).length≤1000 →
   gE sig cons size i j (d++e) (d.length:Nat) many b L q=dm sig cons size i ((j+1:Nat):Int) (sP x (d++e)) many b L q:=by
 have fin:∀(d e:List Term),(∀ y∈d,P8 x y=true)→(d++e).length≤1000→sP x e=x::e →
   (if decide ((0:Int)≤(d.length:Nat)∧((d.length:Nat):Int)≤((d++e).length:Int)) then(if((d++e).take ((d.length:Nat):Int).toNat).isEmpty then(if decide ((0:Int)≤i∧(i:Int)<(((L.length+(0+q)):Nat):Int)) then(dA L (i:Int)>>=fun r=>dA r (j:Int)>>=fun g=>if decide ([g].length≤1048576) then(if decide ((0:Int)≤(d.length:Nat)∧((d.length:Nat):Int)≤((d++e).length:Int)) then(if decide ([g].length+((d++e).drop ((d.length:Nat):Int).toNat).length≤1048576) then(if du .i64 ((j:Int)+1) then(dm sig cons size i ((j:Int)+1) ([g]++((d++e).drop ((d.length:Nat):Int).toNat)) many b L q) else none) else none) else none) else none) else none) else(if decide (((d++e).take ((d.length:Nat):Int).toNat).length≤1048576) then(if decide ((0:Int)≤i∧(i:Int)<(((L.length+(0+q)):Nat):Int)) then(dA L (i:Int)>>=fun s=>dA s (j:Int)>>=fun h=>if decide (((d++e).take ((d.length:Nat):Int).toNat).length+[h].length≤1048576) then(if decide ((0:Int)≤(d.length:Nat)∧((d.length:Nat):Int)≤((d++e).length:Int)) then(if decide ((((d++e).take ((d.length:Nat):Int).toNat)++[h]).length+((d++e).drop ((d.length:Nat):Int).toNat).length≤1048576) then(if du .i64 ((j:Int)+1) then(dm sig cons size i ((j:Int)+1) ((((d++e).take ((d.length:Nat):Int).toNat)++[h])++((d++e).drop ((d.length:Nat):Int).toNat)) many b L q) else none) else none) else none) else none) else none) else none)) else none)
     = dm sig cons size i ((j+1:Nat):Int) (sP x (d++e)) many b L q:=by
   intro d e u m D
   simp only[List.length_append] at m
   rw[if_pos (by simp;omega)]
   simp only[Int.toNat_natCast,List.take_left,List.drop_left,bS hi,Option.bind_eq_bind,Option.bind_some,hx]
   have B:((j:Int)+1)=((j+1:Nat):Int):=by omega
   have C:du .i64 ((j:Int)+1)=true:=az (by omega) (by omega)
   rw[Nx x e d u,D]
   by_cases h0:d=[]
   · subst h0
     rw[if_pos (by rfl),if_pos (by simp;omega),if_pos (by simp),if_pos (by simp),if_pos (by simp at m ⊢;omega),if_pos C,B]
     rfl
   · rw[if_neg (by simpa using h0),if_pos (by simp;omega),if_pos (by simp;omega),if_pos (by simp;omega),if_pos (by simp;omega),if_pos (by simp;omega),if_pos C,B]
     simp
 intro e
 induction e with
 | nil=>
   intro d u A m
   rw[gE,if_neg (by simp)]
   exact fin d [] u m rfl
 | cons y e E=>
   intro d u A m
   have F:dA (d++y::e) ((d.length:Nat):Int)=some y:=by simp[dA]
   rw[gE,if_pos (by simp;omega),F]
   simp only[Option.bind_eq_bind,Option.bind_some]
   rw[if_pos (by simp;omega),bS hi]
   simp only[Option.bind_some,hx]
   rw[Bv 100 y x (A y (by simp)) (by have:=A y (by simp);omega) (by omega)]
   simp only[Option.bind_some]
   by_cases k:gj (key y) (key x)<0
   · rw[if_pos (by simpa using k),if_pos (az (by omega) (by simp at m;omega))]
     have:=E (d++[y]) (by
      intro z v
      rcases List.mem_append.1 v with v | v
      · exact u z v
      · rw[List.mem_singleton.1 v];simpa [P8] using k) (by simpa using A) (by simpa using m)
     simp only[List.append_assoc,List.singleton_append,List.length_append,List.length_singleton] at this
     rw[←this]
     congr 1
   · rw[if_neg (by simpa using k)]
     have f:=fin d (y::e) u m (by rw[sP,if_neg (by simpa [P8] using k)])
     rw[bS hi] at f
     simp only[Option.bind_eq_bind,Option.bind_some,hx] at f
     exact f
def aqW (L:List (List Term))(i j:Nat):List Term:=((L.drop i).head?.getD []).drop j++(L.drop (i+1)).flatten
theorem abz (E:L.length=size+1)(F:size≤6)(y:∀ l∈L,∀ t∈l,km t≤100)(s:∀ l∈L,l.length≤100):∀(d i:Nat),size+1-i=d→i≤size+1 →
   (∀ out:List Term,(∀ t∈out,km t≤100)→out.length+(L.drop i).flatten.length≤1000→kQ sig cons size out i many b L q=some (oq out (L.drop i).flatten,0)) ∧
   (∀ hi:i<L.length,∀(e j:Nat),L[i].length-j=e→j≤L[i].length→∀ out:List Term,(∀ t∈out,km t≤100)→out.length+(L[i].drop j++(L.drop (i+1)).flatten).length≤1000→dm sig cons size i j out many b L q=some (oq out (L[i].drop j++(L.drop (i+1)).flatten),0)):=by
 intro d
 induction d with
 | zero=>
   intro i A hi
   refine⟨fun out k f=>?_,fun h=>by omega⟩
   rw[kQ,if_neg (by simp;omega),List.drop_eq_nil_of_le (by omega)]
   rfl
 | succ d B=>
   intro i A hi
   have J:∀ hi:i<L.length,∀(e j:Nat),L[i].length-j=e→j≤L[i].length→∀ out:List Term,(∀ t∈out,km t≤100)→out.length+(L[i].drop j++(L.drop (i+1)).flatten).length≤1000→dm sig cons size i j out many b L q=some (oq out (L[i].drop j++(L.drop (i+1)).flatten),0):=by
    intro hi e
    have x:=List.getElem_mem hi
    induction e with
    | zero=>
      intro j C D out k f
      rw[dm,if_pos (by simp;omega),bS hi]
      simp only[Option.bind_eq_bind,Option.bind_some]
      rw[if_neg (by simp;omega),if_pos (az (by omega) (by omega)),show((i:Int)+1)=((i+1:Nat):Int) by omega]
      rw[List.drop_eq_nil_of_le (by omega:L[i].length≤j),List.nil_append] at f ⊢
      exact(B (i+1) (by omega) (by omega)).1 out k f
    | succ e u=>
      intro j C D out k f
      have g:j<L[i].length:=by omega
      have:=s _ x
      rw[dm,if_pos (by simp;omega),bS hi]
      simp only[Option.bind_eq_bind,Option.bind_some]
      rw[if_pos (by simpa using g)]
      have hx:=y _ x _ (List.getElem_mem g)
      rw[List.drop_eq_getElem_cons g] at f ⊢
      simp only[List.cons_append,List.length_cons] at f
      have v:=XZ sig cons size L q many b i j hi L[i][j] (bS g) hx (by omega) out [] (by simp) (by simpa using k) (by simp;omega)
      simp only[List.nil_append,List.length_nil] at v
      rw[show((0:Nat):Int)=0 from rfl] at v
      rw [v,u (j+1) (by omega) (by omega) _ (by
       intro t m
       rcases FY _ _ _ m with m | m
       · rw[m];exact hx
       · exact k t m) (by rw[Ny];omega)]
      rfl
   refine⟨fun out k f=>?_,J⟩
   have r:i<L.length:=by omega
   have e:(L.drop i).flatten=L[i].drop 0++(L.drop (i+1)).flatten:=by rw[List.drop_eq_getElem_cons r,List.flatten_cons,List.drop_zero]
   rw[kQ,if_pos (by simp;omega)]
   rw[e] at f ⊢
   exact J r _ 0 rfl (Nat.zero_le _) out k f
theorem abA (s:L.length=size+1)(u:size≤6)(j:∀ l∈L,∀ t∈l,km t≤100)(h:∀ l∈L,l.length≤100):∀(d i:Nat),size+1-i=d→i≤size+1→(L.drop i).flatten.length≤999 →
   kA sig cons size i many b L q=some (oq [] (L.drop i).flatten,0):=by
 intro d
 induction d with
 | zero=>
   intro i k hi g
   rw[kA,if_neg (by simp;omega),List.drop_eq_nil_of_le (by omega)]
   rfl
 | succ d v=>
   intro i k hi g
   have f:i<L.length:=by omega
   have x:=List.getElem_mem f
   rw[kA,if_pos (by simp;omega),nI,if_pos (by simp;omega),bS f]
   simp only[Option.bind_eq_bind,Option.bind_some]
   rw[List.drop_eq_getElem_cons f,List.flatten_cons] at g ⊢
   by_cases h0:0<L[i].length
   · rw[if_pos (by simpa using h0),qJ,if_pos (by simp;omega),bS f]
     simp only[Option.bind_eq_bind,Option.bind_some]
     have m:=bS h0
     rw[show((0:Nat):Int)=0 from rfl] at m
     rw[m]
     simp only[Option.bind_some]
     rw[if_pos (by simp),if_pos (by simp)]
     have e:L[i]=L[i][0]::L[i].drop 1:=by
      have:=List.drop_eq_getElem_cons h0
      simpa using this
     have hh:=(abz sig cons size L q many b s u j h (d+1) i k hi).2 f _ 1 rfl (by omega) ([L[i][0]]++[]) (by
      intro t r
      simp only[List.append_nil,List.mem_singleton] at r
      rw[r];exact j _ x _ (List.getElem_mem h0)) (by
      have:(L[i]++(L.drop (i+1)).flatten).length=(L[i][0]::(L[i].drop 1++(L.drop (i+1)).flatten)).length:=by
       conv=>lhs;rw[e]
       rfl
      simp only[List.length_cons] at this
      simp only[List.append_nil,List.length_singleton]
      omega)
     rw[show((1:Nat):Int)=1 from rfl] at hh
     rw[hh]
     conv=>rhs;rw[e]
     rfl
   · have e:L[i]=[]:=List.eq_nil_of_length_eq_zero (by omega)
     rw[if_neg (by simp[e]),if_pos (az (by omega) (by omega)),show((i:Int)+1)=((i+1:Nat):Int) by omega,e,List.nil_append]
     rw[e,List.nil_append] at g
     exact v (i+1) (by omega) (by omega) g
end
section
variable (T : Nat → List Term) (sig : ae) (cons ints : List Int) (size : Nat)
theorem Ik (n:Nat)(oM:Int)(nm:bK)(s:Int)(many:Int)(L:List (List Term))(q:Nat)(d:dA sig.Cons oM=some nm)(h1:0≤nm.dF)(h2:nm.dF≤4) :
  aS n oM [] s sig cons many true L q=some (Sum.inl true):=by
 rw[aS,d]
 simp only[Option.bind_eq_bind,Option.bind_some]
 rw[if_pos (az (by simp;omega) (by simp;omega)),if_pos (by trivial)]
theorem KA (f:zN sig cons)(k:cons.length≤20)(n:Nat)(m:n≤6)(many:Int)(L:List (List Term))(q:Nat)(g:1≤q):∀(d i:Nat),cons.length-i=d→i≤cons.length →
   fe sig cons ints size n i many true L q=dQ sig cons ints size ((n+1:Nat):Int) many true (L++[[]]) (q-1):=by
 intro d
 induction d with
 | zero=>
   intro i h hi
   rw[fe,if_neg (by simp;omega),if_pos (az (by omega) (by omega)),if_pos (by simpa using g),show((n:Int)+1)=((n+1:Nat):Int) by omega]
 | succ d j=>
   intro i h hi
   have e:i<cons.length:=by omega
   obtain⟨nm,h1,h2,h3⟩:=f _ (List.getElem_mem e)
   rw[fe,if_pos (by simpa using e),bS e]
   simp only[Option.bind_eq_bind,Option.bind_some]
   rw[if_pos (az (by omega) (by omega)),Ik sig cons n _ nm _ many L q h1 h2 h3]
   simp only[Option.bind_some]
   rw[if_pos (az (by omega) (by omega)),show((i:Int)+1)=((i+1:Nat):Int) by omega]
   exact j (i+1) (by omega) (by omega)
theorem PQ (r:size≤6)(f:zN sig cons)(e:cons.length≤20):∀(d n:Nat),size+1-n=d→2≤n→n≤size+1→∀(many:Int) (L:List (List Term)) (q:Nat),q=size+1-n →
   dQ sig cons ints size n many true L q=some ([],3):=by
 intro d
 induction d with
 | zero=>
   intro n g h2 j many L q k
   rw[dQ,if_neg (by simp;omega),if_pos rfl]
 | succ d m=>
   intro n g h2 j many L q k
   rw[dQ,if_pos (by simp;omega),jm]
   have:=KA sig cons ints size f e n (by omega) many L q (by omega) _ 0 rfl (Nat.zero_le _)
   rw[show((0:Nat):Int)=0 from rfl] at this
   have hh:=m (n+1) (by omega) (by omega) (by omega) many (L++[[]]) (q-1) (by omega)
   by_cases h:0<ints.length
   · rw[if_pos (by simpa using h),if_neg (by simp;omega),this,hh]
   · rw[if_neg (by simpa using h),this,hh]
def CR (n:Nat)(p:Bool×List Term×List Term)(L:List (List Term))(q:Nat):Option (List Term×Int):=dQ sig cons ints size ((n+1:Nat):Int) (p.2.2.length:Int) p.1 (L++[p.2.1]) q
theorem QD (m:zN sig cons)(x:cons.length≤20)(n:Nat)(y:1≤n)(r:n≤6)(L:List (List Term))(s:L.length=n)(h:∀ k:Nat,1≤k→k<n→dA L (k:Int)=some (T k))(j:∀ k,(T k).length≤100)(q:Nat):∀(d i:Nat),cons.length-i=d→i≤cons.length→∀ b e out,rO (b,e,out) →
   fb sig cons ints size n i (out.length:Int) b L q e=CR sig cons ints size n (aX (b,e,out) ((cons.drop i).flatMap (mH T sig n))) L q:=by
 intro d
 induction d with
 | zero=>
   intro i u hi b e out g
   rw[fb,if_neg (by simp;omega),if_pos (az (by omega) (by omega)),List.drop_eq_nil_of_le (by omega),show((n:Int)+1)=((n+1:Nat):Int) by omega]
   rfl
 | succ d v=>
   intro i u hi b e out g
   have f:i<cons.length:=by omega
   obtain⟨nm,h1,h2,h3⟩:=s4 sig cons m i f
   rw[fb,if_pos (by simpa using f),bS f]
   simp only[Option.bind_eq_bind,Option.bind_some]
   rw[if_pos (az (by omega) (by omega)),show(n:Int)-1=((n-1:Nat):Int) by omega]
   rw[FW T sig cons n cons[i] nm L s r h h1 j (nt sig cons[i]) (n-1) [] (by simpa using h2) (by simpa using h3) (by omega) b e out q g]
   simp only[Option.bind_some,List.nil_append]
   rw[List.drop_eq_getElem_cons f,List.flatMap_cons,gV,if_pos (az (by omega) (by omega)),show((i:Int)+1)=((i+1:Nat):Int) by omega]
   exact v (i+1) (by omega) (by omega) _ _ _ (iI g (mH T sig n cons[i]))
theorem abB (s:zN sig cons)(m:cons.length≤20)(n:Nat)(r:1≤n)(u:n≤6)(L:List (List Term))(v:L.length=n)(h:∀ k:Nat,1≤k→k<n→dA L (k:Int)=some (T k))(j:∀ k,(T k).length≤100)(q:Nat)(x:1≤q)(out:List Term)(y:out.length≤100):∀(d i:Nat),cons.length-i=d→i≤cons.length→∀ b,
   fe sig cons ints size n i (out.length:Int) b L q=CR sig cons ints size n (aX (b,[],out) ((cons.drop i).flatMap (mH T sig n))) L (q-1):=by
 intro d
 induction d with
 | zero=>
   intro i A hi b
   rw[fe,if_neg (by simp;omega),if_pos (az (by omega) (by omega)),if_pos (by simpa using x),List.drop_eq_nil_of_le (by omega),show((n:Int)+1)=((n+1:Nat):Int) by omega]
   rfl
 | succ d B=>
   intro i A hi b
   have e:i<cons.length:=by omega
   obtain⟨nm,h1,h2,h3⟩:=s4 sig cons s i e
   rw[fe,if_pos (by simpa using e),bS e]
   simp only[Option.bind_eq_bind,Option.bind_some]
   rw[if_pos (az (by omega) (by omega)),show(n:Int)-1=((n-1:Nat):Int) by omega]
   rw[Nu T sig cons n cons[i] nm L v u h h1 j out y q x (nt sig cons[i]) (n-1) [] (by simpa using h2) (by simpa using h3) (by omega) b]
   simp only[Option.bind_some,List.nil_append]
   rw[List.drop_eq_getElem_cons e,List.flatMap_cons,gV]
   have f:=iI (p:=(b,[],out)) (by simp only[rO,List.length_nil];omega) (mH T sig n cons[i])
   have g:=x9 (b:=b) (o:=out) (l:=mH T sig n cons[i])
   rw[mH] at f g ⊢
   generalize aX (b,[],out) ((dg T (nt sig cons[i]) (n-1)).map fun l=>Term.mk 3 cons[i] l)=p at f g
   by_cases hx:p.2.1=[]
   · rw[g hx,show sT (p.1,[],out) q=Sum.inl p.1 from if_pos rfl]
     dsimp only
     rw[if_pos (az (by omega) (by omega)),show((i:Int)+1)=((i+1:Nat):Int) by omega]
     exact B (i+1) (by omega) (by omega) _
   · rw[show sT p q=Sum.inr (vJ p (q-1)) from if_neg hx]
     dsimp only
     rw[if_pos (az (by omega) (by omega)),show((i:Int)+1)=((i+1:Nat):Int) by omega]
     exact QD T sig cons ints size s m n r u L v h j (q-1) d (i+1) (by omega) (by omega) _ _ _ f
theorem abC (x:zN sig cons)(r:cons.length≤20)(B:ints.length≤20)(L:List (List Term))(v:L.length=1)(s:∀ k,(T k).length≤100)(q:Nat):∀(d i:Nat),ints.length-i=d→i≤ints.length→∀ f out,rO (false,f,out)→out.length≤i →
   jn sig cons ints size 1 i (out.length:Int) false L q f=CR sig cons ints size 1 (aX (false,f,out) (iz ints 1 i++cons.flatMap (mH T sig 1))) L q:=by
 intro d
 induction d with
 | zero=>
   intro i y hi f out j u
   rw[jn,if_neg (by simp;omega),show iz ints 1 i=[] by simp[iz,List.drop_eq_nil_of_le (show ints.length≤i by omega)]]
   simpa using QD T sig cons ints size x r 1 (by omega) (by omega) L v (by omega) s q _ 0 rfl (Nat.zero_le _) false f out j
 | succ d A=>
   intro i y hi f out j u
   have g:i<ints.length:=by omega
   rw[jn,if_pos (by simpa using g),if_pos (by rfl),bS g]
   simp only[Option.bind_eq_bind,Option.bind_some]
   have m:=Dl 1 (Term.mk 2 ints[i] []) sig cons f out L q v j
   rw[show((1:Nat):Int)=1 from rfl] at m
   have e:j6 (false,f,out) (Term.mk 2 ints[i] [])=(false,f++[Term.mk 2 ints[i] []],out++[Term.mk 2 ints[i] []]):=by simp[j6,show ¬ out.length=100 by omega]
   have h:=uV j (Term.mk 2 ints[i] [])
   rw[e] at m h
   rw[m]
   simp only[Option.bind_some]
   rw[if_pos (az (by omega) (by omega)),show((i:Int)+1)=((i+1:Nat):Int) by omega,show iz ints 1 i=Term.mk 2 ints[i] []::iz ints 1 (i+1) by rw[iz,iz,if_pos rfl,if_pos rfl,List.drop_eq_getElem_cons g];rfl,List.cons_append,eI,e]
   exact A (i+1) (by omega) (by omega) _ _ h (by simp;omega)
theorem abD (r:zN sig cons)(d:cons.length≤20)(g:ints.length≤20)(n:Nat)(j:1≤n)(x:n≤6)(L:List (List Term))(f:L.length=n)(m:∀ k:Nat,1≤k→k<n→dA L (k:Int)=some (T k))(e:∀ k,(T k).length≤100)(q:Nat)(s:1≤q)(out:List Term)(y:out.length≤100)(h0:n=1→out=[]) :
   jm sig cons ints size n 0 (out.length:Int) false L q=CR sig cons ints size n (aX (false,[],out) (lU T sig cons ints n)) L (q-1):=by
 have v5:=abB T sig cons ints size r d n j x L f m e q s out y _ 0 rfl (Nat.zero_le _) false
 simp only[List.drop_zero] at v5
 rw[show((0:Nat):Int)=0 from rfl] at v5
 rw[jm]
 by_cases h:0<ints.length
 · rw[if_pos (by simpa using h)]
   by_cases h1:n=1
   · have:=h0 h1
     subst this
     subst h1
     have u:=bS h
     rw[show((0:Nat):Int)=0 from rfl] at u
     rw[if_pos (by rfl),u]
     simp only[Option.bind_eq_bind,Option.bind_some]
     have v:=Dm 1 (Term.mk 2 ints[0] []) sig cons [] L q f s false (by simp[rO])
     rw[show((1:Nat):Int)=1 from rfl] at v
     rw[v,if_neg (by simp)]
     simp only[Option.bind_some]
     rw[if_pos (by decide),lU,show iz ints 1 0=Term.mk 2 ints[0] []::iz ints 1 1 by rw[iz,iz,if_pos rfl,if_pos rfl,List.drop_eq_getElem_cons h];rfl,List.cons_append,eI]
     exact abC T sig cons ints size r d g L f e (q-1) _ 1 rfl (by omega) _ _ (uV (p:=(false,[],[])) (by simp[rO]) _) (by simp[j6])
   · rw[if_neg (by simp;omega),v5,lU,iz,if_neg h1];rfl
 · rw[if_neg (by simpa using h),v5,lU,show iz ints n 0=[] by simp[iz,List.eq_nil_of_length_eq_zero (show ints.length=0 by omega)]];rfl
end
def abc (l:List Term):Option (List Term×Int):=some (oq [] l,0)
theorem abE (sig:ae)(cons ints:List Int)(j:zN sig cons)(f:cons.length≤20)(r:ints.length≤20)(size:Nat)(u:size≤6):∀(d n:Nat) (T:Nat→List Term) (out:List Term),size+1-n=d→1≤n→n≤size+1→Inv2 sig cons ints T n out →
   dQ sig cons ints size n (out.length:Int) false ((List.range n).map T) (size+1-n)=JI abc (wG sig cons ints d n T out):=by
 intro d
 induction d with
 | zero=>
   intro n T out A h1 h2 h
   have B:n=size+1:=by omega
   subst B
   rw[dQ,if_neg (by simp;omega),if_neg (by simp)]
   simp only[wG,JI,abc]
   have v:(((List.range (size+1)).map T).drop 1).flatten=out:=by
     rw[h.flat,List.range_succ_eq_map,List.map_cons,List.drop_one,List.tail_cons,List.flatMap_cons,h.Xl]
     simp[List.flatMap]
   have:=abA sig cons size ((List.range (size+1)).map T) (size+1-(size+1)) (out.length:Int) false (by simp) u (by
     intro l m t C
     obtain⟨k,g,rfl⟩:=List.mem_map.1 m
     have:=(h.Dx k t C).1
     have:=List.mem_range.1 g
     omega) (by
     intro l m
     obtain⟨k,g,rfl⟩:=List.mem_map.1 m
     exact h.len k) _ 1 rfl (by omega) (by rw[v];have:=h.LD;omega)
   rw[v] at this
   exact this
 | succ d D=>
   intro n T out A h1 h2 h
   rw[dQ,if_pos (by simp;omega)]
   rw [abD T sig cons ints size j f r n h1 (by omega) ((List.range n).map T) (by simp) (by
     intro k E s
     rw[bS (by simpa using s)];simp) h.len (size+1-n) (by omega) out h.LD (by
     intro e
     rw[h.flat,e]
     simp[h.Xl])]
   simp only[wG]
   have st:=xh sig cons ints h h1 j
   generalize aX (false,[],out) (lU T sig cons ints n)=p at st
   obtain⟨b,x,y⟩:=p
   cases b with
   | true=>
     rw[if_pos rfl,CR]
     exact PQ sig cons ints size u j f _ (n+1) rfl (by omega) (by omega) _ _ _ (by omega)
   | false=>
     rw[if_neg (show ¬ (false,x,y).1=true by simp),CR]
     have:=D (n+1) _ y (by omega) (by omega) (by omega) (st rfl)
     rw[←this]
     rw[List.range_succ,List.map_append,show(size+1-n-1)=size+1-(n+1) by omega]
     congr 1
     rw[List.map_singleton,if_pos rfl]
     congr 1
     refine List.map_congr_left fun k g=>?_
     rw[if_neg (by have:=List.mem_range.1 g;omega)]
def Fh (b:UInt8):Bool:=(decide (97≤b.toNat)&&decide (b.toNat≤122))||(decide (65≤b.toNat)&&decide (b.toNat≤90))
def lX (s:ByteArray):Bool:=s.data.toList.all Fh&&(decide (1≤s.size)&&decide (s.size≤8))
theorem yb (s:ByteArray):s.size=s.data.toList.length:=(Array.length_toList).symm
theorem PR {s:ByteArray}(h:i<s.data.toList.length):om s (i:Int)=some ((s.data.toList[i].toNat:Nat):Int):=by
 have h2:i<s.size:=by rw[yb];exact h
 simp only[om,show(0:Int)≤i by omega,if_true,Int.toNat_natCast]
 rw[getElem?_pos s i h2]
 simp[ByteArray.get,ByteArray.getElem_eq_getElem_data]
theorem tc (a b c:Int):dO a b c=some (decide (b≤a∧a≤c)):=by
 unfold dO
 by_cases h1:b≤a
 · by_cases h2:a≤c<;>simp[h1,h2]
 · simp[h1]
theorem IL (a b c:Int):ux a b c=some (decide (b≤a)&&decide (a≤c)):=by
 unfold ux
 by_cases h1:b≤a
 · by_cases h2:a≤c<;>simp[h1,h2]
 · simp[h1]
theorem yc (a b c:Int):xX a b c=some (decide (b≤a)&&decide (a≤c)):=by
 unfold xX
 by_cases h1:b≤a
 · by_cases h2:a≤c<;>simp[h1,h2]
 · simp[h1]
theorem wc (a b c:Int):dO a b c=some (decide (b≤a)&&decide (a≤c)):=by
 rw[tc];simp
theorem KB (s:ByteArray)(v:s.size≤30):∀(d i:Nat),s.data.toList.length-i=d→i≤s.data.toList.length→iL s i=some ((s.data.toList.drop i).all Fh&&(decide (1≤s.size)&&decide (s.size≤8))):=by
 have u:=yb s
 intro d
 induction d with
 | zero=>
   intro i j hi
   rw[iL,if_neg (by simp;omega),IL,List.drop_eq_nil_of_le (by omega)]
   simp only[Option.bind_eq_bind,Option.bind_some,List.all_nil,Bool.true_and]
   have k:decide ((1:Int)≤(s.size:Int))=decide (1≤s.size):=by simp;omega
   have m:decide ((s.size:Int)≤8)=decide (s.size≤8):=by simp;omega
   rw[k,m]
   cases (decide (1≤s.size)&&decide (s.size≤8))<;>rfl
 | succ d r=>
   intro i j hi
   have e:i<s.data.toList.length:=by omega
   have nx:=r (i+1) (by omega) (by omega)
   rw[iL,if_pos (by simp;omega),PR e]
   simp only[Option.bind_eq_bind,Option.bind_some]
   rw[List.drop_eq_getElem_cons e,List.all_cons]
   have g:du .i64 ((i:Int)+1)=true:=az (by omega) (by omega)
   have h:((i:Int)+1)=((i+1:Nat):Int):=by omega
   generalize s.data.toList[i]=b at *
   have f:Fh b=((decide (97≤b.toNat)&&decide (b.toNat≤122))||(decide (65≤b.toNat)&&decide (b.toNat≤90))):=rfl
   have key:∀(x:Option Bool),(if decide (((b.toNat:Nat):Int)<65) then some false else(if decide (((b.toNat:Nat):Int)>90) then some false else(if du .i64 ((i:Int)+1) then iL s ((i:Int)+1) else none)))=some ((decide (65≤b.toNat)&&decide (b.toNat≤90))&&((s.data.toList.drop (i+1)).all Fh&&(decide (1≤s.size)&&decide (s.size≤8)))):=by
     intro _
     by_cases h1:b.toNat<65
     · rw[if_pos (by simp;omega),show decide (65≤b.toNat)=false by simp;omega];rfl
     · rw[if_neg (by simp;omega),show decide (65≤b.toNat)=true by simp;omega]
       by_cases h2:b.toNat>90
       · rw[if_pos (by simp;omega),show decide (b.toNat≤90)=false by simp;omega];rfl
       · rw[if_neg (by simp;omega),show decide (b.toNat≤90)=true by simp;omega,if_pos g,h,nx];rfl
   by_cases h1:b.toNat<97
   · rw[if_pos (by simp;omega),key none,f,show decide (97≤b.toNat)=false by simp;omega];simp[Bool.and_assoc]
   · rw[if_neg (by simp;omega)]
     by_cases h2:b.toNat>122
     · rw[if_pos (by simp;omega),key none,f,show decide (b.toNat≤122)=false by simp;omega];simp[Bool.and_assoc]
     · rw[if_neg (by simp;omega),if_pos g,h,nx,f,show decide (b.toNat≤122)=true by simp;omega,show decide (97≤b.toNat)=true by simp;omega];simp
theorem Jb (s:ByteArray)(d:s.size≤30):sZ s=some (lX s):=by
 rw[sZ]
 exact KB s d _ 0 rfl (Nat.zero_le _)
theorem KC (s:ByteArray)(p:Nat)(h:p<s.data.toList.length):(s.data.toList[p].toNat<128∧Utf8.decode s p=(s.data.toList[p].toNat,1))∨(128≤s.data.toList[p].toNat∧128≤(Utf8.decode s p).1):=by
 have e:(s.get! (p+0)).toNat=s.data.toList[p].toNat:=by
   have d:p<s.data.size:=by simpa using h
   show(s.data[p]!).toNat=_
   rw[getElem!_pos s.data p d];simp
 by_cases h1:s.data.toList[p].toNat<128
 · left
   refine⟨h1,?_⟩
   unfold Utf8.decode
   simp only[e]
   rw[if_pos h1]
 · right
   refine⟨by omega,?_⟩
   unfold Utf8.decode
   simp only[e]
   rw[if_neg h1]
   simp only[Utf8.runeError,ge_iff_le,Bool.and_eq_true,decide_eq_true_eq]
   split
   · split<;>simp_all
   · split
     · split
       · rename_i h2;simp only;omega
       · simp
     · split
       · split
         · rename_i h2;simp only;omega
         · simp
       · simp
theorem EF (s:ByteArray)(x:s.size≤30):∀(d i:Nat),s.data.toList.length-i=d→i≤s.data.toList.length→eu s i=some ((s.data.toList.drop i).all Fh&&(decide (1≤s.size)&&decide (s.size≤8))):=by
 have u:=yb s
 intro d
 induction d with
 | zero=>
   intro i g hi
   rw[eu,if_neg (by simp;omega),wc,List.drop_eq_nil_of_le (by omega)]
   simp only[Option.bind_eq_bind,Option.bind_some,List.all_nil,Bool.true_and]
   have j:decide ((1:Int)≤(s.size:Int))=decide (1≤s.size):=by simp;omega
   have k:decide ((s.size:Int)≤8)=decide (s.size≤8):=by simp;omega
   rw[j,k]
   cases (decide (1≤s.size)&&decide (s.size≤8))<;>rfl
 | succ d m=>
   intro i g hi
   have f:i<s.data.toList.length:=by omega
   have nx:=m (i+1) (by omega) (by omega)
   rw[eu,if_pos (by simp;omega),List.drop_eq_getElem_cons f,List.all_cons]
   have g:=KC s i f
   generalize v:s.data.toList[i]=b at *
   have h:Fh b=((decide (97≤b.toNat)&&decide (b.toNat≤122))||(decide (65≤b.toNat)&&decide (b.toNat≤90))):=rfl
   rcases g with⟨h1,h2⟩ | ⟨h1,h2⟩
   · rw[h2]
     simp only
     have key:(if decide ((65:Int)≤((b.toNat:Nat):Int)) then(if decide (((b.toNat:Nat):Int)≤90) then(eu s (i+1)) else(some false)) else(some false))=some ((decide (65≤b.toNat)&&decide (b.toNat≤90))&&((s.data.toList.drop (i+1)).all Fh&&(decide (1≤s.size)&&decide (s.size≤8)))):=by
       by_cases h1:65≤b.toNat
       · rw[if_pos (by simp;omega),show decide (65≤b.toNat)=true by simp;omega]
         by_cases h2:b.toNat≤90
         · rw[if_pos (by simp;omega),show decide (b.toNat≤90)=true by simp;omega,nx];rfl
         · rw[if_neg (by simp;omega),show decide (b.toNat≤90)=false by simp;omega];rfl
       · rw[if_neg (by simp;omega),show decide (65≤b.toNat)=false by simp;omega];rfl
     rw[key,h]
     by_cases h1:97≤b.toNat
     · rw[if_pos (by simp;omega),show decide (97≤b.toNat)=true by simp;omega]
       by_cases h2:b.toNat≤122
       · rw[if_pos (by simp;omega),show decide (b.toNat≤122)=true by simp;omega,nx];simp
       · rw[if_neg (by simp;omega),show decide (b.toNat≤122)=false by simp;omega];simp[Bool.and_assoc]
     · rw[if_neg (by simp;omega),show decide (97≤b.toNat)=false by simp;omega];simp[Bool.and_assoc]
   · have e:Fh b=false:=by rw[h];simp;omega
     rw[e]
     generalize (Utf8.decode s i).1=r at h2
     rw[if_pos (by simp;omega),if_neg (by simp;omega),if_pos (by simp;omega),if_neg (by simp;omega)]
     rfl
theorem Il (s:ByteArray)(d:s.size≤30):nF s=some (lX s):=by
 rw[nF]
 exact EF s d _ 0 rfl (Nat.zero_le _)
def seenIn (seen:List ByteArray)(k:ByteArray):Bool:=seen.any fun a=>a.data.toList==k.data.toList
def lY (n:Int):Bool:=decide (0≤n)&&decide (n≤4)
theorem Jc (n:Int):(decide (0≤n)&&decide (n≤4))=lY n:=rfl
def ku : List bK→List ByteArray→Bool
 | [],_=>true
 | x::l,seen => !seenIn seen x.Name&&(lX x.Name&&(lY x.dF&&ku l (seen++[x.Name])))
theorem FZ (k a:ByteArray):YN k a=(a.data.toList==k.data.toList):=BEq.comm
theorem Im (k:ByteArray):∀ seen:List ByteArray,tP (seen.map fun a=>(a,true)) k=if seenIn seen k then some true else none:=by
 intro seen
 induction seen with
 | nil=>rfl
 | cons a l d=>
   simp only[List.map_cons,tP,seenIn,List.any_cons,FZ]
   by_cases h:(a.data.toList==k.data.toList)=true
   · simp[h]
   · simp only[h,Bool.false_eq_true,if_false,Bool.false_or]
     exact d
theorem Io (k:ByteArray):∀ seen:List ByteArray,seenIn seen k=false→qC (seen.map fun a=>(a,true)) k true=(seen++[k]).map fun a=>(a,true):=by
 intro seen
 induction seen with
 | nil=>intro _;rfl
 | cons a l d=>
   intro h
   simp only[seenIn,List.any_cons,Bool.or_eq_false_iff] at h
   simp only[List.map_cons,qC,FZ,List.cons_append,h.1]
   simp only[Bool.false_eq_true,if_false,List.cons.injEq,true_and]
   exact d h.2
theorem Ip (x:bK)(hx:x.Name.size≤30)(seen:List ByteArray):∃ m,dt x (seen.map fun a=>(a,true))=some (m,!seenIn seen x.Name&&(lX x.Name&&lY x.dF))∧(seenIn seen x.Name=false→m=(seen++[x.Name]).map fun a=>(a,true)):=by
 refine⟨qC (seen.map fun a=>(a,true)) x.Name true,?_,Io _ _⟩
 rw[dt,Im]
 by_cases h:seenIn seen x.Name=true
 · simp[h]
 · simp only[h,Bool.false_eq_true,if_false,Option.getD_none,Il x.Name hx,wc,Option.bind_eq_bind,Option.bind_some,Bool.not_false,Bool.true_and]
   by_cases h2:lX x.Name=true
   · simp only[h2,if_true,Bool.true_and,lY]
     cases (decide (0≤x.dF)&&decide (x.dF≤4))<;>rfl
   · simp[h2]
theorem y7 (l:List bK)(h:∀ x∈l,x.Name.size≤30)(A:l.length≤20):∀(d i:Nat) (seen:List ByteArray),l.length-i=d→i≤l.length→∃ m,aL l i (seen.map fun a=>(a,true))=some (m,ku (l.drop i) seen)∧(ku (l.drop i) seen=true→m=(seen++(l.drop i).map (·.Name)).map fun a=>(a,true)):=by
 intro d
 induction d with
 | zero=>
   intro i seen j hi
   rw[aL,if_neg (by simp;omega),List.drop_eq_nil_of_le (by omega)]
   exact⟨_,rfl,fun _=>by simp⟩
 | succ d k=>
   intro i seen j hi
   have f:i<l.length:=by omega
   obtain⟨m,h1,h2⟩:=Ip l[i] (h _ (List.getElem_mem f)) seen
   rw[aL,if_pos (by simpa using f),bS f]
   simp only[Option.bind_eq_bind,Option.bind_some,h1]
   rw[List.drop_eq_getElem_cons f,ku]
   cases r:seenIn seen l[i].Name with
   | true=>exact⟨m,by simp,by simp⟩
   | false=>
     have s:=h2 r
     subst s
     by_cases g:lX l[i].Name=true∧lY l[i].dF=true
     · obtain⟨m,u,v⟩:=k (i+1) (seen++[l[i].Name]) (by omega) (by omega)
       simp only[g.1,g.2,Bool.not_false,Bool.true_and,if_true]
       rw[if_pos (az (by omega) (by omega)),show((i:Int)+1)=((i+1:Nat):Int) by omega]
       exact⟨m,u,fun e=>by rw[v e,List.append_assoc];rfl⟩
     · have e:(lX l[i].Name&&lY l[i].dF)=false:=by
        cases h1:lX l[i].Name<;>cases h2:lY l[i].dF<;>simp_all
       have y:∀ X,(lX l[i].Name&&(lY l[i].dF&&X))=false:=fun X=>by rw[←Bool.and_assoc,e];rfl
       rw[y,e]
       exact⟨_,rfl,fun e=>by simp at e⟩
theorem Dr (a:ByteArray)(l:List ByteArray)(k:ByteArray):seenIn (a::l) k=((a.data.toList==k.data.toList)||seenIn l k):=rfl
def xO (l:List bK)(seen:List ByteArray):List ByteArray×Bool:=if ku l seen then(seen++l.map (·.Name),true) else([],false)
theorem Ds (x:bK)(l:List bK)(seen:List ByteArray):xO (x::l) seen=if seenIn seen x.Name then([],false) else if lX x.Name&&lY x.dF then xO l (seen++[x.Name]) else([],false):=by
 have e:ku (x::l) seen=(!seenIn seen x.Name&&(lX x.Name&&(lY x.dF&&ku l (seen++[x.Name])))):=rfl
 unfold xO
 by_cases h1:seenIn seen x.Name=true
 · simp[h1,e]
 · by_cases h2:lX x.Name=true
   · by_cases h3:lY x.dF=true
     · simp[h1,h2,h3,e]
     · simp[h1,h2,h3,e]
   · simp[h1,h2,e]
theorem GG (l:List bK)(m:∀ x∈l,x.Name.size≤30)(A:l.length≤20):∀(d i:Nat),l.length-i=d→i≤l.length→∀ seen:List ByteArray,seen.length+d≤50→jj l i seen=some (xO (l.drop i) seen):=by
 intro d
 induction d with
 | zero=>
   intro i r hi seen s
   rw[jj,if_neg (by simp;omega),List.drop_eq_nil_of_le (by omega)]
   simp[xO,ku]
 | succ d u=>
   intro i r hi seen s
   have f:i<l.length:=by omega
   have hx:=m _ (List.getElem_mem f)
   rw[jj,if_pos (by simpa using f),List.drop_eq_getElem_cons f]
   have J:∀(e j:Nat),seen.length-j=e→j≤seen.length→ji l i seen j=some (if seenIn (seen.drop j) l[i].Name then([],false) else if lX l[i].Name&&lY l[i].dF then xO (l.drop (i+1)) (seen++[l[i].Name]) else([],false)):=by
    intro e
    induction e with
    | zero=>
      intro j v y
      rw[ji,if_neg (by simp;omega),List.drop_eq_nil_of_le (by omega),bS f]
      simp only[Option.bind_eq_bind,Option.bind_some,Jb _ hx,IL,seenIn,List.any_nil,Bool.false_eq_true,if_false]
      by_cases h1:lX l[i].Name=true
      · simp only[h1,if_true,Bool.true_and]
        rw[Jc]
        by_cases h2:lY l[i].dF=true
        · simp only[h2,if_true]
          have nx:=u (i+1) (by omega) (by omega) (seen++[l[i].Name]) (by simp;omega)
          by_cases h3:seen=[]
          · subst h3
            rw[if_pos (by rfl),if_pos (az (by omega) (by omega)),show((i:Int)+1)=((i+1:Nat):Int) by omega]
            exact nx
          · rw[if_neg (by simpa using h3),if_pos (by simp;omega),if_pos (by simp;omega),if_pos (az (by omega) (by omega)),show((i:Int)+1)=((i+1:Nat):Int) by omega]
            exact nx
        · simp[h2]
      · simp[h1]
    | succ e k=>
      intro j v y
      have g:j<seen.length:=by omega
      rw[ji,if_pos (by simpa using g),bS g,bS f]
      simp only[Option.bind_eq_bind,Option.bind_some]
      rw[List.drop_eq_getElem_cons g,Dr]
      by_cases h:(seen[j].data.toList==l[i].Name.data.toList)=true
      · rw[if_pos h];simp[h]
      · rw[if_neg h,if_pos (az (by omega) (by omega)),show((j:Int)+1)=((j+1:Nat):Int) by omega,k (j+1) (by omega) (by omega)]
        simp only[h,Bool.false_or]
   have:=J _ 0 rfl (Nat.zero_le _)
   rw[show((0:Nat):Int)=0 from rfl] at this
   rw[this,List.drop_zero,Ds]
theorem Dt (l:List bK)(m:∀ x∈l,x.Name.size≤30)(g:l.length≤20)(seen:List ByteArray)(u:seen.length≤20):qX l seen=some (xO l seen):=by
 rw[qX,sr]
 by_cases h0:0<l.length
 · rw[if_pos (by simpa using h0)]
   have hx:=m _ (List.getElem_mem h0)
   have f:=bS h0
   rw[show((0:Nat):Int)=0 from rfl] at f
   have J:∀(e j:Nat),seen.length-j=e→j≤seen.length→kc l seen j=some (if seenIn (seen.drop j) l[0].Name then([],false) else if lX l[0].Name&&lY l[0].dF then xO (l.drop 1) (seen++[l[0].Name]) else([],false)):=by
    intro e
    induction e with
    | zero=>
      intro j r s
      rw[kc,if_neg (by simp;omega),List.drop_eq_nil_of_le (by omega),f]
      simp only[Option.bind_eq_bind,Option.bind_some,Jb _ hx,IL,seenIn,List.any_nil,Bool.false_eq_true,if_false]
      by_cases h1:lX l[0].Name=true
      · simp only[h1,if_true,Bool.true_and]
        rw[Jc]
        by_cases h2:lY l[0].dF=true
        · simp only[h2,if_true]
          have nx:=GG l m g _ 1 rfl (by omega) (seen++[l[0].Name]) (by simp;omega)
          rw[show((1:Nat):Int)=1 from rfl] at nx
          by_cases h3:seen=[]
          · subst h3
            rw[if_pos (by rfl)]
            exact nx
          · rw[if_neg (by simpa using h3),if_pos (by simp;omega),if_pos (by simp;omega)]
            exact nx
        · simp[h2]
      · simp[h1]
    | succ e k=>
      intro j r s
      have d:j<seen.length:=by omega
      rw[kc,if_pos (by simpa using d),bS d,f]
      simp only[Option.bind_eq_bind,Option.bind_some]
      rw[List.drop_eq_getElem_cons d,Dr]
      by_cases h:(seen[j].data.toList==l[0].Name.data.toList)=true
      · rw[if_pos h];simp[h]
      · rw[if_neg h,if_pos (az (by omega) (by omega)),show((j:Int)+1)=((j+1:Nat):Int) by omega,k (j+1) (by omega) (by omega)]
        simp only[h,Bool.false_or]
   have:=J _ 0 rfl (Nat.zero_le _)
   rw[show((0:Nat):Int)=0 from rfl] at this
   have el:l=l[0]::l.drop 1:=by
    have:=List.drop_eq_getElem_cons h0
    simpa using this
   rw[this,List.drop_zero]
   conv=>rhs;rw[el]
   rw[Ds]
 · have:l=[]:=List.eq_nil_of_length_eq_zero (by omega)
   subst this
   rw[if_neg (by simp)]
   simp[xO,ku]
def P9 (x:bK)(s:ByteArray):Bool:=[(x.Name.data.toList==s.data.toList),(x.dF==0)].all id
theorem EG : ∀(l:List bK) (seen:List ByteArray),ku l seen=true→∀ x∈l,0≤x.dF∧x.dF≤4:=by
 intro l
 induction l with
 | nil=>intro seen _ x hx;simp at hx
 | cons a l d=>
   intro seen h x hx
   simp only[ku,Bool.and_eq_true,lY,decide_eq_true_eq] at h
   rcases List.mem_cons.1 hx with e | hx
   · rw[e];exact h.2.2.1
   · exact d _ h.2.2.2 x hx
theorem X0 (s:ae)(h1:∀ x∈s.Cons,x.Name.size≤30)(h2:∀ x∈s.gR,x.Name.size≤30):(sh s=some false∧fF s=some 2)∨(sh s=some true∧fF s=some 0∧s.Cons.length≤12∧∀ x∈s.Cons,0≤x.dF∧x.dF≤4):=by
 rw[sh,fF,IL,wc]
 simp only[Option.bind_eq_bind,Option.bind_some]
 by_cases d:2≤s.Cons.length∧s.Cons.length≤12
 · rw[show(decide ((2:Int)≤(s.Cons.length:Int))&&decide ((s.Cons.length:Int)≤12))=true by simp;omega]
   simp only[if_true]
   by_cases v:s.gR.length≤8
   · rw[if_neg (by simp;omega),if_neg (by simp;omega)]
     obtain⟨C,g⟩:=s
     simp only at d v h1 h2 ⊢
     match C,d with
     | a::b::C,d=>
       simp only[List.length_cons] at d
       obtain⟨m,j,k⟩:=y7 (a::b::C) h1 (by simp;omega) _ 0 [] rfl (Nat.zero_le _)
       simp only[List.drop_zero,List.map_nil,List.nil_append] at j k
       rw[show((0:Nat):Int)=0 from rfl] at j
       rw[bu,j]
       rw[show dA (a::b::C) 0=some a from rfl,show dA (a::b::C) 1=some b from rfl]
       simp only[Option.bind_some,Dt (a::b::C) h1 (by simp;omega) [] (by simp)]
       rw[show [(a.Name.data.toList==(⟨#[70,97,108,115,101]⟩:ByteArray).data.toList),(a.dF==0)].all id=P9 a ⟨#[70,97,108,115,101]⟩ from rfl,show [(b.Name.data.toList==(⟨#[84,114,117,101]⟩:ByteArray).data.toList),(b.dF==0)].all id=P9 b ⟨#[84,114,117,101]⟩ from rfl]
       have r:∀(l:List bK) (seen:List ByteArray),ku l seen=false→xO l seen=([],false):=fun l seen h=>by simp[xO,h]
       have e:∀(l:List bK) (seen:List ByteArray),ku l seen=true→xO l seen=(seen++l.map (·.Name),true):=fun l seen h=>by simp[xO,h]
       cases f:ku (a::b::C) [] with
       | false=>
         left
         rw[r _ _ f]
         cases P9 a ⟨#[70,97,108,115,101]⟩<;>cases P9 b ⟨#[84,114,117,101]⟩<;>exact⟨rfl,rfl⟩
       | true=>
         have:=k f
         subst this
         obtain⟨m,k1,k2⟩:=y7 g h2 (by omega) _ 0 ((a::b::C).map (·.Name)) rfl (Nat.zero_le _)
         simp only[List.drop_zero] at k1
         rw[show((0:Nat):Int)=0 from rfl] at k1
         rw[e _ _ f]
         simp only[if_true,List.nil_append,bu]
         rw[k1,Dt g h2 (by omega) _ (by simpa using (by omega:C.length+1+1≤20))]
         simp only[Option.bind_some]
         cases u:ku g ((a::b::C).map (·.Name)) with
         | false=>
           left
           rw[r _ _ u]
           cases P9 a ⟨#[70,97,108,115,101]⟩<;>cases P9 b ⟨#[84,114,117,101]⟩<;>exact⟨rfl,rfl⟩
         | true=>
           rw[e _ _ u]
           cases P9 a ⟨#[70,97,108,115,101]⟩ with
           | false=>left;exact⟨rfl,rfl⟩
           | true=>
             cases P9 b ⟨#[84,114,117,101]⟩ with
             | false=>left;exact⟨rfl,rfl⟩
             | true=>right;exact⟨rfl,rfl,by simp only[List.length_cons];omega,EG _ _ f⟩
     | [],d=>simp at d
     | [_],d=>simp at d
   · left;rw[if_pos (by simp;omega),if_pos (by simp;omega)]
     exact⟨rfl,rfl⟩
 · left;rw[show(decide ((2:Int)≤(s.Cons.length:Int))&&decide ((s.Cons.length:Int)≤12))=false by simp;omega]
   exact⟨rfl,rfl⟩
mutual
theorem Jd : ∀(a b:Term) (x y:List Int),key a++x=key b++y→a=b∧x=y
 | .mk o n l,.mk o' f l', x,y,h=>by
   simp only[key,List.cons_append,List.cons.injEq] at h
   obtain⟨h1,h2,h3,h4⟩:=h
   obtain⟨d,e⟩:=F3 l l' x y (by omega) h4
   exact⟨by rw[h2,h3,d],e⟩
theorem F3 : ∀(l l' : List Term) (x y:List Int),mc l=mc l' → keys l++x=keys l' ++ y→l=l' ∧ x=y
 | [],[],x,y,_,h=>⟨rfl,by simpa [keys] using h⟩
 | [],t::l,x,y,e,_=>by
   have k1:=(eO t).2
   have k2:=(gI l).2
   simp only[mc] at e;omega
 | t::l,[],x,y,e,_=>by
   have k1:=(eO t).2
   have k2:=(gI l).2
   simp only[mc] at e;omega
 | t::l,d::l', x,y,e,h=>by
   simp only[keys,List.append_assoc] at h
   obtain⟨f,g⟩:=Jd t d _ _ h
   subst f
   simp only[mc] at e
   obtain⟨j,k⟩:=F3 l l' x y (by omega) g
   exact⟨by rw[j],k⟩
end
variable {a b : Term}
theorem key_inj (h:key a=key b):a=b:=(Jd a b [] [] (by rw[h])).1
def GZ (a b:Term):Prop:=¬ gj (key b) (key a)<0
theorem Nz (h1:GZ a b)(h2:GZ b a):a=b:=by
 unfold GZ at *
 have:=u5 (key a) (key b)
 exact key_inj ((wX _ _).1 (by omega))
theorem Du {c:Term}(h1:GZ a b)(h2:GZ b c):GZ a c:=by
 unfold GZ at *
 intro h
 have e:=u5 (key a) (key b)
 have a2:=u5 (key b) (key c)
 by_cases d:gj (key a) (key b)=0
 · rw[(wX _ _).1 d] at h;exact h2 h
 · have:=A6 (key c) (key a) (key b) h (by omega)
   exact h2 this
theorem KE (x:Term):∀ l,(sP x l).Perm (x::l):=by
 intro l
 induction l with
 | nil=>exact .refl _
 | cons y l d=>
   rw[sP]
   split
   · exact(List.Perm.cons y d).trans (.swap x y l)
   · exact .refl _
theorem GH (x:Term):∀ l,l.Pairwise GZ→(sP x l).Pairwise GZ:=by
 intro l
 induction l with
 | nil=>intro _;simp[sP]
 | cons y l f=>
   intro h
   rw[List.pairwise_cons] at h
   rw[sP]
   split
   · rename_i e
     rw[List.pairwise_cons]
     refine⟨fun z d=>?_,f h.2⟩
     rcases FY _ _ _ d with d | d
     · subst d
       simp only[P8,decide_eq_true_eq] at e
       have:=u5 (key y) (key z)
       unfold GZ;omega
     · exact h.1 z d
   · rename_i e
     simp only[P8,decide_eq_true_eq] at e
     rw[List.pairwise_cons]
     refine⟨fun z d=>?_,List.pairwise_cons.2 h⟩
     rcases List.mem_cons.1 d with d | d
     · subst d;exact e
     · exact Du e (h.1 z d)
theorem y8 : ∀(l o:List Term),(oq o l).Perm (o++l):=by
 intro l
 induction l with
 | nil=>intro o;simp[oq]
 | cons x l d=>
   intro o
   show(oq (sP x o) l).Perm _
   refine(d _).trans ?_
   refine((KE x o).append_right l).trans ?_
   rw[List.cons_append]
   exact(List.perm_middle).symm
theorem Cu : ∀(l o:List Term),o.Pairwise GZ→(oq o l).Pairwise GZ:=by
 intro l
 induction l with
 | nil=>intro o h;exact h
 | cons x l d=>intro o h;exact d _ (GH x o h)
section
variable (sig : ae) (cons ints : List Int)
theorem EH (l:List Term)(d:Int)(b:Bool)(f:∀ x∈l,∀ c:Int,0≤c→c+km x≤40→ba x (d+1) sig b c=some (Sum.inr (c+km x)))(j:0≤d)(h:d≤100):∀(n i:Nat) (s:Int),l.length-i=n→i≤l.length→0≤s→s+mc (l.drop i)≤40→l.length≤40→aR b sig d l i s=some (Sum.inl (s+mc (l.drop i))):=by
 intro n
 induction n with
 | zero=>
   intro i s h1 h2 h3 h4 h5
   rw[aR,if_neg (by simp;omega),List.drop_eq_nil_of_le (by omega)]
   simp[mc]
 | succ n g=>
   intro i s h1 h2 h3 h4 h5
   have hi:i<l.length:=by omega
   have e:=nB l i hi
   have k1:=(eO l[i]).2
   have k2:=(gI (l.drop (i+1))).2
   rw[aR,if_pos (by simpa using hi),bS hi]
   simp only[Option.bind_eq_bind,Option.bind_some]
   rw[dC,if_pos (az (by omega) (by omega)),f _ (List.getElem_mem hi) s h3 (by omega)]
   simp only[Option.bind_eq_bind,Option.bind_some]
   rw[if_pos (az (by omega) (by omega)),show((i:Int)+1)=((i+1:Nat):Int) by omega,g (i+1) (s+km l[i]) (by omega) (by omega) (by omega) (by omega) h5,e]
   congr 2
   omega
variable {t : Term}
theorem EI (v:sig.Cons.length≤16)(e:∀ x∈ints,-1000000≤x∧x≤1000000)(h:Made sig cons ints t):∀(d c:Int) (b:Bool),0≤d→d+km t≤13→0≤c→c+km t≤40→ba t d sig b c=some (Sum.inr (c+km t)):=by
 induction h with
 | int x hx=>
   intro d c b h1 h2 h3 h4
   simp only[km,mc] at h2 h4
   have w:dO (Term.mk 2 x []).Op 1 15=some true:=by simp[tc,Term.Op]
   have hi:nG (bE.mk sig) (Term.mk 2 x [])=some true:=by simp[nG,tc,Term.N,Term.Kids,e x hx]
   rw[ba,if_pos (az (by omega) (by omega)),if_neg (by simp;omega),if_neg (by simp;omega),w]
   simp only[Option.bind_eq_bind,Option.bind_some]
   rw[if_pos (by trivial),if_pos (by simp[Term.Op]),hi]
   simp only[Option.bind_some]
   rw[if_pos (by trivial),bI,aR,if_neg (by simp[Term.Kids])]
   simp[km,mc]
 | oM cc nm l y h2 h3 h4 r=>
   intro d c b s f A g
   have B:=pf l
   simp only[km] at f g
   have u:0≤cc∧cc≤(sig.Cons.length:Int)-1:=by
    simp only[dA] at h2
    split at h2
    · have:=List.getElem?_eq_some_iff.1 h2
      obtain⟨q,_⟩:=this
      omega
    · simp at h2
   have w:dO (Term.mk 3 cc l).Op 1 15=some true:=by simp[tc,Term.Op]
   have j:uA (bE.mk sig) (Term.mk 3 cc l)=some true:=by
    rw[uA,if_pos (az (by simp only;omega) (by simp only;omega)),tc]
    simp only[Option.bind_eq_bind,Option.bind_some]
    rw[if_pos (by exact decide_eq_true u),show dA sig.Cons (Term.mk 3 cc l).N=some nm from h2]
    simp only[Option.bind_some]
    rw[if_pos (by exact decide_eq_true h3.symm)]
   rw[ba,if_pos (az (by omega) (by omega)),if_neg (by simp;omega),if_neg (by simp;omega),w]
   simp only[Option.bind_eq_bind,Option.bind_some]
   rw[if_pos (by trivial),if_neg (by simp[Term.Op]),if_pos (by simp[Term.Op]),j]
   simp only[Option.bind_some]
   rw[if_pos (by trivial),show(Term.mk 3 cc l).Kids=l from rfl]
   have:=EH sig l d b (fun x hx c k m=>r x hx (d+1) c b (by omega) (by have:=pg l x hx;omega) k m) s (by have:=(gI l).2;omega) l.length 0 (c+1) rfl (Nat.zero_le _) (by omega) (by simp only[List.drop_zero];omega) (by omega)
   rw[bI,show(0:Int)=((0:Nat):Int) from rfl,this]
   simp only[Option.bind_some,List.drop_zero,km]
   congr 2
   omega
theorem Cv (l:List Term)(d:Int)(b:Bool)(e:∀ x∈l,aY x (d+1) b=some (Sum.inr ()))(h:0≤d)(g:d≤100):∀(n i:Nat),l.length-i=n→i≤l.length→l.length≤40→aO b d l i=some (Sum.inl ()):=by
 intro n
 induction n with
 | zero=>
   intro i h1 h2 h5
   rw[aO,if_neg (by simp;omega)]
 | succ n f=>
   intro i h1 h2 h5
   have hi:i<l.length:=by omega
   rw[aO,if_pos (by simpa using hi),bS hi]
   simp only[Option.bind_eq_bind,Option.bind_some]
   rw[dq,if_pos (az (by omega) (by omega)),e _ (List.getElem_mem hi)]
   simp only[Option.bind_eq_bind,Option.bind_some]
   rw[if_pos (az (by omega) (by omega)),show((i:Int)+1)=((i+1:Nat):Int) by omega,f (i+1) (by omega) (by omega) h5]
theorem Cw (h:Made sig cons ints t):∀(d:Int) (b:Bool),0≤d→d+km t≤40→aY t d b=some (Sum.inr ()):=by
 induction h with
 | int x hx=>
   intro d b h1 h2
   rw[aY,if_neg (by simp[Term.Op]),bA,aO,if_neg (by simp[Term.Kids])]
   rfl
 | oM cc nm l f h2 h3 h4 e=>
   intro d b h1 h2
   have g:=pf l
   simp only[km] at h2
   rw[aY,if_neg (by simp[Term.Op]),bA]
   have:=Cv l d b (fun x hx=>e x hx (d+1) b (by omega) (by have:=pg l x hx;omega)) h1 (by omega) l.length 0 rfl (Nat.zero_le _) (by omega)
   simp only[Term.Kids]
   rw[show(0:Int)=((0:Nat):Int) from rfl,this]
   rfl
theorem GI (h:sig.Cons.length≤16)(j:∀ x∈ints,-1000000≤x∧x≤1000000)(k:fF sig=some 0)(a b:Term)(m:Made sig cons ints a)(s:Made sig cons ints b)(u:km a≤10)(y:km b≤10):jO sig a b=some (gj (key a) (key b)):=by
 have k1:=(eO a).2
 have k2:=(eO b).2
 have f:∀ t,Made sig cons ints t→km t≤10→pJ sig t=some true:=fun t d A=>by
  rw[pJ,fZ,EI sig cons ints h j d 1 0 false (by omega) (by omega) (by omega) (by omega)]
  rfl
 have v:∀ t,Made sig cons ints t→km t≤10→nH t=some true:=fun t d A=>by
  rw[nH,fO,Cw sig cons ints d 1 false (by omega) (by omega)]
  rfl
 have r:rA sig [a,b]=some true:=by
  rw[rA,k]
  simp only[Option.bind_eq_bind,Option.bind_some]
  rw[if_pos (by decide),dV]
  have e:dA [a,b] 0=some a:=rfl
  have g:dA [a,b] (0+1)=some b:=rfl
  rw[bd,if_pos (by simp),e]
  simp only[Option.bind_eq_bind,Option.bind_some,ev,f a m u,if_true]
  rw[if_pos (by decide),bd,if_pos (by simp),g]
  simp only[Option.bind_eq_bind,Option.bind_some,ev,f b s y,if_true]
  rw[if_pos (by decide),bd,if_neg (by simp)]
  rfl
 have B:pK sig [a,b]=some true:=by
  rw[pK,r]
  simp only[Option.bind_eq_bind,Option.bind_some,if_true,dS]
  have e:dA [a,b] 0=some a:=rfl
  have g:dA [a,b] (0+1)=some b:=rfl
  rw[aZ,if_pos (by simp),e]
  simp only[Option.bind_eq_bind,Option.bind_some,v a m u,if_true]
  rw[if_pos (by decide),aZ,if_pos (by simp),g]
  simp only[Option.bind_eq_bind,Option.bind_some,v b s y,if_true]
  rw[if_pos (by decide),aZ,if_neg (by simp)]
  rfl
 rw[jO,qI,B]
 simp only[Option.bind_eq_bind,Option.bind_some,if_true]
 rw[zJ 10 a b (by omega) (by omega) (by omega)]
 rfl
end
variable {n : Nat}
theorem Bw {f:_root_.Fin n→Term}{lt:_root_.Fin n→_root_.Fin n→Bool}(e:∀ i j,lt i j=decide (gj (key (f i)) (key (f j))<0)) [Inhabited (_root_.Fin n)] (D:Array (_root_.Fin n)) (h:Sort.SortedIn lt 0 D.size D):(D.toList.map f).Pairwise GZ:=by
 rw[List.pairwise_map,List.pairwise_iff_getElem]
 intro i j hi d g
 have:=h i j (Nat.zero_le _) g (by simpa using d)
 rw[e] at this
 simp only[Array.length_toList] at hi d
 rw[getElem!_pos D i hi,getElem!_pos D j d] at this
 simp only[Array.getElem_toList]
 unfold GZ
 simpa using this
theorem GJ (sig:ae)(l:List Term)(f:∀ a∈l,∀ b∈l,jO sig a b=some (gj (key a) (key b)))(B:l.length≤1000):ry l sig=some (oq [] l):=by
 unfold ry
 by_cases h:0<l.length
 · rw[dif_pos h]
   letI:Inhabited (_root_.Fin l.length):=⟨⟨0,h⟩⟩
   have e:∀ i j:_root_.Fin l.length,(jO sig l[i] l[j]).getD 0=gj (key l[i]) (key l[j]):=fun i j=>by
    have:=f _ (List.getElem_mem i.isLt) _ (List.getElem_mem j.isLt)
    rw[show jO sig l[i] l[j]=_ from this];rfl
   have d:∀ i j,(ltOf fun i j:_root_.Fin l.length=>(jO sig l[i] l[j]).getD 0) i j=decide (gj (key l[i]) (key l[j])<0):=by
    intro i j
    rw[ltOf,e]
   have g:Sort.SWO (ltOf fun i j:_root_.Fin l.length=>(jO sig l[i] l[j]).getD 0):=by
    refine⟨fun x=>by rw[d,(wX (key l[x]) (key l[x])).2 rfl];rfl,fun x y z h1 h2=>?_,fun x y z h1 h2=>?_⟩
    · rw[d,decide_eq_true_eq] at *
      exact A6 _ _ _ h1 h2
    · rw[d,decide_eq_false_iff_not] at *
      exact Du (a:=l[z]) (b:=l[y]) (c:=l[x]) h2 h1
   refine(if_pos ⟨fun a s b u=>by rw[f a s b u];rfl,g,by omega⟩).trans ?_
   congr 1
   obtain⟨m,r⟩:=Sort.pdq_sorts _ g (Array.ofFn id) 0 l.length (Lib.bitLen l.length) true true (Nat.zero_le _) (by simp) (.inl rfl)
   rw[Ac]
   generalize Sort.pdq (ltOf fun i j:_root_.Fin l.length=>(jO sig l[i] l[j]).getD 0) (Array.ofFn id) 0 l.length (Lib.bitLen l.length) true true=D at m r
   obtain⟨h1,_,h3⟩:=m
   simp only[Array.size_ofFn] at h1
   have v:D.extract 0 l.length=D:=by
    have:D.extract 0 D.size=D:=by simp
    exact(congrArg (fun k=>D.extract 0 k) h1.symm).trans this
   rw[v,show(Array.ofFn (n:=l.length) id).extract 0 l.length=Array.ofFn id by simp] at h3
   have A:(D.toList.map fun i=>l[i]).Perm l:=by
    refine(h3.map _).trans ?_
    rw[Array.toList_ofFn,List.map_ofFn]
    have:List.ofFn ((fun i:_root_.Fin l.length=>l[i])∘id)=l:=by
      apply List.ext_getElem
      · simp
      · intro i h1 h2;simp
    rw[this]
   refine List.Perm.eq_of_pairwise (le:=GZ) (fun a b _ _=>Nz) (Bw d D (by rw[h1];exact r)) (Cu l [] List.Pairwise.nil) (A.trans (by simpa using (y8 l []).symm))
 · have:l=[]:=List.eq_nil_of_length_eq_zero (by omega)
   subst this
   rw[dif_neg h]
   rfl
def Iv : Option Int→List Int→Bool
 | _,[]=>true
 | none,x::l=>Iv (some x) l
 | some p,x::l=>decide (p<x)&&Iv (some x) l
def vl (l:List Int)(i:Nat):Option Int:=if i=0 then none else l[i-1]?
theorem A9 (l:List Int)(i:Nat)(h:i<l.length):vl l (i+1)=some l[i]:=by simp[vl,h]
theorem Je {l:List Int}(h:i<l.length)(h0:0<i):dA l ((i:Int)-1)=some l[i-1]:=by
 rw[show(i:Int)-1=((i-1:Nat):Int) by omega]
 exact bS (by omega)
theorem GL (l:List Int)(j:l.length≤20):∀(d i:Nat),l.length-i=d→i≤l.length→fK l i=some (Iv (vl l i) (l.drop i)):=by
 intro d
 induction d with
 | zero=>
   intro i g hi
   rw[fK,if_neg (by simp;omega),List.drop_eq_nil_of_le (by omega)]
   cases vl l i<;>rfl
 | succ d h=>
   intro i g hi
   have e:i<l.length:=by omega
   have nx:=h (i+1) (by omega) (by omega)
   have f:du .i64 ((i:Int)+1)=true:=az (by omega) (by omega)
   rw[fK,if_pos (by simpa using e),List.drop_eq_getElem_cons e]
   rw[A9 l i e] at nx
   by_cases h0:0<i
   · rw[if_pos (by simpa using h0),bS e]
     simp only[Option.bind_eq_bind,Option.bind_some]
     rw[if_pos (az (by omega) (by omega)),Je e h0]
     simp only[Option.bind_some]
     rw[show vl l i=some l[i-1] by simp[vl,show ¬ i=0 by omega,show i-1<l.length by omega],Iv]
     by_cases h1:l[i]≤l[i-1]
     · rw[if_pos (by simpa using h1),show decide (l[i-1]<l[i])=false by simpa using h1];rfl
     · rw[if_neg (by simpa using h1),if_pos f,show decide (l[i-1]<l[i])=true by simpa using h1,show((i:Int)+1)=((i+1:Nat):Int) by omega,nx];rfl
   · have:i=0:=by omega
     subst this
     rw[if_neg (by simp),if_pos f,show(((0:Nat):Int)+1)=((0+1:Nat):Int) by omega,nx]
     rfl
theorem u7 (l:List Int)(d:l.length≤20):lK l=some (Iv none l):=by
 rw[lK]
 exact GL l d _ 0 rfl (Nat.zero_le _)
theorem zK (l:List Int)(lo up:Int)(m:l.length≤20):∀(d i:Nat),l.length-i=d→i≤l.length→il l lo up i=some (Iv (vl l i) (l.drop i)&&(l.drop i).all fun x=>decide (lo≤x)&&decide (x≤up)):=by
 intro d
 induction d with
 | zero=>
   intro i j hi
   rw[il,if_neg (by simp;omega),List.drop_eq_nil_of_le (by omega)]
   cases vl l i<;>rfl
 | succ d k=>
   intro i j hi
   have e:i<l.length:=by omega
   have nx:=k (i+1) (by omega) (by omega)
   have g:du .i64 ((i:Int)+1)=true:=az (by omega) (by omega)
   have h:((i:Int)+1)=((i+1:Nat):Int):=by omega
   rw[il,if_pos (by simpa using e),List.drop_eq_getElem_cons e,bS e]
   simp only[Option.bind_eq_bind,Option.bind_some,yc,List.all_cons]
   rw[A9 l i e] at nx
   by_cases f:(decide (lo≤l[i])&&decide (l[i]≤up))=true
   · rw[if_pos f,f,Bool.true_and]
     by_cases h0:0<i
     · rw[if_pos (by simpa using h0),if_pos (az (by omega) (by omega)),Je e h0]
       simp only[Option.bind_some]
       rw[show vl l i=some l[i-1] by simp[vl,show ¬ i=0 by omega,show i-1<l.length by omega],Iv]
       by_cases h1:l[i-1]≥l[i]
       · rw[if_pos (by simpa using h1),show decide (l[i-1]<l[i])=false by simpa using h1];rfl
       · rw[if_neg (by simpa using h1),if_pos g,show decide (l[i-1]<l[i])=true by simpa using h1,h,nx,Bool.true_and]
     · have:i=0:=by omega
       subst this
       rw[if_neg (by simp),if_pos g,h,nx]
       rfl
   · rw[if_neg f,show(decide (lo≤l[i])&&decide (l[i]≤up))=false by simpa using f];simp
theorem po (l:List Int)(lo up:Int)(d:l.length≤20):oC l lo up=some (Iv none l&&l.all fun x=>decide (lo≤x)&&decide (x≤up)):=by
 rw[oC]
 exact zK l lo up d _ 0 rfl (Nat.zero_le _)
theorem KF (l:List Int)(s:ae)(h:l.length≤20):∀(d i:Nat),l.length-i=d→i≤l.length→∃ r,bM l s i=some r∧decide (r≥0) = !((l.drop i).all fun x=>decide (0≤x)&&decide (x≤(s.Cons.length:Int)-1)):=by
 intro d
 induction d with
 | zero=>
   intro i f hi
   rw[bM,if_neg (by simp;omega),List.drop_eq_nil_of_le (by omega)]
   exact⟨_,rfl,rfl⟩
 | succ d g=>
   intro i f hi
   have e:i<l.length:=by omega
   rw[bM,if_pos (by simpa using e),bS e,List.drop_eq_getElem_cons e]
   simp only[Option.bind_eq_bind,Option.bind_some,List.all_cons,kV]
   by_cases h1:l[i]<0
   · rw[if_pos (by simpa using h1)]
     refine⟨i,rfl,?_⟩
     rw[show decide (0≤l[i])=false by simpa using h1];simp
   · rw[if_neg (by simpa using h1)]
     by_cases h2:l[i]≥(s.Cons.length:Int)
     · rw[if_pos (by simpa using h2)]
       refine⟨i,rfl,?_⟩
       rw[show decide (l[i]≤(s.Cons.length:Int)-1)=false by simp;omega];simp
     · rw[if_neg (by simpa using h2)]
       simp only[Option.bind_some,Bool.false_eq_true,if_false]
       rw[if_pos (az (by omega) (by omega)),show((i:Int)+1)=((i+1:Nat):Int) by omega,show(decide (0≤l[i])&&decide (l[i]≤(s.Cons.length:Int)-1))=true by simp;omega,Bool.true_and]
       exact g (i+1) (by omega) (by omega)
theorem KG (l:List Int)(h:l.length≤20):∀(d i:Nat),l.length-i=d→i≤l.length→∃ r,bN l i=some r∧decide (r≥0) = !((l.drop i).all fun x=>decide (-1000000≤x)&&decide (x≤1000000)):=by
 intro d
 induction d with
 | zero=>
   intro i f hi
   rw[bN,if_neg (by simp;omega),List.drop_eq_nil_of_le (by omega)]
   exact⟨_,rfl,rfl⟩
 | succ d g=>
   intro i f hi
   have e:i<l.length:=by omega
   rw[bN,if_pos (by simpa using e),bS e,List.drop_eq_getElem_cons e]
   simp only[Option.bind_eq_bind,Option.bind_some,List.all_cons,kW]
   by_cases h1:l[i]<(-1000000)
   · rw[if_pos (by simpa using h1)]
     refine⟨i,rfl,?_⟩
     rw[show decide (-1000000≤l[i])=false by simpa using h1];simp
   · rw[if_neg (by simpa using h1)]
     by_cases h2:l[i]>1000000
     · rw[if_pos (by simpa using h2)]
       refine⟨i,rfl,?_⟩
       rw[show decide (l[i]≤1000000)=false by simp;omega];simp
     · rw[if_neg (by simpa using h2)]
       simp only[Option.bind_some,Bool.false_eq_true,if_false]
       rw[if_pos (az (by omega) (by omega)),show((i:Int)+1)=((i+1:Nat):Int) by omega,show(decide (-1000000≤l[i])&&decide (l[i]≤1000000))=true by simp;omega,Bool.true_and]
       exact g (i+1) (by omega) (by omega)
theorem KH (a:Term)(f:∀ x∈a.Kids,nA x x=some true)(j:a.Kids.length<4611686018427387904):∀(d i:Nat),a.Kids.length-i=d→i≤a.Kids.length→ky a a i=some true:=by
 intro d
 induction d with
 | zero=>intro i g hi;rw[ky,if_neg (by simp;omega)]
 | succ d h=>
   intro i g hi
   have e:i<a.Kids.length:=by omega
   rw[ky,if_pos (by simpa using e),bS e]
   simp only[Option.bind_eq_bind,Option.bind_some,f _ (List.getElem_mem e),if_true]
   rw[if_pos (az (by omega) (by omega)),show((i:Int)+1)=((i+1:Nat):Int) by omega]
   exact h (i+1) (by omega) (by omega)
mutual
theorem Jf : ∀ t:Term,km t<4611686018427387904→nA t t=some true
 | .mk o n l,h=>by
   simp only[km] at h
   have d:=F4 l (by omega)
   have e:=pf l
   rw[nA]
   simp only[decide_true,Bool.not_true,Bool.false_eq_true,if_false]
   exact KH (.mk o n l) d (by simp only[Term.Kids];omega) _ 0 rfl (Nat.zero_le _)
theorem F4 : ∀ l:List Term,mc l<4611686018427387904→∀ x∈l,nA x x=some true
 | [],_,x,hx=>by simp at hx
 | t::l,h,x,hx=>by
   have k1:=(eO t).2
   have k2:=(gI l).2
   simp only[mc] at h
   rcases List.mem_cons.1 hx with e | hx
   · rw[e];exact Jf t (by omega)
   · exact F4 l (by omega) x hx
end
theorem KI (b:Int):∀ l:List Term,(∀ t∈l,km t≤b)→mc l≤b*l.length:=by
 intro l
 induction l with
 | nil=>intro _;simp[mc]
 | cons t l d=>
   intro h
   have h1:=h t (by simp)
   have h2:=d fun x hx=>h x (by simp[hx])
   simp only[mc,List.length_cons]
   rw[show(((l.length+1:Nat):Int))=l.length+1 by omega,Int.mul_add]
   omega
theorem EJ (l:List Term)(d:mc l<4611686018427387903):mn l l=some true:=by
 rw[mn,pn,s8]
 simp only[Option.bind_eq_bind,Option.bind_some]
 rw[Jf _ (by simp only[km];omega)]
 rfl
theorem GM (s:ae)(m:s.gR.length≤12):∀(d i:Nat),s.gR.length-i=d→i≤s.gR.length→∃ b,gM s i=some b∧(b=true→∀ x∈s.gR.drop i,x.Name.size≤30):=by
 intro d
 induction d with
 | zero=>intro i g hi;rw[gM,if_neg (by simp;omega),List.drop_eq_nil_of_le (by omega)];exact⟨_,rfl,fun _ x hx=>by simp at hx⟩
 | succ d j=>
   intro i g hi
   have f:i<s.gR.length:=by omega
   rw[gM,if_pos (by simpa using f),bS f,List.drop_eq_getElem_cons f]
   simp only[Option.bind_eq_bind,Option.bind_some]
   by_cases h:s.gR[i].Name.size>30
   · rw[if_pos (by simp;omega)];exact⟨_,rfl,fun h=>by simp at h⟩
   · rw[if_neg (by simp;omega),if_pos (az (by omega) (by omega)),show((i:Int)+1)=((i+1:Nat):Int) by omega]
     obtain⟨b,h1,h2⟩:=j (i+1) (by omega) (by omega)
     refine⟨b,h1,fun k x hx=>?_⟩
     rcases List.mem_cons.1 hx with e | hx
     · rw[e];omega
     · exact h2 k x hx
theorem GN (s:ae)(j:s.gR.length≤12)(r:s.Cons.length≤16):∀(d i:Nat),s.Cons.length-i=d→i≤s.Cons.length→∃ b,gO s i=some b∧(b=true→(∀ x∈s.Cons.drop i,x.Name.size≤30)∧∀ x∈s.gR,x.Name.size≤30):=by
 intro d
 induction d with
 | zero=>
   intro i k hi
   rw[gO,if_neg (by simp;omega),List.drop_eq_nil_of_le (by omega)]
   obtain⟨b,h1,h2⟩:=GM s j _ 0 rfl (Nat.zero_le _)
   exact⟨b,h1,fun g=>⟨fun x hx=>by simp at hx,by simpa using h2 g⟩⟩
 | succ d m=>
   intro i k hi
   have f:i<s.Cons.length:=by omega
   rw[gO,if_pos (by simpa using f),bS f,List.drop_eq_getElem_cons f]
   simp only[Option.bind_eq_bind,Option.bind_some]
   by_cases h:s.Cons[i].Name.size>30
   · rw[if_pos (by simp;omega)];exact⟨_,rfl,fun h=>by simp at h⟩
   · rw[if_neg (by simp;omega),if_pos (az (by omega) (by omega)),show((i:Int)+1)=((i+1:Nat):Int) by omega]
     obtain⟨b,h1,h2⟩:=m (i+1) (by omega) (by omega)
     refine⟨b,h1,fun g=>⟨fun x hx=>?_,(h2 g).2⟩⟩
     rcases List.mem_cons.1 hx with e | hx
     · rw[e];omega
     · exact(h2 g).1 x hx
theorem NA (s:ae):∃ b,nE s=some b∧(b=true→s.Cons.length≤16∧(∀ x∈s.Cons,x.Name.size≤30)∧∀ x∈s.gR,x.Name.size≤30):=by
 rw[nE]
 by_cases h1:s.Cons.length>16
 · rw[if_pos (by simp;omega)];exact⟨_,rfl,fun h=>by simp at h⟩
 · rw[if_neg (by simp;omega)]
   by_cases h2:s.gR.length>12
   · rw[if_pos (by simp;omega)];exact⟨_,rfl,fun h=>by simp at h⟩
   · rw[if_neg (by simp;omega)]
     obtain⟨b,h3,h4⟩:=GN s (by omega) (by omega) _ 0 rfl (Nat.zero_le _)
     exact⟨b,h3,fun d=>⟨by omega,by simpa using (h4 d).1,(h4 d).2⟩⟩
def Fi (s:ae)(l:List Int):Bool:=l.all fun x=>decide (0≤x)&&decide (x≤(s.Cons.length:Int)-1)
def Hb (l:List Int):Bool:=l.all fun x=>decide (-1000000≤x)&&decide (x≤1000000)
theorem Jg (l:List Int)(s:ae)(d:l.length≤20):dD l s=some (!Fi s l):=by
 obtain⟨r,h1,h2⟩:=KF l s d _ 0 rfl (Nat.zero_le _)
 rw[show((0:Nat):Int)=0 from rfl] at h1
 rw[dD,fh,h1]
 simp only[Option.bind_eq_bind,Option.bind_some]
 simp only[List.drop_zero] at h2
 rw[Fi,←h2]
 by_cases h:r≥0<;>simp[h]
theorem Jh (l:List Int)(d:l.length≤20):dE l=some (!Hb l):=by
 obtain⟨r,h1,h2⟩:=KG l d _ 0 rfl (Nat.zero_le _)
 rw[show((0:Nat):Int)=0 from rfl] at h1
 rw[dE,fi,h1]
 simp only[Option.bind_eq_bind,Option.bind_some]
 simp only[List.drop_zero] at h2
 rw[Hb,←h2]
 by_cases h:r≥0<;>simp[h]
def Y9 (s:ae)(d a2:List Int)(a3:Int):Prop:=Iv none d=true∧Iv none a2=true∧Fi s d=true∧Hb a2=true∧a2.length≤8∧0≤a3∧a3≤6
theorem PS (s:ae)(d a2:List Int)(a3:Int)(e:fF s=some 0)(h4:d.length≤20)(h5:a2.length≤20)(h:Y9 s d a2 a3):jo s d a2 a3=ed s d a2 a3 1 []:=by
 obtain⟨f,g,j,k,m,r,u⟩:=h
 rw[jo,je,e]
 simp only[Option.bind_eq_bind,Option.bind_some,u7 d h4,u7 a2 h5,Jg d s h4,Jh a2 h5,f,g,j,k]
 rw[if_neg (by decide),if_pos (by trivial),if_pos (by trivial),if_neg (by simp;omega),if_neg (by simp;omega),if_neg (by simp;omega),if_neg (by decide),if_neg (by decide)]
theorem NB (s:ae)(d a2:List Int)(a3:Int)(e:fF s=some 0)(h4:d.length≤20)(h5:a2.length≤20)(h:¬ Y9 s d a2 a3):jo s d a2 a3=some ([],2):=by
 rw[jo,je,e]
 simp only[Option.bind_eq_bind,Option.bind_some,u7 d h4,u7 a2 h5,Jg d s h4,Jh a2 h5]
 rw[if_neg (by decide)]
 cases f:Iv none d with
 | false=>rfl
 | true=>
   rw[if_pos (by trivial)]
   cases g:Iv none a2 with
   | false=>rfl
   | true=>
     rw[if_pos (by trivial)]
     by_cases j:a2.length≤8
     · rw[if_neg (by simp;omega)]
       by_cases k:0≤a3
       · rw[if_neg (by simp;omega)]
         by_cases m:a3≤6
         · rw[if_neg (by simp;omega)]
           cases r:Fi s d with
           | false=>rfl
           | true=>
             rw[if_neg (by decide)]
             cases u:Hb a2 with
             | false=>rfl
             | true=>exact absurd ⟨f,g,r,u,j,k,m⟩ h
         · rw[if_pos (by simp;omega)]
       · rw[if_pos (by simp;omega)]
     · rw[if_pos (by simp;omega)]
theorem X1 (s:ae)(d a2:List Int)(a3:Int)(e:sh s=some true)(m:s.Cons.length≤16)(h4:d.length≤20)(h5:a2.length≤20)(h:Y9 s d a2 a3):kz s d a2 a3=dQ s d a2 a3 1 0 false [[]] (((a3+1):Int).toNat-1):=by
 obtain⟨f,g,j,k,r,u,v⟩:=h
 rw[kz,e]
 simp only[Option.bind_eq_bind,Option.bind_some,po d _ _ h4,po a2 _ _ h5,yc]
 rw[if_pos (by trivial),if_pos (az (by omega) (by omega)),show(d.all fun x=>decide (0≤x)&&decide (x≤(s.Cons.length:Int)-1))=true from j,f,if_pos (by trivial),if_neg (by simp;omega),show(a2.all fun x=>decide (-1000000≤x)&&decide (x≤1000000))=true from k,g,if_pos (by trivial),if_pos (by simp;omega),if_pos (az (by omega) (by omega)),if_pos (by simp;omega),if_pos (by simp;omega)]
 rfl
theorem PU (s:ae)(d a2:List Int)(a3:Int)(e:sh s=some true)(u:s.Cons.length≤16)(h4:d.length≤20)(h5:a2.length≤20)(h:¬ Y9 s d a2 a3):kz s d a2 a3=some ([],2):=by
 rw[kz,e]
 simp only[Option.bind_eq_bind,Option.bind_some,po d _ _ h4,po a2 _ _ h5,yc]
 rw[if_pos (by trivial),if_pos (az (by omega) (by omega)),show(d.all fun x=>decide (0≤x)&&decide (x≤(s.Cons.length:Int)-1))=Fi s d from rfl,show(a2.all fun x=>decide (-1000000≤x)&&decide (x≤1000000))=Hb a2 from rfl]
 cases f:Iv none d with
 | false=>rfl
 | true=>
   cases g:Fi s d with
   | false=>rfl
   | true=>
     rw[if_pos (by trivial)]
     by_cases j:a2.length≤8
     · rw[if_neg (by simp;omega)]
       cases k:Iv none a2 with
       | false=>rfl
       | true=>
         cases m:Hb a2 with
         | false=>rfl
         | true=>
           rw[if_pos (by trivial)]
           by_cases r:0≤a3∧a3≤6
           · exact absurd ⟨f,k,g,m,j,r⟩ h
           · rw[if_neg (by simp;omega)]
     · rw[if_pos (by simp;omega)]
theorem X2 (s:ae)(d:List Int)(f:∀ x∈s.Cons,0≤x.dF∧x.dF≤4)(h:Fi s d=true):zN s d:=by
 intro c g
 simp only[Fi,List.all_eq_true,Bool.and_eq_true,decide_eq_true_eq] at h
 have:=h c g
 obtain⟨k,rfl⟩:=Int.eq_ofNat_of_zero_le this.1
 have e:k<s.Cons.length:=by omega
 exact⟨s.Cons[k],bS e,f _ (List.getElem_mem e)⟩
theorem EK (s:ae)(d a2:List Int)(a3:Int)(h1:s.Cons.length≤16)(h2:∀ x∈s.Cons,x.Name.size≤30)(h3:∀ x∈s.gR,x.Name.size≤30)(h4:d.length≤20)(h5:a2.length≤20) :
   ∃ l e,jo s d a2 a3=some (l,e)∧kz s d a2 a3=some (l,e)∧mc l≤1000:=by
 rcases X0 s h2 h3 with⟨k,g⟩ | ⟨k,g,J,D⟩
 · refine⟨[],2,?_,?_,by simp[mc]⟩
   · rw[jo,je,g];rfl
   · rw[kz,k];rfl
 · by_cases h:Y9 s d a2 a3
   · rw[PS s d a2 a3 g h4 h5 h,X1 s d a2 a3 k h1 h4 h5 h]
     obtain⟨K,N,E,y,O,F,P⟩:=h
     obtain⟨size,rfl⟩:=Int.eq_ofNat_of_zero_le F
     have r:=X2 s d D E
     have st:=Kz s d a2
     have A:=XY s d a2 r h4 h5 size (by omega) _ 1 (fun _=>[]) [] rfl (by omega) (by omega) st Ij
     have m:=abE s d a2 r h4 h5 size (by omega) _ 1 (fun _=>[]) [] rfl (by omega) (by omega) st
     rw[show((1:Nat):Int)=1 from rfl] at A m
     simp only[List.length_nil,List.range_one,List.map_cons,List.map_nil] at m
     rw[show(((0:Nat):Int))=0 from rfl,show size+1-1=(((size:Int)+1).toNat-1) by omega] at m
     rw[A,m,show size+1-1=(((size:Int)+1).toNat-1) by omega]
     have G:=Ky s d a2 r (((size:Int)+1).toNat-1) (fun _=>[]) 1 []
     cases H:wG s d a2 (((size:Int)+1).toNat-1) 1 (fun _=>[]) [] with
     | none=>exact⟨[],3,rfl,rfl,by simp[mc]⟩
     | some l=>
       obtain⟨Q,j⟩:=G l st (by omega) H
       have v:∀ x∈a2,-1000000≤x∧x≤1000000:=by
         intro x hx
         simp only[Hb,List.all_eq_true,Bool.and_eq_true,decide_eq_true_eq] at y
         exact y x hx
       have f:=GJ s l (fun a B b C=>GI s d a2 h1 v g a b (j a B).2 (j b C).2 (by have:=(j a B).1;omega) (by have:=(j b C).1;omega)) (by omega)
       have u:(oq [] l).Perm l:=by simpa using y8 l []
       refine⟨oq [] l,0,?_,rfl,?_⟩
       · show JH s l=_
         rw[JH,f]
         simp only[Option.bind_eq_bind,Option.bind_some]
         rw[if_pos (by simpa using u.length_eq)]
       · have:=KI 7 (oq [] l) (fun t I=>by have:=(j t (u.mem_iff.1 I)).1;omega)
         rw[u.length_eq] at this
         omega
   · exact⟨[],2,NB s d a2 a3 g h4 h5 h,PU s d a2 a3 k h1 h4 h5 h,by simp[mc]⟩
theorem NC (a0:ae)(d a2:List Int)(a3:Int)(f:qZ=some true):mG a0 d a2 a3=some true:=by
 rw[mG]
 obtain⟨b,h1,h2⟩:=NA a0
 rw[h1,f]
 simp only[Option.bind_eq_bind,Option.bind_some,if_true]
 cases b with
 | false=>rfl
 | true=>
   obtain⟨g,h,j⟩:=h2 rfl
   rw[if_pos (by trivial)]
   by_cases h4:d.length>20
   · rw[if_pos (by simp;omega)]
   · rw[if_neg (by simp;omega)]
     by_cases h5:a2.length>20
     · rw[if_pos (by simp;omega)]
     · rw[if_neg (by simp;omega)]
       obtain⟨l,e,k,m,r⟩:=EK a0 d a2 a3 g h j (by omega) (by omega)
       rw[k,m]
       simp only[Option.bind_some,decide_true,if_true,EJ l (by omega)]
end
end Go.Eng

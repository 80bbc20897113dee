/- The law holds of the lifted functions on all data; no conditions. -/
import Derived.Test.YtehhcejekfibpaaGreatVLfD
import Derived.KernelRfl
set_option linter.unusedVariables false
set_option linter.unusedSimpArgs false
namespace Go.Eng
open Go.Proofs Go.Shelf
set_option synthInstance.maxSize 100000
set_option synthInstance.maxHeartbeats 400000
noncomputable section
mutual
def key : Term→List Int
 | .mk o n l=>(1+jK l:Int)::o::n::keys l
def keys : List Term→List Int
 | []=>[]
 | t::l=>key t++keys l
def fw : Term→Int
 | .mk _ _ l=>1+jK l
def jK : List Term→Int
 | []=>0
 | t::l=>fw t+jK l
end
def NI (a b:Int):Int:=if a<b then -1 else if a>b then 1 else 0
def fD : List Int→List Int→Int
 | a::x,b::y=>if a<b then -1 else if a>b then 1 else fD x y
 | [],[]=>0
 | [],_::_ => -1
 | _::_,[]=>1
theorem tU : ∀(x y:List Int),fD x y=0↔x=y:=by
 intro x
 induction x with
 | nil=>intro y;cases y<;>simp[fD]
 | cons a x d=>
   intro y
   cases y with
   | nil=>simp[fD]
   | cons b y=>
     simp only[fD]
     split
     · simp;omega
     · split
       · simp;omega
       · rw[d];simp;omega
theorem X7 : ∀(x y:List Int),fD x y = -1∨fD x y=0∨fD x y=1:=by
 intro x
 induction x with
 | nil=>intro y;cases y<;>simp[fD]
 | cons a x d=>
   intro y
   cases y with
   | nil=>simp[fD]
   | cons b y=>
     simp only[fD]
     split
     · simp
     · split
       · simp
       · exact d y
theorem r9 : ∀(x y:List Int),fD x y = - fD y x:=by
 intro x
 induction x with
 | nil=>intro y;cases y<;>simp[fD]
 | cons a x d=>
   intro y
   cases y with
   | nil=>simp[fD]
   | cons b y=>
     simp only[fD]
     by_cases h1:a<b
     · simp[h1,show ¬ b<a by omega]
     · by_cases h2:b<a
       · simp[h1,h2]
       · simp[h1,h2,d y]
theorem Aw : ∀(x y z:List Int),fD x y<0→fD y z<0→fD x z<0:=by
 intro x
 induction x with
 | nil=>intro y z;cases y<;>cases z<;>simp[fD]
 | cons a x d=>
   intro y z
   cases y with
   | nil=>simp[fD]
   | cons b y=>
     cases z with
     | nil=>simp[fD]
     | cons c z=>
       simp only[fD]
       have:=d y z
       split<;>split<;>split<;>(try split)<;>(try split)<;>(try split)<;>intros<;>(first | omega | (apply this<;>assumption) | skip)
theorem M7 : ∀(p q x y:List Int),p.length=q.length→fD (p++x) (q++y)=if fD p q=0 then fD x y else fD p q:=by
 intro p
 induction p with
 | nil=>intro q x y h;cases q<;>simp_all [fD]
 | cons a p d=>
   intro q x y h
   cases q with
   | nil=>simp at h
   | cons b q=>
     simp only[List.cons_append,fD]
     split
     · simp
     · split
       · simp
       · exact d q x y (by simpa using h)
mutual
theorem ef : ∀ t:Term,((key t).length:Int)=3*fw t∧1≤fw t
 | .mk o n l=>by
   have h:=gm l
   simp only[key,fw,List.length_cons]
   omega
theorem gm : ∀ l:List Term,((keys l).length:Int)=3*jK l∧0≤jK l
 | []=>by simp[keys,jK]
 | t::l=>by
   have h:=ef t
   have k:=gm l
   simp only[keys,jK,List.length_append]
   omega
end
theorem IF (a b:Term)(x y:List Int):fD (key a++x) (key b++y)=if fD (key a) (key b)=0 then fD x y else fD (key a) (key b):=by
 by_cases h:fw a=fw b
 · exact M7 _ _ _ _ (by have:=ef a;have:=ef b;omega)
 · cases a with
   | mk o n l=>cases b with
     | mk o' d l' =>
       simp only[fw] at h
       simp only[key,List.cons_append,fD]
       split
       · simp
       · split
         · simp
         · omega
theorem aL {n:Int}(h1 : -4611686018427387904≤n)(h2:n≤4611686018427387904):dH .i64 n=true:=by
 simp only[dH,IntKind.wrap,IntKind.bits,IntKind.signed,decide_eq_true_eq]
 simp
 omega
variable {α : Type} {l : List α} {i : Nat}
theorem cE (h:i<l.length):dY l (i:Int)=some l[i]:=by
 simp[dY,h]
theorem mT (l:List Term)(i:Nat)(h:i<l.length):jK (l.drop i)=fw l[i]+jK (l.drop (i+1)):=by
 rw[List.drop_eq_getElem_cons h,jK]
theorem BD (a:Term)(d:∀ x∈a.Kids,jm x=some (fw x))(g:a.Kids.length<4611686018427387904):∀(n i:Nat) (s:Int),a.Kids.length-i=n→i≤a.Kids.length→0≤s→s+jK (a.Kids.drop i)<4611686018427387904→jV a i s=some (s+jK (a.Kids.drop i)):=by
 intro n
 induction n with
 | zero=>
   intro i s h1 h2 h3 h4
   have:i=a.Kids.length:=by omega
   subst this
   rw[jV]
   simp[jK]
 | succ n f=>
   intro i s h1 h2 h3 h4
   have hi:i<a.Kids.length:=by omega
   have e:=mT a.Kids i hi
   have k1:=(ef a.Kids[i]).2
   have k2:=(gm (a.Kids.drop (i+1))).2
   rw[jV,if_pos (by simpa using hi),cE hi]
   simp only[Option.bind_eq_bind,Option.bind_some,d _ (List.getElem_mem hi)]
   rw[if_pos (aL (by omega) (by omega)),if_pos (aL (by omega) (by omega))]
   have:=f (i+1) (s+fw a.Kids[i]) (by omega) (by omega) (by omega) (by omega)
   rw[show((i:Int)+1)=((i+1:Nat):Int) by omega,this,e]
   congr 1
   omega
theorem lW : ∀ l:List Term,(l.length:Int)≤jK l
 | []=>by simp[jK]
 | t::l=>by
   have:=lW l
   have:=(ef t).2
   simp only[jK,List.length_cons]
   omega
theorem lX : ∀(l:List Term) (x:Term),x∈l→fw x≤jK l
 | [],x,h=>by simp at h
 | t::l,x,h=>by
   have k1:=(ef t).2
   have k2:=(gm l).2
   simp only[jK]
   rcases List.mem_cons.1 h with rfl | h
   · omega
   · have:=lX l x h;omega
mutual
theorem oz : ∀ t:Term,fw t<4611686018427387904→jm t=some (fw t)
 | .mk o n l,h=>by
   simp only[fw] at h
   have d:=wD l (by omega)
   have e:=lW l
   rw[jm]
   have:=BD (.mk o n l) d (by simp only[Term.Kids];omega) l.length 0 1 rfl (Nat.zero_le _) (by omega) (by simpa [Term.Kids] using h)
   simpa [fw,Term.Kids] using this
theorem wD : ∀ l:List Term,jK l<4611686018427387904→∀ x∈l,jm x=some (fw x)
 | [],_,x,hx=>by simp at hx
 | t::l,h,x,hx=>by
   have k1:=(ef t).2
   have k2:=(gm l).2
   simp only[jK] at h
   rcases List.mem_cons.1 hx with e | hx
   · rw[e];exact oz t (by omega)
   · exact wD l (by omega) x hx
end
variable {z : Int}
theorem HD (l:List Term)(d:Int)(g:∀ x∈l,∀ c:Int,0≤c→c+fw x<4611686018427387904→ba x (d+1) c=some (c+fw x))(k:0≤d)(j:d<4611686018427387904)(m:l.length<4611686018427387904):∀(n i:Nat) (s:Int),l.length-i=n→i≤l.length→0≤s→s+jK (l.drop i)<4611686018427387904→aW l d z i s=some (s+jK (l.drop i)):=by
 intro n
 induction n with
 | zero=>
   intro i s h1 h2 h3 h4
   have:i=l.length:=by omega
   subst this
   rw[aW]
   simp[jK]
 | succ n h=>
   intro i s h1 h2 h3 h4
   have hi:i<l.length:=by omega
   have e:=mT l i hi
   have k1:=(ef l[i]).2
   have k2:=(gm (l.drop (i+1))).2
   have f:=lW (l.drop i)
   rw[List.length_drop] at f
   rw[aW,if_pos (by simpa using hi),cE hi]
   simp only[Option.bind_eq_bind,Option.bind_some]
   rw[dw,if_pos (aL (by omega) (by omega)),g _ (List.getElem_mem hi) s h3 (by omega)]
   simp only[Option.bind_eq_bind,Option.bind_some]
   rw[if_pos (aL (by omega) (by omega)),show((i:Int)+1)=((i+1:Nat):Int) by omega,h (i+1) (s+fw l[i]) (by omega) (by omega) (by omega) (by omega),e]
   congr 1
   omega
mutual
theorem ET : ∀(t:Term) (d c:Int),0≤d→d+fw t<4611686018427387904→0≤c→c+fw t<4611686018427387904→ba t d c=some (c+fw t)
 | .mk o n l,d,c,h1,h2,h3,h4=>by
   simp only[fw] at h2 h4 ⊢
   have k2:=(gm l).2
   have g:=lW l
   rw[ba,if_pos (aL (by omega) (by omega)),cW]
   have:=HD (z:=c+1) l d (fun x hx c f e=>Cq l x hx (d+1) c (by omega) (by have:=lX l x hx;omega) f e) h1 (by omega) (by omega) l.length 0 (c+1) rfl (Nat.zero_le _) (by omega) (by simp only[List.drop_zero];omega)
   simp only[List.drop_zero] at this
   simp only[Term.Kids]
   rw[show((0:Nat):Int)=0 from rfl] at this
   rw[this]
   simp only[Option.bind_eq_bind,Option.bind_some]
   congr 1
   omega
theorem Cq : ∀(l:List Term) (x:Term),x∈l→∀(d c:Int),0≤d→d+fw x<4611686018427387904→0≤c→c+fw x<4611686018427387904→ba x d c=some (c+fw x)
 | [],x,h,d,c,h1,h2,h3,h4=>by simp at h
 | t::l,x,h,d,c,h1,h2,h3,h4=>by
   rcases List.mem_cons.1 h with e | h
   · rw[e];rw[e] at h2 h4;exact ET t d c h1 h2 h3 h4
   · exact Cq l x h d c h1 h2 h3 h4
end
theorem DL (t:Term)(h:fw t<4611686018427387903):rZ t=some (fw t):=by
 have k:=(ef t).2
 rw[rZ,gz,ET t 1 0 (by omega) (by omega) (by omega) (by omega)]
 simp
theorem x9 (a b:Int):mS a b=some (NI a b):=by
 unfold mS NI
 by_cases h1:a<b
 · simp[h1]
 · by_cases h2:a>b<;>simp[h1,h2]
theorem uc (l:List Term)(i:Nat)(h:i<l.length):keys (l.drop i)=key l[i]++keys (l.drop (i+1)):=by
 rw[List.drop_eq_getElem_cons h,keys]
theorem xu (a b:Term)(k:∀ x∈a.Kids,∀ y∈b.Kids,jN x y=some (fD (key x) (key y)))(u:a.Kids.length<4611686018427387904):∀(n i:Nat),a.Kids.length-i=n→i≤a.Kids.length→i≤b.Kids.length→jK (a.Kids.drop i)=jK (b.Kids.drop i)→(∀ j,j<i→∀(p:j<a.Kids.length) (q:j<b.Kids.length),key a.Kids[j]=key b.Kids[j])→fZ a b i=some (fD (keys (a.Kids.drop i)) (keys (b.Kids.drop i))):=by
 intro n
 induction n with
 | zero=>
   intro i h1 h2 h3 h4 _
   have e:a.Kids.length=i:=by omega
   have f:b.Kids.length=i:=by
     rcases Nat.lt_or_ge i b.Kids.length with h | h
     · have:=mT b.Kids i h
       have:=(ef b.Kids[i]).2
       have:=(gm (b.Kids.drop (i+1))).2
       rw[List.drop_eq_nil_of_le (by omega:a.Kids.length≤i),jK] at h4
       omega
     · omega
   rw[fZ,if_neg (by simp;omega),x9]
   rw[List.drop_eq_nil_of_le (by omega:a.Kids.length≤i),List.drop_eq_nil_of_le (by omega:b.Kids.length≤i)]
   simp[keys,fD,NI,e,f]
 | succ n m=>
   intro i h1 h2 h3 h4 h5
   have hi:i<a.Kids.length:=by omega
   have k1:=(ef a.Kids[i]).2
   have k2:=(gm (a.Kids.drop (i+1))).2
   have e:=mT a.Kids i hi
   have d:i<b.Kids.length:=by
     rcases Nat.lt_or_ge i b.Kids.length with h | h
     · exact h
     · rw[List.drop_eq_nil_of_le h,jK] at h4;omega
   have f:=mT b.Kids i d
   rw[fZ,if_pos (by simpa using hi),if_pos (by simpa using d),cE hi,cE d]
   simp only[Option.bind_eq_bind,Option.bind_some,k _ (List.getElem_mem hi) _ (List.getElem_mem d)]
   rw[uc _ _ hi,uc _ _ d,IF]
   by_cases h0:fD (key a.Kids[i]) (key b.Kids[i])=0
   · have g:=(tU _ _).1 h0
     have es:fw a.Kids[i]=fw b.Kids[i]:=by
       have:=ef a.Kids[i];have:=ef b.Kids[i];rw[g] at *;omega
     rw[if_pos h0,if_neg (by simp[h0]),if_pos (aL (by omega) (by omega)),show((i:Int)+1)=((i+1:Nat):Int) by omega]
     exact m (i+1) (by omega) (by omega) (by omega) (by omega) fun j r p q=>by
       rcases Nat.lt_or_ge j i with h | h
       · exact h5 j h p q
       · have:j=i:=by omega
         subst this;exact g
   · rw[if_neg h0,if_pos (by simp[h0])]
theorem AR : ∀(n:Nat) (a b:Term),fw a≤n→fw a<4611686018427387904→fw b<4611686018427387904→jN a b=some (fD (key a) (key b)):=by
 intro n
 induction n with
 | zero=>intro a b h _ _;have:=(ef a).2;omega
 | succ n g=>
   intro a b h e f
   cases a with
   | mk o m l=>cases b with
     | mk o' d l' =>
       rw[jN,oz _ e,oz _ f]
       simp only[Option.bind_eq_bind,Option.bind_some,x9]
       simp only[fw] at h e f ⊢
       simp only[key,fD,Term.Op,Term.N,NI]
       by_cases h1:1+jK l<1+jK l'
       · simp[h1]
       · by_cases h2:1+jK l>1+jK l'
         · simp[h1,h2]
         · simp only[h1,h2,if_false]
           by_cases h3:o<o'
           · simp[h3]
           · by_cases h4:o>o'
             · simp[h3,h4]
             · simp only[h3,h4,if_false]
               by_cases h5:m<d
               · simp[h5]
               · by_cases h6:m>d
                 · simp[h5,h6]
                 · simp only[h5,h6,if_false]
                   simp only[decide_true,Bool.not_true,Bool.false_eq_true,if_false]
                   have:=xu (.mk o m l) (.mk o' d l') (fun x hx y k=>g x y (by have:=lX l x hx;omega) (by have:=lX l x hx;omega) (by have:=lX l' y k;omega)) (by have:=lW l;simp only[Term.Kids];omega) l.length 0 rfl (Nat.zero_le _) (Nat.zero_le _) (by simp only[Term.Kids,List.drop_zero];omega) (fun j q=>by omega)
                   simpa [Term.Kids] using this
theorem qD (a b:Int):ot a b=some (NI a b):=by
 unfold ot qe NI
 by_cases h1:a<b
 · simp[h1]
 · by_cases h2:a>b<;>simp[h1,h2]
theorem wP (a b:Term)(f:∀ x∈a.Kids,∀ y∈b.Kids,iQ x y=some (fD (key x) (key y)))(k:a.Kids.length<4611686018427387904):∀(n i:Nat),a.Kids.length-i=n→i≤a.Kids.length→jK (a.Kids.drop i)=jK (b.Kids.drop i)→fl a b i 0=some (fD (keys (a.Kids.drop i)) (keys (b.Kids.drop i))):=by
 intro n
 induction n with
 | zero=>
   intro i h1 h2 h4
   have e:b.Kids.length≤i:=by
     rcases Nat.lt_or_ge i b.Kids.length with h | h
     · have:=mT b.Kids i h
       have:=(ef b.Kids[i]).2
       have:=(gm (b.Kids.drop (i+1))).2
       rw[List.drop_eq_nil_of_le (by omega:a.Kids.length≤i),jK] at h4
       omega
     · omega
   rw[fl,if_neg (by simp;omega)]
   rw[List.drop_eq_nil_of_le (by omega:a.Kids.length≤i),List.drop_eq_nil_of_le e]
   simp[keys,fD]
 | succ n g=>
   intro i h1 h2 h4
   have hi:i<a.Kids.length:=by omega
   have k1:=(ef a.Kids[i]).2
   have k2:=(gm (a.Kids.drop (i+1))).2
   have m:=mT a.Kids i hi
   have d:i<b.Kids.length:=by
     rcases Nat.lt_or_ge i b.Kids.length with h | h
     · exact h
     · rw[List.drop_eq_nil_of_le h,jK] at h4;omega
   have e:=mT b.Kids i d
   rw[fl,if_pos (by simpa using hi),if_pos (by simpa using d),cE hi,cE d]
   simp only[Option.bind_eq_bind,Option.bind_some,f _ (List.getElem_mem hi) _ (List.getElem_mem d)]
   rw[uc _ _ hi,uc _ _ d,IF]
   by_cases h0:fD (key a.Kids[i]) (key b.Kids[i])=0
   · have j:=(tU _ _).1 h0
     have es:fw a.Kids[i]=fw b.Kids[i]:=by
       have:=ef a.Kids[i];have:=ef b.Kids[i];rw[j] at *;omega
     rw[if_pos h0,if_neg (by simp[h0]),if_pos (aL (by omega) (by omega)),show((i:Int)+1)=((i+1:Nat):Int) by omega,h0]
     exact g (i+1) (by omega) (by omega) (by omega)
   · rw[if_neg h0,if_pos (by simp[h0])]
theorem y6 : ∀(n:Nat) (a b:Term),fw a≤n→fw a<4611686018427387903→fw b<4611686018427387903→iQ a b=some (fD (key a) (key b)):=by
 intro n
 induction n with
 | zero=>intro a b h _ _;have:=(ef a).2;omega
 | succ n q=>
   intro a b h e f
   cases a with
   | mk o m l=>cases b with
     | mk o' d l' =>
       have g:∀ t:Term,fw t<4611686018427387903→ke t 0=some (fw t):=fun t r=>by simp[ke,DL t r]
       have j:∀ t:Term,ke t 1=some t.Op:=fun t=>by simp[ke]
       have k:∀ t:Term,ke t 2=some t.N:=fun t=>by simp[ke]
       rw[iQ,na,fm,g _ e,g _ f]
       simp only[fw] at h e f ⊢
       simp only[Option.bind_eq_bind,Option.bind_some,qD,key,fD,NI]
       by_cases h1:1+jK l<1+jK l'
       · simp[h1]
       · by_cases h2:1+jK l>1+jK l'
         · simp[h1,h2]
         · simp only[h1,h2,if_false]
           rw[if_pos (by decide),if_neg (by decide),if_pos (by decide),show(0:Int)+1=1 from rfl,fm,j,j]
           simp only[Option.bind_eq_bind,Option.bind_some,qD,NI,Term.Op]
           by_cases h3:o<o'
           · simp[h3]
           · by_cases h4:o>o'
             · simp[h3,h4]
             · simp only[h3,h4,if_false]
               rw[if_pos (by decide),if_neg (by decide),if_pos (by decide),show(1:Int)+1=2 from rfl,fm,k,k]
               simp only[Option.bind_eq_bind,Option.bind_some,qD,NI,Term.N]
               by_cases h5:m<d
               · simp[h5]
               · by_cases h6:m>d
                 · simp[h5,h6]
                 · simp only[h5,h6,if_false]
                   rw[if_pos (by decide),if_neg (by decide),if_pos (by decide),show(2:Int)+1=3 from rfl,fm,if_neg (by decide)]
                   have:=wP (.mk o m l) (.mk o' d l') (fun x hx y u=>q x y (by have:=lX l x hx;omega) (by have:=lX l x hx;omega) (by have:=lX l' y u;omega)) (by have:=lW l;simp only[Term.Kids];omega) l.length 0 rfl (Nat.zero_le _) (by simp only[Term.Kids,List.drop_zero];omega)
                   simpa [Term.Kids] using this
def dW (T:Nat→List Term):Nat→Nat→List (List Term)
 | 0,s=>if s=0 then [[]] else []
 | m+1,s=>(List.range' 1 s).flatMap fun k=>(T k).flatMap fun t=>(dW T m (s-k)).map (t :: ·)
def mB (T:Nat→List Term)(m s k:Nat):List (List Term):=(List.range' k (s+1-k)).flatMap fun k=>(T k).flatMap fun t=>(dW T m (s-k)).map (t :: ·)
theorem sG (T:Nat→List Term)(m s:Nat):dW T (m+1) s=mB T m s 1:=by simp[dW,mB]
theorem qA (T:Nat→List Term)(m s k:Nat)(h:k≤s):mB T m s k=((T k).flatMap fun t=>(dW T m (s-k)).map (t :: ·))++mB T m s (k+1):=by
 unfold mB
 rw[show s+1-k=(s+1-(k+1))+1 by omega,List.range'_succ]
 simp
theorem J2 (T:Nat→List Term):∀ m s,s<m→dW T m s=[]:=by
 intro m
 induction m with
 | zero=>intro s h;omega
 | succ m d=>
   intro s h
   rw[sG,mB]
   simp only[List.flatMap_eq_nil_iff,List.mem_range'_1,List.map_eq_nil_iff]
   intro k e t _
   exact d _ (by omega)
theorem kf (T:Nat→List Term)(m s k:Nat)(h0:1≤k)(h:s<k+m):mB T m s k=[]:=by
 rw[mB]
 simp only[List.flatMap_eq_nil_iff,List.mem_range'_1,List.map_eq_nil_iff]
 intro j d t _
 exact J2 T m _ (by omega)
def lZ (p:Bool×List Term×List Term)(t:Term):Bool×List Term×List Term:=
 if p.1 then p else if p.2.2.length=100 then(true,p.2) else(false,p.2.1++[t],p.2.2++[t])
def bE (p:Bool×List Term×List Term)(l:List Term):Bool×List Term×List Term:=l.foldl lZ p
theorem kg (p:Bool×List Term×List Term):bE p []=p:=rfl
theorem kV (p:Bool×List Term×List Term)(l k:List Term):bE p (l++k)=bE (bE p l) k:=by simp[bE]
theorem ie (p:Bool×List Term×List Term)(t:Term)(l:List Term):bE p (t::l)=bE (lZ p t) l:=rfl
theorem dx (p:Bool×List Term×List Term)(h:p.1=true):∀ l,bE p l=p:=by
 intro l
 induction l with
 | nil=>rfl
 | cons t l d=>rw[ie,show lZ p t=p by simp[lZ,h],d]
def vt (p:Bool×List Term×List Term):Prop:=p.2.1.length≤p.2.2.length∧p.2.2.length≤100
variable {p : Bool × List Term × List Term}
theorem zp (h:vt p)(t:Term):vt (lZ p t):=by
 unfold vt lZ at *
 split
 · exact h
 · split
   · exact h
   · simp;omega
theorem lH (h:vt p):∀ l,vt (bE p l):=by
 intro l
 induction l generalizing p with
 | nil=>exact h
 | cons t l d=>exact d (zp h t)
theorem nK (p:Bool×List Term×List Term)(l:List Term):∃ z,(bE p l).2.1=p.2.1++z∧(bE p l).2.2=p.2.2++z:=by
 induction l generalizing p with
 | nil=>exact⟨[],by simp[bE],by simp[bE]⟩
 | cons t l d=>
   obtain⟨z,h1,h2⟩:=d (lZ p t)
   rw[ie,h1,h2]
   unfold lZ
   split
   · exact⟨z,rfl,rfl⟩
   · split
     · exact⟨z,rfl,rfl⟩
     · exact⟨t::z,by simp,by simp⟩
theorem xl (p:Bool×List Term×List Term)(l:List Term)(h:(bE p l).1=false):bE p l=(false,p.2.1++l,p.2.2++l):=by
 induction l generalizing p with
 | nil=>simp only[kg] at h ⊢;obtain⟨b,x,y⟩:=p;simp_all
 | cons t l e=>
   rw[ie] at h ⊢
   rw[e _ h]
   unfold lZ
   split
   · rename_i d
     rw[dx _ (by simp[lZ,d])] at h
     simp[lZ,d] at h
   · split
     · rename_i h1 h2
       rw[dx _ (by simp[lZ,h1,h2])] at h
       simp[lZ,h1,h2] at h
     · simp
def lv (p:Bool×List Term×List Term):Sum (List Term×List Term) (List Term×List Term):=if p.1 then Sum.inr p.2 else Sum.inl p.2
def vD (p:Bool×List Term×List Term):Sum Unit (Sum (List Term×List Term) (List Term×List Term)):=if p.2.1=[] then Sum.inl () else Sum.inr (lv p)
def uv (p:Bool×List Term×List Term):Sum Unit (Sum Unit (Sum (List Term×List Term) (List Term×List Term))):=if p.2.1=[] then(if p.1 then Sum.inr (Sum.inl ()) else Sum.inl ()) else Sum.inr (Sum.inr (lv p))
theorem zO (l:List α)(d:α):dY (l++[d]) (l.length:Int)=some d:=by simp[dY]
theorem Dd (l:List α)(d x:α):(l++[d]).set (l.length:Int).toNat x=l++[x]:=by simp
theorem BE (a:List Term)(d:∀ x∈a,bh x=some x)(g:a.length≤100):∀(e i:Nat),a.length-i=e→i≤a.length→aX a i (a.take i)=some a:=by
 intro e
 induction e with
 | zero=>
   intro i h1 h2
   have:i=a.length:=by omega
   subst this
   rw[aX]
   simp
 | succ e f=>
   intro i h1 h2
   have hi:i<a.length:=by omega
   rw[aX,if_pos (by simpa using hi),cE hi]
   simp only[Option.bind_eq_bind,Option.bind_some,d _ (List.getElem_mem hi)]
   rw[if_pos (by simp;omega),if_pos (aL (by omega) (by omega)),show((i:Int)+1)=((i+1:Nat):Int) by omega]
   have:=f (i+1) (by omega) (by omega)
   rwa [List.take_succ_eq_append_getElem hi] at this
theorem tF (a:List Term)(d:∀ x∈a,bh x=some x)(e:a.length≤100):bJ a=some a:=by
 rw[bJ,dB]
 by_cases h:0<a.length
 · rw[if_pos (by simpa using h)]
   have h0:=cE h
   rw[show((0:Nat):Int)=0 from rfl] at h0
   rw[h0]
   simp only[Option.bind_eq_bind,Option.bind_some,d _ (List.getElem_mem h)]
   rw[if_pos (by simp)]
   have:=BE a d e (a.length-1) 1 rfl (by omega)
   rwa [List.take_succ_eq_append_getElem h] at this
 · have:a=[]:=List.eq_nil_of_length_eq_zero (by omega)
   subst this
   simp
section
variable (T : Nat → List Term) (a562 : List Int) (a563 a564 : Int) (a565 : ae) (a566 a567 : List Int) (a568 c : Int) (M : List (Int × List Term)) (n : Int) (a572 a574 : Int) (a576 : ae)
theorem CW (G:∀ k:Nat,1≤k→(k:Int)<n→(cD M k).getD []=T k)(F:cD M n=none)(I:∀ k t,t∈T k→bh t=some t)(A:∀ k,(T k).length≤100):∀(m s:Nat) (g f out:List Term),g.length+m≤4→s≤5→(s:Int)<n→(∀ x∈g,bh x=some x)→vt (false,f,out) →
   bt g m s a562 a563 a564 a565 a566 a567 a568 c M n a572 f a574 n a576 out=some (lv (bE (false,f,out) ((dW T m s).map fun l=>Term.mk 3 c (g++l)))):=by
 intro m
 induction m with
 | zero=>
   intro s g f out K L B r j
   rw[bt,if_pos (by simp)]
   simp only[dW]
   by_cases h:s=0
   · subst h
     have C:=j;simp only[vt] at C
     rw[if_neg (by simp),tF g r (by omega)]
     simp only[Option.bind_eq_bind,Option.bind_some,if_true,List.map_cons,List.map_nil,List.append_nil,ie,kg,lZ,Bool.false_eq_true,if_false]
     by_cases h1:out.length=100
     · simp[h1,lv]
     · simp[h1,lv,F,zO]
       rw[if_neg (by omega),if_pos (by omega),if_pos (by omega)]
   · rw[if_pos (by simp;omega)]
     simp[h,bE,lv]
 | succ m N=>
   intro s g f out K L B r j
   rw[bt,if_neg (by simp;omega),sG]
   have H:∀(d k:Nat),s+1-k=d→1≤k→k≤s+1→∀ c0 o0 f out,vt (false,f,out)→bU g (m+1:Nat) s a562 a563 a564 a565 a566 a567 a568 c M n a572 c0 a574 n a576 o0 k f out=some (lv (bE (false,f,out) ((mB T m s k).map fun l=>Term.mk 3 c (g++l)))):=by
     intro d
     induction d with
     | zero=>
       intro k O h1 P c0 o0 f out j
       rw[bU,if_pos (aL (by omega) (by omega)),if_pos (aL (by omega) (by omega)),if_neg (by simp;omega),kf T m s k h1 (by omega)]
       rfl
     | succ d D=>
       intro k O h1 P c0 o0 f out j
       rw[bU,if_pos (aL (by omega) (by omega)),if_pos (aL (by omega) (by omega))]
       by_cases R:k+m≤s
       · rw[if_pos (by simp;omega),if_pos (by simp[F];omega),G k h1 (by omega),qA T m s k (by omega)]
         have J:∀(e i:Nat),(T k).length-i=e→i≤(T k).length→∀ f out,vt (false,f,out)→bB g (m+1:Nat) s a562 a563 a564 a565 a566 a567 a568 c M n a572 c0 a574 n a576 o0 k (T k) ((T k).length:Int) i f out=some (lv (bE (false,f,out) (((((T k).drop i).flatMap fun t=>(dW T m (s-k)).map (t :: ·))++mB T m s (k+1)).map fun l=>Term.mk 3 c (g++l)))):=by
          intro e
          induction e with
          | zero=>
            intro i Q hi f out j
            rw[bB,if_neg (by simp;omega),if_pos (aL (by omega) (by omega)),List.drop_eq_nil_of_le (by omega),show((k:Int)+1)=((k+1:Nat):Int) by omega]
            exact D (k+1) (by omega) (by omega) (by omega) _ _ _ _ j
          | succ e E=>
            intro i Q hi f out j
            have q:i<(T k).length:=by omega
            have S:=A k
            rw[bB,if_pos (by simpa using q),cE q]
            simp only[Option.bind_eq_bind,Option.bind_some]
            rw[if_pos (by simp;omega),if_pos (aL (by omega) (by omega)),if_pos (aL (by omega) (by omega)),show((m+1:Nat):Int)-1=(m:Int) by omega,show(s:Int)-(k:Int)=((s-k:Nat):Int) by omega]
            rw [N (s-k) (g++[(T k)[i]]) f out (by simp;omega) (by omega) (by omega) (by
              intro x hx
              rcases List.mem_append.1 hx with hx | hx
              · exact r x hx
              · rw[List.mem_singleton.1 hx];exact I k _ (List.getElem_mem q)) j]
            simp only[Option.bind_some]
            rw[List.drop_eq_getElem_cons q,List.flatMap_cons,List.append_assoc,List.map_append,kV,List.map_map]
            rw[show(((fun l=>Term.mk 3 c (g++l))∘fun x=>(T k)[i]::x):List Term→Term)=fun l=>Term.mk 3 c (g++[(T k)[i]]++l) from funext fun l=>by simp]
            have u:=lH j ((dW T m (s-k)).map fun l=>Term.mk 3 c (g++[(T k)[i]]++l))
            generalize bE (false,f,out) ((dW T m (s-k)).map fun l=>Term.mk 3 c (g++[(T k)[i]]++l))=p at u
            obtain⟨b,x,y⟩:=p
            cases b with
            | true=>rw[dx _ rfl];rfl
            | false=>
              show(if dH .i64 ((i:Int)+1) then _ else none)=_
              rw[if_pos (aL (by omega) (by omega)),show((i:Int)+1)=((i+1:Nat):Int) by omega]
              exact E (i+1) (by omega) (by omega) _ _ u
         have:=J _ 0 rfl (Nat.zero_le _) _ _ j
         simpa using this
       · rw[if_neg (by simp;omega),kf T m s k h1 (by omega)]
         rfl
   exact H _ 1 rfl (by omega) (by omega) _ _ _ _ j
end
section
variable (T : Nat → List Term) (a581 : List Int) (a582 a583 : Int) (a584 : ae) (a585 a586 : List Int) (a587 c : Int) (M : List (Int × List Term)) (a590 a591 n : Int) (a593 : ae)
theorem HE (p:Bool×List Term×List Term)(d:p.1=false)(l:List Term)(h:(bE p l).1=true):(bE p l).2.2.length=100:=by
 induction l generalizing p with
 | nil=>simp[kg,d] at h
 | cons t l e=>
   rw[ie] at h ⊢
   by_cases h1:(lZ p t).1=true
   · rw[dx _ h1]
     unfold lZ at h1 ⊢
     simp only[d,Bool.false_eq_true,if_false] at h1 ⊢
     split
     · rename_i h2;exact h2
     · rename_i h2;simp[h2] at h1
   · exact e _ (by simpa using h1) h
theorem J3 (h:p.2.1≠[])(l:List Term):vD (bE p l)=Sum.inr (lv (bE p l)):=by
 obtain⟨z,h1,_⟩:=nK p l
 rw[vD,if_neg (by rw[h1];simp[h])]
theorem J4 (h:p.2.1≠[])(l:List Term):uv (bE p l)=Sum.inr (Sum.inr (lv (bE p l))):=by
 obtain⟨z,h1,_⟩:=nK p l
 rw[uv,if_neg (by rw[h1];simp[h])]
variable {o : List Term}
theorem tB {l:List Term}(h:(bE (false,[],o) l).2.1=[])(d:(bE (false,[],o) l).1=false):l=[]:=by
 have:=xl _ _ d
 rw[this] at h
 simpa using h
theorem sd {l:List Term}(h:(bE (false,[],o) l).2.1=[])(d:(bE (false,[],o) l).1=true):o.length=100:=by
 have:=HE _ rfl _ d
 obtain⟨z,h1,h2⟩:=nK (false,[],o) l
 rw[h1] at h
 rw[h2] at this
 simp only[List.nil_append] at h
 subst h
 simpa using this
theorem Pu (D:∀ k:Nat,1≤k→(k:Int)<n→(cD M k).getD []=T k)(E:cD M n=none)(F:∀ k t,t∈T k→bh t=some t)(r:∀ k,(T k).length≤100)(m s:Nat)(g:List Term)(P:g.length+(m+1)≤4)(Q:s≤5)(K:(s:Int)<n)(A:∀ x∈g,bh x=some x):∀(d k:Nat),s+1-k=d→1≤k→k≤s+1 →
   (∀ f out,vt (false,f,out)→cH g (m+1:Nat) s a581 a582 a583 a584 a585 a586 a587 c M a590 a591 n a593 k f out=some (Sum.inr (lv (bE (false,f,out) ((mB T m s k).map fun l=>Term.mk 3 c (g++l)))))) ∧
   (k≤s→∀(e i:Nat),(T k).length-i=e→i≤(T k).length→∀ f out,vt (false,f,out)→bd g (m+1:Nat) s a581 a582 a583 a584 a585 a586 a587 c M a590 a591 n a593 k (T k) ((T k).length:Int) i f out=some (Sum.inr (lv (bE (false,f,out) (((((T k).drop i).flatMap fun t=>(dW T m (s-k)).map (t :: ·))++mB T m s (k+1)).map fun l=>Term.mk 3 c (g++l)))))):=by
 intro d
 induction d with
 | zero=>
   intro k G h1 H
   refine⟨fun f out q=>?_,fun h=>by omega⟩
   rw[cH,if_pos (aL (by omega) (by omega)),if_pos (aL (by omega) (by omega)),if_neg (by simp;omega),kf T m s k h1 (by omega)]
   rfl
 | succ d B=>
   intro k G h1 H
   have J:k≤s→∀(e i:Nat),(T k).length-i=e→i≤(T k).length→∀ f out,vt (false,f,out)→bd g (m+1:Nat) s a581 a582 a583 a584 a585 a586 a587 c M a590 a591 n a593 k (T k) ((T k).length:Int) i f out=some (Sum.inr (lv (bE (false,f,out) (((((T k).drop i).flatMap fun t=>(dW T m (s-k)).map (t :: ·))++mB T m s (k+1)).map fun l=>Term.mk 3 c (g++l))))):=by
     intro L e
     induction e with
     | zero=>
       intro i I hi f out q
       rw[bd,if_neg (by simp;omega),if_pos (aL (by omega) (by omega)),List.drop_eq_nil_of_le (by omega),show((k:Int)+1)=((k+1:Nat):Int) by omega]
       exact(B (k+1) (by omega) (by omega) (by omega)).1 _ _ q
     | succ e C=>
       intro i I hi f out q
       have j:i<(T k).length:=by omega
       have N:=r k
       rw[bd,if_pos (by simpa using j),cE j]
       simp only[Option.bind_eq_bind,Option.bind_some]
       rw[if_pos (by simp;omega),if_pos (aL (by omega) (by omega)),if_pos (aL (by omega) (by omega)),show((m+1:Nat):Int)-1=(m:Int) by omega,show(s:Int)-(k:Int)=((s-k:Nat):Int) by omega]
       rw [CW T a581 a582 a583 a584 a585 a586 a587 c M n a590 a591 a593 D E F r m (s-k) (g++[(T k)[i]]) f out (by simp;omega) (by omega) (by omega) (by
         intro x hx
         rcases List.mem_append.1 hx with hx | hx
         · exact A x hx
         · rw[List.mem_singleton.1 hx];exact F k _ (List.getElem_mem j)) q]
       simp only[Option.bind_some]
       rw[List.drop_eq_getElem_cons j,List.flatMap_cons,List.append_assoc,List.map_append,kV,List.map_map]
       rw[show(((fun l=>Term.mk 3 c (g++l))∘fun x=>(T k)[i]::x):List Term→Term)=fun l=>Term.mk 3 c (g++[(T k)[i]]++l) from funext fun l=>by simp]
       have u:=lH q ((dW T m (s-k)).map fun l=>Term.mk 3 c (g++[(T k)[i]]++l))
       generalize bE (false,f,out) ((dW T m (s-k)).map fun l=>Term.mk 3 c (g++[(T k)[i]]++l))=p at u
       obtain⟨b,x,y⟩:=p
       cases b with
       | true=>rw[dx _ rfl];rfl
       | false=>
         show(if dH .i64 ((i:Int)+1) then _ else none)=_
         rw[if_pos (aL (by omega) (by omega)),show((i:Int)+1)=((i+1:Nat):Int) by omega]
         exact C (i+1) (by omega) (by omega) _ _ u
   refine⟨fun f out q=>?_,J⟩
   rw[cH,if_pos (aL (by omega) (by omega)),if_pos (aL (by omega) (by omega))]
   by_cases O:k+m≤s
   · rw[if_pos (by simp;omega),if_pos (by simp[E];omega),D k h1 (by omega),qA T m s k (by omega)]
     have:=J (by omega) _ 0 rfl (Nat.zero_le _) _ _ q
     simpa using this
   · rw[if_neg (by simp;omega),kf T m s k h1 (by omega)]
     rfl
theorem XO (B:∀ k:Nat,1≤k→(k:Int)<n→(cD M k).getD []=T k)(F:cD M n=none)(G:∀ k t,t∈T k→bh t=some t)(u:∀ k,(T k).length≤100):∀(m s:Nat) (f:List Term),f.length+m≤4→s≤5→(s:Int)<n→(∀ x∈f,bh x=some x) →
   cx f m s a581 a582 a583 a584 a585 a586 a587 c M a590 a591 n a593=some (vD (bE (false,[],[]) ((dW T m s).map fun l=>Term.mk 3 c (f++l)))):=by
 intro m
 induction m with
 | zero=>
   intro s f I r A g
   rw[cx,if_pos (by simp)]
   simp only[dW]
   by_cases h:s=0
   · subst h
     rw[if_neg (by simp),tF f g (by omega)]
     simp only[Option.bind_eq_bind,Option.bind_some,if_true,List.map_cons,List.map_nil,List.append_nil,ie,kg,lZ,Bool.false_eq_true,if_false]
     simp[vD,lv,F,dY]
   · rw[if_pos (by simp;omega)]
     simp[h,bE,vD]
 | succ m O=>
   intro s f I r A g
   rw[cx,if_neg (by simp;omega),sG]
   have H:∀(d k:Nat),s+1-k=d→1≤k→k≤s+1→bV f (m+1:Nat) s a581 a582 a583 a584 a585 a586 a587 c M a590 a591 n a593 k=some (vD (bE (false,[],[]) ((mB T m s k).map fun l=>Term.mk 3 c (f++l)))):=by
     intro d
     induction d with
     | zero=>
       intro k K h1 L
       rw[bV,if_pos (aL (by omega) (by omega)),if_pos (aL (by omega) (by omega)),if_neg (by simp;omega),kf T m s k h1 (by omega)]
       rfl
     | succ d D=>
       intro k K h1 L
       rw[bV,if_pos (aL (by omega) (by omega)),if_pos (aL (by omega) (by omega))]
       by_cases S:k+m≤s
       · rw[if_pos (by simp;omega),qA T m s k (by omega)]
         have J:∀(e i:Nat),(T k).length-i=e→i≤(T k).length→bC f (m+1:Nat) s a581 a582 a583 a584 a585 a586 a587 c M a590 a591 n a593 k i=some (vD (bE (false,[],[]) (((((T k).drop i).flatMap fun t=>(dW T m (s-k)).map (t :: ·))++mB T m s (k+1)).map fun l=>Term.mk 3 c (f++l)))):=by
          intro e
          induction e with
          | zero=>
            intro i P hi
            rw[bC,B k h1 (by omega),if_neg (by simp;omega),if_pos (aL (by omega) (by omega)),List.drop_eq_nil_of_le (by omega),show((k:Int)+1)=((k+1:Nat):Int) by omega]
            exact D (k+1) (by omega) (by omega) (by omega)
          | succ e E=>
            intro i P hi
            have j:i<(T k).length:=by omega
            have U:=u k
            rw[bC,B k h1 (by omega),if_pos (by simpa using j),cE j]
            simp only[Option.bind_eq_bind,Option.bind_some]
            rw[if_pos (by simp;omega),if_pos (aL (by omega) (by omega)),if_pos (aL (by omega) (by omega)),show((m+1:Nat):Int)-1=(m:Int) by omega,show(s:Int)-(k:Int)=((s-k:Nat):Int) by omega]
            rw [O (s-k) (f++[(T k)[i]]) (by simp;omega) (by omega) (by omega) (by
              intro x hx
              rcases List.mem_append.1 hx with hx | hx
              · exact g x hx
              · rw[List.mem_singleton.1 hx];exact G k _ (List.getElem_mem j))]
            simp only[Option.bind_some]
            rw[List.drop_eq_getElem_cons j,List.flatMap_cons,List.append_assoc,List.map_append,kV,List.map_map]
            rw[show(((fun l=>Term.mk 3 c (f++l))∘fun x=>(T k)[i]::x):List Term→Term)=fun l=>Term.mk 3 c (f++[(T k)[i]]++l) from funext fun l=>by simp]
            have q:=lH (p:=(false,[],[])) (by simp only[vt,List.length_nil];omega) ((dW T m (s-k)).map fun l=>Term.mk 3 c (f++[(T k)[i]]++l))
            have C:=@tB [] ((dW T m (s-k)).map fun l=>Term.mk 3 c (f++[(T k)[i]]++l))
            have r:=@sd [] ((dW T m (s-k)).map fun l=>Term.mk 3 c (f++[(T k)[i]]++l))
            generalize (dW T m (s-k)).map (fun l=>Term.mk 3 c (f++[(T k)[i]]++l))=Q at q C r
            generalize N:bE (false,[],[]) Q=p at q C r
            have own:=fun(p:Bool×List Term×List Term) R=>((Pu T a581 a582 a583 a584 a585 a586 a587 c M a590 a591 n a593 B F G u m s f I (by omega) A g (d+1) k K h1 L).2 (by omega) (e) (i+1) (by omega) (by omega) p.2.1 p.2.2 R)
            obtain⟨b,x,y⟩:=p
            by_cases hx:x=[]
            · subst hx
              cases b with
              | true=>
                rw[dx _ rfl]
                exact absurd (r rfl rfl) (by simp)
              | false=>
                have:=C rfl rfl
                subst this
                simp only[kg,gU,true_and] at N
                subst N
                show(if dH .i64 ((i:Int)+1) then _ else none)=_
                rw[if_pos (aL (by omega) (by omega)),show((i:Int)+1)=((i+1:Nat):Int) by omega]
                exact E (i+1) (by omega) (by omega)
            · rw[J3 (by exact hx),show vD (b,x,y)=Sum.inr (lv (b,x,y)) from if_neg hx]
              cases b with
              | true=>rw[dx _ rfl];rfl
              | false=>
                show(if dH .i64 ((i:Int)+1) then _ else none)=_
                rw[if_pos (aL (by omega) (by omega)),show((i:Int)+1)=((i+1:Nat):Int) by omega]
                have:=own (false,x,y) q
                rw[←B k h1 (by omega)] at this ⊢
                exact this
         have:=J _ 0 rfl (Nat.zero_le _)
         simpa using this
       · rw[if_neg (by simp;omega),kf T m s k h1 (by omega)]
         rfl
   exact H _ 1 rfl (by omega) (by omega)
theorem Pv (D:∀ k:Nat,1≤k→(k:Int)<n→(cD M k).getD []=T k)(E:cD M n=none)(F:∀ k t,t∈T k→bh t=some t)(r:∀ k,(T k).length≤100)(m s:Nat)(g o1:List Term)(P:g.length+(m+1)≤4)(Q:s≤5)(K:(s:Int)<n)(A:∀ x∈g,bh x=some x):∀(d k:Nat),s+1-k=d→1≤k→k≤s+1 →
   (∀ f out,vt (false,f,out)→cI g (m+1:Nat) s a581 a582 a583 a584 a585 a586 a587 c M a590 a591 n a593 o1 k f out=some (Sum.inr<|Sum.inr<|(lv (bE (false,f,out) ((mB T m s k).map fun l=>Term.mk 3 c (g++l)))))) ∧
   (k≤s→∀(e i:Nat),(T k).length-i=e→i≤(T k).length→∀ f out,vt (false,f,out)→bf g (m+1:Nat) s a581 a582 a583 a584 a585 a586 a587 c M a590 a591 n a593 o1 k (T k) ((T k).length:Int) i f out=some (Sum.inr<|Sum.inr<|(lv (bE (false,f,out) (((((T k).drop i).flatMap fun t=>(dW T m (s-k)).map (t :: ·))++mB T m s (k+1)).map fun l=>Term.mk 3 c (g++l)))))):=by
 intro d
 induction d with
 | zero=>
   intro k G h1 H
   refine⟨fun f out q=>?_,fun h=>by omega⟩
   rw[cI,if_pos (aL (by omega) (by omega)),if_pos (aL (by omega) (by omega)),if_neg (by simp;omega),kf T m s k h1 (by omega)]
   rfl
 | succ d B=>
   intro k G h1 H
   have J:k≤s→∀(e i:Nat),(T k).length-i=e→i≤(T k).length→∀ f out,vt (false,f,out)→bf g (m+1:Nat) s a581 a582 a583 a584 a585 a586 a587 c M a590 a591 n a593 o1 k (T k) ((T k).length:Int) i f out=some (Sum.inr<|Sum.inr<|(lv (bE (false,f,out) (((((T k).drop i).flatMap fun t=>(dW T m (s-k)).map (t :: ·))++mB T m s (k+1)).map fun l=>Term.mk 3 c (g++l))))):=by
     intro L e
     induction e with
     | zero=>
       intro i I hi f out q
       rw[bf,if_neg (by simp;omega),if_pos (aL (by omega) (by omega)),List.drop_eq_nil_of_le (by omega),show((k:Int)+1)=((k+1:Nat):Int) by omega]
       exact(B (k+1) (by omega) (by omega) (by omega)).1 _ _ q
     | succ e C=>
       intro i I hi f out q
       have j:i<(T k).length:=by omega
       have N:=r k
       rw[bf,if_pos (by simpa using j),cE j]
       simp only[Option.bind_eq_bind,Option.bind_some]
       rw[if_pos (by simp;omega),if_pos (aL (by omega) (by omega)),if_pos (aL (by omega) (by omega)),show((m+1:Nat):Int)-1=(m:Int) by omega,show(s:Int)-(k:Int)=((s-k:Nat):Int) by omega]
       rw [CW T a581 a582 a583 a584 a585 a586 a587 c M n a590 a591 a593 D E F r m (s-k) (g++[(T k)[i]]) f out (by simp;omega) (by omega) (by omega) (by
         intro x hx
         rcases List.mem_append.1 hx with hx | hx
         · exact A x hx
         · rw[List.mem_singleton.1 hx];exact F k _ (List.getElem_mem j)) q]
       simp only[Option.bind_some]
       rw[List.drop_eq_getElem_cons j,List.flatMap_cons,List.append_assoc,List.map_append,kV,List.map_map]
       rw[show(((fun l=>Term.mk 3 c (g++l))∘fun x=>(T k)[i]::x):List Term→Term)=fun l=>Term.mk 3 c (g++[(T k)[i]]++l) from funext fun l=>by simp]
       have u:=lH q ((dW T m (s-k)).map fun l=>Term.mk 3 c (g++[(T k)[i]]++l))
       generalize bE (false,f,out) ((dW T m (s-k)).map fun l=>Term.mk 3 c (g++[(T k)[i]]++l))=p at u
       obtain⟨b,x,y⟩:=p
       cases b with
       | true=>rw[dx _ rfl];rfl
       | false=>
         show(if dH .i64 ((i:Int)+1) then _ else none)=_
         rw[if_pos (aL (by omega) (by omega)),show((i:Int)+1)=((i+1:Nat):Int) by omega]
         exact C (i+1) (by omega) (by omega) _ _ u
   refine⟨fun f out q=>?_,J⟩
   rw[cI,if_pos (aL (by omega) (by omega)),if_pos (aL (by omega) (by omega))]
   by_cases O:k+m≤s
   · rw[if_pos (by simp;omega),if_pos (by simp[E];omega),D k h1 (by omega),qA T m s k (by omega)]
     have:=J (by omega) _ 0 rfl (Nat.zero_le _) _ _ q
     simpa using this
   · rw[if_neg (by simp;omega),kf T m s k h1 (by omega)]
     rfl
theorem XP (A:∀ k:Nat,1≤k→(k:Int)<n→(cD M k).getD []=T k)(F:cD M n=none)(G:∀ k t,t∈T k→bh t=some t)(r:∀ k,(T k).length≤100)(o1:List Term)(S:o1.length≤100):∀(m s:Nat) (f:List Term),f.length+m≤4→s≤5→(s:Int)<n→(∀ x∈f,bh x=some x) →
   cy f m s a581 a582 a583 a584 a585 a586 a587 c M a590 a591 n a593 o1=some (uv (bE (false,[],o1) ((dW T m s).map fun l=>Term.mk 3 c (f++l)))):=by
 intro m
 induction m with
 | zero=>
   intro s f I B u g
   rw[cy,if_pos (by simp)]
   simp only[dW]
   by_cases h:s=0
   · subst h
     rw[if_neg (by simp),tF f g (by omega)]
     simp only[Option.bind_eq_bind,Option.bind_some,if_true,List.map_cons,List.map_nil,List.append_nil,ie,kg,lZ,Bool.false_eq_true,if_false]
     by_cases h1:o1.length=100
     · simp[h1,uv]
     · simp[h1,uv,lv,F,zO]
       rw[if_neg (by omega),if_pos (by omega)]
   · rw[if_pos (by simp;omega)]
     simp[h,bE,uv]
 | succ m O=>
   intro s f I B u g
   rw[cy,if_neg (by simp;omega),sG]
   have H:∀(d k:Nat),s+1-k=d→1≤k→k≤s+1→bW f (m+1:Nat) s a581 a582 a583 a584 a585 a586 a587 c M a590 a591 n a593 o1 k=some (uv (bE (false,[],o1) ((mB T m s k).map fun l=>Term.mk 3 c (f++l)))):=by
     intro d
     induction d with
     | zero=>
       intro k K h1 L
       rw[bW,if_pos (aL (by omega) (by omega)),if_pos (aL (by omega) (by omega)),if_neg (by simp;omega),kf T m s k h1 (by omega)]
       rfl
     | succ d D=>
       intro k K h1 L
       rw[bW,if_pos (aL (by omega) (by omega)),if_pos (aL (by omega) (by omega))]
       by_cases U:k+m≤s
       · rw[if_pos (by simp;omega),qA T m s k (by omega)]
         have J:∀(e i:Nat),(T k).length-i=e→i≤(T k).length→bD f (m+1:Nat) s a581 a582 a583 a584 a585 a586 a587 c M a590 a591 n a593 o1 k i=some (uv (bE (false,[],o1) (((((T k).drop i).flatMap fun t=>(dW T m (s-k)).map (t :: ·))++mB T m s (k+1)).map fun l=>Term.mk 3 c (f++l)))):=by
          intro e
          induction e with
          | zero=>
            intro i P hi
            rw[bD,A k h1 (by omega),if_neg (by simp;omega),if_pos (aL (by omega) (by omega)),List.drop_eq_nil_of_le (by omega),show((k:Int)+1)=((k+1:Nat):Int) by omega]
            exact D (k+1) (by omega) (by omega) (by omega)
          | succ e E=>
            intro i P hi
            have j:i<(T k).length:=by omega
            have V:=r k
            rw[bD,A k h1 (by omega),if_pos (by simpa using j),cE j]
            simp only[Option.bind_eq_bind,Option.bind_some]
            rw[if_pos (by simp;omega),if_pos (aL (by omega) (by omega)),if_pos (aL (by omega) (by omega)),show((m+1:Nat):Int)-1=(m:Int) by omega,show(s:Int)-(k:Int)=((s-k:Nat):Int) by omega]
            rw [O (s-k) (f++[(T k)[i]]) (by simp;omega) (by omega) (by omega) (by
              intro x hx
              rcases List.mem_append.1 hx with hx | hx
              · exact g x hx
              · rw[List.mem_singleton.1 hx];exact G k _ (List.getElem_mem j))]
            simp only[Option.bind_some]
            rw[List.drop_eq_getElem_cons j,List.flatMap_cons,List.append_assoc,List.map_append,kV,List.map_map]
            rw[show(((fun l=>Term.mk 3 c (f++l))∘fun x=>(T k)[i]::x):List Term→Term)=fun l=>Term.mk 3 c (f++[(T k)[i]]++l) from funext fun l=>by simp]
            have q:=lH (p:=(false,[],o1)) (by simp only[vt,List.length_nil];omega) ((dW T m (s-k)).map fun l=>Term.mk 3 c (f++[(T k)[i]]++l))
            have C:=@tB o1 ((dW T m (s-k)).map fun l=>Term.mk 3 c (f++[(T k)[i]]++l))
            have B:=@sd o1 ((dW T m (s-k)).map fun l=>Term.mk 3 c (f++[(T k)[i]]++l))
            generalize (dW T m (s-k)).map (fun l=>Term.mk 3 c (f++[(T k)[i]]++l))=Q at q C B
            generalize N:bE (false,[],o1) Q=p at q C B
            have own:=fun(p:Bool×List Term×List Term) R=>((Pv T a581 a582 a583 a584 a585 a586 a587 c M a590 a591 n a593 A F G r m s f o1 I (by omega) u g (d+1) k K h1 L).2 (by omega) (e) (i+1) (by omega) (by omega) p.2.1 p.2.2 R)
            obtain⟨b,x,y⟩:=p
            by_cases hx:x=[]
            · subst hx
              cases b with
              | true=>
                rw[dx _ rfl]
                rfl
              | false=>
                have:=C rfl rfl
                subst this
                simp only[kg,gU,true_and] at N
                subst N
                show(if dH .i64 ((i:Int)+1) then _ else none)=_
                rw[if_pos (aL (by omega) (by omega)),show((i:Int)+1)=((i+1:Nat):Int) by omega]
                exact E (i+1) (by omega) (by omega)
            · rw[J4 (by exact hx),show uv (b,x,y)=Sum.inr (Sum.inr (lv (b,x,y))) from if_neg hx]
              cases b with
              | true=>rw[dx _ rfl];rfl
              | false=>
                show(if dH .i64 ((i:Int)+1) then _ else none)=_
                rw[if_pos (aL (by omega) (by omega)),show((i:Int)+1)=((i+1:Nat):Int) by omega]
                have:=own (false,x,y) q
                rw[←A k h1 (by omega)] at this ⊢
                exact this
         have:=J _ 0 rfl (Nat.zero_le _)
         simpa using this
       · rw[if_neg (by simp;omega),kf T m s k h1 (by omega)]
         rfl
   exact H _ 1 rfl (by omega) (by omega)
end
variable {o : List Term}
theorem J5 {b:Bool}{l:List Term}(h:(bE (b,[],o) l).2.1=[]):bE (b,[],o) l=((bE (b,[],o) l).1,[],o):=by
 obtain⟨z,h1,h2⟩:=nK (b,[],o) l
 rw[h1] at h
 simp only[List.nil_append] at h
 subst h
 generalize bE (b,[],o) l=p at h1 h2
 obtain⟨x,y,w⟩:=p
 simp_all
def acs (x y:Term):Bool:=decide (fD (key y) (key x)<0)
def ug (x:Term):List Term→List Term
 | []=>[x]
 | y::l=>if acs x y then y::ug x l else x::y::l
def uU (o l:List Term):List Term:=l.foldl (fun o x=>ug x o) o
theorem abS (x:Term)(e:List Term):∀ d:List Term,(∀ y∈d,acs x y=true)→ug x (d++e)=d++ug x e:=by
 intro d
 induction d with
 | nil=>intro _;rfl
 | cons y d f=>
   intro h
   rw[List.cons_append,ug,if_pos (h y (by simp)),f fun z g=>h z (by simp[g])]
   rfl
theorem abT (x:Term):∀ l,(ug x l).length=l.length+1:=by
 intro l
 induction l with
 | nil=>rfl
 | cons y l d=>rw[ug];split<;>simp[d]
theorem M8 (x:Term):∀ l z,z∈ug x l→z=x∨z∈l:=by
 intro l
 induction l with
 | nil=>intro z h;simpa [ug] using h
 | cons y l d=>
   intro z h
   rw[ug] at h
   split at h
   · rcases List.mem_cons.1 h with h | h
     · right;simp[h]
     · rcases d z h with h | h
       · left;exact h
       · right;simp[h]
   · simpa using h
def nE (sig:ae)(c:Int):Nat:=match dY sig.Cons c with
 | some d=>d.cU.toNat
 | none=>0
def nh (T:Nat→List Term)(sig:ae)(n:Nat)(c:Int):List Term:=(dW T (nE sig c) (n-1)).map fun l=>Term.mk 3 c l
def km (ints:List Int)(n:Nat)(i:Nat):List Term:=if n=1 then(ints.drop i).map fun x=>Term.mk 2 x [] else []
def kB (T:Nat→List Term)(sig:ae)(cons ints:List Int)(n:Nat):List Term:=km ints n 0++cons.flatMap (nh T sig n)
def zG (p:Bool×List Term×List Term):Sum (List Term×List Term) (Sum (List Term×List Term) Unit):=if p.1 then Sum.inl (p.2.2,p.2.1) else Sum.inr (Sum.inl (p.2.2,p.2.1))
def NJ (p:Bool×List Term×List Term):Sum (List Term×List Term) (Sum (List Term×List Term) Unit):=if p.2.1=[] then Sum.inr (Sum.inr ()) else zG p
def uV (p:Bool×List Term×List Term):Sum Unit (Sum (List Term×List Term) (Sum (List Term×List Term) Unit)):=if p.1 then Sum.inr (Sum.inl (p.2.2,p.2.1)) else Sum.inr (Sum.inr (Sum.inl (p.2.2,p.2.1)))
def Be (p:Bool×List Term×List Term):Sum Unit (Sum (List Term×List Term) (Sum (List Term×List Term) Unit)):=if p.2.1=[] then(if p.1 then Sum.inl () else Sum.inr (Sum.inr (Sum.inr ()))) else uV p
theorem L3 (h:p.2.1≠[])(l:List Term):NJ (bE p l)=zG (bE p l):=by
 obtain⟨z,h1,_⟩:=nK p l
 rw[NJ,if_neg (by rw[h1];simp[h])]
theorem IG (h:p.2.1≠[])(l:List Term):Be (bE p l)=uV (bE p l):=by
 obtain⟨z,h1,_⟩:=nK p l
 rw[Be,if_neg (by rw[h1];simp[h])]
theorem HF {l:List Term}(h:(bE (false,[],[]) l).2.1=[]):l=[]:=by
 by_cases d:(bE (false,[],[]) l).1=true
 · exact absurd (sd h d) (by simp)
 · exact tB h (by simpa using d)
structure KA (T : Nat → List Term) (M : List (Int × List Term)) (n : Nat) : Prop where
 get : ∀ k : Nat, 1 ≤ k → (k : Int) < n → (cD M k).getD [] = T k
 none : cD M n = none
 cp : ∀ k t, t ∈ T k → bh t = some t
 len : ∀ k, (T k).length ≤ 100
def CB (sig:ae)(cons:List Int):Prop:=∀ c∈cons,∃ d,dY sig.Cons c=some d∧0≤d.cU∧d.cU≤4
section
variable (T : Nat → List Term) (sig : ae) (cons ints : List Int) (M : List (Int × List Term)) (n : Nat) (w z : Int) (s2 : ae)
theorem wg (e:CB sig cons)(i:Nat)(hi:i<cons.length):∃ d,dY sig.Cons cons[i]=some d∧d.cU=(nE sig cons[i]:Nat)∧nE sig cons[i]≤4:=by
 obtain⟨d,h1,h2,h3⟩:=e _ (List.getElem_mem hi)
 refine⟨d,h1,?_,?_⟩<;>simp only[nE,h1]<;>omega
theorem yb (h:KA T M n)(r:1≤n)(u:n≤6)(k:CB sig cons)(A:cons.length≤20):∀(d i:Nat),cons.length-i=d→i≤cons.length→∀ out e,vt (false,e,out) →
   bR w n z n s2 sig cons ints M i out e=some (zG (bE (false,e,out) ((cons.drop i).flatMap (nh T sig n)))):=by
 intro d
 induction d with
 | zero=>
   intro i m hi out e j
   rw[bR,if_neg (by simp;omega),List.drop_eq_nil_of_le (by omega)]
   rfl
 | succ d q=>
   intro i m hi out e j
   have f:i<cons.length:=by omega
   obtain⟨B,h1,h2,h3⟩:=wg sig cons k i f
   rw[bR,if_pos (by simpa using f),cE f]
   simp only[Option.bind_eq_bind,Option.bind_some,h1]
   rw[if_pos (aL (by omega) (by omega))]
   simp only[ew,Option.bind_some,dN]
   rw[h2,show(n:Int)-1=((n-1:Nat):Int) by omega,CW T cons (cons.length:Int) i sig cons ints n cons[i] M n w z s2 h.get h.none h.cp h.len (nE sig cons[i]) (n-1) [] e out (by simpa using h3) (by omega) (by omega) (by simp) j]
   simp only[List.nil_append]
   rw[List.drop_eq_getElem_cons f,List.flatMap_cons,kV]
   have g:=lH j (nh T sig n cons[i])
   rw[nh] at g ⊢
   generalize bE (false,e,out) ((dW T (nE sig cons[i]) (n-1)).map fun l=>Term.mk 3 cons[i] l)=p at g
   obtain⟨b,x,y⟩:=p
   cases b with
   | true=>rw[dx _ rfl];rfl
   | false=>
     show(if dH .i64 ((i:Int)+1) then _ else none)=_
     rw[if_pos (aL (by omega) (by omega)),show((i:Int)+1)=((i+1:Nat):Int) by omega]
     exact q (i+1) (by omega) (by omega) _ _ g
theorem Pw (g:KA T M n)(k:1≤n)(m:n≤6)(r:CB sig cons)(q:cons.length≤20):∀(d i:Nat),cons.length-i=d→i≤cons.length →
   cz w n z n s2 sig cons ints M i=some (NJ (bE (false,[],[]) ((cons.drop i).flatMap (nh T sig n)))):=by
 intro d
 induction d with
 | zero=>
   intro i B hi
   rw[cz,if_neg (by simp;omega),List.drop_eq_nil_of_le (by omega)]
   rfl
 | succ d C=>
   intro i B hi
   have e:i<cons.length:=by omega
   obtain⟨E,h1,h2,h3⟩:=wg sig cons r i e
   rw[cz,if_pos (by simpa using e),cE e]
   simp only[Option.bind_eq_bind,Option.bind_some,h1]
   rw[if_pos (aL (by omega) (by omega))]
   simp only[ez,Option.bind_some,gA]
   rw[h2,show(n:Int)-1=((n-1:Nat):Int) by omega,XO T cons (cons.length:Int) i sig cons ints n cons[i] M w z n s2 g.get g.none g.cp g.len (nE sig cons[i]) (n-1) [] (by simpa using h3) (by omega) (by omega) (by simp)]
   simp only[List.nil_append]
   rw[List.drop_eq_getElem_cons e,List.flatMap_cons,kV]
   have f:=lH (p:=(false,[],[])) (by simp only[vt,List.length_nil];omega) (nh T sig n cons[i])
   have h:=@tB [] (nh T sig n cons[i])
   have j:=@sd [] (nh T sig n cons[i])
   generalize u:nh T sig n cons[i]=D at f h j
   rw[nh] at u
   rw[u]
   generalize A:bE (false,[],[]) D=p at f h j
   obtain⟨b,x,y⟩:=p
   by_cases hx:x=[]
   · subst hx
     cases b with
     | true=>
       rw[dx _ rfl]
       exact absurd (j rfl rfl) (by simp)
     | false=>
       have:=h rfl rfl
       subst this
       simp only[kg,gU,true_and] at A
       subst A
       show(if dH .i64 ((i:Int)+1) then _ else none)=_
       rw[if_pos (aL (by omega) (by omega)),show((i:Int)+1)=((i+1:Nat):Int) by omega]
       exact C (i+1) (by omega) (by omega)
   · rw[L3 (by exact hx),show vD (b,x,y)=Sum.inr (lv (b,x,y)) from if_neg hx]
     cases b with
     | true=>rw[dx _ rfl];rfl
     | false=>
       show(if dH .i64 ((i:Int)+1) then _ else none)=_
       rw[if_pos (aL (by omega) (by omega)),show((i:Int)+1)=((i+1:Nat):Int) by omega]
       exact yb T sig cons ints M n w z s2 g k m r q d (i+1) (by omega) (by omega) _ _ f
theorem FV (k:KA T M n)(m:1≤n)(q:n≤6)(A:CB sig cons)(r:cons.length≤20)(C:ints.length≤20):∀(d i:Nat),ints.length-i=d→i≤ints.length→∀ out f,vt (false,f,out) →
   bS w n z n s2 sig cons ints M i out f=some (zG (bE (false,f,out) (km ints n i++cons.flatMap (nh T sig n)))):=by
 intro d
 induction d with
 | zero=>
   intro i B hi out f h
   rw[bS,if_neg (by simp;omega),show km ints n i=[] by simp[km,List.drop_eq_nil_of_le (show ints.length≤i by omega)]]
   simpa using yb T sig cons ints M n w z s2 k m q A r _ 0 rfl (Nat.zero_le _) out f h
 | succ d x=>
   intro i B hi out f h
   have g:i<ints.length:=by omega
   have u:=h;simp only[vt] at u
   rw[bS,if_pos (by simpa using g),cE g]
   simp only[Option.bind_eq_bind,Option.bind_some]
   by_cases y:n=1
   · subst y
     rw[if_pos (by rfl),show km ints 1 i=Term.mk 2 ints[i] []::km ints 1 (i+1) by rw[km,km,if_pos rfl,if_pos rfl,List.drop_eq_getElem_cons g];rfl,List.cons_append,ie]
     have j:=zp h (Term.mk 2 ints[i] [])
     by_cases h1:out.length=100
     · rw[if_pos (by simp[h1]),dx _ (by simp[lZ,h1])]
       simp[lZ,h1,zG]
     · rw[if_neg (by simp;omega),if_pos (by simpa using k.none),if_pos (by simp;omega),if_pos (by simpa using k.none),if_pos (by simp;omega),zO]
       simp only[Option.bind_some,Dd]
       rw[if_pos (aL (by omega) (by omega)),show((i:Int)+1)=((i+1:Nat):Int) by omega]
       have e:lZ (false,f,out) (Term.mk 2 ints[i] [])=(false,f++[Term.mk 2 ints[i] []],out++[Term.mk 2 ints[i] []]):=by simp[lZ,h1]
       rw[e] at j ⊢
       exact x (i+1) (by omega) (by omega) _ _ j
   · rw[if_neg (by simp;omega),if_pos (aL (by omega) (by omega)),show((i:Int)+1)=((i+1:Nat):Int) by omega,x (i+1) (by omega) (by omega) _ _ h]
     simp[km,y]
theorem Px (j:KA T M n)(f:1≤n)(g:n≤6)(m:CB sig cons)(h:cons.length≤20)(k:ints.length≤20):∀(d i:Nat),ints.length-i=d→i≤ints.length →
   cA w n z n s2 sig cons ints M i=some (NJ (bE (false,[],[]) (km ints n i++cons.flatMap (nh T sig n)))):=by
 intro d
 induction d with
 | zero=>
   intro i r hi
   rw[cA,if_neg (by simp;omega),show km ints n i=[] by simp[km,List.drop_eq_nil_of_le (show ints.length≤i by omega)]]
   simpa using Pw T sig cons ints M n w z s2 j f g m h _ 0 rfl (Nat.zero_le _)
 | succ d u=>
   intro i r hi
   have e:i<ints.length:=by omega
   rw[cA,if_pos (by simpa using e),cE e]
   simp only[Option.bind_eq_bind,Option.bind_some]
   by_cases q:n=1
   · subst q
     rw[if_pos (by rfl),show km ints 1 i=Term.mk 2 ints[i] []::km ints 1 (i+1) by rw[km,km,if_pos rfl,if_pos rfl,List.drop_eq_getElem_cons e];rfl,List.cons_append,ie]
     rw[if_pos (by simpa using j.none),if_pos (by simp),if_pos (by simpa using j.none),if_pos (by simp)]
     simp only[show dY [Term.mk 0 0 []] 0=some (Term.mk 0 0 []) from rfl,Option.bind_some]
     rw[if_pos (aL (by omega) (by omega)),show((i:Int)+1)=((i+1:Nat):Int) by omega]
     rw[show lZ (false,[],[]) (Term.mk 2 ints[i] [])=(false,[Term.mk 2 ints[i] []],[Term.mk 2 ints[i] []]) from rfl,L3 (by simp)]
     exact FV T sig cons ints M 1 w z s2 j f g m h k d (i+1) (by omega) (by omega) _ _ (by simp[vt])
   · rw[if_neg (by simp;omega),if_pos (aL (by omega) (by omega)),show((i:Int)+1)=((i+1:Nat):Int) by omega,u (i+1) (by omega) (by omega)]
     simp[km,q]
theorem abH (h:KA T M n)(d:1≤n)(e:n≤6)(j:CB sig cons)(f:cons.length≤20)(g:ints.length≤20) :
  eR w n z n s2 sig cons ints M=some (NJ (bE (false,[],[]) (kB T sig cons ints n))):=by
 rw[eR,kB]
 exact Px T sig cons ints M n w z s2 h d e j f g _ 0 rfl (Nat.zero_le _)
theorem wE (h:KA T M n)(r:1≤n)(u:n≤6)(k:CB sig cons)(A:cons.length≤20)(o1:List Term):∀(d i:Nat),cons.length-i=d→i≤cons.length→∀ out e,vt (false,e,out) →
   bH w n z n s2 sig cons ints o1 M i out e=some (uV (bE (false,e,out) ((cons.drop i).flatMap (nh T sig n)))):=by
 intro d
 induction d with
 | zero=>
   intro i m hi out e j
   rw[bH,if_neg (by simp;omega),List.drop_eq_nil_of_le (by omega)]
   rfl
 | succ d q=>
   intro i m hi out e j
   have f:i<cons.length:=by omega
   obtain⟨B,h1,h2,h3⟩:=wg sig cons k i f
   rw[bH,if_pos (by simpa using f),cE f]
   simp only[Option.bind_eq_bind,Option.bind_some,h1]
   rw[if_pos (aL (by omega) (by omega))]
   simp only[ew,Option.bind_some,dN]
   rw[h2,show(n:Int)-1=((n-1:Nat):Int) by omega,CW T cons (cons.length:Int) i sig cons ints n cons[i] M n w z s2 h.get h.none h.cp h.len (nE sig cons[i]) (n-1) [] e out (by simpa using h3) (by omega) (by omega) (by simp) j]
   simp only[List.nil_append]
   rw[List.drop_eq_getElem_cons f,List.flatMap_cons,kV]
   have g:=lH j (nh T sig n cons[i])
   rw[nh] at g ⊢
   generalize bE (false,e,out) ((dW T (nE sig cons[i]) (n-1)).map fun l=>Term.mk 3 cons[i] l)=p at g
   obtain⟨b,x,y⟩:=p
   cases b with
   | true=>rw[dx _ rfl];rfl
   | false=>
     show(if dH .i64 ((i:Int)+1) then _ else none)=_
     rw[if_pos (aL (by omega) (by omega)),show((i:Int)+1)=((i+1:Nat):Int) by omega]
     exact q (i+1) (by omega) (by omega) _ _ g
theorem M9 (g:KA T M n)(j:1≤n)(k:n≤6)(r:CB sig cons)(m:cons.length≤20)(o1:List Term)(q:o1.length≤100):∀(d i:Nat),cons.length-i=d→i≤cons.length →
   cg w n z n s2 sig cons ints o1 M i=some (Be (bE (false,[],o1) ((cons.drop i).flatMap (nh T sig n)))):=by
 intro d
 induction d with
 | zero=>
   intro i C hi
   rw[cg,if_neg (by simp;omega),List.drop_eq_nil_of_le (by omega)]
   rfl
 | succ d D=>
   intro i C hi
   have e:i<cons.length:=by omega
   obtain⟨F,h1,h2,h3⟩:=wg sig cons r i e
   rw[cg,if_pos (by simpa using e),cE e]
   simp only[Option.bind_eq_bind,Option.bind_some,h1]
   rw[if_pos (aL (by omega) (by omega))]
   simp only[ez,Option.bind_some,gB]
   rw[h2,show(n:Int)-1=((n-1:Nat):Int) by omega,XP T cons (cons.length:Int) i sig cons ints n cons[i] M w z n s2 g.get g.none g.cp g.len o1 q (nE sig cons[i]) (n-1) [] (by simpa using h3) (by omega) (by omega) (by simp)]
   simp only[List.nil_append]
   rw[List.drop_eq_getElem_cons e,List.flatMap_cons,kV]
   have f:=lH (p:=(false,[],o1)) (by simp only[vt,List.length_nil];omega) (nh T sig n cons[i])
   have h:=@tB o1 (nh T sig n cons[i])
   have u:=@sd o1 (nh T sig n cons[i])
   generalize A:nh T sig n cons[i]=E at f h u
   rw[nh] at A
   rw[A]
   generalize B:bE (false,[],o1) E=p at f h u
   obtain⟨b,x,y⟩:=p
   by_cases hx:x=[]
   · subst hx
     cases b with
     | true=>
       rw[dx _ rfl]
       rfl
     | false=>
       have:=h rfl rfl
       subst this
       simp only[kg,gU,true_and] at B
       subst B
       show(if dH .i64 ((i:Int)+1) then _ else none)=_
       rw[if_pos (aL (by omega) (by omega)),show((i:Int)+1)=((i+1:Nat):Int) by omega]
       exact D (i+1) (by omega) (by omega)
   · rw[IG (by exact hx),show uv (b,x,y)=Sum.inr (Sum.inr (lv (b,x,y))) from if_neg hx]
     cases b with
     | true=>rw[dx _ rfl];rfl
     | false=>
       show(if dH .i64 ((i:Int)+1) then _ else none)=_
       rw[if_pos (aL (by omega) (by omega)),show((i:Int)+1)=((i+1:Nat):Int) by omega]
       exact wE T sig cons ints M n w z s2 g j k r m o1 d (i+1) (by omega) (by omega) _ _ f
theorem DN (k:KA T M n)(m:1≤n)(q:n≤6)(A:CB sig cons)(r:cons.length≤20)(C:ints.length≤20)(o1:List Term):∀(d i:Nat),ints.length-i=d→i≤ints.length→∀ out f,vt (false,f,out) →
   bI w n z n s2 sig cons ints o1 M i out f=some (uV (bE (false,f,out) (km ints n i++cons.flatMap (nh T sig n)))):=by
 intro d
 induction d with
 | zero=>
   intro i B hi out f h
   rw[bI,if_neg (by simp;omega),show km ints n i=[] by simp[km,List.drop_eq_nil_of_le (show ints.length≤i by omega)]]
   simpa using wE T sig cons ints M n w z s2 k m q A r o1 _ 0 rfl (Nat.zero_le _) out f h
 | succ d x=>
   intro i B hi out f h
   have g:i<ints.length:=by omega
   have u:=h;simp only[vt] at u
   rw[bI,if_pos (by simpa using g),cE g]
   simp only[Option.bind_eq_bind,Option.bind_some]
   by_cases y:n=1
   · subst y
     rw[if_pos (by rfl),show km ints 1 i=Term.mk 2 ints[i] []::km ints 1 (i+1) by rw[km,km,if_pos rfl,if_pos rfl,List.drop_eq_getElem_cons g];rfl,List.cons_append,ie]
     have j:=zp h (Term.mk 2 ints[i] [])
     by_cases h1:out.length=100
     · rw[if_pos (by simp[h1]),dx _ (by simp[lZ,h1])]
       simp[lZ,h1,uV]
     · rw[if_neg (by simp;omega),if_pos (by simpa using k.none),if_pos (by simp;omega),if_pos (by simpa using k.none),if_pos (by simp;omega),zO]
       simp only[Option.bind_some,Dd]
       rw[if_pos (aL (by omega) (by omega)),show((i:Int)+1)=((i+1:Nat):Int) by omega]
       have e:lZ (false,f,out) (Term.mk 2 ints[i] [])=(false,f++[Term.mk 2 ints[i] []],out++[Term.mk 2 ints[i] []]):=by simp[lZ,h1]
       rw[e] at j ⊢
       exact x (i+1) (by omega) (by omega) _ _ j
   · rw[if_neg (by simp;omega),if_pos (aL (by omega) (by omega)),show((i:Int)+1)=((i+1:Nat):Int) by omega,x (i+1) (by omega) (by omega) _ _ h]
     simp[km,y]
theorem Na (m:KA T M n)(g:1≤n)(h:n≤6)(u:CB sig cons)(j:cons.length≤20)(q:ints.length≤20)(o1:List Term)(r:o1.length≤100):∀(d i:Nat),ints.length-i=d→i≤ints.length →
   cj w n z n s2 sig cons ints o1 M i=some (Be (bE (false,[],o1) (km ints n i++cons.flatMap (nh T sig n)))):=by
 intro d
 induction d with
 | zero=>
   intro i y hi
   rw[cj,if_neg (by simp;omega),show km ints n i=[] by simp[km,List.drop_eq_nil_of_le (show ints.length≤i by omega)]]
   simpa using M9 T sig cons ints M n w z s2 m g h u j o1 r _ 0 rfl (Nat.zero_le _)
 | succ d A=>
   intro i y hi
   have f:i<ints.length:=by omega
   rw[cj,if_pos (by simpa using f),cE f]
   simp only[Option.bind_eq_bind,Option.bind_some]
   by_cases x:n=1
   · subst x
     rw[if_pos (by rfl),show km ints 1 i=Term.mk 2 ints[i] []::km ints 1 (i+1) by rw[km,km,if_pos rfl,if_pos rfl,List.drop_eq_getElem_cons f];rfl,List.cons_append,ie]
     have k:=zp (p:=(false,[],o1)) (by simp only[vt,List.length_nil];omega) (Term.mk 2 ints[i] [])
     by_cases h1:o1.length=100
     · rw[if_pos (by simp[h1]),dx _ (by simp[lZ,h1])]
       simp[lZ,h1,Be]
     · rw[if_neg (by simp;omega),if_pos (by simpa using m.none),if_pos (by simp),if_pos (by simpa using m.none),if_pos (by simp;omega),zO]
       simp only[Option.bind_some,Dd]
       rw[if_pos (aL (by omega) (by omega)),show((i:Int)+1)=((i+1:Nat):Int) by omega]
       have e:lZ (false,[],o1) (Term.mk 2 ints[i] [])=(false,[Term.mk 2 ints[i] []],o1++[Term.mk 2 ints[i] []]):=by simp[lZ,h1]
       rw[e] at k ⊢
       rw[IG (by simp)]
       exact DN T sig cons ints M 1 w z s2 m g h u j q o1 d (i+1) (by omega) (by omega) _ _ k
   · rw[if_neg (by simp;omega),if_pos (aL (by omega) (by omega)),show((i:Int)+1)=((i+1:Nat):Int) by omega,A (i+1) (by omega) (by omega)]
     simp[km,x]
theorem XQ (j:KA T M n)(d:1≤n)(e:n≤6)(k:CB sig cons)(f:cons.length≤20)(g:ints.length≤20)(o1:List Term)(h:o1.length≤100) :
  eE w n z n s2 sig cons ints o1 M=some (Be (bE (false,[],o1) (kB T sig cons ints n))):=by
 rw[eE,kB]
 exact Na T sig cons ints M n w z s2 j d e k f g o1 h _ 0 rfl (Nat.zero_le _)
end
theorem FW (a:List Term)(d:∀ x∈a,bh x=some x)(g:a.length≤100):∀(e i:Nat),a.length-i=e→i≤a.length→au a i (a.take i)=some a:=by
 intro e
 induction e with
 | zero=>
   intro i h1 h2
   have:i=a.length:=by omega
   subst this
   rw[au]
   simp
 | succ e f=>
   intro i h1 h2
   have hi:i<a.length:=by omega
   rw[au,if_pos (by simpa using hi),cE hi]
   simp only[Option.bind_eq_bind,Option.bind_some,d _ (List.getElem_mem hi)]
   rw[if_pos (by simp;omega),if_pos (aL (by omega) (by omega)),show((i:Int)+1)=((i+1:Nat):Int) by omega]
   have:=f (i+1) (by omega) (by omega)
   rwa [List.take_succ_eq_append_getElem hi] at this
theorem FX (l:List Term)(d:∀ x∈l,bh x=some x)(f:l.length≤100):bm l=some l:=by
 rw[bm]
 by_cases h0:0<l.length
 · rw[if_pos (by simpa using h0)]
   have e:=cE h0
   rw[show((0:Nat):Int)=0 from rfl] at e
   rw[e]
   simp only[Option.bind_eq_bind,Option.bind_some,d _ (List.getElem_mem h0)]
   rw[if_pos (by simp)]
   have:=FW l d (by omega) (l.length-1) 1 rfl (by omega)
   rw[List.take_succ_eq_append_getElem h0] at this
   simp only[List.take_zero,List.nil_append] at this
   rw[show((1:Nat):Int)=1 from rfl] at this
   rw[this]
 · have:l=[]:=List.eq_nil_of_length_eq_zero (by omega)
   subst this
   rfl
mutual
theorem Cr : ∀ t:Term,fw t≤100→bh t=some t
 | .mk o n l,h=>by
   simp only[fw] at h
   have d:=Ax l (by omega)
   have e:=lW l
   rw[bh,bA,show(Term.mk o n l).Kids=l from rfl,FX _ d (by omega)]
   rfl
theorem Ax : ∀ l:List Term,jK l≤100→∀ x∈l,bh x=some x
 | [],_,x,hx=>by simp at hx
 | t::l,h,x,hx=>by
   have k1:=(ef t).2
   have k2:=(gm l).2
   simp only[jK] at h
   rcases List.mem_cons.1 hx with e | hx
   · rw[e];exact Cr t (by omega)
   · exact Ax l (by omega) x hx
end
inductive Made (sig : ae) (cons ints : List Int) : Term → Prop
 | int (x : Int) (h : x ∈ ints) : Made sig cons ints (.mk 2 x [])
 | QO (c : Int) (nm : bN) (l : List Term) (h1 : c ∈ cons) (h2 : dY sig.Cons c = some nm) (h3 : nm.cU = l.length) (h4 : ∀ t ∈ l, Made sig cons ints t) : Made sig cons ints (.mk 3 c l)
def vy (sig:ae)(cons ints:List Int):Nat→Nat→(Nat→List Term)→List Term→Option (List Term)
 | 0,_,_,out=>some out
 | d+1,n,T,out=>if(bE (false,[],out) (kB T sig cons ints n)).1 then none else vy sig cons ints d (n+1) (fun k=>if k=n then(bE (false,[],out) (kB T sig cons ints n)).2.1 else T k) (bE (false,[],out) (kB T sig cons ints n)).2.2
section
variable (sig : ae) (cons ints : List Int)
theorem HG (T:Nat→List Term)(e:∀ k t,t∈T k→fw t=k∧Made sig cons ints t):∀ m s l,l∈dW T m s→l.length=m∧jK l=s∧∀ t∈l,Made sig cons ints t:=by
 intro m
 induction m with
 | zero=>
   intro s l h
   simp only[dW] at h
   split at h
   · simp only[List.mem_singleton] at h
     subst h
     rename_i h0
     exact⟨rfl,by simp[jK,h0],by simp⟩
   · simp at h
 | succ m f=>
   intro s l h
   simp only[dW,List.mem_flatMap,List.mem_range'_1,List.mem_map] at h
   obtain⟨k,q,t,g,l', d,rfl⟩:=h
   obtain⟨h1,h2,h3⟩:=f _ _ d
   obtain⟨r,j⟩:=e _ _ g
   refine⟨by simp[h1],by simp only[jK];omega,?_⟩
   intro x hx
   rcases List.mem_cons.1 hx with rfl | hx
   · exact j
   · exact h3 x hx
theorem HH (T:Nat→List Term)(f:∀ k t,t∈T k→fw t=k∧Made sig cons ints t)(g:CB sig cons)(n:Nat)(q:1≤n)(t:Term)(h:t∈kB T sig cons ints n):fw t=n∧Made sig cons ints t:=by
 simp only[kB,List.mem_append,List.mem_flatMap] at h
 rcases h with h | ⟨c,d,h⟩
 · simp only[km,List.drop_zero] at h
   split at h
   · simp only[List.mem_map] at h
     obtain⟨x,hx,rfl⟩:=h
     exact⟨by simp[fw,jK];omega,.int x hx⟩
   · simp at h
 · simp only[nh,List.mem_map] at h
   obtain⟨l,j,rfl⟩:=h
   obtain⟨h1,h2,h3⟩:=HG sig cons ints T f _ _ _ j
   obtain⟨m,e,r,u⟩:=g c d
   refine⟨by simp only[fw];omega,.QO c m l d e ?_ h3⟩
   simp only[nE,e] at h1
   omega
structure Inv2 (T : Nat → List Term) (n : Nat) (out : List Term) : Prop where
 A3 : ∀ k t, t ∈ T k → fw t = k ∧ Made sig cons ints t
 low : ∀ k, n ≤ k → T k = []
 ap3 : T 0 = []
 len : ∀ k, (T k).length ≤ 100
 Xg : out.length ≤ 100
 abl : ∀ t ∈ out, fw t < n ∧ Made sig cons ints t
 flat : out = (List.range n).flatMap T
variable {n : Nat} {T : Nat → List Term} {out : List Term}
theorem wh (h:Inv2 sig cons ints T n out)(m:1≤n)(q:CB sig cons)(r:(bE (false,[],out) (kB T sig cons ints n)).1=false) :
   Inv2 sig cons ints (fun k=>if k=n then(bE (false,[],out) (kB T sig cons ints n)).2.1 else T k) (n+1) (bE (false,[],out) (kB T sig cons ints n)).2.2:=by
 have f:=lH (p:=(false,[],out)) (by have:=h.Xg;simp only[vt,List.length_nil];omega) (kB T sig cons ints n)
 have e:=xl _ _ r
 have j:=HH sig cons ints T h.A3 q n m
 rw[e] at f ⊢
 simp only[List.nil_append,vt] at f ⊢
 refine⟨?_,?_,?_,?_,f.2,?_,?_⟩
 · intro k t d
   split at d
   · rename_i g;subst g;exact j t d
   · exact h.A3 k t d
 · intro k g
   rw[if_neg (by omega)];exact h.low k (by omega)
 · rw[if_neg (by omega)];exact h.ap3
 · intro k
   split
   · omega
   · exact h.len k
 · intro t d
   rcases List.mem_append.1 d with d | d
   · have:=h.abl t d;exact⟨by omega,this.2⟩
   · have:=j t d;exact⟨by omega,this.2⟩
 · rw[List.range_succ,List.flatMap_append,List.flatMap_singleton,if_pos rfl,h.flat]
   congr 1
   rw[List.flatMap,List.flatMap]
   congr 1
   refine List.map_congr_left fun k g=>?_
   rw[if_neg (by have:=List.mem_range.1 g;omega)]
theorem J6 (g:CB sig cons):∀ d T n out l,Inv2 sig cons ints T n out→1≤n→vy sig cons ints d n T out=some l→l.length≤100∧∀ t∈l,fw t<n+d∧Made sig cons ints t:=by
 intro d
 induction d with
 | zero=>intro T n out l h f e;simp only[vy,an] at e;subst e;exact⟨h.Xg,h.abl⟩
 | succ d j=>
   intro T n out l h f e
   simp only[vy] at e
   split at e
   · simp at e
   · rename_i k
     have:=j _ _ _ _ (wh sig cons ints h f g (by simpa using k)) (by omega) e
     exact⟨this.1,fun t m=>by have:=this.2 t m;exact⟨by omega,this.2⟩⟩
variable {β : Type}
theorem EU (M:List (Int×β))(a:Int)(v:β)(k:Int):cD (M++[(a,v)]) k=(cD M k).or (if k=a then some v else none):=by
 induction M with
 | nil=>simp only[List.nil_append,cD];split<;>rfl
 | cons p M d=>
   obtain⟨x,y⟩:=p
   simp only[List.cons_append,cD]
   split
   · rfl
   · exact d
structure Ee (T : Nat → List Term) (M : List (Int × List Term)) (n : Nat) : Prop where
 get : ∀ k : Nat, 1 ≤ k → (k : Int) < n → (cD M k).getD [] = T k
 none : ∀ k : Nat, n ≤ k → cD M (k : Int) = none
variable {M : List (Int × List Term)}
theorem Cs (h:Ee T M n)(c:List Term):Ee (fun k=>if k=n then c else T k) (M++[((n:Int),c)]) (n+1):=by
 refine⟨fun k h1 h2=>?_,fun k h1=>?_⟩
 · rw[EU]
   by_cases d:k=n
   · subst d;simp[h.none k (Nat.le_refl _)]
   · simp only[if_neg d,if_neg (show ¬ (k:Int)=n by omega),Option.or_none]
     exact h.get k h1 (by omega)
 · rw[EU,h.none k (by omega),if_neg (by omega)];rfl
theorem Ct (h:Ee T M n):Ee (fun k=>if k=n then [] else T k) M (n+1):=by
 refine⟨fun k h1 h2=>?_,fun k h1=>h.none k (by omega)⟩
 by_cases d:k=n
 · subst d;simp[h.none k (Nat.le_refl _)]
 · simp only[if_neg d];exact h.get k h1 (by omega)
def Jf (l:List Term):Option (List Term×Int):=qx l sig>>=fun v=>if decide (v.length=l.length) then some (v,0) else none
def OI (f:List Term→Option (List Term×Int))(r:Option (List Term)):Option (List Term×Int):=match r with
 | some l=>f l
 | none=>some ([],3)
theorem L4 (h:Inv2 sig cons ints T n out)(e:Ee T M n)(f:n≤7):KA T M n:=
 ⟨e.get,e.none n (Nat.le_refl _),fun k t d=>Cr t (by
  have:=(h.A3 k t d).1
  rcases Nat.lt_or_ge k n with hk | hk
  · omega
  · rw[h.low k hk] at d;simp at d),h.len⟩
theorem XR (m:CB sig cons)(j:cons.length≤20)(k:ints.length≤20)(size:Nat)(u:size≤6):∀(d n:Nat) (T:Nat→List Term) (M:List (Int×List Term)) (out:List Term),size+1-n=d→1≤n→n≤size+1→Inv2 sig cons ints T n out→Ee T M n →
   dK sig cons ints size n out M=OI (Jf sig) (vy sig cons ints d n T out):=by
 intro d
 induction d with
 | zero=>
   intro n T M out r h1 h2 h g
   rw[dK,if_neg (by simp;omega)]
   simp only[vy,OI,Jf,Aa]
 | succ d q=>
   intro n T M out r h1 h2 h g
   have e:=XQ T sig cons ints M n size 0 sig (L4 sig cons ints h g (by omega)) h1 (by omega) m j k out h.Xg
   rw[dK,if_pos (by simp;omega)]
   simp only[ev,Option.bind_eq_bind,Option.bind_some]
   rw[e]
   simp only[Option.bind_some,vy]
   have st:=wh sig cons ints h h1 m
   have f:=J5 (b:=false) (o:=out) (l:=kB T sig cons ints n)
   generalize bE (false,[],out) (kB T sig cons ints n)=p at st f
   obtain⟨b,x,y⟩:=p
   cases b with
   | true=>
     rw[if_pos rfl]
     by_cases hx:x=[]
     · subst hx;rfl
     · rw[show Be (true,x,y)=Sum.inr (Sum.inl (y,x)) by simp[Be,uV,hx]];rfl
   | false=>
     rw[if_neg (show ¬ (false,x,y).1=true by simp)]
     by_cases hx:x=[]
     · subst hx
       have:=f rfl
       simp only[gU,true_and] at this
       subst this
       show(if dH .i64 ((n:Int)+1) then _ else none)=_
       rw[if_pos (aL (by omega) (by omega)),show((n:Int)+1)=((n+1:Nat):Int) by omega]
       exact q (n+1) _ _ _ (by omega) (by omega) (by omega) (st rfl) (Ct g)
     · rw[show Be (false,x,y)=Sum.inr (Sum.inr (Sum.inl (y,x))) by simp[Be,uV,hx]]
       show(if dH .i64 ((n:Int)+1) then _ else none)=_
       rw[if_pos (aL (by omega) (by omega)),show((n:Int)+1)=((n+1:Nat):Int) by omega]
       exact q (n+1) _ _ _ (by omega) (by omega) (by omega) (st rfl) (Cs g x)
theorem XS (q:CB sig cons)(g:cons.length≤20)(j:ints.length≤20)(size:Nat)(u:size≤6):∀(d n:Nat) (T:Nat→List Term) (M:List (Int×List Term)),size+1-n=d→1≤n→n≤size+1→Inv2 sig cons ints T n []→Ee T M n →
   dL sig cons ints size n M=OI (Jf sig) (vy sig cons ints d n T []):=by
 intro d
 induction d with
 | zero=>
   intro n T M A h1 h2 h m
   rw[dL,if_neg (by simp;omega)]
   simp[vy,OI,Jf,Dc,qx]
 | succ d B=>
   intro n T M A h1 h2 h m
   have e:=abH T sig cons ints M n size 0 sig (L4 sig cons ints h m (by omega)) h1 (by omega) q g j
   rw[dL,if_pos (by simp;omega)]
   simp only[ev,Option.bind_eq_bind,Option.bind_some]
   rw[e]
   simp only[Option.bind_some,vy]
   have st:=wh sig cons ints h h1 q
   have f:=@HF (kB T sig cons ints n)
   have k:=kg (false,[],[])
   generalize C:kB T sig cons ints n=l at f st
   generalize r:bE (false,[],[]) l=p at st f
   obtain⟨b,x,y⟩:=p
   by_cases hx:x=[]
   · subst hx
     have:=f rfl
     subst this
     rw[k] at r
     simp only[gU,true_and] at r
     obtain⟨rfl,rfl⟩:=r
     rw[if_neg (show ¬ (false,([]:List Term),([]:List Term)).1=true by simp)]
     show(if dH .i64 ((n:Int)+1) then _ else none)=_
     rw[if_pos (aL (by omega) (by omega)),show((n:Int)+1)=((n+1:Nat):Int) by omega]
     exact B (n+1) _ _ (by omega) (by omega) (by omega) (st rfl) (Ct m)
   · cases b with
     | true=>
       rw[if_pos rfl,show NJ (true,x,y)=Sum.inl (y,x) by simp[NJ,zG,hx]];rfl
     | false=>
       rw[if_neg (show ¬ (false,x,y).1=true by simp),show NJ (false,x,y)=Sum.inr (Sum.inl (y,x)) by simp[NJ,zG,hx]]
       show(if dH .i64 ((n:Int)+1) then _ else none)=_
       rw[if_pos (aL (by omega) (by omega)),show((n:Int)+1)=((n+1:Nat):Int) by omega]
       exact XR sig cons ints q g j size u d (n+1) _ _ _ (by omega) (by omega) (by omega) (st rfl) (Cs m x)
theorem J7 : Inv2 sig cons ints (fun _=>[]) 1 []:=⟨by simp,by simp,rfl,by simp,by simp,by simp,by simp⟩
theorem HI : Ee (fun _=>[]) [] 1:=⟨by simp[cD],by simp[cD]⟩
end
def Ef (b:UInt8):Bool:=(decide (97≤b.toNat)&&decide (b.toNat≤122))||(decide (65≤b.toNat)&&decide (b.toNat≤90))
def lA (s:ByteArray):Bool:=s.data.toList.all Ef&&(decide (1≤s.size)&&decide (s.size≤8))
theorem xm (s:ByteArray):s.size=s.data.toList.length:=(Array.length_toList).symm
theorem Py {s:ByteArray}(h:i<s.data.toList.length):nD s (i:Int)=some ((s.data.toList[i].toNat:Nat):Int):=by
 have h2:i<s.size:=by rw[xm];exact h
 simp only[nD,show(0:Int)≤i by omega,if_true,Int.toNat_natCast]
 rw[getElem?_pos s i h2]
 simp[ByteArray.get,ByteArray.getElem_eq_getElem_data]
theorem se (a b c:Int):du a b c=some (decide (b≤a∧a≤c)):=by
 unfold du
 by_cases h1:b≤a
 · by_cases h2:a≤c<;>simp[h1,h2]
 · simp[h1]
theorem Ew (a b c:Int):mg a b c=some (decide (b≤a)&&decide (a≤c)):=by
 unfold mg
 by_cases h1:b≤a
 · by_cases h2:a≤c<;>simp[h1,h2]
 · simp[h1]
theorem u9 (a b c:Int):du a b c=some (decide (b≤a)&&decide (a≤c)):=by
 rw[se];simp
theorem J8 (s:ByteArray)(u:s.size≤30):∀(d i:Nat),s.data.toList.length-i=d→i≤s.data.toList.length→ic s i=some ((s.data.toList.drop i).all Ef&&(decide (1≤s.size)&&decide (s.size≤8))):=by
 have r:=xm s
 intro d
 induction d with
 | zero=>
   intro i j hi
   rw[ic,if_neg (by simp;omega),Ew,List.drop_eq_nil_of_le (by omega)]
   simp only[Option.bind_eq_bind,Option.bind_some,List.all_nil,Bool.true_and]
   have k:decide ((1:Int)≤(s.size:Int))=decide (1≤s.size):=by simp;omega
   have m:decide ((s.size:Int)≤8)=decide (s.size≤8):=by simp;omega
   rw[k,m]
   cases (decide (1≤s.size)&&decide (s.size≤8))<;>rfl
 | succ d q=>
   intro i j hi
   have e:i<s.data.toList.length:=by omega
   have nx:=q (i+1) (by omega) (by omega)
   rw[ic,if_pos (by simp;omega),Py e]
   simp only[Option.bind_eq_bind,Option.bind_some]
   rw[List.drop_eq_getElem_cons e,List.all_cons]
   have g:dH .i64 ((i:Int)+1)=true:=aL (by omega) (by omega)
   have h:((i:Int)+1)=((i+1:Nat):Int):=by omega
   generalize s.data.toList[i]=b at *
   have f:Ef b=((decide (97≤b.toNat)&&decide (b.toNat≤122))||(decide (65≤b.toNat)&&decide (b.toNat≤90))):=rfl
   have key:∀(x:Option Bool),(if decide (((b.toNat:Nat):Int)<65) then some false else(if decide (((b.toNat:Nat):Int)>90) then some false else(if dH .i64 ((i:Int)+1) then ic s ((i:Int)+1) else none)))=some ((decide (65≤b.toNat)&&decide (b.toNat≤90))&&((s.data.toList.drop (i+1)).all Ef&&(decide (1≤s.size)&&decide (s.size≤8)))):=by
     intro _
     by_cases h1:b.toNat<65
     · rw[if_pos (by simp;omega),show decide (65≤b.toNat)=false by simp;omega];rfl
     · rw[if_neg (by simp;omega),show decide (65≤b.toNat)=true by simp;omega]
       by_cases h2:b.toNat>90
       · rw[if_pos (by simp;omega),show decide (b.toNat≤90)=false by simp;omega];rfl
       · rw[if_neg (by simp;omega),show decide (b.toNat≤90)=true by simp;omega,if_pos g,h,nx];rfl
   by_cases h1:b.toNat<97
   · rw[if_pos (by simp;omega),key none,f,show decide (97≤b.toNat)=false by simp;omega];simp[Bool.and_assoc]
   · rw[if_neg (by simp;omega)]
     by_cases h2:b.toNat>122
     · rw[if_pos (by simp;omega),key none,f,show decide (b.toNat≤122)=false by simp;omega];simp[Bool.and_assoc]
     · rw[if_neg (by simp;omega),if_pos g,h,nx,f,show decide (b.toNat≤122)=true by simp;omega,show decide (97≤b.toNat)=true by simp;omega];simp
theorem IH (s:ByteArray)(d:s.size≤30):rV s=some (lA s):=by
 rw[rV]
 exact J8 s d _ 0 rfl (Nat.zero_le _)
theorem J9 (s:ByteArray)(p:Nat)(h:p<s.data.toList.length):(s.data.toList[p].toNat<128∧Utf8.decode s p=(s.data.toList[p].toNat,1))∨(128≤s.data.toList[p].toNat∧128≤(Utf8.decode s p).1):=by
 have e:(s.get! (p+0)).toNat=s.data.toList[p].toNat:=by
   have d:p<s.data.size:=by simpa using h
   show(s.data[p]!).toNat=_
   rw[getElem!_pos s.data p d];simp
 by_cases h1:s.data.toList[p].toNat<128
 · left
   refine⟨h1,?_⟩
   unfold Utf8.decode
   simp only[e]
   rw[if_pos h1]
 · right
   refine⟨by omega,?_⟩
   unfold Utf8.decode
   simp only[e]
   rw[if_neg h1]
   simp only[Utf8.runeError,ge_iff_le,Bool.and_eq_true,decide_eq_true_eq]
   split
   · split<;>simp_all
   · split
     · split
       · rename_i h2;simp only;omega
       · simp
     · split
       · split
         · rename_i h2;simp only;omega
         · simp
       · simp
theorem DO (s:ByteArray)(x:s.size≤30):∀(d i:Nat),s.data.toList.length-i=d→i≤s.data.toList.length→dP s i=some ((s.data.toList.drop i).all Ef&&(decide (1≤s.size)&&decide (s.size≤8))):=by
 have q:=xm s
 intro d
 induction d with
 | zero=>
   intro i g hi
   rw[dP,if_neg (by simp;omega),u9,List.drop_eq_nil_of_le (by omega)]
   simp only[Option.bind_eq_bind,Option.bind_some,List.all_nil,Bool.true_and]
   have j:decide ((1:Int)≤(s.size:Int))=decide (1≤s.size):=by simp;omega
   have k:decide ((s.size:Int)≤8)=decide (s.size≤8):=by simp;omega
   rw[j,k]
   cases (decide (1≤s.size)&&decide (s.size≤8))<;>rfl
 | succ d m=>
   intro i g hi
   have f:i<s.data.toList.length:=by omega
   have nx:=m (i+1) (by omega) (by omega)
   rw[dP,if_pos (by simp;omega),List.drop_eq_getElem_cons f,List.all_cons]
   have g:=J9 s i f
   generalize u:s.data.toList[i]=b at *
   have h:Ef b=((decide (97≤b.toNat)&&decide (b.toNat≤122))||(decide (65≤b.toNat)&&decide (b.toNat≤90))):=rfl
   rcases g with⟨h1,h2⟩ | ⟨h1,h2⟩
   · rw[h2]
     simp only
     have key:(if decide ((65:Int)≤((b.toNat:Nat):Int)) then(if decide (((b.toNat:Nat):Int)≤90) then(dP s (i+1)) else(some false)) else(some false))=some ((decide (65≤b.toNat)&&decide (b.toNat≤90))&&((s.data.toList.drop (i+1)).all Ef&&(decide (1≤s.size)&&decide (s.size≤8)))):=by
       by_cases h1:65≤b.toNat
       · rw[if_pos (by simp;omega),show decide (65≤b.toNat)=true by simp;omega]
         by_cases h2:b.toNat≤90
         · rw[if_pos (by simp;omega),show decide (b.toNat≤90)=true by simp;omega,nx];rfl
         · rw[if_neg (by simp;omega),show decide (b.toNat≤90)=false by simp;omega];rfl
       · rw[if_neg (by simp;omega),show decide (65≤b.toNat)=false by simp;omega];rfl
     rw[key,h]
     by_cases h1:97≤b.toNat
     · rw[if_pos (by simp;omega),show decide (97≤b.toNat)=true by simp;omega]
       by_cases h2:b.toNat≤122
       · rw[if_pos (by simp;omega),show decide (b.toNat≤122)=true by simp;omega,nx];simp
       · rw[if_neg (by simp;omega),show decide (b.toNat≤122)=false by simp;omega];simp[Bool.and_assoc]
     · rw[if_neg (by simp;omega),show decide (97≤b.toNat)=false by simp;omega];simp[Bool.and_assoc]
   · have e:Ef b=false:=by rw[h];simp;omega
     rw[e]
     generalize (Utf8.decode s i).1=r at h2
     rw[if_pos (by simp;omega),if_neg (by simp;omega),if_pos (by simp;omega),if_neg (by simp;omega)]
     rfl
theorem HJ (s:ByteArray)(d:s.size≤30):mW s=some (lA s):=by
 rw[mW]
 exact DO s d _ 0 rfl (Nat.zero_le _)
def seenIn (seen:List ByteArray)(k:ByteArray):Bool:=seen.any fun a=>a.data.toList==k.data.toList
def lB (n:Int):Bool:=decide (0≤n)&&decide (n≤4)
theorem II (n:Int):(decide (0≤n)&&decide (n≤4))=lB n:=rfl
def jU : List bN→List ByteArray→Bool
 | [],_=>true
 | x::l,seen => !seenIn seen x.Name&&(lA x.Name&&(lB x.cU&&jU l (seen++[x.Name])))
theorem EV (k a:ByteArray):YI k a=(a.data.toList==k.data.toList):=BEq.comm
theorem HK (k:ByteArray):∀ seen:List ByteArray,sU (seen.map fun a=>(a,true)) k=if seenIn seen k then some true else none:=by
 intro seen
 induction seen with
 | nil=>rfl
 | cons a l d=>
   simp only[List.map_cons,sU,seenIn,List.any_cons,EV]
   by_cases h:(a.data.toList==k.data.toList)=true
   · simp[h]
   · simp only[h,Bool.false_eq_true,if_false,Bool.false_or]
     exact d
theorem HL (k:ByteArray):∀ seen:List ByteArray,seenIn seen k=false→pJ (seen.map fun a=>(a,true)) k true=(seen++[k]).map fun a=>(a,true):=by
 intro seen
 induction seen with
 | nil=>intro _;rfl
 | cons a l d=>
   intro h
   simp only[seenIn,List.any_cons,Bool.or_eq_false_iff] at h
   simp only[List.map_cons,pJ,EV,List.cons_append,h.1]
   simp only[Bool.false_eq_true,if_false,List.cons.injEq,true_and]
   exact d h.2
theorem HM (x:bN)(hx:x.Name.size≤30)(seen:List ByteArray):∃ m,cZ x (seen.map fun a=>(a,true))=some (m,!seenIn seen x.Name&&(lA x.Name&&lB x.cU))∧(seenIn seen x.Name=false→m=(seen++[x.Name]).map fun a=>(a,true)):=by
 refine⟨pJ (seen.map fun a=>(a,true)) x.Name true,?_,HL _ _⟩
 rw[cZ,HK]
 by_cases h:seenIn seen x.Name=true
 · simp[h]
 · simp only[h,Bool.false_eq_true,if_false,Option.getD_none,HJ x.Name hx,u9,Option.bind_eq_bind,Option.bind_some,Bool.not_false,Bool.true_and]
   by_cases h2:lA x.Name=true
   · simp only[h2,if_true,Bool.true_and,lB]
     cases (decide (0≤x.cU)&&decide (x.cU≤4))<;>rfl
   · simp[h2]
theorem yc {z:List (ByteArray×Bool)}(l:List bN)(h:∀ x∈l,x.Name.size≤30)(B:l.length≤20):∀(d i:Nat) (seen:List ByteArray),l.length-i=d→i≤l.length→∃ m,aC l z i (seen.map fun a=>(a,true))=some (m,jU (l.drop i) seen)∧(jU (l.drop i) seen=true→m=(seen++(l.drop i).map (·.Name)).map fun a=>(a,true)):=by
 intro d
 induction d with
 | zero=>
   intro i seen j hi
   rw[aC,if_neg (by simp;omega),List.drop_eq_nil_of_le (by omega)]
   exact⟨_,rfl,fun _=>by simp⟩
 | succ d k=>
   intro i seen j hi
   have f:i<l.length:=by omega
   obtain⟨m,h1,h2⟩:=HM l[i] (h _ (List.getElem_mem f)) seen
   rw[aC,if_pos (by simpa using f),cE f]
   simp only[Option.bind_eq_bind,Option.bind_some,h1]
   rw[List.drop_eq_getElem_cons f,jU]
   cases q:seenIn seen l[i].Name with
   | true=>exact⟨m,by simp,by simp⟩
   | false=>
     have r:=h2 q
     subst r
     by_cases g:lA l[i].Name=true∧lB l[i].cU=true
     · obtain⟨m,u,y⟩:=k (i+1) (seen++[l[i].Name]) (by omega) (by omega)
       simp only[g.1,g.2,Bool.not_false,Bool.true_and,if_true]
       rw[if_pos (aL (by omega) (by omega)),show((i:Int)+1)=((i+1:Nat):Int) by omega]
       exact⟨m,u,fun e=>by rw[y e,List.append_assoc];rfl⟩
     · have e:(lA l[i].Name&&lB l[i].cU)=false:=by
        cases h1:lA l[i].Name<;>cases h2:lB l[i].cU<;>simp_all
       have A:∀ X,(lA l[i].Name&&(lB l[i].cU&&X))=false:=fun X=>by rw[←Bool.and_assoc,e];rfl
       rw[A,e]
       exact⟨_,rfl,fun e=>by simp at e⟩
theorem Cu (a:ByteArray)(l:List ByteArray)(k:ByteArray):seenIn (a::l) k=((a.data.toList==k.data.toList)||seenIn l k):=rfl
def w4 (l:List bN)(seen:List ByteArray):List ByteArray×Bool:=if jU l seen then(seen++l.map (·.Name),true) else([],false)
theorem Cv (x:bN)(l:List bN)(seen:List ByteArray):w4 (x::l) seen=if seenIn seen x.Name then([],false) else if lA x.Name&&lB x.cU then w4 l (seen++[x.Name]) else([],false):=by
 have e:jU (x::l) seen=(!seenIn seen x.Name&&(lA x.Name&&(lB x.cU&&jU l (seen++[x.Name])))):=rfl
 unfold w4
 by_cases h1:seenIn seen x.Name=true
 · simp[h1,e]
 · by_cases h2:lA x.Name=true
   · by_cases h3:lB x.cU=true
     · simp[h1,h2,h3,e]
     · simp[h1,h2,h3,e]
   · simp[h1,h2,e]
theorem FY (l:List bN)(m:∀ x∈l,x.Name.size≤30)(B:l.length≤20):∀(d i:Nat),l.length-i=d→i≤l.length→∀ seen:List ByteArray,seen.length+d≤50→iM l i seen=some (w4 (l.drop i) seen):=by
 intro d
 induction d with
 | zero=>
   intro i q hi seen r
   rw[iM,if_neg (by simp;omega),List.drop_eq_nil_of_le (by omega)]
   simp[w4,jU]
 | succ d u=>
   intro i q hi seen r
   have f:i<l.length:=by omega
   have hx:=m _ (List.getElem_mem f)
   rw[iM,if_pos (by simpa using f),List.drop_eq_getElem_cons f]
   have J:∀(e j:Nat),seen.length-j=e→j≤seen.length→iL l i seen j=some (if seenIn (seen.drop j) l[i].Name then([],false) else if lA l[i].Name&&lB l[i].cU then w4 (l.drop (i+1)) (seen++[l[i].Name]) else([],false)):=by
    intro e
    induction e with
    | zero=>
      intro j y A
      rw[iL,if_neg (by simp;omega),List.drop_eq_nil_of_le (by omega),cE f]
      simp only[Option.bind_eq_bind,Option.bind_some,IH _ hx,Ew,seenIn,List.any_nil,Bool.false_eq_true,if_false]
      by_cases h1:lA l[i].Name=true
      · simp only[h1,if_true,Bool.true_and]
        rw[II]
        by_cases h2:lB l[i].cU=true
        · simp only[h2,if_true]
          have nx:=u (i+1) (by omega) (by omega) (seen++[l[i].Name]) (by simp;omega)
          by_cases h3:seen=[]
          · subst h3
            rw[if_pos (by rfl),if_pos (aL (by omega) (by omega)),show((i:Int)+1)=((i+1:Nat):Int) by omega]
            exact nx
          · rw[if_neg (by simpa using h3),if_pos (by simp;omega),if_pos (by simp;omega),if_pos (aL (by omega) (by omega)),show((i:Int)+1)=((i+1:Nat):Int) by omega]
            exact nx
        · simp[h2]
      · simp[h1]
    | succ e k=>
      intro j y A
      have g:j<seen.length:=by omega
      rw[iL,if_pos (by simpa using g),cE g,cE f]
      simp only[Option.bind_eq_bind,Option.bind_some]
      rw[List.drop_eq_getElem_cons g,Cu]
      by_cases h:(seen[j].data.toList==l[i].Name.data.toList)=true
      · rw[if_pos h];simp[h]
      · rw[if_neg h,if_pos (aL (by omega) (by omega)),show((j:Int)+1)=((j+1:Nat):Int) by omega,k (j+1) (by omega) (by omega)]
        simp only[h,Bool.false_or]
   have:=J _ 0 rfl (Nat.zero_le _)
   rw[show((0:Nat):Int)=0 from rfl] at this
   rw[this,List.drop_zero,Cv]
theorem Cw (l:List bN)(m:∀ x∈l,x.Name.size≤30)(g:l.length≤20)(seen:List ByteArray)(u:seen.length≤20):qc l seen=some (w4 l seen):=by
 rw[qc,ry]
 by_cases h0:0<l.length
 · rw[if_pos (by simpa using h0)]
   have hx:=m _ (List.getElem_mem h0)
   have f:=cE h0
   rw[show((0:Nat):Int)=0 from rfl] at f
   have J:∀(e j:Nat),seen.length-j=e→j≤seen.length→jM l seen j=some (if seenIn (seen.drop j) l[0].Name then([],false) else if lA l[0].Name&&lB l[0].cU then w4 (l.drop 1) (seen++[l[0].Name]) else([],false)):=by
    intro e
    induction e with
    | zero=>
      intro j q r
      rw[jM,if_neg (by simp;omega),List.drop_eq_nil_of_le (by omega),f]
      simp only[Option.bind_eq_bind,Option.bind_some,IH _ hx,Ew,seenIn,List.any_nil,Bool.false_eq_true,if_false]
      by_cases h1:lA l[0].Name=true
      · simp only[h1,if_true,Bool.true_and]
        rw[II]
        by_cases h2:lB l[0].cU=true
        · simp only[h2,if_true]
          have nx:=FY l m g _ 1 rfl (by omega) (seen++[l[0].Name]) (by simp;omega)
          rw[show((1:Nat):Int)=1 from rfl] at nx
          by_cases h3:seen=[]
          · subst h3
            rw[if_pos (by rfl)]
            exact nx
          · rw[if_neg (by simpa using h3),if_pos (by simp;omega),if_pos (by simp;omega)]
            exact nx
        · simp[h2]
      · simp[h1]
    | succ e k=>
      intro j q r
      have d:j<seen.length:=by omega
      rw[jM,if_pos (by simpa using d),cE d,f]
      simp only[Option.bind_eq_bind,Option.bind_some]
      rw[List.drop_eq_getElem_cons d,Cu]
      by_cases h:(seen[j].data.toList==l[0].Name.data.toList)=true
      · rw[if_pos h];simp[h]
      · rw[if_neg h,if_pos (aL (by omega) (by omega)),show((j:Int)+1)=((j+1:Nat):Int) by omega,k (j+1) (by omega) (by omega)]
        simp only[h,Bool.false_or]
   have:=J _ 0 rfl (Nat.zero_le _)
   rw[show((0:Nat):Int)=0 from rfl] at this
   have el:l=l[0]::l.drop 1:=by
    have:=List.drop_eq_getElem_cons h0
    simpa using this
   rw[this,List.drop_zero]
   conv=>rhs;rw[el]
   rw[Cv]
 · have:l=[]:=List.eq_nil_of_length_eq_zero (by omega)
   subst this
   rw[if_neg (by simp)]
   simp[w4,jU]
def PU (x:bN)(s:ByteArray):Bool:=[(x.Name.data.toList==s.data.toList),(x.cU==0)].all id
theorem DQ : ∀(l:List bN) (seen:List ByteArray),jU l seen=true→∀ x∈l,0≤x.cU∧x.cU≤4:=by
 intro l
 induction l with
 | nil=>intro seen _ x hx;simp at hx
 | cons a l d=>
   intro seen h x hx
   simp only[jU,Bool.and_eq_true,lB,decide_eq_true_eq] at h
   rcases List.mem_cons.1 hx with e | hx
   · rw[e];exact h.2.2.1
   · exact d _ h.2.2.2 x hx
theorem XT (s:ae)(h1:∀ x∈s.Cons,x.Name.size≤30)(h2:∀ x∈s.dI,x.Name.size≤30):(ri s=some false∧fb s=some 2)∨(ri s=some true∧fb s=some 0∧s.Cons.length≤12∧∀ x∈s.Cons,0≤x.cU∧x.cU≤4):=by
 rw[ri,fb,Ew,u9]
 simp only[Option.bind_eq_bind,Option.bind_some]
 by_cases d:2≤s.Cons.length∧s.Cons.length≤12
 · rw[show(decide ((2:Int)≤(s.Cons.length:Int))&&decide ((s.Cons.length:Int)≤12))=true by simp;omega]
   simp only[if_true]
   by_cases u:s.dI.length≤8
   · rw[if_neg (by simp;omega),if_neg (by simp;omega)]
     obtain⟨C,g⟩:=s
     simp only at d u h1 h2 ⊢
     match C,d with
     | a::b::C,d=>
       simp only[List.length_cons] at d
       obtain⟨m,j,k⟩:=yc (z:=[]) (a::b::C) h1 (by simp;omega) _ 0 [] rfl (Nat.zero_le _)
       simp only[List.drop_zero,List.map_nil,List.nil_append] at j k
       rw[show((0:Nat):Int)=0 from rfl] at j
       rw[bj,j]
       rw[show dY (a::b::C) 0=some a from rfl,show dY (a::b::C) 1=some b from rfl]
       simp only[Option.bind_some,Cw (a::b::C) h1 (by simp;omega) [] (by simp)]
       rw[show [(a.Name.data.toList==(⟨#[70,97,108,115,101]⟩:ByteArray).data.toList),(a.cU==0)].all id=PU a ⟨#[70,97,108,115,101]⟩ from rfl,show [(b.Name.data.toList==(⟨#[84,114,117,101]⟩:ByteArray).data.toList),(b.cU==0)].all id=PU b ⟨#[84,114,117,101]⟩ from rfl]
       have q:∀(l:List bN) (seen:List ByteArray),jU l seen=false→w4 l seen=([],false):=fun l seen h=>by simp[w4,h]
       have e:∀(l:List bN) (seen:List ByteArray),jU l seen=true→w4 l seen=(seen++l.map (·.Name),true):=fun l seen h=>by simp[w4,h]
       cases f:jU (a::b::C) [] with
       | false=>
         left
         rw[q _ _ f]
         cases PU a ⟨#[70,97,108,115,101]⟩<;>cases PU b ⟨#[84,114,117,101]⟩<;>exact⟨rfl,rfl⟩
       | true=>
         have:=k f
         subst this
         obtain⟨m,k1,k2⟩:=yc (z:=((a::b::C).map (·.Name)).map fun a=>(a,true)) g h2 (by omega) _ 0 ((a::b::C).map (·.Name)) rfl (Nat.zero_le _)
         simp only[List.drop_zero] at k1
         rw[show((0:Nat):Int)=0 from rfl] at k1
         rw[e _ _ f]
         simp only[if_true,List.nil_append,bj]
         rw[k1,Cw g h2 (by omega) _ (by simpa using (by omega:C.length+1+1≤20))]
         simp only[Option.bind_some]
         cases r:jU g ((a::b::C).map (·.Name)) with
         | false=>
           left
           rw[q _ _ r]
           cases PU a ⟨#[70,97,108,115,101]⟩<;>cases PU b ⟨#[84,114,117,101]⟩<;>exact⟨rfl,rfl⟩
         | true=>
           rw[e _ _ r]
           cases PU a ⟨#[70,97,108,115,101]⟩ with
           | false=>left;exact⟨rfl,rfl⟩
           | true=>
             cases PU b ⟨#[84,114,117,101]⟩ with
             | false=>left;exact⟨rfl,rfl⟩
             | true=>right;exact⟨rfl,rfl,by simp only[List.length_cons];omega,DQ _ _ f⟩
     | [],d=>simp at d
     | [_],d=>simp at d
   · left;rw[if_pos (by simp;omega),if_pos (by simp;omega)]
     exact⟨rfl,rfl⟩
 · left;rw[show(decide ((2:Int)≤(s.Cons.length:Int))&&decide ((s.Cons.length:Int)≤12))=false by simp;omega]
   exact⟨rfl,rfl⟩
mutual
theorem IJ : ∀(a b:Term) (x y:List Int),key a++x=key b++y→a=b∧x=y
 | .mk o n l,.mk o' f l', x,y,h=>by
   simp only[key,List.cons_append,List.cons.injEq] at h
   obtain⟨h1,h2,h3,h4⟩:=h
   obtain⟨d,e⟩:=EW l l' x y (by omega) h4
   exact⟨by rw[h2,h3,d],e⟩
theorem EW : ∀(l l' : List Term) (x y:List Int),jK l=jK l' → keys l++x=keys l' ++ y→l=l' ∧ x=y
 | [],[],x,y,_,h=>⟨rfl,by simpa [keys] using h⟩
 | [],t::l,x,y,e,_=>by
   have k1:=(ef t).2
   have k2:=(gm l).2
   simp only[jK] at e;omega
 | t::l,[],x,y,e,_=>by
   have k1:=(ef t).2
   have k2:=(gm l).2
   simp only[jK] at e;omega
 | t::l,d::l', x,y,e,h=>by
   simp only[keys,List.append_assoc] at h
   obtain⟨f,g⟩:=IJ t d _ _ h
   subst f
   simp only[jK] at e
   obtain⟨j,k⟩:=EW l l' x y (by omega) g
   exact⟨by rw[j],k⟩
end
variable {a b : Term}
theorem key_inj (h:key a=key b):a=b:=(IJ a b [] [] (by rw[h])).1
def D4 (a b:Term):Prop:=¬ fD (key b) (key a)<0
theorem Nb (h1:D4 a b)(h2:D4 b a):a=b:=by
 unfold D4 at *
 have:=r9 (key a) (key b)
 exact key_inj ((tU _ _).1 (by omega))
theorem Cx {c:Term}(h1:D4 a b)(h2:D4 b c):D4 a c:=by
 unfold D4 at *
 intro h
 have a1:=r9 (key a) (key b)
 have a2:=r9 (key b) (key c)
 by_cases d:fD (key a) (key b)=0
 · rw[(tU _ _).1 d] at h;exact h2 h
 · have:=Aw (key c) (key a) (key b) h (by omega)
   exact h2 this
theorem Ka (x:Term):∀ l,(ug x l).Perm (x::l):=by
 intro l
 induction l with
 | nil=>exact .refl _
 | cons y l d=>
   rw[ug]
   split
   · exact(List.Perm.cons y d).trans (.swap x y l)
   · exact .refl _
theorem FZ (x:Term):∀ l,l.Pairwise D4→(ug x l).Pairwise D4:=by
 intro l
 induction l with
 | nil=>intro _;simp[ug]
 | cons y l f=>
   intro h
   rw[List.pairwise_cons] at h
   rw[ug]
   split
   · rename_i e
     rw[List.pairwise_cons]
     refine⟨fun z d=>?_,f h.2⟩
     rcases M8 _ _ _ d with d | d
     · subst d
       simp only[acs,decide_eq_true_eq] at e
       have:=r9 (key y) (key z)
       unfold D4;omega
     · exact h.1 z d
   · rename_i e
     simp only[acs,decide_eq_true_eq] at e
     rw[List.pairwise_cons]
     refine⟨fun z d=>?_,List.pairwise_cons.2 h⟩
     rcases List.mem_cons.1 d with d | d
     · subst d;exact e
     · exact Cx e (h.1 z d)
theorem yd : ∀(l o:List Term),(uU o l).Perm (o++l):=by
 intro l
 induction l with
 | nil=>intro o;simp[uU]
 | cons x l d=>
   intro o
   show(uU (ug x o) l).Perm _
   refine(d _).trans ?_
   refine((Ka x o).append_right l).trans ?_
   rw[List.cons_append]
   exact(List.perm_middle).symm
theorem uA : ∀(l o:List Term),o.Pairwise D4→(uU o l).Pairwise D4:=by
 intro l
 induction l with
 | nil=>intro o h;exact h
 | cons x l d=>intro o h;exact d _ (FZ x o h)
section
variable (sig : ae) (cons ints : List Int)
theorem DR (l:List Term)(d:Int)(b:Bool)(f:∀ x∈l,∀ c:Int,0≤c→c+fw x≤40→aU x (d+1) sig b c=some (Sum.inr (c+fw x)))(j:0≤d)(h:d≤100):∀(n i:Nat) (s:Int),l.length-i=n→i≤l.length→0≤s→s+jK (l.drop i)≤40→l.length≤40→aJ l d sig b z i s=some (Sum.inl (s+jK (l.drop i))):=by
 intro n
 induction n with
 | zero=>
   intro i s h1 h2 h3 h4 h5
   rw[aJ,if_neg (by simp;omega),List.drop_eq_nil_of_le (by omega)]
   simp[jK]
 | succ n g=>
   intro i s h1 h2 h3 h4 h5
   have hi:i<l.length:=by omega
   have e:=mT l i hi
   have k1:=(ef l[i]).2
   have k2:=(gm (l.drop (i+1))).2
   rw[aJ,if_pos (by simpa using hi),cE hi]
   simp only[Option.bind_eq_bind,Option.bind_some]
   rw[dc,if_pos (aL (by omega) (by omega)),f _ (List.getElem_mem hi) s h3 (by omega)]
   simp only[Option.bind_eq_bind,Option.bind_some]
   rw[if_pos (aL (by omega) (by omega)),show((i:Int)+1)=((i+1:Nat):Int) by omega,g (i+1) (s+fw l[i]) (by omega) (by omega) (by omega) (by omega) h5,e]
   congr 2
   omega
variable {t : Term}
theorem DS (B:sig.Cons.length≤16)(e:∀ x∈ints,-1000000≤x∧x≤1000000)(h:Made sig cons ints t):∀(d c:Int) (b:Bool),0≤d→d+fw t≤13→0≤c→c+fw t≤40→aU t d sig b c=some (Sum.inr (c+fw t)):=by
 induction h with
 | int x hx=>
   intro d c b h1 h2 h3 h4
   simp only[fw,jK] at h2 h4
   have w:du (Term.mk 2 x []).Op 1 15=some true:=by simp[se,Term.Op]
   have hi:mX (bo.mk sig) (Term.mk 2 x [])=some true:=by simp[mX,se,Term.N,Term.Kids,e x hx]
   rw[aU,if_pos (aL (by omega) (by omega)),if_neg (by simp;omega),if_neg (by simp;omega),w]
   simp only[Option.bind_eq_bind,Option.bind_some]
   rw[if_pos (by trivial),if_pos (by simp[Term.Op]),hi]
   simp only[Option.bind_some]
   rw[if_pos (by trivial),br,aJ,if_neg (by simp[Term.Kids])]
   simp[fw,jK]
 | QO cc r l C h2 h3 h4 u=>
   intro d c b y f D g
   have E:=lW l
   simp only[fw] at f g
   have A:0≤cc∧cc≤(sig.Cons.length:Int)-1:=by
    simp only[dY] at h2
    split at h2
    · have:=List.getElem?_eq_some_iff.1 h2
      obtain⟨q,_⟩:=this
      omega
    · simp at h2
   have w:du (Term.mk 3 cc l).Op 1 15=some true:=by simp[se,Term.Op]
   have j:tA (bo.mk sig) (Term.mk 3 cc l)=some true:=by
    rw[tA,if_pos (aL (by simp only;omega) (by simp only;omega)),se]
    simp only[Option.bind_eq_bind,Option.bind_some]
    rw[if_pos (by exact decide_eq_true A),show dY sig.Cons (Term.mk 3 cc l).N=some r from h2]
    simp only[Option.bind_some]
    rw[if_pos (by exact decide_eq_true h3.symm)]
   rw[aU,if_pos (aL (by omega) (by omega)),if_neg (by simp;omega),if_neg (by simp;omega),w]
   simp only[Option.bind_eq_bind,Option.bind_some]
   rw[if_pos (by trivial),if_neg (by simp[Term.Op]),if_pos (by simp[Term.Op]),j]
   simp only[Option.bind_some]
   rw[if_pos (by trivial),show(Term.mk 3 cc l).Kids=l from rfl]
   have:=DR (z:=c+1) sig l d b (fun x hx c k m=>u x hx (d+1) c b (by omega) (by have:=lX l x hx;omega) k m) y (by have:=(gm l).2;omega) l.length 0 (c+1) rfl (Nat.zero_le _) (by omega) (by simp only[List.drop_zero];omega) (by omega)
   rw[br,show(0:Int)=((0:Nat):Int) from rfl,this]
   simp only[Option.bind_some,List.drop_zero,fw]
   congr 2
   omega
theorem BF (l:List Term)(d:Int)(b:Bool)(e:∀ x∈l,aQ x (d+1) b=some (Sum.inr ()))(h:0≤d)(g:d≤100):∀(n i:Nat),l.length-i=n→i≤l.length→l.length≤40→aD l d b i=some (Sum.inl ()):=by
 intro n
 induction n with
 | zero=>
   intro i h1 h2 h5
   rw[aD,if_neg (by simp;omega)]
 | succ n f=>
   intro i h1 h2 h5
   have hi:i<l.length:=by omega
   rw[aD,if_pos (by simpa using hi),cE hi]
   simp only[Option.bind_eq_bind,Option.bind_some]
   rw[cX,if_pos (aL (by omega) (by omega)),e _ (List.getElem_mem hi)]
   simp only[Option.bind_eq_bind,Option.bind_some]
   rw[if_pos (aL (by omega) (by omega)),show((i:Int)+1)=((i+1:Nat):Int) by omega,f (i+1) (by omega) (by omega) h5]
theorem BG (h:Made sig cons ints t):∀(d:Int) (b:Bool),0≤d→d+fw t≤40→aQ t d b=some (Sum.inr ()):=by
 induction h with
 | int x hx=>
   intro d b h1 h2
   rw[aQ,if_neg (by simp[Term.Op]),bl,aD,if_neg (by simp[Term.Kids])]
   rfl
 | QO cc g l f h2 h3 h4 e=>
   intro d b h1 h2
   have j:=lW l
   simp only[fw] at h2
   rw[aQ,if_neg (by simp[Term.Op]),bl]
   have:=BF l d b (fun x hx=>e x hx (d+1) b (by omega) (by have:=lX l x hx;omega)) h1 (by omega) l.length 0 rfl (Nat.zero_le _) (by omega)
   simp only[Term.Kids]
   rw[show(0:Int)=((0:Nat):Int) from rfl,this]
   rfl
theorem F3 (h:sig.Cons.length≤16)(j:∀ x∈ints,-1000000≤x∧x≤1000000)(k:fb sig=some 0)(a b:Term)(m:Made sig cons ints a)(q:Made sig cons ints b)(u:fw a≤10)(y:fw b≤10):jo sig a b=some (fD (key a) (key b)):=by
 have k1:=(ef a).2
 have k2:=(ef b).2
 have f:∀ t,Made sig cons ints t→fw t≤10→ou sig t=some true:=fun t d A=>by
  rw[ou,fH,DS sig cons ints h j d 1 0 false (by omega) (by omega) (by omega) (by omega)]
  rfl
 have v:∀ t,Made sig cons ints t→fw t≤10→mY t=some true:=fun t d A=>by
  rw[mY,fp,BG sig cons ints d 1 false (by omega) (by omega)]
  rfl
 have r:qz sig [a,b]=some true:=by
  rw[qz,k]
  simp only[Option.bind_eq_bind,Option.bind_some]
  rw[if_pos (by decide),dD]
  have e:dY [a,b] 0=some a:=rfl
  have g:dY [a,b] (0+1)=some b:=rfl
  rw[aV,if_pos (by simp),e]
  simp only[Option.bind_eq_bind,Option.bind_some,dQ,f a m u,if_true]
  rw[if_pos (by decide),aV,if_pos (by simp),g]
  simp only[Option.bind_eq_bind,Option.bind_some,dQ,f b q y,if_true]
  rw[if_pos (by decide),aV,if_neg (by simp)]
  rfl
 have B:ow sig [a,b]=some true:=by
  rw[ow,r]
  simp only[Option.bind_eq_bind,Option.bind_some,if_true,dA]
  have e:dY [a,b] 0=some a:=rfl
  have g:dY [a,b] (0+1)=some b:=rfl
  rw[aS,if_pos (by simp),e]
  simp only[Option.bind_eq_bind,Option.bind_some,v a m u,if_true]
  rw[if_pos (by decide),aS,if_pos (by simp),g]
  simp only[Option.bind_eq_bind,Option.bind_some,v b q y,if_true]
  rw[if_pos (by decide),aS,if_neg (by simp)]
  rfl
 rw[jo,pP,B]
 simp only[Option.bind_eq_bind,Option.bind_some,if_true]
 rw[y6 10 a b (by omega) (by omega) (by omega)]
 rfl
end
variable {n : Nat}
theorem AS {f:_root_.Fin n→Term}{lt:_root_.Fin n→_root_.Fin n→Bool}(e:∀ i j,lt i j=decide (fD (key (f i)) (key (f j))<0)) [Inhabited (_root_.Fin n)] (D:Array (_root_.Fin n)) (h:Sort.SortedIn lt 0 D.size D):(D.toList.map f).Pairwise D4:=by
 rw[List.pairwise_map,List.pairwise_iff_getElem]
 intro i j hi d g
 have:=h i j (Nat.zero_le _) g (by simpa using d)
 rw[e] at this
 simp only[Array.length_toList] at hi d
 rw[getElem!_pos D i hi,getElem!_pos D j d] at this
 simp only[Array.getElem_toList]
 unfold D4
 simpa using this
theorem F4 (sig:ae)(l:List Term)(f:∀ a∈l,∀ b∈l,jo sig a b=some (fD (key a) (key b)))(C:l.length≤1000):qx l sig=some (uU [] l):=by
 unfold qx
 by_cases h:0<l.length
 · rw[dif_pos h]
   letI:Inhabited (_root_.Fin l.length):=⟨⟨0,h⟩⟩
   have e:∀ i j:_root_.Fin l.length,(jo sig l[i] l[j]).getD 0=fD (key l[i]) (key l[j]):=fun i j=>by
    have:=f _ (List.getElem_mem i.isLt) _ (List.getElem_mem j.isLt)
    rw[show jo sig l[i] l[j]=_ from this];rfl
   have d:∀ i j,(ltOf fun i j:_root_.Fin l.length=>(jo sig l[i] l[j]).getD 0) i j=decide (fD (key l[i]) (key l[j])<0):=by
    intro i j
    rw[ltOf,e]
   have g:Sort.SWO (ltOf fun i j:_root_.Fin l.length=>(jo sig l[i] l[j]).getD 0):=by
    refine⟨fun x=>by rw[d,(tU (key l[x]) (key l[x])).2 rfl];rfl,fun x y z h1 h2=>?_,fun x y z h1 h2=>?_⟩
    · rw[d,decide_eq_true_eq] at *
      exact Aw _ _ _ h1 h2
    · rw[d,decide_eq_false_iff_not] at *
      exact Cx (a:=l[z]) (b:=l[y]) (c:=l[x]) h2 h1
   refine(if_pos ⟨fun a r b u=>by rw[f a r b u];rfl,g,by omega⟩).trans ?_
   congr 1
   obtain⟨m,q⟩:=Sort.pdq_sorts _ g (Array.ofFn id) 0 l.length (Lib.bitLen l.length) true true (Nat.zero_le _) (by simp) (.inl rfl)
   rw[zo]
   generalize Sort.pdq (ltOf fun i j:_root_.Fin l.length=>(jo sig l[i] l[j]).getD 0) (Array.ofFn id) 0 l.length (Lib.bitLen l.length) true true=D at m q
   obtain⟨h1,_,h3⟩:=m
   simp only[Array.size_ofFn] at h1
   have A:D.extract 0 l.length=D:=by
    have:D.extract 0 D.size=D:=by simp
    exact(congrArg (fun k=>D.extract 0 k) h1.symm).trans this
   rw[A,show(Array.ofFn (n:=l.length) id).extract 0 l.length=Array.ofFn id by simp] at h3
   have B:(D.toList.map fun i=>l[i]).Perm l:=by
    refine(h3.map _).trans ?_
    rw[Array.toList_ofFn,List.map_ofFn]
    have:List.ofFn ((fun i:_root_.Fin l.length=>l[i])∘id)=l:=by
      apply List.ext_getElem
      · simp
      · intro i h1 h2;simp
    rw[this]
   refine List.Perm.eq_of_pairwise (le:=D4) (fun a b _ _=>Nb) (AS d D (by rw[h1];exact q)) (uA l [] List.Pairwise.nil) (B.trans (by simpa using (yd l []).symm))
 · have:l=[]:=List.eq_nil_of_length_eq_zero (by omega)
   subst this
   rw[dif_neg h]
   rfl
def Gl : Option Int→List Int→Bool
 | _,[]=>true
 | none,x::l=>Gl (some x) l
 | some p,x::l=>decide (p<x)&&Gl (some x) l
def B0 (l:List Int)(i:Nat):Option Int:=if i=0 then none else l[i-1]?
theorem HN (l:List Int)(i:Nat)(h:i<l.length):B0 l (i+1)=some l[i]:=by simp[B0,h]
theorem Pz {l:List Int}(h:i<l.length)(h0:0<i):dY l ((i:Int)-1)=some l[i-1]:=by
 rw[show(i:Int)-1=((i-1:Nat):Int) by omega]
 exact cE (by omega)
theorem F5 (l:List Int)(j:l.length≤20):∀(d i:Nat),l.length-i=d→i≤l.length→fk l i=some (Gl (B0 l i) (l.drop i)):=by
 intro d
 induction d with
 | zero=>
   intro i g hi
   rw[fk,if_neg (by simp;omega),List.drop_eq_nil_of_le (by omega)]
   cases B0 l i<;>rfl
 | succ d h=>
   intro i g hi
   have e:i<l.length:=by omega
   have nx:=h (i+1) (by omega) (by omega)
   have f:dH .i64 ((i:Int)+1)=true:=aL (by omega) (by omega)
   rw[fk,if_pos (by simpa using e),List.drop_eq_getElem_cons e]
   rw[HN l i e] at nx
   by_cases h0:0<i
   · rw[if_pos (by simpa using h0),cE e]
     simp only[Option.bind_eq_bind,Option.bind_some]
     rw[if_pos (aL (by omega) (by omega)),Pz e h0]
     simp only[Option.bind_some]
     rw[show B0 l i=some l[i-1] by simp[B0,show ¬ i=0 by omega,show i-1<l.length by omega],Gl]
     by_cases h1:l[i]≤l[i-1]
     · rw[if_pos (by simpa using h1),show decide (l[i-1]<l[i])=false by simpa using h1];rfl
     · rw[if_neg (by simpa using h1),if_pos f,show decide (l[i-1]<l[i])=true by simpa using h1,show((i:Int)+1)=((i+1:Nat):Int) by omega,nx];rfl
   · have:i=0:=by omega
     subst this
     rw[if_neg (by simp),if_pos f,show(((0:Nat):Int)+1)=((0+1:Nat):Int) by omega,nx]
     rfl
theorem ud (l:List Int)(d:l.length≤20):kX l=some (Gl none l):=by
 rw[kX]
 exact F5 l d _ 0 rfl (Nat.zero_le _)
theorem Kb (l:List Int)(s:ae)(h:l.length≤20):∀(d i:Nat),l.length-i=d→i≤l.length→∃ r,bw l s i=some r∧decide (r≥0) = !((l.drop i).all fun x=>decide (0≤x)&&decide (x≤(s.Cons.length:Int)-1)):=by
 intro d
 induction d with
 | zero=>
   intro i f hi
   rw[bw,if_neg (by simp;omega),List.drop_eq_nil_of_le (by omega)]
   exact⟨_,rfl,rfl⟩
 | succ d g=>
   intro i f hi
   have e:i<l.length:=by omega
   rw[bw,if_pos (by simpa using e),cE e,List.drop_eq_getElem_cons e]
   simp only[Option.bind_eq_bind,Option.bind_some,List.all_cons,kx]
   by_cases h1:l[i]<0
   · rw[if_pos (by simpa using h1)]
     refine⟨i,rfl,?_⟩
     rw[show decide (0≤l[i])=false by simpa using h1];simp
   · rw[if_neg (by simpa using h1)]
     by_cases h2:l[i]≥(s.Cons.length:Int)
     · rw[if_pos (by simpa using h2)]
       refine⟨i,rfl,?_⟩
       rw[show decide (l[i]≤(s.Cons.length:Int)-1)=false by simp;omega];simp
     · rw[if_neg (by simpa using h2)]
       simp only[Option.bind_some,Bool.false_eq_true,if_false]
       rw[if_pos (aL (by omega) (by omega)),show((i:Int)+1)=((i+1:Nat):Int) by omega,show(decide (0≤l[i])&&decide (l[i]≤(s.Cons.length:Int)-1))=true by simp;omega,Bool.true_and]
       exact g (i+1) (by omega) (by omega)
theorem Kc (l:List Int)(h:l.length≤20):∀(d i:Nat),l.length-i=d→i≤l.length→∃ r,bx l i=some r∧decide (r≥0) = !((l.drop i).all fun x=>decide (-1000000≤x)&&decide (x≤1000000)):=by
 intro d
 induction d with
 | zero=>
   intro i f hi
   rw[bx,if_neg (by simp;omega),List.drop_eq_nil_of_le (by omega)]
   exact⟨_,rfl,rfl⟩
 | succ d g=>
   intro i f hi
   have e:i<l.length:=by omega
   rw[bx,if_pos (by simpa using e),cE e,List.drop_eq_getElem_cons e]
   simp only[Option.bind_eq_bind,Option.bind_some,List.all_cons,ky]
   by_cases h1:l[i]<(-1000000)
   · rw[if_pos (by simpa using h1)]
     refine⟨i,rfl,?_⟩
     rw[show decide (-1000000≤l[i])=false by simpa using h1];simp
   · rw[if_neg (by simpa using h1)]
     by_cases h2:l[i]>1000000
     · rw[if_pos (by simpa using h2)]
       refine⟨i,rfl,?_⟩
       rw[show decide (l[i]≤1000000)=false by simp;omega];simp
     · rw[if_neg (by simpa using h2)]
       simp only[Option.bind_some,Bool.false_eq_true,if_false]
       rw[if_pos (aL (by omega) (by omega)),show((i:Int)+1)=((i+1:Nat):Int) by omega,show(decide (-1000000≤l[i])&&decide (l[i]≤1000000))=true by simp;omega,Bool.true_and]
       exact g (i+1) (by omega) (by omega)
theorem F6 (s:ae)(m:s.dI.length≤12):∀(d i:Nat),s.dI.length-i=d→i≤s.dI.length→∃ b,gu s i=some b∧(b=true→∀ x∈s.dI.drop i,x.Name.size≤30):=by
 intro d
 induction d with
 | zero=>intro i g hi;rw[gu,if_neg (by simp;omega),List.drop_eq_nil_of_le (by omega)];exact⟨_,rfl,fun _ x hx=>by simp at hx⟩
 | succ d j=>
   intro i g hi
   have f:i<s.dI.length:=by omega
   rw[gu,if_pos (by simpa using f),cE f,List.drop_eq_getElem_cons f]
   simp only[Option.bind_eq_bind,Option.bind_some]
   by_cases h:s.dI[i].Name.size>30
   · rw[if_pos (by simp;omega)];exact⟨_,rfl,fun h=>by simp at h⟩
   · rw[if_neg (by simp;omega),if_pos (aL (by omega) (by omega)),show((i:Int)+1)=((i+1:Nat):Int) by omega]
     obtain⟨b,h1,h2⟩:=j (i+1) (by omega) (by omega)
     refine⟨b,h1,fun k x hx=>?_⟩
     rcases List.mem_cons.1 hx with e | hx
     · rw[e];omega
     · exact h2 k x hx
theorem F7 (s:ae)(j:s.dI.length≤12)(q:s.Cons.length≤16):∀(d i:Nat),s.Cons.length-i=d→i≤s.Cons.length→∃ b,gv s i=some b∧(b=true→(∀ x∈s.Cons.drop i,x.Name.size≤30)∧∀ x∈s.dI,x.Name.size≤30):=by
 intro d
 induction d with
 | zero=>
   intro i k hi
   rw[gv,if_neg (by simp;omega),List.drop_eq_nil_of_le (by omega)]
   obtain⟨b,h1,h2⟩:=F6 s j _ 0 rfl (Nat.zero_le _)
   exact⟨b,h1,fun g=>⟨fun x hx=>by simp at hx,by simpa using h2 g⟩⟩
 | succ d m=>
   intro i k hi
   have f:i<s.Cons.length:=by omega
   rw[gv,if_pos (by simpa using f),cE f,List.drop_eq_getElem_cons f]
   simp only[Option.bind_eq_bind,Option.bind_some]
   by_cases h:s.Cons[i].Name.size>30
   · rw[if_pos (by simp;omega)];exact⟨_,rfl,fun h=>by simp at h⟩
   · rw[if_neg (by simp;omega),if_pos (aL (by omega) (by omega)),show((i:Int)+1)=((i+1:Nat):Int) by omega]
     obtain⟨b,h1,h2⟩:=m (i+1) (by omega) (by omega)
     refine⟨b,h1,fun g=>⟨fun x hx=>?_,(h2 g).2⟩⟩
     rcases List.mem_cons.1 hx with e | hx
     · rw[e];omega
     · exact(h2 g).1 x hx
theorem Nc (s:ae):∃ b,jX s=some b∧(b=true→s.Cons.length≤16∧(∀ x∈s.Cons,x.Name.size≤30)∧∀ x∈s.dI,x.Name.size≤30):=by
 rw[jX]
 by_cases h1:s.Cons.length>16
 · rw[if_pos (by simp;omega)];exact⟨_,rfl,fun h=>by simp at h⟩
 · rw[if_neg (by simp;omega)]
   by_cases h2:s.dI.length>12
   · rw[if_pos (by simp;omega)];exact⟨_,rfl,fun h=>by simp at h⟩
   · rw[if_neg (by simp;omega)]
     obtain⟨b,h3,h4⟩:=F7 s (by omega) (by omega) _ 0 rfl (Nat.zero_le _)
     exact⟨b,h3,fun d=>⟨by omega,by simpa using (h4 d).1,(h4 d).2⟩⟩
def Jg (s:ae)(l:List Int):Bool:=l.all fun x=>decide (0≤x)&&decide (x≤(s.Cons.length:Int)-1)
def Lk (l:List Int):Bool:=l.all fun x=>decide (-1000000≤x)&&decide (x≤1000000)
theorem IK (l:List Int)(s:ae)(d:l.length≤20):de l s=some (!Jg s l):=by
 obtain⟨r,h1,h2⟩:=Kb l s d _ 0 rfl (Nat.zero_le _)
 rw[show((0:Nat):Int)=0 from rfl] at h1
 rw[de,eI,h1]
 simp only[Option.bind_eq_bind,Option.bind_some]
 simp only[List.drop_zero] at h2
 rw[Jg,←h2]
 by_cases h:r≥0<;>simp[h]
theorem IL (l:List Int)(d:l.length≤20):dg l=some (!Lk l):=by
 obtain⟨r,h1,h2⟩:=Kc l d _ 0 rfl (Nat.zero_le _)
 rw[show((0:Nat):Int)=0 from rfl] at h1
 rw[dg,eJ,h1]
 simp only[Option.bind_eq_bind,Option.bind_some]
 simp only[List.drop_zero] at h2
 rw[Lk,←h2]
 by_cases h:r≥0<;>simp[h]
def ae7 (s:ae)(a1 a2:List Int)(a3:Int):Prop:=Gl none a1=true∧Gl none a2=true∧Jg s a1=true∧Lk a2=true∧a2.length≤8∧0≤a3∧a3≤6
theorem PA (s:ae)(a1 a2:List Int)(a3:Int)(d:fb s=some 0)(h4:a1.length≤20)(h5:a2.length≤20)(h:ae7 s a1 a2 a3):fY s a1 a2 a3=dL s a1 a2 a3 1 []:=by
 obtain⟨e,f,g,j,k,m,q⟩:=h
 rw[fY,iG,d]
 simp only[Option.bind_eq_bind,Option.bind_some,ud a1 h4,ud a2 h5,IK a1 s h4,IL a2 h5,e,f,g,j]
 rw[if_neg (by decide),if_pos (by trivial),if_pos (by trivial),if_neg (by simp;omega),if_neg (by simp;omega),if_neg (by simp;omega),if_neg (by decide),if_neg (by decide)]
theorem Nd (s:ae)(a1 a2:List Int)(a3:Int)(d:fb s=some 0)(h4:a1.length≤20)(h5:a2.length≤20)(h:¬ ae7 s a1 a2 a3):fY s a1 a2 a3=some ([],2):=by
 rw[fY,iG,d]
 simp only[Option.bind_eq_bind,Option.bind_some,ud a1 h4,ud a2 h5,IK a1 s h4,IL a2 h5]
 rw[if_neg (by decide)]
 cases e:Gl none a1 with
 | false=>rfl
 | true=>
   rw[if_pos (by trivial)]
   cases f:Gl none a2 with
   | false=>rfl
   | true=>
     rw[if_pos (by trivial)]
     by_cases g:a2.length≤8
     · rw[if_neg (by simp;omega)]
       by_cases j:0≤a3
       · rw[if_neg (by simp;omega)]
         by_cases k:a3≤6
         · rw[if_neg (by simp;omega)]
           cases m:Jg s a1 with
           | false=>rfl
           | true=>
             rw[if_neg (by decide)]
             cases q:Lk a2 with
             | false=>rfl
             | true=>exact absurd ⟨e,f,m,q,g,j,k⟩ h
         · rw[if_pos (by simp;omega)]
       · rw[if_pos (by simp;omega)]
     · rw[if_pos (by simp;omega)]
theorem XU (s:ae)(a1:List Int)(e:∀ x∈s.Cons,0≤x.cU∧x.cU≤4)(h:Jg s a1=true):CB s a1:=by
 intro c f
 simp only[Jg,List.all_eq_true,Bool.and_eq_true,decide_eq_true_eq] at h
 have:=h c f
 obtain⟨k,rfl⟩:=Int.eq_ofNat_of_zero_le this.1
 have d:k<s.Cons.length:=by omega
 exact⟨s.Cons[k],cE d,e _ (List.getElem_mem d)⟩
variable {β : Type}
theorem wi {f:α→List β}(h1:∀ a∈l,(f a).Nodup)(h2:l.Pairwise fun a b=>∀ x,x∈f a→x∈f b→False):(l.flatMap f).Nodup:=
 List.pairwise_flatMap.2 ⟨h1,h2.imp fun h x hx y d=>by rintro rfl;exact h x hx d⟩
theorem Ab {f:α→β}(inj:∀ a b,f a=f b→a=b)(h:l.Nodup):(l.map f).Nodup:=List.pairwise_map.2 (List.Pairwise.imp (fun h e=>h (inj _ _ e)) h)
section
variable (sig : ae) (cons ints : List Int)
structure Jh (T : Nat → List Term) (n : Nat) : Prop where
 all : ∀ t, Made sig cons ints t → fw t < n → t ∈ T (fw t).toNat
 nd : ∀ k, (T k).Nodup
theorem pM (t:Term):1≤fw t:=(ef t).2
theorem mj (l:List Term):0≤jK l:=(gm l).2
theorem Kd (T:Nat→List Term):∀(l:List Term),(∀ t∈l,t∈T (fw t).toNat)→l∈dW T l.length (jK l).toNat:=by
 intro l
 induction l with
 | nil=>intro _;simp[dW,jK]
 | cons t l d=>
   intro h
   have h1:=pM t
   have h2:=mj l
   simp only[dW,List.length_cons,List.mem_flatMap,List.mem_range'_1,List.mem_map,jK]
   refine⟨(fw t).toNat,by omega,t,h t (by simp),l,?_,rfl⟩
   rw[show(fw t+jK l).toNat-(fw t).toNat=(jK l).toNat by omega]
   exact d fun x hx=>h x (by simp[hx])
theorem F8 (T:Nat→List Term)(f:∀ k t,t∈T k→fw t=k)(g:∀ k,(T k).Nodup):∀ m s,(dW T m s).Nodup:=by
 intro m
 induction m with
 | zero=>intro s;simp only[dW];split<;>simp
 | succ m h=>
   intro s
   simp only[dW]
   refine wi (fun k _=>?_) ?_
   · refine wi (fun t _=>?_) ?_
     · exact Ab (fun a b e=>by simpa using e) (h _)
     · refine(g k).imp fun {a b} d=>?_
       simp only[List.mem_map]
       rintro x ⟨y,_,rfl⟩ ⟨z,_,e⟩
       simp only[List.cons.injEq] at e
       exact d e.1.symm
   · refine(List.nodup_range' (step:=1)).imp fun {a b} d=>?_
     simp only[List.mem_flatMap,List.mem_map]
     rintro x ⟨t,j,y,_,rfl⟩ ⟨u,q,z,_,e⟩
     simp only[List.cons.injEq] at e
     obtain⟨rfl,_⟩:=e
     have h1:=f _ _ j
     have h2:=f _ _ q
     exact d (by omega)
theorem L5 : ∀(l:List Int) (p:Int),Gl (some p) l=true→∀ x∈l,p<x:=by
 intro l
 induction l with
 | nil=>intro p _ x hx;simp at hx
 | cons y l d=>
   intro p h x hx
   simp only[Gl,Bool.and_eq_true,decide_eq_true_eq] at h
   rcases List.mem_cons.1 hx with e | hx
   · rw[e];exact h.1
   · have:=d y h.2 x hx;omega
theorem Cy : ∀(l:List Int),Gl none l=true→l.Nodup:=by
 have key:∀(l:List Int) (p:Int),Gl (some p) l=true→l.Nodup:=by
   intro l
   induction l with
   | nil=>intro _ _;simp
   | cons y l e=>
     intro p h
     simp only[Gl,Bool.and_eq_true,decide_eq_true_eq] at h
     rw[List.nodup_cons]
     exact⟨fun d=>by have:=L5 l y h.2 y d;omega,e y h.2⟩
 intro l h
 cases l with
 | nil=>simp
 | cons y l=>
   simp only[Gl] at h
   rw[List.nodup_cons]
   exact⟨fun d=>by have:=L5 l y h y d;omega,key l y h⟩
theorem Ke (T:Nat→List Term)(n:Nat)(f:∀ t,Made sig cons ints t→fw t<n→t∈T (fw t).toNat)(t:Term)(h:Made sig cons ints t)(d:fw t=n):t∈kB T sig cons ints n:=by
 simp only[kB,List.mem_append,List.mem_flatMap]
 cases h with
 | int x hx=>
   left
   simp only[fw,jK] at d
   rw[km,if_pos (by omega)]
   simp only[List.drop_zero,List.mem_map]
   exact⟨x,hx,rfl⟩
 | QO c g l h1 h2 h3 h4=>
   right
   refine⟨c,h1,?_⟩
   simp only[fw] at d
   have e:nE sig c=l.length:=by simp only[nE,h2];omega
   simp only[nh,List.mem_map]
   refine⟨l,?_,rfl⟩
   rw[e,show n-1=(jK l).toNat by omega]
   exact Kd T l fun x hx=>f x (h4 x hx) (by have:=lX l x hx;omega)
theorem F9 (T:Nat→List Term)(h:∀ k t,t∈T k→fw t=k)(j:∀ k,(T k).Nodup)(m:cons.Nodup)(hi:ints.Nodup)(n:Nat):(kB T sig cons ints n).Nodup:=by
 rw[kB,List.nodup_append]
 refine⟨?_,?_,?_⟩
 · rw[km]
   split
   · rw[List.drop_zero]
     exact Ab (fun a b e=>by simpa using e) hi
   · simp
 · refine wi (fun c _=>?_) ?_
   · rw[nh]
     exact Ab (fun a b e=>by simpa using e) (F8 T h j _ _)
   · refine m.imp fun {a b} f=>?_
     simp only[nh,List.mem_map]
     rintro x ⟨y,_,rfl⟩ ⟨z,_,e⟩
     simp only[Term.mk.injEq,true_and] at e
     exact f e.1.symm
 · intro a d b g
   simp only[km] at d
   split at d
   · simp only[List.mem_map] at d
     obtain⟨x,_,rfl⟩:=d
     simp only[List.mem_flatMap,nh,List.mem_map] at g
     obtain⟨c,_,l,_,rfl⟩:=g
     simp
   · simp at d
variable {T : Nat → List Term} {out : List Term}
theorem Kf (h:Inv2 sig cons ints T n out)(h3:Jh sig cons ints T n)(r:1≤n)(f:cons.Nodup)(g:ints.Nodup)(j:(bE (false,[],out) (kB T sig cons ints n)).1=false) :
   Jh sig cons ints (fun k=>if k=n then(bE (false,[],out) (kB T sig cons ints n)).2.1 else T k) (n+1):=by
 have e:=xl _ _ j
 rw[e]
 simp only[List.nil_append]
 refine⟨fun t d q=>?_,fun k=>?_⟩
 · have:=pM t
   by_cases m:fw t=n
   · rw[if_pos (by omega)]
     exact Ke sig cons ints T n h3.all t d m
   · rw[if_neg (by omega)]
     exact h3.all t d (by omega)
 · split
   · exact F9 sig cons ints T (fun k t d=>(h.A3 k t d).1) h3.nd f g n
   · exact h3.nd k
theorem Nf (h3:Jh sig cons ints T n)(t:Term)(e:Made sig cons ints t)(d:fw t<n):t∈(List.range n).flatMap T:=by
 have:=pM t
 exact List.mem_flatMap.2 ⟨(fw t).toNat,List.mem_range.2 (by omega),h3.all t e d⟩
theorem HO (e:∀ k t,t∈T k→fw t=k)(h3:Jh sig cons ints T n):((List.range n).flatMap T).Nodup:=by
 refine wi (fun k _=>h3.nd k) ?_
 refine List.nodup_range.imp fun {a b} d=>?_
 intro x hx f
 have h1:=e _ _ hx
 have h2:=e _ _ f
 exact d (by omega)
theorem Ng (u:CB sig cons)(j:cons.Nodup)(m:ints.Nodup):∀ d T n out l,Inv2 sig cons ints T n out→Jh sig cons ints T n→1≤n→vy sig cons ints d n T out=some l→l.Nodup∧∀ t,Made sig cons ints t→fw t<n+d→t∈l:=by
 intro d
 induction d with
 | zero=>
   intro T n out l h h3 g e
   simp only[vy,an] at e
   subst e
   rw[h.flat]
   exact⟨HO sig cons ints (fun k t f=>(h.A3 k t f).1) h3,fun t f q=>Nf sig cons ints h3 t f (by omega)⟩
 | succ d x=>
   intro T n out l h h3 g e
   simp only[vy] at e
   split at e
   · simp at e
   · rename_i r
     have:=x _ _ _ _ (wh sig cons ints h g u (by simpa using r)) (Kf sig cons ints h h3 g j m (by simpa using r)) (by omega) e
     exact⟨this.1,fun t f q=>this.2 t f (by omega)⟩
theorem HP : Jh sig cons ints (fun _=>[]) 1:=⟨fun t _ h=>by have:=pM t;omega,by simp⟩
end
mutual
def BK : Term→Int→Int→Int
 | .mk _ _ l,a,d=>if a<1 then -1 else if d<1 then -1 else w5 l (a-1) d
def w5 : List Term→Int→Int→Int
 | [],a,_=>a
 | t::l,a,d=>if a<0 then a else w5 l (BK t a (d-1)) d
end
mutual
theorem CX : ∀(t:Term) (a d:Int),-1≤BK t a d∧(0≤a→BK t a d≤a-1)∧(0≤BK t a d→fw t=a-BK t a d)
 | .mk o n l,a,d=>by
   simp only[BK]
   split
   · exact⟨by omega,fun _=>by omega,fun h=>by omega⟩
   · split
     · exact⟨by omega,fun _=>by omega,fun h=>by omega⟩
     · have h:=IM l (a-1) d (by omega)
       refine⟨h.1,fun _=>h.2.1,fun h0=>?_⟩
       have:=h.2.2 h0
       simp only[fw];omega
theorem IM : ∀(l:List Term) (a d:Int),-1≤a → -1≤w5 l a d∧w5 l a d≤a∧(0≤w5 l a d→jK l=a-w5 l a d)
 | [],a,d,h=>by simp only[w5,jK];omega
 | t::l,a,d,h=>by
   simp only[w5]
   split
   · exact⟨by omega,by omega,fun _=>by omega⟩
   · have h1:=CX t a (d-1)
     have h2:=IM l (BK t a (d-1)) d h1.1
     have h3:=h1.2.1 (by omega)
     refine⟨h2.1,by omega,fun h0=>?_⟩
     have h4:=h2.2.2 h0
     have h5:=h1.2.2 (by omega)
     simp only[jK];omega
end
mutual
theorem De : ∀(t:Term) (a d:Int),fw t≤a→fw t≤d→BK t a d=a-fw t
 | .mk o n l,a,d,h1,h2=>by
   have h3:=mj l
   simp only[fw] at h1 h2
   rw[BK,if_neg (by omega),if_neg (by omega),EX l (a-1) d (by omega) (by omega),fw]
   omega
theorem EX : ∀(l:List Term) (a d:Int),jK l≤a→jK l<d→w5 l a d=a-jK l
 | [],a,d,_,_=>by simp[w5,jK]
 | t::l,a,d,h1,h2=>by
   have h3:=mj l
   have h4:=pM t
   simp only[jK] at h1 h2
   rw[w5,if_neg (by omega),De t a (d-1) (by omega) (by omega),EX l (a-fw t) d (by omega) (by omega),jK]
   omega
end
def GA (cons ints:List Int)(o n:Int):Bool:=if o=2 then ints.contains n else if o=3 then cons.contains n else false
mutual
def DZ (cons ints:List Int):Term→Bool
 | .mk o n l=>GA cons ints o n&&yr cons ints l
def yr (cons ints:List Int):List Term→Bool
 | []=>true
 | t::l=>DZ cons ints t&&yr cons ints l
end
variable {cons ints : List Int}
theorem Nh : ∀ {l:List Term},yr cons ints l=true↔∀ t∈l,DZ cons ints t=true:=by
 intro l
 induction l with
 | nil=>simp[yr]
 | cons t l d=>simp[yr,d]
variable {t : Term}
theorem HQ {sig:ae}(h:Made sig cons ints t):DZ cons ints t=true:=by
 induction h with
 | int x hx=>simp[DZ,yr,GA,hx]
 | QO c e l h1 h2 h3 h4 d=>
   simp only[DZ,GA,Bool.and_eq_true]
   exact⟨by simp[h1],Nh.2 d⟩
theorem Kg (a b:Term)(A:a.Kids.length=b.Kids.length)(g:∀ x∈a.Kids,∀ y,∃ r,kK x y=some r∧(r=true↔x=y))(B:a.Kids.length<4611686018427387904):∀(d i:Nat),a.Kids.length-i=d→i≤a.Kids.length→∃ r,jW a b i=some r∧(r=true↔a.Kids.drop i=b.Kids.drop i):=by
 intro d
 induction d with
 | zero=>
   intro i j hi
   rw[jW,if_neg (by simp;omega),List.drop_eq_nil_of_le (by omega),List.drop_eq_nil_of_le (by omega)]
   exact⟨true,rfl,by simp⟩
 | succ d k=>
   intro i j hi
   have h1:i<a.Kids.length:=by omega
   have h2:i<b.Kids.length:=by omega
   obtain⟨r,m,f⟩:=g _ (List.getElem_mem h1) b.Kids[i]
   rw[jW,if_pos (by simpa using h1),cE h1,cE h2]
   simp only[Option.bind_eq_bind,Option.bind_some,m]
   rw[List.drop_eq_getElem_cons h1,List.drop_eq_getElem_cons h2]
   cases r with
   | true=>
     obtain⟨r,q,u⟩:=k (i+1) (by omega) (by omega)
     rw[if_pos (by trivial),if_pos (aL (by omega) (by omega)),show((i:Int)+1)=((i+1:Nat):Int) by omega]
     exact⟨r,q,by rw[List.cons.injEq];exact u.trans ⟨fun h=>⟨f.1 rfl,h⟩,fun h=>h.2⟩⟩
   | false=>
     refine⟨false,rfl,?_⟩
     have:¬ a.Kids[i]=b.Kids[i]:=fun e=>by simpa using f.2 e
     rw[List.cons.injEq]
     exact⟨fun h=>by simp at h,fun h=>absurd h.1 this⟩
mutual
theorem EY : ∀(a b:Term),fw a<4611686018427387904→∃ r,kK a b=some r∧(r=true↔a=b)
 | .mk o n l,.mk o' f l', h=>by
   simp only[fw] at h
   have g:=Cz l (by omega)
   have k:=lW l
   rw[kK]
   by_cases h1:o=o'
   · subst h1
     rw[if_neg (by simp[Term.Op])]
     by_cases h2:n=f
     · subst h2
       rw[if_neg (by simp[Term.N])]
       by_cases h3:l.length=l'.length
       · rw[if_neg (by simp[Term.Kids,h3])]
         obtain⟨r,d,j⟩:=Kg (.mk o n l) (.mk o n l') h3 g (by simp only[Term.Kids];omega) _ 0 rfl (Nat.zero_le _)
         rw[show((0:Nat):Int)=0 from rfl] at d
         exact⟨r,d,by simpa [Term.Kids] using j⟩
       · rw[if_pos (by show(!decide ((l.length:Int)=(l'.length:Int)))=true;rw[decide_eq_false (by omega)];rfl)]
         have:l≠l' := fun e=>h3 (by rw[e])
         exact⟨false,rfl,by simp[this]⟩
     · rw[if_pos (by simp[Term.N,h2])]
       exact⟨false,rfl,by simp[h2]⟩
   · rw[if_pos (by simp[Term.Op,h1])]
     exact⟨false,rfl,by simp[h1]⟩
theorem Cz : ∀ l:List Term,jK l<4611686018427387904→∀ x∈l,∀ y,∃ r,kK x y=some r∧(r=true↔x=y)
 | [],_,x,hx,_=>by simp at hx
 | t::l,h,x,hx,y=>by
   have k1:=pM t
   have k2:=mj l
   simp only[jK] at h
   rcases List.mem_cons.1 hx with e | hx
   · rw[e];exact EY t y (by omega)
   · exact Cz l (by omega) x hx y
end
theorem PB {l:List Term}(h1:l.Pairwise D4)(h2:l.Nodup):l.Pairwise fun a b=>fD (key a) (key b)<0:=by
 refine(h1.and h2).imp fun {a b} h=>?_
 obtain⟨h1,h2⟩:=h
 unfold D4 at h1
 have:=r9 (key a) (key b)
 by_cases e:fD (key a) (key b)=0
 · exact absurd (key_inj ((tU _ _).1 e)) h2
 · omega
structure VM (s : ae) (a1 a2 : List Int) (a3 : Int) (l : List Term) : Prop where
 sig : ri s = some true
 cons : s.Cons.length ≤ 12
 args : ∀ x ∈ s.Cons, 0 ≤ x.cU ∧ x.cU ≤ 4
 atp : CB s a1
 ints : ∀ x ∈ a2, -1000000 ≤ x ∧ x ≤ 1000000
 abm : a3 ≤ 6
 len : l.length ≤ 100
 each : ∀ t ∈ l, fw t ≤ a3 ∧ Made s a1 a2 t
 ap4 : l.Pairwise fun a b => fD (key a) (key b) < 0
 all : ∀ t, Made s a1 a2 t → fw t ≤ a3 → t ∈ l
theorem Ga (s:ae)(a1 a2:List Int)(a3:Int)(h2:∀ x∈s.Cons,x.Name.size≤30)(h3:∀ x∈s.dI,x.Name.size≤30)(h4:a1.length≤20)(h5:a2.length≤20) :
   fY s a1 a2 a3=some ([],2)∨fY s a1 a2 a3=some ([],3)∨∃ l,fY s a1 a2 a3=some (l,0)∧VM s a1 a2 a3 l:=by
 rcases XT s h2 h3 with⟨q,e⟩ | ⟨q,e,D,r⟩
 · refine .inl ?_
   rw[fY,iG,e];rfl
 · by_cases k:ae7 s a1 a2 a3
   · rw[PA s a1 a2 a3 e h4 h5 k]
     obtain⟨E,F,G,u,P,H,I⟩:=k
     obtain⟨size,rfl⟩:=Int.eq_ofNat_of_zero_le H
     have j:=XU s a1 r G
     have st:=J7 s a1 a2
     have y:=XS s a1 a2 j h4 h5 size (by omega) _ 1 (fun _=>[]) [] rfl (by omega) (by omega) st HI
     rw[show((1:Nat):Int)=1 from rfl] at y
     rw[y]
     have J:=J6 s a1 a2 j (size+1-1) (fun _=>[]) 1 []
     have K:=Ng s a1 a2 j (Cy a1 E) (Cy a2 F) (size+1-1) (fun _=>[]) 1 []
     cases A:vy s a1 a2 (size+1-1) 1 (fun _=>[]) [] with
     | none=>exact .inr (.inl rfl)
     | some l=>
       obtain⟨L,f⟩:=J l st (by omega) A
       obtain⟨N,O⟩:=K l st (HP s a1 a2) (by omega) A
       have h:∀ x∈a2,-1000000≤x∧x≤1000000:=by
         intro x hx
         simp only[Lk,List.all_eq_true,Bool.and_eq_true,decide_eq_true_eq] at u
         exact u x hx
       have d:=F4 s l (fun a B b C=>F3 s a1 a2 (by omega) h e a b (f a B).2 (f b C).2 (by have:=(f a B).1;omega) (by have:=(f b C).1;omega)) (by omega)
       have g:(uU [] l).Perm l:=by simpa using yd l []
       refine .inr (.inr ⟨uU [] l,?_,q,D,r,j,h,I,?_,?_,?_,?_⟩)
       · show Jf s l=_
         rw[Jf,d]
         simp only[Option.bind_eq_bind,Option.bind_some]
         rw[if_pos (by simpa using g.length_eq)]
       · rw[g.length_eq];exact L
       · intro t m
         have:=f t (g.mem_iff.1 m)
         exact⟨by omega,this.2⟩
       · exact PB (uA l [] List.Pairwise.nil) (g.nodup_iff.2 N)
       · intro t m Q
         exact g.mem_iff.2 (O t m (by omega))
   · exact .inl (Nd s a1 a2 a3 e h4 h5 k)
theorem HR (a:Term)(d:Int)(h:∀ x∈a.Kids,∀ b:Int,b≤1000→kd x b (d-1)=some (BK x b (d-1)))(k:0≤d∧d≤1000):∀(e i:Nat) (b:Int),a.Kids.length-i=e→i≤a.Kids.length→b≤1000 → -1≤b→i+b≤2000→iN a d i b=some (w5 (a.Kids.drop i) b d):=by
 intro e
 induction e with
 | zero=>
   intro i b h1 h2 _ _ _
   rw[iN,if_neg (by simp;omega),List.drop_eq_nil_of_le (by omega)]
   rfl
 | succ e j=>
   intro i b h1 h2 h3 h4 h5
   have hi:i<a.Kids.length:=by omega
   rw[iN,if_pos (by simpa using hi),List.drop_eq_getElem_cons hi,w5]
   by_cases f:b≥0
   · have g:=CX a.Kids[i] b (d-1)
     have m:=g.2.1 f
     rw[if_pos (by simpa using f),cE hi]
     simp only[Option.bind_eq_bind,Option.bind_some,h _ (List.getElem_mem hi) b h3]
     rw[if_pos (aL (by omega) (by omega)),if_pos (aL (by omega) (by omega)),show((i:Int)+1)=((i+1:Nat):Int) by omega,j (i+1) _ (by omega) (by omega) (by omega) (by omega) (by omega),if_neg (by omega)]
   · rw[if_neg (by simpa using f),if_pos (by omega)]
mutual
theorem Ac : ∀(t:Term) (a d:Int),a≤1000→0≤d→d≤1000→kd t a d=some (BK t a d)
 | .mk o n l,a,d,h1,h2,h3=>by
   rw[kd,BK]
   by_cases e:a<1
   · rw[if_pos (by simpa using e),if_pos e]
   · rw[if_neg (by simpa using e),if_neg e]
     by_cases f:d<1
     · rw[if_pos (by simpa using f),if_pos f]
     · rw[if_neg (by simpa using f),if_neg f,if_pos (aL (by omega) (by omega))]
       have:=HR (.mk o n l) d (fun x hx b g=>CA l x hx b (d-1) g (by omega) (by omega)) ⟨h2,h3⟩ _ 0 (a-1) rfl (Nat.zero_le _) (by omega) (by omega) (by omega)
       rw[show((0:Nat):Int)=0 from rfl] at this
       rw[this]
       rfl
theorem CA : ∀(l:List Term) (x:Term),x∈l→∀(b d:Int),b≤1000→0≤d→d≤1000→kd x b d=some (BK x b d)
 | [],x,hx,_,_,_,_,_=>by simp at hx
 | t::l,x,hx,b,d,h1,h2,h3=>by
   rcases List.mem_cons.1 hx with e | hx
   · rw[e];exact Ac t b d h1 h2 h3
   · exact CA l x hx b d h1 h2 h3
end
theorem EZ (t:Term):qd t=some (decide (0≤BK t 50 14)):=by
 rw[qd,Ac t _ _ (by omega) (by omega) (by omega)]
 simp only[Option.bind_eq_bind,Option.bind_some]
 by_cases h:BK t 50 14≥0
 · rw[if_pos (by simpa using h)];simp[show 0≤BK t 50 14 from h]
 · rw[if_neg (by simpa using h)];simp;omega
theorem Ni (h:0≤BK t 50 14):fw t≤50:=by
 have:=(CX t 50 14).2.2 h
 omega
theorem L6 (a b c:Int):mg a b c=some (decide (b≤a∧a≤c)):=by rw[Ew,Bool.decide_and]
def Nv (s:ae)(o n k:Int):Bool:=
 if o=2 then decide (k=0)&&decide (-1000000≤n∧n≤1000000)
 else match dY s.Cons n with
  | some x=>decide (k=x.cU)
  | none=>false
theorem Qo {n:Int}(h:0≤n∧n≤(l.length:Int)-1):∃ x,dY l n=some x:=by
 obtain⟨k,rfl⟩:=Int.eq_ofNat_of_zero_le h.1
 exact⟨l[k]'(by omega),cE (by omega)⟩
theorem XV {n:Int}(h:¬ (0≤n∧n≤(l.length:Int)-1)):dY l n=none:=by
 unfold dY
 split
 · rw[List.getElem?_eq_none];omega
 · rfl
theorem Fa {c:Bool}{x y:Option Bool}(hx:∃ b,x=some b)(d:∃ b,y=some b):∃ b,(if c then x else y)=some b:=by
 cases c with
 | true=>exact hx
 | false=>exact d
theorem xn (l:List α)(n:Int)(h:l.length≤100)(c:α→Bool):∃ b,(if dH .i64 ((l.length:Int)-1) then(if decide (0≤n∧n≤(l.length:Int)-1) then((dY l n).bind fun x=>if c x then some true else some false) else some false) else none:Option Bool)=some b:=by
 rw[if_pos (aL (by omega) (by omega))]
 by_cases g:0≤n∧n≤(l.length:Int)-1
 · obtain⟨x,hx⟩:=Qo g
   rw[if_pos (by simpa using g),hx]
   exact Fa ⟨_,rfl⟩ ⟨_,rfl⟩
 · rw[if_neg (by simpa using g)];exact⟨_,rfl⟩
theorem Kh (s:ae)(t:Term)(h1:s.Cons.length≤100)(h2:s.dI.length≤100):∃ b,om s t=some b:=by
 rw[om]
 simp only[L6,Option.bind_eq_bind,Option.bind_some]
 repeat' (first | exact⟨_,rfl⟩ | exact xn s.Cons t.N h1 (fun x=>decide ((t.Kids.length:Int)=x.cU)) | exact xn s.dI t.N h2 (fun x=>decide ((t.Kids.length:Int)=x.cU)) | exact xn s.dI t.N h2 (fun x=>decide ((t.Kids.length:Int)<x.cU)) | refine Fa ?_ ?_)
theorem Df (s:ae)(t:Term)(h1:s.Cons.length≤100)(q:t.Op=2∨t.Op=3):om s t=some (Nv s t.Op t.N t.Kids.length):=by
 rw[om]
 simp only[L6,Option.bind_eq_bind,Option.bind_some]
 rcases q with f | h
 · rw[if_neg (by simp;omega),if_pos (by simpa using f),Nv,if_pos f]
   by_cases d:(t.Kids.length:Int)=0
   · rw[if_pos (by simpa using d),show decide ((t.Kids.length:Int)=0)=true from decide_eq_true d]
     by_cases g : -1000000≤t.N∧t.N≤1000000
     · rw[if_pos (by simpa using g),show decide (-1000000≤t.N∧t.N≤1000000)=true from decide_eq_true g];rfl
     · rw[if_neg (by simpa using g),show decide (-1000000≤t.N∧t.N≤1000000)=false from decide_eq_false g];rfl
   · rw[if_neg (by simpa using d),show decide ((t.Kids.length:Int)=0)=false from decide_eq_false d];rfl
 · have e:Nv s t.Op t.N t.Kids.length=(match dY s.Cons t.N with
     | some x=>decide ((t.Kids.length:Int)=x.cU)
     | none=>false):=by rw[Nv,if_neg (by omega)]
   rw[e,if_neg (by simp;omega),if_neg (by simp;omega),if_pos (by simpa using h),if_pos (aL (by omega) (by omega))]
   by_cases g:0≤t.N∧t.N≤(s.Cons.length:Int)-1
   · obtain⟨x,hx⟩:=Qo g
     rw[if_pos (by simpa using g),hx]
     simp only[Option.bind_some]
     by_cases k:(t.Kids.length:Int)=x.cU
     · rw[if_pos (by simpa using k),show decide ((t.Kids.length:Int)=x.cU)=true from decide_eq_true k]
     · rw[if_neg (by simpa using k),show decide ((t.Kids.length:Int)=x.cU)=false from decide_eq_false k]
   · rw[if_neg (by simpa using g),XV g]
theorem HS (s:ae)(t:Term)(f:∀ x∈t.Kids,∃ b,fN s x=some b∧(b=true→∀ P:Prop,P→P))(m:t.Kids.length≤1000):∀(d i:Nat),t.Kids.length-i=d→i≤t.Kids.length→∃ b,iO s t i=some b∧(b=true↔∀ x∈t.Kids.drop i,fN s x=some true):=by
 intro d
 induction d with
 | zero=>
   intro i h1 h2
   rw[iO,if_neg (by simp;omega),List.drop_eq_nil_of_le (by omega)]
   exact⟨true,rfl,by simp⟩
 | succ d g=>
   intro i h1 h2
   have hi:i<t.Kids.length:=by omega
   obtain⟨b,e,_⟩:=f _ (List.getElem_mem hi)
   rw[iO,if_pos (by simpa using hi),cE hi]
   simp only[Option.bind_eq_bind,Option.bind_some,e]
   rw[List.drop_eq_getElem_cons hi]
   cases b with
   | true=>
     obtain⟨b,j,k⟩:=g (i+1) (by omega) (by omega)
     rw[if_pos (by trivial),if_pos (aL (by omega) (by omega)),show((i:Int)+1)=((i+1:Nat):Int) by omega]
     refine⟨b,j,k.trans ⟨fun h x hx=>?_,fun h x hx=>h x (tf _ hx)⟩⟩
     rcases List.mem_cons.1 hx with rfl | hx
     · exact e
     · exact h x hx
   | false=>
     refine⟨false,rfl,⟨fun h=>by simp at h,fun h=>?_⟩⟩
     have:=h _ (List.mem_cons_self ..)
     rw[e] at this
     simp at this
mutual
theorem qB (s:ae)(h1:s.Cons.length≤100)(h2:s.dI.length≤100):∀ t:Term,fw t≤1000→∃ b,fN s t=some b∧(b=true↔om s t=some true∧∀ x∈t.Kids,fN s x=some true)
 | .mk o n l,h=>by
   simp only[fw] at h
   have g:=lW l
   obtain⟨b,d⟩:=Kh s (.mk o n l) h1 h2
   rw[fN,d]
   simp only[Option.bind_eq_bind,Option.bind_some]
   cases b with
   | false=>exact⟨false,rfl,⟨fun h=>by simp at h,fun h=>by simp at h⟩⟩
   | true=>
     obtain⟨b,e,f⟩:=HS s (.mk o n l) (fun x hx=>ye s h1 h2 l (by omega) x hx) (by simp only[Term.Kids];omega) _ 0 rfl (Nat.zero_le _)
     rw[if_pos (by trivial)]
     exact⟨b,e,f.trans ⟨fun h=>⟨rfl,by simpa using h⟩,fun h=>by simpa using h.2⟩⟩
theorem ye (s:ae)(h1:s.Cons.length≤100)(h2:s.dI.length≤100):∀ l:List Term,jK l≤1000→∀ x∈l,∃ b,fN s x=some b∧(b=true→∀ P:Prop,P→P)
 | [],_,x,hx=>by simp at hx
 | t::l,h,x,hx=>by
   have k1:=pM t
   have k2:=mj l
   simp only[jK] at h
   rcases List.mem_cons.1 hx with e | hx
   · obtain⟨b,d,_⟩:=qB s h1 h2 t (by omega)
     rw[e];exact⟨b,d,fun _ _ h=>h⟩
   · exact ye s h1 h2 l (by omega) x hx
end
theorem xo (s:ae)(t:Term)(h1:s.Cons.length≤100)(h2:s.dI.length≤100):∃ b,kL s t=some b∧(b=true↔0≤BK t 40 12∧fN s t=some true):=by
 rw[kL,Ac t _ _ (by omega) (by omega) (by omega)]
 simp only[Option.bind_eq_bind,Option.bind_some]
 by_cases h:BK t 40 12≥0
 · have d:fw t≤1000:=by have:=(CX t 40 12).2.2 h;omega
   obtain⟨b,e,_⟩:=qB s h1 h2 t d
   rw[if_pos (by simpa using h),e]
   cases b with
   | true=>exact⟨true,rfl,by simpa using h⟩
   | false=>exact⟨false,rfl,by simp⟩
 · rw[if_neg (by simpa using h)]
   exact⟨false,rfl,by simp;omega⟩
theorem HT (s:ae)(a1 a2:List Int)(h1:s.Cons.length≤100)(h2:s.dI.length≤100)(g:∀ x∈a2,-1000000≤x∧x≤1000000)(h:Made s a1 a2 t):fw t≤1000→fN s t=some true:=by
 induction h with
 | int x hx=>
   intro d
   obtain⟨b,e,f⟩:=qB s h1 h2 (.mk 2 x []) d
   rw[e]
   congr 1
   refine f.2 ⟨?_,by simp[Term.Kids]⟩
   rw[Df s _ h1 (.inl rfl)]
   have:=g x hx
   simp[Nv,Term.Op,Term.N,Term.Kids,this]
 | QO c q l r j k u m=>
   intro d
   obtain⟨b,e,f⟩:=qB s h1 h2 (.mk 3 c l) d
   rw[e]
   congr 1
   refine f.2 ⟨?_,fun x hx=>m x hx ?_⟩
   · rw[Df s _ h1 (.inr rfl)]
     simp only[Nv,Term.Op,Term.N,Term.Kids,j,k]
     simp
   · have:=lX l x hx
     simp only[fw] at d
     omega
theorem Ki (s:ae)(a1 a2:List Int)(h1:s.Cons.length≤100)(h2:s.dI.length≤100)(d:∀ x∈a2,-1000000≤x∧x≤1000000)(h:Made s a1 a2 t)(g:fw t≤12):kL s t=some true:=by
 obtain⟨b,e,f⟩:=xo s t h1 h2
 rw[e]
 congr 1
 refine f.2 ⟨?_,HT s a1 a2 h1 h2 d h (by omega)⟩
 rw[De t 40 12 (by omega) (by omega)]
 omega
mutual
theorem IN (s:ae)(a1 a2:List Int)(h1:s.Cons.length≤100)(h2:s.dI.length≤100):∀ t:Term,fw t≤1000→fN s t=some true→DZ a1 a2 t=true→Made s a1 a2 t
 | .mk o n l,h,k,d=>by
   obtain⟨b,j,m⟩:=qB s h1 h2 (.mk o n l) h
   rw[k] at j
   cases j
   obtain⟨f,q⟩:=m.1 rfl
   simp only[DZ,Bool.and_eq_true] at d
   simp only[fw] at h
   have r:=Fb s a1 a2 h1 h2 l (by omega) q d.2
   have e:o=2∨o=3:=by
     have:=d.1
     simp only[GA] at this
     split at this
     · exact .inl (by assumption)
     · split at this
       · exact .inr (by assumption)
       · simp at this
   rw[Df s (.mk o n l) h1 e] at f
   simp only[an] at f
   rcases e with rfl | rfl
   · have g:Nv s 2 n l.length=true:=f
     have:l=[]:=by
       simp only[Nv,if_true,Bool.and_eq_true,decide_eq_true_eq] at g
       exact List.eq_nil_of_length_eq_zero (by omega)
     subst this
     refine .int n ?_
     have:=d.1
     simpa [GA] using this
   · have g:Nv s 3 n l.length=true:=f
     simp only[Nv,show ¬ ((3:Int)=2) by omega,if_false] at g
     have u:n∈a1:=by
       have:=d.1
       simpa [GA] using this
     cases hx:dY s.Cons n with
     | none=>rw[hx] at g;simp at g
     | some x=>
       rw[hx] at g
       simp only[decide_eq_true_eq] at g
       exact .QO n x l u hx g.symm r
theorem Fb (s:ae)(a1 a2:List Int)(h1:s.Cons.length≤100)(h2:s.dI.length≤100):∀ l:List Term,jK l≤1000→(∀ x∈l,fN s x=some true)→yr a1 a2 l=true→∀ x∈l,Made s a1 a2 x
 | [],_,_,_,x,hx=>by simp at hx
 | t::l,g,f,d,x,hx=>by
   have k1:=pM t
   have k2:=mj l
   simp only[jK] at g
   simp only[yr,Bool.and_eq_true] at d
   rcases List.mem_cons.1 hx with e | hx
   · rw[e];exact IN s a1 a2 h1 h2 t (by omega) (f t (by simp)) d.1
   · exact Fb s a1 a2 h1 h2 l (by omega) (fun y h=>f y (by simp[h])) d.2 x hx
end
theorem dT {p:Prop} [Decidable p] (h:p):decide p=true:=decide_eq_true h
theorem dF {p:Prop} [Decidable p] (h:¬ p):¬ decide p=true:=by simpa using h
theorem Qp (t:Term)(a1 a2:List Int)(f:∀ x∈t.Kids,jn x a1 a2=some (DZ a1 a2 x))(g:t.Kids.length≤1000):∀(d i:Nat) (b:Bool),t.Kids.length-i=d→i≤t.Kids.length→fP t a1 a2 i b=some (b&&yr a1 a2 (t.Kids.drop i)):=by
 intro d
 induction d with
 | zero=>
   intro i b h1 h2
   rw[fP,if_neg (by simp;omega),List.drop_eq_nil_of_le (by omega)]
   cases b<;>rfl
 | succ d e=>
   intro i b h1 h2
   have hi:i<t.Kids.length:=by omega
   rw[fP,if_pos (by simpa using hi),List.drop_eq_getElem_cons hi,yr]
   cases b with
   | false=>
     rw[if_neg (by simp),if_pos (aL (by omega) (by omega)),show((i:Int)+1)=((i+1:Nat):Int) by omega,e (i+1) _ (by omega) (by omega)]
     rfl
   | true=>
     rw[if_pos (by trivial),cE hi]
     simp only[Option.bind_eq_bind,Option.bind_some,f _ (List.getElem_mem hi)]
     cases DZ a1 a2 t.Kids[i] with
     | true=>
       rw[if_pos (by trivial),if_pos (aL (by omega) (by omega)),show((i:Int)+1)=((i+1:Nat):Int) by omega,e (i+1) _ (by omega) (by omega)]
       rfl
     | false=>
       rw[if_neg (by simp),if_pos (aL (by omega) (by omega)),show((i:Int)+1)=((i+1:Nat):Int) by omega,e (i+1) _ (by omega) (by omega)]
       rfl
theorem abI (t:Term)(a1 a2 l:List Int)(g:∀ x∈t.Kids,jn x a1 a2=some (DZ a1 a2 x))(j:t.Kids.length≤1000)(k:l.length≤1000):∀(d i:Nat) (b:Bool),l.length-i=d→i≤l.length→jc t a1 a2 l i b=some ((b||(l.drop i).contains t.N)&&yr a1 a2 t.Kids):=by
 intro d
 induction d with
 | zero=>
   intro i b h1 h2
   have:=Qp t a1 a2 g j _ 0 b rfl (Nat.zero_le _)
   rw[show((0:Nat):Int)=0 from rfl] at this
   rw[jc,if_neg (by simp;omega),List.drop_eq_nil_of_le (by omega),this]
   simp
 | succ d f=>
   intro i b h1 h2
   have hi:i<l.length:=by omega
   rw[jc,if_pos (by simpa using hi),List.drop_eq_getElem_cons hi,List.contains_cons]
   cases b with
   | true=>
     rw[if_pos (by trivial),if_pos (aL (by omega) (by omega)),show((i:Int)+1)=((i+1:Nat):Int) by omega,f (i+1) _ (by omega) (by omega)]
     rfl
   | false=>
     rw[if_neg (by simp),cE hi]
     simp only[Option.bind_eq_bind,Option.bind_some]
     by_cases e:l[i]=t.N
     · rw[if_pos (by simpa using e),if_pos (aL (by omega) (by omega)),show((i:Int)+1)=((i+1:Nat):Int) by omega,f (i+1) _ (by omega) (by omega)]
       simp[e]
     · rw[if_neg (by simpa using e),if_pos (aL (by omega) (by omega)),show((i:Int)+1)=((i+1:Nat):Int) by omega,f (i+1) _ (by omega) (by omega)]
       have:(t.N==l[i])=false:=by simp;exact fun h=>e h.symm
       simp[this]
theorem abJ (t:Term)(a1 a2:List Int)(g:∀ x∈t.Kids,jn x a1 a2=some (DZ a1 a2 x))(j:t.Kids.length≤1000)(k:a2.length≤1000):∀(d i:Nat) (b:Bool),a2.length-i=d→i≤a2.length→jb t a1 a2 i b=some ((b||(a2.drop i).contains t.N)&&yr a1 a2 t.Kids):=by
 intro d
 induction d with
 | zero=>
   intro i b h1 h2
   have:=Qp t a1 a2 g j _ 0 b rfl (Nat.zero_le _)
   rw[show((0:Nat):Int)=0 from rfl] at this
   rw[jb,if_neg (by simp;omega),List.drop_eq_nil_of_le (by omega),this]
   simp
 | succ d f=>
   intro i b h1 h2
   have hi:i<a2.length:=by omega
   rw[jb,if_pos (by simpa using hi),List.drop_eq_getElem_cons hi,List.contains_cons]
   cases b with
   | true=>
     rw[if_pos (by trivial),if_pos (aL (by omega) (by omega)),show((i:Int)+1)=((i+1:Nat):Int) by omega,f (i+1) _ (by omega) (by omega)]
     rfl
   | false=>
     rw[if_neg (by simp),cE hi]
     simp only[Option.bind_eq_bind,Option.bind_some]
     by_cases e:a2[i]=t.N
     · rw[if_pos (by simpa using e),if_pos (aL (by omega) (by omega)),show((i:Int)+1)=((i+1:Nat):Int) by omega,f (i+1) _ (by omega) (by omega)]
       simp[e]
     · rw[if_neg (by simpa using e),if_pos (aL (by omega) (by omega)),show((i:Int)+1)=((i+1:Nat):Int) by omega,f (i+1) _ (by omega) (by omega)]
       have:(t.N==a2[i])=false:=by simp;exact fun h=>e h.symm
       simp[this]
mutual
theorem Dg (a1 a2:List Int)(h1:a1.length≤1000)(h2:a2.length≤1000):∀ t:Term,fw t≤1000→jn t a1 a2=some (DZ a1 a2 t)
 | .mk o n l,h=>by
   simp only[fw] at h
   have g:=lW l
   have f:=Fc a1 a2 h1 h2 l (by omega)
   rw[jn,DZ,GA]
   by_cases d:o=2
   · have:=abJ (.mk o n l) a1 a2 f (by simp only[Term.Kids];omega) h2 _ 0 false rfl (Nat.zero_le _)
     rw[show((0:Nat):Int)=0 from rfl] at this
     rw[if_pos (dT (p:=(Term.mk o n l).Op=2) d),if_pos d,this]
     simp[Term.N,Term.Kids]
   · by_cases e:o=3
     · have:=abI (.mk o n l) a1 a2 a1 f (by simp only[Term.Kids];omega) h1 _ 0 false rfl (Nat.zero_le _)
       rw[show((0:Nat):Int)=0 from rfl] at this
       rw[if_neg (dF (p:=(Term.mk o n l).Op=2) d),if_neg (by simp[Term.Op,e]),if_neg d,if_pos e,this]
       simp[Term.N,Term.Kids]
     · rw[if_neg (dF (p:=(Term.mk o n l).Op=2) d),if_pos (by simp[Term.Op,e]),if_neg d,if_neg e]
       rfl
theorem Fc (a1 a2:List Int)(h1:a1.length≤1000)(h2:a2.length≤1000):∀ l:List Term,jK l≤1000→∀ x∈l,jn x a1 a2=some (DZ a1 a2 x)
 | [],_,x,hx=>by simp at hx
 | t::l,h,x,hx=>by
   have k1:=pM t
   have k2:=mj l
   simp only[jK] at h
   rcases List.mem_cons.1 hx with e | hx
   · rw[e];exact Dg a1 a2 h1 h2 t (by omega)
   · exact Fc a1 a2 h1 h2 l (by omega) x hx
end
theorem BH (l:List Term)(h:∀ t∈l,fw t≤12)(f:l.length≤100):kO l=some true:=by
 have H:∀(d i:Nat),l.length-i=d→i≤l.length→eQ l i=some true:=by
  intro d
  induction d with
  | zero=>
    intro i h1 h2
    rw[eQ,if_neg (by simp;omega),if_pos (by simp;omega)]
  | succ d e=>
    intro i h1 h2
    have hi:i<l.length:=by omega
    have g:=h _ (List.getElem_mem hi)
    rw[eQ,if_pos (by simpa using hi),cE hi]
    simp only[Option.bind_eq_bind,Option.bind_some,EZ,De l[i] 50 14 (by omega) (by omega)]
    rw[if_pos (by simp;omega),if_pos (aL (by omega) (by omega)),show((i:Int)+1)=((i+1:Nat):Int) by omega]
    exact e (i+1) (by omega) (by omega)
 rw[kO]
 exact H _ 0 rfl (Nat.zero_le _)
theorem HU (s:ae)(h:jX s=some true):s.dI.length≤12:=by
 rw[jX] at h
 split at h
 · simp at h
 · split at h
   · simp at h
   · rename_i h2
     simp at h2
     omega
section
variable (s : ae) (a1 a2 : List Int) (a3 : Int) (v : Term) (l : List Term)
theorem Kj (h:VM s a1 a2 a3 l)(m:dM=some true)(q:s.dI.length≤100)(h1:a1.length≤20)(h2:a2.length≤20)(u:fw v≤50)(b:Bool)(H:b=true∨¬ (kL s v=some true∧DZ a1 a2 v=true∧fw v≤a3)) :
   (ri s>>=fun La=>if La then(kL s v>>=fun d=>if d then(jn v a1 a2>>=fun Gx=>if Gx then(jm v>>=fun e=>if decide ((e:Int)>a3) then(dM>>=fun Gy=>if Gy then(some true) else(some false)) else(if b then(dM>>=fun Lb=>if Lb then(some true) else(some false)) else(some false))) else(dM>>=fun f=>if f then(some true) else(some false))) else(dM>>=fun Lc=>if Lc then(some true) else(some false))) else(dM>>=fun g=>if g then(some true) else(some false)))=some true:=by
 obtain⟨t,j,_⟩:=xo s v (by have:=h.cons;omega) q
 rw[h.sig,j,Dg a1 a2 (by omega) (by omega) v (by omega),oz v (by omega),m]
 simp only[Option.bind_eq_bind,Option.bind_some,if_true]
 cases t with
 | false=>rfl
 | true=>
   rw[if_pos (by trivial)]
   cases r:DZ a1 a2 v with
   | false=>rfl
   | true=>
     rw[if_pos (by trivial)]
     by_cases k:fw v>a3
     · rw[if_pos (dT k)]
     · rw[if_neg (dF k)]
       rcases H with H | H
       · rw[H];rfl
       · exact absurd ⟨j,r,by omega⟩ H
theorem HV (j:VM s a1 a2 a3 l)(A:dM=some true)(u:s.dI.length≤100)(h1:a1.length≤20)(h2:a2.length≤20)(B:fw v≤50):∀(d i:Nat) (b:Bool),l.length-i=d→i≤l.length→(b=true∨(kL s v=some true∧DZ a1 a2 v=true∧fw v≤a3→v∈l.drop i))→bu s a1 a2 a3 v (l,0) i b=some true:=by
 intro d
 induction d with
 | zero=>
   intro i b C hi H
   rw[bu,if_neg (by simp;omega)]
   refine Kj s a1 a2 a3 v l j A u h1 h2 B b (H.imp_right fun H q=>?_)
   have:=H q
   rw[List.drop_eq_nil_of_le (by omega)] at this
   simp at this
 | succ d D=>
   intro i b C hi H
   have I:=j.len
   have f:i<l.length:=by omega
   have y:=j.each _ (List.getElem_mem f)
   have r:=j.abm
   have sm:fw l[i]<4611686018427387904:=by omega
   have g:∀ k:Bool,(k=true∨(kL s v=some true∧DZ a1 a2 v=true∧fw v≤a3→v∈l.drop (i+1)))→(if dH .i64 ((i:Int)+1) then(bu s a1 a2 a3 v (l,0) ((i:Int)+1) k) else none)=some true:=fun k h=>by
     rw[if_pos (aL (by omega) (by omega)),show((i:Int)+1)=((i+1:Nat):Int) by omega]
     exact D (i+1) k (by omega) (by omega) h
   have rest:(if b then(if dH .i64 ((i:Int)+1) then(bu s a1 a2 a3 v (l,0) ((i:Int)+1) true) else none) else((some l[i]:Option Term)>>=fun x=>kK x v>>=fun q=>if q then(if dH .i64 ((i:Int)+1) then(bu s a1 a2 a3 v (l,0) ((i:Int)+1) true) else none) else(if dH .i64 ((i:Int)+1) then(bu s a1 a2 a3 v (l,0) ((i:Int)+1) false) else none)))=some true:=by
     cases b with
     | true=>exact g true (.inl rfl)
     | false=>
       obtain⟨q,E,F⟩:=EY l[i] v sm
       simp only[Option.bind_eq_bind,Option.bind_some,E,Bool.false_eq_true,if_false]
       cases q with
       | true=>exact g true (.inl rfl)
       | false=>
         refine g false (.inr fun c=>?_)
         rcases H with H | H
         · simp at H
         · have:=H c
           rw[List.drop_eq_getElem_cons f] at this
           rcases List.mem_cons.1 this with e | this
           · exact absurd (F.2 e.symm) (by simp)
           · exact this
   rw[bu,if_pos (by simpa using f)]
   simp only[cE f]
   simp only[Option.bind_eq_bind,Option.bind_some,Ki s a1 a2 (by have:=j.cons;omega) u j.ints y.2 (by omega),Dg a1 a2 (by omega) (by omega) l[i] (by omega),HQ y.2,oz l[i] sm,if_true]
   rw[if_neg (dF (by omega))]
   by_cases h0:(i:Int)>0
   · have m:i-1<l.length:=by omega
     have J:=List.pairwise_iff_getElem.1 j.ap4 (i-1) i m f (by omega)
     have G:=j.each _ (List.getElem_mem m)
     rw[if_pos (dT h0),if_pos (aL (by omega) (by omega)),show((i:Int)-1)=((i-1:Nat):Int) by omega,cE m]
     simp only[Option.bind_some,AR 50 l[i-1] l[i] (by omega) (by omega) (by omega)]
     rw[if_neg (dF (by omega))]
     exact rest
   · rw[if_neg (dF h0)]
     exact rest
end
theorem HW (a0:ae)(a1 a2:List Int)(a3:Int)(a4:Term)(g:dM=some true):nb a0 a1 a2 a3 a4=some true:=by
 rw[nb]
 obtain⟨b,h1,h2⟩:=Nc a0
 rw[h1,g,EZ]
 simp only[Option.bind_eq_bind,Option.bind_some,if_true]
 cases b with
 | false=>rfl
 | true=>
   obtain⟨y,j,k⟩:=h2 rfl
   rw[if_pos (by trivial)]
   by_cases h4:a1.length>20
   · rw[if_pos (by simp;omega)]
   · rw[if_neg (by simp;omega)]
     by_cases h5:a2.length>20
     · rw[if_pos (by simp;omega)]
     · rw[if_neg (by simp;omega)]
       by_cases h6:0≤BK a4 50 14
       · rw[if_pos (dT h6)]
         have A:=HU a0 h1
         have m:=Ni h6
         rcases Ga a0 a1 a2 a3 j k (by omega) (by omega) with e | e | ⟨l,e,d⟩
         · rw[e];rfl
         · rw[e];rfl
         · rw[e]
           simp only[Option.bind_some]
           have r:=d.len
           have f:=d.abm
           rw[if_neg (by simp),if_neg (by simp;omega),BH l (fun t u=>by have:=(d.each t u).1;omega) r]
           simp only[Option.bind_some,if_true]
           refine HV a0 a1 a2 a3 a4 l d g (by omega) (by omega) (by omega) m _ 0 false rfl (Nat.zero_le _) (.inr fun⟨c1,c2,c3⟩=>?_)
           obtain⟨q,h,x⟩:=xo a0 a4 (by omega) (by omega)
           rw[c1] at h
           cases h
           exact d.all a4 (IN a0 a1 a2 (by omega) (by omega) a4 (by omega) (x.1 rfl).2 c2) c3
       · rw[if_neg (dF h6)]
end
end Go.Eng

/- Runs on symbols: other names of objects, heads of loops, results in memory; no conditions. -/
import Derived.Test.YtnangdjonghnaaaGreatVEngD
import Derived.KernelRfl
set_option linter.unusedVariables false
set_option linter.unusedSimpArgs false
namespace Go.Eng
noncomputable section
def Yj (T:FT)(P:Program)(s:St):Option (Nat×List AV×af):=
 match s with
 | .fE D _=>match D.os with
   | o::_=>match hU o.op,rP D.F D.ops o,hidden (al D.eH o.after.toList) D.j9,yp (al D.eH o.after.toList) D.es with
     | some c,some true,some aQ,true=>match re T D.F c P with
       | some (g,_,args)=>some (g,args,⟨D.S.nx,D.S.lim,jf D.S.m aQ⟩)
       | none=>none
     | _,_,_,_=>none
   | []=>none
 | _=>none
def LX (v:AV)(a:af)(s:St):St:=
 match s with
 | .fE D k=>match D.os with
   | o::os=>match hidden (al D.eH o.after.toList) D.j9 with
     | some aQ=>.fE (D.jg o os ⟨D.S.nx,D.S.lim,jf D.S.m aQ⟩ (al D.eH o.after.toList) (.wide aQ) v a) k
     | none=>.bad 5
   | []=>.bad 5
 | _=>.bad 5
section
variable {T : FT} {P : Program} {Qf : ic → af → Prop}
variable {s : St}
theorem Ki (A:cF T P)(j:P.follows .mixedOrders=true)(n:Nat)(g:Nat)(args:List AV)(E:af)(v:AV)(p:af)(h:Yj T P (ab T P n s)=some (g,args,E))(C:dc P g args E fun r S=>r=.ret v∧S=p)(q:aJ P Qf (LX v p (ab T P n s))):aJ P Qf s:=by
 refine cj A j n ?_
 generalize ab T P n s=s at h q
 cases s with
 | fE D k=>
   simp only[Yj,LX] at h q
   cases a:D.os with
   | nil=>rw[a] at h;simp at h
   | cons o os=>
     rw[a] at h q
     simp only at h q
     split at h<;>try (simp at h;done)
     rename_i c aQ b G hh u
     split at h<;>simp only[ar,iy,reduceCtorEq] at h
     rename_i H
     obtain⟨rfl,rfl,rfl⟩:=h
     rw[hh] at q
     simp only at q
     obtain⟨N,I⟩:=mM A b H
     have w:=gL b
     refine fH.mono (fun Q q=>?_) q
     refine pz.step q a (wS ..) (fun U S0 E0 O v0 V B J K=>?_)
     have d:nh P D.ops o D.F.get ⟨D.S.nx,D.S.lim,jf D.S.m aQ⟩ v p:=nh.call G w (I _) C
     obtain⟨_,R,y⟩:=B.aQ hh
     have L:∀ id ob,(⟨D.S.nx,D.S.lim,jf D.S.m aQ⟩:af).get id=some ob→id∉aQ∧D.S.get id=some ob:=by
      intro id ob e
      rw[y] at e
      split at e
      · simp at e
      · exact⟨by assumption,e⟩
     have M:=K _ _ _ d rfl fun id ob e=>(L id ob e).2
     rw[C1]
     exact B.wide J a hh u d M
 | _=>simp[Yj] at h
end
def YK (T:FT)(P:Program)(s:St):Option (Nat×List AV):=
 match s with
 | .fE D k=>match Yj T P (.fE D k) with
   | some (g,args,_)=>some (g,args)
   | none=>none
 | .run fn F S k=>KN T P (.run fn F S k)
 | _=>none
def NV (s:St):af:=
 match s with
 | .fE D _=>match D.os with
   | o::_=>match hidden (al D.eH o.after.toList) D.j9 with
     | some aQ=>⟨D.S.nx,D.S.lim,jf D.S.m aQ⟩
     | none=>af.empty
   | []=>af.empty
 | s=>jx s
def DA (v:AV)(r:af→af)(s:St):St:=
 match s with
 | .fE D k=>LX v (r (NV (.fE D k))) (.fE D k)
 | .run fn F S k=>N7 v r (.run fn F S k)
 | _=>.bad 5
section
variable {T : FT} {P : Program} {Q : ic → af → Prop}
variable {s : St}
theorem I3 (E:bZ T P)(n:Nat)(g:Nat)(args:List AV)(v:AV)(r:af→af)(h:YK T P (ab T P n s)=some (g,args))(d:dc P g args (NV (ab T P n s)) fun x e=>x=.ret v∧e=r (NV (ab T P n s)))(q:SX P Q (DA v r (ab T P n s))):SX P Q s:=by
 refine⟨cj E.ok E.mix n ?_⟩
 generalize ab T P n s=s at h d q
 have q:=q.out
 cases s with
 | run fn F S k=>exact w8 E.ok E.mix 0 g args S v _ h rfl ⟨fn,F,S,k,rfl⟩ d q
 | fE D k=>
   simp only[YK] at h
   cases a:Yj T P (.fE D k) with
   | none=>rw[a] at h;simp at h
   | some p=>
     obtain⟨g', b,j⟩:=p
     rw[a] at h
     simp only[ar,iy] at h
     obtain⟨rfl,rfl⟩:=h
     have m:j=NV (.fE D k):=by
      simp only[Yj] at a
      simp only[NV]
      cases c:D.os with
      | nil=>rw[c] at a;simp at a
      | cons o os=>
        rw[c] at a
        simp only at a
        split at a<;>try (simp at a;done)
        rename_i hh _
        split at a<;>simp only[ar,iy,reduceCtorEq] at a
        simp only[hh]
        exact a.2.2.symm
     subst m
     exact Ki E.ok E.mix 0 g' b _ v _ a d q
 | _=>simp[YK] at h
end
variable {α β : Type}
def dL (f:α→AV)(g:β→AV)(p:α×β):AV×AV:=(f p.1,g p.2)
def cS {β:Type}:List (Int×β)→Int→Option β
 | [],_=>none
 | (a,b)::r,k=>if k=a then some b else cS r k
def G4 {β:Type}:List (Int×β)→Int→β→List (Int×β)
 | [],k,v=>[(k,v)]
 | (a,b)::r,k,v=>if k=a then(k,v)::r else(a,b)::G4 r k v
variable {f : α → AV} {g : β → AV}
theorem C9 (a:∀ x,aq (f x)=true)(b:∀ x,aq (g x)=true)(l:List (α×β)):IH (l.map (dL f g))=true:=by
 simp[IH,dL,a,b]
variable {k : IntKind}
theorem pF (x:Int):∀(l:List (Int×β)) (i:Nat),∃ r,lW (.int k) (.sc (.int k x)) (l.map (dL (dX k) g)) i=some r∧(match r with
   | some (j,v)=>∃ b,cS l x=some b∧v=g b∧i≤j∧∀ y:β,(l.map (dL (dX k) g)).set (j-i) (.sc (.int k x),g y)=(G4 l x y).map (dL (dX k) g)
   | none=>cS l x=none∧∀ y:β,l.map (dL (dX k) g)++[(.sc (.int k x),g y)]=(G4 l x y).map (dL (dX k) g)):=by
 intro l
 induction l with
 | nil=>intro i;exact⟨none,rfl,rfl,fun y=>rfl⟩
 | cons p l h=>
   obtain⟨a,b⟩:=p
   intro i
   simp only[List.map_cons,dL,lW,dX,NG,if_true]
   by_cases e:x=a
   · subst e
     simp only[beq_self_eq_true]
     refine⟨_,rfl,b,by simp[cS],rfl,Nat.le_refl _,fun y=>by simp[G4,dL,dX]⟩
   · have m:(x==a)=false:=by simpa using e
     simp only[m]
     obtain⟨r,o,d⟩:=h (i+1)
     refine⟨r,o,?_⟩
     cases r with
     | none=>
       refine⟨by simp[cS,e,d.1],fun y=>?_⟩
       have:=d.2 y
       simp only[G4,if_neg e,List.map_cons,dL,dX,List.cons_append,this]
     | some q=>
       obtain⟨j,v⟩:=q
       obtain⟨c,h1,h2,h3,h4⟩:=d
       refine⟨c,by simp[cS,e,h1],h2,by omega,fun y=>?_⟩
       have:=h4 y
       rw[show j-i=(j-(i+1))+1 from by omega]
       simp only[List.set_cons_succ,G4,if_neg e,List.map_cons,dL,dX,this]
def vg (P:Program)(S:af)(t:TypeId)(m k:AV)(ok:Bool):Option cY:=j3 S (iD P S t m k ok)
def sd (P:Program)(t:TypeId):Option (IntKind×AV):=
 match P.underlying t with
 | some (.map a b)=>match P.underlying a,iC P b with
   | some (.int k),some z=>some (k,z)
   | _,_=>none
 | _=>none
variable {P : Program} {z : AV}
theorem jz {t:TypeId}(h:sd P t=some (k,z)):∃ c d,P.underlying t=some (.map c d)∧P.underlying c=some (.int k)∧iC P d=some z:=by
 unfold sd at h
 split at h<;>try (simp at h;done)
 rename_i c d e
 split at h<;>simp only[ar,iy,reduceCtorEq] at h
 rename_i a b
 obtain⟨rfl,rfl⟩:=h
 exact⟨c,d,e,a,b⟩
section
variable {P : Program} {β : Type} {g : β → AV} {S : af} {t id : Nat} {k : IntKind} {l : List (Int × β)} {x : Int}
theorem aqi {z0:β}(c:sd P t=some (k,g z0))(d:S.get id=some (.mp (l.map (dL (dX k) g)))):vg P S t (.dJ id) (.sc (.int k x)) false=some (.val (g ((cS l x).getD z0)) S):=by
 obtain⟨o,p,h1,h2,h3⟩:=jz c
 obtain⟨r,e,a⟩:=pF (g:=g) (k:=k) x l 0
 simp only[vg,iD,h1,h2,d,ij,e,h3]
 cases r with
 | none=>simp only[a.1,Option.getD_none,j3]
 | some h=>
   obtain⟨j,v⟩:=h
   obtain⟨b,m,rfl,_⟩:=a
   simp only[m,Option.getD_some,j3]
theorem abH {z0:β}(c:sd P t=some (k,g z0))(d:S.get id=some (.mp (l.map (dL (dX k) g)))):vg P S t (.dJ id) (.sc (.int k x)) true=some (.val (.bm [g ((cS l x).getD z0),.sc (.bool (cS l x).isSome)]) S):=by
 obtain⟨o,p,h1,h2,h3⟩:=jz c
 obtain⟨r,e,a⟩:=pF (g:=g) (k:=k) x l 0
 simp only[vg,iD,h1,h2,d,ij,e,h3]
 cases r with
 | none=>simp only[a.1,Option.getD_none,j3,Option.isSome_none]
 | some h=>
   obtain⟨j,v⟩:=h
   obtain⟨b,m,rfl,_⟩:=a
   simp only[m,Option.getD_some,j3,Option.isSome_some]
def EO (P:Program)(S:af)(t:TypeId)(m k v:AV):Option cY:=Cx (lh P S t m k v)
theorem aqj {y:β}(c:sd P t=some (k,z))(d:S.get id=some (.mp (l.map (dL (dX k) g))))(e:Nat.ble S.lim id=true):EO P S t (.dJ id) (.sc (.int k x)) (g y)=some (.skip (S.set id (.mp ((G4 l x y).map (dL (dX k) g))))):=by
 obtain⟨o,p,h1,h2,_⟩:=jz c
 obtain⟨r,h,a⟩:=pF (g:=g) (k:=k) x l 0
 simp only[EO,lh,h1,h2,d,ij,e,Bool.true_and,h]
 cases r with
 | none=>simp only[a.2 y,Cx]
 | some m=>
   obtain⟨j,v⟩:=m
   obtain⟨b,q,_,_,a2⟩:=a
   have:=a2 y
   rw[Nat.sub_zero] at this
   simp only[this,Cx]
end
theorem Wk.take {S:af}{v:AV}{id sz n:Nat}{es:List AV}(d:S.get id=some (.arr sz es))(o:S.lim≤id):Wk v v S (S.set id (.arr sz (es.take n))):=by
 refine⟨fun _ _ h=>h,rfl,rfl,fun k o2 e=>?_,fun k u=>?_⟩
 · by_cases b:k=id
   · subst b
     rw[af.bD (nM _)] at e
     simp only[ar] at e;subst e
     refine⟨_,d,fun g l x h=>?_⟩
     obtain⟨c,t,h1,h2,h3,h4,h5,h6⟩:=h
     refine⟨c,t,h1,h2,h3,?_,fun e m=>h5 e (List.mem_of_mem_take m),fun i j e a y p q r=>?_⟩
     · have:(es.take n).length*sz≤es.length*sz:=u9 _ (by simp;omega)
       omega
     · rw[List.getElem?_take] at p
       split at p
       · exact h6 i j e a y p q r
       · simp at p
   · rw[af.au (nM _) b] at e
     exact⟨o2,e,fun _ _ _ h=>h⟩
 · rw[af.au (nM _) (by omega)]
section
variable {P : Program} {α : Type} {enc : α → AV}
variable {S : af} {el n id len : Nat}
theorem acv {t:Nat}{xs:List α}{b:Int}(m:P.underlying t=some (.slice el))(o:pT P el=some n)(c:∀ x,(enc x).cells.length=n)(d:S.get id=some (.arr n (xs.map enc)))(a:len=xs.length)(p:Nat.ble S.lim id=true)(h:0≤b∧b≤(xs.length:Int)) :
  ∃ e,EN P S t (.aj id 0 len) none (some (.sc (.int k b)))=some (.val (.aj id 0 (xs.take b.toNat).length) e)∧Wk (.aj id 0 (xs.take b.toNat).length) (.aj id 0 (xs.take b.toNat).length) e (S.set id (.arr n ((xs.take b.toNat).map enc)))∧S.nx≤(S.set id (.arr n ((xs.take b.toNat).map enc))).nx:=by
 subst a
 refine⟨S,?_,by rw[List.map_take];exact Wk.take d (eL p),Nat.le_refl _⟩
 have j:b.toNat≤xs.length:=by omega
 simp only[EN,kU,m,o,d,By,kM h.1,j3,Nat.beq_refl,show Nat.ble 0 b.toNat=true from tn (by omega),show Nat.ble b.toNat xs.length=true from tn j]
 simp[Nat.min_eq_left j]
end
def Ah : Code→List (Array Tmp×Code×Code)
 | .rangeFunc _ c a b=>(c,a,b)::(Ah a++Ah b)
 | .seq a b=>Ah a++Ah b
 | .cond _ a b=>Ah a++Ah b
 | .block _ b=>Ah b
 | .loop b=>Ah b
 | .scope b=>Ah b
 | _=>[]
def kq (P:Program)(st:LoopState)(f i n mask:Nat)(env:List (Nat×AV)):ak:=
 match P.funcs[f]? with
 | some fn=>match fn.body with
   | some c=>match (Ah c)[i]? with
     | some (d,a,b)=>.lp st none f n mask env d.toList a b
     | none=>.mz
   | none=>.mz
 | none=>.mz
variable {n : Nat} {σ : Nat → Nat} {st : LoopState} {i mask : Nat} {env : List (Nat × AV)}
theorem lj {f:Nat}:(kq P st f i n mask env).ax σ=kq P st f i n mask (hJ σ env):=by
 unfold kq
 split<;>try rfl
 split<;>try rfl
 split<;>rfl
def Zy : ak→Bool
 | .lp .. => true
 | _=>false
variable {S : af} {kp : List Nat}
theorem Px {f:Nat}{b:List (Nat×AV)}(h:∀ t j,lk b t=some j→∃ v,lk env t=some v∧ie S kp v j)(d:Zy (kq P st f i n mask [])=true):rN S kp (kq P st f i n mask env) (kq P st f i n mask b):=by
 have a:kq P st f i n mask [] ≠ .mz:=by intro e;rw[e] at d;simp[Zy] at d
 clear d
 unfold kq at *
 cases h1:P.funcs[f]? with
 | none=>simp only[h1] at a;exact absurd rfl a
 | some fn=>
   simp only[h1] at a ⊢
   cases h2:fn.body with
   | none=>simp only[h2] at a;exact absurd rfl a
   | some c=>
     simp only[h2] at a ⊢
     cases h3:(Ah c)[i]? with
     | none=>simp only[h3] at a;exact absurd rfl a
     | some p=>exact .lp h
inductive PY (S : af) (kp : List Nat) : List (Nat × AV) → List (Nat × AV) → Prop
 | nil : PY S kp [] []
 | cons {t : Nat} {v v' : AV} {l l' : List (Nat × AV)} (h : ie S kp v v') (r : PY S kp l l') : PY S kp ((t, v) :: l) ((t, v') :: l')
theorem PY.spec {l l' : List (Nat×AV)}(h:PY S kp l l'):∀ t a,lk l' t=some a→∃ v,lk l t=some v∧ie S kp v a:=by
 induction h with
 | nil=>intro t a e;simp[oh] at e
 | @cons k v a l l' h r c=>
   intro t u e
   rw[gz] at e ⊢
   cases b:Nat.beq k t with
   | true=>rw[b] at e;simp only[ar] at e;subst e;exact⟨v,rfl,h⟩
   | false=>rw[b] at e;exact c t u e
theorem FN (a:∀ x,aq (f x)=true)(b:∀ x,aq (g x)=true)(l:List (α×β)):(l.map (dL f g)).map (fun p=>(p.1.ax σ,p.2.ax σ))=l.map (dL f g):=by
 rw[List.map_map]
 refine List.map_congr_left fun p _=>?_
 simp only[Function.comp,dL,AV.iG (a p.1),AV.iG (b p.2)]
theorem ll (sz:Nat)(es:List AV):(ak.arr sz es).ax σ=.arr sz (dW σ es):=rfl
theorem nu (b:Bool):(ak.df b).ax σ=.df b:=rfl
theorem Py (l:List (AV×AV)):(ak.mp l).ax σ=.mp (l.map fun p=>(p.1.ax σ,p.2.ax σ)):=rfl
theorem u3 (a:∀ x,aq (f x)=true)(b:∀ x,aq (g x)=true)(l:List (α×β)):(ak.mp (l.map (dL f g))).ax σ=.mp (l.map (dL f g)):=by
 simp only[ak.ax,FN a b]
theorem ln {a:IntKind}(l:List (Int×Int)):(ak.mp (l.map (dL (dX k) (dX a)))).ax σ=.mp (l.map (dL (dX k) (dX a))):=u3 (by simp) (by simp) l
theorem lr (l:List (Int×Bool)):(ak.mp (l.map (dL (dX k) rR))).ax σ=.mp (l.map (dL (dX k) rR)):=u3 (by simp) (by simp) l
theorem jU : (ak.mp []).ax σ=.mp []:=rfl
variable {el sz : Nat}
theorem abI {enc:α→AV}{st xt bytes nx:Nat}{a:Int}{s:AV}{z0:α}(p:s=.an)(q:Fu P st sz bytes=some (el,enc z0))(m:(match P.underlying xt with | some (.int _)=>true | _=>false)=true)(r:Nat.ble bytes 4096=true)(j:S.nx=nx)(b:(Nat.ble (S.nx+1) 8192&&Nat.ble S.lim S.nx)=true)(h:1≤a∧a≤1048576) :
  pt P S st xt s (.sc (.int .i64 a))=some (.val (.aj nx 0 (List.replicate a.toNat z0).length) (S.add (.arr sz ((List.replicate a.toNat z0).map enc)))):=by
 subst p
 obtain⟨i,o,hi,u,c⟩:=A0 q
 simp only[Bool.and_eq_true] at c b
 obtain⟨⟨⟨⟨h1,h2⟩,h3⟩,h4⟩,h5⟩:=c
 have h4:=jK h4
 have h5:=jK h5
 subst h4
 subst h5
 subst j
 split at m<;>try (simp at m;done)
 rename_i w d
 obtain⟨n,rfl⟩:=Int.eq_ofNat_of_zero_le (show 0≤a by omega)
 show pt P S st xt .an (.sc (.int .i64 (.ofNat n)))=_
 have e:kC P S [st,xt] .an (.sc (.int .i64 (.ofNat n)))=none:=by
  simp only[kC,o,d]
 simp only[pt,gl,e,zQ,o,d,hi,u]
 simp only[h1,h2,h3,r,Bool.and_true,show Nat.ble 1 n=true from tn (by omega),show Nat.ble n 1048576=true from tn (by omega),eW,b.1,b.2]
 simp
def yu (keys:List Nat):List (Nat×AV)→List (Nat×AV)
 | []=>[]
 | (t,v)::r=>match keys.contains t with
   | true=>(t,v)::yu keys r
   | false=>yu keys r
variable {keys : List Nat}
theorem Ng : ∀ {l:List (Nat×AV)} {t:Nat} {v:AV},lk (yu keys l) t=some v→lk l t=some v:=by
 intro l
 induction l with
 | nil=>intro t v h;exact h
 | cons p r w=>
   obtain⟨k,u⟩:=p
   intro t v h
   simp only[yu] at h
   rw[gz]
   cases e:keys.contains k with
   | true=>
     rw[e] at h
     simp only at h
     rw[gz] at h
     cases j:Nat.beq k t with
     | true=>rw[j] at h;exact h
     | false=>rw[j] at h;exact w h
   | false=>
     rw[e] at h
     simp only at h
     cases j:Nat.beq k t with
     | true=>
       exfalso
       have o:k=t:=jK j
       subst o
       have:∀ {l:List (Nat×AV)} {v:AV},lk (yu keys l) k=some v→keys.contains k=true:=by
        intro l
        induction l with
        | nil=>intro v h;simp[yu,oh] at h
        | cons q r c=>
          obtain⟨a,b⟩:=q
          intro v h
          simp only[yu] at h
          cases m:keys.contains a with
          | true=>
            rw[m] at h
            simp only at h
            rw[gz] at h
            cases d:Nat.beq a k with
            | true=>rw[←jK d];exact m
            | false=>rw[d] at h;exact c h
          | false=>rw[m] at h;exact c h
       rw[this h] at e;simp at e
     | false=>exact w h
def Ax (keys:List Nat):ak→ak
 | .lp st p f n m env c a b=>.lp st p f n m (yu keys env) c a b
 | o=>o
theorem Da {o:ak}{g:Gh}{l:Loc}{x:Option Obj}(h:sH g l x o):sH g l x (Ax keys o):=by
 cases o with
 | lp st p f n m env c a b=>
   obtain⟨lo,h1,h2,h3,h4,h5,h6,h7,h8,h9⟩:=h
   exact⟨lo,h1,h2,h3,h4,h5,fun t v e=>h6 t v (Ng e),h7,h8,h9⟩
 | _=>exact h
def prune (id:Nat)(keys:List Nat)(s:St):St:=
 match s with
 | .run fn F S k=>match S.get id with
   | some o=>.run fn F (S.set id (Ax keys o)) k
   | none=>.run fn F S k
 | s=>s
section
variable {T : FT} {P : Program} {Q : ic → af → Prop}
variable {s : St}
theorem D8 (E:bZ T P)(n:Nat)(id:Nat)(keys:List Nat)(j:Nat.ble (jx (ab T P n s)).lim id=true)(q:SX P Q (prune id keys (ab T P n s))):SX P Q s:=by
 refine⟨cj E.ok E.mix n ?_⟩
 generalize ab T P n s=s at j q
 have q:=q.out
 cases s with
 | run fn F S k=>
   simp only[prune] at q
   cases d:S.get id with
   | none=>rw[d] at q;exact q
   | some o=>
     rw[d] at q
     have j:S.lim≤id:=eL j
     refine aJ.reach (fun G B=>Reach.vD B rfl rfl rfl rfl fun g w fr cs C hi=>⟨fr,w,g,C,?_,?_,Steps.refl _ _⟩) q
     · have back:∀ k o2,(S.set id (Ax keys o)).get k=some o2→∃ o1,S.get k=some o1∧∀ g l x,sH g l x o1→sH g l x o2:=by
         intro k o2 e
         by_cases c:k=id
         · subst c
           rw[af.bD (nM _)] at e
           simp only[ar] at e;subst e
           exact⟨o,d,fun _ _ _ h=>Da h⟩
         · rw[af.au (nM _) c] at e
           exact⟨o2,e,fun _ _ _ h=>h⟩
       refine⟨hi.ro,fun k o2 e=>?_,fun a b o1 o2 l l' e D p H I=>?_,hi.fresh⟩
       · obtain⟨o1,m,r⟩:=back k o2 e
         obtain⟨l,x,y,z⟩:=hi.ob k o1 m
         exact⟨l,x,y,r _ _ _ z⟩
       · obtain⟨J,m,_⟩:=back a o1 e
         obtain⟨K,r,_⟩:=back b o2 D
         exact hi.inj a b J K l l' m r p H I
     · refine⟨Nat.le_refl _,rfl,⟨rfl,Nat.le_refl _⟩,rfl,fun _ _ _=>rfl,fun k o2 l e u A _=>?_,Gh.le_refl _,Nat.le_refl _,rfl,fun k c=>af.au (nM _) (by omega),fun _ _=>rfl,fun _ _ e _=>.inl e,fun k c e=>?_,fun _ _=>rfl⟩
       · by_cases c:k=id
         · subst c;exact⟨k,o,l,d,u,A,rfl⟩
         · rw[af.au (nM _) c] at e;exact⟨k,o2,l,e,u,A,rfl⟩
       · have c:k≠id:=by rintro rfl;rw[d] at e;simp at e
         rw[af.au (nM _) c];exact e
 | _=>exact q
end
inductive ym (S : af) : AV → AV → Prop
 | top {v : AV} : ym S v .top
 | pure {v : AV} (h : aq v = true) : ym S v v
 | an : ym S .an (.lit [])
 | eG : ym S .eG (.lit [])
 | aj {id len sz : Nat} {es es' : List AV} (hg : S.get id = some (.arr sz es)) (hl : len = es.length) (hs : es'.length = es.length)
  (hc : ∀ (i : Nat) (e e' : AV), es[i]? = some e → es'[i]? = some e' → e'.cells.length = e.cells.length)
  (h : ∀ (i j : Nat) (e e' a a' : AV), es[i]? = some e → es'[i]? = some e' → e.cells[j]? = some a → e'.cells[j]? = some a' → ym S a a') : ym S (.aj id 0 len) (.lit es')
 | ptr {id sz : Nat} {e : AV} {cs' : List AV} (hg : S.get id = some (.arr sz [e])) (hl : cs'.length = e.cells.length) (h : ∀ (k : Nat) (a a' : AV), e.cells[k]? = some a → cs'[k]? = some a' → ym S a a') : ym S (.ptr id 0 0) (.eV cs')
 | agg {cs cs' : List AV} (hl : cs'.length = cs.length) (h : ∀ (k : Nat) (a a' : AV), cs[k]? = some a → cs'[k]? = some a' → ym S a a') : ym S (.agg cs) (.agg cs')
 | bm {cs cs' : List AV} (hl : cs'.length = cs.length) (h : ∀ (k : Nat) (a a' : AV), cs[k]? = some a → cs'[k]? = some a' → ym S a a') : ym S (.bm cs) (.bm cs')
inductive zh (S : af) : List AV → List AV → Prop
 | nil : zh S [] []
 | cons {e e' : AV} {l l' : List AV} (h : ym S e e') (t : zh S l l') : zh S (e :: l) (e' :: l')
variable {l l' : List AV}
theorem zh.spec (h:zh S l l'):l'.length=l.length∧∀(i:Nat) (e a:AV),l[i]? = some e→l'[i]? = some a→ym S e a:=by
 induction h with
 | nil=>exact⟨rfl,fun i e a h=>by simp at h⟩
 | cons h t d=>
   refine⟨by simp[d.1],fun i e a b c=>?_⟩
   cases i with
   | zero=>simp at b c;subst b;subst c;exact h
   | succ i=>exact d.2 i e a (by simpa using b) (by simpa using c)
theorem ym.vF (h:zh S l l'):ym S (.bm l) (.bm l'):=.bm h.spec.1 h.spec.2
theorem ym.Q5 (h:zh S l l'):ym S (.agg l) (.agg l'):=.agg h.spec.1 h.spec.2
variable {id : Nat}
theorem ym.atp {e:AV}{cs a:List AV}(c:S.get id=some (.arr sz [e]))(b:e.cells=cs)(h:zh S cs a):ym S (.ptr id 0 0) (.eV a):=by
 subst b
 exact .ptr c h.spec.1 h.spec.2
variable {len : Nat}
theorem ym.Ap {es:List AV}(b:S.get id=some (.arr sz es))(c:len=es.length)(d:br es=true):ym S (.aj id 0 len) (.lit es):=
 .aj b c rfl (fun i e h p q=>by rw[p] at q;simp only[ar] at q;rw[q]) (fun i j e h a m p q r s=>by
  rw[p] at q;simp only[ar] at q;subst q
  rw[r] at s;simp only[ar] at s;subst s
  exact .pure (kb (eA d p) r))
variable {v : AV}
theorem ym.sound {g J:Gh}{w:World}(hi:Inv S g w)(K:Gh.frozen S g w J){U:AV}(h:ym S v U):∀ {x:Value},VR g v x→VR J U x:=by
 induction h with
 | pure h=>intro x o;exact o.mono K.1
 | top=>intro x _;exact .top
 | an=>intro x o;cases o;exact .gG
 | eG=>intro x o;cases o;exact .gG
 | aj m q E V h y=>
   intro x o
   cases o with
   | aj F H hb=>
     rename_i l
     obtain⟨l', A,Y,L⟩:=hi.ob _ _ m
     rw[F] at A;simp only[ar] at A;subst A
     obtain⟨c,t,M,Z,I,W,N,O⟩:=L
     have B:=K.2.2 _ _ l c t (0,0) m F M
     rename_i es es' cap
     subst q
     rw[←E]
     have:VR J (.lit es') (.slice (some ⟨l.cd,l.base+0*l.sz,none⟩) es'.length cap):=by
      refine .lit (sz:=l.sz) B (fun e he=>?_) (by rw[E,I];omega) (by rw[E];exact H) (fun i j e a x p u e3=>?_)
      · obtain⟨k,X⟩:=List.getElem?_of_mem he
        have d:k<es.length:=by rw[←E];exact(List.getElem?_eq_some_iff.1 X).1
        have b:es[k]? = some es[k]:=oe d
        rw[V k _ e b X,I]
        exact N _ (List.getElem_mem d)
      · have d:i<es.length:=by rw[←E];exact(List.getElem?_eq_some_iff.1 p).1
        have b:es[i]? = some es[i]:=oe d
        have C:j<es[i].cells.length:=by rw[←V i _ e b p];exact(List.getElem?_eq_some_iff.1 u).1
        have r:es[i].cells[j]? = some es[i].cells[j]:=oe C
        exact y i j _ e _ a b p r u (O i j _ _ x b r (by rw[←I,←e3];congr 1;omega))
     exact this
   | ga=>
     obtain rfl:=List.length_eq_zero_iff.1 (E.trans q.symm)
     exact .gG
 | @ptr id sz e G m q h y=>
   intro x o
   cases o with
   | ptr F=>
     rename_i l
     obtain⟨l', A,Y,L⟩:=hi.ob _ _ m
     rw[F] at A;simp only[ar] at A;subst A
     obtain⟨c,t,M,Z,I,W,N,O⟩:=L
     have B:=K.2.2 _ _ l c t (0,0) m F M
     have R:e.cells.length=sz:=N e (List.mem_cons_self ..)
     refine .eV B (by rw[q,R];simp at W;omega) fun j a x p u=>?_
     have C:j<e.cells.length:=by rw[←q];exact(List.getElem?_eq_some_iff.1 p).1
     have r:e.cells[j]? = some e.cells[j]:=oe C
     exact y j _ a r p (O 0 j e _ x rfl r (by rw[←u];congr 1;omega))
 | agg q h y=>
   intro x o
   cases o with
   | agg D hh=>
     refine .agg (by rw[q];exact D) fun k a x p u=>?_
     rename_i cs G xs
     have d:k<cs.length:=by rw[←q];exact(List.getElem?_eq_some_iff.1 p).1
     have b:cs[k]? = some cs[k]:=oe d
     exact y k _ a b p (hh k _ x b u)
 | bm q h y=>
   intro x o
   cases o with
   | bm D hh=>
     refine .bm (by rw[q];exact D) fun k a x p u=>?_
     rename_i cs G xs
     have d:k<cs.length:=by rw[←q];exact(List.getElem?_eq_some_iff.1 p).1
     have b:cs[k]? = some cs[k]:=oe d
     exact y k _ a b p (hh k _ x b u)
theorem dc.abq {f:FuncId}{args d:List AV}(Y:∀(g D:Gh) (w:World),Inv S g w→Gh.frozen S g w D→∀ x,VR g (.bm args) x→VR D (.bm d) x)(Z:br d=true)(hv:tN v=true)(h:dc P f d af.empty fun r _=>r=.ret v) :
   dc P f args S fun r V=>r=.ret v∧V=S:=by
 intro g w xs hx hi
 have G:=Gh.ir hi
 obtain⟨K,H⟩:∃ k:Gh,k=g.freeze S w:=⟨_,rfl⟩
 rw[←H] at G
 have M:=Y _ _ _ hi G (.tuple xs) (.bm hx.1 hx.2)
 cases M with | bm h1 h2=>?_
 have F:∀ b c,K.ro b=some c→∃ t fz,w.heap[b]? = some (.cells c t fz):=by
   intro b c e
   subst H
   simp only[Gh.freeze] at e
   split at e
   · rename_i c' hc;simp only[ar] at e;subst e;exact hi.ro _ _ hc
   · split at e
     · rename_i c' t fz hh
       split at e<;>simp only[ar,reduceCtorEq] at e
       subst e;exact⟨t,fz,hh⟩
     · simp at e
 have N:Inv af.empty K.bare w:=⟨F,fun id o e=>by rw[af.di] at e;simp at e,fun id I o o' l l' e=>by rw[af.di] at e;simp at e,fun _ _=>rfl⟩
 have O:fG K.bare d xs:=⟨h1,fun k a x e L=>(h2 k a x e L).bare (eA Z e)⟩
 refine(h K.bare w xs O N).mono fun e w' ⟨r,V,g', hr,y,R,u⟩=>?_
 subst hr
 obtain⟨D,A⟩:∃ k:Gh,k={ ro:=fun b=>if b<w.heap.size then g.ro b else g'.ro b,ph:=g.ph }:=⟨_,rfl⟩
 have B:∀ b,b<w.heap.size→D.ro b=g.ro b:=fun b j=>by subst A;simp[j]
 have U:∀ b,¬ b<w.heap.size→D.ro b=g'.ro b:=fun b j=>by subst A;simp[j]
 have m:∀ b,b<w.heap.size→w'.heap[b]? = w.heap[b]? := fun b j=>u.gQ b j fun id o l e=>by rw[af.di] at e;simp at e
 have J:∀ b c,g.ro b=some c→b<w.heap.size:=by
   intro b c e
   obtain⟨t,fz,q⟩:=hi.ro b c e
   exact(Array.getElem?_eq_some_iff.1 q).1
 have E:Gh.le g D:=⟨fun b c e=>by rw[B b (J b c e)];exact e,fun _ _ e=>by subst A;exact e⟩
 have C:D.ph=g.ph:=by subst A;rfl
 refine⟨.ret v,S,D,⟨rfl,rfl⟩,?_,⟨?_,?_,?_,?_⟩,⟨u.size,u.os,u.tape,u.output,fun b j _=>m b j,?_,E,Nat.le_refl _,rfl,fun _ _=>rfl,?_,?_,?_,u.fz⟩⟩
 · cases e with
   | returned x=>exact VR.flat y hv
   | panicked c=>exact y.elim
   | outgrown=>exact y.elim
 · intro b c e
   by_cases j:b<w.heap.size
   · rw[B b j] at e
     rw[m b j];exact hi.ro b c e
   · rw[U b j] at e;exact R.ro b c e
 · intro id o e
   obtain⟨l,a,b,c⟩:=hi.ob id o e
   refine⟨l,E.ph _ _ a,?_,?_⟩
   · rw[B _ c.lt];exact b
   · rw[m _ c.lt];exact c.mono E
 · intro id I o o' l l' e L p W j
   rw[C] at p W
   exact hi.inj id I o o' l l' e L p W j
 · intro id aQ;rw[C];exact hi.fresh id aQ
 · intro id o l e e1 X e3
   rw[C] at X
   exact⟨id,o,l,e,e1,X,rfl⟩
 · intro id _;rw[C]
 · intro b c e j;rw[B b j] at e;exact .inl e
 · exact fun _ _ e=>e
def QL (T:FT)(P:Program)(s:St):Option (Nat×List AV):=
 match s with
 | .fE D k=>match KU T P (.fE D k) with
   | some (g,args,_)=>some (g,args)
   | none=>none
 | .run fn F S k=>KN T P (.run fn F S k)
 | _=>none
def Jl (s:St):af:=
 match s with
 | .fE D _=>match D.os with
   | o::_=>match hidden (al D.eH o.after.toList) D.j9 with
     | some aQ=>⟨D.S.nx,D.S.nx,jf D.S.m aQ⟩
     | none=>af.empty
   | []=>af.empty
 | s=>jx s
def ae9 (v:AV)(s:St):St:=
 match s with
 | .fE D k=>LW v (Jl (.fE D k)) (.fE D k)
 | .run fn F S k=>N7 v (fun S=>S) (.run fn F S k)
 | _=>.bad 5
section
variable {T : FT} {P : Program} {Q : ic → af → Prop}
variable {s : St}
theorem Pz (E:bZ T P)(n:Nat)(g:Nat)(args a:List AV)(v:AV)(h:QL T P (ab T P n s)=some (g,args))(m:zh (Jl (ab T P n s)) args a)(u:br a=true)(y:tN v=true)(c:∀ S,dc P g a S fun r j=>r=.ret v∧j=S)(q:SX P Q (ae9 v (ab T P n s))):SX P Q s:=by
 refine⟨cj E.ok E.mix n ?_⟩
 have c:dc P g args (Jl (ab T P n s)) fun r j=>r=.ret v∧j=Jl (ab T P n s):=
   dc.abq (fun g G w hi A x hx=>(ym.vF m).sound hi A hx) u y ((c af.empty).mono fun r j e=>e.1)
 generalize ab T P n s=s at h c q
 have q:=q.out
 cases s with
 | run fn F S k=>exact w8 E.ok E.mix 0 g args S v _ h rfl ⟨fn,F,S,k,rfl⟩ c q
 | fE D k=>
   simp only[QL] at h
   cases b:KU T P (.fE D k) with
   | none=>rw[b] at h;simp at h
   | some p=>
     obtain⟨g', a,B⟩:=p
     rw[b] at h
     simp only[ar,iy] at h
     obtain⟨rfl,rfl⟩:=h
     have C:B=Jl (.fE D k):=by
      simp only[KU] at b
      simp only[Jl]
      cases d:D.os with
      | nil=>rw[d] at b;simp at b
      | cons o os=>
        rw[d] at b
        simp only at b
        split at b<;>try (simp at b;done)
        rename_i hh
        split at b<;>simp only[ar,iy,reduceCtorEq] at b
        simp only[hh]
        exact b.2.2.symm
     subst C
     exact M8 E.ok E.mix 0 g' a _ v _ b c q
 | _=>simp[QL] at h
end
end
end Go.Eng
namespace Go.Eng
noncomputable section
inductive F1 (r : Nat) (es : List AV) : AV → AV → Prop
 | refl {v : AV} : F1 r es v v
 | aj {len : Nat} (hl : len = es.length) : F1 r es (.aj r 0 len) (.lit es)
 | agg {cs cs' : List AV} (hl : cs'.length = cs.length) (h : ∀ (k : Nat) (a a' : AV), cs[k]? = some a → cs'[k]? = some a' → F1 r es a a') : F1 r es (.agg cs) (.agg cs')
inductive KV (r : Nat) (es : List AV) : List AV → List AV → Prop
 | nil : KV r es [] []
 | cons {e e' : AV} {l l' : List AV} (h : F1 r es e e') (t : KV r es l l') : KV r es (e :: l) (e' :: l')
 | same {l : List AV} : KV r es l l
variable {r : Nat} {es l l' : List AV}
theorem KV.spec (h:KV r es l l'):l'.length=l.length∧∀(i:Nat) (e a:AV),l[i]? = some e→l'[i]? = some a→F1 r es e a:=by
 induction h with
 | nil=>exact⟨rfl,fun i e a h=>by simp at h⟩
 | same=>exact⟨rfl,fun i e a h b=>by rw[h] at b;simp only[ar] at b;subst b;exact .refl⟩
 | cons h t f=>
   refine⟨by simp[f.1],fun i e a c d=>?_⟩
   cases i with
   | zero=>simp at c d;subst c;subst d;exact h
   | succ i=>exact f.2 i e a (by simpa using c) (by simpa using d)
theorem F1.Q5 (h:KV r es l l'):F1 r es (.agg l) (.agg l'):=.agg h.spec.1 h.spec.2
theorem F1.cells {r:Nat}{es:List AV}{e d:AV}(h:F1 r es e d):d.cells.length=e.cells.length∧∀(j:Nat) (a c:AV),e.cells[j]? = some a→d.cells[j]? = some c→F1 r es a c:=by
 cases h with
 | refl=>exact⟨rfl,fun j a c h b=>by rw[h] at b;simp only[ar] at b;subst b;exact .refl⟩
 | aj f=>
   refine⟨rfl,fun j a c h b=>?_⟩
   cases j with
   | zero=>simp[AV.cells] at h b;subst h;subst b;exact .aj f
   | succ j=>simp[AV.cells] at h
 | agg f h=>exact⟨f,h⟩
variable {sz : Nat}
theorem F1.sound {g w:Gh}{l:Loc}{c:Array Value}(d:Gh.le g w)(B:g.ph r=some l)(C:w.ro l.cd=some c)(f:l.sz=sz)(h4:l.base+es.length*sz≤c.size)(h5:∀ e,e∈es→e.cells.length=sz)(h6:∀(i j:Nat) (e a:AV) (y:Value),es[i]? = some e→e.cells[j]? = some a→c[l.base+i*sz+j]? = some y→VR g a y){v F:AV}(h:F1 r es v F):∀ {x:Value},VR g v x→VR w F x:=by
 induction h with
 | refl=>intro x b;exact b.mono d
 | aj t=>
   intro x b
   subst t
   generalize G:es.length=n at b
   cases b with
   | aj z q K=>
     rw[B] at z;simp only[ar] at z;subst z
     subst G
     refine .lit (sz:=sz) C h5 (by rw[f];omega) q fun i j e a x u A H=>?_
     exact(h6 i j e a x u A (by rw[←H,f];congr 1;omega)).mono d
   | ga=>
     obtain rfl:=List.length_eq_zero_iff.1 G
     exact .gG
 | agg t h I=>
   intro x b
   cases b with
   | agg D hh=>
     refine .agg (by rw[t];exact D) fun k a x u A=>?_
     rename_i cs J xs
     have E:k<cs.length:=by rw[←t];exact(List.getElem?_eq_some_iff.1 u).1
     have m:cs[k]? = some cs[k]:=oe E
     exact I k _ a m u (hh k _ x m A)
def Ay (r id:Nat)(o:ak)(s:St):St:=
 match s with
 | .run fn F S k=>.run fn F ((S.del r).set id o) k
 | s=>s
section
variable {T : FT} {P : Program} {Q : ic → af → Prop}
variable {s : St}
theorem Qr (E:bZ T P)(n:Nat)(r id:Nat){o2 j:ak}(D:(jx (ab T P n s)).get r=some (.arr sz es))(K:(jx (ab T P n s)).get id=some o2)(y:Nat.beq r id=false)(A:Nat.ble (jx (ab T P n s)).lim r=true)(C:Nat.ble (jx (ab T P n s)).lim id=true)(hf:∀(g i:Gh),Gh.le g i→(∀ v I:AV,F1 r es v I→∀ x:Value,VR g v x→VR i I x)→∀(l:Loc) (x:Option Obj),sH g l x o2→sH i l x j)(q:SX P Q (Ay r id j (ab T P n s))):SX P Q s:=by
 refine⟨cj E.ok E.mix n ?_⟩
 generalize ab T P n s=s at D K A C q
 have q:=q.out
 cases s with
 | run fn F S k=>
   have D:S.get r=some (.arr sz es):=D
   have aQ:S.get id=some o2:=K
   have A:S.lim≤r:=eL A
   have C:S.lim≤id:=eL C
   have y:r≠id:=by rintro rfl;rw[Nat.beq_refl] at y;simp at y
   refine aJ.reach (fun G qq=>Reach.vD qq rfl rfl rfl rfl fun g w fr cs W hi=>?_) q
   obtain⟨l,O,x2,x3⟩:=hi.ob r _ D
   obtain⟨c,t,p1,p2,p3,p4,p5,p6⟩:=x3
   obtain⟨i,d⟩:∃ i:Gh,i={ ro:=fun b=>if b=l.cd then some c else g.ro b,ph:=g.ph }:=⟨_,rfl⟩
   have z:Gh.le g i:=by
     refine⟨fun b c' e=>?_,fun _ _ e=>by rw[d];exact e⟩
     rw[d]
     simp only
     split
     · rename_i f;subst f;rw[x2] at e;simp at e
     · exact e
   have X:i.ro l.cd=some c:=by rw[d];simp
   have m:i.ph=g.ph:=by rw[d]
   have Y:∀ {v I:AV},F1 r es v I→∀ {x:Value},VR g v x→VR i I x:=fun h=>h.sound z O X p3 p4 p5 p6
   have get:∀ a o,((S.del r).set id j).get a=some o→(a=id∧o=j)∨(a≠id∧a≠r∧S.get a=some o):=by
     intro a o e
     by_cases u:a=id
     · subst u
       rw[af.bD (nM _)] at e
       simp only[ar] at e
       exact .inl ⟨rfl,e.symm⟩
     · rw[af.au (nM _) u] at e
       by_cases f:a=r
       · subst f;rw[af.fJ] at e;simp at e
       · rw[af.cn (nM _) f] at e;exact .inr ⟨u,f,e⟩
   have rM:∀ a o,((S.del r).set id j).get a=some o→a≠r∧∃ o', S.get a=some o' := by
     intro a o e
     rcases get a o e with⟨rfl,_⟩ | ⟨_,b,c⟩
     · exact⟨fun h=>y h.symm,_,aQ⟩
     · exact⟨b,o,c⟩
   have B:∀ a o l', S.get a=some o→a≠r→g.ph a=some l' → g.ro l'.cd=none→i.ro l'.cd=none:=by
     intro a o l' e u R L
     rw[d]
     simp only
     rw[if_neg (fun f=>u (hi.inj a r o _ l' l e D R O f))]
     exact L
   refine⟨fr,w,i,W.mono z,⟨fun b c' e=>?_,fun a o e=>?_,fun a b o o' la lb e M q q' f=>?_,fun a u=>by rw[m];exact hi.fresh a u⟩,⟨Nat.le_refl _,rfl,⟨rfl,Nat.le_refl _⟩,rfl,fun _ _ _=>rfl,fun a o l' e R L _=>?_,z,Nat.le_refl _,rfl,fun a u=>?_,fun _ _=>by rw[m],fun b c' e f=>?_,fun a u e=>?_,fun _ _=>rfl⟩,Steps.refl _ _⟩
   · rw[d] at e
     simp only at e
     split at e
     · rename_i f;simp only[ar] at e;subst e;subst f;exact⟨t,_,p1⟩
     · exact hi.ro b c' e
   · rcases get a o e with⟨rfl,rfl⟩ | ⟨u,f,M⟩
     · obtain⟨l', J,U,V⟩:=hi.ob a _ aQ
       exact⟨l', by rw[m];exact J,B a _ l' aQ (fun h=>y h.symm) J U,hf g i z (fun _ _ h _=>Y h) l' _ V⟩
     · obtain⟨l', J,U,V⟩:=hi.ob a o M
       exact⟨l', by rw[m];exact J,B a o l' M f J U,V.mono z⟩
   · obtain⟨_,N,H⟩:=rM a o e
     obtain⟨_,u2,q2⟩:=rM b o' M
     rw[m] at q q'
     exact hi.inj a b N u2 la lb H q2 q q' f
   · obtain⟨_,N,H⟩:=rM a o e
     rw[m] at L
     exact⟨a,N,l', H,R,L,rfl⟩
   · have u:a<S.lim:=u
     rw[af.au (nM _) (by omega),af.cn (nM _) (by omega)]
   · rw[d] at e
     simp only at e
     split at e
     · rename_i Z;exact .inr ⟨r,_,l,D,A,O,Z.symm⟩
     · exact .inl e
   · cases hq:((S.del r).set id j).get a with
     | none=>rfl
     | some o=>obtain⟨_,N,H⟩:=rM a o hq;rw[e] at H;simp at H
 | _=>exact q
theorem afa (E:bZ T P)(n:Nat)(r id:Nat){sz2:Nat}{a d:List AV}(D:(jx (ab T P n s)).get r=some (.arr sz es))(t:(jx (ab T P n s)).get id=some (.arr sz2 a))(u:Nat.beq r id=false)(v:Nat.ble (jx (ab T P n s)).lim r=true)(w:Nat.ble (jx (ab T P n s)).lim id=true)(e:KV r es a d)(q:SX P Q (Ay r id (.arr sz2 d) (ab T P n s))):SX P Q s:=by
 refine Qr E n r id D t u v w (fun g L K z l' x F=>?_) q
 obtain⟨c', G,h1,h2,h3,h4,h5,h6⟩:=F
 refine⟨c', G,h1,h2,h3,by rw[e.spec.1];exact h4,fun m H=>?_,fun i j m I y B C J=>?_⟩
 · obtain⟨i,f⟩:=List.getElem?_of_mem H
   have b:i<a.length:=by rw[←e.spec.1];exact(List.getElem?_eq_some_iff.1 f).1
   have c:a[i]? = some a[i]:=oe b
   rw[(e.spec.2 i _ m c f).cells.1]
   exact h5 _ (List.getElem_mem b)
 · have b:i<a.length:=by rw[←e.spec.1];exact(List.getElem?_eq_some_iff.1 B).1
   have c:a[i]? = some a[i]:=oe b
   have h:=(e.spec.2 i _ m c B).cells
   have A:j<a[i].cells.length:=by rw[←h.1];exact(List.getElem?_eq_some_iff.1 C).1
   have k:a[i].cells[j]? = some a[i].cells[j]:=oe A
   exact z _ _ (h.2 j _ I k C) y (h6 i j _ _ y c k J)
end
def CP (id:Nat)(o:ak)(s:St):St:=
 match s with
 | .run fn F S k=>.run fn F (S.set id o) k
 | s=>s
section
variable {T : FT} {P : Program} {Q : ic → af → Prop}
variable {s : St} {o o' : ak}
theorem Qs (E:bZ T P)(n:Nat)(id:Nat)(hi:(jx (ab T P n s)).get id=some o)(f:Nat.ble (jx (ab T P n s)).lim id=true)(v:∀ g l x,sH g l x o→sH g l x o')(q:SX P Q (CP id o' (ab T P n s))):SX P Q s:=by
 refine⟨cj E.ok E.mix n ?_⟩
 generalize ab T P n s=s at hi f q
 have q:=q.out
 cases s with
 | run fn F S k=>
   have i:S.get id=some o:=hi
   have f:S.lim≤id:=eL f
   refine aJ.reach (fun G A=>Reach.vD A rfl rfl rfl rfl fun g w fr cs B c=>⟨fr,w,g,B,?_,?_,Steps.refl _ _⟩) q
   · have back:∀ k o2,(S.set id o').get k=some o2→∃ o1,S.get k=some o1∧∀ g l x,sH g l x o1→sH g l x o2:=by
       intro k o2 e
       by_cases d:k=id
       · subst d
         rw[af.bD (nM _)] at e
         simp only[ar] at e;subst e
         exact⟨_,i,v⟩
       · rw[af.au (nM _) d] at e
         exact⟨o2,e,fun _ _ _ h=>h⟩
     refine⟨c.ro,fun k o2 e=>?_,fun a b o1 o2 l l' e C p D H=>?_,c.fresh⟩
     · obtain⟨o1,j,m⟩:=back k o2 e
       obtain⟨l,x,y,z⟩:=c.ob k o1 j
       exact⟨l,x,y,m _ _ _ z⟩
     · obtain⟨I,j,_⟩:=back a o1 e
       obtain⟨J,m,_⟩:=back b o2 C
       exact c.inj a b I J l l' j m p D H
   · refine⟨Nat.le_refl _,rfl,⟨rfl,Nat.le_refl _⟩,rfl,fun _ _ _=>rfl,fun k o2 l e t u _=>?_,Gh.le_refl _,Nat.le_refl _,rfl,fun k d=>af.au (nM _) (by omega),fun _ _=>rfl,fun _ _ e _=>.inl e,fun k d e=>?_,fun _ _=>rfl⟩
     · by_cases d:k=id
       · subst d;exact⟨k,_,l,i,t,u,rfl⟩
       · rw[af.au (nM _) d] at e;exact⟨k,o2,l,e,t,u,rfl⟩
     · have d:k≠id:=by rintro rfl;rw[i] at e;simp at e
       rw[af.au (nM _) d];exact e
 | _=>exact q
theorem N8 (E:bZ T P)(n:Nat)(id:Nat){es' : List AV}(hi:(jx (ab T P n s)).get id=some (.arr sz es))(a:Nat.ble (jx (ab T P n s)).lim id=true)(b:sA es=es')(q:SX P Q (CP id (.arr sz es') (ab T P n s))):SX P Q s:=
 Qs E n id hi a (fun g l x h=>by have:=FM (n:=0) h;simpa [b] using this) q
end
def atu (P:Program)(S:af)(t:TypeId)(n:Nat)(l:List (Nat×AV)):Option cY:=yl (nD P S t n l)
def mF (p:Option Code):ak→ak
 | .lp st _ f n m env c a b=>.lp st p f n m env c a b
 | o=>o
variable {o : ak} {p : Option Code}
theorem gK {σ:Nat→Nat}:(mF p o).ax σ=mF p (o.ax σ):=by cases o<;>rfl
variable {o' : ak}
theorem H2 {S:af}{d:List Nat}(h:rN S d o o'):rN S d (mF p o) (mF p o'):=by
 cases h with
 | arr a b c=>exact .arr a b c
 | mp a b=>exact .mp a b
 | df=>exact .df
 | lp h=>exact .lp h
end
end Go.Eng
namespace Go.Eng
noncomputable section
def px (P:Program)(fn:Func)(bs:List Nat)(Q:ic→af→Prop)(F:ad)(S:af):Prop:=
 F.mode=.returning∧F.defers=[.sI bs]∧∃ v,sR P fn F S=some v∧Q (.ret v) S
def se (F:ad)(ds:List gx):ad:={ F with defers:=ds }
theorem Db (F:ad)(ds:List gx)(t:Nat):(se F ds).get t=F.get t:=by cases F;rfl
variable {P : Program} {fn : Func} {F : ad} {S : af}
theorem Dc (ds:List gx):sR P fn (se F ds) S=sR P fn F S:=by
 have:∀ b,tY P (se F ds) S b=tY P F S b:=by
  intro b
  induction b with
  | nil=>rfl
  | cons r b d=>cases r<;>simp only[tY,Db,d]
 unfold sR
 rw[this]
variable {g : Gh}
theorem xf {fr:Frame}{ds:List gx}(h:mW P g F fr)(b:kB P g ds fr.defers):mW P g (se F ds) fr:=
 ⟨h.fn,h.size,fun t v e=>h.get t v (by rw[←Db F ds];exact e),h.todo,b,h.mode,h.kind,h.round⟩
theorem xg {b cs:List Frame}(ds:List gx)(h:uf g F b cs):uf g (se F ds) b cs:=by cases F;exact h
theorem kB.Hp {l:List gx}{m:List Deferred}(h:kB P g l m):kB P g (l++[.sI []]) m:=by
 induction h with
 | nil=>exact .sI (bs:=[]) .nil
 | cons d e f _ b=>exact .cons d e f b
 | mf i _ b=>exact .mf i b
 | sI _ b=>exact .sI b
theorem Reach.Hp {P:Program}{F:ad}{S:af}{G:ad→af→Prop}(h:Reach P (se F (F.defers++[.sI []])) S G):Reach P F S G:=by
 intro g w fr b cs i d hi
 obtain⟨F', j,g', w', e,f,q,k,m,n,o,p,r,t,u⟩:=h g w fr b cs (xf i i.defers.Hp) (xg _ d) hi
 exact⟨F', j,g', w', e,f,q,k,m,n,o,p,r,t,u⟩
variable {Q : ic → af → Prop}
theorem Reach.XK (h:Reach P F S (px P fn [] Q)):Reach P F S (Fin P fn fun r _ S=>Q r S):=by
 intro g w fr d cs j e hi
 obtain⟨F', k,g', w', b,f,⟨n,o,v,p,q⟩,i,u,x,y,z,A,B,C⟩:=h g w fr d cs j e hi
 have D:b.defers=[]:=by
  have:=i.defers
  rw[o] at this
  generalize E:b.defers=m at this
  cases this with | sI t=>cases t;rfl
 refine⟨se F' [],k,g', w', b,f,⟨rfl,.inl ⟨n,v,by rw[Dc];exact p,q⟩⟩,xf i (by rw[D];exact .nil),xg _ u,x,y,z,A,B,C⟩
variable {a : Nat} {bs : List Nat}
theorem Reach.drop (hq:uM a Q){d:Nat}(hd:F.defers=[.mf d,.sI bs])(Z:S.get d=some (.df true))(hl:S.lim=0)(h:∀ b,Reach P (se F [.sI (b::bs)]) (S.del d) (px P fn (b::bs) Q)):Reach P F S (px P fn bs Q):=by
 intro g w fr cs0 cs hf hcs hi
 obtain⟨l,a1,a2,a3⟩:=hi.ob d _ Z
 have b1:w.heap[l.cd]? = some (.deferred (some [])):=a3
 have O:=(Array.getElem?_eq_some_iff.1 b1).1
 have D:d<S.nx:=hi.jy Z
 have hds:kB P g [.sI (l.cd::bs)] fr.defers:=by
  have:=hf.defers
  rw[hd] at this
  generalize fr.defers=m at this
  cases this with
  | mf R t=>
    rw[a1] at R;simp only[ar] at R;subst R
    cases t with | sI t=>exact .sI (bs:=l.cd::bs) t
 have U:∀ id o l', (S.del d).get id=some o→g.ph id=some l' → l'.cd≠l.cd:=by
  intro id o l' e z p
  by_cases aQ:id=d
  · subst aQ;rw[af.fJ] at e;simp at e
  · rw[af.cn (nM _) aQ] at e
    exact aQ (hi.inj id d o _ l' l e Z z a1 p)
 obtain⟨F', B,g', w', V,cs', ⟨q1,q2,v,q3,q4⟩,p1,p2,p3,p4,p5,p6,i,p8⟩:=h l.cd g w fr cs0 cs (xf hf hds) (xg _ hcs) (hi.sub (af.DY (nM _)))
 have r:g'.ph d=some l:=by rw[i.rM d D];exact a1
 have hhp:w'.heap[l.cd]? = some (.deferred (some [])):=by
  rw[i.gQ l.cd O fun id o l' e _ z=>U id o l' e z];exact b1
 have hro:g'.ro l.cd=none:=by
  cases hr:g'.ro l.cd with
  | none=>rfl
  | some c=>
    rcases i.wC _ _ hr O with f | ⟨j,o0,K,L,_,M,N⟩
    · rw[a2] at f;simp at f
    · exact absurd N (U j o0 K L M)
 have W:B.get d=none:=i.dead d D af.fJ
 have E:∀ id o l', B.get id=some o→g'.ph id=some l' → l'.cd≠l.cd:=by
  intro id o l' e z p
  obtain⟨j,o0,K,L,_,M,N⟩:=i.own id o l' e (by show S.lim≤id;omega) z (by rw[p];exact O)
  exact U j o0 K L M (N.trans p)
 have X:B.lim=0:=i.lim.trans hl
 obtain⟨n,A⟩:∃ s,s=B.set d (.df true):=⟨_,rfl⟩
 have g1:n.get d=some (.df true):=by rw[A];exact af.bD (nM _)
 have C:∀ id,id≠d→n.get id=B.get id:=fun id aQ=>by rw[A];exact af.au (nM _) aQ
 have QM:n.nx=B.nx:=by rw[A];rfl
 have H:n.lim=0:=by rw[A];exact X
 have hi1:Inv n g' w' := by
  refine⟨p6.ro,fun id o e=>?_,fun id y o o' la lb e z q q' p=>?_,fun id aQ=>p6.fresh id (by rw[←QM];exact aQ)⟩
  · by_cases aQ:id=d
    · subst aQ;rw[g1] at e;simp only[ar] at e;subst e
      exact⟨l,r,hro,hhp⟩
    · rw[C id aQ] at e;exact p6.ob id o e
  · by_cases h1:id=d<;>by_cases h2:y=d
    · rw[h1,h2]
    · subst h1;rw[C y h2] at z
      rw[r] at q;simp only[ar] at q;subst q
      exact absurd p.symm (E y o' lb z q')
    · subst h2;rw[C id h1] at e
      rw[r] at q';simp only[ar] at q';subst q'
      exact absurd p (E id o la e q)
    · rw[C id h1] at e;rw[C y h2] at z
      exact p6.inj id y o o' la lb e z q q' p
 have back:∀ id o,(S.del d).get id=some o→S.get id=some o:=by
  intro id o e
  by_cases aQ:id=d
  · subst aQ;rw[af.fJ] at e;simp at e
  · rw[af.cn (nM _) aQ] at e;exact e
 have hx1:Ext S g w n g' w' := by
  refine⟨i.size,i.os,i.tape,i.output,fun b p hne' => i.gQ b p fun id o l' e e1 Y=>hne' id o l' (back id o e) (by omega) Y,fun id o l' e e1 Y e3=>?_,i.ng,by rw[QM];exact i.nx,by rw[H,hl],fun id aQ=>by omega,i.rM,fun b c e p=>?_,fun id aQ e=>?_,i.fz⟩
  · by_cases aQ:id=d
    · subst aQ
      rw[r] at Y;simp only[ar] at Y;subst Y
      exact⟨id,_,l,Z,e1,a1,rfl⟩
    · rw[C id aQ] at e
      obtain⟨j,o0,K,L,f2,M,N⟩:=i.own id o l' e (by show S.lim≤id;omega) Y e3
      exact⟨j,o0,K,back _ _ L,by omega,M,N⟩
  · rcases i.wC b c e p with f | ⟨j,o0,K,L,_,M,N⟩
    · exact .inl f
    · exact .inr ⟨j,o0,K,back _ _ L,by omega,M,N⟩
  · have I:id≠d:=by rintro rfl;rw[Z] at e;simp at e
    rw[C id I]
    exact i.dead id aQ (by rw[af.cn (nM _) I];exact e)
 have hdf1:kB P g' [.mf d,.sI bs] V.defers:=by
  have:=p1.defers
  rw[q2] at this
  generalize V.defers=m at this
  cases this with
  | sI t=>
    simp only[List.map_cons,List.cons_append]
    exact .mf r (.sI t)
 have J:y9 (fun x=>x) B (n.set d (.df false)):=by
  refine⟨fun id o e=>?_,fun id _=>by show(n.set d (.df false)).lim≤id;have:(n.set d (.df false)).lim=0:=H;omega,fun k=>by show B.nx+k=n.nx+k;rw[QM],fun id aQ=>by show id<n.nx;rw[QM];exact aQ⟩
  have aQ:id≠d:=by rintro rfl;rw[W] at e;simp at e
  rw[ak.cy,af.au (nM _) aQ,C id aQ];exact e
 have fin:px P fn bs Q (se F' [.sI bs]) (n.set d (.df false)):=by
  have r1:=x5 J q3
  rw[ad.cy,AV.cy] at r1
  have r2:=hq (fun x=>x) (fun _ _ e=>e) (fun _ _=>rfl) _ _ _ q4 J
  simp only[ic.ax,AV.cy] at r2
  exact⟨q1,rfl,v,by rw[Dc];exact r1,r2⟩
 have run:Reach P (se F' [.mf d,.sI bs]) n (px P fn bs Q):=
  Reach.mf (ds:=[.sI bs]) (by show F'.mode ≠ .run;rw[q1];simp) rfl g1 (by omega) (Reach.done fin)
 obtain⟨F2,S2,g2', w2,fr2,cs2,u,v1,v2,v3,v4,v5,v6,v7,v8⟩:=run g' w' V cs0 cs' (xf p1 hdf1) (xg _ p2) hi1
 exact⟨F2,S2,g2', w2,fr2,cs2,u,v1,v2,v3.trans p3,v4.trans p4,v5.trans p5,v6,hx1.trans v7,p8.trans v8⟩
def QN (a:Nat)(G:ad→af→Prop):Prop:=∀ σ:Nat→Nat,(∀ x y,σ x=σ y→x=y)→(∀ i,i<a→σ i=i)→∀ F S b,G F S→y9 σ S b→G (F.ax σ) b
theorem I4 (i:uM a Q):QN a (px P fn bs Q):=by
 rintro σ b d F S m ⟨e,f,v,j,k⟩ h
 refine⟨?_,?_,v.ax σ,x5 h j,i σ b d _ _ _ k h⟩
 · cases F;simp only at e;subst e;rfl
 · cases F;simp only at f;subst f;rfl
def tA : cI→Bool
 | .nil=>true
 | .hole _=>true
 | .call _ _ _ _ _ _ n=>tA n
 | .qT _ _ _ n=>tA n
 | .loop _ _ _ _ _ n=>tA n
 | .round _ _ _ _ _ _ _ n=>tA n
 | _=>false
def Ai : cI→Option (ad→af→Prop)
 | .hole G=>some G
 | .call _ _ _ _ _ _ n=>Ai n
 | .qT _ _ _ n=>Ai n
 | .loop _ _ _ _ _ n=>Ai n
 | .round _ _ _ _ _ _ _ n=>Ai n
 | _=>none
def pe : St→Bool
 | .run _ _ _ k=>tA k
 | _=>false
def va : St→Option (ad→af→Prop)
 | .run _ _ _ k=>Ai k
 | _=>none
def rk (σ:Nat→Nat):cI→Bool
 | .nil=>true
 | .hole _=>true
 | .call _ F _ _ _ td next=>jc σ F&&td.all (pB σ)&&rk σ next
 | .qT _ F ds next=>jc σ F&&ds.all (wV σ)&&rk σ next
 | .loop _ F d i td next=>jc σ F&&td.all (pB σ)&&Nat.beq (σ d) d&&Nat.beq (σ i) i&&rk σ next
 | .round _ F _ _ _ td id next=>jc σ F&&td.all (pB σ)&&Nat.beq (σ id) id&&rk σ next
 | _=>false
def vR (σ:Nat→Nat):St→Bool
 | .run _ F _ k=>jc σ F&&rk σ k
 | _=>false
variable {G : ad → af → Prop}
theorem Kj (j:QN a G):∀ {k:cI} {ls:List (List Nat)},tA k=true→Ai k=some G→tp (fun x=>x) k (G1 k ls):=by
 intro k
 induction k with
 | nil=>intro ls _ h;simp[Ai] at h
 | hole i=>
   intro ls _ h
   simp only[Ai,ar] at h
   subst h
   have:tp (fun x=>x) (.hole i) (.hole i):=.hole fun F S m q n=>j _ (fun _ _ e=>e) (fun _ _=>rfl) F S m q n
   cases ls<;>exact this
 | call fn F o all rest td next b=>
   intro ls h f
   cases ls with
   | nil=>exact .call (by rw[ad.cy];exact sy.refl F) (aC.cy td).symm (by have:=b (ls:=[]) h f;cases next<;>exact this)
   | cons l ls=>exact .call (by rw[ad.cy];exact gA F l) (aC.cy td).symm (b h f)
 | qT fn F ds next b=>
   intro ls h f
   cases ls with
   | nil=>exact .qT (by rw[ad.cy];exact sy.refl F) (gx.cy ds).symm (by have:=b (ls:=[]) h f;cases next<;>exact this)
   | cons l ls=>exact .qT (by rw[ad.cy];exact gA F l) (gx.cy ds).symm (b h f)
 | loop fn F d l td next b=>
   intro ls h f
   cases ls with
   | nil=>exact .loop (by rw[ad.cy];exact sy.refl F) (aC.cy td).symm rfl rfl (by have:=b (ls:=[]) h f;cases next<;>exact this)
   | cons l' ls=>exact .loop (by rw[ad.cy];exact gA F l') (aC.cy td).symm rfl rfl (b h f)
 | round fn F o all rest td id next b=>
   intro ls h f
   cases ls with
   | nil=>exact .round (by rw[ad.cy];exact sy.refl F) (aC.cy td).symm rfl (by have:=b (ls:=[]) h f;cases next<;>exact this)
   | cons l ls=>exact .round (by rw[ad.cy];exact gA F l) (aC.cy td).symm rfl (b h f)
 | fE D o os E r aQ p next b=>intro ls h;simp[tA] at h
theorem H3 (p:QN a G){σ:Nat→Nat}(j:∀ x y,σ x=σ y→x=y)(m:∀ i,i<a→σ i=i) :
   ∀ {k:cI} {ls:List (List (Nat×AV))},rk σ k=true→Ai k=some G→ls.length=ra k→tp σ (wI k (ls.map (hJ σ))) (wI k ls):=by
 intro k
 induction k with
 | nil=>intro ls _ h;simp[Ai] at h
 | hole n=>
   intro ls _ h _
   simp only[Ai,ar] at h
   subst h
   have:tp σ (.hole n) (.hole n):=.hole fun F S r q t=>p _ j m F S r q t
   cases ls<;>exact this
 | call fn F o all rest td next e=>
   intro ls h f b
   simp only[rk,Bool.and_eq_true] at h
   cases ls with
   | nil=>simp[ra] at b
   | cons l ls=>exact .call (by rw[gB (gC h.1.1)];exact sy.refl _) (lB h.1.2).symm (e h.2 f (by simpa [ra] using b))
 | qT fn F ds next e=>
   intro ls h f b
   simp only[rk,Bool.and_eq_true] at h
   cases ls with
   | nil=>simp[ra] at b
   | cons l ls=>exact .qT (by rw[gB (gC h.1.1)];exact sy.refl _) (vZ h.1.2).symm (e h.2 f (by simpa [ra] using b))
 | loop fn F d i td next e=>
   intro ls h f b
   simp only[rk,Bool.and_eq_true] at h
   cases ls with
   | nil=>simp[ra] at b
   | cons l ls=>exact .loop (by rw[gB (gC h.1.1.1.1)];exact sy.refl _) (lB h.1.1.1.2).symm (jK h.1.1.2).symm (jK h.1.2).symm (e h.2 f (by simpa [ra] using b))
 | round fn F o all rest td id next e=>
   intro ls h f b
   simp only[rk,Bool.and_eq_true] at h
   cases ls with
   | nil=>simp[ra] at b
   | cons l ls=>exact .round (by rw[gB (gC h.1.1.1)];exact sy.refl _) (lB h.1.1.2).symm (jK h.1.2).symm (e h.2 f (by simpa [ra] using b))
 | fE D o os E v aQ u next e=>intro ls h;simp[rk] at h
section
variable {T : FT} {P : Program} {Qf : ic → af → Prop}
variable {s : St}
theorem aJ.afb (i:QN a G)(j:uM a Qf){d:List (List Nat)}{ids:List Nat}(f:pe s=true)(m:va s=some G)(h:aJ P Qf (q9 d ids s)):aJ P Qf s:=by
 cases s with
 | run fn F S k=>
   cases d with
   | nil=>exact h.elim
   | cons l ls=>
     simp only[q9] at h
     refine aJ.ax (σ:=fun x=>x) (fun a b e=>e) (fun r S n q p=>j _ (fun a b e=>e) (fun _ _=>rfl) r S n q p) (Kj i f m) (by rw[ad.cy];exact gA F l) ?_ h
     exact⟨fun id o e=>by rw[ak.cy];exact FJ (wT (nx:=S.nx) e),fun id h=>h,fun k=>rfl,fun id aQ=>aQ⟩
 | _=>simp[pe] at f
variable {c : St} {ls ls2 : List (List (Nat × AV))} {l l2 : List (Nat × ak)}
theorem Kk (v:QN a G)(w:uM a Qf)(b:List (Nat×Nat))(N nx:Nat)(j:tZ b N nx [] []=true)(A:(b.all fun p=>Nat.ble a p.1)=true)(E:a≤N)(n:vR (kj b N nx) c=true)(m:va c=some G)(u:ls.length=tq c)(t:ls2=ls.map (hJ (kj b N nx)))(B:bj (oL nx l2) (sO (kj b N nx) l))(h:aJ P Qf (jg c ls (oL N l))):aJ P Qf (jg c ls2 (oL nx l2)):=by
 cases c with
 | run fn F S0 k=>
   cases ls with
   | nil=>simp[tq] at u
   | cons s ls=>
     subst t
     have f:∀ i,i<a→kj b N nx i=i:=by
       intro i hi
       have:∀ l:List (Nat×Nat),(l.all fun p=>Nat.ble a p.1)=true→kj l N nx i=i:=by
        intro l
        induction l with
        | nil => intro _;simp only[kj];split
                 · rename_i e;have:=eL e;omega
                 · rfl
        | cons p r C=>
          intro d
          simp only[List.all_cons,Bool.and_eq_true] at d
          simp only[kj]
          cases m:Nat.beq p.1 i with
          | true=>have:=jK m;have:=eL d.1;omega
          | false=>exact C d.2
       exact this b A
     simp only[vR,Bool.and_eq_true] at n
     refine aJ.ax (σ:=kj b N nx) (uS j) (fun r S D q t=>w _ (uS j) f r S D q t) (H3 v (uS j) f n.2 m (by simpa [tq] using u)) (by rw[gB (gC n.1)];exact sy.refl _) ?_ h
     obtain⟨h0,h1⟩:=C6 j
     refine⟨fun id o e=>?_,fun _ _=>Nat.zero_le _,fun k=>?_,fun id aQ=>?_⟩
     · refine AZ B (kj b N nx id) (o.ax (kj b N nx)) ?_
       exact List.mem_map.2 ⟨(id,o),wT e,rfl⟩
     · show kj b N nx (N+k)=nx+k
       rcases h1 (N+k) with⟨x,y⟩ | ⟨x,y⟩ | ⟨x,y,z⟩
       · omega
       · rw[y];omega
       · omega
     · have aQ:id<N:=aQ
       show kj b N nx id<nx
       rcases h1 id with⟨x,y⟩ | ⟨x,y⟩ | ⟨x,y,z⟩<;>omega
 | _=>simp[va] at m
end
section
variable {T : FT} {P : Program} {Q : ic → af → Prop}
variable {s : St}
theorem Mi (E:bZ T P)(b:QN a G)(d:uM a Q)(n:Nat)(e:List (List Nat))(ids:List Nat){s' : St}(f:pe (ab T P n s)=true)(i:va (ab T P n s)=some G)(h:q9 e ids (ab T P n s)=s')(q:SX P Q s'):SX P Q s:=
 ⟨cj E.ok E.mix n (aJ.afb b d f i (by rw[h];exact q.out))⟩
variable {c : St} {ls ls2 : List (List (Nat × AV))} {l l2 : List (Nat × ak)}
theorem PA (E:bZ T P)(f:QN a G)(i:uM a Q)(n:Nat)(j:List (List Nat))(ids:List Nat)(b:List (Nat×Nat))(N nx:Nat)(k:pe (ab T P n s)=true)(m:va (ab T P n s)=some G)(e:va c=some G)(h:q9 j ids (ab T P n s)=jg c ls2 (oL nx l2))(d:(tZ b N nx [] []&&b.all (fun p=>Nat.ble a p.1)&&Nat.ble a N)=true)(o:vR (kj b N nx) c=true)(q:Nat.beq ls.length (tq c)=true)(r:kR l2=true)(t:ls2=ls.map (hJ (kj b N nx)))(u:l2=sO (kj b N nx) l)(v:SX P Q (jg c ls (oL N l))):SX P Q s:=by
 simp only[Bool.and_eq_true] at d
 exact Mi E f i n j ids k m h ⟨Kk f i b N nx d.1.1 d.1.2 (eL d.2) o e (jK q) t (by rw[←u];exact x7 r) v.out⟩
def DS (P:Program)(Q:ic→af→Prop)(s:St):St:=
 match s with
 | .run fn F S .nil=>.run fn (se F (F.defers++[.sI []])) S (.hole (px P fn [] Q))
 | _=>.bad 74
theorem AH (E:bZ T P)(n:Nat)(q:SX P Q (DS P Q (ab T P n s))):SX P Q s:=by
 refine⟨cj E.ok E.mix n ?_⟩
 generalize ab T P n s=s at q
 have q:=q.out
 cases s with
 | run fn F S k=>
   cases k with
   | nil=>
     have q:Reach P (se F (F.defers++[.sI []])) S (px P fn [] Q):=q
     exact(Reach.Hp q).XK
   | _=>exact q.elim
 | _=>exact q.elim
def BH : St→Option (ad→af→Prop)
 | .run _ _ _ (.hole G)=>some G
 | _=>none
def Yk : St→Func
 | .run fn _ _ _=>fn
 | _=>default
def abR : St→List gx
 | .run _ F _ _=>F.defers
 | _=>[]
def II : St→Bool
 | .run _ F _ _=>match F.mode with
   | .returning=>true
   | _=>false
 | _=>false
def Q6 (P:Program):St→Option AV
 | .run fn F S _=>sR P fn F S
 | _=>none
def Qt (P:Program)(Q:ic→af→Prop)(d b:Nat)(bs:List Nat)(s:St):St:=
 match s with
 | .run fn F S _=>.run fn (se F [.sI (b::bs)]) (S.del d) (.hole (px P fn (b::bs) Q))
 | _=>.bad 74
theorem iV (E:bZ T P)(j:uM a Q)(n:Nat)(d:Nat)(e:BH (ab T P n s)=some (px P (Yk (ab T P n s)) bs Q))(f:abR (ab T P n s)=[.mf d,.sI bs])(h:(jx (ab T P n s)).get d=some (.df true))(i:Nat.beq (jx (ab T P n s)).lim 0=true)(q:∀ b,SX P Q (Qt P Q d b bs (ab T P n s))):SX P Q s:=by
 refine⟨cj E.ok E.mix n ?_⟩
 generalize ab T P n s=s at e f h i q
 cases s with
 | run fn F S k=>
   cases k with
   | hole G=>
     simp only[BH,Yk,ar] at e
     subst e
     show Reach P F S (px P fn bs Q)
     exact Reach.drop j f h (jK i) fun b=>(q b).out
   | _=>simp[BH] at e
 | _=>simp[BH] at e
theorem XL (E:bZ T P)(n:Nat){k:Nat}{v j:AV}{j2:List (Option ak)}{add:List ak}(b:List Nat)(f:BH (ab T P n s)=some (px P (Yk (ab T P n s)) bs (RG k j j2 add)))(m:abR (ab T P n s)=[.sI bs])(d:II (ab T P n s)=true)(h:Q6 P (ab T P n s)=some v)(r:G3 k add.length b=true)(t:ie (jx (ab T P n s)) b v j)(u:mY (jx (ab T P n s)) b 0 j2)(w:tO (jx (ab T P n s)) b (b.drop k) add):SX P Q s:=by
 refine⟨cj E.ok E.mix n ?_⟩
 generalize ab T P n s=s at f m d h t u w
 cases s with
 | run fn F S x=>
   cases x with
   | hole G=>
     simp only[BH,Yk,ar] at f
     subst f
     show Reach P F S (px P fn bs (RG k j j2 add))
     have d:F.mode=.returning:=by
       simp only[II] at d
       split at d
       · assumption
       · simp at d
     refine Reach.done ⟨d,m,v,h,?_⟩
     simp only[G3,Bool.and_eq_true,decide_eq_true_eq,List.all_eq_true,List.mem_range,beq_iff_eq] at r
     obtain⟨⟨k1,k2⟩,k3⟩:=r
     refine⟨_,b,rfl,k1,jK k2,k3,t,fun i o' e=>?_,fun i o' e=>?_⟩
     · have:=A3 u i o' e
       rwa [Nat.zero_add] at this
     · obtain⟨id,o,p,q⟩:=A4 w i o' e
       exact⟨id,o,by rwa [List.getElem?_drop] at p,q⟩
   | _=>simp[BH] at f
 | _=>simp[BH] at f
end
def LY (v:AV)(b:af)(s:St):St:=
 match s with
 | .fE D k=>match D.os with
   | o::os=>match hidden (al D.eH o.after.toList) D.j9 with
     | some aQ=>.fE (D.next o os (al D.eH o.after.toList) v b.nx (sC b D.S.nx (b.nx-D.S.nx)) (some ⟨D.S.nx,D.S.nx,jf D.S.m aQ⟩)) k
     | none=>.bad 5
   | []=>.bad 5
 | _=>.bad 5
section
variable {T : FT} {P : Program} {Qf : ic → af → Prop}
variable {s : St}
theorem Kl (z:cF T P)(t:P.follows .mixedOrders=true)(n:Nat)(g:Nat)(args:List AV)(E:af)(v:AV)(f:af)(h:KU T P (ab T P n s)=some (g,args,E))(B:dc P g args E fun r S=>r=.ret v∧S=f)(q:aJ P Qf (LY v f (ab T P n s))):aJ P Qf s:=by
 refine cj z t n ?_
 generalize ab T P n s=s at h q
 cases s with
 | fE D k=>
   simp only[KU,LY] at h q
   cases d:D.os with
   | nil=>rw[d] at h;simp at h
   | cons o os=>
     rw[d] at h q
     simp only at h q
     split at h<;>try (simp at h;done)
     rename_i c aQ i C hh
     split at h<;>simp only[ar,iy,reduceCtorEq] at h
     rename_i H
     obtain⟨rfl,rfl,rfl⟩:=h
     rw[hh] at q
     simp only at q
     obtain⟨N,I⟩:=mM z i H
     have w:=gL i
     refine fH.mono (fun Q q=>?_) q
     refine pz.step q d rfl (fun R S0 E0 O v0 U A J K=>?_)
     have j:nh P D.ops o D.F.get ⟨D.S.nx,D.S.nx,jf D.S.m aQ⟩ v f:=nh.call C w (I _) B
     obtain⟨_,x,y⟩:=A.aQ hh
     have u:∀ id ob,(⟨D.S.nx,D.S.nx,jf D.S.m aQ⟩:af).get id=some ob→id∉aQ∧D.S.get id=some ob:=by
      intro id ob e
      rw[y] at e
      split at e
      · simp at e
      · exact⟨by assumption,e⟩
     have L:=K _ _ _ j rfl fun id ob e=>(u id ob e).2
     have:=A.news J d (ids:=[]) (nw:=sC f D.S.nx (f.nx-D.S.nx)) (Eo:=some ⟨D.S.nx,D.S.nx,jf D.S.m aQ⟩) j L rfl (.inr rfl) (fun id ob e=>⟨(u id ob e).2,x id (u id ob e).1⟩) (fun id ob e M p=>absurd p (Nat.not_lt.2 M)) (fun id e _=>by simp at e) (fun id e _ p=>by simp at e)
      (fun id ob e=>by
       obtain⟨a,_,b,c⟩:=vV e
       exact⟨a,b,c⟩) (.inl rfl)
     exact this
 | _=>simp[KU] at h
end
def Q7 (v:AV)(r:af→af)(s:St):St:=
 match s with
 | .fE D k=>LY v (r (Jl (.fE D k))) (.fE D k)
 | .run fn F S k=>N7 v r (.run fn F S k)
 | _=>.bad 5
section
variable {T : FT} {P : Program} {Q : ic → af → Prop}
variable {s : St}
theorem Nh (E:bZ T P)(n:Nat)(g:Nat)(args:List AV)(v:AV)(r:af→af)(h:QL T P (ab T P n s)=some (g,args))(f:dc P g args (Jl (ab T P n s)) fun x i=>x=.ret v∧i=r (Jl (ab T P n s)))(q:SX P Q (Q7 v r (ab T P n s))):SX P Q s:=by
 refine⟨cj E.ok E.mix n ?_⟩
 generalize ab T P n s=s at h f q
 have q:=q.out
 cases s with
 | run fn F S k=>exact w8 E.ok E.mix 0 g args S v _ h rfl ⟨fn,F,S,k,rfl⟩ f q
 | fE D k=>
   simp only[QL] at h
   cases b:KU T P (.fE D k) with
   | none=>rw[b] at h;simp at h
   | some p=>
     obtain⟨g', d,j⟩:=p
     rw[b] at h
     simp only[ar,iy] at h
     obtain⟨rfl,rfl⟩:=h
     have m:j=Jl (.fE D k):=by
      simp only[KU] at b
      simp only[Jl]
      cases e:D.os with
      | nil=>rw[e] at b;simp at b
      | cons o os=>
        rw[e] at b
        simp only at b
        split at b<;>try (simp at b;done)
        rename_i hh
        split at b<;>simp only[ar,iy,reduceCtorEq] at b
        simp only[hh]
        exact b.2.2.symm
     subst m
     exact Kl E.ok E.mix 0 g' d _ v _ b f q
 | _=>simp[QL] at h
end
end
end Go.Eng
namespace Go.Eng
noncomputable section
def xW (fn:Func):cI→Func
 | .call b _ _ _ _ _ n=>xW b n
 | .qT b _ _ n=>xW b n
 | .loop b _ _ _ _ n=>xW b n
 | .round b _ _ _ _ _ _ n=>xW b n
 | _=>fn
def vj : St→Func
 | .run fn _ _ k=>xW fn k
 | _=>default
def aq4 (bs:List Nat):gx→gx
 | .sI _=>.sI bs
 | d=>d
def YL (bs:List Nat)(k:cI)(F:ad):ad:=match k with
 | .hole _=>se F (F.defers.map (aq4 bs))
 | _=>F
def YM (G:ad→af→Prop)(bs:List Nat):cI→cI
 | .hole _=>.hole G
 | .call fn F o all rest td n=>.call fn (YL bs n F) o all rest td (YM G bs n)
 | .qT fn F ds n=>.qT fn (YL bs n F) ds (YM G bs n)
 | .loop fn F d l td n=>.loop fn (YL bs n F) d l td (YM G bs n)
 | .round fn F o all rest td id n=>.round fn (YL bs n F) o all rest td id (YM G bs n)
 | k=>k
def NK (P:Program)(Q:ic→af→Prop)(bs:List Nat):St→St
 | .run fn F S k=>.run fn (YL bs k F) S (YM (px P (xW fn k) bs Q) bs k)
 | s=>s
section
variable {T : FT} {P : Program} {Q : ic → af → Prop}
variable {a : Nat} {s : St}
theorem XM (E:bZ T P)(b:uM a Q)(n:Nat)(d:List (List Nat))(ids:List Nat)(bs:List Nat){s' : St}(e:pe (ab T P n s)=true)(f:va (ab T P n s)=some (px P (vj (ab T P n s)) bs Q))(h:q9 d ids (ab T P n s)=s')(q:SX P Q s'):SX P Q s:=
 Mi E (I4 b) b n d ids e f h q
variable {c : St} {ls ls2 : List (List (Nat × AV))} {l l2 : List (Nat × ak)}
theorem D9 (E:bZ T P)(e:uM a Q)(n:Nat)(f:List (List Nat))(ids:List Nat)(b:List (Nat×Nat))(N nx:Nat)(bs:List Nat)(g:pe (ab T P n s)=true)(i:va (ab T P n s)=some (px P (vj (ab T P n s)) bs Q))(d:va c=some (px P (vj (ab T P n s)) bs Q))(h:q9 f ids (ab T P n s)=jg c ls2 (oL nx l2))(j:(tZ b N nx [] []&&b.all (fun p=>Nat.ble a p.1)&&Nat.ble a N)=true)(m:vR (kj b N nx) c=true)(o:Nat.beq ls.length (tq c)=true)(q:kR l2=true)(r:ls2=ls.map (hJ (kj b N nx)))(u:l2=sO (kj b N nx) l)(w:SX P Q (jg c ls (oL N l))):SX P Q s:=
 PA E (I4 e) e n f ids b N nx g i d h j m o q r u w
variable {k : Nat} {v v' : AV} {j2 : List (Option ak)} {add : List ak}
theorem PB (E:bZ T P)(n:Nat){bs:List Nat}(b:List Nat)(d:BH (ab T P n s)=some (px P (Yk (ab T P n s)) bs (RG k v' j2 add)))(e:abR (ab T P n s)=[.sI bs])(f:II (ab T P n s)=true)(h:Q6 P (ab T P n s)=some v)(g:G3 k add.length b=true)(i:ie (jx (ab T P n s)) b v v')(j:mY (jx (ab T P n s)) b 0 j2)(m:tO (jx (ab T P n s)) b (b.drop k) add):SX P (RG k v' j2 add) s:=
 XL E n b d e f h g i j m
end
def atq (k:IntKind)(a b:Int):Int:=k.wrap (((BitVec.ofInt k.bits a &&& BitVec.ofInt k.bits b).toNat:Nat):Int)
def atv (k:IntKind)(a b:Int):Int:=k.wrap (((BitVec.ofInt k.bits a ||| BitVec.ofInt k.bits b).toNat:Nat):Int)
def atr (k:IntKind)(a:Int)(b:Nat):Int:=a.fdiv (2 ^ (min b k.bits))
attribute [simp] fU
theorem Ni {α β:Type}(f:α→β):∀(l:List α) (n:Nat) (ys:List α),j5 (l.map f) n (ys.map f)=(j5 l n ys).map f:=by
 intro l
 induction l with
 | nil=>intro n ys;cases ys<;>rfl
 | cons a l b=>
   intro n ys
   cases ys with
   | nil=>rfl
   | cons y ys=>cases n with
     | zero=>simp[j5,b]
     | succ n=>
       have:=b n (y::ys)
       simp only[List.map_cons] at this
       simp only[List.map_cons,j5,this]
section
variable {P : Program} {α : Type} {enc : α → AV}
variable {S : af} {t el n id len : Nat} {es : List AV}
theorem abJ {k:IntKind}{b:Int}(d:P.underlying t=some (.slice el))(e:pT P el=some n)(f:S.get id=some (.arr n es))(h:0≤b∧b≤(len:Int)) :
  EN P S t (.aj id 0 len) none (some (.sc (.int k b)))=some (.val (.aj id 0 b.toNat) S):=by
 have g:b.toNat≤len:=by omega
 simp only[EN,kU,d,e,f,By,kM h.1,j3,Nat.beq_refl,show Nat.ble 0 b.toNat=true from tn (by omega),show Nat.ble b.toNat len=true from tn g]
 simp
theorem abK {k:IntKind}{a:Int}(b:P.underlying t=some (.slice el))(d:pT P el=some n)(e:S.get id=some (.arr n es))(h:0≤a∧a≤(len:Int)) :
  EN P S t (.aj id 0 len) (some (.sc (.int k a))) none=some (.val (.aj id a.toNat (len-a.toNat)) S):=by
 have f:a.toNat≤len:=by omega
 simp only[EN,kU,b,d,e,By,kM h.1,j3,Nat.beq_refl,show Nat.ble a.toNat len=true from tn f,show Nat.ble len len=true from tn (Nat.le_refl _)]
 simp
variable {sz : Nat}
theorem abL {m:Nat}{xs:List α}(b:S.get id=some (.arr sz (xs.map enc)))(d:m≤xs.length):gH S (.aj id 0 m)=some ((xs.take m).map enc):=by
 have e:Nat.ble m xs.length=true:=tn d
 simp[gH,pY,b,e,List.map_take]
def aqr (P:Program)(S:af)(ts:List TypeId)(d x:AV):Option cY:=gl P S .copy ts [d,x]
theorem aqk {st off:Nat}{ts:List TypeId}{e:AV}{xs ys:List α}(j:P.underlying st=some (.slice el))(m:pT P el=some sz)(d:∀ x,(enc x).cells.length=sz)(b:∀ x,(enc x).cells.all dj=true)(f:S.get id=some (.arr sz (xs.map enc)))(g:gH S e=some (ys.map enc))(o:Nat.ble S.lim id=true)(h:off+len≤xs.length) :
  aqr P S (st::ts) (.aj id off len) e=some (.val (.sc (.int .i64 ((min ys.length len:Nat):Int))) (S.set id (.arr sz ((j5 xs off (ys.take (min ys.length len))).map enc)))):=by
 have i:=lI (enc:=enc) d b ys
 have p:Nat.ble (off+len) (xs.map enc).length=true:=tn (by simpa using h)
 simp only[aqr,gl,DF,j,f,g,m,Nat.beq_refl,o,p,i,Bool.and_self]
 simp[←List.map_take,Ni]
end
variable {v' : AV} {j2 : List (Option ak)} {add : List ak} {S : af} {args : List AV} {olds : List ak}
theorem dc.afc {P:Program}{f:FuncId}{S0:af}(h:dc P f args S0 (RG olds.length v' j2 add))(h0:∀ i:Nat,S0.get i=olds[i]?)(h1:S0.nx=olds.length)(h2:S0.lim=olds.length){ids:List Nat}(hlim:S.lim≤S.nx)(hi:ids.length=olds.length)(hn:ids.Nodup)(hS:∀(i a:Nat) (o:ak),ids[i]? = some a→olds[i]? = some o→S.get a=some (o.ax (sJ ids S.nx))) :
   dc P f (dW (sJ ids S.nx) args) S fun r L=>r=.ret (v'.ax (sJ ids S.nx))∧L=vG S (add.map (ak.ax (sJ ids S.nx))):=by
 intro g2 w xs hx m
 obtain⟨σ,hσ⟩:∃ σ,σ=sJ ids S.nx:=⟨_,rfl⟩
 rw[←hσ] at hx hS
 rw[←hσ]
 obtain⟨k,hk⟩:∃ k,k=olds.length:=⟨_,rfl⟩
 rw[←hk] at h h1 h2 hi
 obtain⟨g,hg⟩:∃ g:Gh,g={ ro:=g2.ro,ph:=fun id=>g2.ph (σ id) }:=⟨_,rfl⟩
 have B:jh σ g g2:=by rw[hg];exact⟨rfl,fun _=>rfl⟩
 have K:∀(i a:Nat),ids[i]? = some a→σ i=a:=by intro i a e;rw[hσ];simp[sJ,e]
 have N:∀ i:Nat,k≤i→σ i=S.nx+(i-k):=by
   intro i e
   have:ids[i]? = none:=List.getElem?_eq_none (by rw[hi];exact e)
   rw[hσ];simp only[sJ,this,hi]
 have hidx:∀(i:Nat) (o:ak),olds[i]? = some o→∃ a,ids[i]? = some a:=by
   intro i o e
   have:i<ids.length:=by rw[hi,hk];exact(List.getElem?_eq_some_iff.1 e).1
   exact⟨_,oe this⟩
 have hinj:∀(i j a:Nat),ids[i]? = some a→ids[j]? = some a→i=j:=by
   intro i j a e X
   have C:=(List.getElem?_eq_some_iff.1 e).1
   exact(List.getElem?_inj C hn).1 (e.trans X.symm)
 have idlt:∀(i a:Nat),ids[i]? = some a→a<S.nx:=by
   intro i a e
   have J:i<olds.length:=by rw[←hk,←hi];exact(List.getElem?_eq_some_iff.1 e).1
   exact m.jy (hS i a _ e (oe J))
 have hinv0:Inv S0 g w:=by
   refine⟨fun b c e=>m.ro b c (by rw[←B.ro];exact e),fun id o e=>?_,fun id F o o' l l' e X p p' q=>?_,fun id aQ=>?_⟩
   · rw[h0] at e
     obtain⟨a,R⟩:=hidx id o e
     obtain⟨l,x,y,z⟩:=m.ob a _ (hS id a o R e)
     exact⟨l,by rw[B.ph,K id a R];exact x,by rw[B.ro];exact y,z.gS B⟩
   · rw[h0] at e X
     obtain⟨a,R⟩:=hidx id o e
     obtain⟨a', ha'⟩:=hidx F o' X
     have:=m.inj a a' _ _ l l' (hS id a o R e) (hS F a' o' ha' X) (by rw[←K id a R,←B.ph];exact p) (by rw[←K F a' ha', ←B.ph];exact p') q
     subst this
     exact hinj id F a R ha'
   · rw[h1] at aQ
     rw[B.ph]
     exact m.fresh _ (by rw[N id aQ];omega)
 have O:∀ id o,S0.get id=some o→S0.lim≤id→False:=by
   intro id o e hl
   have:=hinv0.jy e
   omega
 refine(h g w xs (hx.gS B) hinv0).mono fun e w' ⟨r,L,g', ⟨v,I,hr,hnd,hlen,hkl,hf,hupd,hadd⟩,hres,C,D⟩=>?_
 subst hr
 have hsub:af.sub (ub L I) L:=⟨(zZ L I).1.symm,(zZ L I).2,fun id o e=>by rw[pE] at e;split at e<;>first | simp at e | exact e⟩
 have hik:Inv (ub L I) g' w' := C.sub hsub
 have hfz:=Gh.ir hik
 have G:∀ b c,(g'.freeze (ub L I) w').ro b=some c→g'.ro b=some c∨(∃ t fz,w'.heap[b]? = some (.cells c t fz))∧∃ id o l,(ub L I).get id=some o∧g'.ph id=some l∧l.cd=b:=by
   intro b c e
   simp only[Gh.freeze] at e
   split at e
   · rename_i c' hc;simp only[ar] at e;subst e;exact .inl hc
   · split at e
     · rename_i c' t fz hh
       split at e<;>simp only[ar,reduceCtorEq] at e
       rename_i hex
       subst e;exact .inr ⟨⟨t,fz,hh⟩,hex⟩
     · simp at e
 obtain⟨gf,hgf⟩:∃ gf,gf=g'.freeze (ub L I) w' := ⟨_,rfl⟩
 rw[←hgf] at hfz G
 obtain⟨gk,hgk⟩:∃ gk:Gh,gk={ ro:=gf.ro,ph:=fun j=>match I[j]? with | some id=>g'.ph id | none=>none }:=⟨_,rfl⟩
 obtain⟨gn,E⟩:∃ gn:Gh,gn={ ro:=gf.ro,ph:=fun a=>if a<S.nx then g2.ph a else match I[k+(a-S.nx)]? with | some id=>g'.ph id | none=>none }:=⟨_,rfl⟩
 have hkro:gk.ro=gf.ro:=by rw[hgk]
 have V:∀ j id,I[j]? = some id→gk.ph j=g'.ph id:=by intro j id e;rw[hgk];simp only[e]
 have hren:jh σ gk gn:=by
   refine⟨by rw[hgk,E],fun j=>?_⟩
   by_cases Z:j<k
   · have hja:ids[j]? = some ids[j]:=oe (by rw[hi];omega)
     rw[V j j (hkl j Z),K j _ hja,D.rM j (by rw[h1];exact Z),B.ph,K j _ hja,E]
     simp only[idlt j _ hja,if_true]
   · rw[N j (by omega),E,hgk]
     simp only[show ¬ (S.nx+(j-k)<S.nx) from by omega,if_false,show k+(S.nx+(j-k)-S.nx)=j from by omega]
 have d:∀ a,a<S.nx→gn.ph a=g2.ph a:=by intro a e;rw[E];simp only[e,if_true]
 have hgle:Gh.le g2 gn:=by
   refine⟨fun b c e=>by rw[E];exact hfz.1.ro b c (D.ng.ro b c (by rw[B.ro];exact e)),fun a l e=>?_⟩
   rcases Nat.lt_or_ge a S.nx with q | q
   · rw[d a q];exact e
   · rw[m.fresh a q] at e;simp at e
 obtain⟨S2,hS2⟩:∃ S2,S2=vG S (add.map (ak.ax σ)):=⟨_,rfl⟩
 rw[←hS2]
 have hnx2:S2.nx=S.nx+add.length:=by rw[hS2,(Aa _ _).1];simp
 have hlim2:S2.lim=S.lim:=by rw[hS2,(Aa _ _).2]
 have H:∀ a,a<S.nx→S2.get a=S.get a:=by
   intro a R
   rw[hS2,xe,if_neg (by omega)]
 have W:∀ a o,S2.get a=some o→(∃(j id:Nat) (o0 o' : ak),k≤j∧σ j=a∧I[j]? = some id∧L.get id=some o0∧rN L I o0 o' ∧ o=o'.ax σ)∨(a<S.nx∧S.get a=some o):=by
   intro a o e
   rcases Nat.lt_or_ge a S.nx with q | q
   · exact .inr ⟨q,by rw[←H a q];exact e⟩
   · rw[hS2,xe] at e
     split at e
     · rw[List.getElem?_map] at e
       cases U:add[a-S.nx]? with
       | none=>rw[U] at e;simp at e
       | some o' =>
         rw[U] at e;simp at e
         obtain⟨id,o0,q0,A,M⟩:=hadd _ o' U
         exact .inl ⟨k+(a-S.nx),id,o0,o', by omega,by rw[N _ (by omega)];omega,q0,A,M,e.symm⟩
     · exact absurd (m.jy e) (by omega)
 have kpge:∀(j id:Nat),k≤j→I[j]? = some id→k≤id:=by
   intro j id Z e
   rcases Nat.lt_or_ge id k with q | q
   · have hj' := (List.getElem?_eq_some_iff.1 e).1
     have:=(List.getElem?_inj hj' hnd).1 (e.trans (hkl id q).symm)
     omega
   · exact q
 have Y:∀(j id:Nat),I[j]? = some id→gn.ph (σ j)=g'.ph id:=by intro j id e;rw[←hren.ph,V j id e]
 have newB:∀(id:Nat) (o:ak) (l:Loc),k≤id→L.get id=some o→g'.ph id=some l→l.cd<w.heap.size→False:=by
   intro id o l aQ e e1 e2
   obtain⟨id0,o0,l0,f1,f2,_,_⟩:=D.own id o l e (by rw[h2];exact aQ) e1 e2
   exact O id0 o0 f1 f2
 have keepB:∀ b,b<w.heap.size→w'.heap[b]? = w.heap[b]? := fun b U=>D.gQ b U fun id o l f1 f2 _=>(O id o f1 f2).elim
 have ronB:∀ b c,gf.ro b=some c→b<w.heap.size→g2.ro b=some c:=by
   intro b c e U
   rcases G b c e with q | ⟨_,id,o,l,A,M,q3⟩
   · rcases D.wC b c q U with f | ⟨id0,o0,l0,f1,f2,_,_⟩
     · rw[←B.ro];exact f
     · exact(O id0 o0 f1 f2).elim
   · rw[pE] at A
     split at A
     · simp at A
     · rename_i hge
       refine(newB id o l ?_ A M (by rw[q3];exact U)).elim
       rcases Nat.lt_or_ge id k with q | q
       · exact absurd (tl (hkl id q)) hge
       · exact q
 have noroK:∀(j id:Nat) (o0:ak) (l:Loc),I[j]? = some id→L.get id=some o0→g'.ph id=some l→gf.ro l.cd=none:=by
   intro j id o0 l e e1 e2
   cases hr:gf.ro l.cd with
   | none=>rfl
   | some c=>
     exfalso
     obtain⟨l1,x,y,_⟩:=C.ob id o0 e1
     rw[e2] at x;simp only[ar] at x;subst x
     rcases G _ _ hr with q | ⟨_,id2,o2,l2,A,M,q3⟩
     · rw[y] at q;simp at q
     · rw[pE] at A
       split at A
       · simp at A
       · rename_i hge
         have:=C.inj id2 id o2 o0 l2 l A e1 M e2 q3
         subst this
         exact hge (tl e)
 refine⟨.ret (v'.ax σ),S2,gn,⟨rfl,rfl⟩,?_,⟨fun b c e=>?_,fun a o e=>?_,fun a a' o o' l l' e X p p' q=>?_,fun a R=>?_⟩,⟨D.size,D.os,D.tape,D.output,fun b U _=>keepB b U,fun a o l e1 e2 e3 e4=>?_,hgle,by rw[hnx2];omega,hlim2,fun a R=>H a (by omega),fun a R=>d a R,fun b c e U=>.inl (ronB b c (by rw[E] at e;exact e) U),fun a R e=>(H a R).trans e,D.fz⟩⟩
 · cases e with
   | returned x=>exact(ie.sound C hfz hkro V hf hres).ax hren
   | panicked c=>exact hres.elim
   | outgrown=>exact hres.elim
 · rw[E] at e
   rcases G b c e with q | ⟨q,_⟩
   · exact C.ro b c q
   · exact q
 · rcases W a o e with⟨j,id,o0,o', _,rfl,A,M,q3,rfl⟩ | ⟨J,X⟩
   · obtain⟨l,x,y,z⟩:=C.ob id o0 M
     refine⟨l,by rw[Y j id A];exact x,?_,(q3.sound C hfz hkro V z).ax hren⟩
     have:=noroK j id o0 l A M x
     rw[E];exact this
   · obtain⟨l,x,y,z⟩:=m.ob a o X
     refine⟨l,by rw[d a J];exact x,?_,by rw[keepB _ z.lt];exact z.mono hgle⟩
     cases hr:gn.ro l.cd with
     | none=>rfl
     | some c=>
       have:=ronB l.cd c (by rw[E] at hr;exact hr) z.lt
       rw[y] at this;simp at this
 · have mix:∀(j id:Nat) (o0:ak) (a:Nat) (o' : ak) (l l' : Loc),k≤j→I[j]? = some id→L.get id=some o0→g'.ph id=some l→S.get a=some o' → g2.ph a=some l' → l.cd=l'.cd→False:=by
     intro j id o0 a o' l l' Z A M q3 X hl' U
     obtain⟨l1,x,y,z⟩:=m.ob a o' X
     rw[hl'] at x;simp only[ar] at x;subst x
     exact newB id o0 l (kpge j id Z A) M q3 (by rw[U];exact z.lt)
   rcases W a o e with⟨j,id,o0,u,Z,rfl,A,M,q3,rfl⟩ | ⟨J,e1⟩<;>rcases W a' o' X with⟨j', F,o0', u', hj', rfl,r1,r2,r3,rfl⟩ | ⟨hlt', e1'⟩
   · rw[Y j id A] at p
     rw[Y j' F r1] at p'
     have:=C.inj id F o0 o0' l l' M r2 p p' q
     subst this
     have Z:=(List.getElem?_eq_some_iff.1 A).1
     rw[(List.getElem?_inj Z hnd).1 (A.trans r1.symm)]
   · exact(mix j id o0 a' o' l l' Z A M (by rw[←Y j id A];exact p) e1' (by rw[←d a' hlt'];exact p') q).elim
   · exact(mix j' F o0' a o l' l hj' r1 r2 (by rw[←Y j' F r1];exact p') e1 (by rw[←d a J];exact p) q.symm).elim
   · exact m.inj a a' o o' l l' e1 e1' (by rw[←d a J];exact p) (by rw[←d a' hlt'];exact p') q
 · rw[hnx2] at R
   have:I[k+(a-S.nx)]? = none:=List.getElem?_eq_none (by rw[hlen];omega)
   rw[E]
   simp only[show ¬ (a<S.nx) from by omega,if_false,this]
 · rcases W a o e1 with⟨j,id,o0,o', Z,rfl,A,M,q3,rfl⟩ | ⟨J,X⟩
   · rw[Y j id A] at e3
     exact(newB id o0 l (kpge j id Z A) M e3 e4).elim
   · exact⟨a,o,l,X,e2,by rw[←d a J];exact e3,rfl⟩
def CQ (S:af):List Nat→List ak→Prop
 | a::r,o::l=>S.get a=some o∧CQ S r l
 | [],[]=>True
 | _,_=>False
theorem YE (S:af):CQ S [] []:=trivial
variable {a : Nat}
theorem Yc {o:ak}{r:List Nat}{l:List ak}(h:S.get a=some o)(t:CQ S r l):CQ S (a::r) (o::l):=⟨h,t⟩
theorem H4 : ∀ {ids:List Nat} {l:List ak},CQ S ids l→ids.length=l.length∧∀(i a:Nat) (o:ak),ids[i]? = some a→l[i]? = some o→S.get a=some o:=by
 intro ids
 induction ids with
 | nil=>
   intro l h
   cases l with
   | nil=>exact⟨rfl,fun i a o e=>by simp at e⟩
   | cons x l=>exact h.elim
 | cons b r f=>
   intro l h
   cases l with
   | nil=>exact h.elim
   | cons x l=>
     obtain⟨p,q⟩:=f h.2
     refine⟨by simp[p],fun i a o e d=>?_⟩
     cases i with
     | zero=>simp at e d;subst e;subst d;exact h.1
     | succ i=>exact q i a o (by simpa using e) (by simpa using d)
section
variable {T : FT} {P : Program} {Q : ic → af → Prop}
variable {k : Nat} {v : AV}
theorem acw (E:bZ T P){f:Nat}{d:List AV}{g:List ak}{j:List ak}(h:SX P (RG k v j2 add) (St.start T f args (NT k k (lV 0 olds))))(p:olds.length=k)(S:af)(ids:List Nat)(m:Nat.ble S.lim S.nx=true)(q:ids.Nodup)(u:CQ S ids g)(w:olds.map (ak.ax (sJ ids S.nx))=g)(y:dW (sJ ids S.nx) args=d)(z:v.ax (sJ ids S.nx)=v')(A:add.map (ak.ax (sJ ids S.nx))=j) :
  dc P f d S fun r B=>r=.ret v' ∧ B=vG S j:=by
 subst w;subst y;subst z;subst A;subst p
 obtain⟨a,b⟩:=H4 u
 exact dc.afc (u0 E.ok h.out) (fun i=>D7 olds i) rfl rfl (eL m) (by simpa using a) q fun i x o e C=>b i x _ e (by rw[List.getElem?_map,C];rfl)
variable {l : List (Nat × ak)}
theorem H5 {p nx:Nat}(h:kR l=true):bj (NT p nx l) l:=by
 have:∀ r:List (Nat×ak),(∀ id o,(id,o)∈r→(id,o)∈l)→bj (NT p nx l) r:=by
  intro r
  induction r with
  | nil=>intro _;trivial
  | cons p r d=>
    obtain⟨i,x⟩:=p
    intro b
    exact⟨D5 l .nil h i x (b i x (List.mem_cons_self ..)),d fun id o e=>b id o (ug _ e)⟩
 exact this l fun _ _ e=>e
variable {s c : St} {ls ls2 : List (List (Nat × AV))} {l2 : List (Nat × ak)}
theorem acx (E:bZ T P)(e:uM a Q)(n:Nat)(f:List (List Nat))(ids:List Nat)(b:List (Nat×Nat))(N nx p:Nat)(g:mL (ab T P n s)=true)(h:q9 f ids (ab T P n s)=jg c ls2 (NT p nx l2))(d:(tZ b N nx [] []&&b.all (fun p=>Nat.ble a p.1)&&Nat.ble a N&&Nat.ble p a)=true)(i:wK (kj b N nx) c=true)(j:Nat.beq ls.length (tq c)=true)(m:kR l2=true)(o:ls2=ls.map (hJ (kj b N nx)))(q:l2=sO (kj b N nx) l)(r:SX P Q (jg c ls (NT p N l))):SX P Q s:=by
 simp only[Bool.and_eq_true] at d
 exact⟨DN E.ok E.mix e n f ids g h (C7 (eL d.2) e b N nx d.1.1.1 d.1.1.2 (eL d.1.2) (AG i) (jK j) o (by rw[←q];exact H5 m) r.out)⟩
end
def Qu (P:Program)(D:sw)(o:Oper):Option cY:=
 match rP D.F D.ops o,bT o.op,hU o.op with
 | some true,false,none=>ze P D.F.eval ⟨D.S.nx,D.S.nx,seen D.S (al D.eH o.after.toList) D.j9 (hZ D.F (iA o.op)) .nil⟩ o.op
 | _,_,_=>none
def Jw (P:Program)(s:St):Option cY:=
 match s with
 | .run fn F S k=>NI P (.run fn F S k)
 | .fE D _=>match D.os with
   | o::_=>Qu P D o
   | []=>none
 | _=>none
def vH (s:St):af:=
 match s with
 | .run _ _ S _=>S
 | .fE D _=>match D.os with
   | o::_=>⟨D.S.nx,D.S.nx,seen D.S (al D.eH o.after.toList) D.j9 (hZ D.F (iA o.op)) .nil⟩
   | []=>af.empty
 | _=>af.empty
def Qv (r:cY)(s:St):St:=
 match s with
 | .run fn F S k=>Lb r (.run fn F S k)
 | .fE D k=>match D.os with
   | o::os=>Am 5 (ui D o os (al D.eH o.after.toList) k ⟨D.S.nx,D.S.nx,seen D.S (al D.eH o.after.toList) D.j9 (hZ D.F (iA o.op)) .nil⟩ []
    (some ⟨D.S.nx,D.S.nx,seen D.S (al D.eH o.after.toList) D.j9 (hZ D.F (iA o.op)) .nil⟩) (some r))
   | []=>.bad 5
 | _=>.bad 5
def sS (r:af→cY)(s:St):St:=Qv (r (vH s)) s
section
variable {T : FT} {P : Program} {Q : ic → af → Prop}
variable {s : St}
theorem qE (E:bZ T P)(n:Nat)(o:af→Option cY)(r:af→cY)(h:Jw P (ab T P n s)=o (vH (ab T P n s)))(j:nk (r (vH (ab T P n s))) (ab T P n s)=true)(f:o (vH (ab T P n s))=some (r (vH (ab T P n s))))(q:SX P Q (sS r (ab T P n s))):SX P Q s:=by
 refine⟨cj E.ok E.mix n ?_⟩
 generalize ab T P n s=s at h j f q
 have q:=q.out
 cases s with
 | run fn F S k=>exact I2 E.ok E.mix 0 o r h j f q
 | fE D k=>
   simp only[Jw,sS,Qv] at h q
   cases b:D.os with
   | nil=>
     rw[b] at h
     have h:=h.trans f
     simp at h
   | cons op os=>
     rw[b] at h q
     simp only at h q
     have h:=h.trans f
     unfold Qu at h
     split at h<;>try (simp at h;done)
     rename_i p i w
     rw[mE] at h
     have d:∀ {nx lim id ob},(⟨nx,lim,seen D.S (al D.eH op.after.toList) D.j9 (hZ D.F (iA op.op)) .nil⟩:af).get id=some ob→id∈hZ D.F (iA op.op)∧D.S.get id=some ob∧iU (al D.eH op.after.toList) D.j9 id=true:=by
       intro nx lim id ob e
       have hi:=af.dY e
       rw[af.bY hi] at e
       rcases w7 hi e with q | q
       · rw[PT.get_nil] at q;simp at q
       · exact q
     generalize x:r (vH (.fE D k))=rr at *
     generalize y:seen D.S (al D.eH op.after.toList) D.j9 (hZ D.F (iA op.op)) .nil=m at *
     cases h2:ui D op os (al D.eH op.after.toList) k ⟨D.S.nx,D.S.nx,m⟩ [] (some ⟨D.S.nx,D.S.nx,m⟩) (some rr) with
     | none=>rw[h2] at q;exact q.elim
     | some s=>
       rw[h2] at q
       exact uy (E:=⟨D.S.nx,D.S.nx,m⟩) b p i (by rw[h];exact h2) rfl (.inr rfl) (fun id ob e=>(d e).2) (fun id ob e u g=>absurd g (Nat.not_lt.2 u)) (fun id e=>by simp at e) (fun id e g=>by simp at e) (.inl rfl) (by simpa only[Am] using q)
 | _=>
   simp only[Jw] at h
   have h:=h.trans f
   simp at h
end
def XN (m:Nat):St→St
 | .run fn F S k=>.run fn F ⟨m,S.lim,S.m⟩ k
 | s=>s
section
variable {T : FT} {P : Program} {Q : ic → af → Prop}
variable {s : St}
theorem aql (E:bZ T P)(n m:Nat)(d:Nat.ble (jx (ab T P n s)).nx m=true)(q:SX P Q (XN m (ab T P n s))):SX P Q s:=by
 refine⟨cj E.ok E.mix n ?_⟩
 generalize ab T P n s=s at d q
 have q:=q.out
 cases s with
 | run fn F S k=>
   have d:S.nx≤m:=eL d
   have x:∀ id,(⟨m,S.lim,S.m⟩:af).get id=S.get id:=fun _=>rfl
   refine aJ.reach (fun G f=>Reach.vD f rfl rfl rfl rfl fun g w fr cs i hi=>⟨fr,w,g,i,?_,?_,Steps.refl _ _⟩) q
   · exact⟨hi.ro,fun id o e=>hi.ob id o e,fun a b o1 o2 l l' e j p r u=>hi.inj a b o1 o2 l l' e j p r u,fun id h=>hi.fresh id (Nat.le_trans d h)⟩
   · exact⟨Nat.le_refl _,rfl,⟨rfl,Nat.le_refl _⟩,rfl,fun _ _ _=>rfl,fun id o l h h1 h2 _=>⟨id,o,l,h,h1,h2,rfl⟩,Gh.le_refl _,d,rfl,fun _ _=>rfl,fun _ _=>rfl,fun _ _ e _=>.inl e,fun _ _ e=>e,fun _ _=>rfl⟩
 | _=>exact q
end
end
end Go.Eng
namespace Go.Eng
noncomputable section
def acG (P:Program)(S:af)(t:TypeId)(x:AV):Option cY:=yl (uP P S t x)
variable {P : Program} {S : af} {t nx : Nat}
theorem XO {s:ByteArray}(b:P.underlying t=some .string)(d:S.nx=nx)(e:(Nat.ble (nx+1) 8192&&Nat.ble S.lim nx)=true):acG P S t (.sc (.string s))=some (.val (.ptr nx 0 0) (S.add (.si s 0))):=by
 subst d
 simp only[acG,uP,b,e,yl]
def Yl (S:af)(b:AV):Option cY:=yl (vL S b true)
variable {id p : Nat}
theorem XP {s:ByteArray}(b:S.get id=some (.si s p))(d:Nat.ble S.lim id=true)(h:decide (p+1≤s.size)=true) :
  Yl S (.ptr id 0 0)=some (.val (.bm [.sc (.bool true),.sc (.int .i64 (p:Nat)),.sc (.int .i32 ((Utf8.decode s p).1:Nat))]) (S.set id (.si s (p+(Utf8.decode s p).2)))):=by
 have h:Nat.ble (p+1) s.size=true:=tn (of_decide_eq_true h)
 simp only[Yl,vL,b,h,d,yl]
theorem XQ {s:ByteArray}(b:S.get id=some (.si s p))(h:decide (p+1≤s.size)=false):Yl S (.ptr id 0 0)=some (.val (.bm [.sc (.bool false)]) S):=by
 have h:Nat.ble (p+1) s.size=false:=by
  rw[Bool.eq_false_iff]
  intro q
  simp only[decide_eq_false_iff_not] at h
  exact h (eL q)
 simp only[Yl,vL,b,h,yl]
variable {σ : Nat → Nat}
theorem uU (s:ByteArray)(p:Nat):(ak.si s p).ax σ=.si s p:=rfl
def YN (a b:ByteArray):Bool:=a.data.toList==b.data.toList
def tP {β:Type}:List (ByteArray×β)→ByteArray→Option β
 | [],_=>none
 | (a,b)::r,k=>if YN k a then some b else tP r k
def qC {β:Type}:List (ByteArray×β)→ByteArray→β→List (ByteArray×β)
 | [],k,v=>[(k,v)]
 | (a,b)::r,k,v=>if YN k a then(k,v)::r else(a,b)::qC r k v
variable {β : Type} {g : β → AV}
theorem Dd (x:ByteArray):∀(l:List (ByteArray×β)) (i:Nat),∃ r,lW .string (.sc (.string x)) (l.map (dL fV g)) i=some r∧(match r with
   | some (j,v)=>∃ b,tP l x=some b∧v=g b∧i≤j∧∀ y:β,(l.map (dL fV g)).set (j-i) (.sc (.string x),g y)=(qC l x y).map (dL fV g)
   | none=>tP l x=none∧∀ y:β,l.map (dL fV g)++[(.sc (.string x),g y)]=(qC l x y).map (dL fV g)):=by
 intro l
 induction l with
 | nil=>intro i;exact⟨none,rfl,rfl,fun y=>rfl⟩
 | cons p l o=>
   obtain⟨a,b⟩:=p
   intro i
   simp only[List.map_cons,dL,lW,fV,NG]
   cases e:(x.data.toList==a.data.toList) with
   | true=>
     have d:YN x a=true:=e
     refine⟨_,rfl,b,by simp[tP,d],rfl,Nat.le_refl _,fun y=>by simp[qC,d,dL,fV]⟩
   | false=>
     have d:YN x a=false:=e
     obtain⟨r,q,h⟩:=o (i+1)
     refine⟨r,q,?_⟩
     cases r with
     | none=>
       refine⟨by simp[tP,d,h.1],fun y=>?_⟩
       have:=h.2 y
       simp[qC,d,dL,fV,this]
     | some u=>
       obtain⟨j,v⟩:=u
       obtain⟨c,h1,h2,h3,h4⟩:=h
       refine⟨c,by simp[tP,d,h1],h2,by omega,fun y=>?_⟩
       have:=h4 y
       rw[show j-i=(j-(i+1))+1 from by omega]
       simp[qC,d,dL,fV,this]
def DT (P:Program)(t:TypeId):Option AV:=
 match P.underlying t with
 | some (.map b d)=>match P.underlying b,iC P d with
   | some .string,some z=>some z
   | _,_=>none
 | _=>none
variable {z : AV}
theorem yV {t:TypeId}(h:DT P t=some z):∃ d e,P.underlying t=some (.map d e)∧P.underlying d=some .string∧iC P e=some z:=by
 unfold DT at h
 split at h<;>try (simp at h;done)
 rename_i d e j
 split at h<;>simp only[ar,reduceCtorEq] at h
 rename_i a b
 subst h
 exact⟨d,e,j,a,b⟩
section
variable {P : Program} {β : Type} {g : β → AV} {S : af} {t id : Nat} {l : List (ByteArray × β)} {x : ByteArray}
theorem PC {z0:β}(e:DT P t=some (g z0))(h:S.get id=some (.mp (l.map (dL fV g)))):vg P S t (.dJ id) (.sc (.string x)) false=some (.val (g ((tP l x).getD z0)) S):=by
 obtain⟨w,y,h1,h2,h3⟩:=yV e
 obtain⟨r,o,d⟩:=Dd (g:=g) x l 0
 simp only[vg,iD,h1,h2,h,ij,o,h3]
 cases r with
 | none=>simp only[d.1,Option.getD_none,j3]
 | some q=>
   obtain⟨j,v⟩:=q
   obtain⟨b,u,rfl,_⟩:=d
   simp only[u,Option.getD_some,j3]
theorem I5 {y:β}(e:DT P t=some z)(h:S.get id=some (.mp (l.map (dL fV g))))(o:Nat.ble S.lim id=true):EO P S t (.dJ id) (.sc (.string x)) (g y)=some (.skip (S.set id (.mp ((qC l x y).map (dL fV g))))):=by
 obtain⟨w,A,h1,h2,_⟩:=yV e
 obtain⟨r,q,d⟩:=Dd (g:=g) x l 0
 simp only[EO,lh,h1,h2,h,ij,o,Bool.true_and,q]
 cases r with
 | none=>simp only[d.2 y,Cx]
 | some u=>
   obtain⟨j,v⟩:=u
   obtain⟨b,B,_,_,a2⟩:=d
   have:=a2 y
   rw[Nat.sub_zero] at this
   simp only[this,Cx]
end
theorem lu (l:List (ByteArray×Bool)):(ak.mp (l.map (dL fV rR))).ax σ=.mp (l.map (dL fV rR)):=u3 (by simp) (by simp) l
variable {k : IntKind} {V : AV} {c : Int}
theorem uz {x:Int}{l:List (Int×β)}(u:cS l c=none) :
  lW (.int k) (.sc (.int k x)) (l.map (dL (dX k) g)++[(.sc (.int k c),V)]) 0=some (if x=c then some (l.length,V) else(match lW (.int k) (.sc (.int k x)) (l.map (dL (dX k) g)) 0 with
    | some (some (j,v))=>some (j,v)
    | _=>none)):=by
 have gen:∀(l:List (Int×β)) (i:Nat),(x=c→cS l c=none)→lW (.int k) (.sc (.int k x)) (l.map (dL (dX k) g)++[(.sc (.int k c),V)]) i=some (if x=c then some (i+l.length,V) else(match lW (.int k) (.sc (.int k x)) (l.map (dL (dX k) g)) i with
    | some (some (j,v))=>some (j,v)
    | _=>none)):=by
  intro l
  induction l with
  | nil=>
    intro i _
    simp only[List.map_nil,List.nil_append,lW,NG,if_true]
    by_cases e:x=c
    · simp[e]
    · have:(x==c)=false:=by simpa using e
      simp[this,e]
  | cons p l d=>
    obtain⟨a,b⟩:=p
    intro i h
    simp only[List.map_cons,List.cons_append,dL,lW,dX,NG,if_true]
    by_cases e:x=a
    · subst e
      have hx:x≠c:=by rintro rfl;have:=h rfl;simp[cS] at this
      simp[hx]
    · have:(x==a)=false:=by simpa using e
      simp only[this]
      have d:=d (i+1) (fun q=>by have:=h q;subst q;simpa [cS,e] using this)
      rw[d]
      by_cases o:x=c
      · simp only[o,if_true,List.length_cons,ar,iy,and_true];omega
      · simp only[o,if_false]
 have:=gen l 0 (fun _=>u)
 simpa using this
section
variable {P : Program} {β : Type} {g : β → AV} {S : af} {t id : Nat} {k : IntKind} {l : List (Int × β)} {x c : Int} {V z : AV}
theorem Hq (b:sd P t=some (k,z))(d:S.get id=some (.mp (l.map (dL (dX k) g)++[(.sc (.int k c),V)])))(h:(cS l c).isNone=true) :
  vg P S t (.dJ id) (.sc (.int k c)) false=some (.val V S):=by
 obtain⟨e,j,h1,h2,h3⟩:=jz b
 simp only[vg,iD,h1,h2,d,ij,uz (Option.isNone_iff_eq_none.1 h),if_true,j3]
theorem PD (b:sd P t=some (k,z))(d:S.get id=some (.mp (l.map (dL (dX k) g)++[(.sc (.int k c),V)])))(h:(cS l c).isNone=true∧x=c) :
  vg P S t (.dJ id) (.sc (.int k x)) false=some (.val V S):=by
 obtain⟨h,rfl⟩:=h
 exact Hq b d h
theorem aqm {z0:β}(e:sd P t=some (k,g z0))(o:S.get id=some (.mp (l.map (dL (dX k) g)++[(.sc (.int k c),V)])))(h:(cS l c).isNone=true∧¬ x=c) :
   vg P S t (.dJ id) (.sc (.int k x)) false=some (.val (g ((cS l x).getD z0)) S):=by
 obtain⟨y,A,h1,h2,h3⟩:=jz e
 obtain⟨h,hx⟩:=h
 obtain⟨r,q,d⟩:=pF (g:=g) (k:=k) x l 0
 simp only[vg,iD,h1,h2,o,ij,uz (Option.isNone_iff_eq_none.1 h),if_neg hx,q]
 cases r with
 | none=>simp only[h3,d.1,Option.getD_none,j3]
 | some u=>
   obtain⟨j,v⟩:=u
   obtain⟨b,w,rfl,_⟩:=d
   simp only[w,Option.getD_some,j3]
theorem Ab (d:sd P t=some (k,z))(e:S.get id=some (.mp (l.map (dL (dX k) g))))(h:(cS l x).isNone=true):vg P S t (.dJ id) (.sc (.int k x)) false=some (.val z S):=by
 obtain⟨y,A,h1,h2,h3⟩:=jz d
 obtain⟨r,o,q⟩:=pF (g:=g) (k:=k) x l 0
 simp only[vg,iD,h1,h2,e,ij,o,h3]
 cases r with
 | none=>simp only[j3]
 | some u=>
   obtain⟨j,v⟩:=u
   obtain⟨b,w,_⟩:=q
   rw[w] at h;simp at h
variable {W : AV}
theorem Hr (b:sd P t=some (k,z))(d:S.get id=some (.mp (l.map (dL (dX k) g)++[(.sc (.int k c),V)])))(e:Nat.ble S.lim id=true)(h:(cS l c).isNone=true) :
  EO P S t (.dJ id) (.sc (.int k c)) W=some (.skip (S.set id (.mp (l.map (dL (dX k) g)++[(.sc (.int k c),W)])))):=by
 obtain⟨j,o,h1,h2,_⟩:=jz b
 simp only[EO,lh,h1,h2,d,ij,e,Bool.true_and,uz (Option.isNone_iff_eq_none.1 h),if_true,Cx]
 simp
theorem PF (b:sd P t=some (k,z))(d:S.get id=some (.mp (l.map (dL (dX k) g)++[(.sc (.int k c),V)])))(e:Nat.ble S.lim id=true)(h:(cS l c).isNone=true∧x=c) :
  EO P S t (.dJ id) (.sc (.int k x)) W=some (.skip (S.set id (.mp (l.map (dL (dX k) g)++[(.sc (.int k c),W)])))):=by
 obtain⟨h,rfl⟩:=h
 exact Hr b d e h
theorem DU (d:sd P t=some (k,z))(e:S.get id=some (.mp (l.map (dL (dX k) g))))(o:Nat.ble S.lim id=true)(h:(cS l x).isNone=true) :
   EO P S t (.dJ id) (.sc (.int k x)) W=some (.skip (S.set id (.mp (l.map (dL (dX k) g)++[(.sc (.int k x),W)])))):=by
 obtain⟨A,B,h1,h2,_⟩:=jz d
 obtain⟨r,q,u⟩:=pF (g:=g) (k:=k) x l 0
 simp only[EO,lh,h1,h2,e,ij,o,Bool.true_and,q]
 cases r with
 | none=>simp only[Cx]
 | some w=>
   obtain⟨j,v⟩:=w
   obtain⟨b,y,_⟩:=u
   rw[y] at h;simp at h
end
variable {α : Type}
def tX (enc:α→AV)(l:List α)(V:List AV)(r:Nat)(z:AV):List AV:=l.map enc++(V++List.replicate r z)
variable {enc : α → AV} {r : Nat} {l : List α}
@[simp] theorem Yd {V:List AV}:(tX enc l V r z).length=l.length+(V.length+r):=by simp[tX]
section
variable {P : Program} {α : Type} {enc : α → AV} {S : af} {t id n : Nat} {l : List α} {V z : AV} {V0 : List AV} {r : Nat} {i : Int}
variable {el len : Nat} {es : List AV}
theorem Mj (h1:P.underlying t=some (.slice el))(h2:pT P el=some n)(d:S.get id=some (.arr n es))(h:(0:Int)≤i∧i<((len:Nat):Int)) :
  Jk P S t (.aj id 0 len) (.sc (.int k i))=some (.val (.ptr id (0+i.toNat) 0) S):=by
 obtain⟨a,b⟩:=h
 obtain⟨m,rfl⟩:=Int.eq_ofNat_of_zero_le a
 have e:m<len:=by omega
 show j3 S (dG P S t (.aj id 0 len) (.sc (.int k (.ofNat m))))=_
 simp only[dG,h1,h2,d,Nat.beq_refl,show Nat.ble (m+1) len=true from tn (by omega),j3]
 rfl
theorem PG {x:α}(hx:dA l i=some x):nth (tX enc l V0 r z) (0+i.toNat)=some (enc x):=by
 obtain⟨m,rfl,d⟩:=wU hx
 have b:m<l.length:=(List.getElem?_eq_some_iff.1 d).1
 rw[iB]
 simp only[tX,Nat.zero_add,Int.toNat_natCast]
 rw[List.getElem?_append_left (by simpa using b)]
 simp[d]
theorem Mk (h:i=(l.length:Int)):nth (tX enc l [V] r z) (0+i.toNat)=some V:=by
 subst h
 rw[iB]
 simp only[tX,Nat.zero_add,Int.toNat_natCast]
 rw[List.getElem?_append_right (by simp)]
 simp
theorem Ml (h:i=(l.length:Int)∧1≤r):nth (tX enc l [] r z) (0+i.toNat)=some z:=by
 obtain⟨h,b⟩:=h
 subst h
 rw[iB]
 simp only[tX,Nat.zero_add,Int.toNat_natCast]
 rw[List.getElem?_append_right (by simp)]
 simp only[List.length_map,Nat.sub_self,List.nil_append]
 rw[List.getElem?_replicate]
 simp only[show 0<r from b,if_true]
variable {v : AV}
theorem Hs {e:AV}{q:Nat}(b:S.get id=some (.arr n es))(d:nth es q=some e)(h:e.cells=[e])(j:mI P t [e]=some v):GP P S t (.ptr id q 0)=some (.val v S):=by
 simp only[GP,jN,b,d,h,List.length_cons,List.length_nil]
 show j3 S (mI P t [e])=_
 rw[j]
 rfl
theorem I6 {x:α}(hx:dA l i=some x)(b:S.get id=some (.arr n (tX enc l V0 r z)))(d:(enc x).cells=[enc x])(e:mI P t [enc x]=some v):GP P S t (.ptr id (0+i.toNat) 0)=some (.val v S):=
 Hs b (PG hx) d e
theorem I7 (b:S.get id=some (.arr n (tX enc l [V] r z)))(d:V.cells=[V])(e:mI P t [V]=some v)(h:i=(l.length:Int)):GP P S t (.ptr id (0+i.toNat) 0)=some (.val v S):=
 Hs b (Mk h) d e
theorem I8 (b:S.get id=some (.arr n (tX enc l [] r z)))(d:z.cells=[z])(e:mI P t [z]=some v)(h:i=(l.length:Int)∧1≤r):GP P S t (.ptr id (0+i.toNat) 0)=some (.val v S):=
 Hs b (Ml h) d e
variable {W : AV} {m : Nat}
theorem Mm (j:S.get id=some (.arr n (tX enc l [V] r z)))(o:pT P t=some m)(q:V.cells=[V])(d:(Nat.beq W.cells.length m&&Nat.beq m 1&&W.cells.all dj&&Nat.ble S.lim id)=true)(h:W.cells=[W])(hi:i=(l.length:Int)) :
  KO P S t (.ptr id (0+i.toNat) 0) W=some (.skip (S.set id (.arr n (tX enc l [W] r z)))):=by
 have e:=Mk (enc:=enc) (V:=V) (r:=r) (z:=z) hi
 simp only[Bool.and_eq_true] at d
 obtain⟨⟨⟨h1,h2⟩,h3⟩,h4⟩:=d
 have h2:=jK h2
 subst h2
 have b:dj W=true:=by simpa [h] using h3
 simp only[KO,sf,j,e,o,h1,h3,h4,q,h,List.length_cons,List.length_nil,Bool.and_true,j5]
 subst hi
 simp only[show Nat.beq 1 1=true from rfl,show Nat.ble (0+1) (0+1)=true from rfl,Bool.and_true,YG,b,Cx]
 simp[tX,List.set_append,b]
theorem Qw (j:S.get id=some (.arr n (tX enc l [] r z)))(o:pT P t=some m)(u:z.cells=[z])(d:(Nat.beq W.cells.length m&&Nat.beq m 1&&W.cells.all dj&&Nat.ble S.lim id)=true)(h:W.cells=[W])(hi:i=(l.length:Int)∧1≤r) :
  KO P S t (.ptr id (0+i.toNat) 0) W=some (.skip (S.set id (.arr n (tX enc l [W] (r-1) z)))):=by
 have e:=Ml (enc:=enc) (z:=z) hi
 simp only[Bool.and_eq_true] at d
 obtain⟨⟨⟨h1,h2⟩,h3⟩,h4⟩:=d
 have h2:=jK h2
 subst h2
 have b:dj W=true:=by simpa [h] using h3
 simp only[KO,sf,j,e,o,h1,h3,h4,u,h,List.length_cons,List.length_nil,Bool.and_true,j5]
 obtain⟨hi,w⟩:=hi
 subst hi
 obtain⟨q,rfl⟩:∃ q,r=q+1:=⟨r-1,by omega⟩
 simp only[show Nat.beq 1 1=true from rfl,show Nat.ble (0+1) (0+1)=true from rfl,Bool.and_true,YG,b,Cx]
 simp[tX,List.set_append,List.replicate_succ,b]
end
variable {el sz : Nat} {a : Int}
theorem XR {bytes:Nat}(e:Fu P t sz bytes=some (el,.an))(b:(Nat.ble (S.nx+1) 8192&&Nat.ble S.lim S.nx)=true)(d:S.nx=nx)(h:(0:Int)≤a∧a.toNat*(bytes+1)≤2 ^ 40) :
  abQ P S t (.sc (.int k a)) (.sc (.int k a))=some (.val (.aj nx 0 a.toNat) (S.add (.arr sz (tX enc [] [] a.toNat .an)))):=by
 have:=XH (P:=P) (S:=S) (enc:=fun _:Unit=>AV.an) (k:=k) (a:=a) (z0:=()) (nx:=nx) e d b h
 simpa [tX] using this
theorem Nj (a b:List AV):dW σ (a++b)=dW σ a++dW σ b:=by
 induction a with
 | nil=>rfl
 | cons x a d=>simp[dW,d]
theorem FO {σ:Nat→Nat}{z:AV}(h:z.ax σ=z):∀ r,dW σ (List.replicate r z)=List.replicate r z
 | 0=>rfl
 | r+1=>by simp[List.replicate_succ,dW,h,FO h r]
theorem lv (h:∀ x,aq (enc x)=true)(l:List α)(V:List AV)(r:Nat):dW σ (tX enc l V r .an)=tX enc l (dW σ V) r .an:=by
 simp[tX,Nj,gb h,FO (σ:=σ) (z:=.an) rfl]
theorem Km {f:α→AV}(b:∀ x,aq (f x)=true)(d:∀ x,aq (g x)=true)(l:List (α×β))(K V:AV):(ak.mp (l.map (dL f g)++[(K,V)])).ax σ=.mp (l.map (dL f g)++[(K.ax σ,V.ax σ)]):=by
 have:=FN (σ:=σ) b d l
 simp only[Py,List.map_append,this,List.map_cons,List.map_nil]
theorem ly (h:∀ x,aq (enc x)=true)(l:List (Int×List α)):(ak.mp (l.map (dL (dX k) (iW enc)))).ax σ=.mp (l.map (dL (dX k) (iW enc))):=u3 (by simp) (fun x=>aD h x) l
theorem jV (h:∀ x,aq (enc x)=true)(l:List (Int×List α))(K V:AV):(ak.mp (l.map (dL (dX k) (iW enc))++[(K,V)])).ax σ=.mp (l.map (dL (dX k) (iW enc))++[(K.ax σ,V.ax σ)]):=Km (by simp) (fun x=>aD h x) l K V
section
variable {T : FT} {P : Program} {Q : ic → af → Prop} {α β : Type}
variable {es : List AV}
theorem KV.app {l m b:List AV}(h:KV r es m b):KV r es (l++m) (l++b):=by
 induction l with
 | nil=>exact h
 | cons a l d=>exact .cons .refl d
variable {s : St} {len rr : Nat}
theorem abr (E:bZ T P)(n:Nat)(r id:Nat){sz2:Nat}{enc:α→AV}{l:List α}{y:α}(o:(jx (ab T P n s)).get r=some (.arr sz es))(d:(jx (ab T P n s)).get id=some (.arr sz2 (tX enc l [.aj r 0 len] rr z)))(e:Nat.beq r id=false)(h:Nat.ble (jx (ab T P n s)).lim r=true)(j:Nat.ble (jx (ab T P n s)).lim id=true)(b:len=es.length)(u:AV.lit es=enc y)(q:SX P Q (Ay r id (.arr sz2 (tX enc (l++[y]) [] rr z)) (ab T P n s))):SX P Q s:=by
 refine afa E n r id o d e h j ?_ q
 have:tX enc (l++[y]) [] rr z=l.map enc++(AV.lit es::List.replicate rr z):=by simp[tX,u]
 rw[this]
 exact .app (.cons (.aj b) .same)
theorem Qx (E:bZ T P)(n:Nat)(id:Nat){enc:α→AV}{l:List α}{y:α}(hi:(jx (ab T P n s)).get id=some (.arr sz (tX enc l [] rr .an)))(B:Nat.ble (jx (ab T P n s)).lim id=true)(C:decide (1≤rr)=true)(D:enc y=.lit [])(q:SX P Q (CP id (.arr sz (tX enc (l++[y]) [] (rr-1) .an)) (ab T P n s))):SX P Q s:=by
 refine Qs E n id hi B (fun g lo x h=>?_) q
 obtain⟨rq,rfl⟩:∃ q,rr=q+1:=⟨rr-1,by have:=of_decide_eq_true C;omega⟩
 have F:tX enc l [] (rq+1) .an=l.map enc++(AV.an::List.replicate rq .an):=by simp[tX,List.replicate_succ]
 have G:tX enc (l++[y]) [] (rq+1-1) .an=l.map enc++(AV.lit []::List.replicate rq .an):=by simp[tX,D]
 rw[F] at h
 rw[G]
 obtain⟨c,t,h1,h2,h3,h4,h5,h6⟩:=h
 refine⟨c,t,h1,h2,h3,by simpa using h4,fun e he=>?_,fun i j e a v b d A=>?_⟩
 · simp only[List.mem_append,List.mem_cons] at he
   rcases he with he | rfl | he
   · exact h5 e (by simp only[List.mem_append];exact .inl he)
   · have:=h5 .an (by simp)
     exact this
   · exact h5 e (by simp only[List.mem_append,List.mem_cons];exact .inr (.inr he))
 · by_cases o:i=(l.map enc).length
   · subst o
     rw[List.getElem?_append_right (Nat.le_refl _)] at b
     simp only[Nat.sub_self,List.getElem?_cons_zero,ar] at b
     subst b
     cases j with
     | zero=>
       simp only[AV.cells,List.getElem?_cons_zero,ar] at d
       subst d
       have:=h6 (l.map enc).length 0 .an .an v (by rw[List.getElem?_append_right (Nat.le_refl _)];simp) rfl A
       cases this
       exact .gG
     | succ j=>simp[AV.cells] at d
   · refine h6 i j e a v ?_ d A
     by_cases u:i<(l.map enc).length
     · rw[List.getElem?_append_left u] at b ⊢;exact b
     · rw[List.getElem?_append_right (by omega)] at b ⊢
       obtain⟨H,w⟩:∃ q,i-(l.map enc).length=q+1:=⟨i-(l.map enc).length-1,by omega⟩
       rw[w] at b ⊢
       exact b
theorem Qy (E:bZ T P)(n:Nat)(r id:Nat){g:β→AV}{l:List (Int×β)}{y:β}(G:(jx (ab T P n s)).get r=some (.arr sz es))(u:(jx (ab T P n s)).get id=some (.mp (l.map (dL (dX k) g)++[(.sc (.int k c),.aj r 0 len)])))(w:Nat.beq r id=false)(A:Nat.ble (jx (ab T P n s)).lim r=true)(B:Nat.ble (jx (ab T P n s)).lim id=true)(o:len=es.length)(H:AV.lit es=g y)(q:SX P Q (Ay r id (.mp ((l++[(c,y)]).map (dL (dX k) g))) (ab T P n s))):SX P Q s:=by
 refine Qr E n r id G u w A B (fun K L d C lo x h=>?_) q
 obtain⟨I,ck,h1,h2,h3,h4⟩:=h
 refine⟨I,ck,h1,by simpa using h2,fun i J e b D=>?_,h4⟩
 simp only[List.map_append,List.map_cons,List.map_nil] at b
 by_cases j:i<(l.map (dL (dX k) g)).length
 · rw[List.getElem?_append_left j] at b
   have:=h3 i J e (by rw[List.getElem?_append_left j];exact b) D
   exact⟨this.1.mono d,this.2.mono d⟩
 · rw[List.getElem?_append_right (by omega)] at b
   have F:i-(l.map (dL (dX k) g)).length=0:=by
    have:=(List.getElem?_eq_some_iff.1 b).1
    simp only[List.length_cons,List.length_nil] at this
    omega
   rw[F] at b
   simp only[List.getElem?_cons_zero,ar] at b
   subst b
   have:=h3 i (.sc (.int k c),.aj r 0 len) e (by rw[List.getElem?_append_right (by omega),F];rfl) D
   exact⟨this.1.mono d,by rw[show(dL (dX k) g (c,y)).2=AV.lit es from H.symm];exact C _ _ (.aj o) _ this.2⟩
end
section
variable {P : Program} {α : Type} {enc : α → AV}
theorem PH {n:Nat}{xs:List α}{e:IntKind}{b:Int}(h:P.underlying t=some (.slice el))(j:pT P el=some n)(d:∀ x,(enc x).cells.length=n)(o:a=(xs.length:Int))(q:b=(xs.length:Int)) :
  acF P S t (.lit (xs.map enc)) (.sc (.int k a)) (.sc (.int e b))=some (.val (.clip (.lit (xs.map enc))) S):=by
 subst o;subst q
 simp only[acF,xP,h,j,kM (Int.natCast_nonneg _),Int.toNat_natCast,Nat.beq_refl,uk,List.length_map,show Nat.ble xs.length xs.length=true from tn (Nat.le_refl _),j3]
 rw[List.take_of_length_le (by simp)]
variable {st xt : Nat} {src : AV}
theorem PI {w:AV}{zs xs:List α}(A:BF P st el sz=true)(B:BG P xt=true)(d:∀ x,(enc x).cells.length=sz)(b:∀ x,(enc x).cells.all dj=true)(q:gH S (.clip w)=some (zs.map enc))(e:gH S src=some (xs.map enc))(h:(Nat.ble (S.nx+1) 8192&&Nat.ble S.lim S.nx)=true)(j:decide ((zs++xs).length≤1048576)=true)(C:xs≠[]) :
   (∃ sz,pt P S st xt (.clip w) src=some (.val (.aj S.nx 0 ((zs++xs).map enc).length) (S.add (.arr sz ((zs++xs).map enc)))))∨((zs++xs).map enc=[]∧∃ v,pt P S st xt (.clip w) src=some (.val v S)∧∀ g x,VR g v x→VR g (.lit []) x):=by
 cases xs with
 | nil=>exact absurd rfl C
 | cons y ys=>
   refine .inl ⟨sz,?_⟩
   have j:=of_decide_eq_true j
   obtain⟨i,z,D,hi,H,G⟩:=ou A
   obtain⟨I,E⟩:=ow B
   simp only[Bool.and_eq_true] at G h
   obtain⟨⟨⟨⟨h1,h2⟩,h3⟩,h4⟩,h5⟩:=G
   have h5:=jK h5
   subst h5
   have o:=lI (enc:=enc) d b (y::ys)
   have F:=lI (enc:=enc) d b zs
   simp only[List.map_cons] at e o
   have u:Nat.ble ((zs.map enc).length+(enc y::ys.map enc).length) 1048576=true:=tn (by simpa using j)
   simp only[pt,gl,kC,D,E,hi,H,e,o,F,h1,h2,h3,h4,Bool.and_true,q,u,eW,h.1,h.2,List.map_append,List.map_cons,yl]
end
variable {f : FuncId} {args : List AV} {Q : ic → af → Prop}
theorem PJ {b:List AV}(d:sA args=b)(h:dc P f b S Q):dc P f args S Q:=
 fun g w xs hx hi=>h g w xs (by rw[←d];exact hx.tI) hi
variable {es : List AV} {kp : List Nat}
theorem rN.ats {es' : List AV}(b:es=es')(d:br es=true):rN S kp (.arr sz es) (.arr sz es'):=by subst b;exact .Zx d
variable {len : Nat} {ys : List α}
theorem Nk {z:Nat}(b:es=ys.map enc)(d:len=ys.length)(e:S.get id=some (.arr z es)):gH S (.aj id 0 len)=some (ys.map enc):=by
 subst b;subst d
 exact gT _ (.inr ⟨id,z,rfl,e⟩)
theorem rN.tX {S:af}{kp:List Nat}{α:Type}{sz r:Nat}{enc:α→AV}{l:List α}{V o:List AV}(q:∀ x,aq (enc x)=true)(h:dK S kp V o):rN S kp (.arr sz (tX enc l V r .an)) (.arr sz (tX enc l o r .an)):=by
 have rep:∀ r,dK S kp (List.replicate r .an) (List.replicate r .an):=by
  intro r
  induction r with
  | zero=>exact .nil
  | succ r d=>rw[List.replicate_succ];exact .cons (.pure rfl) d
 have app:∀ {a e b j:List AV},dK S kp a e→dK S kp b j→dK S kp (a++b) (e++j):=by
  intro a e b j h k
  induction h with
  | nil=>exact k
  | cons h t d=>exact .cons h d
 have mp:∀ l:List α,dK S kp (l.map enc) (l.map enc):=by
  intro l
  induction l with
  | nil=>exact .nil
  | cons a l d=>exact .cons (.pure (q a)) d
 exact .Zw (app (mp l) (app h (rep r)))
theorem rN.aq5 {f:α→AV}(o:∀ x,aq (f x)=true)(q:∀ x,aq (g x)=true){l:List (α×β)}{K j:AV}(u:aq K=true)(h:ie S kp V j):rN S kp (.mp (l.map (dL f g)++[(K,V)])) (.mp (l.map (dL f g)++[(K,j)])):=by
 refine .mp (by simp) fun i p A e b=>?_
 by_cases d:i<(l.map (dL f g)).length
 · rw[List.getElem?_append_left d] at e b
   rw[e] at b
   simp only[ar] at b
   subst b
   have w:IH (l.map (dL f g))=true:=C9 o q l
   have:=List.all_eq_true.1 w p (tl e)
   simp only[Bool.and_eq_true] at this
   exact⟨.pure this.1,.pure this.2⟩
 · rw[List.getElem?_append_right (by omega)] at e b
   have y:i-(l.map (dL f g)).length=0:=by
    have:=(List.getElem?_eq_some_iff.1 e).1
    simp only[List.length_cons,List.length_nil] at this
    omega
   rw[y] at e b
   simp only[List.getElem?_cons_zero,ar] at e b
   subst e;subst b
   exact⟨.pure u,h⟩
def IJ (ops:Array Oper):Bool:=
 Nat.beq ops.size 4&&(Region.ready .any ops #[false,false,false,false]==[0])&&(Region.ready .any ops #[true,false,false,false]==[1,2])&&(Region.ready .any ops #[true,true,false,false]==[2]) &&
  (Region.ready .any ops #[true,false,true,false]==[1])&&(Region.ready .any ops #[true,true,true,false]==[3])
variable {ops : Array Oper}
theorem Gp (h:IJ ops=true)(t:Nat):Region.linearise .any ops t=[0,1,2,3]∨Region.linearise .any ops t=[0,2,1,3]:=by
 simp only[IJ,Bool.and_eq_true,beq_iff_eq] at h
 obtain⟨⟨⟨⟨⟨h0,h1⟩,h2⟩,h3⟩,h4⟩,h5⟩:=h
 have h0:=jK h0
 have go:∀(d t:Nat) (bj:Array Bool) (b:List Nat),Region.linearise.go .any ops (d+1) t bj b=match (Region.ready .any ops bj)[t%(Region.ready .any ops bj).length]? with
    | some i=>Region.linearise.go .any ops d (t/(Region.ready .any ops bj).length) (bj.setIfInBounds i true) (i::b)
    | none=>b.reverse:=fun _ _ _ _=>rfl
 have one:∀(d t i:Nat) (bj:Array Bool) (b:List Nat),Region.ready .any ops bj=[i]→Region.linearise.go .any ops (d+1) t bj b=Region.linearise.go .any ops d t (bj.setIfInBounds i true) (i::b):=by
   intro d t i bj b e
   rw[go,e]
   simp[Nat.mod_one]
 have j:Region.linearise .any ops t=Region.linearise.go .any ops 3 t #[true,false,false,false] [0]:=by
   have o:Array.replicate 4 false = #[false,false,false,false]:=rfl
   rw[Region.linearise,h0,o]
   exact one 3 t 0 _ [] h1
 have fin:∀(t:Nat) (b:List Nat),Region.linearise.go .any ops 1 t #[true,true,true,false] b=(3::b).reverse:=fun t b=>one 0 t 3 _ b h5
 rw[j,show(3:Nat)=2+1 from rfl,go 2,h2]
 rcases Nat.mod_two_eq_zero_or_one t with e | e
 · left
   simp only[List.length_cons,List.length_nil,Nat.zero_add,Nat.reduceAdd,e,List.getElem?_cons_zero]
   exact(one 1 _ 2 #[true,true,false,false] _ h3).trans (fin _ _)
 · right
   simp only[List.length_cons,List.length_nil,Nat.zero_add,Nat.reduceAdd,e,List.getElem?_cons_succ,List.getElem?_cons_zero]
   exact(one 1 _ 1 #[true,false,true,false] _ h4).trans (fin _ _)
theorem Reach.afd {F:ad}{G:ad→af→Prop}{td:List aC}(B:P.follows .mixedOrders=true)(K:F.mode=.run)(L:F.todo=.code (.region id ops true)::td)(M:IJ ops=true)(h1:Reach P { F with todo:=.ops ops [0,1,2,3]::td } S G)(h2:Reach P { F with todo:=.ops ops [0,2,1,3]::td } S G):Reach P F S G:=by
 intro g w fr u cs b H hi
 have C:=b.runs K
 have q:=b.todo
 rw[L] at q
 generalize D:fr.todo=t0 at q
 cases q with | cons N O=>?_
 cases N
 rename_i m
 have d:step P (lone fr cs w)=.next (lone { fr with todo:=.inRegion ops (Region.schedule (P.follows .mixedOrders) ops (w.tape w.drawn (.order fr.fn id)))::m } cs { w with drawn:=w.drawn+1 }):=
  step_lone_go (by simp[stepG,stepG.exec,C,D,choose,Sem.run,Question.forced,Question.cut])
 rw[B] at d
 simp only[Region.schedule,Bool.true_or,if_true] at d
 have j:∀ l,Reach P { F with todo:=.ops ops l::td } S G→Region.linearise .any ops (w.tape w.drawn (.order fr.fn id))=l→∃ F' E g' w' y A,G F' E∧mW P g' F' y∧uf g' F' u A∧F'.kind=F.kind∧F'.fn=F.fn∧F'.round=F.round∧Inv E g' w' ∧ Ext S g w E g' w' ∧ Steps P (lone fr cs w) (lone y A w'):=by
  intro l h e
  rw[e] at d
  have hx:Ext S g w S g { w with drawn:=w.drawn+1 }:=⟨Nat.le_refl _,rfl,⟨rfl,Nat.le_succ _⟩,rfl,fun _ _ _=>rfl,fun id o l h h1 h2 _=>⟨id,o,l,h,h1,h2,rfl⟩,Gh.le_refl _,Nat.le_refl _,rfl,fun _ _=>rfl,fun _ _=>rfl,fun _ _ e _=>.inl e,fun _ _ e=>e,fun _ _=>rfl⟩
  obtain ⟨R,U,X,Y,I,J,Z,r1,r2,r3,r4,r5,r6,r7,r8⟩:=h g { w with drawn:=w.drawn+1 } { fr with todo:=.inRegion ops l::m } u cs
   ⟨b.fn,b.size,b.get,.cons .ops O,b.defers,b.mode,b.kind,b.round⟩ (H.congr rfl rfl) ⟨hi.ro,hi.ob,hi.inj,hi.fresh⟩
  exact⟨R,U,X,Y,I,J,Z,r1,r2,r3,r4,r5,r6,hx.trans r7,Steps.head d r8⟩
 rcases Gp M (w.tape w.drawn (.order fr.fn id)) with e | e
 · exact j _ h1 e
 · exact j _ h2 e
def Q8 (l:List Nat)(s:St):St:=
 match s with
 | .run fn F S k=>match F.todo with
   | .code (.region _ ops _)::td=>.run fn { F with todo:=.ops ops l::td } S k
   | _=>.bad 91
 | _=>.bad 91
def LZ (s:St):Bool:=
 match s with
 | .run _ F _ k=>match F.mode,F.todo with
   | .run,.code (.region _ ops true)::_=>IJ ops&&flat k
   | _,_=>false
 | _=>false
variable {s : St} {T : FT}
theorem Mn (E:bZ T P)(n:Nat)(h:LZ (ab T P n s)=true)(d:SX P Q (Q8 [0,1,2,3] (ab T P n s)))(e:SX P Q (Q8 [0,2,1,3] (ab T P n s))):SX P Q s:=by
 refine⟨cj E.ok E.mix n ?_⟩
 generalize ab T P n s=s at h d e
 have d:=d.out
 have e:=e.out
 cases s with
 | run fn F S k=>
   simp only[LZ] at h
   split at h<;>try (simp at h;done)
   rename_i id ops td u j
   simp only[Bool.and_eq_true] at h
   simp only[Q8,j] at d e
   have:=fH.all (ι:=Bool) (A:=fun b o=>Reach P { F with todo:=.ops ops (if b then [0,1,2,3] else [0,2,1,3])::td } S (GK P k fn o)) h.2 fun b=>by
    cases b with
    | true=>exact d
    | false=>exact e
   exact fH.mono (fun o q=>Reach.afd E.mix u j h.1 (q true) (q false)) this
 | _=>simp[LZ] at h
theorem A5 {E E1:af}{g g' : Gh}{w w' : World}{x:Value}(hi:Inv E1 g' w')(hx:Ext E g w E1 g' w')(I:E1.get r=some (.arr sz es))(Y:VR g' (.aj r 0 es.length) x)(F:E.lim≤r) :
   ∃ B,VR B (.lit es) x∧Inv (E1.del r) B w' ∧ Ext E g w (E1.del r) B w' := by
 have u:∀ id o,(E1.del r).get id=some o→id≠r∧E1.get id=some o:=by
   intro id o e
   by_cases h:id=r
   · subst h;rw[af.fJ] at e;simp at e
   · rw[af.cn (nM _) h] at e;exact⟨h,e⟩
 obtain⟨l,l1,l2,c,t,p1,p2,J,p4,p5,p6⟩:=hi.ob _ _ I
 obtain⟨B,d⟩:∃ B:Gh,B={ ro:=fun b=>if b=l.cd then some c else g'.ro b,ph:=g'.ph }:=⟨_,rfl⟩
 have D:Gh.le g' B:=by
   refine⟨fun b c' e=>?_,fun _ _ e=>by rw[d];exact e⟩
   rw[d]
   simp only
   split
   · rename_i A;subst A;rw[l2] at e;simp at e
   · exact e
 have N:B.ro l.cd=some c:=by rw[d];simp
 refine⟨B,?_,⟨fun b c' e=>?_,fun id o e=>?_,fun id O o o' l' R e e' q Z A=>?_,fun id aQ=>?_⟩,⟨hx.size,hx.os,hx.tape,hx.output,hx.gQ,fun id o l' e K H L=>?_,Gh.le_trans hx.ng D,hx.nx,hx.lim,fun id aQ=>?_,fun id aQ=>by rw[d];exact hx.rM id aQ,fun b c' e A=>?_,fun id aQ e=>?_,hx.fz⟩⟩
 · generalize C:es.length=len at Y
   cases Y with
   | aj M G A=>
     rw[l1] at M;simp only[ar] at M;subst M
     subst C
     refine .lit (sz:=l.sz) N (fun e he=>?_) (by rw[J];omega) G fun i j e a y K H L=>?_
     · rw[J];exact p5 e he
     · exact(p6 i j e a y K H (by rw[←J,←L];congr 1;omega)).mono D
   | ga=>
     have:es=[]:=List.length_eq_zero_iff.1 C
     subst this;exact .gG
 · rw[d] at e
   simp only at e
   split at e
   · rename_i A;simp only[ar] at e;subst e;subst A;exact⟨t,_,p1⟩
   · exact hi.ro b c' e
 · obtain⟨U,e⟩:=u id o e
   obtain⟨l', q1,q2,q3⟩:=hi.ob id o e
   refine⟨l', by rw[d];exact q1,?_,q3.mono D⟩
   rw[d]
   simp only
   rw[if_neg (fun A=>U (hi.inj id r o _ l' l e I q1 l1 A))]
   exact q2
 · rw[d] at q Z
   exact hi.inj id O o o' l' R (u _ _ e).2 (u _ _ e').2 q Z A
 · rw[d];exact hi.fresh id aQ
 · rw[d] at H
   exact hx.own id o l' (u _ _ e).2 K H L
 · rw[af.cn (nM _) (by omega)];exact hx.sM id aQ
 · rw[d] at e
   simp only at e
   split at e
   · rename_i hbb
     obtain⟨X,o0,l0,f1,f2,f3,f4⟩:=hx.own r _ l I F l1 (by omega)
     exact .inr ⟨X,o0,l0,f1,f2,f3,by omega⟩
   · exact hx.wC b c' e A
 · cases q:(E1.del r).get id with
   | none=>rfl
   | some o=>
     have:=(u id o q).2
     rw[hx.dead id aQ e] at this;simp at this
theorem aqV (E:bZ T P)(n:Nat)(o:af→Option cY)(r:Nat)(e:af→af)(h:wB P (ab T P n s)=o (eM (ab T P n s)))(C:((db (ab T P n s)).bind (·.dst)).isSome=true)(B:o (eM (ab T P n s))=some (.val (.aj r 0 len) (e (eM (ab T P n s)))))(j:len=es.length)(D:(e (eM (ab T P n s))).get r=some (.arr sz es))(F:Nat.ble (eM (ab T P n s)).lim r=true)(u:Nat.ble (eM (ab T P n s)).nx (e (eM (ab T P n s))).nx=true)(q:SX P Q (fB (fun S=>.val (.lit es) ((e S).del r)) (ab T P n s))):SX P Q s:=
 Fv E n o (.lit es) (fun S=>(e S).del r) h C ⟨_,B⟩ (fun {all op get} y g w fr cs i rest m G H A I hi=>by
  obtain⟨w', g', x,a,b,c,d⟩:=y _ _ B g w fr cs i rest m G H A I hi
  obtain⟨J,K,L,M⟩:=A5 c d D (by rw[←j];exact b) (eL F)
  exact⟨w', J,x,a,K,L,M⟩) (eL u) q
structure Zz (S S1 : af) (r : Nat) (S2 : af) : Prop where
 lim : S.lim ≤ r
 QM : S.nx ≤ S1.nx
 acH : S1.nx ≤ S2.nx
 lm : S2.lim = S1.lim
 get : (∀ k o, S.get k = some o → k < S.nx) → ∀ k o, S2.get k = some o → k ≠ r ∧ S1.get k = some o
 sM : ∀ k, k < S1.lim → S2.get k = (S1.del r).get k
theorem L0 (E:bZ T P)(n:Nat)(o:af→Option cY)(y:af→af)(h:wB P (ab T P n s)=o (eM (ab T P n s)))(G:((db (ab T P n s)).bind (·.dst)).isSome=true)(H:∃ r u,o (eM (ab T P n s))=some (.val (.aj r 0 es.length) u)∧u.get r=some (.arr sz es)∧Zz (eM (ab T P n s)) u r (y (eM (ab T P n s))))(q:SX P Q (fB (fun S=>.val (.lit es) (y S)) (ab T P n s))):SX P Q s:=by
 obtain⟨r,u,h1,h2,h3⟩:=H
 refine Fv E n o (.lit es) y h G ⟨_,h1⟩ (fun {all op get} C g w fr cs i rest m I J D K hi=>?_) (Nat.le_trans h3.QM h3.acH) q
 obtain⟨w', g', x,a,b,c,d⟩:=C _ _ h1 g w fr cs i rest m I J D K hi
 obtain⟨L,M,B,j⟩:=A5 c d h2 b h3.lim
 have A:∀ k o,(y (eM (ab T P n s))).get k=some o→(u.del r).get k=some o:=by
  intro k o e
  obtain⟨N,O⟩:=h3.get (fun k o e=>hi.jy e) k o e
  rw[af.cn (nM _) N];exact O
 exact ⟨w', L,x,a,M,⟨B.ro,fun id o e=>B.ob id o (A id o e),fun id F o o' l l' e R=>B.inj id F o o' l l' (A _ _ e) (A _ _ R),fun id aQ=>B.fresh id (Nat.le_trans h3.acH aQ)⟩,
  ⟨j.size,j.os,j.tape,j.output,j.gQ,fun id o l e=>j.own id o l (A _ _ e),j.ng,Nat.le_trans h3.QM h3.acH,h3.lm.trans j.lim,fun id aQ=>(h3.sM id (by rw[show u.lim=(u.del r).lim from rfl,j.lim];exact aQ)).trans (j.sM id aQ),j.rM,j.wC,fun id aQ e=>by
   cases U:(y (eM (ab T P n s))).get id with
   | none=>rfl
   | some o=>have:=A id o U;rw[j.dead id aQ e] at this;simp at this,j.fz⟩⟩
section
variable {P : Program} {α : Type} {enc : α → AV}
variable {st xt : Nat} {src : AV}
theorem Ht {xs ys:List α}(A:BF P st el sz=true)(B:BG P xt=true)(j:∀ x,(enc x).cells.length=sz)(b:∀ x,(enc x).cells.all dj=true)(d:S.get id=some (.arr sz (xs.map enc)))(q:gH S src=some (ys.map enc))(D:len=xs.length)(u:(Nat.ble (S.nx+1) 8192&&Nat.ble S.lim S.nx)=true)(C:Nat.ble S.lim id=true)(aQ:Nat.ble (id+1) S.nx=true)(G:decide (xs.length+ys.length≤1048576)=true):∃ r F,pt P S st xt (.aj id 0 len) src=some (.val (.aj r 0 ((xs++ys).map enc).length) F)∧F.get r=some (.arr sz ((xs++ys).map enc))∧Zz S F r (bump (S.del id)):=by
 subst D
 have aQ:=eL aQ
 have E:=eL C
 have J:∀ k o,(bump (S.del id)).get k=some o→k≠id∧S.get k=some o:=by
   intro k o e
   rw[sY] at e
   by_cases h:k=id
   · subst h;rw[af.fJ] at e;simp at e
   · rw[af.cn (nM _) h] at e;exact⟨h,e⟩
 cases ys with
 | nil=>
   refine⟨id,S,?_,?_,E,Nat.le_refl _,Nat.le_succ _,rfl,fun _=>J,fun k w=>by rw[sY]⟩
   · have:=ny (P:=P) (enc:=enc) (ys:=[]) (s:=.aj id 0 xs.length) A B q rfl (gT (enc:=enc) (ys:=xs) _ (.inr ⟨id,sz,rfl,d⟩)) (lI (enc:=enc) j b xs)
     simpa using this
   · simpa using d
 | cons y ys=>
   have H:S.lim≤S.nx:=by simp only[Bool.and_eq_true] at u;exact eL u.2
   refine⟨S.nx,(S.del id).add (.arr sz ((xs++y::ys).map enc)),?_,af.lJ (nM _),H,Nat.le_succ _,Nat.le_refl _,rfl,fun I k o e=>?_,fun k w=>?_⟩
   · have:=zX (P:=P) (nx:=S.nx) (enc:=enc) (ys:=y::ys) A B j b d q rfl rfl u C (by simp) (of_decide_eq_true G)
     simpa using this
   · obtain⟨h1,h2⟩:=J k o e
     have w:k≠S.nx:=Nat.ne_of_lt (I k o h2)
     exact ⟨w,by
      have:((S.del id).add (.arr sz ((xs++y::ys).map enc))).get k=(S.del id).get k:=af.dI (nM _) w
      rw[this,af.cn (nM _) h1];exact h2⟩
   · have w:k<S.lim:=w
     have K:k≠S.nx:=by omega
     rw[sY,af.cn (nM _) K]
     exact(af.dI (s:=S.del id) (nM _) K).symm
end
theorem dc.afe {S0:af}(J:S0.nx=S.nx)(B:S0.lim=S.lim)(j:∀ id o0,S0.get id=some o0→∃ o,S.get id=some o∧∀ g l x,sH g l x o→sH g l x o0)(A:∀ id,id<S.lim→S0.get id=S.get id)(h:dc P f args S0 Q):dc P f args S Q:=by
 intro g w xs hx hi
 refine(h g w xs hx ⟨hi.ro,fun id o e=>?_,fun a b o o' l l' e K=>?_,fun id aQ=>hi.fresh id (by omega)⟩).mono fun e w' ⟨r,L,g', q,h1,h2,d⟩=>⟨r,L,g', q,h1,h2,⟨d.size,d.os,d.tape,d.output,fun b C M=>d.gQ b C fun id o l e N D=>?_,fun id o l e N D O=>?_,d.ng,by rw[←J];exact d.nx,d.lim.trans B,fun id aQ=>(d.sM id (by omega)).trans (A id aQ),fun id aQ=>d.rM id (by omega),fun b c e C=>?_,fun id aQ e=>?_,d.fz⟩⟩
 · obtain⟨o1,u,E⟩:=j id o e
   obtain⟨l,a,b,c⟩:=hi.ob id o1 u
   exact⟨l,a,b,E _ _ _ c⟩
 · obtain⟨R,u,_⟩:=j a o e
   obtain⟨U,E,_⟩:=j b o' K
   exact hi.inj a b R U l l' u E
 · obtain⟨o1,u,_⟩:=j id o e
   exact M id o1 l u (by omega) D
 · obtain⟨y,o0,F,G,X,H,I⟩:=d.own id o l e (by omega) D O
   obtain⟨o1,u,_⟩:=j y o0 G
   exact⟨y,o1,F,u,by omega,H,I⟩
 · rcases d.wC b c e C with h | ⟨y,o0,F,G,X,H,I⟩
   · exact .inl h
   · obtain⟨o1,u,_⟩:=j y o0 G
     exact .inr ⟨y,o1,F,u,by omega,H,I⟩
 · refine d.dead id (by omega) ?_
   cases Y:S0.get id with
   | none=>rfl
   | some o=>obtain⟨o1,u,_⟩:=j id o Y;rw[e] at u;simp at u
def Hu (id:Nat)(keys:List Nat)(S:af):af:=
 match S.get id with
 | some o=>S.set id (Ax keys o)
 | none=>S
theorem dc.prune {keys:List Nat}(j:S.lim≤id)(h:dc P f args (Hu id keys S) Q):dc P f args S Q:=by
 unfold Hu at h
 cases b:S.get id with
 | none=>rw[b] at h;exact h
 | some o=>
   rw[b] at h
   refine dc.afe (S0:=S.set id (Ax keys o)) rfl rfl (fun k o2 e=>?_) (fun k d=>af.au (nM _) (by omega)) h
   by_cases d:k=id
   · subst d
     rw[af.bD (nM _)] at e
     simp only[ar] at e;subst e
     exact⟨o,b,fun _ _ _ h=>Da h⟩
   · rw[af.au (nM _) d] at e
     exact⟨o2,e,fun _ _ _ h=>h⟩
def abS (T:FT)(s:St):Option (Nat×List AV):=
 match s with
 | .run _ F S _=>match F.mode,F.todo,F.round with
   | .run,.code (.rangeFunc f _ _ _)::_,none=>match F.eval f with
     | some (.fn (.func g) first cap)=>match FT.look T g,Nat.ble S.lim S.nx with
       | some _,true=>some (g,first++[.pq (S.nx+1)]++cap)
       | _,_=>none
     | _=>none
   | _,_,_=>none
 | _=>none
def acI (s:St):af:=
 match s with
 | .run _ F S _=>match F.todo with
   | .code (.rangeFunc _ d a b)::_=>F.Fo S d a b
   | _=>S
 | _=>af.empty
def Ym (keys:List Nat)(s:St):af:=Hu ((jx s).nx+1) keys (acI s)
def Qz (b:af)(s:St):St:=
 match s with
 | .run fn F S k=>match F.todo with
   | .code (.rangeFunc _ _ _ _)::td=>.run fn (F.og S.nx (S.nx+1) td (.ret (.bm []))) b k
   | _=>.bad 92
 | _=>.bad 92
def DV (keys:List Nat)(r:af→af)(s:St):St:=Qz (r (Ym keys s)) s
theorem Nl (E:bZ T P)(n:Nat)(keys:List Nat)(g:Nat)(args:List AV)(v:AV)(r:af→af)(h:abS T (ab T P n s)=some (g,args))(j:dc P g args (Ym keys (ab T P n s)) fun x u=>x=.ret v∧u=r (Ym keys (ab T P n s)))(q:SX P Q (DV keys r (ab T P n s))):SX P Q s:=by
 refine⟨cj E.ok E.mix n ?_⟩
 generalize ab T P n s=s at h j q
 have q:=q.out
 unfold DV at q
 cases s with
 | run fn F S k=>
   simp only[abS] at h
   split at h<;>try (simp at h;done)
   rename_i f w a b td y o A
   split at h<;>try (simp at h;done)
   rename_i g' first cap B
   split at h<;>simp only[ar,iy,reduceCtorEq] at h
   rename_i e C h2
   obtain⟨rfl,rfl⟩:=h
   have h2:=eL h2
   have D:acI (.run fn F S k)=F.Fo S w a b:=by simp only[acI,o]
   simp only[Qz,o] at q
   simp only[Ym,D] at j q
   have d:(F.Fo S w a b).lim=S.lim:=rfl
   exact aJ.reach (fun G H=>Reach.rangeFunc y o A B (E.ok g' e C).2.2.1 (nM _) h2 (dc.prune (by rw[d];exact Nat.le_succ_of_le h2) j) fun K L ⟨I,J⟩=>by subst I;subst J;exact H) q
 | _=>simp[abS] at h
section
variable {P : Program} {α : Type} {enc : α → AV} {S : af} {t id : Nat} {k : IntKind} {l : List (Int × List α)} {x c : Int} {V : AV}
theorem aqs (q:sd P t=some (k,.an))(d:S.get id=some (.mp (l.map (dL (dX k) (iW enc))))) :
   ∃ v,vg P S t (.dJ id) (.sc (.int k x)) false=some (.val v S)∧∀ g y,VR g v y→VR g (.lit (((cS l x).getD []).map enc)) y:=by
 obtain⟨A,B,h1,h2,h3⟩:=jz q
 obtain⟨r,e,o⟩:=pF (g:=iW enc) (k:=k) x l 0
 cases r with
 | none=>
   refine⟨.an,by simp only[vg,iD,h1,h2,d,ij,e,h3,j3],fun g y h=>?_⟩
   simp only[o.1,Option.getD_none,List.map_nil]
   cases h
   exact .gG
 | some u=>
   obtain⟨j,v⟩:=u
   obtain⟨b,w,rfl,_⟩:=o
   refine⟨iW enc b,by simp only[vg,iD,h1,h2,d,ij,e,j3],fun g y h=>?_⟩
   simp only[w,Option.getD_some]
   exact h
theorem Ea (q:sd P t=some (k,.an))(d:S.get id=some (.mp (l.map (dL (dX k) (iW enc))++[(.sc (.int k c),V)])))(h:(cS l c).isNone=true∧¬ x=c) :
   ∃ v,vg P S t (.dJ id) (.sc (.int k x)) false=some (.val v S)∧∀ g y,VR g v y→VR g (.lit (((cS l x).getD []).map enc)) y:=by
 obtain⟨h,hx⟩:=h
 obtain⟨A,B,h1,h2,h3⟩:=jz q
 obtain⟨r,e,o⟩:=pF (g:=iW enc) (k:=k) x l 0
 cases r with
 | none=>
   refine⟨.an,by simp only[vg,iD,h1,h2,d,ij,uz (Option.isNone_iff_eq_none.1 h),if_neg hx,e,h3,j3],fun g y h=>?_⟩
   simp only[o.1,Option.getD_none,List.map_nil]
   cases h
   exact .gG
 | some u=>
   obtain⟨j,v⟩:=u
   obtain⟨b,w,rfl,_⟩:=o
   refine⟨iW enc b,by simp only[vg,iD,h1,h2,d,ij,uz (Option.isNone_iff_eq_none.1 h),if_neg hx,e,j3],fun g y h=>?_⟩
   simp only[w,Option.getD_some]
   exact h
end
theorem Fw (E:bZ T P)(n:Nat)(o:af→Option cY)(b:AV)(h:wB P (ab T P n s)=o (eM (ab T P n s)))(j:((db (ab T P n s)).bind (·.dst)).isSome=true)(u:∃ v,o (eM (ab T P n s))=some (.val v (eM (ab T P n s)))∧∀ g x,VR g v x→VR g b x)(q:SX P Q (fB (fun S=>.val b S) (ab T P n s))):SX P Q s:=by
 obtain⟨v,e,w⟩:=u
 exact Fv E n o b (fun S=>S) h j ⟨_,e⟩ (fun {_ _ _} d=>(d _ _ e).wk ⟨w,rfl,rfl,fun id o e=>⟨o,e,fun _ _ _ h=>h⟩,fun _ _=>rfl⟩) (Nat.le_refl _) q
end
end Go.Eng
namespace Go.Eng
variable {α : Type}
abbrev dd [Inhabited α]:α:=default
variable {v : AV}
theorem pv (h:aq v=true:=by simp[aq,br,bH,aD,-List.map_append,-List.map_drop,-List.map_take,-List.map_set,-List.map_replicate]):aq v=true:=h
theorem pl {l:List AV}(h:br l=true:=by simp[aq,br,bH,aD,-List.map_append,-List.map_drop,-List.map_take,-List.map_set,-List.map_replicate]):br l=true:=h
variable {x : Int}
theorem iR {k:IntKind}(h:du k x=true):some (AV.sc (.int k (k.wrap x)))=some (.sc (.int k x)):=by rw[DO h]
structure CS {α : Type} (enc : α → AV) (cells : α → List AV) (m : Nat) : Prop where
 eq : ∀ x, (enc x).cells = cells x
 len : ∀ x, (cells x).length = m
theorem Dv (k:IntKind):CS (dX k) (fun n=>[.sc (.int k n)]) 1:=⟨fun _=>rfl,fun _=>rfl⟩
theorem aq6 : CS fV (fun n=>[.sc (.string n)]) 1:=⟨fun _=>rfl,fun _=>rfl⟩
theorem atw (enc:α→AV):CS (iW enc) (fun l=>[.lit (l.map enc)]) 1:=⟨fun _=>rfl,fun _=>rfl⟩
section
variable {T : FT} {P : Program} {Q : ic → af → Prop} {s : St} {α β R : Type}
theorem yO (E:bZ T P)(n:Nat){o:Option AV}(d:o=some v)(q:SX P Q (aA v none (ab T P n s)))(h:KL P (ab T P n s)=o:=by kernel_rfl):SX P Q s:=zg E n o v h d q
variable {g : Nat} {A : List AV}
theorem YO (E:bZ T P)(n:Nat)(d:∀ S,dc P g A S fun e f=>e=.ret v∧f=S)(q:SX P Q (aA v none (ab T P n s)))(h:KN T P (ab T P n s)=some (g,A):=by kernel_rfl):SX P Q s:=DR E n g A v h d q
theorem yI (E:bZ T P)(n:Nat){k:IntKind}{f:Option R}{r:R}(h:(if du k x then f else none)=some r)(q:du k x=true→f=some r→SX P Q (aA (.sc (.int k x)) none (ab T P n s)))(d:KL P (ab T P n s)=some (.sc (.int k (k.wrap x))):=by kernel_rfl):SX P Q s:=
 zg E n _ _ d (iR (kY h).1) (q (kY h).1 (kY h).2)
variable {b : Bool}
theorem yB (E:bZ T P)(n:Nat){t f:Option R}{r:R}(h:(if b then t else f)=some r)(d:b=true→t=some r→SX P Q (aA (.sc (.bool true)) none (ab T P n s)))(e:b=false→f=some r→SX P Q (aA (.sc (.bool false)) none (ab T P n s)))(j:KL P (ab T P n s)=some (.sc (.bool b)):=by kernel_rfl):SX P Q s:=
 N6 E n b j (fun c=>d c (wy c h)) (fun c=>e c (wA c h))
theorem PZ (E:bZ T P)(n:Nat){t f:Option R}{r:R}(h:(if b then t else f)=some r)(d:b=true→t=some r→SX P Q (fB (fun S=>.val (.sc (.bool true)) S) (ab T P n s)))(e:b=false→f=some r→SX P Q (fB (fun S=>.val (.sc (.bool false)) S) (ab T P n s)))(j:wB P (ab T P n s)=some (.val (.sc (.bool b)) (eM (ab T P n s))):=by kernel_rfl)(p:nk (.val (.sc (.bool b)) (eM (ab T P n s))) (ab T P n s)=true:=by kernel_rfl):SX P Q s:=
 abn E n b j p (fun c=>d c (wy c h)) (fun c=>e c (wA c h))
variable {m : Nat}
theorem yX (E:bZ T P)(n t el:Nat){enc:α→AV}{cells:α→List AV}(d:CS enc cells m){l:List α}{i:Int}{f:α→Option R}{r:R}(h:(dA l i>>=f)=some r)(q:∀ x,dA l i=some x→f x=some r→SX P Q (aA (.eV (cells x)) none (ab T P n s)))(j:KL P (ab T P n s)=dG P af.empty t (.lit (l.map enc)) (.sc (.int .i64 i)):=by kernel_rfl)(h1:P.underlying t=some (.slice el):=by kernel_rfl)(h2:pT P el=some m:=by kernel_rfl):SX P Q s:=by
 obtain⟨x,e,h⟩:=bC h
 exact zg E n _ (.eV (cells x)) j (XC e h1 h2 (d.eq x) (d.len x)) (q x e h)
theorem yC (E:bZ T P)(n:Nat){F:Option β}{V:β→AV}{f:β→Option R}{r:R}(d:∀ v,F=some v→∀ S,dc P g A S fun j p=>j=.ret (V v)∧p=S)(h:(F>>=f)=some r)(q:∀ v,f v=some r→SX P Q (aA (V v) none (ab T P n s)))(t:KN T P (ab T P n s)=some (g,A):=by kernel_rfl):SX P Q s:=by
 obtain⟨v,e,h⟩:=bC h
 exact DR E n g A (V v) t (d v e) (q v h)
theorem sK (E:bZ T P)(n:Nat){F:Option Bool}{a b:Option R}{r:R}(d:∀ v,F=some v→∀ S,dc P g A S fun f j=>f=.ret (.sc (.bool v))∧j=S)(h:(F>>=fun v=>if v then a else b)=some r)(p:a=some r→SX P Q (aA (.sc (.bool true)) none (ab T P n s)))(q:b=some r→SX P Q (aA (.sc (.bool false)) none (ab T P n s)))(t:KN T P (ab T P n s)=some (g,A):=by kernel_rfl):SX P Q s:=by
 obtain⟨v,e,h⟩:=bC h
 refine DR E n g A (.sc (.bool v)) t (d v e) ?_
 cases v with
 | true=>exact p h
 | false=>exact q h
variable {w : AV}
theorem yR (E:bZ T P)(n:Nat)(d:xJ (ab T P n s)=some w:=by kernel_rfl)(e:aq w=true:=by exact pv):SX P (RQ w) s:=Me E n d e
variable {s' : St}
theorem yK (E:bZ T P)(n:Nat)(d:List (List Nat))(ids:List Nat)(q:SX P (RQ v) s')(e:aq v=true:=by exact pv)(f:mL (ab T P n s)=true:=by kernel_rfl)(h:q9 d ids (ab T P n s)=s' := by kernel_rfl):SX P (RQ v) s:=
 Aq E (CI e) n d ids f h q
variable {args : List AV}
theorem yF (E:bZ T P){f:Nat}(h:SX P (RQ w) (St.start T f args af.empty))(d:br args=true:=by exact pl)(e:aq w=true:=by exact pv)(S:af):dc P f args S fun r j=>r=.ret w∧j=S:=
 zY E d e h S
def acJ (S:af)(nx:Nat)(ids:List Nat)(os:List ak):Prop:=S.nx=nx∧Nat.ble S.lim S.nx=true∧ids.Nodup∧ur S ids os
theorem FP {S:af}:∀ {ids:List Nat} {os:List ak},ids.map S.get=os.map some→ids.all (Nat.ble S.lim)=true→ur S ids os
 | [],[],_,_=>trivial
 | a::r,o::l,h,k=>by
   simp only[List.map_cons,List.cons.injEq] at h
   simp only[List.all_cons,Bool.and_eq_true] at k
   exact⟨⟨h.1,k.1⟩,FP h.2 k.2⟩
 | [],_::_,h,_=>by simp at h
 | _::_,[],h,_=>by simp at h
variable {S : af}
theorem gw {nx:Nat}{ids:List Nat}{os:List ak}(h1:S.nx=nx:=by kernel_rfl)(h2:Nat.ble S.lim S.nx=true:=by kernel_rfl)(h3:ids.Nodup:=by decide)(h4:ids.map S.get=os.map some:=by kernel_rfl)(h5:ids.all (Nat.ble S.lim)=true:=by kernel_rfl):acJ S nx ids os:=
 ⟨h1,h2,h3,FP h4 h5⟩
theorem yG (E:bZ T P)(n:Nat){r:af→af}(e:dc P g A (NV (ab T P n s)) fun x d=>x=.ret v∧d=r (NV (ab T P n s)))(q:SX P Q (DA v r (ab T P n s)))(h:YK T P (ab T P n s)=some (g,A):=by kernel_rfl):SX P Q s:=
 I3 E n g A v r h e q
theorem GU (E:bZ T P)(n:Nat){r:af→af}(e:dc P g A (NV (ab T P n s)) fun x d=>x=.ret v∧d=r (NV (ab T P n s)))(q:SX P Q (DA v r (ab T P n s)))(h:(YK T P (ab T P n s)).map (fun p=>(p.1,sA p.2))=some (g,A):=by kernel_rfl):SX P Q s:=by
 obtain⟨⟨g', f⟩,h1,h2⟩:=Option.map_eq_some_iff.1 h
 cases h2
 exact I3 E n _ f v r h1 (PJ rfl e) q
theorem KW (E:bZ T P)(n:Nat){r:af→af}(e:dc P g A (Jl (ab T P n s)) fun x d=>x=.ret v∧d=r (Jl (ab T P n s)))(q:SX P Q (Q7 v r (ab T P n s)))(h:QL T P (ab T P n s)=some (g,A):=by kernel_rfl):SX P Q s:=
 Nh E n g A v r h e q
theorem EP (E:bZ T P)(n:Nat)(keys:List Nat){r:af→af}(e:dc P g A (Ym keys (ab T P n s)) fun x d=>x=.ret v∧d=r (Ym keys (ab T P n s)))(q:SX P Q (DV keys r (ab T P n s)))(h:abS T (ab T P n s)=some (g,A):=by kernel_rfl):SX P Q s:=
 Nl E n keys g A v r h e q
variable {kp : List Nat} {o o' : ak}
theorem acK (h:rN S kp o o' := by
 repeat' first | exact rN.df | exact dK.nil | exact PY.nil | refine dK.cons ?_ ?_ | refine PY.cons ?_ ?_ | exact ie.pA rfl | exact ie.CN rfl | exact ie.CO rfl | exact ie.Qq rfl rfl | (refine ie.Qq rfl ?_;first | (simp<;>fail) | omega | (simp;omega)) | (refine ie.pure ?_;simp[aq,br,bH,aD,-List.map_append,-List.map_drop,-List.map_take,-List.map_set,-List.map_replicate]<;>fail) | refine rN.tX (fun _=>aD (by simp) _) ?_ | (refine rN.Zx ?_;simp[aq,br,bH,aD,-List.map_append,-List.map_drop,-List.map_take,-List.map_set,-List.map_replicate]<;>fail) | refine rN.Zw ?_ | refine ie.Q5 ?_ | refine ie.QK ?_ ?_ | refine Px (PY.spec ?_) (by kernel_rfl) | refine H2 ?_ | refine rN.aq5 (by simp) (fun _=>aD (by simp) _) rfl ?_ | exact rN.aqq rfl | (refine rN.aqq (C9 (fun _=>?_) (fun _=>?_) _)<;>simp[aq,br,bH,aD,-List.map_append,-List.map_drop,-List.map_take,-List.map_set,-List.map_replicate]<;>fail)):rN S kp o o' := h
variable {i : Nat}
theorem us {r:List (Option ak)}(t:mY S kp (i+1) r)(e:S.get i=some o:=by kernel_rfl)(f:rN S kp o o:=by exact acK):mY S kp i (some o::r):=A1 e f t
theorem uo {r:List (Option ak)}(o:ak)(t:mY S kp (i+1) r)(e:S.get i=some o:=by kernel_rfl)(f:rN S kp o o' := by exact acK):mY S kp i (some o' :: r):=A1 e f t
theorem uT {r:List (Option ak)}(h:mY S kp i r:=by repeat first | exact aW | refine us ?_):mY S kp i r:=h
theorem ua {id:Nat}{l:List Nat}{r:List ak}(o:ak)(t:tO S kp l r)(e:S.get id=some o:=by kernel_rfl)(f:rN S kp o o' := by exact acK):tO S kp (id::l) (o' :: r):=HZ e f t
variable {k : Nat} {v' : AV} {j2 : List (Option ak)} {add : List ak}
theorem gP (E:bZ T P)(n:Nat)(v:AV)(kp:List Nat)(d:ie (NJ (ab T P n s)) kp v v')(e:mY (NJ (ab T P n s)) kp 0 j2)(f:tO (NJ (ab T P n s)) kp (kp.drop k) add)(h:xJ (ab T P n s)=some v:=by kernel_rfl)(j:G3 k add.length kp=true:=by kernel_rfl):SX P (RG k v' j2 add) s:=XJ E n kp h j d e f
theorem za (E:bZ T P)(n:Nat)(bs:List Nat)(v:AV)(kp:List Nat)(d:ie (jx (ab T P n s)) kp v v')(e:mY (jx (ab T P n s)) kp 0 j2)(f:tO (jx (ab T P n s)) kp (kp.drop k) add)(j:BH (ab T P n s)=some (px P (Yk (ab T P n s)) bs (RG k v' j2 add)):=by kernel_rfl)(p:abR (ab T P n s)=[.sI bs]:=by kernel_rfl)(q:II (ab T P n s)=true:=by kernel_rfl)(h:Q6 P (ab T P n s)=some v:=by kernel_rfl)(r:G3 k add.length kp=true:=by kernel_rfl):SX P (RG k v' j2 add) s:=PB E n kp j p q h r d e f
variable {a : Nat}
theorem sL (E:bZ T P)(e:uM a Q)(n:Nat)(d:List (List Nat))(ids:List Nat)(q:SX P Q s')(f:mL (ab T P n s)=true:=by kernel_rfl)(h:q9 d ids (ab T P n s)=s' := by kernel_rfl):SX P Q s:=
 Aq E e n d ids f h q
theorem KP (E:bZ T P)(e:uM a Q)(n:Nat)(d:List (List Nat))(ids:List Nat)(bs:List Nat)(q:SX P Q s')(f:pe (ab T P n s)=true:=by kernel_rfl)(j:va (ab T P n s)=some (px P (vj (ab T P n s)) bs Q):=by kernel_rfl)(h:q9 d ids (ab T P n s)=s' := by kernel_rfl):SX P Q s:=XM E e n d ids bs f j h q
variable {c : St} {ls : List (List (Nat × AV))} {l : List (Nat × ak)}
theorem atx (E:bZ T P)(j:uM a Q)(n:Nat)(f:List (List Nat))(ids:List Nat)(d:List (Nat×Nat))(N nx:Nat)(e:List (List (Nat×AV)))(l2:List (Nat×ak))(q:SX P Q (jg c ls (oL N l)))(r:mL (ab T P n s)=true:=by kernel_rfl)(h:q9 f ids (ab T P n s)=jg c e (oL nx l2):=by kernel_rfl)(t:(tZ d N nx [] []&&d.all (fun p=>Nat.ble a p.1)&&Nat.ble a N)=true:=by kernel_rfl)(u:wK (kj d N nx) c=true:=by kernel_rfl)(y:Nat.beq ls.length (tq c)=true:=by kernel_rfl)(z:kR l2=true:=by kernel_rfl)(B:e=ls.map (hJ (kj d N nx)):=by simp[hJ,AV.ax,dW,gb,aq,aD,sg,pC,-List.cons_append,-List.nil_append,-List.singleton_append,-List.map_append,-List.map_drop,-List.map_take,-List.map_set,-List.map_replicate]<;>omega)(C:l2=sO (kj d N nx) l:=by simp[sO,ll,nu,ln,lr,lu,ly,jV,jU,uU,lv,lj,gK,hJ,AV.ax,dW,gb,aq,aD,sg,pC,dX,rR,fV,-List.cons_append,-List.nil_append,-List.singleton_append,-List.map_append,-List.map_drop,-List.map_take,-List.map_set,-List.map_replicate]<;>omega):SX P Q s:=
 Ho E j n f ids d N nx r h t u y z B C q
theorem aty (E:bZ T P)(q:uM a Q)(n:Nat)(j:List (List Nat))(ids:List Nat)(d:List (Nat×Nat))(N nx:Nat)(bs:List Nat)(e:List (List (Nat×AV)))(l2:List (Nat×ak))(r:SX P Q (jg c ls (oL N l)))(t:pe (ab T P n s)=true:=by kernel_rfl)(u:va (ab T P n s)=some (px P (vj (ab T P n s)) bs Q):=by kernel_rfl)(f:va c=some (px P (vj (ab T P n s)) bs Q):=by kernel_rfl)(h:q9 j ids (ab T P n s)=jg c e (oL nx l2):=by kernel_rfl)(y:(tZ d N nx [] []&&d.all (fun p=>Nat.ble a p.1)&&Nat.ble a N)=true:=by kernel_rfl)(z:vR (kj d N nx) c=true:=by kernel_rfl)(B:Nat.beq ls.length (tq c)=true:=by kernel_rfl)(C:kR l2=true:=by kernel_rfl)(D:e=ls.map (hJ (kj d N nx)):=by simp[hJ,AV.ax,dW,gb,aq,aD,sg,pC,-List.cons_append,-List.nil_append,-List.singleton_append,-List.map_append,-List.map_drop,-List.map_take,-List.map_set,-List.map_replicate]<;>omega)(F:l2=sO (kj d N nx) l:=by simp[sO,ll,nu,ln,lr,lu,ly,jV,jU,uU,lv,lj,gK,hJ,AV.ax,dW,gb,aq,aD,sg,pC,dX,rR,fV,-List.cons_append,-List.nil_append,-List.singleton_append,-List.map_append,-List.map_drop,-List.map_take,-List.map_set,-List.map_replicate]<;>omega):SX P Q s:=
 D9 E q n j ids d N nx bs t u f h y z B C D F r
theorem att (E:bZ T P){f:Nat}(n:List (Option ak)){e:List AV}{d j:List ak}{p:List (Option ak)}{q:List ak}(h:SX P (RG k v j2 add) (St.start T f args (oL m (lV 0 d))))(S:af)(nx:Nat)(ids:List Nat)(z:acJ S nx ids j)(B:d.map (ak.ax (sJ ids nx))=j:=by simp[ll,nu,ln,lr,lu,ly,jV,jU,AV.ax,dW,hJ,sJ,lj,gK,gb,lv,aq,aD,-List.map_append,-List.map_drop,-List.map_take,-List.map_set,-List.map_replicate])(C:dW (sJ ids nx) args=e:=by simp[AV.ax,dW,hJ,sJ,gb,aq,aD,-List.map_append,-List.map_drop,-List.map_take,-List.map_set,-List.map_replicate])(D:v.ax (sJ (ids.take k) nx)=v' := by simp[AV.ax,dW,hJ,sJ,gb,aq,aD,-List.map_append,-List.map_drop,-List.map_take,-List.map_set,-List.map_replicate])(F:j2.map (Option.map (ak.ax (sJ (ids.take k) nx)))=p:=by simp[ll,nu,ln,lr,lu,ly,jV,jU,AV.ax,dW,hJ,sJ,lj,gK,gb,lv,aq,aD,-List.map_append,-List.map_drop,-List.map_take,-List.map_set,-List.map_replicate])(G:add.map (ak.ax (sJ (ids.take k) nx))=q:=by simp[ll,nu,ln,lr,lu,ly,jV,jU,AV.ax,dW,hJ,sJ,lj,gK,gb,lv,aq,aD,-List.map_append,-List.map_drop,-List.map_take,-List.map_set,-List.map_replicate])(t:m=d.length:=by rfl)(H:j2.length=k:=by rfl)(I:Nat.ble k d.length=true:=by kernel_rfl)(u:n.all Option.isNone=true:=by rfl)(y:k+n.length=d.length:=by rfl) :
  dc P f e S fun r J=>r=.ret v' ∧ J=vG (rf S (ids.zip (p++n))) q:=by
 obtain⟨h1,h2,h3,h4⟩:=z
 subst h1
 subst t
 exact Mh E n h H I u y S ids h2 h3 h4 B C D (by rw[F]) G
end
end Go.Eng
namespace Go.Eng
abbrev TC := List AV×List ak
abbrev TB := AV×List (Option ak)×List ak
abbrev TL := List (List (Nat×AV))×List (Nat×ak)
abbrev NM := Nat→Nat
@[simp] def sm (l:List ak):List (Option ak):=l.map some
instance : Std.ToStream St St := ⟨id⟩
instance : Std.ToStream (NM → TC) (NM → TC) := ⟨id⟩
instance : Std.ToStream (NM → TB) (NM → TB) := ⟨id⟩
instance {α β γ : Type} [Inhabited α] [Std.ToStream β γ] : Std.ToStream (α → β) γ := ⟨fun f => Std.ToStream.toStream (f default)⟩
abbrev dz {α β:Type} [Std.ToStream α β] (x:α):β:=Std.ToStream.toStream x
noncomputable def lH (c:St)(N:Nat)(L:NM→TL):St:=jg c (L id).1 (oL N (L id).2)
def gy (k:Nat)(B:NM→TB):ic→af→Prop:=RG k (B id).1 (B id).2.1 (B id).2.2
noncomputable def DB (k:Nat)(B:NM→TB)(ids:List Nat)(nx:Nat)(S:af):af:=vG (rf S (ids.zip ((B (sJ (ids.take k) nx)).2.1++List.replicate (ids.length-k) none))) (B (sJ (ids.take k) nx)).2.2
def fI (P:Program)(f k:Nat)(C:NM→TC)(B:NM→TB):Prop:=∀(S:af) (nx:Nat) (ids:List Nat),acJ S nx ids (C (sJ ids nx)).2 →
 dc P f (C (sJ ids nx)).1 S fun b d=>b=.ret (B (sJ (ids.take k) nx)).1∧d=DB k B ids nx S
variable {k : Nat} {B : NM → TB}
theorem qk (h:(B id).2.1.length=k:=by first | rfl | (simp;done) | (simp;split<;>rfl)):uM k (gy k B):=abp h
theorem rq {v:AV}(h:aq v=true:=by exact pv):uM 0 (RQ v):=CI h
section
variable {T : FT} {P : Program} {Q : ic → af → Prop} {s : St} {α β R : Type}
theorem De {S:af}:∀ {ids:List Nat} {os:List ak},ur S ids os→ids.length=os.length
 | [],[],_=>rfl
 | _::_,_::_,h=>by simp[De h.2]
 | [],_::_,h=>by simp[ur] at h
 | _::_,[],h=>by simp[ur] at h
theorem bc (h:∀ σ:NM,(B id).1.ax σ=(B σ).1∧(B id).2.1.map (Option.map (ak.ax σ))=(B σ).2.1∧(B id).2.2.map (ak.ax σ)=(B σ).2.2:=by
 intro σ;simp[ll,nu,ln,lr,lu,ly,jV,jU,AV.ax,dW,hJ,lj,gK,gb,lv,aq,aD,-List.map_append,-List.map_drop,-List.map_take,-List.map_set,-List.map_replicate])(b:(B id).2.1.length=k:=by rfl) :
 (∀ σ:NM,(B id).1.ax σ=(B σ).1∧(B id).2.1.map (Option.map (ak.ax σ))=(B σ).2.1∧(B id).2.2.map (ak.ax σ)=(B σ).2.2)∧(B id).2.1.length=k:=⟨h,b⟩
theorem jL (E:bZ T P)(m:Nat){f:Nat}{C:NM→TC}(h:SX P (gy k B) (St.start T f (C id).1 (oL m (lV 0 (C id).2))))(i:(∀ σ:NM,(B id).1.ax σ=(B σ).1∧(B id).2.1.map (Option.map (ak.ax σ))=(B σ).2.1∧(B id).2.2.map (ak.ax σ)=(B σ).2.2)∧(B id).2.1.length=k:=by exact bc)(b:∀ σ:NM,dW σ (C id).1=(C σ).1∧(C id).2.map (ak.ax σ)=(C σ).2:=by
  intro σ;simp[ll,nu,ln,lr,lu,ly,jV,jU,AV.ax,dW,hJ,lj,gK,gb,lv,aq,aD,-List.map_append,-List.map_drop,-List.map_take,-List.map_set,-List.map_replicate])(j:m=(C id).2.length:=by rfl)(e:Nat.ble k (C id).2.length=true:=by kernel_rfl):fI P f k C B:=by
 intro S nx ids l
 obtain⟨h1,h2,h3,h4⟩:=l
 obtain⟨d,n⟩:=i
 subst h1
 subst j
 have g:ids.length=(C id).2.length:=by rw[De h4,←(b _).2,List.length_map]
 have o:=eL e
 exact Mh E (List.replicate (ids.length-k) none) h n e (by simp) (by simp;omega) S ids h2 h3 h4 (b _).2 (b _).1 (d _).1 (by rw[(d _).2.1]) (d _).2.2
variable {a N : Nat} {c : St} {L : NM → TL}
theorem xF (E:bZ T P)(f:uM a Q)(n:Nat)(d:List (List Nat))(ids:List Nat)(b:List (Nat×Nat))(nx:Nat)(g:SX P Q (lH c N L))(i:mL (ab T P n s)=true:=by kernel_rfl)(h:q9 d ids (ab T P n s)=jg c (L (kj b N nx)).1 (oL nx (L (kj b N nx)).2):=by kernel_rfl)(j:(tZ b N nx [] []&&b.all (fun p=>Nat.ble a p.1)&&Nat.ble a N)=true:=by kernel_rfl)(l:wK (kj b N nx) c=true:=by kernel_rfl)(m:Nat.beq (L id).1.length (tq c)=true:=by kernel_rfl)(o:kR (L (kj b N nx)).2=true:=by kernel_rfl)(e:∀ σ:NM,(L σ).1=(L id).1.map (hJ σ)∧(L σ).2=sO σ (L id).2:=by
  intro σ;simp[sO,ll,nu,ln,lr,lu,ly,jV,jU,uU,lv,lj,gK,hJ,AV.ax,dW,gb,aq,aD,dX,rR,fV,-List.map_append,-List.map_drop,-List.map_take,-List.map_set,-List.map_replicate]):SX P Q s:=
 Ho E f n d ids b N nx i h j l m o (e _).1 (e _).2 g
theorem YP (E:bZ T P)(f:uM a Q)(n:Nat)(e:List (List Nat))(ids:List Nat)(b:List (Nat×Nat))(nx:Nat)(d:List (List (Nat×AV)))(l2:List (Nat×ak))(g:SX P Q (lH c N L))(i:mL (ab T P n s)=true:=by kernel_rfl)(h:q9 e ids (ab T P n s)=jg c d (oL nx l2):=by kernel_rfl)(j:(tZ b N nx [] []&&b.all (fun p=>Nat.ble a p.1)&&Nat.ble a N)=true:=by kernel_rfl)(l:wK (kj b N nx) c=true:=by kernel_rfl)(m:Nat.beq (L id).1.length (tq c)=true:=by kernel_rfl)(o:kR l2=true:=by kernel_rfl)(q:d=(L id).1.map (hJ (kj b N nx)):=by simp[hJ,AV.ax,dW,gb,aq,aD,sg,pC,-List.cons_append,-List.nil_append,-List.singleton_append,-List.map_append,-List.map_drop,-List.map_take,-List.map_set,-List.map_replicate]<;>omega)(r:l2=sO (kj b N nx) (L id).2:=by simp[sO,ll,nu,ln,lr,lu,ly,jV,jU,uU,lv,lj,gK,hJ,AV.ax,dW,gb,aq,aD,sg,pC,dX,rR,fV,-List.cons_append,-List.nil_append,-List.singleton_append,-List.map_append,-List.map_drop,-List.map_take,-List.map_set,-List.map_replicate]<;>omega):SX P Q s:=
 Ho E f n e ids b N nx i h j l m o q r g
theorem NW (E:bZ T P)(g:uM a Q)(n:Nat)(e:List (List Nat))(ids:List Nat)(b:List (Nat×Nat))(nx:Nat)(bs:List Nat)(i:SX P Q (lH c N L))(j:pe (ab T P n s)=true:=by kernel_rfl)(l:va (ab T P n s)=some (px P (vj (ab T P n s)) bs Q):=by kernel_rfl)(d:va c=some (px P (vj (ab T P n s)) bs Q):=by kernel_rfl)(h:q9 e ids (ab T P n s)=jg c (L (kj b N nx)).1 (oL nx (L (kj b N nx)).2):=by kernel_rfl)(m:(tZ b N nx [] []&&b.all (fun p=>Nat.ble a p.1)&&Nat.ble a N)=true:=by kernel_rfl)(o:vR (kj b N nx) c=true:=by kernel_rfl)(q:Nat.beq (L id).1.length (tq c)=true:=by kernel_rfl)(r:kR (L (kj b N nx)).2=true:=by kernel_rfl)(f:∀ σ:NM,(L σ).1=(L id).1.map (hJ σ)∧(L σ).2=sO σ (L id).2:=by
  intro σ;simp[sO,ll,nu,ln,lr,lu,ly,jV,jU,uU,lv,lj,gK,hJ,AV.ax,dW,gb,aq,aD,dX,rR,fV,-List.map_append,-List.map_drop,-List.map_take,-List.map_set,-List.map_replicate]):SX P Q s:=
 D9 E g n e ids b N nx bs j l d h m o q r (f _).1 (f _).2 i
theorem abT (E:bZ T P)(g:uM a Q)(n:Nat)(f:List (List Nat))(ids:List Nat)(b:List (Nat×Nat))(nx:Nat)(bs:List Nat)(d:List (List (Nat×AV)))(l2:List (Nat×ak))(i:SX P Q (lH c N L))(j:pe (ab T P n s)=true:=by kernel_rfl)(l:va (ab T P n s)=some (px P (vj (ab T P n s)) bs Q):=by kernel_rfl)(e:va c=some (px P (vj (ab T P n s)) bs Q):=by kernel_rfl)(h:q9 f ids (ab T P n s)=jg c d (oL nx l2):=by kernel_rfl)(m:(tZ b N nx [] []&&b.all (fun p=>Nat.ble a p.1)&&Nat.ble a N)=true:=by kernel_rfl)(o:vR (kj b N nx) c=true:=by kernel_rfl)(q:Nat.beq (L id).1.length (tq c)=true:=by kernel_rfl)(r:kR l2=true:=by kernel_rfl)(t:d=(L id).1.map (hJ (kj b N nx)):=by simp[hJ,AV.ax,dW,gb,aq,aD,sg,pC,-List.cons_append,-List.nil_append,-List.singleton_append,-List.map_append,-List.map_drop,-List.map_take,-List.map_set,-List.map_replicate]<;>omega)(u:l2=sO (kj b N nx) (L id).2:=by simp[sO,ll,nu,ln,lr,lu,ly,jV,jU,uU,lv,lj,gK,hJ,AV.ax,dW,gb,aq,aD,sg,pC,dX,rR,fV,-List.cons_append,-List.nil_append,-List.singleton_append,-List.map_append,-List.map_drop,-List.map_take,-List.map_set,-List.map_replicate]<;>omega):SX P Q s:=
 D9 E g n f ids b N nx bs j l e h m o q r t u i
end
end Go.Eng

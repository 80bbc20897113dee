/- Runs on symbols: other names of objects, heads of loops, results in memory; no conditions. -/
import Derived.Test.YthplmmeobggkfaaGreatVEngD
set_option linter.all false
namespace Go.Eng
noncomputable section
def afa (T:FT)(P:Program)(s:St):Option (Nat×List AV×ag):=
 match s with
 | .fU D _=>match D.os with
   | o::_=>match gO o.op,tx D.F D.ops o,hidden (ay D.dt o.after.toList) D.kx,C6 (ay D.dt o.after.toList) D.es with
     | some c,some true,some bE,true=>match so T D.F c P with
       | some (g,_,args)=>some (g,args,⟨D.S.nx,D.S.lim,jA D.S.m bE⟩)
       | none=>none
     | _,_,_,_=>none
   | []=>none
 | _=>none
def Uh (v:AV)(a:ag)(s:St):St:=
 match s with
 | .fU D k=>match D.os with
   | o::os=>match hidden (ay D.dt o.after.toList) D.kx with
     | some bE=>.fU (D.jB o os ⟨D.S.nx,D.S.lim,jA D.S.m bE⟩ (ay D.dt o.after.toList) (.wide bE) v a) k
     | none=>.bad 5
   | []=>.bad 5
 | _=>.bad 5
section
variable {T : FT} {P : Program} {Qf : gL → ag → Prop}
variable {s : St}
theorem Sm (y:di T P)(j:P.follows .mixedOrders=true)(n:Nat)(g:Nat)(args:List AV)(E:ag)(v:AV)(p:ag)(h:afa T P (ab T P n s)=some (g,args,E))(B:fY P g args E fun r S=>r=.ret v∧S=p)(q:br P Qf (Uh v p (ab T P n s))):br P Qf s:=by
 refine cO y j n ?_
 generalize ab T P n s=s at h q
 cases s with
 | fU D k=>
   simp only[afa,Uh] at h q
   cases a:D.os with
   | nil=>simp_all
   | cons o os=>
     rw[a] at h q
     simp only at h q
     split at h<;>try (simp at h;done)
     rename_i c bE b C hh u
     split at h<;>simp only[ba,lR,reduceCtorEq] at h
     rename_i G
     obtain⟨rfl,rfl,rfl⟩:=h
     rw[hh] at q
     simp only at q
     obtain⟨L,ha⟩:=kO y b G
     have w:=fB b
     refine fD.mono (fun Q q=>?_) q
     refine qJ.step q a (AB ..) (fun R S0 E0 M v0 ch A H I=>?_)
     have d:n7 P D.ops o D.F.get ⟨D.S.nx,D.S.lim,jA D.S.m bE⟩ v p:=n7.call C w (ha _) B
     obtain⟨_,N,O⟩:=A.bE hh
     have J:∀ id ob,(⟨D.S.nx,D.S.lim,jA D.S.m bE⟩:ag).get id=some ob→id∉bE∧D.S.get id=some ob:=by
      simp_all
     have K:=I _ _ _ d rfl fun id ob e=>(J id ob e).2
     rw[IK]
     exact A.wide H a hh u d K
 | _=>simp[afa] at h
end
def ZV (T:FT)(P:Program)(s:St):Option (Nat×List AV):=
 match s with
 | .fU D k=>match afa T P (.fU D k) with
   | some (g,args,_)=>some (g,args)
   | none=>none
 | .run fn F S k=>Jd T P (.run fn F S k)
 | _=>none
def N1 (s:St):ag:=
 match s with
 | .fU D _=>match D.os with
   | o::_=>match hidden (ay D.dt o.after.toList) D.kx with
     | some bE=>⟨D.S.nx,D.S.lim,jA D.S.m bE⟩
     | none=>ag.empty
   | []=>ag.empty
 | s=>j5 s
def Fg (v:AV)(r:ag→ag)(s:St):St:=
 match s with
 | .fU D k=>Uh v (r (N1 (.fU D k))) (.fU D k)
 | .run fn F S k=>N9 v r (.run fn F S k)
 | _=>.bad 5
section
variable {T : FT} {P : Program} {Q : gL → ag → Prop}
variable {s : St}
theorem YE (E:cX T P)(n:Nat)(g:Nat)(args:List AV)(v:AV)(r:ag→ag)(h:ZV T P (ab T P n s)=some (g,args))(c:fY P g args (N1 (ab T P n s)) fun x d=>x=.ret v∧d=r (N1 (ab T P n s)))(q:SX P Q (Fg v r (ab T P n s))):SX P Q s:=by
 refine⟨cO E.ok E.mix n ?_⟩
 generalize ab T P n s=s at h c q
 have q:=q.out
 cases s with
 | run fn F S k=>exact FN E.ok E.mix 0 g args S v _ h rfl ⟨fn,F,S,k,rfl⟩ c q
 | fU D k=>
   simp only[ZV] at h
   cases a:afa T P (.fU D k) with
   | none=>rw[a] at h;simp at h
   | some p=>
     obtain⟨g', b,j⟩:=p
     rw[a] at h
     simp only[ba,lR] at h
     obtain⟨rfl,rfl⟩:=h
     have m:j=N1 (.fU D k):=by
      simp only[afa] at a
      simp only[N1]
      cases e:D.os with
      | nil=>simp_all
      | cons o os=>
        rw[e] at a
        simp only at a
        split at a<;>try (simp at a;done)
        rename_i hh _
        split at a<;>simp only[ba,lR,reduceCtorEq] at a
        simp_all
     subst m
     exact Sm E.ok E.mix 0 g' b _ v _ a c q
 | _=>simp[ZV] at h
end
def W7 (v:AV)(r:ag→ag)(s:St):St:=
 match s with
 | .run fn F S k=>match F.todo with
   | .ops all (i::rest)::td=>match N6 all i with
     | some o=>.run fn (LK F o all rest td (.wh [(v,false)])) (r S) k
     | none=>.bad 60
   | _=>.bad 60
 | _=>.bad 60
section
variable {T : FT} {P : Program} {Q : gL → ag → Prop}
variable {s : St}
theorem YF (E:cX T P)(n:Nat)(g:Nat)(args:List AV)(v:AV)(r:ag→ag)(h:Jd T P (ab T P n s)=some (g,args))(m:C9 (ab T P n s)=true)(e:fY P g args (j5 (ab T P n s)) fun x a=>x=Re false v∧a=r (j5 (ab T P n s)))(q:SX P Q (W7 v r (ab T P n s))):SX P Q s:=by
 refine⟨cO E.ok E.mix n ?_⟩
 generalize ab T P n s=s at h m e q
 have q:=q.out
 cases s with
 | run fn F S k=>
   have e:fY P g args S fun x a=>x=Re false v∧a=r S:=e
   unfold Jd at h
   cases j:dI (.run fn F S k) with
   | none=>rw[j] at h;simp at h
   | some o=>
     rw[j] at h
     simp only at h
     obtain⟨u,all,i,rest,td,p,d,w⟩:=pI j
     cases b:gO o.op with
     | none=>simp_all
     | some c=>
       rw[b] at h
       simp only at h
       split at h<;>simp only[ba,lR,reduceCtorEq] at h
       rename_i y
       obtain⟨rfl,rfl⟩:=h
       obtain⟨B,q2⟩:=kO E.ok b y
       simp only[W7,p,tI,d,AS] at q
       refine br.reach (fun G q=>Reach.x9 u p d w (fB b) (q2 S) e fun C a A=>?_) q
       simp_all
 | _=>simp[C9] at m
end
variable {α β : Type}
def cg (f:α→AV)(g:β→AV)(p:α×β):AV×AV:=(f p.1,g p.2)
def iJ {β:Type}:List (Int×β)→Int→Option β
 | [],_=>none
 | (a,b)::r,k=>if k=a then some b else iJ r k
def ky {β:Type}:List (Int×β)→Int→β→List (Int×β)
 | [],k,v=>[(k,v)]
 | (a,b)::r,k,v=>if k=a then(k,v)::r else(a,b)::ky r k v
variable {f : α → AV} {g : β → AV}
theorem IU (hf:∀ x,aV (f x)=true)(a:∀ x,aV (g x)=true)(l:List (α×β)):Qo (l.map (cg f g))=true:=by
 simp[Qo,cg,hf,a]
variable {k : IntKind}
theorem L8 (x:Int):∀(l:List (Int×β)) (i:Nat),∃ r,uw (.int k) (.sc (.int k x)) (l.map (cg (aA k) g)) i=some r∧(match r with
   | some (j,v)=>∃ b,iJ l x=some b∧v=g b∧i≤j∧∀ y:β,(l.map (cg (aA k) g)).set (j-i) (.sc (.int k x),g y)=(ky l x y).map (cg (aA k) g)
   | none=>iJ l x=none∧∀ y:β,l.map (cg (aA k) g)++[(.sc (.int k x),g y)]=(ky l x y).map (cg (aA k) g)):=by
 intro l
 induction l with
 | nil=>intro i;exact⟨none,rfl,rfl,fun y=>rfl⟩
 | cons p l d=>
   obtain⟨a,b⟩:=p
   intro i
   simp only[dH,cg,uw,aA,Zi,if_true]
   by_cases e:x=a
   · subst e
     simp only[beq_self_eq_true]
     refine⟨_,rfl,b,by simp[iJ],rfl,bJ _,fun y=>by simp[ky,cg,aA]⟩
   · have h:(x==a)=false:=by simpa using e
     simp only[h]
     obtain⟨r,m,q2⟩:=d (i+1)
     refine⟨r,m,?_⟩
     cases r with
     | none=>
       refine⟨by simp[iJ,e,q2.1],fun y=>?_⟩
       have:=q2.2 y
       simp only[ky,if_neg e,dH,cg,aA,zD,this]
     | some o=>
       obtain⟨j,v⟩:=o
       obtain⟨c,h1,h2,h3,h4⟩:=q2
       refine⟨c,by simp[iJ,e,h1],h2,by omega,fun y=>?_⟩
       have:=h4 y
       rw[show j-i=(j-(i+1))+1 from by omega]
       simp only[List.set_cons_succ,ky,if_neg e,dH,cg,aA,this]
def Rf (P:Program)(S:ag)(t:TypeId)(m k:AV)(ok:Bool):Option dg:=mP S (s9 P S t m k ok)
def Db (P:Program)(t:TypeId):Option (IntKind×AV):=
 match P.underlying t with
 | some (.map a b)=>match P.underlying a,ja P b with
   | some (.int k),some z=>some (k,z)
   | _,_=>none
 | _=>none
variable {P : Program} {z : AV}
theorem Gi {t:TypeId}(h:Db P t=some (k,z)):∃ c d,P.underlying t=some (.map c d)∧P.underlying c=some (.int k)∧ja P d=some z:=by
 unfold Db at h
 split at h<;>try (simp at h;done)
 rename_i c d hu
 split at h<;>simp only[ba,lR,reduceCtorEq] at h
 rename_i a b
 obtain⟨rfl,rfl⟩:=h
 exact⟨c,d,hu,a,b⟩
section
variable {P : Program} {β : Type} {g : β → AV} {S : ag} {t id : Nat} {k : IntKind} {l : List (Int × β)} {x : Int}
theorem Oz {z0:β}(a:Db P t=some (k,g z0))(c:S.get id=some (.mp (l.map (cg (aA k) g)))):Rf P S t (.cR id) (.sc (.int k x)) false=some (.val (g ((iJ l x).getD z0)) S):=by
 obtain⟨m,o,h1,h2,h3⟩:=Gi a
 obtain⟨r,d,q2⟩:=L8 (g:=g) (k:=k) x l 0
 simp only[Rf,s9,h1,h2,c,rD,d,h3]
 cases r with
 | none=>simp only[q2.1,Option.getD_none,mP]
 | some e=>
   obtain⟨j,v⟩:=e
   obtain⟨b,h,rfl,_⟩:=q2
   simp only[h,xm,mP]
def SW (P:Program)(S:ag)(t:TypeId)(m k v:AV):Option dg:=NT (oq P S t m k v)
theorem JG {y:β}(a:Db P t=some (k,z))(c:S.get id=some (.mp (l.map (cg (aA k) g))))(d:Nat.ble S.lim id=true):SW P S t (.cR id) (.sc (.int k x)) (g y)=some (.skip (S.set id (.mp ((ky l x y).map (cg (aA k) g))))):=by
 obtain⟨m,o,h1,h2,_⟩:=Gi a
 obtain⟨r,e,q2⟩:=L8 (g:=g) (k:=k) x l 0
 simp only[SW,oq,h1,h2,c,rD,d,iC,e]
 cases r with
 | none=>simp only[q2.2 y,NT]
 | some h=>
   obtain⟨j,v⟩:=h
   obtain⟨b,p,_,_,a2⟩:=q2
   simp_all[NT]
end
theorem Wk.take {S:ag}{v:AV}{id sz n:Nat}{es:List AV}(d:S.get id=some (.arr sz es))(w:S.lim≤id):Wk v v S (S.set id (.arr sz (es.take n))):=by
 refine⟨fun _ _ h=>h,rfl,rfl,fun k o2 e=>?_,fun k A=>?_⟩
 · by_cases b:k=id
   · subst b
     rw[ag.cQ (y7 _)] at e
     simp only[ba] at e;subst e
     refine⟨_,d,fun g l x h=>?_⟩
     obtain⟨c,t,h1,h2,h3,h4,m,o⟩:=h
     refine⟨c,t,h1,h2,h3,?_,fun e u=>m e (uq u),fun i j e a y p q r=>?_⟩
     · have:(es.take n).length*sz≤es.length*sz:=xY _ (by simp;omega)
       omega
     · rw[sx] at p
       split at p
       · exact o i j e a y p q r
       · simp at p
   all_goals simp_all[ag.bt]
 · rw[ag.bt (y7 _) (by omega)]
section
variable {P : Program} {α : Type} {enc : α → AV}
end
def Fh : Code→List (Array Tmp×Code×Code)
 | .rangeFunc _ c a b=>(c,a,b)::(Fh a++Fh b)
 | .seq a b=>Fh a++Fh b
 | .cond _ a b=>Fh a++Fh b
 | .block _ b=>Fh b
 | .loop b=>Fh b
 | .scope b=>Fh b
 | _=>[]
def qZ (P:Program)(st:LoopState)(f i n mask:Nat)(env:List (Nat×AV)):aO:=
 match P.funcs[f]? with
 | some fn=>match fn.body with
   | some c=>match (Fh c)[i]? with
     | some (d,a,b)=>.lp st none f n mask env d.toList a b
     | none=>.mz
   | none=>.mz
 | none=>.mz
variable {σ : Nat → Nat} {st : LoopState} {i n mask : Nat} {env : List (Nat × AV)}
theorem tc {f:Nat}:(qZ P st f i n mask env).aX σ=qZ P st f i n mask (jC σ env):=by
 unfold qZ
 split<;>try rfl
 split<;>try rfl
 split<;>rfl
def agw : aO→Bool
 | .lp .. => true
 | _=>false
variable {S : ag} {kp : List Nat}
theorem YG {f:Nat}{a:List (Nat×AV)}(h:∀ t v', lk a t=some v' → ∃ v,lk env t=some v∧lP S kp v v')(b:agw (qZ P st f i n mask [])=true):uj S kp (qZ P st f i n mask env) (qZ P st f i n mask a):=by
 have d:qZ P st f i n mask [] ≠ .mz:=by intro e;simp_all[agw]
 clear b
 unfold qZ at *
 cases h1:P.funcs[f]? with
 | none=>simp_all
 | some fn=>
   simp only[h1] at d ⊢
   cases h2:fn.body with
   | none=>simp_all
   | some c=>
     simp only[h2] at d ⊢
     cases h3:(Fh c)[i]? with
     | none=>simp_all
     | some p=>exact .lp h
inductive Zm (S : ag) (kp : List Nat) : List (Nat × AV) → List (Nat × AV) → Prop
 | nil : Zm S kp [] []
 | cons {t : Nat} {v v' : AV} {l l' : List (Nat × AV)} (h : lP S kp v v') (r : Zm S kp l l') : Zm S kp ((t, v) :: l) ((t, v') :: l')
theorem Zm.spec {l l' : List (Nat×AV)}(h:Zm S kp l l'):∀ t v', lk l' t=some v' → ∃ v,lk l t=some v∧lP S kp v v' := by
 induction h with
 | nil=>intro t v' e;simp[q7] at e
 | @cons k v v' l l' h r a=>
   intro t u e
   rw[iz] at e ⊢
   cases hb:Nat.beq k t<;>simp_all
theorem L9 (hf:∀ x,aV (f x)=true)(a:∀ x,aV (g x)=true)(l:List (α×β)):(l.map (cg f g)).map (fun p=>(p.1.aX σ,p.2.aX σ))=l.map (cg f g):=by
 simp_all[cg,AV.dX]
theorem te (sz:Nat)(es:List AV):(aO.arr sz es).aX σ=.arr sz (eG σ es):=rfl
theorem vJ (b:Bool):(aO.df b).aX σ=.df b:=rfl
theorem YH (l:List (AV×AV)):(aO.mp l).aX σ=.mp (l.map fun p=>(p.1.aX σ,p.2.aX σ)):=rfl
theorem yu (hf:∀ x,aV (f x)=true)(a:∀ x,aV (g x)=true)(l:List (α×β)):(aO.mp (l.map (cg f g))).aX σ=.mp (l.map (cg f g)):=by
 simp only[aO.aX,L9 hf a]
theorem tf {a:IntKind}(l:List (Int×Int)):(aO.mp (l.map (cg (aA k) (aA a)))).aX σ=.mp (l.map (cg (aA k) (aA a))):=yu (by simp) (by simp) l
theorem tg (l:List (Int×Bool)):(aO.mp (l.map (cg (aA k) gB))).aX σ=.mp (l.map (cg (aA k) gB)):=yu (by simp) (by simp) l
theorem pC : (aO.mp []).aX σ=.mp []:=rfl
def Dc (keys:List Nat):List (Nat×AV)→List (Nat×AV)
 | []=>[]
 | (t,v)::r=>match keys.contains t with
   | true=>(t,v)::Dc keys r
   | false=>Dc keys r
variable {keys : List Nat}
theorem VQ : ∀ {l:List (Nat×AV)} {t:Nat} {v:AV},lk (Dc keys l) t=some v→lk l t=some v:=by
 intro l
 induction l with
 | nil=>intro t v h;exact h
 | cons p r m=>
   obtain⟨k,u⟩:=p
   intro t v h
   simp only[Dc] at h
   rw[iz]
   cases j:keys.contains k with
   | true=>
     rw[j] at h
     simp only at h
     rw[iz] at h
     cases hb:Nat.beq k t<;>simp_all
   | false=>
     rw[j] at h
     simp only at h
     cases hb:Nat.beq k t with
     | true=>
       exfalso
       have e:k=t:=np hb
       subst e
       have:∀ {l:List (Nat×AV)} {v:AV},lk (Dc keys l) k=some v→keys.contains k=true:=by
        intro l
        induction l with
        | nil=>intro v h;simp[Dc,q7] at h
        | cons q r c=>
          obtain⟨a,b⟩:=q
          intro v h
          simp only[Dc] at h
          cases ha:keys.contains a with
          | true=>
            rw[ha] at h
            simp only at h
            rw[iz] at h
            cases d:Nat.beq a k with
            | true=>rw[←np d];exact ha
            | false=>rw[d] at h;exact c h
          | false=>rw[ha] at h;exact c h
       simp_all
     | false=>exact m h
def FG (keys:List Nat):aO→aO
 | .lp st p f n m env c a b=>.lp st p f n m (Dc keys env) c a b
 | o=>o
theorem IV {o:aO}{g:Gh}{l:Loc}{x:Option Obj}(h:wX g l x o):wX g l x (FG keys o):=by
 cases o with
 | lp st p f n m env u a b=>
   obtain⟨lo,h1,h2,h3,h4,c,d,j,q,r⟩:=h
   exact⟨lo,h1,h2,h3,h4,c,fun t v e=>d t v (VQ e),j,q,r⟩
 | _=>exact h
def prune (id:Nat)(keys:List Nat)(s:St):St:=
 match s with
 | .run fn F S k=>match S.get id with
   | some o=>.run fn F (S.set id (FG keys o)) k
   | none=>.run fn F S k
 | s=>s
section
variable {T : FT} {P : Program} {Q : gL → ag → Prop}
variable {s : St}
theorem AJ (E:cX T P)(n:Nat)(id:Nat)(keys:List Nat)(j:Nat.ble (j5 (ab T P n s)).lim id=true)(q:SX P Q (prune id keys (ab T P n s))):SX P Q s:=by
 refine⟨cO E.ok E.mix n ?_⟩
 generalize ab T P n s=s at j q
 have q:=q.out
 cases s with
 | run fn F S k=>
   simp only[prune] at q
   cases d:S.get id with
   | none=>rw[d] at q;exact q
   | some o=>
     rw[d] at q
     have j:S.lim≤id:=gb j
     refine br.reach (fun G A=>Reach.DS A rfl rfl rfl rfl fun g w fr cs hf hi=>⟨fr,w,g,hf,?_,?_,Steps.refl _ _⟩) q
     · have back:∀ k o2,(S.set id (FG keys o)).get k=some o2→∃ o1,S.get k=some o1∧∀ g l x,wX g l x o1→wX g l x o2:=by
         intro k o2 e
         by_cases c:k=id
         · subst c
           rw[ag.cQ (y7 _)] at e
           simp only[ba] at e;subst e
           exact⟨o,d,fun _ _ _ h=>IV h⟩
         all_goals simp_all[ag.bt]
       refine⟨hi.ro,fun k o2 e=>?_,fun a b o1 o2 l l' e B p C hb=>?_,hi.fresh⟩
       · obtain⟨o1,m,q2⟩:=back k o2 e
         obtain⟨l,x,y,z⟩:=hi.ob k o1 m
         exact⟨l,x,y,q2 _ _ _ z⟩
       · obtain⟨D,m,_⟩:=back a o1 e
         obtain⟨H,q2,_⟩:=back b o2 B
         exact hi.inj a b D H l l' m q2 p C hb
     · refine⟨bJ _,rfl,⟨rfl,bJ _⟩,rfl,fun _ _ _=>rfl,fun k o2 l e r u _=>?_,Gh.le_refl _,bJ _,rfl,fun k c=>ag.bt (y7 _) (by omega),fun _ _=>rfl,fun _ _ e _=>.inl e,fun k c e=>?_,fun _ _=>rfl⟩
       · by_cases c:k=id
         · subst c;exact⟨k,o,l,d,r,u,rfl⟩
         · rw[ag.bt (y7 _) c] at e;exact⟨k,o2,l,e,r,u,rfl⟩
       · have c:k≠id:=by rintro rfl;rw[d] at e;simp at e
         rw[ag.bt (y7 _) c];exact e
 | _=>exact q
end
inductive BU (S : ag) : AV → AV → Prop
 | top {v : AV} : BU S v .top
 | pure {v : AV} (h : aV v = true) : BU S v v
 | an : BU S .an (.lit [])
 | fw : BU S .fw (.lit [])
 | ai {id len sz : Nat} {es es' : List AV} (hg : S.get id = some (.arr sz es)) (hl : len = es.length) (hs : es'.length = es.length)
  (hc : ∀ (i : Nat) (e e' : AV), es[i]? = some e → es'[i]? = some e' → e'.cells.length = e.cells.length)
  (h : ∀ (i j : Nat) (e e' a a' : AV), es[i]? = some e → es'[i]? = some e' → e.cells[j]? = some a → e'.cells[j]? = some a' → BU S a a') : BU S (.ai id 0 len) (.lit es')
 | ptr {id sz : Nat} {e : AV} {cs' : List AV} (hg : S.get id = some (.arr sz [e])) (hl : cs'.length = e.cells.length) (h : ∀ (k : Nat) (a a' : AV), e.cells[k]? = some a → cs'[k]? = some a' → BU S a a') : BU S (.ptr id 0 0) (.dO cs')
 | agg {cs cs' : List AV} (hl : cs'.length = cs.length) (h : ∀ (k : Nat) (a a' : AV), cs[k]? = some a → cs'[k]? = some a' → BU S a a') : BU S (.agg cs) (.agg cs')
 | bO {cs cs' : List AV} (hl : cs'.length = cs.length) (h : ∀ (k : Nat) (a a' : AV), cs[k]? = some a → cs'[k]? = some a' → BU S a a') : BU S (.bO cs) (.bO cs')
inductive uL (S : ag) : List AV → List AV → Prop
 | nil : uL S [] []
 | cons {e e' : AV} {l l' : List AV} (h : BU S e e') (t : uL S l l') : uL S (e :: l) (e' :: l')
variable {l l' : List AV}
theorem uL.spec (h:uL S l l'):l'.length=l.length∧∀(i:Nat) (e a:AV),l[i]? = some e→l'[i]? = some a→BU S e a:=by
 induction h with
 | nil=>simp_all
 | cons h t b=>
   refine⟨by simp[b.1],fun i e a c d=>?_⟩
   cases i with
   | zero=>simp_all
   | succ i=>exact b.2 i e a (by simpa using c) (by simpa using d)
theorem BU.agt (h:uL S l l'):BU S (.bO l) (.bO l'):=.bO h.spec.1 h.spec.2
theorem BU.aak (h:uL S l l'):BU S (.agg l) (.agg l'):=.agg h.spec.1 h.spec.2
theorem BU.lT {id len sz:Nat}{es:List AV}(b:S.get id=some (.arr sz es))(c:len=es.length)(d:cG es=true):BU S (.ai id 0 len) (.lit es):=
 .ai b c rfl (fun i e h p q=>by simp_all) (fun i j e h a m p q r s=>by
  rw[p] at q;simp only[ba] at q;subst q
  rw[r] at s;simp only[ba] at s;subst s
  exact .pure (kB (fO d p) r))
variable {v : AV}
theorem BU.sound {g J:Gh}{w:World}(hi:Inv S g w)(K:Gh.frozen S g w J){v' : AV}(h:BU S v v'):∀ {x:Value},VR g v x→VR J v' x:=by
 induction h with
 | pure h=>intro x o;exact o.mono K.1
 | top=>intro x _;exact .top
 | an=>intro x o;cases o;exact .jZ
 | fw=>intro x o;cases o;exact .jZ
 | ai m q hs R h y=>
   intro x o
   cases o with
   | ai E H hb=>
     rename_i l
     obtain⟨l', A,q2,q3⟩:=hi.ob _ _ m
     rw[E] at A;simp only[ba] at A;subst A
     obtain⟨c,t,L,W,I,U,M,N⟩:=q3
     have B:=K.2.2 _ _ l c t (0,0) m E L
     rename_i es F cap
     subst q
     rw[←hs]
     have:VR J (.lit F) (.slice (some ⟨l.cU,l.base+0*l.sz,none⟩) F.length cap):=by
      refine .lit (sz:=l.sz) B (fun e X=>?_) (by rw[hs,I];omega) (by rw[hs];exact H) (fun i j e a x p u Y=>?_)
      · obtain⟨k,V⟩:=gM X
        have d:k<es.length:=by rw[←hs];exact(lr.1 V).1
        have b:es[k]? = some es[k]:=qm d
        rw[R k _ e b V,I]
        exact M _ (cM d)
      · have d:i<es.length:=by rw[←hs];exact(lr.1 p).1
        have b:es[i]? = some es[i]:=qm d
        have C:j<es[i].cells.length:=by rw[←R i _ e b p];exact(lr.1 u).1
        have r:es[i].cells[j]? = some es[i].cells[j]:=qm C
        exact y i j _ e _ a b p r u (N i j _ _ x b r (by rw[←I,←Y];congr 1;omega))
     exact this
   | hZ=>
     obtain rfl:=xq.1 (hs.trans q.symm)
     exact .jZ
 | @ptr id sz e G m q h y=>
   intro x o
   cases o with
   | ptr E=>
     rename_i l
     obtain⟨l', A,q2,q3⟩:=hi.ob _ _ m
     rw[E] at A;simp only[ba] at A;subst A
     obtain⟨c,t,L,W,I,U,M,N⟩:=q3
     have B:=K.2.2 _ _ l c t (0,0) m E L
     have O:e.cells.length=sz:=M e (jq ..)
     refine .dO B (by rw[q,O];simp at U;omega) fun j a x p u=>?_
     have C:j<e.cells.length:=by rw[←q];exact(lr.1 p).1
     have r:e.cells[j]? = some e.cells[j]:=qm C
     exact y j _ a r p (N 0 j e _ x rfl r (by rw[←u];congr 1;omega))
 | agg q h y=>
   intro x o
   cases o with
   | agg D hh=>
     refine .agg (by rw[q];exact D) fun k a x p u=>?_
     rename_i cs G xs
     have d:k<cs.length:=by rw[←q];exact(lr.1 p).1
     have b:cs[k]? = some cs[k]:=qm d
     exact y k _ a b p (hh k _ x b u)
 | bO q h y=>
   intro x o
   cases o with
   | bO D hh=>
     refine .bO (by rw[q];exact D) fun k a x p u=>?_
     rename_i cs G xs
     have d:k<cs.length:=by rw[←q];exact(lr.1 p).1
     have b:cs[k]? = some cs[k]:=qm d
     exact y k _ a b p (hh k _ x b u)
theorem fY.ajD {f:FuncId}{args d:List AV}(hf:∀(g B:Gh) (w:World),Inv S g w→Gh.frozen S g w B→∀ x,VR g (.bO args) x→VR B (.bO d) x)(ha:cG d=true)(W:wv v=true)(h:fY P f d ag.empty fun r _=>r=.ret v) :
   fY P f args S fun r R=>r=.ret v∧R=S:=by
 intro g w xs hx hi
 have E:=Gh.jY hi
 obtain⟨I,F⟩:∃ k:Gh,k=g.freeze S w:=⟨_,rfl⟩
 rw[←F] at E
 have K:=hf _ _ _ hi E (.tuple xs) (.bO hx.1 hx.2)
 cases K with | bO h1 h2=>?_
 have D:∀ b c,I.ro b=some c→∃ t fz,w.heap[b]? = some (.cells c t fz):=by
   intro b c e
   subst F
   simp only[Gh.freeze] at e
   split at e
   · rename_i c' X;simp only[ba] at e;subst e;exact hi.ro _ _ X
   · split at e
     · rename_i c' t fz hh
       split at e<;>simp only[ba,reduceCtorEq] at e
       subst e;exact⟨t,fz,hh⟩
     · simp at e
 have L:Inv ag.empty I.bare w:=⟨D,fun id o e=>by rw[ag.fN] at e;simp at e,fun id G o o' l l' e=>by rw[ag.fN] at e;simp at e,fun _ _=>rfl⟩
 have M:hM I.bare d xs:=⟨h1,fun k a x e J=>(h2 k a x e J).bare (fO ha e)⟩
 refine(h I.bare w xs M L).mono fun e w' ⟨r,R,g', Y,u,N,m⟩=>?_
 subst Y
 obtain⟨B,y⟩:∃ k:Gh,k={ ro:=fun b=>if b<w.heap.size then g.ro b else g'.ro b,ph:=g.ph }:=⟨_,rfl⟩
 have BS:∀ b,b<w.heap.size→B.ro b=g.ro b:=fun b hb=>by subst y;simp[hb]
 have O:∀ b,¬ b<w.heap.size→B.ro b=g'.ro b:=fun b hb=>by subst y;simp[hb]
 have j:∀ b,b<w.heap.size→w'.heap[b]? = w.heap[b]? := fun b hb=>m.jr b hb fun id o l e=>by rw[ag.fN] at e;simp at e
 have H:∀ b c,g.ro b=some c→b<w.heap.size:=by
   intro b c e
   obtain⟨t,fz,q⟩:=hi.ro b c e
   exact(y8.1 q).1
 have C:Gh.le g B:=⟨fun b c e=>by rw[BS b (H b c e)];exact e,fun _ _ e=>by subst y;exact e⟩
 have A:B.ph=g.ph:=by subst y;rfl
 refine⟨.ret v,S,B,⟨rfl,rfl⟩,?_,⟨?_,?_,?_,?_⟩,⟨m.size,m.os,m.tape,m.output,fun b hb _=>j b hb,?_,C,bJ _,rfl,fun _ _=>rfl,?_,?_,?_,m.fz⟩⟩
 · cases e with
   | returned x=>exact VR.flat u W
   | panicked c=>exact u.elim
   | outgrown=>exact u.elim
 · intro b c e
   by_cases hb:b<w.heap.size
   · rw[BS b hb] at e
     rw[j b hb];exact hi.ro b c e
   · rw[O b hb] at e;exact N.ro b c e
 · intro id o e
   obtain⟨l,a,b,c⟩:=hi.ob id o e
   refine⟨l,C.ph _ _ a,?_,?_⟩
   · rw[BS _ c.lt];exact b
   · rw[j _ c.lt];exact c.mono C
 · intro id G o o' l l' e J p U hb
   rw[A] at p U
   exact hi.inj id G o o' l l' e J p U hb
 · intro id bE;rw[A];exact hi.fresh id bE
 · intro id o l e Z V e3
   rw[A] at V
   exact⟨id,o,l,e,Z,V,rfl⟩
 · intro id _;rw[A]
 · intro b c e hb;rw[BS b hb] at e;exact .inl e
 · exact fun _ _ e=>e
def ZW (T:FT)(P:Program)(s:St):Option (Nat×List AV):=
 match s with
 | .fU D k=>match Tc T P (.fU D k) with
   | some (g,args,_)=>some (g,args)
   | none=>none
 | .run fn F S k=>Jd T P (.run fn F S k)
 | _=>none
def Rg (s:St):ag:=
 match s with
 | .fU D _=>match D.os with
   | o::_=>match hidden (ay D.dt o.after.toList) D.kx with
     | some bE=>⟨D.S.nx,D.S.nx,jA D.S.m bE⟩
     | none=>ag.empty
   | []=>ag.empty
 | s=>j5 s
def agx (v:AV)(s:St):St:=
 match s with
 | .fU D k=>Ue v (Rg (.fU D k)) (.fU D k)
 | .run fn F S k=>N9 v (fun S=>S) (.run fn F S k)
 | _=>.bad 5
section
variable {T : FT} {P : Program} {Q : gL → ag → Prop}
variable {s : St}
theorem ER (E:cX T P)(n:Nat)(g:Nat)(args a:List AV)(v:AV)(h:ZW T P (ab T P n s)=some (g,args))(hf:uL (Rg (ab T P n s)) args a)(ha:cG a=true)(m:wv v=true)(c:∀ S,fY P g a S fun r d=>r=.ret v∧d=S)(q:SX P Q (agx v (ab T P n s))):SX P Q s:=by
 refine⟨cO E.ok E.mix n ?_⟩
 have c:fY P g args (Rg (ab T P n s)) fun r d=>r=.ret v∧d=Rg (ab T P n s):=
   fY.ajD (fun g B w hi u x hx=>(BU.agt hf).sound hi u hx) ha m ((c ag.empty).mono fun r d e=>e.1)
 generalize ab T P n s=s at h c q
 have q:=q.out
 cases s with
 | run fn F S k=>exact FN E.ok E.mix 0 g args S v _ h rfl ⟨fn,F,S,k,rfl⟩ c q
 | fU D k=>
   simp only[ZW] at h
   cases b:Tc T P (.fU D k) with
   | none=>rw[b] at h;simp at h
   | some p=>
     obtain⟨g', a,y⟩:=p
     rw[b] at h
     simp only[ba,lR] at h
     obtain⟨rfl,rfl⟩:=h
     have A:y=Rg (.fU D k):=by
      simp only[Tc] at b
      simp only[Rg]
      cases j:D.os with
      | nil=>simp_all
      | cons o os=>
        rw[j] at b
        simp only at b
        split at b<;>try (simp at b;done)
        rename_i hh
        split at b<;>simp only[ba,lR,reduceCtorEq] at b
        simp_all
     subst A
     exact VJ E.ok E.mix 0 g' a _ v _ b c q
 | _=>simp[ZW] at h
end
end
noncomputable section
inductive F1 (r : Nat) (es : List AV) : AV → AV → Prop
 | refl {v : AV} : F1 r es v v
 | ai {len : Nat} (hl : len = es.length) : F1 r es (.ai r 0 len) (.lit es)
 | agg {cs cs' : List AV} (hl : cs'.length = cs.length) (h : ∀ (k : Nat) (a a' : AV), cs[k]? = some a → cs'[k]? = some a' → F1 r es a a') : F1 r es (.agg cs) (.agg cs')
inductive WJ (r : Nat) (es : List AV) : List AV → List AV → Prop
 | nil : WJ r es [] []
 | cons {e e' : AV} {l l' : List AV} (h : F1 r es e e') (t : WJ r es l l') : WJ r es (e :: l) (e' :: l')
 | same {l : List AV} : WJ r es l l
variable {r : Nat} {es l l' : List AV}
theorem WJ.spec (h:WJ r es l l'):l'.length=l.length∧∀(i:Nat) (e a:AV),l[i]? = some e→l'[i]? = some a→F1 r es e a:=by
 induction h with
 | nil=>simp_all
 | same=>exact⟨rfl,fun i e a h b=>by rw[h] at b;simp only[ba] at b;subst b;exact .refl⟩
 | cons h t c=>
   refine⟨by simp[c.1],fun i e a d f=>?_⟩
   cases i with
   | zero=>simp_all
   | succ i=>exact c.2 i e a (by simpa using d) (by simpa using f)
theorem F1.aak (h:WJ r es l l'):F1 r es (.agg l) (.agg l'):=.agg h.spec.1 h.spec.2
theorem F1.cells {r:Nat}{es:List AV}{e d:AV}(h:F1 r es e d):d.cells.length=e.cells.length∧∀(j:Nat) (a c:AV),e.cells[j]? = some a→d.cells[j]? = some c→F1 r es a c:=by
 cases h with
 | refl=>exact⟨rfl,fun j a c h b=>by rw[h] at b;simp only[ba] at b;subst b;exact .refl⟩
 | ai f=>
   refine⟨rfl,fun j a c h b=>?_⟩
   cases j with
   | zero=>simp[AV.cells] at h b;subst h;subst b;exact .ai f
   | succ j=>simp[AV.cells] at h
 | agg f h=>exact⟨f,h⟩
theorem F1.sound {g t:Gh}{l:Loc}{c:Array Value}{sz:Nat}(d:Gh.le g t)(z:g.ph r=some l)(A:t.ro l.cU=some c)(B:l.sz=sz)(h4:l.base+es.length*sz≤c.size)(F:∀ e,e∈es→e.cells.length=sz)(G:∀(i j:Nat) (e a:AV) (y:Value),es[i]? = some e→e.cells[j]? = some a→c[l.base+i*sz+j]? = some y→VR g a y){v v' : AV}(h:F1 r es v v'):∀ {x:Value},VR g v x→VR t v' x:=by
 induction h with
 | refl=>intro x b;exact b.mono d
 | ai q=>
   intro x b
   subst q
   generalize E:es.length=n at b
   cases b with
   | ai u m hb=>
     rw[z] at u;simp only[ba] at u;subst u
     subst E
     refine .lit (sz:=sz) A F (by rw[B];omega) m fun i j e a x s w J=>?_
     exact(G i j e a x s w (by simp_all)).mono d
   | hZ=>
     obtain rfl:=xq.1 E
     exact .jZ
 | agg q h H=>
   intro x b
   cases b with
   | agg C hh=>
     refine .agg (by rw[q];exact C) fun k a x s w=>?_
     rename_i cs I xs
     have D:k<cs.length:=by rw[←q];exact(lr.1 s).1
     have f:cs[k]? = some cs[k]:=qm D
     exact H k _ a f s (hh k _ x f w)
section
variable {T : FT} {P : Program} {Q : gL → ag → Prop}
end
section
variable {T : FT} {P : Program} {Q : gL → ag → Prop}
end
def asO (P:Program)(S:ag)(t:TypeId)(n:Nat)(l:List (Nat×AV)):Option dg:=DK (oz P S t n l)
def yg (p:Option Code):aO→aO
 | .lp st _ f n m env c a b=>.lp st p f n m env c a b
 | o=>o
variable {p : Option Code} {o : aO}
theorem mc {σ:Nat→Nat}:(yg p o).aX σ=yg p (o.aX σ):=by cases o<;>rfl
theorem Pq {S:ag}{d:List Nat}{o' : aO}(h:uj S d o o'):uj S d (yg p o) (yg p o'):=by
 cases h with
 | arr a b c=>exact .arr a b c
 | mp a b=>exact .mp a b
 | df=>exact .df
 | lp h=>exact .lp h
end
noncomputable section
def tB (P:Program)(fn:Func)(bs:List Nat)(Q:gL→ag→Prop)(F:ae)(S:ag):Prop:=
 F.mode=.returning∧F.defers=[.uJ bs]∧∃ v,uQ P fn F S=some v∧Q (.ret v) S
def tG (F:ae)(ds:List hU):ae:={ F with defers:=ds }
theorem IW (F:ae)(ds:List hU)(t:Nat):(tG F ds).get t=F.get t:=by cases F;rfl
variable {P : Program} {fn : Func} {F : ae} {S : ag}
theorem IX (ds:List hU):uQ P fn (tG F ds) S=uQ P fn F S:=by
 have:∀ b,wQ P (tG F ds) S b=wQ P F S b:=by
  intro b
  induction b with
  | nil=>rfl
  | cons r b d=>cases r<;>simp only[wQ,IW,d]
 unfold uQ
 rw[this]
variable {g : Gh}
theorem A1 {fr:Frame}{ds:List hU}(h:m8 P g F fr)(b:kZ P g ds fr.defers):m8 P g (tG F ds) fr:=
 ⟨h.fn,h.size,fun t v e=>h.get t v (by rw[←IW F ds];exact e),h.todo,b,h.mode,h.kind,h.round⟩
theorem A3 {b cs:List Frame}(ds:List hU)(h:wZ g F b cs):wZ g (tG F ds) b cs:=by cases F;exact h
theorem kZ.OA {l:List hU}{m:List Deferred}(h:kZ P g l m):kZ P g (l++[.uJ []]) m:=by
 induction h with
 | nil=>exact .uJ (bs:=[]) .nil
 | cons d ha hb _ b=>exact .cons d ha hb b
 | nq e _ b=>exact .nq e b
 | uJ _ b=>exact .uJ b
theorem Reach.OA {P:Program}{F:ae}{S:ag}{G:ae→ag→Prop}(h:Reach P (tG F (F.defers++[.uJ []])) S G):Reach P F S G:=by
 intro g w fr b cs hf d hi
 obtain⟨F', i,g', w', e,f,q,j,k,m,n,o,p,r,t⟩:=h g w fr b cs (A1 hf hf.defers.OA) (A3 _ d) hi
 exact⟨F', i,g', w', e,f,q,j,k,m,n,o,p,r,t⟩
variable {Q : gL → ag → Prop}
theorem Reach.aey (h:Reach P F S (tB P fn [] Q)):Reach P F S (Fin P fn fun r _ S=>Q r S):=by
 intro g w fr d cs hf e hi
 obtain⟨F', j,g', w', b,f,⟨k,q2,v,q3,q4⟩,i,n,o,p,q,u,x,y⟩:=h g w fr d cs hf e hi
 have z:b.defers=[]:=by
  have:=i.defers
  rw[q2] at this
  generalize A:b.defers=m at this
  cases this with | uJ t=>cases t;rfl
 refine⟨tG F' [],j,g', w', b,f,⟨rfl,.inl ⟨k,v,by rw[IX];exact q3,q4⟩⟩,A1 i (by rw[z];exact .nil),A3 _ n,o,p,q,u,x,y⟩
variable {a : Nat} {bs : List Nat}
theorem Reach.drop (hq:vq a Q){d:Nat}(hd:F.defers=[.nq d,.uJ bs])(Y:S.get d=some (.df true))(hl:S.lim=0)(h:∀ b,Reach P (tG F [.uJ (b::bs)]) (S.del d) (tB P fn (b::bs) Q)):Reach P F S (tB P fn bs Q):=by
 intro g w fr cs0 cs hf hcs hi
 obtain⟨l,a1,a2,a3⟩:=hi.ob d _ Y
 have b1:w.heap[l.cU]? = some (.deferred (some [])):=a3
 have N:=(y8.1 b1).1
 have C:d<S.nx:=hi.lU Y
 have hds:kZ P g [.uJ (l.cU::bs)] fr.defers:=by
  have:=hf.defers
  rw[hd] at this
  generalize fr.defers=m at this
  cases this with
  | nq O t=>
    rw[a1] at O;simp only[ba] at O;subst O
    cases t with | uJ t=>exact .uJ (bs:=l.cU::bs) t
 have R:∀ id o l', (S.del d).get id=some o→g.ph id=some l' → l'.cU≠l.cU:=by
  intro id o l' e y hb
  by_cases bE:id=d
  · subst bE;rw[ag.iK] at e;simp at e
  · rw[ag.dM (y7 _) bE] at e
    exact bE (hi.inj id d o _ l' l e Y y a1 hb)
 obtain⟨F', A,g', w', U,cs', ⟨q1,q2,v,q3,q4⟩,p1,p2,p3,p4,p5,p6,i,p8⟩:=h l.cU g w fr cs0 cs (A1 hf hds) (A3 _ hcs) (hi.sub (ag.JN (y7 _)))
 have p:g'.ph d=some l:=by rw[i.wY d C];exact a1
 have hhp:w'.heap[l.cU]? = some (.deferred (some [])):=by
  rw[i.jr l.cU N fun id o l' e _ y=>R id o l' e y];exact b1
 have hro:g'.ro l.cU=none:=by
  cases hr:g'.ro l.cU with
  | none=>rfl
  | some c=>
    rcases i.C2 _ _ hr N with f | ⟨j,o0,J,K,_,L,M⟩
    · rw[a2] at f;simp at f
    · exact absurd M (R j o0 J K L)
 have V:A.get d=none:=i.dead d C ag.iK
 have D:∀ id o l', A.get id=some o→g'.ph id=some l' → l'.cU≠l.cU:=by
  intro id o l' e y hb
  obtain⟨j,o0,J,K,_,L,M⟩:=i.own id o l' e (by show S.lim≤id;omega) y (by rw[hb];exact N)
  exact R j o0 J K L (M.trans hb)
 have W:A.lim=0:=i.lim.trans hl
 obtain⟨n,z⟩:∃ s,s=A.set d (.df true):=⟨_,rfl⟩
 have g1:n.get d=some (.df true):=by rw[z];exact ag.cQ (y7 _)
 have B:∀ id,id≠d→n.get id=A.get id:=fun id bE=>by rw[z];exact ag.bt (y7 _) bE
 have afz:n.nx=A.nx:=by rw[z];rfl
 have E:n.lim=0:=by rw[z];exact W
 have hi1:Inv n g' w' := by
  refine⟨p6.ro,fun id o e=>?_,fun id r o o' la lb e y q Z hb=>?_,fun id bE=>p6.fresh id (by rw[←afz];exact bE)⟩
  · by_cases bE:id=d
    · subst bE;rw[g1] at e;simp only[ba] at e;subst e
      exact⟨l,p,hro,hhp⟩
    · rw[B id bE] at e;exact p6.ob id o e
  · by_cases h1:id=d<;>by_cases h2:r=d
    · rw[h1,h2]
    · subst h1;rw[B r h2] at y
      rw[p] at q;simp only[ba] at q;subst q
      exact absurd hb.symm (D r o' lb y Z)
    · subst h2;rw[B id h1] at e
      rw[p] at Z;simp only[ba] at Z;subst Z
      exact absurd hb (D id o la e q)
    · rw[B id h1] at e;rw[B r h2] at y
      exact p6.inj id r o o' la lb e y q Z hb
 have back:∀ id o,(S.del d).get id=some o→S.get id=some o:=by
  intro id o e
  by_cases bE:id=d
  · subst bE;rw[ag.iK] at e;simp at e
  · rw[ag.dM (y7 _) bE] at e;exact e
 have hx1:Ext S g w n g' w' := by
  refine⟨i.size,i.os,i.tape,i.output,fun b hb hne' => i.jr b hb fun id o l' e e1 X=>hne' id o l' (back id o e) (by omega) X,fun id o l' e e1 X e3=>?_,i.pc,by rw[afz];exact i.nx,by rw[E,hl],fun id bE=>by omega,i.wY,fun b c e hb=>?_,fun id bE e=>?_,i.fz⟩
  · by_cases bE:id=d
    · subst bE
      rw[p] at X;simp only[ba] at X;subst X
      exact⟨id,_,l,Y,e1,a1,rfl⟩
    · rw[B id bE] at e
      obtain⟨j,o0,J,K,f2,L,M⟩:=i.own id o l' e (by show S.lim≤id;omega) X e3
      exact⟨j,o0,J,back _ _ K,by omega,L,M⟩
  · rcases i.C2 b c e hb with f | ⟨j,o0,J,K,_,L,M⟩
    · exact .inl f
    · exact .inr ⟨j,o0,J,back _ _ K,by omega,L,M⟩
  · have H:id≠d:=by rintro rfl;rw[Y] at e;simp at e
    rw[B id H]
    exact i.dead id bE (by rw[ag.dM (y7 _) H];exact e)
 have hdf1:kZ P g' [.nq d,.uJ bs] U.defers:=by
  have:=p1.defers
  rw[q2] at this
  generalize U.defers=m at this
  cases this with
  | uJ t=>
    simp only[dH,zD]
    exact .nq p (.uJ t)
 have I:EA (fun x=>x) A (n.set d (.df false)):=by
  refine⟨fun id o e=>?_,fun id _=>by show(n.set d (.df false)).lim≤id;have:(n.set d (.df false)).lim=0:=E;omega,fun k=>by show A.nx+k=n.nx+k;rw[afz],fun id bE=>by show id<n.nx;rw[afz];exact bE⟩
  have bE:id≠d:=by rintro rfl;rw[V] at e;simp at e
  rw[aO.cK,ag.bt (y7 _) bE,B id bE];exact e
 have fin:tB P fn bs Q (tG F' [.uJ bs]) (n.set d (.df false)):=by
  have r1:=Cn I q3
  rw[ae.cK,AV.cK] at r1
  have r2:=hq (fun x=>x) (fun _ _ e=>e) (fun _ _=>rfl) _ _ _ q4 I
  simp only[gL.aX,AV.cK] at r2
  exact⟨q1,rfl,v,by rw[IX];exact r1,r2⟩
 have run:Reach P (tG F' [.nq d,.uJ bs]) n (tB P fn bs Q):=
  Reach.nq (ds:=[.uJ bs]) (by show F'.mode ≠ .run;rw[q1];simp) rfl g1 (by omega) (Reach.done fin)
 obtain⟨F2,S2,g2', w2,fr2,cs2,u,v1,v2,v3,v4,v5,v6,v7,v8⟩:=run g' w' U cs0 cs' (A1 p1 hdf1) (A3 _ p2) hi1
 exact⟨F2,S2,g2', w2,fr2,cs2,u,v1,v2,v3.trans p3,v4.trans p4,v5.trans p5,v6,hx1.trans v7,p8.trans v8⟩
def ZX (a:Nat)(G:ae→ag→Prop):Prop:=∀ σ:Nat→Nat,(∀ x y,σ x=σ y→x=y)→(∀ i,i<a→σ i=i)→∀ F S b,G F S→EA σ S b→G (F.aX σ) b
theorem QK (f:vq a Q):ZX a (tB P fn bs Q):=by
 rintro σ b d F S h ⟨e,q2,v,q3,q4⟩ hs
 refine⟨?_,?_,v.aX σ,Cn hs q3,f σ b d _ _ _ q4 hs⟩
 · cases F;simp only at e;subst e;rfl
 · cases F;simp only at q2;subst q2;rfl
def vK : cH→Bool
 | .nil=>true
 | .hole _=>true
 | .call _ _ _ _ _ _ n=>vK n
 | .rW _ _ _ n=>vK n
 | .loop _ _ _ _ _ n=>vK n
 | .round _ _ _ _ _ _ _ n=>vK n
 | _=>false
def Fi : cH→Option (ae→ag→Prop)
 | .hole G=>some G
 | .call _ _ _ _ _ _ n=>Fi n
 | .rW _ _ _ n=>Fi n
 | .loop _ _ _ _ _ n=>Fi n
 | .round _ _ _ _ _ _ _ n=>Fi n
 | _=>none
def tK : St→Bool
 | .run _ _ _ k=>vK k
 | _=>false
def DW : St→Option (ae→ag→Prop)
 | .run _ _ _ k=>Fi k
 | _=>none
def sY (σ:Nat→Nat):cH→Bool
 | .nil=>true
 | .hole _=>true
 | .call _ F _ _ _ td next=>ju σ F&&td.all (qM σ)&&sY σ next
 | .rW _ F ds next=>ju σ F&&ds.all (AH σ)&&sY σ next
 | .loop _ F d i td next=>ju σ F&&td.all (qM σ)&&Nat.beq (σ d) d&&Nat.beq (σ i) i&&sY σ next
 | .round _ F _ _ _ td id next=>ju σ F&&td.all (qM σ)&&Nat.beq (σ id) id&&sY σ next
 | _=>false
def FH (σ:Nat→Nat):St→Bool
 | .run _ F _ k=>ju σ F&&sY σ k
 | _=>false
variable {G : ae → ag → Prop}
theorem Sn (i:ZX a G):∀ {k:cH} {ls:List (List Nat)},vK k=true→Fi k=some G→vv (fun x=>x) k (N7 k ls):=by
 intro k
 induction k with
 | nil=>intro ls _ h;simp[Fi] at h
 | hole f=>
   intro ls _ h
   simp only[Fi,ba] at h
   subst h
   have:vv (fun x=>x) (.hole f) (.hole f):=.hole fun F S j q hs=>i _ (fun _ _ e=>e) (fun _ _=>rfl) F S j q hs
   cases ls<;>exact this
 | call fn F o all rest td next b=>
   intro ls h hb
   cases ls with
   | nil=>exact .call (by rw[ae.cK];exact ui.refl F) (bg.cK td).symm (by have:=b (ls:=[]) h hb;cases next<;>exact this)
   | cons l ls=>exact .call (by rw[ae.cK];exact gV F l) (bg.cK td).symm (b h hb)
 | rW fn F ds next b=>
   intro ls h hb
   cases ls with
   | nil=>exact .rW (by rw[ae.cK];exact ui.refl F) (hU.cK ds).symm (by have:=b (ls:=[]) h hb;cases next<;>exact this)
   | cons l ls=>exact .rW (by rw[ae.cK];exact gV F l) (hU.cK ds).symm (b h hb)
 | loop fn F d l td next b=>
   intro ls h hb
   cases ls with
   | nil=>exact .loop (by rw[ae.cK];exact ui.refl F) (bg.cK td).symm rfl rfl (by have:=b (ls:=[]) h hb;cases next<;>exact this)
   | cons l' ls=>exact .loop (by rw[ae.cK];exact gV F l') (bg.cK td).symm rfl rfl (b h hb)
 | round fn F o all rest td id next b=>
   intro ls h hb
   cases ls with
   | nil=>exact .round (by rw[ae.cK];exact ui.refl F) (bg.cK td).symm rfl (by have:=b (ls:=[]) h hb;cases next<;>exact this)
   | cons l ls=>exact .round (by rw[ae.cK];exact gV F l) (bg.cK td).symm rfl (b h hb)
 | fU D o os E n bE m next b=>intro ls h;simp[vK] at h
theorem Pr (n:ZX a G){σ:Nat→Nat}(f:∀ x y,σ x=σ y→x=y)(j:∀ i,i<a→σ i=i) :
   ∀ {k:cH} {ls:List (List (Nat×AV))},sY σ k=true→Fi k=some G→ls.length=sl k→vv σ (As k (ls.map (jC σ))) (As k ls):=by
 intro k
 induction k with
 | nil=>intro ls _ h;simp[Fi] at h
 | hole m=>
   intro ls _ h _
   simp only[Fi,ba] at h
   subst h
   have:vv σ (.hole m) (.hole m):=.hole fun F S p q hs=>n _ f j F S p q hs
   cases ls<;>exact this
 | call fn F o all rest td next e=>
   intro ls h hb b
   simp only[sY,aY] at h
   cases ls with
   | nil=>simp[sl] at b
   | cons l ls=>exact .call (by rw[gX (gY h.1.1)];exact ui.refl _) (mb h.1.2).symm (e h.2 hb (by simpa [sl] using b))
 | rW fn F ds next e=>
   intro ls h hb b
   simp only[sY,aY] at h
   cases ls with
   | nil=>simp[sl] at b
   | cons l ls=>exact .rW (by rw[gX (gY h.1.1)];exact ui.refl _) (zO h.1.2).symm (e h.2 hb (by simpa [sl] using b))
 | loop fn F d i td next e=>
   intro ls h hb b
   simp only[sY,aY] at h
   cases ls with
   | nil=>simp[sl] at b
   | cons l ls=>exact .loop (by rw[gX (gY h.1.1.1.1)];exact ui.refl _) (mb h.1.1.1.2).symm (np h.1.1.2).symm (np h.1.2).symm (e h.2 hb (by simpa [sl] using b))
 | round fn F o all rest td id next e=>
   intro ls h hb b
   simp only[sY,aY] at h
   cases ls with
   | nil=>simp[sl] at b
   | cons l ls=>exact .round (by rw[gX (gY h.1.1.1)];exact ui.refl _) (mb h.1.1.2).symm (np h.1.2).symm (e h.2 hb (by simpa [sl] using b))
 | fU D o os E t bE r next e=>intro ls h;simp[sY] at h
section
variable {T : FT} {P : Program} {Qf : gL → ag → Prop}
variable {s : St}
theorem br.alQ (i:ZX a G)(j:vq a Qf){d:List (List Nat)}{ids:List Nat}(f:tK s=true)(hb:DW s=some G)(h:br P Qf (qY d ids s)):br P Qf s:=by
 cases s with
 | run fn F S k=>
   cases d with
   | nil=>exact h.elim
   | cons l ls=>
     simp only[qY] at h
     refine br.aX (σ:=fun x=>x) (fun a b e=>e) (fun r S m q hs=>j _ (fun a b e=>e) (fun _ _=>rfl) r S m q hs) (Sn i f hb) (by rw[ae.cK];exact gV F l) ?_ h
     exact⟨fun id o e=>by rw[aO.cK];exact L4 (AF (nx:=S.nx) e),fun id h=>h,fun k=>rfl,fun id bE=>bE⟩
 | _=>simp[tK] at f
variable {c : St} {ls ls2 : List (List (Nat × AV))} {l l2 : List (Nat × aO)}
theorem Sp (t:ZX a G)(u:vq a Qf)(b:List (Nat×Nat))(N nx:Nat)(j:w8 b N nx [] []=true)(ha:(b.all fun p=>Nat.ble a p.1)=true)(B:a≤N)(m:FH (kK b N nx) c=true)(hb:DW c=some G)(n:ls.length=wR c)(hs:ls2=ls.map (jC (kK b N nx)))(v:aE (pg nx l2) (vw (kK b N nx) l))(h:br P Qf (jB c ls (pg N l))):br P Qf (jB c ls2 (pg nx l2)):=by
 cases c with
 | run fn F S0 k=>
   cases ls with
   | nil=>simp[wR] at n
   | cons s ls=>
     subst hs
     have f:∀ i,i<a→kK b N nx i=i:=by
       intro i hi
       have:∀ l:List (Nat×Nat),(l.all fun p=>Nat.ble a p.1)=true→kK l N nx i=i:=by
        intro l
        induction l with
        | nil => intro _;simp only[kK];split
                 · rename_i e;have:=gb e;omega
                 · rfl
        | cons p r w=>
          intro d
          simp only[nB,aY] at d
          simp only[kK]
          cases hb:Nat.beq p.1 i with
          | true=>have:=np hb;have:=gb d.1;omega
          | false=>exact w d.2
       exact this b ha
     simp only[FH,aY] at m
     refine br.aX (σ:=kK b N nx) (ye j) (fun r S A q hs=>u _ (ye j) f r S A q hs) (Pr t (ye j) f m.2 hb (by simpa [wR] using n)) (by rw[gX (gY m.1)];exact ui.refl _) ?_ h
     obtain⟨C,h1⟩:=IQ j
     refine⟨fun id o e=>?_,fun _ _=>bU _,fun k=>?_,fun id bE=>?_⟩
     · refine Ge v (kK b N nx id) (o.aX (kK b N nx)) ?_
       exact iB.2 ⟨(id,o),AF e,rfl⟩
     · show kK b N nx (N+k)=nx+k
       rcases h1 (N+k) with⟨x,y⟩ | ⟨x,y⟩ | ⟨x,y,z⟩
       · omega
       · rw[y];omega
       · omega
     · have bE:id<N:=bE
       show kK b N nx id<nx
       rcases h1 id with⟨x,y⟩ | ⟨x,y⟩ | ⟨x,y,z⟩<;>omega
 | _=>simp[DW] at hb
end
section
variable {T : FT} {P : Program} {Q : gL → ag → Prop}
variable {s : St}
theorem UK (E:cX T P)(b:ZX a G)(d:vq a Q)(n:Nat)(e:List (List Nat))(ids:List Nat){s' : St}(f:tK (ab T P n s)=true)(hb:DW (ab T P n s)=some G)(h:qY e ids (ab T P n s)=s')(q:SX P Q s'):SX P Q s:=
 ⟨cO E.ok E.mix n (br.alQ b d f hb (by rw[h];exact q.out))⟩
variable {c : St} {ls ls2 : List (List (Nat × AV))} {l l2 : List (Nat × aO)}
theorem YI (E:cX T P)(f:ZX a G)(i:vq a Q)(n:Nat)(j:List (List Nat))(ids:List Nat)(b:List (Nat×Nat))(N nx:Nat)(k:tK (ab T P n s)=true)(hb:DW (ab T P n s)=some G)(e:DW c=some G)(h:qY j ids (ab T P n s)=jB c ls2 (pg nx l2))(d:(w8 b N nx [] []&&b.all (fun p=>Nat.ble a p.1)&&Nat.ble a N)=true)(m:FH (kK b N nx) c=true)(o:Nat.beq ls.length (wR c)=true)(q:mO l2=true)(hs:ls2=ls.map (jC (kK b N nx)))(r:l2=vw (kK b N nx) l)(t:SX P Q (jB c ls (pg N l))):SX P Q s:=by
 simp only[aY] at d
 exact UK E f i n j ids k hb h ⟨Sp f i b N nx d.1.1 d.1.2 (gb d.2) m e (np o) hs (by rw[←r];exact IS q) t.out⟩
def UL (P:Program)(Q:gL→ag→Prop)(s:St):St:=
 match s with
 | .run fn F S .nil=>.run fn (tG F (F.defers++[.uJ []])) S (.hole (tB P fn [] Q))
 | _=>.bad 74
theorem VS (E:cX T P)(n:Nat)(q:SX P Q (UL P Q (ab T P n s))):SX P Q s:=by
 refine⟨cO E.ok E.mix n ?_⟩
 generalize ab T P n s=s at q
 have q:=q.out
 cases s with
 | run fn F S k=>
   cases k with
   | nil=>
     have q:Reach P (tG F (F.defers++[.uJ []])) S (tB P fn [] Q):=q
     exact(Reach.OA q).aey
   | _=>exact q.elim
 | _=>exact q.elim
def He : St→Option (ae→ag→Prop)
 | .run _ _ _ (.hole G)=>some G
 | _=>none
def afb : St→Func
 | .run fn _ _ _=>fn
 | _=>default
def aj1 : St→List hU
 | .run _ F _ _=>F.defers
 | _=>[]
def Qp : St→Bool
 | .run _ F _ _=>match F.mode with
   | .returning=>true
   | _=>false
 | _=>false
def aal (P:Program):St→Option AV
 | .run fn F S _=>uQ P fn F S
 | _=>none
def ajE (P:Program)(Q:gL→ag→Prop)(d b:Nat)(bs:List Nat)(s:St):St:=
 match s with
 | .run fn F S _=>.run fn (tG F [.uJ (b::bs)]) (S.del d) (.hole (tB P fn (b::bs) Q))
 | _=>.bad 74
theorem YJ (E:cX T P)(j:vq a Q)(n:Nat)(d:Nat)(e:He (ab T P n s)=some (tB P (afb (ab T P n s)) bs Q))(f:aj1 (ab T P n s)=[.nq d,.uJ bs])(h:(j5 (ab T P n s)).get d=some (.df true))(i:Nat.beq (j5 (ab T P n s)).lim 0=true)(q:∀ b,SX P Q (ajE P Q d b bs (ab T P n s))):SX P Q s:=by
 refine⟨cO E.ok E.mix n ?_⟩
 generalize ab T P n s=s at e f h i q
 cases s with
 | run fn F S k=>
   cases k with
   | hole G=>
     simp only[He,afb,ba] at e
     subst e
     show Reach P F S (tB P fn bs Q)
     exact Reach.drop j f h (np i) fun b=>(q b).out
   | _=>simp[He] at e
 | _=>simp[He] at e
theorem aez (E:cX T P)(n:Nat){k:Nat}{v v' : AV}{jz:List (Option aO)}{add:List aO}(b:List Nat)(f:He (ab T P n s)=some (tB P (afb (ab T P n s)) bs (RG k v' jz add)))(j:aj1 (ab T P n s)=[.uJ bs])(d:Qp (ab T P n s)=true)(h:aal P (ab T P n s)=some v)(m:zr k add.length b=true)(hf:lP (j5 (ab T P n s)) b v v')(hu:kz (j5 (ab T P n s)) b 0 jz)(ha:pj (j5 (ab T P n s)) b (b.drop k) add):SX P Q s:=by
 refine⟨cO E.ok E.mix n ?_⟩
 generalize ab T P n s=s at f j d h hf hu ha
 cases s with
 | run fn F S r=>
   cases r with
   | hole G=>
     simp only[He,afb,ba] at f
     subst f
     show Reach P F S (tB P fn bs (RG k v' jz add))
     have d:F.mode=.returning:=by
       simp only[Qp] at d
       split at d
       · assumption
       · simp at d
     refine Reach.done ⟨d,j,v,h,?_⟩
     simp only[zr,aY,decide_eq_true_eq,dh,List.mem_range,beq_iff_eq] at m
     obtain⟨⟨k1,k2⟩,k3⟩:=m
     refine⟨_,b,rfl,k1,np k2,k3,hf,fun i o' e=>?_,fun i o' e=>?_⟩
     · have:=vP hu i o' e
       rwa [uu] at this
     · obtain⟨id,o,p,q⟩:=vQ ha i o' e
       exact⟨id,o,by simp_all,q⟩
   | _=>simp[He] at f
 | _=>simp[He] at f
end
def Ui (v:AV)(b:ag)(s:St):St:=
 match s with
 | .fU D k=>match D.os with
   | o::os=>match hidden (ay D.dt o.after.toList) D.kx with
     | some bE=>.fU (D.next o os (ay D.dt o.after.toList) v b.nx (sU b D.S.nx (b.nx-D.S.nx)) (some ⟨D.S.nx,D.S.nx,jA D.S.m bE⟩)) k
     | none=>.bad 5
   | []=>.bad 5
 | _=>.bad 5
section
variable {T : FT} {P : Program} {Qf : gL → ag → Prop}
variable {s : St}
theorem Sq (y:di T P)(t:P.follows .mixedOrders=true)(n:Nat)(g:Nat)(args:List AV)(E:ag)(v:AV)(f:ag)(h:Tc T P (ab T P n s)=some (g,args,E))(A:fY P g args E fun r S=>r=.ret v∧S=f)(q:br P Qf (Ui v f (ab T P n s))):br P Qf s:=by
 refine cO y t n ?_
 generalize ab T P n s=s at h q
 cases s with
 | fU D k=>
   simp only[Tc,Ui] at h q
   cases d:D.os with
   | nil=>simp_all
   | cons o os=>
     rw[d] at h q
     simp only at h q
     split at h<;>try (simp at h;done)
     rename_i c bE i B hh
     split at h<;>simp only[ba,lR,reduceCtorEq] at h
     rename_i C
     obtain⟨rfl,rfl,rfl⟩:=h
     rw[hh] at q
     simp only at q
     obtain⟨L,ha⟩:=kO y i C
     have w:=fB i
     refine fD.mono (fun Q q=>?_) q
     refine qJ.step q d rfl (fun O S0 E0 M v0 ch z H I=>?_)
     have j:n7 P D.ops o D.F.get ⟨D.S.nx,D.S.nx,jA D.S.m bE⟩ v f:=n7.call B w (ha _) A
     obtain⟨_,x,N⟩:=z.bE hh
     have u:∀ id ob,(⟨D.S.nx,D.S.nx,jA D.S.m bE⟩:ag).get id=some ob→id∉bE∧D.S.get id=some ob:=by
      simp_all
     have J:=I _ _ _ j rfl fun id ob e=>(u id ob e).2
     have:=z.news H d (ids:=[]) (nw:=sU f D.S.nx (f.nx-D.S.nx)) (Eo:=some ⟨D.S.nx,D.S.nx,jA D.S.m bE⟩) j J rfl (.inr rfl) (fun id ob e=>⟨(u id ob e).2,x id (u id ob e).1⟩) (fun id ob e K p=>absurd p (Nat.not_lt.2 K)) (fun id e _=>by simp at e) (fun id e _ p=>by simp at e)
      (fun id ob e=>by
       obtain⟨a,_,b,c⟩:=vO e
       exact⟨a,b,c⟩) (.inl rfl)
     exact this
 | _=>simp[Tc] at h
end
def Tw (v:AV)(r:ag→ag)(s:St):St:=
 match s with
 | .fU D k=>Ui v (r (Rg (.fU D k))) (.fU D k)
 | .run fn F S k=>N9 v r (.run fn F S k)
 | _=>.bad 5
section
variable {T : FT} {P : Program} {Q : gL → ag → Prop}
variable {s : St}
theorem VT (E:cX T P)(n:Nat)(g:Nat)(args:List AV)(v:AV)(r:ag→ag)(h:ZW T P (ab T P n s)=some (g,args))(e:fY P g args (Rg (ab T P n s)) fun x f=>x=.ret v∧f=r (Rg (ab T P n s)))(q:SX P Q (Tw v r (ab T P n s))):SX P Q s:=by
 refine⟨cO E.ok E.mix n ?_⟩
 generalize ab T P n s=s at h e q
 have q:=q.out
 cases s with
 | run fn F S k=>exact FN E.ok E.mix 0 g args S v _ h rfl ⟨fn,F,S,k,rfl⟩ e q
 | fU D k=>
   simp only[ZW] at h
   cases b:Tc T P (.fU D k) with
   | none=>rw[b] at h;simp at h
   | some p=>
     obtain⟨g', d,j⟩:=p
     rw[b] at h
     simp only[ba,lR] at h
     obtain⟨rfl,rfl⟩:=h
     have m:j=Rg (.fU D k):=by
      simp only[Tc] at b
      simp only[Rg]
      cases i:D.os with
      | nil=>simp_all
      | cons o os=>
        rw[i] at b
        simp only at b
        split at b<;>try (simp at b;done)
        rename_i hh
        split at b<;>simp only[ba,lR,reduceCtorEq] at b
        simp_all
     subst m
     exact Sq E.ok E.mix 0 g' d _ v _ b e q
 | _=>simp[ZW] at h
end
end
noncomputable section
def Cf (fn:Func):cH→Func
 | .call b _ _ _ _ _ n=>Cf b n
 | .rW b _ _ n=>Cf b n
 | .loop b _ _ _ _ n=>Cf b n
 | .round b _ _ _ _ _ _ n=>Cf b n
 | _=>fn
def Ix : St→Func
 | .run fn _ _ k=>Cf fn k
 | _=>default
def auh (bs:List Nat):hU→hU
 | .uJ _=>.uJ bs
 | d=>d
def afA (bs:List Nat)(k:cH)(F:ae):ae:=match k with
 | .hole _=>tG F (F.defers.map (auh bs))
 | _=>F
def afB (G:ae→ag→Prop)(bs:List Nat):cH→cH
 | .hole _=>.hole G
 | .call fn F o all rest td n=>.call fn (afA bs n F) o all rest td (afB G bs n)
 | .rW fn F ds n=>.rW fn (afA bs n F) ds (afB G bs n)
 | .loop fn F d l td n=>.loop fn (afA bs n F) d l td (afB G bs n)
 | .round fn F o all rest td id n=>.round fn (afA bs n F) o all rest td id (afB G bs n)
 | k=>k
def aui (P:Program)(Q:gL→ag→Prop)(bs:List Nat):St→St
 | .run fn F S k=>.run fn (afA bs k F) S (afB (tB P (Cf fn k) bs Q) bs k)
 | s=>s
section
variable {T : FT} {P : Program} {Q : gL → ag → Prop}
variable {a : Nat} {s : St}
theorem aeA (E:cX T P)(b:vq a Q)(n:Nat)(c:List (List Nat))(ids:List Nat)(bs:List Nat){s' : St}(d:tK (ab T P n s)=true)(hb:DW (ab T P n s)=some (tB P (Ix (ab T P n s)) bs Q))(h:qY c ids (ab T P n s)=s')(q:SX P Q s'):SX P Q s:=
 UK E (QK b) b n c ids d hb h q
theorem YK (E:cX T P)(f:vq a Q)(n:Nat)(g:List (List Nat))(ids:List Nat)(b:List (Nat×Nat))(N nx:Nat)(bs:List Nat){c:St}{ls d:List (List (Nat×AV))}{l l2:List (Nat×aO)}(i:tK (ab T P n s)=true)(hb:DW (ab T P n s)=some (tB P (Ix (ab T P n s)) bs Q))(e:DW c=some (tB P (Ix (ab T P n s)) bs Q))(h:qY g ids (ab T P n s)=jB c d (pg nx l2))(j:(w8 b N nx [] []&&b.all (fun p=>Nat.ble a p.1)&&Nat.ble a N)=true)(k:FH (kK b N nx) c=true)(m:Nat.beq ls.length (wR c)=true)(o:mO l2=true)(hs:d=ls.map (jC (kK b N nx)))(q:l2=vw (kK b N nx) l)(r:SX P Q (jB c ls (pg N l))):SX P Q s:=
 YI E (QK f) f n g ids b N nx i hb e h j k m o hs q r
theorem YL (E:cX T P)(n:Nat){k:Nat}{v v' : AV}{jz:List (Option aO)}{add:List aO}{bs:List Nat}(b:List Nat)(c:He (ab T P n s)=some (tB P (afb (ab T P n s)) bs (RG k v' jz add)))(d:aj1 (ab T P n s)=[.uJ bs])(e:Qp (ab T P n s)=true)(h:aal P (ab T P n s)=some v)(f:zr k add.length b=true)(hf:lP (j5 (ab T P n s)) b v v')(hu:kz (j5 (ab T P n s)) b 0 jz)(ha:pj (j5 (ab T P n s)) b (b.drop k) add):SX P (RG k v' jz add) s:=
 aez E n b c d e h f hf hu ha
end
attribute [simp] gC
section
variable {P : Program} {α : Type} {enc : α → AV}
end
section
variable {T : FT} {P : Program} {Q : gL → ag → Prop}
end
def ZF (P:Program)(D:rX)(o:Oper):Option dg:=
 match tx D.F D.ops o,ct o.op,gO o.op with
 | some true,false,none=>DT P D.F.eval ⟨D.S.nx,D.S.nx,seen D.S (ay D.dt o.after.toList) D.kx (iG D.F (iY o.op)) .nil⟩ o.op
 | _,_,_=>none
def aam (P:Program)(s:St):Option dg:=
 match s with
 | .run fn F S k=>Zj P (.run fn F S k)
 | .fU D _=>match D.os with
   | o::_=>ZF P D o
   | []=>none
 | _=>none
def Rs (s:St):ag:=
 match s with
 | .run _ _ S _=>S
 | .fU D _=>match D.os with
   | o::_=>⟨D.S.nx,D.S.nx,seen D.S (ay D.dt o.after.toList) D.kx (iG D.F (iY o.op)) .nil⟩
   | []=>ag.empty
 | _=>ag.empty
def ZG (r:dg)(s:St):St:=
 match s with
 | .run fn F S k=>Jp r (.run fn F S k)
 | .fU D k=>match D.os with
   | o::os=>Fo 5 (w7 D o os (ay D.dt o.after.toList) k ⟨D.S.nx,D.S.nx,seen D.S (ay D.dt o.after.toList) D.kx (iG D.F (iY o.op)) .nil⟩ []
    (some ⟨D.S.nx,D.S.nx,seen D.S (ay D.dt o.after.toList) D.kx (iG D.F (iY o.op)) .nil⟩) (some r))
   | []=>.bad 5
 | _=>.bad 5
def LN (r:ag→dg)(s:St):St:=ZG (r (Rs s)) s
section
variable {T : FT} {P : Program} {Q : gL → ag → Prop}
variable {s : St}
theorem lF (E:cX T P)(n:Nat)(o:ag→Option dg)(r:ag→dg)(h:aam P (ab T P n s)=o (Rs (ab T P n s)))(i:j7 (r (Rs (ab T P n s))) (ab T P n s)=true)(f:o (Rs (ab T P n s))=some (r (Rs (ab T P n s))))(q:SX P Q (LN r (ab T P n s))):SX P Q s:=by
 refine⟨cO E.ok E.mix n ?_⟩
 generalize ab T P n s=s at h i f q
 have q:=q.out
 cases s with
 | run fn F S k=>exact QF E.ok E.mix 0 o r h i f q
 | fU D k=>
   simp only[aam,LN,ZG] at h q
   cases c:D.os with
   | nil=>
     simp_all
   | cons op os=>
     rw[c] at h q
     simp only at h q
     have h:=h.trans f
     unfold ZF at h
     split at h<;>try (simp at h;done)
     rename_i j g t
     rw[nf] at h
     have b:∀ {nx lim id ob},(⟨nx,lim,seen D.S (ay D.dt op.after.toList) D.kx (iG D.F (iY op.op)) .nil⟩:ag).get id=some ob→id∈iG D.F (iY op.op)∧D.S.get id=some ob∧jl (ay D.dt op.after.toList) D.kx id=true:=by
       intro nx lim id ob e
       have hi:=ag.gv e
       rw[ag.cE hi] at e
       rcases AU hi e with q | q
       · rw[PT.get_nil] at q;simp at q
       · exact q
     generalize u:r (Rs (.fU D k))=l at *
     generalize v:seen D.S (ay D.dt op.after.toList) D.kx (iG D.F (iY op.op)) .nil=m at *
     cases h2:w7 D op os (ay D.dt op.after.toList) k ⟨D.S.nx,D.S.nx,m⟩ [] (some ⟨D.S.nx,D.S.nx,m⟩) (some l) with
     | none=>rw[h2] at q;exact q.elim
     | some s=>
       rw[h2] at q
       exact xw (E:=⟨D.S.nx,D.S.nx,m⟩) c j g (by rw[h];exact h2) rfl (.inr rfl) (fun id ob e=>(b e).2) (fun id ob e p d=>absurd d (Nat.not_lt.2 p)) (fun id e=>by simp at e) (fun id e d=>by simp at e) (.inl rfl) (by simpa only[Fo] using q)
 | _=>
   simp only[aam] at h
   have h:=h.trans f
   simp at h
end
def aeB (m:Nat):St→St
 | .run fn F S k=>.run fn F ⟨m,S.lim,S.m⟩ k
 | s=>s
section
variable {T : FT} {P : Program} {Q : gL → ag → Prop}
variable {s : St}
theorem Cg (E:cX T P)(n m:Nat)(c:Nat.ble (j5 (ab T P n s)).nx m=true)(q:SX P Q (aeB m (ab T P n s))):SX P Q s:=by
 refine⟨cO E.ok E.mix n ?_⟩
 generalize ab T P n s=s at c q
 have q:=q.out
 cases s with
 | run fn F S k=>
   have c:S.nx≤m:=gb c
   have j:∀ id,(⟨m,S.lim,S.m⟩:ag).get id=S.get id:=fun _=>rfl
   refine br.reach (fun G d=>Reach.DS d rfl rfl rfl rfl fun g w fr cs hf hi=>⟨fr,w,g,hf,?_,?_,Steps.refl _ _⟩) q
   · exact⟨hi.ro,fun id o e=>hi.ob id o e,fun a b o1 o2 l l' e f p i hb=>hi.inj a b o1 o2 l l' e f p i hb,fun id h=>hi.fresh id (lH c h)⟩
   · exact⟨bJ _,rfl,⟨rfl,bJ _⟩,rfl,fun _ _ _=>rfl,fun id o l h h1 h2 _=>⟨id,o,l,h,h1,h2,rfl⟩,Gh.le_refl _,c,rfl,fun _ _=>rfl,fun _ _=>rfl,fun _ _ e _=>.inl e,fun _ _ e=>e,fun _ _=>rfl⟩
 | _=>exact q
end
end
noncomputable section
def akH (P:Program)(S:ag)(t:TypeId)(x:AV):Option dg:=DK (x6 P S t x)
variable {P : Program} {S : ag} {t : Nat} {s : ByteArray}
theorem aeC {nx:Nat}(hu:P.underlying t=some .string)(a:S.nx=nx)(b:(Nat.ble (nx+1) 8192&&Nat.ble S.lim nx)=true):akH P S t (.sc (.string s))=some (.val (.ptr nx 0 0) (S.add (.si s 0))):=by
 subst a
 simp only[akH,x6,hu,b,DK]
def afc (S:ag)(a:AV):Option dg:=DK (zA S a true)
variable {id p : Nat}
theorem aeD (a:S.get id=some (.si s p))(b:Nat.ble S.lim id=true)(h:decide (p+1≤s.size)=true) :
  afc S (.ptr id 0 0)=some (.val (.bO [.sc (.bool true),.sc (.int .i64 (p:Nat)),.sc (.int .i32 ((Utf8.decode s p).1:Nat))]) (S.set id (.si s (p+(Utf8.decode s p).2)))):=by
 simp_all[EY,afc,zA,DK]
theorem aeE (a:S.get id=some (.si s p))(h:decide (p+1≤s.size)=false):afc S (.ptr id 0 0)=some (.val (.bO [.sc (.bool false)]) S):=by
 have h:Nat.ble (p+1) s.size=false:=by
  simp_all[sw]
 simp only[afc,zA,a,h,DK]
variable {σ : Nat → Nat}
theorem ES (s:ByteArray)(p:Nat):(aO.si s p).aX σ=.si s p:=rfl
def afC (a b:ByteArray):Bool:=a.data.toList==b.data.toList
def tH {β:Type}:List (ByteArray×β)→ByteArray→Option β
 | [],_=>none
 | (a,b)::r,k=>if afC k a then some b else tH r k
def ss {β:Type}:List (ByteArray×β)→ByteArray→β→List (ByteArray×β)
 | [],k,v=>[(k,v)]
 | (a,b)::r,k,v=>if afC k a then(k,v)::r else(a,b)::ss r k v
variable {β : Type} {g : β → AV}
theorem IY (x:ByteArray):∀(l:List (ByteArray×β)) (i:Nat),∃ r,uw .string (.sc (.string x)) (l.map (cg encS g)) i=some r∧(match r with
   | some (j,v)=>∃ b,tH l x=some b∧v=g b∧i≤j∧∀ y:β,(l.map (cg encS g)).set (j-i) (.sc (.string x),g y)=(ss l x y).map (cg encS g)
   | none=>tH l x=none∧∀ y:β,l.map (cg encS g)++[(.sc (.string x),g y)]=(ss l x y).map (cg encS g)):=by
 intro l
 induction l with
 | nil=>intro i;exact⟨none,rfl,rfl,fun y=>rfl⟩
 | cons p l h=>
   obtain⟨a,b⟩:=p
   intro i
   simp only[dH,cg,uw,encS,Zi]
   cases e:(x.data.toList==a.data.toList) with
   | true=>
     have d:afC x a=true:=e
     refine⟨_,rfl,b,by simp[tH,d],rfl,bJ _,fun y=>by simp[ss,d,cg,encS]⟩
   | false=>
     have d:afC x a=false:=e
     obtain⟨r,m,q2⟩:=h (i+1)
     refine⟨r,m,?_⟩
     cases r with
     | none=>
       simp_all[tH,ss,cg,encS]
     | some o=>
       obtain⟨j,v⟩:=o
       obtain⟨c,h1,h2,h3,h4⟩:=q2
       refine⟨c,by simp[tH,d,h1],h2,by omega,fun y=>?_⟩
       have:=h4 y
       rw[show j-i=(j-(i+1))+1 from by omega]
       simp[ss,d,cg,encS,this]
def Ch (P:Program)(t:TypeId):Option AV:=
 match P.underlying t with
 | some (.map a b)=>match P.underlying a,ja P b with
   | some .string,some z=>some z
   | _,_=>none
 | _=>none
variable {z : AV}
theorem Du {t:TypeId}(h:Ch P t=some z):∃ d e,P.underlying t=some (.map d e)∧P.underlying d=some .string∧ja P e=some z:=by
 unfold Ch at h
 split at h<;>try (simp at h;done)
 rename_i d e hu
 split at h<;>simp only[ba,reduceCtorEq] at h
 rename_i a b
 subst h
 exact⟨d,e,hu,a,b⟩
section
variable {P : Program} {β : Type} {g : β → AV} {S : ag} {t id : Nat} {l : List (ByteArray × β)} {x : ByteArray}
theorem YM {z0:β}(a:Ch P t=some (g z0))(d:S.get id=some (.mp (l.map (cg encS g)))):Rf P S t (.cR id) (.sc (.string x)) false=some (.val (g ((tH l x).getD z0)) S):=by
 obtain⟨o,q,h1,h2,h3⟩:=Du a
 obtain⟨r,e,q2⟩:=IY (g:=g) x l 0
 simp only[Rf,s9,h1,h2,d,rD,e,h3]
 cases r with
 | none=>simp only[q2.1,Option.getD_none,mP]
 | some h=>
   obtain⟨j,v⟩:=h
   obtain⟨b,m,rfl,_⟩:=q2
   simp only[m,xm,mP]
theorem YN {y:β}(a:Ch P t=some z)(d:S.get id=some (.mp (l.map (cg encS g))))(e:Nat.ble S.lim id=true):SW P S t (.cR id) (.sc (.string x)) (g y)=some (.skip (S.set id (.mp ((ss l x y).map (cg encS g))))):=by
 obtain⟨o,q,h1,h2,_⟩:=Du a
 obtain⟨r,h,q2⟩:=IY (g:=g) x l 0
 simp only[SW,oq,h1,h2,d,rD,e,iC,h]
 cases r with
 | none=>simp only[q2.2 y,NT]
 | some m=>
   obtain⟨j,v⟩:=m
   obtain⟨b,u,_,_,a2⟩:=q2
   simp_all[NT]
end
theorem th (l:List (ByteArray×Bool)):(aO.mp (l.map (cg encS gB))).aX σ=.mp (l.map (cg encS gB)):=yu (by simp) (by simp) l
section
variable {P : Program} {β : Type} {g : β → AV} {S : ag} {t id : Nat} {k : IntKind} {l : List (Int × β)} {x c : Int} {V z : AV}
end
variable {α : Type}
def WT (enc:α→AV)(l:List α)(V:List AV)(r:Nat)(z:AV):List AV:=l.map enc++(V++List.replicate r z)
variable {enc : α → AV} {r : Nat}
@[simp] theorem ae5 {l:List α}{V:List AV}:(WT enc l V r z).length=l.length+(V.length+r):=by simp[WT]
section
variable {P : Program} {α : Type} {enc : α → AV} {S : ag} {t id n : Nat} {l : List α} {V z : AV} {V0 : List AV} {r : Nat} {i : Int}
end
theorem VU (a b:List AV):eG σ (a++b)=eG σ a++eG σ b:=by
 induction a<;>simp_all[eG]
theorem Ma {σ:Nat→Nat}{z:AV}(h:z.aX σ=z):∀ r,eG σ (List.replicate r z)=List.replicate r z
 | 0=>rfl
 | r+1=>by simp[List.replicate_succ,eG,h,Ma h r]
theorem ti (h:∀ x,aV (enc x)=true)(l:List α)(V:List AV)(r:Nat):eG σ (WT enc l V r .an)=WT enc l (eG σ V) r .an:=by
 simp[WT,VU,mV h,Ma (σ:=σ) (z:=.an) rfl]
variable {f : α → AV}
theorem Ss (hf:∀ x,aV (f x)=true)(a:∀ x,aV (g x)=true)(l:List (α×β))(K V:AV):(aO.mp (l.map (cg f g)++[(K,V)])).aX σ=.mp (l.map (cg f g)++[(K.aX σ,V.aX σ)]):=by
 have:=L9 (σ:=σ) hf a l
 simp only[YH,OB,this,dH,sH]
variable {k : IntKind}
theorem tj (h:∀ x,aV (enc x)=true)(l:List (Int×List α)):(aO.mp (l.map (cg (aA k) (Rr enc)))).aX σ=.mp (l.map (cg (aA k) (Rr enc))):=yu (by simp) (fun x=>cu h x) l
theorem pD (h:∀ x,aV (enc x)=true)(l:List (Int×List α))(K V:AV):(aO.mp (l.map (cg (aA k) (Rr enc))++[(K,V)])).aX σ=.mp (l.map (cg (aA k) (Rr enc))++[(K.aX σ,V.aX σ)]):=Ss (by simp) (fun x=>cu h x) l K V
section
variable {T : FT} {P : Program} {Q : gL → ag → Prop} {α β : Type}
variable {es : List AV}
theorem WJ.app {l m b:List AV}(h:WJ r es m b):WJ r es (l++m) (l++b):=by
 induction l with
 | nil=>exact h
 | cons a l d=>exact .cons .refl d
end
section
variable {P : Program} {α : Type} {enc : α → AV}
end
variable {es : List AV} {len : Nat}
theorem Mb {ys:List α}{z:Nat}(a:es=ys.map enc)(b:len=ys.length)(d:S.get id=some (.arr z es)):iX S (.ai id 0 len)=some (ys.map enc):=by
 subst a;subst b
 exact bC _ (.inr ⟨id,z,rfl,d⟩)
theorem uj.WT {S:ag}{d:List Nat}{α:Type}{sz r:Nat}{enc:α→AV}{l:List α}{V o:List AV}(q:∀ x,aV (enc x)=true)(h:vy S d V o):uj S d (.arr sz (WT enc l V r .an)) (.arr sz (WT enc l o r .an)):=by
 have rep:∀ r,vy S d (List.replicate r .an) (List.replicate r .an):=by
  intro r
  induction r with
  | zero=>exact .nil
  | succ r e=>rw[List.replicate_succ];exact .cons (.pure rfl) e
 have app:∀ {a j b m:List AV},vy S d a j→vy S d b m→vy S d (a++b) (j++m):=by
  intro a j b m h k
  induction h with
  | nil=>exact k
  | cons h t e=>exact .cons h e
 have mp:∀ l:List α,vy S d (l.map enc) (l.map enc):=by
  intro l
  induction l with
  | nil=>exact .nil
  | cons a l e=>exact .cons (.pure (q a)) e
 exact .agu (app (mp l) (app h (rep r)))
theorem uj.auj {d:List Nat}(hf:∀ x,aV (f x)=true)(m:∀ x,aV (g x)=true){l:List (α×β)}{K V j:AV}(o:aV K=true)(h:lP S d V j):uj S d (.mp (l.map (cg f g)++[(K,V)])) (.mp (l.map (cg f g)++[(K,j)])):=by
 refine .mp (by simp) fun i p v e a=>?_
 by_cases b:i<(l.map (cg f g)).length
 · rw[B5 b] at e a
   rw[e] at a
   simp only[ba] at a
   subst a
   have q:Qo (l.map (cg f g))=true:=IU hf m l
   have:=dh.1 q p (uI e)
   simp only[aY] at this
   exact⟨.pure this.1,.pure this.2⟩
 · rw[B6 (by omega)] at e a
   have u:i-(l.map (cg f g)).length=0:=by
    simp_all[lr]
   rw[u] at e a
   simp only[ur,ba] at e a
   subst e;subst a
   exact⟨.pure o,h⟩
def av6 (l:List Nat)(s:St):St:=
 match s with
 | .run fn F S k=>match F.todo with
   | .code (.region _ ops _)::td=>.run fn { F with todo:=.ops ops l::td } S k
   | _=>.bad 91
 | _=>.bad 91
def OC (t:Nat)(s:St):Option AV:=
 match s with
 | .run _ F _ _=>F.get t
 | _=>none
def W8 (t:Nat)(v:AV)(s:St):St:=
 match s with
 | .run fn F S k=>.run fn (Rn F (some t) v) S k
 | s=>s
theorem Reach.same {F:ae}{G:ae→ag→Prop}{v:AV}(o:F.get t=some v)(h:Reach P (F.put (some t) v) S G):Reach P F S G:=by
 intro g w fr d cs a b c
 obtain⟨k1,k2,k3,k4,k5,k6,k7,k8⟩:=F.LW (some t) v
 have hf:m8 P g (F.put (some t) v) fr:=⟨by rw[k5];exact a.fn,by rw[k1];exact a.size,fun s u e=>by
  rcases ae.Qz e with⟨rfl,_,rfl⟩ | ⟨_,e⟩
  · exact a.get _ _ o
  · exact a.get _ _ e,by rw[k8];exact a.todo,by rw[k2];exact a.defers,by rw[k3];exact a.mode,by rw[k4];exact a.kind,by rw[k6];exact a.round⟩
 obtain⟨F2,q,y,A,j,m,B,C,D,E,H,I,J⟩:=h g w fr d cs hf (b.congr k4 k7) c
 exact⟨F2,q,y,A,j,m,B,C,D,E.trans k4,H.trans k5,I.trans k6,J⟩
variable {T : FT} {Q : gL → ag → Prop}
theorem aeF (E:cX T P)(n:Nat){s:St}(t:Nat){a k:Int}(c:a=k)(h:OC t (ab T P n s)=some (.sc (.int .i64 a)))(q:SX P Q (W8 t (.sc (.int .i64 k)) (ab T P n s))):SX P Q s:=by
 subst c
 refine⟨cO E.ok E.mix n ?_⟩
 generalize ab T P n s=s at h q
 have q:=q.out
 cases s with
 | run fn F S k=>
   simp only[W8,EH] at q
   exact fD.mono (fun b q=>Reach.same h q) q
 | _=>simp[OC] at h
variable {sz : Nat}
theorem Ps {E E1:ag}{g g' : Gh}{w w' : World}{x:Value}(hi:Inv E1 g' w')(hx:Ext E g w E1 g' w')(F:E1.get r=some (.arr sz es))(R:VR g' (.ai r 0 es.length) x)(B:E.lim≤r) :
   ∃ u,VR u (.lit es) x∧Inv (E1.del r) u w' ∧ Ext E g w (E1.del r) u w' := by
 have m:∀ id o,(E1.del r).get id=some o→id≠r∧E1.get id=some o:=by
   intro id o e
   by_cases h:id=r
   all_goals simp_all[ag.iK,ag.dM]
 obtain⟨l,l1,l2,c,t,X,p2,G,p4,Y,Z⟩:=hi.ob _ _ F
 obtain⟨u,d⟩:∃ u:Gh,u={ ro:=fun b=>if b=l.cU then some c else g'.ro b,ph:=g'.ph }:=⟨_,rfl⟩
 have A:Gh.le g' u:=by
   refine⟨fun b c' e=>?_,fun _ _ e=>by rw[d];exact e⟩
   rw[d]
   simp only
   split
   · rename_i hb;subst hb;rw[l2] at e;simp at e
   · exact e
 have K:u.ro l.cU=some c:=by rw[d];simp
 refine⟨u,?_,⟨fun b c' e=>?_,fun id o e=>?_,fun id L o o' l' M e e' q U hb=>?_,fun id bE=>?_⟩,⟨hx.size,hx.os,hx.tape,hx.output,hx.jr,fun id o l' e H D I=>?_,Gh.le_trans hx.pc A,hx.nx,hx.lim,fun id bE=>?_,fun id bE=>by rw[d];exact hx.wY id bE,fun b c' e hb=>?_,fun id bE e=>?_,hx.fz⟩⟩
 · generalize v:es.length=len at R
   cases R with
   | ai J C hb=>
     rw[l1] at J;simp only[ba] at J;subst J
     subst v
     refine .lit (sz:=l.sz) K (fun e he=>?_) (by rw[G];omega) C fun i j e a y H D I=>?_
     · rw[G];exact Y e he
     · exact(Z i j e a y H D (by rw[←G,←I];congr 1;omega)).mono A
   | hZ=>
     have:es=[]:=xq.1 v
     subst this;exact .jZ
 · rw[d] at e
   simp only at e
   split at e
   · rename_i hb;simp only[ba] at e;subst e;subst hb;exact⟨t,_,X⟩
   · exact hi.ro b c' e
 · obtain⟨N,e⟩:=m id o e
   obtain⟨l', W,q2,q3⟩:=hi.ob id o e
   refine⟨l', by rw[d];exact W,?_,q3.mono A⟩
   rw[d]
   simp only
   rw[if_neg (fun hb=>N (hi.inj id r o _ l' l e F W l1 hb))]
   exact q2
 · rw[d] at q U
   exact hi.inj id L o o' l' M (m _ _ e).2 (m _ _ e').2 q U hb
 · rw[d];exact hi.fresh id bE
 · rw[d] at D
   exact hx.own id o l' (m _ _ e).2 H D I
 · rw[ag.dM (y7 _) (by omega)];exact hx.w6 id bE
 · rw[d] at e
   simp only at e
   split at e
   · rename_i hbb
     obtain⟨O,o0,l0,f1,f2,f3,f4⟩:=hx.own r _ l F B l1 (by omega)
     exact .inr ⟨O,o0,l0,f1,f2,f3,by omega⟩
   · exact hx.C2 b c' e hb
 · cases q:(E1.del r).get id with
   | none=>rfl
   | some o=>
     have:=(m id o q).2
     rw[hx.dead id bE e] at this;simp at this
theorem Uj (E:cX T P)(n:Nat){s:St}(o:ag→Option dg)(r:Nat)(e:ag→ag)(h:yH P (ab T P n s)=o (fe (ab T P n s)))(B:((dI (ab T P n s)).bind (·.dst)).isSome=true)(A:o (fe (ab T P n s))=some (.val (.ai r 0 len) (e (fe (ab T P n s)))))(j:len=es.length)(C:(e (fe (ab T P n s))).get r=some (.arr sz es))(D:Nat.ble (fe (ab T P n s)).lim r=true)(u:Nat.ble (fe (ab T P n s)).nx (e (fe (ab T P n s))).nx=true)(q:SX P Q (eH (fun S=>.val (.lit es) ((e S).del r)) (ab T P n s))):SX P Q s:=
 Ug E n o (.lit es) (fun S=>(e S).del r) h B ⟨_,A⟩ (fun {all op get} v g w fr cs i rest m F G y hs hi=>by
  obtain⟨w', g', x,a,b,c,d⟩:=v _ _ A g w fr cs i rest m F G y hs hi
  obtain⟨H,I,q2,q3⟩:=Ps c d C (by rw[←j];exact b) (gb D)
  exact⟨w', H,x,a,I,q2,q3⟩) (gb u) q
structure av7 (S S1 : ag) (r : Nat) (S2 : ag) : Prop where
 lim : S.lim ≤ r
 afz : S.nx ≤ S1.nx
 av9 : S1.nx ≤ S2.nx
 lm : S2.lim = S1.lim
 get : (∀ k o, S.get k = some o → k < S.nx) → ∀ k o, S2.get k = some o → k ≠ r ∧ S1.get k = some o
 w6 : ∀ k, k < S1.lim → S2.get k = (S1.del r).get k
section
variable {P : Program} {α : Type} {enc : α → AV}
end
variable {args : List AV}
theorem fY.alR {f:FuncId}{S0:ag}(F:S0.nx=S.nx)(y:S0.lim=S.lim)(j:∀ id o0,S0.get id=some o0→∃ o,S.get id=some o∧∀ g l x,wX g l x o→wX g l x o0)(v:∀ id,id<S.lim→S0.get id=S.get id)(h:fY P f args S0 Q):fY P f args S Q:=by
 intro g w xs hx hi
 refine(h g w xs hx ⟨hi.ro,fun id o e=>?_,fun a b o o' l l' e G=>?_,fun id bE=>hi.fresh id (by omega)⟩).mono fun e w' ⟨r,H,g', q,h1,h2,d⟩=>⟨r,H,g', q,h1,h2,⟨d.size,d.os,d.tape,d.output,fun b hb I=>d.jr b hb fun id o l e J A=>?_,fun id o l e J A K=>?_,d.pc,by rw[←F];exact d.nx,d.lim.trans y,fun id bE=>(d.w6 id (by omega)).trans (v id bE),fun id bE=>d.wY id (by omega),fun b c e hb=>?_,fun id bE e=>?_,d.fz⟩⟩
 · obtain⟨o1,m,q2⟩:=j id o e
   obtain⟨l,a,b,c⟩:=hi.ob id o1 m
   simp_all
 · obtain⟨L,m,_⟩:=j a o e
   obtain⟨M,q2,_⟩:=j b o' G
   exact hi.inj a b L M l l' m q2
 · obtain⟨o1,m,_⟩:=j id o e
   exact I id o1 l m (by omega) A
 · obtain⟨u,o0,B,C,N,D,E⟩:=d.own id o l e (by omega) A K
   obtain⟨o1,m,_⟩:=j u o0 C
   exact⟨u,o1,B,m,by omega,D,E⟩
 · rcases d.C2 b c e hb with h | ⟨u,o0,B,C,N,D,E⟩
   · exact .inl h
   · obtain⟨o1,m,_⟩:=j u o0 C
     exact .inr ⟨u,o1,B,m,by omega,D,E⟩
 · refine d.dead id (by omega) ?_
   cases O:S0.get id with
   | none=>rfl
   | some o=>obtain⟨o1,m,_⟩:=j id o O;rw[e] at m;simp at m
def UM (id:Nat)(a:List Nat)(S:ag):ag:=
 match S.get id with
 | some o=>S.set id (FG a o)
 | none=>S
theorem fY.prune {f:FuncId}{a:List Nat}(j:S.lim≤id)(h:fY P f args (UM id a S) Q):fY P f args S Q:=by
 unfold UM at h
 cases b:S.get id with
 | none=>rw[b] at h;exact h
 | some o=>
   rw[b] at h
   refine fY.alR (S0:=S.set id (FG a o)) rfl rfl (fun k o2 e=>?_) (fun k d=>ag.bt (y7 _) (by omega)) h
   by_cases d:k=id
   · subst d
     rw[ag.cQ (y7 _)] at e
     simp only[ba] at e;subst e
     simp_all[IV]
   all_goals simp_all[ag.bt]
section
variable {P : Program} {α : Type} {enc : α → AV} {S : ag} {t id : Nat} {k : IntKind} {l : List (Int × List α)} {x c : Int} {V : AV}
end
end
end Go.Eng

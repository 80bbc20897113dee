/- Runs on symbols: other names of objects, heads of loops, results in memory; no conditions. -/
import Derived.Test.YtehhcejekfibpaaGreatVEngD
import Derived.KernelRfl
set_option linter.unusedVariables false
set_option linter.unusedSimpArgs false
namespace Go.Eng
noncomputable section
def Yc (T:FT)(P:Program)(s:St):Option (Nat×List AV×af):=
 match s with
 | .e9 D _=>match D.os with
   | o::_=>match gE o.op,qP D.F D.ops o,hidden (al D.dX o.after.toList) D.jJ,xA (al D.dX o.after.toList) D.es with
     | some c,some true,some aH,true=>match ql T D.F c P with
       | some (g,_,args)=>some (g,args,⟨D.S.nx,D.S.lim,iI D.S.m aH⟩)
       | none=>none
     | _,_,_,_=>none
   | []=>none
 | _=>none
def Lz (v:AV)(a:af)(s:St):St:=
 match s with
 | .e9 D k=>match D.os with
   | o::os=>match hidden (al D.dX o.after.toList) D.jJ with
     | some aH=>.e9 (D.iJ o os ⟨D.S.nx,D.S.lim,iI D.S.m aH⟩ (al D.dX o.after.toList) (.wide aH) v a) k
     | none=>.bad 5
   | []=>.bad 5
 | _=>.bad 5
section
variable {T : FT} {P : Program} {Qf : gI → af → Prop}
variable {s : St}
theorem JR (A:cq T P)(j:P.follows .mixedOrders=true)(n:Nat)(g:Nat)(args:List AV)(E:af)(v:AV)(p:af)(h:Yc T P (ab T P n s)=some (g,args,E))(C:cL P g args E fun r S=>r=.ret v∧S=p)(q:aA P Qf (Lz v p (ab T P n s))):aA P Qf s:=by
 refine bP A j n ?_
 generalize ab T P n s=s at h q
 cases s with
 | e9 D k=>
   simp only[Yc,Lz] at h q
   cases a:D.os with
   | nil=>rw[a] at h;simp at h
   | cons o os=>
     rw[a] at h q
     simp only at h q
     split at h<;>try (simp at h;done)
     rename_i c aH b G hh u
     split at h<;>simp only[an,gU,reduceCtorEq] at h
     rename_i H
     obtain⟨rfl,rfl,rfl⟩:=h
     rw[hh] at q
     simp only at q
     obtain⟨N,I⟩:=mh A b H
     have w:=gr b
     refine fh.mono (fun Q q=>?_) q
     refine nZ.step q a (vK ..) (fun U S0 E0 O v0 V B J K=>?_)
     have d:mL P D.ops o D.F.get ⟨D.S.nx,D.S.lim,iI D.S.m aH⟩ v p:=mL.call G w (I _) C
     obtain⟨_,R,y⟩:=B.aH hh
     have L:∀ id ob,(⟨D.S.nx,D.S.lim,iI D.S.m aH⟩:af).get id=some ob→id∉aH∧D.S.get id=some ob:=by
      intro id ob e
      rw[y] at e
      split at e
      · simp at e
      · exact⟨by assumption,e⟩
     have M:=K _ _ _ d rfl fun id ob e=>(L id ob e).2
     rw[B9]
     exact B.wide J a hh u d M
 | _=>simp[Yc] at h
end
def YF (T:FT)(P:Program)(s:St):Option (Nat×List AV):=
 match s with
 | .e9 D k=>match Yc T P (.e9 D k) with
   | some (g,args,_)=>some (g,args)
   | none=>none
 | .run fn F S k=>Kn T P (.run fn F S k)
 | _=>none
def NB (s:St):af:=
 match s with
 | .e9 D _=>match D.os with
   | o::_=>match hidden (al D.dX o.after.toList) D.jJ with
     | some aH=>⟨D.S.nx,D.S.lim,iI D.S.m aH⟩
     | none=>af.empty
   | []=>af.empty
 | s=>iY s
def Gq (v:AV)(r:af→af)(s:St):St:=
 match s with
 | .e9 D k=>Lz v (r (NB (.e9 D k))) (.e9 D k)
 | .run fn F S k=>NQ v r (.run fn F S k)
 | _=>.bad 5
section
variable {T : FT} {P : Program} {Q : gI → af → Prop}
variable {s : St}
theorem IB (E:bL T P)(n:Nat)(g:Nat)(args:List AV)(v:AV)(r:af→af)(h:YF T P (ab T P n s)=some (g,args))(d:cL P g args (NB (ab T P n s)) fun x e=>x=.ret v∧e=r (NB (ab T P n s)))(q:SX P Q (Gq v r (ab T P n s))):SX P Q s:=by
 refine⟨bP E.ok E.mix n ?_⟩
 generalize ab T P n s=s at h d q
 have q:=q.out
 cases s with
 | run fn F S k=>exact vW E.ok E.mix 0 g args S v _ h rfl ⟨fn,F,S,k,rfl⟩ d q
 | e9 D k=>
   simp only[YF] at h
   cases a:Yc T P (.e9 D k) with
   | none=>rw[a] at h;simp at h
   | some p=>
     obtain⟨g', b,j⟩:=p
     rw[a] at h
     simp only[an,gU] at h
     obtain⟨rfl,rfl⟩:=h
     have m:j=NB (.e9 D k):=by
      simp only[Yc] at a
      simp only[NB]
      cases c:D.os with
      | nil=>rw[c] at a;simp at a
      | cons o os=>
        rw[c] at a
        simp only at a
        split at a<;>try (simp at a;done)
        rename_i hh _
        split at a<;>simp only[an,gU,reduceCtorEq] at a
        simp only[hh]
        exact a.2.2.symm
     subst m
     exact JR E.ok E.mix 0 g' b _ v _ a d q
 | _=>simp[YF] at h
end
variable {α β : Type}
def dq (f:α→AV)(g:β→AV)(p:α×β):AV×AV:=(f p.1,g p.2)
def cD {β:Type}:List (Int×β)→Int→Option β
 | [],_=>none
 | (a,b)::r,k=>if k=a then some b else cD r k
def Gr {β:Type}:List (Int×β)→Int→β→List (Int×β)
 | [],k,v=>[(k,v)]
 | (a,b)::r,k,v=>if k=a then(k,v)::r else(a,b)::Gr r k v
variable {f : α → AV} {g : β → AV}
theorem Ch (a:∀ x,aq (f x)=true)(b:∀ x,aq (g x)=true)(l:List (α×β)):Ih (l.map (dq f g))=true:=by
 simp[Ih,dq,a,b]
variable {k : IntKind}
theorem og (x:Int):∀(l:List (Int×β)) (i:Nat),∃ r,ly (.int k) (.sc (.int k x)) (l.map (dq (dO k) g)) i=some r∧(match r with
   | some (j,v)=>∃ b,cD l x=some b∧v=g b∧i≤j∧∀ y:β,(l.map (dq (dO k) g)).set (j-i) (.sc (.int k x),g y)=(Gr l x y).map (dq (dO k) g)
   | none=>cD l x=none∧∀ y:β,l.map (dq (dO k) g)++[(.sc (.int k x),g y)]=(Gr l x y).map (dq (dO k) g)):=by
 intro l
 induction l with
 | nil=>intro i;exact⟨none,rfl,rfl,fun y=>rfl⟩
 | cons p l h=>
   obtain⟨a,b⟩:=p
   intro i
   simp only[List.map_cons,dq,ly,dO,Nl,if_true]
   by_cases e:x=a
   · subst e
     simp only[beq_self_eq_true]
     refine⟨_,rfl,b,by simp[cD],rfl,Nat.le_refl _,fun y=>by simp[Gr,dq,dO]⟩
   · have m:(x==a)=false:=by simpa using e
     simp only[m]
     obtain⟨r,o,d⟩:=h (i+1)
     refine⟨r,o,?_⟩
     cases r with
     | none=>
       refine⟨by simp[cD,e,d.1],fun y=>?_⟩
       have:=d.2 y
       simp only[Gr,if_neg e,List.map_cons,dq,dO,List.cons_append,this]
     | some q=>
       obtain⟨j,v⟩:=q
       obtain⟨c,h1,h2,h3,h4⟩:=d
       refine⟨c,by simp[cD,e,h1],h2,by omega,fun y=>?_⟩
       have:=h4 y
       rw[show j-i=(j-(i+1))+1 from by omega]
       simp only[List.set_cons_succ,Gr,if_neg e,List.map_cons,dq,dO,this]
def um (P:Program)(S:af)(t:TypeId)(m k:AV)(ok:Bool):Option cJ:=jC S (hJ P S t m k ok)
def ra (P:Program)(t:TypeId):Option (IntKind×AV):=
 match P.underlying t with
 | some (.map a b)=>match P.underlying a,gZ P b with
   | some (.int k),some z=>some (k,z)
   | _,_=>none
 | _=>none
variable {P : Program} {z : AV}
theorem ja {t:TypeId}(h:ra P t=some (k,z)):∃ c d,P.underlying t=some (.map c d)∧P.underlying c=some (.int k)∧gZ P d=some z:=by
 unfold ra at h
 split at h<;>try (simp at h;done)
 rename_i c d e
 split at h<;>simp only[an,gU,reduceCtorEq] at h
 rename_i a b
 obtain⟨rfl,rfl⟩:=h
 exact⟨c,d,e,a,b⟩
section
variable {P : Program} {β : Type} {g : β → AV} {S : af} {t id : Nat} {k : IntKind} {l : List (Int × β)} {x : Int}
theorem aqb {z0:β}(c:ra P t=some (k,g z0))(d:S.get id=some (.mp (l.map (dq (dO k) g)))):um P S t (.dm id) (.sc (.int k x)) false=some (.val (g ((cD l x).getD z0)) S):=by
 obtain⟨o,p,h1,h2,h3⟩:=ja c
 obtain⟨r,e,a⟩:=og (g:=g) (k:=k) x l 0
 simp only[um,hJ,h1,h2,d,gL,e,h3]
 cases r with
 | none=>simp only[a.1,Option.getD_none,jC]
 | some h=>
   obtain⟨j,v⟩:=h
   obtain⟨b,m,rfl,_⟩:=a
   simp only[m,Option.getD_some,jC]
theorem abN {z0:β}(c:ra P t=some (k,g z0))(d:S.get id=some (.mp (l.map (dq (dO k) g)))):um P S t (.dm id) (.sc (.int k x)) true=some (.val (.bM [g ((cD l x).getD z0),.sc (.bool (cD l x).isSome)]) S):=by
 obtain⟨o,p,h1,h2,h3⟩:=ja c
 obtain⟨r,e,a⟩:=og (g:=g) (k:=k) x l 0
 simp only[um,hJ,h1,h2,d,gL,e,h3]
 cases r with
 | none=>simp only[a.1,Option.getD_none,jC,Option.isSome_none]
 | some h=>
   obtain⟨j,v⟩:=h
   obtain⟨b,m,rfl,_⟩:=a
   simp only[m,Option.getD_some,jC,Option.isSome_some]
def DV (P:Program)(S:af)(t:TypeId)(m k v:AV):Option cJ:=BI (kC P S t m k v)
theorem aqc {y:β}(c:ra P t=some (k,z))(d:S.get id=some (.mp (l.map (dq (dO k) g))))(e:Nat.ble S.lim id=true):DV P S t (.dm id) (.sc (.int k x)) (g y)=some (.skip (S.set id (.mp ((Gr l x y).map (dq (dO k) g))))):=by
 obtain⟨o,p,h1,h2,_⟩:=ja c
 obtain⟨r,h,a⟩:=og (g:=g) (k:=k) x l 0
 simp only[DV,kC,h1,h2,d,gL,e,Bool.true_and,h]
 cases r with
 | none=>simp only[a.2 y,BI]
 | some m=>
   obtain⟨j,v⟩:=m
   obtain⟨b,q,_,_,a2⟩:=a
   have:=a2 y
   rw[Nat.sub_zero] at this
   simp only[this,BI]
end
theorem Wk.take {S:af}{v:AV}{id sz n:Nat}{es:List AV}(d:S.get id=some (.arr sz es))(o:S.lim≤id):Wk v v S (S.set id (.arr sz (es.take n))):=by
 refine⟨fun _ _ h=>h,rfl,rfl,fun k o2 e=>?_,fun k u=>?_⟩
 · by_cases b:k=id
   · subst b
     rw[af.bn (nf _)] at e
     simp only[an] at e;subst e
     refine⟨_,d,fun g l x h=>?_⟩
     obtain⟨c,t,h1,h2,h3,h4,h5,h6⟩:=h
     refine⟨c,t,h1,h2,h3,?_,fun e m=>h5 e (List.mem_of_mem_take m),fun i j e a y p q r=>?_⟩
     · have:(es.take n).length*sz≤es.length*sz:=ue _ (by simp;omega)
       omega
     · rw[List.getElem?_take] at p
       split at p
       · exact h6 i j e a y p q r
       · simp at p
   · rw[af.ar (nf _) b] at e
     exact⟨o2,e,fun _ _ _ h=>h⟩
 · rw[af.ar (nf _) (by omega)]
section
variable {P : Program} {α : Type} {enc : α → AV}
variable {S : af} {el n id len : Nat}
theorem acB {t:Nat}{xs:List α}{b:Int}(m:P.underlying t=some (.slice el))(o:oK P el=some n)(c:∀ x,(enc x).cells.length=n)(d:S.get id=some (.arr n (xs.map enc)))(a:len=xs.length)(p:Nat.ble S.lim id=true)(h:0≤b∧b≤(xs.length:Int)) :
  ∃ e,Kp P S t (.ak id 0 len) none (some (.sc (.int k b)))=some (.val (.ak id 0 (xs.take b.toNat).length) e)∧Wk (.ak id 0 (xs.take b.toNat).length) (.ak id 0 (xs.take b.toNat).length) e (S.set id (.arr n ((xs.take b.toNat).map enc)))∧S.nx≤(S.set id (.arr n ((xs.take b.toNat).map enc))).nx:=by
 subst a
 refine⟨S,?_,by rw[List.map_take];exact Wk.take d (ed p),Nat.le_refl _⟩
 have j:b.toNat≤xs.length:=by omega
 simp only[Kp,ku,m,o,d,AU,kb h.1,jC,Nat.beq_refl,show Nat.ble 0 b.toNat=true from sr (by omega),show Nat.ble b.toNat xs.length=true from sr j]
 simp[Nat.min_eq_left j]
end
def zu : Code→List (Array Tmp×Code×Code)
 | .rangeFunc _ c a b=>(c,a,b)::(zu a++zu b)
 | .seq a b=>zu a++zu b
 | .cond _ a b=>zu a++zu b
 | .block _ b=>zu b
 | .loop b=>zu b
 | .scope b=>zu b
 | _=>[]
def jT (P:Program)(st:LoopState)(f i n mask:Nat)(env:List (Nat×AV)):ai:=
 match P.funcs[f]? with
 | some fn=>match fn.body with
   | some c=>match (zu c)[i]? with
     | some (d,a,b)=>.lp st none f n mask env d.toList a b
     | none=>.mz
   | none=>.mz
 | none=>.mz
variable {n : Nat} {σ : Nat → Nat} {st : LoopState} {i mask : Nat} {env : List (Nat × AV)}
theorem kD {f:Nat}:(jT P st f i n mask env).aw σ=jT P st f i n mask (gC σ env):=by
 unfold jT
 split<;>try rfl
 split<;>try rfl
 split<;>rfl
def ZC : ai→Bool
 | .lp .. => true
 | _=>false
variable {S : af} {kp : List Nat}
theorem Pg {f:Nat}{b:List (Nat×AV)}(h:∀ t j,lk b t=some j→∃ v,lk env t=some v∧gJ S kp v j)(d:ZC (jT P st f i n mask [])=true):qO S kp (jT P st f i n mask env) (jT P st f i n mask b):=by
 have a:jT P st f i n mask [] ≠ .mz:=by intro e;rw[e] at d;simp[ZC] at d
 clear d
 unfold jT at *
 cases h1:P.funcs[f]? with
 | none=>simp only[h1] at a;exact absurd rfl a
 | some fn=>
   simp only[h1] at a ⊢
   cases h2:fn.body with
   | none=>simp only[h2] at a;exact absurd rfl a
   | some c=>
     simp only[h2] at a ⊢
     cases h3:(zu c)[i]? with
     | none=>simp only[h3] at a;exact absurd rfl a
     | some p=>exact .lp h
inductive PH (S : af) (kp : List Nat) : List (Nat × AV) → List (Nat × AV) → Prop
 | nil : PH S kp [] []
 | cons {t : Nat} {v v' : AV} {l l' : List (Nat × AV)} (h : gJ S kp v v') (r : PH S kp l l') : PH S kp ((t, v) :: l) ((t, v') :: l')
theorem PH.spec {l l' : List (Nat×AV)}(h:PH S kp l l'):∀ t a,lk l' t=some a→∃ v,lk l t=some v∧gJ S kp v a:=by
 induction h with
 | nil=>intro t a e;simp[nC] at e
 | @cons k v a l l' h r c=>
   intro t u e
   rw[fU] at e ⊢
   cases b:Nat.beq k t with
   | true=>rw[b] at e;simp only[an] at e;subst e;exact⟨v,rfl,h⟩
   | false=>rw[b] at e;exact c t u e
theorem EM (a:∀ x,aq (f x)=true)(b:∀ x,aq (g x)=true)(l:List (α×β)):(l.map (dq f g)).map (fun p=>(p.1.aw σ,p.2.aw σ))=l.map (dq f g):=by
 rw[List.map_map]
 refine List.map_congr_left fun p _=>?_
 simp only[Function.comp,dq,AV.hZ (a p.1),AV.hZ (b p.2)]
theorem kE (sz:Nat)(es:List AV):(ai.arr sz es).aw σ=.arr sz (dE σ es):=rfl
theorem mQ (b:Bool):(ai.df b).aw σ=.df b:=rfl
theorem Ph (l:List (AV×AV)):(ai.mp l).aw σ=.mp (l.map fun p=>(p.1.aw σ,p.2.aw σ)):=rfl
theorem ub (a:∀ x,aq (f x)=true)(b:∀ x,aq (g x)=true)(l:List (α×β)):(ai.mp (l.map (dq f g))).aw σ=.mp (l.map (dq f g)):=by
 simp only[ai.aw,EM a b]
theorem kF {a:IntKind}(l:List (Int×Int)):(ai.mp (l.map (dq (dO k) (dO a)))).aw σ=.mp (l.map (dq (dO k) (dO a))):=ub (by simp) (by simp) l
theorem kG (l:List (Int×Bool)):(ai.mp (l.map (dq (dO k) qR))).aw σ=.mp (l.map (dq (dO k) qR)):=ub (by simp) (by simp) l
theorem jw : (ai.mp []).aw σ=.mp []:=rfl
variable {el sz : Nat}
theorem abO {enc:α→AV}{st xt bytes nx:Nat}{a:Int}{s:AV}{z0:α}(p:s=.ax)(q:Er P st sz bytes=some (el,enc z0))(m:(match P.underlying xt with | some (.int _)=>true | _=>false)=true)(r:Nat.ble bytes 4096=true)(j:S.nx=nx)(b:(Nat.ble (S.nx+1) 8192&&Nat.ble S.lim S.nx)=true)(h:1≤a∧a≤1048576) :
  rK P S st xt s (.sc (.int .i64 a))=some (.val (.ak nx 0 (List.replicate a.toNat z0).length) (S.add (.arr sz ((List.replicate a.toNat z0).map enc)))):=by
 subst p
 obtain⟨i,o,hi,u,c⟩:=Aq q
 simp only[Bool.and_eq_true] at c b
 obtain⟨⟨⟨⟨h1,h2⟩,h3⟩,h4⟩,h5⟩:=c
 have h4:=jj h4
 have h5:=jj h5
 subst h4
 subst h5
 subst j
 split at m<;>try (simp at m;done)
 rename_i w d
 obtain⟨n,rfl⟩:=Int.eq_ofNat_of_zero_le (show 0≤a by omega)
 show rK P S st xt .ax (.sc (.int .i64 (.ofNat n)))=_
 have e:jZ P S [st,xt] .ax (.sc (.int .i64 (.ofNat n)))=none:=by
  simp only[jZ,o,d]
 simp only[rK,fM,e,zb,o,d,hi,u]
 simp only[h1,h2,h3,r,Bool.and_true,show Nat.ble 1 n=true from sr (by omega),show Nat.ble n 1048576=true from sr (by omega),eC,b.1,b.2]
 simp
def xD (keys:List Nat):List (Nat×AV)→List (Nat×AV)
 | []=>[]
 | (t,v)::r=>match keys.contains t with
   | true=>(t,v)::xD keys r
   | false=>xD keys r
variable {keys : List Nat}
theorem MU : ∀ {l:List (Nat×AV)} {t:Nat} {v:AV},lk (xD keys l) t=some v→lk l t=some v:=by
 intro l
 induction l with
 | nil=>intro t v h;exact h
 | cons p r w=>
   obtain⟨k,u⟩:=p
   intro t v h
   simp only[xD] at h
   rw[fU]
   cases e:keys.contains k with
   | true=>
     rw[e] at h
     simp only at h
     rw[fU] at h
     cases j:Nat.beq k t with
     | true=>rw[j] at h;exact h
     | false=>rw[j] at h;exact w h
   | false=>
     rw[e] at h
     simp only at h
     cases j:Nat.beq k t with
     | true=>
       exfalso
       have o:k=t:=jj j
       subst o
       have:∀ {l:List (Nat×AV)} {v:AV},lk (xD keys l) k=some v→keys.contains k=true:=by
        intro l
        induction l with
        | nil=>intro v h;simp[xD,nC] at h
        | cons q r c=>
          obtain⟨a,b⟩:=q
          intro v h
          simp only[xD] at h
          cases m:keys.contains a with
          | true=>
            rw[m] at h
            simp only at h
            rw[fU] at h
            cases d:Nat.beq a k with
            | true=>rw[←jj d];exact m
            | false=>rw[d] at h;exact c h
          | false=>rw[m] at h;exact c h
       rw[this h] at e;simp at e
     | false=>exact w h
def zM (keys:List Nat):ai→ai
 | .lp st p f n m env c a b=>.lp st p f n m (xD keys env) c a b
 | o=>o
theorem Ci {o:ai}{g:Gh}{l:Loc}{x:Option Obj}(h:rI g l x o):rI g l x (zM keys o):=by
 cases o with
 | lp st p f n m env c a b=>
   obtain⟨lo,h1,h2,h3,h4,h5,h6,h7,h8,h9⟩:=h
   exact⟨lo,h1,h2,h3,h4,h5,fun t v e=>h6 t v (MU e),h7,h8,h9⟩
 | _=>exact h
def prune (id:Nat)(keys:List Nat)(s:St):St:=
 match s with
 | .run fn F S k=>match S.get id with
   | some o=>.run fn F (S.set id (zM keys o)) k
   | none=>.run fn F S k
 | s=>s
section
variable {T : FT} {P : Program} {Q : gI → af → Prop}
variable {s : St}
theorem C9 (E:bL T P)(n:Nat)(id:Nat)(keys:List Nat)(j:Nat.ble (iY (ab T P n s)).lim id=true)(q:SX P Q (prune id keys (ab T P n s))):SX P Q s:=by
 refine⟨bP E.ok E.mix n ?_⟩
 generalize ab T P n s=s at j q
 have q:=q.out
 cases s with
 | run fn F S k=>
   simp only[prune] at q
   cases d:S.get id with
   | none=>rw[d] at q;exact q
   | some o=>
     rw[d] at q
     have j:S.lim≤id:=ed j
     refine aA.reach (fun G B=>Reach.uF B rfl rfl rfl rfl fun g w fr cs C hi=>⟨fr,w,g,C,?_,?_,Steps.refl _ _⟩) q
     · have back:∀ k o2,(S.set id (zM keys o)).get k=some o2→∃ o1,S.get k=some o1∧∀ g l x,rI g l x o1→rI g l x o2:=by
         intro k o2 e
         by_cases c:k=id
         · subst c
           rw[af.bn (nf _)] at e
           simp only[an] at e;subst e
           exact⟨o,d,fun _ _ _ h=>Ci h⟩
         · rw[af.ar (nf _) c] at e
           exact⟨o2,e,fun _ _ _ h=>h⟩
       refine⟨hi.ro,fun k o2 e=>?_,fun a b o1 o2 l l' e D p H I=>?_,hi.fresh⟩
       · obtain⟨o1,m,r⟩:=back k o2 e
         obtain⟨l,x,y,z⟩:=hi.ob k o1 m
         exact⟨l,x,y,r _ _ _ z⟩
       · obtain⟨J,m,_⟩:=back a o1 e
         obtain⟨K,r,_⟩:=back b o2 D
         exact hi.inj a b J K l l' m r p H I
     · refine⟨Nat.le_refl _,rfl,⟨rfl,Nat.le_refl _⟩,rfl,fun _ _ _=>rfl,fun k o2 l e u A _=>?_,Gh.le_refl _,Nat.le_refl _,rfl,fun k c=>af.ar (nf _) (by omega),fun _ _=>rfl,fun _ _ e _=>.inl e,fun k c e=>?_,fun _ _=>rfl⟩
       · by_cases c:k=id
         · subst c;exact⟨k,o,l,d,u,A,rfl⟩
         · rw[af.ar (nf _) c] at e;exact⟨k,o2,l,e,u,A,rfl⟩
       · have c:k≠id:=by rintro rfl;rw[d] at e;simp at e
         rw[af.ar (nf _) c];exact e
 | _=>exact q
end
inductive xx (S : af) : AV → AV → Prop
 | top {v : AV} : xx S v .top
 | pure {v : AV} (h : aq v = true) : xx S v v
 | ax : xx S .ax (.lit [])
 | dV : xx S .dV (.lit [])
 | ak {id len sz : Nat} {es es' : List AV} (hg : S.get id = some (.arr sz es)) (hl : len = es.length) (hs : es'.length = es.length)
  (hc : ∀ (i : Nat) (e e' : AV), es[i]? = some e → es'[i]? = some e' → e'.cells.length = e.cells.length)
  (h : ∀ (i j : Nat) (e e' a a' : AV), es[i]? = some e → es'[i]? = some e' → e.cells[j]? = some a → e'.cells[j]? = some a' → xx S a a') : xx S (.ak id 0 len) (.lit es')
 | ptr {id sz : Nat} {e : AV} {cs' : List AV} (hg : S.get id = some (.arr sz [e])) (hl : cs'.length = e.cells.length) (h : ∀ (k : Nat) (a a' : AV), e.cells[k]? = some a → cs'[k]? = some a' → xx S a a') : xx S (.ptr id 0 0) (.fa cs')
 | agg {cs cs' : List AV} (hl : cs'.length = cs.length) (h : ∀ (k : Nat) (a a' : AV), cs[k]? = some a → cs'[k]? = some a' → xx S a a') : xx S (.agg cs) (.agg cs')
 | bM {cs cs' : List AV} (hl : cs'.length = cs.length) (h : ∀ (k : Nat) (a a' : AV), cs[k]? = some a → cs'[k]? = some a' → xx S a a') : xx S (.bM cs) (.bM cs')
inductive yo (S : af) : List AV → List AV → Prop
 | nil : yo S [] []
 | cons {e e' : AV} {l l' : List AV} (h : xx S e e') (t : yo S l l') : yo S (e :: l) (e' :: l')
variable {l l' : List AV}
theorem yo.spec (h:yo S l l'):l'.length=l.length∧∀(i:Nat) (e a:AV),l[i]? = some e→l'[i]? = some a→xx S e a:=by
 induction h with
 | nil=>exact⟨rfl,fun i e a h=>by simp at h⟩
 | cons h t d=>
   refine⟨by simp[d.1],fun i e a b c=>?_⟩
   cases i with
   | zero=>simp at b c;subst b;subst c;exact h
   | succ i=>exact d.2 i e a (by simpa using b) (by simpa using c)
theorem xx.uH (h:yo S l l'):xx S (.bM l) (.bM l'):=.bM h.spec.1 h.spec.2
theorem xx.QY (h:yo S l l'):xx S (.agg l) (.agg l'):=.agg h.spec.1 h.spec.2
variable {id : Nat}
theorem xx.as7 {e:AV}{cs a:List AV}(c:S.get id=some (.arr sz [e]))(b:e.cells=cs)(h:yo S cs a):xx S (.ptr id 0 0) (.fa a):=by
 subst b
 exact .ptr c h.spec.1 h.spec.2
variable {len : Nat}
theorem xx.zD {es:List AV}(b:S.get id=some (.arr sz es))(c:len=es.length)(d:bF es=true):xx S (.ak id 0 len) (.lit es):=
 .ak b c rfl (fun i e h p q=>by rw[p] at q;simp only[an] at q;rw[q]) (fun i j e h a m p q r s=>by
  rw[p] at q;simp only[an] at q;subst q
  rw[r] at s;simp only[an] at s;subst s
  exact .pure (jL (dS d p) r))
variable {v : AV}
theorem xx.sound {g J:Gh}{w:World}(hi:Inv S g w)(K:Gh.frozen S g w J){U:AV}(h:xx S v U):∀ {x:Value},VR g v x→VR J U x:=by
 induction h with
 | pure h=>intro x o;exact o.mono K.1
 | top=>intro x _;exact .top
 | ax=>intro x o;cases o;exact .gi
 | dV=>intro x o;cases o;exact .gi
 | ak m q E V h y=>
   intro x o
   cases o with
   | ak F H hb=>
     rename_i l
     obtain⟨l', A,Y,L⟩:=hi.ob _ _ m
     rw[F] at A;simp only[an] at A;subst A
     obtain⟨c,t,M,Z,I,W,N,O⟩:=L
     have B:=K.2.2 _ _ l c t (0,0) m F M
     rename_i es es' cap
     subst q
     rw[←E]
     have:VR J (.lit es') (.slice (some ⟨l.bO,l.base+0*l.sz,none⟩) es'.length cap):=by
      refine .lit (sz:=l.sz) B (fun e he=>?_) (by rw[E,I];omega) (by rw[E];exact H) (fun i j e a x p u e3=>?_)
      · obtain⟨k,X⟩:=List.getElem?_of_mem he
        have d:k<es.length:=by rw[←E];exact(List.getElem?_eq_some_iff.1 X).1
        have b:es[k]? = some es[k]:=nA d
        rw[V k _ e b X,I]
        exact N _ (List.getElem_mem d)
      · have d:i<es.length:=by rw[←E];exact(List.getElem?_eq_some_iff.1 p).1
        have b:es[i]? = some es[i]:=nA d
        have C:j<es[i].cells.length:=by rw[←V i _ e b p];exact(List.getElem?_eq_some_iff.1 u).1
        have r:es[i].cells[j]? = some es[i].cells[j]:=nA C
        exact y i j _ e _ a b p r u (O i j _ _ x b r (by rw[←I,←e3];congr 1;omega))
     exact this
   | fI=>
     obtain rfl:=List.length_eq_zero_iff.1 (E.trans q.symm)
     exact .gi
 | @ptr id sz e G m q h y=>
   intro x o
   cases o with
   | ptr F=>
     rename_i l
     obtain⟨l', A,Y,L⟩:=hi.ob _ _ m
     rw[F] at A;simp only[an] at A;subst A
     obtain⟨c,t,M,Z,I,W,N,O⟩:=L
     have B:=K.2.2 _ _ l c t (0,0) m F M
     have R:e.cells.length=sz:=N e (List.mem_cons_self ..)
     refine .fa B (by rw[q,R];simp at W;omega) fun j a x p u=>?_
     have C:j<e.cells.length:=by rw[←q];exact(List.getElem?_eq_some_iff.1 p).1
     have r:e.cells[j]? = some e.cells[j]:=nA C
     exact y j _ a r p (O 0 j e _ x rfl r (by rw[←u];congr 1;omega))
 | agg q h y=>
   intro x o
   cases o with
   | agg D hh=>
     refine .agg (by rw[q];exact D) fun k a x p u=>?_
     rename_i cs G xs
     have d:k<cs.length:=by rw[←q];exact(List.getElem?_eq_some_iff.1 p).1
     have b:cs[k]? = some cs[k]:=nA d
     exact y k _ a b p (hh k _ x b u)
 | bM q h y=>
   intro x o
   cases o with
   | bM D hh=>
     refine .bM (by rw[q];exact D) fun k a x p u=>?_
     rename_i cs G xs
     have d:k<cs.length:=by rw[←q];exact(List.getElem?_eq_some_iff.1 p).1
     have b:cs[k]? = some cs[k]:=nA d
     exact y k _ a b p (hh k _ x b u)
theorem cL.abB {f:FuncId}{args d:List AV}(Y:∀(g D:Gh) (w:World),Inv S g w→Gh.frozen S g w D→∀ x,VR g (.bM args) x→VR D (.bM d) x)(Z:bF d=true)(hv:sS v=true)(h:cL P f d af.empty fun r _=>r=.ret v) :
   cL P f args S fun r V=>r=.ret v∧V=S:=by
 intro g w xs hx hi
 have G:=Gh.gQ hi
 obtain⟨K,H⟩:∃ k:Gh,k=g.freeze S w:=⟨_,rfl⟩
 rw[←H] at G
 have M:=Y _ _ _ hi G (.tuple xs) (.bM hx.1 hx.2)
 cases M with | bM h1 h2=>?_
 have F:∀ b c,K.ro b=some c→∃ t fz,w.heap[b]? = some (.cells c t fz):=by
   intro b c e
   subst H
   simp only[Gh.freeze] at e
   split at e
   · rename_i c' hc;simp only[an] at e;subst e;exact hi.ro _ _ hc
   · split at e
     · rename_i c' t fz hh
       split at e<;>simp only[an,reduceCtorEq] at e
       subst e;exact⟨t,fz,hh⟩
     · simp at e
 have N:Inv af.empty K.bare w:=⟨F,fun id o e=>by rw[af.cS] at e;simp at e,fun id I o o' l l' e=>by rw[af.cS] at e;simp at e,fun _ _=>rfl⟩
 have O:fe K.bare d xs:=⟨h1,fun k a x e L=>(h2 k a x e L).bare (dS Z e)⟩
 refine(h K.bare w xs O N).mono fun e w' ⟨r,V,g', hr,y,R,u⟩=>?_
 subst hr
 obtain⟨D,A⟩:∃ k:Gh,k={ ro:=fun b=>if b<w.heap.size then g.ro b else g'.ro b,ph:=g.ph }:=⟨_,rfl⟩
 have B:∀ b,b<w.heap.size→D.ro b=g.ro b:=fun b j=>by subst A;simp[j]
 have U:∀ b,¬ b<w.heap.size→D.ro b=g'.ro b:=fun b j=>by subst A;simp[j]
 have m:∀ b,b<w.heap.size→w'.heap[b]? = w.heap[b]? := fun b j=>u.gw b j fun id o l e=>by rw[af.cS] at e;simp at e
 have J:∀ b c,g.ro b=some c→b<w.heap.size:=by
   intro b c e
   obtain⟨t,fz,q⟩:=hi.ro b c e
   exact(Array.getElem?_eq_some_iff.1 q).1
 have E:Gh.le g D:=⟨fun b c e=>by rw[B b (J b c e)];exact e,fun _ _ e=>by subst A;exact e⟩
 have C:D.ph=g.ph:=by subst A;rfl
 refine⟨.ret v,S,D,⟨rfl,rfl⟩,?_,⟨?_,?_,?_,?_⟩,⟨u.size,u.os,u.tape,u.output,fun b j _=>m b j,?_,E,Nat.le_refl _,rfl,fun _ _=>rfl,?_,?_,?_,u.fz⟩⟩
 · cases e with
   | returned x=>exact VR.flat y hv
   | panicked c=>exact y.elim
   | outgrown=>exact y.elim
 · intro b c e
   by_cases j:b<w.heap.size
   · rw[B b j] at e
     rw[m b j];exact hi.ro b c e
   · rw[U b j] at e;exact R.ro b c e
 · intro id o e
   obtain⟨l,a,b,c⟩:=hi.ob id o e
   refine⟨l,E.ph _ _ a,?_,?_⟩
   · rw[B _ c.lt];exact b
   · rw[m _ c.lt];exact c.mono E
 · intro id I o o' l l' e L p W j
   rw[C] at p W
   exact hi.inj id I o o' l l' e L p W j
 · intro id aH;rw[C];exact hi.fresh id aH
 · intro id o l e e1 X e3
   rw[C] at X
   exact⟨id,o,l,e,e1,X,rfl⟩
 · intro id _;rw[C]
 · intro b c e j;rw[B b j] at e;exact .inl e
 · exact fun _ _ e=>e
def Qx (T:FT)(P:Program)(s:St):Option (Nat×List AV):=
 match s with
 | .e9 D k=>match Ku T P (.e9 D k) with
   | some (g,args,_)=>some (g,args)
   | none=>none
 | .run fn F S k=>Kn T P (.run fn F S k)
 | _=>none
def IS (s:St):af:=
 match s with
 | .e9 D _=>match D.os with
   | o::_=>match hidden (al D.dX o.after.toList) D.jJ with
     | some aH=>⟨D.S.nx,D.S.nx,iI D.S.m aH⟩
     | none=>af.empty
   | []=>af.empty
 | s=>iY s
def afc (v:AV)(s:St):St:=
 match s with
 | .e9 D k=>Ly v (IS (.e9 D k)) (.e9 D k)
 | .run fn F S k=>NQ v (fun S=>S) (.run fn F S k)
 | _=>.bad 5
section
variable {T : FT} {P : Program} {Q : gI → af → Prop}
variable {s : St}
theorem Pj (E:bL T P)(n:Nat)(g:Nat)(args a:List AV)(v:AV)(h:Qx T P (ab T P n s)=some (g,args))(m:yo (IS (ab T P n s)) args a)(u:bF a=true)(y:sS v=true)(c:∀ S,cL P g a S fun r j=>r=.ret v∧j=S)(q:SX P Q (afc v (ab T P n s))):SX P Q s:=by
 refine⟨bP E.ok E.mix n ?_⟩
 have c:cL P g args (IS (ab T P n s)) fun r j=>r=.ret v∧j=IS (ab T P n s):=
   cL.abB (fun g G w hi A x hx=>(xx.uH m).sound hi A hx) u y ((c af.empty).mono fun r j e=>e.1)
 generalize ab T P n s=s at h c q
 have q:=q.out
 cases s with
 | run fn F S k=>exact vW E.ok E.mix 0 g args S v _ h rfl ⟨fn,F,S,k,rfl⟩ c q
 | e9 D k=>
   simp only[Qx] at h
   cases b:Ku T P (.e9 D k) with
   | none=>rw[b] at h;simp at h
   | some p=>
     obtain⟨g', a,B⟩:=p
     rw[b] at h
     simp only[an,gU] at h
     obtain⟨rfl,rfl⟩:=h
     have C:B=IS (.e9 D k):=by
      simp only[Ku] at b
      simp only[IS]
      cases d:D.os with
      | nil=>rw[d] at b;simp at b
      | cons o os=>
        rw[d] at b
        simp only at b
        split at b<;>try (simp at b;done)
        rename_i hh
        split at b<;>simp only[an,gU,reduceCtorEq] at b
        simp only[hh]
        exact b.2.2.symm
     subst C
     exact MN E.ok E.mix 0 g' a _ v _ b c q
 | _=>simp[Qx] at h
end
end
end Go.Eng
namespace Go.Eng
noncomputable section
inductive F1 (r : Nat) (es : List AV) : AV → AV → Prop
 | refl {v : AV} : F1 r es v v
 | ak {len : Nat} (hl : len = es.length) : F1 r es (.ak r 0 len) (.lit es)
 | agg {cs cs' : List AV} (hl : cs'.length = cs.length) (h : ∀ (k : Nat) (a a' : AV), cs[k]? = some a → cs'[k]? = some a' → F1 r es a a') : F1 r es (.agg cs) (.agg cs')
inductive Kv (r : Nat) (es : List AV) : List AV → List AV → Prop
 | nil : Kv r es [] []
 | cons {e e' : AV} {l l' : List AV} (h : F1 r es e e') (t : Kv r es l l') : Kv r es (e :: l) (e' :: l')
 | same {l : List AV} : Kv r es l l
variable {r : Nat} {es l l' : List AV}
theorem Kv.spec (h:Kv r es l l'):l'.length=l.length∧∀(i:Nat) (e a:AV),l[i]? = some e→l'[i]? = some a→F1 r es e a:=by
 induction h with
 | nil=>exact⟨rfl,fun i e a h=>by simp at h⟩
 | same=>exact⟨rfl,fun i e a h b=>by rw[h] at b;simp only[an] at b;subst b;exact .refl⟩
 | cons h t f=>
   refine⟨by simp[f.1],fun i e a c d=>?_⟩
   cases i with
   | zero=>simp at c d;subst c;subst d;exact h
   | succ i=>exact f.2 i e a (by simpa using c) (by simpa using d)
theorem F1.QY (h:Kv r es l l'):F1 r es (.agg l) (.agg l'):=.agg h.spec.1 h.spec.2
theorem F1.cells {r:Nat}{es:List AV}{e d:AV}(h:F1 r es e d):d.cells.length=e.cells.length∧∀(j:Nat) (a c:AV),e.cells[j]? = some a→d.cells[j]? = some c→F1 r es a c:=by
 cases h with
 | refl=>exact⟨rfl,fun j a c h b=>by rw[h] at b;simp only[an] at b;subst b;exact .refl⟩
 | ak f=>
   refine⟨rfl,fun j a c h b=>?_⟩
   cases j with
   | zero=>simp[AV.cells] at h b;subst h;subst b;exact .ak f
   | succ j=>simp[AV.cells] at h
 | agg f h=>exact⟨f,h⟩
variable {sz : Nat}
theorem F1.sound {g w:Gh}{l:Loc}{c:Array Value}(d:Gh.le g w)(B:g.ph r=some l)(C:w.ro l.bO=some c)(f:l.sz=sz)(h4:l.base+es.length*sz≤c.size)(h5:∀ e,e∈es→e.cells.length=sz)(h6:∀(i j:Nat) (e a:AV) (y:Value),es[i]? = some e→e.cells[j]? = some a→c[l.base+i*sz+j]? = some y→VR g a y){v F:AV}(h:F1 r es v F):∀ {x:Value},VR g v x→VR w F x:=by
 induction h with
 | refl=>intro x b;exact b.mono d
 | ak t=>
   intro x b
   subst t
   generalize G:es.length=n at b
   cases b with
   | ak z q K=>
     rw[B] at z;simp only[an] at z;subst z
     subst G
     refine .lit (sz:=sz) C h5 (by rw[f];omega) q fun i j e a x u A H=>?_
     exact(h6 i j e a x u A (by rw[←H,f];congr 1;omega)).mono d
   | fI=>
     obtain rfl:=List.length_eq_zero_iff.1 G
     exact .gi
 | agg t h I=>
   intro x b
   cases b with
   | agg D hh=>
     refine .agg (by rw[t];exact D) fun k a x u A=>?_
     rename_i cs J xs
     have E:k<cs.length:=by rw[←t];exact(List.getElem?_eq_some_iff.1 u).1
     have m:cs[k]? = some cs[k]:=nA E
     exact I k _ a m u (hh k _ x m A)
def zN (r id:Nat)(o:ai)(s:St):St:=
 match s with
 | .run fn F S k=>.run fn F ((S.del r).set id o) k
 | s=>s
section
variable {T : FT} {P : Program} {Q : gI → af → Prop}
variable {s : St}
theorem Qc (E:bL T P)(n:Nat)(r id:Nat){o2 j:ai}(D:(iY (ab T P n s)).get r=some (.arr sz es))(K:(iY (ab T P n s)).get id=some o2)(y:Nat.beq r id=false)(A:Nat.ble (iY (ab T P n s)).lim r=true)(C:Nat.ble (iY (ab T P n s)).lim id=true)(hf:∀(g i:Gh),Gh.le g i→(∀ v I:AV,F1 r es v I→∀ x:Value,VR g v x→VR i I x)→∀(l:Loc) (x:Option Obj),rI g l x o2→rI i l x j)(q:SX P Q (zN r id j (ab T P n s))):SX P Q s:=by
 refine⟨bP E.ok E.mix n ?_⟩
 generalize ab T P n s=s at D K A C q
 have q:=q.out
 cases s with
 | run fn F S k=>
   have D:S.get r=some (.arr sz es):=D
   have aH:S.get id=some o2:=K
   have A:S.lim≤r:=ed A
   have C:S.lim≤id:=ed C
   have y:r≠id:=by rintro rfl;rw[Nat.beq_refl] at y;simp at y
   refine aA.reach (fun G qq=>Reach.uF qq rfl rfl rfl rfl fun g w fr cs W hi=>?_) q
   obtain⟨l,O,x2,x3⟩:=hi.ob r _ D
   obtain⟨c,t,p1,p2,p3,p4,p5,p6⟩:=x3
   obtain⟨i,d⟩:∃ i:Gh,i={ ro:=fun b=>if b=l.bO then some c else g.ro b,ph:=g.ph }:=⟨_,rfl⟩
   have z:Gh.le g i:=by
     refine⟨fun b c' e=>?_,fun _ _ e=>by rw[d];exact e⟩
     rw[d]
     simp only
     split
     · rename_i f;subst f;rw[x2] at e;simp at e
     · exact e
   have X:i.ro l.bO=some c:=by rw[d];simp
   have m:i.ph=g.ph:=by rw[d]
   have Y:∀ {v I:AV},F1 r es v I→∀ {x:Value},VR g v x→VR i I x:=fun h=>h.sound z O X p3 p4 p5 p6
   have get:∀ a o,((S.del r).set id j).get a=some o→(a=id∧o=j)∨(a≠id∧a≠r∧S.get a=some o):=by
     intro a o e
     by_cases u:a=id
     · subst u
       rw[af.bn (nf _)] at e
       simp only[an] at e
       exact .inl ⟨rfl,e.symm⟩
     · rw[af.ar (nf _) u] at e
       by_cases f:a=r
       · subst f;rw[af.fi] at e;simp at e
       · rw[af.bQ (nf _) f] at e;exact .inr ⟨u,f,e⟩
   have qN:∀ a o,((S.del r).set id j).get a=some o→a≠r∧∃ o', S.get a=some o' := by
     intro a o e
     rcases get a o e with⟨rfl,_⟩ | ⟨_,b,c⟩
     · exact⟨fun h=>y h.symm,_,aH⟩
     · exact⟨b,o,c⟩
   have B:∀ a o l', S.get a=some o→a≠r→g.ph a=some l' → g.ro l'.bO=none→i.ro l'.bO=none:=by
     intro a o l' e u R L
     rw[d]
     simp only
     rw[if_neg (fun f=>u (hi.inj a r o _ l' l e D R O f))]
     exact L
   refine⟨fr,w,i,W.mono z,⟨fun b c' e=>?_,fun a o e=>?_,fun a b o o' la lb e M q q' f=>?_,fun a u=>by rw[m];exact hi.fresh a u⟩,⟨Nat.le_refl _,rfl,⟨rfl,Nat.le_refl _⟩,rfl,fun _ _ _=>rfl,fun a o l' e R L _=>?_,z,Nat.le_refl _,rfl,fun a u=>?_,fun _ _=>by rw[m],fun b c' e f=>?_,fun a u e=>?_,fun _ _=>rfl⟩,Steps.refl _ _⟩
   · rw[d] at e
     simp only at e
     split at e
     · rename_i f;simp only[an] at e;subst e;subst f;exact⟨t,_,p1⟩
     · exact hi.ro b c' e
   · rcases get a o e with⟨rfl,rfl⟩ | ⟨u,f,M⟩
     · obtain⟨l', J,U,V⟩:=hi.ob a _ aH
       exact⟨l', by rw[m];exact J,B a _ l' aH (fun h=>y h.symm) J U,hf g i z (fun _ _ h _=>Y h) l' _ V⟩
     · obtain⟨l', J,U,V⟩:=hi.ob a o M
       exact⟨l', by rw[m];exact J,B a o l' M f J U,V.mono z⟩
   · obtain⟨_,N,H⟩:=qN a o e
     obtain⟨_,u2,q2⟩:=qN b o' M
     rw[m] at q q'
     exact hi.inj a b N u2 la lb H q2 q q' f
   · obtain⟨_,N,H⟩:=qN a o e
     rw[m] at L
     exact⟨a,N,l', H,R,L,rfl⟩
   · have u:a<S.lim:=u
     rw[af.ar (nf _) (by omega),af.bQ (nf _) (by omega)]
   · rw[d] at e
     simp only at e
     split at e
     · rename_i Z;exact .inr ⟨r,_,l,D,A,O,Z.symm⟩
     · exact .inl e
   · cases hq:((S.del r).set id j).get a with
     | none=>rfl
     | some o=>obtain⟨_,N,H⟩:=qN a o hq;rw[e] at H;simp at H
 | _=>exact q
theorem afd (E:bL T P)(n:Nat)(r id:Nat){f:Nat}{a d:List AV}(F:(iY (ab T P n s)).get r=some (.arr sz es))(u:(iY (ab T P n s)).get id=some (.arr f a))(v:Nat.beq r id=false)(w:Nat.ble (iY (ab T P n s)).lim r=true)(z:Nat.ble (iY (ab T P n s)).lim id=true)(e:Kv r es a d)(q:SX P Q (zN r id (.arr f d) (ab T P n s))):SX P Q s:=by
 refine Qc E n r id F u v w z (fun g M L A l' x G=>?_) q
 obtain⟨c', H,h1,h2,h3,h4,h5,h6⟩:=G
 refine⟨c', H,h1,h2,h3,by rw[e.spec.1];exact h4,fun t I=>?_,fun i j t J y C D K=>?_⟩
 · obtain⟨i,h⟩:=List.getElem?_of_mem I
   have b:i<a.length:=by rw[←e.spec.1];exact(List.getElem?_eq_some_iff.1 h).1
   have c:a[i]? = some a[i]:=nA b
   rw[(e.spec.2 i _ t c h).cells.1]
   exact h5 _ (List.getElem_mem b)
 · have b:i<a.length:=by rw[←e.spec.1];exact(List.getElem?_eq_some_iff.1 C).1
   have c:a[i]? = some a[i]:=nA b
   have k:=(e.spec.2 i _ t c C).cells
   have B:j<a[i].cells.length:=by rw[←k.1];exact(List.getElem?_eq_some_iff.1 D).1
   have m:a[i].cells[j]? = some a[i].cells[j]:=nA B
   exact A _ _ (k.2 j _ J m D) y (h6 i j _ _ y c m K)
end
def Et (id:Nat)(o:ai)(s:St):St:=
 match s with
 | .run fn F S k=>.run fn F (S.set id o) k
 | s=>s
section
variable {T : FT} {P : Program} {Q : gI → af → Prop}
variable {s : St} {o o' : ai}
theorem Qd (E:bL T P)(n:Nat)(id:Nat)(hi:(iY (ab T P n s)).get id=some o)(f:Nat.ble (iY (ab T P n s)).lim id=true)(v:∀ g l x,rI g l x o→rI g l x o')(q:SX P Q (Et id o' (ab T P n s))):SX P Q s:=by
 refine⟨bP E.ok E.mix n ?_⟩
 generalize ab T P n s=s at hi f q
 have q:=q.out
 cases s with
 | run fn F S k=>
   have i:S.get id=some o:=hi
   have f:S.lim≤id:=ed f
   refine aA.reach (fun G A=>Reach.uF A rfl rfl rfl rfl fun g w fr cs B c=>⟨fr,w,g,B,?_,?_,Steps.refl _ _⟩) q
   · have back:∀ k o2,(S.set id o').get k=some o2→∃ o1,S.get k=some o1∧∀ g l x,rI g l x o1→rI g l x o2:=by
       intro k o2 e
       by_cases d:k=id
       · subst d
         rw[af.bn (nf _)] at e
         simp only[an] at e;subst e
         exact⟨_,i,v⟩
       · rw[af.ar (nf _) d] at e
         exact⟨o2,e,fun _ _ _ h=>h⟩
     refine⟨c.ro,fun k o2 e=>?_,fun a b o1 o2 l l' e C p D H=>?_,c.fresh⟩
     · obtain⟨o1,j,m⟩:=back k o2 e
       obtain⟨l,x,y,z⟩:=c.ob k o1 j
       exact⟨l,x,y,m _ _ _ z⟩
     · obtain⟨I,j,_⟩:=back a o1 e
       obtain⟨J,m,_⟩:=back b o2 C
       exact c.inj a b I J l l' j m p D H
   · refine⟨Nat.le_refl _,rfl,⟨rfl,Nat.le_refl _⟩,rfl,fun _ _ _=>rfl,fun k o2 l e t u _=>?_,Gh.le_refl _,Nat.le_refl _,rfl,fun k d=>af.ar (nf _) (by omega),fun _ _=>rfl,fun _ _ e _=>.inl e,fun k d e=>?_,fun _ _=>rfl⟩
     · by_cases d:k=id
       · subst d;exact⟨k,_,l,i,t,u,rfl⟩
       · rw[af.ar (nf _) d] at e;exact⟨k,o2,l,e,t,u,rfl⟩
     · have d:k≠id:=by rintro rfl;rw[i] at e;simp at e
       rw[af.ar (nf _) d];exact e
 | _=>exact q
theorem NR (E:bL T P)(n:Nat)(id:Nat){es' : List AV}(hi:(iY (ab T P n s)).get id=some (.arr sz es))(a:Nat.ble (iY (ab T P n s)).lim id=true)(b:rE es=es')(q:SX P Q (Et id (.arr sz es') (ab T P n s))):SX P Q s:=
 Qd E n id hi a (fun g l x h=>by have:=EL (n:=0) h;simpa [b] using this) q
end
def atc (P:Program)(S:af)(t:TypeId)(n:Nat)(l:List (Nat×AV)):Option cJ:=xw (mV P S t n l)
def lV (p:Option Code):ai→ai
 | .lp st _ f n m env c a b=>.lp st p f n m env c a b
 | o=>o
variable {o : ai} {p : Option Code}
theorem gq {σ:Nat→Nat}:(lV p o).aw σ=lV p (o.aw σ):=by cases o<;>rfl
variable {o' : ai}
theorem Ht {S:af}{d:List Nat}(h:qO S d o o'):qO S d (lV p o) (lV p o'):=by
 cases h with
 | arr a b c=>exact .arr a b c
 | mp a b=>exact .mp a b
 | df=>exact .df
 | lp h=>exact .lp h
end
end Go.Eng
namespace Go.Eng
noncomputable section
def nX (P:Program)(fn:Func)(bs:List Nat)(Q:gI→af→Prop)(F:ad)(S:af):Prop:=
 F.mode=.returning∧F.defers=[.rJ bs]∧∃ v,rP P fn F S=some v∧Q (.ret v) S
def rb (F:ad)(ds:List fT):ad:={ F with defers:=ds }
theorem Cj (F:ad)(ds:List fT)(t:Nat):(rb F ds).get t=F.get t:=by cases F;rfl
variable {P : Program} {fn : Func} {F : ad} {S : af}
theorem Ck (ds:List fT):rP P fn (rb F ds) S=rP P fn F S:=by
 have:∀ b,s7 P (rb F ds) S b=s7 P F S b:=by
  intro b
  induction b with
  | nil=>rfl
  | cons r b d=>cases r<;>simp only[s7,Cj,d]
 unfold rP
 rw[this]
variable {g : Gh}
theorem wc {fr:Frame}{ds:List fT}(h:mw P g F fr)(b:jY P g ds fr.defers):mw P g (rb F ds) fr:=
 ⟨h.fn,h.size,fun t v e=>h.get t v (by rw[←Cj F ds];exact e),h.todo,b,h.mode,h.kind,h.round⟩
theorem we {b cs:List Frame}(ds:List fT)(h:tg g F b cs):tg g (rb F ds) b cs:=by cases F;exact h
theorem jY.GQ {l:List fT}{m:List Deferred}(h:jY P g l m):jY P g (l++[.rJ []]) m:=by
 induction h with
 | nil=>exact .rJ (bs:=[]) .nil
 | cons d e f _ b=>exact .cons d e f b
 | lF i _ b=>exact .lF i b
 | rJ _ b=>exact .rJ b
theorem Reach.GQ {P:Program}{F:ad}{S:af}{G:ad→af→Prop}(h:Reach P (rb F (F.defers++[.rJ []])) S G):Reach P F S G:=by
 intro g w fr b cs i d hi
 obtain⟨F', j,g', w', e,f,q,k,m,n,o,p,r,t,u⟩:=h g w fr b cs (wc i i.defers.GQ) (we _ d) hi
 exact⟨F', j,g', w', e,f,q,k,m,n,o,p,r,t,u⟩
variable {Q : gI → af → Prop}
theorem Reach.XF (h:Reach P F S (nX P fn [] Q)):Reach P F S (Fin P fn fun r _ S=>Q r S):=by
 intro g w fr d cs j e hi
 obtain⟨F', k,g', w', b,f,⟨n,o,v,p,q⟩,i,u,x,y,z,A,B,C⟩:=h g w fr d cs j e hi
 have D:b.defers=[]:=by
  have:=i.defers
  rw[o] at this
  generalize E:b.defers=m at this
  cases this with | rJ t=>cases t;rfl
 refine⟨rb F' [],k,g', w', b,f,⟨rfl,.inl ⟨n,v,by rw[Ck];exact p,q⟩⟩,wc i (by rw[D];exact .nil),we _ u,x,y,z,A,B,C⟩
variable {a : Nat} {bs : List Nat}
theorem Reach.drop (hq:tM a Q){d:Nat}(hd:F.defers=[.lF d,.rJ bs])(Z:S.get d=some (.df true))(hl:S.lim=0)(h:∀ b,Reach P (rb F [.rJ (b::bs)]) (S.del d) (nX P fn (b::bs) Q)):Reach P F S (nX P fn bs Q):=by
 intro g w fr cs0 cs hf hcs hi
 obtain⟨l,a1,a2,a3⟩:=hi.ob d _ Z
 have b1:w.heap[l.bO]? = some (.deferred (some [])):=a3
 have O:=(Array.getElem?_eq_some_iff.1 b1).1
 have D:d<S.nx:=hi.iZ Z
 have hds:jY P g [.rJ (l.bO::bs)] fr.defers:=by
  have:=hf.defers
  rw[hd] at this
  generalize fr.defers=m at this
  cases this with
  | lF R t=>
    rw[a1] at R;simp only[an] at R;subst R
    cases t with | rJ t=>exact .rJ (bs:=l.bO::bs) t
 have U:∀ id o l', (S.del d).get id=some o→g.ph id=some l' → l'.bO≠l.bO:=by
  intro id o l' e z p
  by_cases aH:id=d
  · subst aH;rw[af.fi] at e;simp at e
  · rw[af.bQ (nf _) aH] at e
    exact aH (hi.inj id d o _ l' l e Z z a1 p)
 obtain⟨F', B,g', w', V,cs', ⟨q1,q2,v,q3,q4⟩,p1,p2,p3,p4,p5,p6,i,p8⟩:=h l.bO g w fr cs0 cs (wc hf hds) (we _ hcs) (hi.sub (af.CZ (nf _)))
 have r:g'.ph d=some l:=by rw[i.qN d D];exact a1
 have hhp:w'.heap[l.bO]? = some (.deferred (some [])):=by
  rw[i.gw l.bO O fun id o l' e _ z=>U id o l' e z];exact b1
 have hro:g'.ro l.bO=none:=by
  cases hr:g'.ro l.bO with
  | none=>rfl
  | some c=>
    rcases i.vl _ _ hr O with f | ⟨j,o0,K,L,_,M,N⟩
    · rw[a2] at f;simp at f
    · exact absurd N (U j o0 K L M)
 have W:B.get d=none:=i.dead d D af.fi
 have E:∀ id o l', B.get id=some o→g'.ph id=some l' → l'.bO≠l.bO:=by
  intro id o l' e z p
  obtain⟨j,o0,K,L,_,M,N⟩:=i.own id o l' e (by show S.lim≤id;omega) z (by rw[p];exact O)
  exact U j o0 K L M (N.trans p)
 have X:B.lim=0:=i.lim.trans hl
 obtain⟨n,A⟩:∃ s,s=B.set d (.df true):=⟨_,rfl⟩
 have g1:n.get d=some (.df true):=by rw[A];exact af.bn (nf _)
 have C:∀ id,id≠d→n.get id=B.get id:=fun id aH=>by rw[A];exact af.ar (nf _) aH
 have Qy:n.nx=B.nx:=by rw[A];rfl
 have H:n.lim=0:=by rw[A];exact X
 have hi1:Inv n g' w' := by
  refine⟨p6.ro,fun id o e=>?_,fun id y o o' la lb e z q q' p=>?_,fun id aH=>p6.fresh id (by rw[←Qy];exact aH)⟩
  · by_cases aH:id=d
    · subst aH;rw[g1] at e;simp only[an] at e;subst e
      exact⟨l,r,hro,hhp⟩
    · rw[C id aH] at e;exact p6.ob id o e
  · by_cases h1:id=d<;>by_cases h2:y=d
    · rw[h1,h2]
    · subst h1;rw[C y h2] at z
      rw[r] at q;simp only[an] at q;subst q
      exact absurd p.symm (E y o' lb z q')
    · subst h2;rw[C id h1] at e
      rw[r] at q';simp only[an] at q';subst q'
      exact absurd p (E id o la e q)
    · rw[C id h1] at e;rw[C y h2] at z
      exact p6.inj id y o o' la lb e z q q' p
 have back:∀ id o,(S.del d).get id=some o→S.get id=some o:=by
  intro id o e
  by_cases aH:id=d
  · subst aH;rw[af.fi] at e;simp at e
  · rw[af.bQ (nf _) aH] at e;exact e
 have hx1:Ext S g w n g' w' := by
  refine⟨i.size,i.os,i.tape,i.output,fun b p hne' => i.gw b p fun id o l' e e1 Y=>hne' id o l' (back id o e) (by omega) Y,fun id o l' e e1 Y e3=>?_,i.mJ,by rw[Qy];exact i.nx,by rw[H,hl],fun id aH=>by omega,i.qN,fun b c e p=>?_,fun id aH e=>?_,i.fz⟩
  · by_cases aH:id=d
    · subst aH
      rw[r] at Y;simp only[an] at Y;subst Y
      exact⟨id,_,l,Z,e1,a1,rfl⟩
    · rw[C id aH] at e
      obtain⟨j,o0,K,L,f2,M,N⟩:=i.own id o l' e (by show S.lim≤id;omega) Y e3
      exact⟨j,o0,K,back _ _ L,by omega,M,N⟩
  · rcases i.vl b c e p with f | ⟨j,o0,K,L,_,M,N⟩
    · exact .inl f
    · exact .inr ⟨j,o0,K,back _ _ L,by omega,M,N⟩
  · have I:id≠d:=by rintro rfl;rw[Z] at e;simp at e
    rw[C id I]
    exact i.dead id aH (by rw[af.bQ (nf _) I];exact e)
 have hdf1:jY P g' [.lF d,.rJ bs] V.defers:=by
  have:=p1.defers
  rw[q2] at this
  generalize V.defers=m at this
  cases this with
  | rJ t=>
    simp only[List.map_cons,List.cons_append]
    exact .lF r (.rJ t)
 have J:yf (fun x=>x) B (n.set d (.df false)):=by
  refine⟨fun id o e=>?_,fun id _=>by show(n.set d (.df false)).lim≤id;have:(n.set d (.df false)).lim=0:=H;omega,fun k=>by show B.nx+k=n.nx+k;rw[Qy],fun id aH=>by show id<n.nx;rw[Qy];exact aH⟩
  have aH:id≠d:=by rintro rfl;rw[W] at e;simp at e
  rw[ai.bY,af.ar (nf _) aH,C id aH];exact e
 have fin:nX P fn bs Q (rb F' [.rJ bs]) (n.set d (.df false)):=by
  have r1:=xh J q3
  rw[ad.bY,AV.bY] at r1
  have r2:=hq (fun x=>x) (fun _ _ e=>e) (fun _ _=>rfl) _ _ _ q4 J
  simp only[gI.aw,AV.bY] at r2
  exact⟨q1,rfl,v,by rw[Ck];exact r1,r2⟩
 have run:Reach P (rb F' [.lF d,.rJ bs]) n (nX P fn bs Q):=
  Reach.lF (ds:=[.rJ bs]) (by show F'.mode ≠ .run;rw[q1];simp) rfl g1 (by omega) (Reach.done fin)
 obtain⟨F2,S2,g2', w2,fr2,cs2,u,v1,v2,v3,v4,v5,v6,v7,v8⟩:=run g' w' V cs0 cs' (wc p1 hdf1) (we _ p2) hi1
 exact⟨F2,S2,g2', w2,fr2,cs2,u,v1,v2,v3.trans p3,v4.trans p4,v5.trans p5,v6,hx1.trans v7,p8.trans v8⟩
def Qz (a:Nat)(G:ad→af→Prop):Prop:=∀ σ:Nat→Nat,(∀ x y,σ x=σ y→x=y)→(∀ i,i<a→σ i=i)→∀ F S b,G F S→yf σ S b→G (F.aw σ) b
theorem IC (i:tM a Q):Qz a (nX P fn bs Q):=by
 rintro σ b d F S m ⟨e,f,v,j,k⟩ h
 refine⟨?_,?_,v.aw σ,xh h j,i σ b d _ _ _ k h⟩
 · cases F;simp only at e;subst e;rfl
 · cases F;simp only at f;subst f;rfl
def sC : cu→Bool
 | .nil=>true
 | .hole _=>true
 | .call _ _ _ _ _ _ n=>sC n
 | .pY _ _ _ n=>sC n
 | .loop _ _ _ _ _ n=>sC n
 | .round _ _ _ _ _ _ _ n=>sC n
 | _=>false
def zw : cu→Option (ad→af→Prop)
 | .hole G=>some G
 | .call _ _ _ _ _ _ n=>zw n
 | .pY _ _ _ n=>zw n
 | .loop _ _ _ _ _ n=>zw n
 | .round _ _ _ _ _ _ _ n=>zw n
 | _=>none
def nR : St→Bool
 | .run _ _ _ k=>sC k
 | _=>false
def uf : St→Option (ad→af→Prop)
 | .run _ _ _ k=>zw k
 | _=>none
def qp (σ:Nat→Nat):cu→Bool
 | .nil=>true
 | .hole _=>true
 | .call _ F _ _ _ td next=>iE σ F&&td.all (n9 σ)&&qp σ next
 | .pY _ F ds next=>iE σ F&&ds.all (vN σ)&&qp σ next
 | .loop _ F d i td next=>iE σ F&&td.all (n9 σ)&&Nat.beq (σ d) d&&Nat.beq (σ i) i&&qp σ next
 | .round _ F _ _ _ td id next=>iE σ F&&td.all (n9 σ)&&Nat.beq (σ id) id&&qp σ next
 | _=>false
def uS (σ:Nat→Nat):St→Bool
 | .run _ F _ k=>iE σ F&&qp σ k
 | _=>false
variable {G : ad → af → Prop}
theorem JS (j:Qz a G):∀ {k:cu} {ls:List (List Nat)},sC k=true→zw k=some G→ss (fun x=>x) k (Gn k ls):=by
 intro k
 induction k with
 | nil=>intro ls _ h;simp[zw] at h
 | hole i=>
   intro ls _ h
   simp only[zw,an] at h
   subst h
   have:ss (fun x=>x) (.hole i) (.hole i):=.hole fun F S m q n=>j _ (fun _ _ e=>e) (fun _ _=>rfl) F S m q n
   cases ls<;>exact this
 | call fn F o all rest td next b=>
   intro ls h f
   cases ls with
   | nil=>exact .call (by rw[ad.bY];exact rD.refl F) (ay.bY td).symm (by have:=b (ls:=[]) h f;cases next<;>exact this)
   | cons l ls=>exact .call (by rw[ad.bY];exact fV F l) (ay.bY td).symm (b h f)
 | pY fn F ds next b=>
   intro ls h f
   cases ls with
   | nil=>exact .pY (by rw[ad.bY];exact rD.refl F) (fT.bY ds).symm (by have:=b (ls:=[]) h f;cases next<;>exact this)
   | cons l ls=>exact .pY (by rw[ad.bY];exact fV F l) (fT.bY ds).symm (b h f)
 | loop fn F d l td next b=>
   intro ls h f
   cases ls with
   | nil=>exact .loop (by rw[ad.bY];exact rD.refl F) (ay.bY td).symm rfl rfl (by have:=b (ls:=[]) h f;cases next<;>exact this)
   | cons l' ls=>exact .loop (by rw[ad.bY];exact fV F l') (ay.bY td).symm rfl rfl (b h f)
 | round fn F o all rest td id next b=>
   intro ls h f
   cases ls with
   | nil=>exact .round (by rw[ad.bY];exact rD.refl F) (ay.bY td).symm rfl (by have:=b (ls:=[]) h f;cases next<;>exact this)
   | cons l ls=>exact .round (by rw[ad.bY];exact fV F l) (ay.bY td).symm rfl (b h f)
 | e9 D o os E r aH p next b=>intro ls h;simp[sC] at h
theorem Hu (p:Qz a G){σ:Nat→Nat}(j:∀ x y,σ x=σ y→x=y)(m:∀ i,i<a→σ i=i) :
   ∀ {k:cu} {ls:List (List (Nat×AV))},qp σ k=true→zw k=some G→ls.length=qi k→ss σ (vA k (ls.map (gC σ))) (vA k ls):=by
 intro k
 induction k with
 | nil=>intro ls _ h;simp[zw] at h
 | hole n=>
   intro ls _ h _
   simp only[zw,an] at h
   subst h
   have:ss σ (.hole n) (.hole n):=.hole fun F S r q t=>p _ j m F S r q t
   cases ls<;>exact this
 | call fn F o all rest td next e=>
   intro ls h f b
   simp only[qp,Bool.and_eq_true] at h
   cases ls with
   | nil=>simp[qi] at b
   | cons l ls=>exact .call (by rw[fW (fX h.1.1)];exact rD.refl _) (kM h.1.2).symm (e h.2 f (by simpa [qi] using b))
 | pY fn F ds next e=>
   intro ls h f b
   simp only[qp,Bool.and_eq_true] at h
   cases ls with
   | nil=>simp[qi] at b
   | cons l ls=>exact .pY (by rw[fW (fX h.1.1)];exact rD.refl _) (u5 h.1.2).symm (e h.2 f (by simpa [qi] using b))
 | loop fn F d i td next e=>
   intro ls h f b
   simp only[qp,Bool.and_eq_true] at h
   cases ls with
   | nil=>simp[qi] at b
   | cons l ls=>exact .loop (by rw[fW (fX h.1.1.1.1)];exact rD.refl _) (kM h.1.1.1.2).symm (jj h.1.1.2).symm (jj h.1.2).symm (e h.2 f (by simpa [qi] using b))
 | round fn F o all rest td id next e=>
   intro ls h f b
   simp only[qp,Bool.and_eq_true] at h
   cases ls with
   | nil=>simp[qi] at b
   | cons l ls=>exact .round (by rw[fW (fX h.1.1.1)];exact rD.refl _) (kM h.1.1.2).symm (jj h.1.2).symm (e h.2 f (by simpa [qi] using b))
 | e9 D o os E v aH u next e=>intro ls h;simp[qp] at h
section
variable {T : FT} {P : Program} {Qf : gI → af → Prop}
variable {s : St}
theorem aA.afe (i:Qz a G)(j:tM a Qf){d:List (List Nat)}{ids:List Nat}(f:nR s=true)(m:uf s=some G)(h:aA P Qf (qh d ids s)):aA P Qf s:=by
 cases s with
 | run fn F S k=>
   cases d with
   | nil=>exact h.elim
   | cons l ls=>
     simp only[qh] at h
     refine aA.aw (σ:=fun x=>x) (fun a b e=>e) (fun r S n q p=>j _ (fun a b e=>e) (fun _ _=>rfl) r S n q p) (JS i f m) (by rw[ad.bY];exact fV F l) ?_ h
     exact⟨fun id o e=>by rw[ai.bY];exact EI (vL (nx:=S.nx) e),fun id h=>h,fun k=>rfl,fun id aH=>aH⟩
 | _=>simp[nR] at f
variable {c : St} {ls ls2 : List (List (Nat × AV))} {l l2 : List (Nat × ai)}
theorem JT (v:Qz a G)(w:tM a Qf)(b:List (Nat×Nat))(N nx:Nat)(j:s8 b N nx [] []=true)(A:(b.all fun p=>Nat.ble a p.1)=true)(E:a≤N)(n:uS (jR b N nx) c=true)(m:uf c=some G)(u:ls.length=su c)(t:ls2=ls.map (gC (jR b N nx)))(B:aY (oL nx l2) (rN (jR b N nx) l))(h:aA P Qf (iJ c ls (oL N l))):aA P Qf (iJ c ls2 (oL nx l2)):=by
 cases c with
 | run fn F S0 k=>
   cases ls with
   | nil=>simp[su] at u
   | cons s ls=>
     subst t
     have f:∀ i,i<a→jR b N nx i=i:=by
       intro i hi
       have:∀ l:List (Nat×Nat),(l.all fun p=>Nat.ble a p.1)=true→jR l N nx i=i:=by
        intro l
        induction l with
        | nil => intro _;simp only[jR];split
                 · rename_i e;have:=ed e;omega
                 · rfl
        | cons p r C=>
          intro d
          simp only[List.all_cons,Bool.and_eq_true] at d
          simp only[jR]
          cases m:Nat.beq p.1 i with
          | true=>have:=jj m;have:=ed d.1;omega
          | false=>exact C d.2
       exact this b A
     simp only[uS,Bool.and_eq_true] at n
     refine aA.aw (σ:=jR b N nx) (tS j) (fun r S D q t=>w _ (tS j) f r S D q t) (Hu v (tS j) f n.2 m (by simpa [su] using u)) (by rw[fW (fX n.1)];exact rD.refl _) ?_ h
     obtain⟨h0,h1⟩:=Ce j
     refine⟨fun id o e=>?_,fun _ _=>Nat.zero_le _,fun k=>?_,fun id aH=>?_⟩
     · refine Ap B (jR b N nx id) (o.aw (jR b N nx)) ?_
       exact List.mem_map.2 ⟨(id,o),vL e,rfl⟩
     · show jR b N nx (N+k)=nx+k
       rcases h1 (N+k) with⟨x,y⟩ | ⟨x,y⟩ | ⟨x,y,z⟩
       · omega
       · rw[y];omega
       · omega
     · have aH:id<N:=aH
       show jR b N nx id<nx
       rcases h1 id with⟨x,y⟩ | ⟨x,y⟩ | ⟨x,y,z⟩<;>omega
 | _=>simp[uf] at m
end
section
variable {T : FT} {P : Program} {Q : gI → af → Prop}
variable {s : St}
theorem LW (E:bL T P)(b:Qz a G)(d:tM a Q)(n:Nat)(e:List (List Nat))(ids:List Nat){s' : St}(f:nR (ab T P n s)=true)(i:uf (ab T P n s)=some G)(h:qh e ids (ab T P n s)=s')(q:SX P Q s'):SX P Q s:=
 ⟨bP E.ok E.mix n (aA.afe b d f i (by rw[h];exact q.out))⟩
variable {c : St} {ls ls2 : List (List (Nat × AV))} {l l2 : List (Nat × ai)}
theorem Pk (E:bL T P)(f:Qz a G)(i:tM a Q)(n:Nat)(j:List (List Nat))(ids:List Nat)(b:List (Nat×Nat))(N nx:Nat)(k:nR (ab T P n s)=true)(m:uf (ab T P n s)=some G)(e:uf c=some G)(h:qh j ids (ab T P n s)=iJ c ls2 (oL nx l2))(d:(s8 b N nx [] []&&b.all (fun p=>Nat.ble a p.1)&&Nat.ble a N)=true)(o:uS (jR b N nx) c=true)(q:Nat.beq ls.length (su c)=true)(r:ko l2=true)(t:ls2=ls.map (gC (jR b N nx)))(u:l2=rN (jR b N nx) l)(v:SX P Q (iJ c ls (oL N l))):SX P Q s:=by
 simp only[Bool.and_eq_true] at d
 exact LW E f i n j ids k m h ⟨JT f i b N nx d.1.1 d.1.2 (ed d.2) o e (jj q) t (by rw[←u];exact xj r) v.out⟩
def CR (P:Program)(Q:gI→af→Prop)(s:St):St:=
 match s with
 | .run fn F S .nil=>.run fn (rb F (F.defers++[.rJ []])) S (.hole (nX P fn [] Q))
 | _=>.bad 74
theorem zW (E:bL T P)(n:Nat)(q:SX P Q (CR P Q (ab T P n s))):SX P Q s:=by
 refine⟨bP E.ok E.mix n ?_⟩
 generalize ab T P n s=s at q
 have q:=q.out
 cases s with
 | run fn F S k=>
   cases k with
   | nil=>
     have q:Reach P (rb F (F.defers++[.rJ []])) S (nX P fn [] Q):=q
     exact(Reach.GQ q).XF
   | _=>exact q.elim
 | _=>exact q.elim
def A6 : St→Option (ad→af→Prop)
 | .run _ _ _ (.hole G)=>some G
 | _=>none
def Yd : St→Func
 | .run fn _ _ _=>fn
 | _=>default
def abY : St→List fT
 | .run _ F _ _=>F.defers
 | _=>[]
def Ii : St→Bool
 | .run _ F _ _=>match F.mode with
   | .returning=>true
   | _=>false
 | _=>false
def QZ (P:Program):St→Option AV
 | .run fn F S _=>rP P fn F S
 | _=>none
def Qe (P:Program)(Q:gI→af→Prop)(d b:Nat)(bs:List Nat)(s:St):St:=
 match s with
 | .run fn F S _=>.run fn (rb F [.rJ (b::bs)]) (S.del d) (.hole (nX P fn (b::bs) Q))
 | _=>.bad 74
theorem iv (E:bL T P)(j:tM a Q)(n:Nat)(d:Nat)(e:A6 (ab T P n s)=some (nX P (Yd (ab T P n s)) bs Q))(f:abY (ab T P n s)=[.lF d,.rJ bs])(h:(iY (ab T P n s)).get d=some (.df true))(i:Nat.beq (iY (ab T P n s)).lim 0=true)(q:∀ b,SX P Q (Qe P Q d b bs (ab T P n s))):SX P Q s:=by
 refine⟨bP E.ok E.mix n ?_⟩
 generalize ab T P n s=s at e f h i q
 cases s with
 | run fn F S k=>
   cases k with
   | hole G=>
     simp only[A6,Yd,an] at e
     subst e
     show Reach P F S (nX P fn bs Q)
     exact Reach.drop j f h (jj i) fun b=>(q b).out
   | _=>simp[A6] at e
 | _=>simp[A6] at e
theorem XG (E:bL T P)(n:Nat){k:Nat}{v j:AV}{jB:List (Option ai)}{add:List ai}(b:List Nat)(f:A6 (ab T P n s)=some (nX P (Yd (ab T P n s)) bs (RG k j jB add)))(m:abY (ab T P n s)=[.rJ bs])(d:Ii (ab T P n s)=true)(h:QZ P (ab T P n s)=some v)(r:Gp k add.length b=true)(t:gJ (iY (ab T P n s)) b v j)(u:mA (iY (ab T P n s)) b 0 jB)(w:sT (iY (ab T P n s)) b (b.drop k) add):SX P Q s:=by
 refine⟨bP E.ok E.mix n ?_⟩
 generalize ab T P n s=s at f m d h t u w
 cases s with
 | run fn F S x=>
   cases x with
   | hole G=>
     simp only[A6,Yd,an] at f
     subst f
     show Reach P F S (nX P fn bs (RG k j jB add))
     have d:F.mode=.returning:=by
       simp only[Ii] at d
       split at d
       · assumption
       · simp at d
     refine Reach.done ⟨d,m,v,h,?_⟩
     simp only[Gp,Bool.and_eq_true,decide_eq_true_eq,List.all_eq_true,List.mem_range,beq_iff_eq] at r
     obtain⟨⟨k1,k2⟩,k3⟩:=r
     refine⟨_,b,rfl,k1,jj k2,k3,t,fun i o' e=>?_,fun i o' e=>?_⟩
     · have:=As u i o' e
       rwa [Nat.zero_add] at this
     · obtain⟨id,o,p,q⟩:=Au w i o' e
       exact⟨id,o,by rwa [List.getElem?_drop] at p,q⟩
   | _=>simp[A6] at f
 | _=>simp[A6] at f
end
def LA (v:AV)(b:af)(s:St):St:=
 match s with
 | .e9 D k=>match D.os with
   | o::os=>match hidden (al D.dX o.after.toList) D.jJ with
     | some aH=>.e9 (D.next o os (al D.dX o.after.toList) v b.nx (rG b D.S.nx (b.nx-D.S.nx)) (some ⟨D.S.nx,D.S.nx,iI D.S.m aH⟩)) k
     | none=>.bad 5
   | []=>.bad 5
 | _=>.bad 5
section
variable {T : FT} {P : Program} {Qf : gI → af → Prop}
variable {s : St}
theorem JU (z:cq T P)(t:P.follows .mixedOrders=true)(n:Nat)(g:Nat)(args:List AV)(E:af)(v:AV)(f:af)(h:Ku T P (ab T P n s)=some (g,args,E))(B:cL P g args E fun r S=>r=.ret v∧S=f)(q:aA P Qf (LA v f (ab T P n s))):aA P Qf s:=by
 refine bP z t n ?_
 generalize ab T P n s=s at h q
 cases s with
 | e9 D k=>
   simp only[Ku,LA] at h q
   cases d:D.os with
   | nil=>rw[d] at h;simp at h
   | cons o os=>
     rw[d] at h q
     simp only at h q
     split at h<;>try (simp at h;done)
     rename_i c aH i C hh
     split at h<;>simp only[an,gU,reduceCtorEq] at h
     rename_i H
     obtain⟨rfl,rfl,rfl⟩:=h
     rw[hh] at q
     simp only at q
     obtain⟨N,I⟩:=mh z i H
     have w:=gr i
     refine fh.mono (fun Q q=>?_) q
     refine nZ.step q d rfl (fun R S0 E0 O v0 U A J K=>?_)
     have j:mL P D.ops o D.F.get ⟨D.S.nx,D.S.nx,iI D.S.m aH⟩ v f:=mL.call C w (I _) B
     obtain⟨_,x,y⟩:=A.aH hh
     have u:∀ id ob,(⟨D.S.nx,D.S.nx,iI D.S.m aH⟩:af).get id=some ob→id∉aH∧D.S.get id=some ob:=by
      intro id ob e
      rw[y] at e
      split at e
      · simp at e
      · exact⟨by assumption,e⟩
     have L:=K _ _ _ j rfl fun id ob e=>(u id ob e).2
     have:=A.news J d (ids:=[]) (nw:=rG f D.S.nx (f.nx-D.S.nx)) (Eo:=some ⟨D.S.nx,D.S.nx,iI D.S.m aH⟩) j L rfl (.inr rfl) (fun id ob e=>⟨(u id ob e).2,x id (u id ob e).1⟩) (fun id ob e M p=>absurd p (Nat.not_lt.2 M)) (fun id e _=>by simp at e) (fun id e _ p=>by simp at e)
      (fun id ob e=>by
       obtain⟨a,_,b,c⟩:=uY e
       exact⟨a,b,c⟩) (.inl rfl)
     exact this
 | _=>simp[Ku] at h
end
def Q0 (v:AV)(r:af→af)(s:St):St:=
 match s with
 | .e9 D k=>LA v (r (IS (.e9 D k))) (.e9 D k)
 | .run fn F S k=>NQ v r (.run fn F S k)
 | _=>.bad 5
section
variable {T : FT} {P : Program} {Q : gI → af → Prop}
variable {s : St}
theorem MV (E:bL T P)(n:Nat)(g:Nat)(args:List AV)(v:AV)(r:af→af)(h:Qx T P (ab T P n s)=some (g,args))(f:cL P g args (IS (ab T P n s)) fun x i=>x=.ret v∧i=r (IS (ab T P n s)))(q:SX P Q (Q0 v r (ab T P n s))):SX P Q s:=by
 refine⟨bP E.ok E.mix n ?_⟩
 generalize ab T P n s=s at h f q
 have q:=q.out
 cases s with
 | run fn F S k=>exact vW E.ok E.mix 0 g args S v _ h rfl ⟨fn,F,S,k,rfl⟩ f q
 | e9 D k=>
   simp only[Qx] at h
   cases b:Ku T P (.e9 D k) with
   | none=>rw[b] at h;simp at h
   | some p=>
     obtain⟨g', d,j⟩:=p
     rw[b] at h
     simp only[an,gU] at h
     obtain⟨rfl,rfl⟩:=h
     have m:j=IS (.e9 D k):=by
      simp only[Ku] at b
      simp only[IS]
      cases e:D.os with
      | nil=>rw[e] at b;simp at b
      | cons o os=>
        rw[e] at b
        simp only at b
        split at b<;>try (simp at b;done)
        rename_i hh
        split at b<;>simp only[an,gU,reduceCtorEq] at b
        simp only[hh]
        exact b.2.2.symm
     subst m
     exact JU E.ok E.mix 0 g' d _ v _ b f q
 | _=>simp[Qx] at h
end
end
end Go.Eng
namespace Go.Eng
noncomputable section
def xf (fn:Func):cu→Func
 | .call b _ _ _ _ _ n=>xf b n
 | .pY b _ _ n=>xf b n
 | .loop b _ _ _ _ n=>xf b n
 | .round b _ _ _ _ _ _ n=>xf b n
 | _=>fn
def uu : St→Func
 | .run fn _ _ k=>xf fn k
 | _=>default
def aq2 (bs:List Nat):fT→fT
 | .rJ _=>.rJ bs
 | d=>d
def YG (bs:List Nat)(k:cu)(F:ad):ad:=match k with
 | .hole _=>rb F (F.defers.map (aq2 bs))
 | _=>F
def YH (G:ad→af→Prop)(bs:List Nat):cu→cu
 | .hole _=>.hole G
 | .call fn F o all rest td n=>.call fn (YG bs n F) o all rest td (YH G bs n)
 | .pY fn F ds n=>.pY fn (YG bs n F) ds (YH G bs n)
 | .loop fn F d l td n=>.loop fn (YG bs n F) d l td (YH G bs n)
 | .round fn F o all rest td id n=>.round fn (YG bs n F) o all rest td id (YH G bs n)
 | k=>k
def Nq (P:Program)(Q:gI→af→Prop)(bs:List Nat):St→St
 | .run fn F S k=>.run fn (YG bs k F) S (YH (nX P (xf fn k) bs Q) bs k)
 | s=>s
section
variable {T : FT} {P : Program} {Q : gI → af → Prop}
variable {a : Nat} {s : St}
theorem XH (E:bL T P)(b:tM a Q)(n:Nat)(d:List (List Nat))(ids:List Nat)(bs:List Nat){s' : St}(e:nR (ab T P n s)=true)(f:uf (ab T P n s)=some (nX P (uu (ab T P n s)) bs Q))(h:qh d ids (ab T P n s)=s')(q:SX P Q s'):SX P Q s:=
 LW E (IC b) b n d ids e f h q
variable {c : St} {ls ls2 : List (List (Nat × AV))} {l l2 : List (Nat × ai)}
theorem Da (E:bL T P)(e:tM a Q)(n:Nat)(f:List (List Nat))(ids:List Nat)(b:List (Nat×Nat))(N nx:Nat)(bs:List Nat)(g:nR (ab T P n s)=true)(i:uf (ab T P n s)=some (nX P (uu (ab T P n s)) bs Q))(d:uf c=some (nX P (uu (ab T P n s)) bs Q))(h:qh f ids (ab T P n s)=iJ c ls2 (oL nx l2))(j:(s8 b N nx [] []&&b.all (fun p=>Nat.ble a p.1)&&Nat.ble a N)=true)(m:uS (jR b N nx) c=true)(o:Nat.beq ls.length (su c)=true)(q:ko l2=true)(r:ls2=ls.map (gC (jR b N nx)))(u:l2=rN (jR b N nx) l)(w:SX P Q (iJ c ls (oL N l))):SX P Q s:=
 Pk E (IC e) e n f ids b N nx g i d h j m o q r u w
variable {k : Nat} {v v' : AV} {jB : List (Option ai)} {add : List ai}
theorem Pl (E:bL T P)(n:Nat){bs:List Nat}(b:List Nat)(d:A6 (ab T P n s)=some (nX P (Yd (ab T P n s)) bs (RG k v' jB add)))(e:abY (ab T P n s)=[.rJ bs])(f:Ii (ab T P n s)=true)(h:QZ P (ab T P n s)=some v)(g:Gp k add.length b=true)(i:gJ (iY (ab T P n s)) b v v')(j:mA (iY (ab T P n s)) b 0 jB)(m:sT (iY (ab T P n s)) b (b.drop k) add):SX P (RG k v' jB add) s:=
 XG E n b d e f h g i j m
end
def as8 (k:IntKind)(a b:Int):Int:=k.wrap (((BitVec.ofInt k.bits a &&& BitVec.ofInt k.bits b).toNat:Nat):Int)
def atd (k:IntKind)(a b:Int):Int:=k.wrap (((BitVec.ofInt k.bits a ||| BitVec.ofInt k.bits b).toNat:Nat):Int)
def as9 (k:IntKind)(a:Int)(b:Nat):Int:=a.fdiv (2 ^ (min b k.bits))
attribute [simp] fB
theorem MW {α β:Type}(f:α→β):∀(l:List α) (n:Nat) (ys:List α),jF (l.map f) n (ys.map f)=(jF l n ys).map f:=by
 intro l
 induction l with
 | nil=>intro n ys;cases ys<;>rfl
 | cons a l b=>
   intro n ys
   cases ys with
   | nil=>rfl
   | cons y ys=>cases n with
     | zero=>simp[jF,b]
     | succ n=>
       have:=b n (y::ys)
       simp only[List.map_cons] at this
       simp only[List.map_cons,jF,this]
section
variable {P : Program} {α : Type} {enc : α → AV}
variable {S : af} {t el n id len : Nat} {es : List AV}
theorem abP {k:IntKind}{b:Int}(d:P.underlying t=some (.slice el))(e:oK P el=some n)(f:S.get id=some (.arr n es))(h:0≤b∧b≤(len:Int)) :
  Kp P S t (.ak id 0 len) none (some (.sc (.int k b)))=some (.val (.ak id 0 b.toNat) S):=by
 have g:b.toNat≤len:=by omega
 simp only[Kp,ku,d,e,f,AU,kb h.1,jC,Nat.beq_refl,show Nat.ble 0 b.toNat=true from sr (by omega),show Nat.ble b.toNat len=true from sr g]
 simp
theorem abQ {k:IntKind}{a:Int}(b:P.underlying t=some (.slice el))(d:oK P el=some n)(e:S.get id=some (.arr n es))(h:0≤a∧a≤(len:Int)) :
  Kp P S t (.ak id 0 len) (some (.sc (.int k a))) none=some (.val (.ak id a.toNat (len-a.toNat)) S):=by
 have f:a.toNat≤len:=by omega
 simp only[Kp,ku,b,d,e,AU,kb h.1,jC,Nat.beq_refl,show Nat.ble a.toNat len=true from sr f,show Nat.ble len len=true from sr (Nat.le_refl _)]
 simp
variable {sz : Nat}
theorem abR {m:Nat}{xs:List α}(b:S.get id=some (.arr sz (xs.map enc)))(d:m≤xs.length):gl S (.ak id 0 m)=some ((xs.take m).map enc):=by
 have e:Nat.ble m xs.length=true:=sr d
 simp[gl,pd,b,e,List.map_take]
def aqo (P:Program)(S:af)(ts:List TypeId)(d x:AV):Option cJ:=fM P S .copy ts [d,x]
theorem aqd {st off:Nat}{ts:List TypeId}{e:AV}{xs ys:List α}(j:P.underlying st=some (.slice el))(m:oK P el=some sz)(d:∀ x,(enc x).cells.length=sz)(b:∀ x,(enc x).cells.all cV=true)(f:S.get id=some (.arr sz (xs.map enc)))(g:gl S e=some (ys.map enc))(o:Nat.ble S.lim id=true)(h:off+len≤xs.length) :
  aqo P S (st::ts) (.ak id off len) e=some (.val (.sc (.int .i64 ((min ys.length len:Nat):Int))) (S.set id (.arr sz ((jF xs off (ys.take (min ys.length len))).map enc)))):=by
 have i:=kU (enc:=enc) d b ys
 have p:Nat.ble (off+len) (xs.map enc).length=true:=sr (by simpa using h)
 simp only[aqo,fM,CI,j,f,g,m,Nat.beq_refl,o,p,i,Bool.and_self]
 simp[←List.map_take,MW]
end
variable {v' : AV} {jB : List (Option ai)} {add : List ai} {S : af} {args : List AV} {olds : List ai}
theorem cL.aff {P:Program}{f:FuncId}{S0:af}(h:cL P f args S0 (RG olds.length v' jB add))(h0:∀ i:Nat,S0.get i=olds[i]?)(h1:S0.nx=olds.length)(h2:S0.lim=olds.length){ids:List Nat}(hlim:S.lim≤S.nx)(hi:ids.length=olds.length)(hn:ids.Nodup)(hS:∀(i a:Nat) (o:ai),ids[i]? = some a→olds[i]? = some o→S.get a=some (o.aw (rL ids S.nx))) :
   cL P f (dE (rL ids S.nx) args) S fun r L=>r=.ret (v'.aw (rL ids S.nx))∧L=uI S (add.map (ai.aw (rL ids S.nx))):=by
 intro g2 w xs hx m
 obtain⟨σ,hσ⟩:∃ σ,σ=rL ids S.nx:=⟨_,rfl⟩
 rw[←hσ] at hx hS
 rw[←hσ]
 obtain⟨k,hk⟩:∃ k,k=olds.length:=⟨_,rfl⟩
 rw[←hk] at h h1 h2 hi
 obtain⟨g,hg⟩:∃ g:Gh,g={ ro:=g2.ro,ph:=fun id=>g2.ph (σ id) }:=⟨_,rfl⟩
 have B:iK σ g g2:=by rw[hg];exact⟨rfl,fun _=>rfl⟩
 have K:∀(i a:Nat),ids[i]? = some a→σ i=a:=by intro i a e;rw[hσ];simp[rL,e]
 have N:∀ i:Nat,k≤i→σ i=S.nx+(i-k):=by
   intro i e
   have:ids[i]? = none:=List.getElem?_eq_none (by rw[hi];exact e)
   rw[hσ];simp only[rL,this,hi]
 have hidx:∀(i:Nat) (o:ai),olds[i]? = some o→∃ a,ids[i]? = some a:=by
   intro i o e
   have:i<ids.length:=by rw[hi,hk];exact(List.getElem?_eq_some_iff.1 e).1
   exact⟨_,nA this⟩
 have hinj:∀(i j a:Nat),ids[i]? = some a→ids[j]? = some a→i=j:=by
   intro i j a e X
   have C:=(List.getElem?_eq_some_iff.1 e).1
   exact(List.getElem?_inj C hn).1 (e.trans X.symm)
 have idlt:∀(i a:Nat),ids[i]? = some a→a<S.nx:=by
   intro i a e
   have J:i<olds.length:=by rw[←hk,←hi];exact(List.getElem?_eq_some_iff.1 e).1
   exact m.iZ (hS i a _ e (nA J))
 have hinv0:Inv S0 g w:=by
   refine⟨fun b c e=>m.ro b c (by rw[←B.ro];exact e),fun id o e=>?_,fun id F o o' l l' e X p p' q=>?_,fun id aH=>?_⟩
   · rw[h0] at e
     obtain⟨a,R⟩:=hidx id o e
     obtain⟨l,x,y,z⟩:=m.ob a _ (hS id a o R e)
     exact⟨l,by rw[B.ph,K id a R];exact x,by rw[B.ro];exact y,z.gx B⟩
   · rw[h0] at e X
     obtain⟨a,R⟩:=hidx id o e
     obtain⟨a', ha'⟩:=hidx F o' X
     have:=m.inj a a' _ _ l l' (hS id a o R e) (hS F a' o' ha' X) (by rw[←K id a R,←B.ph];exact p) (by rw[←K F a' ha', ←B.ph];exact p') q
     subst this
     exact hinj id F a R ha'
   · rw[h1] at aH
     rw[B.ph]
     exact m.fresh _ (by rw[N id aH];omega)
 have O:∀ id o,S0.get id=some o→S0.lim≤id→False:=by
   intro id o e hl
   have:=hinv0.iZ e
   omega
 refine(h g w xs (hx.gx B) hinv0).mono fun e w' ⟨r,L,g', ⟨v,I,hr,hnd,hlen,hkl,hf,hupd,hadd⟩,hres,C,D⟩=>?_
 subst hr
 have hsub:af.sub (s9 L I) L:=⟨(zl L I).1.symm,(zl L I).2,fun id o e=>by rw[oe] at e;split at e<;>first | simp at e | exact e⟩
 have hik:Inv (s9 L I) g' w' := C.sub hsub
 have hfz:=Gh.gQ hik
 have G:∀ b c,(g'.freeze (s9 L I) w').ro b=some c→g'.ro b=some c∨(∃ t fz,w'.heap[b]? = some (.cells c t fz))∧∃ id o l,(s9 L I).get id=some o∧g'.ph id=some l∧l.bO=b:=by
   intro b c e
   simp only[Gh.freeze] at e
   split at e
   · rename_i c' hc;simp only[an] at e;subst e;exact .inl hc
   · split at e
     · rename_i c' t fz hh
       split at e<;>simp only[an,reduceCtorEq] at e
       rename_i hex
       subst e;exact .inr ⟨⟨t,fz,hh⟩,hex⟩
     · simp at e
 obtain⟨gf,hgf⟩:∃ gf,gf=g'.freeze (s9 L I) w' := ⟨_,rfl⟩
 rw[←hgf] at hfz G
 obtain⟨gk,hgk⟩:∃ gk:Gh,gk={ ro:=gf.ro,ph:=fun j=>match I[j]? with | some id=>g'.ph id | none=>none }:=⟨_,rfl⟩
 obtain⟨gn,E⟩:∃ gn:Gh,gn={ ro:=gf.ro,ph:=fun a=>if a<S.nx then g2.ph a else match I[k+(a-S.nx)]? with | some id=>g'.ph id | none=>none }:=⟨_,rfl⟩
 have hkro:gk.ro=gf.ro:=by rw[hgk]
 have V:∀ j id,I[j]? = some id→gk.ph j=g'.ph id:=by intro j id e;rw[hgk];simp only[e]
 have hren:iK σ gk gn:=by
   refine⟨by rw[hgk,E],fun j=>?_⟩
   by_cases Z:j<k
   · have hja:ids[j]? = some ids[j]:=nA (by rw[hi];omega)
     rw[V j j (hkl j Z),K j _ hja,D.qN j (by rw[h1];exact Z),B.ph,K j _ hja,E]
     simp only[idlt j _ hja,if_true]
   · rw[N j (by omega),E,hgk]
     simp only[show ¬ (S.nx+(j-k)<S.nx) from by omega,if_false,show k+(S.nx+(j-k)-S.nx)=j from by omega]
 have d:∀ a,a<S.nx→gn.ph a=g2.ph a:=by intro a e;rw[E];simp only[e,if_true]
 have hgle:Gh.le g2 gn:=by
   refine⟨fun b c e=>by rw[E];exact hfz.1.ro b c (D.mJ.ro b c (by rw[B.ro];exact e)),fun a l e=>?_⟩
   rcases Nat.lt_or_ge a S.nx with q | q
   · rw[d a q];exact e
   · rw[m.fresh a q] at e;simp at e
 obtain⟨S2,hS2⟩:∃ S2,S2=uI S (add.map (ai.aw σ)):=⟨_,rfl⟩
 rw[←hS2]
 have hnx2:S2.nx=S.nx+add.length:=by rw[hS2,(zm _ _).1];simp
 have hlim2:S2.lim=S.lim:=by rw[hS2,(zm _ _).2]
 have H:∀ a,a<S.nx→S2.get a=S.get a:=by
   intro a R
   rw[hS2,wb,if_neg (by omega)]
 have W:∀ a o,S2.get a=some o→(∃(j id:Nat) (o0 o' : ai),k≤j∧σ j=a∧I[j]? = some id∧L.get id=some o0∧qO L I o0 o' ∧ o=o'.aw σ)∨(a<S.nx∧S.get a=some o):=by
   intro a o e
   rcases Nat.lt_or_ge a S.nx with q | q
   · exact .inr ⟨q,by rw[←H a q];exact e⟩
   · rw[hS2,wb] at e
     split at e
     · rw[List.getElem?_map] at e
       cases U:add[a-S.nx]? with
       | none=>rw[U] at e;simp at e
       | some o' =>
         rw[U] at e;simp at e
         obtain⟨id,o0,q0,A,M⟩:=hadd _ o' U
         exact .inl ⟨k+(a-S.nx),id,o0,o', by omega,by rw[N _ (by omega)];omega,q0,A,M,e.symm⟩
     · exact absurd (m.iZ e) (by omega)
 have kpge:∀(j id:Nat),k≤j→I[j]? = some id→k≤id:=by
   intro j id Z e
   rcases Nat.lt_or_ge id k with q | q
   · have hj' := (List.getElem?_eq_some_iff.1 e).1
     have:=(List.getElem?_inj hj' hnd).1 (e.trans (hkl id q).symm)
     omega
   · exact q
 have Y:∀(j id:Nat),I[j]? = some id→gn.ph (σ j)=g'.ph id:=by intro j id e;rw[←hren.ph,V j id e]
 have newB:∀(id:Nat) (o:ai) (l:Loc),k≤id→L.get id=some o→g'.ph id=some l→l.bO<w.heap.size→False:=by
   intro id o l aH e e1 e2
   obtain⟨id0,o0,l0,f1,f2,_,_⟩:=D.own id o l e (by rw[h2];exact aH) e1 e2
   exact O id0 o0 f1 f2
 have keepB:∀ b,b<w.heap.size→w'.heap[b]? = w.heap[b]? := fun b U=>D.gw b U fun id o l f1 f2 _=>(O id o f1 f2).elim
 have ronB:∀ b c,gf.ro b=some c→b<w.heap.size→g2.ro b=some c:=by
   intro b c e U
   rcases G b c e with q | ⟨_,id,o,l,A,M,q3⟩
   · rcases D.vl b c q U with f | ⟨id0,o0,l0,f1,f2,_,_⟩
     · rw[←B.ro];exact f
     · exact(O id0 o0 f1 f2).elim
   · rw[oe] at A
     split at A
     · simp at A
     · rename_i hge
       refine(newB id o l ?_ A M (by rw[q3];exact U)).elim
       rcases Nat.lt_or_ge id k with q | q
       · exact absurd (sq (hkl id q)) hge
       · exact q
 have noroK:∀(j id:Nat) (o0:ai) (l:Loc),I[j]? = some id→L.get id=some o0→g'.ph id=some l→gf.ro l.bO=none:=by
   intro j id o0 l e e1 e2
   cases hr:gf.ro l.bO with
   | none=>rfl
   | some c=>
     exfalso
     obtain⟨l1,x,y,_⟩:=C.ob id o0 e1
     rw[e2] at x;simp only[an] at x;subst x
     rcases G _ _ hr with q | ⟨_,id2,o2,l2,A,M,q3⟩
     · rw[y] at q;simp at q
     · rw[oe] at A
       split at A
       · simp at A
       · rename_i hge
         have:=C.inj id2 id o2 o0 l2 l A e1 M e2 q3
         subst this
         exact hge (sq e)
 refine⟨.ret (v'.aw σ),S2,gn,⟨rfl,rfl⟩,?_,⟨fun b c e=>?_,fun a o e=>?_,fun a a' o o' l l' e X p p' q=>?_,fun a R=>?_⟩,⟨D.size,D.os,D.tape,D.output,fun b U _=>keepB b U,fun a o l e1 e2 e3 e4=>?_,hgle,by rw[hnx2];omega,hlim2,fun a R=>H a (by omega),fun a R=>d a R,fun b c e U=>.inl (ronB b c (by rw[E] at e;exact e) U),fun a R e=>(H a R).trans e,D.fz⟩⟩
 · cases e with
   | returned x=>exact(gJ.sound C hfz hkro V hf hres).aw hren
   | panicked c=>exact hres.elim
   | outgrown=>exact hres.elim
 · rw[E] at e
   rcases G b c e with q | ⟨q,_⟩
   · exact C.ro b c q
   · exact q
 · rcases W a o e with⟨j,id,o0,o', _,rfl,A,M,q3,rfl⟩ | ⟨J,X⟩
   · obtain⟨l,x,y,z⟩:=C.ob id o0 M
     refine⟨l,by rw[Y j id A];exact x,?_,(q3.sound C hfz hkro V z).aw hren⟩
     have:=noroK j id o0 l A M x
     rw[E];exact this
   · obtain⟨l,x,y,z⟩:=m.ob a o X
     refine⟨l,by rw[d a J];exact x,?_,by rw[keepB _ z.lt];exact z.mono hgle⟩
     cases hr:gn.ro l.bO with
     | none=>rfl
     | some c=>
       have:=ronB l.bO c (by rw[E] at hr;exact hr) z.lt
       rw[y] at this;simp at this
 · have mix:∀(j id:Nat) (o0:ai) (a:Nat) (o' : ai) (l l' : Loc),k≤j→I[j]? = some id→L.get id=some o0→g'.ph id=some l→S.get a=some o' → g2.ph a=some l' → l.bO=l'.bO→False:=by
     intro j id o0 a o' l l' Z A M q3 X hl' U
     obtain⟨l1,x,y,z⟩:=m.ob a o' X
     rw[hl'] at x;simp only[an] at x;subst x
     exact newB id o0 l (kpge j id Z A) M q3 (by rw[U];exact z.lt)
   rcases W a o e with⟨j,id,o0,u,Z,rfl,A,M,q3,rfl⟩ | ⟨J,e1⟩<;>rcases W a' o' X with⟨j', F,o0', u', hj', rfl,r1,r2,r3,rfl⟩ | ⟨hlt', e1'⟩
   · rw[Y j id A] at p
     rw[Y j' F r1] at p'
     have:=C.inj id F o0 o0' l l' M r2 p p' q
     subst this
     have Z:=(List.getElem?_eq_some_iff.1 A).1
     rw[(List.getElem?_inj Z hnd).1 (A.trans r1.symm)]
   · exact(mix j id o0 a' o' l l' Z A M (by rw[←Y j id A];exact p) e1' (by rw[←d a' hlt'];exact p') q).elim
   · exact(mix j' F o0' a o l' l hj' r1 r2 (by rw[←Y j' F r1];exact p') e1 (by rw[←d a J];exact p) q.symm).elim
   · exact m.inj a a' o o' l l' e1 e1' (by rw[←d a J];exact p) (by rw[←d a' hlt'];exact p') q
 · rw[hnx2] at R
   have:I[k+(a-S.nx)]? = none:=List.getElem?_eq_none (by rw[hlen];omega)
   rw[E]
   simp only[show ¬ (a<S.nx) from by omega,if_false,this]
 · rcases W a o e1 with⟨j,id,o0,o', Z,rfl,A,M,q3,rfl⟩ | ⟨J,X⟩
   · rw[Y j id A] at e3
     exact(newB id o0 l (kpge j id Z A) M e3 e4).elim
   · exact⟨a,o,l,X,e2,by rw[←d a J];exact e3,rfl⟩
def BZ (S:af):List Nat→List ai→Prop
 | a::r,o::l=>S.get a=some o∧BZ S r l
 | [],[]=>True
 | _,_=>False
theorem Yz (S:af):BZ S [] []:=trivial
variable {a : Nat}
theorem X5 {o:ai}{r:List Nat}{l:List ai}(h:S.get a=some o)(t:BZ S r l):BZ S (a::r) (o::l):=⟨h,t⟩
theorem Hv : ∀ {ids:List Nat} {l:List ai},BZ S ids l→ids.length=l.length∧∀(i a:Nat) (o:ai),ids[i]? = some a→l[i]? = some o→S.get a=some o:=by
 intro ids
 induction ids with
 | nil=>
   intro l h
   cases l with
   | nil=>exact⟨rfl,fun i a o e=>by simp at e⟩
   | cons x l=>exact h.elim
 | cons b r f=>
   intro l h
   cases l with
   | nil=>exact h.elim
   | cons x l=>
     obtain⟨p,q⟩:=f h.2
     refine⟨by simp[p],fun i a o e d=>?_⟩
     cases i with
     | zero=>simp at e d;subst e;subst d;exact h.1
     | succ i=>exact q i a o (by simpa using e) (by simpa using d)
section
variable {T : FT} {P : Program} {Q : gI → af → Prop}
variable {k : Nat} {v : AV}
theorem acC (E:bL T P){f:Nat}{d:List AV}{g:List ai}{j:List ai}(h:SX P (RG k v jB add) (St.start T f args (Ny k k (lY 0 olds))))(p:olds.length=k)(S:af)(ids:List Nat)(m:Nat.ble S.lim S.nx=true)(q:ids.Nodup)(u:BZ S ids g)(w:olds.map (ai.aw (rL ids S.nx))=g)(y:dE (rL ids S.nx) args=d)(z:v.aw (rL ids S.nx)=v')(A:add.map (ai.aw (rL ids S.nx))=j) :
  cL P f d S fun r B=>r=.ret v' ∧ B=uI S j:=by
 subst w;subst y;subst z;subst A;subst p
 obtain⟨a,b⟩:=Hv u
 exact cL.aff (tZ E.ok h.out) (fun i=>C8 olds i) rfl rfl (ed m) (by simpa using a) q fun i x o e C=>b i x _ e (by rw[List.getElem?_map,C];rfl)
variable {l : List (Nat × ai)}
theorem Hw {p nx:Nat}(h:ko l=true):aY (Ny p nx l) l:=by
 have:∀ r:List (Nat×ai),(∀ id o,(id,o)∈r→(id,o)∈l)→aY (Ny p nx l) r:=by
  intro r
  induction r with
  | nil=>intro _;trivial
  | cons p r d=>
    obtain⟨i,x⟩:=p
    intro b
    exact⟨C6 l .nil h i x (b i x (List.mem_cons_self ..)),d fun id o e=>b id o (tf _ e)⟩
 exact this l fun _ _ e=>e
variable {s c : St} {ls ls2 : List (List (Nat × AV))} {l2 : List (Nat × ai)}
theorem acD (E:bL T P)(e:tM a Q)(n:Nat)(f:List (List Nat))(ids:List Nat)(b:List (Nat×Nat))(N nx p:Nat)(g:mf (ab T P n s)=true)(h:qh f ids (ab T P n s)=iJ c ls2 (Ny p nx l2))(d:(s8 b N nx [] []&&b.all (fun p=>Nat.ble a p.1)&&Nat.ble a N&&Nat.ble p a)=true)(i:vC (jR b N nx) c=true)(j:Nat.beq ls.length (su c)=true)(m:ko l2=true)(o:ls2=ls.map (gC (jR b N nx)))(q:l2=rN (jR b N nx) l)(r:SX P Q (iJ c ls (Ny p N l))):SX P Q s:=by
 simp only[Bool.and_eq_true] at d
 exact⟨CN E.ok E.mix e n f ids g h (Cf (ed d.2) e b N nx d.1.1.1 d.1.1.2 (ed d.1.2) (zV i) (jj j) o (by rw[←q];exact Hw m) r.out)⟩
end
def Qg (P:Program)(D:rC)(o:Oper):Option cJ:=
 match qP D.F D.ops o,bG o.op,gE o.op with
 | some true,false,none=>yl P D.F.eval ⟨D.S.nx,D.S.nx,seen D.S (al D.dX o.after.toList) D.jJ (gF D.F (gX o.op)) .nil⟩ o.op
 | _,_,_=>none
def KP (P:Program)(s:St):Option cJ:=
 match s with
 | .run fn F S k=>No P (.run fn F S k)
 | .e9 D _=>match D.os with
   | o::_=>Qg P D o
   | []=>none
 | _=>none
def yp (s:St):af:=
 match s with
 | .run _ _ S _=>S
 | .e9 D _=>match D.os with
   | o::_=>⟨D.S.nx,D.S.nx,seen D.S (al D.dX o.after.toList) D.jJ (gF D.F (gX o.op)) .nil⟩
   | []=>af.empty
 | _=>af.empty
def Qh (r:cJ)(s:St):St:=
 match s with
 | .run fn F S k=>KL r (.run fn F S k)
 | .e9 D k=>match D.os with
   | o::os=>zA 5 (ti D o os (al D.dX o.after.toList) k ⟨D.S.nx,D.S.nx,seen D.S (al D.dX o.after.toList) D.jJ (gF D.F (gX o.op)) .nil⟩ []
    (some ⟨D.S.nx,D.S.nx,seen D.S (al D.dX o.after.toList) D.jJ (gF D.F (gX o.op)) .nil⟩) (some r))
   | []=>.bad 5
 | _=>.bad 5
def xE (r:af→cJ)(s:St):St:=Qh (r (yp s)) s
section
variable {T : FT} {P : Program} {Q : gI → af → Prop}
variable {s : St}
theorem wW (E:bL T P)(n:Nat)(o:af→Option cJ)(r:af→cJ)(h:KP P (ab T P n s)=o (yp (ab T P n s)))(j:n0 (r (yp (ab T P n s))) (ab T P n s)=true)(f:o (yp (ab T P n s))=some (r (yp (ab T P n s))))(q:SX P Q (xE r (ab T P n s))):SX P Q s:=by
 refine⟨bP E.ok E.mix n ?_⟩
 generalize ab T P n s=s at h j f q
 have q:=q.out
 cases s with
 | run fn F S k=>exact IA E.ok E.mix 0 o r h j f q
 | e9 D k=>
   simp only[KP,xE,Qh] at h q
   cases b:D.os with
   | nil=>
     rw[b] at h
     have h:=h.trans f
     simp at h
   | cons op os=>
     rw[b] at h q
     simp only at h q
     have h:=h.trans f
     unfold Qg at h
     split at h<;>try (simp at h;done)
     rename_i p i x
     rw[lU] at h
     have d:∀ {nx lim id ob},(⟨nx,lim,seen D.S (al D.dX op.after.toList) D.jJ (gF D.F (gX op.op)) .nil⟩:af).get id=some ob→id∈gF D.F (gX op.op)∧D.S.get id=some ob∧iu (al D.dX op.after.toList) D.jJ id=true:=by
       intro nx lim id ob e
       have hi:=af.dG e
       rw[af.bK hi] at e
       rcases vV hi e with q | q
       · rw[PT.get_nil] at q;simp at q
       · exact q
     generalize y:r (yp (.e9 D k))=u at *
     generalize z:seen D.S (al D.dX op.after.toList) D.jJ (gF D.F (gX op.op)) .nil=m at *
     cases h2:ti D op os (al D.dX op.after.toList) k ⟨D.S.nx,D.S.nx,m⟩ [] (some ⟨D.S.nx,D.S.nx,m⟩) (some u) with
     | none=>rw[h2] at q;exact q.elim
     | some s=>
       rw[h2] at q
       exact tw (E:=⟨D.S.nx,D.S.nx,m⟩) b p i (by rw[h];exact h2) rfl (.inr rfl) (fun id ob e=>(d e).2) (fun id ob e w g=>absurd g (Nat.not_lt.2 w)) (fun id e=>by simp at e) (fun id e g=>by simp at e) (.inl rfl) (by simpa only[zA] using q)
 | _=>
   simp only[KP] at h
   have h:=h.trans f
   simp at h
end
def XI (m:Nat):St→St
 | .run fn F S k=>.run fn F ⟨m,S.lim,S.m⟩ k
 | s=>s
section
variable {T : FT} {P : Program} {Q : gI → af → Prop}
variable {s : St}
theorem aqe (E:bL T P)(n m:Nat)(d:Nat.ble (iY (ab T P n s)).nx m=true)(q:SX P Q (XI m (ab T P n s))):SX P Q s:=by
 refine⟨bP E.ok E.mix n ?_⟩
 generalize ab T P n s=s at d q
 have q:=q.out
 cases s with
 | run fn F S k=>
   have d:S.nx≤m:=ed d
   have x:∀ id,(⟨m,S.lim,S.m⟩:af).get id=S.get id:=fun _=>rfl
   refine aA.reach (fun G f=>Reach.uF f rfl rfl rfl rfl fun g w fr cs i hi=>⟨fr,w,g,i,?_,?_,Steps.refl _ _⟩) q
   · exact⟨hi.ro,fun id o e=>hi.ob id o e,fun a b o1 o2 l l' e j p r u=>hi.inj a b o1 o2 l l' e j p r u,fun id h=>hi.fresh id (Nat.le_trans d h)⟩
   · exact⟨Nat.le_refl _,rfl,⟨rfl,Nat.le_refl _⟩,rfl,fun _ _ _=>rfl,fun id o l h h1 h2 _=>⟨id,o,l,h,h1,h2,rfl⟩,Gh.le_refl _,d,rfl,fun _ _=>rfl,fun _ _=>rfl,fun _ _ e _=>.inl e,fun _ _ e=>e,fun _ _=>rfl⟩
 | _=>exact q
end
end
end Go.Eng
namespace Go.Eng
noncomputable section
def acP (P:Program)(S:af)(t:TypeId)(x:AV):Option cJ:=xw (tP P S t x)
variable {P : Program} {S : af} {t nx : Nat}
theorem XJ {s:ByteArray}(b:P.underlying t=some .string)(d:S.nx=nx)(e:(Nat.ble (nx+1) 8192&&Nat.ble S.lim nx)=true):acP P S t (.sc (.string s))=some (.val (.ptr nx 0 0) (S.add (.si s 0))):=by
 subst d
 simp only[acP,tP,b,e,xw]
def Ye (S:af)(b:AV):Option cJ:=xw (uL S b true)
variable {id p : Nat}
theorem XK {s:ByteArray}(b:S.get id=some (.si s p))(d:Nat.ble S.lim id=true)(h:decide (p+1≤s.size)=true) :
  Ye S (.ptr id 0 0)=some (.val (.bM [.sc (.bool true),.sc (.int .i64 (p:Nat)),.sc (.int .i32 ((Utf8.decode s p).1:Nat))]) (S.set id (.si s (p+(Utf8.decode s p).2)))):=by
 have h:Nat.ble (p+1) s.size=true:=sr (of_decide_eq_true h)
 simp only[Ye,uL,b,h,d,xw]
theorem XL {s:ByteArray}(b:S.get id=some (.si s p))(h:decide (p+1≤s.size)=false):Ye S (.ptr id 0 0)=some (.val (.bM [.sc (.bool false)]) S):=by
 have h:Nat.ble (p+1) s.size=false:=by
  rw[Bool.eq_false_iff]
  intro q
  simp only[decide_eq_false_iff_not] at h
  exact h (ed q)
 simp only[Ye,uL,b,h,xw]
variable {σ : Nat → Nat}
theorem tT (s:ByteArray)(p:Nat):(ai.si s p).aw σ=.si s p:=rfl
def YI (a b:ByteArray):Bool:=a.data.toList==b.data.toList
def sU {β:Type}:List (ByteArray×β)→ByteArray→Option β
 | [],_=>none
 | (a,b)::r,k=>if YI k a then some b else sU r k
def pJ {β:Type}:List (ByteArray×β)→ByteArray→β→List (ByteArray×β)
 | [],k,v=>[(k,v)]
 | (a,b)::r,k,v=>if YI k a then(k,v)::r else(a,b)::pJ r k v
variable {β : Type} {g : β → AV}
theorem Cl (x:ByteArray):∀(l:List (ByteArray×β)) (i:Nat),∃ r,ly .string (.sc (.string x)) (l.map (dq fC g)) i=some r∧(match r with
   | some (j,v)=>∃ b,sU l x=some b∧v=g b∧i≤j∧∀ y:β,(l.map (dq fC g)).set (j-i) (.sc (.string x),g y)=(pJ l x y).map (dq fC g)
   | none=>sU l x=none∧∀ y:β,l.map (dq fC g)++[(.sc (.string x),g y)]=(pJ l x y).map (dq fC g)):=by
 intro l
 induction l with
 | nil=>intro i;exact⟨none,rfl,rfl,fun y=>rfl⟩
 | cons p l o=>
   obtain⟨a,b⟩:=p
   intro i
   simp only[List.map_cons,dq,ly,fC,Nl]
   cases e:(x.data.toList==a.data.toList) with
   | true=>
     have d:YI x a=true:=e
     refine⟨_,rfl,b,by simp[sU,d],rfl,Nat.le_refl _,fun y=>by simp[pJ,d,dq,fC]⟩
   | false=>
     have d:YI x a=false:=e
     obtain⟨r,q,h⟩:=o (i+1)
     refine⟨r,q,?_⟩
     cases r with
     | none=>
       refine⟨by simp[sU,d,h.1],fun y=>?_⟩
       have:=h.2 y
       simp[pJ,d,dq,fC,this]
     | some u=>
       obtain⟨j,v⟩:=u
       obtain⟨c,h1,h2,h3,h4⟩:=h
       refine⟨c,by simp[sU,d,h1],h2,by omega,fun y=>?_⟩
       have:=h4 y
       rw[show j-i=(j-(i+1))+1 from by omega]
       simp[pJ,d,dq,fC,this]
def CT (P:Program)(t:TypeId):Option AV:=
 match P.underlying t with
 | some (.map b d)=>match P.underlying b,gZ P d with
   | some .string,some z=>some z
   | _,_=>none
 | _=>none
variable {z : AV}
theorem xW {t:TypeId}(h:CT P t=some z):∃ d e,P.underlying t=some (.map d e)∧P.underlying d=some .string∧gZ P e=some z:=by
 unfold CT at h
 split at h<;>try (simp at h;done)
 rename_i d e j
 split at h<;>simp only[an,reduceCtorEq] at h
 rename_i a b
 subst h
 exact⟨d,e,j,a,b⟩
section
variable {P : Program} {β : Type} {g : β → AV} {S : af} {t id : Nat} {l : List (ByteArray × β)} {x : ByteArray}
theorem Pm {z0:β}(e:CT P t=some (g z0))(h:S.get id=some (.mp (l.map (dq fC g)))):um P S t (.dm id) (.sc (.string x)) false=some (.val (g ((sU l x).getD z0)) S):=by
 obtain⟨w,y,h1,h2,h3⟩:=xW e
 obtain⟨r,o,d⟩:=Cl (g:=g) x l 0
 simp only[um,hJ,h1,h2,h,gL,o,h3]
 cases r with
 | none=>simp only[d.1,Option.getD_none,jC]
 | some q=>
   obtain⟨j,v⟩:=q
   obtain⟨b,u,rfl,_⟩:=d
   simp only[u,Option.getD_some,jC]
theorem ID {y:β}(e:CT P t=some z)(h:S.get id=some (.mp (l.map (dq fC g))))(o:Nat.ble S.lim id=true):DV P S t (.dm id) (.sc (.string x)) (g y)=some (.skip (S.set id (.mp ((pJ l x y).map (dq fC g))))):=by
 obtain⟨w,A,h1,h2,_⟩:=xW e
 obtain⟨r,q,d⟩:=Cl (g:=g) x l 0
 simp only[DV,kC,h1,h2,h,gL,o,Bool.true_and,q]
 cases r with
 | none=>simp only[d.2 y,BI]
 | some u=>
   obtain⟨j,v⟩:=u
   obtain⟨b,B,_,_,a2⟩:=d
   have:=a2 y
   rw[Nat.sub_zero] at this
   simp only[this,BI]
end
theorem kH (l:List (ByteArray×Bool)):(ai.mp (l.map (dq fC qR))).aw σ=.mp (l.map (dq fC qR)):=ub (by simp) (by simp) l
variable {k : IntKind} {V : AV} {c : Int}
theorem tx {x:Int}{l:List (Int×β)}(u:cD l c=none) :
  ly (.int k) (.sc (.int k x)) (l.map (dq (dO k) g)++[(.sc (.int k c),V)]) 0=some (if x=c then some (l.length,V) else(match ly (.int k) (.sc (.int k x)) (l.map (dq (dO k) g)) 0 with
    | some (some (j,v))=>some (j,v)
    | _=>none)):=by
 have gen:∀(l:List (Int×β)) (i:Nat),(x=c→cD l c=none)→ly (.int k) (.sc (.int k x)) (l.map (dq (dO k) g)++[(.sc (.int k c),V)]) i=some (if x=c then some (i+l.length,V) else(match ly (.int k) (.sc (.int k x)) (l.map (dq (dO k) g)) i with
    | some (some (j,v))=>some (j,v)
    | _=>none)):=by
  intro l
  induction l with
  | nil=>
    intro i _
    simp only[List.map_nil,List.nil_append,ly,Nl,if_true]
    by_cases e:x=c
    · simp[e]
    · have:(x==c)=false:=by simpa using e
      simp[this,e]
  | cons p l d=>
    obtain⟨a,b⟩:=p
    intro i h
    simp only[List.map_cons,List.cons_append,dq,ly,dO,Nl,if_true]
    by_cases e:x=a
    · subst e
      have hx:x≠c:=by rintro rfl;have:=h rfl;simp[cD] at this
      simp[hx]
    · have:(x==a)=false:=by simpa using e
      simp only[this]
      have d:=d (i+1) (fun q=>by have:=h q;subst q;simpa [cD,e] using this)
      rw[d]
      by_cases o:x=c
      · simp only[o,if_true,List.length_cons,an,gU,and_true];omega
      · simp only[o,if_false]
 have:=gen l 0 (fun _=>u)
 simpa using this
section
variable {P : Program} {β : Type} {g : β → AV} {S : af} {t id : Nat} {k : IntKind} {l : List (Int × β)} {x c : Int} {V z : AV}
theorem GR (b:ra P t=some (k,z))(d:S.get id=some (.mp (l.map (dq (dO k) g)++[(.sc (.int k c),V)])))(h:(cD l c).isNone=true) :
  um P S t (.dm id) (.sc (.int k c)) false=some (.val V S):=by
 obtain⟨e,j,h1,h2,h3⟩:=ja b
 simp only[um,hJ,h1,h2,d,gL,tx (Option.isNone_iff_eq_none.1 h),if_true,jC]
theorem Pn (b:ra P t=some (k,z))(d:S.get id=some (.mp (l.map (dq (dO k) g)++[(.sc (.int k c),V)])))(h:(cD l c).isNone=true∧x=c) :
  um P S t (.dm id) (.sc (.int k x)) false=some (.val V S):=by
 obtain⟨h,rfl⟩:=h
 exact GR b d h
theorem aqf {z0:β}(e:ra P t=some (k,g z0))(o:S.get id=some (.mp (l.map (dq (dO k) g)++[(.sc (.int k c),V)])))(h:(cD l c).isNone=true∧¬ x=c) :
   um P S t (.dm id) (.sc (.int k x)) false=some (.val (g ((cD l x).getD z0)) S):=by
 obtain⟨y,A,h1,h2,h3⟩:=ja e
 obtain⟨h,hx⟩:=h
 obtain⟨r,q,d⟩:=og (g:=g) (k:=k) x l 0
 simp only[um,hJ,h1,h2,o,gL,tx (Option.isNone_iff_eq_none.1 h),if_neg hx,q]
 cases r with
 | none=>simp only[h3,d.1,Option.getD_none,jC]
 | some u=>
   obtain⟨j,v⟩:=u
   obtain⟨b,w,rfl,_⟩:=d
   simp only[w,Option.getD_some,jC]
theorem zn (d:ra P t=some (k,z))(e:S.get id=some (.mp (l.map (dq (dO k) g))))(h:(cD l x).isNone=true):um P S t (.dm id) (.sc (.int k x)) false=some (.val z S):=by
 obtain⟨y,A,h1,h2,h3⟩:=ja d
 obtain⟨r,o,q⟩:=og (g:=g) (k:=k) x l 0
 simp only[um,hJ,h1,h2,e,gL,o,h3]
 cases r with
 | none=>simp only[jC]
 | some u=>
   obtain⟨j,v⟩:=u
   obtain⟨b,w,_⟩:=q
   rw[w] at h;simp at h
variable {W : AV}
theorem GS (b:ra P t=some (k,z))(d:S.get id=some (.mp (l.map (dq (dO k) g)++[(.sc (.int k c),V)])))(e:Nat.ble S.lim id=true)(h:(cD l c).isNone=true) :
  DV P S t (.dm id) (.sc (.int k c)) W=some (.skip (S.set id (.mp (l.map (dq (dO k) g)++[(.sc (.int k c),W)])))):=by
 obtain⟨j,o,h1,h2,_⟩:=ja b
 simp only[DV,kC,h1,h2,d,gL,e,Bool.true_and,tx (Option.isNone_iff_eq_none.1 h),if_true,BI]
 simp
theorem Po (b:ra P t=some (k,z))(d:S.get id=some (.mp (l.map (dq (dO k) g)++[(.sc (.int k c),V)])))(e:Nat.ble S.lim id=true)(h:(cD l c).isNone=true∧x=c) :
  DV P S t (.dm id) (.sc (.int k x)) W=some (.skip (S.set id (.mp (l.map (dq (dO k) g)++[(.sc (.int k c),W)])))):=by
 obtain⟨h,rfl⟩:=h
 exact GS b d e h
theorem CU (d:ra P t=some (k,z))(e:S.get id=some (.mp (l.map (dq (dO k) g))))(o:Nat.ble S.lim id=true)(h:(cD l x).isNone=true) :
   DV P S t (.dm id) (.sc (.int k x)) W=some (.skip (S.set id (.mp (l.map (dq (dO k) g)++[(.sc (.int k x),W)])))):=by
 obtain⟨A,B,h1,h2,_⟩:=ja d
 obtain⟨r,q,u⟩:=og (g:=g) (k:=k) x l 0
 simp only[DV,kC,h1,h2,e,gL,o,Bool.true_and,q]
 cases r with
 | none=>simp only[BI]
 | some w=>
   obtain⟨j,v⟩:=w
   obtain⟨b,y,_⟩:=u
   rw[y] at h;simp at h
end
variable {α : Type}
def s6 (enc:α→AV)(l:List α)(V:List AV)(r:Nat)(z:AV):List AV:=l.map enc++(V++List.replicate r z)
variable {enc : α → AV} {r : Nat} {l : List α}
@[simp] theorem X6 {V:List AV}:(s6 enc l V r z).length=l.length+(V.length+r):=by simp[s6]
section
variable {P : Program} {α : Type} {enc : α → AV} {S : af} {t id n : Nat} {l : List α} {V z : AV} {V0 : List AV} {r : Nat} {i : Int}
variable {el len : Nat} {es : List AV}
theorem aqg (h1:P.underlying t=some (.slice el))(h2:oK P el=some n)(d:S.get id=some (.arr n es))(h:(0:Int)≤i∧i<((len:Nat):Int)) :
  NA P S t (.ak id 0 len) (.sc (.int k i))=some (.val (.ptr id (0+i.toNat) 0) S):=by
 obtain⟨a,b⟩:=h
 obtain⟨m,rfl⟩:=Int.eq_ofNat_of_zero_le a
 have e:m<len:=by omega
 show jC S (dh P S t (.ak id 0 len) (.sc (.int k (.ofNat m))))=_
 simp only[dh,h1,h2,d,Nat.beq_refl,show Nat.ble (m+1) len=true from sr (by omega),jC]
 rfl
theorem Pp {x:α}(hx:dY l i=some x):nth (s6 enc l V0 r z) (0+i.toNat)=some (enc x):=by
 obtain⟨m,rfl,d⟩:=vM hx
 have b:m<l.length:=(List.getElem?_eq_some_iff.1 d).1
 rw[gY]
 simp only[s6,Nat.zero_add,Int.toNat_natCast]
 rw[List.getElem?_append_left (by simpa using b)]
 simp[d]
theorem LX (h:i=(l.length:Int)):nth (s6 enc l [V] r z) (0+i.toNat)=some V:=by
 subst h
 rw[gY]
 simp only[s6,Nat.zero_add,Int.toNat_natCast]
 rw[List.getElem?_append_right (by simp)]
 simp
theorem LY (h:i=(l.length:Int)∧1≤r):nth (s6 enc l [] r z) (0+i.toNat)=some z:=by
 obtain⟨h,b⟩:=h
 subst h
 rw[gY]
 simp only[s6,Nat.zero_add,Int.toNat_natCast]
 rw[List.getElem?_append_right (by simp)]
 simp only[List.length_map,Nat.sub_self,List.nil_append]
 rw[List.getElem?_replicate]
 simp only[show 0<r from b,if_true]
variable {v : AV}
theorem GU {e:AV}{q:Nat}(b:S.get id=some (.arr n es))(d:nth es q=some e)(h:e.cells=[e])(j:ma P t [e]=some v):Ko P S t (.ptr id q 0)=some (.val v S):=by
 simp only[Ko,jl,b,d,h,List.length_cons,List.length_nil]
 show jC S (ma P t [e])=_
 rw[j]
 rfl
theorem IE {x:α}(hx:dY l i=some x)(b:S.get id=some (.arr n (s6 enc l V0 r z)))(d:(enc x).cells=[enc x])(e:ma P t [enc x]=some v):Ko P S t (.ptr id (0+i.toNat) 0)=some (.val v S):=
 GU b (Pp hx) d e
theorem acE (b:S.get id=some (.arr n (s6 enc l [V] r z)))(d:V.cells=[V])(e:ma P t [V]=some v)(h:i=(l.length:Int)):Ko P S t (.ptr id (0+i.toNat) 0)=some (.val v S):=
 GU b (LX h) d e
theorem acF (b:S.get id=some (.arr n (s6 enc l [] r z)))(d:z.cells=[z])(e:ma P t [z]=some v)(h:i=(l.length:Int)∧1≤r):Ko P S t (.ptr id (0+i.toNat) 0)=some (.val v S):=
 GU b (LY h) d e
variable {W : AV} {m : Nat}
theorem aqh (j:S.get id=some (.arr n (s6 enc l [V] r z)))(o:oK P t=some m)(q:V.cells=[V])(d:(Nat.beq W.cells.length m&&Nat.beq m 1&&W.cells.all cV&&Nat.ble S.lim id)=true)(h:W.cells=[W])(hi:i=(l.length:Int)) :
  PG P S t (.ptr id (0+i.toNat) 0) W=some (.skip (S.set id (.arr n (s6 enc l [W] r z)))):=by
 have e:=LX (enc:=enc) (V:=V) (r:=r) (z:=z) hi
 simp only[Bool.and_eq_true] at d
 obtain⟨⟨⟨h1,h2⟩,h3⟩,h4⟩:=d
 have h2:=jj h2
 subst h2
 have b:cV W=true:=by simpa [h] using h3
 simp only[PG,re,j,e,o,h1,h3,h4,q,h,List.length_cons,List.length_nil,Bool.and_true,jF]
 subst hi
 simp only[show Nat.beq 1 1=true from rfl,show Nat.ble (0+1) (0+1)=true from rfl,Bool.and_true,YB,b,BI]
 simp[s6,List.set_append,b]
theorem aqR (j:S.get id=some (.arr n (s6 enc l [] r z)))(o:oK P t=some m)(u:z.cells=[z])(d:(Nat.beq W.cells.length m&&Nat.beq m 1&&W.cells.all cV&&Nat.ble S.lim id)=true)(h:W.cells=[W])(hi:i=(l.length:Int)∧1≤r) :
  PG P S t (.ptr id (0+i.toNat) 0) W=some (.skip (S.set id (.arr n (s6 enc l [W] (r-1) z)))):=by
 have e:=LY (enc:=enc) (z:=z) hi
 simp only[Bool.and_eq_true] at d
 obtain⟨⟨⟨h1,h2⟩,h3⟩,h4⟩:=d
 have h2:=jj h2
 subst h2
 have b:cV W=true:=by simpa [h] using h3
 simp only[PG,re,j,e,o,h1,h3,h4,u,h,List.length_cons,List.length_nil,Bool.and_true,jF]
 obtain⟨hi,w⟩:=hi
 subst hi
 obtain⟨q,rfl⟩:∃ q,r=q+1:=⟨r-1,by omega⟩
 simp only[show Nat.beq 1 1=true from rfl,show Nat.ble (0+1) (0+1)=true from rfl,Bool.and_true,YB,b,BI]
 simp[s6,List.set_append,List.replicate_succ,b]
end
variable {el sz : Nat} {a : Int}
theorem aqi {bytes:Nat}(e:Er P t sz bytes=some (el,.ax))(b:(Nat.ble (S.nx+1) 8192&&Nat.ble S.lim S.nx)=true)(d:S.nx=nx)(h:(0:Int)≤a∧a.toNat*(bytes+1)≤2 ^ 40) :
  acN P S t (.sc (.int k a)) (.sc (.int k a))=some (.val (.ak nx 0 a.toNat) (S.add (.arr sz (s6 enc [] [] a.toNat .ax)))):=by
 have:=XC (P:=P) (S:=S) (enc:=fun _:Unit=>AV.ax) (k:=k) (a:=a) (z0:=()) (nx:=nx) e d b h
 simpa [s6] using this
theorem MX (a b:List AV):dE σ (a++b)=dE σ a++dE σ b:=by
 induction a with
 | nil=>rfl
 | cons x a d=>simp[dE,d]
theorem EN {σ:Nat→Nat}{z:AV}(h:z.aw σ=z):∀ r,dE σ (List.replicate r z)=List.replicate r z
 | 0=>rfl
 | r+1=>by simp[List.replicate_succ,dE,h,EN h r]
theorem kI (h:∀ x,aq (enc x)=true)(l:List α)(V:List AV)(r:Nat):dE σ (s6 enc l V r .ax)=s6 enc l (dE σ V) r .ax:=by
 simp[s6,MX,fJ h,EN (σ:=σ) (z:=.ax) rfl]
theorem JV {f:α→AV}(b:∀ x,aq (f x)=true)(d:∀ x,aq (g x)=true)(l:List (α×β))(K V:AV):(ai.mp (l.map (dq f g)++[(K,V)])).aw σ=.mp (l.map (dq f g)++[(K.aw σ,V.aw σ)]):=by
 have:=EM (σ:=σ) b d l
 simp only[Ph,List.map_append,this,List.map_cons,List.map_nil]
theorem kJ (h:∀ x,aq (enc x)=true)(l:List (Int×List α)):(ai.mp (l.map (dq (dO k) (kT enc)))).aw σ=.mp (l.map (dq (dO k) (kT enc))):=ub (by simp) (fun x=>aO h x) l
theorem jx (h:∀ x,aq (enc x)=true)(l:List (Int×List α))(K V:AV):(ai.mp (l.map (dq (dO k) (kT enc))++[(K,V)])).aw σ=.mp (l.map (dq (dO k) (kT enc))++[(K.aw σ,V.aw σ)]):=JV (by simp) (fun x=>aO h x) l K V
section
variable {T : FT} {P : Program} {Q : gI → af → Prop} {α β : Type}
variable {es : List AV}
theorem Kv.app {l m b:List AV}(h:Kv r es m b):Kv r es (l++m) (l++b):=by
 induction l with
 | nil=>exact h
 | cons a l d=>exact .cons .refl d
variable {s : St} {len rr : Nat}
theorem aqS (E:bL T P)(n:Nat)(r id:Nat){b:Nat}{enc:α→AV}{l:List α}{y:α}(u:(iY (ab T P n s)).get r=some (.arr sz es))(e:(iY (ab T P n s)).get id=some (.arr b (s6 enc l [.ak r 0 len] rr z)))(h:Nat.beq r id=false)(j:Nat.ble (iY (ab T P n s)).lim r=true)(o:Nat.ble (iY (ab T P n s)).lim id=true)(d:len=es.length)(w:AV.lit es=enc y)(q:SX P Q (zN r id (.arr b (s6 enc (l++[y]) [] rr z)) (ab T P n s))):SX P Q s:=by
 refine afd E n r id u e h j o ?_ q
 have:s6 enc (l++[y]) [] rr z=l.map enc++(AV.lit es::List.replicate rr z):=by simp[s6,w]
 rw[this]
 exact .app (.cons (.ak d) .same)
theorem aqT (E:bL T P)(n:Nat)(id:Nat){enc:α→AV}{l:List α}{y:α}(hi:(iY (ab T P n s)).get id=some (.arr sz (s6 enc l [] rr .ax)))(B:Nat.ble (iY (ab T P n s)).lim id=true)(C:decide (1≤rr)=true)(D:enc y=.lit [])(q:SX P Q (Et id (.arr sz (s6 enc (l++[y]) [] (rr-1) .ax)) (ab T P n s))):SX P Q s:=by
 refine Qd E n id hi B (fun g lo x h=>?_) q
 obtain⟨rq,rfl⟩:∃ q,rr=q+1:=⟨rr-1,by have:=of_decide_eq_true C;omega⟩
 have F:s6 enc l [] (rq+1) .ax=l.map enc++(AV.ax::List.replicate rq .ax):=by simp[s6,List.replicate_succ]
 have G:s6 enc (l++[y]) [] (rq+1-1) .ax=l.map enc++(AV.lit []::List.replicate rq .ax):=by simp[s6,D]
 rw[F] at h
 rw[G]
 obtain⟨c,t,h1,h2,h3,h4,h5,h6⟩:=h
 refine⟨c,t,h1,h2,h3,by simpa using h4,fun e he=>?_,fun i j e a v b d A=>?_⟩
 · simp only[List.mem_append,List.mem_cons] at he
   rcases he with he | rfl | he
   · exact h5 e (by simp only[List.mem_append];exact .inl he)
   · have:=h5 .ax (by simp)
     exact this
   · exact h5 e (by simp only[List.mem_append,List.mem_cons];exact .inr (.inr he))
 · by_cases o:i=(l.map enc).length
   · subst o
     rw[List.getElem?_append_right (Nat.le_refl _)] at b
     simp only[Nat.sub_self,List.getElem?_cons_zero,an] at b
     subst b
     cases j with
     | zero=>
       simp only[AV.cells,List.getElem?_cons_zero,an] at d
       subst d
       have:=h6 (l.map enc).length 0 .ax .ax v (by rw[List.getElem?_append_right (Nat.le_refl _)];simp) rfl A
       cases this
       exact .gi
     | succ j=>simp[AV.cells] at d
   · refine h6 i j e a v ?_ d A
     by_cases u:i<(l.map enc).length
     · rw[List.getElem?_append_left u] at b ⊢;exact b
     · rw[List.getElem?_append_right (by omega)] at b ⊢
       obtain⟨H,w⟩:∃ q,i-(l.map enc).length=q+1:=⟨i-(l.map enc).length-1,by omega⟩
       rw[w] at b ⊢
       exact b
theorem Qi (E:bL T P)(n:Nat)(r id:Nat){g:β→AV}{l:List (Int×β)}{y:β}(G:(iY (ab T P n s)).get r=some (.arr sz es))(u:(iY (ab T P n s)).get id=some (.mp (l.map (dq (dO k) g)++[(.sc (.int k c),.ak r 0 len)])))(w:Nat.beq r id=false)(A:Nat.ble (iY (ab T P n s)).lim r=true)(B:Nat.ble (iY (ab T P n s)).lim id=true)(o:len=es.length)(H:AV.lit es=g y)(q:SX P Q (zN r id (.mp ((l++[(c,y)]).map (dq (dO k) g))) (ab T P n s))):SX P Q s:=by
 refine Qc E n r id G u w A B (fun K L d C lo x h=>?_) q
 obtain⟨I,ck,h1,h2,h3,h4⟩:=h
 refine⟨I,ck,h1,by simpa using h2,fun i J e b D=>?_,h4⟩
 simp only[List.map_append,List.map_cons,List.map_nil] at b
 by_cases j:i<(l.map (dq (dO k) g)).length
 · rw[List.getElem?_append_left j] at b
   have:=h3 i J e (by rw[List.getElem?_append_left j];exact b) D
   exact⟨this.1.mono d,this.2.mono d⟩
 · rw[List.getElem?_append_right (by omega)] at b
   have F:i-(l.map (dq (dO k) g)).length=0:=by
    have:=(List.getElem?_eq_some_iff.1 b).1
    simp only[List.length_cons,List.length_nil] at this
    omega
   rw[F] at b
   simp only[List.getElem?_cons_zero,an] at b
   subst b
   have:=h3 i (.sc (.int k c),.ak r 0 len) e (by rw[List.getElem?_append_right (by omega),F];rfl) D
   exact⟨this.1.mono d,by rw[show(dq (dO k) g (c,y)).2=AV.lit es from H.symm];exact C _ _ (.ak o) _ this.2⟩
end
section
variable {P : Program} {α : Type} {enc : α → AV}
theorem Pq {n:Nat}{xs:List α}{e:IntKind}{b:Int}(h:P.underlying t=some (.slice el))(j:oK P el=some n)(d:∀ x,(enc x).cells.length=n)(o:a=(xs.length:Int))(q:b=(xs.length:Int)) :
  acO P S t (.lit (xs.map enc)) (.sc (.int k a)) (.sc (.int e b))=some (.val (.clip (.lit (xs.map enc))) S):=by
 subst o;subst q
 simp only[acO,w6,h,j,kb (Int.natCast_nonneg _),Int.toNat_natCast,Nat.beq_refl,tk,List.length_map,show Nat.ble xs.length xs.length=true from sr (Nat.le_refl _),jC]
 rw[List.take_of_length_le (by simp)]
variable {st xt : Nat} {src : AV}
theorem Pr {w:AV}{zs xs:List α}(A:A4 P st el sz=true)(B:A5 P xt=true)(d:∀ x,(enc x).cells.length=sz)(b:∀ x,(enc x).cells.all cV=true)(q:gl S (.clip w)=some (zs.map enc))(e:gl S src=some (xs.map enc))(h:(Nat.ble (S.nx+1) 8192&&Nat.ble S.lim S.nx)=true)(j:decide ((zs++xs).length≤1048576)=true)(C:xs≠[]) :
   (∃ sz,rK P S st xt (.clip w) src=some (.val (.ak S.nx 0 ((zs++xs).map enc).length) (S.add (.arr sz ((zs++xs).map enc)))))∨((zs++xs).map enc=[]∧∃ v,rK P S st xt (.clip w) src=some (.val v S)∧∀ g x,VR g v x→VR g (.lit []) x):=by
 cases xs with
 | nil=>exact absurd rfl C
 | cons y ys=>
   refine .inl ⟨sz,?_⟩
   have j:=of_decide_eq_true j
   obtain⟨i,z,D,hi,H,G⟩:=nG A
   obtain⟨I,E⟩:=nH B
   simp only[Bool.and_eq_true] at G h
   obtain⟨⟨⟨⟨h1,h2⟩,h3⟩,h4⟩,h5⟩:=G
   have h5:=jj h5
   subst h5
   have o:=kU (enc:=enc) d b (y::ys)
   have F:=kU (enc:=enc) d b zs
   simp only[List.map_cons] at e o
   have u:Nat.ble ((zs.map enc).length+(enc y::ys.map enc).length) 1048576=true:=sr (by simpa using j)
   simp only[rK,fM,jZ,D,E,hi,H,e,o,F,h1,h2,h3,h4,Bool.and_true,q,u,eC,h.1,h.2,List.map_append,List.map_cons,xw]
end
variable {f : FuncId} {args : List AV} {Q : gI → af → Prop}
theorem Ps {b:List AV}(d:rE args=b)(h:cL P f b S Q):cL P f args S Q:=
 fun g w xs hx hi=>h g w xs (by rw[←d];exact hx.sM) hi
variable {es : List AV} {kp : List Nat}
theorem qO.ata {es' : List AV}(b:es=es')(d:bF es=true):qO S kp (.arr sz es) (.arr sz es'):=by subst b;exact .ZB d
variable {len : Nat} {ys : List α}
theorem MY {z:Nat}(b:es=ys.map enc)(d:len=ys.length)(e:S.get id=some (.arr z es)):gl S (.ak id 0 len)=some (ys.map enc):=by
 subst b;subst d
 exact nQ _ (.inr ⟨id,z,rfl,e⟩)
theorem qO.s6 {S:af}{kp:List Nat}{α:Type}{sz r:Nat}{enc:α→AV}{l:List α}{V o:List AV}(q:∀ x,aq (enc x)=true)(h:dn S kp V o):qO S kp (.arr sz (s6 enc l V r .ax)) (.arr sz (s6 enc l o r .ax)):=by
 have rep:∀ r,dn S kp (List.replicate r .ax) (List.replicate r .ax):=by
  intro r
  induction r with
  | zero=>exact .nil
  | succ r d=>rw[List.replicate_succ];exact .cons (.pure rfl) d
 have app:∀ {a e b j:List AV},dn S kp a e→dn S kp b j→dn S kp (a++b) (e++j):=by
  intro a e b j h k
  induction h with
  | nil=>exact k
  | cons h t d=>exact .cons h d
 have mp:∀ l:List α,dn S kp (l.map enc) (l.map enc):=by
  intro l
  induction l with
  | nil=>exact .nil
  | cons a l d=>exact .cons (.pure (q a)) d
 exact .ZA (app (mp l) (app h (rep r)))
theorem qO.aq3 {f:α→AV}(o:∀ x,aq (f x)=true)(q:∀ x,aq (g x)=true){l:List (α×β)}{K j:AV}(u:aq K=true)(h:gJ S kp V j):qO S kp (.mp (l.map (dq f g)++[(K,V)])) (.mp (l.map (dq f g)++[(K,j)])):=by
 refine .mp (by simp) fun i p A e b=>?_
 by_cases d:i<(l.map (dq f g)).length
 · rw[List.getElem?_append_left d] at e b
   rw[e] at b
   simp only[an] at b
   subst b
   have w:Ih (l.map (dq f g))=true:=Ch o q l
   have:=List.all_eq_true.1 w p (sq e)
   simp only[Bool.and_eq_true] at this
   exact⟨.pure this.1,.pure this.2⟩
 · rw[List.getElem?_append_right (by omega)] at e b
   have y:i-(l.map (dq f g)).length=0:=by
    have:=(List.getElem?_eq_some_iff.1 e).1
    simp only[List.length_cons,List.length_nil] at this
    omega
   rw[y] at e b
   simp only[List.getElem?_cons_zero,an] at e b
   subst e;subst b
   exact⟨.pure u,h⟩
def Ij (ops:Array Oper):Bool:=
 Nat.beq ops.size 4&&(Region.ready .any ops #[false,false,false,false]==[0])&&(Region.ready .any ops #[true,false,false,false]==[1,2])&&(Region.ready .any ops #[true,true,false,false]==[2]) &&
  (Region.ready .any ops #[true,false,true,false]==[1])&&(Region.ready .any ops #[true,true,true,false]==[3])
variable {ops : Array Oper}
theorem FA (h:Ij ops=true)(t:Nat):Region.linearise .any ops t=[0,1,2,3]∨Region.linearise .any ops t=[0,2,1,3]:=by
 simp only[Ij,Bool.and_eq_true,beq_iff_eq] at h
 obtain⟨⟨⟨⟨⟨h0,h1⟩,h2⟩,h3⟩,h4⟩,h5⟩:=h
 have h0:=jj h0
 have go:∀(d t:Nat) (aY:Array Bool) (b:List Nat),Region.linearise.go .any ops (d+1) t aY b=match (Region.ready .any ops aY)[t%(Region.ready .any ops aY).length]? with
    | some i=>Region.linearise.go .any ops d (t/(Region.ready .any ops aY).length) (aY.setIfInBounds i true) (i::b)
    | none=>b.reverse:=fun _ _ _ _=>rfl
 have one:∀(d t i:Nat) (aY:Array Bool) (b:List Nat),Region.ready .any ops aY=[i]→Region.linearise.go .any ops (d+1) t aY b=Region.linearise.go .any ops d t (aY.setIfInBounds i true) (i::b):=by
   intro d t i aY b e
   rw[go,e]
   simp[Nat.mod_one]
 have j:Region.linearise .any ops t=Region.linearise.go .any ops 3 t #[true,false,false,false] [0]:=by
   have o:Array.replicate 4 false = #[false,false,false,false]:=rfl
   rw[Region.linearise,h0,o]
   exact one 3 t 0 _ [] h1
 have fin:∀(t:Nat) (b:List Nat),Region.linearise.go .any ops 1 t #[true,true,true,false] b=(3::b).reverse:=fun t b=>one 0 t 3 _ b h5
 rw[j,show(3:Nat)=2+1 from rfl,go 2,h2]
 rcases Nat.mod_two_eq_zero_or_one t with e | e
 · left
   simp only[List.length_cons,List.length_nil,Nat.zero_add,Nat.reduceAdd,e,List.getElem?_cons_zero]
   exact(one 1 _ 2 #[true,true,false,false] _ h3).trans (fin _ _)
 · right
   simp only[List.length_cons,List.length_nil,Nat.zero_add,Nat.reduceAdd,e,List.getElem?_cons_succ,List.getElem?_cons_zero]
   exact(one 1 _ 1 #[true,false,true,false] _ h4).trans (fin _ _)
theorem Reach.afg {F:ad}{G:ad→af→Prop}{td:List ay}(B:P.follows .mixedOrders=true)(K:F.mode=.run)(L:F.todo=.code (.region id ops true)::td)(M:Ij ops=true)(h1:Reach P { F with todo:=.ops ops [0,1,2,3]::td } S G)(h2:Reach P { F with todo:=.ops ops [0,2,1,3]::td } S G):Reach P F S G:=by
 intro g w fr u cs b H hi
 have C:=b.runs K
 have q:=b.todo
 rw[L] at q
 generalize D:fr.todo=t0 at q
 cases q with | cons N O=>?_
 cases N
 rename_i m
 have d:step P (lone fr cs w)=.next (lone { fr with todo:=.inRegion ops (Region.schedule (P.follows .mixedOrders) ops (w.tape w.drawn (.order fr.fn id)))::m } cs { w with drawn:=w.drawn+1 }):=
  step_lone_go (by simp[stepG,stepG.exec,C,D,choose,Sem.run,Question.forced,Question.cut])
 rw[B] at d
 simp only[Region.schedule,Bool.true_or,if_true] at d
 have j:∀ l,Reach P { F with todo:=.ops ops l::td } S G→Region.linearise .any ops (w.tape w.drawn (.order fr.fn id))=l→∃ F' E g' w' y A,G F' E∧mw P g' F' y∧tg g' F' u A∧F'.kind=F.kind∧F'.fn=F.fn∧F'.round=F.round∧Inv E g' w' ∧ Ext S g w E g' w' ∧ Steps P (lone fr cs w) (lone y A w'):=by
  intro l h e
  rw[e] at d
  have hx:Ext S g w S g { w with drawn:=w.drawn+1 }:=⟨Nat.le_refl _,rfl,⟨rfl,Nat.le_succ _⟩,rfl,fun _ _ _=>rfl,fun id o l h h1 h2 _=>⟨id,o,l,h,h1,h2,rfl⟩,Gh.le_refl _,Nat.le_refl _,rfl,fun _ _=>rfl,fun _ _=>rfl,fun _ _ e _=>.inl e,fun _ _ e=>e,fun _ _=>rfl⟩
  obtain ⟨R,U,X,Y,I,J,Z,r1,r2,r3,r4,r5,r6,r7,r8⟩:=h g { w with drawn:=w.drawn+1 } { fr with todo:=.inRegion ops l::m } u cs
   ⟨b.fn,b.size,b.get,.cons .ops O,b.defers,b.mode,b.kind,b.round⟩ (H.congr rfl rfl) ⟨hi.ro,hi.ob,hi.inj,hi.fresh⟩
  exact⟨R,U,X,Y,I,J,Z,r1,r2,r3,r4,r5,r6,hx.trans r7,Steps.head d r8⟩
 rcases FA M (w.tape w.drawn (.order fr.fn id)) with e | e
 · exact j _ h1 e
 · exact j _ h2 e
def Q1 (l:List Nat)(s:St):St:=
 match s with
 | .run fn F S k=>match F.todo with
   | .code (.region _ ops _)::td=>.run fn { F with todo:=.ops ops l::td } S k
   | _=>.bad 91
 | _=>.bad 91
def LB (s:St):Bool:=
 match s with
 | .run _ F _ k=>match F.mode,F.todo with
   | .run,.code (.region _ ops true)::_=>Ij ops&&flat k
   | _,_=>false
 | _=>false
variable {s : St} {T : FT}
theorem aqj (E:bL T P)(n:Nat)(h:LB (ab T P n s)=true)(d:SX P Q (Q1 [0,1,2,3] (ab T P n s)))(e:SX P Q (Q1 [0,2,1,3] (ab T P n s))):SX P Q s:=by
 refine⟨bP E.ok E.mix n ?_⟩
 generalize ab T P n s=s at h d e
 have d:=d.out
 have e:=e.out
 cases s with
 | run fn F S k=>
   simp only[LB] at h
   split at h<;>try (simp at h;done)
   rename_i id ops td u j
   simp only[Bool.and_eq_true] at h
   simp only[Q1,j] at d e
   have:=fh.all (ι:=Bool) (A:=fun b o=>Reach P { F with todo:=.ops ops (if b then [0,1,2,3] else [0,2,1,3])::td } S (GK P k fn o)) h.2 fun b=>by
    cases b with
    | true=>exact d
    | false=>exact e
   exact fh.mono (fun o q=>Reach.afg E.mix u j h.1 (q true) (q false)) this
 | _=>simp[LB] at h
theorem Av {E E1:af}{g g' : Gh}{w w' : World}{x:Value}(hi:Inv E1 g' w')(hx:Ext E g w E1 g' w')(I:E1.get r=some (.arr sz es))(Y:VR g' (.ak r 0 es.length) x)(F:E.lim≤r) :
   ∃ B,VR B (.lit es) x∧Inv (E1.del r) B w' ∧ Ext E g w (E1.del r) B w' := by
 have u:∀ id o,(E1.del r).get id=some o→id≠r∧E1.get id=some o:=by
   intro id o e
   by_cases h:id=r
   · subst h;rw[af.fi] at e;simp at e
   · rw[af.bQ (nf _) h] at e;exact⟨h,e⟩
 obtain⟨l,l1,l2,c,t,p1,p2,J,p4,p5,p6⟩:=hi.ob _ _ I
 obtain⟨B,d⟩:∃ B:Gh,B={ ro:=fun b=>if b=l.bO then some c else g'.ro b,ph:=g'.ph }:=⟨_,rfl⟩
 have D:Gh.le g' B:=by
   refine⟨fun b c' e=>?_,fun _ _ e=>by rw[d];exact e⟩
   rw[d]
   simp only
   split
   · rename_i A;subst A;rw[l2] at e;simp at e
   · exact e
 have N:B.ro l.bO=some c:=by rw[d];simp
 refine⟨B,?_,⟨fun b c' e=>?_,fun id o e=>?_,fun id O o o' l' R e e' q Z A=>?_,fun id aH=>?_⟩,⟨hx.size,hx.os,hx.tape,hx.output,hx.gw,fun id o l' e K H L=>?_,Gh.le_trans hx.mJ D,hx.nx,hx.lim,fun id aH=>?_,fun id aH=>by rw[d];exact hx.qN id aH,fun b c' e A=>?_,fun id aH e=>?_,hx.fz⟩⟩
 · generalize C:es.length=len at Y
   cases Y with
   | ak M G A=>
     rw[l1] at M;simp only[an] at M;subst M
     subst C
     refine .lit (sz:=l.sz) N (fun e he=>?_) (by rw[J];omega) G fun i j e a y K H L=>?_
     · rw[J];exact p5 e he
     · exact(p6 i j e a y K H (by rw[←J,←L];congr 1;omega)).mono D
   | fI=>
     have:es=[]:=List.length_eq_zero_iff.1 C
     subst this;exact .gi
 · rw[d] at e
   simp only at e
   split at e
   · rename_i A;simp only[an] at e;subst e;subst A;exact⟨t,_,p1⟩
   · exact hi.ro b c' e
 · obtain⟨U,e⟩:=u id o e
   obtain⟨l', q1,q2,q3⟩:=hi.ob id o e
   refine⟨l', by rw[d];exact q1,?_,q3.mono D⟩
   rw[d]
   simp only
   rw[if_neg (fun A=>U (hi.inj id r o _ l' l e I q1 l1 A))]
   exact q2
 · rw[d] at q Z
   exact hi.inj id O o o' l' R (u _ _ e).2 (u _ _ e').2 q Z A
 · rw[d];exact hi.fresh id aH
 · rw[d] at H
   exact hx.own id o l' (u _ _ e).2 K H L
 · rw[af.bQ (nf _) (by omega)];exact hx.rM id aH
 · rw[d] at e
   simp only at e
   split at e
   · rename_i hbb
     obtain⟨X,o0,l0,f1,f2,f3,f4⟩:=hx.own r _ l I F l1 (by omega)
     exact .inr ⟨X,o0,l0,f1,f2,f3,by omega⟩
   · exact hx.vl b c' e A
 · cases q:(E1.del r).get id with
   | none=>rfl
   | some o=>
     have:=(u id o q).2
     rw[hx.dead id aH e] at this;simp at this
theorem aqU (E:bL T P)(n:Nat)(o:af→Option cJ)(r:Nat)(e:af→af)(h:vo P (ab T P n s)=o (eA (ab T P n s)))(C:((cO (ab T P n s)).bind (·.dst)).isSome=true)(B:o (eA (ab T P n s))=some (.val (.ak r 0 len) (e (eA (ab T P n s)))))(j:len=es.length)(D:(e (eA (ab T P n s))).get r=some (.arr sz es))(F:Nat.ble (eA (ab T P n s)).lim r=true)(u:Nat.ble (eA (ab T P n s)).nx (e (eA (ab T P n s))).nx=true)(q:SX P Q (jG (fun S=>.val (.lit es) ((e S).del r)) (ab T P n s))):SX P Q s:=
 Es E n o (.lit es) (fun S=>(e S).del r) h C ⟨_,B⟩ (fun {all op get} y g w fr cs i rest m G H A I hi=>by
  obtain⟨w', g', x,a,b,c,d⟩:=y _ _ B g w fr cs i rest m G H A I hi
  obtain⟨J,K,L,M⟩:=Av c d D (by rw[←j];exact b) (ed F)
  exact⟨w', J,x,a,K,L,M⟩) (ed u) q
structure ZD (S S1 : af) (r : Nat) (S2 : af) : Prop where
 lim : S.lim ≤ r
 Qy : S.nx ≤ S1.nx
 acQ : S1.nx ≤ S2.nx
 lm : S2.lim = S1.lim
 get : (∀ k o, S.get k = some o → k < S.nx) → ∀ k o, S2.get k = some o → k ≠ r ∧ S1.get k = some o
 rM : ∀ k, k < S1.lim → S2.get k = (S1.del r).get k
theorem Qj (E:bL T P)(n:Nat)(o:af→Option cJ)(y:af→af)(h:vo P (ab T P n s)=o (eA (ab T P n s)))(G:((cO (ab T P n s)).bind (·.dst)).isSome=true)(H:∃ r u,o (eA (ab T P n s))=some (.val (.ak r 0 es.length) u)∧u.get r=some (.arr sz es)∧ZD (eA (ab T P n s)) u r (y (eA (ab T P n s))))(q:SX P Q (jG (fun S=>.val (.lit es) (y S)) (ab T P n s))):SX P Q s:=by
 obtain⟨r,u,h1,h2,h3⟩:=H
 refine Es E n o (.lit es) y h G ⟨_,h1⟩ (fun {all op get} C g w fr cs i rest m I J D K hi=>?_) (Nat.le_trans h3.Qy h3.acQ) q
 obtain⟨w', g', x,a,b,c,d⟩:=C _ _ h1 g w fr cs i rest m I J D K hi
 obtain⟨L,M,B,j⟩:=Av c d h2 b h3.lim
 have A:∀ k o,(y (eA (ab T P n s))).get k=some o→(u.del r).get k=some o:=by
  intro k o e
  obtain⟨N,O⟩:=h3.get (fun k o e=>hi.iZ e) k o e
  rw[af.bQ (nf _) N];exact O
 exact ⟨w', L,x,a,M,⟨B.ro,fun id o e=>B.ob id o (A id o e),fun id F o o' l l' e R=>B.inj id F o o' l l' (A _ _ e) (A _ _ R),fun id aH=>B.fresh id (Nat.le_trans h3.acQ aH)⟩,
  ⟨j.size,j.os,j.tape,j.output,j.gw,fun id o l e=>j.own id o l (A _ _ e),j.mJ,Nat.le_trans h3.Qy h3.acQ,h3.lm.trans j.lim,fun id aH=>(h3.rM id (by rw[show u.lim=(u.del r).lim from rfl,j.lim];exact aH)).trans (j.rM id aH),j.qN,j.vl,fun id aH e=>by
   cases U:(y (eA (ab T P n s))).get id with
   | none=>rfl
   | some o=>have:=A id o U;rw[j.dead id aH e] at this;simp at this,j.fz⟩⟩
section
variable {P : Program} {α : Type} {enc : α → AV}
variable {st xt : Nat} {src : AV}
theorem LZ {xs ys:List α}(A:A4 P st el sz=true)(B:A5 P xt=true)(j:∀ x,(enc x).cells.length=sz)(b:∀ x,(enc x).cells.all cV=true)(d:S.get id=some (.arr sz (xs.map enc)))(q:gl S src=some (ys.map enc))(D:len=xs.length)(u:(Nat.ble (S.nx+1) 8192&&Nat.ble S.lim S.nx)=true)(C:Nat.ble S.lim id=true)(aH:Nat.ble (id+1) S.nx=true)(G:decide (xs.length+ys.length≤1048576)=true):∃ r F,rK P S st xt (.ak id 0 len) src=some (.val (.ak r 0 ((xs++ys).map enc).length) F)∧F.get r=some (.arr sz ((xs++ys).map enc))∧ZD S F r (bump (S.del id)):=by
 subst D
 have aH:=ed aH
 have E:=ed C
 have J:∀ k o,(bump (S.del id)).get k=some o→k≠id∧S.get k=some o:=by
   intro k o e
   rw[rU] at e
   by_cases h:k=id
   · subst h;rw[af.fi] at e;simp at e
   · rw[af.bQ (nf _) h] at e;exact⟨h,e⟩
 cases ys with
 | nil=>
   refine⟨id,S,?_,?_,E,Nat.le_refl _,Nat.le_succ _,rfl,fun _=>J,fun k w=>by rw[rU]⟩
   · have:=vY (P:=P) (enc:=enc) (ys:=[]) (s:=.ak id 0 xs.length) A B q rfl (nQ (enc:=enc) (ys:=xs) _ (.inr ⟨id,sz,rfl,d⟩)) (kU (enc:=enc) j b xs)
     simpa using this
   · simpa using d
 | cons y ys=>
   have H:S.lim≤S.nx:=by simp only[Bool.and_eq_true] at u;exact ed u.2
   refine⟨S.nx,(S.del id).add (.arr sz ((xs++y::ys).map enc)),?_,af.kW (nf _),H,Nat.le_succ _,Nat.le_refl _,rfl,fun I k o e=>?_,fun k w=>?_⟩
   · have:=zj (P:=P) (nx:=S.nx) (enc:=enc) (ys:=y::ys) A B j b d q rfl rfl u C (by simp) (of_decide_eq_true G)
     simpa using this
   · obtain⟨h1,h2⟩:=J k o e
     have w:k≠S.nx:=Nat.ne_of_lt (I k o h2)
     exact ⟨w,by
      have:((S.del id).add (.arr sz ((xs++y::ys).map enc))).get k=(S.del id).get k:=af.dj (nf _) w
      rw[this,af.bQ (nf _) h1];exact h2⟩
   · have w:k<S.lim:=w
     have K:k≠S.nx:=by omega
     rw[rU,af.bQ (nf _) K]
     exact(af.dj (s:=S.del id) (nf _) K).symm
end
theorem cL.afh {S0:af}(J:S0.nx=S.nx)(B:S0.lim=S.lim)(j:∀ id o0,S0.get id=some o0→∃ o,S.get id=some o∧∀ g l x,rI g l x o→rI g l x o0)(A:∀ id,id<S.lim→S0.get id=S.get id)(h:cL P f args S0 Q):cL P f args S Q:=by
 intro g w xs hx hi
 refine(h g w xs hx ⟨hi.ro,fun id o e=>?_,fun a b o o' l l' e K=>?_,fun id aH=>hi.fresh id (by omega)⟩).mono fun e w' ⟨r,L,g', q,h1,h2,d⟩=>⟨r,L,g', q,h1,h2,⟨d.size,d.os,d.tape,d.output,fun b C M=>d.gw b C fun id o l e N D=>?_,fun id o l e N D O=>?_,d.mJ,by rw[←J];exact d.nx,d.lim.trans B,fun id aH=>(d.rM id (by omega)).trans (A id aH),fun id aH=>d.qN id (by omega),fun b c e C=>?_,fun id aH e=>?_,d.fz⟩⟩
 · obtain⟨o1,u,E⟩:=j id o e
   obtain⟨l,a,b,c⟩:=hi.ob id o1 u
   exact⟨l,a,b,E _ _ _ c⟩
 · obtain⟨R,u,_⟩:=j a o e
   obtain⟨U,E,_⟩:=j b o' K
   exact hi.inj a b R U l l' u E
 · obtain⟨o1,u,_⟩:=j id o e
   exact M id o1 l u (by omega) D
 · obtain⟨y,o0,F,G,X,H,I⟩:=d.own id o l e (by omega) D O
   obtain⟨o1,u,_⟩:=j y o0 G
   exact⟨y,o1,F,u,by omega,H,I⟩
 · rcases d.vl b c e C with h | ⟨y,o0,F,G,X,H,I⟩
   · exact .inl h
   · obtain⟨o1,u,_⟩:=j y o0 G
     exact .inr ⟨y,o1,F,u,by omega,H,I⟩
 · refine d.dead id (by omega) ?_
   cases Y:S0.get id with
   | none=>rfl
   | some o=>obtain⟨o1,u,_⟩:=j id o Y;rw[e] at u;simp at u
def GV (id:Nat)(keys:List Nat)(S:af):af:=
 match S.get id with
 | some o=>S.set id (zM keys o)
 | none=>S
theorem cL.prune {keys:List Nat}(j:S.lim≤id)(h:cL P f args (GV id keys S) Q):cL P f args S Q:=by
 unfold GV at h
 cases b:S.get id with
 | none=>rw[b] at h;exact h
 | some o=>
   rw[b] at h
   refine cL.afh (S0:=S.set id (zM keys o)) rfl rfl (fun k o2 e=>?_) (fun k d=>af.ar (nf _) (by omega)) h
   by_cases d:k=id
   · subst d
     rw[af.bn (nf _)] at e
     simp only[an] at e;subst e
     exact⟨o,b,fun _ _ _ h=>Ci h⟩
   · rw[af.ar (nf _) d] at e
     exact⟨o2,e,fun _ _ _ h=>h⟩
def abZ (T:FT)(s:St):Option (Nat×List AV):=
 match s with
 | .run _ F S _=>match F.mode,F.todo,F.round with
   | .run,.code (.rangeFunc f _ _ _)::_,none=>match F.eval f with
     | some (.fn (.func g) first cap)=>match FT.look T g,Nat.ble S.lim S.nx with
       | some _,true=>some (g,first++[.nU (S.nx+1)]++cap)
       | _,_=>none
     | _=>none
   | _,_,_=>none
 | _=>none
def acR (s:St):af:=
 match s with
 | .run _ F S _=>match F.todo with
   | .code (.rangeFunc _ d a b)::_=>F.Ek S d a b
   | _=>S
 | _=>af.empty
def Yf (keys:List Nat)(s:St):af:=GV ((iY s).nx+1) keys (acR s)
def Qk (b:af)(s:St):St:=
 match s with
 | .run fn F S k=>match F.todo with
   | .code (.rangeFunc _ _ _ _)::td=>.run fn (F.nB S.nx (S.nx+1) td (.ret (.bM []))) b k
   | _=>.bad 92
 | _=>.bad 92
def CV (keys:List Nat)(r:af→af)(s:St):St:=Qk (r (Yf keys s)) s
theorem MZ (E:bL T P)(n:Nat)(keys:List Nat)(g:Nat)(args:List AV)(v:AV)(r:af→af)(h:abZ T (ab T P n s)=some (g,args))(j:cL P g args (Yf keys (ab T P n s)) fun x u=>x=.ret v∧u=r (Yf keys (ab T P n s)))(q:SX P Q (CV keys r (ab T P n s))):SX P Q s:=by
 refine⟨bP E.ok E.mix n ?_⟩
 generalize ab T P n s=s at h j q
 have q:=q.out
 unfold CV at q
 cases s with
 | run fn F S k=>
   simp only[abZ] at h
   split at h<;>try (simp at h;done)
   rename_i f w a b td y o A
   split at h<;>try (simp at h;done)
   rename_i g' first cap B
   split at h<;>simp only[an,gU,reduceCtorEq] at h
   rename_i e C h2
   obtain⟨rfl,rfl⟩:=h
   have h2:=ed h2
   have D:acR (.run fn F S k)=F.Ek S w a b:=by simp only[acR,o]
   simp only[Qk,o] at q
   simp only[Yf,D] at j q
   have d:(F.Ek S w a b).lim=S.lim:=rfl
   exact aA.reach (fun G H=>Reach.rangeFunc y o A B (E.ok g' e C).2.2.1 (nf _) h2 (cL.prune (by rw[d];exact Nat.le_succ_of_le h2) j) fun K L ⟨I,J⟩=>by subst I;subst J;exact H) q
 | _=>simp[abZ] at h
section
variable {P : Program} {α : Type} {enc : α → AV} {S : af} {t id : Nat} {k : IntKind} {l : List (Int × List α)} {x c : Int} {V : AV}
theorem aqp (q:ra P t=some (k,.ax))(d:S.get id=some (.mp (l.map (dq (dO k) (kT enc))))) :
   ∃ v,um P S t (.dm id) (.sc (.int k x)) false=some (.val v S)∧∀ g y,VR g v y→VR g (.lit (((cD l x).getD []).map enc)) y:=by
 obtain⟨A,B,h1,h2,h3⟩:=ja q
 obtain⟨r,e,o⟩:=og (g:=kT enc) (k:=k) x l 0
 cases r with
 | none=>
   refine⟨.ax,by simp only[um,hJ,h1,h2,d,gL,e,h3,jC],fun g y h=>?_⟩
   simp only[o.1,Option.getD_none,List.map_nil]
   cases h
   exact .gi
 | some u=>
   obtain⟨j,v⟩:=u
   obtain⟨b,w,rfl,_⟩:=o
   refine⟨kT enc b,by simp only[um,hJ,h1,h2,d,gL,e,jC],fun g y h=>?_⟩
   simp only[w,Option.getD_some]
   exact h
theorem Db (q:ra P t=some (k,.ax))(d:S.get id=some (.mp (l.map (dq (dO k) (kT enc))++[(.sc (.int k c),V)])))(h:(cD l c).isNone=true∧¬ x=c) :
   ∃ v,um P S t (.dm id) (.sc (.int k x)) false=some (.val v S)∧∀ g y,VR g v y→VR g (.lit (((cD l x).getD []).map enc)) y:=by
 obtain⟨h,hx⟩:=h
 obtain⟨A,B,h1,h2,h3⟩:=ja q
 obtain⟨r,e,o⟩:=og (g:=kT enc) (k:=k) x l 0
 cases r with
 | none=>
   refine⟨.ax,by simp only[um,hJ,h1,h2,d,gL,tx (Option.isNone_iff_eq_none.1 h),if_neg hx,e,h3,jC],fun g y h=>?_⟩
   simp only[o.1,Option.getD_none,List.map_nil]
   cases h
   exact .gi
 | some u=>
   obtain⟨j,v⟩:=u
   obtain⟨b,w,rfl,_⟩:=o
   refine⟨kT enc b,by simp only[um,hJ,h1,h2,d,gL,tx (Option.isNone_iff_eq_none.1 h),if_neg hx,e,jC],fun g y h=>?_⟩
   simp only[w,Option.getD_some]
   exact h
end
theorem Eu (E:bL T P)(n:Nat)(o:af→Option cJ)(b:AV)(h:vo P (ab T P n s)=o (eA (ab T P n s)))(j:((cO (ab T P n s)).bind (·.dst)).isSome=true)(u:∃ v,o (eA (ab T P n s))=some (.val v (eA (ab T P n s)))∧∀ g x,VR g v x→VR g b x)(q:SX P Q (jG (fun S=>.val b S) (ab T P n s))):SX P Q s:=by
 obtain⟨v,e,w⟩:=u
 exact Es E n o b (fun S=>S) h j ⟨_,e⟩ (fun {_ _ _} d=>(d _ _ e).wk ⟨w,rfl,rfl,fun id o e=>⟨o,e,fun _ _ _ h=>h⟩,fun _ _=>rfl⟩) (Nat.le_refl _) q
end
end Go.Eng
namespace Go.Eng
variable {α : Type}
abbrev dd [Inhabited α]:α:=default
variable {v : AV}
theorem pv (h:aq v=true:=by simp[aq,bF,cC,aO,-List.map_append,-List.map_drop,-List.map_take,-List.map_set,-List.map_replicate]):aq v=true:=h
theorem pl {l:List AV}(h:bF l=true:=by simp[aq,bF,cC,aO,-List.map_append,-List.map_drop,-List.map_take,-List.map_set,-List.map_replicate]):bF l=true:=h
variable {x : Int}
theorem iR {k:IntKind}(h:dH k x=true):some (AV.sc (.int k (k.wrap x)))=some (.sc (.int k x)):=by rw[CO h]
structure CS {α : Type} (enc : α → AV) (cells : α → List AV) (m : Nat) : Prop where
 eq : ∀ x, (enc x).cells = cells x
 len : ∀ x, (cells x).length = m
theorem HX (k:IntKind):CS (dO k) (fun n=>[.sc (.int k n)]) 1:=⟨fun _=>rfl,fun _=>rfl⟩
theorem aq4 : CS fC (fun n=>[.sc (.string n)]) 1:=⟨fun _=>rfl,fun _=>rfl⟩
theorem ate (enc:α→AV):CS (kT enc) (fun l=>[.lit (l.map enc)]) 1:=⟨fun _=>rfl,fun _=>rfl⟩
section
variable {T : FT} {P : Program} {Q : gI → af → Prop} {s : St} {α β R : Type}
theorem yO (E:bL T P)(n:Nat){o:Option AV}(d:o=some v)(q:SX P Q (aF v none (ab T P n s)))(h:Km P (ab T P n s)=o:=by kernel_rfl):SX P Q s:=yn E n o v h d q
variable {g : Nat} {A : List AV}
theorem YJ (E:bL T P)(n:Nat)(d:∀ S,cL P g A S fun e f=>e=.ret v∧f=S)(q:SX P Q (aF v none (ab T P n s)))(h:Kn T P (ab T P n s)=some (g,A):=by kernel_rfl):SX P Q s:=CQ E n g A v h d q
theorem yI (E:bL T P)(n:Nat){k:IntKind}{f:Option R}{r:R}(h:(if dH k x then f else none)=some r)(q:dH k x=true→f=some r→SX P Q (aF (.sc (.int k x)) none (ab T P n s)))(d:Km P (ab T P n s)=some (.sc (.int k (k.wrap x))):=by kernel_rfl):SX P Q s:=
 yn E n _ _ d (iR (q8 h).1) (q (q8 h).1 (q8 h).2)
variable {b : Bool}
theorem yB (E:bL T P)(n:Nat){t f:Option R}{r:R}(h:(if b then t else f)=some r)(d:b=true→t=some r→SX P Q (aF (.sc (.bool true)) none (ab T P n s)))(e:b=false→f=some r→SX P Q (aF (.sc (.bool false)) none (ab T P n s)))(j:Km P (ab T P n s)=some (.sc (.bool b)):=by kernel_rfl):SX P Q s:=
 NP E n b j (fun c=>d c (yg c h)) (fun c=>e c (yh c h))
theorem NC (E:bL T P)(n:Nat){t f:Option R}{r:R}(h:(if b then t else f)=some r)(d:b=true→t=some r→SX P Q (jG (fun S=>.val (.sc (.bool true)) S) (ab T P n s)))(e:b=false→f=some r→SX P Q (jG (fun S=>.val (.sc (.bool false)) S) (ab T P n s)))(j:vo P (ab T P n s)=some (.val (.sc (.bool b)) (eA (ab T P n s))):=by kernel_rfl)(p:n0 (.val (.sc (.bool b)) (eA (ab T P n s))) (ab T P n s)=true:=by kernel_rfl):SX P Q s:=
 aby E n b j p (fun c=>d c (yg c h)) (fun c=>e c (yh c h))
variable {m : Nat}
theorem yX (E:bL T P)(n t el:Nat){enc:α→AV}{cells:α→List AV}(d:CS enc cells m){l:List α}{i:Int}{f:α→Option R}{r:R}(h:(dY l i>>=f)=some r)(q:∀ x,dY l i=some x→f x=some r→SX P Q (aF (.fa (cells x)) none (ab T P n s)))(j:Km P (ab T P n s)=dh P af.empty t (.lit (l.map enc)) (.sc (.int .i64 i)):=by kernel_rfl)(h1:P.underlying t=some (.slice el):=by kernel_rfl)(h2:oK P el=some m:=by kernel_rfl):SX P Q s:=by
 obtain⟨x,e,h⟩:=bT h
 exact yn E n _ (.fa (cells x)) j (Xx e h1 h2 (d.eq x) (d.len x)) (q x e h)
theorem yC (E:bL T P)(n:Nat){F:Option β}{V:β→AV}{f:β→Option R}{r:R}(d:∀ v,F=some v→∀ S,cL P g A S fun j p=>j=.ret (V v)∧p=S)(h:(F>>=f)=some r)(q:∀ v,f v=some r→SX P Q (aF (V v) none (ab T P n s)))(t:Kn T P (ab T P n s)=some (g,A):=by kernel_rfl):SX P Q s:=by
 obtain⟨v,e,h⟩:=bT h
 exact CQ E n g A (V v) t (d v e) (q v h)
theorem mK (E:bL T P)(n:Nat){F:Option Bool}{a b:Option R}{r:R}(d:∀ v,F=some v→∀ S,cL P g A S fun f j=>f=.ret (.sc (.bool v))∧j=S)(h:(F>>=fun v=>if v then a else b)=some r)(p:a=some r→SX P Q (aF (.sc (.bool true)) none (ab T P n s)))(q:b=some r→SX P Q (aF (.sc (.bool false)) none (ab T P n s)))(t:Kn T P (ab T P n s)=some (g,A):=by kernel_rfl):SX P Q s:=by
 obtain⟨v,e,h⟩:=bT h
 refine CQ E n g A (.sc (.bool v)) t (d v e) ?_
 cases v with
 | true=>exact p h
 | false=>exact q h
variable {w : AV}
theorem yR (E:bL T P)(n:Nat)(d:wU (ab T P n s)=some w:=by kernel_rfl)(e:aq w=true:=by exact pv):SX P (RQ w) s:=LS E n d e
variable {s' : St}
theorem yK (E:bL T P)(n:Nat)(d:List (List Nat))(ids:List Nat)(q:SX P (RQ v) s')(e:aq v=true:=by exact pv)(f:mf (ab T P n s)=true:=by kernel_rfl)(h:qh d ids (ab T P n s)=s' := by kernel_rfl):SX P (RQ v) s:=
 zF E (BT e) n d ids f h q
variable {args : List AV}
theorem yF (E:bL T P){f:Nat}(h:SX P (RQ w) (St.start T f args af.empty))(d:bF args=true:=by exact pl)(e:aq w=true:=by exact pv)(S:af):cL P f args S fun r j=>r=.ret w∧j=S:=
 zk E d e h S
def acS (S:af)(nx:Nat)(ids:List Nat)(os:List ai):Prop:=S.nx=nx∧Nat.ble S.lim S.nx=true∧ids.Nodup∧tp S ids os
theorem EO {S:af}:∀ {ids:List Nat} {os:List ai},ids.map S.get=os.map some→ids.all (Nat.ble S.lim)=true→tp S ids os
 | [],[],_,_=>trivial
 | a::r,o::l,h,k=>by
   simp only[List.map_cons,List.cons.injEq] at h
   simp only[List.all_cons,Bool.and_eq_true] at k
   exact⟨⟨h.1,k.1⟩,EO h.2 k.2⟩
 | [],_::_,h,_=>by simp at h
 | _::_,[],h,_=>by simp at h
variable {S : af}
theorem iw {nx:Nat}{ids:List Nat}{os:List ai}(h1:S.nx=nx:=by kernel_rfl)(h2:Nat.ble S.lim S.nx=true:=by kernel_rfl)(h3:ids.Nodup:=by decide)(h4:ids.map S.get=os.map some:=by kernel_rfl)(h5:ids.all (Nat.ble S.lim)=true:=by kernel_rfl):acS S nx ids os:=
 ⟨h1,h2,h3,EO h4 h5⟩
theorem yG (E:bL T P)(n:Nat){r:af→af}(e:cL P g A (NB (ab T P n s)) fun x d=>x=.ret v∧d=r (NB (ab T P n s)))(q:SX P Q (Gq v r (ab T P n s)))(h:YF T P (ab T P n s)=some (g,A):=by kernel_rfl):SX P Q s:=
 IB E n g A v r h e q
theorem ND (E:bL T P)(n:Nat){r:af→af}(e:cL P g A (NB (ab T P n s)) fun x d=>x=.ret v∧d=r (NB (ab T P n s)))(q:SX P Q (Gq v r (ab T P n s)))(h:(YF T P (ab T P n s)).map (fun p=>(p.1,rE p.2))=some (g,A):=by kernel_rfl):SX P Q s:=by
 obtain⟨⟨g', f⟩,h1,h2⟩:=Option.map_eq_some_iff.1 h
 cases h2
 exact IB E n _ f v r h1 (Ps rfl e) q
theorem Kw (E:bL T P)(n:Nat){r:af→af}(e:cL P g A (IS (ab T P n s)) fun x d=>x=.ret v∧d=r (IS (ab T P n s)))(q:SX P Q (Q0 v r (ab T P n s)))(h:Qx T P (ab T P n s)=some (g,A):=by kernel_rfl):SX P Q s:=
 MV E n g A v r h e q
theorem DW (E:bL T P)(n:Nat)(keys:List Nat){r:af→af}(e:cL P g A (Yf keys (ab T P n s)) fun x d=>x=.ret v∧d=r (Yf keys (ab T P n s)))(q:SX P Q (CV keys r (ab T P n s)))(h:abZ T (ab T P n s)=some (g,A):=by kernel_rfl):SX P Q s:=
 MZ E n keys g A v r h e q
variable {kp : List Nat} {o o' : ai}
theorem acT (h:qO S kp o o' := by
 repeat' first | exact qO.df | exact dn.nil | exact PH.nil | refine dn.cons ?_ ?_ | refine PH.cons ?_ ?_ | exact gJ.n4 rfl | exact gJ.BX rfl | exact gJ.BY rfl | exact gJ.Qb rfl rfl | (refine gJ.Qb rfl ?_;first | (simp<;>fail) | omega | (simp;omega)) | (refine gJ.pure ?_;simp[aq,bF,cC,aO,-List.map_append,-List.map_drop,-List.map_take,-List.map_set,-List.map_replicate]<;>fail) | refine qO.s6 (fun _=>aO (by simp) _) ?_ | (refine qO.ZB ?_;simp[aq,bF,cC,aO,-List.map_append,-List.map_drop,-List.map_take,-List.map_set,-List.map_replicate]<;>fail) | refine qO.ZA ?_ | refine gJ.QY ?_ | refine gJ.Qw ?_ ?_ | refine Pg (PH.spec ?_) (by kernel_rfl) | refine Ht ?_ | refine qO.aq3 (by simp) (fun _=>aO (by simp) _) rfl ?_ | exact qO.aqn rfl | (refine qO.aqn (Ch (fun _=>?_) (fun _=>?_) _)<;>simp[aq,bF,cC,aO,-List.map_append,-List.map_drop,-List.map_take,-List.map_set,-List.map_replicate]<;>fail)):qO S kp o o' := h
variable {i : Nat}
theorem us {r:List (Option ai)}(t:mA S kp (i+1) r)(e:S.get i=some o:=by kernel_rfl)(f:qO S kp o o:=by exact acT):mA S kp i (some o::r):=Ar e f t
theorem uo {r:List (Option ai)}(o:ai)(t:mA S kp (i+1) r)(e:S.get i=some o:=by kernel_rfl)(f:qO S kp o o' := by exact acT):mA S kp i (some o' :: r):=Ar e f t
theorem uT {r:List (Option ai)}(h:mA S kp i r:=by repeat first | exact bg | refine us ?_):mA S kp i r:=h
theorem ua {id:Nat}{l:List Nat}{r:List ai}(o:ai)(t:sT S kp l r)(e:S.get id=some o:=by kernel_rfl)(f:qO S kp o o' := by exact acT):sT S kp (id::l) (o' :: r):=Hr e f t
variable {k : Nat} {v' : AV} {jB : List (Option ai)} {add : List ai}
theorem iH (E:bL T P)(n:Nat)(v:AV)(kp:List Nat)(d:gJ (Np (ab T P n s)) kp v v')(e:mA (Np (ab T P n s)) kp 0 jB)(f:sT (Np (ab T P n s)) kp (kp.drop k) add)(h:wU (ab T P n s)=some v:=by kernel_rfl)(j:Gp k add.length kp=true:=by kernel_rfl):SX P (RG k v' jB add) s:=XE E n kp h j d e f
theorem yi (E:bL T P)(n:Nat)(bs:List Nat)(v:AV)(kp:List Nat)(d:gJ (iY (ab T P n s)) kp v v')(e:mA (iY (ab T P n s)) kp 0 jB)(f:sT (iY (ab T P n s)) kp (kp.drop k) add)(j:A6 (ab T P n s)=some (nX P (Yd (ab T P n s)) bs (RG k v' jB add)):=by kernel_rfl)(p:abY (ab T P n s)=[.rJ bs]:=by kernel_rfl)(q:Ii (ab T P n s)=true:=by kernel_rfl)(h:QZ P (ab T P n s)=some v:=by kernel_rfl)(r:Gp k add.length kp=true:=by kernel_rfl):SX P (RG k v' jB add) s:=Pl E n kp j p q h r d e f
variable {a : Nat}
theorem vq (E:bL T P)(e:tM a Q)(n:Nat)(d:List (List Nat))(ids:List Nat)(q:SX P Q s')(f:mf (ab T P n s)=true:=by kernel_rfl)(h:qh d ids (ab T P n s)=s' := by kernel_rfl):SX P Q s:=
 zF E e n d ids f h q
theorem Kq (E:bL T P)(e:tM a Q)(n:Nat)(d:List (List Nat))(ids:List Nat)(bs:List Nat)(q:SX P Q s')(f:nR (ab T P n s)=true:=by kernel_rfl)(j:uf (ab T P n s)=some (nX P (uu (ab T P n s)) bs Q):=by kernel_rfl)(h:qh d ids (ab T P n s)=s' := by kernel_rfl):SX P Q s:=XH E e n d ids bs f j h q
variable {c : St} {ls : List (List (Nat × AV))} {l : List (Nat × ai)}
theorem atf (E:bL T P)(j:tM a Q)(n:Nat)(f:List (List Nat))(ids:List Nat)(d:List (Nat×Nat))(N nx:Nat)(e:List (List (Nat×AV)))(l2:List (Nat×ai))(q:SX P Q (iJ c ls (oL N l)))(r:mf (ab T P n s)=true:=by kernel_rfl)(h:qh f ids (ab T P n s)=iJ c e (oL nx l2):=by kernel_rfl)(t:(s8 d N nx [] []&&d.all (fun p=>Nat.ble a p.1)&&Nat.ble a N)=true:=by kernel_rfl)(u:vC (jR d N nx) c=true:=by kernel_rfl)(y:Nat.beq ls.length (su c)=true:=by kernel_rfl)(z:ko l2=true:=by kernel_rfl)(B:e=ls.map (gC (jR d N nx)):=by simp[gC,AV.aw,dE,fJ,aq,aO,rf,oc,-List.cons_append,-List.nil_append,-List.singleton_append,-List.map_append,-List.map_drop,-List.map_take,-List.map_set,-List.map_replicate]<;>omega)(C:l2=rN (jR d N nx) l:=by simp[rN,kE,mQ,kF,kG,kH,kJ,jx,jw,tT,kI,kD,gq,gC,AV.aw,dE,fJ,aq,aO,rf,oc,dO,qR,fC,-List.cons_append,-List.nil_append,-List.singleton_append,-List.map_append,-List.map_drop,-List.map_take,-List.map_set,-List.map_replicate]<;>omega):SX P Q s:=
 GP E j n f ids d N nx r h t u y z B C q
theorem atg (E:bL T P)(q:tM a Q)(n:Nat)(j:List (List Nat))(ids:List Nat)(d:List (Nat×Nat))(N nx:Nat)(bs:List Nat)(e:List (List (Nat×AV)))(l2:List (Nat×ai))(r:SX P Q (iJ c ls (oL N l)))(t:nR (ab T P n s)=true:=by kernel_rfl)(u:uf (ab T P n s)=some (nX P (uu (ab T P n s)) bs Q):=by kernel_rfl)(f:uf c=some (nX P (uu (ab T P n s)) bs Q):=by kernel_rfl)(h:qh j ids (ab T P n s)=iJ c e (oL nx l2):=by kernel_rfl)(y:(s8 d N nx [] []&&d.all (fun p=>Nat.ble a p.1)&&Nat.ble a N)=true:=by kernel_rfl)(z:uS (jR d N nx) c=true:=by kernel_rfl)(B:Nat.beq ls.length (su c)=true:=by kernel_rfl)(C:ko l2=true:=by kernel_rfl)(D:e=ls.map (gC (jR d N nx)):=by simp[gC,AV.aw,dE,fJ,aq,aO,rf,oc,-List.cons_append,-List.nil_append,-List.singleton_append,-List.map_append,-List.map_drop,-List.map_take,-List.map_set,-List.map_replicate]<;>omega)(F:l2=rN (jR d N nx) l:=by simp[rN,kE,mQ,kF,kG,kH,kJ,jx,jw,tT,kI,kD,gq,gC,AV.aw,dE,fJ,aq,aO,rf,oc,dO,qR,fC,-List.cons_append,-List.nil_append,-List.singleton_append,-List.map_append,-List.map_drop,-List.map_take,-List.map_set,-List.map_replicate]<;>omega):SX P Q s:=
 Da E q n j ids d N nx bs t u f h y z B C D F r
theorem atb (E:bL T P){f:Nat}(n:List (Option ai)){e:List AV}{d j:List ai}{p:List (Option ai)}{q:List ai}(h:SX P (RG k v jB add) (St.start T f args (oL m (lY 0 d))))(S:af)(nx:Nat)(ids:List Nat)(z:acS S nx ids j)(B:d.map (ai.aw (rL ids nx))=j:=by simp[kE,mQ,kF,kG,kH,kJ,jx,jw,AV.aw,dE,gC,rL,kD,gq,fJ,kI,aq,aO,-List.map_append,-List.map_drop,-List.map_take,-List.map_set,-List.map_replicate])(C:dE (rL ids nx) args=e:=by simp[AV.aw,dE,gC,rL,fJ,aq,aO,-List.map_append,-List.map_drop,-List.map_take,-List.map_set,-List.map_replicate])(D:v.aw (rL (ids.take k) nx)=v' := by simp[AV.aw,dE,gC,rL,fJ,aq,aO,-List.map_append,-List.map_drop,-List.map_take,-List.map_set,-List.map_replicate])(F:jB.map (Option.map (ai.aw (rL (ids.take k) nx)))=p:=by simp[kE,mQ,kF,kG,kH,kJ,jx,jw,AV.aw,dE,gC,rL,kD,gq,fJ,kI,aq,aO,-List.map_append,-List.map_drop,-List.map_take,-List.map_set,-List.map_replicate])(G:add.map (ai.aw (rL (ids.take k) nx))=q:=by simp[kE,mQ,kF,kG,kH,kJ,jx,jw,AV.aw,dE,gC,rL,kD,gq,fJ,kI,aq,aO,-List.map_append,-List.map_drop,-List.map_take,-List.map_set,-List.map_replicate])(t:m=d.length:=by rfl)(H:jB.length=k:=by rfl)(I:Nat.ble k d.length=true:=by kernel_rfl)(u:n.all Option.isNone=true:=by rfl)(y:k+n.length=d.length:=by rfl) :
  cL P f e S fun r J=>r=.ret v' ∧ J=uI (qm S (ids.zip (p++n))) q:=by
 obtain⟨h1,h2,h3,h4⟩:=z
 subst h1
 subst t
 exact LV E n h H I u y S ids h2 h3 h4 B C D (by rw[F]) G
end
end Go.Eng
namespace Go.Eng
abbrev TC := List AV×List ai
abbrev TB := AV×List (Option ai)×List ai
abbrev TL := List (List (Nat×AV))×List (Nat×ai)
abbrev NM := Nat→Nat
@[simp] def sm (l:List ai):List (Option ai):=l.map some
instance : Std.ToStream St St := ⟨id⟩
instance : Std.ToStream (NM → TC) (NM → TC) := ⟨id⟩
instance : Std.ToStream (NM → TB) (NM → TB) := ⟨id⟩
instance {α β γ : Type} [Inhabited α] [Std.ToStream β γ] : Std.ToStream (α → β) γ := ⟨fun f => Std.ToStream.toStream (f default)⟩
abbrev dz {α β:Type} [Std.ToStream α β] (x:α):β:=Std.ToStream.toStream x
noncomputable def ng (c:St)(N:Nat)(L:NM→TL):St:=iJ c (L id).1 (oL N (L id).2)
def gV (k:Nat)(B:NM→TB):gI→af→Prop:=RG k (B id).1 (B id).2.1 (B id).2.2
noncomputable def Gs (k:Nat)(B:NM→TB)(ids:List Nat)(nx:Nat)(S:af):af:=uI (qm S (ids.zip ((B (rL (ids.take k) nx)).2.1++List.replicate (ids.length-k) none))) (B (rL (ids.take k) nx)).2.2
def gj (P:Program)(f k:Nat)(C:NM→TC)(B:NM→TB):Prop:=∀(S:af) (nx:Nat) (ids:List Nat),acS S nx ids (C (rL ids nx)).2 →
 cL P f (C (rL ids nx)).1 S fun b d=>b=.ret (B (rL (ids.take k) nx)).1∧d=Gs k B ids nx S
variable {k : Nat} {B : NM → TB}
theorem qk (h:(B id).2.1.length=k:=by first | rfl | (simp;done) | (simp;split<;>rfl)):tM k (gV k B):=abA h
theorem rq {v:AV}(h:aq v=true:=by exact pv):tM 0 (RQ v):=BT h
section
variable {T : FT} {P : Program} {Q : gI → af → Prop} {s : St} {α β R : Type}
theorem Cm {S:af}:∀ {ids:List Nat} {os:List ai},tp S ids os→ids.length=os.length
 | [],[],_=>rfl
 | _::_,_::_,h=>by simp[Cm h.2]
 | [],_::_,h=>by simp[tp] at h
 | _::_,[],h=>by simp[tp] at h
theorem bc (h:∀ σ:NM,(B id).1.aw σ=(B σ).1∧(B id).2.1.map (Option.map (ai.aw σ))=(B σ).2.1∧(B id).2.2.map (ai.aw σ)=(B σ).2.2:=by
 intro σ;simp[kE,mQ,kF,kG,kH,kJ,jx,jw,AV.aw,dE,gC,kD,gq,fJ,kI,aq,aO,-List.map_append,-List.map_drop,-List.map_take,-List.map_set,-List.map_replicate])(b:(B id).2.1.length=k:=by rfl) :
 (∀ σ:NM,(B id).1.aw σ=(B σ).1∧(B id).2.1.map (Option.map (ai.aw σ))=(B σ).2.1∧(B id).2.2.map (ai.aw σ)=(B σ).2.2)∧(B id).2.1.length=k:=⟨h,b⟩
theorem kj (E:bL T P)(m:Nat){f:Nat}{C:NM→TC}(h:SX P (gV k B) (St.start T f (C id).1 (oL m (lY 0 (C id).2))))(i:(∀ σ:NM,(B id).1.aw σ=(B σ).1∧(B id).2.1.map (Option.map (ai.aw σ))=(B σ).2.1∧(B id).2.2.map (ai.aw σ)=(B σ).2.2)∧(B id).2.1.length=k:=by exact bc)(b:∀ σ:NM,dE σ (C id).1=(C σ).1∧(C id).2.map (ai.aw σ)=(C σ).2:=by
  intro σ;simp[kE,mQ,kF,kG,kH,kJ,jx,jw,AV.aw,dE,gC,kD,gq,fJ,kI,aq,aO,-List.map_append,-List.map_drop,-List.map_take,-List.map_set,-List.map_replicate])(j:m=(C id).2.length:=by rfl)(e:Nat.ble k (C id).2.length=true:=by kernel_rfl):gj P f k C B:=by
 intro S nx ids l
 obtain⟨h1,h2,h3,h4⟩:=l
 obtain⟨d,n⟩:=i
 subst h1
 subst j
 have g:ids.length=(C id).2.length:=by rw[Cm h4,←(b _).2,List.length_map]
 have o:=ed e
 exact LV E (List.replicate (ids.length-k) none) h n e (by simp) (by simp;omega) S ids h2 h3 h4 (b _).2 (b _).1 (d _).1 (by rw[(d _).2.1]) (d _).2.2
variable {a N : Nat} {c : St} {L : NM → TL}
theorem Gc (E:bL T P)(f:tM a Q)(n:Nat)(d:List (List Nat))(ids:List Nat)(b:List (Nat×Nat))(nx:Nat)(g:SX P Q (ng c N L))(i:mf (ab T P n s)=true:=by kernel_rfl)(h:qh d ids (ab T P n s)=iJ c (L (jR b N nx)).1 (oL nx (L (jR b N nx)).2):=by kernel_rfl)(j:(s8 b N nx [] []&&b.all (fun p=>Nat.ble a p.1)&&Nat.ble a N)=true:=by kernel_rfl)(l:vC (jR b N nx) c=true:=by kernel_rfl)(m:Nat.beq (L id).1.length (su c)=true:=by kernel_rfl)(o:ko (L (jR b N nx)).2=true:=by kernel_rfl)(e:∀ σ:NM,(L σ).1=(L id).1.map (gC σ)∧(L σ).2=rN σ (L id).2:=by
  intro σ;simp[rN,kE,mQ,kF,kG,kH,kJ,jx,jw,tT,kI,kD,gq,gC,AV.aw,dE,fJ,aq,aO,dO,qR,fC,-List.map_append,-List.map_drop,-List.map_take,-List.map_set,-List.map_replicate]):SX P Q s:=
 GP E f n d ids b N nx i h j l m o (e _).1 (e _).2 g
theorem ath (E:bL T P)(f:tM a Q)(n:Nat)(e:List (List Nat))(ids:List Nat)(b:List (Nat×Nat))(nx:Nat)(d:List (List (Nat×AV)))(l2:List (Nat×ai))(g:SX P Q (ng c N L))(i:mf (ab T P n s)=true:=by kernel_rfl)(h:qh e ids (ab T P n s)=iJ c d (oL nx l2):=by kernel_rfl)(j:(s8 b N nx [] []&&b.all (fun p=>Nat.ble a p.1)&&Nat.ble a N)=true:=by kernel_rfl)(l:vC (jR b N nx) c=true:=by kernel_rfl)(m:Nat.beq (L id).1.length (su c)=true:=by kernel_rfl)(o:ko l2=true:=by kernel_rfl)(q:d=(L id).1.map (gC (jR b N nx)):=by simp[gC,AV.aw,dE,fJ,aq,aO,rf,oc,-List.cons_append,-List.nil_append,-List.singleton_append,-List.map_append,-List.map_drop,-List.map_take,-List.map_set,-List.map_replicate]<;>omega)(r:l2=rN (jR b N nx) (L id).2:=by simp[rN,kE,mQ,kF,kG,kH,kJ,jx,jw,tT,kI,kD,gq,gC,AV.aw,dE,fJ,aq,aO,rf,oc,dO,qR,fC,-List.cons_append,-List.nil_append,-List.singleton_append,-List.map_append,-List.map_drop,-List.map_take,-List.map_set,-List.map_replicate]<;>omega):SX P Q s:=
 GP E f n e ids b N nx i h j l m o q r g
theorem NF (E:bL T P)(g:tM a Q)(n:Nat)(e:List (List Nat))(ids:List Nat)(b:List (Nat×Nat))(nx:Nat)(bs:List Nat)(i:SX P Q (ng c N L))(j:nR (ab T P n s)=true:=by kernel_rfl)(l:uf (ab T P n s)=some (nX P (uu (ab T P n s)) bs Q):=by kernel_rfl)(d:uf c=some (nX P (uu (ab T P n s)) bs Q):=by kernel_rfl)(h:qh e ids (ab T P n s)=iJ c (L (jR b N nx)).1 (oL nx (L (jR b N nx)).2):=by kernel_rfl)(m:(s8 b N nx [] []&&b.all (fun p=>Nat.ble a p.1)&&Nat.ble a N)=true:=by kernel_rfl)(o:uS (jR b N nx) c=true:=by kernel_rfl)(q:Nat.beq (L id).1.length (su c)=true:=by kernel_rfl)(r:ko (L (jR b N nx)).2=true:=by kernel_rfl)(f:∀ σ:NM,(L σ).1=(L id).1.map (gC σ)∧(L σ).2=rN σ (L id).2:=by
  intro σ;simp[rN,kE,mQ,kF,kG,kH,kJ,jx,jw,tT,kI,kD,gq,gC,AV.aw,dE,fJ,aq,aO,dO,qR,fC,-List.map_append,-List.map_drop,-List.map_take,-List.map_set,-List.map_replicate]):SX P Q s:=
 Da E g n e ids b N nx bs j l d h m o q r (f _).1 (f _).2 i
theorem ab0 (E:bL T P)(g:tM a Q)(n:Nat)(f:List (List Nat))(ids:List Nat)(b:List (Nat×Nat))(nx:Nat)(bs:List Nat)(d:List (List (Nat×AV)))(l2:List (Nat×ai))(i:SX P Q (ng c N L))(j:nR (ab T P n s)=true:=by kernel_rfl)(l:uf (ab T P n s)=some (nX P (uu (ab T P n s)) bs Q):=by kernel_rfl)(e:uf c=some (nX P (uu (ab T P n s)) bs Q):=by kernel_rfl)(h:qh f ids (ab T P n s)=iJ c d (oL nx l2):=by kernel_rfl)(m:(s8 b N nx [] []&&b.all (fun p=>Nat.ble a p.1)&&Nat.ble a N)=true:=by kernel_rfl)(o:uS (jR b N nx) c=true:=by kernel_rfl)(q:Nat.beq (L id).1.length (su c)=true:=by kernel_rfl)(r:ko l2=true:=by kernel_rfl)(t:d=(L id).1.map (gC (jR b N nx)):=by simp[gC,AV.aw,dE,fJ,aq,aO,rf,oc,-List.cons_append,-List.nil_append,-List.singleton_append,-List.map_append,-List.map_drop,-List.map_take,-List.map_set,-List.map_replicate]<;>omega)(u:l2=rN (jR b N nx) (L id).2:=by simp[rN,kE,mQ,kF,kG,kH,kJ,jx,jw,tT,kI,kD,gq,gC,AV.aw,dE,fJ,aq,aO,rf,oc,dO,qR,fC,-List.cons_append,-List.nil_append,-List.singleton_append,-List.map_append,-List.map_drop,-List.map_take,-List.map_set,-List.map_replicate]<;>omega):SX P Q s:=
 Da E g n f ids b N nx bs j l e h m o q r t u i
end
end Go.Eng

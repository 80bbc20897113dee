/- Runs on symbols: other names of objects, heads of loops, results in memory; no conditions. -/
import Derived.Test.YthplmmeobggkfaaGreatVEngD
set_option linter.all false
namespace Go.Eng
noncomputable section
def ae8 (T:FT)(P:Program)(s:St):Option (Nat×List AV×ag):=
 match s with
 | .fS D _=>match D.os with
   | o::_=>match gJ o.op,tf D.F D.ops o,hidden (ax D.dr o.after.toList) D.km,CZ (ax D.dr o.after.toList) D.es with
     | some c,some true,some bE,true=>match rY T D.F c P with
       | some (g,_,args)=>some (g,args,⟨D.S.nx,D.S.lim,js D.S.m bE⟩)
       | none=>none
     | _,_,_,_=>none
   | []=>none
 | _=>none
def Ud (v:AV)(a:ag)(s:St):St:=
 match s with
 | .fS D k=>match D.os with
   | o::os=>match hidden (ax D.dr o.after.toList) D.km with
     | some bE=>.fS (D.jN o os ⟨D.S.nx,D.S.lim,js D.S.m bE⟩ (ax D.dr o.after.toList) (.wide bE) v a) k
     | none=>.bad 5
   | []=>.bad 5
 | _=>.bad 5
section
variable {T : FT} {P : Program} {Qf : gQ → ag → Prop}
variable {s : St}
theorem Sj (y:dh T P)(j:P.follows .mixedOrders=true)(n:Nat)(g:Nat)(args:List AV)(E:ag)(v:AV)(p:ag)(h:ae8 T P (ab T P n s)=some (g,args,E))(B:fU P g args E fun r S=>r=.ret v∧S=p)(q:br P Qf (Ud v p (ab T P n s))):br P Qf s:=by
 refine cL y j n ?_
 generalize ab T P n s=s at h q
 cases s with
 | fS D k=>
   simp only[ae8,Ud] at h q
   cases a:D.os with
   | nil=>grind
   | cons o os=>
     rw[a] at h q
     simp only at h q
     split at h<;>try (simp at h;done)
     rename_i c bE b C hh u
     split at h<;>simp only[bj,nj,reduceCtorEq] at h
     rename_i G
     obtain⟨rfl,rfl,rfl⟩:=h
     rw[hh] at q
     simp only at q
     obtain⟨L,ha⟩:=kL y b G
     have w:=fy b
     refine fC.mono (fun Q q=>?_) q
     refine qF.step q a (Ao ..) (fun R S0 E0 M v0 ch A H I=>?_)
     have d:nV P D.ops o D.F.get ⟨D.S.nx,D.S.lim,js D.S.m bE⟩ v p:=nV.call C w (ha _) B
     obtain⟨_,N,O⟩:=A.bE hh
     have J:∀ id ob,(⟨D.S.nx,D.S.lim,js D.S.m bE⟩:ag).get id=some ob→id∉bE∧D.S.get id=some ob:=by
      grind
     have K:=I _ _ _ d rfl fun id ob e=>(J id ob e).2
     rw[ID]
     exact A.wide H a hh u d K
 | _=>simp[ae8] at h
end
def ZT (T:FT)(P:Program)(s:St):Option (Nat×List AV):=
 match s with
 | .fS D k=>match ae8 T P (.fS D k) with
   | some (g,args,_)=>some (g,args)
   | none=>none
 | .run fn F S k=>I7 T P (.run fn F S k)
 | _=>none
def NZ (s:St):ag:=
 match s with
 | .fS D _=>match D.os with
   | o::_=>match hidden (ax D.dr o.after.toList) D.km with
     | some bE=>⟨D.S.nx,D.S.lim,js D.S.m bE⟩
     | none=>ag.empty
   | []=>ag.empty
 | s=>jY s
def EV (v:AV)(r:ag→ag)(s:St):St:=
 match s with
 | .fS D k=>Ud v (r (NZ (.fS D k))) (.fS D k)
 | .run fn F S k=>N6 v r (.run fn F S k)
 | _=>.bad 5
section
variable {T : FT} {P : Program} {Q : gQ → ag → Prop}
variable {s : St}
theorem YD (E:cU T P)(n:Nat)(g:Nat)(args:List AV)(v:AV)(r:ag→ag)(h:ZT T P (ab T P n s)=some (g,args))(b:fU P g args (NZ (ab T P n s)) fun x c=>x=.ret v∧c=r (NZ (ab T P n s)))(q:SX P Q (EV v r (ab T P n s))):SX P Q s:=by
 refine⟨cL E.ok E.mix n ?_⟩
 generalize ab T P n s=s at h b q
 have q:=q.out
 cases s with
 | run fn F S k=>exact FF E.ok E.mix 0 g args S v _ h rfl ⟨fn,F,S,k,rfl⟩ b q
 | fS D k=>
   simp only[ZT] at h
   cases d:ae8 T P (.fS D k) with
   | none=>grind
   | some p=>
     obtain⟨g', a,e⟩:=p
     rw[d] at h
     simp only[bj,nj] at h
     obtain⟨rfl,rfl⟩:=h
     have j:e=NZ (.fS D k):=by
      grind[ae8,NZ]
     subst j
     exact Sj E.ok E.mix 0 g' a _ v _ d b q
 | _=>simp[ZT] at h
end
def W5 (v:AV)(r:ag→ag)(s:St):St:=
 match s with
 | .run fn F S k=>match F.todo with
   | .ops all (i::rest)::td=>match N4 all i with
     | some o=>.run fn (Ly F o all rest td (.wI [(v,false)])) (r S) k
     | none=>.bad 60
   | _=>.bad 60
 | _=>.bad 60
section
variable {T : FT} {P : Program} {Q : gQ → ag → Prop}
variable {s : St}
theorem YE (E:cU T P)(n:Nat)(g:Nat)(args:List AV)(v:AV)(r:ag→ag)(h:I7 T P (ab T P n s)=some (g,args))(j:C2 (ab T P n s)=true)(e:fU P g args (jY (ab T P n s)) fun x a=>x=Ra false v∧a=r (jY (ab T P n s)))(q:SX P Q (W5 v r (ab T P n s))):SX P Q s:=by
 refine⟨cL E.ok E.mix n ?_⟩
 generalize ab T P n s=s at h j e q
 have q:=q.out
 cases s with
 | run fn F S k=>
   have e:fU P g args S fun x a=>x=Ra false v∧a=r S:=e
   unfold I7 at h
   cases m:dG (.run fn F S k) with
   | none=>grind
   | some o=>
     rw[m] at h
     simp only at h
     obtain⟨u,all,i,rest,td,p,d,w⟩:=pD m
     cases b:gJ o.op with
     | none=>grind
     | some c=>
       rw[b] at h
       simp only at h
       split at h<;>simp only[bj,nj,reduceCtorEq] at h
       rename_i y
       obtain⟨rfl,rfl⟩:=h
       obtain⟨B,q2⟩:=kL E.ok b y
       simp only[W5,p,tp,d,AH] at q
       refine br.reach (fun G q=>Reach.xU u p d w (fy b) (q2 S) e fun C a A=>?_) q
       grind
 | _=>simp[C2] at j
end
variable {α β : Type}
def cg (f:α→AV)(g:β→AV)(p:α×β):AV×AV:=(f p.1,g p.2)
def iO {β:Type}:List (Int×β)→Int→Option β
 | [],_=>none
 | (a,b)::r,k=>if k=a then some b else iO r k
def ko {β:Type}:List (Int×β)→Int→β→List (Int×β)
 | [],k,v=>[(k,v)]
 | (a,b)::r,k,v=>if k=a then(k,v)::r else(a,b)::ko r k v
variable {f : α → AV} {g : β → AV}
theorem IM (hf:∀ x,aV (f x)=true)(a:∀ x,aV (g x)=true)(l:List (α×β)):Qm (l.map (cg f g))=true:=by
 simp[Qm,cg,hf,a]
variable {k : IntKind}
theorem L3 (x:Int):∀(l:List (Int×β)) (i:Nat),∃ r,uc (.int k) (.sc (.int k x)) (l.map (cg (az k) g)) i=some r∧(match r with
   | some (j,v)=>∃ b,iO l x=some b∧v=g b∧i≤j∧∀ y:β,(l.map (cg (az k) g)).set (j-i) (.sc (.int k x),g y)=(ko l x y).map (cg (az k) g)
   | none=>iO l x=none∧∀ y:β,l.map (cg (az k) g)++[(.sc (.int k x),g y)]=(ko l x y).map (cg (az k) g)):=by
 intro l
 induction l with
 | nil=>intro i;exact⟨none,rfl,rfl,fun y=>rfl⟩
 | cons p l d=>
   obtain⟨a,b⟩:=p
   intro i
   simp only[dF,cg,uc,az,Zg,if_true]
   by_cases e:x=a
   · subst e
     simp only[beq_self_eq_true]
     refine⟨_,rfl,b,by simp[iO],rfl,bG _,fun y=>by simp[ko,cg,az]⟩
   · have h:(x==a)=false:=by simpa using e
     simp only[h]
     obtain⟨r,m,q2⟩:=d (i+1)
     refine⟨r,m,?_⟩
     cases r with
     | none=>
       refine⟨by simp[iO,e,q2.1],fun y=>?_⟩
       have:=q2.2 y
       simp only[ko,if_neg e,dF,cg,az,B4,this]
     | some o=>
       obtain⟨j,v⟩:=o
       obtain⟨c,h1,h2,h3,h4⟩:=q2
       refine⟨c,by simp[iO,e,h1],h2,by omega,fun y=>?_⟩
       have:=h4 y
       rw[show j-i=(j-(i+1))+1 from by omega]
       simp only[List.set_cons_succ,ko,if_neg e,dF,cg,az,this]
def Rb (P:Program)(S:ag)(t:TypeId)(m k:AV)(ok:Bool):Option de:=mM S (sx P S t m k ok)
def C4 (P:Program)(t:TypeId):Option (IntKind×AV):=
 match P.underlying t with
 | some (.map a b)=>match P.underlying a,iW P b with
   | some (.int k),some z=>some (k,z)
   | _,_=>none
 | _=>none
variable {P : Program} {z : AV}
theorem F9 {t:TypeId}(h:C4 P t=some (k,z)):∃ a b,P.underlying t=some (.map a b)∧P.underlying a=some (.int k)∧iW P b=some z:=by
 unfold C4 at h
 grind
section
variable {P : Program} {β : Type} {g : β → AV} {S : ag} {t id : Nat} {k : IntKind} {l : List (Int × β)} {x : Int}
theorem Ow {z0:β}(a:C4 P t=some (k,g z0))(c:S.get id=some (.mp (l.map (cg (az k) g)))):Rb P S t (.cQ id) (.sc (.int k x)) false=some (.val (g ((iO l x).getD z0)) S):=by
 obtain⟨m,o,h1,h2,h3⟩:=F9 a
 obtain⟨r,d,q2⟩:=L3 (g:=g) (k:=k) x l 0
 simp only[Rb,sx,h1,h2,c,rk,d,h3]
 cases r with
 | none=>simp only[q2.1,Option.getD_none,mM]
 | some e=>
   obtain⟨j,v⟩:=e
   obtain⟨b,h,rfl,_⟩:=q2
   simp only[h,vv,mM]
def SS (P:Program)(S:ag)(t:TypeId)(m k v:AV):Option de:=NQ (n9 P S t m k v)
theorem Jy {y:β}(a:C4 P t=some (k,z))(c:S.get id=some (.mp (l.map (cg (az k) g))))(d:Nat.ble S.lim id=true):SS P S t (.cQ id) (.sc (.int k x)) (g y)=some (.skip (S.set id (.mp ((ko l x y).map (cg (az k) g))))):=by
 obtain⟨m,o,h1,h2,_⟩:=F9 a
 obtain⟨r,e,q2⟩:=L3 (g:=g) (k:=k) x l 0
 simp only[SS,n9,h1,h2,c,rk,d,j6,e]
 cases r with
 | none=>simp only[q2.2 y,NQ]
 | some h=>
   obtain⟨j,v⟩:=h
   obtain⟨b,p,_,_,a2⟩:=q2
   have:=a2 y
   rw[Nat.sub_zero] at this
   simp only[this,NQ]
end
theorem Wk.take {S:ag}{v:AV}{id sz n:Nat}{es:List AV}(d:S.get id=some (.arr sz es))(u:S.lim≤id):Wk v v S (S.set id (.arr sz (es.take n))):=by
 refine⟨fun _ _ h=>h,rfl,rfl,fun k o2 e=>?_,fun k w=>?_⟩
 · by_cases b:k=id
   · subst b
     rw[ag.cO (vi _)] at e
     simp only[bj] at e;subst e
     refine⟨_,d,fun g l x h=>?_⟩
     obtain⟨c,t,h1,h2,h3,h4,m,A⟩:=h
     refine⟨c,t,h1,h2,h3,?_,fun e o=>m e (vu o),fun i j e a y p q r=>?_⟩
     · have:(es.take n).length*sz≤es.length*sz:=yp _ (by simp;omega)
       omega
     all_goals grind
   · rw[ag.bt (vi _) b] at e
     grind
 · rw[ag.bt (vi _) (by omega)]
section
variable {P : Program} {α : Type} {enc : α → AV}
end
def EW : Code→List (Array Tmp×Code×Code)
 | .rangeFunc _ c a b=>(c,a,b)::(EW a++EW b)
 | .seq a b=>EW a++EW b
 | .cond _ a b=>EW a++EW b
 | .block _ b=>EW b
 | .loop b=>EW b
 | .scope b=>EW b
 | _=>[]
def qU (P:Program)(st:LoopState)(f i n mask:Nat)(env:List (Nat×AV)):aL:=
 match P.funcs[f]? with
 | some fn=>match fn.body with
   | some c=>match (EW c)[i]? with
     | some (d,a,b)=>.lp st none f n mask env d.toList a b
     | none=>.mz
   | none=>.mz
 | none=>.mz
variable {σ : Nat → Nat} {st : LoopState} {i n mask : Nat} {env : List (Nat × AV)}
theorem sD {f:Nat}:(qU P st f i n mask env).aY σ=qU P st f i n mask (jt σ env):=by
 unfold qU
 split<;>try rfl
 split<;>try rfl
 split<;>rfl
def agu : aL→Bool
 | .lp .. => true
 | _=>false
variable {S : ag} {kp : List Nat}
theorem YF {f:Nat}{a:List (Nat×AV)}(h:∀ t v', lk a t=some v' → ∃ v,lk env t=some v∧lJ S kp v v')(b:agu (qU P st f i n mask [])=true):tT S kp (qU P st f i n mask env) (qU P st f i n mask a):=by
 have d:qU P st f i n mask [] ≠ .mz:=by grind[agu]
 clear b
 unfold qU at *
 cases h1:P.funcs[f]? with
 | none=>grind
 | some fn=>
   simp only[h1] at d ⊢
   cases h2:fn.body with
   | none=>grind
   | some c=>
     simp only[h2] at d ⊢
     cases h3:(EW c)[i]? with
     | none=>grind
     | some p=>exact .lp h
inductive Zk (S : ag) (kp : List Nat) : List (Nat × AV) → List (Nat × AV) → Prop
 | nil : Zk S kp [] []
 | cons {t : Nat} {v v' : AV} {l l' : List (Nat × AV)} (h : lJ S kp v v') (r : Zk S kp l l') : Zk S kp ((t, v) :: l) ((t, v') :: l')
theorem Zk.spec {l l' : List (Nat×AV)}(h:Zk S kp l l'):∀ t v', lk l' t=some v' → ∃ v,lk l t=some v∧lJ S kp v v' := by
 induction h with
 | nil=>grind[qX]
 | @cons k v v' l l' h r a=>
   intro t u e
   rw[gT] at e ⊢
   grind
theorem L4 (hf:∀ x,aV (f x)=true)(a:∀ x,aV (g x)=true)(l:List (α×β)):(l.map (cg f g)).map (fun p=>(p.1.aY σ,p.2.aY σ))=l.map (cg f g):=by
 rw[List.map_map]
 refine List.map_congr_left fun p _=>?_
 simp only[Function.comp,cg,AV.dO (hf p.1),AV.dO (a p.2)]
theorem sH (sz:Nat)(es:List AV):(aL.arr sz es).aY σ=.arr sz (eB σ es):=rfl
theorem vD (b:Bool):(aL.df b).aY σ=.df b:=rfl
theorem YG (l:List (AV×AV)):(aL.mp l).aY σ=.mp (l.map fun p=>(p.1.aY σ,p.2.aY σ)):=rfl
theorem yh (hf:∀ x,aV (f x)=true)(a:∀ x,aV (g x)=true)(l:List (α×β)):(aL.mp (l.map (cg f g))).aY σ=.mp (l.map (cg f g)):=by
 simp only[aL.aY,L4 hf a]
theorem sJ {a:IntKind}(l:List (Int×Int)):(aL.mp (l.map (cg (az k) (az a)))).aY σ=.mp (l.map (cg (az k) (az a))):=yh (by simp) (by simp) l
theorem sU (l:List (Int×Bool)):(aL.mp (l.map (cg (az k) gv))).aY σ=.mp (l.map (cg (az k) gv)):=yh (by simp) (by simp) l
theorem px : (aL.mp []).aY σ=.mp []:=rfl
def C5 (keys:List Nat):List (Nat×AV)→List (Nat×AV)
 | []=>[]
 | (t,v)::r=>match keys.contains t with
   | true=>(t,v)::C5 keys r
   | false=>C5 keys r
variable {keys : List Nat}
theorem VN : ∀ {l:List (Nat×AV)} {t:Nat} {v:AV},lk (C5 keys l) t=some v→lk l t=some v:=by
 intro l
 induction l with
 | nil=>intro t v h;exact h
 | cons p r e=>
   obtain⟨k,u⟩:=p
   intro t v h
   simp only[C5] at h
   rw[gT]
   cases d:keys.contains k with
   | true=>
     rw[d] at h
     simp only at h
     rw[gT] at h
     grind
   | false=>
     rw[d] at h
     simp only at h
     cases hb:Nat.beq k t with
     | true=>
       exfalso
       have c:k=t:=oR hb
       subst c
       have:∀ {l:List (Nat×AV)} {v:AV},lk (C5 keys l) k=some v→keys.contains k=true:=by
        intro l
        induction l with
        | nil=>grind[C5,qX]
        | cons q r j=>
          obtain⟨a,b⟩:=q
          intro v h
          simp only[C5] at h
          cases ha:keys.contains a with
          | true=>
            rw[ha] at h
            simp only at h
            rw[gT] at h
            cases m:Nat.beq a k<;>simp_all
          | false=>grind
       grind
     | false=>exact e h
def Fv (keys:List Nat):aL→aL
 | .lp st p f n m env c a b=>.lp st p f n m (C5 keys env) c a b
 | o=>o
theorem IN {o:aL}{g:Gh}{l:Loc}{x:Option Obj}(h:wH g l x o):wH g l x (Fv keys o):=by
 cases o with
 | lp st p f n m env u a b=>
   obtain⟨lo,h1,h2,h3,h4,c,d,j,q,r⟩:=h
   exact⟨lo,h1,h2,h3,h4,c,fun t v e=>d t v (VN e),j,q,r⟩
 | _=>exact h
def prune (id:Nat)(keys:List Nat)(s:St):St:=
 match s with
 | .run fn F S k=>match S.get id with
   | some o=>.run fn F (S.set id (Fv keys o)) k
   | none=>.run fn F S k
 | s=>s
section
variable {T : FT} {P : Program} {Q : gQ → ag → Prop}
variable {s : St}
theorem Ax (E:cU T P)(n:Nat)(id:Nat)(keys:List Nat)(d:Nat.ble (jY (ab T P n s)).lim id=true)(q:SX P Q (prune id keys (ab T P n s))):SX P Q s:=by
 refine⟨cL E.ok E.mix n ?_⟩
 generalize ab T P n s=s at d q
 have q:=q.out
 cases s with
 | run fn F S k=>
   simp only[prune] at q
   cases j:S.get id with
   | none=>grind
   | some o=>
     rw[j] at q
     have d:S.lim≤id:=gw d
     refine br.reach (fun G m=>Reach.DG m rfl rfl rfl rfl fun g w fr cs hf hi=>⟨fr,w,g,hf,?_,?_,Steps.refl _ _⟩) q
     · have back:∀ k o2,(S.set id (Fv keys o)).get k=some o2→∃ o1,S.get k=some o1∧∀ g l x,wH g l x o1→wH g l x o2:=by
         intro k o2 e
         by_cases c:k=id
         · subst c
           rw[ag.cO (vi _)] at e
           grind[IN]
         · rw[ag.bt (vi _) c] at e
           grind
       refine⟨hi.ro,fun k o2 e=>?_,fun a b o1 o2 l l' e r p u hb=>?_,hi.fresh⟩
       · obtain⟨o1,h,q2⟩:=back k o2 e
         obtain⟨l,x,y,z⟩:=hi.ob k o1 h
         grind
       · obtain⟨A,h,_⟩:=back a o1 e
         obtain⟨B,q2,_⟩:=back b o2 r
         exact hi.inj a b A B l l' h q2 p u hb
     · refine⟨bG _,rfl,⟨rfl,bG _⟩,rfl,fun _ _ _=>rfl,fun k o2 l e C D _=>?_,Gh.le_refl _,bG _,rfl,fun k c=>ag.bt (vi _) (by omega),fun _ _=>rfl,fun _ _ e _=>.inl e,fun k c e=>?_,fun _ _=>rfl⟩
       · by_cases c:k=id
         · grind
         · rw[ag.bt (vi _) c] at e;grind
       · have c:k≠id:=by rintro rfl;rw[j] at e;simp at e
         rw[ag.bt (vi _) c];exact e
 | _=>exact q
end
inductive BM (S : ag) : AV → AV → Prop
 | top {v : AV} : BM S v .top
 | pure {v : AV} (h : aV v = true) : BM S v v
 | an : BM S .an (.lit [])
 | ft : BM S .ft (.lit [])
 | ai {id len sz : Nat} {es es' : List AV} (hg : S.get id = some (.arr sz es)) (hl : len = es.length) (hs : es'.length = es.length)
  (hc : ∀ (i : Nat) (e e' : AV), es[i]? = some e → es'[i]? = some e' → e'.cells.length = e.cells.length)
  (h : ∀ (i j : Nat) (e e' a a' : AV), es[i]? = some e → es'[i]? = some e' → e.cells[j]? = some a → e'.cells[j]? = some a' → BM S a a') : BM S (.ai id 0 len) (.lit es')
 | ptr {id sz : Nat} {e : AV} {cs' : List AV} (hg : S.get id = some (.arr sz [e])) (hl : cs'.length = e.cells.length) (h : ∀ (k : Nat) (a a' : AV), e.cells[k]? = some a → cs'[k]? = some a' → BM S a a') : BM S (.ptr id 0 0) (.dN cs')
 | agg {cs cs' : List AV} (hl : cs'.length = cs.length) (h : ∀ (k : Nat) (a a' : AV), cs[k]? = some a → cs'[k]? = some a' → BM S a a') : BM S (.agg cs) (.agg cs')
 | bO {cs cs' : List AV} (hl : cs'.length = cs.length) (h : ∀ (k : Nat) (a a' : AV), cs[k]? = some a → cs'[k]? = some a' → BM S a a') : BM S (.bO cs) (.bO cs')
inductive uF (S : ag) : List AV → List AV → Prop
 | nil : uF S [] []
 | cons {e e' : AV} {l l' : List AV} (h : BM S e e') (t : uF S l l') : uF S (e :: l) (e' :: l')
variable {l l' : List AV}
theorem uF.spec (h:uF S l l'):l'.length=l.length∧∀(i:Nat) (e a:AV),l[i]? = some e→l'[i]? = some a→BM S e a:=by
 induction h<;>grind
theorem BM.agr (h:uF S l l'):BM S (.bO l) (.bO l'):=.bO h.spec.1 h.spec.2
theorem BM.aai (h:uF S l l'):BM S (.agg l) (.agg l'):=.agg h.spec.1 h.spec.2
theorem BM.lN {id len sz:Nat}{es:List AV}(b:S.get id=some (.arr sz es))(c:len=es.length)(d:cF es=true):BM S (.ai id 0 len) (.lit es):=
 .ai b c rfl (fun i e h p q=>by grind) (fun i j e h a m p q r s=>by
  rw[p] at q;simp only[bj] at q;subst q
  rw[r] at s;simp only[bj] at s;subst s
  exact .pure (kx (fN d p) r))
variable {v : AV}
theorem BM.sound {g I:Gh}{w:World}(hi:Inv S g w)(J:Gh.frozen S g w I){v' : AV}(h:BM S v v'):∀ {x:Value},VR g v x→VR I v' x:=by
 induction h with
 | pure h=>intro x o;exact o.mono J.1
 | top=>intro x _;exact .top
 | an=>intro x o;cases o;exact .jV
 | ft=>intro x o;cases o;exact .jV
 | ai m q hs O h y=>
   intro x o
   cases o with
   | ai E V hb=>
     rename_i l
     obtain⟨l', A,q2,q3⟩:=hi.ob _ _ m
     rw[E] at A;simp only[bj] at A;subst A
     obtain⟨c,t,K,W,H,R,L,M⟩:=q3
     have B:=J.2.2 _ _ l c t (0,0) m E K
     rename_i es F cap
     subst q
     rw[←hs]
     have:VR I (.lit F) (.slice (some ⟨l.cZ,l.base+0*l.sz,none⟩) F.length cap):=by
      refine .lit (sz:=l.sz) B (fun e X=>?_) (by rw[hs,H];omega) (by grind) (fun i j e a x p u Y=>?_)
      · obtain⟨k,U⟩:=hU X
        have d:k<es.length:=by rw[←hs];exact(mC.1 U).1
        have b:es[k]? = some es[k]:=qB d
        rw[O k _ e b U,H]
        exact L _ (cM d)
      · have d:i<es.length:=by rw[←hs];exact(mC.1 p).1
        have b:es[i]? = some es[i]:=qB d
        have C:j<es[i].cells.length:=by rw[←O i _ e b p];exact(mC.1 u).1
        have r:es[i].cells[j]? = some es[i].cells[j]:=qB C
        exact y i j _ e _ a b p r u (M i j _ _ x b r (by rw[←H,←Y];congr 1;omega))
     exact this
   | hM=>
     obtain rfl:=B7.1 (hs.trans q.symm)
     exact .jV
 | @ptr id sz e G m q h y=>
   intro x o
   cases o with
   | ptr E=>
     rename_i l
     obtain⟨l', A,q2,q3⟩:=hi.ob _ _ m
     rw[E] at A;simp only[bj] at A;subst A
     obtain⟨c,t,K,W,H,R,L,M⟩:=q3
     have B:=J.2.2 _ _ l c t (0,0) m E K
     have N:e.cells.length=sz:=L e (jU ..)
     refine .dN B (by rw[q,N];simp at R;omega) fun j a x p u=>?_
     have C:j<e.cells.length:=by rw[←q];exact(mC.1 p).1
     have r:e.cells[j]? = some e.cells[j]:=qB C
     exact y j _ a r p (M 0 j e _ x rfl r (by rw[←u];congr 1;omega))
 | agg q h y=>
   intro x o
   cases o with
   | agg D hh=>
     refine .agg (by rw[q];exact D) fun k a x p u=>?_
     rename_i cs G xs
     have d:k<cs.length:=by rw[←q];exact(mC.1 p).1
     have b:cs[k]? = some cs[k]:=qB d
     exact y k _ a b p (hh k _ x b u)
 | bO q h y=>
   intro x o
   cases o with
   | bO D hh=>
     refine .bO (by rw[q];exact D) fun k a x p u=>?_
     rename_i cs G xs
     have d:k<cs.length:=by rw[←q];exact(mC.1 p).1
     have b:cs[k]? = some cs[k]:=qB d
     exact y k _ a b p (hh k _ x b u)
theorem fU.ajB {f:FuncId}{args d:List AV}(hf:∀(g A:Gh) (w:World),Inv S g w→Gh.frozen S g w A→∀ x,VR g (.bO args) x→VR A (.bO d) x)(ha:cF d=true)(W:wi v=true)(h:fU P f d ag.empty fun r _=>r=.ret v) :
   fU P f args S fun r R=>r=.ret v∧R=S:=by
 intro g w xs hx hi
 have E:=Gh.jT hi
 obtain⟨I,F⟩:∃ k:Gh,k=g.freeze S w:=⟨_,rfl⟩
 rw[←F] at E
 have K:=hf _ _ _ hi E (.tuple xs) (.bO hx.1 hx.2)
 cases K with | bO h1 h2=>?_
 have D:∀ b c,I.ro b=some c→∃ t fz,w.heap[b]? = some (.cells c t fz):=by
   intro b c e
   subst F
   simp only[Gh.freeze] at e
   split at e
   · rename_i X Y;simp only[bj] at e;subst e;exact hi.ro _ _ Y
   · split at e
     · rename_i X t fz hh
       split at e<;>simp only[bj,reduceCtorEq] at e
       subst e;exact⟨t,fz,hh⟩
     · simp at e
 have L:Inv ag.empty I.bare w:=⟨D,fun id o e=>by rw[ag.fM] at e;simp at e,fun id G o o' l l' e=>by rw[ag.fM] at e;simp at e,fun _ _=>rfl⟩
 have M:hJ I.bare d xs:=⟨h1,fun k a x e J=>(h2 k a x e J).bare (fN ha e)⟩
 refine(h I.bare w xs M L).mono fun e w' ⟨r,R,g', Z,u,N,m⟩=>?_
 subst Z
 obtain⟨A,y⟩:∃ k:Gh,k={ ro:=fun b=>if b<w.heap.size then g.ro b else g'.ro b,ph:=g.ph }:=⟨_,rfl⟩
 have DA:∀ b,b<w.heap.size→A.ro b=g.ro b:=fun b hb=>by subst y;simp[hb]
 have O:∀ b,¬ b<w.heap.size→A.ro b=g'.ro b:=fun b hb=>by subst y;simp[hb]
 have j:∀ b,b<w.heap.size→w'.heap[b]? = w.heap[b]? := fun b hb=>m.jW b hb fun id o l e=>by rw[ag.fM] at e;simp at e
 have H:∀ b c,g.ro b=some c→b<w.heap.size:=by
   intro b c e
   obtain⟨t,fz,q⟩:=hi.ro b c e
   exact(BG.1 q).1
 have B:Gh.le g A:=⟨fun b c e=>by rw[DA b (H b c e)];exact e,fun _ _ e=>by subst y;exact e⟩
 have C:A.ph=g.ph:=by subst y;rfl
 refine⟨.ret v,S,A,⟨rfl,rfl⟩,?_,⟨?_,?_,?_,?_⟩,⟨m.size,m.os,m.tape,m.output,fun b hb _=>j b hb,?_,B,bG _,rfl,fun _ _=>rfl,?_,?_,?_,m.fz⟩⟩
 · cases e with
   | returned x=>exact VR.flat u W
   | panicked c=>exact u.elim
   | outgrown=>exact u.elim
 · intro b c e
   by_cases hb:b<w.heap.size
   · rw[DA b hb] at e
     rw[j b hb];exact hi.ro b c e
   · rw[O b hb] at e;exact N.ro b c e
 · intro id o e
   obtain⟨l,a,b,c⟩:=hi.ob id o e
   refine⟨l,B.ph _ _ a,?_,?_⟩
   · rw[DA _ c.lt];exact b
   · rw[j _ c.lt];exact c.mono B
 · intro id G o o' l l' e J p U hb
   rw[C] at p U
   exact hi.inj id G o o' l l' e J p U hb
 · intro id bE;rw[C];exact hi.fresh id bE
 · intro id o l e e1 V e3
   rw[C] at V
   exact⟨id,o,l,e,e1,V,rfl⟩
 all_goals grind
def ZU (T:FT)(P:Program)(s:St):Option (Nat×List AV):=
 match s with
 | .fS D k=>match S9 T P (.fS D k) with
   | some (g,args,_)=>some (g,args)
   | none=>none
 | .run fn F S k=>I7 T P (.run fn F S k)
 | _=>none
def Rc (s:St):ag:=
 match s with
 | .fS D _=>match D.os with
   | o::_=>match hidden (ax D.dr o.after.toList) D.km with
     | some bE=>⟨D.S.nx,D.S.nx,js D.S.m bE⟩
     | none=>ag.empty
   | []=>ag.empty
 | s=>jY s
def agv (v:AV)(s:St):St:=
 match s with
 | .fS D k=>Ua v (Rc (.fS D k)) (.fS D k)
 | .run fn F S k=>N6 v (fun S=>S) (.run fn F S k)
 | _=>.bad 5
section
variable {T : FT} {P : Program} {Q : gQ → ag → Prop}
variable {s : St}
theorem EG (E:cU T P)(n:Nat)(g:Nat)(args a:List AV)(v:AV)(h:ZU T P (ab T P n s)=some (g,args))(hf:uF (Rc (ab T P n s)) args a)(ha:cF a=true)(j:wi v=true)(b:∀ S,fU P g a S fun r c=>r=.ret v∧c=S)(q:SX P Q (agv v (ab T P n s))):SX P Q s:=by
 refine⟨cL E.ok E.mix n ?_⟩
 have b:fU P g args (Rc (ab T P n s)) fun r c=>r=.ret v∧c=Rc (ab T P n s):=
   fU.ajB (fun g y w hi m x hx=>(BM.agr hf).sound hi m hx) ha j ((b ag.empty).mono fun r c e=>e.1)
 generalize ab T P n s=s at h b q
 have q:=q.out
 cases s with
 | run fn F S k=>exact FF E.ok E.mix 0 g args S v _ h rfl ⟨fn,F,S,k,rfl⟩ b q
 | fS D k=>
   simp only[ZU] at h
   cases d:S9 T P (.fS D k) with
   | none=>grind
   | some p=>
     obtain⟨g', a,o⟩:=p
     rw[d] at h
     simp only[bj,nj] at h
     obtain⟨rfl,rfl⟩:=h
     have u:o=Rc (.fS D k):=by
      grind[S9,Rc]
     subst u
     exact VG E.ok E.mix 0 g' a _ v _ d b q
 | _=>simp[ZU] at h
end
end
end Go.Eng
namespace Go.Eng
noncomputable section
inductive F1 (r : Nat) (es : List AV) : AV → AV → Prop
 | refl {v : AV} : F1 r es v v
 | ai {len : Nat} (hl : len = es.length) : F1 r es (.ai r 0 len) (.lit es)
 | agg {cs cs' : List AV} (hl : cs'.length = cs.length) (h : ∀ (k : Nat) (a a' : AV), cs[k]? = some a → cs'[k]? = some a' → F1 r es a a') : F1 r es (.agg cs) (.agg cs')
inductive WG (r : Nat) (es : List AV) : List AV → List AV → Prop
 | nil : WG r es [] []
 | cons {e e' : AV} {l l' : List AV} (h : F1 r es e e') (t : WG r es l l') : WG r es (e :: l) (e' :: l')
 | same {l : List AV} : WG r es l l
variable {r : Nat} {es l l' : List AV}
theorem WG.spec (h:WG r es l l'):l'.length=l.length∧∀(i:Nat) (e a:AV),l[i]? = some e→l'[i]? = some a→F1 r es e a:=by
 induction h with
 | nil=>exact⟨rfl,fun i e a h=>by simp at h⟩
 | same=>exact⟨rfl,fun i e a h b=>by rw[h] at b;simp only[bj] at b;subst b;exact .refl⟩
 | cons h t f=>
   refine⟨by simp[f.1],fun i e a c d=>?_⟩
   cases i with
   | zero=>simp at c d;subst c;subst d;exact h
   | succ i=>exact f.2 i e a (by simpa using c) (by simpa using d)
theorem F1.aai (h:WG r es l l'):F1 r es (.agg l) (.agg l'):=.agg h.spec.1 h.spec.2
theorem F1.cells {r:Nat}{es:List AV}{e d:AV}(h:F1 r es e d):d.cells.length=e.cells.length∧∀(j:Nat) (a c:AV),e.cells[j]? = some a→d.cells[j]? = some c→F1 r es a c:=by
 cases h with
 | refl=>exact⟨rfl,fun j a c h b=>by rw[h] at b;simp only[bj] at b;subst b;exact .refl⟩
 | ai f=>
   refine⟨rfl,fun j a c h b=>?_⟩
   cases j with
   | zero=>simp[AV.cells] at h b;subst h;subst b;exact .ai f
   | succ j=>simp[AV.cells] at h
 | agg f h=>exact⟨f,h⟩
theorem F1.sound {g u:Gh}{l:Loc}{c:Array Value}{sz:Nat}(d:Gh.le g u)(A:g.ph r=some l)(B:u.ro l.cZ=some c)(f:l.sz=sz)(h4:l.base+es.length*sz≤c.size)(F:∀ e,e∈es→e.cells.length=sz)(G:∀(i j:Nat) (e a:AV) (y:Value),es[i]? = some e→e.cells[j]? = some a→c[l.base+i*sz+j]? = some y→VR g a y){v v' : AV}(h:F1 r es v v'):∀ {x:Value},VR g v x→VR u v' x:=by
 induction h with
 | refl=>intro x b;exact b.mono d
 | ai s=>
   intro x b
   subst s
   generalize E:es.length=n at b
   cases b with
   | ai w q hb=>
     rw[A] at w;simp only[bj] at w;subst w
     subst E
     refine .lit (sz:=sz) B F (by rw[f];omega) q fun i j e a x t z H=>?_
     exact(G i j e a x t z (by rw[←H,f];congr 1;omega)).mono d
   | hM=>
     obtain rfl:=B7.1 E
     exact .jV
 | agg s h I=>
   intro x b
   cases b with
   | agg C hh=>
     refine .agg (by rw[s];exact C) fun k a x t z=>?_
     rename_i cs J xs
     have D:k<cs.length:=by rw[←s];exact(mC.1 t).1
     have m:cs[k]? = some cs[k]:=qB D
     exact I k _ a m t (hh k _ x m z)
section
variable {T : FT} {P : Program} {Q : gQ → ag → Prop}
end
section
variable {T : FT} {P : Program} {Q : gQ → ag → Prop}
end
def asN (P:Program)(S:ag)(t:TypeId)(n:Nat)(l:List (Nat×AV)):Option de:=Dz (og P S t n l)
def xY (p:Option Code):aL→aL
 | .lp st _ f n m env c a b=>.lp st p f n m env c a b
 | o=>o
variable {p : Option Code} {o : aL}
theorem lX {σ:Nat→Nat}:(xY p o).aY σ=xY p (o.aY σ):=by cases o<;>rfl
theorem Po {S:ag}{d:List Nat}{o' : aL}(h:tT S d o o'):tT S d (xY p o) (xY p o'):=by
 cases h with
 | arr a b c=>exact .arr a b c
 | mp a b=>exact .mp a b
 | df=>exact .df
 | lp h=>exact .lp h
end
end Go.Eng
namespace Go.Eng
noncomputable section
def th (P:Program)(fn:Func)(bs:List Nat)(Q:gQ→ag→Prop)(F:ae)(S:ag):Prop:=
 F.mode=.returning∧F.defers=[.uC bs]∧∃ v,uI P fn F S=some v∧Q (.ret v) S
def tl (F:ae)(ds:List gS):ae:={ F with defers:=ds }
theorem IP (F:ae)(ds:List gS)(t:Nat):(tl F ds).get t=F.get t:=by cases F;rfl
variable {P : Program} {fn : Func} {F : ae} {S : ag}
theorem IQ (ds:List gS):uI P fn (tl F ds) S=uI P fn F S:=by
 have:∀ b,wV P (tl F ds) S b=wV P F S b:=by
  intro b
  induction b with
  | nil=>rfl
  | cons r b d=>cases r<;>simp only[wV,IP,d]
 unfold uI
 rw[this]
variable {g : Gh}
theorem AP {fr:Frame}{ds:List gS}(h:nk P g F fr)(b:jZ P g ds fr.defers):nk P g (tl F ds) fr:=
 ⟨h.fn,h.size,fun t v e=>h.get t v (by rw[←IP F ds];exact e),h.todo,b,h.mode,h.kind,h.round⟩
theorem AQ {b cs:List Frame}(ds:List gS)(h:wR g F b cs):wR g (tl F ds) b cs:=by cases F;exact h
theorem jZ.Ox {l:List gS}{m:List Deferred}(h:jZ P g l m):jZ P g (l++[.uC []]) m:=by
 induction h with
 | nil=>exact .uC (bs:=[]) .nil
 | cons d ha hb _ b=>exact .cons d ha hb b
 | mQ e _ b=>exact .mQ e b
 | uC _ b=>exact .uC b
theorem Reach.Ox {P:Program}{F:ae}{S:ag}{G:ae→ag→Prop}(h:Reach P (tl F (F.defers++[.uC []])) S G):Reach P F S G:=by
 intro g w fr b cs hf d hi
 obtain⟨F', i,g', w', e,f,q,j,k,m,n,o,p,r,t⟩:=h g w fr b cs (AP hf hf.defers.Ox) (AQ _ d) hi
 exact⟨F', i,g', w', e,f,q,j,k,m,n,o,p,r,t⟩
variable {Q : gQ → ag → Prop}
theorem Reach.aew (h:Reach P F S (th P fn [] Q)):Reach P F S (Fin P fn fun r _ S=>Q r S):=by
 intro g w fr d cs hf e hi
 obtain⟨F', j,g', w', b,f,⟨k,q2,v,q3,q4⟩,i,n,o,p,q,u,x,y⟩:=h g w fr d cs hf e hi
 have z:b.defers=[]:=by
  have:=i.defers
  rw[q2] at this
  generalize A:b.defers=m at this
  cases this with | uC t=>cases t;rfl
 refine⟨tl F' [],j,g', w', b,f,⟨rfl,.inl ⟨k,v,by rw[IQ];exact q3,q4⟩⟩,AP i (by rw[z];exact .nil),AQ _ n,o,p,q,u,x,y⟩
variable {a : Nat} {bs : List Nat}
theorem Reach.drop (hq:vk a Q){d:Nat}(hd:F.defers=[.mQ d,.uC bs])(Y:S.get d=some (.df true))(hl:S.lim=0)(h:∀ b,Reach P (tl F [.uC (b::bs)]) (S.del d) (th P fn (b::bs) Q)):Reach P F S (th P fn bs Q):=by
 intro g w fr cs0 cs hf hcs hi
 obtain⟨l,a1,a2,a3⟩:=hi.ob d _ Y
 have b1:w.heap[l.cZ]? = some (.deferred (some [])):=a3
 have N:=(BG.1 b1).1
 have C:d<S.nx:=hi.lO Y
 have hds:jZ P g [.uC (l.cZ::bs)] fr.defers:=by
  have:=hf.defers
  rw[hd] at this
  generalize fr.defers=m at this
  cases this with
  | mQ O t=>
    rw[a1] at O;simp only[bj] at O;subst O
    cases t with | uC t=>exact .uC (bs:=l.cZ::bs) t
 have R:∀ id o l', (S.del d).get id=some o→g.ph id=some l' → l'.cZ≠l.cZ:=by
  intro id o l' e y hb
  by_cases bE:id=d
  · subst bE;rw[ag.iG] at e;simp at e
  · rw[ag.dL (vi _) bE] at e
    exact bE (hi.inj id d o _ l' l e Y y a1 hb)
 obtain⟨F', A,g', w', U,cs', ⟨q1,q2,v,q3,q4⟩,p1,p2,p3,p4,p5,p6,i,p8⟩:=h l.cZ g w fr cs0 cs (AP hf hds) (AQ _ hcs) (hi.sub (ag.JF (vi _)))
 have p:g'.ph d=some l:=by rw[i.vZ d C];exact a1
 have hhp:w'.heap[l.cZ]? = some (.deferred (some [])):=by
  rw[i.jW l.cZ N fun id o l' e _ y=>R id o l' e y];exact b1
 have hro:g'.ro l.cZ=none:=by
  cases hr:g'.ro l.cZ with
  | none=>rfl
  | some c=>
    rcases i.CU _ _ hr N with f | ⟨j,o0,J,K,_,L,M⟩
    · rw[a2] at f;simp at f
    · exact absurd M (R j o0 J K L)
 have V:A.get d=none:=i.dead d C ag.iG
 have D:∀ id o l', A.get id=some o→g'.ph id=some l' → l'.cZ≠l.cZ:=by
  intro id o l' e y hb
  obtain⟨j,o0,J,K,_,L,M⟩:=i.own id o l' e (by show S.lim≤id;omega) y (by rw[hb];exact N)
  exact R j o0 J K L (M.trans hb)
 have W:A.lim=0:=i.lim.trans hl
 obtain⟨n,z⟩:∃ s,s=A.set d (.df true):=⟨_,rfl⟩
 have g1:n.get d=some (.df true):=by rw[z];exact ag.cO (vi _)
 have B:∀ id,id≠d→n.get id=A.get id:=fun id bE=>by rw[z];exact ag.bt (vi _) bE
 have afx:n.nx=A.nx:=by rw[z];rfl
 have E:n.lim=0:=by rw[z];exact W
 have hi1:Inv n g' w' := by
  refine⟨p6.ro,fun id o e=>?_,fun id r o o' la lb e y q Z hb=>?_,fun id bE=>p6.fresh id (by rw[←afx];exact bE)⟩
  · by_cases bE:id=d
    · subst bE;rw[g1] at e;simp only[bj] at e;subst e
      exact⟨l,p,hro,hhp⟩
    · rw[B id bE] at e;exact p6.ob id o e
  · by_cases h1:id=d<;>by_cases h2:r=d
    · rw[h1,h2]
    · subst h1;rw[B r h2] at y
      rw[p] at q;simp only[bj] at q;subst q
      exact absurd hb.symm (D r o' lb y Z)
    · subst h2;rw[B id h1] at e
      rw[p] at Z;simp only[bj] at Z;subst Z
      exact absurd hb (D id o la e q)
    · rw[B id h1] at e;rw[B r h2] at y
      exact p6.inj id r o o' la lb e y q Z hb
 have back:∀ id o,(S.del d).get id=some o→S.get id=some o:=by
  intro id o e
  by_cases bE:id=d
  · subst bE;rw[ag.iG] at e;simp at e
  · rw[ag.dL (vi _) bE] at e;exact e
 have hx1:Ext S g w n g' w' := by
  refine⟨i.size,i.os,i.tape,i.output,fun b hb hne' => i.jW b hb fun id o l' e e1 X=>hne' id o l' (back id o e) (by omega) X,fun id o l' e e1 X e3=>?_,i.oS,by rw[afx];exact i.nx,by rw[E,hl],fun id bE=>by omega,i.vZ,fun b c e hb=>?_,fun id bE e=>?_,i.fz⟩
  · by_cases bE:id=d
    · subst bE
      rw[p] at X;simp only[bj] at X;subst X
      exact⟨id,_,l,Y,e1,a1,rfl⟩
    · rw[B id bE] at e
      obtain⟨j,o0,J,K,f2,L,M⟩:=i.own id o l' e (by show S.lim≤id;omega) X e3
      exact⟨j,o0,J,back _ _ K,by omega,L,M⟩
  · rcases i.CU b c e hb with f | ⟨j,o0,J,K,_,L,M⟩
    · exact .inl f
    · exact .inr ⟨j,o0,J,back _ _ K,by omega,L,M⟩
  · have H:id≠d:=by rintro rfl;rw[Y] at e;simp at e
    rw[B id H]
    exact i.dead id bE (by rw[ag.dL (vi _) H];exact e)
 have hdf1:jZ P g' [.mQ d,.uC bs] U.defers:=by
  have:=p1.defers
  rw[q2] at this
  generalize U.defers=m at this
  cases this with
  | uC t=>
    simp only[dF,B4]
    exact .mQ p (.uC t)
 have I:Ep (fun x=>x) A (n.set d (.df false)):=by
  refine⟨fun id o e=>?_,fun id _=>by show(n.set d (.df false)).lim≤id;have:(n.set d (.df false)).lim=0:=E;omega,fun k=>by show A.nx+k=n.nx+k;rw[afx],fun id bE=>by show id<n.nx;rw[afx];exact bE⟩
  have bE:id≠d:=by rintro rfl;rw[V] at e;simp at e
  rw[aL.cI,ag.bt (vi _) bE,B id bE];exact e
 have fin:th P fn bs Q (tl F' [.uC bs]) (n.set d (.df false)):=by
  have r1:=Cf I q3
  rw[ae.cI,AV.cI] at r1
  have r2:=hq (fun x=>x) (fun _ _ e=>e) (fun _ _=>rfl) _ _ _ q4 I
  simp only[gQ.aY,AV.cI] at r2
  exact⟨q1,rfl,v,by rw[IQ];exact r1,r2⟩
 have run:Reach P (tl F' [.mQ d,.uC bs]) n (th P fn bs Q):=
  Reach.mQ (ds:=[.uC bs]) (by show F'.mode ≠ .run;rw[q1];simp) rfl g1 (by omega) (Reach.done fin)
 obtain⟨F2,S2,g2', w2,fr2,cs2,u,v1,v2,v3,v4,v5,v6,v7,v8⟩:=run g' w' U cs0 cs' (AP p1 hdf1) (AQ _ p2) hi1
 exact⟨F2,S2,g2', w2,fr2,cs2,u,v1,v2,v3.trans p3,v4.trans p4,v5.trans p5,v6,hx1.trans v7,p8.trans v8⟩
def ZV (a:Nat)(G:ae→ag→Prop):Prop:=∀ σ:Nat→Nat,(∀ x y,σ x=σ y→x=y)→(∀ i,i<a→σ i=i)→∀ F S b,G F S→Ep σ S b→G (F.aY σ) b
theorem QH (f:vk a Q):ZV a (th P fn bs Q):=by
 rintro σ b d F S h ⟨e,q2,v,q3,q4⟩ hs
 refine⟨?_,?_,v.aY σ,Cf hs q3,f σ b d _ _ _ q4 hs⟩
 · cases F;simp only at e;subst e;rfl
 · cases F;simp only at q2;subst q2;rfl
def vE : cG→Bool
 | .nil=>true
 | .hole _=>true
 | .call _ _ _ _ _ _ n=>vE n
 | .rN _ _ _ n=>vE n
 | .loop _ _ _ _ _ n=>vE n
 | .round _ _ _ _ _ _ _ n=>vE n
 | _=>false
def EX : cG→Option (ae→ag→Prop)
 | .hole G=>some G
 | .call _ _ _ _ _ _ n=>EX n
 | .rN _ _ _ n=>EX n
 | .loop _ _ _ _ _ n=>EX n
 | .round _ _ _ _ _ _ _ n=>EX n
 | _=>none
def tr : St→Bool
 | .run _ _ _ k=>vE k
 | _=>false
def DL : St→Option (ae→ag→Prop)
 | .run _ _ _ k=>EX k
 | _=>none
def sr (σ:Nat→Nat):cG→Bool
 | .nil=>true
 | .hole _=>true
 | .call _ F _ _ _ td next=>jl σ F&&td.all (qH σ)&&sr σ next
 | .rN _ F ds next=>jl σ F&&ds.all (Av σ)&&sr σ next
 | .loop _ F d i td next=>jl σ F&&td.all (qH σ)&&Nat.beq (σ d) d&&Nat.beq (σ i) i&&sr σ next
 | .round _ F _ _ _ td id next=>jl σ F&&td.all (qH σ)&&Nat.beq (σ id) id&&sr σ next
 | _=>false
def Fw (σ:Nat→Nat):St→Bool
 | .run _ F _ k=>jl σ F&&sr σ k
 | _=>false
variable {G : ae → ag → Prop}
theorem Sk (i:ZV a G):∀ {k:cG} {ls:List (List Nat)},vE k=true→EX k=some G→vo (fun x=>x) k (N5 k ls):=by
 intro k
 induction k with
 | nil=>grind[EX]
 | hole f=>
   intro ls _ h
   simp only[EX,bj] at h
   subst h
   have:vo (fun x=>x) (.hole f) (.hole f):=.hole fun F S j q hs=>i _ (fun _ _ e=>e) (fun _ _=>rfl) F S j q hs
   cases ls<;>exact this
 | call fn F o all rest td next b=>
   intro ls h hb
   cases ls with
   | nil=>exact .call (by rw[ae.cI];exact tS.refl F) (bf.cI td).symm (by have:=b (ls:=[]) h hb;cases next<;>exact this)
   | cons l ls=>exact .call (by rw[ae.cI];exact gU F l) (bf.cI td).symm (b h hb)
 | rN fn F ds next b=>
   intro ls h hb
   cases ls with
   | nil=>exact .rN (by rw[ae.cI];exact tS.refl F) (gS.cI ds).symm (by have:=b (ls:=[]) h hb;cases next<;>exact this)
   | cons l ls=>exact .rN (by rw[ae.cI];exact gU F l) (gS.cI ds).symm (b h hb)
 | loop fn F d l td next b=>
   intro ls h hb
   cases ls with
   | nil=>exact .loop (by rw[ae.cI];exact tS.refl F) (bf.cI td).symm rfl rfl (by have:=b (ls:=[]) h hb;cases next<;>exact this)
   | cons l' ls=>exact .loop (by rw[ae.cI];exact gU F l') (bf.cI td).symm rfl rfl (b h hb)
 | round fn F o all rest td id next b=>
   intro ls h hb
   cases ls with
   | nil=>exact .round (by rw[ae.cI];exact tS.refl F) (bf.cI td).symm rfl (by have:=b (ls:=[]) h hb;cases next<;>exact this)
   | cons l ls=>exact .round (by rw[ae.cI];exact gU F l) (bf.cI td).symm rfl (b h hb)
 | fS D o os E n bE m next b=>intro ls h;simp[vE] at h
theorem Pp (n:ZV a G){σ:Nat→Nat}(f:∀ x y,σ x=σ y→x=y)(j:∀ i,i<a→σ i=i) :
   ∀ {k:cG} {ls:List (List (Nat×AV))},sr σ k=true→EX k=some G→ls.length=rX k→vo σ (Ah k (ls.map (jt σ))) (Ah k ls):=by
 intro k
 induction k with
 | nil=>grind[EX]
 | hole m=>
   intro ls _ h _
   simp only[EX,bj] at h
   subst h
   have:vo σ (.hole m) (.hole m):=.hole fun F S p q hs=>n _ f j F S p q hs
   cases ls<;>exact this
 | call fn F o all rest td next e=>
   intro ls h hb b
   simp only[sr,aS] at h
   cases ls with
   | nil=>simp[rX] at b
   | cons l ls=>exact .call (by rw[gV (gX h.1.1)];exact tS.refl _) (lW h.1.2).symm (e h.2 hb (by simpa [rX] using b))
 | rN fn F ds next e=>
   intro ls h hb b
   simp only[sr,aS] at h
   cases ls with
   | nil=>simp[rX] at b
   | cons l ls=>exact .rN (by rw[gV (gX h.1.1)];exact tS.refl _) (zE h.1.2).symm (e h.2 hb (by simpa [rX] using b))
 | loop fn F d i td next e=>
   intro ls h hb b
   simp only[sr,aS] at h
   cases ls with
   | nil=>simp[rX] at b
   | cons l ls=>exact .loop (by rw[gV (gX h.1.1.1.1)];exact tS.refl _) (lW h.1.1.1.2).symm (oR h.1.1.2).symm (oR h.1.2).symm (e h.2 hb (by simpa [rX] using b))
 | round fn F o all rest td id next e=>
   intro ls h hb b
   simp only[sr,aS] at h
   cases ls with
   | nil=>simp[rX] at b
   | cons l ls=>exact .round (by rw[gV (gX h.1.1.1)];exact tS.refl _) (lW h.1.1.2).symm (oR h.1.2).symm (e h.2 hb (by simpa [rX] using b))
 | fS D o os E t bE r next e=>intro ls h;simp[sr] at h
section
variable {T : FT} {P : Program} {Qf : gQ → ag → Prop}
variable {s : St}
theorem br.alP (i:ZV a G)(j:vk a Qf){d:List (List Nat)}{ids:List Nat}(f:tr s=true)(hb:DL s=some G)(h:br P Qf (qT d ids s)):br P Qf s:=by
 cases s with
 | run fn F S k=>
   cases d with
   | nil=>exact h.elim
   | cons l ls=>
     simp only[qT] at h
     refine br.aY (σ:=fun x=>x) (fun a b e=>e) (fun r S m q hs=>j _ (fun a b e=>e) (fun _ _=>rfl) r S m q hs) (Sk i f hb) (by rw[ae.cI];exact gU F l) ?_ h
     exact⟨fun id o e=>by rw[aL.cI];exact LZ (As (nx:=S.nx) e),fun id h=>h,fun k=>rfl,fun id bE=>bE⟩
 | _=>simp[tr] at f
variable {c : St} {ls ls2 : List (List (Nat × AV))} {l l2 : List (Nat × aL)}
theorem Sl (t:ZV a G)(u:vk a Qf)(b:List (Nat×Nat))(N nx:Nat)(j:wW b N nx [] []=true)(ha:(b.all fun p=>Nat.ble a p.1)=true)(B:a≤N)(m:Fw (kG b N nx) c=true)(hb:DL c=some G)(n:ls.length=wM c)(hs:ls2=ls.map (jt (kG b N nx)))(v:aH (oX nx l2) (vp (kG b N nx) l))(h:br P Qf (jN c ls (oX N l))):br P Qf (jN c ls2 (oX nx l2)):=by
 cases c with
 | run fn F S0 k=>
   cases ls with
   | nil=>simp[wM] at n
   | cons s ls=>
     subst hs
     have f:∀ i,i<a→kG b N nx i=i:=by
       intro i hi
       have:∀ l:List (Nat×Nat),(l.all fun p=>Nat.ble a p.1)=true→kG l N nx i=i:=by
        intro l
        induction l with
        | nil => intro _;simp only[kG];split
                 · rename_i e;have:=gw e;omega
                 · rfl
        | cons p r w=>
          intro d
          simp only[mI,aS] at d
          simp only[kG]
          cases hb:Nat.beq p.1 i with
          | true=>have:=oR hb;have:=gw d.1;omega
          | false=>exact w d.2
       exact this b ha
     simp only[Fw,aS] at m
     refine br.aY (σ:=kG b N nx) (xW j) (fun r S A q hs=>u _ (xW j) f r S A q hs) (Pp t (xW j) f m.2 hb (by simpa [wM] using n)) (by rw[gV (gX m.1)];exact tS.refl _) ?_ h
     obtain⟨C,h1⟩:=II j
     refine⟨fun id o e=>?_,fun _ _=>bW _,fun k=>?_,fun id bE=>?_⟩
     · refine F6 v (kG b N nx id) (o.aY (kG b N nx)) ?_
       exact kJ.2 ⟨(id,o),As e,rfl⟩
     · show kG b N nx (N+k)=nx+k
       rcases h1 (N+k) with⟨x,y⟩ | ⟨x,y⟩ | ⟨x,y,z⟩
       · omega
       · rw[y];omega
       · omega
     · have bE:id<N:=bE
       show kG b N nx id<nx
       rcases h1 id with⟨x,y⟩ | ⟨x,y⟩ | ⟨x,y,z⟩<;>omega
 | _=>simp[DL] at hb
end
section
variable {T : FT} {P : Program} {Q : gQ → ag → Prop}
variable {s : St}
theorem UH (E:cU T P)(b:ZV a G)(d:vk a Q)(n:Nat)(e:List (List Nat))(ids:List Nat){s' : St}(f:tr (ab T P n s)=true)(hb:DL (ab T P n s)=some G)(h:qT e ids (ab T P n s)=s')(q:SX P Q s'):SX P Q s:=
 ⟨cL E.ok E.mix n (br.alP b d f hb (by rw[h];exact q.out))⟩
variable {c : St} {ls ls2 : List (List (Nat × AV))} {l l2 : List (Nat × aL)}
theorem YH (E:cU T P)(f:ZV a G)(i:vk a Q)(n:Nat)(j:List (List Nat))(ids:List Nat)(b:List (Nat×Nat))(N nx:Nat)(k:tr (ab T P n s)=true)(hb:DL (ab T P n s)=some G)(e:DL c=some G)(h:qT j ids (ab T P n s)=jN c ls2 (oX nx l2))(d:(wW b N nx [] []&&b.all (fun p=>Nat.ble a p.1)&&Nat.ble a N)=true)(m:Fw (kG b N nx) c=true)(o:Nat.beq ls.length (wM c)=true)(q:mJ l2=true)(hs:ls2=ls.map (jt (kG b N nx)))(r:l2=vp (kG b N nx) l)(t:SX P Q (jN c ls (oX N l))):SX P Q s:=by
 simp only[aS] at d
 exact UH E f i n j ids k hb h ⟨Sl f i b N nx d.1.1 d.1.2 (gw d.2) m e (oR o) hs (by rw[←r];exact IK q) t.out⟩
def UI (P:Program)(Q:gQ→ag→Prop)(s:St):St:=
 match s with
 | .run fn F S .nil=>.run fn (tl F (F.defers++[.uC []])) S (.hole (th P fn [] Q))
 | _=>.bad 74
theorem VO (E:cU T P)(n:Nat)(q:SX P Q (UI P Q (ab T P n s))):SX P Q s:=by
 refine⟨cL E.ok E.mix n ?_⟩
 generalize ab T P n s=s at q
 have q:=q.out
 cases s with
 | run fn F S k=>
   cases k with
   | nil=>
     have q:Reach P (tl F (F.defers++[.uC []])) S (th P fn [] Q):=q
     exact(Reach.Ox q).aew
   | _=>exact q.elim
 | _=>exact q.elim
def G8 : St→Option (ae→ag→Prop)
 | .run _ _ _ (.hole G)=>some G
 | _=>none
def ae9 : St→Func
 | .run fn _ _ _=>fn
 | _=>default
def aj0 : St→List gS
 | .run _ F _ _=>F.defers
 | _=>[]
def Qn : St→Bool
 | .run _ F _ _=>match F.mode with
   | .returning=>true
   | _=>false
 | _=>false
def aaj (P:Program):St→Option AV
 | .run fn F S _=>uI P fn F S
 | _=>none
def ajC (P:Program)(Q:gQ→ag→Prop)(d b:Nat)(bs:List Nat)(s:St):St:=
 match s with
 | .run fn F S _=>.run fn (tl F [.uC (b::bs)]) (S.del d) (.hole (th P fn (b::bs) Q))
 | _=>.bad 74
theorem YI (E:cU T P)(j:vk a Q)(n:Nat)(d:Nat)(e:G8 (ab T P n s)=some (th P (ae9 (ab T P n s)) bs Q))(f:aj0 (ab T P n s)=[.mQ d,.uC bs])(h:(jY (ab T P n s)).get d=some (.df true))(i:Nat.beq (jY (ab T P n s)).lim 0=true)(q:∀ b,SX P Q (ajC P Q d b bs (ab T P n s))):SX P Q s:=by
 refine⟨cL E.ok E.mix n ?_⟩
 generalize ab T P n s=s at e f h i q
 cases s with
 | run fn F S k=>
   cases k with
   | hole G=>
     simp only[G8,ae9,bj] at e
     subst e
     show Reach P F S (th P fn bs Q)
     exact Reach.drop j f h (oR i) fun b=>(q b).out
   | _=>simp[G8] at e
 | _=>simp[G8] at e
theorem aex (E:cU T P)(n:Nat){k:Nat}{v v' : AV}{jr:List (Option aL)}{add:List aL}(b:List Nat)(d:G8 (ab T P n s)=some (th P (ae9 (ab T P n s)) bs (RG k v' jr add)))(j:aj0 (ab T P n s)=[.uC bs])(f:Qn (ab T P n s)=true)(h:aaj P (ab T P n s)=some v)(m:zf k add.length b=true)(hf:lJ (jY (ab T P n s)) b v v')(hu:kq (jY (ab T P n s)) b 0 jr)(ha:oZ (jY (ab T P n s)) b (b.drop k) add):SX P Q s:=by
 refine⟨cL E.ok E.mix n ?_⟩
 generalize ab T P n s=s at d j f h hf hu ha
 cases s with
 | run fn F S r=>
   cases r with
   | hole G=>
     simp only[G8,ae9,bj] at d
     subst d
     show Reach P F S (th P fn bs (RG k v' jr add))
     have f:F.mode=.returning:=by
       grind[Qn]
     refine Reach.done ⟨f,j,v,h,?_⟩
     simp only[zf,aS,decide_eq_true_eq,dg,List.mem_range,beq_iff_eq] at m
     obtain⟨⟨k1,k2⟩,k3⟩:=m
     refine⟨_,b,rfl,k1,oR k2,k3,hf,fun i o' e=>?_,fun i o' e=>?_⟩
     · have:=vJ hu i o' e
       rwa [xf] at this
     · obtain⟨id,o,p,q⟩:=vK ha i o' e
       exact⟨id,o,by grind,q⟩
   | _=>simp[G8] at d
 | _=>simp[G8] at d
end
def Ue (v:AV)(b:ag)(s:St):St:=
 match s with
 | .fS D k=>match D.os with
   | o::os=>match hidden (ax D.dr o.after.toList) D.km with
     | some bE=>.fS (D.next o os (ax D.dr o.after.toList) v b.nx (sk b D.S.nx (b.nx-D.S.nx)) (some ⟨D.S.nx,D.S.nx,js D.S.m bE⟩)) k
     | none=>.bad 5
   | []=>.bad 5
 | _=>.bad 5
section
variable {T : FT} {P : Program} {Qf : gQ → ag → Prop}
variable {s : St}
theorem Sm (y:dh T P)(t:P.follows .mixedOrders=true)(n:Nat)(g:Nat)(args:List AV)(E:ag)(v:AV)(f:ag)(h:S9 T P (ab T P n s)=some (g,args,E))(A:fU P g args E fun r S=>r=.ret v∧S=f)(q:br P Qf (Ue v f (ab T P n s))):br P Qf s:=by
 refine cL y t n ?_
 generalize ab T P n s=s at h q
 cases s with
 | fS D k=>
   simp only[S9,Ue] at h q
   cases d:D.os with
   | nil=>grind
   | cons o os=>
     rw[d] at h q
     simp only at h q
     split at h<;>try (simp at h;done)
     rename_i c bE i B hh
     split at h<;>simp only[bj,nj,reduceCtorEq] at h
     rename_i C
     obtain⟨rfl,rfl,rfl⟩:=h
     rw[hh] at q
     simp only at q
     obtain⟨L,ha⟩:=kL y i C
     have w:=fy i
     refine fC.mono (fun Q q=>?_) q
     refine qF.step q d rfl (fun O S0 E0 M v0 ch z H I=>?_)
     have j:nV P D.ops o D.F.get ⟨D.S.nx,D.S.nx,js D.S.m bE⟩ v f:=nV.call B w (ha _) A
     obtain⟨_,x,N⟩:=z.bE hh
     have u:∀ id ob,(⟨D.S.nx,D.S.nx,js D.S.m bE⟩:ag).get id=some ob→id∉bE∧D.S.get id=some ob:=by
      grind
     have J:=I _ _ _ j rfl fun id ob e=>(u id ob e).2
     have:=z.news H d (ids:=[]) (nw:=sk f D.S.nx (f.nx-D.S.nx)) (Eo:=some ⟨D.S.nx,D.S.nx,js D.S.m bE⟩) j J rfl (.inr rfl) (fun id ob e=>⟨(u id ob e).2,x id (u id ob e).1⟩) (fun id ob e K p=>absurd p (Nat.not_lt.2 K)) (fun id e _=>by simp at e) (fun id e _ p=>by simp at e)
      (fun id ob e=>by
       obtain⟨a,_,b,c⟩:=vI e
       exact⟨a,b,c⟩) (.inl rfl)
     exact this
 | _=>simp[S9] at h
end
def Ts (v:AV)(r:ag→ag)(s:St):St:=
 match s with
 | .fS D k=>Ue v (r (Rc (.fS D k))) (.fS D k)
 | .run fn F S k=>N6 v r (.run fn F S k)
 | _=>.bad 5
section
variable {T : FT} {P : Program} {Q : gQ → ag → Prop}
variable {s : St}
theorem VP (E:cU T P)(n:Nat)(g:Nat)(args:List AV)(v:AV)(r:ag→ag)(h:ZU T P (ab T P n s)=some (g,args))(d:fU P g args (Rc (ab T P n s)) fun x e=>x=.ret v∧e=r (Rc (ab T P n s)))(q:SX P Q (Ts v r (ab T P n s))):SX P Q s:=by
 refine⟨cL E.ok E.mix n ?_⟩
 generalize ab T P n s=s at h d q
 have q:=q.out
 cases s with
 | run fn F S k=>exact FF E.ok E.mix 0 g args S v _ h rfl ⟨fn,F,S,k,rfl⟩ d q
 | fS D k=>
   simp only[ZU] at h
   cases f:S9 T P (.fS D k) with
   | none=>grind
   | some p=>
     obtain⟨g', b,i⟩:=p
     rw[f] at h
     simp only[bj,nj] at h
     obtain⟨rfl,rfl⟩:=h
     have j:i=Rc (.fS D k):=by
      grind[S9,Rc]
     subst j
     exact Sm E.ok E.mix 0 g' b _ v _ f d q
 | _=>simp[ZU] at h
end
end
end Go.Eng
namespace Go.Eng
noncomputable section
def B8 (fn:Func):cG→Func
 | .call b _ _ _ _ _ n=>B8 b n
 | .rN b _ _ n=>B8 b n
 | .loop b _ _ _ _ n=>B8 b n
 | .round b _ _ _ _ _ _ n=>B8 b n
 | _=>fn
def Iq : St→Func
 | .run fn _ _ k=>B8 fn k
 | _=>default
def aug (bs:List Nat):gS→gS
 | .uC _=>.uC bs
 | d=>d
def afy (bs:List Nat)(k:cG)(F:ae):ae:=match k with
 | .hole _=>tl F (F.defers.map (aug bs))
 | _=>F
def afz (G:ae→ag→Prop)(bs:List Nat):cG→cG
 | .hole _=>.hole G
 | .call fn F o all rest td n=>.call fn (afy bs n F) o all rest td (afz G bs n)
 | .rN fn F ds n=>.rN fn (afy bs n F) ds (afz G bs n)
 | .loop fn F d l td n=>.loop fn (afy bs n F) d l td (afz G bs n)
 | .round fn F o all rest td id n=>.round fn (afy bs n F) o all rest td id (afz G bs n)
 | k=>k
def auh (P:Program)(Q:gQ→ag→Prop)(bs:List Nat):St→St
 | .run fn F S k=>.run fn (afy bs k F) S (afz (th P (B8 fn k) bs Q) bs k)
 | s=>s
section
variable {T : FT} {P : Program} {Q : gQ → ag → Prop}
variable {a : Nat} {s : St}
theorem aey (E:cU T P)(b:vk a Q)(n:Nat)(c:List (List Nat))(ids:List Nat)(bs:List Nat){s' : St}(d:tr (ab T P n s)=true)(hb:DL (ab T P n s)=some (th P (Iq (ab T P n s)) bs Q))(h:qT c ids (ab T P n s)=s')(q:SX P Q s'):SX P Q s:=
 UH E (QH b) b n c ids d hb h q
theorem YJ (E:cU T P)(f:vk a Q)(n:Nat)(g:List (List Nat))(ids:List Nat)(b:List (Nat×Nat))(N nx:Nat)(bs:List Nat){c:St}{ls d:List (List (Nat×AV))}{l l2:List (Nat×aL)}(i:tr (ab T P n s)=true)(hb:DL (ab T P n s)=some (th P (Iq (ab T P n s)) bs Q))(e:DL c=some (th P (Iq (ab T P n s)) bs Q))(h:qT g ids (ab T P n s)=jN c d (oX nx l2))(j:(wW b N nx [] []&&b.all (fun p=>Nat.ble a p.1)&&Nat.ble a N)=true)(k:Fw (kG b N nx) c=true)(m:Nat.beq ls.length (wM c)=true)(o:mJ l2=true)(hs:d=ls.map (jt (kG b N nx)))(q:l2=vp (kG b N nx) l)(r:SX P Q (jN c ls (oX N l))):SX P Q s:=
 YH E (QH f) f n g ids b N nx i hb e h j k m o hs q r
theorem YK (E:cU T P)(n:Nat){k:Nat}{v v' : AV}{jr:List (Option aL)}{add:List aL}{bs:List Nat}(b:List Nat)(c:G8 (ab T P n s)=some (th P (ae9 (ab T P n s)) bs (RG k v' jr add)))(d:aj0 (ab T P n s)=[.uC bs])(e:Qn (ab T P n s)=true)(h:aaj P (ab T P n s)=some v)(f:zf k add.length b=true)(hf:lJ (jY (ab T P n s)) b v v')(hu:kq (jY (ab T P n s)) b 0 jr)(ha:oZ (jY (ab T P n s)) b (b.drop k) add):SX P (RG k v' jr add) s:=
 by grind[aex]
end
attribute [simp] gz
section
variable {P : Program} {α : Type} {enc : α → AV}
end
section
variable {T : FT} {P : Program} {Q : gQ → ag → Prop}
end
def ZD (P:Program)(D:rO)(o:Oper):Option de:=
 match tf D.F D.ops o,cr o.op,gJ o.op with
 | some true,false,none=>DH P D.F.eval ⟨D.S.nx,D.S.nx,seen D.S (ax D.dr o.after.toList) D.km (iD D.F (iU o.op)) .nil⟩ o.op
 | _,_,_=>none
def aak (P:Program)(s:St):Option de:=
 match s with
 | .run fn F S k=>Zh P (.run fn F S k)
 | .fS D _=>match D.os with
   | o::_=>ZD P D o
   | []=>none
 | _=>none
def Rp (s:St):ag:=
 match s with
 | .run _ _ S _=>S
 | .fS D _=>match D.os with
   | o::_=>⟨D.S.nx,D.S.nx,seen D.S (ax D.dr o.after.toList) D.km (iD D.F (iU o.op)) .nil⟩
   | []=>ag.empty
 | _=>ag.empty
def ZE (r:de)(s:St):St:=
 match s with
 | .run fn F S k=>Jh r (.run fn F S k)
 | .fS D k=>match D.os with
   | o::os=>Fe 5 (zd D o os (ax D.dr o.after.toList) k ⟨D.S.nx,D.S.nx,seen D.S (ax D.dr o.after.toList) D.km (iD D.F (iU o.op)) .nil⟩ []
    (some ⟨D.S.nx,D.S.nx,seen D.S (ax D.dr o.after.toList) D.km (iD D.F (iU o.op)) .nil⟩) (some r))
   | []=>.bad 5
 | _=>.bad 5
def LC (r:ag→de)(s:St):St:=ZE (r (Rp s)) s
section
variable {T : FT} {P : Program} {Q : gQ → ag → Prop}
variable {s : St}
theorem lB (E:cU T P)(n:Nat)(o:ag→Option de)(r:ag→de)(h:aak P (ab T P n s)=o (Rp (ab T P n s)))(i:j3 (r (Rp (ab T P n s))) (ab T P n s)=true)(f:o (Rp (ab T P n s))=some (r (Rp (ab T P n s))))(q:SX P Q (LC r (ab T P n s))):SX P Q s:=by
 refine⟨cL E.ok E.mix n ?_⟩
 generalize ab T P n s=s at h i f q
 have q:=q.out
 cases s with
 | run fn F S k=>exact QC E.ok E.mix 0 o r h i f q
 | fS D k=>
   simp only[aak,LC,ZE] at h q
   cases c:D.os with
   | nil=>
     grind
   | cons op os=>
     rw[c] at h q
     simp only at h q
     have h:=h.trans f
     unfold ZD at h
     split at h<;>try (simp at h;done)
     rename_i j g t
     rw[na] at h
     have b:∀ {nx lim id ob},(⟨nx,lim,seen D.S (ax D.dr op.after.toList) D.km (iD D.F (iU op.op)) .nil⟩:ag).get id=some ob→id∈iD D.F (iU op.op)∧D.S.get id=some ob∧ju (ax D.dr op.after.toList) D.km id=true:=by
       intro nx lim id ob e
       have hi:=ag.iw e
       rw[ag.cE hi] at e
       rcases AJ hi e with q | q
       · rw[PT.get_nil] at q;simp at q
       · exact q
     generalize u:r (Rp (.fS D k))=l at *
     generalize v:seen D.S (ax D.dr op.after.toList) D.km (iD D.F (iU op.op)) .nil=m at *
     cases h2:zd D op os (ax D.dr op.after.toList) k ⟨D.S.nx,D.S.nx,m⟩ [] (some ⟨D.S.nx,D.S.nx,m⟩) (some l) with
     | none=>rw[h2] at q;exact q.elim
     | some s=>
       rw[h2] at q
       exact xk (E:=⟨D.S.nx,D.S.nx,m⟩) c j g (by rw[h];exact h2) rfl (.inr rfl) (fun id ob e=>(b e).2) (fun id ob e p d=>absurd d (Nat.not_lt.2 p)) (fun id e=>by simp at e) (fun id e d=>by simp at e) (.inl rfl) (by simpa only[Fe] using q)
 | _=>
   simp only[aak] at h
   have h:=h.trans f
   simp at h
end
def aez (m:Nat):St→St
 | .run fn F S k=>.run fn F ⟨m,S.lim,S.m⟩ k
 | s=>s
section
variable {T : FT} {P : Program} {Q : gQ → ag → Prop}
variable {s : St}
theorem B9 (E:cU T P)(n m:Nat)(c:Nat.ble (jY (ab T P n s)).nx m=true)(q:SX P Q (aez m (ab T P n s))):SX P Q s:=by
 refine⟨cL E.ok E.mix n ?_⟩
 generalize ab T P n s=s at c q
 have q:=q.out
 cases s with
 | run fn F S k=>
   have c:S.nx≤m:=gw c
   have j:∀ id,(⟨m,S.lim,S.m⟩:ag).get id=S.get id:=fun _=>rfl
   refine br.reach (fun G d=>Reach.DG d rfl rfl rfl rfl fun g w fr cs hf hi=>⟨fr,w,g,hf,?_,?_,Steps.refl _ _⟩) q
   · exact⟨hi.ro,fun id o e=>hi.ob id o e,fun a b o1 o2 l l' e f p i hb=>hi.inj a b o1 o2 l l' e f p i hb,fun id h=>hi.fresh id (mF c h)⟩
   · exact⟨bG _,rfl,⟨rfl,bG _⟩,rfl,fun _ _ _=>rfl,fun id o l h h1 h2 _=>⟨id,o,l,h,h1,h2,rfl⟩,Gh.le_refl _,c,rfl,fun _ _=>rfl,fun _ _=>rfl,fun _ _ e _=>.inl e,fun _ _ e=>e,fun _ _=>rfl⟩
 | _=>exact q
end
end
end Go.Eng
namespace Go.Eng
noncomputable section
def akG (P:Program)(S:ag)(t:TypeId)(x:AV):Option de:=Dz (xS P S t x)
variable {P : Program} {S : ag} {t : Nat} {s : ByteArray}
theorem aeA {nx:Nat}(hu:P.underlying t=some .string)(a:S.nx=nx)(b:(Nat.ble (nx+1) 8192&&Nat.ble S.lim nx)=true):akG P S t (.sc (.string s))=some (.val (.ptr nx 0 0) (S.add (.si s 0))):=by
 subst a
 simp only[akG,xS,hu,b,Dz]
def afa (S:ag)(a:AV):Option de:=Dz (zp S a true)
variable {id p : Nat}
theorem aeB (a:S.get id=some (.si s p))(b:Nat.ble S.lim id=true)(h:decide (p+1≤s.size)=true) :
  afa S (.ptr id 0 0)=some (.val (.bO [.sc (.bool true),.sc (.int .i64 (p:Nat)),.sc (.int .i32 ((Utf8.decode s p).1:Nat))]) (S.set id (.si s (p+(Utf8.decode s p).2)))):=by
 have h:Nat.ble (p+1) s.size=true:=GY (of_decide_eq_true h)
 grind[afa,zp,Dz]
theorem aeC (a:S.get id=some (.si s p))(h:decide (p+1≤s.size)=false):afa S (.ptr id 0 0)=some (.val (.bO [.sc (.bool false)]) S):=by
 have h:Nat.ble (p+1) s.size=false:=by
  rw[pg]
  simp_all
 simp only[afa,zp,a,h,Dz]
variable {σ : Nat → Nat}
theorem EH (s:ByteArray)(p:Nat):(aL.si s p).aY σ=.si s p:=rfl
def afA (a b:ByteArray):Bool:=a.data.toList==b.data.toList
def tn {β:Type}:List (ByteArray×β)→ByteArray→Option β
 | [],_=>none
 | (a,b)::r,k=>if afA k a then some b else tn r k
def r9 {β:Type}:List (ByteArray×β)→ByteArray→β→List (ByteArray×β)
 | [],k,v=>[(k,v)]
 | (a,b)::r,k,v=>if afA k a then(k,v)::r else(a,b)::r9 r k v
variable {β : Type} {g : β → AV}
theorem IS (x:ByteArray):∀(l:List (ByteArray×β)) (i:Nat),∃ r,uc .string (.sc (.string x)) (l.map (cg encS g)) i=some r∧(match r with
   | some (j,v)=>∃ b,tn l x=some b∧v=g b∧i≤j∧∀ y:β,(l.map (cg encS g)).set (j-i) (.sc (.string x),g y)=(r9 l x y).map (cg encS g)
   | none=>tn l x=none∧∀ y:β,l.map (cg encS g)++[(.sc (.string x),g y)]=(r9 l x y).map (cg encS g)):=by
 intro l
 induction l with
 | nil=>intro i;exact⟨none,rfl,rfl,fun y=>rfl⟩
 | cons p l h=>
   obtain⟨a,b⟩:=p
   intro i
   simp only[dF,cg,uc,encS,Zg]
   cases e:(x.data.toList==a.data.toList) with
   | true=>
     have d:afA x a=true:=e
     refine⟨_,rfl,b,by simp[tn,d],rfl,bG _,fun y=>by simp[r9,d,cg,encS]⟩
   | false=>
     have d:afA x a=false:=e
     obtain⟨r,m,q2⟩:=h (i+1)
     refine⟨r,m,?_⟩
     cases r with
     | none=>
       grind[tn,r9,cg,encS]
     | some o=>
       obtain⟨j,v⟩:=o
       obtain⟨c,h1,h2,h3,h4⟩:=q2
       refine⟨c,by simp[tn,d,h1],h2,by omega,fun y=>?_⟩
       have:=h4 y
       rw[show j-i=(j-(i+1))+1 from by omega]
       simp[r9,d,cg,encS,this]
def Ca (P:Program)(t:TypeId):Option AV:=
 match P.underlying t with
 | some (.map a b)=>match P.underlying a,iW P b with
   | some .string,some z=>some z
   | _,_=>none
 | _=>none
variable {z : AV}
theorem Dk {t:TypeId}(h:Ca P t=some z):∃ a b,P.underlying t=some (.map a b)∧P.underlying a=some .string∧iW P b=some z:=by
 grind[Ca]
section
variable {P : Program} {β : Type} {g : β → AV} {S : ag} {t id : Nat} {l : List (ByteArray × β)} {x : ByteArray}
theorem YL {z0:β}(a:Ca P t=some (g z0))(d:S.get id=some (.mp (l.map (cg encS g)))):Rb P S t (.cQ id) (.sc (.string x)) false=some (.val (g ((tn l x).getD z0)) S):=by
 obtain⟨o,q,h1,h2,h3⟩:=Dk a
 obtain⟨r,e,q2⟩:=IS (g:=g) x l 0
 simp only[Rb,sx,h1,h2,d,rk,e,h3]
 cases r with
 | none=>simp only[q2.1,Option.getD_none,mM]
 | some h=>
   obtain⟨j,v⟩:=h
   obtain⟨b,m,rfl,_⟩:=q2
   simp only[m,vv,mM]
theorem YM {y:β}(a:Ca P t=some z)(d:S.get id=some (.mp (l.map (cg encS g))))(e:Nat.ble S.lim id=true):SS P S t (.cQ id) (.sc (.string x)) (g y)=some (.skip (S.set id (.mp ((r9 l x y).map (cg encS g))))):=by
 obtain⟨o,q,h1,h2,_⟩:=Dk a
 obtain⟨r,h,q2⟩:=IS (g:=g) x l 0
 simp only[SS,n9,h1,h2,d,rk,e,j6,h]
 cases r with
 | none=>simp only[q2.2 y,NQ]
 | some m=>
   obtain⟨j,v⟩:=m
   obtain⟨b,u,_,_,a2⟩:=q2
   have:=a2 y
   rw[Nat.sub_zero] at this
   simp only[this,NQ]
end
theorem sY (l:List (ByteArray×Bool)):(aL.mp (l.map (cg encS gv))).aY σ=.mp (l.map (cg encS gv)):=yh (by simp) (by simp) l
section
variable {P : Program} {β : Type} {g : β → AV} {S : ag} {t id : Nat} {k : IntKind} {l : List (Int × β)} {x c : Int} {V z : AV}
end
variable {α : Type}
def WO (enc:α→AV)(l:List α)(V:List AV)(r:Nat)(z:AV):List AV:=l.map enc++(V++List.replicate r z)
variable {enc : α → AV} {r : Nat}
@[simp] theorem ae3 {l:List α}{V:List AV}:(WO enc l V r z).length=l.length+(V.length+r):=by simp[WO]
section
variable {P : Program} {α : Type} {enc : α → AV} {S : ag} {t id n : Nat} {l : List α} {V z : AV} {V0 : List AV} {r : Nat} {i : Int}
end
theorem VQ (a b:List AV):eB σ (a++b)=eB σ a++eB σ b:=by
 induction a<;>grind[eB]
theorem L5 {σ:Nat→Nat}{z:AV}(h:z.aY σ=z):∀ r,eB σ (List.replicate r z)=List.replicate r z
 | 0=>rfl
 | r+1=>by simp[List.replicate_succ,eB,h,L5 h r]
theorem sZ (h:∀ x,aV (enc x)=true)(l:List α)(V:List AV)(r:Nat):eB σ (WO enc l V r .an)=WO enc l (eB σ V) r .an:=by
 simp[WO,VQ,mT h,L5 (σ:=σ) (z:=.an) rfl]
variable {f : α → AV}
theorem Sn (hf:∀ x,aV (f x)=true)(a:∀ x,aV (g x)=true)(l:List (α×β))(K V:AV):(aL.mp (l.map (cg f g)++[(K,V)])).aY σ=.mp (l.map (cg f g)++[(K.aY σ,V.aY σ)]):=by
 have:=L4 (σ:=σ) hf a l
 simp only[YG,Oy,this,dF,ud]
variable {k : IntKind}
theorem s5 (h:∀ x,aV (enc x)=true)(l:List (Int×List α)):(aL.mp (l.map (cg (az k) (Ro enc)))).aY σ=.mp (l.map (cg (az k) (Ro enc))):=yh (by simp) (fun x=>ct h x) l
theorem py (h:∀ x,aV (enc x)=true)(l:List (Int×List α))(K V:AV):(aL.mp (l.map (cg (az k) (Ro enc))++[(K,V)])).aY σ=.mp (l.map (cg (az k) (Ro enc))++[(K.aY σ,V.aY σ)]):=Sn (by simp) (fun x=>ct h x) l K V
section
variable {T : FT} {P : Program} {Q : gQ → ag → Prop} {α β : Type}
variable {es : List AV}
theorem WG.app {l m b:List AV}(h:WG r es m b):WG r es (l++m) (l++b):=by
 induction l with
 | nil=>exact h
 | cons a l d=>exact .cons .refl d
end
section
variable {P : Program} {α : Type} {enc : α → AV}
end
variable {es : List AV} {len : Nat}
theorem L6 {ys:List α}{z:Nat}(a:es=ys.map enc)(b:len=ys.length)(d:S.get id=some (.arr z es)):iT S (.ai id 0 len)=some (ys.map enc):=by
 subst a;subst b
 exact bC _ (.inr ⟨id,z,rfl,d⟩)
theorem tT.WO {S:ag}{d:List Nat}{α:Type}{sz r:Nat}{enc:α→AV}{l:List α}{V o:List AV}(q:∀ x,aV (enc x)=true)(h:vq S d V o):tT S d (.arr sz (WO enc l V r .an)) (.arr sz (WO enc l o r .an)):=by
 have rep:∀ r,vq S d (List.replicate r .an) (List.replicate r .an):=by
  intro r
  induction r with
  | zero=>exact .nil
  | succ r e=>rw[List.replicate_succ];exact .cons (.pure rfl) e
 have app:∀ {a j b m:List AV},vq S d a j→vq S d b m→vq S d (a++b) (j++m):=by
  intro a j b m h k
  induction h with
  | nil=>exact k
  | cons h t e=>exact .cons h e
 have mp:∀ l:List α,vq S d (l.map enc) (l.map enc):=by
  intro l
  induction l with
  | nil=>exact .nil
  | cons a l e=>exact .cons (.pure (q a)) e
 exact .ags (app (mp l) (app h (rep r)))
theorem tT.aui {d:List Nat}(hf:∀ x,aV (f x)=true)(m:∀ x,aV (g x)=true){l:List (α×β)}{K V j:AV}(o:aV K=true)(h:lJ S d V j):tT S d (.mp (l.map (cg f g)++[(K,V)])) (.mp (l.map (cg f g)++[(K,j)])):=by
 refine .mp (by simp) fun i p v e a=>?_
 by_cases b:i<(l.map (cg f g)).length
 · rw[BX b] at e a
   rw[e] at a
   simp only[bj] at a
   subst a
   have q:Qm (l.map (cg f g))=true:=IM hf m l
   have:=dg.1 q p (vj e)
   simp only[aS] at this
   exact⟨.pure this.1,.pure this.2⟩
 · rw[zj (by omega)] at e a
   have u:i-(l.map (cg f g)).length=0:=by
    have:=(mC.1 e).1
    simp only[pk,Uq] at this
    omega
   rw[u] at e a
   simp only[vw,bj] at e a
   subst e;subst a
   exact⟨.pure o,h⟩
def av5 (l:List Nat)(s:St):St:=
 match s with
 | .run fn F S k=>match F.todo with
   | .code (.region _ ops _)::td=>.run fn { F with todo:=.ops ops l::td } S k
   | _=>.bad 91
 | _=>.bad 91
def Oz (t:Nat)(s:St):Option AV:=
 match s with
 | .run _ F _ _=>F.get t
 | _=>none
def W6 (t:Nat)(v:AV)(s:St):St:=
 match s with
 | .run fn F S k=>.run fn (Rk F (some t) v) S k
 | s=>s
theorem Reach.same {F:ae}{G:ae→ag→Prop}{v:AV}(j:F.get t=some v)(h:Reach P (F.put (some t) v) S G):Reach P F S G:=by
 intro g w fr d cs a b c
 obtain⟨k1,k2,k3,k4,k5,k6,k7,k8⟩:=F.LO (some t) v
 have hf:nk P g (F.put (some t) v) fr:=⟨by rw[k5];exact a.fn,by rw[k1];exact a.size,fun s u e=>by
  rcases ae.Qw e with⟨rfl,_,rfl⟩ | ⟨_,e⟩
  · exact a.get _ _ j
  · exact a.get _ _ e,by rw[k8];exact a.todo,by rw[k2];exact a.defers,by rw[k3];exact a.mode,by rw[k4];exact a.kind,by rw[k6];exact a.round⟩
 obtain⟨F2,q,y,A,m,o,B,C,D,E,H,I,J⟩:=h g w fr d cs hf (b.congr k4 k7) c
 grind
variable {T : FT} {Q : gQ → ag → Prop}
theorem aeD (E:cU T P)(n:Nat){s:St}(t:Nat){a k:Int}(c:a=k)(h:Oz t (ab T P n s)=some (.sc (.int .i64 a)))(q:SX P Q (W6 t (.sc (.int .i64 k)) (ab T P n s))):SX P Q s:=by
 subst c
 refine⟨cL E.ok E.mix n ?_⟩
 generalize ab T P n s=s at h q
 have q:=q.out
 cases s with
 | run fn F S k=>
   simp only[W6,Ew] at q
   exact fC.mono (fun b q=>Reach.same h q) q
 | _=>simp[Oz] at h
variable {sz : Nat}
theorem Pq {E E1:ag}{g g' : Gh}{w w' : World}{x:Value}(hi:Inv E1 g' w')(hx:Ext E g w E1 g' w')(G:E1.get r=some (.arr sz es))(U:VR g' (.ai r 0 es.length) x)(B:E.lim≤r) :
   ∃ u,VR u (.lit es) x∧Inv (E1.del r) u w' ∧ Ext E g w (E1.del r) u w' := by
 have m:∀ id o,(E1.del r).get id=some o→id≠r∧E1.get id=some o:=by
   intro id o e
   by_cases h:id=r
   · grind[ag.iG]
   · rw[ag.dL (vi _) h] at e;exact⟨h,e⟩
 obtain⟨l,l1,l2,c,t,Y,p2,H,p4,Z,p6⟩:=hi.ob _ _ G
 obtain⟨u,d⟩:∃ u:Gh,u={ ro:=fun b=>if b=l.cZ then some c else g'.ro b,ph:=g'.ph }:=⟨_,rfl⟩
 have A:Gh.le g' u:=by
   refine⟨fun b D e=>?_,fun _ _ e=>by rw[d];exact e⟩
   rw[d]
   simp only
   split
   · rename_i hb;subst hb;rw[l2] at e;simp at e
   · exact e
 have L:u.ro l.cZ=some c:=by rw[d];simp
 refine⟨u,?_,⟨fun b D e=>?_,fun id o e=>?_,fun id M o o' l' N e e' q W hb=>?_,fun id bE=>?_⟩,⟨hx.size,hx.os,hx.tape,hx.output,hx.jW,fun id o l' e I F J=>?_,Gh.le_trans hx.oS A,hx.nx,hx.lim,fun id bE=>?_,fun id bE=>by rw[d];exact hx.vZ id bE,fun b D e hb=>?_,fun id bE e=>?_,hx.fz⟩⟩
 · generalize v:es.length=len at U
   cases U with
   | ai K C hb=>
     rw[l1] at K;simp only[bj] at K;subst K
     subst v
     refine .lit (sz:=l.sz) L (fun e he=>?_) (by rw[H];omega) C fun i j e a y I F J=>?_
     · rw[H];exact Z e he
     · exact(p6 i j e a y I F (by rw[←H,←J];congr 1;omega)).mono A
   | hM=>
     have:es=[]:=B7.1 v
     subst this;exact .jV
 · rw[d] at e
   simp only at e
   split at e
   · rename_i hb;simp only[bj] at e;subst e;subst hb;exact⟨t,_,Y⟩
   · exact hi.ro b D e
 · obtain⟨O,e⟩:=m id o e
   obtain⟨l', X,q2,q3⟩:=hi.ob id o e
   refine⟨l', by rw[d];exact X,?_,q3.mono A⟩
   rw[d]
   simp only
   rw[if_neg (fun hb=>O (hi.inj id r o _ l' l e G X l1 hb))]
   exact q2
 · rw[d] at q W
   exact hi.inj id M o o' l' N (m _ _ e).2 (m _ _ e').2 q W hb
 · rw[d];exact hi.fresh id bE
 · rw[d] at F
   exact hx.own id o l' (m _ _ e).2 I F J
 · rw[ag.dL (vi _) (by omega)];exact hx.wU id bE
 · rw[d] at e
   simp only at e
   split at e
   · rename_i hbb
     obtain⟨R,o0,l0,f1,f2,f3,f4⟩:=hx.own r _ l G B l1 (by omega)
     exact .inr ⟨R,o0,l0,f1,f2,f3,by omega⟩
   · exact hx.CU b D e hb
 · cases q:(E1.del r).get id with
   | none=>rfl
   | some o=>
     have:=(m id o q).2
     rw[hx.dead id bE e] at this;simp at this
theorem Uf (E:cU T P)(n:Nat){s:St}(o:ag→Option de)(r:Nat)(e:ag→ag)(h:yq P (ab T P n s)=o (e8 (ab T P n s)))(B:((dG (ab T P n s)).bind (·.dst)).isSome=true)(y:o (e8 (ab T P n s))=some (.val (.ai r 0 len) (e (e8 (ab T P n s)))))(A:len=es.length)(F:(e (e8 (ab T P n s))).get r=some (.arr sz es))(G:Nat.ble (e8 (ab T P n s)).lim r=true)(j:Nat.ble (e8 (ab T P n s)).nx (e (e8 (ab T P n s))).nx=true)(q:SX P Q (eC (fun S=>.val (.lit es) ((e S).del r)) (ab T P n s))):SX P Q s:=
 Uc E n o (.lit es) (fun S=>(e S).del r) h B ⟨_,y⟩ (fun {all op get} u g w fr cs i rest m C D v hs hi=>by
  obtain⟨w', g', x,a,b,c,d⟩:=u _ _ y g w fr cs i rest m C D v hs hi
  grind[Pq,Nat.le_of_ble_eq_true]) (gw j) q
structure av6 (S S1 : ag) (r : Nat) (S2 : ag) : Prop where
 lim : S.lim ≤ r
 afx : S.nx ≤ S1.nx
 av8 : S1.nx ≤ S2.nx
 lm : S2.lim = S1.lim
 get : (∀ k o, S.get k = some o → k < S.nx) → ∀ k o, S2.get k = some o → k ≠ r ∧ S1.get k = some o
 wU : ∀ k, k < S1.lim → S2.get k = (S1.del r).get k
section
variable {P : Program} {α : Type} {enc : α → AV}
end
variable {args : List AV}
theorem fU.alQ {f:FuncId}{S0:ag}(y:S0.nx=S.nx)(v:S0.lim=S.lim)(j:∀ id o0,S0.get id=some o0→∃ o,S.get id=some o∧∀ g l x,wH g l x o→wH g l x o0)(m:∀ id,id<S.lim→S0.get id=S.get id)(h:fU P f args S0 Q):fU P f args S Q:=by
 intro g w xs hx hi
 refine(h g w xs hx ⟨hi.ro,fun id o e=>?_,fun a b o o' l l' e B=>?_,fun id bE=>hi.fresh id (by omega)⟩).mono fun e w' ⟨r,C,g', q,h1,h2,d⟩=>⟨r,C,g', q,h1,h2,⟨d.size,d.os,d.tape,d.output,fun b hb J=>d.jW b hb fun id o l e D A=>?_,fun id o l e D A E=>?_,d.oS,by rw[←y];exact d.nx,d.lim.trans v,fun id bE=>(d.wU id (by omega)).trans (m id bE),fun id bE=>d.vZ id (by omega),fun b c e hb=>?_,fun id bE e=>?_,d.fz⟩⟩
 · obtain⟨o1,u,q2⟩:=j id o e
   obtain⟨l,a,b,c⟩:=hi.ob id o1 u
   grind
 · obtain⟨F,u,_⟩:=j a o e
   obtain⟨G,q2,_⟩:=j b o' B
   exact hi.inj a b F G l l' u q2
 · grind
 · obtain⟨I,o0,K,L,M,N,O⟩:=d.own id o l e (by omega) A E
   grind
 · grind[Ext.CU]
 · refine d.dead id (by omega) ?_
   cases H:S0.get id with
   | none=>rfl
   | some o=>obtain⟨o1,u,_⟩:=j id o H;rw[e] at u;simp at u
def UJ (id:Nat)(a:List Nat)(S:ag):ag:=
 match S.get id with
 | some o=>S.set id (Fv a o)
 | none=>S
theorem fU.prune {f:FuncId}{a:List Nat}(j:S.lim≤id)(h:fU P f args (UJ id a S) Q):fU P f args S Q:=by
 unfold UJ at h
 cases d:S.get id with
 | none=>grind
 | some o=>
   rw[d] at h
   refine fU.alQ (S0:=S.set id (Fv a o)) rfl rfl (fun k o2 e=>?_) (fun k b=>ag.bt (vi _) (by omega)) h
   by_cases b:k=id
   · subst b
     rw[ag.cO (vi _)] at e
     grind[IN]
   · rw[ag.bt (vi _) b] at e
     grind
section
variable {P : Program} {α : Type} {enc : α → AV} {S : ag} {t id : Nat} {k : IntKind} {l : List (Int × List α)} {x c : Int} {V : AV}
end
end
end Go.Eng

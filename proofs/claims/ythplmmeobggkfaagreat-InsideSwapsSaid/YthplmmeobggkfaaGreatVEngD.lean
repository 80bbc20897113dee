/- The machine of abstract runs and its soundness; no conditions. -/
import Derived.Test.YthplmmeobggkfaaGreatVEngC
import Derived.RowKit3
set_option linter.all false
namespace Go.Eng
end Go.Eng
namespace Go.Eng
noncomputable section
inductive av7 where
 | val (d : Option Nat) (v : AV)
 | put (d : Option Nat) (v : AV) (S : ag)
 | pass
def dG : St→Option Oper
 | .run _ F _ _=>match F.mode,F.todo with
   | .run,.ops all (i::_)::_=>match N4 all i with
     | some o=>match tf F all o with
       | some true=>some o
       | _=>none
     | none=>none
   | _,_=>none
 | .fS D _=>match D.os with
   | o::_=>match tf D.F D.ops o with
     | some true=>some o
     | _=>none
   | []=>none
 | _=>none
def aue : Option Nat→Option Nat→Bool
 | some a,some b=>Nat.beq a b
 | none,none=>true
 | _,_=>false
def Tn (s:St)(d:Option Nat):Bool:=
 match dG s with
 | some o=>aue o.dst d
 | none=>false
def ak (v:AV)(b:Option ag):St→St
 | .run fn F S k=>match F.todo with
   | .ops all (i::rest)::td=>match N4 all i with
     | some o=>match b with
       | some b=>.run fn (np F o v all rest td) b k
       | none=>.run fn (np F o v all rest td) S k
     | none=>.bad 60
   | _=>.bad 60
 | .fS D k=>match D.os,b with
   | o::os,none=>.fS (D.next o os (ax D.dr o.after.toList) v D.S.nx [] none) k
   | _,_=>.bad 60
 | _=>.bad 60
def pop (P:Program)(ρ:Operand→Option AV):Op→Option AV
 | .binOp op t x y _=>match ρ x,ρ y with
   | some a,some b=>uH P op t a b
   | _,_=>none
 | .unOp op _ x=>match ρ x with
   | some a=>Tg op a
   | none=>none
 | .indexAddr t x e=>match ρ x,ρ e with
   | some a,some b=>dP P ag.empty t a.qV b
   | _,_=>none
 | .index t x e=>match ρ x,ρ e with
   | some a,some b=>n6 P t a b
   | _,_=>none
 | .convert f g x=>match ρ x with
   | some a=>Fo P f g a
   | none=>none
 | .call c=>match c.callee,re ρ c.args.toList,c.argTypes.toList with
   | .builtin .len,some [x],t::_=>match CW P ag.empty t x.qV with
     | some n=>some (.sc (.int .i64 n))
     | none=>none
   | _,_,_=>none
 | _=>none
variable {P : Program} {t : TypeId} {a : AV}
theorem DS {b r:AV}(h:dP P ag.empty t a b=some r)(S:ag):dP P S t a b=some r:=by
 unfold dP at h ⊢
 split at h<;>try (simp at h;done)
 split at h<;>try (simp at h;done)
 · split at h<;>try (simp at h;done)
   split at h<;>try (simp at h;done)
   · split at h<;>try (simp at h;done)
     rw[ag.fM] at h;simp at h
   · exact h
 · exact h
theorem R9 {n:Nat}(h:CW P ag.empty t a=some n)(S:ag):CW P S t a=some n:=by
 unfold CW at h ⊢
 split at h
 all_goals first
  | exact h
  | (rw[ag.fM] at h;simp at h;done)
  | (simp at h;done)
variable {v : AV}
theorem Qy {ρ:Operand→Option AV}{o:Op}(h:pop P ρ o=some v)(S:ag):gH P ρ S o=some (.val v S)∧cr o=false∧gJ o=none:=by
 unfold pop at h
 split at h<;>try (simp at h;done)
 · split at h<;>try (simp at h;done)
   rename_i a b ha hb
   refine⟨?_,rfl,rfl⟩
   simp only[gH,ha,hb]
   split
   · rename_i c e
     simp only[bj] at c e
     subst c;subst e
     simp[uH] at h
   · rename_i c e
     simp only[bj] at c e
     subst c;subst e
     rw[h];rfl
   · rename_i f
     exact(f a b rfl rfl).elim
 · split at h<;>try (simp at h;done)
   rename_i ha
   exact⟨by simp only[gH,ha,h,mM],rfl,rfl⟩
 · split at h<;>try (simp at h;done)
   rename_i ha hb
   exact⟨by simp only[gH,ha,hb,DS h S,mM],rfl,rfl⟩
 · split at h<;>try (simp at h;done)
   rename_i ha hb
   exact⟨by simp only[gH,ha,hb,h,mM],rfl,rfl⟩
 · split at h<;>try (simp at h;done)
   rename_i ha
   exact⟨by simp only[gH,ha,h,mM],rfl,rfl⟩
 · split at h<;>try (simp at h;done)
   rename_i g hx i
   split at h<;>simp only[bj,reduceCtorEq] at h
   rename_i n f
   subst h
   refine⟨by simp only[gH,xh,hx,g,lh,i,R9 f S],?_,?_⟩
   · simp only[cr,g]
   · simp only[gJ,g]
def G6 (T:FT)(P:Program)(v:AV)(e:Option ag):St→Prop
 | .run _ F S _=>match dG (.run default F S .nil) with
   | some o=>match gJ o.op,e with
     | some c,none=>match rY T F c P with
       | some (g,_,args)=>∀ S,fU P g args S fun r b=>r=.ret v∧b=S
       | none=>False
     | some c,some e=>match rY T F c P with
       | some (g,_,args)=>fU P g args S fun r b=>r=.ret v∧b=e
       | none=>False
     | none,none=>pop P F.eval o.op=some v
     | none,some e=>match cr o.op,o.dst with
       | false,some _=>DH P F.eval S o.op=some (.val v e)
       | false,none=>v=.bO []∧DH P F.eval S o.op=some (.skip e)
       | true,_=>False
   | none=>False
 | .fS D _=>match D.os,e with
   | o::_,none=>match gJ o.op with
     | some c=>match rY T D.F c P with
       | some (g,_,args)=>∀ S,fU P g args S fun r b=>r=.ret v∧b=S
       | none=>False
     | none=>pop P D.F.eval o.op=some v
   | _,_=>False
 | _=>False
section
variable {T : FT} {P : Program} {Qf : gQ → ag → Prop}
variable {S : ag} {k : cG} {o : Oper}
theorem pD {fn:Func}{F:ae}(h:dG (.run fn F S k)=some o) :
  F.mode=.run∧∃ all i rest td,F.todo=.ops all (i::rest)::td∧all[i]? = some o∧tf F all o=some true:=by
 simp only[dG] at h
 split at h<;>try (simp at h;done)
 rename_i all i rest td c e
 split at h<;>try (simp at h;done)
 rename_i o' b
 split at h<;>simp only[bj,reduceCtorEq] at h
 rename_i f
 subst h
 rw[tp] at b
 exact⟨c,all,i,rest,td,e,b,f⟩
theorem zD {D:rO}(h:dG (.fS D k)=some o):∃ os,D.os=o::os∧tf D.F D.ops o=some true:=by
 simp only[dG] at h
 split at h<;>try (simp at h;done)
 rename_i o' os b
 split at h<;>simp only[bj,reduceCtorEq] at h
 rename_i c
 subst h
 exact⟨os,b,c⟩
variable {s : St} {d : Option Nat}
theorem Sa (h:Tn s d=true):∃ o,dG s=some o:=by
 unfold Tn at h
 split at h
 · rename_i o e;exact⟨o,e⟩
 · simp at h
theorem Aq (L:dh T P){f:Option ag}(hh:Tn s d=true)(b:G6 T P v f s)(h:br P Qf (ak v f s)):br P Qf s:=by
 obtain⟨o,A⟩:=Sa hh
 cases s with
 | run fn F S k=>
   obtain⟨H,all,i,rest,td,B,m,y⟩:=pD A
   have K:dG (.run default F S .nil)=some o:=A
   have hs:br P Qf (.run fn (F.after o v all rest td) (f.getD S) k):=by
     simp only[ak,B,tp,m] at h
     cases f with
     | none=>simp only[gr] at h;exact h
     | some f=>simp only[gr] at h;exact h
   simp only[G6,K] at b
   cases j:gJ o.op with
   | some c=>
     have key:∀ g e args,rY T F c P=some (g,e,args)→fU P g args S (fun r C=>r=.ret v∧C=f.getD S)→br P Qf (.run fn F S k):=by
       intro g e args w b
       obtain⟨N,q2⟩:=kL L j w
       refine br.reach (fun G q=>Reach.xU H B m y (fy j) (q2 S) b fun r C O=>?_) hs
       obtain⟨rfl,rfl⟩:=O
       exact q
     cases f with
     | none=>
       rw[j] at b
       simp only at b
       split at b
       · rename_i g e args w;exact key g e args w (b S)
       · exact b.elim
     | some f=>
       rw[j] at b
       simp only at b
       split at b
       · rename_i g e args w;exact key g e args w b
       · exact b.elim
   | none=>
     cases f with
     | none=>
       rw[j] at b
       simp only at b
       obtain⟨I,a2,_⟩:=Qy b S
       exact br.reach (fun G q=>Reach.Og H B m y a2 I q) hs
     | some f=>
       rw[j] at b
       simp only at b
       split at b
       · rename_i z J
         simp only[na] at b
         exact br.reach (fun G q=>Reach.Og H B m y z b q) hs
       · rename_i z J
         simp only[na] at b
         obtain⟨rfl,b⟩:=b
         exact br.reach (fun G q=>Reach.Qr H B m y z b q) hs
       · exact b.elim
 | fS D k=>
   obtain⟨os,u,y⟩:=zD A
   have x:=Ey D.S.nx D.S.nx
   cases f with
   | some f=>simp only[ak,u] at h;exact h.elim
   | none=>
     simp only[ak,u] at h
     simp only[G6,u] at b
     have M:nV P D.ops o D.F.get ⟨D.S.nx,D.S.nx,.nil⟩ v ⟨D.S.nx,D.S.nx,.nil⟩→br P Qf (.fS D k):=by
       intro E
       refine fC.mono (fun Q q=>?_) h
       refine qF.step q u rfl (fun Y S0 E0 W v0 ch J R U=>?_)
       have V:=U _ v _ E rfl fun id ob e=>by rw[x] at e;simp at e
       have:=J.news R u (ids:=[]) (nw:=[]) (Eo:=none) E V rfl (.inr rfl) (fun id ob e=>by rw[x] at e;simp at e) (fun id ob e=>by rw[x] at e;simp at e) (fun id e _=>by simp at e) (fun id e _ X=>by simp at e)
         (fun id ob e=>by simp at e) (.inr ⟨rfl,x⟩)
       exact this
     cases j:gJ o.op with
     | some c=>
       rw[j] at b
       simp only at b
       cases w:rY T D.F c P with
       | none=>rw[w] at b;exact b.elim
       | some p=>
         obtain⟨g,e,args⟩:=p
         rw[w] at b
         obtain⟨N,q2⟩:=kL L j w
         exact M (nV.call y (fy j) (q2 _) (b _))
     | none=>
       rw[j] at b
       simp only at b
       obtain⟨I,a2,_⟩:=Qy b ⟨D.S.nx,D.S.nx,.nil⟩
       exact M (nV.val y a2 I)
 | done r S=>simp[dG] at A
 | fork fn k l=>simp[dG] at A
 | bad n=>simp[dG] at A
theorem Ce (c:dh T P){f:Nat}{args:List AV}(h:br P Qf (St.start T f args S)):fU P f args S Qf:=by
 unfold St.start at h
 cases b:FT.look T f with
 | none=>rw[b] at h;exact h.elim
 | some e=>
   rw[b] at h
   obtain⟨t1,t2,_,_⟩:=c f e b
   exact fU.qi e.mask t1 t2 h
end
end
end Go.Eng
namespace Go.Eng
noncomputable section
section
variable (σ : Nat → Nat)
mutual
def AV.aY : AV→AV
 | .sc v=>.sc v
 | .agg cs=>.agg (eB cs)
 | .ft=>.ft
 | .an=>.an
 | .lit es=>.lit (eB es)
 | .dN cs=>.dN (eB cs)
 | .ptr id i j=>.ptr (σ id) i j
 | .ai id o l=>.ai (σ id) o l
 | .cQ id=>.cQ (σ id)
 | .fn f a b=>.fn f (eB a) (eB b)
 | .eu t v=>.eu t v.aY
 | .bO c=>.bO (eB c)
 | .rV id=>.rV (σ id)
 | .clip v=>.clip v.aY
 | .top=>.top
def eB : List AV→List AV
 | []=>[]
 | v::l=>v.aY::eB l
end
end
theorem Ar (σ:Nat→Nat)(l:List AV):eB σ l=l.map (AV.aY σ):=by
 induction l<;>grind[eB]
theorem bm (σ:Nat→Nat)(l:List AV):(eB σ l).length=l.length:=by rw[Ar];simp
theorem iX (σ:Nat→Nat)(l:List AV)(k:Nat):(eB σ l)[k]? = l[k]?.map (AV.aY σ):=by rw[Ar];simp
structure j0 (σ : Nat → Nat) (g g2 : Gh) : Prop where
 ro : g.ro = g2.ro
 ph : ∀ id, g.ph id = g2.ph (σ id)
theorem AV.gu (σ:Nat→Nat)(v:AV):(v.aY σ).cells=eB σ v.cells:=by
 cases v<;>simp[AV.aY,AV.cells,eB]
theorem VR.aY {σ:Nat→Nat}{g g2:Gh}(h:j0 σ g g2){v:AV}{x:Value}(w:VR g v x):VR g2 (v.aY σ) x:=by
 have key:∀ {l:List AV} {k:Nat} {a:AV},(eB σ l)[k]? = some a→∃ b,l[k]? = some b∧a=b.aY σ:=by
   intro l k a e
   rw[iX] at e
   grind
 induction w with
 | sc hh=>rw[AV.aY];exact .sc hh
 | agg d _ f=>
   rw[AV.aY]
   refine .agg (by rw[bm];exact d) fun k a x e m=>?_
   grind
 | ft=>rw[AV.aY];exact .ft
 | an=>rw[AV.aY];exact .an
 | @lit es b o sz cap c s hs hb n _ f=>
   rw[AV.aY]
   have e:=bm σ es
   have:VR g2 (.lit (eB σ es)) (.slice (some ⟨b,o,none⟩) (eB σ es).length cap):=by
    refine .lit (by rw[←h.ro];exact s) ?_ (by rw[e];exact hb) (by rw[e];exact n) fun i j C a x p q r=>?_
    · intro a ha
      obtain⟨k,y⟩:=hU ha
      obtain⟨b,p,rfl⟩:=key y
      rw[AV.gu,bm]
      exact hs b (vj p)
    · obtain⟨b,t,rfl⟩:=key p
      rw[AV.gu] at q
      obtain⟨z,A,rfl⟩:=key q
      exact f i j b z x t A r
   grind
 | jV=>rw[AV.aY,eB];exact .jV
 | dN s hb _ f=>
   rw[AV.aY]
   refine .dN (by rw[←h.ro];exact s) (by rw[bm];exact hb) fun j a x p q=>?_
   obtain⟨b,t,rfl⟩:=key p
   exact f j b x t q
 | ptr d=>rw[AV.aY];exact .ptr (by rw[←h.ph];exact d)
 | ai d B hb=>rw[AV.aY];exact .ai (by rw[←h.ph];exact d) B hb
 | hM d hb=>rw[AV.aY];exact .hM (by rw[←h.ph];exact d) hb
 | cQ d=>rw[AV.aY];exact .cQ (by rw[←h.ph];exact d)
 | fn hx hy _ _ f u=>
   rw[AV.aY]
   refine .fn (by rw[bm];exact hx) (by rw[bm];exact hy) (fun k a x e m=>?_) (fun k a x e m=>?_)
   · obtain⟨b,p,rfl⟩:=key e;exact f k b x p m
   · obtain⟨b,p,rfl⟩:=key e;exact u k b x p m
 | eu _ f=>rw[AV.aY];exact .eu f
 | bO d _ f=>
   rw[AV.aY]
   refine .bO (by rw[bm];exact d) fun k a x e m=>?_
   obtain⟨b,p,rfl⟩:=key e
   exact f k b x p m
 | rV d=>rw[AV.aY];exact .rV (by rw[←h.ph];exact d)
 | clip _ f=>rw[AV.aY];exact .clip f
 | top=>rw[AV.aY];exact .top
theorem VR.iJ {σ:Nat→Nat}{g g2:Gh}(h:j0 σ g g2){u:AV}{x:Value}(w:VR g2 u x):∀ {v:AV},u=v.aY σ→VR g v x:=by
 have d:∀ {l:List AV} {k:Nat} {a:AV},l[k]? = some a→(eB σ l)[k]? = some (a.aY σ):=by
   grind[iX]
 induction w with
 | sc hh=>intro v e;cases v<;>simp[AV.aY] at e;subst e;exact .sc hh
 | agg f _ m=>
   intro v e;cases v<;>simp[AV.aY] at e;subst e
   exact .agg (by rw[←f,bm]) fun k a x p q=>m k _ x (d p) q rfl
 | ft=>intro v e;cases v<;>simp[AV.aY] at e;exact .ft
 | an=>intro v e;cases v<;>simp[AV.aY] at e;exact .an
 | @lit es b o sz cap c s hs hb n _ m=>
   intro v e;cases v<;>simp[AV.aY] at e;subst e
   rename_i es hh
   have e:=bm σ es
   rw[e] at hb n ⊢
   refine .lit (by rw[h.ro];exact s) (fun a ha=>?_) hb n fun i j A a x p q r=>?_
   · obtain⟨k,y⟩:=hU ha
     have:=hs _ (vj (d y))
     rwa [AV.gu,bm] at this
   · exact m i j _ _ x (d p) (by rw[AV.gu];exact d q) r rfl
 | jV=>intro v e;cases v<;>simp[AV.aY] at e;rename_i es;cases es<;>simp[eB] at e;exact .jV
 | dN s hb _ m=>
   intro v e;cases v<;>simp[AV.aY] at e;subst e
   exact .dN (by rw[h.ro];exact s) (by rw[bm] at hb;exact hb) fun j a x p q=>m j _ x (d p) q rfl
 | ptr f=>intro v e;cases v<;>simp[AV.aY] at e;obtain⟨rfl,rfl,rfl⟩:=e;exact .ptr (by rw[h.ph];exact f)
 | ai f z hb=>intro v e;cases v<;>simp[AV.aY] at e;obtain⟨rfl,rfl,rfl⟩:=e;exact .ai (by rw[h.ph];exact f) z hb
 | hM f hb=>intro v e;cases v<;>simp[AV.aY] at e;obtain⟨rfl,rfl,rfl⟩:=e;exact .hM (by rw[h.ph];exact f) hb
 | cQ f=>intro v e;cases v<;>simp[AV.aY] at e;subst e;exact .cQ (by rw[h.ph];exact f)
 | fn hx hy _ _ m t=>
   intro v e;cases v<;>simp[AV.aY] at e;obtain⟨rfl,rfl,rfl⟩:=e
   exact .fn (by rw[bm] at hx;exact hx) (by rw[bm] at hy;exact hy) (fun k a x p q=>m k _ x (d p) q rfl) (fun k a x p q=>t k _ x (d p) q rfl)
 | eu _ m=>intro v e;cases v<;>simp[AV.aY] at e;obtain⟨rfl,rfl⟩:=e;exact .eu (m rfl)
 | bO f _ m=>
   intro v e;cases v<;>simp[AV.aY] at e;subst e
   exact .bO (by rw[←f,bm]) fun k a x p q=>m k _ x (d p) q rfl
 | rV f=>intro v e;cases v<;>simp[AV.aY] at e;subst e;exact .rV (by rw[h.ph];exact f)
 | clip _ m=>intro v e;cases v<;>simp[AV.aY] at e;subst e;exact .clip (m rfl)
 | top=>intro v e;cases v<;>simp[AV.aY] at e;exact .top
def jt (σ:Nat→Nat)(l:List (Nat×AV)):List (Nat×AV):=l.map fun p=>(p.1,p.2.aY σ)
theorem EB (σ:Nat→Nat)(l:List (Nat×AV))(t:Nat):lk (jt σ l) t=(lk l t).map (AV.aY σ):=by
 induction l with
 | nil=>simp[jt,qX]
 | cons a l c=>
   obtain⟨k,v⟩:=a
   simp only[jt,dF,gT] at *
   grind
def aL.aY (σ:Nat→Nat):aL→aL
 | .arr sz es=>.arr sz (eB σ es)
 | .mp c=>.mp (c.map fun p=>(p.1.aY σ,p.2.aY σ))
 | .lp st pending fn n mask env params assign body=>.lp st pending fn n mask (jt σ env) params assign body
 | .df o=>.df o
 | .si s p=>.si s p
 | .mi m since seen=>.mi (σ m) since seen
 | .mz=>.mz
theorem LR.aY {σ:Nat→Nat}{g g2:Gh}(h:j0 σ g g2){l:List (Nat×AV)}{tmps:Array Value}(d:LR g l tmps):LR g2 (jt σ l) tmps:=by
 intro t v e
 rw[EB] at e
 cases c:lk l t with
 | none=>grind
 | some u=>rw[c] at e;simp at e;subst e;obtain⟨x,a,b⟩:=d t u c;exact⟨x,a,b.aY h⟩
theorem LR.iJ {σ:Nat→Nat}{g g2:Gh}(h:j0 σ g g2){l:List (Nat×AV)}{tmps:Array Value}(c:LR g2 (jt σ l) tmps):LR g l tmps:=by
 intro t v e
 obtain⟨x,a,b⟩:=c t (v.aY σ) (by rw[EB,e];rfl)
 exact⟨x,a,b.iJ h rfl⟩
theorem wH.aY {σ:Nat→Nat}{g g2:Gh}(h:j0 σ g g2){l:Loc}{x:Option Obj}{o:aL}(f:wH g l x o):wH g2 l x (o.aY σ):=by
 cases o with
 | arr sz es=>
   obtain⟨c,t,h1,h2,h3,h4,w,u⟩:=f
   refine⟨c,t,h1,h2,h3,by rw[bm];exact h4,?_,?_⟩
   · intro e A
     obtain⟨k,B⟩:=hU A
     rw[iX] at B
     cases hb:es[k]? with
     | none=>grind
     | some b=>grind[AV.gu,bm]
   · intro i j e a y p q r
     rw[iX] at p
     cases hb:es[i]? with
     | none=>grind
     | some b=>
       rw[hb] at p;simp at p;subst p
       rw[AV.gu,iX] at q
       cases z:b.cells[j]? with
       | none=>grind
       | some d=>rw[z] at q;simp at q;subst q;exact(u i j b d y hb z r).aY h
 | mp v=>
   obtain⟨es,k,h1,h2,h3,h4⟩:=f
   refine⟨es,k,h1,by simpa using h2,fun i F e p q=>?_,h4⟩
   rw[sl] at p
   cases hb:v[i]? with
   | none=>rw[hb] at p;simp at p
   | some b=>rw[hb] at p;simp at p;subst p;exact⟨(h3 i b e hb q).1.aY h,(h3 i b e hb q).2.aY h⟩
 | lp st pending fn n mk env params assign body=>
   obtain⟨lo,h1,h2,h3,h4,w,u,C,D,E⟩:=f
   exact⟨lo,h1,h2,h3,h4,w,u.aY h,C,D,E⟩
 | df o=>exact f
 | si s p=>exact f
 | mi m since seen=>obtain⟨lm,a,b,c⟩:=f;exact⟨lm,by rw[←h.ph];exact a,b,c⟩
 | mz=>exact f
theorem wH.iJ {σ:Nat→Nat}{g g2:Gh}(h:j0 σ g g2){l:Loc}{x:Option Obj}{o:aL}(d:wH g2 l x (o.aY σ)):wH g l x o:=by
 cases o with
 | arr sz es=>
   obtain⟨c,t,h1,h2,h3,h4,f,u⟩:=d
   refine⟨c,t,h1,h2,h3,by rw[bm] at h4;exact h4,?_,?_⟩
   · intro e w
     obtain⟨k,z⟩:=hU w
     have:=f (e.aY σ) (vj (by rw[iX,z];rfl))
     rwa [AV.gu,bm] at this
   · intro i j e a y p q r
     exact(u i j (e.aY σ) (a.aY σ) y (by rw[iX,p];rfl) (by rw[AV.gu,iX,q];rfl) r).iJ h rfl
 | mp D=>
   obtain⟨es,k,h1,h2,h3,h4⟩:=d
   refine⟨es,k,h1,by simpa using h2,fun i v e p q=>?_,h4⟩
   have:=h3 i (v.1.aY σ,v.2.aY σ) e (by grind) q
   exact⟨this.1.iJ h rfl,this.2.iJ h rfl⟩
 | lp st pending fn n mk env params assign body=>
   obtain⟨lo,h1,h2,h3,h4,f,u,A,B,C⟩:=d
   exact⟨lo,h1,h2,h3,h4,f,u.iJ h,A,B,C⟩
 | df o=>exact d
 | si s p=>exact d
 | mi m since seen=>obtain⟨lm,a,b,c⟩:=d;exact⟨lm,by rw[h.ph];exact a,b,c⟩
 | mz=>exact d
def bf.aY (σ:Nat→Nat):bf→bf
 | .zb id=>.zb (σ id)
 | .nX id=>.nX (σ id)
 | x=>x
def EU (σ:Nat→Nat)(l:List (AV×Bool)):List (AV×Bool):=l.map fun p=>(p.1.aY σ,p.2)
def dq.aY (σ:Nat→Nat):dq→dq
 | .panicking l=>.panicking (EU σ l)
 | m=>m
def gS.aY (σ:Nat→Nat):gS→gS
 | .call fn cap args=>.call fn (eB σ cap) (eB σ args)
 | .mQ id=>.mQ (σ id)
 | .uC bs=>.uC bs
def ae.aY (σ:Nat→Nat)(F:ae):ae:=
 match F with
 | ⟨fn,n,mask,loc,qS,todo,defers,mode,kind,cm,round⟩=>⟨fn,n,mask,jt σ loc,jt σ qS,todo.map (bf.aY σ),defers.map (gS.aY σ),mode.aY σ,kind,cm.aY σ,round.map σ⟩
theorem ae.EC (σ:Nat→Nat)(F:ae)(t:Nat):(F.aY σ).get t=(F.get t).map (AV.aY σ):=by
 obtain⟨fn,n,mask,loc,qS,todo,defers,mode,kind,cm,round⟩:=F
 grind[ae.aY,ae.get,EB]
section
variable {σ : Nat → Nat} {g g2 : Gh}
theorem hJ.aY (h:j0 σ g g2){l:List AV}{xs:Array Value}(c:hJ g l xs):hJ g2 (eB σ l) xs:=by
 refine⟨by rw[bm];exact c.1,fun k a x e d=>?_⟩
 rw[iX] at e
 cases hb:l[k]? with
 | none=>grind
 | some b=>rw[hb] at e;simp at e;subst e;exact(c.2 k b x hb d).aY h
theorem hJ.iJ (h:j0 σ g g2){l:List AV}{xs:Array Value}(c:hJ g2 (eB σ l) xs):hJ g l xs:=
 ⟨by rw[←c.1,bm],fun k a x e d=>(c.2 k (a.aY σ) x (by rw[iX,e];rfl) d).iJ h rfl⟩
theorem nA.aY (h:j0 σ g g2){l:List bf}{m:List Item}(c:nA g l m):nA g2 (l.map (bf.aY σ)) m:=by
 induction c with
 | nil=>exact .nil
 | cons hh _ d=>
   refine .cons ?_ d
   cases hh with
   | zb c=>exact .zb (by rw[←h.ph];exact c)
   | nX c=>exact .nX (by rw[←h.ph];exact c)
   | code=>exact .code
   | inBlock=>exact .inBlock
   | inLoop=>exact .inLoop
   | inScope=>exact .inScope
   | ops h=>exact .ops h
   | NY=>exact .NY
theorem nA.iJ (h:j0 σ g g2):∀ {l:List bf} {m:List Item},nA g2 (l.map (bf.aY σ)) m→nA g l m:=by
 intro l
 induction l with
 | nil=>intro m d;cases d;exact .nil
 | cons a l e=>
   intro m d
   simp only[dF] at d
   cases d with
   | cons hh f=>
     refine .cons ?_ (e f)
     cases a with
     | zb id=>cases hh with | zb d=>exact .zb (by rw[h.ph];exact d)
     | nX id=>cases hh with | nX d=>exact .nX (by rw[h.ph];exact d)
     | code c=>cases hh;exact .code
     | inBlock c=>cases hh;exact .inBlock
     | inLoop c=>cases hh;exact .inLoop
     | inScope c=>cases hh;exact .inScope
     | ops a b=>cases hh with | ops i=>exact .ops i
     | NY=>cases hh;exact .NY
theorem hZ.aY (h:j0 σ g g2){l:List (AV×Bool)}{m:List PanicEntry}(c:hZ g l m):hZ g2 (EU σ l) m:=by
 induction c with
 | nil=>exact .nil
 | cons d _ e=>exact .cons (d.aY h) e
theorem hZ.iJ (h:j0 σ g g2):∀ {l:List (AV×Bool)} {m:List PanicEntry},hZ g2 (EU σ l) m→hZ g l m:=by
 intro l
 induction l with
 | nil=>intro m c;cases c;exact .nil
 | cons a l d=>
   intro m c
   obtain⟨v,b⟩:=a
   simp only[EU,dF] at c
   cases c with
   | cons e f=>exact .cons (e.iJ h rfl) (d f)
theorem mS.aY (h:j0 σ g g2){a:dq}{b:FrameMode}(c:mS g a b):mS g2 (a.aY σ) b:=by
 cases c with
 | run=>exact .run
 | returning=>exact .returning
 | panicking d=>exact .panicking (d.aY h)
theorem mS.iJ (h:j0 σ g g2){a:dq}{b:FrameMode}(c:mS g2 (a.aY σ) b):mS g a b:=by
 cases a with
 | run=>cases c;exact .run
 | returning=>cases c;exact .returning
 | panicking l=>cases c with | panicking d=>exact .panicking (d.iJ h)
theorem jZ.aY {P:Program}(h:j0 σ g g2){l:List gS}{m:List Deferred}(d:jZ P g l m):jZ P g2 (l.map (gS.aY σ)) m:=by
 induction d with
 | nil=>exact .nil
 | cons e ha hb _ c=>exact .cons (e.aY h) (ha.aY h) hb c
 | mQ d _ c=>exact .mQ (by rw[←h.ph];exact d) c
 | uC _ c=>exact .uC c
theorem jZ.iJ {P:Program}(h:j0 σ g g2):∀ {l:List gS} {m:List Deferred},jZ P g2 (l.map (gS.aY σ)) m→jZ P g l m:=by
 intro l
 induction l with
 | nil=>intro m c;cases c;exact .nil
 | cons a l e=>
   intro m c
   simp only[dF] at c
   cases a with
   | call fn cap args=>cases c with | cons f ha hb d=>exact .cons (f.iJ h) (ha.iJ h) hb (e d)
   | mQ id=>cases c with | mQ c d=>exact .mQ (by rw[h.ph];exact c) (e d)
   | uC bs=>cases c with | uC d=>exact .uC (e d)
variable {a b : Option Nat}
theorem qY.aY (h:j0 σ g g2)(c:qY g a b):qY g2 (a.map σ) b:=by
 cases a<;>cases b<;>first | exact c | exact c.elim | (obtain⟨l,e,d⟩:=c;exact⟨l,by rw[←h.ph];exact e,d⟩)
theorem qY.iJ (h:j0 σ g g2)(c:qY g2 (a.map σ) b):qY g a b:=by
 cases a<;>cases b<;>first | exact c | exact c.elim | (obtain⟨l,e,d⟩:=c;exact⟨l,by rw[h.ph];exact e,d⟩)
theorem nk.aY {P:Program}(h:j0 σ g g2){F:ae}{fr:Frame}(hf:nk P g F fr):nk P g2 (F.aY σ) fr:=by
 refine⟨by cases F;exact hf.fn,by cases F;exact hf.size,fun t v e=>?_,by cases F;exact hf.todo.aY h,by cases F;exact hf.defers.aY h,by cases F;exact hf.mode.aY h,by cases F;exact hf.kind,by cases F;exact qY.aY h hf.round⟩
 rw[ae.EC] at e
 cases c:F.get t with
 | none=>grind
 | some u=>rw[c] at e;simp at e;subst e;obtain⟨x,a,b⟩:=hf.get t u c;exact⟨x,a,b.aY h⟩
theorem nk.iJ {P:Program}(h:j0 σ g g2){F:ae}{fr:Frame}(hf:nk P g2 (F.aY σ) fr):nk P g F fr:=by
 refine⟨by cases F;exact hf.fn,by cases F;exact hf.size,fun t v e=>?_,by cases F;exact hf.todo.iJ h,by cases F;exact hf.defers.iJ h,by cases F;exact hf.mode.iJ h,by cases F;exact hf.kind,by cases F;exact qY.iJ h hf.round⟩
 obtain⟨x,a,b⟩:=hf.get t (v.aY σ) (by rw[ae.EC,e];rfl)
 exact⟨x,a,b.iJ h rfl⟩
theorem wR.aY (h:j0 σ g g2){F:ae}{e cs:List Frame}(f:wR g F e cs):wR g2 (F.aY σ) e cs:=by
 cases F
 unfold wR ae.aY at *
 simp only at *
 split at f
 · obtain⟨c,rest,m,a,b,d⟩:=f;exact⟨c,rest,m,a,b,d.aY h⟩
 · exact f
theorem wR.iJ (h:j0 σ g g2){F:ae}{e cs:List Frame}(f:wR g2 (F.aY σ) e cs):wR g F e cs:=by
 cases F
 unfold wR ae.aY at *
 simp only at *
 split at f
 · obtain⟨c,rest,m,a,b,d⟩:=f;exact⟨c,rest,m,a,b,d.iJ h⟩
 · exact f
end
theorem PT.Pg (f:Nat→Option aL):∀ n:Nat,∃ t:PT,∀ i,PT.get dep t i=if i<n then f i else none:=by
 intro n
 induction n with
 | zero=>exact⟨.nil,fun i=>by simp[PT.get_nil]⟩
 | succ n c=>
   obtain⟨t,d⟩:=c
   refine⟨PT.set dep t n (f n),fun i=>?_⟩
   by_cases hi:i=n
   · subst hi;rw[PT.cO,if_pos (by omega)]
   · rw[PT.tz _ _ _ _ _ (Ne.symm hi),d]
     grind
structure Ep (σ : Nat → Nat) (S S2 : ag) : Prop where
 get : ∀ id o, S.get id = some o → S2.get (σ id) = some (o.aY σ)
 lim : ∀ id, S.lim ≤ id → S2.lim ≤ σ id
 hi : ∀ k, σ (S.nx + k) = S2.nx + k
 lo : ∀ id, id < S.nx → σ id < S2.nx
theorem Reach.aY {P:Program}{σ:Nat→Nat}(V:∀ a b,σ a=σ b→a=b){F:ae}{S O:ag}{G G2:ae→ag→Prop}(hs:Ep σ S O)(h:Reach P F S G)
  (hG:∀ F' K C,G F' K→Ep σ K C→G2 (F'.aY σ) C):Reach P (F.aY σ) O G2:=by
 intro g2 w fr cs0 cs hf hcs hi
 obtain⟨g,hg⟩:∃ g:Gh,g={ ro:=g2.ro,ph:=fun id=>g2.ph (σ id) }:=⟨_,rfl⟩
 have d:j0 σ g g2:=by rw[hg];exact⟨rfl,fun _=>rfl⟩
 have R:Inv S g w:=by
  refine⟨fun b c e=>hi.ro b c (by rw[←d.ro];exact e),fun id o e=>?_,fun id v o o' l l' e M p p' q=>?_,fun id bE=>?_⟩
  · obtain⟨l,a,b,c⟩:=hi.ob (σ id) _ (hs.get id o e)
    exact⟨l,by rw[d.ph];exact a,by rw[d.ro];exact b,c.iJ d⟩
  · exact V _ _ (hi.inj (σ id) (σ v) _ _ l l' (hs.get _ _ e) (hs.get _ _ M) (by rw[←d.ph];exact p) (by rw[←d.ph];exact p') q)
  · rw[d.ph]
    refine hi.fresh _ ?_
    have:=hs.hi (id-S.nx)
    rw[show S.nx+(id-S.nx)=id from by omega] at this
    omega
 obtain⟨F', K,g', w', fr', cs', q,p1,p2,p3,p4,p5,p6,B,p8⟩:=h g w fr cs0 cs (hf.iJ d) (hcs.iJ d) R
 have hnx:=B.nx
 obtain ⟨r,N,A⟩:∃ r:Nat→Option Nat,(∀ id,(S.nx≤id∨∃ o,S.get id=some o)→r (σ id)=some id)∧∀ a id,r a=some id→a=σ id∧(S.nx≤id∨∃ o,S.get id=some o):=by
  classical
  refine⟨fun a=>if h:∃ id,σ id=a∧(S.nx≤id∨∃ o,S.get id=some o) then some (Classical.choose h) else none,fun id hr=>?_,fun a id e=>?_⟩
  · have T:∃ v,σ v=σ id∧(S.nx≤v∨∃ o,S.get v=some o):=⟨id,rfl,hr⟩
    simp only[dif_pos T]
    exact congrArg some (V _ _ (Classical.choose_spec T).1)
  · by_cases T:∃ v,σ v=a∧(S.nx≤v∨∃ o,S.get v=some o)
    · simp only[dif_pos T] at e
      have:=Classical.choose_spec T
      simp only[bj] at e
      rw[e] at this;exact⟨this.1.symm,this.2⟩
    · simp only[dif_neg T] at e;simp at e
 have hrel:∀ id o,K.get id=some o→(S.nx≤id∨∃ o,S.get id=some o):=by
  intro id o e
  rcases jO id S.nx with u | H
  · cases hx:S.get id with
    | none=>rw[B.dead id u hx] at e;simp at e
    | some o0=>exact .inr ⟨o0,rfl⟩
  · exact .inl H
 obtain⟨n2,hn2⟩:∃ n,n=O.nx+(K.nx-S.nx):=⟨_,rfl⟩
 obtain⟨t,ht⟩:=PT.Pg (fun a=>match r a with | some id=>(K.get id).map (aL.aY σ) | none=>O.get a) n2
 obtain⟨C,D⟩:∃ s:ag,s=⟨n2,O.lim,t⟩:=⟨_,rfl⟩
 have W:∀ a,C.get a=if a<n2 then(match r a with | some id=>(K.get id).map (aL.aY σ) | none=>O.get a) else none:=by
  intro a;rw[D];exact ht a
 have hσ:∀ id,id<K.nx→σ id<n2:=by
  intro id bE
  by_cases hl:id<S.nx
  · have:=hs.lo id hl;omega
  · have:=hs.hi (id-S.nx)
    rw[show S.nx+(id-S.nx)=id from by omega] at this
    omega
 have get1:∀ id o,K.get id=some o→C.get (σ id)=some (o.aY σ):=by
  intro id o e
  rw[W,if_pos (hσ id (p6.lO e)),N id (hrel id o e)]
  simp[e]
 have L:∀ a o,C.get a=some o→(∃ id o', a=σ id∧K.get id=some o' ∧ o=o'.aY σ)∨(r a=none∧O.get a=some o):=by
  intro a o e
  rw[W] at e
  split at e<;>try (simp at e;done)
  cases E:r a with
  | none=>rw[E] at e;exact .inr ⟨rfl,e⟩
  | some id=>
    rw[E] at e
    simp only at e
    cases hb:K.get id with
    | none=>rw[hb] at e;simp at e
    | some o' => rw[hb] at e;simp at e;exact .inl ⟨id,o', (A a id E).1,hb,e.symm⟩
 have hsim:Ep σ K C:=by
  refine⟨get1,by rw[B.lim,D];exact hs.lim,fun k=>?_,fun id bE=>by rw[D];exact hσ id bE⟩
  have:=hs.hi (K.nx-S.nx+k)
  rw[show S.nx+(K.nx-S.nx+k)=K.nx+k from by omega] at this
  rw[this,D];show _=n2+k;omega
 obtain⟨I,i⟩:∃ g:Gh,g={ ro:=g'.ro,ph:=fun a=>match r a with | some id=>g'.ph id | none=>g2.ph a }:=⟨_,rfl⟩
 have U:g'.ro=I.ro:=by rw[i]
 have m:j0 σ g' I:=by
  refine⟨U,fun id=>?_⟩
  rw[i]
  simp only
  cases E:r (σ id) with
  | some v=>rw[V _ _ (A _ _ E).1]
  | none=>
    simp only
    rw[←d.ph]
    rcases jO id S.nx with u | H
    · exact B.vZ id u
    · rw[N id (.inl H)] at E;simp at E
 have hle:Gh.le g2 I:=by
  refine⟨fun k c e=>?_,fun a l e=>?_⟩
  · rw[←U];exact B.oS.ro k c (by rw[d.ro];exact e)
  · cases E:r a with
    | none=>rw[i];simp only[E];exact e
    | some id=>
      rw[i];simp only[E]
      have:=(A a id E).1
      subst this
      exact B.oS.ph id l (by rw[d.ph];exact e)
 have other:∀ a o l,O.get a=some o→r a=none→g2.ph a=some l→∀ id o', S.get id=some o' → ∀ l', g.ph id=some l' → l'.cZ≠l.cZ:=by
  intro a o l e ha hl id o' M l' hl' heq
  have:=hi.inj (σ id) a _ o l' l (hs.get _ _ M) e (by rw[←d.ph];exact hl') hl heq
  rw[←this,N id (.inr ⟨o', M⟩)] at ha;simp at ha
 have inv' : Inv C I w' := by
  refine⟨fun b c e=>p6.ro b c (by rw[U];exact e),fun a o e=>?_,fun a a' o o' l l' e M q Q hb=>?_,fun a ha=>?_⟩
  · rcases L a o e with⟨id,o', rfl,M,rfl⟩ | ⟨ha,M⟩
    · obtain⟨l,x,y,z⟩:=p6.ob id o' M
      exact⟨l,by rw[←m.ph];exact x,by rw[←U];exact y,z.aY m⟩
    · obtain⟨l,x,y,z⟩:=hi.ob a o M
      have u:=z.lt
      have hk:w'.heap[l.cZ]? = w.heap[l.cZ]? := B.jW l.cZ u fun id o' l' Y _ Z=>other a o l M ha x id o' Y l' Z
      refine⟨l,hle.ph _ _ x,?_,by rw[hk];exact z.mono hle⟩
      cases hr:I.ro l.cZ with
      | none=>rfl
      | some c=>
        rcases B.CU l.cZ c (by rw[U];exact hr) u with f | ⟨J,o0,l0,Y,f2,Z,f4⟩
        · rw[d.ro,y] at f;simp at f
        · exact absurd f4 (other a o l M ha x J o0 Y l0 Z)
  ·
    have mix:∀ id a o o' l l', K.get id=some o→O.get a=some o' → r a=none→I.ph (σ id)=some l→I.ph a=some l' → l.cZ=l'.cZ→False:=by
      intro id a o o' l l' e M ha q Q hb
      rw[←m.ph] at q
      have Q:g2.ph a=some l' := by rw[i] at Q;simp only[ha] at Q;exact Q
      obtain⟨l1,x,y,z⟩:=hi.ob a o' M
      rw[Q] at x;simp only[bj] at x;subst x
      have u:=z.lt
      rcases jO id S.lim with j | j
      · have e0:S.get id=some o:=by rw[←B.wU id j];exact e
        exact other a o' l' M ha Q id o e0 l (by rw[←B.vZ id (R.lO e0)];exact q) hb
      · obtain⟨J,o0,l0,Y,f2,Z,f4⟩:=B.own id o l e j q (by rw[hb];exact u)
        exact other a o' l' M ha Q J o0 Y l0 Z (f4.trans hb)
    rcases L a o e with⟨id,o1,rfl,e1,rfl⟩ | ⟨ha,e1⟩<;>rcases L a' o' M with⟨v,o2,rfl,X,rfl⟩ | ⟨ha', X⟩
    · rw[p6.inj id v o1 o2 l l' e1 X (by rw[m.ph];exact q) (by rw[m.ph];exact Q) hb]
    · exact(mix id a' _ _ l l' e1 X ha' q Q hb).elim
    · exact(mix v a _ _ l' l X e1 ha Q q hb.symm).elim
    · have q1:g2.ph a=some l:=by rw[i] at q;simp only[ha] at q;exact q
      have q2:g2.ph a' = some l' := by rw[i] at Q;simp only[ha'] at Q;exact Q
      exact hi.inj a a' o o' l l' e1 X q1 q2 hb
  · have ha:n2≤a:=by rw[D] at ha;exact ha
    cases E:r a with
    | none=>rw[i];simp only[E];exact hi.fresh a (by omega)
    | some id=>
      have:=(A a id E).1
      rw[i];simp only[E]
      refine p6.fresh id ?_
      rcases jO id K.nx with u | H
      · have:=hσ id u;omega
      · exact H
 have ext' : Ext O g2 w C I w' := by
  refine⟨B.size,B.os,B.tape,B.output,fun b hb hne=>B.jW b hb fun id o l e1 X e3=>?_,fun a o l e1 X e3 e4=>?_,hle,by rw[D];show O.nx≤n2;omega,by rw[D],fun a ha=>?_,fun a ha=>?_,fun b c e hb=>?_,fun a ha e=>?_,B.fz⟩
  · exact hne (σ id) _ l (hs.get id o e1) (hs.lim id X) (by rw[←d.ph];exact e3)
  · rcases L a o e1 with⟨id,o1,rfl,f,rfl⟩ | ⟨ha,f⟩
    · rcases jO id S.lim with j | j
      · have e0:S.get id=some o1:=by rw[←B.wU id j];exact f
        exact⟨σ id,_,l,hs.get _ _ e0,X,by rw[←d.ph,←B.vZ id (R.lO e0),m.ph];exact e3,rfl⟩
      · obtain⟨J,o0,l0,Y,f2,Z,f4⟩:=B.own id o1 l f j (by rw[m.ph];exact e3) e4
        exact⟨σ J,_,l0,hs.get _ _ Y,hs.lim J f2,by rw[←d.ph];exact Z,f4⟩
    · exact⟨a,o,l,f,X,by rw[i] at e3;simp only[ha] at e3;exact e3,rfl⟩
  · rw[W]
    cases E:r a with
    | none=>
      simp only
      split
      · rfl
      · rename_i H
        cases hx:O.get a with
        | none=>rfl
        | some o=>have:=hi.lO hx;omega
    | some id=>
      simp only
      obtain⟨h1,h2⟩:=A a id E
      have bE:id<S.lim:=by
        rcases jO id S.lim with j | j
        · exact j
        · have:=hs.lim id j;omega
      rw[B.wU id bE]
      cases hx:S.get id with
      | some o=>rw[if_pos (by have:=hs.lo id (R.lO hx);omega),h1,hs.get id o hx];rfl
      | none=>
        have H:S.nx≤id:=by
         rcases h2 with h2 | ⟨o,h2⟩
         · exact h2
         · rw[hx] at h2;simp at h2
        have ha2:O.get a=none:=by
         cases hy:O.get a with
         | none=>rfl
         | some o=>
           have h3:=hi.lO hy
           have:=hs.hi (id-S.nx)
           rw[show S.nx+(id-S.nx)=id from by omega] at this
           omega
        rw[ha2];simp
  · cases E:r a with
    | none=>rw[i];simp only[E]
    | some id=>
      have:=(A a id E).1
      subst this
      rw[←m.ph,←d.ph]
      refine B.vZ id ?_
      rcases jO id S.nx with u | H
      · exact u
      · have:=hs.hi (id-S.nx)
        rw[show S.nx+(id-S.nx)=id from by omega] at this
        omega
  · rcases B.CU b c (by rw[U];exact e) hb with f | ⟨J,o0,l0,Y,f2,Z,f4⟩
    · exact .inl (by rw[←d.ro];exact f)
    · exact .inr ⟨σ J,_,l0,hs.get _ _ Y,hs.lim J f2,by rw[←d.ph];exact Z,f4⟩
  · cases hb:C.get a with
    | none=>rfl
    | some o=>
      rcases L a o hb with⟨id,o1,rfl,f,rfl⟩ | ⟨_,f⟩
      · exfalso
        have bE:id<S.nx:=by
         rcases jO id S.nx with u | H
         · exact u
         · have:=hs.hi (id-S.nx)
           rw[show S.nx+(id-S.nx)=id from by omega] at this
           omega
        have hnone:S.get id=none:=by
         cases hx:S.get id with
         | none=>rfl
         | some o=>rw[hs.get id o hx] at e;simp at e
        rw[B.dead id bE hnone] at f;simp at f
      · rw[e] at f;simp at f
 refine⟨F'.aY σ,C,I,w', fr', cs', hG _ _ _ q hsim,p1.aY m,p2.aY m,?_,?_,?_,inv', ext', p8⟩
 · cases F;cases F';exact p3
 · cases F;cases F';exact p4
 · cases F;cases F';exact congrArg (Option.map σ) p5
end
end Go.Eng
namespace Go.Eng
noncomputable section
def gQ.aY (σ:Nat→Nat):gQ→gQ
 | .ret v=>.ret (v.aY σ)
 | .wI l=>.wI (EU σ l)
structure tS (A B : ae) : Prop where
 fn : B.fn = A.fn
 n : B.n = A.n
 mask : B.mask = A.mask
 todo : B.todo = A.todo
 defers : B.defers = A.defers
 mode : B.mode = A.mode
 kind : B.kind = A.kind
 cm : B.cm = A.cm
 round : B.round = A.round
 get : ∀ t v', B.get t = some v' → ∃ v, A.get t = some v ∧ (v' = v ∨ v' = .top)
theorem tS.refl (A:ae):tS A A:=⟨rfl,rfl,rfl,rfl,rfl,rfl,rfl,rfl,rfl,fun _ v' e=>⟨v', e,.inl rfl⟩⟩
variable {P : Program} {S : ag}
theorem tS.reach {A B:ae}{G:ae→ag→Prop}(h:tS A B)(q:Reach P B S G):Reach P A S G:=by
 refine Reach.DG q h.kind h.fn h.round h.cm fun g w fr cs hf hi=>⟨fr,w,g,?_,hi,Ext.refl _ _ _,Steps.refl _ _⟩
 refine⟨by rw[h.fn];exact hf.fn,by rw[h.n];exact hf.size,fun t v' e=>?_,by rw[h.todo];exact hf.todo,by rw[h.defers];exact hf.defers,by rw[h.mode];exact hf.mode,by rw[h.kind];exact hf.kind,by rw[h.round];exact hf.round⟩
 obtain⟨v,a,b⟩:=h.get t v' e
 obtain⟨x,c,d⟩:=hf.get t v a
 refine⟨x,c,?_⟩
 rcases b with rfl | rfl
 · exact d
 · exact .top
theorem ae.LW (F:ae)(t:Nat)(v:AV)(s:Nat):(F.set t v).get s=if s=t∧Nat.ble (t+1) F.n=true then some v else F.get s:=by
 obtain⟨fn,n,mask,loc,qS,todo,defers,mode,kind,cm,round⟩:=F
 simp only[ae.set]
 cases hb:Nat.ble (t+1) n with
 | false=>simp
 | true=>
   simp only[and_true]
   by_cases e:s=t
   · subst e
     rw[if_pos rfl]
     cases a:tb mask s with
     | true=>simp only[ae.get,a,vG]
     | false=>simp only[ae.get,a,gT,vy]
   · rw[if_neg e]
     cases a:tb mask t with
     | true=>
       simp only[ae.get]
       cases tb mask s with
       | true=>simp only[tA _ _ e]
       | false=>rfl
     | false=>
       simp only[ae.get]
       cases hs:tb mask s with
       | true=>rfl
       | false=>simp only[gT];rw[show Nat.beq t s=false from by rw[pg];grind[Nat.eq_of_beq_eq_true]]
theorem ae.IH (F:ae)(t:Nat)(v:AV):(F.set t v).fn=F.fn∧(F.set t v).n=F.n∧(F.set t v).mask=F.mask∧(F.set t v).todo=F.todo∧(F.set t v).defers=F.defers∧(F.set t v).mode=F.mode∧(F.set t v).kind=F.kind∧(F.set t v).cm=F.cm∧(F.set t v).round=F.round:=by
 unfold ae.set
 grind
theorem tS.set {A B:ae}(h:tS A B)(t:Nat)(v:AV):tS (A.set t v) (B.set t v):=by
 obtain⟨a,a2,a3,a4,a5,a6,a7,b,a9⟩:=A.IH t v
 obtain⟨c,d,f,g,i,j,k,l,m⟩:=B.IH t v
 refine⟨by rw[a,c,h.fn],by rw[a2,d,h.n],by rw[a3,f,h.mask],by rw[a4,g,h.todo],by rw[a5,i,h.defers],by rw[a6,j,h.mode],by rw[a7,k,h.kind],by rw[b,l,h.cm],by rw[a9,m,h.round],fun s v' e=>?_⟩
 rw[ae.LW] at e
 rw[ae.LW,←h.n]
 split at e
 · grind
 · rename_i o;rw[if_neg o];exact h.get s v' e
theorem tS.put {A B:ae}(h:tS A B)(d:Option Tmp)(v:AV):tS (A.put d v) (B.put d v):=by
 cases d with
 | none=>exact h
 | some t=>exact h.set t v
theorem tS.with {A B:ae}(h:tS A B)(td:List bf)(ds:List gS)(m:dq):tS { A with todo:=td,defers:=ds,mode:=m } { B with todo:=td,defers:=ds,mode:=m }:=
 ⟨h.fn,h.n,h.mask,rfl,rfl,rfl,h.kind,h.cm,h.round,h.get⟩
theorem tS.back {A B:ae}(h:tS A B)(o:Oper)(all:Array Oper)(rest:List Nat)(k:List bf)(r:gQ):tS (A.back o all rest k r) (B.back o all rest k r):=by
 cases r with
 | ret v=>
   have q:=h.put o.dst v
   have:=q.with (.ops all rest::k) (A.put o.dst v).defers (A.put o.dst v).mode
   simp only[ae.back,ae.after]
   rw[show(B.put o.dst v)={ B.put o.dst v with defers:=(A.put o.dst v).defers,mode:=(A.put o.dst v).mode } from by rw[←q.defers,←q.mode]]
   exact this
 | wI l=>exact⟨h.fn,h.n,h.mask,h.todo,h.defers,rfl,h.kind,h.cm,h.round,h.get⟩
theorem tS.qE {A B:ae}(h:tS A B)(d l:Nat)(k:List bf)(r:gQ):tS (A.qE d l k r) (B.qE d l k r):=by
 cases r with
 | ret v=>exact⟨h.fn,h.n,h.mask,rfl,by simp only[ae.qE];rw[h.defers],h.mode,h.kind,h.cm,h.round,h.get⟩
 | wI c=>exact⟨h.fn,h.n,h.mask,rfl,by simp only[ae.qE,ae.Qs];rw[h.defers],rfl,h.kind,h.cm,h.round,h.get⟩
section
variable {σ : Nat → Nat}
theorem Yq (l:List (Nat×AV))(t:Nat)(v:AV):jt σ (up l t v)=up (jt σ l) t (v.aY σ):=by
 induction l with
 | nil=>simp[jt,Od]
 | cons a l b=>
   obtain⟨k,u⟩:=a
   simp only[jt,dF,JE] at *
   cases Nat.beq k t with
   | true=>rfl
   | false=>simp only[dF,b]
theorem ae.Yr (F:ae)(t:Nat)(v:AV):(F.set t v).aY σ=(F.aY σ).set t (v.aY σ):=by
 obtain⟨fn,n,mask,loc,qS,todo,defers,mode,kind,cm,round⟩:=F
 simp only[ae.set,ae.aY]
 cases Nat.ble (t+1) n with
 | false=>rfl
 | true=>
   cases tb mask t with
   | true=>simp only[Yq]
   | false=>simp only[jt,dF]
theorem ae.Ys (F:ae)(d:Option Tmp)(v:AV):(F.put d v).aY σ=(F.aY σ).put d (v.aY σ):=by
 cases d with
 | none=>rfl
 | some t=>exact F.Yr t v
theorem ae.LX (F:ae)(o:Oper)(all:Array Oper)(rest:List Nat)(k:List bf)(r:gQ):(F.back o all rest k r).aY σ=(F.aY σ).back o all rest (k.map (bf.aY σ)) (r.aY σ):=by
 cases r with
 | ret v=>
   simp only[ae.back,ae.after,gQ.aY]
   rw[←ae.Ys]
   cases F.put o.dst v
   rfl
 | wI l=>cases F;rfl
theorem ae.Sb (F:ae)(d l:Nat)(k:List bf)(r:gQ):(F.qE d l k r).aY σ=(F.aY σ).qE (σ d) (σ l) (k.map (bf.aY σ)) (r.aY σ):=by
 cases r<;>cases F<;>rfl
theorem MH (m:dq)(l:List (AV×Bool)):(An m l).aY σ=An (m.aY σ) (EU σ l):=by
 cases m<;>simp[An,dq.aY,EU]
theorem MI (m:dq):(Am m).aY σ=Am (m.aY σ):=by
 cases m with
 | run=>rfl
 | returning=>rfl
 | panicking l=>
   cases l with
   | nil=>rfl
   | cons a r=>
     obtain⟨v,b⟩:=a
     cases b<;>rfl
theorem Ep.set {S S2:ag}(c:∀ a b,σ a=σ b→a=b)(h:Ep σ S S2)(id:Nat)(o:aL):Ep σ (S.set id o) (S2.set (σ id) (o.aY σ)):=by
 refine⟨fun k x e=>?_,h.lim,h.hi,h.lo⟩
 by_cases d:k=id
 · subst d
   rw[ag.cO (vi _)] at e ⊢
   grind
 · rw[ag.bt (vi _) d] at e
   rw[ag.bt (vi _) (fun q=>d (c _ _ q))]
   exact h.get k x e
theorem Sc (id:Nat)(l:List bf):wg id (l.map (bf.aY σ))=(wg id l).map (List.map (bf.aY σ)):=by
 induction l with
 | nil=>rfl
 | cons a l b=>
   cases a<;>grind[bf.aY,wg]
theorem Sd (l:List bf):CX (l.map (bf.aY σ))=CX l:=by
 cases l with
 | nil=>rfl
 | cons a l=>
   cases a with
   | code c=>
     cases c<;>simp only[dF,bf.aY,CX]
     rename_i b
     rw[Sc]
     grind
   | _=>rfl
theorem Le.aY (g:∀ a b,σ a=σ b→a=b){id:Nat}{F:ae}{S S2:ag}{Q Q2:gQ→ag→Prop}(hs:Ep σ S S2)(j:∀ r S S2,Q r S→Ep σ S S2→Q2 (r.aY σ) S2)(h:Le id F S Q):Le (σ id) (F.aY σ) S2 Q2:=by
 obtain⟨fn,n,mask,loc,qS,todo,defers,mode,kind,cm,round⟩:=F
 obtain⟨a,b⟩:=h
 simp only at a
 subst a
 refine⟨rfl,?_⟩
 rcases b with⟨b,st,i,f,m,mk,env,params,assign,body,c,d,e⟩ | ⟨l,b,c⟩
 · simp only at b
   subst b
   refine .inl ⟨rfl,st,i,f,m,mk,jt σ env,params,assign,body,hs.get _ _ c,hs.lim _ d,?_⟩
   rcases e with⟨e,k⟩ | ⟨x,e,k⟩
   · simp only at e
     subst e
     exact .inl ⟨rfl,j _ _ _ k (hs.set g id _)⟩
   · exact .inr ⟨x,(Sd todo).trans e,j _ _ _ k (hs.set g id _)⟩
 · simp only at b
   subst b
   exact .inr ⟨EU σ l,rfl,j _ _ _ c hs⟩
variable {S2 : ag} {v : AV} {cs : List AV}
theorem Ke (hs:Ep σ S S2)(h:kX S v=some cs):kX S2 (v.aY σ)=some (eB σ cs):=by
 unfold kX at h
 split at h
 · rename_i id i j
   split at h<;>try (simp at h;done)
   rename_i sz es b
   split at h<;>try (simp at h;done)
   rename_i e a
   split at h<;>simp only[bj,reduceCtorEq] at h
   rename_i c
   subst h
   rw[j4] at a
   rw[AV.aY]
   simp only[kX,hs.get _ _ b,aL.aY,j4,iX,a,lP,AV.gu,bm,c]
   rw[Ar,Ar,aem]
 · simp only[bj] at h
   subst h
   rw[AV.aY];rfl
 · simp at h
theorem Ph {t:TypeId}(h:tX P t cs=some v):tX P t (eB σ cs)=some (v.aY σ):=by
 unfold tX at h ⊢
 split at h
 · rename_i ha
   split at h<;>try (simp at h;done)
   grind[AV.aY,Ar,List.map_take]
 all_goals grind[j4,iX]
variable {F : ae}
theorem LY (hs:Ep σ S S2):∀ {b:List ResultVar} {l:List AV},wV P F S b=some l→wV P (F.aY σ) S2 b=some (eB σ l):=by
 intro b
 induction b with
 | nil=>intro l h;simp only[wV,bj] at h;subst h;rfl
 | cons r b d=>
   intro l h
   cases r with
   | tmp t=>
     grind[wV,ae.EC,eB]
   | cell a t=>
     simp only[wV] at h
     split at h<;>try (simp at h;done)
     rename_i p e
     split at h<;>try (simp at h;done)
     rename_i cs c
     split at h<;>try (simp at h;done)
     rename_i v f
     split at h<;>simp only[bj,reduceCtorEq] at h
     rename_i l' g
     subst h
     simp only[wV,ae.EC,e,lP,Ke hs c,Ph f,d g,eB]
theorem Cf {fn:Func}(hs:Ep σ S S2)(h:uI P fn F S=some v):uI P fn (F.aY σ) S2=some (v.aY σ):=by
 unfold uI at h ⊢
 split at h
 · rename_i v' c
   simp only[bj] at h
   subst h
   rw[LY hs c]
   rfl
 · rename_i l d c
   simp only[bj] at h
   subst h
   rw[LY hs c,AV.aY]
   cases l with
   | nil=>rfl
   | cons a r=>
     cases r with
     | nil=>grind
     | cons b r=>rfl
 · simp at h
inductive vo (σ : Nat → Nat) : cG → cG → Prop
 | nil : vo σ .nil .nil
 | call {fn : Func} {F2 F : ae} {o : Oper} {all : Array Oper} {rest : List Nat} {td2 td : List bf} {next2 next : cG} (hf : tS F2 (F.aY σ)) (ht : td2 = td.map (bf.aY σ)) (hn : vo σ next2 next) :
  vo σ (.call fn F2 o all rest td2 next2) (.call fn F o all rest td next)
 | rN {fn : Func} {F2 F : ae} {ds2 ds : List gS} {next2 next : cG} (hf : tS F2 (F.aY σ)) (ht : ds2 = ds.map (gS.aY σ)) (hn : vo σ next2 next) :
  vo σ (.rN fn F2 ds2 next2) (.rN fn F ds next)
 | loop {fn : Func} {F2 F : ae} {d2 l2 d l : Nat} {td2 td : List bf} {next2 next : cG} (hf : tS F2 (F.aY σ)) (ht : td2 = td.map (bf.aY σ)) (hd : d2 = σ d) (hl : l2 = σ l) (hn : vo σ next2 next) :
  vo σ (.loop fn F2 d2 l2 td2 next2) (.loop fn F d l td next)
 | round {fn : Func} {F2 F : ae} {o : Oper} {all : Array Oper} {rest : List Nat} {td2 td : List bf} {id2 id : Nat} {next2 next : cG} (hf : tS F2 (F.aY σ)) (ht : td2 = td.map (bf.aY σ)) (hd : id2 = σ id) (hn : vo σ next2 next) :
  vo σ (.round fn F2 o all rest td2 id2 next2) (.round fn F o all rest td id next)
 | hole {G2 G : ae → ag → Prop} (h : ∀ F S S2, G F S → Ep σ S S2 → G2 (F.aY σ) S2) : vo σ (.hole G2) (.hole G)
theorem GK.aY {P:Program}(e:∀ a b,σ a=σ b→a=b){k2 k:cG}(o:vo σ k2 k){fn:Func}{Q Q2:gQ→dq→ag→Prop}(g:∀ r cm S S2,Q r cm S→Ep σ S S2→Q2 (r.aY σ) (cm.aY σ) S2){F:ae}{S S2:ag}(hs:Ep σ S S2)
   (h:GK P k fn Q F S):GK P k2 fn Q2 (F.aY σ) S2:=by
 have fin:Fin P fn Q F S→Fin P fn Q2 (F.aY σ) S2:=by
   rintro⟨a,b⟩
   obtain⟨f,n,mask,loc,qS,todo,defers,mode,kind,cm,round⟩:=F
   simp only at a b
   subst a
   refine⟨rfl,?_⟩
   rcases b with⟨b,v,c,d⟩ | ⟨l,b,c⟩
   · subst b
     exact .inl ⟨rfl,v.aY σ,Cf hs c,g _ _ _ _ d hs⟩
   · subst b
     exact .inr ⟨EU σ l,rfl,g _ _ _ _ c hs⟩
 cases o with
 | nil=>exact fin h
 | call hf i j=>exact fin h
 | rN hf i j=>exact fin h
 | loop hf i m s j=>exact fin h
 | round hf i m j=>
   subst m
   exact Le.aY (Q2:=fun r S=>Q2 r .run S) e hs (fun r S S2 q hs=>g r .run S S2 q hs) h
 | hole p=>exact p _ _ _ h hs
theorem fC.aY {P:Program}{Qf u:gQ→ag→Prop}(f:∀ a b,σ a=σ b→a=b)(y:∀ r S S2,Qf r S→Ep σ S S2→u (r.aY σ) S2):∀ {k2 k:cG},vo σ k2 k→∀ {A j:(gQ→dq→ag→Prop)→Prop},
   (∀ Q Q2:gQ→dq→ag→Prop,(∀ r cm S S2,Q r cm S→Ep σ S S2→Q2 (r.aY σ) (cm.aY σ) S2)→A Q→j Q2)→fC P Qf k A→fC P u k2 j:=by
 intro k2 k z
 induction z with
 | nil=>intro A j i h;exact i _ _ (fun r cm S S2 q hs=>y r S S2 q hs) h
 | hole E=>intro A j i h;exact i _ _ (fun _ _ _ _ q _=>q.elim) h
 | @call fn F2 F o all rest w td c next hf m n p=>
   intro A j i h
   refine p (fun Q Q2 s q=>i _ _ (fun r cm S S2 q hs=>?_) q) h
   subst m
   have:=Reach.aY f hs q (G2:=GK P c fn Q2) fun _ _ _ t g=>GK.aY f n s g t
   rw[ae.LX] at this
   exact(hf.back o all rest _ _).reach this
 | @rN fn F2 F C ds c next hf m n p=>
   intro A j i h
   refine p (fun Q Q2 s q=>i _ _ (fun r cm S S2 q hs=>?_) q) h
   subst m
   have:=Reach.aY f hs q (G2:=GK P c fn Q2) fun _ _ _ t g=>GK.aY f n s g t
   have e:({ F with defers:=ds,mode:=jP r cm }:ae).aY σ={ F.aY σ with todo:=(F.aY σ).todo,defers:=ds.map (gS.aY σ),mode:=jP (r.aY σ) (cm.aY σ) }:=by
    cases F
    cases r<;>grind[ae.aY,jP,gQ.aY,MI,MH]
   rw[e] at this
   have q2:=hf.with (F.aY σ).todo (ds.map (gS.aY σ)) (jP (r.aY σ) (cm.aY σ))
   rw[hf.todo] at q2 this
   exact q2.reach this
 | @loop fn F2 F G l2 d l w td c next hf m x B n p=>
   intro A j i h
   refine p (fun Q Q2 s q=>i _ _ (fun r cm S S2 q hs=>?_) q) h
   subst m x B
   have:=Reach.aY f hs q (G2:=GK P c fn Q2) fun _ _ _ t g=>GK.aY f n s g t
   rw[ae.Sb] at this
   exact(hf.qE _ _ _ _).reach this
 | @round fn F2 F o all rest w td D id c next hf m x n p=>
   intro A j i h
   refine p (fun Q Q2 s q=>i _ _ (fun r cm S S2 q hs=>?_) q) h
   subst m
   have:=Reach.aY f hs q (G2:=GK P c fn Q2) fun _ _ _ t g=>GK.aY f n s g t
   rw[ae.LX] at this
   exact(hf.back o all rest _ _).reach this
theorem br.aY {P:Program}{Qf d:gQ→ag→Prop}(c:∀ a b,σ a=σ b→a=b)(g:∀ r S S2,Qf r S→Ep σ S S2→d (r.aY σ) S2){fn:Func}{F2 F:ae}{S2 S:ag}{k2 k:cG}(f:vo σ k2 k)(hf:tS F2 (F.aY σ))(hs:Ep σ S S2)
  (h:br P Qf (.run fn F S k)):br P d (.run fn F2 S2 k2):=
 fC.aY c g f (fun _ _ i q=>hf.reach (Reach.aY c hs q fun _ _ _ j e=>GK.aY c f i e j)) h
end
end
end Go.Eng
namespace Go.Eng
noncomputable section
def ab (T:FT)(P:Program):Nat→St→St
 | 0,s=>s
 | n+1,s=>ab T P n (s.step T P)
def NR (P:Program)(s:St):Option AV:=
 match dG s with
 | some o=>match gJ o.op with
   | none=>match s with
     | .run _ F _ _=>pop P F.eval o.op
     | .fS D _=>pop P D.F.eval o.op
     | _=>none
   | some _=>none
 | none=>none
def Zh (P:Program)(s:St):Option de:=
 match s with
 | .run fn F S k=>match dG (.run fn F S k) with
   | some o=>match gJ o.op,cr o.op with
     | none,false=>DH P F.eval S o.op
     | _,_=>none
   | none=>none
 | _=>none
def I7 (T:FT)(P:Program)(s:St):Option (Nat×List AV):=
 match dG s with
 | some o=>match gJ o.op with
   | some c=>match s with
     | .run _ F _ _=>match rY T F c P with
       | some (g,_,args)=>some (g,args)
       | none=>none
     | .fS D _=>match rY T D.F c P with
       | some (g,_,args)=>some (g,args)
       | none=>none
     | _=>none
   | none=>none
 | none=>none
def jY : St→ag
 | .run _ _ S _=>S
 | _=>ag.empty
section
variable {T : FT} {P : Program} {Qf : gQ → ag → Prop}
variable {s : St}
theorem uV {o:Oper}(h:dG s=some o):Tn s o.dst=true:=by
 unfold Tn
 rw[h]
 simp only
 cases o.dst with
 | none=>rfl
 | some t=>exact vy t
theorem cL (c:dh T P)(b:P.follows .mixedOrders=true):∀(n:Nat) {s:St},br P Qf (ab T P n s)→br P Qf s:=by
 intro n
 induction n with
 | zero=>intro s h;exact h
 | succ n d=>intro s h;exact LV c b (d h)
variable {v : AV}
theorem Yt (g:dh T P)(h:NR P s=some v)(q:br P Qf (ak v none s)):br P Qf s:=by
 unfold NR at h
 cases b:dG s with
 | none=>grind
 | some o=>
   rw[b] at h
   simp only at h
   cases d:gJ o.op with
   | some c=>grind
   | none=>
     rw[d] at h
     refine Aq g (uV b) ?_ q
     cases s with
     | run fn F S k=>
       have e:dG (.run default F S .nil)=some o:=b
       simp only[G6,e,d]
       exact h
     | fS D k=>
       obtain⟨os,f,_⟩:=zD b
       simp only[G6,f,d]
       exact h
     | _=>simp at h
theorem Zy (c:dh T P)(b:P.follows .mixedOrders=true)(n:Nat)(o:Option AV)(v:AV)(h:NR P (ab T P n s)=o)(d:o=some v)(q:br P Qf (ak v none (ab T P n s))):br P Qf s:=
 by grind[cL,Yt]
theorem ajz (d:dh T P)(c:P.follows .mixedOrders=true)(n:Nat)(b:Bool)(h:NR P (ab T P n s)=some (.sc (.bool b)))(e:b=true→br P Qf (ak (.sc (.bool true)) none (ab T P n s)))(f:b=false→br P Qf (ak (.sc (.bool false)) none (ab T P n s))):br P Qf s:=by
 refine Zy d c n _ (.sc (.bool b)) h rfl ?_
 cases b<;>grind
variable {S' : ag}
theorem Yu (e:dh T P)(h:Zh P s=some (.val v S'))(f:(dG s).bind (·.dst)≠none)(q:br P Qf (ak v (some S') s)):br P Qf s:=by
 unfold Zh at h
 cases s with
 | run fn F S k=>
   simp only at h
   cases b:dG (.run fn F S k) with
   | none=>grind
   | some o=>
     rw[b] at h f
     simp only at h
     split at h<;>try (simp at h;done)
     rename_i g c
     refine Aq e (uV b) ?_ q
     have d:dG (.run default F S .nil)=some o:=b
     simp only[G6,d,g,c]
     grind
 | _=>simp at h
theorem VC (e:dh T P)(h:Zh P s=some (.skip S'))(f:(dG s).bind (·.dst)=none)(q:br P Qf (ak (.bO []) (some S') s)):br P Qf s:=by
 unfold Zh at h
 cases s with
 | run fn F S k=>
   simp only at h
   cases b:dG (.run fn F S k) with
   | none=>grind
   | some o=>
     rw[b] at h f
     simp only at h
     split at h<;>try (simp at h;done)
     rename_i g c
     refine Aq e (uV b) ?_ q
     have d:dG (.run default F S .nil)=some o:=b
     simp only[G6,d,g,c]
     grind
 | _=>simp at h
theorem Yv (l:dh T P)(d:P.follows .mixedOrders=true)(n:Nat)(g:Nat)(args:List AV)(v:AV)(h:I7 T P (ab T P n s)=some (g,args))(m:∀ S,fU P g args S fun r S' => r=.ret v∧S' = S)(q:br P Qf (ak v none (ab T P n s))):br P Qf s:=by
 refine cL l d n ?_
 generalize ab T P n s=s at h q
 unfold I7 at h
 cases e:dG s with
 | none=>grind
 | some o=>
   rw[e] at h
   simp only at h
   cases b:gJ o.op with
   | none=>grind
   | some c=>
     rw[b] at h
     simp only at h
     refine Aq l (uV e) ?_ q
     cases s with
     | run fn F S k=>
       have i:dG (.run default F S .nil)=some o:=e
       simp only at h
       split at h<;>simp only[bj,nj,reduceCtorEq] at h
       rename_i f
       obtain⟨rfl,rfl⟩:=h
       simp only[G6,i,b,f]
       exact m
     | fS D k=>
       obtain⟨os,j,_⟩:=zD e
       simp only at h
       split at h<;>simp only[bj,nj,reduceCtorEq] at h
       rename_i f
       obtain⟨rfl,rfl⟩:=h
       simp only[G6,j,b,f]
       exact m
     | _=>simp at h
theorem FF (l:dh T P)(d:P.follows .mixedOrders=true)(n:Nat)(g:Nat)(args:List AV)(S:ag)(v:AV)(S' : ag)(h:I7 T P (ab T P n s)=some (g,args))(e:jY (ab T P n s)=S)(m:∃ fn F S k,ab T P n s=.run fn F S k)(p:fU P g args S fun r i=>r=.ret v∧i=S')(q:br P Qf (ak v (some S') (ab T P n s))):br P Qf s:=by
 refine cL l d n ?_
 generalize ab T P n s=s at h q e m
 obtain⟨fn,F,S0,k,rfl⟩:=m
 have e:S0=S:=e
 subst e
 unfold I7 at h
 cases f:dG (.run fn F S0 k) with
 | none=>grind
 | some o=>
   rw[f] at h
   simp only at h
   cases b:gJ o.op with
   | none=>grind
   | some c=>
     rw[b] at h
     simp only at h
     refine Aq l (uV f) ?_ q
     have j:dG (.run default F S0 .nil)=some o:=f
     split at h<;>simp only[bj,nj,reduceCtorEq] at h
     rename_i t
     obtain⟨rfl,rfl⟩:=h
     simp only[G6,j,b,t]
     exact p
end
def Lg (m:PT):List (Nat×aL)→PT
 | []=>m
 | (id,o)::r=>Lg (PT.set dep m id (some o)) r
def oX (nx:Nat)(l:List (Nat×aL)):ag:=⟨nx,0,Lg .nil l⟩
def ajZ (p nx:Nat)(l:List (Nat×aL)):ag:=⟨nx,p,Lg .nil l⟩
def pick (S:ag):List Nat→List (Nat×aL)
 | []=>[]
 | id::r=>match S.get id with
   | some o=>(id,o)::pick S r
   | none=>pick S r
def slotsOf (F:ae):List Nat→List (Nat×AV)
 | []=>[]
 | t::r=>match F.get t with
   | some v=>(t,v)::slotsOf F r
   | none=>slotsOf F r
def iY (F:ae)(l:List (Nat×AV)):ae:=
 match F with
 | ⟨fn,n,mask,_,_,todo,defers,mode,kind,cm,round⟩=>⟨fn,n,mask,l,l,todo,defers,mode,kind,cm,round⟩
def Ah : cG→List (List (Nat×AV))→cG
 | .call fn F o all rest td next,l::ls=>.call fn (iY F l) o all rest td (Ah next ls)
 | .rN fn F ds next,l::ls=>.rN fn (iY F l) ds (Ah next ls)
 | .loop fn F d i td next,l::ls=>.loop fn (iY F l) d i td (Ah next ls)
 | .round fn F o all rest td id next,l::ls=>.round fn (iY F l) o all rest td id (Ah next ls)
 | k,_=>k
def N5 : cG→List (List Nat)→cG
 | .call fn F o all rest td next,l::ls=>.call fn (iY F (slotsOf F l)) o all rest td (N5 next ls)
 | .rN fn F ds next,l::ls=>.rN fn (iY F (slotsOf F l)) ds (N5 next ls)
 | .loop fn F d i td next,l::ls=>.loop fn (iY F (slotsOf F l)) d i td (N5 next ls)
 | .round fn F o all rest td id next,l::ls=>.round fn (iY F (slotsOf F l)) o all rest td id (N5 next ls)
 | k,_=>k
def jN (s:St)(ls:List (List (Nat×AV)))(S:ag):St:=
 match s,ls with
 | .run fn F _ k,l::ls=>.run fn (iY F l) S (Ah k ls)
 | _,_=>.bad 70
def qT (b:List (List Nat))(ids:List Nat)(s:St):St:=
 match s,b with
 | .run fn F S k,l::ls=>.run fn (iY F (slotsOf F l)) (ajZ S.lim S.nx (pick S ids)) (N5 k ls)
 | _,_=>.bad 71
def xi : cG→Bool
 | .nil=>true
 | .call _ _ _ _ _ _ n=>xi n
 | .rN _ _ _ n=>xi n
 | .loop _ _ _ _ _ n=>xi n
 | .round _ _ _ _ _ _ _ n=>xi n
 | _=>false
def lC : St→Bool
 | .run _ _ _ k=>xi k
 | _=>false
theorem MJ {F:ae}:∀ {l:List Nat} {t:Nat} {v:AV},lk (slotsOf F l) t=some v→F.get t=some v:=by
 intro l
 induction l with
 | nil=>grind[slotsOf,qX]
 | cons a l b=>
   intro t v h
   simp only[slotsOf] at h
   cases ha:F.get a with
   | none=>grind
   | some u=>
     rw[ha] at h
     simp only[gT] at h
     cases hb:Nat.beq a t<;>simp_all
theorem gU (F:ae)(l:List Nat):tS F (iY F (slotsOf F l)):=by
 cases F
 refine⟨rfl,rfl,rfl,rfl,rfl,rfl,rfl,rfl,rfl,fun t v e=>⟨v,?_,.inl rfl⟩⟩
 grind[iY,ae.get,MJ]
mutual
theorem AV.cI : ∀ v:AV,v.aY (fun x=>x)=v
 | .sc v=>by rw[AV.aY]
 | .agg cs=>by rw[AV.aY,rn cs]
 | .ft=>by rw[AV.aY]
 | .an=>by rw[AV.aY]
 | .lit es=>by rw[AV.aY,rn es]
 | .dN cs=>by rw[AV.aY,rn cs]
 | .ptr id i j=>by rw[AV.aY]
 | .ai id o l=>by rw[AV.aY]
 | .cQ id=>by rw[AV.aY]
 | .fn f a b=>by rw[AV.aY,rn a,rn b]
 | .eu t v=>by rw[AV.aY,AV.cI v]
 | .bO c=>by rw[AV.aY,rn c]
 | .rV id=>by rw[AV.aY]
 | .clip v=>by rw[AV.aY,AV.cI v]
 | .top=>by rw[AV.aY]
theorem rn : ∀ l:List AV,eB (fun x=>x) l=l
 | []=>by rw[eB]
 | v::l=>by rw[eB,AV.cI v,rn l]
end
theorem Qz (l:List (Nat×AV)):jt (fun x=>x) l=l:=by
 induction l<;>grind[jt,AV.cI]
theorem Yw (l:List (AV×Bool)):EU (fun x=>x) l=l:=by
 induction l<;>grind[EU,AV.cI]
theorem bf.cI (l:List bf):l.map (bf.aY fun x=>x)=l:=by
 induction l with
 | nil=>rfl
 | cons a l b=>rw[dF,b];cases a<;>rfl
theorem gS.cI (l:List gS):l.map (gS.aY fun x=>x)=l:=by
 induction l with
 | nil=>rfl
 | cons a l b=>rw[dF,b];cases a<;>simp only[gS.aY,rn]
theorem dq.cI (m:dq):m.aY (fun x=>x)=m:=by
 cases m<;>simp only[dq.aY,Yw]
theorem ae.cI (F:ae):F.aY (fun x=>x)=F:=by
 cases F
 simp only[ae.aY,Qz,bf.cI,gS.cI,dq.cI]
 simp
theorem aL.cI (o:aL):o.aY (fun x=>x)=o:=by
 cases o with
 | arr sz es=>simp only[aL.aY,rn]
 | mp b=>simp only[aL.aY,AV.cI];simp
 | lp st pending fn n mask env params assign body=>simp only[aL.aY,Qz]
 | _=>rfl
theorem VD : ∀ {k:cG} {ls:List (List Nat)},xi k=true→vo (fun x=>x) k (N5 k ls):=by
 intro k
 induction k with
 | nil=>intro ls _;cases ls<;>exact .nil
 | hole G=>grind[xi]
 | call fn F o all rest td next b=>
   intro ls h
   cases ls with
   | nil=>exact .call (by rw[ae.cI];exact tS.refl F) (bf.cI td).symm (by have:=b (ls:=[]) h;cases next<;>exact this)
   | cons l ls=>exact .call (by rw[ae.cI];exact gU F l) (bf.cI td).symm (b h)
 | rN fn F ds next b=>
   intro ls h
   cases ls with
   | nil=>exact .rN (by rw[ae.cI];exact tS.refl F) (gS.cI ds).symm (by have:=b (ls:=[]) h;cases next<;>exact this)
   | cons l ls=>exact .rN (by rw[ae.cI];exact gU F l) (gS.cI ds).symm (b h)
 | loop fn F d l td next b=>
   intro ls h
   cases ls with
   | nil=>exact .loop (by rw[ae.cI];exact tS.refl F) (bf.cI td).symm rfl rfl (by have:=b (ls:=[]) h;cases next<;>exact this)
   | cons l ls=>exact .loop (by rw[ae.cI];exact gU F l) (bf.cI td).symm rfl rfl (b h)
 | round fn F o all rest td id next b=>
   intro ls h
   cases ls with
   | nil=>exact .round (by rw[ae.cI];exact tS.refl F) (bf.cI td).symm rfl (by have:=b (ls:=[]) h;cases next<;>exact this)
   | cons l ls=>exact .round (by rw[ae.cI];exact gU F l) (bf.cI td).symm rfl (b h)
 | fS D o os E e bE c next b=>intro ls h;simp[xi] at h
theorem VE : ∀(l:List (Nat×aL)) (m:PT) (id:Nat) (o:aL),PT.get dep (Lg m l) id=some o→(id,o)∈l∨PT.get dep m id=some o:=by
 intro l
 induction l with
 | nil=>intro m id o h;exact .inr h
 | cons a l b=>
   intro m id o h
   obtain⟨i,x⟩:=a
   rcases b _ id o h with q | q
   all_goals grind[PT.cO,PT.tz]
theorem As {nx:Nat}{l:List (Nat×aL)}{id:Nat}{o:aL}(h:(oX nx l).get id=some o):(id,o)∈l:=by
 rcases VE l .nil id o h with q | q
 · exact q
 · rw[PT.get_nil] at q;simp at q
theorem LZ {S:ag}:∀ {ids:List Nat} {id:Nat} {o:aL},(id,o)∈pick S ids→S.get id=some o:=by
 intro ids
 induction ids with
 | nil=>intro id o h;simp[pick] at h
 | cons a l b=>
   intro id o h
   simp only[pick] at h
   grind
def vk (a:Nat)(Qf:gQ→ag→Prop):Prop:=∀ σ:Nat→Nat,(∀ x y,σ x=σ y→x=y)→(∀ i,i<a→σ i=i)→∀ r S b,Qf r S→Ep σ S b→Qf (r.aY σ) b
section
variable {T : FT} {P : Program} {Qf : gQ → ag → Prop}
variable {s : St} {a : Nat}
theorem br.cut (f:vk a Qf){c:List (List Nat)}{ids:List Nat}(d:lC s=true)(h:br P Qf (qT c ids s)):br P Qf s:=by
 cases s with
 | run fn F S k=>
   cases c with
   | nil=>exact h.elim
   | cons l ls=>
     simp only[qT] at h
     refine br.aY (σ:=fun x=>x) (fun a b e=>e) (fun r S g q hs=>f _ (fun a b e=>e) (fun _ _=>rfl) r S g q hs) (VD d) (by rw[ae.cI];exact gU F l) ?_ h
     exact⟨fun id o e=>by rw[aL.cI];exact LZ (As (nx:=S.nx) e),fun id h=>h,fun k=>rfl,fun id bE=>bE⟩
 | _=>simp[lC] at d
theorem UD (d:dh T P)(b:P.follows .mixedOrders=true)(e:vk a Qf)(n:Nat)(c:List (List Nat))(ids:List Nat){s' : St}(f:lC (ab T P n s)=true)(h:qT c ids (ab T P n s)=s')(q:br P Qf s'):br P Qf s:=
 by grind[cL,br.cut]
variable {v : AV}
theorem vk.pure (b:∀ σ,v.aY σ=v):vk 0 fun r _=>r=.ret v:=by
 rintro σ _ _ r S c rfl _
 simp only[gQ.aY,b]
end
end
end Go.Eng
namespace Go.Eng
noncomputable section
def kG : List (Nat×Nat)→Nat→Nat→Nat→Nat
 | [],N,nx,i=>match Nat.ble N i with
   | true=>nx+(i-N)
   | false=>i
 | (c,a)::r,N,nx,i=>match Nat.beq c i with
   | true=>a
   | false=>kG r N nx i
def wW (l:List (Nat×Nat))(N nx:Nat)(_ _:List Nat):Bool:=
 Nat.ble N nx&&l.all (fun p=>Nat.ble (p.1+1) N&&Nat.ble (p.2+1) nx&&(Nat.ble N p.2||(l.map (·.1)).contains p.2))&&decide (l.map (·.2)).Nodup&&decide (l.map (·.1)).Nodup
theorem Cg (l:List (Nat×Nat))(N nx i:Nat):(∃ p,p∈l∧p.1=i∧kG l N nx i=p.2)∨((∀ p,p∈l→p.1≠i)∧kG l N nx i=if N≤i then nx+(i-N) else i):=by
 induction l with
 | nil=>
   refine .inr ⟨fun p h=>by simp at h,?_⟩
   simp only[kG]
   split
   · simp_all
   · rename_i e;rw[if_neg (fun q=>by rw[GY q] at e;simp at e)]
 | cons p r b=>
   obtain⟨c,a⟩:=p
   simp only[kG]
   cases hb:Nat.beq c i with
   | true=>simp_all
   | false=>
     grind[Nat.beq_refl]
variable {l : List (Nat × Nat)} {N nx : Nat}
theorem II {cs as:List Nat}(h:wW l N nx cs as=true):N≤nx∧∀ i,(kG l N nx i=i∧i<N)∨(N≤i∧kG l N nx i=nx+(i-N))∨(i<N∧True∧kG l N nx i<nx):=by
 simp only[wW,aS,dg] at h
 obtain⟨⟨⟨h1,h2⟩,_⟩,_⟩:=h
 have h1:=gw h1
 refine⟨h1,fun i=>?_⟩
 rcases Cg l N nx i with⟨p,d,q2,q3⟩ | ⟨d,q2⟩
 · obtain⟨⟨a,b⟩,_⟩:=h2 p d
   have a:=gw a
   have b:=gw b
   grind
 all_goals grind
theorem xW (h:wW l N nx [] []=true):∀ x y,kG l N nx x=kG l N nx y→x=y:=by
 simp only[wW,aS,dg,decide_eq_true_eq] at h
 obtain⟨⟨⟨h1,h2⟩,h3⟩,h4⟩:=h
 have h1:=gw h1
 have mix:∀ p y,p∈l→(∀ q,q∈l→q.1≠y)→p.2=(if N≤y then nx+(y-N) else y)→False:=by
   intro p y o hy e
   obtain⟨⟨_,b⟩,c⟩:=h2 p o
   have b:=gw b
   by_cases f:N≤y
   · rw[if_pos f] at e;omega
   · rw[if_neg f] at e
     rw[xe] at c
     rcases c with c | c
     · have:=gw c;omega
     · have r:p.2∈l.map (·.1):=by simpa using c
       obtain⟨q,t,u⟩:=kJ.1 r
       exact hy q t (u.trans e)
 intro x y e
 rcases Cg l N nx x with⟨p,g,k,v⟩ | ⟨g,k⟩<;>rcases Cg l N nx y with⟨q,m,q2,q3⟩ | ⟨m,q2⟩
 · obtain⟨i,hi⟩:=hU g
   obtain⟨j,d⟩:=hU m
   have n:(l.map (·.2))[i]? = some p.2:=by rw[sl,hi];rfl
   have w:(l.map (·.2))[j]? = some p.2:=by rw[sl,d,←v,e,q3];rfl
   have:=(Ju (mC.1 n).1 h3).1 (n.trans w.symm)
   subst this
   rw[hi] at d
   simp only[bj] at d
   rw[←k,←q2,d]
 all_goals grind
def Jg (σ:Nat→Nat)(F:ae):List bf×List gS×dq×dq×Option Nat:=(F.todo.map (bf.aY σ),F.defers.map (gS.aY σ),F.mode.aY σ,F.cm.aY σ,F.round.map σ)
def Ai (F:ae):List bf×List gS×dq×dq×Option Nat:=(F.todo,F.defers,F.mode,F.cm,F.round)
def Fh (σ:Nat→Nat):cG→Prop
 | .nil=>True
 | .call _ F _ _ _ td next=>Jg σ F=Ai F∧td.map (bf.aY σ)=td∧Fh σ next
 | .rN _ F ds next=>Jg σ F=Ai F∧ds.map (gS.aY σ)=ds∧Fh σ next
 | .loop _ F d i td next=>Jg σ F=Ai F∧td.map (bf.aY σ)=td∧σ d=d∧σ i=i∧Fh σ next
 | .round _ F _ _ _ td id next=>Jg σ F=Ai F∧td.map (bf.aY σ)=td∧σ id=id∧Fh σ next
 | _=>False
def T9 (σ:Nat→Nat):St→Prop
 | .run _ F _ k=>Jg σ F=Ai F∧Fh σ k
 | _=>False
def rX : cG→Nat
 | .call _ _ _ _ _ _ n=>rX n+1
 | .rN _ _ _ n=>rX n+1
 | .loop _ _ _ _ _ n=>rX n+1
 | .round _ _ _ _ _ _ _ n=>rX n+1
 | _=>0
def wM : St→Nat
 | .run _ _ _ k=>rX k+1
 | _=>0
variable {σ : Nat → Nat}
theorem gV {F:ae}(h:Jg σ F=Ai F)(l:List (Nat×AV)):(iY F l).aY σ=iY F (jt σ l):=by
 cases F
 simp only[Jg,Ai,nj] at h
 obtain⟨h1,h2,h3,h4,b⟩:=h
 simp only[iY,ae.aY,h1,h2,h3,h4,b]
theorem Se : ∀ {k:cG} {ls:List (List (Nat×AV))},Fh σ k→ls.length=rX k→vo σ (Ah k (ls.map (jt σ))) (Ah k ls):=by
 intro k
 induction k with
 | nil=>intro ls _ b;cases ls<;>exact .nil
 | hole G=>intro ls h;exact h.elim
 | call fn F o all rest td next e=>
   intro ls h b
   cases ls with
   | nil=>simp[rX] at b
   | cons l ls=>exact .call (by rw[gV h.1];exact tS.refl _) h.2.1.symm (e h.2.2 (by simpa [rX] using b))
 | rN fn F ds next e=>
   intro ls h b
   cases ls with
   | nil=>simp[rX] at b
   | cons l ls=>exact .rN (by rw[gV h.1];exact tS.refl _) h.2.1.symm (e h.2.2 (by simpa [rX] using b))
 | loop fn F d i td next e=>
   intro ls h b
   cases ls with
   | nil=>simp[rX] at b
   | cons l ls=>exact .loop (by rw[gV h.1];exact tS.refl _) h.2.1.symm h.2.2.1.symm h.2.2.2.1.symm (e h.2.2.2.2 (by simpa [rX] using b))
 | round fn F o all rest td id next e=>
   intro ls h b
   cases ls with
   | nil=>simp[rX] at b
   | cons l ls=>exact .round (by rw[gV h.1];exact tS.refl _) h.2.1.symm h.2.2.1.symm (e h.2.2.2 (by simpa [rX] using b))
 | fS D o os E g bE f next e=>intro ls h;exact h.elim
def vp (σ:Nat→Nat)(l:List (Nat×aL)):List (Nat×aL):=l.map fun p=>(σ p.1,p.2.aY σ)
def aH (S:ag):List (Nat×aL)→Prop
 | []=>True
 | (id,o)::r=>S.get id=some o∧aH S r
theorem F6 {S:ag}:∀ {l:List (Nat×aL)},aH S l→∀ id o,(id,o)∈l→S.get id=some o:=by
 intro l
 induction l with
 | nil=>grind
 | cons p r b=>
   obtain⟨i,x⟩:=p
   intro h id o d
   rcases dE.1 d with e | e
   · simp only[nj] at e;obtain⟨rfl,rfl⟩:=e;exact h.1
   · exact b h.2 id o e
section
variable {T : FT} {P : Program} {Qf : gQ → ag → Prop}
variable {a : Nat} {c : St} {ls ls2 : List (List (Nat × AV))} {l2 : List (Nat × aL)}
theorem Sf {p:Nat}(m:p≤a)(v:vk a Qf)(b:List (Nat×Nat))(N nx:Nat){l:List (Nat×aL)}(g:wW b N nx [] []=true)(ha:(b.all fun p=>Nat.ble a p.1)=true)(C:a≤N)(u:T9 (kG b N nx) c)(j:ls.length=wM c)(hs:ls2=ls.map (jt (kG b N nx)))(w:aH (ajZ p nx l2) (vp (kG b N nx) l))(h:br P Qf (jN c ls (ajZ p N l))):br P Qf (jN c ls2 (ajZ p nx l2)):=by
 cases c with
 | run fn F S0 k=>
   cases ls with
   | nil=>simp[wM] at j
   | cons s ls=>
     subst hs
     have f:∀ i,i<a→kG b N nx i=i:=by
       intro i hi
       have:∀ l:List (Nat×Nat),(l.all fun p=>Nat.ble a p.1)=true→kG l N nx i=i:=by
         intro l
         induction l with
         | nil => intro _;simp only[kG];split
                  · rename_i e;have:=gw e;omega
                  · rfl
         | cons p r A=>
           intro d
           simp only[mI,aS] at d
           simp only[kG]
           cases hb:Nat.beq p.1 i with
           | true=>have:=oR hb;have:=gw d.1;omega
           | false=>exact A d.2
       exact this b ha
     refine br.aY (σ:=kG b N nx) (xW g) (fun r S B q hs=>v _ (xW g) f r S B q hs) (Se u.2 (by simpa [wM] using j)) (by rw[gV u.1];exact tS.refl _) ?_ h
     · obtain⟨D,h1⟩:=II g
       refine⟨fun id o e=>?_,fun id bE=>?_,fun k=>?_,fun id bE=>?_⟩
       · refine F6 w (kG b N nx id) (o.aY (kG b N nx)) ?_
         exact kJ.2 ⟨(id,o),As (nx:=N) e,rfl⟩
       · show p≤kG b N nx id
         have bE:p≤id:=bE
         rcases jO (kG b N nx id) p with n | t
         · have:=xW g _ _ (f _ (mG n m))
           omega
         · exact t
       · show kG b N nx (N+k)=nx+k
         rcases h1 (N+k) with⟨x,y⟩ | ⟨x,y⟩ | ⟨x,y,z⟩
         · omega
         · rw[y];omega
         · omega
       · have bE:id<N:=bE
         show kG b N nx id<nx
         rcases h1 id with⟨x,y⟩ | ⟨x,y⟩ | ⟨x,y,z⟩<;>omega
 | _=>simp[wM] at j;subst j;exact h.elim
theorem VF (e:vk a Qf)(b:List (Nat×Nat))(N nx:Nat){l:List (Nat×aL)}(f:wW b N nx [] []=true)(ha:(b.all fun p=>Nat.ble a p.1)=true)(d:a≤N)(g:T9 (kG b N nx) c)(i:ls.length=wM c)(hs:ls2=ls.map (jt (kG b N nx)))(j:aH (oX nx l2) (vp (kG b N nx) l))(h:br P Qf (jN c ls (oX N l))):br P Qf (jN c ls2 (oX nx l2)):=
 Sf (p:=0) (bW _) e b N nx f ha d g i hs j h
def Lh (P:Program)(D:rO)(o:Oper):Option de:=
 match tf D.F D.ops o,cr o.op,gJ o.op,ka (ax D.dr o.after.toList) D.es D.S.nx (n4 D.S.lim (iD D.F (iU o.op))) with
 | some true,false,none,true=>DH P D.F.eval ⟨D.S.nx,D.S.lim,seen D.S (ax D.dr o.after.toList) D.km (iD D.F (iU o.op)) .nil⟩ o.op
 | _,_,_,_=>none
def W2 (P:Program)(s:St):Option de:=
 match s with
 | .fS D _=>match D.os with
   | o::_=>Lh P D o
   | []=>none
 | _=>none
def Rn (r:de)(s:St):St:=
 match s with
 | .fS D k=>match D.os with
   | o::os=>Fe 5 (zd D o os (ax D.dr o.after.toList) k ⟨D.S.nx,D.S.lim,seen D.S (ax D.dr o.after.toList) D.km (iD D.F (iU o.op)) .nil⟩ (n4 D.S.lim (iD D.F (iU o.op)))
    (some ⟨D.S.nx,D.S.lim,seen D.S (ax D.dr o.after.toList) D.km (iD D.F (iU o.op)) .nil⟩) (some r))
   | []=>.bad 5
 | _=>.bad 5
theorem aen {D:rO}{k:cG}{o:Oper}{os:List Oper}{r:de}(g:D.os=o::os)(h:Lh P D o=some r)
   (q:br P Qf (Fe 5 (zd D o os (ax D.dr o.after.toList) k ⟨D.S.nx,D.S.lim,seen D.S (ax D.dr o.after.toList) D.km (iD D.F (iU o.op)) .nil⟩ (n4 D.S.lim (iD D.F (iU o.op)))
    (some ⟨D.S.nx,D.S.lim,seen D.S (ax D.dr o.after.toList) D.km (iD D.F (iU o.op)) .nil⟩) (some r)))):br P Qf (.fS D k):=by
 unfold Lh at h
 split at h<;>try (simp at h;done)
 rename_i i d n hu
 rw[na] at h
 have b:∀ {nx lim id ob},(⟨nx,lim,seen D.S (ax D.dr o.after.toList) D.km (iD D.F (iU o.op)) .nil⟩:ag).get id=some ob→id∈iD D.F (iU o.op)∧D.S.get id=some ob∧ju (ax D.dr o.after.toList) D.km id=true:=by
   intro nx lim id ob e
   have hi:=ag.iw e
   rw[ag.cE hi] at e
   rcases AJ hi e with q | q
   · rw[PT.get_nil] at q;simp at q
   · exact q
 generalize p:seen D.S (ax D.dr o.after.toList) D.km (iD D.F (iU o.op)) .nil=m at *
 cases h2:zd D o os (ax D.dr o.after.toList) k ⟨D.S.nx,D.S.lim,m⟩ (n4 D.S.lim (iD D.F (iU o.op))) (some ⟨D.S.nx,D.S.lim,m⟩) (some r) with
 | none=>rw[h2] at q;exact q.elim
 | some s=>
   rw[h2] at q
   exact xk (E:=⟨D.S.nx,D.S.lim,m⟩) g i d (by rw[h];exact h2) rfl (.inl rfl) (fun id ob e=>(b e).2) (fun id ob e j _=>pC.2 ⟨(b e).1,j⟩) (fun id e=>(pC.1 e).2) (fun id e f=>ql hu id e f) (.inl rfl) (by simpa only[Fe] using q)
variable {s : St}
theorem aeo (d:dh T P)(b:P.follows .mixedOrders=true)(n:Nat)(o:Option de)(r:de)(h:W2 P (ab T P n s)=o)(e:o=some r)(q:br P Qf (Rn r (ab T P n s))):br P Qf s:=by
 refine cL d b n ?_
 generalize ab T P n s=s at h q
 have h:=h.trans e
 cases s<;>grind[W2,Rn,aen]
def S9 (T:FT)(P:Program)(s:St):Option (Nat×List AV×ag):=
 match s with
 | .fS D _=>match D.os with
   | o::_=>match gJ o.op,tf D.F D.ops o,hidden (ax D.dr o.after.toList) D.km with
     | some c,some true,some bE=>match rY T D.F c P with
       | some (g,_,args)=>some (g,args,⟨D.S.nx,D.S.nx,js D.S.m bE⟩)
       | none=>none
     | _,_,_=>none
   | []=>none
 | _=>none
def Ua (v:AV)(b:ag)(s:St):St:=
 match s with
 | .fS D k=>match D.os with
   | o::os=>match hidden (ax D.dr o.after.toList) D.km with
     | some bE=>.fS (D.jN o os ⟨D.S.nx,D.S.nx,js D.S.m bE⟩ (ax D.dr o.after.toList) .quiet v b) k
     | none=>.bad 5
   | []=>.bad 5
 | _=>.bad 5
theorem VG (y:dh T P)(j:P.follows .mixedOrders=true)(n:Nat)(g:Nat)(args:List AV)(E:ag)(v:AV)(p:ag)(h:S9 T P (ab T P n s)=some (g,args,E))(A:fU P g args E fun r S=>r=.ret v∧S=p)(q:br P Qf (Ua v p (ab T P n s))):br P Qf s:=by
 refine cL y j n ?_
 generalize ab T P n s=s at h q
 cases s with
 | fS D k=>
   simp only[S9,Ua] at h q
   cases b:D.os with
   | nil=>grind
   | cons o os=>
     rw[b] at h q
     simp only at h q
     split at h<;>try (simp at h;done)
     rename_i c bE d B hh
     split at h<;>simp only[bj,nj,reduceCtorEq] at h
     rename_i C
     obtain⟨rfl,rfl,rfl⟩:=h
     rw[hh] at q
     simp only at q
     obtain⟨K,ha⟩:=kL y d C
     have u:=fy d
     refine fC.mono (fun Q q=>?_) q
     refine qF.step q b (Ao ..) (fun O S0 E0 L v0 ch z G H=>?_)
     have f:nV P D.ops o D.F.get ⟨D.S.nx,D.S.nx,js D.S.m bE⟩ v p:=nV.call B u (ha _) A
     obtain⟨_,w,M⟩:=z.bE hh
     have t:∀ id ob,(⟨D.S.nx,D.S.nx,js D.S.m bE⟩:ag).get id=some ob→id∉bE∧D.S.get id=some ob:=by
      grind
     have I:=H _ _ _ f rfl fun id ob e=>(t id ob e).2
     rw[F3]
     generalize x:Rm p (ag.nx ⟨D.S.nx,D.S.nx,js D.S.m bE⟩) v=nw
     have:=z.news G b (ids:=[]) (nw:=nw) (Eo:=some ⟨D.S.nx,D.S.nx,js D.S.m bE⟩) f I rfl (.inr rfl) (fun id ob e=>⟨(t id ob e).2,w id (t id ob e).1⟩) (fun id ob e J i=>absurd i (Nat.not_lt.2 J)) (fun id e _=>by simp at e) (fun id e _ i=>by simp at e)
      (fun id ob e=>by
       rw[←x] at e
       exact LQ e) (.inl rfl)
     exact this
 | _=>simp[S9] at h
end
end
end Go.Eng
namespace Go.Eng
noncomputable section
variable {α : Type}
def bP (l:List α)(i:Int):Option α:=if 0≤i then l[i.toNat]? else none
def cw (k:IntKind)(n:Int):Bool:=decide (k.wrap n=n)
variable {c : Bool} {x : Option α}
theorem WE {r:α}(h:(if c then x else none)=some r):c=true∧x=some r:=by
 grind
theorem rZ {β:Type}{f:α→Option β}{r:β}(h:(x>>=f)=some r):∃ a,x=some a∧f a=some r:=by
 cases x<;>grind
variable {y r : Option α}
theorem Zi (e:c=true)(h:(if c then x else y)=r):x=r:=by grind
theorem ZS (e:c=false)(h:(if c then x else y)=r):y=r:=by grind
variable {k : IntKind}
theorem Jv {n:Int}(h:cw k n=true):k.wrap n=n:=of_decide_eq_true h
def az (k:IntKind)(n:Int):AV:=.sc (.int k n)
def gv (b:Bool):AV:=.sc (.bool b)
def encS (s:ByteArray):AV:=.sc (.string s)
variable {i : Int}
theorem Au {l:List α}{x:α}(h:bP l i=some x):∃ n:Nat,i=n∧l[n]? = some x:=by
 grind[bP]
variable {enc : α → AV}
theorem aep {P:Program}{t el n:Nat}{xs:List α}{x:α}{cs:List AV}(hx:bP xs i=some x)(h1:P.underlying t=some (.slice el))(h2:te P el=some n)(d:(enc x).cells=cs)(f:cs.length=n) :
  dP P ag.empty t (.lit (xs.map enc)) (.sc (.int k i))=some (.dN cs):=by
 obtain⟨m,rfl,b⟩:=Au hx
 have e:nth (xs.map enc) m=some (enc x):=by rw[j4];simp[b]
 grind[dP,Nat.beq_refl]
theorem JM (enc:α→AV)(l:List α):some (AV.sc (.int .i64 ((l.map enc).length:Nat)))=some (AV.sc (.int .i64 (l.length:Int))):=by grind
theorem dy (h:∀ x,aV (enc x)=true)(l:List α):cF (l.map enc)=true:=by
 induction l<;>grind[cF]
def Ro (f:α→AV)(l:List α):AV:=.lit (l.map f)
theorem ct {f:α→AV}(h:∀ x,aV (f x)=true)(l:List α):aV (Ro f l)=true:=by simp[Ro,aV,dy h]
@[simp] theorem afq (k:IntKind)(n:Int):aV (az k n)=true:=by simp[az,aV]
@[simp] theorem afr (b:Bool):aV (gv b)=true:=by simp[gv,aV]
@[simp] theorem afs (s:ByteArray):aV (encS s)=true:=by simp[encS,aV]
mutual
theorem AV.dO {σ:Nat→Nat}:∀ {v:AV},aV v=true→v.aY σ=v
 | .sc v,_=>by rw[AV.aY]
 | .agg cs,h=>by rw[AV.aY,mh (by simpa [aV] using h)]
 | .ft,_=>by rw[AV.aY]
 | .an,_=>by rw[AV.aY]
 | .lit es,h=>by rw[AV.aY,mh (by simpa [aV] using h)]
 | .dN cs,h=>by rw[AV.aY,mh (by simpa [aV] using h)]
 | .ptr id i j,h=>by simp[aV] at h
 | .ai id o l,h=>by simp[aV] at h
 | .cQ id,h=>by simp[aV] at h
 | .fn f a b,h=>by
   have h:cF a=true∧cF b=true:=by
    simp only[aV] at h
    split at h
    · rename_i e;exact⟨e,h⟩
    · simp at h
   rw[AV.aY,mh h.1,mh h.2]
 | .eu t v,h=>by rw[AV.aY,AV.dO (v:=v) (by simpa [aV] using h)]
 | .bO d,h=>by rw[AV.aY,mh (by simpa [aV] using h)]
 | .rV id,h=>by simp[aV] at h
 | .clip v,h=>by rw[AV.aY,AV.dO (v:=v) (by simpa [aV] using h)]
 | .top,_=>by rw[AV.aY]
theorem mh {σ:Nat→Nat}:∀ {l:List AV},cF l=true→eB σ l=l
 | [],_=>by rw[eB]
 | v::l,h=>by
   have h:aV v=true∧cF l=true:=by
    simp only[cF] at h
    split at h
    · rename_i e;exact⟨e,h⟩
    · simp at h
   rw[eB,AV.dO h.1,mh h.2]
end
inductive Fz (S : ag) : AV → AV → Prop
 | pure {v : AV} (h : aV v = true) : Fz S v v
 | an : Fz S .an (.lit [])
 | ft : Fz S .ft (.lit [])
 | ai {id len sz : Nat} {es es' : List AV} (hg : S.get id = some (.arr sz es)) (hl : len = es.length) (hs : es'.length = es.length)
  (hc : ∀ (i : Nat) (e e' : AV), es[i]? = some e → es'[i]? = some e' → e'.cells.length = e.cells.length)
  (h : ∀ (i j : Nat) (e e' a a' : AV), es[i]? = some e → es'[i]? = some e' → e.cells[j]? = some a → e'.cells[j]? = some a' → Fz S a a') : Fz S (.ai id 0 len) (.lit es')
 | agg {cs cs' : List AV} (hl : cs'.length = cs.length) (h : ∀ (k : Nat) (a a' : AV), cs[k]? = some a → cs'[k]? = some a' → Fz S a a') : Fz S (.agg cs) (.agg cs')
 | bO {cs cs' : List AV} (hl : cs'.length = cs.length) (h : ∀ (k : Nat) (a a' : AV), cs[k]? = some a → cs'[k]? = some a' → Fz S a a') : Fz S (.bO cs) (.bO cs')
 | eu {t : TypeId} {v v' : AV} (h : Fz S v v') : Fz S (.eu t v) (.eu t v')
variable {S : ag} {id len sz : Nat} {es : List AV}
theorem Fz.lN (b:S.get id=some (.arr sz es))(d:len=es.length)(f:cF es=true):Fz S (.ai id 0 len) (.lit es):=
 .ai b d rfl (fun i e g p q=>by grind) (fun i j e g a a' p q r s=>by
  rw[p] at q;simp only[bj] at q;subst q
  rw[r] at s;simp only[bj] at s;subst s
  exact .pure (kx (fN f p) r))
inductive Er (S : ag) : List AV → List AV → Prop
 | nil : Er S [] []
 | cons {e e' : AV} {l l' : List AV} (h : Fz S e e') (t : Er S l l') : Er S (e :: l) (e' :: l')
theorem Fz.zu {e g:AV}(h:Fz S e g):g.cells.length=e.cells.length∧∀(j:Nat) (a a' : AV),e.cells[j]? = some a→g.cells[j]? = some a' → Fz S a a' := by
 have one:∀ {u f:AV},u.cells=[u]→f.cells=[f]→Fz S u f→f.cells.length=u.cells.length∧∀(j:Nat) (a a' : AV),u.cells[j]? = some a→f.cells[j]? = some a' → Fz S a a' := by
  grind
 cases h with
 | pure h=>exact⟨rfl,fun j a a' n o=>by grind[pure,kx]⟩
 | an=>exact one rfl rfl .an
 | ft=>exact one rfl rfl .ft
 | ai a b c d e=>exact one rfl rfl (.ai a b c d e)
 | agg m h=>exact⟨m,h⟩
 | bO m h=>exact one rfl rfl (.bO m h)
 | eu h=>exact one rfl rfl (.eu h)
variable {l l' : List AV}
theorem Er.spec (h:Er S l l'):l'.length=l.length∧∀(i:Nat) (e b:AV),l[i]? = some e→l'[i]? = some b→Fz S e b:=by
 induction h<;>grind
theorem Fz.yU {b:List AV}(f:S.get id=some (.arr sz es))(g:len=es.length)(h:Er S es b):Fz S (.ai id 0 len) (.lit b):=
 .ai f g h.spec.1 (fun i e d p q=>(h.spec.2 i e d p q).zu.1) (fun i j e d a a' p q r s=>(h.spec.2 i e d p q).zu.2 j a a' r s)
theorem Fz.Yx : Fz S (.agg []) (.agg []):=.agg rfl fun k a a' e=>by simp at e
variable {a a' : AV}
theorem Fz.aw (h:Fz S a a')(t:Fz S (.agg l) (.agg l')):Fz S (.agg (a::l)) (.agg (a' :: l')):=by
 have key:l'.length=l.length∧∀(k:Nat) (a a' : AV),l[k]? = some a→l'[k]? = some a' → Fz S a a' := by
  cases t with
  | pure h=>exact⟨rfl,fun k a a' e d=>by grind[pure,fN,aV]⟩
  | agg f h=>exact⟨f,h⟩
 refine .agg (by simp[key.1]) fun k b g e d=>?_
 grind
theorem Fz.Yy : Fz S (.bO []) (.bO []):=.bO rfl fun k a a' e=>by simp at e
theorem Fz.bw (h:Fz S a a')(t:Fz S (.bO l) (.bO l')):Fz S (.bO (a::l)) (.bO (a' :: l')):=by
 have key:l'.length=l.length∧∀(k:Nat) (a a' : AV),l[k]? = some a→l'[k]? = some a' → Fz S a a' := by
  cases t with
  | pure h=>exact⟨rfl,fun k a a' e d=>by grind[pure,fN,aV]⟩
  | bO f h=>exact⟨f,h⟩
 refine .bO (by simp[key.1]) fun k b g e d=>?_
 grind
theorem Fz.aY {σ:Nat→Nat}{S t:ag}(hs:Ep σ S t){v v' : AV}(h:Fz S v v'):Fz t (v.aY σ) (v'.aY σ):=by
 have key:∀ {l:List AV} {k:Nat} {a:AV},(eB σ l)[k]? = some a→∃ b,l[k]? = some b∧a=b.aY σ:=by
   intro l k a e
   rw[iX] at e
   grind
 induction h with
 | pure h=>rw[AV.dO h];exact .pure h
 | an=>rw[AV.aY,AV.aY,eB];exact .an
 | ft=>rw[AV.aY,AV.aY,eB];exact .ft
 | ai u n o w h d=>
   rw[AV.aY,AV.aY]
   refine .ai (hs.get _ _ u) (by rw[bm];exact n) (by rw[bm,bm];exact o) (fun i e z p q=>?_) (fun i j e z a a' p q r s=>?_)
   · obtain⟨b,f,rfl⟩:=key p
     obtain⟨g,m,rfl⟩:=key q
     rw[AV.gu,AV.gu,bm,bm]
     exact w i b g f m
   · obtain⟨b,f,rfl⟩:=key p
     obtain⟨g,m,rfl⟩:=key q
     rw[AV.gu] at r s
     obtain⟨c,A,rfl⟩:=key r
     obtain⟨B,s', rfl⟩:=key s
     exact d i j b g c B f m A s'
 | agg n h d=>
   rw[AV.aY,AV.aY]
   refine .agg (by rw[bm,bm];exact n) fun k a a' p q=>?_
   obtain⟨b,f,rfl⟩:=key p
   obtain⟨g,m,rfl⟩:=key q
   exact d k b g f m
 | bO n h d=>
   rw[AV.aY,AV.aY]
   refine .bO (by rw[bm,bm];exact n) fun k a a' p q=>?_
   obtain⟨b,f,rfl⟩:=key p
   obtain⟨g,m,rfl⟩:=key q
   exact d k b g f m
 | eu h d=>rw[AV.aY,AV.aY];exact .eu d
variable {v v' : AV}
theorem Fz.sound {g B:Gh}{w:World}(hi:Inv S g w)(G:Gh.frozen S g w B)(h:Fz S v v'):∀ {x:Value},VR g v x→VR B v' x:=by
 induction h with
 | pure h=>intro x f;exact f.mono G.1
 | an=>intro x f;cases f;exact .jV
 | ft=>intro x f;cases f;exact .jV
 | ai o n hs K h p=>
   intro x f
   cases f with
   | ai H J hb=>
     rename_i l
     obtain⟨l', C,q2,q3⟩:=hi.ob _ _ o
     rw[H] at C;simp only[bj] at C;subst C
     obtain⟨c,t,L,Q,I,R,U,M⟩:=q3
     have D:=G.2.2 _ _ l c t (0,0) o H L
     rename_i es z cap
     subst n
     rw[←hs]
     have:VR B (.lit z) (.slice (some ⟨l.cZ,l.base+0*l.sz,none⟩) z.length cap):=by
      refine .lit (sz:=l.sz) D (fun e N=>?_) (by rw[hs,I];omega) (by grind) (fun i j e a x m u O=>?_)
      · obtain⟨k,V⟩:=hU N
        have d:k<es.length:=by grind
        have b:es[k]? = some es[k]:=qB d
        grind
      · have d:i<es.length:=by rw[←hs];exact(mC.1 m).1
        have b:es[i]? = some es[i]:=qB d
        have E:j<es[i].cells.length:=by rw[←K i _ e b m];exact(mC.1 u).1
        have A:es[i].cells[j]? = some es[i].cells[j]:=qB E
        exact p i j _ e _ a b m A u (M i j _ _ x b A (by rw[←I,←O];congr 1;omega))
     exact this
   | hM=>
     obtain rfl:=B7.1 (hs.trans n.symm)
     exact .jV
 | agg n h p=>
   intro x f
   cases f with
   | agg q hh=>
     refine .agg (by rw[n];exact q) fun k a x m u=>?_
     rename_i cs F xs
     have d:k<cs.length:=by rw[←n];exact(mC.1 m).1
     have b:cs[k]? = some cs[k]:=qB d
     exact p k _ a b m (hh k _ x b u)
 | bO n h p=>
   intro x f
   cases f with
   | bO q hh=>
     refine .bO (by rw[n];exact q) fun k a x m u=>?_
     rename_i cs F xs
     have d:k<cs.length:=by rw[←n];exact(mC.1 m).1
     have b:cs[k]? = some cs[k]:=qB d
     exact p k _ a b m (hh k _ x b u)
 | eu h p=>intro x f;cases f with | eu hh=>exact .eu (p hh)
def wN (s:St):Option AV:=
 match s with
 | .done (.ret v) _=>some v
 | _=>none
section
variable {T : FT} {P : Program} {Qf : gQ → ag → Prop}
variable {s : St}
theorem aeq (d:dh T P)(b:P.follows .mixedOrders=true)(n:Nat)(h:wN (ab T P n s)=some v)(e:∀ S,Qf (.ret v) S):br P Qf s:=by
 refine cL d b n ?_
 generalize ab T P n s=s at h
 unfold wN at h
 split at h<;>simp only[bj,reduceCtorEq] at h
 subst h
 exact e _
def RQ (v' : AV):gQ→ag→Prop:=fun r S=>∃ v,r=.ret v∧Fz S v v'
theorem Ik (d:aV v' = true):vk 0 (RQ v'):=by
 rintro σ b _ r S e ⟨v,rfl,h⟩ hs
 refine⟨v.aY σ,rfl,?_⟩
 have:=h.aY hs
 grind[AV.dO]
theorem Yz (d:dh T P)(b:P.follows .mixedOrders=true)(n:Nat)(h:wN (ab T P n s)=some v)(e:aV v=true):br P (RQ v) s:=
 aeq d b n h fun _=>⟨v,rfl,.pure e⟩
theorem YA (C:dh T P){f:Nat}{args:List AV}(ha:cF args=true)(D:aV v=true)(h:br P (RQ v) (St.start T f args ag.empty))(S:ag) :
   fU P f args S fun r n=>r=.ret v∧n=S:=by
 refine fU.frame ha D ?_ S
 have h:=Ce C h
 intro g w xs hx hi
 refine(h g w xs hx hi).mono fun e w' ⟨r,n,g', ⟨v0,E,hf⟩,j,p,d⟩=>?_
 subst E
 have z:=Gh.jT p
 have u:∀ id,(⟨n.nx,n.lim,.nil⟩:ag).get id=none:=fun id=>Ey _ _ id
 have m:∀ b c,(g'.freeze n w').ro b=some c→g'.ro b=some c∨(∃ t fz,w'.heap[b]? = some (.cells c t fz))∧∃ id o l,n.get id=some o∧g'.ph id=some l∧l.cZ=b:=by
   intro b c e
   simp only[Gh.freeze] at e
   split at e
   · grind
   · split at e
     · rename_i I t fz hh
       split at e<;>simp only[bj,reduceCtorEq] at e
       rename_i A
       subst e;exact .inr ⟨⟨t,fz,hh⟩,A⟩
     · simp at e
 refine⟨.ret v,⟨n.nx,n.lim,.nil⟩,g'.freeze n w', rfl,?_,⟨?_,?_,?_,?_⟩,⟨d.size,d.os,d.tape,d.output,d.jW,?_,Gh.le_trans d.oS z.1,d.nx,d.lim,?_,d.vZ,?_,fun id _ _=>u id,d.fz⟩⟩
 · cases e with
   | returned x=>exact Fz.sound p z hf j
   | panicked c=>exact j.elim
   | outgrown=>exact j.elim
 · intro b c e
   rcases m b c e with q | ⟨q,_⟩
   · exact p.ro b c q
   · exact q
 · intro id o e;rw[u] at e;simp at e
 · intro id G o o' l l' e;rw[u] at e;simp at e
 · exact p.fresh
 · intro id o l e;rw[u] at e;simp at e
 · intro id bE;exact absurd bE (Nat.not_lt_zero id)
 · intro b c e hb
   rcases m b c e with q | ⟨_,id,o,l,F,q2,q3⟩
   · exact d.CU b c q hb
   · obtain⟨H,o0,J,B,_⟩:=d.own id o l F (bW id) q2 (by rw[q3];exact hb)
     rw[ag.fM] at B;simp at B
end
end
end Go.Eng
namespace Go.Eng
noncomputable section
def qH (σ:Nat→Nat):bf→Bool
 | .zb id=>Nat.beq (σ id) id
 | .nX id=>Nat.beq (σ id) id
 | _=>true
def Jw (σ:Nat→Nat):AV→Bool
 | .ptr id _ _=>Nat.beq (σ id) id
 | v=>aV v
def Av (σ:Nat→Nat):gS→Bool
 | .mQ id=>Nat.beq (σ id) id
 | .call _ cap args=>cap.all (Jw σ)&&args.all (Jw σ)
 | .uC _=>true
def AK : dq→Bool
 | .panicking _=>false
 | _=>true
def QA (σ:Nat→Nat):Option Nat→Bool
 | some id=>Nat.beq (σ id) id
 | none=>true
def jl (σ:Nat→Nat)(F:ae):Bool:=F.todo.all (qH σ)&&F.defers.all (Av σ)&&AK F.mode&&AK F.cm&&QA σ F.round
def qZ (σ:Nat→Nat):cG→Bool
 | .nil=>true
 | .call _ F _ _ _ td next=>jl σ F&&td.all (qH σ)&&qZ σ next
 | .rN _ F ds next=>jl σ F&&ds.all (Av σ)&&qZ σ next
 | .loop _ F d i td next=>jl σ F&&td.all (qH σ)&&Nat.beq (σ d) d&&Nat.beq (σ i) i&&qZ σ next
 | .round _ F _ _ _ td id next=>jl σ F&&td.all (qH σ)&&Nat.beq (σ id) id&&qZ σ next
 | _=>false
def yV (σ:Nat→Nat):St→Bool
 | .run _ F _ k=>jl σ F&&qZ σ k
 | _=>false
section
variable {σ : Nat → Nat}
theorem lW : ∀ {l:List bf},l.all (qH σ)=true→l.map (bf.aY σ)=l:=by
 intro l
 induction l with
 | nil=>intro _;rfl
 | cons a l b=>
   intro h
   simp only[mI,aS] at h
   rw[dF,b h.2]
   cases a with
   | zb id=>simp only[bf.aY];rw[oR h.1]
   | nX id=>simp only[bf.aY];rw[oR h.1]
   | _=>rfl
theorem IJ : ∀ {l:List AV},l.all (Jw σ)=true→eB σ l=l:=by
 intro l
 induction l with
 | nil=>intro _;rfl
 | cons a l b=>
   intro h
   simp only[mI,aS] at h
   have:a.aY σ=a:=by
    have h1:=h.1
    unfold Jw at h1
    grind[AV.aY,Nat.eq_of_beq_eq_true,AV.dO]
   grind[eB]
theorem zE : ∀ {l:List gS},l.all (Av σ)=true→l.map (gS.aY σ)=l:=by
 intro l
 induction l with
 | nil=>intro _;rfl
 | cons a l b=>
   intro h
   simp only[mI,aS] at h
   rw[dF,b h.2]
   cases a with
   | mQ id=>simp only[gS.aY];rw[oR h.1]
   | uC bs=>rfl
   | call f cap args=>
     have:=h.1
     simp only[Av,aS] at this
     simp only[gS.aY,IJ this.1,IJ this.2]
theorem MK {m:dq}(h:AK m=true):m.aY σ=m:=by
 cases m<;>first | rfl | simp[AK] at h
theorem Pj {r:Option Nat}(h:QA σ r=true):r.map σ=r:=by
 cases r with
 | none=>rfl
 | some id=>simp only[lP];rw[oR h]
theorem gX {F:ae}(h:jl σ F=true):Jg σ F=Ai F:=by
 simp only[jl,aS] at h
 grind[Jg,Ai,lW,zE,MK,Pj]
theorem Sg : ∀ {k:cG},qZ σ k=true→Fh σ k:=by
 intro k
 induction k with
 | nil=>intro _;trivial
 | hole G=>intro h;simp[qZ] at h
 | call fn F o all rest td next a=>intro h;simp only[qZ,aS] at h;exact⟨gX h.1.1,lW h.1.2,a h.2⟩
 | rN fn F ds next a=>intro h;simp only[qZ,aS] at h;exact⟨gX h.1.1,zE h.1.2,a h.2⟩
 | loop fn F d i td next a=>
   intro h;simp only[qZ,aS] at h
   exact⟨gX h.1.1.1.1,lW h.1.1.1.2,oR h.1.1.2,oR h.1.2,a h.2⟩
 | round fn F o all rest td id next a=>
   intro h;simp only[qZ,aS] at h
   exact⟨gX h.1.1.1,lW h.1.1.2,oR h.1.2,a h.2⟩
 | fS D o os E c bE b next a=>intro h;simp[qZ] at h
variable {s : St}
theorem VH (h:yV σ s=true):T9 σ s:=by
 cases s with
 | run fn F S k=>simp only[yV,aS] at h;exact⟨gX h.1,Sg h.2⟩
 | _=>simp[yV] at h
end
def Li (n:Nat):List (Nat×aL)→Bool
 | []=>false
 | (k,_)::r=>match Nat.beq k n with
   | true=>true
   | false=>Li n r
def mJ : List (Nat×aL)→Bool
 | []=>true
 | (k,_)::r=>match Li k r with
   | true=>false
   | false=>mJ r
theorem VI : ∀(l:List (Nat×aL)) (m:PT) (id:Nat),Li id l=false→PT.get dep (Lg m l) id=PT.get dep m id:=by
 intro l
 induction l with
 | nil=>intro m id _;rfl
 | cons a l c=>
   obtain⟨k,o⟩:=a
   intro m id h
   simp only[Li] at h
   split at h
   · simp at h
   · rename_i d
     have b:k≠id:=by rintro rfl;simp_all
     show PT.get dep (Lg (PT.set dep m k (some o)) l) id=_
     grind[PT.tz]
theorem QB : ∀(l:List (Nat×aL)) (m:PT),mJ l=true→∀ id o,(id,o)∈l→PT.get dep (Lg m l) id=some o:=by
 intro l
 induction l with
 | nil=>grind
 | cons a l b=>
   obtain⟨k,x⟩:=a
   intro m h id o c
   simp only[mJ] at h
   split at h
   · simp at h
   · rename_i d
     show PT.get dep (Lg (PT.set dep m k (some x)) l) id=some o
     rcases dE.1 c with e | e
     · simp only[nj] at e;obtain⟨rfl,rfl⟩:=e
       rw[VI _ _ _ d,PT.cO]
     · exact b _ h id o e
variable {nx : Nat}
theorem IK {l:List (Nat×aL)}(h:mJ l=true):aH (oX nx l) l:=by
 have:∀ r:List (Nat×aL),(∀ id o,(id,o)∈r→(id,o)∈l)→aH (oX nx l) r:=by
  intro r
  induction r with
  | nil=>intro _;trivial
  | cons p r b=>
    obtain⟨i,x⟩:=p
    intro a
    exact⟨QB l .nil h i x (a i x (jU ..)),b fun id o e=>a id o (K5 _ e)⟩
 grind
theorem ED (N nx i:Nat):kG [] N nx i=if N≤i then nx+(i-N) else i:=by
 simp only[kG]
 split
 · simp_all
 · rename_i e;rw[if_neg (fun q=>by rw[GY q] at e;simp at e)]
theorem AL (c a:Nat)(r:List (Nat×Nat))(N nx i:Nat):kG ((c,a)::r) N nx i=if c=i then a else kG r N nx i:=by
 simp only[kG]
 cases hb:Nat.beq c i with
 | true=>simp_all
 | false=>rw[if_neg (fun q=>by simp_all)]
theorem mT {α:Type}{σ:Nat→Nat}{enc:α→AV}(h:∀ x,aV (enc x)=true)(l:List α):eB σ (l.map enc)=l.map enc:=mh (dy h l)
def yq (P:Program)(s:St):Option de:=
 match s with
 | .run fn F S k=>Zh P (.run fn F S k)
 | .fS D k=>W2 P (.fS D k)
 | _=>none
def e8 (s:St):ag:=
 match s with
 | .run _ _ S _=>S
 | .fS D _=>match D.os with
   | o::_=>⟨D.S.nx,D.S.lim,seen D.S (ax D.dr o.after.toList) D.km (iD D.F (iU o.op)) .nil⟩
   | []=>ag.empty
 | _=>ag.empty
def Jh (r:de)(s:St):St:=
 match s with
 | .run fn F S k=>match r with
   | .val v a=>ak v (some a) (.run fn F S k)
   | .skip a=>ak (.bO []) (some a) (.run fn F S k)
   | _=>.bad 72
 | .fS D k=>Rn r (.fS D k)
 | _=>.bad 72
def j3 (r:de)(s:St):Bool:=
 match r with
 | .val _ _=>((dG s).bind (·.dst)).isSome
 | .skip _ => !((dG s).bind (·.dst)).isSome
 | _=>false
section
variable {T : FT} {P : Program} {Qf : gQ → ag → Prop}
variable {s : St}
theorem UE (b:dh T P)(a:P.follows .mixedOrders=true)(n:Nat)(o:Option de)(r:de)(h:yq P (ab T P n s)=o)(c:j3 r (ab T P n s)=true)(d:o=some r)(q:br P Qf (Jh r (ab T P n s))):br P Qf s:=by
 refine cL b a n ?_
 generalize ab T P n s=s at h q c
 have h:=h.trans d
 cases s with
 | run fn F S k=>
   simp only[yq] at h
   cases r with
   | val v e=>exact Yu b h (by grind[j3]) q
   | skip e=>exact VC b h (by simp only[j3] at c;simp_all) q
   | _=>simp[j3] at c
 | fS D k=>
   simp only[yq] at h
   exact aeo b a 0 _ r h rfl q
 | _=>simp[yq] at h
def eC (r:ag→de)(s:St):St:=Jh (r (e8 s)) s
def BL : St→ag
 | .done _ S=>S
 | _=>ag.empty
theorem QC (b:dh T P)(a:P.follows .mixedOrders=true)(n:Nat)(o:ag→Option de)(r:ag→de)(h:yq P (ab T P n s)=o (e8 (ab T P n s)))(c:j3 (r (e8 (ab T P n s))) (ab T P n s)=true)(d:o (e8 (ab T P n s))=some (r (e8 (ab T P n s))))(q:br P Qf (eC r (ab T P n s))):br P Qf s:=UE b a n _ _ h c d q
variable {v : AV}
theorem YB (c:dh T P)(a:P.follows .mixedOrders=true)(n:Nat){v' : AV}(h:wN (ab T P n s)=some v)(b:Fz (BL (ab T P n s)) v v'):br P (RQ v') s:=by
 refine cL c a n ?_
 generalize ab T P n s=s at h b
 unfold wN at h
 split at h<;>simp only[bj,reduceCtorEq] at h
 subst h
 exact⟨_,rfl,b⟩
theorem aer (c:dh T P)(a:P.follows .mixedOrders=true)(n:Nat)(b:Bool)(h:yq P (ab T P n s)=some (.val (.sc (.bool b)) (e8 (ab T P n s))))(d:j3 (.val (.sc (.bool b)) (e8 (ab T P n s))) (ab T P n s)=true)(e:b=true→br P Qf (Jh (.val (.sc (.bool true)) (e8 (ab T P n s))) (ab T P n s)))(f:b=false→br P Qf (Jh (.val (.sc (.bool false)) (e8 (ab T P n s))) (ab T P n s))):br P Qf s:=by
 refine UE c a n _ (.val (.sc (.bool b)) (e8 (ab T P n s))) h d rfl ?_
 cases b<;>grind
end
section
variable {P : Program} {α : Type} {enc : α → AV}
variable {n : Nat}
theorem dY (h:∀ x,(enc x).cells.length=n)(a:∀ x,(enc x).cells.all eD=true)(l:List α):sized n (l.map enc)=true:=by
 simp only[sized,List.all_map,dg]
 intro x _
 simp[h x,a x]
variable {S : ag}
theorem bC {ys:List α}(src:AV)(h:src=.lit (ys.map enc)∨∃ id sz,src=.ai id 0 ys.length∧S.get id=some (.arr sz (ys.map enc))):iT S src=some (ys.map enc):=by
 rcases h with rfl | ⟨id,sz,rfl,h⟩
 · rfl
 · have hb:Nat.ble ys.length ys.length=true:=GY (bG _)
   grind[iT,se]
def Lj (P:Program)(t el sz:Nat):Bool:=
 match P.underlying t,P.info? el,iW P el with
 | some (.slice a),some i,some z=>Nat.beq a el&&Nat.ble 1 i.size&&Nat.ble i.bytes 4096&&Nat.beq z.cells.length i.size&&z.cells.all eD&&Nat.beq sz i.size
 | _,_,_=>false
def Lk (P:Program)(t:Nat):Bool:=
 match P.underlying t with
 | some (.slice _)=>true
 | _=>false
variable {t el sz : Nat}
theorem uW {P:Program}(h:Lj P t el sz=true):∃ i z,P.underlying t=some (.slice el)∧P.info? el=some i∧iW P el=some z∧(Nat.ble 1 i.size&&Nat.ble i.bytes 4096&&Nat.beq z.cells.length i.size&&z.cells.all eD&&Nat.beq sz i.size)=true:=by
 unfold Lj at h
 split at h<;>try (simp at h;done)
 simp_all
theorem uX {P:Program}(h:Lk P t=true):∃ el,P.underlying t=some (.slice el):=by
 grind[Lk]
def mN (P:Program)(S:ag)(st xt:TypeId)(s x:AV):Option de:=lh P S .append [st,xt] [s,x]
variable {st xt id len : Nat} {src : AV}
theorem n7 {xs ys:List α}(m:Lj P st el sz=true)(o:Lk P xt=true)(c:∀ x,(enc x).cells.length=sz)(a:∀ x,(enc x).cells.all eD=true)(b:S.get id=some (.arr sz (xs.map enc)))(d:iT S src=some (ys.map enc))(g:len=xs.length)(p:S.nx=nx)(e:(Nat.ble (S.nx+1) 8192&&Nat.ble S.lim S.nx)=true)(q:Nat.ble S.lim id=true)(G:ys≠[])(r:xs.length+ys.length≤1048576):mN P S st xt (.ai id 0 len) src=some (.val (.ai nx 0 (xs++ys).length) ((S.del id).add (.arr sz ((xs++ys).map enc)))):=by
 obtain⟨i,z,u,hi,F,E⟩:=uW m
 obtain⟨H,w⟩:=uX o
 simp only[aS] at E e
 obtain⟨⟨⟨⟨h1,h2⟩,h3⟩,h4⟩,l⟩:=E
 have l:=oR l
 subst l
 subst g
 subst p
 have A:=dY (enc:=enc) c a xs
 have f:=dY (enc:=enc) c a ys
 have h:iT S (.ai id 0 xs.length)=some (xs.map enc):=bC _ (.inr ⟨id,_,rfl,b⟩)
 cases ys with
 | nil=>grind
 | cons y ys=>
   simp only[dF] at d f
   have k:Nat.ble ((xs.map enc).length+(enc y::ys.map enc).length) 1048576=true:=GY (by simpa using r)
   have hb:Nat.beq i.size i.size=true:=vy _
   have B:(S.del id).nx=S.nx:=rfl
   have C:(S.del id).lim=S.lim:=rfl
   have D:B0 S id 0 xs.length i.size (enc y::ys.map enc)=none:=by
    have:Nat.ble (0+xs.length+(enc y::ys.map enc).length) (xs.map enc).length=false:=by
     cases hb:Nat.ble (0+xs.length+(enc y::ys.map enc).length) (xs.map enc).length with
     | false=>rfl
     | true=>exfalso;have:=gw hb;grind
    simp only[B0,b,this,Bool.and_false]
   simp only[mN,lh,qG,u,w,hi,F,d,f,h1,h2,h3,h4,uh,b,h,D,k,A,q,hb,gG,B,C,e.1,e.2]
   grind
theorem Aw {s:AV}{ys:List α}(h:s=.an∨s=.ft)(k:Lj P st el sz=true)(l:Lk P xt=true)(d:∀ x,(enc x).cells.length=sz)(a:∀ x,(enc x).cells.all eD=true)(b:iT S src=some (ys.map enc))(m:S.nx=nx)(c:(Nat.ble (S.nx+1) 8192&&Nat.ble S.lim S.nx)=true)(w:ys≠[])(o:ys.length≤1048576):mN P S st xt s src=some (.val (.ai nx 0 ys.length) (S.add (.arr sz (ys.map enc)))):=by
 obtain⟨i,z,p,hi,u,r⟩:=uW k
 obtain⟨A,q⟩:=uX l
 simp only[aS] at r c
 obtain⟨⟨⟨⟨h1,h2⟩,h3⟩,h4⟩,g⟩:=r
 have g:=oR g
 subst g
 subst m
 have e:=dY (enc:=enc) d a ys
 cases ys with
 | nil=>grind
 | cons y ys=>
   simp only[dF] at b e
   have f:Nat.ble (enc y::ys.map enc).length 1048576=true:=GY (by simpa using o)
   rcases h with rfl | rfl <;>
   · simp only[mN,lh,qG,p,q,hi,u,b,e,h1,h2,h3,h4,uh,f,gG,c.1,c.2]
     congr 2
     simp
variable {es : List AV}
theorem dH {s:AV}{ys:List α}(c:Lj P st el sz=true)(d:Lk P xt=true)(a:iT S src=some (ys.map enc))(hy:ys.isEmpty=true)(hs:iT S s=some es)(e:sized sz es=true) :
  mN P S st xt s src=some (.val s S):=by
 obtain⟨i,z,f,hi,k,h⟩:=uW c
 obtain⟨l,g⟩:=uX d
 simp only[aS] at h
 obtain⟨⟨⟨⟨h1,h2⟩,h3⟩,h4⟩,b⟩:=h
 have b:=oR b
 subst b
 have:ys=[]:=List.isEmpty_iff.1 hy
 subst this
 simp only[mN,lh,qG,f,g,hi,k,a,ud,show sized i.size []=true from rfl,h1,h2,h3,h4,uh,hs,e]
theorem bK {ys:List α}(h:ys.isEmpty=false):ys≠[]:=by grind
def wS (P:Program)(S:ag)(t:TypeId)(a b:AV):Option de:=mM S (dP P S t a b)
variable {i : Int}
theorem lD {xs:List α}{x:α}{k:IntKind}(hx:bP xs i=some x)(a:len=xs.length)(h1:P.underlying t=some (.slice el))(h2:te P el=some n)(b:S.get id=some (.arr n es)) :
  wS P S t (.ai id 0 len) (.sc (.int k i))=some (.val (.ptr id (0+i.toNat) 0) S):=by
 obtain⟨m,rfl,c⟩:=Au hx
 have d:m<xs.length:=(mC.1 c).1
 show mM S (dP P S t (.ai id 0 len) (.sc (.int k (.ofNat m))))=_
 simp only[dP,h1,h2,b,vy,show Nat.ble (m+1) len=true from GY (by omega),mM]
 rfl
def WN (P:Program)(S:ag)(t:TypeId)(p:AV):Option de:=
 match kX S p with
 | some cs=>mM S (tX P t cs)
 | none=>none
variable {v : AV} {j : Nat} {cs : List AV}
theorem zw {xs:List α}{x:α}(hx:bP xs i=some x)(c:S.get id=some (.arr n (xs.map enc)))(b:(enc x).cells=cs)(d:Nat.ble j cs.length=true)(f:tX P t (cs.drop j)=some v) :
  WN P S t (.ptr id (0+i.toNat) j)=some (.val v S):=by
 obtain⟨m,rfl,a⟩:=Au hx
 have e:nth (xs.map enc) (0+(m:Int).toNat)=some (enc x):=by rw[j4];simp[a]
 grind[WN,kX,mM]
def Lb (P:Program)(S:ag)(t:TypeId)(p v:AV):Option de:=NQ (xR P S t p v)
theorem pq {m:Nat}{xs:List α}{x x' : α}(hx:bP xs i=some x)(c:S.get id=some (.arr n (xs.map enc)))(b:(enc x).cells=cs)(d:te P t=some m)(f:(Nat.beq v.cells.length m&&Nat.ble (j+m) cs.length&&v.cells.all eD&&Nat.ble S.lim id)=true)(g:akx (mP cs j v.cells)=enc x') :
  Lb P S t (.ptr id (0+i.toNat) j) v=some (.skip (S.set id (.arr n ((xs.set i.toNat x').map enc)))):=by
 obtain⟨q,rfl,a⟩:=Au hx
 have e:nth (xs.map enc) (0+(q:Int).toNat)=some (enc x):=by rw[j4];simp[a]
 grind[Lb,xR,NQ,List.map_set]
end
end
end Go.Eng
namespace Go.Eng
noncomputable section
structure cU (T : FT) (P : Program) : Prop where
 ok : dh T P
 mix : P.follows .mixedOrders = true
structure SX (P : Program) (Q : gQ → ag → Prop) (s : St) : Prop where
 out : br P Q s
mutual
def wJ : AV→AV
 | .an=>.lit []
 | .ft=>.lit []
 | .agg cs=>.agg (uE cs)
 | v=>v
def uE : List AV→List AV
 | []=>[]
 | v::l=>wJ v::uE l
end
theorem AM (l:List AV)(k:Nat):(uE l)[k]? = l[k]?.map wJ:=by
 induction l generalizing k with
 | nil=>simp[uE]
 | cons a l c=>cases k<;>simp[uE,c]
theorem nL (l:List AV):(uE l).length=l.length:=by
 induction l with
 | nil=>simp[uE]
 | cons a l c=>simp[uE,c]
theorem VR.wJ {g:Gh}{v:AV}{x:Value}(h:VR g v x):VR g (Go.Eng.wJ v) x:=by
 induction h with
 | an=>rw[Go.Eng.wJ];exact .jV
 | ft=>rw[Go.Eng.wJ];exact .jV
 | agg f _ j=>
   rw[Go.Eng.wJ]
   refine .agg (by rw[nL];exact f) fun k a x e l=>?_
   rw[AM] at e
   rename_i cs xs _
   cases hb:cs[k]? with
   | none=>rw[hb] at e;simp at e
   | some b=>rw[hb] at e;simp at e;subst e;exact j k b x hb l
 | sc h=>rw[Go.Eng.wJ];exact .sc h;all_goals simp
 | lit a b c d e=>rw[Go.Eng.wJ];exact .lit a b c d e;all_goals simp
 | jV=>rw[Go.Eng.wJ];exact .jV;all_goals simp
 | dN a b c=>rw[Go.Eng.wJ];exact .dN a b c;all_goals simp
 | ptr a=>rw[Go.Eng.wJ];exact .ptr a;all_goals simp
 | ai a b c=>rw[Go.Eng.wJ];exact .ai a b c;all_goals simp
 | hM a b=>rw[Go.Eng.wJ];exact .hM a b;all_goals simp
 | cQ a=>rw[Go.Eng.wJ];exact .cQ a;all_goals simp
 | fn a b c d=>rw[Go.Eng.wJ];exact .fn a b c d;all_goals simp
 | eu a=>rw[Go.Eng.wJ];exact .eu a;all_goals simp
 | bO a b=>rw[Go.Eng.wJ];exact .bO a b;all_goals simp
 | rV a=>rw[Go.Eng.wJ];exact .rV a;all_goals simp
 | clip a=>rw[Go.Eng.wJ];exact .clip a;all_goals simp
 | top=>exact .top
theorem hJ.wJ {g:Gh}{l:List AV}{xs:Array Value}(h:hJ g l xs):hJ g (uE l) xs:=by
 refine⟨by rw[nL];exact h.1,fun k a x e c=>?_⟩
 rw[AM] at e
 cases hb:l[k]? with
 | none=>rw[hb] at e;simp at e
 | some b=>rw[hb] at e;simp at e;subst e;exact(h.2 k b x hb c).wJ
def pt (s:ByteArray)(i:Int):Option Int:=if 0≤i then(s[i.toNat]?).map fun b=>(b.toNat:Int) else none
def Ji (P:Program)(S:ag)(t:TypeId)(a b:AV):Option de:=mM S (n6 P t a b)
variable {k : IntKind} {i : Int}
theorem yf (h:0≤i):wc (.sc (.int k i))=some i.toNat:=by
 obtain⟨n,rfl⟩:=Int.eq_ofNat_of_zero_le h
 rfl
variable {P : Program} {b : Int}
theorem vC {S:ag}{t:Nat}{s:ByteArray}(h:pt s i=some b)(hu:P.underlying t=some .string):Ji P S t (.sc (.string s)) (.sc (.int k i))=some (.val (.sc (.int .u8 b)) S):=by
 unfold pt at h
 split at h<;>try (simp at h;done)
 rename_i c
 cases hb:s[i.toNat]? with
 | none=>rw[hb] at h;simp at h
 | some x=>
   rw[hb] at h
   simp only[lP,bj] at h
   subst h
   simp only[Ji,n6,hu,yf c,hb,mM]
def Tp (P : Program) : List Field → List AV → List AV → Option (List Bool)
 | [], _, _ => some []
 | f :: fs, xs, ys => if f.name ≠ "_" ∧ Rh P f.type = some false then
    match nth xs f.offset, nth ys f.offset with
    | some (.sc a), some (.sc b) => match WX P f.type a b, Tp P fs xs ys with
      | some e, some l => some (e :: l)
      | _, _ => none
    | _, _ => none
   else none
variable {xs ys : List AV}
theorem Si : ∀ {fs:List Field} {l:List Bool},Tp P fs xs ys=some l→N2 P fs xs ys=some (l.all id):=by
 intro fs
 induction fs with
 | nil=>intro l h;simp only[Tp,bj] at h;subst h;rfl
 | cons f fs c=>
   intro l h
   simp only[Tp] at h
   split at h
   · rename_i d
     split at h
     · rename_i a b g j
       split at h<;>simp only[bj,reduceCtorEq] at h
       rename_i e l' h1 h2
       subst h
       simp only[N2,if_pos d,g,j,h1]
       cases e with
       | true=>simp[c h2]
       | false=>simp
     · simp at h
   · simp at h
def agq (P:Program)(t:TypeId)(xs ys:List AV):Option (List Bool):=
 match P.underlying t with
 | some (.struct fs)=>match P.stoodInHeld t||P.eqGuardType P.depth t with
   | false=>Tp P fs.toList xs ys
   | true=>none
 | _=>none
theorem Jx {t:TypeId}{l:List Bool}(h:agq P t xs ys=some l):uH P .eql t (.agg xs) (.agg ys)=some (.sc (.bool (l.all id)))∧uH P .neq t (.agg xs) (.agg ys)=some (.sc (.bool (!(l.all id)))):=by
 unfold agq at h
 split at h<;>try (simp at h;done)
 rename_i fs hu
 split at h<;>try (simp at h;done)
 rename_i c
 simp only[uH,hu,c,Si h,nW,and_self]
def I8 (P:Program)(S:ag)(t:TypeId)(a:AV)(lo hi:Option AV):Option de:=mM S (vA P S t a lo hi)
section
variable {P : Program} {α : Type} {enc : α → AV} {S : ag} {t el n : Nat} {xs : List α}
theorem UF (c:∀ x,(enc x).cells.length=n):(xs.map enc).all (fun e=>Nat.beq e.cells.length n)=true:=by
 simp only[List.all_map,dg]
 intro x _
 simp[c x]
theorem Tq {d:IntKind}(hu:P.underlying t=some (.slice el))(e:te P el=some n)(c:∀ x,(enc x).cells.length=n)(h:0≤b∧b≤xs.length) :
  I8 P S t (.lit (xs.map enc)) none (some (.sc (.int d b)))=some (.val (.lit ((xs.take b.toNat).map enc)) S):=by
 simp only[I8,vA,hu,e,K4,yf h.1,UF c,uh,show Nat.ble 0 b.toNat=true from GY (by omega),
  show Nat.ble b.toNat (xs.map enc).length=true from GY (by simp;omega),mM]
 simp[asI]
variable {a : Int}
theorem G7 (hu:P.underlying t=some (.slice el))(d:te P el=some n)(c:∀ x,(enc x).cells.length=n)(h:0≤a∧a≤xs.length) :
  I8 P S t (.lit (xs.map enc)) (some (.sc (.int k a))) none=some (.val (.lit ((xs.drop a.toNat).map enc)) S):=by
 simp only[I8,vA,hu,d,K4,yf h.1,UF c,uh,show Nat.ble a.toNat (xs.map enc).length=true from GY (by simp;omega),
  show Nat.ble (xs.map enc).length (xs.map enc).length=true from GY (bG _),mM]
 congr 3
 rw[List.take_length,aem]
def akF (P:Program)(S:ag)(t:TypeId)(l c:AV):Option de:=Dz (nK P S t l c)
def alM (P:Program)(t el sz bytes:Nat)(z0:AV):Prop:=∃ i,P.underlying t=some (.slice el)∧P.info? el=some i∧iW P el=some z0∧(Nat.beq z0.cells.length i.size&&Nat.ble 1 i.size&&z0.cells.all eD&&Nat.beq sz i.size&&Nat.beq bytes i.bytes)=true
def Ub (P:Program)(t sz bytes:Nat):Option (Nat×AV):=
 match P.underlying t with
 | some (.slice el)=>match P.info? el,iW P el with
   | some i,some z=>match Nat.beq z.cells.length i.size&&Nat.ble 1 i.size&&z.cells.all eD&&Nat.beq sz i.size&&Nat.beq bytes i.bytes with
     | true=>some (el,z)
     | false=>none
   | _,_=>none
 | _=>none
variable {sz bytes : Nat}
theorem Pk {P:Program}{t el:Nat}{z:AV}(h:Ub P t sz bytes=some (el,z)):alM P t el sz bytes z:=by
 unfold Ub at h
 split at h<;>try (simp at h;done)
 rename_i h1
 split at h<;>try (simp at h;done)
 rename_i i z h2 h3
 split at h<;>simp only[bj,nj,reduceCtorEq] at h
 rename_i c
 obtain⟨rfl,rfl⟩:=h
 exact⟨i,h1,h2,h3,c⟩
theorem aes {z0:α}{nx:Nat}(g:Ub P t sz bytes=some (el,enc z0))(e:S.nx=nx)(c:(Nat.ble (S.nx+1) 8192&&Nat.ble S.lim S.nx)=true)(h:0≤a∧a.toNat*(bytes+1)≤2 ^ 40) :
  akF P S t (.sc (.int k a)) (.sc (.int k a))=some (.val (.ai nx 0 (List.replicate a.toNat z0).length) (S.add (.arr sz ((List.replicate a.toNat z0).map enc)))):=by
 obtain⟨i,hu,hi,j,f⟩:=Pk g
 simp only[aS] at f c
 obtain⟨⟨⟨⟨h1,h2⟩,h3⟩,h4⟩,d⟩:=f
 have h4:=oR h4
 have d:=oR d
 subst h4
 subst d
 subst e
 simp only[akF,nK,yf h.1,hu,hi,j,h1,h2,h3,uh,show Nat.ble a.toNat a.toNat=true from GY (bG _),show Nat.ble (a.toNat*(i.bytes+1)) (2 ^ 40)=true from GY h.2,gG,c.1,c.2,Dz]
 simp
def Zz (k:IntKind)(x:Int×Int):AV:=.agg [.sc (.int k x.1),.sc (.int k x.2)]
@[simp] theorem ae1 (k:IntKind)(x:Int×Int):aV (Zz k x)=true:=by simp[Zz,aV,cF]
end
section
variable {T : FT} {P : Program} {Q : gQ → ag → Prop} {w : AV}
variable {s : St}
theorem wO (E:cU T P)(n:Nat)(o:Option AV)(v:AV)(h:NR P (ab T P n s)=o)(c:o=some v)(q:SX P Q (ak v none (ab T P n s))):SX P Q s:=
 ⟨Zy E.ok E.mix n o v h c q.out⟩
theorem Tr (E:cU T P)(n:Nat)(b:Bool)(h:NR P (ab T P n s)=some (.sc (.bool b)))(c:b=true→SX P Q (ak (.sc (.bool true)) none (ab T P n s)))(d:b=false→SX P Q (ak (.sc (.bool false)) none (ab T P n s))):SX P Q s:=
 ⟨ajz E.ok E.mix n b h (fun e=>(c e).out) fun e=>(d e).out⟩
theorem Qk (E:cU T P)(n:Nat)(o:Option AV)(b:Bool)(h:NR P (ab T P n s)=o)(c:o=some (.sc (.bool b)))(d:b=true→SX P Q (ak (.sc (.bool true)) none (ab T P n s)))(e:b=false→SX P Q (ak (.sc (.bool false)) none (ab T P n s))):SX P Q s:=Tr E n b (h.trans c) d e
theorem Ft (E:cU T P)(n:Nat)(g:Nat)(args:List AV)(v:AV)(h:I7 T P (ab T P n s)=some (g,args))(c:∀ S,fU P g args S fun r d=>r=.ret v∧d=S)(q:SX P Q (ak v none (ab T P n s))):SX P Q s:=⟨Yv E.ok E.mix n g args v h c q.out⟩
theorem xX (E:cU T P)(n:Nat)(g:Nat)(args c:List AV)(v:AV)(h:I7 T P (ab T P n s)=some (g,args))(d:uE args=c)(e:∀ S,fU P g c S fun r f=>r=.ret v∧f=S)(q:SX P Q (ak v none (ab T P n s))):SX P Q s:=Ft E n g args v h (fun S g w xs hx hi=>e S g w xs (by rw[←d];exact hx.wJ) hi) q
theorem bF (E:cU T P)(n:Nat)(o:ag→Option de)(r:ag→de)(h:yq P (ab T P n s)=o (e8 (ab T P n s)))(c:j3 (r (e8 (ab T P n s))) (ab T P n s)=true)(d:o (e8 (ab T P n s))=some (r (e8 (ab T P n s))))(q:SX P Q (eC r (ab T P n s))):SX P Q s:=⟨QC E.ok E.mix n o r h c d q.out⟩
theorem ajA (E:cU T P)(n:Nat)(b:Bool)(h:yq P (ab T P n s)=some (.val (.sc (.bool b)) (e8 (ab T P n s))))(c:j3 (.val (.sc (.bool b)) (e8 (ab T P n s))) (ab T P n s)=true)(d:b=true→SX P Q (eC (fun S=>.val (.sc (.bool true)) S) (ab T P n s)))(f:b=false→SX P Q (eC (fun S=>.val (.sc (.bool false)) S) (ab T P n s))):SX P Q s:=
 ⟨aer E.ok E.mix n b h c (fun e=>(d e).out) fun e=>(f e).out⟩
theorem UG (E:cU T P)(n:Nat)(h:wN (ab T P n s)=some w)(c:aV w=true):SX P (RQ w) s:=⟨Yz E.ok E.mix n h c⟩
theorem bN (E:cU T P)(n:Nat){v:AV}(h:wN (ab T P n s)=some v)(c:Fz (BL (ab T P n s)) v w):SX P (RQ w) s:=⟨YB E.ok E.mix n h c⟩
theorem Il (E:cU T P){a:Nat}(d:vk a Q)(n:Nat)(c:List (List Nat))(ids:List Nat){s' : St}(e:lC (ab T P n s)=true)(h:qT c ids (ab T P n s)=s')(q:SX P Q s'):SX P Q s:=
 ⟨UD E.ok E.mix d n c ids e h q.out⟩
theorem Ov (E:cU T P){a:Nat}(g:vk a Q)(n:Nat)(j:List (List Nat))(ids:List Nat)(d:List (Nat×Nat))(N nx:Nat){c:St}{ls e:List (List (Nat×AV))}{l l2:List (Nat×aL)}(m:lC (ab T P n s)=true)(h:qT j ids (ab T P n s)=jN c e (oX nx l2))(f:(wW d N nx [] []&&d.all (fun p=>Nat.ble a p.1)&&Nat.ble a N)=true)(o:yV (kG d N nx) c=true)(q:Nat.beq ls.length (wM c)=true)(r:mJ l2=true)(hs:e=ls.map (jt (kG d N nx)))(u:l2=vp (kG d N nx) l)(v:SX P Q (jN c ls (oX N l))):SX P Q s:=by
 simp only[aS] at f
 exact⟨UD E.ok E.mix g n j ids m h (VF g d N nx f.1.1 f.1.2 (gw f.2) (VH o) (oR q) hs (by rw[←u];exact IK r) v.out)⟩
theorem EF (E:cU T P){f:Nat}{args:List AV}(ha:cF args=true)(c:aV w=true)(h:SX P (RQ w) (St.start T f args ag.empty))(S:ag) :
 fU P f args S fun r d=>r=.ret w∧d=S:=YA E.ok ha c h.out S
end
end
end Go.Eng
namespace Go.Eng
noncomputable section
def Fi : aL→Bool
 | .arr _ es=>cF es
 | _=>false
def wj (S:ag):Nat→ag
 | 0=>S
 | k+1=>(wj S k).del k
theorem yg (S:ag):∀(k id:Nat),(wj S k).get id=if id<k then none else S.get id:=by
 intro k
 induction k with
 | zero=>intro id;simp[wj]
 | succ k a=>
   intro id
   simp only[wj]
   by_cases e:id=k
   · subst e;rw[ag.iG,if_pos (by omega)]
   · rw[ag.dL (vi _) e,a]
     grind
theorem L0 (S:ag):∀ k,(wj S k).nx=S.nx∧(wj S k).lim=S.lim:=by
 intro k
 induction k with
 | zero=>exact⟨rfl,rfl⟩
 | succ k a=>exact a
def DK (S:ag):List (Nat×aL)→ag
 | []=>S
 | (id,o)::r=>(DK S r).set id o
theorem JN (S:ag):∀ l,(DK S l).nx=S.nx∧(DK S l).lim=S.lim:=by
 intro l
 induction l with
 | nil=>exact⟨rfl,rfl⟩
 | cons p l a=>exact a
variable {S : ag}
theorem zF {a:Nat}:∀ {l:List (Nat×aL)},(∀ p,p∈l→p.1≠a)→(DK S l).get a=S.get a:=by
 intro l
 induction l with
 | nil=>intro _;rfl
 | cons p l b=>
   intro h
   obtain⟨id,o⟩:=p
   simp only[DK]
   rw[ag.bt (vi _) (fun e=>h (id,o) (jU ..) e.symm)]
   grind
theorem VJ : ∀ {l:List (Nat×aL)},(l.map (·.1)).Nodup→∀ id o,(id,o)∈l→(DK S l).get id=some o:=by
 intro l
 induction l with
 | nil=>grind
 | cons p l c=>
   intro b id o h
   obtain⟨k,x⟩:=p
   simp only[dF,so] at b
   simp only[DK]
   rcases dE.1 h with e | e
   · simp only[nj] at e;obtain⟨rfl,rfl⟩:=e
     exact ag.cO (vi _)
   · have a:id≠k:=by grind
     rw[ag.bt (vi _) a]
     grind
variable {o : aL}
theorem wH.pure_mono {g d:Gh}(f:∀ b c,g.ro b=Option.some c→d.ro b=Option.some c){l:Loc}{x:Option Obj}(m:Fi o=true)(h:wH g l x o):wH d l x o:=by
 cases o with
 | arr sz es=>
   obtain⟨c,t,h1,h2,h3,h4,n,s⟩:=h
   refine⟨c,t,h1,h2,h3,h4,n,fun i j e a y p q r=>?_⟩
   have k:aV a=true:=kx (fN (by simpa [Fi] using m) p) q
   exact VR.mono (g:=g.bare) (g' := d) ⟨f,fun _ _ e=>by simp[Gh.bare] at e⟩ ((s i j e a y p q r).bare k)
 | _=>simp[Fi] at m
def W3 (ids:List Nat)(nx i:Nat):Nat:=
 match ids[i]? with
 | some a=>a
 | none=>nx+i
theorem fU.own {P:Program}{f:FuncId}{args:List AV}{S0:ag}{d news:List aL}{v' : AV}(h:fU P f args S0 fun r R=>∃ v,r=.ret v∧Fz (wj R d.length) v v' ∧ ∀(i:Nat) (o:aL),news[i]? = some o→R.get i=some o)
   (h0:∀ i:Nat,S0.get i=d[i]?) (h1:S0.nx=d.length) (h2:S0.lim=0) (hl:news.length=d.length) (hp:d.all Fi=true) (hp' : news.all Fi=true) (hv:aV v' = true)
   {S:ag} {ids:List Nat} (hi:ids.length=d.length) (hn:ids.Nodup) (hS:∀(i a:Nat) (o:aL),ids[i]? = some a→d[i]? = some o→S.get a=some o∧S.lim≤a) :
   fU P f (eB (W3 ids S.nx) args) S fun r R=>r=.ret v' ∧ R=DK S (ids.zip news):=by
 intro V w xs hx u
 obtain⟨σ,hσ⟩:∃ σ,σ=W3 ids S.nx:=⟨_,rfl⟩
 rw[←hσ] at hx
 obtain⟨g,hg⟩:∃ g:Gh,g={ ro:=V.ro,ph:=fun id=>V.ph (σ id) }:=⟨_,rfl⟩
 have n:j0 σ g V:=by rw[hg];exact⟨rfl,fun _=>rfl⟩
 have C:∀(i a:Nat),ids[i]? = some a→σ i=a:=by intro i a e;rw[hσ];simp[W3,e]
 have I:∀(i:Nat) (o:aL),d[i]? = some o→∃ a,ids[i]? = some a:=by
   intro i o e
   have:i<ids.length:=by rw[hi];exact(mC.1 e).1
   exact⟨_,qB this⟩
 have hinj:∀(i j a:Nat),ids[i]? = some a→ids[j]? = some a→i=j:=by
   intro i j a e E
   have N:=(mC.1 e).1
   exact(Ju N hn).1 (e.trans E.symm)
 have hinv0:Inv S0 g w:=by
   refine⟨fun b c e=>u.ro b c (by rw[←n.ro];exact e),fun id o e=>?_,fun id id' o o' l l' e E p p' q=>?_,fun id bE=>?_⟩
   · rw[h0] at e
     obtain⟨a,ha⟩:=I id o e
     obtain⟨F,q2⟩:=hS id a o ha e
     obtain⟨l,x,y,z⟩:=u.ob a o F
     refine⟨l,by rw[n.ph,C id a ha];exact x,by rw[n.ro];exact y,z.pure_mono (by rw[n.ro];exact fun _ _ e=>e) ?_⟩
     exact dg.1 hp o (vj e)
   · rw[h0] at e E
     obtain⟨a,ha⟩:=I id o e
     obtain⟨a', ha'⟩:=I id' o' E
     have:=u.inj a a' o o' l l' (hS id a o ha e).1 (hS id' a' o' ha' E).1 (by rw[←C id a ha,←n.ph];exact p) (by rw[←C id' a' ha', ←n.ph];exact p') q
     subst this
     exact hinj id id' a ha ha'
   · rw[h1] at bE
     rw[n.ph,hσ]
     have:ids[id]? = none:=zo (by rw[hi];exact bE)
     simp only[W3,this]
     exact u.fresh _ (by omega)
 refine(h g w xs (hx.iJ n) hinv0).mono fun e w' ⟨r,R,g', ⟨v,hr,hf,W⟩,X,N,A⟩=>?_
 subst hr
 obtain⟨k,hk⟩:∃ k,k=d.length:=⟨_,rfl⟩
 rw[←hk] at hf
 have hsub:ag.sub (wj R k) R:=⟨(L0 R k).1.symm,(L0 R k).2,fun id o e=>by rw[yg] at e;split at e<;>first | simp at e | exact e⟩
 have hik:Inv (wj R k) g' w' := N.sub hsub
 have hfz:=Gh.jT hik
 have D:∀ b c,(g'.freeze (wj R k) w').ro b=some c→g'.ro b=some c∨(∃ t fz,w'.heap[b]? = some (.cells c t fz))∧∃ id o l,(wj R k).get id=some o∧g'.ph id=some l∧l.cZ=b:=by
   intro b c e
   simp only[Gh.freeze] at e
   split at e
   · rename_i c' hc;simp only[bj] at e;subst e;exact .inl hc
   · split at e
     · rename_i c' t fz hh
       split at e<;>simp only[bj,reduceCtorEq] at e
       rename_i hex
       subst e;exact .inr ⟨⟨t,fz,hh⟩,hex⟩
     · simp at e
 obtain⟨gf,hgf⟩:∃ gf,gf=g'.freeze (wj R k) w' := ⟨_,rfl⟩
 rw[←hgf] at hfz D
 obtain⟨gn,s⟩:∃ gn:Gh,gn={ ro:=gf.ro,ph:=V.ph }:=⟨_,rfl⟩
 have hro1:∀ b c,V.ro b=some c→gn.ro b=some c:=by
   intro b c e;rw[s];exact hfz.1.ro b c (A.oS.ro b c (by rw[n.ro];exact e))
 have hro2:∀ b c,g'.ro b=some c→gn.ro b=some c:=by intro b c e;rw[s];exact hfz.1.ro b c e
 have other:∀ a o l,S.get a=some o→a∉ids→V.ph a=some l→∀ id o', S0.get id=some o' → ∀ l', g.ph id=some l' → l'.cZ≠l.cZ:=by
   intro a o l e ha G id o' E l' hl' heq
   rw[h0] at E
   obtain⟨b,hb⟩:=I id o' E
   have:=u.inj b a o' o l' l (hS id b o' hb E).1 e (by rw[←C id b hb,←n.ph];exact hl') G heq
   subst this
   exact ha (vj hb)
 have hnd:((ids.zip news).map (·.1)).Nodup:=by
   rw[List.map_fst_zip (by omega)];exact hn
 have O:∀ a o,(DK S (ids.zip news)).get a=some o→(∃ i:Nat,ids[i]? = some a∧news[i]? = some o)∨(a∉ids∧S.get a=some o):=by
   intro a o e
   by_cases ha:a∈ids
   · obtain⟨i,B⟩:=hU ha
     have H:i<news.length:=by rw[hl,←hi];exact(mC.1 B).1
     have L:news[i]? = some news[i]:=qB H
     have hm:(a,news[i])∈ids.zip news:=vj (i:=i) (by rw[List.getElem?_zip_eq_some];exact⟨B,L⟩)
     rw[VJ hnd _ _ hm] at e
     exact .inl ⟨i,B,by rw[L];exact e⟩
   · rw[zF (fun p hp=>by rintro rfl;exact ha (List.of_mem_zip hp).1)] at e
     exact .inr ⟨ha,e⟩
 have J:∀(i a:Nat),ids[i]? = some a→∃ o,d[i]? = some o∧S.get a=some o∧S.lim≤a:=by
   intro i a e
   have H:i<d.length:=by rw[←hi];exact(mC.1 e).1
   have ho:d[i]? = some d[i]:=qB H
   exact⟨_,ho,hS i a _ e ho⟩
 have Y:∀(i a:Nat),ids[i]? = some a→g'.ph i=V.ph a:=by
   intro i a e
   have H:i<S0.nx:=by rw[h1,←hi];exact(mC.1 e).1
   rw[A.vZ i H,n.ph,C i a e]
 have noro:∀ a o l,(DK S (ids.zip news)).get a=some o→V.ph a=some l→gf.ro l.cZ=none:=by
   intro a o l e G
   cases hr:gf.ro l.cZ with
   | none=>rfl
   | some c=>
     exfalso
     rcases O a o e with⟨i,B,L⟩ | ⟨ha,E⟩
     · obtain⟨l1,x,y,_⟩:=N.ob i o (W i o L)
       rw[Y i a B,G] at x;simp only[bj] at x;subst x
       rcases D _ _ hr with q | ⟨_,id,o2,l2,F,q2,q3⟩
       · rw[y] at q;simp at q
       · rw[yg] at F
         split at F
         · simp at F
         · rename_i hge
           have:=N.inj id i o2 o l2 l F (W i o L) q2 (by rw[Y i a B];exact G) q3
           subst this
           have H:id<k:=by rw[hk,←hi];exact(mC.1 B).1
           exact hge H
     · obtain⟨l1,x,y,z⟩:=u.ob a o E
       rw[G] at x;simp only[bj] at x;subst x
       have H:=z.lt
       rcases D _ _ hr with q | ⟨_,id,o2,l2,F,q2,q3⟩
       · rcases A.CU _ _ q H with q | ⟨m,o0,M,K,f2,U,f4⟩
         · rw[n.ro,y] at q;simp at q
         · exact other a o l E ha G m o0 K M U f4
       · rw[yg] at F
         split at F
         · simp at F
         · obtain⟨m,o0,M,K,f2,U,f4⟩:=A.own id o2 l2 F (by rw[h2];omega) q2 (by rw[q3];exact H)
           exact other a o l E ha G m o0 K M U (f4.trans q3)
 refine⟨.ret v', DK S (ids.zip news),gn,⟨rfl,rfl⟩,?_,⟨fun b c e=>?_,fun a o e=>?_,fun a a' o o' l l' e E p p' q=>?_,fun a ha=>?_⟩,⟨A.size,A.os,A.tape,A.output,fun b hb hne=>?_,fun a o l e1 e2 e3 _=>?_,⟨hro1,fun _ _ e=>by rw[s];exact e⟩,by rw[(JN S _).1];exact bG _,(JN S _).2,fun a ha=>?_,fun a _=>by rw[s],fun b c e hb=>?_,fun a _ e=>?_,A.fz⟩⟩
 · cases e with
   | returned x=>exact((Fz.sound hik hfz hf X).bare hv).mono ⟨fun b c e=>by rw[s];exact e,fun _ _ e=>by simp[Gh.bare] at e⟩
   | panicked c=>exact X.elim
   | outgrown=>exact X.elim
 · rw[s] at e
   rcases D b c e with q | ⟨q,_⟩
   · exact N.ro b c q
   · exact q
 · have Z:gn.ph a=V.ph a:=by rw[s]
   rcases O a o e with⟨i,B,L⟩ | ⟨ha,E⟩
   · obtain⟨l,x,y,z⟩:=N.ob i o (W i o L)
     have G:V.ph a=some l:=by rw[←Y i a B];exact x
     refine⟨l,by rw[Z];exact G,?_,z.pure_mono hro2 (dg.1 hp' o (vj L))⟩
     have:=noro a o l e G
     rw[s];exact this
   · obtain⟨l,x,y,z⟩:=u.ob a o E
     have hk' : w'.heap[l.cZ]? = w.heap[l.cZ]? := A.jW l.cZ z.lt fun id o' l' K _ U=>other a o l E ha x id o' K l' U
     refine⟨l,by rw[Z];exact x,?_,by rw[hk'];exact z.mono ⟨hro1,fun _ _ e=>by rw[s];exact e⟩⟩
     have:=noro a o l e x
     rw[s];exact this
 · have back:∀ a o,(DK S (ids.zip news)).get a=some o→∃ o', S.get a=some o' := by
     intro a o e
     rcases O a o e with⟨i,B,_⟩ | ⟨_,E⟩
     · obtain⟨o', _,q,_⟩:=J i a B;exact⟨o', q⟩
     · exact⟨o,E⟩
   obtain⟨o1,F⟩:=back a o e
   obtain⟨o2,q2⟩:=back a' o' E
   exact u.inj a a' o1 o2 l l' F q2 (by rw[s] at p;exact p) (by rw[s] at p';exact p') q
 · rw[(JN S _).1] at ha
   rw[s];exact u.fresh a ha
 · refine A.jW b hb fun id o l K _ U=>?_
   rw[h0] at K
   obtain⟨a,ha⟩:=I id o K
   obtain⟨F,q2⟩:=hS id a o ha K
   exact hne a o l F q2 (by rw[←C id a ha,←n.ph];exact U)
 · rw[s] at e3
   rcases O a o e1 with⟨i,B,_⟩ | ⟨_,E⟩
   · obtain⟨o', _,q,_⟩:=J i a B;exact⟨a,o', l,q,e2,e3,rfl⟩
   · exact⟨a,o,l,E,e2,e3,rfl⟩
 · refine zF fun p hp=>?_
   rintro rfl
   obtain⟨i,hi2⟩:=hU (List.of_mem_zip hp).1
   obtain⟨_,_,_,q⟩:=J i _ hi2
   omega
 · rw[s] at e
   have fin:∀ m o0 M,S0.get m=some o0→g.ph m=some M→M.cZ=b→∃ m o0 M,S.get m=some o0∧S.lim≤m∧V.ph m=some M∧M.cZ=b:=by
     intro m o0 M K U f4
     rw[h0] at K
     obtain⟨a,ha⟩:=I m o0 K
     obtain⟨F,q2⟩:=hS m a o0 ha K
     exact⟨a,o0,M,F,q2,by rw[←C m a ha,←n.ph];exact U,f4⟩
   rcases D b c e with q | ⟨_,id,o,l,F,q2,q3⟩
   · rcases A.CU b c q hb with f | ⟨m,o0,M,K,f2,U,f4⟩
     · exact .inl (by rw[←n.ro];exact f)
     · exact .inr (fin m o0 M K U f4)
   · rw[yg] at F
     split at F
     · simp at F
     · obtain⟨m,o0,M,K,f2,U,f4⟩:=A.own id o l F (by rw[h2];omega) q2 (by rw[q3];exact hb)
       exact .inr (fin m o0 M K U (f4.trans q3))
 · refine(zF fun p hp=>?_).trans e
   rintro rfl
   obtain⟨i,hi2⟩:=hU (List.of_mem_zip hp).1
   obtain⟨o', _,q,_⟩:=J i _ hi2
   rw[e] at q;simp at q
theorem aL.dO {σ:Nat→Nat}(h:Fi o=true):o.aY σ=o:=by
 cases o with
 | arr sz es=>simp only[aL.aY,mh (show cF es=true from h)]
 | _=>simp[Fi] at h
def ZA (S:ag):Nat→List aL→Prop
 | _,[]=>True
 | i,o::r=>S.get i=some o∧ZA S (i+1) r
theorem ae2 : ∀ {l:List aL} {i:Nat},ZA S i l→∀(j:Nat) (o:aL),l[j]? = some o→S.get (i+j)=some o:=by
 intro l
 induction l with
 | nil=>grind
 | cons x r a=>
   intro i h j o e
   cases j with
   | zero=>simp at e;subst e;exact h.1
   | succ j=>
     have:=a h.2 j o (by simpa using e)
     grind
def mR : Nat→List aL→List (Nat×aL)
 | _,[]=>[]
 | i,o::r=>(i,o)::mR (i+1) r
theorem L1 : ∀(l:List aL) (i id:Nat) (o:aL),(id,o)∈mR i l→i≤id∧l[id-i]? = some o:=by
 intro l
 induction l with
 | nil=>grind[mR]
 | cons x r a=>
   intro i id o h
   rcases dE.1 h with e | e
   all_goals grind
theorem VK : ∀(l:List aL) (i j:Nat) (o:aL),l[j]? = some o→(i+j,o)∈mR i l:=by
 intro l
 induction l with
 | nil=>grind
 | cons x r a=>
   intro i j o e
   cases j with
   | zero=>simp at e;subst e;exact jU ..
   | succ j=>
     have:=a (i+1) j o (by simpa using e)
     rw[show i+1+j=i+(j+1) from by omega] at this
     exact K5 _ this
theorem Pl : ∀(l:List aL) (i:Nat),mJ (mR i l)=true:=by
 intro l
 induction l with
 | nil=>intro i;rfl
 | cons x r b=>
   intro i
   have:Li i (mR (i+1) r)=false:=by
    have key:∀ m:List (Nat×aL),(∀ id o,(id,o)∈m→id≠i)→Li i m=false:=by
     intro m
     induction m with
     | nil=>intro _;rfl
     | cons p m a=>
       intro h
       obtain⟨k,y⟩:=p
       simp only[Li]
       have c:k≠i:=h k y (jU ..)
       rw[show Nat.beq k i=false from by rw[pg];simp_all]
       grind
    exact key _ fun id o e=>by have:=(L1 r (i+1) id o e).1;omega
   show(match Li i (mR (i+1) r) with | true=>false | false=>mJ (mR (i+1) r))=true
   grind
theorem QD (l:List aL)(i:Nat):(oX l.length (mR 0 l)).get i=l[i]? := by
 cases h:l[i]? with
 | some o=>
   have:=VK l 0 i o h
   rw[xf] at this
   exact QB _ .nil (Pl l 0) i o this
 | none=>
   cases a:(oX l.length (mR 0 l)).get i with
   | none=>rfl
   | some o=>
     have:=(L1 l 0 i o (As a)).2
     grind
section
variable {T : FT} {P : Program} {Q : gQ → ag → Prop}
def C2 : St→Bool
 | .run _ _ _ _=>true
 | _=>false
def N6 (v:AV)(r:ag→ag)(s:St):St:=ak v (some (r (jY s))) s
end
end
end Go.Eng
namespace Go.Eng
noncomputable section
def Jj (S:ag):ag:=match S with | ⟨nx,lim,m⟩=>⟨Nat.succ nx,lim,m⟩
theorem FG (S:ag)(id:Nat):(Jj S).get id=S.get id:=rfl
variable {E : ag} {g : Gh} {w : World} {sz : Nat} {es : List AV}
theorem Pm {g' : Gh}{w' : World}{x:Value}(R:Inv E g w)(hi:Inv (E.add (.arr sz es)) g' w')(hx:Ext E g w (E.add (.arr sz es)) g' w')(U:VR g' (.ai E.nx 0 es.length) x)(A:E.lim≤E.nx) :
   ∃ p,VR p (.lit es) x∧Inv (Jj E) p w' ∧ Ext E g w (Jj E) p w' := by
 have k:(E.add (.arr sz es)).get E.nx=some (.arr sz es):=ag.oe (vi _)
 have h:∀ id,id≠E.nx→(E.add (.arr sz es)).get id=E.get id:=fun id m=>ag.eJ (vi _) m
 have f:E.get E.nx=none:=by
   cases q:E.get E.nx with
   | none=>rfl
   | some o=>exact absurd (R.lO q) (Nat.lt_irrefl _)
 obtain⟨l,l1,l2,c,t,Z,p2,G,p4,p5,p6⟩:=hi.ob _ _ k
 have X:w.heap.size≤l.cZ:=by
   rcases jO l.cZ w.heap.size with K | L
   · exfalso
     obtain⟨M,o0,l0,f1,f2,f3,f4⟩:=hx.own _ _ l k A l1 K
     have Y:=R.lO f1
     have:=hi.inj M E.nx o0 _ l0 l (by grind) k (hx.oS.ph _ _ f3) l1 f4
     omega
   · exact L
 obtain⟨p,d⟩:∃ p:Gh,p={ ro:=fun b=>if b=l.cZ then some c else g'.ro b,ph:=g'.ph }:=⟨_,rfl⟩
 have u:Gh.le g' p:=by
   refine⟨fun b C e=>?_,fun _ _ e=>by rw[d];exact e⟩
   rw[d]
   simp only
   grind
 have N:p.ro l.cZ=some c:=by rw[d];simp
 refine⟨p,?_,⟨fun b C e=>?_,fun id o e=>?_,fun id z o o' l' O e D q V hb=>?_,fun id bE=>?_⟩,⟨hx.size,hx.os,hx.tape,hx.output,hx.jW,fun id o l' e H F I=>?_,Gh.le_trans hx.oS u,?_,hx.lim,fun id _=>rfl,fun id bE=>by rw[d];exact hx.vZ id bE,fun b C e hb=>?_,fun id _ e=>e,hx.fz⟩⟩
 · generalize r:es.length=len at U
   cases U with
   | ai J B hb=>
     rw[l1] at J;simp only[bj] at J;subst J
     subst r
     refine .lit (sz:=l.sz) N (fun e he=>?_) (by rw[G];omega) B fun i j e a y H F I=>?_
     · rw[G];exact p5 e he
     · exact(p6 i j e a y H F (by rw[←G,←I];congr 1;omega)).mono u
   | hM=>
     have:es=[]:=B7.1 r
     subst this;exact .jV
 · rw[d] at e
   simp only at e
   split at e
   · rename_i hb;simp only[bj] at e;subst e;subst hb;exact⟨t,_,Z⟩
   · exact hi.ro b C e
 · rw[FG] at e
   have m:id≠E.nx:=by rintro rfl;rw[f] at e;simp at e
   obtain⟨l', W,q2,q3⟩:=hi.ob id o (by rw[h id m];exact e)
   refine⟨l', by rw[d];exact W,?_,q3.mono u⟩
   rw[d]
   simp only
   rw[if_neg (fun hb=>m (hi.inj id E.nx o _ l' l (by rw[h id m];exact e) k W l1 hb))]
   exact q2
 · rw[FG] at e D
   rw[d] at q V
   exact hi.inj id z o o' l' O (by rw[h id (by rintro rfl;rw[f] at e;simp at e)];exact e) (by rw[h z (by rintro rfl;rw[f] at D;simp at D)];exact D) q V hb
 · rw[d];exact hi.fresh id bE
 · rw[FG] at e
   rw[d] at F
   exact hx.own id o l' (by rw[h id (by rintro rfl;rw[f] at e;simp at e)];exact e) H F I
 · exact xd _
 · rw[d] at e
   simp only at e
   split at e
   · rename_i hbb;omega
   · exact hx.CU b C e hb
variable {P : Program} {all : Array Oper} {o : Oper} {get : Nat → Option AV}
theorem nV.copy (e:E.lim≤E.nx)(h:nV P all o get E (.ai E.nx 0 es.length) (E.add (.arr sz es))):nV P all o get E (.lit es) (Jj E):=by
 intro g w fr cs i rest m f j k hs hi
 obtain⟨w', g', x,a,b,c,d⟩:=h g w fr cs i rest m f j k hs hi
 grind[Pm]
variable {v : AV}
theorem nV.none {v' : AV}(e:∀ g x,VR g v x→VR g v' x)(h:nV P all o get E v E):nV P all o get E v' (Jj E):=by
 intro g w fr cs i rest m f j k hs hi
 obtain⟨w', g', x,a,b,c,d⟩:=h g w fr cs i rest m f j k hs hi
 exact⟨w', g', x,a,e _ _ b,⟨c.ro,c.ob,c.inj,fun id bE=>c.fresh id (Nat.le_of_succ_le bE)⟩,⟨d.size,d.os,d.tape,d.output,d.jW,d.own,d.oS,xd _,d.lim,d.wU,d.vZ,d.CU,d.dead,d.fz⟩⟩
variable {S S1 : ag}
theorem Reach.alN {F:ae}{G:ae→ag→Prop}{i:Nat}{rest:List Nat}{k:List bf}(q:F.mode=.run)(r:F.todo=.ops all (i::rest)::k)(f:all[i]? = some o)(l:nV P all o F.get S v S1)(h:Reach P (F.after o v all rest k) S1 G):Reach P F S G:=by
 obtain⟨a,b,c,d⟩:=F.iK o v all rest k
 refine h.DG a b c d fun g w fr cs hf hi=>?_
 obtain⟨m,p,y⟩:=hf.split r f
 obtain⟨w', g', x,z,A,B,j⟩:=l g w fr cs i m.1 m.2 (hf.runs q) p f (fun t _ u e=>hf.get t u e) hi
 exact⟨fr.finish x,w', g', (hf.mono j.oS).after p (y.mono j.oS) f A,B,j,z⟩
structure Wk (v1 v2 : AV) (S1 S2 : ag) : Prop where
 vr : ∀ g x, VR g v1 x → VR g v2 x
 nx : S2.nx = S1.nx
 lim : S2.lim = S1.lim
 ob : ∀ id o2, S2.get id = some o2 → ∃ o1, S1.get id = some o1 ∧ ∀ g l x, wH g l x o1 → wH g l x o2
 wU : ∀ id, id < S1.lim → S2.get id = S1.get id
theorem nV.wk {p:ag}{r t:AV}(f:Wk r t S1 p)(h:nV P all o get E r S1):nV P all o get E t p:=by
 intro g w fr cs i rest m u y z hs hi
 obtain⟨w', g', x,a,b,c,d⟩:=h g w fr cs i rest m u y z hs hi
 refine⟨w', g', x,a,f.vr _ _ b,⟨c.ro,fun id o e=>?_,fun id k o o' l l' e A=>?_,fun id bE=>c.fresh id (by rw[←f.nx];exact bE)⟩,⟨d.size,d.os,d.tape,d.output,d.jW,fun id o l e B C D=>?_,d.oS,by rw[f.nx];exact d.nx,f.lim.trans d.lim,fun id bE=>(f.wU id (by rw[d.lim];exact bE)).trans (d.wU id bE),d.vZ,d.CU,fun id bE e=>?_,d.fz⟩⟩
 · obtain⟨o1,j,q2⟩:=f.ob id o e
   grind[Inv.ob]
 · obtain⟨o1,j,_⟩:=f.ob id o e
   obtain⟨o2,q2,_⟩:=f.ob k o' A
   exact c.inj id k o1 o2 l l' j q2
 · obtain⟨o1,j,_⟩:=f.ob id o e
   exact d.own id o1 l j B C D
 · cases q:p.get id with
   | none=>rfl
   | some o=>
     obtain⟨o1,j,_⟩:=f.ob id o q
     rw[d.dead id bE e] at j;simp at j
variable {n : Nat}
theorem VL {l:Loc}{x:Option Obj}(h:wH g l x (.arr sz es)):wH g l x (.arr sz (es.take n++uE (es.drop n))):=by
 obtain⟨c,t,h1,h2,h3,h4,A,B⟩:=h
 have d:∀ e:AV,(wJ e).cells.length=e.cells.length∧∀(j:Nat) (a:AV),(wJ e).cells[j]? = some a→∃ a0,e.cells[j]? = some a0∧a=wJ a0:=by
   intro e
   have one:∀ u:AV,u.cells=[u]→(wJ u).cells=[wJ u]→(wJ u).cells.length=u.cells.length∧∀(j:Nat) (a:AV),(wJ u).cells[j]? = some a→∃ a0,u.cells[j]? = some a0∧a=wJ a0:=by
     intro u C D
     rw[C,D]
     refine⟨rfl,fun j a q=>?_⟩
     cases j with
     | zero=>simp at q;exact⟨u,rfl,q.symm⟩
     | succ j=>simp at q
   cases e with
   | agg cs=>
     rw[wJ]
     refine⟨nL cs,fun j a q=>?_⟩
     rw[show(AV.agg (uE cs)).cells=uE cs from rfl,AM] at q
     cases hb:cs[j]? with
     | none=>rw[hb] at q;simp at q
     | some b=>rw[hb] at q;simp at q;exact⟨b,hb,q.symm⟩
   | an=>exact one _ rfl (by rw[wJ];rfl)
   | ft=>exact one _ rfl (by rw[wJ];rfl)
   | _=>exact one _ rfl (by rw[wJ]<;>first | rfl | simp)
 have z:(es.take n++uE (es.drop n)).length=es.length:=by simp[nL];omega
 have k:∀(i:Nat) (e:AV),(es.take n++uE (es.drop n))[i]? = some e→∃ f,es[i]? = some f∧(e=f∨e=wJ f):=by
   intro i e q
   by_cases hi:i<(es.take n).length
   · rw[BX hi,tW] at q
     split at q
     · exact⟨e,q,.inl rfl⟩
     · simp at q
   · rw[zj (by omega),AM,qW] at q
     have hle:es.length≤n∨(es.take n).length=n:=by
       rcases jO n es.length with a | a
       · exact .inr (by simp;omega)
       · exact .inl a
     rcases hle with hle | hle
     · have:es[n+(i-(es.take n).length)]? = none:=zo (by omega)
       rw[this] at q;simp at q
     · rw[hle,show n+(i-n)=i from by omega] at q
       cases hb:es[i]? with
       | none=>rw[hb] at q;simp at q
       | some b=>rw[hb] at q;simp at q;exact⟨b,rfl,.inr q.symm⟩
 refine⟨c,t,h1,h2,h3,by rw[z];exact h4,fun e F=>?_,fun i j e a y p q r=>?_⟩
 · obtain⟨i,hi⟩:=hU F
   obtain⟨f,m,q2⟩:=k i e hi
   rcases q2 with rfl | rfl
   · exact A _ (vj m)
   · rw[(d f).1];exact A _ (vj m)
 · obtain⟨f,m,q2⟩:=k i e p
   rcases q2 with rfl | rfl
   · exact B i j _ a y m q r
   · obtain⟨a0,q3,rfl⟩:=(d f).2 j a q
     exact(B i j f a0 y m q3 r).wJ
theorem Wk.add {S:ag}{v:AV}{sz n:Nat}{es a:List AV}(b:es.take n++uE (es.drop n)=a)(c:S.lim≤S.nx):Wk v v (S.add (.arr sz es)) (S.add (.arr sz a)):=by
 subst b
 have key:∀(o:aL) id,(S.add o).get id=if id=S.nx then some o else S.get id:=by
   intro o id
   by_cases e:id=S.nx
   · subst e;rw[if_pos rfl];exact ag.oe (vi _)
   · rw[if_neg e];exact ag.eJ (vi _) e
 refine⟨fun _ _ h=>h,rfl,rfl,fun id o2 e=>?_,fun id bE=>?_⟩
 · rw[key] at e
   split at e
   · rename_i bE
     simp only[bj] at e;subst e
     exact⟨_,by grind,fun g l x h=>VL h⟩
   all_goals grind
 · have bE:id<S.lim:=bE
   grind
section
variable {T : FT} {P : Program} {Q : gQ → ag → Prop}
variable {s : St}
theorem Uc (E:cU T P)(n:Nat)(o:ag→Option de)(x:AV)(l:ag→ag)(h:yq P (ab T P n s)=o (e8 (ab T P n s)))(K:((dG (ab T P n s)).bind (·.dst)).isSome=true)(hs:∃ r,o (e8 (ab T P n s))=some r)(j:∀ {all:Array Oper} {op:Oper} {get:Nat→Option AV},(∀ v S1,o (e8 (ab T P n s))=some (.val v S1)→nV P all op get (e8 (ab T P n s)) v S1)→nV P all op get (e8 (ab T P n s)) x (l (e8 (ab T P n s))))(I:(e8 (ab T P n s)).nx≤(l (e8 (ab T P n s))).nx)(q:SX P Q (eC (fun S=>.val x (l S)) (ab T P n s))):SX P Q s:=by
 refine⟨cL E.ok E.mix n ?_⟩
 have q:=q.out
 generalize ab T P n s=s at h K hs j I q
 have key:=@j
 cases s with
 | run fn F S k=>
   have q:br P Q (ak x (some (l S)) (.run fn F S k)):=q
   cases L:dG (.run fn F S k) with
   | none=>grind
   | some op=>
     obtain⟨M,all,i,rest,td,N,z,H⟩:=pD L
     simp only[ak,N,tp,z,gr] at q
     refine br.reach (fun G O=>Reach.alN M N z (key fun v S1 e=>?_) O) q
     have h:Zh P (.run fn F S k)=some (.val v S1):=h.trans e
     simp only[Zh] at h
     rw[L] at h
     simp only at h
     split at h<;>try (simp at h;done)
     rename_i Z p
     rw[na] at h
     exact nV.val H p h
 | fS D k=>
   have q:br P Q (Rn (.val x (l (e8 (.fS D k)))) (.fS D k)):=q
   cases f:D.os with
   | nil=>simp only[Rn,f] at q;exact q.elim
   | cons op os=>
     have A:e8 (.fS D k)=⟨D.S.nx,D.S.lim,seen D.S (ax D.dr op.after.toList) D.km (iD D.F (iU op.op)) .nil⟩:=by simp only[e8,f]
     simp only[Rn,f] at q
     have h1:Lh P D op=o (e8 (.fS D k)):=by
      have:yq P (.fS D k)=Lh P D op:=by simp only[yq,W2,f]
      rw[←this];exact h
     have facts:tf D.F D.ops op=some true∧cr op.op=false∧ka (ax D.dr op.after.toList) D.es D.S.nx (n4 D.S.lim (iD D.F (iU op.op)))=true∧∀ r,Lh P D op=some r→gH P D.F.eval (e8 (.fS D k)) op.op=some r:=by
      have u:∃ r,Lh P D op=some r:=by obtain⟨r,e⟩:=hs;exact⟨r,h1.trans e⟩
      obtain⟨r,y⟩:=u
      have J:=y
      unfold Lh at y
      split at y<;>try (simp at y;done)
      rename_i R a2 a3 a4
      refine⟨R,a2,a4,fun r' e=>?_⟩
      rw[J] at e;simp only[bj] at e;subst e
      rw[na] at y
      rw[A];exact y
     obtain⟨H,p,hu,C⟩:=facts
     have t:nV P D.ops op D.F.get (e8 (.fS D k)) x (l (e8 (.fS D k))):=key fun v S1 e=>nV.val H p (C _ (h1.trans e))
     rw[A] at t q
     have d:∀ {nx lim id ob},(⟨nx,lim,seen D.S (ax D.dr op.after.toList) D.km (iD D.F (iU op.op)) .nil⟩:ag).get id=some ob→id∈iD D.F (iU op.op)∧D.S.get id=some ob∧ju (ax D.dr op.after.toList) D.km id=true:=by
      intro nx lim id ob e
      have hi:=ag.iw e
      rw[ag.cE hi] at e
      rcases AJ hi e with q | q
      · rw[PT.get_nil] at q;simp at q
      · exact q
     generalize M:seen D.S (ax D.dr op.after.toList) D.km (iD D.F (iU op.op)) .nil=m at *
     simp only[zd,Fe] at q
     refine fC.mono (fun Q q=>?_) q
     refine qF.step q f rfl (fun F0 S0 E0 Y v0 ch B U V=>?_)
     have W:=V ⟨D.S.nx,D.S.lim,m⟩ x (l ⟨D.S.nx,D.S.lim,m⟩) t rfl fun id ob e=>(d e).2.1
     exact B.news U f t W rfl (.inl rfl) (fun id ob e=>⟨(d e).2.1,B.clear (d e).2.2⟩) (fun id ob e X _=>pC.2 ⟨(d e).1,X⟩) (fun id a _=>(pC.1 a).2) (fun id a _=>ql hu id a) (fun id ob e=>by
      obtain⟨a,_,b,c⟩:=vI e;exact⟨a,b,c⟩) (.inl rfl)
 | _=>simp[yq] at h;simp[dG] at K
theorem Fu (E:cU T P)(n:Nat)(o:ag→Option de)(es:List AV)(h:yq P (ab T P n s)=o (e8 (ab T P n s)))(b:((dG (ab T P n s)).bind (·.dst)).isSome=true)(d:Nat.ble (e8 (ab T P n s)).lim (e8 (ab T P n s)).nx=true)(a:(∃ sz,o (e8 (ab T P n s))=some (.val (.ai (e8 (ab T P n s)).nx 0 es.length) ((e8 (ab T P n s)).add (.arr sz es))))∨(es=[]∧∃ v,o (e8 (ab T P n s))=some (.val v (e8 (ab T P n s)))∧∀ g x,VR g v x→VR g (.lit []) x))(q:SX P Q (eC (fun S=>.val (.lit es) (Jj S)) (ab T P n s))):SX P Q s:=
 Uc E n o (.lit es) Jj h b (by grind) (fun {all op get} c=>by
  rcases a with⟨sz,a⟩ | ⟨rfl,v,a,e⟩
  all_goals grind[nV.copy,Nat.le_of_ble_eq_true,nV.none]) (xd _) q
theorem N7 (E:cU T P)(n:Nat)(o:ag→Option de)(v:AV)(a:ag→ag)(h:yq P (ab T P n s)=o (e8 (ab T P n s)))(c:((dG (ab T P n s)).bind (·.dst)).isSome=true)(d:∃ S1,o (e8 (ab T P n s))=some (.val v S1)∧Wk v v S1 (a (e8 (ab T P n s)))∧(e8 (ab T P n s)).nx≤(a (e8 (ab T P n s))).nx)(q:SX P Q (eC (fun S=>.val v (a S)) (ab T P n s))):SX P Q s:=
 let ⟨S1,e,f,i⟩:=d
 Uc E n o v a h c ⟨_,e⟩ (fun {_ _ _} b=>(b _ _ e).wk f) i q
end
section
variable {P : Program} {α : Type} {enc : α → AV}
end
section
variable {P : Program} {α : Type} {enc : α → AV}
variable {st xt el : Nat} {src : AV} {raw : List AV} {nx : Nat}
theorem FH {s:AV}{ys:List α}(f:s=.an∨s=.ft)(h:Lj P st el sz=true)(j:Lk P xt=true)(k:sized sz raw=true)(c:iT S src=some raw)(b:uE raw=ys.map enc)(l:S.nx=nx)(a:(Nat.ble (S.nx+1) 8192&&Nat.ble S.lim S.nx)=true)(x:ys≠[])(y:ys.length≤1048576) :
   ∃ S1,mN P S st xt s src=some (.val (.ai nx 0 ys.length) S1)∧Wk (.ai nx 0 ys.length) (.ai nx 0 ys.length) S1 (S.add (.arr sz (ys.map enc)))∧S.nx≤(S.add (.arr sz (ys.map enc))).nx:=by
 subst l
 have m:raw.length=ys.length:=by have:=congrArg List.length b;simpa [nL] using this
 obtain⟨i,z,p,hi,u,t⟩:=uW h
 obtain⟨A,q⟩:=uX j
 simp only[aS] at t a
 obtain⟨⟨⟨⟨h1,h2⟩,h3⟩,h4⟩,e⟩:=t
 have e:=oR e
 subst e
 refine⟨S.add (.arr i.size raw),?_,Wk.add (n:=0) (by simpa using b) (gw a.2),xd _⟩
 rw[←m]
 cases raw with
 | nil=>grind
 | cons r raw=>
   have d:Nat.ble (r::raw).length 1048576=true:=GY (by grind)
   rcases f with rfl | rfl <;>
   simp only[mN,lh,qG,p,q,hi,u,c,k,h1,h2,h3,h4,uh,d,gG,a.1,a.2]
theorem AN {id len:Nat}{xs ys:List α}(m:Lj P st el sz=true)(p:Lk P xt=true)(d:∀ x,(enc x).cells.length=sz)(c:∀ x,(enc x).cells.all eD=true)(q:sized sz raw=true)(a:S.get id=some (.arr sz (xs.map enc)))(e:iT S src=some raw)(f:uE raw=ys.map enc)(h:len=xs.length)(t:S.nx=nx)(b:(Nat.ble (S.nx+1) 8192&&Nat.ble S.lim S.nx)=true)(u:Nat.ble S.lim id=true)(I:ys≠[])(J:xs.length+ys.length≤1048576) :
   ∃ S1,mN P S st xt (.ai id 0 len) src=some (.val (.ai nx 0 (xs++ys).length) S1)∧Wk (.ai nx 0 (xs++ys).length) (.ai nx 0 (xs++ys).length) S1 ((S.del id).add (.arr sz ((xs++ys).map enc)))∧S.nx≤((S.del id).add (.arr sz ((xs++ys).map enc))).nx:=by
 subst t
 have K:raw.length=ys.length:=by have:=congrArg List.length f;simpa [nL] using this
 obtain⟨i,z,y,hi,H,G⟩:=uW m
 obtain⟨L,A⟩:=uX p
 simp only[aS] at G b
 obtain⟨⟨⟨⟨h1,h2⟩,h3⟩,h4⟩,l⟩:=G
 have l:=oR l
 subst l
 subst h
 have B:=dY (enc:=enc) d c xs
 refine ⟨(S.del id).add (.arr i.size (xs.map enc++raw)),?_,Wk.add (S:=S.del id) (n:=xs.length) (by
   grind) (gw b.2),xd _⟩
 have j:iT S (.ai id 0 xs.length)=some (xs.map enc):=bC _ (.inr ⟨id,_,rfl,a⟩)
 cases raw with
 | nil=>grind
 | cons r raw=>
   have k:Nat.ble ((xs.map enc).length+(r::raw).length) 1048576=true:=GY (by grind)
   have hb:Nat.beq i.size i.size=true:=vy _
   have C:(S.del id).nx=S.nx:=rfl
   have D:(S.del id).lim=S.lim:=rfl
   have F:B0 S id 0 xs.length i.size (r::raw)=none:=by
    have:Nat.ble (0+xs.length+(r::raw).length) (xs.map enc).length=false:=by
     cases hb:Nat.ble (0+xs.length+(r::raw).length) (xs.map enc).length with
     | false=>rfl
     | true=>exfalso;have:=gw hb;simp at this;omega
    simp only[B0,a,this,Bool.and_false]
   simp only[mN,lh,qG,y,A,hi,H,e,q,h1,h2,h3,h4,uh,a,j,F,k,B,u,hb,gG,C,D,b.1,b.2]
   grind
end
noncomputable def at7 {α:Type}(e:Bool)(t f:Option α):Option α:=if e then(match t,f with
 | some a,some b=>(open Classical in if a=b then some a else none)
 | _,_=>none) else f
def aah (P:Program)(s:St):Option (List AV):=
 match s with
 | .run fn F S k=>match dG (.run fn F S k) with
   | some o=>match o.op with
     | .binOp .eql t x y _=>match F.eval x,F.eval y,P.underlying t with
       | some (.lit es),some .an,some (.slice _)=>some es
       | _,_,_=>none
     | _=>none
   | none=>none
 | _=>none
theorem HB {d:Nat}{t e:TypeId}{m:Nat}(hu:P.underlying t=some (.slice e)):(Op.equalIn (d+1) t (.slice none m n) (.slice none 0 0)).run P w=.ok true w:=by
 simp[Op.equalIn,ah hu]
def Ql : St→Bool
 | .run _ _ _ k=>flat k
 | _=>false
variable {s : St}
theorem QE {T:FT}{Q:gQ→ag→Prop}(E:cU T P)(n:Nat)(es:List AV)(h:aah P (ab T P n s)=some es)(l:Ql (ab T P n s)=true)(L:es=[]→SX P Q (ak (.sc (.bool true)) none (ab T P n s)))(M:SX P Q (ak (.sc (.bool false)) none (ab T P n s))):SX P Q s:=by
 refine⟨cL E.ok E.mix n ?_⟩
 generalize ab T P n s=s at h L M l
 unfold aah at h
 split at h<;>try (simp at h;done)
 rename_i fn F S k
 split at h<;>try (simp at h;done)
 rename_i o X
 split at h<;>try (simp at h;done)
 rename_i t x y Y f
 split at h<;>simp only[bj,reduceCtorEq] at h
 rename_i c el hx hy hu
 subst h
 obtain⟨Z,all,i,rest,td,N,d,hg⟩:=pD X
 have st:∀ b,ak (.sc (.bool b)) none (.run fn F S k)=.run fn (F.after o (.sc (.bool b)) all rest td) S k:=by
  intro b;simp only[ak,N,tp,d,gr]
 have z:c=[]→br P Q (.run fn (F.after o (.sc (.bool true)) all rest td) S k):=fun e=>by rw[←st];exact(L e).out
 have p:br P Q (.run fn (F.after o (.sc (.bool false)) all rest td) S k):=by rw[←st];exact M.out
 have r:=fC.all (P:=P) (Qf:=Q) (k:=k) (ι:=Bool) (A:=fun b q=>(b=true→c=[])→Reach P (F.after o (.sc (.bool b)) all rest td) S (GK P k fn q)) l fun b=>by
  cases b with
  | false=>exact fC.mono (fun q j _=>j) p
  | true=>
    by_cases O:c=[]
    · exact fC.mono (fun q j _=>j) (z O)
    · exact fC.mono (fun q _ hh=>absurd (hh rfl) O) p
 refine fC.mono (fun q j=>?_) r
 intro g w fr B cs hf C hi
 obtain⟨m,R,e2⟩:=hf.split N d
 have U:=K6.of hf x _ hx
 have V:=K6.of hf y _ hy
 obtain ⟨b,hb,u⟩:∃ b:Bool,(b=true→c=[])∧(execOp fr.eval o).run P w=.ok (.value (.bool b)) w:=by
  obtain⟨D,op,ty,G,after,guard⟩:=o
  simp only at f
  subst f
  generalize H:fr.eval x=xv at U
  generalize I:fr.eval y=yv at V
  cases V with | an=>?_
  have fin:∀(a:Option Addr) (len cap:Nat),(len≠0→a≠none)→xv=.slice a len cap→∃ b:Bool,(b=true→len=0∨a=none)∧(execOp fr.eval ⟨D,.binOp .eql t x y Y,ty,G,after,guard⟩).run P w=.ok (.value (.bool b)) w:=by
    intro a len cap _ e
    have:∃ b:Bool,(b=true→a=none)∧(Op.equalIn (9999+1) t (.slice a len cap) (.slice none 0 0)).run P w=.ok b w:=by
     cases a with
     | none=>exact⟨true,fun _=>rfl,HB hu⟩
     | some a=>exact⟨false,fun h=>by simp at h,uq hu⟩
    obtain⟨b,h1,h2⟩:=this
    refine⟨b,fun h=>.inr (h1 h),?_⟩
    have h2:(Op.equal t (.slice a len cap) (.slice none 0 0)).run P w=.ok b w:=h2
    have J:(eqGuard .eql t x y (.slice a len cap) (.slice none 0 0)).run P w=.ok () w:=by unfold eqGuard;split<;>simp
    subst e
    simp[execOp,Sem.run_bind,H,I,J,binOp,h2]
  cases U with
  | lit hr hs hb W hh=>
    obtain⟨b,h1,h2⟩:=fin _ _ _ (fun _=>by simp) rfl
    refine⟨b,fun e=>?_,h2⟩
    rcases h1 e with q | q
    · exact B7.1 q
    · simp at q
  | jV=>
    obtain⟨b,_,h2⟩:=fin _ 0 _ (fun h=>absurd rfl h) rfl
    exact⟨b,fun _=>rfl,h2⟩
 obtain⟨x1,x2,x3,x4⟩:=F.iK o (.sc (.bool b)) all rest td
 have K:cr o.op=false:=by rw[f];rfl
 have hst:=AF (P:=P) (cs:=cs) (gL (hf.runs Z) R d (lj hf hg) (.inr K)) u
 obtain⟨F2,S2,g2,w2,fr2,cs2,q', r1,r2,r3,r4,r5,r6,r7,r8⟩:=j b hb g w (fr.finish (.bool b)) B cs (hf.after R e2 d (.sc rfl)) (C.congr x1 x4) hi
 grind[Steps.head]
end
end Go.Eng
namespace Go.Eng
noncomputable section
def BQ (S:ag):List Nat→ag
 | []=>S
 | id::r=>(BQ S r).del id
theorem xl (S:ag):∀(l:List Nat) (id:Nat),(BQ S l).get id=if id∈l then none else S.get id:=by
 intro l
 induction l with
 | nil=>intro id;simp[BQ]
 | cons a l c=>
   intro id
   simp only[BQ]
   by_cases e:id=a
   · subst e;rw[ag.iG,if_pos (jU ..)]
   · rw[ag.dL (vi _) e,c]
     grind
theorem QF (S:ag):∀ l,(BQ S l).nx=S.nx∧(BQ S l).lim=S.lim:=by
 intro l
 induction l with
 | nil=>exact⟨rfl,rfl⟩
 | cons a l c=>exact c
inductive lJ (S : ag) (kp : List Nat) : AV → AV → Prop
 | pure {v : AV} (h : aV v = true) : lJ S kp v v
 | an : lJ S kp .an (.lit [])
 | ft : lJ S kp .ft (.lit [])
 | ai {id len sz : Nat} {es es' : List AV} (hk : id ∉ kp) (hg : S.get id = some (.arr sz es)) (hl : len = es.length) (hs : es'.length = es.length)
  (hc : ∀ (i : Nat) (e e' : AV), es[i]? = some e → es'[i]? = some e' → e'.cells.length = e.cells.length)
  (h : ∀ (i j : Nat) (e e' a a' : AV), es[i]? = some e → es'[i]? = some e' → e.cells[j]? = some a → e'.cells[j]? = some a' → lJ S kp a a') : lJ S kp (.ai id 0 len) (.lit es')
 | Im {id j o l : Nat} (h : kp[j]? = some id) : lJ S kp (.ai id o l) (.ai j o l)
 | Io {id j i c : Nat} (h : kp[j]? = some id) : lJ S kp (.ptr id i c) (.ptr j i c)
 | C3 {id j : Nat} (h : kp[j]? = some id) : lJ S kp (.cQ id) (.cQ j)
 | Ip {id j : Nat} (h : kp[j]? = some id) : lJ S kp (.rV id) (.rV j)
 | agg {cs cs' : List AV} (hl : cs'.length = cs.length) (h : ∀ (k : Nat) (a a' : AV), cs[k]? = some a → cs'[k]? = some a' → lJ S kp a a') : lJ S kp (.agg cs) (.agg cs')
 | bO {cs cs' : List AV} (hl : cs'.length = cs.length) (h : ∀ (k : Nat) (a a' : AV), cs[k]? = some a → cs'[k]? = some a' → lJ S kp a a') : lJ S kp (.bO cs) (.bO cs')
 | eu {t : TypeId} {v v' : AV} (h : lJ S kp v v') : lJ S kp (.eu t v) (.eu t v')
 | fn {f : Fn} {cs cs' ds ds' : List AV} (hl : cs'.length = cs.length) (h : ∀ (k : Nat) (a a' : AV), cs[k]? = some a → cs'[k]? = some a' → lJ S kp a a')
  (hl2 : ds'.length = ds.length) (h2 : ∀ (k : Nat) (a a' : AV), ds[k]? = some a → ds'[k]? = some a' → lJ S kp a a') : lJ S kp (.fn f cs ds) (.fn f cs' ds')
inductive vq (S : ag) (kp : List Nat) : List AV → List AV → Prop
 | nil : vq S kp [] []
 | cons {e e' : AV} {l l' : List AV} (h : lJ S kp e e') (t : vq S kp l l') : vq S kp (e :: l) (e' :: l')
variable {S : ag} {kp : List Nat} {l l' : List AV}
theorem vq.spec (h:vq S kp l l'):l'.length=l.length∧∀(i:Nat) (e a:AV),l[i]? = some e→l'[i]? = some a→lJ S kp e a:=by
 induction h<;>grind
theorem lJ.zu {e p:AV}(h:lJ S kp e p):p.cells.length=e.cells.length∧∀(j:Nat) (a m:AV),e.cells[j]? = some a→p.cells[j]? = some m→lJ S kp a m:=by
 have one:∀ {u n:AV},u.cells=[u]→n.cells=[n]→lJ S kp u n→n.cells.length=u.cells.length∧∀(j:Nat) (a m:AV),u.cells[j]? = some a→n.cells[j]? = some m→lJ S kp a m:=by
  grind
 cases h with
 | pure h=>exact⟨rfl,fun j a m t w=>by grind[pure,kx]⟩
 | an=>exact one rfl rfl .an
 | ft=>exact one rfl rfl .ft
 | ai a b c d e f=>exact one rfl rfl (.ai a b c d e f)
 | Im h=>exact one rfl rfl (.Im h)
 | Io h=>exact one rfl rfl (.Io h)
 | C3 h=>exact one rfl rfl (.C3 h)
 | Ip h=>exact one rfl rfl (.Ip h)
 | agg q h=>exact⟨q,h⟩
 | bO q h=>exact one rfl rfl (.bO q h)
 | eu h=>exact one rfl rfl (.eu h)
 | fn a b c d=>exact one rfl rfl (.fn a b c d)
variable {id : Nat}
theorem lJ.ZB {j o l l' : Nat}(h:kp[j]? = some id)(a:l=l'):lJ S kp (.ai id o l) (.ai j o l'):=by subst a;exact .Im h
variable {len sz : Nat} {es es' : List AV}
theorem lJ.yU (d:id∉kp)(m:S.get id=some (.arr sz es))(n:len=es.length)(h:vq S kp es es'):lJ S kp (.ai id 0 len) (.lit es'):=
 .ai d m n h.spec.1 (fun i e c p q=>(h.spec.2 i e c p q).zu.1) (fun i j e c a t p q r s=>(h.spec.2 i e c p q).zu.2 j a t r s)
theorem lJ.lN (c:id∉kp)(d:S.get id=some (.arr sz es))(h:len=es.length)(m:cF es=true):lJ S kp (.ai id 0 len) (.lit es):=
 .ai c d h rfl (fun i e n p q=>by grind) (fun i j e n a t p q r s=>by
  rw[p] at q;simp only[bj] at q;subst q
  rw[r] at s;simp only[bj] at s;subst s
  exact .pure (kx (fN m p) r))
theorem lJ.aai (h:vq S kp l l'):lJ S kp (.agg l) (.agg l'):=.agg h.spec.1 h.spec.2
theorem lJ.agr (h:vq S kp l l'):lJ S kp (.bO l) (.bO l'):=.bO h.spec.1 h.spec.2
theorem lJ.auf {f:Fn}{m a:List AV}(h:vq S kp l l')(k:vq S kp m a):lJ S kp (.fn f l m) (.fn f l' a):=.fn h.spec.1 h.spec.2 k.spec.1 k.spec.2
theorem lJ.aY {σ:Nat→Nat}(w:∀ a b,σ a=σ b→a=b){S B:ag}{kp:List Nat}(hs:Ep σ S B){v v' : AV}(h:lJ S kp v v'):lJ B (kp.map σ) (v.aY σ) v' := by
 have key:∀ {l:List AV} {k:Nat} {a:AV},(eB σ l)[k]? = some a→∃ b,l[k]? = some b∧a=b.aY σ:=by
   intro l k a e
   rw[iX] at e
   grind
 have t:∀ {j id:Nat},kp[j]? = some id→(kp.map σ)[j]? = some (σ id):=by grind
 induction h with
 | pure h=>rw[AV.dO h];exact .pure h
 | an=>rw[AV.aY];exact .an
 | ft=>rw[AV.aY];exact .ft
 | ai C D u y E h m=>
   rw[AV.aY]
   refine .ai (fun F=>?_) (hs.get _ _ D) (by rw[bm];exact u) (by rw[bm];exact y) (fun i e x p q=>?_) (fun i j e x a n p q r s=>?_)
   · obtain⟨b,hb,e⟩:=kJ.1 F
     have:=w _ _ e
     subst this;exact C hb
   · obtain⟨b,d,rfl⟩:=key p
     rw[AV.gu,bm]
     exact E i b x d q
   · obtain⟨b,d,rfl⟩:=key p
     rw[AV.gu] at r
     obtain⟨c,G,rfl⟩:=key r
     exact m i j b x c n d q G s
 | Im h=>rw[AV.aY];exact .Im (t h)
 | Io h=>rw[AV.aY];exact .Io (t h)
 | C3 h=>rw[AV.aY];exact .C3 (t h)
 | Ip h=>rw[AV.aY];exact .Ip (t h)
 | agg u h m=>
   rw[AV.aY]
   refine .agg (by rw[bm];exact u) fun k a n p q=>?_
   obtain⟨b,d,rfl⟩:=key p
   exact m k b n d q
 | bO u h m=>
   rw[AV.aY]
   refine .bO (by rw[bm];exact u) fun k a n p q=>?_
   obtain⟨b,d,rfl⟩:=key p
   exact m k b n d q
 | eu h m=>rw[AV.aY];exact .eu m
 | fn u h z h2 m A=>
   rw[AV.aY]
   refine .fn (by rw[bm];exact u) (fun k a n p q=>?_) (by rw[bm];exact z) (fun k a n p q=>?_)
   · obtain⟨b,d,rfl⟩:=key p
     exact m k b n d q
   · obtain⟨b,d,rfl⟩:=key p
     exact A k b n d q
variable {g : Gh} {v v' : AV}
theorem lJ.sound {U F:Gh}{w:World}(hi:Inv S g w)(V:Gh.frozen (BQ S kp) g w U)(W:F.ro=U.ro)(B:∀ j id,kp[j]? = some id→F.ph j=g.ph id)(h:lJ S kp v v'):∀ {x:Value},VR g v x→VR F v' x:=by
 have K:Gh.le g.bare F:=⟨fun b c e=>by rw[W];exact V.1.ro b c e,fun _ _ e=>by simp[Gh.bare] at e⟩
 induction h with
 | pure h=>intro x n;exact(n.bare h).mono K
 | an=>intro x n;cases n;exact .jV
 | ft=>intro x n;cases n;exact .jV
 | ai L C u hs X h A=>
   intro x n
   cases n with
   | ai q y hb=>
     rename_i l
     obtain⟨l', I,q2,q3⟩:=hi.ob _ _ C
     rw[q] at I;simp only[bj] at I;subst I
     obtain⟨c,t,Y,p2,J,p4,Z,p6⟩:=q3
     have M:=V.2.2 _ _ l c t (0,0) (by rw[xl,if_neg L];exact C) q Y
     rename_i es es' cap
     subst u
     rw[←hs]
     have:VR F (.lit es') (.slice (some ⟨l.cZ,l.base+0*l.sz,none⟩) es'.length cap):=by
       refine .lit (sz:=l.sz) (by rw[W];exact M) (fun e he=>?_) (by rw[hs,J];omega) (by rw[hs];exact y) (fun i j e a x p z e3=>?_)
       · obtain⟨k,B⟩:=hU he
         have m:k<es.length:=by rw[←hs];exact(mC.1 B).1
         have d:es[k]? = some es[k]:=qB m
         rw[X k _ e d B,J]
         exact Z _ (cM m)
       · have m:i<es.length:=by rw[←hs];exact(mC.1 p).1
         have d:es[i]? = some es[i]:=qB m
         have N:j<es[i].cells.length:=by rw[←X i _ e d p];exact(mC.1 z).1
         have G:es[i].cells[j]? = some es[i].cells[j]:=qB N
         exact A i j _ e _ a d p G z (p6 i j _ _ x d G (by rw[←J,←e3];congr 1;omega))
     exact this
   | hM=>
     obtain rfl:=B7.1 (hs.trans u.symm)
     exact .jV
 | Im h=>
   intro x n
   cases n with
   | ai q y hb=>exact .ai (by rw[B _ _ h];exact q) y hb
   | hM q hb=>exact .hM (by rw[B _ _ h];exact q) hb
 | Io h=>intro x n;cases n with | ptr q=>exact .ptr (by rw[B _ _ h];exact q)
 | C3 h=>intro x n;cases n with | cQ q=>exact .cQ (by rw[B _ _ h];exact q)
 | Ip h=>intro x n;cases n with | rV q=>exact .rV (by rw[B _ _ h];exact q)
 | agg u h A=>
   intro x n
   cases n with
   | agg D hh=>
     refine .agg (by rw[u];exact D) fun k a x p z=>?_
     rename_i cs E xs
     have m:k<cs.length:=by rw[←u];exact(mC.1 p).1
     have d:cs[k]? = some cs[k]:=qB m
     exact A k _ a d p (hh k _ x d z)
 | bO u h A=>
   intro x n
   cases n with
   | bO D hh=>
     refine .bO (by rw[u];exact D) fun k a x p z=>?_
     rename_i cs E xs
     have m:k<cs.length:=by rw[←u];exact(mC.1 p).1
     have d:cs[k]? = some cs[k]:=qB m
     exact A k _ a d p (hh k _ x d z)
 | eu h A=>intro x n;cases n with | eu hh=>exact .eu (A hh)
 | fn u h H h2 A O=>
   intro x n
   cases n with
   | fn hx hy ha hb=>
     refine .fn (by rw[u];exact hx) (by rw[H];exact hy) (fun k a x p z=>?_) (fun k a x p z=>?_)
     · rename_i cs E ds R xs ys
       have m:k<cs.length:=by rw[←u];exact(mC.1 p).1
       have d:cs[k]? = some cs[k]:=qB m
       exact A k _ a d p (ha k _ x d z)
     · rename_i cs E ds R xs ys
       have m:k<ds.length:=by rw[←H];exact(mC.1 p).1
       have d:ds[k]? = some ds[k]:=qB m
       exact O k _ a d p (hb k _ x d z)
inductive tT (S : ag) (kp : List Nat) : aL → aL → Prop
 | arr {sz : Nat} {es es' : List AV} (hs : es'.length = es.length) (hc : ∀ (i : Nat) (e e' : AV), es[i]? = some e → es'[i]? = some e' → e'.cells.length = e.cells.length)
  (h : ∀ (i j : Nat) (e e' a a' : AV), es[i]? = some e → es'[i]? = some e' → e.cells[j]? = some a → e'.cells[j]? = some a' → lJ S kp a a') : tT S kp (.arr sz es) (.arr sz es')
 | mp {kvs kvs' : List (AV × AV)} (hs : kvs'.length = kvs.length) (h : ∀ (i : Nat) (p p' : AV × AV), kvs[i]? = some p → kvs'[i]? = some p' → lJ S kp p.1 p'.1 ∧ lJ S kp p.2 p'.2) : tT S kp (.mp kvs) (.mp kvs')
 | df {o : Bool} : tT S kp (.df o) (.df o)
 | lp {st : LoopState} {pending : Option Code} {fn : FuncId} {n mask : Nat} {env env' : List (Nat × AV)} {params : List Tmp} {assign body : Code} (h : ∀ t v', lk env' t = some v' → ∃ v, lk env t = some v ∧ lJ S kp v v') :
  tT S kp (.lp st pending fn n mask env params assign body) (.lp st pending fn n mask env' params assign body)
theorem tT.ags (h:vq S kp es es'):tT S kp (.arr sz es) (.arr sz es'):=
 .arr h.spec.1 (fun i e c p q=>(h.spec.2 i e c p q).zu.1) (fun i j e c a d p q r s=>(h.spec.2 i e c p q).zu.2 j a d r s)
theorem tT.alO (c:cF es=true):tT S kp (.arr sz es) (.arr sz es):=
 .arr rfl (fun i e d p q=>by grind) (fun i j e d a h p q r s=>by
  rw[p] at q;simp only[bj] at q;subst q
  rw[r] at s;simp only[bj] at s;subst s
  exact .pure (kx (fN c p) r))
def Qm (a:List (AV×AV)):Bool:=a.all fun p=>aV p.1&&aV p.2
theorem tT.asM {a:List (AV×AV)}(d:Qm a=true):tT S kp (.mp a) (.mp a):=
 .mp rfl fun i p h e c=>by
  rw[e] at c;simp only[bj] at c;subst c
  have:=dg.1 d p (vj e)
  simp only[aS] at this
  exact⟨.pure this.1,.pure this.2⟩
theorem tT.aY {σ:Nat→Nat}(d:∀ a b,σ a=σ b→a=b){S x:ag}{kp:List Nat}(hs:Ep σ S x){o o' : aL}(h:tT S kp o o'):tT x (kp.map σ) (o.aY σ) o' := by
 have key:∀ {l:List AV} {k:Nat} {a:AV},(eB σ l)[k]? = some a→∃ b,l[k]? = some b∧a=b.aY σ:=by
   intro l k a e
   rw[iX] at e
   grind
 cases h with
 | arr u D h=>
   refine .arr (by rw[bm];exact u) (fun i e m p q=>?_) (fun i j e m a z p q r s=>?_)
   · obtain⟨b,n,rfl⟩:=key p
     grind[AV.gu,bm]
   · obtain⟨b,n,rfl⟩:=key p
     rw[AV.gu] at r
     obtain⟨c,A,rfl⟩:=key r
     exact(h i j b m c z n q A s).aY d hs
 | mp u h=>
   refine .mp (by simpa using u) fun i p n e m=>?_
   rw[sl] at e
   rename_i w y
   cases hb:w[i]? with
   | none=>rw[hb] at e;simp at e
   | some b=>
     rw[hb] at e;simp at e;subst e
     have:=h i b n hb m
     exact⟨this.1.aY d hs,this.2.aY d hs⟩
 | df=>exact .df
 | lp h=>
   refine .lp fun t v' e=>?_
   obtain⟨v,B,C⟩:=h t v' e
   exact⟨v.aY σ,by rw[EB,B];rfl,C.aY d hs⟩
theorem tT.sound {S:ag}{kp:List Nat}{g G D:Gh}{w:World}(hi:Inv S g w)(z:Gh.frozen (BQ S kp) g w G)(A:D.ro=G.ro)(B:∀ j id,kp[j]? = some id→D.ph j=g.ph id){o o' : aL}(h:tT S kp o o'){l:Loc}{x:Option Obj}(C:wH g l x o):wH D l x o' := by
 cases h with
 | arr hs U h=>
   rename_i sz es es'
   obtain⟨c,t,h1,h2,h3,h4,H,E⟩:=C
   refine⟨c,t,h1,h2,h3,by rw[hs];exact h4,fun e J=>?_,fun i j e a y p q r=>?_⟩
   · obtain⟨i,hi⟩:=hU J
     have m:i<es.length:=by grind
     have d:es[i]? = some es[i]:=qB m
     grind
   · have m:i<es.length:=by grind
     have d:es[i]? = some es[i]:=qB m
     have F:j<es[i].cells.length:=by grind
     have u:es[i].cells[j]? = some es[i].cells[j]:=qB F
     exact(h i j _ e _ a d p u q).sound hi z A B (E i j _ _ y d u r)
 | mp hs h=>
   rename_i n I
   obtain⟨es,k,h1,h2,h3,h4⟩:=C
   refine⟨es,k,h1,by rw[hs];exact h2,fun i K e p q=>?_,h4⟩
   have m:i<n.length:=by rw[←hs];exact(mC.1 p).1
   have d:n[i]? = some n[i]:=qB m
   have a:=h i _ K d p
   have b:=h3 i _ e d q
   exact⟨a.1.sound hi z A B b.1,a.2.sound hi z A B b.2⟩
 | df=>exact C
 | lp h=>
   obtain⟨lo,h1,h2,h3,h4,H,E,L,M,N⟩:=C
   refine⟨lo,h1,h2,h3,h4,H,fun t v' e=>?_,L,M,N⟩
   obtain⟨v,O,R⟩:=h t v' e
   obtain⟨x,a,b⟩:=E t v O
   exact⟨x,a,R.sound hi z A B b⟩
def tg (ids:List Nat)(nx i:Nat):Nat:=
 match ids[i]? with
 | some a=>a
 | none=>nx+(i-ids.length)
def rf (S:ag):List (Nat×Option aL)→ag
 | []=>S
 | (id,some o)::r=>(rf S r).set id o
 | (id,none)::r=>(rf S r).del id
theorem AO (S:ag):∀ l,(rf S l).nx=S.nx∧(rf S l).lim=S.lim:=by
 intro l
 induction l with
 | nil=>exact⟨rfl,rfl⟩
 | cons p l a=>obtain⟨id,o⟩:=p;cases o<;>exact a
theorem Dj {a:Nat}:∀ {l:List (Nat×Option aL)},(∀ p,p∈l→p.1≠a)→(rf S l).get a=S.get a:=by
 intro l
 induction l with
 | nil=>intro _;rfl
 | cons p l d=>
   intro h
   obtain⟨id,o⟩:=p
   have c:a≠id:=fun e=>h (id,o) (jU ..) e.symm
   cases o with
   | some o=>simp only[rf];rw[ag.bt (vi _) c];grind
   | none=>simp only[rf];rw[ag.dL (vi _) c];grind
theorem IL : ∀ {l:List (Nat×Option aL)},(l.map (·.1)).Nodup→∀ id o,(id,o)∈l→(rf S l).get id=o:=by
 intro l
 induction l with
 | nil=>grind
 | cons p l d=>
   intro c id o h
   obtain⟨k,x⟩:=p
   simp only[dF,so] at c
   rcases dE.1 h with e | e
   · simp only[nj] at e;obtain⟨rfl,rfl⟩:=e
     cases o with
     | some o=>exact ag.cO (vi _)
     | none=>exact ag.iG ..
   · have a:id≠k:=by grind
     cases x with
     | some x=>simp only[rf];rw[ag.bt (vi _) a];grind
     | none=>simp only[rf];rw[ag.dL (vi _) a];grind
def BR (S:ag):List aL→ag
 | []=>S
 | o::r=>BR (S.add o) r
theorem QG : ∀(l:List aL) (S:ag),(BR S l).nx=S.nx+l.length∧(BR S l).lim=S.lim:=by
 intro l
 induction l with
 | nil=>intro S;exact⟨rfl,rfl⟩
 | cons o l c=>
   intro S
   obtain⟨a,b⟩:=c (S.add o)
   refine⟨?_,b⟩
   simp only[BR]
   rw[a]
   show S.nx+1+l.length=S.nx+(l.length+1)
   omega
theorem L2 : ∀(l:List aL) (S:ag) (a:Nat),(BR S l).get a=if S.nx≤a∧a-S.nx<l.length then l[a-S.nx]? else S.get a:=by
 intro l
 induction l with
 | nil=>intro S a;simp[BR]
 | cons o l d=>
   intro S a
   simp only[BR]
   rw[d]
   have c:(S.add o).nx=S.nx+1:=rfl
   rw[c]
   by_cases h1:S.nx+1≤a∧a-(S.nx+1)<l.length
   · grind
   · rw[if_neg h1]
     by_cases h2:a=S.nx
     · subst h2
       rw[ag.oe (vi _),if_pos ⟨bG _,by simp⟩]
       simp
     · rw[ag.eJ (vi _) h2]
       rw[if_neg]
       rintro⟨h3,h4⟩
       simp only[pk] at h4
       exact h1 ⟨by omega,by omega⟩
@[reducible] def Ra : Bool→AV→gQ
 | true,v=>.ret v
 | false,v=>.wI [(v,false)]
theorem YC (σ:Nat→Nat)(b:Bool)(v:AV):(Ra b v).aY σ=Ra b (v.aY σ):=by cases b<;>rfl
variable {b : Bool}
theorem VM {a:Gh}{d:AV}{e:Ending}(h:N3 g (Ra b v) e)(j:∀ x,VR g v x→VR a d x):N3 a (Ra b d) e:=by
 cases b with
 | true=>cases e with
   | returned x=>exact j x h
   | panicked c=>exact h.elim
   | outgrown=>exact h.elim
 | false=>cases e with
   | returned x=>exact h.elim
   | panicked c=>
     have h:hZ g [(v,false)] c:=h
     cases h with
     | cons hx t=>cases t with | nil=>exact .cons (j _ hx) .nil
   | outgrown=>exact h.elim
def Zj (b:Bool)(k:Nat)(v' : AV)(jr:List (Option aL))(add:List aL):gQ→ag→Prop:=fun r S=>∃ v kp,r=Ra b v∧kp.Nodup∧kp.length=k+add.length∧(∀ i,i<k→kp[i]? = some i)∧lJ S kp v v' ∧
 (∀(i:Nat) (o' : aL),jr[i]? = some (some o')→∃ o,S.get i=some o∧tT S kp o o')∧∀(i:Nat) (o' : aL),add[i]? = some o' → ∃ id o,kp[k+i]? = some id∧S.get id=some o∧tT S kp o o'
abbrev RG := Zj true
variable {k : Nat} {jr : List (Option aL)} {add : List aL}
theorem ZC (p:jr.length=k):vk k (Zj b k v' jr add):=by
 rintro σ a h r S q ⟨v,kp,rfl,n,c,j,hf,hu,ha⟩ hs
 refine⟨v.aY σ,kp.map σ,YC σ b v,?_,by simpa using c,fun i hi=>?_,hf.aY a hs,fun i o' e=>?_,fun i o' e=>?_⟩
 · grind
 · grind
 · obtain⟨o,d,q2⟩:=hu i o' e
   have hi:i<k:=by grind
   exact⟨o.aY σ,by have:=hs.get i o d;grind,q2.aY a hs⟩
 · obtain⟨id,o,m,d,q2⟩:=ha i o' e
   exact⟨σ id,o.aY σ,by rw[sl,m];rfl,hs.get id o d,q2.aY a hs⟩
variable {P : Program} {f : FuncId} {args : List AV} {S0 : ag} {olds : List aL} {pad : List (Option aL)} {ids : List Nat}
theorem fU.agt {ι:Type}{R:ι→Prop}{jr:ι→List (Option aL)}{add:ι→List aL}{v' : ι→AV}(h:fU P f args S0 fun r S=>∃ c,R c∧Zj b k (v' c) (jr c) (add c) r S)(hko:k≤olds.length)(hpad:∀ o,o∈pad→o=none)(hpl:k+pad.length=olds.length)(h0:∀ i:Nat,S0.get i=olds[i]?)(h1:S0.nx=olds.length)(h2:S0.lim=0)(hl:∀ c,(jr c).length=k)(hlim:S.lim≤S.nx)(hi:ids.length=olds.length)(hn:ids.Nodup)(hS:∀(i a:Nat) (o:aL),ids[i]? = some a→olds[i]? = some o→S.get a=some (o.aY (tg ids S.nx))∧S.lim≤a) :
   fU P f (eB (tg ids S.nx) args) S fun r O=>∃ c,R c∧r=Ra b ((v' c).aY (tg (ids.take k) S.nx))∧O=BR (rf S (ids.zip ((jr c).map (Option.map (aL.aY (tg (ids.take k) S.nx)))++pad))) ((add c).map (aL.aY (tg (ids.take k) S.nx))):=by
 intro g2 w xs hx n
 obtain⟨σ,hσ⟩:∃ σ,σ=tg ids S.nx:=⟨_,rfl⟩
 obtain⟨τ,hτ⟩:∃ τ,τ=tg (ids.take k) S.nx:=⟨_,rfl⟩
 rw[←hσ] at hx hS
 rw[←hτ]
 have htk:(ids.take k).length=k:=by simp;omega
 obtain⟨g,hg⟩:∃ g:Gh,g={ ro:=g2.ro,ph:=fun id=>g2.ph (σ id) }:=⟨_,rfl⟩
 have C:j0 σ g g2:=by rw[hg];exact⟨rfl,fun _=>rfl⟩
 have F:∀(i a:Nat),ids[i]? = some a→σ i=a:=by intro i a e;rw[hσ];simp[tg,e]
 have hhigh0:∀ i:Nat,olds.length≤i→S.nx≤σ i:=by
   intro i e
   have:ids[i]? = none:=zo (by rw[hi];exact e)
   rw[hσ];simp only[tg,this];omega
 have tlow:∀(i a:Nat),i<k→ids[i]? = some a→τ i=a:=by
   intro i a U e
   have:(ids.take k)[i]? = some a:=by rw[tW,if_pos U];exact e
   rw[hτ];simp[tg,this]
 have hhigh:∀ i:Nat,k≤i→τ i=S.nx+(i-k):=by
   intro i e
   have:(ids.take k)[i]? = none:=zo (by rw[htk];exact e)
   rw[hτ];simp only[tg,this,htk]
 have K:∀(i:Nat) (o:aL),olds[i]? = some o→∃ a,ids[i]? = some a:=by
   intro i o e
   have:i<ids.length:=by rw[hi];exact(mC.1 e).1
   exact⟨_,qB this⟩
 have hinj:∀(i j a:Nat),ids[i]? = some a→ids[j]? = some a→i=j:=by
   intro i j a e E
   have I:=(mC.1 e).1
   exact(Ju I hn).1 (e.trans E.symm)
 have V:∀(i a:Nat),ids[i]? = some a→∃ o,olds[i]? = some o∧S.get a=some (o.aY σ)∧S.lim≤a:=by
   intro i a e
   have m:i<olds.length:=by rw[←hi];exact(mC.1 e).1
   have ho:olds[i]? = some olds[i]:=qB m
   exact⟨_,ho,hS i a _ e ho⟩
 have idlt:∀(i a:Nat),ids[i]? = some a→a<S.nx:=by
   intro i a e
   obtain⟨o,_,q,_⟩:=V i a e
   exact n.lO q
 have hinv0:Inv S0 g w:=by
   refine⟨fun b c e=>n.ro b c (by rw[←C.ro];exact e),fun id o e=>?_,fun id M o o' l l' e E p p' q=>?_,fun id bE=>?_⟩
   · rw[h0] at e
     obtain⟨a,ha⟩:=K id o e
     obtain⟨A,q2⟩:=hS id a o ha e
     obtain⟨l,x,y,z⟩:=n.ob a _ A
     exact⟨l,by rw[C.ph,F id a ha];exact x,by rw[C.ro];exact y,z.iJ C⟩
   · rw[h0] at e E
     obtain⟨a,ha⟩:=K id o e
     obtain⟨a', ha'⟩:=K M o' E
     have:=n.inj a a' _ _ l l' (hS id a o ha e).1 (hS M a' o' ha' E).1 (by rw[←F id a ha,←C.ph];exact p) (by rw[←F M a' ha', ←C.ph];exact p') q
     subst this
     exact hinj id M a ha ha'
   · rw[h1] at bE
     rw[C.ph]
     exact n.fresh _ (hhigh0 id bE)
 refine(h g w xs (hx.iJ C) hinv0).mono fun e w' ⟨r,O,g', ⟨c,hc,v,kp,hr,hnd,hlen,hkl,hf,hupd,hadd⟩,hres,I,D⟩=>?_
 have hl:=hl c
 refine Exists.imp (fun r=>Exists.imp fun O=>Exists.imp fun g' (q:(_∧_)∧_)=>⟨⟨c,hc,q.1⟩,q.2⟩) ?_
 generalize v' c=v' at hf ⊢
 generalize jr c=jr at hl hupd ⊢
 generalize add c=add at hlen hadd ⊢
 clear hc h
 subst hr
 have hsub:ag.sub (BQ O kp) O:=⟨(QF O kp).1.symm,(QF O kp).2,fun id o e=>by rw[xl] at e;split at e<;>first | simp at e | exact e⟩
 have U:Inv (BQ O kp) g' w' := I.sub hsub
 have hfz:=Gh.jT U
 have G:∀ b c,(g'.freeze (BQ O kp) w').ro b=some c→g'.ro b=some c∨(∃ t fz,w'.heap[b]? = some (.cells c t fz))∧∃ id o l,(BQ O kp).get id=some o∧g'.ph id=some l∧l.cZ=b:=by
   intro b c e
   simp only[Gh.freeze] at e
   split at e
   · rename_i c' hc;simp only[bj] at e;subst e;exact .inl hc
   · split at e
     · rename_i c' t fz hh
       split at e<;>simp only[bj,reduceCtorEq] at e
       rename_i hex
       subst e;exact .inr ⟨⟨t,fz,hh⟩,hex⟩
     · simp at e
 obtain⟨gf,hgf⟩:∃ gf,gf=g'.freeze (BQ O kp) w' := ⟨_,rfl⟩
 rw[←hgf] at hfz G
 obtain⟨gk,hgk⟩:∃ gk:Gh,gk={ ro:=gf.ro,ph:=fun j=>match kp[j]? with | some id=>g'.ph id | none=>none }:=⟨_,rfl⟩
 obtain⟨gn,J⟩:∃ gn:Gh,gn={ ro:=gf.ro,ph:=fun a=>if a<S.nx then g2.ph a else match kp[k+(a-S.nx)]? with | some id=>g'.ph id | none=>none }:=⟨_,rfl⟩
 have hkro:gk.ro=gf.ro:=by rw[hgk]
 have W:∀ j id,kp[j]? = some id→gk.ph j=g'.ph id:=by intro j id e;rw[hgk];simp only[e]
 have phOf:∀(i a:Nat),ids[i]? = some a→g'.ph i=g2.ph a:=by
   intro i a e
   have m:i<S0.nx:=by rw[h1,←hi];exact(mC.1 e).1
   rw[D.vZ i m,C.ph,F i a e]
 have hren:j0 τ gk gn:=by
   refine⟨by rw[hgk,J],fun j=>?_⟩
   by_cases hj:j<k
   · have hja:ids[j]? = some ids[j]:=qB (by rw[hi];omega)
     rw[W j j (hkl j hj),tlow j _ hj hja,phOf j _ hja,J]
     simp only[idlt j _ hja,if_true]
   · rw[hhigh j (by omega),J,hgk]
     simp only[show ¬ (S.nx+(j-k)<S.nx) from by omega,if_false,show k+(S.nx+(j-k)-S.nx)=j from by omega]
 have B:∀ a,a<S.nx→gn.ph a=g2.ph a:=by intro a e;rw[J];simp only[e,if_true]
 have hro1:∀ b c,g2.ro b=some c→gn.ro b=some c:=by
   intro b c e;rw[J];exact hfz.1.ro b c (D.oS.ro b c (by rw[C.ro];exact e))
 have hgle:Gh.le g2 gn:=by
   refine⟨hro1,fun a l e=>?_⟩
   rcases jO a S.nx with q | q
   · rw[B a q];exact e
   · rw[n.fresh a q] at e;simp at e
 have other:∀ a o l,S.get a=some o→a∉ids→g2.ph a=some l→∀ id o', S0.get id=some o' → ∀ l', g.ph id=some l' → l'.cZ≠l.cZ:=by
   intro a o l e ha hl2 id o' E l' hl' heq
   rw[h0] at E
   obtain⟨b,hb⟩:=K id o' E
   have:=n.inj b a _ o l' l (hS id b o' hb E).1 e (by rw[←F id b hb,←C.ph];exact hl') hl2 heq
   subst this
   exact ha (vj hb)
 obtain⟨S2,hS2⟩:∃ S2,S2=BR (rf S (ids.zip (jr.map (Option.map (aL.aY τ))++pad))) (add.map (aL.aY τ)):=⟨_,rfl⟩
 rw[←hS2]
 have hnx2:S2.nx=S.nx+add.length:=by rw[hS2,(QG _ _).1,(AO _ _).1];simp
 have hlim2:S2.lim=S.lim:=by rw[hS2,(QG _ _).2,(AO _ _).2]
 have hndz:((ids.zip (jr.map (Option.map (aL.aY τ))++pad)).map (·.1)).Nodup:=by
   rw[List.map_fst_zip (by simp;omega)];exact hn
 have Y:∀ a,a<S.nx→a∉ids→S2.get a=S.get a:=by
   intro a ha hna
   rw[hS2,L2,if_neg (by rw[(AO _ _).1];omega)]
   exact Dj fun p hp=>by rintro rfl;exact hna (List.of_mem_zip hp).1
 have X:∀ a o,S2.get a=some o→(∃(j id:Nat) (o0 o' : aL),τ j=a∧kp[j]? = some id∧O.get id=some o0∧tT O kp o0 o' ∧ o=o'.aY τ)∨(a∉ids∧a<S.nx∧S.get a=some o):=by
   intro a o e
   rw[hS2,L2,(AO _ _).1] at e
   split at e
   · rename_i hc
     rw[sl] at e
     cases hb:add[a-S.nx]? with
     | none=>rw[hb] at e;simp at e
     | some o' =>
       rw[hb] at e;simp at e
       obtain⟨id,o0,q0,A,q2⟩:=hadd _ o' hb
       exact .inl ⟨k+(a-S.nx),id,o0,o', by rw[hhigh _ (by omega)];omega,q0,A,q2,e.symm⟩
   · by_cases ha:a∈ids
     · obtain⟨i,hia⟩:=hU ha
       by_cases U:i<k
       · have m:i<jr.length:=by rw[hl];exact U
         have hno:jr[i]? = some jr[i]:=qB m
         have hm:(a,Option.map (aL.aY τ) jr[i])∈ids.zip (jr.map (Option.map (aL.aY τ))++pad):=vj (i:=i) (by
           rw[List.getElem?_zip_eq_some]
           exact⟨hia,by rw[BX (by simpa using m),sl,hno];rfl⟩)
         rw[IL hndz _ _ hm] at e
         cases hu:jr[i] with
         | none=>rw[hu] at e;simp at e
         | some o' =>
           rw[hu] at e hno;simp at e
           obtain⟨o0,A,q2⟩:=hupd i o' hno
           exact .inl ⟨i,i,o0,o', tlow i a U hia,hkl i U,A,q2,e.symm⟩
       · have hil:i<ids.length:=(mC.1 hia).1
         have m:i-jr.length<pad.length:=by omega
         have hno:pad[i-jr.length]? = some pad[i-jr.length]:=qB m
         have hpn:=hpad _ (cM m)
         have hm:(a,(none:Option aL))∈ids.zip (jr.map (Option.map (aL.aY τ))++pad):=vj (i:=i) (by
           rw[List.getElem?_zip_eq_some]
           exact⟨hia,by rw[zj (by simp;omega)];simp only[sq];rw[hno,hpn]⟩)
         rw[IL hndz _ _ hm] at e
         simp at e
     · rw[Dj (fun p hp=>by rintro rfl;exact ha (List.of_mem_zip hp).1)] at e
       exact .inr ⟨ha,n.lO e,e⟩
 have phK:∀(j id:Nat),kp[j]? = some id→gn.ph (τ j)=g'.ph id:=by intro j id e;rw[←hren.ph,W j id e]
 have noroK:∀(j id:Nat) (o0:aL) (l:Loc),kp[j]? = some id→O.get id=some o0→g'.ph id=some l→gf.ro l.cZ=none:=by
   intro j id o0 l e e1 e2
   cases hr:gf.ro l.cZ with
   | none=>rfl
   | some c=>
     exfalso
     obtain⟨l1,x,y,_⟩:=I.ob id o0 e1
     rw[e2] at x;simp only[bj] at x;subst x
     rcases G _ _ hr with q | ⟨_,id2,o2,l2,A,q2,q3⟩
     · rw[y] at q;simp at q
     · rw[xl] at A
       split at A
       · simp at A
       · rename_i hge
         have:=I.inj id2 id o2 o0 l2 l A e1 q2 e2 q3
         subst this
         exact hge (vj e)
 have noroB:∀ a o l,a∉ids→S.get a=some o→g2.ph a=some l→gf.ro l.cZ=none:=by
   intro a o l ha E hl2
   cases hr:gf.ro l.cZ with
   | none=>rfl
   | some c=>
     exfalso
     obtain⟨l1,x,y,z⟩:=n.ob a o E
     rw[hl2] at x;simp only[bj] at x;subst x
     have m:=z.lt
     rcases G _ _ hr with q | ⟨_,id,o2,l2,A,q2,q3⟩
     · rcases D.CU _ _ q m with q | ⟨d,o0,L,H,f2,N,Z⟩
       · rw[C.ro,y] at q;simp at q
       · exact other a o l E ha hl2 d o0 H L N Z
     · rw[xl] at A
       split at A
       · simp at A
       · obtain⟨d,o0,L,H,f2,N,Z⟩:=D.own id o2 l2 A (by rw[h2];omega) q2 (by rw[q3];exact m)
         exact other a o l E ha hl2 d o0 H L N (Z.trans q3)
 have fin:∀ b d o0 L,S0.get d=some o0→g.ph d=some L→L.cZ=b→∃ d o0 L,S.get d=some o0∧S.lim≤d∧g2.ph d=some L∧L.cZ=b:=by
   intro b d o0 L H N Z
   rw[h0] at H
   obtain⟨a,ha⟩:=K d o0 H
   obtain⟨A,q2⟩:=hS d a o0 ha H
   exact⟨a,_,L,A,q2,by rw[←F d a ha,←C.ph];exact N,Z⟩
 refine⟨Ra b (v'.aY τ),S2,gn,⟨rfl,rfl⟩,?_,⟨fun b c e=>?_,fun a o e=>?_,fun a a' o o' l l' e E p p' q=>?_,fun a ha=>?_⟩,⟨D.size,D.os,D.tape,D.output,fun b hb hne=>?_,fun a o l e1 e2 e3 e4=>?_,hgle,by rw[hnx2];omega,hlim2,fun a ha=>?_,fun a ha=>B a ha,fun b c e hb=>?_,fun a ha e=>?_,D.fz⟩⟩
 · exact VM hres fun x hx=>(lJ.sound I hfz hkro W hf hx).aY hren
 · rw[J] at e
   rcases G b c e with q | ⟨q,_⟩
   · exact I.ro b c q
   · exact q
 · rcases X a o e with⟨j,id,o0,o', rfl,A,q2,q3,rfl⟩ | ⟨ha,m,E⟩
   · obtain⟨l,x,y,z⟩:=I.ob id o0 q2
     refine⟨l,by rw[phK j id A];exact x,?_,(q3.sound I hfz hkro W z).aY hren⟩
     have:=noroK j id o0 l A q2 x
     rw[J];exact this
   · obtain⟨l,x,y,z⟩:=n.ob a o E
     have hk' : w'.heap[l.cZ]? = w.heap[l.cZ]? := D.jW l.cZ z.lt fun id o' l' H _ N=>other a o l E ha x id o' H l' N
     refine⟨l,by rw[B a m];exact x,?_,by rw[hk'];exact z.mono hgle⟩
     have:=noroB a o l ha E x
     rw[J];exact this
 · have mix:∀(j id:Nat) (o0:aL) (a:Nat) (o' : aL) (l l' : Loc),kp[j]? = some id→O.get id=some o0→g'.ph id=some l→a∉ids→S.get a=some o' → g2.ph a=some l' → l.cZ=l'.cZ→False:=by
     intro j id o0 a o' l l' A q2 q3 ha E hl' hb
     obtain⟨l1,x,y,z⟩:=n.ob a o' E
     rw[hl'] at x;simp only[bj] at x;subst x
     have m:=z.lt
     obtain⟨d,o1,L,H,f2,N,Z⟩:=D.own id o0 l q2 (by rw[h2];omega) q3 (by rw[hb];exact m)
     exact other a o' l' E ha hl' d o1 H L N (Z.trans hb)
   rcases X a o e with⟨j,id,o0,u,rfl,A,q2,q3,rfl⟩ | ⟨ha,m,e1⟩<;>rcases X a' o' E with⟨j', M,o0', u', rfl,r1,r2,r3,rfl⟩ | ⟨ha', hlt', e1'⟩
   · rw[phK j id A] at p
     rw[phK j' M r1] at p'
     have:=I.inj id M o0 o0' l l' q2 r2 p p' q
     subst this
     have hj:=(mC.1 A).1
     rw[(Ju hj hnd).1 (A.trans r1.symm)]
   · exact(mix j id o0 a' o' l l' A q2 (by rw[←phK j id A];exact p) ha' e1' (by rw[←B a' hlt'];exact p') q).elim
   · exact(mix j' M o0' a o l' l r1 r2 (by rw[←phK j' M r1];exact p') ha e1 (by rw[←B a m];exact p) q.symm).elim
   · exact n.inj a a' o o' l l' e1 e1' (by rw[←B a m];exact p) (by rw[←B a' hlt'];exact p') q
 · rw[hnx2] at ha
   have:kp[k+(a-S.nx)]? = none:=zo (by rw[hlen];omega)
   rw[J]
   simp only[show ¬ (a<S.nx) from by omega,if_false,this]
 · refine D.jW b hb fun id o l H _ N=>?_
   rw[h0] at H
   obtain⟨a,ha⟩:=K id o H
   obtain⟨A,q2⟩:=hS id a o ha H
   exact hne a _ l A q2 (by rw[←F id a ha,←C.ph];exact N)
 · rcases X a o e1 with⟨j,id,o0,o', rfl,A,q2,q3,rfl⟩ | ⟨_,m,E⟩
   · rw[phK j id A] at e3
     obtain⟨d,o1,L,H,f2,N,Z⟩:=D.own id o0 l q2 (by rw[h2];omega) e3 e4
     exact fin _ d o1 L H N Z
   · exact⟨a,o,l,E,e2,by rw[←B a m];exact e3,rfl⟩
 · refine Y a (by omega) fun hm=>?_
   obtain⟨i,hi2⟩:=hU hm
   obtain⟨_,_,_,q⟩:=V i _ hi2
   omega
 · rw[J] at e
   rcases G b c e with q | ⟨_,id,o,l,A,q2,q3⟩
   · rcases D.CU b c q hb with f | ⟨d,o0,L,H,f2,N,Z⟩
     · exact .inl (by rw[←C.ro];exact f)
     · exact .inr (fin _ d o0 L H N Z)
   · rw[xl] at A
     split at A
     · simp at A
     · obtain⟨d,o0,L,H,f2,N,Z⟩:=D.own id o l A (by rw[h2];omega) q2 (by rw[q3];exact hb)
       exact .inr (fin _ d o0 L H N (Z.trans q3))
 · refine(Y a ha fun hm=>?_).trans e
   obtain⟨i,hi2⟩:=hU hm
   obtain⟨o', _,q,_⟩:=V i _ hi2
   rw[e] at q;simp at q
theorem fU.gen (h:fU P f args S0 (Zj b k v' jr add))(e:k≤olds.length)(c:∀ o,o∈pad→o=none)(j:k+pad.length=olds.length)(m:∀ i:Nat,S0.get i=olds[i]?)(h1:S0.nx=olds.length)(h2:S0.lim=0)(n:jr.length=k)(d:S.lim≤S.nx)(hi:ids.length=olds.length)(p:ids.Nodup)(t:∀(i a:Nat) (o:aL),ids[i]? = some a→olds[i]? = some o→S.get a=some (o.aY (tg ids S.nx))∧S.lim≤a) :
  fU P f (eB (tg ids S.nx) args) S fun r u=>r=Ra b (v'.aY (tg (ids.take k) S.nx))∧u=BR (rf S (ids.zip (jr.map (Option.map (aL.aY (tg (ids.take k) S.nx)))++pad))) (add.map (aL.aY (tg (ids.take k) S.nx))):=
 (fU.agt (ι:=Unit) (R:=fun _=>True) (jr:=fun _=>jr) (add:=fun _=>add) (v' := fun _=>v') (h.mono fun _ _ q=>⟨(),trivial,q⟩) e c j m h1 h2 (fun _=>n) d hi p t).mono fun _ _ ⟨_,_,a,b⟩=>⟨a,b⟩
def zf (k m:Nat)(kp:List Nat):Bool:=kp.Nodup&&Nat.beq kp.length (k+m)&&(List.range k).all fun i=>kp[i]? == some i
def kq (S:ag)(kp:List Nat):Nat→List (Option aL)→Prop
 | _,[]=>True
 | i,none::r=>kq S kp (i+1) r
 | i,some o' :: r=>(∃ o,S.get i=some o∧tT S kp o o')∧kq S kp (i+1) r
def oZ (S:ag)(kp:List Nat):List Nat→List aL→Prop
 | _,[]=>True
 | [],_::_=>False
 | id::r,o' :: l=>(∃ o,S.get id=some o∧tT S kp o o')∧oZ S kp r l
variable {i : Nat}
theorem iy : kq S kp i []:=trivial
variable {r : List (Option aL)}
theorem iZ (h:kq S kp (i+1) r):kq S kp i (none::r):=h
variable {o o' : aL}
theorem F7 (e:S.get i=some o)(f:tT S kp o o')(h:kq S kp (i+1) r):kq S kp i (some o' :: r):=⟨⟨o,e,f⟩,h⟩
theorem gK {l:List Nat}:oZ S kp l []:=by cases l<;>trivial
theorem Pn {l:List Nat}{r:List aL}(e:S.get id=some o)(f:tT S kp o o')(h:oZ S kp l r):oZ S kp (id::l) (o' :: r):=⟨⟨o,e,f⟩,h⟩
theorem vJ : ∀ {l:List (Option aL)} {i:Nat},kq S kp i l→∀(j:Nat) (o' : aL),l[j]? = some (some o')→∃ o,S.get (i+j)=some o∧tT S kp o o' := by
 intro l
 induction l with
 | nil=>grind
 | cons a l c=>
   intro i h j o' e
   cases j with
   | zero=>simp at e;subst e;exact h.1
   | succ j=>
     have d:kq S kp (i+1) l:=by cases a<;>first | exact h | exact h.2
     grind
theorem vK : ∀ {l:List aL} {ids:List Nat},oZ S kp ids l→∀(j:Nat) (o' : aL),l[j]? = some o' → ∃ id o,ids[j]? = some id∧S.get id=some o∧tT S kp o o' := by
 intro l
 induction l with
 | nil=>grind
 | cons a l c=>
   intro ids h j o' e
   cases ids with
   | nil=>exact h.elim
   | cons id r=>
     cases j with
     | zero=>simp at e;subst e;obtain⟨o,p,q⟩:=h.1;grind
     | succ j=>
       obtain⟨d,o,p,q⟩:=c h.2 j o' (by simpa using e)
       grind
def w8 (S:ag):List Nat→List aL→Prop
 | a::r,o::l=>(S.get a=some o∧Nat.ble S.lim a=true)∧w8 S r l
 | [],[]=>True
 | _,_=>False
theorem F8 : ∀ {ids:List Nat} {l:List aL},w8 S ids l→ids.length=l.length∧∀(i a:Nat) (o:aL),ids[i]? = some a→l[i]? = some o→S.get a=some o∧S.lim≤a:=by
 intro ids
 induction ids with
 | nil=>
   intro l h
   cases l with
   | nil=>grind
   | cons x l=>exact h.elim
 | cons b r d=>
   intro l h
   cases l with
   | nil=>exact h.elim
   | cons x l=>
     obtain⟨p,q⟩:=d h.2
     refine⟨by simp[p],fun i a o e c=>?_⟩
     cases i with
     | zero=>simp at e c;subst e;subst c;exact⟨h.1.1,gw h.1.2⟩
     | succ i=>grind
section
variable {T : FT} {P : Program} {Q : gQ → ag → Prop}
variable {s : St}
theorem aet (E:cU T P)(n:Nat)(kp:List Nat)(h:wN (ab T P n s)=some v)(a:zf k add.length kp=true)(hf:lJ (BL (ab T P n s)) kp v v')(hu:kq (BL (ab T P n s)) kp 0 jr)(ha:oZ (BL (ab T P n s)) kp (kp.drop k) add):SX P (RG k v' jr add) s:=by
 refine⟨cL E.ok E.mix n ?_⟩
 generalize ab T P n s=s at h hf hu ha
 unfold wN at h
 split at h<;>simp only[bj,reduceCtorEq] at h
 subst h
 simp only[zf,aS,decide_eq_true_eq,dg,List.mem_range,beq_iff_eq] at a
 obtain⟨⟨k1,k2⟩,k3⟩:=a
 refine⟨_,kp,rfl,k1,oR k2,k3,hf,fun i o' e=>?_,fun i o' e=>?_⟩
 · have:=vJ hu i o' e
   rwa [xf] at this
 · obtain⟨id,o,p,q⟩:=vK ha i o' e
   exact⟨id,o,by grind,q⟩
def W4 : St→Option AV
 | .done (.wI [(v,false)]) _=>some v
 | _=>none
theorem aeu (E:cU T P)(n:Nat)(kp:List Nat)(h:W4 (ab T P n s)=some v)(a:zf k add.length kp=true)(hf:lJ (BL (ab T P n s)) kp v v')(hu:kq (BL (ab T P n s)) kp 0 jr)(ha:oZ (BL (ab T P n s)) kp (kp.drop k) add):SX P (Zj false k v' jr add) s:=by
 refine⟨cL E.ok E.mix n ?_⟩
 generalize ab T P n s=s at h hf hu ha
 unfold W4 at h
 split at h<;>simp only[bj,reduceCtorEq] at h
 subst h
 simp only[zf,aS,decide_eq_true_eq,dg,List.mem_range,beq_iff_eq] at a
 obtain⟨⟨k1,k2⟩,k3⟩:=a
 refine⟨_,kp,rfl,k1,oR k2,k3,hf,fun i o' e=>?_,fun i o' e=>?_⟩
 · have:=vJ hu i o' e
   rwa [xf] at this
 · obtain⟨id,o,p,q⟩:=vK ha i o' e
   exact⟨id,o,by grind,q⟩
theorem aev (E:cU T P){f:Nat}{c:List AV}{d:List aL}{j:List (Option aL)}{m:List aL}(pad:List (Option aL))(h:SX P (Zj b k v jr add) (St.start T f args (oX olds.length (mR 0 olds))))(u:jr.length=k)(w:Nat.ble k olds.length=true)(q:pad.all Option.isNone=true)(t:k+pad.length=olds.length)(S:ag)(ids:List Nat)(n:Nat.ble S.lim S.nx=true)(y:ids.Nodup)(z:w8 S ids d)(p:olds.map (aL.aY (tg ids S.nx))=d)(ha:eB (tg ids S.nx) args=c)(A:v.aY (tg (ids.take k) S.nx)=v')(hu:jr.map (Option.map (aL.aY (tg (ids.take k) S.nx)))++pad=j)(B:add.map (aL.aY (tg (ids.take k) S.nx))=m) :
   fU P f c S fun r C=>r=Ra b v' ∧ C=BR (rf S (ids.zip j)) m:=by
 subst p;subst ha;subst A;subst hu;subst B
 obtain⟨a,b⟩:=F8 z
 refine fU.gen (Ce E.ok h.out) (gw w) (fun o p=>?_) t (QD olds) rfl rfl u (gw n) (by simpa using a) y fun i x o e D=>?_
 · have:=dg.1 q o p
   simp_all
 all_goals grind
end
end
end Go.Eng

/- The machine of abstract runs and its soundness; no conditions. -/
import Derived.Test.YthplmmeobggkfaaGreatVEngC
import Derived.RowKit3
set_option linter.all false
namespace Go.Eng
end Go.Eng
namespace Go.Eng
noncomputable section
inductive av8 where
 | val (d : Option Nat) (v : AV)
 | put (d : Option Nat) (v : AV) (S : ag)
 | pass
def dI : St→Option Oper
 | .run _ F _ _=>match F.mode,F.todo with
   | .run,.ops all (i::_)::_=>match N6 all i with
     | some o=>match tx F all o with
       | some true=>some o
       | _=>none
     | none=>none
   | _,_=>none
 | .fU D _=>match D.os with
   | o::_=>match tx D.F D.ops o with
     | some true=>some o
     | _=>none
   | []=>none
 | _=>none
def auf : Option Nat→Option Nat→Bool
 | some a,some b=>Nat.beq a b
 | none,none=>true
 | _,_=>false
def Tr (s:St)(d:Option Nat):Bool:=
 match dI s with
 | some o=>auf o.dst d
 | none=>false
def ak (v:AV)(b:Option ag):St→St
 | .run fn F S k=>match F.todo with
   | .ops all (i::rest)::td=>match N6 all i with
     | some o=>match b with
       | some b=>.run fn (nA F o v all rest td) b k
       | none=>.run fn (nA F o v all rest td) S k
     | none=>.bad 60
   | _=>.bad 60
 | .fU D k=>match D.os,b with
   | o::os,none=>.fU (D.next o os (ay D.dt o.after.toList) v D.S.nx [] none) k
   | _,_=>.bad 60
 | _=>.bad 60
def pop (P:Program)(ρ:Operand→Option AV):Op→Option AV
 | .binOp op t x y _=>match ρ x,ρ y with
   | some a,some b=>uP P op t a b
   | _,_=>none
 | .unOp op _ x=>match ρ x with
   | some a=>Tj op a
   | none=>none
 | .indexAddr t x e=>match ρ x,ρ e with
   | some a,some b=>dQ P ag.empty t a.q6 b
   | _,_=>none
 | .index t x e=>match ρ x,ρ e with
   | some a,some b=>og P t a b
   | _,_=>none
 | .convert f g x=>match ρ x with
   | some a=>Fx P f g a
   | none=>none
 | .call c=>match c.callee,rA ρ c.args.toList,c.argTypes.toList with
   | .builtin .len,some [x],t::_=>match C3 P ag.empty t x.q6 with
     | some n=>some (.sc (.int .i64 n))
     | none=>none
   | _,_,_=>none
 | _=>none
variable {P : Program} {t : TypeId} {a : AV}
theorem D1 {b r:AV}(h:dQ P ag.empty t a b=some r)(S:ag):dQ P S t a b=some r:=by
 unfold dQ at h ⊢
 split at h<;>try (simp at h;done)
 split at h<;>try (simp at h;done)
 · split at h<;>try (simp at h;done)
   split at h<;>try (simp at h;done)
   · split at h<;>try (simp at h;done)
     rw[ag.fN] at h;simp at h
   · exact h
 · exact h
theorem Sb {n:Nat}(h:C3 P ag.empty t a=some n)(S:ag):C3 P S t a=some n:=by
 unfold C3 at h ⊢
 split at h
 all_goals simp_all[ag.fN]
variable {v : AV}
theorem QB {ρ:Operand→Option AV}{o:Op}(h:pop P ρ o=some v)(S:ag):gJ P ρ S o=some (.val v S)∧ct o=false∧gO o=none:=by
 unfold pop at h
 split at h<;>try (simp at h;done)
 · split at h<;>try (simp at h;done)
   rename_i a b ha hb
   refine⟨?_,rfl,rfl⟩
   simp only[gJ,ha,hb]
   split
   · rename_i c e
     simp only[ba] at c e
     subst c;subst e
     simp[uP] at h
   · rename_i c e
     simp only[ba] at c e
     subst c;subst e
     rw[h];rfl
   · rename_i f
     exact(f a b rfl rfl).elim
 · split at h<;>try (simp at h;done)
   rename_i ha
   exact⟨by simp only[gJ,ha,h,mP],rfl,rfl⟩
 · split at h<;>try (simp at h;done)
   rename_i ha hb
   exact⟨by simp only[gJ,ha,hb,D1 h S,mP],rfl,rfl⟩
 · split at h<;>try (simp at h;done)
   rename_i ha hb
   exact⟨by simp only[gJ,ha,hb,h,mP],rfl,rfl⟩
 · split at h<;>try (simp at h;done)
   rename_i ha
   exact⟨by simp only[gJ,ha,h,mP],rfl,rfl⟩
 · split at h<;>try (simp at h;done)
   rename_i g hx i
   split at h<;>simp only[ba,reduceCtorEq] at h
   rename_i n f
   subst h
   refine⟨by simp only[gJ,xo,hx,g,lu,i,Sb f S],?_,?_⟩
   · simp only[ct,g]
   · simp only[gO,g]
def Hc (T:FT)(P:Program)(v:AV)(e:Option ag):St→Prop
 | .run _ F S _=>match dI (.run default F S .nil) with
   | some o=>match gO o.op,e with
     | some c,none=>match so T F c P with
       | some (g,_,args)=>∀ S,fY P g args S fun r b=>r=.ret v∧b=S
       | none=>False
     | some c,some e=>match so T F c P with
       | some (g,_,args)=>fY P g args S fun r b=>r=.ret v∧b=e
       | none=>False
     | none,none=>pop P F.eval o.op=some v
     | none,some e=>match ct o.op,o.dst with
       | false,some _=>DT P F.eval S o.op=some (.val v e)
       | false,none=>v=.bO []∧DT P F.eval S o.op=some (.skip e)
       | true,_=>False
   | none=>False
 | .fU D _=>match D.os,e with
   | o::_,none=>match gO o.op with
     | some c=>match so T D.F c P with
       | some (g,_,args)=>∀ S,fY P g args S fun r b=>r=.ret v∧b=S
       | none=>False
     | none=>pop P D.F.eval o.op=some v
   | _,_=>False
 | _=>False
section
variable {T : FT} {P : Program} {Qf : gL → ag → Prop}
variable {S : ag} {k : cH} {o : Oper}
theorem pI {fn:Func}{F:ae}(h:dI (.run fn F S k)=some o) :
  F.mode=.run∧∃ all i rest td,F.todo=.ops all (i::rest)::td∧all[i]? = some o∧tx F all o=some true:=by
 simp only[dI] at h
 split at h<;>try (simp at h;done)
 rename_i all i rest td c e
 split at h<;>try (simp at h;done)
 rename_i o' b
 split at h<;>simp only[ba,reduceCtorEq] at h
 rename_i f
 subst h
 rw[tI] at b
 exact⟨c,all,i,rest,td,e,b,f⟩
theorem zN {D:rX}(h:dI (.fU D k)=some o):∃ os,D.os=o::os∧tx D.F D.ops o=some true:=by
 simp only[dI] at h
 split at h<;>try (simp at h;done)
 rename_i o' os b
 split at h<;>simp only[ba,reduceCtorEq] at h
 simp_all
variable {s : St} {d : Option Nat}
theorem Sc (h:Tr s d=true):∃ o,dI s=some o:=by
 unfold Tr at h
 split at h
 all_goals simp_all
theorem AE (L:di T P){f:Option ag}(hh:Tr s d=true)(b:Hc T P v f s)(h:br P Qf (ak v f s)):br P Qf s:=by
 obtain⟨o,A⟩:=Sc hh
 cases s with
 | run fn F S k=>
   obtain⟨H,all,i,rest,td,B,m,y⟩:=pI A
   have K:dI (.run default F S .nil)=some o:=A
   have hs:br P Qf (.run fn (F.after o v all rest td) (f.getD S) k):=by
     simp only[ak,B,tI,m] at h
     cases f with
     | none=>simp only[gz] at h;exact h
     | some f=>simp only[gz] at h;exact h
   simp only[Hc,K] at b
   cases j:gO o.op with
   | some c=>
     have key:∀ g e args,so T F c P=some (g,e,args)→fY P g args S (fun r C=>r=.ret v∧C=f.getD S)→br P Qf (.run fn F S k):=by
       intro g e args w b
       obtain⟨N,q2⟩:=kO L j w
       refine br.reach (fun G q=>Reach.x9 H B m y (fB j) (q2 S) b fun r C O=>?_) hs
       obtain⟨rfl,rfl⟩:=O
       exact q
     cases f with
     | none=>
       rw[j] at b
       simp only at b
       split at b
       · rename_i g e args w;exact key g e args w (b S)
       · exact b.elim
     | some f=>
       rw[j] at b
       simp only at b
       split at b
       · rename_i g e args w;exact key g e args w b
       · exact b.elim
   | none=>
     cases f with
     | none=>
       rw[j] at b
       simp only at b
       obtain⟨I,a2,_⟩:=QB b S
       exact br.reach (fun G q=>Reach.Oj H B m y a2 I q) hs
     | some f=>
       rw[j] at b
       simp only at b
       split at b
       · rename_i z J
         simp only[nf] at b
         exact br.reach (fun G q=>Reach.Oj H B m y z b q) hs
       · rename_i z J
         simp only[nf] at b
         obtain⟨rfl,b⟩:=b
         exact br.reach (fun G q=>Reach.Qt H B m y z b q) hs
       · exact b.elim
 | fU D k=>
   obtain⟨os,u,y⟩:=zN A
   have x:=AA D.S.nx D.S.nx
   cases f with
   | some f=>simp only[ak,u] at h;exact h.elim
   | none=>
     simp only[ak,u] at h
     simp only[Hc,u] at b
     have M:n7 P D.ops o D.F.get ⟨D.S.nx,D.S.nx,.nil⟩ v ⟨D.S.nx,D.S.nx,.nil⟩→br P Qf (.fU D k):=by
       intro E
       refine fD.mono (fun Q q=>?_) h
       refine qJ.step q u rfl (fun Y S0 E0 W v0 ch J R U=>?_)
       have V:=U _ v _ E rfl fun id ob e=>by rw[x] at e;simp at e
       have:=J.news R u (ids:=[]) (nw:=[]) (Eo:=none) E V rfl (.inr rfl) (fun id ob e=>by rw[x] at e;simp at e) (fun id ob e=>by rw[x] at e;simp at e) (fun id e _=>by simp at e) (fun id e _ X=>by simp at e)
         (fun id ob e=>by simp at e) (.inr ⟨rfl,x⟩)
       exact this
     cases j:gO o.op with
     | some c=>
       rw[j] at b
       simp only at b
       cases w:so T D.F c P with
       | none=>rw[w] at b;exact b.elim
       | some p=>
         obtain⟨g,e,args⟩:=p
         rw[w] at b
         obtain⟨N,q2⟩:=kO L j w
         exact M (n7.call y (fB j) (q2 _) (b _))
     | none=>
       rw[j] at b
       simp only at b
       obtain⟨I,a2,_⟩:=QB b ⟨D.S.nx,D.S.nx,.nil⟩
       exact M (n7.val y a2 I)
 | done r S=>simp[dI] at A
 | fork fn k l=>simp[dI] at A
 | bad n=>simp[dI] at A
theorem Cm (c:di T P){f:Nat}{args:List AV}(h:br P Qf (St.start T f args S)):fY P f args S Qf:=by
 unfold St.start at h
 cases b:FT.look T f with
 | none=>rw[b] at h;exact h.elim
 | some e=>
   rw[b] at h
   obtain⟨t1,t2,_,_⟩:=c f e b
   exact fY.qu e.mask t1 t2 h
end
end
noncomputable section
section
variable (σ : Nat → Nat)
mutual
def AV.aX : AV→AV
 | .sc v=>.sc v
 | .agg cs=>.agg (eG cs)
 | .fw=>.fw
 | .an=>.an
 | .lit es=>.lit (eG es)
 | .dO cs=>.dO (eG cs)
 | .ptr id i j=>.ptr (σ id) i j
 | .ai id o l=>.ai (σ id) o l
 | .cR id=>.cR (σ id)
 | .fn f a b=>.fn f (eG a) (eG b)
 | .eB t v=>.eB t v.aX
 | .bO c=>.bO (eG c)
 | .sj id=>.sj (σ id)
 | .clip v=>.clip v.aX
 | .top=>.top
def eG : List AV→List AV
 | []=>[]
 | v::l=>v.aX::eG l
end
end
theorem yd (σ:Nat→Nat)(l:List AV):eG σ l=l.map (AV.aX σ):=by
 induction l<;>simp_all[eG]
theorem bm (σ:Nat→Nat)(l:List AV):(eG σ l).length=l.length:=by rw[yd];simp
theorem jb (σ:Nat→Nat)(l:List AV)(k:Nat):(eG σ l)[k]? = l[k]?.map (AV.aX σ):=by rw[yd];simp
structure j6 (σ : Nat → Nat) (g g2 : Gh) : Prop where
 ro : g.ro = g2.ro
 ph : ∀ id, g.ph id = g2.ph (σ id)
theorem AV.gA (σ:Nat→Nat)(v:AV):(v.aX σ).cells=eG σ v.cells:=by
 cases v<;>simp[AV.aX,AV.cells,eG]
theorem VR.aX {σ:Nat→Nat}{g g2:Gh}(h:j6 σ g g2){v:AV}{x:Value}(w:VR g v x):VR g2 (v.aX σ) x:=by
 have key:∀ {l:List AV} {k:Nat} {a:AV},(eG σ l)[k]? = some a→∃ b,l[k]? = some b∧a=b.aX σ:=by
   intro l k a e
   rw[jb] at e
   cases hb:l[k]? <;> simp_all
 induction w with
 | sc hh=>rw[AV.aX];exact .sc hh
 | agg d _ f=>
   rw[AV.aX]
   refine .agg (by rw[bm];exact d) fun k a x e m=>?_
   obtain⟨b,p,rfl⟩:=key e
   exact f k b x p m
 | fw=>rw[AV.aX];exact .fw
 | an=>rw[AV.aX];exact .an
 | @lit es b o sz cap c s hs hb n _ f=>
   rw[AV.aX]
   have e:=bm σ es
   have:VR g2 (.lit (eG σ es)) (.slice (some ⟨b,o,none⟩) (eG σ es).length cap):=by
    refine .lit (by rw[←h.ro];exact s) ?_ (by rw[e];exact hb) (by rw[e];exact n) fun i j C a x p q r=>?_
    · intro a ha
      obtain⟨k,y⟩:=gM ha
      obtain⟨b,p,rfl⟩:=key y
      rw[AV.gA,bm]
      exact hs b (uI p)
    · obtain⟨b,t,rfl⟩:=key p
      rw[AV.gA] at q
      obtain⟨z,A,rfl⟩:=key q
      exact f i j b z x t A r
   simp_all
 | jZ=>rw[AV.aX,eG];exact .jZ
 | dO s hb _ f=>
   rw[AV.aX]
   refine .dO (by rw[←h.ro];exact s) (by rw[bm];exact hb) fun j a x p q=>?_
   obtain⟨b,t,rfl⟩:=key p
   exact f j b x t q
 | ptr d=>rw[AV.aX];exact .ptr (by rw[←h.ph];exact d)
 | ai d B hb=>rw[AV.aX];exact .ai (by rw[←h.ph];exact d) B hb
 | hZ d hb=>rw[AV.aX];exact .hZ (by rw[←h.ph];exact d) hb
 | cR d=>rw[AV.aX];exact .cR (by rw[←h.ph];exact d)
 | fn hx hy _ _ f u=>
   rw[AV.aX]
   refine .fn (by rw[bm];exact hx) (by rw[bm];exact hy) (fun k a x e m=>?_) (fun k a x e m=>?_)
   · obtain⟨b,p,rfl⟩:=key e;exact f k b x p m
   · obtain⟨b,p,rfl⟩:=key e;exact u k b x p m
 | eB _ f=>rw[AV.aX];exact .eB f
 | bO d _ f=>
   rw[AV.aX]
   refine .bO (by rw[bm];exact d) fun k a x e m=>?_
   obtain⟨b,p,rfl⟩:=key e
   exact f k b x p m
 | sj d=>rw[AV.aX];exact .sj (by rw[←h.ph];exact d)
 | clip _ f=>rw[AV.aX];exact .clip f
 | top=>rw[AV.aX];exact .top
theorem VR.iN {σ:Nat→Nat}{g g2:Gh}(h:j6 σ g g2){u:AV}{x:Value}(w:VR g2 u x):∀ {v:AV},u=v.aX σ→VR g v x:=by
 have d:∀ {l:List AV} {k:Nat} {a:AV},l[k]? = some a→(eG σ l)[k]? = some (a.aX σ):=by
   simp_all[jb]
 induction w with
 | sc hh=>intro v e;cases v<;>simp[AV.aX] at e;subst e;exact .sc hh
 | agg f _ m=>
   intro v e;cases v<;>simp[AV.aX] at e;subst e
   exact .agg (by rw[←f,bm]) fun k a x p q=>m k _ x (d p) q rfl
 | fw=>intro v e;cases v<;>simp[AV.aX] at e;exact .fw
 | an=>intro v e;cases v<;>simp[AV.aX] at e;exact .an
 | @lit es b o sz cap c s hs hb n _ m=>
   intro v e;cases v<;>simp[AV.aX] at e;subst e
   rename_i es hh
   have e:=bm σ es
   rw[e] at hb n ⊢
   refine .lit (by rw[h.ro];exact s) (fun a ha=>?_) hb n fun i j A a x p q r=>?_
   · obtain⟨k,y⟩:=gM ha
     have:=hs _ (uI (d y))
     rwa [AV.gA,bm] at this
   · exact m i j _ _ x (d p) (by rw[AV.gA];exact d q) r rfl
 | jZ=>intro v e;cases v<;>simp[AV.aX] at e;rename_i es;cases es<;>simp[eG] at e;exact .jZ
 | dO s hb _ m=>
   intro v e;cases v<;>simp[AV.aX] at e;subst e
   exact .dO (by rw[h.ro];exact s) (by rw[bm] at hb;exact hb) fun j a x p q=>m j _ x (d p) q rfl
 | ptr f=>intro v e;cases v<;>simp[AV.aX] at e;obtain⟨rfl,rfl,rfl⟩:=e;exact .ptr (by rw[h.ph];exact f)
 | ai f z hb=>intro v e;cases v<;>simp[AV.aX] at e;obtain⟨rfl,rfl,rfl⟩:=e;exact .ai (by rw[h.ph];exact f) z hb
 | hZ f hb=>intro v e;cases v<;>simp[AV.aX] at e;obtain⟨rfl,rfl,rfl⟩:=e;exact .hZ (by rw[h.ph];exact f) hb
 | cR f=>intro v e;cases v<;>simp[AV.aX] at e;subst e;exact .cR (by rw[h.ph];exact f)
 | fn hx hy _ _ m t=>
   intro v e;cases v<;>simp[AV.aX] at e;obtain⟨rfl,rfl,rfl⟩:=e
   exact .fn (by rw[bm] at hx;exact hx) (by rw[bm] at hy;exact hy) (fun k a x p q=>m k _ x (d p) q rfl) (fun k a x p q=>t k _ x (d p) q rfl)
 | eB _ m=>intro v e;cases v<;>simp[AV.aX] at e;obtain⟨rfl,rfl⟩:=e;exact .eB (m rfl)
 | bO f _ m=>
   intro v e;cases v<;>simp[AV.aX] at e;subst e
   exact .bO (by rw[←f,bm]) fun k a x p q=>m k _ x (d p) q rfl
 | sj f=>intro v e;cases v<;>simp[AV.aX] at e;subst e;exact .sj (by rw[h.ph];exact f)
 | clip _ m=>intro v e;cases v<;>simp[AV.aX] at e;subst e;exact .clip (m rfl)
 | top=>intro v e;cases v<;>simp[AV.aX] at e;exact .top
def jC (σ:Nat→Nat)(l:List (Nat×AV)):List (Nat×AV):=l.map fun p=>(p.1,p.2.aX σ)
theorem EM (σ:Nat→Nat)(l:List (Nat×AV))(t:Nat):lk (jC σ l) t=(lk l t).map (AV.aX σ):=by
 induction l with
 | nil=>simp[jC,q7]
 | cons a l c=>
   obtain⟨k,v⟩:=a
   simp only[jC,dH,iz] at *
   cases Nat.beq k t<;>simp_all
def aO.aX (σ:Nat→Nat):aO→aO
 | .arr sz es=>.arr sz (eG σ es)
 | .mp c=>.mp (c.map fun p=>(p.1.aX σ,p.2.aX σ))
 | .lp st pending fn n mask env params assign body=>.lp st pending fn n mask (jC σ env) params assign body
 | .df o=>.df o
 | .si s p=>.si s p
 | .mi m since seen=>.mi (σ m) since seen
 | .mz=>.mz
theorem LR.aX {σ:Nat→Nat}{g g2:Gh}(h:j6 σ g g2){l:List (Nat×AV)}{tmps:Array Value}(d:LR g l tmps):LR g2 (jC σ l) tmps:=by
 intro t v e
 rw[EM] at e
 cases c:lk l t with
 | none=>rw[c] at e;simp at e
 | some u=>rw[c] at e;simp at e;subst e;obtain⟨x,a,b⟩:=d t u c;exact⟨x,a,b.aX h⟩
theorem LR.iN {σ:Nat→Nat}{g g2:Gh}(h:j6 σ g g2){l:List (Nat×AV)}{tmps:Array Value}(c:LR g2 (jC σ l) tmps):LR g l tmps:=by
 intro t v e
 obtain⟨x,a,b⟩:=c t (v.aX σ) (by rw[EM,e];rfl)
 exact⟨x,a,b.iN h rfl⟩
theorem wX.aX {σ:Nat→Nat}{g g2:Gh}(h:j6 σ g g2){l:Loc}{x:Option Obj}{o:aO}(f:wX g l x o):wX g2 l x (o.aX σ):=by
 cases o with
 | arr sz es=>
   obtain⟨c,t,h1,h2,h3,h4,v,w⟩:=f
   refine⟨c,t,h1,h2,h3,by rw[bm];exact h4,?_,?_⟩
   · intro e B
     obtain⟨k,u⟩:=gM B
     rw[jb] at u
     cases hb:es[k]? with
     | none=>simp_all
     | some b=>rw[hb] at u;simp at u;subst u;rw[AV.gA,bm];exact v b (uI hb)
   · intro i j e a y p q r
     rw[jb] at p
     cases hb:es[i]? with
     | none=>rw[hb] at p;simp at p
     | some b=>
       rw[hb] at p;simp at p;subst p
       rw[AV.gA,jb] at q
       cases z:b.cells[j]? with
       | none=>rw[z] at q;simp at q
       | some d=>rw[z] at q;simp at q;subst q;exact(w i j b d y hb z r).aX h
 | mp A=>
   obtain⟨es,k,h1,h2,h3,h4⟩:=f
   refine⟨es,k,h1,by simpa using h2,fun i F e p q=>?_,h4⟩
   rw[pw] at p
   cases hb:A[i]? with
   | none=>rw[hb] at p;simp at p
   | some b=>rw[hb] at p;simp at p;subst p;exact⟨(h3 i b e hb q).1.aX h,(h3 i b e hb q).2.aX h⟩
 | lp st pending fn n mk env params assign body=>
   obtain⟨lo,h1,h2,h3,h4,v,w,C,D,E⟩:=f
   exact⟨lo,h1,h2,h3,h4,v,w.aX h,C,D,E⟩
 | df o=>exact f
 | si s p=>exact f
 | mi m since seen=>obtain⟨lm,a,b,c⟩:=f;exact⟨lm,by rw[←h.ph];exact a,b,c⟩
 | mz=>exact f
theorem wX.iN {σ:Nat→Nat}{g g2:Gh}(h:j6 σ g g2){l:Loc}{x:Option Obj}{o:aO}(d:wX g2 l x (o.aX σ)):wX g l x o:=by
 cases o with
 | arr sz es=>
   obtain⟨c,t,h1,h2,h3,h4,f,u⟩:=d
   refine⟨c,t,h1,h2,h3,by rw[bm] at h4;exact h4,?_,?_⟩
   · intro e w
     obtain⟨k,z⟩:=gM w
     have:=f (e.aX σ) (uI (by rw[jb,z];rfl))
     rwa [AV.gA,bm] at this
   · intro i j e a y p q r
     exact(u i j (e.aX σ) (a.aX σ) y (by rw[jb,p];rfl) (by rw[AV.gA,jb,q];rfl) r).iN h rfl
 | mp D=>
   obtain⟨es,k,h1,h2,h3,h4⟩:=d
   refine⟨es,k,h1,by simpa using h2,fun i v e p q=>?_,h4⟩
   have:=h3 i (v.1.aX σ,v.2.aX σ) e (by simp_all) q
   exact⟨this.1.iN h rfl,this.2.iN h rfl⟩
 | lp st pending fn n mk env params assign body=>
   obtain⟨lo,h1,h2,h3,h4,f,u,A,B,C⟩:=d
   exact⟨lo,h1,h2,h3,h4,f,u.iN h,A,B,C⟩
 | df o=>exact d
 | si s p=>exact d
 | mi m since seen=>obtain⟨lm,a,b,c⟩:=d;exact⟨lm,by rw[h.ph];exact a,b,c⟩
 | mz=>exact d
def bg.aX (σ:Nat→Nat):bg→bg
 | .zp id=>.zp (σ id)
 | .n9 id=>.n9 (σ id)
 | x=>x
def Ff (σ:Nat→Nat)(l:List (AV×Bool)):List (AV×Bool):=l.map fun p=>(p.1.aX σ,p.2)
def dr.aX (σ:Nat→Nat):dr→dr
 | .panicking l=>.panicking (Ff σ l)
 | m=>m
def hU.aX (σ:Nat→Nat):hU→hU
 | .call fn cap args=>.call fn (eG σ cap) (eG σ args)
 | .nq id=>.nq (σ id)
 | .uJ bs=>.uJ bs
def ae.aX (σ:Nat→Nat)(F:ae):ae:=
 match F with
 | ⟨fn,n,mask,loc,qX,todo,defers,mode,kind,cm,round⟩=>⟨fn,n,mask,jC σ loc,jC σ qX,todo.map (bg.aX σ),defers.map (hU.aX σ),mode.aX σ,kind,cm.aX σ,round.map σ⟩
theorem ae.EN (σ:Nat→Nat)(F:ae)(t:Nat):(F.aX σ).get t=(F.get t).map (AV.aX σ):=by
 obtain⟨fn,n,mask,loc,qX,todo,defers,mode,kind,cm,round⟩:=F
 simp only[ae.aX,ae.get]
 cases tb mask t<;>simp only[EM]
section
variable {σ : Nat → Nat} {g g2 : Gh}
theorem hM.aX (h:j6 σ g g2){l:List AV}{xs:Array Value}(c:hM g l xs):hM g2 (eG σ l) xs:=by
 refine⟨by rw[bm];exact c.1,fun k a x e d=>?_⟩
 rw[jb] at e
 cases hb:l[k]? with
 | none=>rw[hb] at e;simp at e
 | some b=>rw[hb] at e;simp at e;subst e;exact(c.2 k b x hb d).aX h
theorem hM.iN (h:j6 σ g g2){l:List AV}{xs:Array Value}(c:hM g2 (eG σ l) xs):hM g l xs:=
 ⟨by rw[←c.1,bm],fun k a x e d=>(c.2 k (a.aX σ) x (by rw[jb,e];rfl) d).iN h rfl⟩
theorem nK.aX (h:j6 σ g g2){l:List bg}{m:List Item}(c:nK g l m):nK g2 (l.map (bg.aX σ)) m:=by
 induction c with
 | nil=>exact .nil
 | cons hh _ d=>
   refine .cons ?_ d
   cases hh with
   | zp c=>exact .zp (by rw[←h.ph];exact c)
   | n9 c=>exact .n9 (by rw[←h.ph];exact c)
   | code=>exact .code
   | inBlock=>exact .inBlock
   | inLoop=>exact .inLoop
   | inScope=>exact .inScope
   | ops h=>exact .ops h
   | N0=>exact .N0
theorem nK.iN (h:j6 σ g g2):∀ {l:List bg} {m:List Item},nK g2 (l.map (bg.aX σ)) m→nK g l m:=by
 intro l
 induction l with
 | nil=>intro m d;cases d;exact .nil
 | cons a l e=>
   intro m d
   simp only[dH] at d
   cases d with
   | cons hh f=>
     refine .cons ?_ (e f)
     cases a with
     | zp id=>cases hh with | zp d=>exact .zp (by rw[h.ph];exact d)
     | n9 id=>cases hh with | n9 d=>exact .n9 (by rw[h.ph];exact d)
     | code c=>cases hh;exact .code
     | inBlock c=>cases hh;exact .inBlock
     | inLoop c=>cases hh;exact .inLoop
     | inScope c=>cases hh;exact .inScope
     | ops a b=>cases hh with | ops i=>exact .ops i
     | N0=>cases hh;exact .N0
theorem ia.aX (h:j6 σ g g2){l:List (AV×Bool)}{m:List PanicEntry}(c:ia g l m):ia g2 (Ff σ l) m:=by
 induction c with
 | nil=>exact .nil
 | cons d _ e=>exact .cons (d.aX h) e
theorem ia.iN (h:j6 σ g g2):∀ {l:List (AV×Bool)} {m:List PanicEntry},ia g2 (Ff σ l) m→ia g l m:=by
 intro l
 induction l with
 | nil=>intro m c;cases c;exact .nil
 | cons a l d=>
   intro m c
   obtain⟨v,b⟩:=a
   simp only[Ff,dH] at c
   cases c with
   | cons e f=>exact .cons (e.iN h rfl) (d f)
theorem mT.aX (h:j6 σ g g2){a:dr}{b:FrameMode}(c:mT g a b):mT g2 (a.aX σ) b:=by
 cases c with
 | run=>exact .run
 | returning=>exact .returning
 | panicking d=>exact .panicking (d.aX h)
theorem mT.iN (h:j6 σ g g2){a:dr}{b:FrameMode}(c:mT g2 (a.aX σ) b):mT g a b:=by
 cases a with
 | run=>cases c;exact .run
 | returning=>cases c;exact .returning
 | panicking l=>cases c with | panicking d=>exact .panicking (d.iN h)
theorem kZ.aX {P:Program}(h:j6 σ g g2){l:List hU}{m:List Deferred}(d:kZ P g l m):kZ P g2 (l.map (hU.aX σ)) m:=by
 induction d with
 | nil=>exact .nil
 | cons e ha hb _ c=>exact .cons (e.aX h) (ha.aX h) hb c
 | nq d _ c=>exact .nq (by rw[←h.ph];exact d) c
 | uJ _ c=>exact .uJ c
theorem kZ.iN {P:Program}(h:j6 σ g g2):∀ {l:List hU} {m:List Deferred},kZ P g2 (l.map (hU.aX σ)) m→kZ P g l m:=by
 intro l
 induction l with
 | nil=>intro m c;cases c;exact .nil
 | cons a l e=>
   intro m c
   simp only[dH] at c
   cases a with
   | call fn cap args=>cases c with | cons f ha hb d=>exact .cons (f.iN h) (ha.iN h) hb (e d)
   | nq id=>cases c with | nq c d=>exact .nq (by rw[h.ph];exact c) (e d)
   | uJ bs=>cases c with | uJ d=>exact .uJ (e d)
variable {a b : Option Nat}
theorem ra.aX (h:j6 σ g g2)(c:ra g a b):ra g2 (a.map σ) b:=by
 cases a<;>cases b<;>first | exact c | exact c.elim | (obtain⟨l,e,d⟩:=c;exact⟨l,by rw[←h.ph];exact e,d⟩)
theorem ra.iN (h:j6 σ g g2)(c:ra g2 (a.map σ) b):ra g a b:=by
 cases a<;>cases b<;>first | exact c | exact c.elim | (obtain⟨l,e,d⟩:=c;exact⟨l,by rw[h.ph];exact e,d⟩)
theorem m8.aX {P:Program}(h:j6 σ g g2){F:ae}{fr:Frame}(hf:m8 P g F fr):m8 P g2 (F.aX σ) fr:=by
 refine⟨by cases F;exact hf.fn,by cases F;exact hf.size,fun t v e=>?_,by cases F;exact hf.todo.aX h,by cases F;exact hf.defers.aX h,by cases F;exact hf.mode.aX h,by cases F;exact hf.kind,by cases F;exact ra.aX h hf.round⟩
 rw[ae.EN] at e
 cases c:F.get t with
 | none=>rw[c] at e;simp at e
 | some u=>rw[c] at e;simp at e;subst e;obtain⟨x,a,b⟩:=hf.get t u c;exact⟨x,a,b.aX h⟩
theorem m8.iN {P:Program}(h:j6 σ g g2){F:ae}{fr:Frame}(hf:m8 P g2 (F.aX σ) fr):m8 P g F fr:=by
 refine⟨by cases F;exact hf.fn,by cases F;exact hf.size,fun t v e=>?_,by cases F;exact hf.todo.iN h,by cases F;exact hf.defers.iN h,by cases F;exact hf.mode.iN h,by cases F;exact hf.kind,by cases F;exact ra.iN h hf.round⟩
 obtain⟨x,a,b⟩:=hf.get t (v.aX σ) (by rw[ae.EN,e];rfl)
 exact⟨x,a,b.iN h rfl⟩
theorem wZ.aX (h:j6 σ g g2){F:ae}{e cs:List Frame}(f:wZ g F e cs):wZ g2 (F.aX σ) e cs:=by
 cases F
 unfold wZ ae.aX at *
 simp only at *
 split at f
 · obtain⟨c,rest,m,a,b,d⟩:=f;exact⟨c,rest,m,a,b,d.aX h⟩
 · exact f
theorem wZ.iN (h:j6 σ g g2){F:ae}{e cs:List Frame}(f:wZ g2 (F.aX σ) e cs):wZ g F e cs:=by
 cases F
 unfold wZ ae.aX at *
 simp only at *
 split at f
 · obtain⟨c,rest,m,a,b,d⟩:=f;exact⟨c,rest,m,a,b,d.iN h⟩
 · exact f
end
theorem PT.Pj (f:Nat→Option aO):∀ n:Nat,∃ t:PT,∀ i,PT.get dep t i=if i<n then f i else none:=by
 intro n
 induction n with
 | zero=>exact⟨.nil,fun i=>by simp[PT.get_nil]⟩
 | succ n c=>
   obtain⟨t,d⟩:=c
   refine⟨PT.set dep t n (f n),fun i=>?_⟩
   by_cases hi:i=n
   · simp_all[PT.cQ]
   · rw[PT.tN _ _ _ _ _ (Ne.symm hi),d]
     by_cases h:i<n
     · rw[if_pos h,if_pos (by omega)]
     · rw[if_neg h,if_neg (by omega)]
structure EA (σ : Nat → Nat) (S S2 : ag) : Prop where
 get : ∀ id o, S.get id = some o → S2.get (σ id) = some (o.aX σ)
 lim : ∀ id, S.lim ≤ id → S2.lim ≤ σ id
 hi : ∀ k, σ (S.nx + k) = S2.nx + k
 lo : ∀ id, id < S.nx → σ id < S2.nx
theorem Reach.aX {P:Program}{σ:Nat→Nat}(V:∀ a b,σ a=σ b→a=b){F:ae}{S O:ag}{G G2:ae→ag→Prop}(hs:EA σ S O)(h:Reach P F S G)
  (hG:∀ F' K C,G F' K→EA σ K C→G2 (F'.aX σ) C):Reach P (F.aX σ) O G2:=by
 intro g2 w fr cs0 cs hf hcs hi
 obtain⟨g,hg⟩:∃ g:Gh,g={ ro:=g2.ro,ph:=fun id=>g2.ph (σ id) }:=⟨_,rfl⟩
 have d:j6 σ g g2:=by rw[hg];exact⟨rfl,fun _=>rfl⟩
 have R:Inv S g w:=by
  refine⟨fun b c e=>hi.ro b c (by rw[←d.ro];exact e),fun id o e=>?_,fun id v o o' l l' e M p p' q=>?_,fun id bE=>?_⟩
  · obtain⟨l,a,b,c⟩:=hi.ob (σ id) _ (hs.get id o e)
    exact⟨l,by rw[d.ph];exact a,by rw[d.ro];exact b,c.iN d⟩
  · exact V _ _ (hi.inj (σ id) (σ v) _ _ l l' (hs.get _ _ e) (hs.get _ _ M) (by rw[←d.ph];exact p) (by rw[←d.ph];exact p') q)
  · rw[d.ph]
    refine hi.fresh _ ?_
    have:=hs.hi (id-S.nx)
    rw[show S.nx+(id-S.nx)=id from by omega] at this
    omega
 obtain⟨F', K,g', w', fr', cs', q,p1,p2,p3,p4,p5,p6,B,p8⟩:=h g w fr cs0 cs (hf.iN d) (hcs.iN d) R
 have hnx:=B.nx
 obtain ⟨r,N,A⟩:∃ r:Nat→Option Nat,(∀ id,(S.nx≤id∨∃ o,S.get id=some o)→r (σ id)=some id)∧∀ a id,r a=some id→a=σ id∧(S.nx≤id∨∃ o,S.get id=some o):=by
  classical
  refine⟨fun a=>if h:∃ id,σ id=a∧(S.nx≤id∨∃ o,S.get id=some o) then some (Classical.choose h) else none,fun id hr=>?_,fun a id e=>?_⟩
  · have T:∃ v,σ v=σ id∧(S.nx≤v∨∃ o,S.get v=some o):=⟨id,rfl,hr⟩
    simp only[dif_pos T]
    exact congrArg some (V _ _ (Classical.choose_spec T).1)
  · by_cases T:∃ v,σ v=a∧(S.nx≤v∨∃ o,S.get v=some o)
    · simp only[dif_pos T] at e
      have:=Classical.choose_spec T
      simp only[ba] at e
      rw[e] at this;exact⟨this.1.symm,this.2⟩
    · simp only[dif_neg T] at e;simp at e
 have hrel:∀ id o,K.get id=some o→(S.nx≤id∨∃ o,S.get id=some o):=by
  intro id o e
  rcases jT id S.nx with u | H
  · cases hx:S.get id with
    | none=>rw[B.dead id u hx] at e;simp at e
    | some o0=>exact .inr ⟨o0,rfl⟩
  · exact .inl H
 obtain⟨n2,hn2⟩:∃ n,n=O.nx+(K.nx-S.nx):=⟨_,rfl⟩
 obtain⟨t,ht⟩:=PT.Pj (fun a=>match r a with | some id=>(K.get id).map (aO.aX σ) | none=>O.get a) n2
 obtain⟨C,D⟩:∃ s:ag,s=⟨n2,O.lim,t⟩:=⟨_,rfl⟩
 have W:∀ a,C.get a=if a<n2 then(match r a with | some id=>(K.get id).map (aO.aX σ) | none=>O.get a) else none:=by
  intro a;rw[D];exact ht a
 have hσ:∀ id,id<K.nx→σ id<n2:=by
  intro id bE
  by_cases hl:id<S.nx
  · have:=hs.lo id hl;omega
  · have:=hs.hi (id-S.nx)
    rw[show S.nx+(id-S.nx)=id from by omega] at this
    omega
 have get1:∀ id o,K.get id=some o→C.get (σ id)=some (o.aX σ):=by
  intro id o e
  rw[W,if_pos (hσ id (p6.lU e)),N id (hrel id o e)]
  simp[e]
 have L:∀ a o,C.get a=some o→(∃ id o', a=σ id∧K.get id=some o' ∧ o=o'.aX σ)∨(r a=none∧O.get a=some o):=by
  intro a o e
  rw[W] at e
  split at e<;>try (simp at e;done)
  cases E:r a with
  | none=>rw[E] at e;exact .inr ⟨rfl,e⟩
  | some id=>
    rw[E] at e
    simp only at e
    cases hb:K.get id with
    | none=>rw[hb] at e;simp at e
    | some o' => rw[hb] at e;simp at e;exact .inl ⟨id,o', (A a id E).1,hb,e.symm⟩
 have hsim:EA σ K C:=by
  refine⟨get1,by rw[B.lim,D];exact hs.lim,fun k=>?_,fun id bE=>by rw[D];exact hσ id bE⟩
  have:=hs.hi (K.nx-S.nx+k)
  rw[show S.nx+(K.nx-S.nx+k)=K.nx+k from by omega] at this
  rw[this,D];show _=n2+k;omega
 obtain⟨I,i⟩:∃ g:Gh,g={ ro:=g'.ro,ph:=fun a=>match r a with | some id=>g'.ph id | none=>g2.ph a }:=⟨_,rfl⟩
 have U:g'.ro=I.ro:=by rw[i]
 have m:j6 σ g' I:=by
  refine⟨U,fun id=>?_⟩
  rw[i]
  simp only
  cases E:r (σ id) with
  | some v=>rw[V _ _ (A _ _ E).1]
  | none=>
    simp only
    rw[←d.ph]
    rcases jT id S.nx with u | H
    · exact B.wY id u
    · rw[N id (.inl H)] at E;simp at E
 have hle:Gh.le g2 I:=by
  refine⟨fun k c e=>?_,fun a l e=>?_⟩
  · rw[←U];exact B.pc.ro k c (by rw[d.ro];exact e)
  · cases E:r a with
    | none=>rw[i];simp only[E];exact e
    | some id=>
      rw[i];simp only[E]
      have:=(A a id E).1
      subst this
      exact B.pc.ph id l (by rw[d.ph];exact e)
 have other:∀ a o l,O.get a=some o→r a=none→g2.ph a=some l→∀ id o', S.get id=some o' → ∀ l', g.ph id=some l' → l'.cU≠l.cU:=by
  intro a o l e ha hl id o' M l' hl' heq
  have:=hi.inj (σ id) a _ o l' l (hs.get _ _ M) e (by rw[←d.ph];exact hl') hl heq
  rw[←this,N id (.inr ⟨o', M⟩)] at ha;simp at ha
 have inv' : Inv C I w' := by
  refine⟨fun b c e=>p6.ro b c (by rw[U];exact e),fun a o e=>?_,fun a a' o o' l l' e M q Q hb=>?_,fun a ha=>?_⟩
  · rcases L a o e with⟨id,o', rfl,M,rfl⟩ | ⟨ha,M⟩
    · obtain⟨l,x,y,z⟩:=p6.ob id o' M
      exact⟨l,by rw[←m.ph];exact x,by rw[←U];exact y,z.aX m⟩
    · obtain⟨l,x,y,z⟩:=hi.ob a o M
      have u:=z.lt
      have hk:w'.heap[l.cU]? = w.heap[l.cU]? := B.jr l.cU u fun id o' l' Y _ Z=>other a o l M ha x id o' Y l' Z
      refine⟨l,hle.ph _ _ x,?_,by rw[hk];exact z.mono hle⟩
      cases hr:I.ro l.cU with
      | none=>rfl
      | some c=>
        rcases B.C2 l.cU c (by rw[U];exact hr) u with f | ⟨J,o0,l0,Y,f2,Z,f4⟩
        · rw[d.ro,y] at f;simp at f
        · exact absurd f4 (other a o l M ha x J o0 Y l0 Z)
  ·
    have mix:∀ id a o o' l l', K.get id=some o→O.get a=some o' → r a=none→I.ph (σ id)=some l→I.ph a=some l' → l.cU=l'.cU→False:=by
      intro id a o o' l l' e M ha q Q hb
      rw[←m.ph] at q
      have Q:g2.ph a=some l' := by rw[i] at Q;simp only[ha] at Q;exact Q
      obtain⟨l1,x,y,z⟩:=hi.ob a o' M
      rw[Q] at x;simp only[ba] at x;subst x
      have u:=z.lt
      rcases jT id S.lim with j | j
      · have e0:S.get id=some o:=by rw[←B.w6 id j];exact e
        exact other a o' l' M ha Q id o e0 l (by rw[←B.wY id (R.lU e0)];exact q) hb
      · obtain⟨J,o0,l0,Y,f2,Z,f4⟩:=B.own id o l e j q (by rw[hb];exact u)
        exact other a o' l' M ha Q J o0 Y l0 Z (f4.trans hb)
    rcases L a o e with⟨id,o1,rfl,e1,rfl⟩ | ⟨ha,e1⟩<;>rcases L a' o' M with⟨v,o2,rfl,X,rfl⟩ | ⟨ha', X⟩
    · rw[p6.inj id v o1 o2 l l' e1 X (by rw[m.ph];exact q) (by rw[m.ph];exact Q) hb]
    · exact(mix id a' _ _ l l' e1 X ha' q Q hb).elim
    · exact(mix v a _ _ l' l X e1 ha Q q hb.symm).elim
    · have q1:g2.ph a=some l:=by rw[i] at q;simp only[ha] at q;exact q
      have q2:g2.ph a' = some l' := by rw[i] at Q;simp only[ha'] at Q;exact Q
      exact hi.inj a a' o o' l l' e1 X q1 q2 hb
  · have ha:n2≤a:=by rw[D] at ha;exact ha
    cases E:r a with
    | none=>rw[i];simp only[E];exact hi.fresh a (by omega)
    | some id=>
      have:=(A a id E).1
      rw[i];simp only[E]
      refine p6.fresh id ?_
      rcases jT id K.nx with u | H
      · have:=hσ id u;omega
      · exact H
 have ext' : Ext O g2 w C I w' := by
  refine⟨B.size,B.os,B.tape,B.output,fun b hb hne=>B.jr b hb fun id o l e1 X e3=>?_,fun a o l e1 X e3 e4=>?_,hle,by rw[D];show O.nx≤n2;omega,by rw[D],fun a ha=>?_,fun a ha=>?_,fun b c e hb=>?_,fun a ha e=>?_,B.fz⟩
  · exact hne (σ id) _ l (hs.get id o e1) (hs.lim id X) (by rw[←d.ph];exact e3)
  · rcases L a o e1 with⟨id,o1,rfl,f,rfl⟩ | ⟨ha,f⟩
    · rcases jT id S.lim with j | j
      · have e0:S.get id=some o1:=by rw[←B.w6 id j];exact f
        exact⟨σ id,_,l,hs.get _ _ e0,X,by rw[←d.ph,←B.wY id (R.lU e0),m.ph];exact e3,rfl⟩
      · obtain⟨J,o0,l0,Y,f2,Z,f4⟩:=B.own id o1 l f j (by rw[m.ph];exact e3) e4
        exact⟨σ J,_,l0,hs.get _ _ Y,hs.lim J f2,by rw[←d.ph];exact Z,f4⟩
    · exact⟨a,o,l,f,X,by rw[i] at e3;simp only[ha] at e3;exact e3,rfl⟩
  · rw[W]
    cases E:r a with
    | none=>
      simp only
      split
      · rfl
      · rename_i H
        cases hx:O.get a with
        | none=>rfl
        | some o=>have:=hi.lU hx;omega
    | some id=>
      simp only
      obtain⟨h1,h2⟩:=A a id E
      have bE:id<S.lim:=by
        rcases jT id S.lim with j | j
        · exact j
        · have:=hs.lim id j;omega
      rw[B.w6 id bE]
      cases hx:S.get id with
      | some o=>rw[if_pos (by have:=hs.lo id (R.lU hx);omega),h1,hs.get id o hx];rfl
      | none=>
        have H:S.nx≤id:=by
         rcases h2 with h2 | ⟨o,h2⟩
         · exact h2
         · rw[hx] at h2;simp at h2
        have ha2:O.get a=none:=by
         cases hy:O.get a with
         | none=>rfl
         | some o=>
           have h3:=hi.lU hy
           have:=hs.hi (id-S.nx)
           rw[show S.nx+(id-S.nx)=id from by omega] at this
           omega
        rw[ha2];simp
  · cases E:r a with
    | none=>rw[i];simp only[E]
    | some id=>
      have:=(A a id E).1
      subst this
      rw[←m.ph,←d.ph]
      refine B.wY id ?_
      rcases jT id S.nx with u | H
      · exact u
      · have:=hs.hi (id-S.nx)
        rw[show S.nx+(id-S.nx)=id from by omega] at this
        omega
  · rcases B.C2 b c (by rw[U];exact e) hb with f | ⟨J,o0,l0,Y,f2,Z,f4⟩
    · exact .inl (by rw[←d.ro];exact f)
    · exact .inr ⟨σ J,_,l0,hs.get _ _ Y,hs.lim J f2,by rw[←d.ph];exact Z,f4⟩
  · cases hb:C.get a with
    | none=>rfl
    | some o=>
      rcases L a o hb with⟨id,o1,rfl,f,rfl⟩ | ⟨_,f⟩
      · exfalso
        have bE:id<S.nx:=by
         rcases jT id S.nx with u | H
         · exact u
         · have:=hs.hi (id-S.nx)
           rw[show S.nx+(id-S.nx)=id from by omega] at this
           omega
        have hnone:S.get id=none:=by
         cases hx:S.get id with
         | none=>rfl
         | some o=>rw[hs.get id o hx] at e;simp at e
        rw[B.dead id bE hnone] at f;simp at f
      · rw[e] at f;simp at f
 refine⟨F'.aX σ,C,I,w', fr', cs', hG _ _ _ q hsim,p1.aX m,p2.aX m,?_,?_,?_,inv', ext', p8⟩
 · cases F;cases F';exact p3
 · cases F;cases F';exact p4
 · cases F;cases F';exact congrArg (Option.map σ) p5
end
noncomputable section
def gL.aX (σ:Nat→Nat):gL→gL
 | .ret v=>.ret (v.aX σ)
 | .wh l=>.wh (Ff σ l)
structure ui (A B : ae) : Prop where
 fn : B.fn = A.fn
 n : B.n = A.n
 mask : B.mask = A.mask
 todo : B.todo = A.todo
 defers : B.defers = A.defers
 mode : B.mode = A.mode
 kind : B.kind = A.kind
 cm : B.cm = A.cm
 round : B.round = A.round
 get : ∀ t v', B.get t = some v' → ∃ v, A.get t = some v ∧ (v' = v ∨ v' = .top)
theorem ui.refl (A:ae):ui A A:=⟨rfl,rfl,rfl,rfl,rfl,rfl,rfl,rfl,rfl,fun _ v' e=>⟨v', e,.inl rfl⟩⟩
variable {P : Program} {S : ag}
theorem ui.reach {A B:ae}{G:ae→ag→Prop}(h:ui A B)(q:Reach P B S G):Reach P A S G:=by
 refine Reach.DS q h.kind h.fn h.round h.cm fun g w fr cs hf hi=>⟨fr,w,g,?_,hi,Ext.refl _ _ _,Steps.refl _ _⟩
 refine⟨by rw[h.fn];exact hf.fn,by rw[h.n];exact hf.size,fun t v' e=>?_,by rw[h.todo];exact hf.todo,by rw[h.defers];exact hf.defers,by rw[h.mode];exact hf.mode,by rw[h.kind];exact hf.kind,by rw[h.round];exact hf.round⟩
 obtain⟨v,a,b⟩:=h.get t v' e
 obtain⟨x,c,d⟩:=hf.get t v a
 refine⟨x,c,?_⟩
 rcases b with rfl | rfl
 · exact d
 · exact .top
theorem ae.L1 (F:ae)(t:Nat)(v:AV)(s:Nat):(F.set t v).get s=if s=t∧Nat.ble (t+1) F.n=true then some v else F.get s:=by
 obtain⟨fn,n,mask,loc,qX,todo,defers,mode,kind,cm,round⟩:=F
 simp only[ae.set]
 cases hb:Nat.ble (t+1) n with
 | false=>simp
 | true=>
   simp only[and_true]
   by_cases e:s=t
   · subst e
     rw[if_pos rfl]
     cases a:tb mask s<;>simp_all[tb,true,ae.get,vM,false,iz,vD]
   · rw[if_neg e]
     cases a:tb mask t with
     | true=>
       simp_all[ae.get,tO]
     | false=>
       simp only[ae.get]
       cases hs:tb mask s with
       | true=>rfl
       | false=>simp only[iz];rw[show Nat.beq t s=false from by rw[sw];exact fun q=>e (np q).symm]
theorem ae.IP (F:ae)(t:Nat)(v:AV):(F.set t v).fn=F.fn∧(F.set t v).n=F.n∧(F.set t v).mask=F.mask∧(F.set t v).todo=F.todo∧(F.set t v).defers=F.defers∧(F.set t v).mode=F.mode∧(F.set t v).kind=F.kind∧(F.set t v).cm=F.cm∧(F.set t v).round=F.round:=by
 unfold ae.set
 split
 · split<;>exact⟨rfl,rfl,rfl,rfl,rfl,rfl,rfl,rfl,rfl⟩
 all_goals simp_all
theorem ui.set {A B:ae}(h:ui A B)(t:Nat)(v:AV):ui (A.set t v) (B.set t v):=by
 obtain⟨a,a2,a3,a4,a5,a6,a7,b,a9⟩:=A.IP t v
 obtain⟨c,d,f,g,i,j,k,l,m⟩:=B.IP t v
 refine⟨by rw[a,c,h.fn],by rw[a2,d,h.n],by rw[a3,f,h.mask],by rw[a4,g,h.todo],by rw[a5,i,h.defers],by rw[a6,j,h.mode],by rw[a7,k,h.kind],by rw[b,l,h.cm],by rw[a9,m,h.round],fun s v' e=>?_⟩
 rw[ae.L1] at e
 rw[ae.L1,←h.n]
 split at e
 · simp_all
 · rename_i o;rw[if_neg o];exact h.get s v' e
theorem ui.put {A B:ae}(h:ui A B)(d:Option Tmp)(v:AV):ui (A.put d v) (B.put d v):=by
 cases d with
 | none=>exact h
 | some t=>exact h.set t v
theorem ui.with {A B:ae}(h:ui A B)(td:List bg)(ds:List hU)(m:dr):ui { A with todo:=td,defers:=ds,mode:=m } { B with todo:=td,defers:=ds,mode:=m }:=
 ⟨h.fn,h.n,h.mask,rfl,rfl,rfl,h.kind,h.cm,h.round,h.get⟩
theorem ui.back {A B:ae}(h:ui A B)(o:Oper)(all:Array Oper)(rest:List Nat)(k:List bg)(r:gL):ui (A.back o all rest k r) (B.back o all rest k r):=by
 cases r with
 | ret v=>
   have q:=h.put o.dst v
   have:=q.with (.ops all rest::k) (A.put o.dst v).defers (A.put o.dst v).mode
   simp only[ae.back,ae.after]
   rw[show(B.put o.dst v)={ B.put o.dst v with defers:=(A.put o.dst v).defers,mode:=(A.put o.dst v).mode } from by rw[←q.defers,←q.mode]]
   exact this
 | wh l=>exact⟨h.fn,h.n,h.mask,h.todo,h.defers,rfl,h.kind,h.cm,h.round,h.get⟩
theorem ui.qI {A B:ae}(h:ui A B)(d l:Nat)(k:List bg)(r:gL):ui (A.qI d l k r) (B.qI d l k r):=by
 cases r with
 | ret v=>exact⟨h.fn,h.n,h.mask,rfl,by simp only[ae.qI];rw[h.defers],h.mode,h.kind,h.cm,h.round,h.get⟩
 | wh c=>exact⟨h.fn,h.n,h.mask,rfl,by simp only[ae.qI,ae.Qv];rw[h.defers],rfl,h.kind,h.cm,h.round,h.get⟩
section
variable {σ : Nat → Nat}
theorem Yr (l:List (Nat×AV))(t:Nat)(v:AV):jC σ (up l t v)=up (jC σ l) t (v.aX σ):=by
 induction l with
 | nil=>simp[jC,Of]
 | cons a l b=>
   obtain⟨k,u⟩:=a
   simp only[jC,dH,JM] at *
   cases Nat.beq k t<;>simp_all
theorem ae.Ys (F:ae)(t:Nat)(v:AV):(F.set t v).aX σ=(F.aX σ).set t (v.aX σ):=by
 obtain⟨fn,n,mask,loc,qX,todo,defers,mode,kind,cm,round⟩:=F
 simp only[ae.set,ae.aX]
 cases Nat.ble (t+1) n with
 | false=>rfl
 | true=>
   cases tb mask t with
   | true=>simp only[Yr]
   | false=>simp only[jC,dH]
theorem ae.Yt (F:ae)(d:Option Tmp)(v:AV):(F.put d v).aX σ=(F.aX σ).put d (v.aX σ):=by
 cases d with
 | none=>rfl
 | some t=>exact F.Ys t v
theorem ae.L2 (F:ae)(o:Oper)(all:Array Oper)(rest:List Nat)(k:List bg)(r:gL):(F.back o all rest k r).aX σ=(F.aX σ).back o all rest (k.map (bg.aX σ)) (r.aX σ):=by
 cases r with
 | ret v=>
   simp only[ae.back,ae.after,gL.aX]
   rw[←ae.Yt]
   cases F.put o.dst v
   rfl
 | wh l=>cases F;rfl
theorem ae.Sd (F:ae)(d l:Nat)(k:List bg)(r:gL):(F.qI d l k r).aX σ=(F.aX σ).qI (σ d) (σ l) (k.map (bg.aX σ)) (r.aX σ):=by
 cases r<;>cases F<;>rfl
theorem ML (m:dr)(l:List (AV×Bool)):(Az m l).aX σ=Az (m.aX σ) (Ff σ l):=by
 cases m<;>simp[Az,dr.aX,Ff]
theorem MM (m:dr):(Ay m).aX σ=Ay (m.aX σ):=by
 cases m with
 | run=>rfl
 | returning=>rfl
 | panicking l=>
   cases l with
   | nil=>rfl
   | cons a r=>
     obtain⟨v,b⟩:=a
     cases b<;>rfl
theorem EA.set {S S2:ag}(c:∀ a b,σ a=σ b→a=b)(h:EA σ S S2)(id:Nat)(o:aO):EA σ (S.set id o) (S2.set (σ id) (o.aX σ)):=by
 refine⟨fun k x e=>?_,h.lim,h.hi,h.lo⟩
 by_cases d:k=id
 · simp_all[ag.cQ]
 · rw[ag.bt (y7 _) d] at e
   rw[ag.bt (y7 _) (fun q=>d (c _ _ q))]
   exact h.get k x e
theorem Se (id:Nat)(l:List bg):tE id (l.map (bg.aX σ))=(tE id l).map (List.map (bg.aX σ)):=by
 induction l with
 | nil=>rfl
 | cons a l b=>
   cases a with
   | inBlock i=>simp only[dH,bg.aX,tE,b];split<;>rfl
   | _=>simp only[dH,bg.aX,tE,b]
theorem Sf (l:List bg):C4 (l.map (bg.aX σ))=C4 l:=by
 cases l with
 | nil=>rfl
 | cons a l=>
   cases a with
   | code c=>
     cases c<;>simp only[dH,bg.aX,C4]
     rename_i b
     rw[Se]
     cases tE b l<;>rfl
   | _=>rfl
theorem Ll.aX (g:∀ a b,σ a=σ b→a=b){id:Nat}{F:ae}{S S2:ag}{Q Q2:gL→ag→Prop}(hs:EA σ S S2)(j:∀ r S S2,Q r S→EA σ S S2→Q2 (r.aX σ) S2)(h:Ll id F S Q):Ll (σ id) (F.aX σ) S2 Q2:=by
 obtain⟨fn,n,mask,loc,qX,todo,defers,mode,kind,cm,round⟩:=F
 obtain⟨a,b⟩:=h
 simp only at a
 subst a
 refine⟨rfl,?_⟩
 rcases b with⟨b,st,i,f,m,mk,env,params,assign,body,c,d,e⟩ | ⟨l,b,c⟩
 · simp only at b
   subst b
   refine .inl ⟨rfl,st,i,f,m,mk,jC σ env,params,assign,body,hs.get _ _ c,hs.lim _ d,?_⟩
   rcases e with⟨e,k⟩ | ⟨x,e,k⟩
   · simp only at e
     subst e
     exact .inl ⟨rfl,j _ _ _ k (hs.set g id _)⟩
   · exact .inr ⟨x,(Sf todo).trans e,j _ _ _ k (hs.set g id _)⟩
 · simp only at b
   subst b
   exact .inr ⟨Ff σ l,rfl,j _ _ _ c hs⟩
variable {S2 : ag} {v : AV} {cs : List AV}
theorem Km (hs:EA σ S S2)(h:ld S v=some cs):ld S2 (v.aX σ)=some (eG σ cs):=by
 unfold ld at h
 split at h
 · rename_i id i j
   split at h<;>try (simp at h;done)
   rename_i sz es b
   split at h<;>try (simp at h;done)
   rename_i e a
   split at h<;>simp only[ba,reduceCtorEq] at h
   rename_i c
   subst h
   rw[j8] at a
   rw[AV.aX]
   simp only[ld,hs.get _ _ b,aO.aX,j8,jb,a,j9,AV.gA,bm,c]
   rw[yd,yd,aeo]
 · simp only[ba] at h
   subst h
   rw[AV.aX];rfl
 · simp at h
theorem Pk {t:TypeId}(h:um P t cs=some v):um P t (eG σ cs)=some (v.aX σ):=by
 unfold um at h ⊢
 split at h
 · rename_i ha
   split at h<;>try (simp at h;done)
   rename_i n b
   split at h<;>simp only[ba,reduceCtorEq] at h
   rename_i a
   subst h
   simp only[bm,a,AV.aX]
   rw[yd,yd,asJ]
 all_goals simp_all[j8,jb]
variable {F : ae}
theorem L3 (hs:EA σ S S2):∀ {b:List ResultVar} {l:List AV},wQ P F S b=some l→wQ P (F.aX σ) S2 b=some (eG σ l):=by
 intro b
 induction b with
 | nil=>intro l h;simp only[wQ,ba] at h;subst h;rfl
 | cons r b f=>
   intro l h
   cases r with
   | tmp t=>
     simp only[wQ] at h
     split at h<;>try (simp at h;done)
     rename_i v c
     split at h<;>simp only[ba,reduceCtorEq] at h
     rename_i l' d
     subst h
     simp only[wQ,ae.EN,c,j9,f d,eG]
   | cell a t=>
     simp only[wQ] at h
     split at h<;>try (simp at h;done)
     rename_i p g
     split at h<;>try (simp at h;done)
     rename_i cs e
     split at h<;>try (simp at h;done)
     rename_i v c
     split at h<;>simp only[ba,reduceCtorEq] at h
     rename_i l' d
     subst h
     simp only[wQ,ae.EN,g,j9,Km hs e,Pk c,f d,eG]
theorem Cn {fn:Func}(hs:EA σ S S2)(h:uQ P fn F S=some v):uQ P fn (F.aX σ) S2=some (v.aX σ):=by
 unfold uQ at h ⊢
 split at h
 · rename_i v' c
   simp only[ba] at h
   subst h
   rw[L3 hs c]
   rfl
 · rename_i l d c
   simp only[ba] at h
   subst h
   rw[L3 hs c,AV.aX]
   cases l with
   | nil=>rfl
   | cons a r=>
     cases r with
     | nil=>simp_all
     | cons b r=>rfl
 · simp at h
inductive vv (σ : Nat → Nat) : cH → cH → Prop
 | nil : vv σ .nil .nil
 | call {fn : Func} {F2 F : ae} {o : Oper} {all : Array Oper} {rest : List Nat} {td2 td : List bg} {next2 next : cH} (hf : ui F2 (F.aX σ)) (ht : td2 = td.map (bg.aX σ)) (hn : vv σ next2 next) :
  vv σ (.call fn F2 o all rest td2 next2) (.call fn F o all rest td next)
 | rW {fn : Func} {F2 F : ae} {ds2 ds : List hU} {next2 next : cH} (hf : ui F2 (F.aX σ)) (ht : ds2 = ds.map (hU.aX σ)) (hn : vv σ next2 next) :
  vv σ (.rW fn F2 ds2 next2) (.rW fn F ds next)
 | loop {fn : Func} {F2 F : ae} {d2 l2 d l : Nat} {td2 td : List bg} {next2 next : cH} (hf : ui F2 (F.aX σ)) (ht : td2 = td.map (bg.aX σ)) (hd : d2 = σ d) (hl : l2 = σ l) (hn : vv σ next2 next) :
  vv σ (.loop fn F2 d2 l2 td2 next2) (.loop fn F d l td next)
 | round {fn : Func} {F2 F : ae} {o : Oper} {all : Array Oper} {rest : List Nat} {td2 td : List bg} {id2 id : Nat} {next2 next : cH} (hf : ui F2 (F.aX σ)) (ht : td2 = td.map (bg.aX σ)) (hd : id2 = σ id) (hn : vv σ next2 next) :
  vv σ (.round fn F2 o all rest td2 id2 next2) (.round fn F o all rest td id next)
 | hole {G2 G : ae → ag → Prop} (h : ∀ F S S2, G F S → EA σ S S2 → G2 (F.aX σ) S2) : vv σ (.hole G2) (.hole G)
theorem GK.aX {P:Program}(e:∀ a b,σ a=σ b→a=b){k2 k:cH}(o:vv σ k2 k){fn:Func}{Q Q2:gL→dr→ag→Prop}(g:∀ r cm S S2,Q r cm S→EA σ S S2→Q2 (r.aX σ) (cm.aX σ) S2){F:ae}{S S2:ag}(hs:EA σ S S2)
   (h:GK P k fn Q F S):GK P k2 fn Q2 (F.aX σ) S2:=by
 have fin:Fin P fn Q F S→Fin P fn Q2 (F.aX σ) S2:=by
   rintro⟨a,b⟩
   obtain⟨f,n,mask,loc,qX,todo,defers,mode,kind,cm,round⟩:=F
   simp only at a b
   subst a
   refine⟨rfl,?_⟩
   rcases b with⟨b,v,c,d⟩ | ⟨l,b,c⟩
   · subst b
     exact .inl ⟨rfl,v.aX σ,Cn hs c,g _ _ _ _ d hs⟩
   · subst b
     exact .inr ⟨Ff σ l,rfl,g _ _ _ _ c hs⟩
 cases o with
 | nil=>exact fin h
 | call hf i j=>exact fin h
 | rW hf i j=>exact fin h
 | loop hf i m s j=>exact fin h
 | round hf i m j=>
   subst m
   exact Ll.aX (Q2:=fun r S=>Q2 r .run S) e hs (fun r S S2 q hs=>g r .run S S2 q hs) h
 | hole p=>exact p _ _ _ h hs
theorem fD.aX {P:Program}{Qf u:gL→ag→Prop}(f:∀ a b,σ a=σ b→a=b)(y:∀ r S S2,Qf r S→EA σ S S2→u (r.aX σ) S2):∀ {k2 k:cH},vv σ k2 k→∀ {A j:(gL→dr→ag→Prop)→Prop},
   (∀ Q Q2:gL→dr→ag→Prop,(∀ r cm S S2,Q r cm S→EA σ S S2→Q2 (r.aX σ) (cm.aX σ) S2)→A Q→j Q2)→fD P Qf k A→fD P u k2 j:=by
 intro k2 k z
 induction z with
 | nil=>intro A j i h;exact i _ _ (fun r cm S S2 q hs=>y r S S2 q hs) h
 | hole E=>intro A j i h;exact i _ _ (fun _ _ _ _ q _=>q.elim) h
 | @call fn F2 F o all rest w td c next hf m n p=>
   intro A j i h
   refine p (fun Q Q2 s q=>i _ _ (fun r cm S S2 q hs=>?_) q) h
   subst m
   have:=Reach.aX f hs q (G2:=GK P c fn Q2) fun _ _ _ t g=>GK.aX f n s g t
   rw[ae.L2] at this
   exact(hf.back o all rest _ _).reach this
 | @rW fn F2 F C ds c next hf m n p=>
   intro A j i h
   refine p (fun Q Q2 s q=>i _ _ (fun r cm S S2 q hs=>?_) q) h
   subst m
   have:=Reach.aX f hs q (G2:=GK P c fn Q2) fun _ _ _ t g=>GK.aX f n s g t
   have e:({ F with defers:=ds,mode:=jd r cm }:ae).aX σ={ F.aX σ with todo:=(F.aX σ).todo,defers:=ds.map (hU.aX σ),mode:=jd (r.aX σ) (cm.aX σ) }:=by
    cases F
    cases r with
    | ret v=>simp only[ae.aX,jd,gL.aX,MM]
    | wh l=>simp only[ae.aX,jd,gL.aX,ML]
   rw[e] at this
   have q2:=hf.with (F.aX σ).todo (ds.map (hU.aX σ)) (jd (r.aX σ) (cm.aX σ))
   rw[hf.todo] at q2 this
   exact q2.reach this
 | @loop fn F2 F G l2 d l w td c next hf m x B n p=>
   intro A j i h
   refine p (fun Q Q2 s q=>i _ _ (fun r cm S S2 q hs=>?_) q) h
   subst m x B
   have:=Reach.aX f hs q (G2:=GK P c fn Q2) fun _ _ _ t g=>GK.aX f n s g t
   rw[ae.Sd] at this
   exact(hf.qI _ _ _ _).reach this
 | @round fn F2 F o all rest w td D id c next hf m x n p=>
   intro A j i h
   refine p (fun Q Q2 s q=>i _ _ (fun r cm S S2 q hs=>?_) q) h
   subst m
   have:=Reach.aX f hs q (G2:=GK P c fn Q2) fun _ _ _ t g=>GK.aX f n s g t
   rw[ae.L2] at this
   exact(hf.back o all rest _ _).reach this
theorem br.aX {P:Program}{Qf d:gL→ag→Prop}(c:∀ a b,σ a=σ b→a=b)(g:∀ r S S2,Qf r S→EA σ S S2→d (r.aX σ) S2){fn:Func}{F2 F:ae}{S2 S:ag}{k2 k:cH}(f:vv σ k2 k)(hf:ui F2 (F.aX σ))(hs:EA σ S S2)
  (h:br P Qf (.run fn F S k)):br P d (.run fn F2 S2 k2):=
 fD.aX c g f (fun _ _ i q=>hf.reach (Reach.aX c hs q fun _ _ _ j e=>GK.aX c f i e j)) h
end
end
noncomputable section
def ab (T:FT)(P:Program):Nat→St→St
 | 0,s=>s
 | n+1,s=>ab T P n (s.step T P)
def NU (P:Program)(s:St):Option AV:=
 match dI s with
 | some o=>match gO o.op with
   | none=>match s with
     | .run _ F _ _=>pop P F.eval o.op
     | .fU D _=>pop P D.F.eval o.op
     | _=>none
   | some _=>none
 | none=>none
def Zj (P:Program)(s:St):Option dg:=
 match s with
 | .run fn F S k=>match dI (.run fn F S k) with
   | some o=>match gO o.op,ct o.op with
     | none,false=>DT P F.eval S o.op
     | _,_=>none
   | none=>none
 | _=>none
def Jd (T:FT)(P:Program)(s:St):Option (Nat×List AV):=
 match dI s with
 | some o=>match gO o.op with
   | some c=>match s with
     | .run _ F _ _=>match so T F c P with
       | some (g,_,args)=>some (g,args)
       | none=>none
     | .fU D _=>match so T D.F c P with
       | some (g,_,args)=>some (g,args)
       | none=>none
     | _=>none
   | none=>none
 | none=>none
def j5 : St→ag
 | .run _ _ S _=>S
 | _=>ag.empty
section
variable {T : FT} {P : Program} {Qf : gL → ag → Prop}
variable {s : St}
theorem u6 {o:Oper}(h:dI s=some o):Tr s o.dst=true:=by
 unfold Tr
 rw[h]
 simp only
 cases o.dst with
 | none=>rfl
 | some t=>exact vD t
theorem cO (c:di T P)(b:P.follows .mixedOrders=true):∀(n:Nat) {s:St},br P Qf (ab T P n s)→br P Qf s:=by
 intro n
 induction n with
 | zero=>intro s h;exact h
 | succ n d=>intro s h;exact L0 c b (d h)
variable {v : AV}
theorem Yu (e:di T P)(h:NU P s=some v)(q:br P Qf (ak v none s)):br P Qf s:=by
 unfold NU at h
 cases b:dI s with
 | none=>rw[b] at h;simp at h
 | some o=>
   rw[b] at h
   simp only at h
   cases d:gO o.op with
   | some c=>rw[d] at h;simp at h
   | none=>
     rw[d] at h
     refine AE e (u6 b) ?_ q
     cases s with
     | run fn F S k=>
       simp_all[dI,Hc]
     | fU D k=>
       obtain⟨os,f,_⟩:=zN b
       simp_all[Hc]
     | _=>simp at h
theorem ZA (c:di T P)(b:P.follows .mixedOrders=true)(n:Nat)(o:Option AV)(v:AV)(h:NU P (ab T P n s)=o)(d:o=some v)(q:br P Qf (ak v none (ab T P n s))):br P Qf s:=
 cO c b n (Yu c (h.trans d) q)
theorem ajB (d:di T P)(c:P.follows .mixedOrders=true)(n:Nat)(b:Bool)(h:NU P (ab T P n s)=some (.sc (.bool b)))(e:b=true→br P Qf (ak (.sc (.bool true)) none (ab T P n s)))(f:b=false→br P Qf (ak (.sc (.bool false)) none (ab T P n s))):br P Qf s:=by
 refine ZA d c n _ (.sc (.bool b)) h rfl ?_
 cases b<;>simp_all
variable {S' : ag}
theorem Yv (e:di T P)(h:Zj P s=some (.val v S'))(f:(dI s).bind (·.dst)≠none)(q:br P Qf (ak v (some S') s)):br P Qf s:=by
 unfold Zj at h
 cases s with
 | run fn F S k=>
   simp only at h
   cases b:dI (.run fn F S k) with
   | none=>rw[b] at h;simp at h
   | some o=>
     rw[b] at h f
     simp only at h
     split at h<;>try (simp at h;done)
     rename_i g c
     refine AE e (u6 b) ?_ q
     have d:dI (.run default F S .nil)=some o:=b
     simp only[Hc,d,g,c]
     cases i:o.dst<;>simp_all
 | _=>simp at h
theorem VF (c:di T P)(h:Zj P s=some (.skip S'))(d:(dI s).bind (·.dst)=none)(q:br P Qf (ak (.bO []) (some S') s)):br P Qf s:=by
 unfold Zj at h
 cases s with
 | run fn F S k=>
   simp only at h
   cases b:dI (.run fn F S k) with
   | none=>rw[b] at h;simp at h
   | some o=>
     rw[b] at h d
     simp only at h
     split at h<;>try (simp at h;done)
     rename_i f e
     refine AE c (u6 b) ?_ q
     simp_all[dI,Hc]
 | _=>simp at h
theorem Yw (f:di T P)(d:P.follows .mixedOrders=true)(n:Nat)(g:Nat)(args:List AV)(v:AV)(h:Jd T P (ab T P n s)=some (g,args))(m:∀ S,fY P g args S fun r S' => r=.ret v∧S' = S)(q:br P Qf (ak v none (ab T P n s))):br P Qf s:=by
 refine cO f d n ?_
 generalize ab T P n s=s at h q
 unfold Jd at h
 cases b:dI s with
 | none=>rw[b] at h;simp at h
 | some o=>
   rw[b] at h
   simp only at h
   cases e:gO o.op with
   | none=>simp_all
   | some c=>
     rw[e] at h
     simp only at h
     refine AE f (u6 b) ?_ q
     cases s with
     | run fn F S k=>
       have j:dI (.run default F S .nil)=some o:=b
       simp only at h
       split at h<;>simp only[ba,lR,reduceCtorEq] at h
       rename_i i
       obtain⟨rfl,rfl⟩:=h
       simp_all[Hc]
     | fU D k=>
       obtain⟨os,l,_⟩:=zN b
       simp only at h
       split at h<;>simp only[ba,lR,reduceCtorEq] at h
       rename_i i
       obtain⟨rfl,rfl⟩:=h
       simp_all[Hc]
     | _=>simp at h
theorem FN (j:di T P)(b:P.follows .mixedOrders=true)(n:Nat)(g:Nat)(args:List AV)(S:ag)(v:AV)(S' : ag)(h:Jd T P (ab T P n s)=some (g,args))(d:j5 (ab T P n s)=S)(l:∃ fn F S k,ab T P n s=.run fn F S k)(p:fY P g args S fun r f=>r=.ret v∧f=S')(q:br P Qf (ak v (some S') (ab T P n s))):br P Qf s:=by
 refine cO j b n ?_
 generalize ab T P n s=s at h q d l
 obtain⟨fn,F,S0,k,rfl⟩:=l
 have d:S0=S:=d
 subst d
 unfold Jd at h
 cases e:dI (.run fn F S0 k) with
 | none=>rw[e] at h;simp at h
 | some o=>
   rw[e] at h
   simp only at h
   cases i:gO o.op with
   | none=>simp_all
   | some c=>
     rw[i] at h
     simp only at h
     refine AE j (u6 e) ?_ q
     have m:dI (.run default F S0 .nil)=some o:=e
     split at h<;>simp only[ba,lR,reduceCtorEq] at h
     rename_i t
     obtain⟨rfl,rfl⟩:=h
     simp_all[Hc]
end
def Lm (m:PT):List (Nat×aO)→PT
 | []=>m
 | (id,o)::r=>Lm (PT.set dep m id (some o)) r
def pg (nx:Nat)(l:List (Nat×aO)):ag:=⟨nx,0,Lm .nil l⟩
def aj0 (p nx:Nat)(l:List (Nat×aO)):ag:=⟨nx,p,Lm .nil l⟩
def pick (S:ag):List Nat→List (Nat×aO)
 | []=>[]
 | id::r=>match S.get id with
   | some o=>(id,o)::pick S r
   | none=>pick S r
def slotsOf (F:ae):List Nat→List (Nat×AV)
 | []=>[]
 | t::r=>match F.get t with
   | some v=>(t,v)::slotsOf F r
   | none=>slotsOf F r
def jc (F:ae)(l:List (Nat×AV)):ae:=
 match F with
 | ⟨fn,n,mask,_,_,todo,defers,mode,kind,cm,round⟩=>⟨fn,n,mask,l,l,todo,defers,mode,kind,cm,round⟩
def As : cH→List (List (Nat×AV))→cH
 | .call fn F o all rest td next,l::ls=>.call fn (jc F l) o all rest td (As next ls)
 | .rW fn F ds next,l::ls=>.rW fn (jc F l) ds (As next ls)
 | .loop fn F d i td next,l::ls=>.loop fn (jc F l) d i td (As next ls)
 | .round fn F o all rest td id next,l::ls=>.round fn (jc F l) o all rest td id (As next ls)
 | k,_=>k
def N7 : cH→List (List Nat)→cH
 | .call fn F o all rest td next,l::ls=>.call fn (jc F (slotsOf F l)) o all rest td (N7 next ls)
 | .rW fn F ds next,l::ls=>.rW fn (jc F (slotsOf F l)) ds (N7 next ls)
 | .loop fn F d i td next,l::ls=>.loop fn (jc F (slotsOf F l)) d i td (N7 next ls)
 | .round fn F o all rest td id next,l::ls=>.round fn (jc F (slotsOf F l)) o all rest td id (N7 next ls)
 | k,_=>k
def jB (s:St)(ls:List (List (Nat×AV)))(S:ag):St:=
 match s,ls with
 | .run fn F _ k,l::ls=>.run fn (jc F l) S (As k ls)
 | _,_=>.bad 70
def qY (b:List (List Nat))(ids:List Nat)(s:St):St:=
 match s,b with
 | .run fn F S k,l::ls=>.run fn (jc F (slotsOf F l)) (aj0 S.lim S.nx (pick S ids)) (N7 k ls)
 | _,_=>.bad 71
def xp : cH→Bool
 | .nil=>true
 | .call _ _ _ _ _ _ n=>xp n
 | .rW _ _ _ n=>xp n
 | .loop _ _ _ _ _ n=>xp n
 | .round _ _ _ _ _ _ _ n=>xp n
 | _=>false
def lJ : St→Bool
 | .run _ _ _ k=>xp k
 | _=>false
theorem Ds {F:ae}:∀ {l:List Nat} {t:Nat} {v:AV},lk (slotsOf F l) t=some v→F.get t=some v:=by
 intro l
 induction l with
 | nil=>intro t v h;simp[slotsOf,q7] at h
 | cons a l b=>
   intro t v h
   simp only[slotsOf] at h
   cases ha:F.get a with
   | none=>simp_all
   | some u=>
     rw[ha] at h
     simp only[iz] at h
     cases hb:Nat.beq a t<;>simp_all
theorem gV (F:ae)(l:List Nat):ui F (jc F (slotsOf F l)):=by
 cases F
 refine⟨rfl,rfl,rfl,rfl,rfl,rfl,rfl,rfl,rfl,fun t v e=>⟨v,?_,.inl rfl⟩⟩
 simp only[jc,ae.get] at e
 split at e
 · exact Ds e
 · exact Ds e
mutual
theorem AV.cK : ∀ v:AV,v.aX (fun x=>x)=v
 | .sc v=>by rw[AV.aX]
 | .agg cs=>by rw[AV.aX,rE cs]
 | .fw=>by rw[AV.aX]
 | .an=>by rw[AV.aX]
 | .lit es=>by rw[AV.aX,rE es]
 | .dO cs=>by rw[AV.aX,rE cs]
 | .ptr id i j=>by rw[AV.aX]
 | .ai id o l=>by rw[AV.aX]
 | .cR id=>by rw[AV.aX]
 | .fn f a b=>by rw[AV.aX,rE a,rE b]
 | .eB t v=>by rw[AV.aX,AV.cK v]
 | .bO c=>by rw[AV.aX,rE c]
 | .sj id=>by rw[AV.aX]
 | .clip v=>by rw[AV.aX,AV.cK v]
 | .top=>by rw[AV.aX]
theorem rE : ∀ l:List AV,eG (fun x=>x) l=l
 | []=>by rw[eG]
 | v::l=>by rw[eG,AV.cK v,rE l]
end
theorem QC (l:List (Nat×AV)):jC (fun x=>x) l=l:=by
 simp_all[jC,AV.cK]
theorem Yx (l:List (AV×Bool)):Ff (fun x=>x) l=l:=by
 simp_all[Ff,AV.cK]
theorem bg.cK (l:List bg):l.map (bg.aX fun x=>x)=l:=by
 induction l with
 | nil=>rfl
 | cons a l b=>rw[dH,b];cases a<;>rfl
theorem hU.cK (l:List hU):l.map (hU.aX fun x=>x)=l:=by
 induction l with
 | nil=>rfl
 | cons a l b=>rw[dH,b];cases a<;>simp only[hU.aX,rE]
theorem dr.cK (m:dr):m.aX (fun x=>x)=m:=by
 cases m<;>simp only[dr.aX,Yx]
theorem ae.cK (F:ae):F.aX (fun x=>x)=F:=by
 simp_all[ae.aX,QC,bg.cK,hU.cK,dr.cK]
theorem aO.cK (o:aO):o.aX (fun x=>x)=o:=by
 cases o<;>simp_all[aO.aX,rE,AV.cK,QC]
theorem VG : ∀ {k:cH} {ls:List (List Nat)},xp k=true→vv (fun x=>x) k (N7 k ls):=by
 intro k
 induction k with
 | nil=>intro ls _;cases ls<;>exact .nil
 | hole G=>intro ls h;simp[xp] at h
 | call fn F o all rest td next b=>
   intro ls h
   cases ls with
   | nil=>exact .call (by rw[ae.cK];exact ui.refl F) (bg.cK td).symm (by have:=b (ls:=[]) h;cases next<;>exact this)
   | cons l ls=>exact .call (by rw[ae.cK];exact gV F l) (bg.cK td).symm (b h)
 | rW fn F ds next b=>
   intro ls h
   cases ls with
   | nil=>exact .rW (by rw[ae.cK];exact ui.refl F) (hU.cK ds).symm (by have:=b (ls:=[]) h;cases next<;>exact this)
   | cons l ls=>exact .rW (by rw[ae.cK];exact gV F l) (hU.cK ds).symm (b h)
 | loop fn F d l td next b=>
   intro ls h
   cases ls with
   | nil=>exact .loop (by rw[ae.cK];exact ui.refl F) (bg.cK td).symm rfl rfl (by have:=b (ls:=[]) h;cases next<;>exact this)
   | cons l ls=>exact .loop (by rw[ae.cK];exact gV F l) (bg.cK td).symm rfl rfl (b h)
 | round fn F o all rest td id next b=>
   intro ls h
   cases ls with
   | nil=>exact .round (by rw[ae.cK];exact ui.refl F) (bg.cK td).symm rfl (by have:=b (ls:=[]) h;cases next<;>exact this)
   | cons l ls=>exact .round (by rw[ae.cK];exact gV F l) (bg.cK td).symm rfl (b h)
 | fU D o os E e bE c next b=>intro ls h;simp[xp] at h
theorem VH : ∀(l:List (Nat×aO)) (m:PT) (id:Nat) (o:aO),PT.get dep (Lm m l) id=some o→(id,o)∈l∨PT.get dep m id=some o:=by
 intro l
 induction l with
 | nil=>intro m id o h;exact .inr h
 | cons a l b=>
   intro m id o h
   obtain⟨i,x⟩:=a
   rcases b _ id o h with q | q
   · simp_all
   · by_cases e:i=id
     all_goals simp_all[PT.cQ,PT.tN]
theorem AF {nx:Nat}{l:List (Nat×aO)}{id:Nat}{o:aO}(h:(pg nx l).get id=some o):(id,o)∈l:=by
 rcases VH l .nil id o h with q | q
 · exact q
 · rw[PT.get_nil] at q;simp at q
theorem L4 {S:ag}:∀ {ids:List Nat} {id:Nat} {o:aO},(id,o)∈pick S ids→S.get id=some o:=by
 intro ids
 induction ids with
 | nil=>intro id o h;simp[pick] at h
 | cons a l b=>
   intro id o h
   simp only[pick] at h
   split at h
   · rename_i x hx
     rcases cF.1 h with e | e
     · simp_all
     · exact b e
   · exact b h
def vq (a:Nat)(Qf:gL→ag→Prop):Prop:=∀ σ:Nat→Nat,(∀ x y,σ x=σ y→x=y)→(∀ i,i<a→σ i=i)→∀ r S b,Qf r S→EA σ S b→Qf (r.aX σ) b
section
variable {T : FT} {P : Program} {Qf : gL → ag → Prop}
variable {s : St} {a : Nat}
theorem br.cut (f:vq a Qf){c:List (List Nat)}{ids:List Nat}(d:lJ s=true)(h:br P Qf (qY c ids s)):br P Qf s:=by
 cases s with
 | run fn F S k=>
   cases c with
   | nil=>exact h.elim
   | cons l ls=>
     simp only[qY] at h
     refine br.aX (σ:=fun x=>x) (fun a b e=>e) (fun r S g q hs=>f _ (fun a b e=>e) (fun _ _=>rfl) r S g q hs) (VG d) (by rw[ae.cK];exact gV F l) ?_ h
     exact⟨fun id o e=>by rw[aO.cK];exact L4 (AF (nx:=S.nx) e),fun id h=>h,fun k=>rfl,fun id bE=>bE⟩
 | _=>simp[lJ] at d
theorem UG (c:di T P)(b:P.follows .mixedOrders=true)(d:vq a Qf)(n:Nat)(e:List (List Nat))(ids:List Nat){s' : St}(f:lJ (ab T P n s)=true)(h:qY e ids (ab T P n s)=s')(q:br P Qf s'):br P Qf s:=
 cO c b n (br.cut d f (by rw[h];exact q))
variable {v : AV}
theorem vq.pure (b:∀ σ,v.aX σ=v):vq 0 fun r _=>r=.ret v:=by
 rintro σ _ _ r S c rfl _
 simp only[gL.aX,b]
end
end
noncomputable section
def kK : List (Nat×Nat)→Nat→Nat→Nat→Nat
 | [],N,nx,i=>match Nat.ble N i with
   | true=>nx+(i-N)
   | false=>i
 | (c,a)::r,N,nx,i=>match Nat.beq c i with
   | true=>a
   | false=>kK r N nx i
def w8 (l:List (Nat×Nat))(N nx:Nat)(_ _:List Nat):Bool:=
 Nat.ble N nx&&l.all (fun p=>Nat.ble (p.1+1) N&&Nat.ble (p.2+1) nx&&(Nat.ble N p.2||(l.map (·.1)).contains p.2))&&decide (l.map (·.2)).Nodup&&decide (l.map (·.1)).Nodup
theorem Co (l:List (Nat×Nat))(N nx i:Nat):(∃ p,p∈l∧p.1=i∧kK l N nx i=p.2)∨((∀ p,p∈l→p.1≠i)∧kK l N nx i=if N≤i then nx+(i-N) else i):=by
 induction l with
 | nil=>
   refine .inr ⟨fun p h=>by simp at h,?_⟩
   simp only[kK]
   split
   · simp_all
   · rename_i e;rw[if_neg (fun q=>by rw[EY q] at e;simp at e)]
 | cons p r b=>
   obtain⟨c,a⟩:=p
   simp only[kK]
   cases hb:Nat.beq c i with
   | true=>simp_all
   | false=>
     rcases b with⟨p,h1,h2,h3⟩ | ⟨h1,h2⟩
     · exact .inl ⟨p,Ez _ h1,h2,h3⟩
     · refine .inr ⟨fun p d=>?_,h2⟩
       rcases cF.1 d with e | e
       · subst e;intro q;simp only at q;rw[q,vD] at hb;simp at hb
       · exact h1 p e
variable {l : List (Nat × Nat)} {N nx : Nat}
theorem IQ {cs as:List Nat}(h:w8 l N nx cs as=true):N≤nx∧∀ i,(kK l N nx i=i∧i<N)∨(N≤i∧kK l N nx i=nx+(i-N))∨(i<N∧True∧kK l N nx i<nx):=by
 simp only[w8,aY,dh] at h
 obtain⟨⟨⟨h1,h2⟩,_⟩,_⟩:=h
 have h1:=gb h1
 refine⟨h1,fun i=>?_⟩
 rcases Co l N nx i with⟨p,d,q2,q3⟩ | ⟨d,q2⟩
 · obtain⟨⟨a,b⟩,_⟩:=h2 p d
   have a:=gb a
   have b:=gb b
   exact .inr (.inr ⟨by omega,trivial,by omega⟩)
 · rw[q2]
   by_cases hi:N≤i
   · simp_all
   · rw[if_neg hi];simp_all
theorem ye (h:w8 l N nx [] []=true):∀ x y,kK l N nx x=kK l N nx y→x=y:=by
 simp only[w8,aY,dh,decide_eq_true_eq] at h
 obtain⟨⟨⟨h1,h2⟩,h3⟩,h4⟩:=h
 have h1:=gb h1
 have mix:∀ p y,p∈l→(∀ q,q∈l→q.1≠y)→p.2=(if N≤y then nx+(y-N) else y)→False:=by
   intro p y r hy e
   obtain⟨⟨_,b⟩,c⟩:=h2 p r
   have b:=gb b
   by_cases m:N≤y
   · rw[if_pos m] at e;omega
   · rw[if_neg m] at e
     rw[xl] at c
     rcases c with c | c
     · have:=gb c;omega
     · have t:p.2∈l.map (·.1):=by simpa using c
       obtain⟨q,u,v⟩:=iB.1 t
       exact hy q u (v.trans e)
 intro x y e
 rcases Co l N nx x with⟨p,d,f,n⟩ | ⟨d,f⟩<;>rcases Co l N nx y with⟨q,g,q2,q3⟩ | ⟨g,q2⟩
 · obtain⟨i,hi⟩:=gM d
   obtain⟨j,k⟩:=gM g
   have o:(l.map (·.2))[i]? = some p.2:=by rw[pw,hi];rfl
   have w:(l.map (·.2))[j]? = some p.2:=by rw[pw,k,←n,e,q3];rfl
   have:=(JC (lr.1 o).1 h3).1 (o.trans w.symm)
   subst this
   rw[hi] at k
   simp only[ba] at k
   rw[←f,←q2,k]
 · exact(mix p y d g (by rw[←n,e,q2])).elim
 · exact(mix q x g d (by rw[←q3,←e,f])).elim
 · rw[f,q2] at e
   split at e<;>split at e<;>omega
def Jo (σ:Nat→Nat)(F:ae):List bg×List hU×dr×dr×Option Nat:=(F.todo.map (bg.aX σ),F.defers.map (hU.aX σ),F.mode.aX σ,F.cm.aX σ,F.round.map σ)
def Au (F:ae):List bg×List hU×dr×dr×Option Nat:=(F.todo,F.defers,F.mode,F.cm,F.round)
def Fs (σ:Nat→Nat):cH→Prop
 | .nil=>True
 | .call _ F _ _ _ td next=>Jo σ F=Au F∧td.map (bg.aX σ)=td∧Fs σ next
 | .rW _ F ds next=>Jo σ F=Au F∧ds.map (hU.aX σ)=ds∧Fs σ next
 | .loop _ F d i td next=>Jo σ F=Au F∧td.map (bg.aX σ)=td∧σ d=d∧σ i=i∧Fs σ next
 | .round _ F _ _ _ td id next=>Jo σ F=Au F∧td.map (bg.aX σ)=td∧σ id=id∧Fs σ next
 | _=>False
def Ud (σ:Nat→Nat):St→Prop
 | .run _ F _ k=>Jo σ F=Au F∧Fs σ k
 | _=>False
def sl : cH→Nat
 | .call _ _ _ _ _ _ n=>sl n+1
 | .rW _ _ _ n=>sl n+1
 | .loop _ _ _ _ _ n=>sl n+1
 | .round _ _ _ _ _ _ _ n=>sl n+1
 | _=>0
def wR : St→Nat
 | .run _ _ _ k=>sl k+1
 | _=>0
variable {σ : Nat → Nat}
theorem gX {F:ae}(h:Jo σ F=Au F)(l:List (Nat×AV)):(jc F l).aX σ=jc F (jC σ l):=by
 simp_all[Jo,Au,jc,ae.aX]
theorem Sg : ∀ {k:cH} {ls:List (List (Nat×AV))},Fs σ k→ls.length=sl k→vv σ (As k (ls.map (jC σ))) (As k ls):=by
 intro k
 induction k with
 | nil=>intro ls _ b;cases ls<;>exact .nil
 | hole G=>intro ls h;exact h.elim
 | call fn F o all rest td next e=>
   intro ls h b
   cases ls with
   | nil=>simp[sl] at b
   | cons l ls=>exact .call (by rw[gX h.1];exact ui.refl _) h.2.1.symm (e h.2.2 (by simpa [sl] using b))
 | rW fn F ds next e=>
   intro ls h b
   cases ls with
   | nil=>simp[sl] at b
   | cons l ls=>exact .rW (by rw[gX h.1];exact ui.refl _) h.2.1.symm (e h.2.2 (by simpa [sl] using b))
 | loop fn F d i td next e=>
   intro ls h b
   cases ls with
   | nil=>simp[sl] at b
   | cons l ls=>exact .loop (by rw[gX h.1];exact ui.refl _) h.2.1.symm h.2.2.1.symm h.2.2.2.1.symm (e h.2.2.2.2 (by simpa [sl] using b))
 | round fn F o all rest td id next e=>
   intro ls h b
   cases ls with
   | nil=>simp[sl] at b
   | cons l ls=>exact .round (by rw[gX h.1];exact ui.refl _) h.2.1.symm h.2.2.1.symm (e h.2.2.2 (by simpa [sl] using b))
 | fU D o os E g bE f next e=>intro ls h;exact h.elim
def vw (σ:Nat→Nat)(l:List (Nat×aO)):List (Nat×aO):=l.map fun p=>(σ p.1,p.2.aX σ)
def aE (S:ag):List (Nat×aO)→Prop
 | []=>True
 | (id,o)::r=>S.get id=some o∧aE S r
theorem Ge {S:ag}:∀ {l:List (Nat×aO)},aE S l→∀ id o,(id,o)∈l→S.get id=some o:=by
 intro l
 induction l with
 | nil=>simp_all
 | cons p r b=>
   obtain⟨i,x⟩:=p
   intro h id o d
   rcases cF.1 d with e | e
   · simp only[lR] at e;obtain⟨rfl,rfl⟩:=e;exact h.1
   · exact b h.2 id o e
section
variable {T : FT} {P : Program} {Qf : gL → ag → Prop}
variable {a : Nat} {c : St} {ls ls2 : List (List (Nat × AV))} {l2 : List (Nat × aO)}
theorem Si {p:Nat}(m:p≤a)(v:vq a Qf)(b:List (Nat×Nat))(N nx:Nat){l:List (Nat×aO)}(g:w8 b N nx [] []=true)(ha:(b.all fun p=>Nat.ble a p.1)=true)(C:a≤N)(u:Ud (kK b N nx) c)(j:ls.length=wR c)(hs:ls2=ls.map (jC (kK b N nx)))(w:aE (aj0 p nx l2) (vw (kK b N nx) l))(h:br P Qf (jB c ls (aj0 p N l))):br P Qf (jB c ls2 (aj0 p nx l2)):=by
 cases c with
 | run fn F S0 k=>
   cases ls with
   | nil=>simp[wR] at j
   | cons s ls=>
     subst hs
     have f:∀ i,i<a→kK b N nx i=i:=by
       intro i hi
       have:∀ l:List (Nat×Nat),(l.all fun p=>Nat.ble a p.1)=true→kK l N nx i=i:=by
         intro l
         induction l with
         | nil => intro _;simp only[kK];split
                  · rename_i e;have:=gb e;omega
                  · rfl
         | cons p r A=>
           intro d
           simp only[nB,aY] at d
           simp only[kK]
           cases hb:Nat.beq p.1 i with
           | true=>have:=np hb;have:=gb d.1;omega
           | false=>exact A d.2
       exact this b ha
     refine br.aX (σ:=kK b N nx) (ye g) (fun r S B q hs=>v _ (ye g) f r S B q hs) (Sg u.2 (by simpa [wR] using j)) (by rw[gX u.1];exact ui.refl _) ?_ h
     · obtain⟨D,h1⟩:=IQ g
       refine⟨fun id o e=>?_,fun id bE=>?_,fun k=>?_,fun id bE=>?_⟩
       · refine Ge w (kK b N nx id) (o.aX (kK b N nx)) ?_
         exact iB.2 ⟨(id,o),AF (nx:=N) e,rfl⟩
       · show p≤kK b N nx id
         have bE:p≤id:=bE
         rcases jT (kK b N nx id) p with n | t
         · have:=ye g _ _ (f _ (mJ n m))
           omega
         · exact t
       · show kK b N nx (N+k)=nx+k
         rcases h1 (N+k) with⟨x,y⟩ | ⟨x,y⟩ | ⟨x,y,z⟩
         · omega
         · rw[y];omega
         · omega
       · have bE:id<N:=bE
         show kK b N nx id<nx
         rcases h1 id with⟨x,y⟩ | ⟨x,y⟩ | ⟨x,y,z⟩<;>omega
 | _=>simp[wR] at j;subst j;exact h.elim
theorem VI (e:vq a Qf)(b:List (Nat×Nat))(N nx:Nat){l:List (Nat×aO)}(f:w8 b N nx [] []=true)(ha:(b.all fun p=>Nat.ble a p.1)=true)(d:a≤N)(g:Ud (kK b N nx) c)(i:ls.length=wR c)(hs:ls2=ls.map (jC (kK b N nx)))(j:aE (pg nx l2) (vw (kK b N nx) l))(h:br P Qf (jB c ls (pg N l))):br P Qf (jB c ls2 (pg nx l2)):=
 Si (p:=0) (bU _) e b N nx f ha d g i hs j h
def Ln (P:Program)(D:rX)(o:Oper):Option dg:=
 match tx D.F D.ops o,ct o.op,gO o.op,ke (ay D.dt o.after.toList) D.es D.S.nx (oe D.S.lim (iG D.F (iY o.op))) with
 | some true,false,none,true=>DT P D.F.eval ⟨D.S.nx,D.S.lim,seen D.S (ay D.dt o.after.toList) D.kx (iG D.F (iY o.op)) .nil⟩ o.op
 | _,_,_,_=>none
def Ts (P:Program)(s:St):Option dg:=
 match s with
 | .fU D _=>match D.os with
   | o::_=>Ln P D o
   | []=>none
 | _=>none
def Rq (r:dg)(s:St):St:=
 match s with
 | .fU D k=>match D.os with
   | o::os=>Fo 5 (w7 D o os (ay D.dt o.after.toList) k ⟨D.S.nx,D.S.lim,seen D.S (ay D.dt o.after.toList) D.kx (iG D.F (iY o.op)) .nil⟩ (oe D.S.lim (iG D.F (iY o.op)))
    (some ⟨D.S.nx,D.S.lim,seen D.S (ay D.dt o.after.toList) D.kx (iG D.F (iY o.op)) .nil⟩) (some r))
   | []=>.bad 5
 | _=>.bad 5
theorem aep {D:rX}{k:cH}{o:Oper}{os:List Oper}{r:dg}(g:D.os=o::os)(h:Ln P D o=some r)
   (q:br P Qf (Fo 5 (w7 D o os (ay D.dt o.after.toList) k ⟨D.S.nx,D.S.lim,seen D.S (ay D.dt o.after.toList) D.kx (iG D.F (iY o.op)) .nil⟩ (oe D.S.lim (iG D.F (iY o.op)))
    (some ⟨D.S.nx,D.S.lim,seen D.S (ay D.dt o.after.toList) D.kx (iG D.F (iY o.op)) .nil⟩) (some r)))):br P Qf (.fU D k):=by
 unfold Ln at h
 split at h<;>try (simp at h;done)
 rename_i i d n hu
 rw[nf] at h
 have b:∀ {nx lim id ob},(⟨nx,lim,seen D.S (ay D.dt o.after.toList) D.kx (iG D.F (iY o.op)) .nil⟩:ag).get id=some ob→id∈iG D.F (iY o.op)∧D.S.get id=some ob∧jl (ay D.dt o.after.toList) D.kx id=true:=by
   intro nx lim id ob e
   have hi:=ag.gv e
   rw[ag.cE hi] at e
   rcases AU hi e with q | q
   · rw[PT.get_nil] at q;simp at q
   · exact q
 generalize p:seen D.S (ay D.dt o.after.toList) D.kx (iG D.F (iY o.op)) .nil=m at *
 cases h2:w7 D o os (ay D.dt o.after.toList) k ⟨D.S.nx,D.S.lim,m⟩ (oe D.S.lim (iG D.F (iY o.op))) (some ⟨D.S.nx,D.S.lim,m⟩) (some r) with
 | none=>rw[h2] at q;exact q.elim
 | some s=>
   rw[h2] at q
   exact xw (E:=⟨D.S.nx,D.S.lim,m⟩) g i d (by rw[h];exact h2) rfl (.inl rfl) (fun id ob e=>(b e).2) (fun id ob e j _=>pH.2 ⟨(b e).1,j⟩) (fun id e=>(pH.1 e).2) (fun id e f=>qy hu id e f) (.inl rfl) (by simpa only[Fo] using q)
variable {s : St}
theorem aeq (e:di T P)(d:P.follows .mixedOrders=true)(n:Nat)(o:Option dg)(r:dg)(h:Ts P (ab T P n s)=o)(f:o=some r)(q:br P Qf (Rq r (ab T P n s))):br P Qf s:=by
 refine cO e d n ?_
 generalize ab T P n s=s at h q
 have h:=h.trans f
 cases s with
 | fU D k=>
   simp only[Ts,Rq] at h q
   cases b:D.os with
   | nil=>simp_all
   | cons o os=>rw[b] at h q;exact aep b h q
 | _=>simp[Ts] at h
def Tc (T:FT)(P:Program)(s:St):Option (Nat×List AV×ag):=
 match s with
 | .fU D _=>match D.os with
   | o::_=>match gO o.op,tx D.F D.ops o,hidden (ay D.dt o.after.toList) D.kx with
     | some c,some true,some bE=>match so T D.F c P with
       | some (g,_,args)=>some (g,args,⟨D.S.nx,D.S.nx,jA D.S.m bE⟩)
       | none=>none
     | _,_,_=>none
   | []=>none
 | _=>none
def Ue (v:AV)(b:ag)(s:St):St:=
 match s with
 | .fU D k=>match D.os with
   | o::os=>match hidden (ay D.dt o.after.toList) D.kx with
     | some bE=>.fU (D.jB o os ⟨D.S.nx,D.S.nx,jA D.S.m bE⟩ (ay D.dt o.after.toList) .quiet v b) k
     | none=>.bad 5
   | []=>.bad 5
 | _=>.bad 5
theorem VJ (y:di T P)(j:P.follows .mixedOrders=true)(n:Nat)(g:Nat)(args:List AV)(E:ag)(v:AV)(p:ag)(h:Tc T P (ab T P n s)=some (g,args,E))(A:fY P g args E fun r S=>r=.ret v∧S=p)(q:br P Qf (Ue v p (ab T P n s))):br P Qf s:=by
 refine cO y j n ?_
 generalize ab T P n s=s at h q
 cases s with
 | fU D k=>
   simp only[Tc,Ue] at h q
   cases b:D.os with
   | nil=>simp_all
   | cons o os=>
     rw[b] at h q
     simp only at h q
     split at h<;>try (simp at h;done)
     rename_i c bE d B hh
     split at h<;>simp only[ba,lR,reduceCtorEq] at h
     rename_i C
     obtain⟨rfl,rfl,rfl⟩:=h
     rw[hh] at q
     simp only at q
     obtain⟨K,ha⟩:=kO y d C
     have u:=fB d
     refine fD.mono (fun Q q=>?_) q
     refine qJ.step q b (AB ..) (fun O S0 E0 L v0 ch z G H=>?_)
     have f:n7 P D.ops o D.F.get ⟨D.S.nx,D.S.nx,jA D.S.m bE⟩ v p:=n7.call B u (ha _) A
     obtain⟨_,w,M⟩:=z.bE hh
     have t:∀ id ob,(⟨D.S.nx,D.S.nx,jA D.S.m bE⟩:ag).get id=some ob→id∉bE∧D.S.get id=some ob:=by
      simp_all
     have I:=H _ _ _ f rfl fun id ob e=>(t id ob e).2
     rw[Gb]
     generalize x:Rp p (ag.nx ⟨D.S.nx,D.S.nx,jA D.S.m bE⟩) v=nw
     have:=z.news G b (ids:=[]) (nw:=nw) (Eo:=some ⟨D.S.nx,D.S.nx,jA D.S.m bE⟩) f I rfl (.inr rfl) (fun id ob e=>⟨(t id ob e).2,w id (t id ob e).1⟩) (fun id ob e J i=>absurd i (Nat.not_lt.2 J)) (fun id e _=>by simp at e) (fun id e _ i=>by simp at e)
      (fun id ob e=>by
       rw[←x] at e
       exact LX e) (.inl rfl)
     exact this
 | _=>simp[Tc] at h
end
end
noncomputable section
variable {α : Type}
def bQ (l:List α)(i:Int):Option α:=if 0≤i then l[i.toNat]? else none
def cy (k:IntKind)(n:Int):Bool:=decide (k.wrap n=n)
variable {c : Bool} {x : Option α}
theorem WI {r:α}(h:(if c then x else none)=some r):c=true∧x=some r:=by
 simp_all
theorem sq {β:Type}{f:α→Option β}{r:β}(h:(x>>=f)=some r):∃ a,x=some a∧f a=some r:=by
 cases x<;>simp_all
variable {y r : Option α}
theorem Zk (e:c=true)(h:(if c then x else y)=r):x=r:=by simp_all
theorem ZU (e:c=false)(h:(if c then x else y)=r):y=r:=by simp_all
variable {k : IntKind}
theorem JD {n:Int}(h:cy k n=true):k.wrap n=n:=of_decide_eq_true h
def aA (k:IntKind)(n:Int):AV:=.sc (.int k n)
def gB (b:Bool):AV:=.sc (.bool b)
def encS (s:ByteArray):AV:=.sc (.string s)
variable {i : Int}
theorem AG {l:List α}{x:α}(h:bQ l i=some x):∃ n:Nat,i=n∧l[n]? = some x:=by
 unfold bQ at h
 split at h
 · rename_i b;exact⟨i.toNat,by omega,h⟩
 · simp at h
variable {enc : α → AV}
theorem aer {P:Program}{t el n:Nat}{xs:List α}{x:α}{cs:List AV}(hx:bQ xs i=some x)(h1:P.underlying t=some (.slice el))(h2:tw P el=some n)(b:(enc x).cells=cs)(d:cs.length=n) :
  dQ P ag.empty t (.lit (xs.map enc)) (.sc (.int k i))=some (.dO cs):=by
 obtain⟨m,rfl,e⟩:=AG hx
 simp_all[j8,dQ]
theorem JU (enc:α→AV)(l:List α):some (AV.sc (.int .i64 ((l.map enc).length:Nat)))=some (AV.sc (.int .i64 (l.length:Int))):=by simp_all
theorem dA (h:∀ x,aV (enc x)=true)(l:List α):cG (l.map enc)=true:=by
 induction l<;>simp_all[cG]
def Rr (f:α→AV)(l:List α):AV:=.lit (l.map f)
theorem cu {f:α→AV}(h:∀ x,aV (f x)=true)(l:List α):aV (Rr f l)=true:=by simp[Rr,aV,dA h]
@[simp] theorem afs (k:IntKind)(n:Int):aV (aA k n)=true:=by simp[aA,aV]
@[simp] theorem aft (b:Bool):aV (gB b)=true:=by simp[gB,aV]
@[simp] theorem afu (s:ByteArray):aV (encS s)=true:=by simp[encS,aV]
mutual
theorem AV.dX {σ:Nat→Nat}:∀ {v:AV},aV v=true→v.aX σ=v
 | .sc v,_=>by rw[AV.aX]
 | .agg cs,h=>by rw[AV.aX,mq (by simpa [aV] using h)]
 | .fw,_=>by rw[AV.aX]
 | .an,_=>by rw[AV.aX]
 | .lit es,h=>by rw[AV.aX,mq (by simpa [aV] using h)]
 | .dO cs,h=>by rw[AV.aX,mq (by simpa [aV] using h)]
 | .ptr id i j,h=>by simp[aV] at h
 | .ai id o l,h=>by simp[aV] at h
 | .cR id,h=>by simp[aV] at h
 | .fn f a b,h=>by
   have h:cG a=true∧cG b=true:=by
    simp only[aV] at h
    split at h
    · rename_i e;exact⟨e,h⟩
    · simp at h
   rw[AV.aX,mq h.1,mq h.2]
 | .eB t v,h=>by rw[AV.aX,AV.dX (v:=v) (by simpa [aV] using h)]
 | .bO d,h=>by rw[AV.aX,mq (by simpa [aV] using h)]
 | .sj id,h=>by simp[aV] at h
 | .clip v,h=>by rw[AV.aX,AV.dX (v:=v) (by simpa [aV] using h)]
 | .top,_=>by rw[AV.aX]
theorem mq {σ:Nat→Nat}:∀ {l:List AV},cG l=true→eG σ l=l
 | [],_=>by rw[eG]
 | v::l,h=>by
   have h:aV v=true∧cG l=true:=by
    simp only[cG] at h
    split at h
    · rename_i e;exact⟨e,h⟩
    · simp at h
   rw[eG,AV.dX h.1,mq h.2]
end
inductive Fz (S : ag) : AV → AV → Prop
 | pure {v : AV} (h : aV v = true) : Fz S v v
 | an : Fz S .an (.lit [])
 | fw : Fz S .fw (.lit [])
 | ai {id len sz : Nat} {es es' : List AV} (hg : S.get id = some (.arr sz es)) (hl : len = es.length) (hs : es'.length = es.length)
  (hc : ∀ (i : Nat) (e e' : AV), es[i]? = some e → es'[i]? = some e' → e'.cells.length = e.cells.length)
  (h : ∀ (i j : Nat) (e e' a a' : AV), es[i]? = some e → es'[i]? = some e' → e.cells[j]? = some a → e'.cells[j]? = some a' → Fz S a a') : Fz S (.ai id 0 len) (.lit es')
 | agg {cs cs' : List AV} (hl : cs'.length = cs.length) (h : ∀ (k : Nat) (a a' : AV), cs[k]? = some a → cs'[k]? = some a' → Fz S a a') : Fz S (.agg cs) (.agg cs')
 | bO {cs cs' : List AV} (hl : cs'.length = cs.length) (h : ∀ (k : Nat) (a a' : AV), cs[k]? = some a → cs'[k]? = some a' → Fz S a a') : Fz S (.bO cs) (.bO cs')
 | eB {t : TypeId} {v v' : AV} (h : Fz S v v') : Fz S (.eB t v) (.eB t v')
variable {S : ag} {id len sz : Nat} {es : List AV}
theorem Fz.lT (b:S.get id=some (.arr sz es))(d:len=es.length)(f:cG es=true):Fz S (.ai id 0 len) (.lit es):=
 .ai b d rfl (fun i e g p q=>by simp_all) (fun i j e g a a' p q r s=>by
  rw[p] at q;simp only[ba] at q;subst q
  rw[r] at s;simp only[ba] at s;subst s
  exact .pure (kB (fO f p) r))
inductive EB (S : ag) : List AV → List AV → Prop
 | nil : EB S [] []
 | cons {e e' : AV} {l l' : List AV} (h : Fz S e e') (t : EB S l l') : EB S (e :: l) (e' :: l')
theorem Fz.zF {e m:AV}(h:Fz S e m):m.cells.length=e.cells.length∧∀(j:Nat) (a a' : AV),e.cells[j]? = some a→m.cells[j]? = some a' → Fz S a a' := by
 have one:∀ {u f:AV},u.cells=[u]→f.cells=[f]→Fz S u f→f.cells.length=u.cells.length∧∀(j:Nat) (a a' : AV),u.cells[j]? = some a→f.cells[j]? = some a' → Fz S a a' := by
  intro u f h1 h2 hf
  rw[h1,h2]
  refine⟨rfl,fun j a a' n g=>?_⟩
  cases j<;>simp_all
 cases h with
 | pure h=>exact⟨rfl,fun j a a' n g=>by rw[n] at g;simp only[ba] at g;subst g;exact .pure (kB h n)⟩
 | an=>exact one rfl rfl .an
 | fw=>exact one rfl rfl .fw
 | ai a b c d e=>exact one rfl rfl (.ai a b c d e)
 | agg o h=>exact⟨o,h⟩
 | bO o h=>exact one rfl rfl (.bO o h)
 | eB h=>exact one rfl rfl (.eB h)
variable {l l' : List AV}
theorem EB.spec (h:EB S l l'):l'.length=l.length∧∀(i:Nat) (e b:AV),l[i]? = some e→l'[i]? = some b→Fz S e b:=by
 induction h with
 | nil=>simp_all
 | cons h t d=>
   refine⟨by simp[d.1],fun i e b f g=>?_⟩
   cases i with
   | zero=>simp_all
   | succ i=>exact d.2 i e b (by simpa using f) (by simpa using g)
theorem Fz.zf {b:List AV}(f:S.get id=some (.arr sz es))(g:len=es.length)(h:EB S es b):Fz S (.ai id 0 len) (.lit b):=
 .ai f g h.spec.1 (fun i e d p q=>(h.spec.2 i e d p q).zF.1) (fun i j e d a a' p q r s=>(h.spec.2 i e d p q).zF.2 j a a' r s)
theorem Fz.Yy : Fz S (.agg []) (.agg []):=.agg rfl fun k a a' e=>by simp at e
variable {a a' : AV}
theorem Fz.aw (h:Fz S a a')(t:Fz S (.agg l) (.agg l')):Fz S (.agg (a::l)) (.agg (a' :: l')):=by
 have key:l'.length=l.length∧∀(k:Nat) (a a' : AV),l[k]? = some a→l'[k]? = some a' → Fz S a a' := by
  cases t with
  | pure h=>exact⟨rfl,fun k a a' e d=>by rw[e] at d;simp only[ba] at d;subst d;exact .pure (fO (by simpa [aV] using h) e)⟩
  | agg f h=>exact⟨f,h⟩
 refine .agg (by simp[key.1]) fun k b g e d=>?_
 cases k with
 | zero=>simp_all
 | succ k=>exact key.2 k b g (by simpa using e) (by simpa using d)
theorem Fz.Yz : Fz S (.bO []) (.bO []):=.bO rfl fun k a a' e=>by simp at e
theorem Fz.bw (h:Fz S a a')(t:Fz S (.bO l) (.bO l')):Fz S (.bO (a::l)) (.bO (a' :: l')):=by
 have key:l'.length=l.length∧∀(k:Nat) (a a' : AV),l[k]? = some a→l'[k]? = some a' → Fz S a a' := by
  cases t with
  | pure h=>exact⟨rfl,fun k a a' e d=>by rw[e] at d;simp only[ba] at d;subst d;exact .pure (fO (by simpa [aV] using h) e)⟩
  | bO f h=>exact⟨f,h⟩
 refine .bO (by simp[key.1]) fun k b g e d=>?_
 cases k with
 | zero=>simp_all
 | succ k=>exact key.2 k b g (by simpa using e) (by simpa using d)
theorem Fz.aX {σ:Nat→Nat}{S o:ag}(hs:EA σ S o){v v' : AV}(h:Fz S v v'):Fz o (v.aX σ) (v'.aX σ):=by
 have key:∀ {l:List AV} {k:Nat} {a:AV},(eG σ l)[k]? = some a→∃ b,l[k]? = some b∧a=b.aX σ:=by
   intro l k a e
   rw[jb] at e
   cases hb:l[k]? <;> simp_all
 induction h with
 | pure h=>rw[AV.dX h];exact .pure h
 | an=>rw[AV.aX,AV.aX,eG];exact .an
 | fw=>rw[AV.aX,AV.aX,eG];exact .fw
 | ai t n A u h d=>
   rw[AV.aX,AV.aX]
   refine .ai (hs.get _ _ t) (by rw[bm];exact n) (by simp_all[bm]) (fun i e w p q=>?_) (fun i j e w a a' p q r s=>?_)
   · obtain⟨b,f,rfl⟩:=key p
     obtain⟨g,m,rfl⟩:=key q
     rw[AV.gA,AV.gA,bm,bm]
     exact u i b g f m
   · obtain⟨b,f,rfl⟩:=key p
     obtain⟨g,m,rfl⟩:=key q
     rw[AV.gA] at r s
     obtain⟨c,z,rfl⟩:=key r
     obtain⟨c', s', rfl⟩:=key s
     exact d i j b g c c' f m z s'
 | agg n h d=>
   rw[AV.aX,AV.aX]
   refine .agg (by rw[bm,bm];exact n) fun k a a' p q=>?_
   obtain⟨b,f,rfl⟩:=key p
   obtain⟨g,m,rfl⟩:=key q
   exact d k b g f m
 | bO n h d=>
   rw[AV.aX,AV.aX]
   refine .bO (by rw[bm,bm];exact n) fun k a a' p q=>?_
   obtain⟨b,f,rfl⟩:=key p
   obtain⟨g,m,rfl⟩:=key q
   exact d k b g f m
 | eB h d=>rw[AV.aX,AV.aX];exact .eB d
variable {v v' : AV}
theorem Fz.sound {g C:Gh}{w:World}(hi:Inv S g w)(I:Gh.frozen S g w C)(h:Fz S v v'):∀ {x:Value},VR g v x→VR C v' x:=by
 induction h with
 | pure h=>intro x f;exact f.mono I.1
 | an=>intro x f;cases f;exact .jZ
 | fw=>intro x f;cases f;exact .jZ
 | ai o n hs J h p=>
   intro x f
   cases f with
   | ai K B hb=>
     rename_i l
     obtain⟨l', D,q2,q3⟩:=hi.ob _ _ o
     rw[K] at D;simp only[ba] at D;subst D
     obtain⟨c,t,M,U,E,V,N,O⟩:=q3
     have F:=I.2.2 _ _ l c t (0,0) o K M
     rename_i es z cap
     subst n
     rw[←hs]
     have:VR C (.lit z) (.slice (some ⟨l.cU,l.base+0*l.sz,none⟩) z.length cap):=by
      refine .lit (sz:=l.sz) F (fun e Q=>?_) (by rw[hs,E];omega) (by rw[hs];exact B) (fun i j e a x m u R=>?_)
      · obtain⟨k,L⟩:=gM Q
        have d:k<es.length:=by rw[←hs];exact(lr.1 L).1
        have b:es[k]? = some es[k]:=qm d
        rw[J k _ e b L,E]
        exact N _ (cM d)
      · have d:i<es.length:=by rw[←hs];exact(lr.1 m).1
        have b:es[i]? = some es[i]:=qm d
        have G:j<es[i].cells.length:=by rw[←J i _ e b m];exact(lr.1 u).1
        have A:es[i].cells[j]? = some es[i].cells[j]:=qm G
        exact p i j _ e _ a b m A u (O i j _ _ x b A (by rw[←E,←R];congr 1;omega))
     exact this
   | hZ=>
     obtain rfl:=xq.1 (hs.trans n.symm)
     exact .jZ
 | agg n h p=>
   intro x f
   cases f with
   | agg q hh=>
     refine .agg (by rw[n];exact q) fun k a x m u=>?_
     rename_i cs H xs
     have d:k<cs.length:=by rw[←n];exact(lr.1 m).1
     have b:cs[k]? = some cs[k]:=qm d
     exact p k _ a b m (hh k _ x b u)
 | bO n h p=>
   intro x f
   cases f with
   | bO q hh=>
     refine .bO (by rw[n];exact q) fun k a x m u=>?_
     rename_i cs H xs
     have d:k<cs.length:=by rw[←n];exact(lr.1 m).1
     have b:cs[k]? = some cs[k]:=qm d
     exact p k _ a b m (hh k _ x b u)
 | eB h p=>intro x f;cases f with | eB hh=>exact .eB (p hh)
def wS (s:St):Option AV:=
 match s with
 | .done (.ret v) _=>some v
 | _=>none
section
variable {T : FT} {P : Program} {Qf : gL → ag → Prop}
variable {s : St}
theorem aes (d:di T P)(b:P.follows .mixedOrders=true)(n:Nat)(h:wS (ab T P n s)=some v)(e:∀ S,Qf (.ret v) S):br P Qf s:=by
 refine cO d b n ?_
 generalize ab T P n s=s at h
 unfold wS at h
 split at h<;>simp only[ba,reduceCtorEq] at h
 subst h
 exact e _
def RQ (v' : AV):gL→ag→Prop:=fun r S=>∃ v,r=.ret v∧Fz S v v'
theorem Is (d:aV v' = true):vq 0 (RQ v'):=by
 rintro σ b _ r S e ⟨v,rfl,h⟩ hs
 refine⟨v.aX σ,rfl,?_⟩
 have:=h.aX hs
 simp_all[AV.dX]
theorem YA (d:di T P)(b:P.follows .mixedOrders=true)(n:Nat)(h:wS (ab T P n s)=some v)(e:aV v=true):br P (RQ v) s:=
 aes d b n h fun _=>⟨v,rfl,.pure e⟩
theorem YB (C:di T P){f:Nat}{args:List AV}(ha:cG args=true)(D:aV v=true)(h:br P (RQ v) (St.start T f args ag.empty))(S:ag) :
   fY P f args S fun r n=>r=.ret v∧n=S:=by
 refine fY.frame ha D ?_ S
 have h:=Cm C h
 intro g w xs hx hi
 refine(h g w xs hx hi).mono fun e w' ⟨r,n,g', ⟨v0,E,hf⟩,j,p,d⟩=>?_
 subst E
 have z:=Gh.jY p
 have u:∀ id,(⟨n.nx,n.lim,.nil⟩:ag).get id=none:=fun id=>AA _ _ id
 have m:∀ b c,(g'.freeze n w').ro b=some c→g'.ro b=some c∨(∃ t fz,w'.heap[b]? = some (.cells c t fz))∧∃ id o l,n.get id=some o∧g'.ph id=some l∧l.cU=b:=by
   intro b c e
   simp only[Gh.freeze] at e
   split at e
   · rename_i c' F;simp only[ba] at e;subst e;exact .inl F
   · split at e
     · rename_i c' t fz hh
       split at e<;>simp only[ba,reduceCtorEq] at e
       rename_i A
       subst e;exact .inr ⟨⟨t,fz,hh⟩,A⟩
     · simp at e
 refine⟨.ret v,⟨n.nx,n.lim,.nil⟩,g'.freeze n w', rfl,?_,⟨?_,?_,?_,?_⟩,⟨d.size,d.os,d.tape,d.output,d.jr,?_,Gh.le_trans d.pc z.1,d.nx,d.lim,?_,d.wY,?_,fun id _ _=>u id,d.fz⟩⟩
 · cases e with
   | returned x=>exact Fz.sound p z hf j
   | panicked c=>exact j.elim
   | outgrown=>exact j.elim
 · intro b c e
   rcases m b c e with q | ⟨q,_⟩
   · exact p.ro b c q
   · exact q
 · intro id o e;rw[u] at e;simp at e
 · intro id H o o' l l' e;rw[u] at e;simp at e
 · exact p.fresh
 · intro id o l e;rw[u] at e;simp at e
 · intro id bE;exact absurd bE (Nat.not_lt_zero id)
 · intro b c e hb
   rcases m b c e with q | ⟨_,id,o,l,G,q2,q3⟩
   · exact d.C2 b c q hb
   · obtain⟨I,o0,J,B,_⟩:=d.own id o l G (bU id) q2 (by rw[q3];exact hb)
     rw[ag.fN] at B;simp at B
end
end
noncomputable section
def qM (σ:Nat→Nat):bg→Bool
 | .zp id=>Nat.beq (σ id) id
 | .n9 id=>Nat.beq (σ id) id
 | _=>true
def JE (σ:Nat→Nat):AV→Bool
 | .ptr id _ _=>Nat.beq (σ id) id
 | v=>aV v
def AH (σ:Nat→Nat):hU→Bool
 | .nq id=>Nat.beq (σ id) id
 | .call _ cap args=>cap.all (JE σ)&&args.all (JE σ)
 | .uJ _=>true
def AW : dr→Bool
 | .panicking _=>false
 | _=>true
def QD (σ:Nat→Nat):Option Nat→Bool
 | some id=>Nat.beq (σ id) id
 | none=>true
def ju (σ:Nat→Nat)(F:ae):Bool:=F.todo.all (qM σ)&&F.defers.all (AH σ)&&AW F.mode&&AW F.cm&&QD σ F.round
def re (σ:Nat→Nat):cH→Bool
 | .nil=>true
 | .call _ F _ _ _ td next=>ju σ F&&td.all (qM σ)&&re σ next
 | .rW _ F ds next=>ju σ F&&ds.all (AH σ)&&re σ next
 | .loop _ F d i td next=>ju σ F&&td.all (qM σ)&&Nat.beq (σ d) d&&Nat.beq (σ i) i&&re σ next
 | .round _ F _ _ _ td id next=>ju σ F&&td.all (qM σ)&&Nat.beq (σ id) id&&re σ next
 | _=>false
def zg (σ:Nat→Nat):St→Bool
 | .run _ F _ k=>ju σ F&&re σ k
 | _=>false
section
variable {σ : Nat → Nat}
theorem mb : ∀ {l:List bg},l.all (qM σ)=true→l.map (bg.aX σ)=l:=by
 intro l
 induction l with
 | nil=>intro _;rfl
 | cons a l b=>
   intro h
   simp only[nB,aY] at h
   rw[dH,b h.2]
   cases a with
   | zp id=>simp only[bg.aX];rw[np h.1]
   | n9 id=>simp only[bg.aX];rw[np h.1]
   | _=>rfl
theorem Sj : ∀ {l:List AV},l.all (JE σ)=true→eG σ l=l:=by
 intro l
 induction l with
 | nil=>intro _;rfl
 | cons a l b=>
   intro h
   simp only[nB,aY] at h
   have:a.aX σ=a:=by
    have h1:=h.1
    unfold JE at h1
    split at h1
    · simp only[AV.aX];simp_all
    · exact AV.dX h1
   simp_all[eG]
theorem zO : ∀ {l:List hU},l.all (AH σ)=true→l.map (hU.aX σ)=l:=by
 intro l
 induction l with
 | nil=>intro _;rfl
 | cons a l b=>
   intro h
   simp only[nB,aY] at h
   rw[dH,b h.2]
   cases a<;>simp_all[id,hU.aX,np,AH,aY,Sj]
theorem MN {m:dr}(h:AW m=true):m.aX σ=m:=by
 cases m<;>first | rfl | simp[AW] at h
theorem Pl {r:Option Nat}(h:QD σ r=true):r.map σ=r:=by
 cases r with
 | none=>rfl
 | some id=>simp only[j9];rw[np h]
theorem gY {F:ae}(h:ju σ F=true):Jo σ F=Au F:=by
 simp_all[ju,Jo,Au,mb,zO,MN,Pl]
theorem Sk : ∀ {k:cH},re σ k=true→Fs σ k:=by
 intro k
 induction k with
 | nil=>intro _;trivial
 | hole G=>intro h;simp[re] at h
 | call fn F o all rest td next a=>intro h;simp only[re,aY] at h;exact⟨gY h.1.1,mb h.1.2,a h.2⟩
 | rW fn F ds next a=>intro h;simp only[re,aY] at h;exact⟨gY h.1.1,zO h.1.2,a h.2⟩
 | loop fn F d i td next a=>
   intro h;simp only[re,aY] at h
   exact⟨gY h.1.1.1.1,mb h.1.1.1.2,np h.1.1.2,np h.1.2,a h.2⟩
 | round fn F o all rest td id next a=>
   intro h;simp only[re,aY] at h
   exact⟨gY h.1.1.1,mb h.1.1.2,np h.1.2,a h.2⟩
 | fU D o os E c bE b next a=>intro h;simp[re] at h
variable {s : St}
theorem VK (h:zg σ s=true):Ud σ s:=by
 cases s with
 | run fn F S k=>simp only[zg,aY] at h;exact⟨gY h.1,Sk h.2⟩
 | _=>simp[zg] at h
end
def N8 (n:Nat):List (Nat×aO)→Bool
 | []=>false
 | (k,_)::r=>match Nat.beq k n with
   | true=>true
   | false=>N8 n r
def mO : List (Nat×aO)→Bool
 | []=>true
 | (k,_)::r=>match N8 k r with
   | true=>false
   | false=>mO r
theorem VL : ∀(l:List (Nat×aO)) (m:PT) (id:Nat),N8 id l=false→PT.get dep (Lm m l) id=PT.get dep m id:=by
 intro l
 induction l with
 | nil=>intro m id _;rfl
 | cons a l c=>
   obtain⟨k,o⟩:=a
   intro m id h
   simp only[N8] at h
   split at h
   · simp at h
   · rename_i d
     have b:k≠id:=by rintro rfl;simp_all
     show PT.get dep (Lm (PT.set dep m k (some o)) l) id=_
     rw[c _ _ h,PT.tN _ _ _ _ _ b]
theorem QE : ∀(l:List (Nat×aO)) (m:PT),mO l=true→∀ id o,(id,o)∈l→PT.get dep (Lm m l) id=some o:=by
 intro l
 induction l with
 | nil=>simp_all
 | cons a l b=>
   obtain⟨k,x⟩:=a
   intro m h id o c
   simp only[mO] at h
   split at h
   · simp at h
   · rename_i d
     show PT.get dep (Lm (PT.set dep m k (some x)) l) id=some o
     rcases cF.1 c with e | e
     · simp only[lR] at e;obtain⟨rfl,rfl⟩:=e
       rw[VL _ _ _ d,PT.cQ]
     · exact b _ h id o e
variable {nx : Nat}
theorem IS {l:List (Nat×aO)}(h:mO l=true):aE (pg nx l) l:=by
 have:∀ r:List (Nat×aO),(∀ id o,(id,o)∈r→(id,o)∈l)→aE (pg nx l) r:=by
  intro r
  induction r with
  | nil=>intro _;trivial
  | cons p r b=>
    obtain⟨i,x⟩:=p
    intro a
    exact⟨QE l .nil h i x (a i x (jq ..)),b fun id o e=>a id o (Ez _ e)⟩
 simp_all
theorem EO (N nx i:Nat):kK [] N nx i=if N≤i then nx+(i-N) else i:=by
 simp only[kK]
 split
 · simp_all
 · rename_i e;rw[if_neg (fun q=>by rw[EY q] at e;simp at e)]
theorem AX (c a:Nat)(r:List (Nat×Nat))(N nx i:Nat):kK ((c,a)::r) N nx i=if c=i then a else kK r N nx i:=by
 simp only[kK]
 cases hb:Nat.beq c i with
 | true=>simp_all
 | false=>rw[if_neg (fun q=>by simp_all)]
theorem mV {α:Type}{σ:Nat→Nat}{enc:α→AV}(h:∀ x,aV (enc x)=true)(l:List α):eG σ (l.map enc)=l.map enc:=mq (dA h l)
def yH (P:Program)(s:St):Option dg:=
 match s with
 | .run fn F S k=>Zj P (.run fn F S k)
 | .fU D k=>Ts P (.fU D k)
 | _=>none
def fe (s:St):ag:=
 match s with
 | .run _ _ S _=>S
 | .fU D _=>match D.os with
   | o::_=>⟨D.S.nx,D.S.lim,seen D.S (ay D.dt o.after.toList) D.kx (iG D.F (iY o.op)) .nil⟩
   | []=>ag.empty
 | _=>ag.empty
def Jp (r:dg)(s:St):St:=
 match s with
 | .run fn F S k=>match r with
   | .val v a=>ak v (some a) (.run fn F S k)
   | .skip a=>ak (.bO []) (some a) (.run fn F S k)
   | _=>.bad 72
 | .fU D k=>Rq r (.fU D k)
 | _=>.bad 72
def j7 (r:dg)(s:St):Bool:=
 match r with
 | .val _ _=>((dI s).bind (·.dst)).isSome
 | .skip _ => !((dI s).bind (·.dst)).isSome
 | _=>false
section
variable {T : FT} {P : Program} {Qf : gL → ag → Prop}
variable {s : St}
theorem UH (b:di T P)(a:P.follows .mixedOrders=true)(n:Nat)(o:Option dg)(r:dg)(h:yH P (ab T P n s)=o)(c:j7 r (ab T P n s)=true)(d:o=some r)(q:br P Qf (Jp r (ab T P n s))):br P Qf s:=by
 refine cO b a n ?_
 generalize ab T P n s=s at h q c
 have h:=h.trans d
 cases s with
 | run fn F S k=>
   simp only[yH] at h
   cases r with
   | val v f=>exact Yv b h (by intro e;simp_all[j7]) q
   | skip f=>exact VF b h (by simp_all[j7]) q
   | _=>simp[j7] at c
 | fU D k=>
   simp only[yH] at h
   exact aeq b a 0 _ r h rfl q
 | _=>simp[yH] at h
def eH (r:ag→dg)(s:St):St:=Jp (r (fe s)) s
def BT : St→ag
 | .done _ S=>S
 | _=>ag.empty
theorem QF (b:di T P)(a:P.follows .mixedOrders=true)(n:Nat)(o:ag→Option dg)(r:ag→dg)(h:yH P (ab T P n s)=o (fe (ab T P n s)))(c:j7 (r (fe (ab T P n s))) (ab T P n s)=true)(d:o (fe (ab T P n s))=some (r (fe (ab T P n s))))(q:br P Qf (eH r (ab T P n s))):br P Qf s:=UH b a n _ _ h c d q
variable {v : AV}
theorem YC (c:di T P)(a:P.follows .mixedOrders=true)(n:Nat){v' : AV}(h:wS (ab T P n s)=some v)(b:Fz (BT (ab T P n s)) v v'):br P (RQ v') s:=by
 refine cO c a n ?_
 generalize ab T P n s=s at h b
 unfold wS at h
 split at h<;>simp only[ba,reduceCtorEq] at h
 subst h
 exact⟨_,rfl,b⟩
theorem aet (c:di T P)(a:P.follows .mixedOrders=true)(n:Nat)(b:Bool)(h:yH P (ab T P n s)=some (.val (.sc (.bool b)) (fe (ab T P n s))))(d:j7 (.val (.sc (.bool b)) (fe (ab T P n s))) (ab T P n s)=true)(e:b=true→br P Qf (Jp (.val (.sc (.bool true)) (fe (ab T P n s))) (ab T P n s)))(f:b=false→br P Qf (Jp (.val (.sc (.bool false)) (fe (ab T P n s))) (ab T P n s))):br P Qf s:=by
 refine UH c a n _ (.val (.sc (.bool b)) (fe (ab T P n s))) h d rfl ?_
 cases b<;>simp_all
end
section
variable {P : Program} {α : Type} {enc : α → AV}
variable {n : Nat}
theorem ed (h:∀ x,(enc x).cells.length=n)(a:∀ x,(enc x).cells.all eI=true)(l:List α):sized n (l.map enc)=true:=by
 simp only[sized,List.all_map,dh]
 intro x _
 simp[h x,a x]
variable {S : ag}
theorem bC {ys:List α}(src:AV)(h:src=.lit (ys.map enc)∨∃ id sz,src=.ai id 0 ys.length∧S.get id=some (.arr sz (ys.map enc))):iX S src=some (ys.map enc):=by
 rcases h with rfl | ⟨id,sz,rfl,h⟩
 · rfl
 · have hb:Nat.ble ys.length ys.length=true:=EY (bJ _)
   simp[iX,sD,h,hb]
   rw[←rf (f:=enc),List.take_length]
def Lp (P:Program)(t el sz:Nat):Bool:=
 match P.underlying t,P.info? el,ja P el with
 | some (.slice a),some i,some z=>Nat.beq a el&&Nat.ble 1 i.size&&Nat.ble i.bytes 4096&&Nat.beq z.cells.length i.size&&z.cells.all eI&&Nat.beq sz i.size
 | _,_,_=>false
def Lq (P:Program)(t:Nat):Bool:=
 match P.underlying t with
 | some (.slice _)=>true
 | _=>false
variable {t el sz : Nat}
theorem u7 {P:Program}(h:Lp P t el sz=true):∃ i z,P.underlying t=some (.slice el)∧P.info? el=some i∧ja P el=some z∧(Nat.ble 1 i.size&&Nat.ble i.bytes 4096&&Nat.beq z.cells.length i.size&&z.cells.all eI&&Nat.beq sz i.size)=true:=by
 unfold Lp at h
 split at h<;>try (simp at h;done)
 simp_all
theorem u9 {P:Program}(h:Lq P t=true):∃ el,P.underlying t=some (.slice el):=by
 unfold Lq at h
 split at h
 all_goals simp_all
def mQ (P:Program)(S:ag)(st xt:TypeId)(s x:AV):Option dg:=lu P S .append [st,xt] [s,x]
variable {st xt id len : Nat} {src : AV}
theorem oh {xs ys:List α}(m:Lp P st el sz=true)(o:Lq P xt=true)(b:∀ x,(enc x).cells.length=sz)(a:∀ x,(enc x).cells.all eI=true)(c:S.get id=some (.arr sz (xs.map enc)))(d:iX S src=some (ys.map enc))(g:len=xs.length)(p:S.nx=nx)(e:(Nat.ble (S.nx+1) 8192&&Nat.ble S.lim S.nx)=true)(q:Nat.ble S.lim id=true)(r:ys≠[])(u:xs.length+ys.length≤1048576):mQ P S st xt (.ai id 0 len) src=some (.val (.ai nx 0 (xs++ys).length) ((S.del id).add (.arr sz ((xs++ys).map enc)))):=by
 obtain⟨i,z,w,hi,G,F⟩:=u7 m
 obtain⟨H,A⟩:=u9 o
 simp only[aY] at F e
 obtain⟨⟨⟨⟨h1,h2⟩,h3⟩,h4⟩,l⟩:=F
 have l:=np l
 subst l
 subst g
 subst p
 have B:=ed (enc:=enc) b a xs
 have f:=ed (enc:=enc) b a ys
 have h:iX S (.ai id 0 xs.length)=some (xs.map enc):=bC _ (.inr ⟨id,_,rfl,c⟩)
 cases ys with
 | nil=>exact absurd rfl r
 | cons y ys=>
   simp only[dH] at d f
   have k:Nat.ble ((xs.map enc).length+(enc y::ys.map enc).length) 1048576=true:=EY (by simpa using u)
   have hb:Nat.beq i.size i.size=true:=vD _
   have C:(S.del id).nx=S.nx:=rfl
   have D:(S.del id).lim=S.lim:=rfl
   have E:B9 S id 0 xs.length i.size (enc y::ys.map enc)=none:=by
    have:Nat.ble (0+xs.length+(enc y::ys.map enc).length) (xs.map enc).length=false:=by
     cases hb:Nat.ble (0+xs.length+(enc y::ys.map enc).length) (xs.map enc).length with
     | false=>rfl
     | true=>exfalso;have:=gb hb;simp at this;omega
    simp_all[B9]
   simp only[mQ,lu,qL,w,A,hi,G,d,f,h1,h2,h3,h4,ri,c,h,E,k,B,q,hb,gI,C,D,e.1,e.2]
   congr 2
   · simp
   · simp
theorem AI {s:AV}{ys:List α}(h:s=.an∨s=.fw)(k:Lp P st el sz=true)(l:Lq P xt=true)(d:∀ x,(enc x).cells.length=sz)(a:∀ x,(enc x).cells.all eI=true)(b:iX S src=some (ys.map enc))(m:S.nx=nx)(c:(Nat.ble (S.nx+1) 8192&&Nat.ble S.lim S.nx)=true)(o:ys≠[])(p:ys.length≤1048576):mQ P S st xt s src=some (.val (.ai nx 0 ys.length) (S.add (.arr sz (ys.map enc)))):=by
 obtain⟨i,z,q,hi,w,u⟩:=u7 k
 obtain⟨A,r⟩:=u9 l
 simp only[aY] at u c
 obtain⟨⟨⟨⟨h1,h2⟩,h3⟩,h4⟩,g⟩:=u
 have g:=np g
 subst g
 subst m
 have e:=ed (enc:=enc) d a ys
 cases ys with
 | nil=>exact absurd rfl o
 | cons y ys=>
   simp only[dH] at b e
   have f:Nat.ble (enc y::ys.map enc).length 1048576=true:=EY (by simpa using p)
   rcases h with rfl | rfl <;>
   · simp only[mQ,lu,qL,q,r,hi,w,b,e,h1,h2,h3,h4,ri,f,gI,c.1,c.2]
     congr 2
     simp
variable {es : List AV}
theorem dJ {s:AV}{ys:List α}(c:Lp P st el sz=true)(d:Lq P xt=true)(a:iX S src=some (ys.map enc))(hy:ys.isEmpty=true)(hs:iX S s=some es)(e:sized sz es=true) :
  mQ P S st xt s src=some (.val s S):=by
 obtain⟨i,z,f,hi,k,h⟩:=u7 c
 obtain⟨l,g⟩:=u9 d
 simp only[aY] at h
 obtain⟨⟨⟨⟨h1,h2⟩,h3⟩,h4⟩,b⟩:=h
 have b:=np b
 subst b
 have:ys=[]:=List.isEmpty_iff.1 hy
 subst this
 simp only[mQ,lu,qL,f,g,hi,k,a,sH,show sized i.size []=true from rfl,h1,h2,h3,h4,ri,hs,e]
theorem bK {ys:List α}(h:ys.isEmpty=false):ys≠[]:=by rintro rfl;simp at h
def w4 (P:Program)(S:ag)(t:TypeId)(a b:AV):Option dg:=mP S (dQ P S t a b)
variable {i : Int}
theorem lK {xs:List α}{x:α}{k:IntKind}(hx:bQ xs i=some x)(a:len=xs.length)(h1:P.underlying t=some (.slice el))(h2:tw P el=some n)(b:S.get id=some (.arr n es)) :
  w4 P S t (.ai id 0 len) (.sc (.int k i))=some (.val (.ptr id (0+i.toNat) 0) S):=by
 obtain⟨m,rfl,c⟩:=AG hx
 have d:m<xs.length:=(lr.1 c).1
 show mP S (dQ P S t (.ai id 0 len) (.sc (.int k (.ofNat m))))=_
 simp only[dQ,h1,h2,b,vD,show Nat.ble (m+1) len=true from EY (by omega),mP]
 rfl
def WS (P:Program)(S:ag)(t:TypeId)(p:AV):Option dg:=
 match ld S p with
 | some cs=>mP S (um P t cs)
 | none=>none
variable {v : AV} {j : Nat} {cs : List AV}
theorem zG {xs:List α}{x:α}(hx:bQ xs i=some x)(b:S.get id=some (.arr n (xs.map enc)))(a:(enc x).cells=cs)(c:Nat.ble j cs.length=true)(d:um P t (cs.drop j)=some v) :
  WS P S t (.ptr id (0+i.toNat) j)=some (.val v S):=by
 obtain⟨m,rfl,f⟩:=AG hx
 have e:nth (xs.map enc) (0+(m:Int).toNat)=some (enc x):=by rw[j8];simp[f]
 simp only[WS,ld,b,e,a,c,d,mP]
def Lh (P:Program)(S:ag)(t:TypeId)(p v:AV):Option dg:=NT (x5 P S t p v)
theorem py {m:Nat}{xs:List α}{x x' : α}(hx:bQ xs i=some x)(b:S.get id=some (.arr n (xs.map enc)))(a:(enc x).cells=cs)(c:tw P t=some m)(d:(Nat.beq v.cells.length m&&Nat.ble (j+m) cs.length&&v.cells.all eI&&Nat.ble S.lim id)=true)(f:akx (mS cs j v.cells)=enc x') :
  Lh P S t (.ptr id (0+i.toNat) j) v=some (.skip (S.set id (.arr n ((xs.set i.toNat x').map enc)))):=by
 obtain⟨q,rfl,g⟩:=AG hx
 have e:nth (xs.map enc) (0+(q:Int).toNat)=some (enc x):=by rw[j8];simp[g]
 simp only[Lh,x5,b,e,c,a,d,f,NT]
 simp_all
end
end
noncomputable section
structure cX (T : FT) (P : Program) : Prop where
 ok : di T P
 mix : P.follows .mixedOrders = true
structure SX (P : Program) (Q : gL → ag → Prop) (s : St) : Prop where
 out : br P Q s
mutual
def wN : AV→AV
 | .an=>.lit []
 | .fw=>.lit []
 | .agg cs=>.agg (vx cs)
 | v=>v
def vx : List AV→List AV
 | []=>[]
 | v::l=>wN v::vx l
end
theorem AY (l:List AV)(k:Nat):(vx l)[k]? = l[k]?.map wN:=by
 induction l generalizing k with
 | nil=>simp[vx]
 | cons a l c=>cases k<;>simp[vx,c]
theorem nU (l:List AV):(vx l).length=l.length:=by
 induction l<;>simp_all[vx]
theorem VR.wN {g:Gh}{v:AV}{x:Value}(h:VR g v x):VR g (Go.Eng.wN v) x:=by
 induction h with
 | an=>rw[Go.Eng.wN];exact .jZ
 | fw=>rw[Go.Eng.wN];exact .jZ
 | agg f _ j=>
   rw[Go.Eng.wN]
   refine .agg (by rw[nU];exact f) fun k a x e l=>?_
   rw[AY] at e
   rename_i cs xs _
   cases hb:cs[k]? with
   | none=>rw[hb] at e;simp at e
   | some b=>rw[hb] at e;simp at e;subst e;exact j k b x hb l
 | sc h=>rw[Go.Eng.wN];exact .sc h;all_goals simp
 | lit a b c d e=>rw[Go.Eng.wN];exact .lit a b c d e;all_goals simp
 | jZ=>rw[Go.Eng.wN];exact .jZ;all_goals simp
 | dO a b c=>rw[Go.Eng.wN];exact .dO a b c;all_goals simp
 | ptr a=>rw[Go.Eng.wN];exact .ptr a;all_goals simp
 | ai a b c=>rw[Go.Eng.wN];exact .ai a b c;all_goals simp
 | hZ a b=>rw[Go.Eng.wN];exact .hZ a b;all_goals simp
 | cR a=>rw[Go.Eng.wN];exact .cR a;all_goals simp
 | fn a b c d=>rw[Go.Eng.wN];exact .fn a b c d;all_goals simp
 | eB a=>rw[Go.Eng.wN];exact .eB a;all_goals simp
 | bO a b=>rw[Go.Eng.wN];exact .bO a b;all_goals simp
 | sj a=>rw[Go.Eng.wN];exact .sj a;all_goals simp
 | clip a=>rw[Go.Eng.wN];exact .clip a;all_goals simp
 | top=>exact .top
theorem hM.wN {g:Gh}{l:List AV}{xs:Array Value}(h:hM g l xs):hM g (vx l) xs:=by
 refine⟨by rw[nU];exact h.1,fun k a x e c=>?_⟩
 rw[AY] at e
 cases hb:l[k]? with
 | none=>rw[hb] at e;simp at e
 | some b=>rw[hb] at e;simp at e;subst e;exact(h.2 k b x hb c).wN
def pz (s:ByteArray)(i:Int):Option Int:=if 0≤i then(s[i.toNat]?).map fun b=>(b.toNat:Int) else none
def Jq (P:Program)(S:ag)(t:TypeId)(a b:AV):Option dg:=mP S (og P t a b)
variable {k : IntKind} {i : Int}
theorem yq (h:0≤i):wo (.sc (.int k i))=some i.toNat:=by
 obtain⟨n,rfl⟩:=Int.eq_ofNat_of_zero_le h
 rfl
variable {P : Program} {b : Int}
theorem vI {S:ag}{t:Nat}{s:ByteArray}(h:pz s i=some b)(hu:P.underlying t=some .string):Jq P S t (.sc (.string s)) (.sc (.int k i))=some (.val (.sc (.int .u8 b)) S):=by
 unfold pz at h
 split at h<;>try (simp at h;done)
 rename_i c
 cases hb:s[i.toNat]? <;> simp_all[none,some,j9,ba,Jq,og,yq,mP]
def Tt (P : Program) : List Field → List AV → List AV → Option (List Bool)
 | [], _, _ => some []
 | f :: fs, xs, ys => if f.name ≠ "_" ∧ Rk P f.type = some false then
    match nth xs f.offset, nth ys f.offset with
    | some (.sc a), some (.sc b) => match W0 P f.type a b, Tt P fs xs ys with
      | some e, some l => some (e :: l)
      | _, _ => none
    | _, _ => none
   else none
variable {xs ys : List AV}
theorem Sl : ∀ {fs:List Field} {l:List Bool},Tt P fs xs ys=some l→N4 P fs xs ys=some (l.all id):=by
 intro fs
 induction fs with
 | nil=>intro l h;simp only[Tt,ba] at h;subst h;rfl
 | cons f fs j=>
   intro l h
   simp only[Tt] at h
   split at h
   · rename_i c
     split at h
     · rename_i a b d g
       split at h<;>simp only[ba,reduceCtorEq] at h
       rename_i e l' h1 h2
       subst h
       simp only[N4,if_pos c,d,g,h1]
       cases e<;>simp_all
     · simp at h
   · simp at h
def ags (P:Program)(t:TypeId)(xs ys:List AV):Option (List Bool):=
 match P.underlying t with
 | some (.struct fs)=>match P.stoodInHeld t||P.eqGuardType P.depth t with
   | false=>Tt P fs.toList xs ys
   | true=>none
 | _=>none
theorem JF {t:TypeId}{l:List Bool}(h:ags P t xs ys=some l):uP P .eql t (.agg xs) (.agg ys)=some (.sc (.bool (l.all id)))∧uP P .neq t (.agg xs) (.agg ys)=some (.sc (.bool (!(l.all id)))):=by
 unfold ags at h
 split at h<;>try (simp at h;done)
 rename_i fs hu
 split at h<;>try (simp at h;done)
 simp_all[uP,Sl,n8]
def Je (P:Program)(S:ag)(t:TypeId)(a:AV)(lo hi:Option AV):Option dg:=mP S (vH P S t a lo hi)
section
variable {P : Program} {α : Type} {enc : α → AV} {S : ag} {t el n : Nat} {xs : List α}
theorem UI (c:∀ x,(enc x).cells.length=n):(xs.map enc).all (fun e=>Nat.beq e.cells.length n)=true:=by
 simp_all
theorem Tu {d:IntKind}(hu:P.underlying t=some (.slice el))(e:tw P el=some n)(c:∀ x,(enc x).cells.length=n)(h:0≤b∧b≤xs.length) :
  Je P S t (.lit (xs.map enc)) none (some (.sc (.int d b)))=some (.val (.lit ((xs.take b.toNat).map enc)) S):=by
 simp only[Je,vH,hu,e,Lc,yq h.1,UI c,ri,show Nat.ble 0 b.toNat=true from EY (by omega),
  show Nat.ble b.toNat (xs.map enc).length=true from EY (by simp;omega),mP]
 simp_all
variable {a : Int}
theorem Hd (hu:P.underlying t=some (.slice el))(d:tw P el=some n)(c:∀ x,(enc x).cells.length=n)(h:0≤a∧a≤xs.length) :
  Je P S t (.lit (xs.map enc)) (some (.sc (.int k a))) none=some (.val (.lit ((xs.drop a.toNat).map enc)) S):=by
 simp only[Je,vH,hu,d,Lc,yq h.1,UI c,ri,show Nat.ble a.toNat (xs.map enc).length=true from EY (by simp;omega),
  show Nat.ble (xs.map enc).length (xs.map enc).length=true from EY (bJ _),mP]
 congr 3
 rw[List.take_length,aeo]
def akG (P:Program)(S:ag)(t:TypeId)(l c:AV):Option dg:=DK (nT P S t l c)
def alN (P:Program)(t el sz bytes:Nat)(z0:AV):Prop:=∃ i,P.underlying t=some (.slice el)∧P.info? el=some i∧ja P el=some z0∧(Nat.beq z0.cells.length i.size&&Nat.ble 1 i.size&&z0.cells.all eI&&Nat.beq sz i.size&&Nat.beq bytes i.bytes)=true
def Uf (P:Program)(t sz bytes:Nat):Option (Nat×AV):=
 match P.underlying t with
 | some (.slice el)=>match P.info? el,ja P el with
   | some i,some z=>match Nat.beq z.cells.length i.size&&Nat.ble 1 i.size&&z.cells.all eI&&Nat.beq sz i.size&&Nat.beq bytes i.bytes with
     | true=>some (el,z)
     | false=>none
   | _,_=>none
 | _=>none
variable {sz bytes : Nat}
theorem Pm {P:Program}{t el:Nat}{z:AV}(h:Uf P t sz bytes=some (el,z)):alN P t el sz bytes z:=by
 unfold Uf at h
 split at h<;>try (simp at h;done)
 rename_i h1
 split at h<;>try (simp at h;done)
 rename_i i z h2 h3
 split at h<;>simp only[ba,lR,reduceCtorEq] at h
 rename_i c
 obtain⟨rfl,rfl⟩:=h
 exact⟨i,h1,h2,h3,c⟩
theorem aeu {z0:α}{nx:Nat}(g:Uf P t sz bytes=some (el,enc z0))(e:S.nx=nx)(c:(Nat.ble (S.nx+1) 8192&&Nat.ble S.lim S.nx)=true)(h:0≤a∧a.toNat*(bytes+1)≤2 ^ 40) :
  akG P S t (.sc (.int k a)) (.sc (.int k a))=some (.val (.ai nx 0 (List.replicate a.toNat z0).length) (S.add (.arr sz ((List.replicate a.toNat z0).map enc)))):=by
 obtain⟨i,hu,hi,j,f⟩:=Pm g
 simp only[aY] at f c
 obtain⟨⟨⟨⟨h1,h2⟩,h3⟩,h4⟩,d⟩:=f
 have h4:=np h4
 have d:=np d
 subst h4
 subst d
 subst e
 simp only[akG,nT,yq h.1,hu,hi,j,h1,h2,h3,ri,show Nat.ble a.toNat a.toNat=true from EY (bJ _),show Nat.ble (a.toNat*(i.bytes+1)) (2 ^ 40)=true from EY h.2,gI,c.1,c.2,DK]
 simp
def ZB (k:IntKind)(x:Int×Int):AV:=.agg [.sc (.int k x.1),.sc (.int k x.2)]
@[simp] theorem ae3 (k:IntKind)(x:Int×Int):aV (ZB k x)=true:=by simp[ZB,aV,cG]
end
section
variable {T : FT} {P : Program} {Q : gL → ag → Prop} {w : AV}
variable {s : St}
theorem wT (E:cX T P)(n:Nat)(o:Option AV)(v:AV)(h:NU P (ab T P n s)=o)(c:o=some v)(q:SX P Q (ak v none (ab T P n s))):SX P Q s:=
 ⟨ZA E.ok E.mix n o v h c q.out⟩
theorem Tv (E:cX T P)(n:Nat)(b:Bool)(h:NU P (ab T P n s)=some (.sc (.bool b)))(c:b=true→SX P Q (ak (.sc (.bool true)) none (ab T P n s)))(d:b=false→SX P Q (ak (.sc (.bool false)) none (ab T P n s))):SX P Q s:=
 ⟨ajB E.ok E.mix n b h (fun e=>(c e).out) fun e=>(d e).out⟩
theorem Qm (E:cX T P)(n:Nat)(o:Option AV)(b:Bool)(h:NU P (ab T P n s)=o)(c:o=some (.sc (.bool b)))(d:b=true→SX P Q (ak (.sc (.bool true)) none (ab T P n s)))(e:b=false→SX P Q (ak (.sc (.bool false)) none (ab T P n s))):SX P Q s:=Tv E n b (h.trans c) d e
theorem FE (E:cX T P)(n:Nat)(g:Nat)(args:List AV)(v:AV)(h:Jd T P (ab T P n s)=some (g,args))(c:∀ S,fY P g args S fun r d=>r=.ret v∧d=S)(q:SX P Q (ak v none (ab T P n s))):SX P Q s:=⟨Yw E.ok E.mix n g args v h c q.out⟩
theorem yf (E:cX T P)(n:Nat)(g:Nat)(args c:List AV)(v:AV)(h:Jd T P (ab T P n s)=some (g,args))(d:vx args=c)(e:∀ S,fY P g c S fun r f=>r=.ret v∧f=S)(q:SX P Q (ak v none (ab T P n s))):SX P Q s:=FE E n g args v h (fun S g w xs hx hi=>e S g w xs (by rw[←d];exact hx.wN) hi) q
theorem bF (E:cX T P)(n:Nat)(o:ag→Option dg)(r:ag→dg)(h:yH P (ab T P n s)=o (fe (ab T P n s)))(c:j7 (r (fe (ab T P n s))) (ab T P n s)=true)(d:o (fe (ab T P n s))=some (r (fe (ab T P n s))))(q:SX P Q (eH r (ab T P n s))):SX P Q s:=⟨QF E.ok E.mix n o r h c d q.out⟩
theorem ajC (E:cX T P)(n:Nat)(b:Bool)(h:yH P (ab T P n s)=some (.val (.sc (.bool b)) (fe (ab T P n s))))(c:j7 (.val (.sc (.bool b)) (fe (ab T P n s))) (ab T P n s)=true)(d:b=true→SX P Q (eH (fun S=>.val (.sc (.bool true)) S) (ab T P n s)))(f:b=false→SX P Q (eH (fun S=>.val (.sc (.bool false)) S) (ab T P n s))):SX P Q s:=
 ⟨aet E.ok E.mix n b h c (fun e=>(d e).out) fun e=>(f e).out⟩
theorem UJ (E:cX T P)(n:Nat)(h:wS (ab T P n s)=some w)(c:aV w=true):SX P (RQ w) s:=⟨YA E.ok E.mix n h c⟩
theorem bN (E:cX T P)(n:Nat){v:AV}(h:wS (ab T P n s)=some v)(c:Fz (BT (ab T P n s)) v w):SX P (RQ w) s:=⟨YC E.ok E.mix n h c⟩
theorem It (E:cX T P){a:Nat}(d:vq a Q)(n:Nat)(c:List (List Nat))(ids:List Nat){s' : St}(e:lJ (ab T P n s)=true)(h:qY c ids (ab T P n s)=s')(q:SX P Q s'):SX P Q s:=
 ⟨UG E.ok E.mix d n c ids e h q.out⟩
theorem Oy (E:cX T P){a:Nat}(g:vq a Q)(n:Nat)(j:List (List Nat))(ids:List Nat)(d:List (Nat×Nat))(N nx:Nat){c:St}{ls e:List (List (Nat×AV))}{l l2:List (Nat×aO)}(m:lJ (ab T P n s)=true)(h:qY j ids (ab T P n s)=jB c e (pg nx l2))(f:(w8 d N nx [] []&&d.all (fun p=>Nat.ble a p.1)&&Nat.ble a N)=true)(o:zg (kK d N nx) c=true)(q:Nat.beq ls.length (wR c)=true)(r:mO l2=true)(hs:e=ls.map (jC (kK d N nx)))(u:l2=vw (kK d N nx) l)(v:SX P Q (jB c ls (pg N l))):SX P Q s:=by
 simp only[aY] at f
 exact⟨UG E.ok E.mix g n j ids m h (VI g d N nx f.1.1 f.1.2 (gb f.2) (VK o) (np q) hs (by rw[←u];exact IS r) v.out)⟩
theorem EP (E:cX T P){f:Nat}{args:List AV}(ha:cG args=true)(c:aV w=true)(h:SX P (RQ w) (St.start T f args ag.empty))(S:ag) :
 fY P f args S fun r d=>r=.ret w∧d=S:=YB E.ok ha c h.out S
end
end
noncomputable section
def Ft : aO→Bool
 | .arr _ es=>cG es
 | _=>false
def wx (S:ag):Nat→ag
 | 0=>S
 | k+1=>(wx S k).del k
theorem yr (S:ag):∀(k id:Nat),(wx S k).get id=if id<k then none else S.get id:=by
 intro k
 induction k with
 | zero=>intro id;simp[wx]
 | succ k a=>
   intro id
   simp only[wx]
   by_cases e:id=k
   · simp_all[ag.iK]
   · rw[ag.dM (y7 _) e,a]
     by_cases h:id<k
     · rw[if_pos h,if_pos (by omega)]
     · rw[if_neg h,if_neg (by omega)]
theorem L5 (S:ag):∀ k,(wx S k).nx=S.nx∧(wx S k).lim=S.lim:=by
 intro k
 induction k with
 | zero=>exact⟨rfl,rfl⟩
 | succ k a=>exact a
def DV (S:ag):List (Nat×aO)→ag
 | []=>S
 | (id,o)::r=>(DV S r).set id o
theorem JV (S:ag):∀ l,(DV S l).nx=S.nx∧(DV S l).lim=S.lim:=by
 intro l
 induction l with
 | nil=>exact⟨rfl,rfl⟩
 | cons p l a=>exact a
variable {S : ag}
theorem zP {a:Nat}:∀ {l:List (Nat×aO)},(∀ p,p∈l→p.1≠a)→(DV S l).get a=S.get a:=by
 intro l
 induction l with
 | nil=>intro _;rfl
 | cons p l b=>
   intro h
   obtain⟨id,o⟩:=p
   simp only[DV]
   rw[ag.bt (y7 _) (fun e=>h (id,o) (jq ..) e.symm)]
   simp_all
theorem VM : ∀ {l:List (Nat×aO)},(l.map (·.1)).Nodup→∀ id o,(id,o)∈l→(DV S l).get id=some o:=by
 intro l
 induction l with
 | nil=>simp_all
 | cons p l c=>
   intro b id o h
   obtain⟨k,x⟩:=p
   simp only[dH,rj] at b
   simp only[DV]
   rcases cF.1 h with e | e
   · simp only[lR] at e;obtain⟨rfl,rfl⟩:=e
     exact ag.cQ (y7 _)
   · have a:id≠k:=by rintro rfl;simp_all
     rw[ag.bt (y7 _) a]
     exact c b.2 id o e
variable {o : aO}
theorem wX.pure_mono {g d:Gh}(f:∀ b c,g.ro b=Option.some c→d.ro b=Option.some c){l:Loc}{x:Option Obj}(m:Ft o=true)(h:wX g l x o):wX d l x o:=by
 cases o with
 | arr sz es=>
   obtain⟨c,t,h1,h2,h3,h4,n,s⟩:=h
   refine⟨c,t,h1,h2,h3,h4,n,fun i j e a y p q r=>?_⟩
   have k:aV a=true:=kB (fO (by simpa [Ft] using m) p) q
   exact VR.mono (g:=g.bare) (g' := d) ⟨f,fun _ _ e=>by simp[Gh.bare] at e⟩ ((s i j e a y p q r).bare k)
 | _=>simp[Ft] at m
def W5 (ids:List Nat)(nx i:Nat):Nat:=
 match ids[i]? with
 | some a=>a
 | none=>nx+i
theorem fY.own {P:Program}{f:FuncId}{args:List AV}{S0:ag}{d news:List aO}{v' : AV}(h:fY P f args S0 fun r R=>∃ v,r=.ret v∧Fz (wx R d.length) v v' ∧ ∀(i:Nat) (o:aO),news[i]? = some o→R.get i=some o)
   (h0:∀ i:Nat,S0.get i=d[i]?) (h1:S0.nx=d.length) (h2:S0.lim=0) (hl:news.length=d.length) (hp:d.all Ft=true) (hp' : news.all Ft=true) (hv:aV v' = true)
   {S:ag} {ids:List Nat} (hi:ids.length=d.length) (hn:ids.Nodup) (hS:∀(i a:Nat) (o:aO),ids[i]? = some a→d[i]? = some o→S.get a=some o∧S.lim≤a) :
   fY P f (eG (W5 ids S.nx) args) S fun r R=>r=.ret v' ∧ R=DV S (ids.zip news):=by
 intro V w xs hx u
 obtain⟨σ,hσ⟩:∃ σ,σ=W5 ids S.nx:=⟨_,rfl⟩
 rw[←hσ] at hx
 obtain⟨g,hg⟩:∃ g:Gh,g={ ro:=V.ro,ph:=fun id=>V.ph (σ id) }:=⟨_,rfl⟩
 have n:j6 σ g V:=by rw[hg];exact⟨rfl,fun _=>rfl⟩
 have C:∀(i a:Nat),ids[i]? = some a→σ i=a:=by intro i a e;rw[hσ];simp[W5,e]
 have I:∀(i:Nat) (o:aO),d[i]? = some o→∃ a,ids[i]? = some a:=by
   intro i o e
   have:i<ids.length:=by rw[hi];exact(lr.1 e).1
   exact⟨_,qm this⟩
 have hinj:∀(i j a:Nat),ids[i]? = some a→ids[j]? = some a→i=j:=by
   intro i j a e E
   have N:=(lr.1 e).1
   exact(JC N hn).1 (e.trans E.symm)
 have hinv0:Inv S0 g w:=by
   refine⟨fun b c e=>u.ro b c (by rw[←n.ro];exact e),fun id o e=>?_,fun id id' o o' l l' e E p p' q=>?_,fun id bE=>?_⟩
   · rw[h0] at e
     obtain⟨a,ha⟩:=I id o e
     obtain⟨F,q2⟩:=hS id a o ha e
     obtain⟨l,x,y,z⟩:=u.ob a o F
     refine⟨l,by rw[n.ph,C id a ha];exact x,by rw[n.ro];exact y,z.pure_mono (by rw[n.ro];exact fun _ _ e=>e) ?_⟩
     exact dh.1 hp o (uI e)
   · rw[h0] at e E
     obtain⟨a,ha⟩:=I id o e
     obtain⟨a', ha'⟩:=I id' o' E
     have:=u.inj a a' o o' l l' (hS id a o ha e).1 (hS id' a' o' ha' E).1 (by rw[←C id a ha,←n.ph];exact p) (by rw[←C id' a' ha', ←n.ph];exact p') q
     subst this
     exact hinj id id' a ha ha'
   · rw[h1] at bE
     rw[n.ph,hσ]
     have:ids[id]? = none:=uv (by rw[hi];exact bE)
     simp only[W5,this]
     exact u.fresh _ (by omega)
 refine(h g w xs (hx.iN n) hinv0).mono fun e w' ⟨r,R,g', ⟨v,hr,hf,W⟩,X,N,A⟩=>?_
 subst hr
 obtain⟨k,hk⟩:∃ k,k=d.length:=⟨_,rfl⟩
 rw[←hk] at hf
 have hsub:ag.sub (wx R k) R:=⟨(L5 R k).1.symm,(L5 R k).2,fun id o e=>by rw[yr] at e;split at e<;>first | simp at e | exact e⟩
 have hik:Inv (wx R k) g' w' := N.sub hsub
 have hfz:=Gh.jY hik
 have D:∀ b c,(g'.freeze (wx R k) w').ro b=some c→g'.ro b=some c∨(∃ t fz,w'.heap[b]? = some (.cells c t fz))∧∃ id o l,(wx R k).get id=some o∧g'.ph id=some l∧l.cU=b:=by
   intro b c e
   simp only[Gh.freeze] at e
   split at e
   · rename_i c' hc;simp only[ba] at e;subst e;exact .inl hc
   · split at e
     · rename_i c' t fz hh
       split at e<;>simp only[ba,reduceCtorEq] at e
       rename_i hex
       subst e;exact .inr ⟨⟨t,fz,hh⟩,hex⟩
     · simp at e
 obtain⟨gf,hgf⟩:∃ gf,gf=g'.freeze (wx R k) w' := ⟨_,rfl⟩
 rw[←hgf] at hfz D
 obtain⟨gn,s⟩:∃ gn:Gh,gn={ ro:=gf.ro,ph:=V.ph }:=⟨_,rfl⟩
 have hro1:∀ b c,V.ro b=some c→gn.ro b=some c:=by
   intro b c e;rw[s];exact hfz.1.ro b c (A.pc.ro b c (by rw[n.ro];exact e))
 have hro2:∀ b c,g'.ro b=some c→gn.ro b=some c:=by intro b c e;rw[s];exact hfz.1.ro b c e
 have other:∀ a o l,S.get a=some o→a∉ids→V.ph a=some l→∀ id o', S0.get id=some o' → ∀ l', g.ph id=some l' → l'.cU≠l.cU:=by
   intro a o l e ha G id o' E l' hl' heq
   rw[h0] at E
   obtain⟨b,hb⟩:=I id o' E
   have:=u.inj b a o' o l' l (hS id b o' hb E).1 e (by rw[←C id b hb,←n.ph];exact hl') G heq
   subst this
   exact ha (uI hb)
 have hnd:((ids.zip news).map (·.1)).Nodup:=by
   rw[List.map_fst_zip (by omega)];exact hn
 have O:∀ a o,(DV S (ids.zip news)).get a=some o→(∃ i:Nat,ids[i]? = some a∧news[i]? = some o)∨(a∉ids∧S.get a=some o):=by
   intro a o e
   by_cases ha:a∈ids
   · obtain⟨i,B⟩:=gM ha
     have H:i<news.length:=by rw[hl,←hi];exact(lr.1 B).1
     have L:news[i]? = some news[i]:=qm H
     have hm:(a,news[i])∈ids.zip news:=uI (i:=i) (by rw[List.getElem?_zip_eq_some];exact⟨B,L⟩)
     rw[VM hnd _ _ hm] at e
     exact .inl ⟨i,B,by rw[L];exact e⟩
   · rw[zP (fun p hp=>by rintro rfl;exact ha (List.of_mem_zip hp).1)] at e
     exact .inr ⟨ha,e⟩
 have J:∀(i a:Nat),ids[i]? = some a→∃ o,d[i]? = some o∧S.get a=some o∧S.lim≤a:=by
   intro i a e
   have H:i<d.length:=by rw[←hi];exact(lr.1 e).1
   have ho:d[i]? = some d[i]:=qm H
   exact⟨_,ho,hS i a _ e ho⟩
 have Y:∀(i a:Nat),ids[i]? = some a→g'.ph i=V.ph a:=by
   intro i a e
   have H:i<S0.nx:=by rw[h1,←hi];exact(lr.1 e).1
   rw[A.wY i H,n.ph,C i a e]
 have noro:∀ a o l,(DV S (ids.zip news)).get a=some o→V.ph a=some l→gf.ro l.cU=none:=by
   intro a o l e G
   cases hr:gf.ro l.cU with
   | none=>rfl
   | some c=>
     exfalso
     rcases O a o e with⟨i,B,L⟩ | ⟨ha,E⟩
     · obtain⟨l1,x,y,_⟩:=N.ob i o (W i o L)
       rw[Y i a B,G] at x;simp only[ba] at x;subst x
       rcases D _ _ hr with q | ⟨_,id,o2,l2,F,q2,q3⟩
       · rw[y] at q;simp at q
       · rw[yr] at F
         split at F
         · simp at F
         · rename_i hge
           have:=N.inj id i o2 o l2 l F (W i o L) q2 (by rw[Y i a B];exact G) q3
           subst this
           have H:id<k:=by rw[hk,←hi];exact(lr.1 B).1
           exact hge H
     · obtain⟨l1,x,y,z⟩:=u.ob a o E
       rw[G] at x;simp only[ba] at x;subst x
       have H:=z.lt
       rcases D _ _ hr with q | ⟨_,id,o2,l2,F,q2,q3⟩
       · rcases A.C2 _ _ q H with q | ⟨m,o0,M,K,f2,U,f4⟩
         · rw[n.ro,y] at q;simp at q
         · exact other a o l E ha G m o0 K M U f4
       · rw[yr] at F
         split at F
         · simp at F
         · obtain⟨m,o0,M,K,f2,U,f4⟩:=A.own id o2 l2 F (by rw[h2];omega) q2 (by rw[q3];exact H)
           exact other a o l E ha G m o0 K M U (f4.trans q3)
 refine⟨.ret v', DV S (ids.zip news),gn,⟨rfl,rfl⟩,?_,⟨fun b c e=>?_,fun a o e=>?_,fun a a' o o' l l' e E p p' q=>?_,fun a ha=>?_⟩,⟨A.size,A.os,A.tape,A.output,fun b hb hne=>?_,fun a o l e1 e2 e3 _=>?_,⟨hro1,fun _ _ e=>by rw[s];exact e⟩,by rw[(JV S _).1];exact bJ _,(JV S _).2,fun a ha=>?_,fun a _=>by rw[s],fun b c e hb=>?_,fun a _ e=>?_,A.fz⟩⟩
 · cases e with
   | returned x=>exact((Fz.sound hik hfz hf X).bare hv).mono ⟨fun b c e=>by rw[s];exact e,fun _ _ e=>by simp[Gh.bare] at e⟩
   | panicked c=>exact X.elim
   | outgrown=>exact X.elim
 · rw[s] at e
   rcases D b c e with q | ⟨q,_⟩
   · exact N.ro b c q
   · exact q
 · have Z:gn.ph a=V.ph a:=by rw[s]
   rcases O a o e with⟨i,B,L⟩ | ⟨ha,E⟩
   · obtain⟨l,x,y,z⟩:=N.ob i o (W i o L)
     have G:V.ph a=some l:=by rw[←Y i a B];exact x
     refine⟨l,by rw[Z];exact G,?_,z.pure_mono hro2 (dh.1 hp' o (uI L))⟩
     have:=noro a o l e G
     rw[s];exact this
   · obtain⟨l,x,y,z⟩:=u.ob a o E
     have hk' : w'.heap[l.cU]? = w.heap[l.cU]? := A.jr l.cU z.lt fun id o' l' K _ U=>other a o l E ha x id o' K l' U
     refine⟨l,by rw[Z];exact x,?_,by rw[hk'];exact z.mono ⟨hro1,fun _ _ e=>by rw[s];exact e⟩⟩
     have:=noro a o l e x
     rw[s];exact this
 · have back:∀ a o,(DV S (ids.zip news)).get a=some o→∃ o', S.get a=some o' := by
     intro a o e
     rcases O a o e with⟨i,B,_⟩ | ⟨_,E⟩
     · obtain⟨o', _,q,_⟩:=J i a B;exact⟨o', q⟩
     · exact⟨o,E⟩
   obtain⟨o1,F⟩:=back a o e
   obtain⟨o2,q2⟩:=back a' o' E
   exact u.inj a a' o1 o2 l l' F q2 (by rw[s] at p;exact p) (by rw[s] at p';exact p') q
 · rw[(JV S _).1] at ha
   rw[s];exact u.fresh a ha
 · refine A.jr b hb fun id o l K _ U=>?_
   rw[h0] at K
   obtain⟨a,ha⟩:=I id o K
   obtain⟨F,q2⟩:=hS id a o ha K
   exact hne a o l F q2 (by rw[←C id a ha,←n.ph];exact U)
 · rw[s] at e3
   rcases O a o e1 with⟨i,B,_⟩ | ⟨_,E⟩
   · obtain⟨o', _,q,_⟩:=J i a B;exact⟨a,o', l,q,e2,e3,rfl⟩
   · exact⟨a,o,l,E,e2,e3,rfl⟩
 · refine zP fun p hp=>?_
   rintro rfl
   obtain⟨i,hi2⟩:=gM (List.of_mem_zip hp).1
   obtain⟨_,_,_,q⟩:=J i _ hi2
   omega
 · rw[s] at e
   have fin:∀ m o0 M,S0.get m=some o0→g.ph m=some M→M.cU=b→∃ m o0 M,S.get m=some o0∧S.lim≤m∧V.ph m=some M∧M.cU=b:=by
     intro m o0 M K U f4
     rw[h0] at K
     obtain⟨a,ha⟩:=I m o0 K
     obtain⟨F,q2⟩:=hS m a o0 ha K
     exact⟨a,o0,M,F,q2,by rw[←C m a ha,←n.ph];exact U,f4⟩
   rcases D b c e with q | ⟨_,id,o,l,F,q2,q3⟩
   · rcases A.C2 b c q hb with f | ⟨m,o0,M,K,f2,U,f4⟩
     · exact .inl (by rw[←n.ro];exact f)
     · exact .inr (fin m o0 M K U f4)
   · rw[yr] at F
     split at F
     · simp at F
     · obtain⟨m,o0,M,K,f2,U,f4⟩:=A.own id o l F (by rw[h2];omega) q2 (by rw[q3];exact hb)
       exact .inr (fin m o0 M K U (f4.trans q3))
 · refine(zP fun p hp=>?_).trans e
   rintro rfl
   obtain⟨i,hi2⟩:=gM (List.of_mem_zip hp).1
   obtain⟨o', _,q,_⟩:=J i _ hi2
   rw[e] at q;simp at q
theorem aO.dX {σ:Nat→Nat}(h:Ft o=true):o.aX σ=o:=by
 cases o<;>simp_all[aO.aX,mq,cG,true,Ft]
def ZC (S:ag):Nat→List aO→Prop
 | _,[]=>True
 | i,o::r=>S.get i=some o∧ZC S (i+1) r
theorem ae4 : ∀ {l:List aO} {i:Nat},ZC S i l→∀(j:Nat) (o:aO),l[j]? = some o→S.get (i+j)=some o:=by
 intro l
 induction l with
 | nil=>simp_all
 | cons x r a=>
   intro i h j o e
   cases j with
   | zero=>simp at e;subst e;exact h.1
   | succ j=>
     have:=a h.2 j o (by simpa using e)
     rw[show i+1+j=i+(j+1) from by omega] at this
     exact this
def nr : Nat→List aO→List (Nat×aO)
 | _,[]=>[]
 | i,o::r=>(i,o)::nr (i+1) r
theorem L6 : ∀(l:List aO) (i id:Nat) (o:aO),(id,o)∈nr i l→i≤id∧l[id-i]? = some o:=by
 intro l
 induction l with
 | nil=>intro i id o h;simp[nr] at h
 | cons x r c=>
   intro i id o h
   rcases cF.1 h with e | e
   · simp_all
   · obtain⟨a,b⟩:=c (i+1) id o e
     refine⟨by omega,?_⟩
     rw[show id-i=(id-(i+1))+1 from by omega];simpa using b
theorem VN : ∀(l:List aO) (i j:Nat) (o:aO),l[j]? = some o→(i+j,o)∈nr i l:=by
 intro l
 induction l with
 | nil=>intro i j o e;simp at e
 | cons x r a=>
   intro i j o e
   cases j with
   | zero=>simp at e;subst e;exact jq ..
   | succ j=>
     have:=a (i+1) j o (by simpa using e)
     rw[show i+1+j=i+(j+1) from by omega] at this
     exact Ez _ this
theorem Pn : ∀(l:List aO) (i:Nat),mO (nr i l)=true:=by
 intro l
 induction l with
 | nil=>intro i;rfl
 | cons x r b=>
   intro i
   have:N8 i (nr (i+1) r)=false:=by
    have key:∀ m:List (Nat×aO),(∀ id o,(id,o)∈m→id≠i)→N8 i m=false:=by
     intro m
     induction m with
     | nil=>intro _;rfl
     | cons p m a=>
       intro h
       obtain⟨k,y⟩:=p
       simp only[N8]
       have c:k≠i:=h k y (jq ..)
       rw[show Nat.beq k i=false from by rw[sw];simp_all]
       exact a fun id o e=>h id o (Ez _ e)
    exact key _ fun id o e=>by have:=(L6 r (i+1) id o e).1;omega
   simp_all[nr,mO]
theorem QG (l:List aO)(i:Nat):(pg l.length (nr 0 l)).get i=l[i]? := by
 cases h:l[i]? with
 | some o=>
   have:=VN l 0 i o h
   rw[uu] at this
   exact QE _ .nil (Pn l 0) i o this
 | none=>
   cases a:(pg l.length (nr 0 l)).get i with
   | none=>rfl
   | some o=>
     have:=(L6 l 0 i o (AF a)).2
     simp_all
section
variable {T : FT} {P : Program} {Q : gL → ag → Prop}
def C9 : St→Bool
 | .run _ _ _ _=>true
 | _=>false
def N9 (v:AV)(r:ag→ag)(s:St):St:=ak v (some (r (j5 s))) s
end
end
noncomputable section
def Jr (S:ag):ag:=match S with | ⟨nx,lim,m⟩=>⟨Nat.succ nx,lim,m⟩
theorem FO (S:ag)(id:Nat):(Jr S).get id=S.get id:=rfl
variable {E : ag} {g : Gh} {w : World} {sz : Nat} {es : List AV}
theorem Po {g' : Gh}{w' : World}{x:Value}(O:Inv E g w)(hi:Inv (E.add (.arr sz es)) g' w')(hx:Ext E g w (E.add (.arr sz es)) g' w')(R:VR g' (.ai E.nx 0 es.length) x)(B:E.lim≤E.nx) :
   ∃ p,VR p (.lit es) x∧Inv (Jr E) p w' ∧ Ext E g w (Jr E) p w' := by
 have k:(E.add (.arr sz es)).get E.nx=some (.arr sz es):=ag.ow (y7 _)
 have f:∀ id,id≠E.nx→(E.add (.arr sz es)).get id=E.get id:=fun id m=>ag.eQ (y7 _) m
 have h:E.get E.nx=none:=by
   cases q:E.get E.nx with
   | none=>rfl
   | some o=>exact absurd (O.lU q) (Nat.lt_irrefl _)
 obtain⟨l,l1,l2,c,t,Z,p2,G,p4,p5,p6⟩:=hi.ob _ _ k
 have X:w.heap.size≤l.cU:=by
   rcases jT l.cU w.heap.size with K | L
   · exfalso
     obtain⟨z,o0,l0,U,f2,f3,f4⟩:=hx.own _ _ l k B l1 K
     have Y:=O.lU U
     have:=hi.inj z E.nx o0 _ l0 l (by rw[f z (by omega)];exact U) k (hx.pc.ph _ _ f3) l1 f4
     omega
   · exact L
 obtain⟨p,d⟩:∃ p:Gh,p={ ro:=fun b=>if b=l.cU then some c else g'.ro b,ph:=g'.ph }:=⟨_,rfl⟩
 have u:Gh.le g' p:=by
   refine⟨fun b c' e=>?_,fun _ _ e=>by rw[d];exact e⟩
   rw[d]
   simp only
   split
   · rename_i hb;subst hb;rw[l2] at e;simp at e
   · exact e
 have M:p.ro l.cU=some c:=by rw[d];simp
 refine⟨p,?_,⟨fun b c' e=>?_,fun id o e=>?_,fun id A o o' l' N e D q V hb=>?_,fun id bE=>?_⟩,⟨hx.size,hx.os,hx.tape,hx.output,hx.jr,fun id o l' e H F I=>?_,Gh.le_trans hx.pc u,?_,hx.lim,fun id _=>rfl,fun id bE=>by rw[d];exact hx.wY id bE,fun b c' e hb=>?_,fun id _ e=>e,hx.fz⟩⟩
 · generalize r:es.length=len at R
   cases R with
   | ai J C hb=>
     rw[l1] at J;simp only[ba] at J;subst J
     subst r
     refine .lit (sz:=l.sz) M (fun e he=>?_) (by rw[G];omega) C fun i j e a y H F I=>?_
     · rw[G];exact p5 e he
     · exact(p6 i j e a y H F (by rw[←G,←I];congr 1;omega)).mono u
   | hZ=>
     have:es=[]:=xq.1 r
     subst this;exact .jZ
 · rw[d] at e
   simp only at e
   split at e
   · rename_i hb;simp only[ba] at e;subst e;subst hb;exact⟨t,_,Z⟩
   · exact hi.ro b c' e
 · rw[FO] at e
   have m:id≠E.nx:=by rintro rfl;rw[h] at e;simp at e
   obtain⟨l', W,q2,q3⟩:=hi.ob id o (by rw[f id m];exact e)
   refine⟨l', by rw[d];exact W,?_,q3.mono u⟩
   rw[d]
   simp only
   rw[if_neg (fun hb=>m (hi.inj id E.nx o _ l' l (by rw[f id m];exact e) k W l1 hb))]
   exact q2
 · rw[FO] at e D
   rw[d] at q V
   exact hi.inj id A o o' l' N (by rw[f id (by rintro rfl;rw[h] at e;simp at e)];exact e) (by rw[f A (by rintro rfl;rw[h] at D;simp at D)];exact D) q V hb
 · rw[d];exact hi.fresh id bE
 · rw[FO] at e
   rw[d] at F
   exact hx.own id o l' (by rw[f id (by rintro rfl;rw[h] at e;simp at e)];exact e) H F I
 · exact xk _
 · rw[d] at e
   simp only at e
   split at e
   · rename_i hbb;omega
   · exact hx.C2 b c' e hb
variable {P : Program} {all : Array Oper} {o : Oper} {get : Nat → Option AV}
theorem n7.copy (e:E.lim≤E.nx)(h:n7 P all o get E (.ai E.nx 0 es.length) (E.add (.arr sz es))):n7 P all o get E (.lit es) (Jr E):=by
 intro g w fr cs i rest m f j k hs hi
 obtain⟨w', g', x,a,b,c,d⟩:=h g w fr cs i rest m f j k hs hi
 obtain⟨l,p,q2,q3⟩:=Po hi c d b e
 exact⟨w', l,x,a,p,q2,q3⟩
variable {v : AV}
theorem n7.none {v' : AV}(e:∀ g x,VR g v x→VR g v' x)(h:n7 P all o get E v E):n7 P all o get E v' (Jr E):=by
 intro g w fr cs i rest m f j k hs hi
 obtain⟨w', g', x,a,b,c,d⟩:=h g w fr cs i rest m f j k hs hi
 exact⟨w', g', x,a,e _ _ b,⟨c.ro,c.ob,c.inj,fun id bE=>c.fresh id (Nat.le_of_succ_le bE)⟩,⟨d.size,d.os,d.tape,d.output,d.jr,d.own,d.pc,xk _,d.lim,d.w6,d.wY,d.C2,d.dead,d.fz⟩⟩
variable {S S1 : ag}
theorem Reach.alO {F:ae}{G:ae→ag→Prop}{i:Nat}{rest:List Nat}{k:List bg}(q:F.mode=.run)(r:F.todo=.ops all (i::rest)::k)(f:all[i]? = some o)(l:n7 P all o F.get S v S1)(h:Reach P (F.after o v all rest k) S1 G):Reach P F S G:=by
 obtain⟨a,b,c,d⟩:=F.iO o v all rest k
 refine h.DS a b c d fun g w fr cs hf hi=>?_
 obtain⟨m,p,y⟩:=hf.split r f
 obtain⟨w', g', x,z,A,B,j⟩:=l g w fr cs i m.1 m.2 (hf.runs q) p f (fun t _ u e=>hf.get t u e) hi
 exact⟨fr.finish x,w', g', (hf.mono j.pc).after p (y.mono j.pc) f A,B,j,z⟩
structure Wk (v1 v2 : AV) (S1 S2 : ag) : Prop where
 vr : ∀ g x, VR g v1 x → VR g v2 x
 nx : S2.nx = S1.nx
 lim : S2.lim = S1.lim
 ob : ∀ id o2, S2.get id = some o2 → ∃ o1, S1.get id = some o1 ∧ ∀ g l x, wX g l x o1 → wX g l x o2
 w6 : ∀ id, id < S1.lim → S2.get id = S1.get id
theorem n7.wk {p:ag}{r t:AV}(f:Wk r t S1 p)(h:n7 P all o get E r S1):n7 P all o get E t p:=by
 intro g w fr cs i rest m u A B hs hi
 obtain⟨w', g', x,a,b,c,d⟩:=h g w fr cs i rest m u A B hs hi
 refine⟨w', g', x,a,f.vr _ _ b,⟨c.ro,fun id o e=>?_,fun id k o o' l l' e C=>?_,fun id bE=>c.fresh id (by rw[←f.nx];exact bE)⟩,⟨d.size,d.os,d.tape,d.output,d.jr,fun id o l e D F G=>?_,d.pc,by rw[f.nx];exact d.nx,f.lim.trans d.lim,fun id bE=>(f.w6 id (by rw[d.lim];exact bE)).trans (d.w6 id bE),d.wY,d.C2,fun id bE e=>?_,d.fz⟩⟩
 · obtain⟨o1,j,q2⟩:=f.ob id o e
   obtain⟨l,x,y,z⟩:=c.ob id o1 j
   simp_all
 · obtain⟨o1,j,_⟩:=f.ob id o e
   obtain⟨o2,q2,_⟩:=f.ob k o' C
   exact c.inj id k o1 o2 l l' j q2
 · obtain⟨o1,j,_⟩:=f.ob id o e
   exact d.own id o1 l j D F G
 · cases q:p.get id with
   | none=>rfl
   | some o=>
     obtain⟨o1,j,_⟩:=f.ob id o q
     rw[d.dead id bE e] at j;simp at j
variable {n : Nat}
theorem VO {l:Loc}{x:Option Obj}(h:wX g l x (.arr sz es)):wX g l x (.arr sz (es.take n++vx (es.drop n))):=by
 obtain⟨c,t,h1,h2,h3,h4,A,B⟩:=h
 have d:∀ e:AV,(wN e).cells.length=e.cells.length∧∀(j:Nat) (a:AV),(wN e).cells[j]? = some a→∃ a0,e.cells[j]? = some a0∧a=wN a0:=by
   intro e
   have one:∀ u:AV,u.cells=[u]→(wN u).cells=[wN u]→(wN u).cells.length=u.cells.length∧∀(j:Nat) (a:AV),(wN u).cells[j]? = some a→∃ a0,u.cells[j]? = some a0∧a=wN a0:=by
     intro u C D
     rw[C,D]
     refine⟨rfl,fun j a q=>?_⟩
     cases j with
     | zero=>simp at q;exact⟨u,rfl,q.symm⟩
     | succ j=>simp at q
   cases e with
   | agg cs=>
     rw[wN]
     refine⟨nU cs,fun j a q=>?_⟩
     rw[show(AV.agg (vx cs)).cells=vx cs from rfl,AY] at q
     cases hb:cs[j]? with
     | none=>rw[hb] at q;simp at q
     | some b=>rw[hb] at q;simp at q;exact⟨b,hb,q.symm⟩
   | an=>exact one _ rfl (by rw[wN];rfl)
   | fw=>exact one _ rfl (by rw[wN];rfl)
   | _=>exact one _ rfl (by rw[wN]<;>first | rfl | simp)
 have z:(es.take n++vx (es.drop n)).length=es.length:=by simp[nU];omega
 have k:∀(i:Nat) (e:AV),(es.take n++vx (es.drop n))[i]? = some e→∃ f,es[i]? = some f∧(e=f∨e=wN f):=by
   intro i e q
   by_cases hi:i<(es.take n).length
   · rw[B5 hi,sx] at q
     split at q
     · exact⟨e,q,.inl rfl⟩
     · simp at q
   · rw[B6 (by omega),AY,su] at q
     have hle:es.length≤n∨(es.take n).length=n:=by
       rcases jT n es.length with a | a
       · exact .inr (by simp;omega)
       · exact .inl a
     rcases hle with hle | hle
     · have:es[n+(i-(es.take n).length)]? = none:=uv (by omega)
       rw[this] at q;simp at q
     · rw[hle,show n+(i-n)=i from by omega] at q
       cases hb:es[i]? with
       | none=>rw[hb] at q;simp at q
       | some b=>rw[hb] at q;simp at q;exact⟨b,rfl,.inr q.symm⟩
 refine⟨c,t,h1,h2,h3,by rw[z];exact h4,fun e F=>?_,fun i j e a y p q r=>?_⟩
 · obtain⟨i,hi⟩:=gM F
   obtain⟨f,m,q2⟩:=k i e hi
   rcases q2 with rfl | rfl
   · exact A _ (uI m)
   · rw[(d f).1];exact A _ (uI m)
 · obtain⟨f,m,q2⟩:=k i e p
   rcases q2 with rfl | rfl
   · exact B i j _ a y m q r
   · obtain⟨a0,q3,rfl⟩:=(d f).2 j a q
     exact(B i j f a0 y m q3 r).wN
theorem Wk.add {S:ag}{v:AV}{sz n:Nat}{es a:List AV}(b:es.take n++vx (es.drop n)=a)(c:S.lim≤S.nx):Wk v v (S.add (.arr sz es)) (S.add (.arr sz a)):=by
 subst b
 have key:∀(o:aO) id,(S.add o).get id=if id=S.nx then some o else S.get id:=by
   intro o id
   by_cases e:id=S.nx
   · subst e;rw[if_pos rfl];exact ag.ow (y7 _)
   · rw[if_neg e];exact ag.eQ (y7 _) e
 refine⟨fun _ _ h=>h,rfl,rfl,fun id o2 e=>?_,fun id bE=>?_⟩
 · rw[key] at e
   split at e
   · rename_i bE
     simp only[ba] at e;subst e
     simp_all[VO]
   all_goals simp_all
 · have bE:id<S.lim:=bE
   rw[key,key,if_neg (by omega),if_neg (by omega)]
section
variable {T : FT} {P : Program} {Q : gL → ag → Prop}
variable {s : St}
theorem Ug (E:cX T P)(n:Nat)(o:ag→Option dg)(x:AV)(l:ag→ag)(h:yH P (ab T P n s)=o (fe (ab T P n s)))(H:((dI (ab T P n s)).bind (·.dst)).isSome=true)(hs:∃ r,o (fe (ab T P n s))=some r)(j:∀ {all:Array Oper} {op:Oper} {get:Nat→Option AV},(∀ v S1,o (fe (ab T P n s))=some (.val v S1)→n7 P all op get (fe (ab T P n s)) v S1)→n7 P all op get (fe (ab T P n s)) x (l (fe (ab T P n s))))(K:(fe (ab T P n s)).nx≤(l (fe (ab T P n s))).nx)(q:SX P Q (eH (fun S=>.val x (l S)) (ab T P n s))):SX P Q s:=by
 refine⟨cO E.ok E.mix n ?_⟩
 have q:=q.out
 generalize ab T P n s=s at h H hs j K q
 have key:=@j
 cases s with
 | run fn F S k=>
   have q:br P Q (ak x (some (l S)) (.run fn F S k)):=q
   cases I:dI (.run fn F S k) with
   | none=>rw[I] at H;simp at H
   | some op=>
     obtain⟨M,all,i,rest,td,N,z,J⟩:=pI I
     simp only[ak,N,tI,z,gz] at q
     refine br.reach (fun G O=>Reach.alO M N z (key fun v S1 e=>?_) O) q
     have h:Zj P (.run fn F S k)=some (.val v S1):=h.trans e
     simp only[Zj] at h
     rw[I] at h
     simp only at h
     split at h<;>try (simp at h;done)
     rename_i Z p
     rw[nf] at h
     exact n7.val J p h
 | fU D k=>
   have q:br P Q (Rq (.val x (l (fe (.fU D k)))) (.fU D k)):=q
   cases f:D.os with
   | nil=>simp only[Rq,f] at q;exact q.elim
   | cons op os=>
     have A:fe (.fU D k)=⟨D.S.nx,D.S.lim,seen D.S (ay D.dt op.after.toList) D.kx (iG D.F (iY op.op)) .nil⟩:=by simp only[fe,f]
     simp only[Rq,f] at q
     have h1:Ln P D op=o (fe (.fU D k)):=by
      have:yH P (.fU D k)=Ln P D op:=by simp only[yH,Ts,f]
      rw[←this];exact h
     have facts:tx D.F D.ops op=some true∧ct op.op=false∧ke (ay D.dt op.after.toList) D.es D.S.nx (oe D.S.lim (iG D.F (iY op.op)))=true∧∀ r,Ln P D op=some r→gJ P D.F.eval (fe (.fU D k)) op.op=some r:=by
      have u:∃ r,Ln P D op=some r:=by obtain⟨r,e⟩:=hs;exact⟨r,h1.trans e⟩
      obtain⟨r,y⟩:=u
      have L:=y
      unfold Ln at y
      split at y<;>try (simp at y;done)
      rename_i R a2 a3 a4
      refine⟨R,a2,a4,fun r' e=>?_⟩
      rw[L] at e;simp only[ba] at e;subst e
      rw[nf] at y
      rw[A];exact y
     obtain⟨J,p,hu,C⟩:=facts
     have t:n7 P D.ops op D.F.get (fe (.fU D k)) x (l (fe (.fU D k))):=key fun v S1 e=>n7.val J p (C _ (h1.trans e))
     rw[A] at t q
     have d:∀ {nx lim id ob},(⟨nx,lim,seen D.S (ay D.dt op.after.toList) D.kx (iG D.F (iY op.op)) .nil⟩:ag).get id=some ob→id∈iG D.F (iY op.op)∧D.S.get id=some ob∧jl (ay D.dt op.after.toList) D.kx id=true:=by
      intro nx lim id ob e
      have hi:=ag.gv e
      rw[ag.cE hi] at e
      rcases AU hi e with q | q
      · rw[PT.get_nil] at q;simp at q
      · exact q
     generalize M:seen D.S (ay D.dt op.after.toList) D.kx (iG D.F (iY op.op)) .nil=m at *
     simp only[w7,Fo] at q
     refine fD.mono (fun Q q=>?_) q
     refine qJ.step q f rfl (fun F0 S0 E0 Y v0 ch B U V=>?_)
     have W:=V ⟨D.S.nx,D.S.lim,m⟩ x (l ⟨D.S.nx,D.S.lim,m⟩) t rfl fun id ob e=>(d e).2.1
     exact B.news U f t W rfl (.inl rfl) (fun id ob e=>⟨(d e).2.1,B.clear (d e).2.2⟩) (fun id ob e X _=>pH.2 ⟨(d e).1,X⟩) (fun id a _=>(pH.1 a).2) (fun id a _=>qy hu id a) (fun id ob e=>by
      obtain⟨a,_,b,c⟩:=vO e;exact⟨a,b,c⟩) (.inl rfl)
 | _=>simp[yH] at h;simp[dI] at H
theorem FF (E:cX T P)(n:Nat)(o:ag→Option dg)(es:List AV)(h:yH P (ab T P n s)=o (fe (ab T P n s)))(c:((dI (ab T P n s)).bind (·.dst)).isSome=true)(d:Nat.ble (fe (ab T P n s)).lim (fe (ab T P n s)).nx=true)(a:(∃ sz,o (fe (ab T P n s))=some (.val (.ai (fe (ab T P n s)).nx 0 es.length) ((fe (ab T P n s)).add (.arr sz es))))∨(es=[]∧∃ v,o (fe (ab T P n s))=some (.val v (fe (ab T P n s)))∧∀ g x,VR g v x→VR g (.lit []) x))(q:SX P Q (eH (fun S=>.val (.lit es) (Jr S)) (ab T P n s))):SX P Q s:=
 Ug E n o (.lit es) Jr h c (by rcases a with⟨sz,a⟩ | ⟨_,v,a,_⟩<;>exact⟨_,a⟩) (fun {all op get} b=>by
  rcases a with⟨sz,a⟩ | ⟨rfl,v,a,e⟩
  · exact n7.copy (gb d) (b _ _ a)
  · exact n7.none e (b _ _ a)) (xk _) q
theorem Oa (E:cX T P)(n:Nat)(o:ag→Option dg)(v:AV)(a:ag→ag)(h:yH P (ab T P n s)=o (fe (ab T P n s)))(c:((dI (ab T P n s)).bind (·.dst)).isSome=true)(d:∃ S1,o (fe (ab T P n s))=some (.val v S1)∧Wk v v S1 (a (fe (ab T P n s)))∧(fe (ab T P n s)).nx≤(a (fe (ab T P n s))).nx)(q:SX P Q (eH (fun S=>.val v (a S)) (ab T P n s))):SX P Q s:=
 let ⟨S1,e,f,i⟩:=d
 Ug E n o v a h c ⟨_,e⟩ (fun {_ _ _} b=>(b _ _ e).wk f) i q
end
section
variable {P : Program} {α : Type} {enc : α → AV}
end
section
variable {P : Program} {α : Type} {enc : α → AV}
variable {st xt el : Nat} {src : AV} {raw : List AV} {nx : Nat}
theorem FP {s:AV}{ys:List α}(h:s=.an∨s=.fw)(j:Lp P st el sz=true)(k:Lq P xt=true)(l:sized sz raw=true)(d:iX S src=some raw)(b:vx raw=ys.map enc)(m:S.nx=nx)(a:(Nat.ble (S.nx+1) 8192&&Nat.ble S.lim S.nx)=true)(p:ys≠[])(y:ys.length≤1048576) :
   ∃ S1,mQ P S st xt s src=some (.val (.ai nx 0 ys.length) S1)∧Wk (.ai nx 0 ys.length) (.ai nx 0 ys.length) S1 (S.add (.arr sz (ys.map enc)))∧S.nx≤(S.add (.arr sz (ys.map enc))).nx:=by
 subst m
 have c:raw.length=ys.length:=by have:=congrArg List.length b;simpa [nU] using this
 obtain⟨i,z,q,hi,x,u⟩:=u7 j
 obtain⟨A,t⟩:=u9 k
 simp only[aY] at u a
 obtain⟨⟨⟨⟨h1,h2⟩,h3⟩,h4⟩,f⟩:=u
 have f:=np f
 subst f
 refine⟨S.add (.arr i.size raw),?_,Wk.add (n:=0) (by simpa using b) (gb a.2),xk _⟩
 rw[←c]
 cases raw with
 | nil=>exact absurd (xq.1 c.symm) p
 | cons r raw=>
   have e:Nat.ble (r::raw).length 1048576=true:=EY (by omega)
   rcases h with rfl | rfl <;>
   simp only[mQ,lu,qL,q,t,hi,x,d,l,h1,h2,h3,h4,ri,e,gI,a.1,a.2]
theorem AZ {id len:Nat}{xs ys:List α}(p:Lp P st el sz=true)(q:Lq P xt=true)(d:∀ x,(enc x).cells.length=sz)(b:∀ x,(enc x).cells.all eI=true)(t:sized sz raw=true)(c:S.get id=some (.arr sz (xs.map enc)))(f:iX S src=some raw)(h:vx raw=ys.map enc)(j:len=xs.length)(u:S.nx=nx)(a:(Nat.ble (S.nx+1) 8192&&Nat.ble S.lim S.nx)=true)(y:Nat.ble S.lim id=true)(A:ys≠[])(K:xs.length+ys.length≤1048576) :
   ∃ S1,mQ P S st xt (.ai id 0 len) src=some (.val (.ai nx 0 (xs++ys).length) S1)∧Wk (.ai nx 0 (xs++ys).length) (.ai nx 0 (xs++ys).length) S1 ((S.del id).add (.arr sz ((xs++ys).map enc)))∧S.nx≤((S.del id).add (.arr sz ((xs++ys).map enc))).nx:=by
 subst u
 have e:raw.length=ys.length:=by have:=congrArg List.length h;simpa [nU] using this
 obtain⟨i,z,B,hi,J,I⟩:=u7 p
 obtain⟨L,C⟩:=u9 q
 simp only[aY] at I a
 obtain⟨⟨⟨⟨h1,h2⟩,h3⟩,h4⟩,m⟩:=I
 have m:=np m
 subst m
 subst j
 have D:=ed (enc:=enc) d b xs
 refine ⟨(S.del id).add (.arr i.size (xs.map enc++raw)),?_,Wk.add (S:=S.del id) (n:=xs.length) (by
   simp_all) (gb a.2),xk _⟩
 have k:iX S (.ai id 0 xs.length)=some (xs.map enc):=bC _ (.inr ⟨id,_,rfl,c⟩)
 cases raw with
 | nil=>exact absurd (xq.1 e.symm) A
 | cons r raw=>
   have l:Nat.ble ((xs.map enc).length+(r::raw).length) 1048576=true:=EY (by simp_all)
   have hb:Nat.beq i.size i.size=true:=vD _
   have F:(S.del id).nx=S.nx:=rfl
   have G:(S.del id).lim=S.lim:=rfl
   have H:B9 S id 0 xs.length i.size (r::raw)=none:=by
    have:Nat.ble (0+xs.length+(r::raw).length) (xs.map enc).length=false:=by
     cases hb:Nat.ble (0+xs.length+(r::raw).length) (xs.map enc).length with
     | false=>rfl
     | true=>exfalso;have:=gb hb;simp at this;omega
    simp_all[B9,Bool.and_false]
   simp only[mQ,lu,qL,B,C,hi,J,f,t,h1,h2,h3,h4,ri,c,k,H,l,D,y,hb,gI,F,G,a.1,a.2]
   congr 3
   simp[e]
end
noncomputable def at8 {α:Type}(e:Bool)(t f:Option α):Option α:=if e then(match t,f with
 | some a,some b=>(open Classical in if a=b then some a else none)
 | _,_=>none) else f
def aaj (P:Program)(s:St):Option (List AV):=
 match s with
 | .run fn F S k=>match dI (.run fn F S k) with
   | some o=>match o.op with
     | .binOp .eql t x y _=>match F.eval x,F.eval y,P.underlying t with
       | some (.lit es),some .an,some (.slice _)=>some es
       | _,_,_=>none
     | _=>none
   | none=>none
 | _=>none
theorem HH {d:Nat}{t e:TypeId}{m:Nat}(hu:P.underlying t=some (.slice e)):(Op.equalIn (d+1) t (.slice none m n) (.slice none 0 0)).run P w=.ok true w:=by
 simp[Op.equalIn,ah hu]
def Qn : St→Bool
 | .run _ _ _ k=>flat k
 | _=>false
variable {s : St}
theorem QH {T:FT}{Q:gL→ag→Prop}(E:cX T P)(n:Nat)(es:List AV)(h:aaj P (ab T P n s)=some es)(l:Qn (ab T P n s)=true)(O:es=[]→SX P Q (ak (.sc (.bool true)) none (ab T P n s)))(R:SX P Q (ak (.sc (.bool false)) none (ab T P n s))):SX P Q s:=by
 refine⟨cO E.ok E.mix n ?_⟩
 generalize ab T P n s=s at h O R l
 unfold aaj at h
 split at h<;>try (simp at h;done)
 rename_i fn F S k
 split at h<;>try (simp at h;done)
 rename_i o hn
 split at h<;>try (simp at h;done)
 rename_i t x y yt f
 split at h<;>simp only[ba,reduceCtorEq] at h
 rename_i c el hx hy hu
 subst h
 obtain⟨hm,all,i,rest,td,U,d,hg⟩:=pI hn
 have st:∀ b,ak (.sc (.bool b)) none (.run fn F S k)=.run fn (F.after o (.sc (.bool b)) all rest td) S k:=by
  intro b;simp only[ak,U,tI,d,gz]
 have z:c=[]→br P Q (.run fn (F.after o (.sc (.bool true)) all rest td) S k):=fun e=>by rw[←st];exact(O e).out
 have p:br P Q (.run fn (F.after o (.sc (.bool false)) all rest td) S k):=by rw[←st];exact R.out
 have r:=fD.all (P:=P) (Qf:=Q) (k:=k) (ι:=Bool) (A:=fun b q=>(b=true→c=[])→Reach P (F.after o (.sc (.bool b)) all rest td) S (GK P k fn q)) l fun b=>by
  cases b with
  | false=>exact fD.mono (fun q j _=>j) p
  | true=>
    by_cases V:c=[]
    · exact fD.mono (fun q j _=>j) (z V)
    · exact fD.mono (fun q _ hh=>absurd (hh rfl) V) p
 refine fD.mono (fun q j=>?_) r
 intro g w fr B cs hf C hi
 obtain⟨m,W,e2⟩:=hf.split U d
 have X:=Ld.of hf x _ hx
 have Y:=Ld.of hf y _ hy
 obtain ⟨b,hb,u⟩:∃ b:Bool,(b=true→c=[])∧(execOp fr.eval o).run P w=.ok (.value (.bool b)) w:=by
  obtain⟨D,op,ty,G,after,guard⟩:=o
  simp only at f
  subst f
  generalize H:fr.eval x=xv at X
  generalize I:fr.eval y=yv at Y
  cases Y with | an=>?_
  have fin:∀(a:Option Addr) (len cap:Nat),(len≠0→a≠none)→xv=.slice a len cap→∃ b:Bool,(b=true→len=0∨a=none)∧(execOp fr.eval ⟨D,.binOp .eql t x y yt,ty,G,after,guard⟩).run P w=.ok (.value (.bool b)) w:=by
    intro a len cap _ e
    have:∃ b:Bool,(b=true→a=none)∧(Op.equalIn (9999+1) t (.slice a len cap) (.slice none 0 0)).run P w=.ok b w:=by
     cases a with
     | none=>exact⟨true,fun _=>rfl,HH hu⟩
     | some a=>exact⟨false,fun h=>by simp at h,uy hu⟩
    obtain⟨b,h1,h2⟩:=this
    refine⟨b,fun h=>.inr (h1 h),?_⟩
    have h2:(Op.equal t (.slice a len cap) (.slice none 0 0)).run P w=.ok b w:=h2
    have J:(eqGuard .eql t x y (.slice a len cap) (.slice none 0 0)).run P w=.ok () w:=by unfold eqGuard;split<;>simp
    subst e
    simp[execOp,Sem.run_bind,H,I,J,binOp,h2]
  cases X with
  | lit hr hs hb hcap hh=>
    obtain⟨b,h1,h2⟩:=fin _ _ _ (fun _=>by simp) rfl
    refine⟨b,fun e=>?_,h2⟩
    rcases h1 e with q | q
    · exact xq.1 q
    · simp at q
  | jZ=>
    obtain⟨b,_,h2⟩:=fin _ 0 _ (fun h=>absurd rfl h) rfl
    exact⟨b,fun _=>rfl,h2⟩
 obtain⟨Z,x2,x3,x4⟩:=F.iO o (.sc (.bool b)) all rest td
 have K:ct o.op=false:=by rw[f];rfl
 have L:=AQ (P:=P) (cs:=cs) (gQ (hf.runs hm) W d (lv hf hg) (.inr K)) u
 obtain⟨F2,S2,g2,w2,M,N,q', r1,r2,r3,r4,r5,r6,r7,r8⟩:=j b hb g w (fr.finish (.bool b)) B cs (hf.after W e2 d (.sc rfl)) (C.congr Z x4) hi
 exact⟨F2,S2,g2,w2,M,N,q', r1,r2,r3.trans Z,r4.trans x2,r5.trans x3,r6,r7,Steps.head L r8⟩
end
noncomputable section
def BZ (S:ag):List Nat→ag
 | []=>S
 | id::r=>(BZ S r).del id
theorem xx (S:ag):∀(l:List Nat) (id:Nat),(BZ S l).get id=if id∈l then none else S.get id:=by
 intro l
 induction l with
 | nil=>intro id;simp[BZ]
 | cons a l c=>
   intro id
   simp only[BZ]
   by_cases e:id=a
   · subst e;rw[ag.iK,if_pos (jq ..)]
   · rw[ag.dM (y7 _) e,c]
     simp_all
theorem QI (S:ag):∀ l,(BZ S l).nx=S.nx∧(BZ S l).lim=S.lim:=by
 intro l
 induction l with
 | nil=>exact⟨rfl,rfl⟩
 | cons a l c=>exact c
inductive lP (S : ag) (kp : List Nat) : AV → AV → Prop
 | pure {v : AV} (h : aV v = true) : lP S kp v v
 | an : lP S kp .an (.lit [])
 | fw : lP S kp .fw (.lit [])
 | ai {id len sz : Nat} {es es' : List AV} (hk : id ∉ kp) (hg : S.get id = some (.arr sz es)) (hl : len = es.length) (hs : es'.length = es.length)
  (hc : ∀ (i : Nat) (e e' : AV), es[i]? = some e → es'[i]? = some e' → e'.cells.length = e.cells.length)
  (h : ∀ (i j : Nat) (e e' a a' : AV), es[i]? = some e → es'[i]? = some e' → e.cells[j]? = some a → e'.cells[j]? = some a' → lP S kp a a') : lP S kp (.ai id 0 len) (.lit es')
 | Iu {id j o l : Nat} (h : kp[j]? = some id) : lP S kp (.ai id o l) (.ai j o l)
 | Iv {id j i c : Nat} (h : kp[j]? = some id) : lP S kp (.ptr id i c) (.ptr j i c)
 | Da {id j : Nat} (h : kp[j]? = some id) : lP S kp (.cR id) (.cR j)
 | Iw {id j : Nat} (h : kp[j]? = some id) : lP S kp (.sj id) (.sj j)
 | agg {cs cs' : List AV} (hl : cs'.length = cs.length) (h : ∀ (k : Nat) (a a' : AV), cs[k]? = some a → cs'[k]? = some a' → lP S kp a a') : lP S kp (.agg cs) (.agg cs')
 | bO {cs cs' : List AV} (hl : cs'.length = cs.length) (h : ∀ (k : Nat) (a a' : AV), cs[k]? = some a → cs'[k]? = some a' → lP S kp a a') : lP S kp (.bO cs) (.bO cs')
 | eB {t : TypeId} {v v' : AV} (h : lP S kp v v') : lP S kp (.eB t v) (.eB t v')
 | fn {f : Fn} {cs cs' ds ds' : List AV} (hl : cs'.length = cs.length) (h : ∀ (k : Nat) (a a' : AV), cs[k]? = some a → cs'[k]? = some a' → lP S kp a a')
  (hl2 : ds'.length = ds.length) (h2 : ∀ (k : Nat) (a a' : AV), ds[k]? = some a → ds'[k]? = some a' → lP S kp a a') : lP S kp (.fn f cs ds) (.fn f cs' ds')
inductive vy (S : ag) (kp : List Nat) : List AV → List AV → Prop
 | nil : vy S kp [] []
 | cons {e e' : AV} {l l' : List AV} (h : lP S kp e e') (t : vy S kp l l') : vy S kp (e :: l) (e' :: l')
variable {S : ag} {kp : List Nat} {l l' : List AV}
theorem vy.spec (h:vy S kp l l'):l'.length=l.length∧∀(i:Nat) (e a:AV),l[i]? = some e→l'[i]? = some a→lP S kp e a:=by
 induction h with
 | nil=>simp_all
 | cons h t c=>
   refine⟨by simp[c.1],fun i e a d j=>?_⟩
   cases i with
   | zero=>simp_all
   | succ i=>exact c.2 i e a (by simpa using d) (by simpa using j)
theorem lP.zF {e q:AV}(h:lP S kp e q):q.cells.length=e.cells.length∧∀(j:Nat) (a m:AV),e.cells[j]? = some a→q.cells[j]? = some m→lP S kp a m:=by
 have one:∀ {u n:AV},u.cells=[u]→n.cells=[n]→lP S kp u n→n.cells.length=u.cells.length∧∀(j:Nat) (a m:AV),u.cells[j]? = some a→n.cells[j]? = some m→lP S kp a m:=by
  intro u n h1 h2 hf
  rw[h1,h2]
  refine⟨rfl,fun j a m t p=>?_⟩
  cases j<;>simp_all
 cases h with
 | pure h=>exact⟨rfl,fun j a m t p=>by rw[t] at p;simp only[ba] at p;subst p;exact .pure (kB h t)⟩
 | an=>exact one rfl rfl .an
 | fw=>exact one rfl rfl .fw
 | ai a b c d e f=>exact one rfl rfl (.ai a b c d e f)
 | Iu h=>exact one rfl rfl (.Iu h)
 | Iv h=>exact one rfl rfl (.Iv h)
 | Da h=>exact one rfl rfl (.Da h)
 | Iw h=>exact one rfl rfl (.Iw h)
 | agg w h=>exact⟨w,h⟩
 | bO w h=>exact one rfl rfl (.bO w h)
 | eB h=>exact one rfl rfl (.eB h)
 | fn a b c d=>exact one rfl rfl (.fn a b c d)
variable {id : Nat}
theorem lP.ZD {j o l l' : Nat}(h:kp[j]? = some id)(a:l=l'):lP S kp (.ai id o l) (.ai j o l'):=by subst a;exact .Iu h
variable {len sz : Nat} {es es' : List AV}
theorem lP.zf (d:id∉kp)(m:S.get id=some (.arr sz es))(n:len=es.length)(h:vy S kp es es'):lP S kp (.ai id 0 len) (.lit es'):=
 .ai d m n h.spec.1 (fun i e c p q=>(h.spec.2 i e c p q).zF.1) (fun i j e c a t p q r s=>(h.spec.2 i e c p q).zF.2 j a t r s)
theorem lP.lT (c:id∉kp)(d:S.get id=some (.arr sz es))(h:len=es.length)(m:cG es=true):lP S kp (.ai id 0 len) (.lit es):=
 .ai c d h rfl (fun i e n p q=>by simp_all) (fun i j e n a t p q r s=>by
  rw[p] at q;simp only[ba] at q;subst q
  rw[r] at s;simp only[ba] at s;subst s
  exact .pure (kB (fO m p) r))
theorem lP.aak (h:vy S kp l l'):lP S kp (.agg l) (.agg l'):=.agg h.spec.1 h.spec.2
theorem lP.agt (h:vy S kp l l'):lP S kp (.bO l) (.bO l'):=.bO h.spec.1 h.spec.2
theorem lP.aug {f:Fn}{m a:List AV}(h:vy S kp l l')(k:vy S kp m a):lP S kp (.fn f l m) (.fn f l' a):=.fn h.spec.1 h.spec.2 k.spec.1 k.spec.2
theorem lP.aX {σ:Nat→Nat}(w:∀ a b,σ a=σ b→a=b){S B:ag}{kp:List Nat}(hs:EA σ S B){v v' : AV}(h:lP S kp v v'):lP B (kp.map σ) (v.aX σ) v' := by
 have key:∀ {l:List AV} {k:Nat} {a:AV},(eG σ l)[k]? = some a→∃ b,l[k]? = some b∧a=b.aX σ:=by
   intro l k a e
   rw[jb] at e
   cases hb:l[k]? <;> simp_all
 have t:∀ {j id:Nat},kp[j]? = some id→(kp.map σ)[j]? = some (σ id):=by simp_all
 induction h with
 | pure h=>rw[AV.dX h];exact .pure h
 | an=>rw[AV.aX];exact .an
 | fw=>rw[AV.aX];exact .fw
 | ai C D u y E h m=>
   rw[AV.aX]
   refine .ai (fun F=>?_) (hs.get _ _ D) (by rw[bm];exact u) (by rw[bm];exact y) (fun i e x p q=>?_) (fun i j e x a n p q r s=>?_)
   · obtain⟨b,hb,e⟩:=iB.1 F
     have:=w _ _ e
     subst this;exact C hb
   · obtain⟨b,d,rfl⟩:=key p
     rw[AV.gA,bm]
     exact E i b x d q
   · obtain⟨b,d,rfl⟩:=key p
     rw[AV.gA] at r
     obtain⟨c,G,rfl⟩:=key r
     exact m i j b x c n d q G s
 | Iu h=>rw[AV.aX];exact .Iu (t h)
 | Iv h=>rw[AV.aX];exact .Iv (t h)
 | Da h=>rw[AV.aX];exact .Da (t h)
 | Iw h=>rw[AV.aX];exact .Iw (t h)
 | agg u h m=>
   rw[AV.aX]
   refine .agg (by rw[bm];exact u) fun k a n p q=>?_
   obtain⟨b,d,rfl⟩:=key p
   exact m k b n d q
 | bO u h m=>
   rw[AV.aX]
   refine .bO (by rw[bm];exact u) fun k a n p q=>?_
   obtain⟨b,d,rfl⟩:=key p
   exact m k b n d q
 | eB h m=>rw[AV.aX];exact .eB m
 | fn u h z h2 m A=>
   rw[AV.aX]
   refine .fn (by rw[bm];exact u) (fun k a n p q=>?_) (by rw[bm];exact z) (fun k a n p q=>?_)
   · obtain⟨b,d,rfl⟩:=key p
     exact m k b n d q
   · obtain⟨b,d,rfl⟩:=key p
     exact A k b n d q
variable {g : Gh} {v v' : AV}
theorem lP.sound {U F:Gh}{w:World}(hi:Inv S g w)(V:Gh.frozen (BZ S kp) g w U)(W:F.ro=U.ro)(B:∀ j id,kp[j]? = some id→F.ph j=g.ph id)(h:lP S kp v v'):∀ {x:Value},VR g v x→VR F v' x:=by
 have K:Gh.le g.bare F:=⟨fun b c e=>by rw[W];exact V.1.ro b c e,fun _ _ e=>by simp[Gh.bare] at e⟩
 induction h with
 | pure h=>intro x n;exact(n.bare h).mono K
 | an=>intro x n;cases n;exact .jZ
 | fw=>intro x n;cases n;exact .jZ
 | ai L C u hs X h A=>
   intro x n
   cases n with
   | ai q y hb=>
     rename_i l
     obtain⟨l', I,q2,q3⟩:=hi.ob _ _ C
     rw[q] at I;simp only[ba] at I;subst I
     obtain⟨c,t,Y,p2,J,p4,Z,p6⟩:=q3
     have M:=V.2.2 _ _ l c t (0,0) (by rw[xx,if_neg L];exact C) q Y
     rename_i es es' cap
     subst u
     rw[←hs]
     have:VR F (.lit es') (.slice (some ⟨l.cU,l.base+0*l.sz,none⟩) es'.length cap):=by
       refine .lit (sz:=l.sz) (by rw[W];exact M) (fun e he=>?_) (by rw[hs,J];omega) (by rw[hs];exact y) (fun i j e a x p z e3=>?_)
       · obtain⟨k,B⟩:=gM he
         have m:k<es.length:=by rw[←hs];exact(lr.1 B).1
         have d:es[k]? = some es[k]:=qm m
         rw[X k _ e d B,J]
         exact Z _ (cM m)
       · have m:i<es.length:=by rw[←hs];exact(lr.1 p).1
         have d:es[i]? = some es[i]:=qm m
         have N:j<es[i].cells.length:=by rw[←X i _ e d p];exact(lr.1 z).1
         have G:es[i].cells[j]? = some es[i].cells[j]:=qm N
         exact A i j _ e _ a d p G z (p6 i j _ _ x d G (by rw[←J,←e3];congr 1;omega))
     exact this
   | hZ=>
     obtain rfl:=xq.1 (hs.trans u.symm)
     exact .jZ
 | Iu h=>
   intro x n
   cases n with
   | ai q y hb=>exact .ai (by rw[B _ _ h];exact q) y hb
   | hZ q hb=>exact .hZ (by rw[B _ _ h];exact q) hb
 | Iv h=>intro x n;cases n with | ptr q=>exact .ptr (by rw[B _ _ h];exact q)
 | Da h=>intro x n;cases n with | cR q=>exact .cR (by rw[B _ _ h];exact q)
 | Iw h=>intro x n;cases n with | sj q=>exact .sj (by rw[B _ _ h];exact q)
 | agg u h A=>
   intro x n
   cases n with
   | agg D hh=>
     refine .agg (by rw[u];exact D) fun k a x p z=>?_
     rename_i cs E xs
     have m:k<cs.length:=by rw[←u];exact(lr.1 p).1
     have d:cs[k]? = some cs[k]:=qm m
     exact A k _ a d p (hh k _ x d z)
 | bO u h A=>
   intro x n
   cases n with
   | bO D hh=>
     refine .bO (by rw[u];exact D) fun k a x p z=>?_
     rename_i cs E xs
     have m:k<cs.length:=by rw[←u];exact(lr.1 p).1
     have d:cs[k]? = some cs[k]:=qm m
     exact A k _ a d p (hh k _ x d z)
 | eB h A=>intro x n;cases n with | eB hh=>exact .eB (A hh)
 | fn u h H h2 A O=>
   intro x n
   cases n with
   | fn hx hy ha hb=>
     refine .fn (by rw[u];exact hx) (by rw[H];exact hy) (fun k a x p z=>?_) (fun k a x p z=>?_)
     · rename_i cs E ds R xs ys
       have m:k<cs.length:=by rw[←u];exact(lr.1 p).1
       have d:cs[k]? = some cs[k]:=qm m
       exact A k _ a d p (ha k _ x d z)
     · rename_i cs E ds R xs ys
       have m:k<ds.length:=by rw[←H];exact(lr.1 p).1
       have d:ds[k]? = some ds[k]:=qm m
       exact O k _ a d p (hb k _ x d z)
inductive uj (S : ag) (kp : List Nat) : aO → aO → Prop
 | arr {sz : Nat} {es es' : List AV} (hs : es'.length = es.length) (hc : ∀ (i : Nat) (e e' : AV), es[i]? = some e → es'[i]? = some e' → e'.cells.length = e.cells.length)
  (h : ∀ (i j : Nat) (e e' a a' : AV), es[i]? = some e → es'[i]? = some e' → e.cells[j]? = some a → e'.cells[j]? = some a' → lP S kp a a') : uj S kp (.arr sz es) (.arr sz es')
 | mp {kvs kvs' : List (AV × AV)} (hs : kvs'.length = kvs.length) (h : ∀ (i : Nat) (p p' : AV × AV), kvs[i]? = some p → kvs'[i]? = some p' → lP S kp p.1 p'.1 ∧ lP S kp p.2 p'.2) : uj S kp (.mp kvs) (.mp kvs')
 | df {o : Bool} : uj S kp (.df o) (.df o)
 | lp {st : LoopState} {pending : Option Code} {fn : FuncId} {n mask : Nat} {env env' : List (Nat × AV)} {params : List Tmp} {assign body : Code} (h : ∀ t v', lk env' t = some v' → ∃ v, lk env t = some v ∧ lP S kp v v') :
  uj S kp (.lp st pending fn n mask env params assign body) (.lp st pending fn n mask env' params assign body)
theorem uj.agu (h:vy S kp es es'):uj S kp (.arr sz es) (.arr sz es'):=
 .arr h.spec.1 (fun i e c p q=>(h.spec.2 i e c p q).zF.1) (fun i j e c a d p q r s=>(h.spec.2 i e c p q).zF.2 j a d r s)
theorem uj.alP (c:cG es=true):uj S kp (.arr sz es) (.arr sz es):=
 .arr rfl (fun i e d p q=>by simp_all) (fun i j e d a h p q r s=>by
  rw[p] at q;simp only[ba] at q;subst q
  rw[r] at s;simp only[ba] at s;subst s
  exact .pure (kB (fO c p) r))
def Qo (a:List (AV×AV)):Bool:=a.all fun p=>aV p.1&&aV p.2
theorem uj.asN {a:List (AV×AV)}(d:Qo a=true):uj S kp (.mp a) (.mp a):=
 .mp rfl fun i p h e c=>by
  rw[e] at c;simp only[ba] at c;subst c
  have:=dh.1 d p (uI e)
  simp only[aY] at this
  exact⟨.pure this.1,.pure this.2⟩
theorem uj.aX {σ:Nat→Nat}(d:∀ a b,σ a=σ b→a=b){S x:ag}{kp:List Nat}(hs:EA σ S x){o o' : aO}(h:uj S kp o o'):uj x (kp.map σ) (o.aX σ) o' := by
 have key:∀ {l:List AV} {k:Nat} {a:AV},(eG σ l)[k]? = some a→∃ b,l[k]? = some b∧a=b.aX σ:=by
   intro l k a e
   rw[jb] at e
   cases hb:l[k]? <;> simp_all
 cases h with
 | arr u z h=>
   refine .arr (by rw[bm];exact u) (fun i e m p q=>?_) (fun i j e m a A p q r s=>?_)
   · obtain⟨b,n,rfl⟩:=key p
     rw[AV.gA,bm]
     exact z i b m n q
   · obtain⟨b,n,rfl⟩:=key p
     rw[AV.gA] at r
     obtain⟨c,B,rfl⟩:=key r
     exact(h i j b m c A n q B s).aX d hs
 | mp u h=>
   refine .mp (by simpa using u) fun i p n e m=>?_
   rw[pw] at e
   rename_i w y
   cases hb:w[i]? with
   | none=>rw[hb] at e;simp at e
   | some b=>
     rw[hb] at e;simp at e;subst e
     have:=h i b n hb m
     exact⟨this.1.aX d hs,this.2.aX d hs⟩
 | df=>exact .df
 | lp h=>
   refine .lp fun t v' e=>?_
   obtain⟨v,C,D⟩:=h t v' e
   exact⟨v.aX σ,by rw[EM,C];rfl,D.aX d hs⟩
theorem uj.sound {S:ag}{kp:List Nat}{g G D:Gh}{w:World}(hi:Inv S g w)(z:Gh.frozen (BZ S kp) g w G)(A:D.ro=G.ro)(B:∀ j id,kp[j]? = some id→D.ph j=g.ph id){o o' : aO}(h:uj S kp o o'){l:Loc}{x:Option Obj}(C:wX g l x o):wX D l x o' := by
 cases h with
 | arr hs H h=>
   rename_i sz es es'
   obtain⟨c,t,h1,h2,h3,h4,I,E⟩:=C
   refine⟨c,t,h1,h2,h3,by rw[hs];exact h4,fun e K=>?_,fun i j e a y p q r=>?_⟩
   · obtain⟨i,hi⟩:=gM K
     have m:i<es.length:=by rw[←hs];exact(lr.1 hi).1
     have d:es[i]? = some es[i]:=qm m
     rw[H i _ e d hi]
     simp_all
   · have m:i<es.length:=by rw[←hs];exact(lr.1 p).1
     have d:es[i]? = some es[i]:=qm m
     have F:j<es[i].cells.length:=by rw[←H i _ e d p];exact(lr.1 q).1
     have u:es[i].cells[j]? = some es[i].cells[j]:=qm F
     exact(h i j _ e _ a d p u q).sound hi z A B (E i j _ _ y d u r)
 | mp hs h=>
   rename_i n J
   obtain⟨es,k,h1,h2,h3,h4⟩:=C
   refine⟨es,k,h1,by rw[hs];exact h2,fun i L e p q=>?_,h4⟩
   have m:i<n.length:=by rw[←hs];exact(lr.1 p).1
   have d:n[i]? = some n[i]:=qm m
   have a:=h i _ L d p
   have b:=h3 i _ e d q
   exact⟨a.1.sound hi z A B b.1,a.2.sound hi z A B b.2⟩
 | df=>exact C
 | lp h=>
   obtain⟨lo,h1,h2,h3,h4,I,E,M,N,O⟩:=C
   refine⟨lo,h1,h2,h3,h4,I,fun t v' e=>?_,M,N,O⟩
   obtain⟨v,R,U⟩:=h t v' e
   obtain⟨x,a,b⟩:=E t v R
   exact⟨x,a,U.sound hi z A B b⟩
def tz (ids:List Nat)(nx i:Nat):Nat:=
 match ids[i]? with
 | some a=>a
 | none=>nx+(i-ids.length)
def sr (S:ag):List (Nat×Option aO)→ag
 | []=>S
 | (id,some o)::r=>(sr S r).set id o
 | (id,none)::r=>(sr S r).del id
theorem A0 (S:ag):∀ l,(sr S l).nx=S.nx∧(sr S l).lim=S.lim:=by
 intro l
 induction l with
 | nil=>exact⟨rfl,rfl⟩
 | cons p l a=>obtain⟨id,o⟩:=p;cases o<;>exact a
theorem Dt {a:Nat}:∀ {l:List (Nat×Option aO)},(∀ p,p∈l→p.1≠a)→(sr S l).get a=S.get a:=by
 intro l
 induction l with
 | nil=>intro _;rfl
 | cons p l d=>
   intro h
   obtain⟨id,o⟩:=p
   have c:a≠id:=fun e=>h (id,o) (jq ..) e.symm
   cases o<;>simp_all[some,sr,ag.bt,y7,Ez,none,ag.dM]
theorem IT : ∀ {l:List (Nat×Option aO)},(l.map (·.1)).Nodup→∀ id o,(id,o)∈l→(sr S l).get id=o:=by
 intro l
 induction l with
 | nil=>simp_all
 | cons p l d=>
   intro c id o h
   obtain⟨k,x⟩:=p
   simp only[dH,rj] at c
   rcases cF.1 h with e | e
   · simp only[lR] at e;obtain⟨rfl,rfl⟩:=e
     cases o with
     | some o=>exact ag.cQ (y7 _)
     | none=>exact ag.iK ..
   · have a:id≠k:=by rintro rfl;simp_all
     cases x with
     | some x=>simp only[sr];rw[ag.bt (y7 _) a];exact d c.2 id o e
     | none=>simp only[sr];rw[ag.dM (y7 _) a];exact d c.2 id o e
def B0 (S:ag):List aO→ag
 | []=>S
 | o::r=>B0 (S.add o) r
theorem QJ : ∀(l:List aO) (S:ag),(B0 S l).nx=S.nx+l.length∧(B0 S l).lim=S.lim:=by
 intro l
 induction l with
 | nil=>intro S;exact⟨rfl,rfl⟩
 | cons o l c=>
   intro S
   obtain⟨a,b⟩:=c (S.add o)
   refine⟨?_,b⟩
   simp only[B0]
   rw[a]
   show S.nx+1+l.length=S.nx+(l.length+1)
   omega
theorem L7 : ∀(l:List aO) (S:ag) (a:Nat),(B0 S l).get a=if S.nx≤a∧a-S.nx<l.length then l[a-S.nx]? else S.get a:=by
 intro l
 induction l with
 | nil=>intro S a;simp[B0]
 | cons o l d=>
   intro S a
   simp only[B0]
   rw[d]
   have c:(S.add o).nx=S.nx+1:=rfl
   rw[c]
   by_cases h1:S.nx+1≤a∧a-(S.nx+1)<l.length
   · rw[if_pos h1,if_pos ⟨by omega,by simp;omega⟩]
     rw[show a-S.nx=(a-(S.nx+1))+1 from by omega]
     simp
   · rw[if_neg h1]
     by_cases h2:a=S.nx
     · simp_all[ag.ow]
     · rw[ag.eQ (y7 _) h2]
       rw[if_neg]
       rintro⟨h3,h4⟩
       simp only[lI] at h4
       exact h1 ⟨by omega,by omega⟩
@[reducible] def Re : Bool→AV→gL
 | true,v=>.ret v
 | false,v=>.wh [(v,false)]
theorem YD (σ:Nat→Nat)(b:Bool)(v:AV):(Re b v).aX σ=Re b (v.aX σ):=by cases b<;>rfl
variable {b : Bool}
theorem VP {a:Gh}{d:AV}{e:Ending}(h:N5 g (Re b v) e)(j:∀ x,VR g v x→VR a d x):N5 a (Re b d) e:=by
 cases b with
 | true=>cases e with
   | returned x=>exact j x h
   | panicked c=>exact h.elim
   | outgrown=>exact h.elim
 | false=>cases e with
   | returned x=>exact h.elim
   | panicked c=>
     have h:ia g [(v,false)] c:=h
     cases h with
     | cons hx t=>cases t with | nil=>exact .cons (j _ hx) .nil
   | outgrown=>exact h.elim
def Zl (b:Bool)(k:Nat)(v' : AV)(jz:List (Option aO))(add:List aO):gL→ag→Prop:=fun r S=>∃ v kp,r=Re b v∧kp.Nodup∧kp.length=k+add.length∧(∀ i,i<k→kp[i]? = some i)∧lP S kp v v' ∧
 (∀(i:Nat) (o' : aO),jz[i]? = some (some o')→∃ o,S.get i=some o∧uj S kp o o')∧∀(i:Nat) (o' : aO),add[i]? = some o' → ∃ id o,kp[k+i]? = some id∧S.get id=some o∧uj S kp o o'
abbrev RG := Zl true
variable {k : Nat} {jz : List (Option aO)} {add : List aO}
theorem ZE (q:jz.length=k):vq k (Zl b k v' jz add):=by
 rintro σ c d r S u ⟨v,kp,rfl,n,j,p,hf,hu,ha⟩ hs
 refine⟨v.aX σ,kp.map σ,YD σ b v,?_,by simpa using j,fun i hi=>?_,hf.aX c hs,fun i o' e=>?_,fun i o' e=>?_⟩
 · exact n.map σ fun a b h e=>h (c _ _ e)
 · simp_all
 · obtain⟨o,m,q2⟩:=hu i o' e
   have hi:i<k:=by rw[←q];exact(lr.1 e).1
   exact⟨o.aX σ,by have:=hs.get i o m;rwa [d i hi] at this,q2.aX c hs⟩
 · obtain⟨id,o,t,m,q2⟩:=ha i o' e
   exact⟨σ id,o.aX σ,by rw[pw,t];rfl,hs.get id o m,q2.aX c hs⟩
variable {P : Program} {f : FuncId} {args : List AV} {S0 : ag} {olds : List aO} {pad : List (Option aO)} {ids : List Nat}
theorem fY.agv {ι:Type}{R:ι→Prop}{jz:ι→List (Option aO)}{add:ι→List aO}{v' : ι→AV}(h:fY P f args S0 fun r S=>∃ c,R c∧Zl b k (v' c) (jz c) (add c) r S)(hko:k≤olds.length)(hpad:∀ o,o∈pad→o=none)(hpl:k+pad.length=olds.length)(h0:∀ i:Nat,S0.get i=olds[i]?)(h1:S0.nx=olds.length)(h2:S0.lim=0)(hl:∀ c,(jz c).length=k)(hlim:S.lim≤S.nx)(hi:ids.length=olds.length)(hn:ids.Nodup)(hS:∀(i a:Nat) (o:aO),ids[i]? = some a→olds[i]? = some o→S.get a=some (o.aX (tz ids S.nx))∧S.lim≤a) :
   fY P f (eG (tz ids S.nx) args) S fun r O=>∃ c,R c∧r=Re b ((v' c).aX (tz (ids.take k) S.nx))∧O=B0 (sr S (ids.zip ((jz c).map (Option.map (aO.aX (tz (ids.take k) S.nx)))++pad))) ((add c).map (aO.aX (tz (ids.take k) S.nx))):=by
 intro g2 w xs hx n
 obtain⟨σ,hσ⟩:∃ σ,σ=tz ids S.nx:=⟨_,rfl⟩
 obtain⟨τ,hτ⟩:∃ τ,τ=tz (ids.take k) S.nx:=⟨_,rfl⟩
 rw[←hσ] at hx hS
 rw[←hτ]
 have htk:(ids.take k).length=k:=by simp;omega
 obtain⟨g,hg⟩:∃ g:Gh,g={ ro:=g2.ro,ph:=fun id=>g2.ph (σ id) }:=⟨_,rfl⟩
 have C:j6 σ g g2:=by rw[hg];exact⟨rfl,fun _=>rfl⟩
 have F:∀(i a:Nat),ids[i]? = some a→σ i=a:=by intro i a e;rw[hσ];simp[tz,e]
 have hhigh0:∀ i:Nat,olds.length≤i→S.nx≤σ i:=by
   intro i e
   have:ids[i]? = none:=uv (by rw[hi];exact e)
   rw[hσ];simp only[tz,this];omega
 have tlow:∀(i a:Nat),i<k→ids[i]? = some a→τ i=a:=by
   intro i a U e
   have:(ids.take k)[i]? = some a:=by rw[sx,if_pos U];exact e
   rw[hτ];simp[tz,this]
 have hhigh:∀ i:Nat,k≤i→τ i=S.nx+(i-k):=by
   intro i e
   have:(ids.take k)[i]? = none:=uv (by rw[htk];exact e)
   rw[hτ];simp only[tz,this,htk]
 have K:∀(i:Nat) (o:aO),olds[i]? = some o→∃ a,ids[i]? = some a:=by
   intro i o e
   have:i<ids.length:=by rw[hi];exact(lr.1 e).1
   exact⟨_,qm this⟩
 have hinj:∀(i j a:Nat),ids[i]? = some a→ids[j]? = some a→i=j:=by
   intro i j a e E
   have I:=(lr.1 e).1
   exact(JC I hn).1 (e.trans E.symm)
 have V:∀(i a:Nat),ids[i]? = some a→∃ o,olds[i]? = some o∧S.get a=some (o.aX σ)∧S.lim≤a:=by
   intro i a e
   have m:i<olds.length:=by rw[←hi];exact(lr.1 e).1
   have ho:olds[i]? = some olds[i]:=qm m
   exact⟨_,ho,hS i a _ e ho⟩
 have idlt:∀(i a:Nat),ids[i]? = some a→a<S.nx:=by
   intro i a e
   obtain⟨o,_,q,_⟩:=V i a e
   exact n.lU q
 have hinv0:Inv S0 g w:=by
   refine⟨fun b c e=>n.ro b c (by rw[←C.ro];exact e),fun id o e=>?_,fun id M o o' l l' e E p p' q=>?_,fun id bE=>?_⟩
   · rw[h0] at e
     obtain⟨a,ha⟩:=K id o e
     obtain⟨A,q2⟩:=hS id a o ha e
     obtain⟨l,x,y,z⟩:=n.ob a _ A
     exact⟨l,by rw[C.ph,F id a ha];exact x,by rw[C.ro];exact y,z.iN C⟩
   · rw[h0] at e E
     obtain⟨a,ha⟩:=K id o e
     obtain⟨a', ha'⟩:=K M o' E
     have:=n.inj a a' _ _ l l' (hS id a o ha e).1 (hS M a' o' ha' E).1 (by rw[←F id a ha,←C.ph];exact p) (by rw[←F M a' ha', ←C.ph];exact p') q
     subst this
     exact hinj id M a ha ha'
   · rw[h1] at bE
     rw[C.ph]
     exact n.fresh _ (hhigh0 id bE)
 refine(h g w xs (hx.iN C) hinv0).mono fun e w' ⟨r,O,g', ⟨c,hc,v,kp,hr,hnd,hlen,hkl,hf,hupd,hadd⟩,hres,I,D⟩=>?_
 have hl:=hl c
 refine Exists.imp (fun r=>Exists.imp fun O=>Exists.imp fun g' (q:(_∧_)∧_)=>⟨⟨c,hc,q.1⟩,q.2⟩) ?_
 generalize v' c=v' at hf ⊢
 generalize jz c=jz at hl hupd ⊢
 generalize add c=add at hlen hadd ⊢
 clear hc h
 subst hr
 have hsub:ag.sub (BZ O kp) O:=⟨(QI O kp).1.symm,(QI O kp).2,fun id o e=>by rw[xx] at e;split at e<;>first | simp at e | exact e⟩
 have U:Inv (BZ O kp) g' w' := I.sub hsub
 have hfz:=Gh.jY U
 have G:∀ b c,(g'.freeze (BZ O kp) w').ro b=some c→g'.ro b=some c∨(∃ t fz,w'.heap[b]? = some (.cells c t fz))∧∃ id o l,(BZ O kp).get id=some o∧g'.ph id=some l∧l.cU=b:=by
   intro b c e
   simp only[Gh.freeze] at e
   split at e
   · rename_i c' hc;simp only[ba] at e;subst e;exact .inl hc
   · split at e
     · rename_i c' t fz hh
       split at e<;>simp only[ba,reduceCtorEq] at e
       rename_i hex
       subst e;exact .inr ⟨⟨t,fz,hh⟩,hex⟩
     · simp at e
 obtain⟨gf,hgf⟩:∃ gf,gf=g'.freeze (BZ O kp) w' := ⟨_,rfl⟩
 rw[←hgf] at hfz G
 obtain⟨gk,hgk⟩:∃ gk:Gh,gk={ ro:=gf.ro,ph:=fun j=>match kp[j]? with | some id=>g'.ph id | none=>none }:=⟨_,rfl⟩
 obtain⟨gn,J⟩:∃ gn:Gh,gn={ ro:=gf.ro,ph:=fun a=>if a<S.nx then g2.ph a else match kp[k+(a-S.nx)]? with | some id=>g'.ph id | none=>none }:=⟨_,rfl⟩
 have hkro:gk.ro=gf.ro:=by rw[hgk]
 have W:∀ j id,kp[j]? = some id→gk.ph j=g'.ph id:=by intro j id e;rw[hgk];simp only[e]
 have phOf:∀(i a:Nat),ids[i]? = some a→g'.ph i=g2.ph a:=by
   intro i a e
   have m:i<S0.nx:=by rw[h1,←hi];exact(lr.1 e).1
   rw[D.wY i m,C.ph,F i a e]
 have hren:j6 τ gk gn:=by
   refine⟨by rw[hgk,J],fun j=>?_⟩
   by_cases hj:j<k
   · have hja:ids[j]? = some ids[j]:=qm (by rw[hi];omega)
     rw[W j j (hkl j hj),tlow j _ hj hja,phOf j _ hja,J]
     simp only[idlt j _ hja,if_true]
   · rw[hhigh j (by omega),J,hgk]
     simp only[show ¬ (S.nx+(j-k)<S.nx) from by omega,if_false,show k+(S.nx+(j-k)-S.nx)=j from by omega]
 have B:∀ a,a<S.nx→gn.ph a=g2.ph a:=by intro a e;rw[J];simp only[e,if_true]
 have hro1:∀ b c,g2.ro b=some c→gn.ro b=some c:=by
   intro b c e;rw[J];exact hfz.1.ro b c (D.pc.ro b c (by rw[C.ro];exact e))
 have hgle:Gh.le g2 gn:=by
   refine⟨hro1,fun a l e=>?_⟩
   rcases jT a S.nx with q | q
   · rw[B a q];exact e
   · rw[n.fresh a q] at e;simp at e
 have other:∀ a o l,S.get a=some o→a∉ids→g2.ph a=some l→∀ id o', S0.get id=some o' → ∀ l', g.ph id=some l' → l'.cU≠l.cU:=by
   intro a o l e ha hl2 id o' E l' hl' heq
   rw[h0] at E
   obtain⟨b,hb⟩:=K id o' E
   have:=n.inj b a _ o l' l (hS id b o' hb E).1 e (by rw[←F id b hb,←C.ph];exact hl') hl2 heq
   subst this
   exact ha (uI hb)
 obtain⟨S2,hS2⟩:∃ S2,S2=B0 (sr S (ids.zip (jz.map (Option.map (aO.aX τ))++pad))) (add.map (aO.aX τ)):=⟨_,rfl⟩
 rw[←hS2]
 have hnx2:S2.nx=S.nx+add.length:=by rw[hS2,(QJ _ _).1,(A0 _ _).1];simp
 have hlim2:S2.lim=S.lim:=by rw[hS2,(QJ _ _).2,(A0 _ _).2]
 have hndz:((ids.zip (jz.map (Option.map (aO.aX τ))++pad)).map (·.1)).Nodup:=by
   rw[List.map_fst_zip (by simp;omega)];exact hn
 have Y:∀ a,a<S.nx→a∉ids→S2.get a=S.get a:=by
   intro a ha hna
   rw[hS2,L7,if_neg (by rw[(A0 _ _).1];omega)]
   exact Dt fun p hp=>by rintro rfl;exact hna (List.of_mem_zip hp).1
 have X:∀ a o,S2.get a=some o→(∃(j id:Nat) (o0 o' : aO),τ j=a∧kp[j]? = some id∧O.get id=some o0∧uj O kp o0 o' ∧ o=o'.aX τ)∨(a∉ids∧a<S.nx∧S.get a=some o):=by
   intro a o e
   rw[hS2,L7,(A0 _ _).1] at e
   split at e
   · rename_i hc
     rw[pw] at e
     cases hb:add[a-S.nx]? with
     | none=>rw[hb] at e;simp at e
     | some o' =>
       rw[hb] at e;simp at e
       obtain⟨id,o0,q0,A,q2⟩:=hadd _ o' hb
       exact .inl ⟨k+(a-S.nx),id,o0,o', by rw[hhigh _ (by omega)];omega,q0,A,q2,e.symm⟩
   · by_cases ha:a∈ids
     · obtain⟨i,hia⟩:=gM ha
       by_cases U:i<k
       · have m:i<jz.length:=by rw[hl];exact U
         have hno:jz[i]? = some jz[i]:=qm m
         have hm:(a,Option.map (aO.aX τ) jz[i])∈ids.zip (jz.map (Option.map (aO.aX τ))++pad):=uI (i:=i) (by
           rw[List.getElem?_zip_eq_some]
           exact⟨hia,by rw[B5 (by simpa using m),pw,hno];rfl⟩)
         rw[IT hndz _ _ hm] at e
         cases hu:jz[i] with
         | none=>rw[hu] at e;simp at e
         | some o' =>
           rw[hu] at e hno;simp at e
           obtain⟨o0,A,q2⟩:=hupd i o' hno
           exact .inl ⟨i,i,o0,o', tlow i a U hia,hkl i U,A,q2,e.symm⟩
       · have hil:i<ids.length:=(lr.1 hia).1
         have m:i-jz.length<pad.length:=by omega
         have hno:pad[i-jz.length]? = some pad[i-jz.length]:=qm m
         have hpn:=hpad _ (cM m)
         have hm:(a,(none:Option aO))∈ids.zip (jz.map (Option.map (aO.aX τ))++pad):=uI (i:=i) (by
           rw[List.getElem?_zip_eq_some]
           exact⟨hia,by rw[B6 (by simp;omega)];simp only[rf];rw[hno,hpn]⟩)
         rw[IT hndz _ _ hm] at e
         simp at e
     · rw[Dt (fun p hp=>by rintro rfl;exact ha (List.of_mem_zip hp).1)] at e
       exact .inr ⟨ha,n.lU e,e⟩
 have phK:∀(j id:Nat),kp[j]? = some id→gn.ph (τ j)=g'.ph id:=by intro j id e;rw[←hren.ph,W j id e]
 have noroK:∀(j id:Nat) (o0:aO) (l:Loc),kp[j]? = some id→O.get id=some o0→g'.ph id=some l→gf.ro l.cU=none:=by
   intro j id o0 l e e1 e2
   cases hr:gf.ro l.cU with
   | none=>rfl
   | some c=>
     exfalso
     obtain⟨l1,x,y,_⟩:=I.ob id o0 e1
     rw[e2] at x;simp only[ba] at x;subst x
     rcases G _ _ hr with q | ⟨_,id2,o2,l2,A,q2,q3⟩
     · rw[y] at q;simp at q
     · rw[xx] at A
       split at A
       · simp at A
       · rename_i hge
         have:=I.inj id2 id o2 o0 l2 l A e1 q2 e2 q3
         subst this
         exact hge (uI e)
 have noroB:∀ a o l,a∉ids→S.get a=some o→g2.ph a=some l→gf.ro l.cU=none:=by
   intro a o l ha E hl2
   cases hr:gf.ro l.cU with
   | none=>rfl
   | some c=>
     exfalso
     obtain⟨l1,x,y,z⟩:=n.ob a o E
     rw[hl2] at x;simp only[ba] at x;subst x
     have m:=z.lt
     rcases G _ _ hr with q | ⟨_,id,o2,l2,A,q2,q3⟩
     · rcases D.C2 _ _ q m with q | ⟨d,o0,L,H,f2,N,Z⟩
       · rw[C.ro,y] at q;simp at q
       · exact other a o l E ha hl2 d o0 H L N Z
     · rw[xx] at A
       split at A
       · simp at A
       · obtain⟨d,o0,L,H,f2,N,Z⟩:=D.own id o2 l2 A (by rw[h2];omega) q2 (by rw[q3];exact m)
         exact other a o l E ha hl2 d o0 H L N (Z.trans q3)
 have fin:∀ b d o0 L,S0.get d=some o0→g.ph d=some L→L.cU=b→∃ d o0 L,S.get d=some o0∧S.lim≤d∧g2.ph d=some L∧L.cU=b:=by
   intro b d o0 L H N Z
   rw[h0] at H
   obtain⟨a,ha⟩:=K d o0 H
   obtain⟨A,q2⟩:=hS d a o0 ha H
   exact⟨a,_,L,A,q2,by rw[←F d a ha,←C.ph];exact N,Z⟩
 refine⟨Re b (v'.aX τ),S2,gn,⟨rfl,rfl⟩,?_,⟨fun b c e=>?_,fun a o e=>?_,fun a a' o o' l l' e E p p' q=>?_,fun a ha=>?_⟩,⟨D.size,D.os,D.tape,D.output,fun b hb hne=>?_,fun a o l e1 e2 e3 e4=>?_,hgle,by rw[hnx2];omega,hlim2,fun a ha=>?_,fun a ha=>B a ha,fun b c e hb=>?_,fun a ha e=>?_,D.fz⟩⟩
 · exact VP hres fun x hx=>(lP.sound I hfz hkro W hf hx).aX hren
 · rw[J] at e
   rcases G b c e with q | ⟨q,_⟩
   · exact I.ro b c q
   · exact q
 · rcases X a o e with⟨j,id,o0,o', rfl,A,q2,q3,rfl⟩ | ⟨ha,m,E⟩
   · obtain⟨l,x,y,z⟩:=I.ob id o0 q2
     refine⟨l,by rw[phK j id A];exact x,?_,(q3.sound I hfz hkro W z).aX hren⟩
     have:=noroK j id o0 l A q2 x
     rw[J];exact this
   · obtain⟨l,x,y,z⟩:=n.ob a o E
     have hk' : w'.heap[l.cU]? = w.heap[l.cU]? := D.jr l.cU z.lt fun id o' l' H _ N=>other a o l E ha x id o' H l' N
     refine⟨l,by rw[B a m];exact x,?_,by rw[hk'];exact z.mono hgle⟩
     have:=noroB a o l ha E x
     rw[J];exact this
 · have mix:∀(j id:Nat) (o0:aO) (a:Nat) (o' : aO) (l l' : Loc),kp[j]? = some id→O.get id=some o0→g'.ph id=some l→a∉ids→S.get a=some o' → g2.ph a=some l' → l.cU=l'.cU→False:=by
     intro j id o0 a o' l l' A q2 q3 ha E hl' hb
     obtain⟨l1,x,y,z⟩:=n.ob a o' E
     rw[hl'] at x;simp only[ba] at x;subst x
     have m:=z.lt
     obtain⟨d,o1,L,H,f2,N,Z⟩:=D.own id o0 l q2 (by rw[h2];omega) q3 (by rw[hb];exact m)
     exact other a o' l' E ha hl' d o1 H L N (Z.trans hb)
   rcases X a o e with⟨j,id,o0,u,rfl,A,q2,q3,rfl⟩ | ⟨ha,m,e1⟩<;>rcases X a' o' E with⟨j', M,o0', u', rfl,r1,r2,r3,rfl⟩ | ⟨ha', hlt', e1'⟩
   · rw[phK j id A] at p
     rw[phK j' M r1] at p'
     have:=I.inj id M o0 o0' l l' q2 r2 p p' q
     subst this
     have hj:=(lr.1 A).1
     rw[(JC hj hnd).1 (A.trans r1.symm)]
   · exact(mix j id o0 a' o' l l' A q2 (by rw[←phK j id A];exact p) ha' e1' (by rw[←B a' hlt'];exact p') q).elim
   · exact(mix j' M o0' a o l' l r1 r2 (by rw[←phK j' M r1];exact p') ha e1 (by rw[←B a m];exact p) q.symm).elim
   · exact n.inj a a' o o' l l' e1 e1' (by rw[←B a m];exact p) (by rw[←B a' hlt'];exact p') q
 · rw[hnx2] at ha
   have:kp[k+(a-S.nx)]? = none:=uv (by rw[hlen];omega)
   rw[J]
   simp only[show ¬ (a<S.nx) from by omega,if_false,this]
 · refine D.jr b hb fun id o l H _ N=>?_
   rw[h0] at H
   obtain⟨a,ha⟩:=K id o H
   obtain⟨A,q2⟩:=hS id a o ha H
   exact hne a _ l A q2 (by rw[←F id a ha,←C.ph];exact N)
 · rcases X a o e1 with⟨j,id,o0,o', rfl,A,q2,q3,rfl⟩ | ⟨_,m,E⟩
   · rw[phK j id A] at e3
     obtain⟨d,o1,L,H,f2,N,Z⟩:=D.own id o0 l q2 (by rw[h2];omega) e3 e4
     exact fin _ d o1 L H N Z
   · exact⟨a,o,l,E,e2,by rw[←B a m];exact e3,rfl⟩
 · refine Y a (by omega) fun hm=>?_
   obtain⟨i,hi2⟩:=gM hm
   obtain⟨_,_,_,q⟩:=V i _ hi2
   omega
 · rw[J] at e
   rcases G b c e with q | ⟨_,id,o,l,A,q2,q3⟩
   · rcases D.C2 b c q hb with f | ⟨d,o0,L,H,f2,N,Z⟩
     · exact .inl (by rw[←C.ro];exact f)
     · exact .inr (fin _ d o0 L H N Z)
   · rw[xx] at A
     split at A
     · simp at A
     · obtain⟨d,o0,L,H,f2,N,Z⟩:=D.own id o l A (by rw[h2];omega) q2 (by rw[q3];exact hb)
       exact .inr (fin _ d o0 L H N (Z.trans q3))
 · refine(Y a ha fun hm=>?_).trans e
   obtain⟨i,hi2⟩:=gM hm
   obtain⟨o', _,q,_⟩:=V i _ hi2
   rw[e] at q;simp at q
theorem fY.gen (h:fY P f args S0 (Zl b k v' jz add))(e:k≤olds.length)(c:∀ o,o∈pad→o=none)(j:k+pad.length=olds.length)(m:∀ i:Nat,S0.get i=olds[i]?)(h1:S0.nx=olds.length)(h2:S0.lim=0)(n:jz.length=k)(d:S.lim≤S.nx)(hi:ids.length=olds.length)(p:ids.Nodup)(t:∀(i a:Nat) (o:aO),ids[i]? = some a→olds[i]? = some o→S.get a=some (o.aX (tz ids S.nx))∧S.lim≤a) :
  fY P f (eG (tz ids S.nx) args) S fun r u=>r=Re b (v'.aX (tz (ids.take k) S.nx))∧u=B0 (sr S (ids.zip (jz.map (Option.map (aO.aX (tz (ids.take k) S.nx)))++pad))) (add.map (aO.aX (tz (ids.take k) S.nx))):=
 (fY.agv (ι:=Unit) (R:=fun _=>True) (jz:=fun _=>jz) (add:=fun _=>add) (v' := fun _=>v') (h.mono fun _ _ q=>⟨(),trivial,q⟩) e c j m h1 h2 (fun _=>n) d hi p t).mono fun _ _ ⟨_,_,a,b⟩=>⟨a,b⟩
def zr (k m:Nat)(kp:List Nat):Bool:=kp.Nodup&&Nat.beq kp.length (k+m)&&(List.range k).all fun i=>kp[i]? == some i
def kz (S:ag)(kp:List Nat):Nat→List (Option aO)→Prop
 | _,[]=>True
 | i,none::r=>kz S kp (i+1) r
 | i,some o' :: r=>(∃ o,S.get i=some o∧uj S kp o o')∧kz S kp (i+1) r
def pj (S:ag)(kp:List Nat):List Nat→List aO→Prop
 | _,[]=>True
 | [],_::_=>False
 | id::r,o' :: l=>(∃ o,S.get id=some o∧uj S kp o o')∧pj S kp r l
variable {i : Nat}
theorem iA : kz S kp i []:=trivial
variable {r : List (Option aO)}
theorem je (h:kz S kp (i+1) r):kz S kp i (none::r):=h
variable {o o' : aO}
theorem Gf (e:S.get i=some o)(f:uj S kp o o')(h:kz S kp (i+1) r):kz S kp i (some o' :: r):=⟨⟨o,e,f⟩,h⟩
theorem gP {l:List Nat}:pj S kp l []:=by cases l<;>trivial
theorem Pp {l:List Nat}{r:List aO}(e:S.get id=some o)(f:uj S kp o o')(h:pj S kp l r):pj S kp (id::l) (o' :: r):=⟨⟨o,e,f⟩,h⟩
theorem vP : ∀ {l:List (Option aO)} {i:Nat},kz S kp i l→∀(j:Nat) (o' : aO),l[j]? = some (some o')→∃ o,S.get (i+j)=some o∧uj S kp o o' := by
 intro l
 induction l with
 | nil=>simp_all
 | cons a l c=>
   intro i h j o' e
   cases j with
   | zero=>simp at e;subst e;exact h.1
   | succ j=>
     have d:kz S kp (i+1) l:=by cases a<;>first | exact h | exact h.2
     have:=c d j o' (by simpa using e)
     rw[show i+1+j=i+(j+1) from by omega] at this
     exact this
theorem vQ : ∀ {l:List aO} {ids:List Nat},pj S kp ids l→∀(j:Nat) (o' : aO),l[j]? = some o' → ∃ id o,ids[j]? = some id∧S.get id=some o∧uj S kp o o' := by
 intro l
 induction l with
 | nil=>simp_all
 | cons a l c=>
   intro ids h j o' e
   cases ids with
   | nil=>exact h.elim
   | cons id r=>
     cases j with
     | zero=>simp at e;subst e;obtain⟨o,p,q⟩:=h.1;simp_all
     | succ j=>
       obtain⟨d,o,p,q⟩:=c h.2 j o' (by simpa using e)
       simp_all
def xg (S:ag):List Nat→List aO→Prop
 | a::r,o::l=>(S.get a=some o∧Nat.ble S.lim a=true)∧xg S r l
 | [],[]=>True
 | _,_=>False
theorem Gg : ∀ {ids:List Nat} {l:List aO},xg S ids l→ids.length=l.length∧∀(i a:Nat) (o:aO),ids[i]? = some a→l[i]? = some o→S.get a=some o∧S.lim≤a:=by
 intro ids
 induction ids with
 | nil=>
   intro l h
   cases l with
   | nil=>simp_all
   | cons x l=>exact h.elim
 | cons b r d=>
   intro l h
   cases l with
   | nil=>exact h.elim
   | cons x l=>
     obtain⟨p,q⟩:=d h.2
     refine⟨by simp[p],fun i a o e c=>?_⟩
     cases i with
     | zero=>simp at e c;subst e;subst c;exact⟨h.1.1,gb h.1.2⟩
     | succ i=>exact q i a o (by simpa using e) (by simpa using c)
section
variable {T : FT} {P : Program} {Q : gL → ag → Prop}
variable {s : St}
theorem aev (E:cX T P)(n:Nat)(kp:List Nat)(h:wS (ab T P n s)=some v)(a:zr k add.length kp=true)(hf:lP (BT (ab T P n s)) kp v v')(hu:kz (BT (ab T P n s)) kp 0 jz)(ha:pj (BT (ab T P n s)) kp (kp.drop k) add):SX P (RG k v' jz add) s:=by
 refine⟨cO E.ok E.mix n ?_⟩
 generalize ab T P n s=s at h hf hu ha
 unfold wS at h
 split at h<;>simp only[ba,reduceCtorEq] at h
 subst h
 simp only[zr,aY,decide_eq_true_eq,dh,List.mem_range,beq_iff_eq] at a
 obtain⟨⟨k1,k2⟩,k3⟩:=a
 refine⟨_,kp,rfl,k1,np k2,k3,hf,fun i o' e=>?_,fun i o' e=>?_⟩
 · have:=vP hu i o' e
   rwa [uu] at this
 · obtain⟨id,o,p,q⟩:=vQ ha i o' e
   exact⟨id,o,by simp_all,q⟩
def W6 : St→Option AV
 | .done (.wh [(v,false)]) _=>some v
 | _=>none
theorem aew (E:cX T P)(n:Nat)(kp:List Nat)(h:W6 (ab T P n s)=some v)(a:zr k add.length kp=true)(hf:lP (BT (ab T P n s)) kp v v')(hu:kz (BT (ab T P n s)) kp 0 jz)(ha:pj (BT (ab T P n s)) kp (kp.drop k) add):SX P (Zl false k v' jz add) s:=by
 refine⟨cO E.ok E.mix n ?_⟩
 generalize ab T P n s=s at h hf hu ha
 unfold W6 at h
 split at h<;>simp only[ba,reduceCtorEq] at h
 subst h
 simp only[zr,aY,decide_eq_true_eq,dh,List.mem_range,beq_iff_eq] at a
 obtain⟨⟨k1,k2⟩,k3⟩:=a
 refine⟨_,kp,rfl,k1,np k2,k3,hf,fun i o' e=>?_,fun i o' e=>?_⟩
 · have:=vP hu i o' e
   rwa [uu] at this
 · obtain⟨id,o,p,q⟩:=vQ ha i o' e
   exact⟨id,o,by simp_all,q⟩
theorem aex (E:cX T P){f:Nat}{c:List AV}{d:List aO}{j:List (Option aO)}{m:List aO}(pad:List (Option aO))(h:SX P (Zl b k v jz add) (St.start T f args (pg olds.length (nr 0 olds))))(u:jz.length=k)(w:Nat.ble k olds.length=true)(q:pad.all Option.isNone=true)(t:k+pad.length=olds.length)(S:ag)(ids:List Nat)(n:Nat.ble S.lim S.nx=true)(y:ids.Nodup)(z:xg S ids d)(p:olds.map (aO.aX (tz ids S.nx))=d)(ha:eG (tz ids S.nx) args=c)(A:v.aX (tz (ids.take k) S.nx)=v')(hu:jz.map (Option.map (aO.aX (tz (ids.take k) S.nx)))++pad=j)(B:add.map (aO.aX (tz (ids.take k) S.nx))=m) :
   fY P f c S fun r C=>r=Re b v' ∧ C=B0 (sr S (ids.zip j)) m:=by
 subst p;subst ha;subst A;subst hu;subst B
 obtain⟨a,b⟩:=Gg z
 refine fY.gen (Cm E.ok h.out) (gb w) (fun o p=>?_) t (QG olds) rfl rfl u (gb n) (by simpa using a) y fun i x o e D=>?_
 · have:=dh.1 q o p
   simp_all
 · exact b i x _ e (by simp_all)
end
end
end Go.Eng
